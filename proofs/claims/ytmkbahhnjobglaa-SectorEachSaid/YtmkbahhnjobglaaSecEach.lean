/-
  THE WALK of SectorEach.
-/
import Derived.Test.YtmkbahhnjobglaaSecSure
namespace Go.Proofs.Ytmkbahhnjobglaa
open Go.RowKit
set_option linter.unusedSimpArgs false
set_option linter.unusedVariables false
/-- what each sector may have -/
structure MayB (w : World) (base : Nat) (v : Value) (n : Nat) (ms : Nat → List (List UInt8)) (vs : List Value) : Prop where
  len : vs.length = n
  row : w.ownsRow base 31 1 v n vs
  elt : ∀ i (h : i < vs.length), w.ownsRow base 9 1 vs[i] (ms i).length ((ms i).map strV)
  dis : ∀ i j (hi : i < vs.length) (hj : j < vs.length), i ≠ j → ∀ b, vs[i].ownBlock = some b → vs[j].ownBlock ≠ some b
def MayFree (v : Value) (vs : List Value) (F : Nat → Prop) : Prop := (∀ b, v.ownBlock = some b → ¬ F b) ∧ ∀ i (h : i < vs.length) b, vs[i].ownBlock = some b → ¬ F b
theorem MayB.chg {w w' : World} {base n : Nat} {v : Value} {ms : Nat → List (List UInt8)} {vs : List Value} {F : Nat → Prop} (h : MayB w base v n ms vs) (hc : Chg F w w') (hf : MayFree v vs F) : MayB w' base v n ms vs :=
  { h with row := ownsRow_chg h.row hc hf.1, elt := fun i hi => ownsRow_chg (h.elt i hi) hc (hf.2 i hi) }
theorem MayB.no {w w' : World} {base n : Nat} {v : Value} {ms : Nat → List (List UInt8)} {vs : List Value} (h : MayB w base v n ms vs) (hc : Chg NoB w w') : MayB w' base v n ms vs := h.chg hc ⟨fun _ _ h => h, fun _ _ _ _ h => h⟩
theorem MayFree.grow {w : World} {base n : Nat} {v : Value} {ms : Nat → List (List UInt8)} {vs : List Value} {F F' : Nat → Prop} (h : MayFree v vs F) (hm : MayB w base v n ms vs) (hg : ∀ i, F' i → F i ∨ w.heap.size ≤ i) : MayFree v vs F' :=
  ⟨fun b e hb => (hg b hb).elim (h.1 b e) (fun h2 => by have := (hm.row.lt b e).2; omega), fun i hi b e hb => (hg b hb).elim (h.2 i hi b e) (fun h2 => by have := ((hm.elt i hi).lt b e).2; omega)⟩
theorem MayB.nil_ (w : World) (base : Nat) (ms : Nat → List (List UInt8)) : MayB w base (.slice none 0 0) 0 ms [] :=
  ⟨rfl, World.ownsRow_nil _ _ _ _, fun i h => by simp at h, fun i j hi => by simp at hi⟩
/-- one more sector -/
theorem MayB.snoc {w w1 w' : World} {base n r : Nat} {v v' : Value} {ms : Nat → List (List UInt8)} {vs : List Value} {u : Value} (h : MayB w base v n ms vs) (h1 : Chg NoB w w1) (hr : w.heap.size ≤ r) (hu : u.ownBlock = some r) (hown : w1.ownsRow base 9 1 u (ms n).length ((ms n).map strV))
    (hg : w1.grownBy w' v.ownBlock) (ho : w'.ownsRow base 31 1 v' (n + 1) (vs ++ [u])) : MayB w' base v' (n + 1) ms (vs ++ [u]) := by
  have hc : Chg (fun i => v.ownBlock = some i) w1 w' := (Chg.refl _ _).grown hg (fun j e => .inl e)
  have hne : ∀ (x : Value) (xs : List Value) (k : Nat), w1.ownsRow base 9 1 x k xs → ∀ b, x.ownBlock = some b → ¬ (v.ownBlock = some b) := by
    intro x xs k hx b e e2
    have hvr := ownsRow_chg h.row h1 (fun _ _ h => h)
    rcases hx.2 with ⟨rfl, _⟩ | ⟨g, cap, cur, rfl, hb, hgg, _⟩
    · cases e
    · have e3 : g = b := by simpa [Value.ownBlock] using e
      subst e3
      exact own_ne hvr (show Blk w1 g 9 cur from hgg) (by decide) e2
  refine ⟨by simp [h.len], ho, fun i hi => ?_, fun i j hi hj hij b e e2 => ?_⟩
  · by_cases hin : i < vs.length
    · rw [List.getElem_append_left hin]
      exact ownsRow_chg (ownsRow_chg (h.elt i hin) h1 (fun _ _ h => h)) hc (hne _ _ _ (ownsRow_chg (h.elt i hin) h1 (fun _ _ h => h)))
    · have hin2 : i = n := by simp at hi; have := h.len; omega
      subst hin2
      rw [List.getElem_append_right (by omega)]
      simp only [List.getElem_singleton]
      exact ownsRow_chg hown hc (hne _ _ _ hown)
  · by_cases hin : i < vs.length <;> by_cases hjn : j < vs.length
    · rw [List.getElem_append_left hin] at e
      rw [List.getElem_append_left hjn] at e2
      exact h.dis i j hin hjn hij b e e2
    · rw [List.getElem_append_left hin] at e
      rw [List.getElem_append_right (by omega)] at e2
      simp only [List.getElem_singleton] at e2
      rw [hu] at e2; injection e2 with e2
      have := ((h.elt i hin).lt b e).2
      omega
    · rw [List.getElem_append_right (by omega)] at e
      simp only [List.getElem_singleton] at e
      rw [List.getElem_append_left hjn] at e2
      rw [hu] at e; injection e with e
      have := ((h.elt j hjn).lt b e2).2
      omega
    · simp at hi hj; have := h.len; omega
theorem sl_info : (Try.prog.info? 31).map (fun i => (i.zero, i.size, i.bytes)) = some (some (.slice none 0 0), 1, 24) := by kernel_rfl
theorem sl_full : ∃ i, Try.prog.info? 31 = some i ∧ i.zero = some (.slice none 0 0) ∧ i.size = 1 ∧ i.bytes = 24 := by
  have h := sl_info
  cases hi : Try.prog.info? 31 with
  | none => rw [hi] at h; cases h
  | some i => rw [hi] at h; simp at h; exact ⟨i, rfl, h.1, h.2.1, h.2.2⟩
theorem made_u8 (N : Nat) : madeCells #[.int .u8 0] (N * 1) = Array.replicate N (.int .u8 0) := by
  apply Array.ext <;> simp [madeCells, Nat.mod_one]
theorem rep_cells (N : Nat) : ((List.replicate N (0 : UInt8)).map bv).toArray = Array.replicate N (.int .u8 0) := by
  rw [List.map_replicate]; exact List.toArray_replicate _ _
theorem zeros_cells : blkC zeros = Array.replicate 512 (.int .u8 0) := rep_cells 512
theorem make_zeros (w : World) : (Instr.makeSlice 30 (.int .i64 512) (.int .i64 512)).run Try.prog w = .ok (.slice (some ⟨w.heap.size, 0, none⟩) 512 512) (w.alloc (.cells (blkC zeros) 5)) := by
  obtain ⟨i, hi, hz, hs, hb⟩ := byte_full
  have h := run_makeSlice w 30 5 i _ Try.underlying30 hi hz .i64 .i64 512 512 (by omega) (by omega) (by rw [hs]; omega) (by rw [hb]; omega) (by omega)
  rw [h, hs]
  have hv : (Value.int .u8 0).cells = #[.int .u8 0] := rfl
  rw [hv, made_u8, zeros_cells]
  rfl
/-- writes alone -/
structure WOk (K : Dk) (nn m : Nat) (ms : Nat → List (List UInt8)) : Prop where
  n : K.n = (nn : Int)
  sure : K.sure = zF
  fuse : K.fuse = -1
  dark : K.dark = false
  loose : K.loose.length ≤ m
  zero : ∀ i, zeros ∈ ms i
  put : ∀ p ∈ K.loose, ∃ i : Nat, p.1 = (i : Int) ∧ p.2 ∈ ms i
  len : ∀ i, ∀ y ∈ ms i, y.length = 512
def addMs (ms : Nat → List (List UInt8)) (i : Nat) (l : List UInt8) : Nat → List (List UInt8) := fun q => if q = i then ms q ++ [l] else ms q
theorem WOk.new_ (nn : Nat) (ms : Nat → List (List UInt8)) (h : ∀ i, zeros ∈ ms i) (h2 : ∀ i, ∀ y ∈ ms i, y.length = 512) : WOk (Dk.new (nn : Int)) nn 0 ms := ⟨rfl, rfl, rfl, rfl, Nat.zero_le _, h, fun p hp => (by cases hp), h2⟩
theorem WOk.more {K : Dk} {nn m m' : Nat} {ms : Nat → List (List UInt8)} (h : WOk K nn m ms) (hm : m ≤ m') : WOk K nn m' ms := { h with loose := Nat.le_trans h.loose hm }
theorem WOk.bad {K : Dk} {nn m : Nat} {ms : Nat → List (List UInt8)} (h : WOk K nn m ms) {i : Int} {l : List UInt8} (hb : wBad K i l) : writeE K i l = 2 ∧ K.write i l = K := ⟨if_pos hb, if_pos (.inl hb)⟩
theorem WOk.good {K : Dk} {nn m : Nat} {ms : Nat → List (List UInt8)} (h : WOk K nn m ms) {ii : Nat} {l : List UInt8} (hb : ¬ wBad K (ii : Int) l) : writeE K (ii : Int) l = 0 ∧ WOk (K.write (ii : Int) l) nn (m + 1) (addMs ms ii l) := by
  have hd : ¬ K.dark = true := by rw [h.dark]; decide
  have hf : ¬ K.fuse = 0 := by rw [h.fuse]; decide
  refine ⟨by unfold writeE; rw [if_neg hb, if_neg hd, if_neg hf], ?_⟩
  have hw : K.write (ii : Int) l = K.wrote (ii : Int) l := by unfold Dk.write; rw [if_neg (fun h => h.elim hb hd)]
  rw [hw]
  refine ⟨h.n, h.sure, ?_, ?_, ?_, fun i => ?_, fun p hp => ?_, fun i y hy => ?_⟩
  · show (if 0 < K.fuse then K.fuse - 1 else K.fuse) = -1
    rw [h.fuse]; rfl
  · show (K.dark || K.fuse == 0) = false
    rw [h.fuse, h.dark]; rfl
  · show (K.loose ++ [((ii : Int), l)]).length ≤ m + 1
    have := h.loose
    simp; omega
  · unfold addMs; split
    · exact List.mem_append_left _ (h.zero i)
    · exact h.zero i
  · have hp : p ∈ K.loose ++ [((ii : Int), l)] := hp
    rcases List.mem_append.1 hp with hp | hp
    · obtain ⟨i, e, hm⟩ := h.put p hp
      refine ⟨i, e, ?_⟩
      unfold addMs; split
      · exact List.mem_append_left _ hm
      · exact hm
    · simp at hp; subst hp
      exact ⟨ii, rfl, by unfold addMs; rw [if_pos rfl]; simp⟩
  · have hl : l.length = 512 := by unfold wBad at hb; omega
    unfold addMs at hy; split at hy
    · rcases List.mem_append.1 hy with hy | hy
      · exact h.len i y hy
      · simp at hy; subst hy; exact hl
    · exact h.len i y hy
/-- one more content of a sector, behind its row in place or in a new row, and the row's slice laid down -/
theorem MayB.append {w0 wa wb : World} {base n ii gm c : Nat} {ms : Nat → List (List UInt8)} {vs : List Value} {v' : Value} {l : List UInt8} (h : MayB w0 base (.slice (some ⟨gm, 0, none⟩) n c) n ms vs) (hi : ii < vs.length) (ha : Chg NoB w0 wa) (hg : wa.grownBy wb vs[ii].ownBlock)
    (ho : wb.ownsRow base 9 1 v' ((ms ii).length + 1) ((ms ii).map strV ++ [strV l])) (hv : v'.ownBlock = vs[ii].ownBlock ∨ v'.ownBlock = some wa.heap.size) :
    MayB (wb.setCell ⟨gm, ii, none⟩ v') base (.slice (some ⟨gm, 0, none⟩) n c) n (addMs ms ii l) (vs.set ii v') ∧ Chg (fun b => b = gm ∨ vs[ii].ownBlock = some b) w0 (wb.setCell ⟨gm, ii, none⟩ v') ∧ (∀ b, v'.ownBlock = some b → vs[ii].ownBlock = some b ∨ w0.heap.size ≤ b) := by
  have hma := h.no ha
  have hcb : Chg (fun b => vs[ii].ownBlock = some b) wa wb := (Chg.refl _ _).grown hg (fun r e => .inl e)
  have hgm : gm < w0.heap.size := (h.row.lt gm rfl).2
  have hnv : ¬ vs[ii].ownBlock = some gm := by
    rcases hma.row.2 with ⟨hv, _⟩ | ⟨g2, cap, cur, hv2, hb2, hg2, _⟩
    · cases hv
    · injection hv2 with hv2 _ _; injection hv2 with hv2; injection hv2 with hv2; subst hv2
      exact own_ne (hma.elt ii hi) (show Blk wa gm 31 cur from hg2) (by decide)
  have hrow : wb.ownsRow base 31 1 (.slice (some ⟨gm, 0, none⟩) n c) n vs := ownsRow_chg hma.row hcb (fun r e e2 => hnv (by rw [e2]; exact e.symm))
  have hvnew : ∀ b, v'.ownBlock = some b → vs[ii].ownBlock = some b ∨ w0.heap.size ≤ b := fun b e => by
    rcases hv with hv | hv
    · exact .inl (by rw [← hv]; exact e)
    · rw [hv] at e; injection e with e; exact .inr (by have := ha.size; omega)
  have helt : ∀ q (hq : q < vs.length), q ≠ ii → wb.ownsRow base 9 1 vs[q] (ms q).length ((ms q).map strV) := fun q hq hne =>
    ownsRow_chg (hma.elt q hq) hcb (fun b e e2 => h.dis ii q hi hq (fun h => hne h.symm) b e2 e)
  have hgb : ∀ (x : Value) (m : Nat) (xs : List Value), wb.ownsRow base 9 1 x m xs → ∀ b, x.ownBlock = some b → b ≠ gm := by
    intro x m xs hx b e e2
    subst e2
    rcases hrow.2 with ⟨hv, _⟩ | ⟨g2, cap, cur, hv2, hb2, hg2, _⟩
    · cases hv
    · injection hv2 with hv2 _ _; injection hv2 with hv2; injection hv2 with hv2; subst hv2
      exact own_ne hx (show Blk wb _ 31 cur from hg2) (by decide) e
  have hcs : Chg (OneB gm) wb (wb.setCell ⟨gm, ii, none⟩ v') := (Chg.refl (OneB gm) wb).setCell (p := ⟨gm, ii, none⟩) (.inl rfl) _
  refine ⟨⟨by simp [h.len], ?_, fun q hq => ?_, fun q r hq hr hqr b e e2 => ?_⟩, ?_, hvnew⟩
  · refine ⟨by simp [h.len], ?_⟩
    rcases hrow.2 with ⟨hv, _⟩ | ⟨g2, cap, cur, hv2, hb2, hg2, hnc, hmx, hsz, ht⟩
    · cases hv
    · injection hv2 with hv2 hv3 hv4; injection hv2 with hv2; injection hv2 with hv2; subst hv2; subst hv4
      refine .inr ⟨gm, c, cur.setIfInBounds ii v', rfl, hb2, (show Blk wb gm 31 cur from hg2).set_ ii v', hnc, hmx, by simp [hsz], ?_⟩
      rw [Array.toList_setIfInBounds, List.take_set, ht]
  · rw [List.getElem_set]
    by_cases hqi : ii = q
    · subst hqi
      rw [if_pos rfl]
      have e : addMs ms ii l ii = ms ii ++ [l] := by unfold addMs; rw [if_pos rfl]
      rw [e, List.length_append, List.map_append]
      exact ownsRow_chg ho hcs (fun b e => hgb _ _ _ ho b e)
    · rw [if_neg hqi]
      have e : addMs ms ii l q = ms q := by unfold addMs; rw [if_neg (fun h => hqi h.symm)]
      rw [e]
      have hx := helt q (by simpa using hq) (fun h => hqi h.symm)
      exact ownsRow_chg hx hcs (fun b e => hgb _ _ _ hx b e)
  · rw [List.getElem_set] at e e2
    by_cases hqi : ii = q
    · rw [if_pos hqi] at e
      rw [if_neg (fun h => hqr (hqi.symm.trans h))] at e2
      rcases hvnew b e with h3 | h3
      · exact h.dis ii r hi (by simpa using hr) (fun h => hqr (hqi.symm.trans h)) b h3 e2
      · have := ((h.elt r (by simpa using hr)).lt b e2).2; omega
    · rw [if_neg hqi] at e
      by_cases hri : ii = r
      · rw [if_pos hri] at e2
        rcases hvnew b e2 with h3 | h3
        · exact h.dis ii q hi (by simpa using hq) hqi b h3 e
        · have := ((h.elt q (by simpa using hq)).lt b e).2; omega
      · rw [if_neg hri] at e2
        exact h.dis q r (by simpa using hq) (by simpa using hr) hqr b e e2
  · exact (((Chg.refl (fun b => b = gm ∨ vs[ii].ownBlock = some b) w0).trans ha (fun _ _ h => h.elim)).trans hcb (fun b _ h => .inr h)).trans hcs (fun b _ h => .inl h)
/-- behind a crash: each byte is one of what the sector may have; the first sector is whole -/
def ByteOf (ls : List (List UInt8)) (x : List UInt8) : Prop := ∀ q (h : q < x.length), ∃ y ∈ ls, y[q]? = x[q]?
theorem byteOf_mem {ls : List (List UInt8)} {x : List UInt8} (h : x ∈ ls) : ByteOf ls x := fun q hq => ⟨x, h, rfl⟩
theorem byteOf_cut {ls : List (List UInt8)} {x y : List UInt8} (hx : x ∈ ls) (hy : ByteOf ls y) (hxl : x.length = 512) (hyl : y.length = 512) (n : Nat) : ByteOf ls (x.take n ++ y.drop n) := fun q hq => by
  by_cases hqn : q < n
  · by_cases hq2 : q < 512
    · exact ⟨x, hx, by rw [List.getElem?_append_left (by simp; omega), List.getElem?_take, if_pos hqn]⟩
    · simp at hq; omega
  · have hq3 : q < 512 := by simp at hq; omega
    obtain ⟨z, hz, he⟩ := hy q (by omega)
    refine ⟨z, hz, ?_⟩
    have hmin : (x.take n).length = min n 512 := by simp [hxl]
    rw [List.getElem?_append_right (by omega), List.getElem?_drop, he]
    congr 1; omega
theorem crash_bytes {ks : List Int} {ms : Nat → List (List UInt8)} : ∀ (ps : List (Int × List UInt8)) (f : Int → List UInt8) (k : Nat), (∀ i, (f i).length = 512) → (∀ p ∈ ps, p.2.length = 512) → (∀ p ∈ ps, ∃ i : Nat, p.1 = (i : Int) ∧ p.2 ∈ ms i) →
    (∀ i : Nat, ByteOf (ms i) (f i)) → f 0 ∈ ms 0 →
    (∀ i : Nat, ByteOf (ms i) ((ps.zipIdx k).foldl (fun f x => torn f x.1 (cOf true ks x.2)) f i)) ∧ (ps.zipIdx k).foldl (fun f x => torn f x.1 (cOf true ks x.2)) f 0 ∈ ms 0 := by
  intro ps
  induction ps with
  | nil => intro f k _ _ _ h1 h2; exact ⟨h1, h2⟩
  | cons p r ih =>
    intro f k hf hp hm h1 h2
    simp only [List.zipIdx_cons, List.foldl_cons]
    obtain ⟨ii, hii, hmem⟩ := hm p (by simp)
    have hpl := hp p (by simp)
    have hcl : ∀ n, (p.2.take n ++ (f p.1).drop n).length = 512 := fun n => by rw [List.length_append, List.length_take, List.length_drop, hpl, hf]; omega
    refine ih _ _ (fun i => ?_) (fun q hq => hp q (by simp [hq])) (fun q hq => hm q (by simp [hq])) (fun i => ?_) ?_
    · unfold torn upd; split
      · exact hcl _
      · exact hf i
    · unfold torn upd; split
      · rename_i e
        have hi2 : i = ii := by omega
        subst hi2
        rw [hii]
        exact byteOf_cut hmem (h1 i) hpl (hf _) _
      · exact h1 i
    · unfold torn upd; split
      · rename_i e
        rw [← e]
        have hi0 : ii = 0 := by omega
        subst hi0
        have hc : cutN 0 (cOf true ks k) = 0 ∨ cutN 0 (cOf true ks k) = 512 := by
          unfold cutN; split
          · exact .inl rfl
          · right; rw [if_neg (fun h => h.2 rfl)]
        rcases hc with hc | hc
        · rw [hc]; simpa using h2
        · rw [hc, List.take_of_length_le (by omega), List.drop_of_length_le (by rw [hf]; omega), List.append_nil]; exact hmem
      · exact h2
theorem WOk.crashed {K : Dk} {nn m : Nat} {ms : Nat → List (List UInt8)} (h : WOk K nn m ms) (hp : ∀ p ∈ K.loose, p.2.length = 512) (ks : List Int) : (∀ i : Nat, ByteOf (ms i) ((K.crash ks).now i)) ∧ (K.crash ks).now 0 ∈ ms 0 := by
  show (∀ i : Nat, ByteOf (ms i) (crashF K.sure ks K.loose i)) ∧ crashF K.sure ks K.loose 0 ∈ ms 0
  rw [h.sure]
  exact crash_bytes K.loose zF 0 (fun i => zeros_len) hp h.put (fun i => byteOf_mem (h.zero i)) (h.zero 0)
theorem index_at (w : World) (y : List UInt8) (at' : Nat) (yb : UInt8) (h : y[at']? = some yb) : (Instr.index 9 (.string ⟨y.toArray⟩) (.int .i64 (at' : Int))).run Try.prog w = .ok (.int .u8 (yb.toNat : Int)) w := by
  have hl : at' < y.length := (List.getElem?_eq_some_iff.1 h).1
  have hs : (⟨y.toArray⟩ : ByteArray).size = y.length := by simp [ByteArray.size]
  have hy : y[at'] = yb := by rw [List.getElem?_eq_getElem hl] at h; injection h
  rw [run_index_string w 9 ⟨y.toArray⟩ .i64 (at' : Int) Try.underlying9, dif_pos ⟨by omega, by rw [hs]; omega⟩]
  congr 3
  rw [← hy]
  rfl
theorem byte_eq (a b : UInt8) : Value.bool (((a.toNat : Int)) == ((b.toNat : Int))) = Value.bool (a == b) := by
  congr 1
  by_cases h : a = b
  · subst h; simp
  · have h1 : ¬ (a.toNat : Int) = (b.toNat : Int) := fun e => h (UInt8.toNat_inj.1 (by omega))
    rw [beq_eq_false_iff_ne.2 h1, beq_eq_false_iff_ne.2 h]
theorem byte_eq2 (a b : UInt8) : Value.bool (decide ((a.toNat : Int) = (b.toNat : Int))) = Value.bool (a == b) := by
  rw [← byte_eq a b]; congr 1
theorem str_ne {a b : Array UInt8} (h : ¬ a = b) : (ByteArray.toList ⟨a⟩ == ByteArray.toList ⟨b⟩) = false := by
  rw [ByteArray.toList_eq, ByteArray.toList_eq, beq_eq_false_iff_ne]
  intro e
  exact h (Array.toList_inj.1 e)
def InvE15 (u : Nat → Value) (u47 u48 u49 u50 u51 u52 u53 u54 : Value) (d1 d2 d3 : Bool) (A9 Ak : Option Addr) (j k c nk ck c9 g q NN : Nat) (ad : Addr) (xlong : Int) (xc : UInt8) (w0 : World) (D : Nat → Bool) (a : Act) (w : World) : Prop :=
  ∃ (s10 : Nat), a = { tmps := #[.int .i64 (j : Int), .slice (some ad) k c, .slice Ak nk ck, undef, undef, undef, .bool false, .pointer (some ⟨g, 0, none⟩), .int .i64 0, .slice A9 j c9, .int .i64 (j : Int), .int .i64 (q : Int), (slot (D 11) (.slice (some ⟨s10, 0, none⟩) NN NN) (u 12)), undef, undef, undef, undef, undef, undef, undef, undef, .int .i64 (j : Int), .bool d1, .bool d1, .int .i64 (j : Int), .bool d2, .bool (d1 || d2), .bool (d1 || d2), .slice (some ad) k c, .int .i64 (k : Int), .bool d3, .bool (d1 || d2 || d3), undef, .tuple #[.pointer (some ⟨g, 0, none⟩), .int .i64 0], .int .i64 (j : Int), .tuple #[.pointer (some ⟨g, 0, none⟩), .int .i64 0], .pointer (some ⟨g, 0, none⟩), .int .i64 0, .int .i64 0, .bool false, .bool false, .pointer (some ⟨g, 0, none⟩), .bool false, .bool false, .int .i64 (j : Int), .int .i64 (j : Int), .bool false, u47, u48, u49, u50, u51, u52, u53, u54, u 55, u 56, u 57, u 58, u 59, u 60, u 61, u 62, u 63, u 64, u 65, u 66, (slot (D 0) (.slice (some ad) k c) (u 67)), (slot (D 1) (.int .i64 (q : Int)) (u 68)), (slot (D 2) (.pointer (some (ad.add (q * 5)))) (u 69)), (slot (D 3) (.pointer (some ⟨(ad.add (q * 5)).block, (ad.add (q * 5)).off + 2, none⟩)) (u 70)), (slot (D 4) (.int .u8 (xc.toNat : Int)) (u 71)), (slot (D 5) (.slice (some ad) k c) (u 72)), (slot (D 6) (.int .i64 (q : Int)) (u 73)), (slot (D 7) (.pointer (some (ad.add (q * 5)))) (u 74)), (slot (D 8) (.pointer (some ⟨(ad.add (q * 5)).block, (ad.add (q * 5)).off + 3, none⟩)) (u 75)), (slot (D 9) (.int .i64 xlong) (u 76)), (slot (D 10) (.slice (some ⟨s10, 0, none⟩) NN NN) (u 77)), u 78, u 79, u 80, u 81, u 82, u 83, u 84, u 85, u 86, u 87, u 88, u 89, u 90, u 91, u 92, u 93, u 94, u 95, u 96, u 97, u 98, u 99, u 100, u 101, u 102, u 103, u 104, u 105, undef, undef, undef, undef, undef, undef, undef, undef, undef, undef, undef, undef, undef, undef, undef, undef, undef, undef, undef, undef, undef, undef, undef, undef, undef, undef, undef, undef, undef, undef, undef, undef, undef, undef, undef, undef, undef, undef, undef, undef, undef, undef, undef, undef, undef, undef, undef, undef, undef, undef, undef, undef, undef, undef, undef, undef, undef, undef, undef, undef, undef, undef, undef, undef, undef, undef, undef, undef, undef, undef, undef, undef, undef, undef, undef, undef, undef, undef, undef, undef, undef, undef, undef, undef], defers := [] } ∧
    (D 10 = true → Blk w s10 5 ((fillL xc NN).map bv).toArray) ∧
    (D 10 = true → w0.heap.size ≤ s10) ∧
    (Chg NoB w0 w)
def InvE17 (u : Nat → Value) (u47 u48 u49 u50 u51 u52 u53 u54 : Value) (d1 d2 d3 : Bool) (A0 Ak : Option Addr) (j k c nk ck c9 g q gm ii n0 c0 s10 B0 : Nat) (ad : Addr) (arr : Array UInt8) (xs : List Value) (W w0 : World) (D : Nat → Bool) (a : Act) (w : World) : Prop :=
  ∃ (s16 : Nat) (v17 : Value), a = { tmps := #[.int .i64 (j : Int), .slice (some ad) k c, .slice Ak nk ck, undef, undef, undef, .bool false, .pointer (some ⟨g, 0, none⟩), .int .i64 0, .slice (some ⟨gm, 0, none⟩) j c9, .int .i64 (j : Int), .int .i64 (q : Int), .slice (some ⟨s10, 0, none⟩) 512 512, undef, undef, undef, undef, undef, undef, undef, undef, .int .i64 (j : Int), .bool d1, .bool d1, .int .i64 (j : Int), .bool d2, .bool (d1 || d2), .bool (d1 || d2), .slice (some ad) k c, .int .i64 (k : Int), .bool d3, .bool (d1 || d2 || d3), undef, .tuple #[.pointer (some ⟨g, 0, none⟩), .int .i64 0], .int .i64 (j : Int), .tuple #[.pointer (some ⟨g, 0, none⟩), .int .i64 0], .pointer (some ⟨g, 0, none⟩), .int .i64 0, .int .i64 0, .bool false, .bool false, .pointer (some ⟨g, 0, none⟩), .bool false, .bool false, .int .i64 (j : Int), .int .i64 (j : Int), .bool false, u47, u48, u49, u50, u51, u52, u53, u54, u 55, u 56, u 57, u 58, u 59, u 60, u 61, u 62, u 63, u 64, u 65, u 66, u 67, u 68, u 69, u 70, u 71, u 72, u 73, u 74, u 75, u 76, u 77, u 78, u 79, u 80, u 81, u 82, u 83, u 84, u 85, .bool true, (slot (D 0) (.slice (some ⟨gm, 0, none⟩) j c9) (u 87)), (slot (D 1) (.slice (some ad) k c) (u 88)), (slot (D 2) (.int .i64 (q : Int)) (u 89)), (slot (D 3) (.pointer (some (ad.add (q * 5)))) (u 90)), (slot (D 4) (.pointer (some ⟨(ad.add (q * 5)).block, (ad.add (q * 5)).off + 1, none⟩)) (u 91)), (slot (D 5) (.int .i64 (ii : Int)) (u 92)), (slot (D 6) (.slice (some ⟨gm, 0, none⟩) j c9) (u 93)), (slot (D 7) (.slice (some ad) k c) (u 94)), (slot (D 8) (.int .i64 (q : Int)) (u 95)), (slot (D 9) (.pointer (some (ad.add (q * 5)))) (u 96)), (slot (D 10) (.pointer (some ⟨(ad.add (q * 5)).block, (ad.add (q * 5)).off + 1, none⟩)) (u 97)), (slot (D 11) (.int .i64 (ii : Int)) (u 98)), (slot (D 12) (.pointer (some ⟨gm, ii, none⟩)) (u 99)), (slot (D 13) (.slice A0 n0 c0) (u 100)), (slot (D 14) (.slice (some ⟨s10, 0, none⟩) 512 512) (u 101)), (slot (D 15) (.string ⟨arr⟩) (u 102)), (slot (D 16) (.slice (some ⟨s16, 0, none⟩) 1 1) (u 103)), (slot (D 17) (v17) (u 104)), (slot (D 18) (.pointer (some ⟨gm, ii, none⟩)) (u 105)), undef, undef, undef, undef, undef, undef, undef, undef, undef, undef, undef, undef, undef, undef, undef, undef, undef, undef, undef, undef, undef, undef, undef, undef, undef, undef, undef, undef, undef, undef, undef, undef, undef, undef, undef, undef, undef, undef, undef, undef, undef, undef, undef, undef, undef, undef, undef, undef, undef, undef, undef, undef, undef, undef, undef, undef, undef, undef, undef, undef, undef, undef, undef, undef, undef, undef, undef, undef, undef, undef, undef, undef, undef, undef, undef, undef, undef, undef, undef, undef, undef, undef, undef, undef], defers := [] } ∧
    (D 17 = false → Chg NoB w0 w) ∧
    (D 16 = true → D 17 = false → Blk w s16 9 #[.string ⟨arr⟩]) ∧
    (D 17 = true → D 19 = false → ∃ wa, Chg NoB w0 wa ∧ wa.grownBy w (Value.slice A0 n0 c0).ownBlock ∧ w.ownsRow B0 9 1 v17 (n0 + 1) (xs ++ [.string ⟨arr⟩]) ∧ (v17.ownBlock = (Value.slice A0 n0 c0).ownBlock ∨ v17.ownBlock = some wa.heap.size)) ∧
    (D 19 = true → ∃ wa wb, Chg NoB w0 wa ∧ wa.grownBy wb (Value.slice A0 n0 c0).ownBlock ∧ wb.ownsRow B0 9 1 v17 (n0 + 1) (xs ++ [.string ⟨arr⟩]) ∧ (v17.ownBlock = (Value.slice A0 n0 c0).ownBlock ∨ v17.ownBlock = some wa.heap.size) ∧ w = wb.setCell ⟨gm, ii, none⟩ v17) ∧
    (∀ b, b < W.heap.size → w.heap[b]? = w0.heap[b]?)
set_option maxRecDepth 100000 in
set_option maxHeartbeats 8000000 in
theorem sectorEach_walk (n : Int) (A : Option Addr) (k c : Nat) (l : List ActV) (Ak : Option Addr) (nk ck : Nat) (zk : List Int) (W : World) (_ : (Lit.int .i64 n).wf = true) (hA : Acts W W.heap.size A k l) (hik : IsRow .i64 W Ak nk ck zk) :
    Calls Try.prog 3 #[.int .i64 n, .slice A k c, .slice Ak nk ck] W fun e W' => e = .returned (.bool true) ∧ Below W.heap.size W W' := by
  have HA := Lib.hid hA
  have HIK := Lib.hid (i64_row hik)
  clear hA hik
  have hcase : (n < 1) ∨ (1 ≤ n ∧ 40 < n) ∨ (1 ≤ n ∧ n ≤ 40 ∧ 40 < k) ∨ (1 ≤ n ∧ n ≤ 40 ∧ k ≤ 40) := by omega
  rcases hcase with h1 | ⟨h1, h2⟩ | ⟨h1, h2, h3⟩ | ⟨h1, h2, h3⟩
  iterate 3
    · go_enter Try.func3, Try.ntmps3
      go_wp2_with fail
      refine (lives_any W).mono ?_
      rintro e w1 ⟨rfl, hc1⟩
      go_wp2_with fail
      go_ret
      exact ⟨rfl, hc1.no⟩
  obtain ⟨nn, rfl⟩ : ∃ nn : Nat, n = (nn : Int) := ⟨n.toNat, by omega⟩
  have HN := Lib.hid (show 1 ≤ nn ∧ nn ≤ 40 from by omega)
  go_enter Try.func3, Try.ntmps3
  go_wp2_with fail
  refine (DI.new_ (nn : Int) W (by omega) (by omega)).mono ?_
  rintro e w1 ⟨g, F1, rfl, hD1, hc1⟩
  have HD1 := Lib.hid hD1
  have HC1 := Lib.hid hc1
  have HC1W := Lib.hid hc1.size
  clear hD1 hc1
  go_wp2_with fail
  generalize decide ((nn : Int) < 1) = d1
  generalize decide ((40 : Int) < (nn : Int)) = d2
  generalize decide ((40 : Int) < (k : Int)) = d3
  obtain ⟨ms0, hms0⟩ : ∃ ms0 : Nat → List (List UInt8), ms0 = fun _ => [zeros] := ⟨_, rfl⟩
  have HMS0 := Lib.hid hms0
  clear hms0
  go_loopw [9, 10] (fun v i wr => ∃ (j : Nat) (vs : List Value), j ≤ nn ∧ i = .int .i64 j ∧ Hid (MayB wr w1.heap.size v j ms0 vs) ∧ Chg NoB w1 wr) (fun _ i _ => nn - (intOf i).toNat)
  case atStart => exact ⟨0, [], Nat.zero_le _, rfl, MayB.nil_ _ _ _, Chg.refl _ _⟩
  case round =>
    obtain ⟨j, vs, hj, rfl, HM, hch⟩ := hrel
    obtain ⟨A9, c9, rfl⟩ := own_slice HM.out.row
    have HCH := Lib.hid hch
    clear hch
    by_cases hlt : j < nn
    · have hmz := make_zeros wr
      obtain ⟨arr, harr⟩ : ∃ arr, arr = zeros.toArray := ⟨_, rfl⟩
      have hst := (blk_RB (show Blk (wr.alloc (.cells (blkC zeros) 5)) wr.heap.size 5 ((zeros.map bv).toArray) from Blk.new wr _ _)).toStr (n := 512) zeros_len 512 Try.underlying30 Try.underlying5 Try.underlying9
      rw [← harr] at hst
      have HARR := Lib.hid harr
      clear harr
      have hn40 := HN.out.2
      obtain ⟨wb, hwb⟩ : ∃ wb, wb = (wr.alloc (.cells (blkC zeros) 5)).alloc (.cells #[.string ⟨arr⟩] 9) := ⟨_, rfl⟩
      have hsb : wb.heap.size = wr.heap.size + 1 + 1 := by rw [hwb]; simp
      have hbb : Blk wb (wr.heap.size + 1) 9 #[.string ⟨arr⟩] := by
        have h := Blk.new (wr.alloc (.cells (blkC zeros) 5)) 9 #[.string ⟨arr⟩]
        rw [hwb]; simpa using h
      have hcb : Chg NoB wr wb := by rw [hwb]; exact ((Chg.refl _ _).alloc _).alloc _
      have hcc : Chg NoB wb (wb.alloc (.cells #[.slice (some ⟨wr.heap.size + 1, 0, none⟩) 1 1] 31)) := (Chg.refl _ _).alloc _
      have hbc := Blk.new wb 31 #[.slice (some ⟨wr.heap.size + 1, 0, none⟩) 1 1]
      rw [hsb] at hbc
      have HBC := Lib.hid hbc
      have hown : (wb.alloc (.cells #[.slice (some ⟨wr.heap.size + 1, 0, none⟩) 1 1] 31)).ownsRow w1.heap.size 9 1 (.slice (some ⟨wr.heap.size + 1, 0, none⟩) 1 1) (ms0 j).length ((ms0 j).map strV) := by
        have h1 : Blk (wb.alloc (.cells #[.slice (some ⟨wr.heap.size + 1, 0, none⟩) 1 1] 31)) (wr.heap.size + 1) 9 #[.string ⟨arr⟩] := hbb.chg hcc (fun h => h)
        have e : (Value.string ⟨arr⟩) = strV zeros := by rw [HARR.out]; rfl
        rw [e] at h1
        rw [HMS0.out]
        exact ⟨rfl, .inr ⟨wr.heap.size + 1, 1, _, rfl, by have := HCH.out.size; omega, h1, Nat.le_refl _, by decide, rfl, rfl⟩⟩
      have HOWN := Lib.hid hown
      have HCB := Lib.hid (hcb.trans hcc (fun _ _ h => h))
      have HVR := Lib.hid (ownsRow_chg HM.out.row HCB.out (fun _ _ h => h))
      obtain ⟨it, hit, hz, hs1, hs2⟩ := sl_full
      have HIT := Lib.hid (show Try.prog.info? 31 = some it ∧ it.zero = some (.slice none 0 0) ∧ it.size = 1 ∧ it.bytes = 24 from ⟨hit, hz, hs1, hs2⟩)
      rw [hwb] at HBC HVR HOWN HCB
      clear hit hz hs1 hs2 hown hcb hcc hbc hbb hsb hwb
      go_wp2_with (at_builtin; refine wpList_append_one _ rfl _ _ _ _ rfl Try.underlying29 it _ 24 w1.heap.size HIT.out.1 HIT.out.2.1 HIT.out.2.2.1 HIT.out.2.2.2 rfl _ j _ rfl HVR.out (wr.heap.size + 1 + 1) (.slice (some ⟨wr.heap.size + 1, 0, none⟩) 1 1) rfl HBC.out rfl (by omega) (by unfold maxLen; omega) (by have h1 := HCH.out.size; have h2 := HCB.out.size; omega) ?_; intro v9 w9 ho9 hg9 hv9)
      go_roundw
      case rel =>
        exact ⟨j + 1, vs ++ [.slice (some ⟨wr.heap.size + 1, 0, none⟩) 1 1], by omega, by simp, HM.out.snoc HCB.out (Nat.le_succ _) rfl HOWN.out hg9 ho9, (HCH.out.trans HCB.out (fun _ _ h => h)).grown hg9 (fun q e => .inr (HM.out.row.lt q e).1)⟩
      case measure => simp [intOf]; omega
    · obtain rfl : j = nn := by omega
      go_wp2_with fail
      have HM1 := Lib.hid HM.out
      have HDa := Lib.hid (HD1.out.no HCH.out)
      have HCa := Lib.hid (HC1.out.trans HCH.out (fun _ _ h => h))
      have HFa := Lib.hid (show MayFree (.slice A9 j c9) vs F1 from ⟨fun b e h => by have h1 := (HM.out.row.lt b e).1; have h2 := (HD1.out.rng _ h).2; omega, fun i hi b e h => by have h1 := ((HM.out.elt i hi).lt b e).1; have h2 := (HD1.out.rng _ h).2; omega⟩)
      have HWa := Lib.hid (WOk.new_ j ms0 (fun i => by rw [HMS0.out]; simp) (fun i y hy => by rw [HMS0.out] at hy; simp at hy; subst hy; exact zeros_len))
      have HLa := Lib.hid (show ∀ i, (ms0 i).length ≤ 0 + 1 from fun i => by rw [HMS0.out]; exact Nat.le_refl _)
      clear HM
      go_loopw [11] (fun i w => ∃ (q : Nat) (K' : Dk) (F' : Nat → Prop) (ms : Nat → List (List UInt8)) (vs : List Value), q ≤ k ∧ i = .int .i64 q ∧ Hid (WOk K' j q ms) ∧ Hid (DI W.heap.size w g K' F') ∧ Hid (MayB w w1.heap.size (.slice A9 j c9) j ms vs) ∧ Hid (MayFree (.slice A9 j c9) vs F') ∧ Hid (∀ i, (ms i).length ≤ q + 1) ∧ Hid (Chg NoB W w)) (fun i _ => k - (intOf i).toNat)
      case atStart => exact ⟨0, _, F1, ms0, vs, Nat.zero_le _, rfl, HWa.out, HDa.out, HM1.out, HFa.out, HLa.out, HCa.out⟩
      case round =>
        obtain ⟨q, K', F', ms, vs, hq, rfl, HS, HDI, HMY, HFR, HLN, HCQ⟩ := hrel
        by_cases hlq : q < k
        · obtain ⟨ad, x, rfl, hadb, hxj, hat, hok⟩ := HA.out.at_ hlq
          have HOK := Lib.hid hok
          have hA3 := HA.out.no HCQ.out (Nat.le_refl _)
          obtain ⟨ad', x', e1, _, e2, hat2, hok2⟩ := hA3.at_ hlq
          obtain rfl : ad = ad' := by injection e1
          obtain rfl : x = x' := by rw [hxj] at e2; injection e2
          have c0 := hat2.c0
          have HAT := Lib.hid hat2
          have HXJ := Lib.hid hxj
          have HAD := Lib.hid (show (ad.add (q * 5)).block < W.heap.size from by rw [block_of_add]; exact hadb)
          have HLJ := Lib.hid (show K'.loose.length ≤ 60 from Nat.le_trans HS.out.loose (by omega))
          clear e1 e2 hat hok hok2 hA3 hat2 hxj
          by_cases hk1 : x.kind = 1
          rotate_left
          · go_wp2_with fail
            go_roundw
            case rel => exact ⟨q + 1, K', F', ms, vs, by omega, by simp, HS.out.more (by omega), HDI.out, HMY.out, HFR.out, fun i => Nat.le_trans (HLN.out i) (by omega), HCQ.out⟩
            case measure => simp [intOf]; omega
          refine cutW (fun u a w' => a = ({ tmps := #[.int .i64 (j : Int), .slice (some ad) k c, .slice Ak nk ck, undef, undef, undef, .bool false, .pointer (some ⟨g, 0, none⟩), .int .i64 0, .slice A9 j c9, .int .i64 (j : Int), .int .i64 (q : Int), u 12, undef, undef, undef, undef, undef, undef, undef, undef, .int .i64 (j : Int), .bool d1, .bool d1, .int .i64 (j : Int), .bool d2, .bool (d1 || d2), .bool (d1 || d2), .slice (some ad) k c, .int .i64 (k : Int), .bool d3, .bool (d1 || d2 || d3), undef, .tuple #[.pointer (some ⟨g, 0, none⟩), .int .i64 0], .int .i64 (j : Int), .tuple #[.pointer (some ⟨g, 0, none⟩), .int .i64 0], .pointer (some ⟨g, 0, none⟩), .int .i64 0, .int .i64 0, .bool false, .bool false, .pointer (some ⟨g, 0, none⟩), .bool false, .bool false, .int .i64 (j : Int), .int .i64 (j : Int), .bool false, u47, u48, u49, u50, u51, u52, u53, u54, u 55, u 56, u 57, u 58, u 59, u 60, u 61, u 62, u 63, u 64, u 65, u 66, u 67, u 68, u 69, u 70, u 71, u 72, u 73, u 74, u 75, u 76, u 77, u 78, u 79, u 80, u 81, u 82, u 83, u 84, u 85, u 86, u 87, u 88, u 89, u 90, u 91, u 92, u 93, u 94, u 95, u 96, u 97, u 98, u 99, u 100, u 101, u 102, u 103, u 104, u 105, undef, undef, undef, undef, undef, undef, undef, undef, undef, undef, undef, undef, undef, undef, undef, undef, undef, undef, undef, undef, undef, undef, undef, undef, undef, undef, undef, undef, undef, undef, undef, undef, undef, undef, undef, undef, undef, undef, undef, undef, undef, undef, undef, undef, undef, undef, undef, undef, undef, undef, undef, undef, undef, undef, undef, undef, undef, undef, undef, undef, undef, undef, undef, undef, undef, undef, undef, undef, undef, undef, undef, undef, undef, undef, undef, undef, undef, undef, undef, undef, undef, undef, undef, undef], defers := [] } : Act) ∧ wr = w') ?_ ?_
          · intro M hM
            go_wp2_with fail
            exact ⟨rfl, hM.out _ _ ⟨rfl, rfl⟩⟩
          rintro u _ _ ⟨rfl, rfl⟩
          refine wp_seq ?_
          refine wp_block ?_
          refine cutW (fun u a w' => a = ({ tmps := #[.int .i64 (j : Int), .slice (some ad) k c, .slice Ak nk ck, undef, undef, undef, .bool false, .pointer (some ⟨g, 0, none⟩), .int .i64 0, .slice A9 j c9, .int .i64 (j : Int), .int .i64 (q : Int), u 12, undef, undef, undef, undef, undef, undef, undef, undef, .int .i64 (j : Int), .bool d1, .bool d1, .int .i64 (j : Int), .bool d2, .bool (d1 || d2), .bool (d1 || d2), .slice (some ad) k c, .int .i64 (k : Int), .bool d3, .bool (d1 || d2 || d3), undef, .tuple #[.pointer (some ⟨g, 0, none⟩), .int .i64 0], .int .i64 (j : Int), .tuple #[.pointer (some ⟨g, 0, none⟩), .int .i64 0], .pointer (some ⟨g, 0, none⟩), .int .i64 0, .int .i64 0, .bool false, .bool false, .pointer (some ⟨g, 0, none⟩), .bool false, .bool false, .int .i64 (j : Int), .int .i64 (j : Int), .bool false, u47, u48, u49, u50, u51, u52, u53, u54, u 55, u 56, u 57, u 58, u 59, u 60, u 61, u 62, u 63, u 64, u 65, u 66, u 67, u 68, u 69, u 70, u 71, u 72, u 73, u 74, u 75, u 76, u 77, u 78, u 79, u 80, u 81, u 82, u 83, u 84, u 85, u 86, u 87, u 88, u 89, u 90, u 91, u 92, u 93, u 94, u 95, u 96, u 97, u 98, u 99, u 100, u 101, u 102, u 103, u 104, u 105, undef, undef, undef, undef, undef, undef, undef, undef, undef, undef, undef, undef, undef, undef, undef, undef, undef, undef, undef, undef, undef, undef, undef, undef, undef, undef, undef, undef, undef, undef, undef, undef, undef, undef, undef, undef, undef, undef, undef, undef, undef, undef, undef, undef, undef, undef, undef, undef, undef, undef, undef, undef, undef, undef, undef, undef, undef, undef, undef, undef, undef, undef, undef, undef, undef, undef, undef, undef, undef, undef, undef, undef, undef, undef, undef, undef, undef, undef, undef, undef, undef, undef, undef, undef], defers := [] } : Act) ∧ wr = w') ?_ ?_
          · intro M hM
            go_wp2_with fail
            exact ⟨rfl, hM.out _ _ ⟨rfl, rfl⟩⟩
          clear u
          rintro u _ _ ⟨rfl, rfl⟩
          clear c0 hk1
          obtain ⟨NN, hNN⟩ : ∃ NN, NN = fillN x.long := ⟨_, rfl⟩
          have HNN := Lib.hid hNN
          clear hNN
          have ADL := Lib.hid (show (ad.add (q * 5)).block < wr.heap.size from by have := HAD.out; have := HCQ.out.size; omega)
          have HQ2 := Lib.hid HAT.out.c2
          have HQ3 := Lib.hid HAT.out.c3
          refine cutW (fun u a w' => ∃ s10 : Nat, a = ({ tmps := #[.int .i64 (j : Int), .slice (some ad) k c, .slice Ak nk ck, undef, undef, undef, .bool false, .pointer (some ⟨g, 0, none⟩), .int .i64 0, .slice A9 j c9, .int .i64 (j : Int), .int .i64 (q : Int), .slice (some ⟨s10, 0, none⟩) NN NN, undef, undef, undef, undef, undef, undef, undef, undef, .int .i64 (j : Int), .bool d1, .bool d1, .int .i64 (j : Int), .bool d2, .bool (d1 || d2), .bool (d1 || d2), .slice (some ad) k c, .int .i64 (k : Int), .bool d3, .bool (d1 || d2 || d3), undef, .tuple #[.pointer (some ⟨g, 0, none⟩), .int .i64 0], .int .i64 (j : Int), .tuple #[.pointer (some ⟨g, 0, none⟩), .int .i64 0], .pointer (some ⟨g, 0, none⟩), .int .i64 0, .int .i64 0, .bool false, .bool false, .pointer (some ⟨g, 0, none⟩), .bool false, .bool false, .int .i64 (j : Int), .int .i64 (j : Int), .bool false, u47, u48, u49, u50, u51, u52, u53, u54, u 55, u 56, u 57, u 58, u 59, u 60, u 61, u 62, u 63, u 64, u 65, u 66, u 67, u 68, u 69, u 70, u 71, u 72, u 73, u 74, u 75, u 76, u 77, u 78, u 79, u 80, u 81, u 82, u 83, u 84, u 85, u 86, u 87, u 88, u 89, u 90, u 91, u 92, u 93, u 94, u 95, u 96, u 97, u 98, u 99, u 100, u 101, u 102, u 103, u 104, u 105, undef, undef, undef, undef, undef, undef, undef, undef, undef, undef, undef, undef, undef, undef, undef, undef, undef, undef, undef, undef, undef, undef, undef, undef, undef, undef, undef, undef, undef, undef, undef, undef, undef, undef, undef, undef, undef, undef, undef, undef, undef, undef, undef, undef, undef, undef, undef, undef, undef, undef, undef, undef, undef, undef, undef, undef, undef, undef, undef, undef, undef, undef, undef, undef, undef, undef, undef, undef, undef, undef, undef, undef, undef, undef, undef, undef, undef, undef, undef, undef, undef, undef, undef, undef], defers := [] } : Act) ∧ wr.heap.size ≤ s10 ∧ Blk w' s10 5 ((fillL x.c NN).map bv).toArray ∧ Chg NoB wr w') ?_ ?_
          · intro M hM
            refine wp_region_cl rfl (by kernel_rfl) (InvE15 u u47 u48 u49 u50 u51 u52 u53 u54 d1 d2 d3 A9 Ak j k c nk ck c9 g q NN ad x.long x.c wr) ?_ ?_ ?_
            · exact ⟨0, rfl, (fun h => by cases h), (fun h => by cases h), (Chg.refl _ _).drew⟩
            ·
              intro D a w i o ho hD hcl hpre hI
              obtain ⟨s10, rfl, hb, hbn, hcn⟩ := hI
              have hi : i < 12 := by have := (List.getElem?_eq_some_iff.1 ho).1; simpa using this
              rcases (by omega : i = 0 ∨ i = 1 ∨ i = 2 ∨ i = 3 ∨ i = 4 ∨ i = 5 ∨ i = 6 ∨ i = 7 ∨ i = 8 ∨ i = 9 ∨ i = 10 ∨ i = 11) with rfl | rfl | rfl | rfl | rfl | rfl | rfl | rfl | rfl | rfl | rfl | rfl
              · obtain rfl := Option.some.inj ho
                clear ho hpre hi hcl
                go_wp2_with fail
                unfold AtEnd
                exact ⟨s10, rfl, fun h1 => hb (by simpa [more] using h1), fun h1 => hbn (by simpa [more] using h1), hcn⟩
              · obtain rfl := Option.some.inj ho
                clear ho hpre hi hcl
                go_wp2_with fail
                unfold AtEnd
                exact ⟨s10, rfl, fun h1 => hb (by simpa [more] using h1), fun h1 => hbn (by simpa [more] using h1), hcn⟩
              · obtain rfl := Option.some.inj ho
                have z0 := hpre ⟨0, .data⟩ (by simp) rfl
                have z1 := hpre ⟨1, .data⟩ (by simp) rfl
                clear ho hpre hi hcl
                go_wp2_with fail
                unfold AtEnd
                exact ⟨s10, by simp only [more, slot_true, slot_false, Nat.reduceEqDiff, ↓reduceIte, z0, z1], fun h1 => hb (by simpa [more] using h1), fun h1 => hbn (by simpa [more] using h1), hcn⟩
              · obtain rfl := Option.some.inj ho
                have z2 := hpre ⟨2, .data⟩ (by simp) rfl
                clear ho hpre hi hcl
                go_wp2_with fail
                unfold AtEnd
                exact ⟨s10, by simp only [more, slot_true, slot_false, Nat.reduceEqDiff, ↓reduceIte, z2], fun h1 => hb (by simpa [more] using h1), fun h1 => hbn (by simpa [more] using h1), hcn⟩
              · obtain rfl := Option.some.inj ho
                have z3 := hpre ⟨3, .data⟩ (by simp) rfl
                clear ho hpre hi hcl
                have cq := cell_of_heap (w := wr) (w' := w) (p := ⟨(ad.add (q * 5)).block, (ad.add (q * 5)).off + 2, none⟩) (hcn.block _ ADL.out (fun h => h))
                rw [HQ2.out] at cq
                go_wp2_with fail
                unfold AtEnd
                exact ⟨s10, by simp only [more, slot_true, slot_false, Nat.reduceEqDiff, ↓reduceIte, z3], fun h1 => hb (by simpa [more] using h1), fun h1 => hbn (by simpa [more] using h1), hcn⟩
              · obtain rfl := Option.some.inj ho
                clear ho hpre hi hcl
                go_wp2_with fail
                unfold AtEnd
                exact ⟨s10, rfl, fun h1 => hb (by simpa [more] using h1), fun h1 => hbn (by simpa [more] using h1), hcn⟩
              · obtain rfl := Option.some.inj ho
                clear ho hpre hi hcl
                go_wp2_with fail
                unfold AtEnd
                exact ⟨s10, rfl, fun h1 => hb (by simpa [more] using h1), fun h1 => hbn (by simpa [more] using h1), hcn⟩
              · obtain rfl := Option.some.inj ho
                have z5 := hpre ⟨5, .data⟩ (by simp) rfl
                have z6 := hpre ⟨6, .data⟩ (by simp) rfl
                clear ho hpre hi hcl
                go_wp2_with fail
                unfold AtEnd
                exact ⟨s10, by simp only [more, slot_true, slot_false, Nat.reduceEqDiff, ↓reduceIte, z5, z6], fun h1 => hb (by simpa [more] using h1), fun h1 => hbn (by simpa [more] using h1), hcn⟩
              · obtain rfl := Option.some.inj ho
                have z7 := hpre ⟨7, .data⟩ (by simp) rfl
                clear ho hpre hi hcl
                go_wp2_with fail
                unfold AtEnd
                exact ⟨s10, by simp only [more, slot_true, slot_false, Nat.reduceEqDiff, ↓reduceIte, z7], fun h1 => hb (by simpa [more] using h1), fun h1 => hbn (by simpa [more] using h1), hcn⟩
              · obtain rfl := Option.some.inj ho
                have z8 := hpre ⟨8, .data⟩ (by simp) rfl
                clear ho hpre hi hcl
                have cq := cell_of_heap (w := wr) (w' := w) (p := ⟨(ad.add (q * 5)).block, (ad.add (q * 5)).off + 3, none⟩) (hcn.block _ ADL.out (fun h => h))
                rw [HQ3.out] at cq
                go_wp2_with fail
                unfold AtEnd
                exact ⟨s10, by simp only [more, slot_true, slot_false, Nat.reduceEqDiff, ↓reduceIte, z8], fun h1 => hb (by simpa [more] using h1), fun h1 => hbn (by simpa [more] using h1), hcn⟩
              · obtain rfl := Option.some.inj ho
                have z4 := hpre ⟨4, .data⟩ (by simp) rfl
                have z9 := hpre ⟨9, .data⟩ (by simp) rfl
                have d11 : D 11 = false := (hcl.not_ 11 _ rfl 0 _ rfl rfl hD)
                clear ho hpre hi hcl
                simp only [z4, z9, slot_true]
                go_wp2_with fail
                refine (filled_any x.c x.long w).mono ?_
                rintro e w5 ⟨s, rfl, hsl, hs, hc5⟩
                rw [← HNN.out] at hs ⊢
                go_wp2_with fail
                unfold AtEnd
                exact ⟨s, by simp only [more, slot_true, slot_false, Nat.reduceEqDiff, ↓reduceIte, z4, z9, d11], fun _ => hs, fun _ => Nat.le_trans hcn.size hsl, hcn.trans hc5 (fun _ _ h => h)⟩
              · obtain rfl := Option.some.inj ho
                have z10 := hpre ⟨10, .data⟩ (by simp) rfl
                clear ho hpre hi hcl
                go_wp2_with fail
                unfold AtEnd
                exact ⟨s10, by simp only [more, slot_true, slot_false, Nat.reduceEqDiff, ↓reduceIte, z10], fun h1 => hb (by simpa [more] using h1), fun h1 => hbn (by simpa [more] using h1), hcn⟩
            · intro D a w hall hI
              obtain ⟨s10, rfl, hb, hbn, hcn⟩ := hI
              simp only [hall 11 (by decide), slot_true]
              exact ⟨rfl, hM.out _ _ ⟨s10, rfl, hbn (hall 10 (by decide)), hb (hall 10 (by decide)), hcn⟩⟩
          clear u
          rintro u _ w5 ⟨s10, rfl, hbn10, hb10, hc5⟩
          have hA6 := HA.out.no (HCQ.out.trans hc5 (fun _ _ h => h)) (Nat.le_refl _)
          obtain ⟨ad', x', e1, _, e2, hat2, _⟩ := hA6.at_ hlq
          obtain rfl : ad = ad' := by injection e1
          obtain rfl : x = x' := by rw [HXJ.out] at e2; injection e2
          clear e1 e2 hA6
          have HBR := Lib.hid (show Blk w5 s10 5 ((fillL x.c NN).map bv).toArray ∧ ¬ F' s10 from ⟨hb10, fun h => by have := (HDI.out.rng _ h).2; omega⟩)
          have HD5 := Lib.hid (HDI.out.no hc5)
          have HM5 := Lib.hid (HMY.out.no hc5)
          have HC5 := Lib.hid (HCQ.out.trans hc5 (fun _ _ h => h))
          clear hc5 hb10
          by_cases hbad : wBad K' x.i (fillL x.c NN)
          · have HBAD := Lib.hid (HS.out.bad hbad)
            have c1 := hat2.c1
            have HAT5 := Lib.hid hat2
            clear hbad hat2
            go_wp2_with fail
            refine (HD5.out.write_ HC5.out.size x.i NN (fillL_len x.c NN) (blk_RB HBR.out.1) (fun ad e => by cases e; rfl) (Nat.le_trans HLJ.out (by decide))).mono ?_
            rintro e w6 ⟨rfl, F6, hD6, hc6, hg6⟩
            rw [HBAD.out.1]
            rw [HBAD.out.2] at hD6
            have HD6 := Lib.hid hD6
            have HM6 := Lib.hid (HM5.out.chg hc6 HFR.out)
            have HF6 := Lib.hid (HFR.out.grow HM5.out hg6)
            have HC6 := Lib.hid (HD5.out.base HC5.out hc6)
            clear hD6 hc6 hg6
            go_wp2_with fail
            go_roundw
            case rel => exact ⟨q + 1, K', F6, ms, vs, by omega, by simp, HS.out.more (by omega), HD6.out, HM6.out, HF6.out, fun i => Nat.le_trans (HLN.out i) (by omega), HC6.out⟩
            case measure => simp [intOf]; omega
          · have hr := hbad
            unfold wBad at hr
            rw [fillL_len, HS.out.n] at hr
            obtain ⟨ii, hii⟩ : ∃ ii : Nat, x.i = (ii : Int) := ⟨x.i.toNat, by omega⟩
            rw [hii] at hbad hr
            have HGOOD := Lib.hid (HS.out.good hbad)
            have hiin : ii < j := by omega
            have hN512 : NN = 512 := by omega
            have c1 : w5.cell? ⟨(ad.add (q * 5)).block, (ad.add (q * 5)).off + 1, none⟩ = some (.int .i64 (ii : Int)) := by rw [hat2.c1, hii]
            have HC1 := Lib.hid c1
            clear hbad hr hat2 hii
            subst hN512
            refine cutW (fun u a w' => a = ({ tmps := #[.int .i64 (j : Int), .slice (some ad) k c, .slice Ak nk ck, undef, undef, undef, .bool false, .pointer (some ⟨g, 0, none⟩), .int .i64 0, .slice A9 j c9, .int .i64 (j : Int), .int .i64 (q : Int), .slice (some ⟨s10, 0, none⟩) 512 512, undef, undef, undef, undef, undef, undef, undef, undef, .int .i64 (j : Int), .bool d1, .bool d1, .int .i64 (j : Int), .bool d2, .bool (d1 || d2), .bool (d1 || d2), .slice (some ad) k c, .int .i64 (k : Int), .bool d3, .bool (d1 || d2 || d3), undef, .tuple #[.pointer (some ⟨g, 0, none⟩), .int .i64 0], .int .i64 (j : Int), .tuple #[.pointer (some ⟨g, 0, none⟩), .int .i64 0], .pointer (some ⟨g, 0, none⟩), .int .i64 0, .int .i64 0, .bool false, .bool false, .pointer (some ⟨g, 0, none⟩), .bool false, .bool false, .int .i64 (j : Int), .int .i64 (j : Int), .bool false, u47, u48, u49, u50, u51, u52, u53, u54, u 55, u 56, u 57, u 58, u 59, u 60, u 61, u 62, u 63, u 64, u 65, u 66, u 67, u 68, u 69, u 70, u 71, u 72, u 73, u 74, u 75, u 76, u 77, u 78, u 79, u 80, u 81, u 82, u 83, u 84, u 85, .bool true, u 87, u 88, u 89, u 90, u 91, u 92, u 93, u 94, u 95, u 96, u 97, u 98, u 99, u 100, u 101, u 102, u 103, u 104, u 105, undef, undef, undef, undef, undef, undef, undef, undef, undef, undef, undef, undef, undef, undef, undef, undef, undef, undef, undef, undef, undef, undef, undef, undef, undef, undef, undef, undef, undef, undef, undef, undef, undef, undef, undef, undef, undef, undef, undef, undef, undef, undef, undef, undef, undef, undef, undef, undef, undef, undef, undef, undef, undef, undef, undef, undef, undef, undef, undef, undef, undef, undef, undef, undef, undef, undef, undef, undef, undef, undef, undef, undef, undef, undef, undef, undef, undef, undef, undef, undef, undef, undef, undef, undef], defers := [] } : Act) ∧ ∃ F6, Hid (DI W.heap.size w' g (K'.write (ii : Int) (fillL x.c 512)) F6) ∧ Hid (MayB w' w1.heap.size (.slice A9 j c9) j ms vs) ∧ Hid (MayFree (.slice A9 j c9) vs F6) ∧ Hid (Chg NoB W w') ∧ Hid (Blk w' s10 5 ((fillL x.c 512).map bv).toArray) ∧ Hid (∀ b, b < W.heap.size → w'.heap[b]? = w5.heap[b]?)) ?_ ?_
            · intro M hM
              go_wp2_with fail
              refine (HD5.out.write_ HC5.out.size (ii : Int) 512 (fillL_len x.c 512) (blk_RB HBR.out.1) (fun ad e => by cases e; rfl) (Nat.le_trans HLJ.out (by decide))).mono ?_
              rintro e w6 ⟨rfl, F6, hD6, hc6, hg6⟩
              rw [HGOOD.out.1]
              have HP := Lib.hid (show DI W.heap.size w6 g (K'.write (ii : Int) (fillL x.c 512)) F6 ∧ MayB w6 w1.heap.size (.slice A9 j c9) j ms vs ∧ MayFree (.slice A9 j c9) vs F6 ∧ Chg NoB W w6 ∧ Blk w6 s10 5 ((fillL x.c 512).map bv).toArray ∧ (∀ b, b < W.heap.size → w6.heap[b]? = w5.heap[b]?) from
                ⟨hD6, HM5.out.chg hc6 HFR.out, HFR.out.grow HM5.out hg6, HD5.out.base HC5.out hc6, HBR.out.1.chg hc6 HBR.out.2, fun b hb => hc6.block b (Nat.lt_of_lt_of_le hb HC5.out.size) (fun h => by have := (HD5.out.rng _ h).1; omega)⟩)
              clear hD6 hc6 hg6
              go_wp2_with fail
              exact ⟨rfl, hM.out _ _ ⟨rfl, F6, HP.out.1, HP.out.2.1, HP.out.2.2.1, HP.out.2.2.2.1, HP.out.2.2.2.2.1, HP.out.2.2.2.2.2⟩⟩
            clear u
            rintro u _ w6 ⟨rfl, F6, HD6, HM6, HF6, HC6, HB6, HW6⟩
            have HCI := Lib.hid ((cell_of_heap (p := ⟨(ad.add (q * 5)).block, (ad.add (q * 5)).off + 1, none⟩) (HW6.out _ HAD.out)).trans HC1.out)
            have hvi : ii < vs.length := by rw [HM6.out.len]; exact hiin
            obtain ⟨gm, hgm, cg⟩ := own_cell HM6.out.row hiin
            subst hgm
            obtain ⟨A0, c0, hu0⟩ := own_slice (HM6.out.elt ii hvi)
            rw [List.getElem?_eq_getElem hvi, hu0] at cg
            obtain ⟨n0, hn0⟩ : ∃ n0, n0 = (ms ii).length := ⟨_, rfl⟩
            rw [← hn0] at cg hu0
            have hel := HM6.out.elt ii hvi
            rw [hu0, ← hn0] at hel
            have HN0 := Lib.hid (show n0 = (ms ii).length ∧ n0 ≤ 100 from ⟨hn0, by rw [hn0]; exact Nat.le_trans (HLN.out ii) (by omega)⟩)
            have HEL := Lib.hid hel
            have HCG := Lib.hid cg
            have HU0 := Lib.hid hu0
            obtain ⟨arr, harr⟩ : ∃ arr, arr = (fillL x.c 512).toArray := ⟨_, rfl⟩
            have HARR := Lib.hid harr
            have HGM := Lib.hid (show W.heap.size ≤ gm ∧ W.heap.size ≤ w1.heap.size from ⟨by have h1 := (HM6.out.row.lt gm rfl).1; have := HC1W.out; omega, HC1W.out⟩)
            obtain ⟨it, hit, hz, hs1, hs2⟩ := str_full
            have HIT := Lib.hid (show Try.prog.info? 9 = some it ∧ it.zero = some (.string ⟨#[]⟩) ∧ it.size = 1 ∧ it.bytes = 16 from ⟨hit, hz, hs1, hs2⟩)
            have ADW := Lib.hid (show (ad.add (q * 5)).block < W.heap.size from HAD.out)
            have HS16 := Lib.hid (show w1.heap.size ≤ w6.heap.size from by have := (HM6.out.row.lt gm rfl); omega)
            clear hn0 hel cg hu0 harr hit hz hs1 hs2
            go_wp2_with fail
            refine wp_region_cl rfl (by kernel_rfl) (InvE17 u u47 u48 u49 u50 u51 u52 u53 u54 d1 d2 d3 A0 Ak j k c nk ck c9 g q gm ii n0 c0 s10 w1.heap.size ad arr ((ms ii).map strV) W w6) ?_ ?_ ?_
            · exact ⟨0, undef, rfl, fun _ => (Chg.refl _ _).drew, (fun h _ => by cases h), (fun h _ => by cases h), (fun h => by cases h), fun _ _ => rfl⟩
            ·
              intro D a w i o ho hD hcl hpre hI
              obtain ⟨s16, v17, rfl, h0, hr, h1, h2, hcw⟩ := hI
              have hi : i < 20 := by have := (List.getElem?_eq_some_iff.1 ho).1; simpa using this
              rcases (by omega : i = 0 ∨ i = 1 ∨ i = 2 ∨ i = 3 ∨ i = 4 ∨ i = 5 ∨ i = 6 ∨ i = 7 ∨ i = 8 ∨ i = 9 ∨ i = 10 ∨ i = 11 ∨ i = 12 ∨ i = 13 ∨ i = 14 ∨ i = 15 ∨ i = 16 ∨ i = 17 ∨ i = 18 ∨ i = 19) with rfl | rfl | rfl | rfl | rfl | rfl | rfl | rfl | rfl | rfl | rfl | rfl | rfl | rfl | rfl | rfl | rfl | rfl | rfl | rfl
              · obtain rfl := Option.some.inj ho
                clear ho hpre hi hcl
                go_wp2_with fail
                unfold AtEnd
                exact ⟨s16, v17, rfl, fun h => h0 (by simpa [more] using h), fun h1 h2 => hr (by simpa [more] using h1) (by simpa [more] using h2), fun a1 a2 => h1 (by simpa [more] using a1) (by simpa [more] using a2), fun h => h2 (by simpa [more] using h), hcw⟩
              · obtain rfl := Option.some.inj ho
                clear ho hpre hi hcl
                go_wp2_with fail
                unfold AtEnd
                exact ⟨s16, v17, rfl, fun h => h0 (by simpa [more] using h), fun h1 h2 => hr (by simpa [more] using h1) (by simpa [more] using h2), fun a1 a2 => h1 (by simpa [more] using a1) (by simpa [more] using a2), fun h => h2 (by simpa [more] using h), hcw⟩
              · obtain rfl := Option.some.inj ho
                clear ho hpre hi hcl
                go_wp2_with fail
                unfold AtEnd
                exact ⟨s16, v17, rfl, fun h => h0 (by simpa [more] using h), fun h1 h2 => hr (by simpa [more] using h1) (by simpa [more] using h2), fun a1 a2 => h1 (by simpa [more] using a1) (by simpa [more] using a2), fun h => h2 (by simpa [more] using h), hcw⟩
              · obtain rfl := Option.some.inj ho
                have z1 := hpre ⟨1, .data⟩ (by simp) rfl
                have z2 := hpre ⟨2, .data⟩ (by simp) rfl
                clear ho hpre hi hcl
                go_wp2_with fail
                unfold AtEnd
                exact ⟨s16, v17, by simp only [more, slot_true, slot_false, Nat.reduceEqDiff, ↓reduceIte, z1, z2], fun h => h0 (by simpa [more] using h), fun h1 h2 => hr (by simpa [more] using h1) (by simpa [more] using h2), fun a1 a2 => h1 (by simpa [more] using a1) (by simpa [more] using a2), fun h => h2 (by simpa [more] using h), hcw⟩
              · obtain rfl := Option.some.inj ho
                have z3 := hpre ⟨3, .data⟩ (by simp) rfl
                clear ho hpre hi hcl
                go_wp2_with fail
                unfold AtEnd
                exact ⟨s16, v17, by simp only [more, slot_true, slot_false, Nat.reduceEqDiff, ↓reduceIte, z3], fun h => h0 (by simpa [more] using h), fun h1 h2 => hr (by simpa [more] using h1) (by simpa [more] using h2), fun a1 a2 => h1 (by simpa [more] using a1) (by simpa [more] using a2), fun h => h2 (by simpa [more] using h), hcw⟩
              · obtain rfl := Option.some.inj ho
                have z4 := hpre ⟨4, .data⟩ (by simp) rfl
                clear ho hpre hi hcl
                have cq := cell_of_heap (w := w6) (w' := w) (p := ⟨(ad.add (q * 5)).block, (ad.add (q * 5)).off + 1, none⟩) (hcw _ ADW.out)
                rw [HCI.out] at cq
                go_wp2_with fail
                unfold AtEnd
                exact ⟨s16, v17, by simp only [more, slot_true, slot_false, Nat.reduceEqDiff, ↓reduceIte, z4], fun h => h0 (by simpa [more] using h), fun h1 h2 => hr (by simpa [more] using h1) (by simpa [more] using h2), fun a1 a2 => h1 (by simpa [more] using a1) (by simpa [more] using a2), fun h => h2 (by simpa [more] using h), hcw⟩
              · obtain rfl := Option.some.inj ho
                clear ho hpre hi hcl
                go_wp2_with fail
                unfold AtEnd
                exact ⟨s16, v17, rfl, fun h => h0 (by simpa [more] using h), fun h1 h2 => hr (by simpa [more] using h1) (by simpa [more] using h2), fun a1 a2 => h1 (by simpa [more] using a1) (by simpa [more] using a2), fun h => h2 (by simpa [more] using h), hcw⟩
              · obtain rfl := Option.some.inj ho
                clear ho hpre hi hcl
                go_wp2_with fail
                unfold AtEnd
                exact ⟨s16, v17, rfl, fun h => h0 (by simpa [more] using h), fun h1 h2 => hr (by simpa [more] using h1) (by simpa [more] using h2), fun a1 a2 => h1 (by simpa [more] using a1) (by simpa [more] using a2), fun h => h2 (by simpa [more] using h), hcw⟩
              · obtain rfl := Option.some.inj ho
                clear ho hpre hi hcl
                go_wp2_with fail
                unfold AtEnd
                exact ⟨s16, v17, rfl, fun h => h0 (by simpa [more] using h), fun h1 h2 => hr (by simpa [more] using h1) (by simpa [more] using h2), fun a1 a2 => h1 (by simpa [more] using a1) (by simpa [more] using a2), fun h => h2 (by simpa [more] using h), hcw⟩
              · obtain rfl := Option.some.inj ho
                have z7 := hpre ⟨7, .data⟩ (by simp) rfl
                have z8 := hpre ⟨8, .data⟩ (by simp) rfl
                clear ho hpre hi hcl
                go_wp2_with fail
                unfold AtEnd
                exact ⟨s16, v17, by simp only [more, slot_true, slot_false, Nat.reduceEqDiff, ↓reduceIte, z7, z8], fun h => h0 (by simpa [more] using h), fun h1 h2 => hr (by simpa [more] using h1) (by simpa [more] using h2), fun a1 a2 => h1 (by simpa [more] using a1) (by simpa [more] using a2), fun h => h2 (by simpa [more] using h), hcw⟩
              · obtain rfl := Option.some.inj ho
                have z9 := hpre ⟨9, .data⟩ (by simp) rfl
                clear ho hpre hi hcl
                go_wp2_with fail
                unfold AtEnd
                exact ⟨s16, v17, by simp only [more, slot_true, slot_false, Nat.reduceEqDiff, ↓reduceIte, z9], fun h => h0 (by simpa [more] using h), fun h1 h2 => hr (by simpa [more] using h1) (by simpa [more] using h2), fun a1 a2 => h1 (by simpa [more] using a1) (by simpa [more] using a2), fun h => h2 (by simpa [more] using h), hcw⟩
              · obtain rfl := Option.some.inj ho
                have z10 := hpre ⟨10, .data⟩ (by simp) rfl
                clear ho hpre hi hcl
                have cq := cell_of_heap (w := w6) (w' := w) (p := ⟨(ad.add (q * 5)).block, (ad.add (q * 5)).off + 1, none⟩) (hcw _ ADW.out)
                rw [HCI.out] at cq
                go_wp2_with fail
                unfold AtEnd
                exact ⟨s16, v17, by simp only [more, slot_true, slot_false, Nat.reduceEqDiff, ↓reduceIte, z10], fun h => h0 (by simpa [more] using h), fun h1 h2 => hr (by simpa [more] using h1) (by simpa [more] using h2), fun a1 a2 => h1 (by simpa [more] using a1) (by simpa [more] using a2), fun h => h2 (by simpa [more] using h), hcw⟩
              · obtain rfl := Option.some.inj ho
                have z6 := hpre ⟨6, .data⟩ (by simp) rfl
                have z11 := hpre ⟨11, .data⟩ (by simp) rfl
                clear ho hpre hi hcl
                go_wp2_with fail
                unfold AtEnd
                exact ⟨s16, v17, by simp only [more, slot_true, slot_false, Nat.reduceEqDiff, ↓reduceIte, z6, z11], fun h => h0 (by simpa [more] using h), fun h1 h2 => hr (by simpa [more] using h1) (by simpa [more] using h2), fun a1 a2 => h1 (by simpa [more] using a1) (by simpa [more] using a2), fun h => h2 (by simpa [more] using h), hcw⟩
              · obtain rfl := Option.some.inj ho
                have z12 := hpre ⟨12, .data⟩ (by simp) rfl
                have d17 : D 17 = false := (hcl.not_ 17 _ rfl 0 _ rfl rfl hD)
                clear ho hpre hi hcl
                have cq := cell_of_heap (w := w6) (w' := w) (p := ⟨gm, ii, none⟩) ((h0 d17).block _ (HM6.out.row.lt gm rfl).2 (fun h => h))
                rw [HCG.out] at cq
                go_wp2_with fail
                unfold AtEnd
                exact ⟨s16, v17, by simp only [more, slot_true, slot_false, Nat.reduceEqDiff, ↓reduceIte, z12, d17], fun h => h0 (by simpa [more] using h), fun h1 h2 => hr (by simpa [more] using h1) (by simpa [more] using h2), fun a1 a2 => h1 (by simpa [more] using a1) (by simpa [more] using a2), fun h => h2 (by simpa [more] using h), hcw⟩
              · obtain rfl := Option.some.inj ho
                clear ho hpre hi hcl
                go_wp2_with fail
                unfold AtEnd
                exact ⟨s16, v17, rfl, fun h => h0 (by simpa [more] using h), fun h1 h2 => hr (by simpa [more] using h1) (by simpa [more] using h2), fun a1 a2 => h1 (by simpa [more] using a1) (by simpa [more] using a2), fun h => h2 (by simpa [more] using h), hcw⟩
              · obtain rfl := Option.some.inj ho
                have z14 := hpre ⟨14, .data⟩ (by simp) rfl
                have d17 : D 17 = false := (hcl.not_ 17 _ rfl 1 _ rfl rfl (hcl.not_ 16 _ rfl 0 _ rfl rfl hD))
                clear ho hpre hi hcl
                have hst := (blk_RB (HB6.out.chg (h0 d17) (fun h => h))).toStr (n := 512) (fillL_len x.c 512) 512 Try.underlying30 Try.underlying5 Try.underlying9
                rw [← HARR.out] at hst
                go_wp2_with fail
                unfold AtEnd
                exact ⟨s16, v17, by simp only [more, slot_true, slot_false, Nat.reduceEqDiff, ↓reduceIte, z14, d17], fun h => h0 (by simpa [more] using h), fun h1 h2 => hr (by simpa [more] using h1) (by simpa [more] using h2), fun a1 a2 => h1 (by simpa [more] using a1) (by simpa [more] using a2), fun h => h2 (by simpa [more] using h), hcw⟩
              · obtain rfl := Option.some.inj ho
                have z15 := hpre ⟨15, .data⟩ (by simp) rfl
                have d17 : D 17 = false := (hcl.not_ 17 _ rfl 1 _ rfl rfl hD)
                have d19 : D 19 = false := (hcl.not_ 19 _ rfl 19 _ rfl rfl hD)
                clear ho hpre hi hcl
                have hcl : Chg NoB w (w.alloc (.cells #[.string ⟨arr⟩] 9)) := (Chg.refl _ _).alloc _
                have hnw := Blk.new w 9 #[.string ⟨arr⟩]
                have HNW := Lib.hid hnw
                clear hnw
                simp only [z15, slot_true]
                go_wp2_with fail
                unfold AtEnd
                exact ⟨w.heap.size, v17, by simp only [more, slot_true, slot_false, Nat.reduceEqDiff, ↓reduceIte, z15, d17, d19], fun _ => (h0 d17).trans hcl (fun _ _ h => h), fun _ _ => HNW.out, fun h => by simp [more, d17] at h, fun h => by simp [more, d19] at h, fun b hb => (hcl.block b (Nat.lt_of_lt_of_le hb (Nat.le_trans HC6.out.size (h0 d17).size)) (fun h => h)).trans (hcw b hb)⟩
              · obtain rfl := Option.some.inj ho
                have z13 := hpre ⟨13, .data⟩ (by simp) rfl
                have z16 := hpre ⟨16, .data⟩ (by simp) rfl
                have d19 : D 19 = false := (hcl.not_ 19 _ rfl 1 _ rfl rfl hD)
                clear ho hpre hi hcl
                have hbs := hr z16 hD
                have hov := ownsRow_chg HEL.out (h0 hD) (fun _ _ h => h)
                have h00 := h0 hD
                have HBS := Lib.hid hbs
                have HOV := Lib.hid hov
                have HH0 := Lib.hid h00
                have HCW := Lib.hid hcw
                clear h0 hr h1 h2 hcw hbs hov h00
                simp only [z13, z16, slot_true]
                go_wp2_with (at_builtin; refine wpList_append_one _ rfl _ _ _ _ rfl Try.underlying31 it _ 16 w1.heap.size HIT.out.1 HIT.out.2.1 HIT.out.2.2.1 HIT.out.2.2.2 rfl _ n0 _ rfl HOV.out s16 (.string ⟨arr⟩) rfl HBS.out rfl (by have := HN0.out.2; omega) (by have := HN0.out.2; unfold maxLen; omega) (Nat.le_trans HS16.out HH0.out.size) ?_; intro v9 w9 ho9 hg9 hv9)
                unfold AtEnd
                exact ⟨s16, v9, by simp only [more, slot_true, slot_false, Nat.reduceEqDiff, ↓reduceIte, z13, z16, d19], fun h => by simp [more] at h, fun _ h => by simp [more] at h, fun _ _ => ⟨w, HH0.out, hg9, ho9, hv9⟩, fun h => by simp [more, d19] at h, fun b hb => (hg9.block b (Nat.lt_of_lt_of_le hb (Nat.le_trans HC6.out.size HH0.out.size)) (fun e => by have h1 := (HOV.out.lt b e.symm).1; have := HGM.out.2; omega)).trans (HCW.out b hb)⟩
              · obtain rfl := Option.some.inj ho
                have z0 := hpre ⟨0, .data⟩ (by simp) rfl
                have z5 := hpre ⟨5, .data⟩ (by simp) rfl
                clear ho hpre hi hcl
                go_wp2_with fail
                unfold AtEnd
                exact ⟨s16, v17, by simp only [more, slot_true, slot_false, Nat.reduceEqDiff, ↓reduceIte, z0, z5], fun h => h0 (by simpa [more] using h), fun h1 h2 => hr (by simpa [more] using h1) (by simpa [more] using h2), fun a1 a2 => h1 (by simpa [more] using a1) (by simpa [more] using a2), fun h => h2 (by simpa [more] using h), hcw⟩
              · obtain rfl := Option.some.inj ho
                have z18 := hpre ⟨18, .data⟩ (by simp) rfl
                have z17 := hpre ⟨17, .data⟩ (by simp) rfl
                clear ho hpre hi hcl
                obtain ⟨wa, ha, hgb, hob, hvb⟩ := h1 z17 hD
                obtain ⟨A7, c7, rfl⟩ := own_slice hob
                have hbg : ∃ t cs, Blk w gm t cs ∧ ii < cs.size := by
                  rcases HM6.out.row.2 with ⟨hv, _⟩ | ⟨g2, cap, cur, hv, hb2, hg2, hnc, hmx, hsz, _⟩
                  · cases hv
                  · injection hv with hv _ _; injection hv with hv; injection hv with hv; subst hv
                    refine ⟨_, cur, ((show Blk w6 gm 31 cur from hg2).chg ha (fun h => h)).grown hgb (fun e => ?_), by omega⟩
                    exact own_ne HEL.out (show Blk w6 gm 31 cur from hg2) (by decide) e.symm
                obtain ⟨tg, cs, hbk, hsz⟩ := hbg
                have cq := hbk.cell ii
                rw [Array.getElem?_eq_getElem hsz] at cq
                have fq := hbk.frozen ii
                have HP := Lib.hid (show Chg NoB w6 wa ∧ wa.grownBy w (Value.slice A0 n0 c0).ownBlock ∧ w.ownsRow w1.heap.size 9 1 (.slice A7 (n0 + 1) c7) (n0 + 1) ((ms ii).map strV ++ [.string ⟨arr⟩]) ∧ ((Value.slice A7 (n0 + 1) c7).ownBlock = (Value.slice A0 n0 c0).ownBlock ∨ (Value.slice A7 (n0 + 1) c7).ownBlock = some wa.heap.size) from ⟨ha, hgb, hob, hvb⟩)
                have HCW := Lib.hid hcw
                clear h0 hr h1 h2 ha hgb hob hvb hbk hcw
                simp only [z17, z18, slot_true]
                go_wp2_with fail
                unfold AtEnd
                exact ⟨s16, (.slice A7 (n0 + 1) c7), by simp only [more, slot_true, slot_false, Nat.reduceEqDiff, ↓reduceIte, z18, z17], fun h => by simp [more, z17] at h, fun _ h => by simp [more, z17] at h, fun _ h => by simp [more] at h, fun _ => ⟨wa, w, HP.out.1, HP.out.2.1, HP.out.2.2.1, HP.out.2.2.2, rfl⟩, fun b hb => (Below.heap_setCell w ⟨gm, ii, none⟩ _ b (by have := HGM.out.1; show b ≠ gm; omega)).trans (HCW.out b hb)⟩
            · intro D a w hall hI
              obtain ⟨s16, v17, rfl, h0, hr, h1, h2, hcw⟩ := hI
              obtain ⟨wa, wb, ha, hgb, hob, hvb, rfl⟩ := h2 (hall 19 (by decide))
              have hob2 : wb.ownsRow w1.heap.size 9 1 v17 ((ms ii).length + 1) ((ms ii).map strV ++ [strV (fillL x.c 512)]) := by
                have e : (Value.string ⟨arr⟩) = strV (fillL x.c 512) := by rw [HARR.out]; rfl
                rw [← e, ← HN0.out.1]; exact hob
              have hfin := HM6.out.append hvi ha (by rw [HU0.out]; exact hgb) hob2 (by rw [HU0.out]; exact hvb)
              have HMF := Lib.hid hfin.1
              have HVL := Lib.hid hfin.2.2
              have hcs := hfin.2.1
              have HD7 := Lib.hid (HD6.out.chg hcs (fun z hz h => h.elim (fun e => HF6.out.1 gm rfl (e ▸ hz)) (fun e => HF6.out.2 ii hvi z e hz)))
              have HC7 := Lib.hid (HC6.out.trans hcs (fun z hz h => h.elim (fun e => by have := HGM.out.1; omega) (fun e => by have := ((HM6.out.elt ii hvi).lt z e).1; have := HGM.out.2; omega)))
              have HF7 := Lib.hid (show MayFree (.slice (some ⟨gm, 0, none⟩) j c9) (vs.set ii v17) F6 from ⟨HF6.out.1, fun i hi b e h => by
                rw [List.getElem_set] at e
                split at e
                · exact (HVL.out b e).elim (fun e2 => HF6.out.2 ii hvi b e2 h) (fun h2 => by have := (HD6.out.rng _ h).2; omega)
                · exact HF6.out.2 i (by simpa using hi) b e h⟩)
              have HL7 := Lib.hid (show ∀ i, (addMs ms ii (fillL x.c 512) i).length ≤ q + 1 + 1 from fun i => by
                unfold addMs; split
                · have := HLN.out i; simp; omega
                · have := HLN.out i; omega)
              clear hcs hfin hob2 ha hgb hob hvb h0 hr h1 h2 hcw hall
              go_wp2_with fail
              go_roundw
              case rel => exact ⟨q + 1, _, F6, _, _, by omega, by simp, HGOOD.out.2, HD7.out, HMF.out, HF7.out, HL7.out, HC7.out⟩
              case measure => simp [intOf]; omega
        · obtain rfl : q = k := by omega
          go_wp2_with fail
          have HK5 := Lib.hid ((HIK.out.1.chg (Nat.le_refl _) HCQ.out (fun _ _ h => h)).more HCQ.out.size)
          refine (HDI.out.crash_ HCQ.out.size (Nat.le_trans HS.out.loose (by omega)) ck HIK.out.2.1 HK5.out HIK.out.2.2.1 (fun h0 ad e h => by
            obtain ⟨ad2, e2, hb2, _⟩ := HIK.out.1.2 h0
            rw [e] at e2; injection e2 with e2
            have h1 := (HDI.out.rng _ h).1
            rw [e2] at h1; omega) HIK.out.2.2.2).mono ?_
          rintro e w7 ⟨rfl, F7, hD7, hc7, hg7⟩
          have HCR := Lib.hid (HS.out.crashed (by obtain ⟨bs, bn, v, hd, _⟩ := HDI.out.disk; exact fun p hp => (hd.rng p hp).2.2) (zk.take nk))
          have HD7 := Lib.hid hD7
          have HC7 := Lib.hid (HDI.out.base HCQ.out hc7)
          have HM7 := Lib.hid (HMY.out.chg hc7 HFR.out)
          have HMSL := Lib.hid (show ∀ i, (ms i).length ≤ 100 from fun i => Nat.le_trans (HLN.out i) (by omega))
          have HYL := Lib.hid HS.out.len
          have HKN := Lib.hid (show (K'.crash (zk.take nk)).n = (j : Int) from HS.out.n)
          obtain ⟨KC, hKC⟩ : ∃ KC, KC = K'.crash (zk.take nk) := ⟨_, rfl⟩
          have HKD := Lib.hid (show KC.dark = false from by rw [hKC]; rfl)
          rw [← hKC] at HCR HD7 HKN
          clear hKC hD7 hc7 hg7 HK5 HDI HCQ HMY HFR HLN HS
          go_wp2_with fail
          go_loopw [13] (fun i wr => ∃ p : Nat, p ≤ j ∧ i = .int .i64 p ∧ Chg NoB w7 wr) (fun i _ => j - (intOf i).toNat)
          case atStart => exact ⟨0, by omega, rfl, Chg.refl _ _⟩
          case round =>
            obtain ⟨p, hp, rfl, hch3⟩ := hrel
            have HC3 := Lib.hid hch3
            clear hch3
            by_cases hlp : p < j
            · go_wp2_with fail
              refine ((HD7.out.no HC3.out).disk.read (p : Int)).mono ?_
              have hr0 : readE KC (p : Int) = 0 := by
                unfold readE
                rw [if_neg (by rw [HKN.out]; omega), if_neg (by rw [HKD.out]; decide)]
              rintro e w8 (⟨h, _⟩ | ⟨_, ⟨b8, rfl, hbl8, hb8⟩, hc8⟩)
              · exact absurd hr0 h
              obtain ⟨X, hX⟩ : ∃ X, X = KC.now (p : Int) := ⟨_, rfl⟩
              rw [← hX] at hb8
              have hXl : X.length = 512 := by rw [hX]; obtain ⟨bs, bn, v, hd, _⟩ := HD7.out.disk; exact hd.now.len _
              have HXL := Lib.hid hXl
              have HBY := Lib.hid (show ByteOf (ms p) X ∧ (p = 0 → X ∈ ms p) from ⟨by rw [hX]; exact HCR.out.1 p, fun h => by subst h; rw [hX]; exact HCR.out.2⟩)
              have HB8 := Lib.hid (show Blk w8 b8 65 ((X.map bv).toArray) from hb8)
              have HM8 := Lib.hid ((HM7.out.no HC3.out).no hc8)
              have hcc8 := Lib.hid hc8
              have hvp : p < vs.length := by rw [HM8.out.len]; exact hlp
              obtain ⟨gm, hgm, cg⟩ := own_cell HM8.out.row hlp
              subst hgm
              obtain ⟨Ap, cp, hup⟩ := own_slice (HM8.out.elt p hvp)
              rw [List.getElem?_eq_getElem hvp, hup] at cg
              have hel := HM8.out.elt p hvp
              rw [hup] at hel
              obtain ⟨np, hnp⟩ : ∃ np, np = (ms p).length := ⟨_, rfl⟩
              rw [← hnp] at cg hel
              have hnp100 : np ≤ 100 := by rw [hnp]; exact HMSL.out p
              have HNP := Lib.hid hnp
              have HEL := Lib.hid hel
              have HCG := Lib.hid (show w8.cell? ⟨gm, p, none⟩ = some (.slice Ap np cp) ∧ gm < w8.heap.size from ⟨cg, (HM8.out.row.lt gm rfl).2⟩)
              obtain ⟨arx, harx⟩ : ∃ arx, arx = X.toArray := ⟨_, rfl⟩
              have HARX := Lib.hid harx
              clear hr0 hX hXl hb8 hbl8 hc8 cg hel hup hnp harx
              go_wp2_with fail
              go_loopw [16, 17] (fun s i w => ∃ (kk : Nat) (bb : Bool), kk ≤ np ∧ i = .int .i64 kk ∧ s = .bool bb ∧ Hid (bb = true ↔ X ∈ (ms p).take kk) ∧ Chg NoB w8 w) (fun _ i _ => np - (intOf i).toNat)
              case atStart => exact ⟨0, false, Nat.zero_le _, rfl, rfl, (by simp : (false = true) ↔ X ∈ (ms p).take 0), Chg.refl _ _⟩
              case round =>
                obtain ⟨kk, bb, hkk, rfl, rfl, HBB, hch4⟩ := hrel
                have HC4 := Lib.hid hch4
                have cg4 := (cell_of_heap (w := w8) (p := ⟨gm, p, none⟩) (hch4.block _ HCG.out.2 (fun h => h))).trans HCG.out.1
                have hst4 := fun m : Nat => (blk_RB ((HB8.out.chg hch4 (fun h => h)).drewN m)).toStr (n := 512) HXL.out 512 Try.underlying30 Try.underlying5 Try.underlying9
                rw [← HARX.out] at hst4
                have hel4 := ownsRow_chg HEL.out hch4 (fun _ _ h => h)
                clear hch4
                by_cases hlk : kk < np
                · obtain ⟨gp, hgp, cy⟩ := own_cell hel4 hlk
                  subst hgp
                  have hky : kk < (ms p).length := by rw [← HNP.out]; exact hlk
                  obtain ⟨y, hy⟩ : ∃ y, y = (ms p)[kk]'hky := ⟨_, rfl⟩
                  have htk : (ms p).take (kk + 1) = (ms p).take kk ++ [y] := by rw [hy, List.take_succ_eq_append_getElem]
                  have HTK := Lib.hid htk
                  obtain ⟨ary, hary⟩ : ∃ ary, ary = y.toArray := ⟨_, rfl⟩
                  rw [List.getElem?_map, List.getElem?_eq_getElem hky, ← hy, Option.map_some, show strV y = Value.string ⟨ary⟩ from by rw [hary]; rfl] at cy
                  clear hy htk hel4
                  cases bb with
                  | true =>
                    clear hary
                    go_wp2_with fail
                    go_quiet (fail)
                    go_wp2_with fail
                    go_roundw
                    case rel => exact ⟨kk + 1, true, by omega, by simp, rfl, ⟨fun _ => by rw [HTK.out]; exact List.mem_append_left _ (HBB.out.1 (by simp)), fun _ => rfl⟩, HC4.out.drewN nq⟩
                    case measure => simp [intOf]; omega
                  | false =>
                    by_cases hxy : X = y
                    · have hax : ary = arx := by rw [hary, HARX.out, hxy]
                      subst hax
                      have HXY := Lib.hid hxy
                      clear hary hxy
                      go_wp2_with fail
                      go_quiet (fail)
                      go_wp2_with fail
                      go_roundw
                      case rel => exact ⟨kk + 1, true, by omega, by simp, by simp, ⟨fun _ => by rw [HTK.out, HXY.out]; simp, fun _ => rfl⟩, HC4.out.drewN nq⟩
                      case measure => simp [intOf]; omega
                    · have hax : ¬ ary = arx := fun h => hxy (by rw [hary, HARX.out] at h; exact (Array.mk.inj h).symm)
                      have HXY := Lib.hid hxy
                      clear hary hxy
                      go_wp2_with fail
                      go_quiet (fail)
                      go_wp2_with fail
                      go_roundw
                      case rel => exact ⟨kk + 1, false, by omega, by simp, congrArg Value.bool (str_ne hax), ⟨fun h => (by cases h), fun h => by
                        rw [HTK.out] at h
                        rcases List.mem_append.1 h with h | h
                        · exact HBB.out.2 h
                        · simp at h; exact absurd h HXY.out⟩, HC4.out.drewN nq⟩
                      case measure => simp [intOf]; omega
                · obtain rfl : kk = np := by omega
                  have hall0 : (ms p).take kk = ms p := List.take_of_length_le (by rw [HNP.out]; exact Nat.le_refl _)
                  have hb2 : (bb = true ∧ p = 0) ∨ (bb = true ∧ 0 < (p : Int)) ∨ (bb = false ∧ 0 < (p : Int)) := by
                    rcases Nat.eq_zero_or_pos p with h0 | h0
                    · exact .inl ⟨HBB.out.2 (by rw [hall0]; exact HBY.out.2 h0), h0⟩
                    · cases bb
                      · exact .inr (.inr ⟨rfl, by omega⟩)
                      · exact .inr (.inl ⟨rfl, by omega⟩)
                  clear hel4 hst4 hall0 HBB
                  have hb3 : (bb = true ∧ ((p : Int) == 0) = true) ∨ (bb = true ∧ ((p : Int) == 0) = false) ∨ (bb = false ∧ ((p : Int) == 0) = false) := by
                    rcases hb2 with ⟨h1, h2⟩ | ⟨h1, h2⟩ | ⟨h1, h2⟩
                    · exact .inl ⟨h1, by rw [h2]; rfl⟩
                    · exact .inr (.inl ⟨h1, beq_eq_false_iff_ne.2 (by omega)⟩)
                    · exact .inr (.inr ⟨h1, beq_eq_false_iff_ne.2 (by omega)⟩)
                  clear hb2
                  rcases hb3 with ⟨rfl, hbq⟩ | ⟨rfl, hbq⟩ | ⟨rfl, hbq⟩
                  all_goals
                    go_wp2_with fail
                    go_loopw [18] (fun i w => ∃ at' : Nat, at' ≤ 512 ∧ i = .int .i64 at' ∧ Chg NoB w8 w) (fun i _ => 512 - (intOf i).toNat)
                    case atStart => exact ⟨0, by omega, rfl, HC4.out⟩
                    case round =>
                      obtain ⟨at', hat', rfl, hch5⟩ := hrel
                      have HC5 := Lib.hid hch5
                      clear hch5
                      by_cases hl5 : at' < 512
                      · have hxq : at' < X.length := by rw [HXL.out]; exact hl5
                        obtain ⟨xb, hxb⟩ : ∃ xb, xb = X[at']'hxq := ⟨_, rfl⟩
                        have HXB := Lib.hid (show X[at']? = some xb from by rw [hxb]; exact List.getElem?_eq_getElem hxq)
                        clear hxb hxq
                        go_wp2_with fail
                        generalize decide ((at' : Int) < 512) = d5
                        go_loopw [19, 20] (fun s i w => ∃ (k2 : Nat) (bb : Bool), k2 ≤ kk ∧ i = .int .i64 k2 ∧ s = .bool bb ∧ Hid (bb = true ↔ ∃ y ∈ (ms p).take k2, y[at']? = some xb) ∧ Chg NoB w8 w) (fun _ i _ => kk - (intOf i).toNat)
                        case atStart => exact ⟨0, false, Nat.zero_le _, rfl, rfl, (by simp : (false = true) ↔ ∃ y ∈ (ms p).take 0, y[at']? = some xb), HC5.out⟩
                        case round =>
                          obtain ⟨k2, bb, hkk, rfl, rfl, HBB, hch6⟩ := hrel
                          have HC6 := Lib.hid hch6
                          have cg4 := (cell_of_heap (w := w8) (p := ⟨gm, p, none⟩) (hch6.block _ HCG.out.2 (fun h => h))).trans HCG.out.1
                          have cx4 := (HB8.out.chg hch6 (fun h => h)).cell at'
                          have hxl2 : ((X.map bv).toArray)[at']? = some (bv xb) := by simp [HXB.out]
                          rw [hxl2] at cx4
                          replace cx4 : wr.cell? ⟨b8, at', none⟩ = some (.int .u8 (xb.toNat : Int)) := cx4
                          have hel4 := ownsRow_chg HEL.out hch6 (fun _ _ h => h)
                          clear hch6 hxl2
                          by_cases hlk : k2 < kk
                          · obtain ⟨gp, hgp, cy⟩ := own_cell hel4 hlk
                            subst hgp
                            have hky : k2 < (ms p).length := by rw [← HNP.out]; exact hlk
                            obtain ⟨y, hy⟩ : ∃ y, y = (ms p)[k2]'hky := ⟨_, rfl⟩
                            have hyl : y.length = 512 := HYL.out p y (by rw [hy]; exact List.getElem_mem hky)
                            obtain ⟨ary, hary⟩ : ∃ ary, ary = y.toArray := ⟨_, rfl⟩
                            rw [List.getElem?_map, List.getElem?_eq_getElem hky, ← hy, Option.map_some, show strV y = Value.string ⟨ary⟩ from by rw [hary]; rfl] at cy
                            have htk : (ms p).take (k2 + 1) = (ms p).take k2 ++ [y] := by rw [hy, List.take_succ_eq_append_getElem]
                            have HTK := Lib.hid htk
                            have hyq : at' < y.length := by rw [hyl]; exact hl5
                            obtain ⟨yb, hyb⟩ : ∃ yb, yb = y[at']'hyq := ⟨_, rfl⟩
                            have HYB := Lib.hid (show y[at']? = some yb from by rw [hyb]; exact List.getElem?_eq_getElem hyq)
                            clear hy htk hel4
                            have hix : ∀ w, (Instr.index 9 (.string ⟨ary⟩) (.int .i64 (at' : Int))).run Try.prog w = .ok (.int .u8 (yb.toNat : Int)) w := fun w => by
                              rw [hary]; exact index_at w y at' yb HYB.out
                            cases bb with
                            | true =>
                              clear hary hyb hix
                              go_wp2_with fail
                              go_quiet (fail)
                              go_wp2_with fail
                              go_roundw
                              case rel => exact ⟨k2 + 1, true, by omega, by simp, rfl, ⟨fun _ => by rw [HTK.out]; obtain ⟨z, hz, he⟩ := HBB.out.1 (by simp); exact ⟨z, List.mem_append_left _ hz, he⟩, fun _ => rfl⟩, HC6.out.drewN nq⟩
                              case measure => simp [intOf]; omega
                            | false =>
                              go_wp2_with fail
                              go_quiet (fail)
                              go_wp2_with fail
                              go_roundw
                              case rel =>
                                refine ⟨k2 + 1, (yb == xb), by omega, by simp, ?_, ⟨fun h => by rw [HTK.out]; exact ⟨y, by simp, by rw [HYB.out, beq_iff_eq.1 h]⟩, fun h => by
                                  obtain ⟨z, hz, he⟩ := h
                                  rw [HTK.out] at hz
                                  rcases List.mem_append.1 hz with hz | hz
                                  · exact absurd (HBB.out.2 ⟨z, hz, he⟩) (by simp)
                                  · simp at hz; subst hz; rw [HYB.out] at he; injection he with he; simp [he]⟩, HC6.out.drewN nq⟩
                                exact (congrArg (fun z : UInt8 => Value.bool (((z.toNat : Int)) == ((xb.toNat : Int)))) hyb.symm).trans (byte_eq yb xb)
                              case measure => simp [intOf]; omega
                          · obtain rfl : k2 = kk := by omega
                            have hbt : bb = true := by
                              obtain ⟨z, hz, he⟩ := HBY.out.1 at' (by rw [HXL.out]; exact hl5)
                              exact HBB.out.2 ⟨z, by rw [List.take_of_length_le (by rw [HNP.out]; exact Nat.le_refl _)]; exact hz, he.trans HXB.out⟩
                            subst hbt
                            go_wp2_with fail
                            go_roundw
                            case rel => exact ⟨at' + 1, by omega, by simp, HC6.out⟩
                            case measure => simp [intOf]; omega
                      · obtain rfl : at' = 512 := by omega
                        go_wp2_with fail
                        go_roundw
                        case rel => exact ⟨p + 1, by omega, by simp, HC3.out.trans (hcc8.out.trans HC5.out (fun _ _ h => h)) (fun _ _ h => h)⟩
                        case measure => simp [intOf]; omega
            · obtain rfl : p = j := by omega
              go_wp2_with fail
              refine (lives_any _).mono ?_
              rintro e w11 ⟨rfl, hc11⟩
              go_wp2_with fail
              go_ret
              exact ⟨rfl, ((HC7.out.trans HC3.out (fun _ _ h => h)).trans hc11 (fun _ _ h => h)).no⟩
end Go.Proofs.Ytmkbahhnjobglaa
