/-
  THE WALK of SectorSure.
-/
import Derived.Test.YtmkbahhnjobglaaSecWhole
namespace Go.Proofs.Ytmkbahhnjobglaa
open Go.RowKit
set_option linter.unusedSimpArgs false
set_option linter.unusedVariables false
/-- a disk whose loose writes are in sectors that are marked; what is sure is f -/
structure SOk (K : Dk) (f : Int → List UInt8) (nn m : Nat) (wr : Int → Bool) : Prop where
  n : K.n = (nn : Int)
  sure : K.sure = f
  loose : K.loose.length ≤ m
  mark : ∀ p ∈ K.loose, 0 ≤ p.1 ∧ p.1 < (nn : Int) ∧ wr p.1 = true
theorem SOk.write_ {K : Dk} {f : Int → List UInt8} {nn m : Nat} {wr wr' : Int → Bool} (h : SOk K f nn m wr) (i : Int) (l : List UInt8) (hm : ∀ j, wr j = true → wr' j = true) (hi : 0 ≤ i → i < (nn : Int) → wr' i = true) : SOk (K.write i l) f nn (m + 1) wr' := by
  unfold Dk.write
  split
  · exact ⟨h.n, h.sure, Nat.le_trans h.loose (by omega), fun p hp => ⟨(h.mark p hp).1, (h.mark p hp).2.1, hm _ (h.mark p hp).2.2⟩⟩
  · rename_i hb
    have hb2 : ¬ wBad K i l := fun h => hb (.inl h)
    unfold wBad at hb2
    rw [h.n] at hb2
    refine ⟨h.n, h.sure, ?_, fun p hp => ?_⟩
    · show (K.loose ++ [(i, l)]).length ≤ m + 1
      have := h.loose
      simp; omega
    · have hp : p ∈ K.loose ++ [(i, l)] := hp
      rcases List.mem_append.1 hp with hp | hp
      · exact ⟨(h.mark p hp).1, (h.mark p hp).2.1, hm _ (h.mark p hp).2.2⟩
      · simp at hp; subst hp
        exact ⟨by omega, by omega, hi (by omega) (by omega)⟩
theorem SOk.keep {K : Dk} {f : Int → List UInt8} {nn m m' : Nat} {wr wr' : Int → Bool} (h : SOk K f nn m wr) (hm : ∀ j, wr j = true → wr' j = true) (hmm : m ≤ m') : SOk K f nn m' wr' :=
  ⟨h.n, h.sure, Nat.le_trans h.loose hmm, fun p hp => ⟨(h.mark p hp).1, (h.mark p hp).2.1, hm _ (h.mark p hp).2.2⟩⟩
theorem crash_far (ks : List Int) (i : Int) : ∀ (ps : List (Int × List UInt8)) (f : Int → List UInt8) (k : Nat), (∀ p ∈ ps, p.1 ≠ i) → (ps.zipIdx k).foldl (fun f x => torn f x.1 (cOf true ks x.2)) f i = f i := by
  intro ps
  induction ps with
  | nil => intro f k _; rfl
  | cons p r ih =>
    intro f k hp
    simp only [List.zipIdx_cons, List.foldl_cons]
    rw [ih _ _ (fun q hq => hp q (by simp [hq]))]
    unfold torn upd
    rw [if_neg (fun e => hp p (by simp) e.symm)]
theorem SOk.crashed {K : Dk} {f : Int → List UInt8} {nn m : Nat} {wr : Int → Bool} (h : SOk K f nn m wr) (ks : List Int) {i : Int} (hi : wr i = false) : (K.crash ks).now i = f i := by
  show crashF K.sure ks K.loose i = f i
  rw [h.sure]
  exact crash_far ks i K.loose f 0 (fun p hp e => by have := (h.mark p hp).2.2; rw [e, hi] at this; cases this)
/-- the marks, as cells -/
def marks (wr : Int → Bool) (n : Nat) : Array Value := ((List.range n).map fun (i : Nat) => Value.bool (wr (i : Int))).toArray
def mark (wr : Int → Bool) (j : Int) : Int → Bool := fun i => if i = j then true else wr i
theorem marks_at (wr : Int → Bool) {n j : Nat} (hj : j < n) : (marks wr n)[j]? = some (.bool (wr (j : Int))) := by simp [marks, hj]
theorem marks_set (wr : Int → Bool) (n : Nat) {j : Nat} (hj : j < n) : (marks wr n).setIfInBounds j (.bool true) = marks (mark wr (j : Int)) n := by
  apply Array.ext
  · simp [marks]
  · intro i h1 h2
    simp [marks] at h1 h2
    simp only [marks, Array.getElem_setIfInBounds, List.getElem_toArray, List.getElem_map, List.getElem_range, mark]
    by_cases h : i = j
    · subst h; simp
    · have h3 : ¬ (i : Int) = (j : Int) := by omega
      simp [h3, Ne.symm h, marks]
theorem marks_zero (n : Nat) : marks (fun _ => false) n = Array.replicate n (.bool false) := by
  apply Array.ext <;> simp [marks]
theorem bool_info : (Try.prog.info? 4).map (fun i => (i.zero, i.size, i.bytes)) = some (some (.bool false), 1, 1) := by kernel_rfl
theorem bool_full : ∃ i, Try.prog.info? 4 = some i ∧ i.zero = some (.bool false) ∧ i.size = 1 ∧ i.bytes = 1 := by
  have h := bool_info
  cases hi : Try.prog.info? 4 with
  | none => rw [hi] at h; cases h
  | some i => rw [hi] at h; simp at h; exact ⟨i, rfl, h.1, h.2.1, h.2.2⟩
theorem make_marks (nn : Nat) (hn : nn ≤ 40) (w : World) : (Instr.makeSlice 46 (.int .i64 (nn : Int)) (.int .i64 (nn : Int))).run Try.prog w = .ok (.slice (some ⟨w.heap.size, 0, none⟩) nn nn) (w.alloc (.cells (marks (fun _ => false) nn) 4)) := by
  obtain ⟨i, hi, hz, hs, hb⟩ := bool_full
  rw [run_makeSlice w 46 4 i _ Try.underlying46 hi hz .i64 .i64 nn nn (by omega) (by omega) (by rw [hs]; omega) (by rw [hb]; omega) (by omega), hs, marks_zero]
  have hv : (Value.bool false).cells = #[.bool false] := rfl
  rw [hv]
  congr 3
  apply Array.ext <;> simp [madeCells, Nat.mod_one]
theorem i64_row {w : World} {a : Option Addr} {len cap : Nat} {zs : List Int} (h : IsRow .i64 w a len cap zs) : IB w w.heap.size a (zs.take len) ∧ (zs.take len).length = len ∧ (a = none → len = 0 ∧ cap = 0) ∧ ∀ k ∈ zs.take len, -9223372036854775808 ≤ k ∧ k ≤ 9223372036854775807 := by
  rcases h with ⟨rfl, rfl, rfl, rfl⟩ | ⟨x, rfl, hl, hm, hz, hc, hw⟩
  · exact ⟨IB.none_, rfl, fun _ => ⟨rfl, rfl⟩, fun k hk => (by cases hk)⟩
  · refine ⟨⟨by simp, fun hp => ⟨x, rfl, ?_, fun j u hu => ?_⟩⟩, by simp; omega, fun h => (by cases h), fun k hk => i64_of (hw k (List.mem_of_mem_take hk))⟩
    · have := block_lt_of_cell (hc 0 (by simp at hp; omega))
      rwa [block_of_add] at this
    · have hj : j < len := by
        rcases Nat.lt_or_ge j len with h | h
        · exact h
        · rw [List.getElem?_eq_none (by simp; omega)] at hu; cases hu
      have hjz : j < zs.length := by omega
      rw [hc j hjz, ← hu]
      simp [List.getElem?_take, hj, List.getElem?_eq_getElem hjz]
def OkW (Mid : Act → World → Prop) (e : Exit) (a : Act) (w : World) : Prop := e = .normal ∧ Mid a w
/-- a sequence cut in two: between the parts a midway fact, in which the slots that do not matter are named by a function -/
theorem cutW {P : Program} {Q : Exit → Act → World → Prop} {x y : Code} {a : Act} {w : World} (Mid : (Nat → Value) → Act → World → Prop) (hx : ∀ M : Act → World → Prop, RowKit.Hid (∀ a w, Mid (fun i => a.tmps.getD i undef) a w → M a w) → x.wp P (OkW M) a w) (hy : ∀ u a w, Mid u a w → y.wp P Q a w) : (Code.seq x y).wp P Q a w :=
  wp_seq (wp_mono (hx (fun a w => Mid (fun i => a.tmps.getD i undef) a w) (Lib.hid fun _ _ h => h)) (fun e a w ⟨he, h⟩ => by subst he; exact hy _ a w h))
def InvSu (u : Nat → Value) (v4 : Value) (d1 d2 d3 d4 : Bool) (A A12 Ak : Option Addr) (nn k c c12 nk ck bm g k2 c2 j NN : Nat) (ad : Addr) (fuse xi xlong : Int) (xc : UInt8) (F : Nat → Prop) (W w0 : World) (K2 : Dk) (D : Nat → Bool) (a : Act) (w : World) : Prop :=
  ∃ (s16 : Nat) (v17 : Value), a = { tmps := #[.int .i64 (nn : Int), .slice A k c, .slice (some ad) k2 c2, .int .i64 fuse, .slice Ak nk ck, undef, undef, undef, undef, undef, .bool false, .pointer (some ⟨g, 0, none⟩), .slice A12 nn c12, .slice (some ⟨bm, 0, none⟩) nn nn, .int .i64 (j : Int), undef, undef, .int .i64 (nn : Int), .bool d1, .bool d1, .int .i64 (nn : Int), .bool d2, .bool (d1 || d2), .bool (d1 || d2), .slice A k c, .int .i64 (k : Int), .bool d3, .bool (d1 || d2 || d3), .bool (d1 || d2 || d3), .slice (some ad) k2 c2, .int .i64 (k2 : Int), .bool d4, .bool (d1 || d2 || d3 || d4), undef, .int .i64 (nn : Int), .slice A k c, .pointer (some ⟨g, 0, none⟩), .pointer (some ⟨g, 0, none⟩), .bool false, .bool false, .pointer (some ⟨g, 0, none⟩), .int .i64 0, .bool false, .bool false, .pointer (some ⟨g, 0, none⟩), .slice A12 nn c12, .pointer (some ⟨g, 0, none⟩), .int .i64 fuse, v4, .int .i64 (nn : Int), .slice (some ⟨bm, 0, none⟩) nn nn, u 51, u 52, u 53, u 54, u 55, u 56, u 57, u 58, u 59, u 60, u 61, u 62, u 63, u 64, u 65, u 66, u 67, u 68, u 69, u 70, u 71, u 72, u 73, u 74, u 75, u 76, u 77, u 78, u 79, u 80, u 81, u 82, u 83, u 84, u 85, u 86, u 87, u 88, u 89, u 90, u 91, u 92, u 93, u 94, u 95, u 96, u 97, .bool true, (slot (D 0) (.pointer (some ⟨g, 0, none⟩)) (u 99)), (slot (D 1) (.slice (some ad) k2 c2) (u 100)), (slot (D 2) (.int .i64 (j : Int)) (u 101)), (slot (D 3) (.pointer (some (ad.add (j * 5)))) (u 102)), (slot (D 4) (.pointer (some ⟨(ad.add (j * 5)).block, (ad.add (j * 5)).off + 1, none⟩)) (u 103)), (slot (D 5) (.int .i64 xi) (u 104)), (slot (D 6) (.slice (some ad) k2 c2) (u 105)), (slot (D 7) (.int .i64 (j : Int)) (u 106)), (slot (D 8) (.pointer (some (ad.add (j * 5)))) (u 107)), (slot (D 9) (.pointer (some ⟨(ad.add (j * 5)).block, (ad.add (j * 5)).off + 2, none⟩)) (u 108)), (slot (D 10) (.int .u8 (xc.toNat : Int)) (u 109)), (slot (D 11) (.slice (some ad) k2 c2) (u 110)), (slot (D 12) (.int .i64 (j : Int)) (u 111)), (slot (D 13) (.pointer (some (ad.add (j * 5)))) (u 112)), (slot (D 14) (.pointer (some ⟨(ad.add (j * 5)).block, (ad.add (j * 5)).off + 3, none⟩)) (u 113)), (slot (D 15) (.int .i64 xlong) (u 114)), (slot (D 16) (.slice (some ⟨s16, 0, none⟩) NN NN) (u 115)), (slot (D 17) (v17) (u 116)), undef, undef, undef, undef, undef, undef, undef, undef, undef, undef, undef, undef, undef, undef, undef, undef, undef, undef, undef, undef, undef, undef, undef, undef, undef, undef, undef, undef, undef, undef, undef, undef, undef, undef, undef, undef, undef], defers := [] } ∧
    (D 16 = true → D 17 = false → Blk w s16 5 ((fillL xc NN).map bv).toArray) ∧
    (D 17 = false → Chg NoB w0 w) ∧
    (D 17 = true → ∃ w6 F5, Chg NoB w0 w6 ∧ DI W.heap.size w g K2 F5 ∧ Chg F w6 w ∧ ∀ i, F5 i → F i ∨ w6.heap.size ≤ i) ∧
    (w0.heap.size ≤ w.heap.size)
set_option maxRecDepth 100000 in
set_option maxHeartbeats 8000000 in
theorem sectorSure_walk (n : Int) (A : Option Addr) (k c : Nat) (l : List ActV) (A2 : Option Addr) (k2 c2 : Nat) (l2 : List ActV) (fuse : Int) (Ak : Option Addr) (nk ck : Nat) (zk : List Int) (W : World) (_ : (Lit.int .i64 n).wf = true) (hA : Acts W W.heap.size A k l) (hA2 : Acts W W.heap.size A2 k2 l2) (hfw : (Lit.int .i64 fuse).wf = true) (hik : IsRow .i64 W Ak nk ck zk) :
    Calls Try.prog 5 #[.int .i64 n, .slice A k c, .slice A2 k2 c2, .int .i64 fuse, .slice Ak nk ck] W fun e W' => e = .returned (.bool true) ∧ Below W.heap.size W W' := by
  have HA := Lib.hid hA
  have HA2 := Lib.hid hA2
  have HFR := Lib.hid (i64_of hfw)
  have HIK := Lib.hid (i64_row hik)
  clear hA hA2 hfw hik
  have hcase : (n < 1) ∨ (1 ≤ n ∧ 40 < n) ∨ (1 ≤ n ∧ n ≤ 40 ∧ 40 < k) ∨ (1 ≤ n ∧ n ≤ 40 ∧ k ≤ 40 ∧ 40 < k2) ∨ (1 ≤ n ∧ n ≤ 40 ∧ k ≤ 40 ∧ k2 ≤ 40) := by omega
  rcases hcase with h1 | ⟨h1, h2⟩ | ⟨h1, h2, h3⟩ | ⟨h1, h2, h3, h4⟩ | ⟨h1, h2, h3, h4⟩
  iterate 4
    · go_enter Try.func5, Try.ntmps5
      go_wp2_with fail
      refine (lives_any W).mono ?_
      rintro e w1 ⟨rfl, hc1⟩
      go_wp2_with fail
      go_ret
      exact ⟨rfl, hc1.no⟩
  obtain ⟨nn, rfl⟩ : ∃ nn : Nat, n = (nn : Int) := ⟨n.toNat, by omega⟩
  have HN := Lib.hid (show 1 ≤ nn ∧ nn ≤ 40 from by omega)
  have HDK := Lib.hid ((DOk.done_ (nn : Int) l).more (show l.length ≤ 40 from by rw [HA.out.1]; exact h3))
  obtain ⟨K, hK⟩ : ∃ K, K = doneK (nn : Int) l := ⟨_, rfl⟩
  have hdn := done_any (nn : Int) A k c l W HA.out h1 (by omega) h3
  rw [← hK] at hdn HDK
  have HDN := Lib.hid hdn
  clear hdn hK
  have hmk := make_marks nn HN.out.2
  go_enter Try.func5, Try.ntmps5
  go_wp2_with fail
  refine HDN.out.mono ?_
  rintro e w1 ⟨g, F1, rfl, hD1, hc1⟩
  have HD1 := Lib.hid hD1
  have HC1 := Lib.hid hc1
  clear hD1 hc1 HDN
  -- Sync
  go_wp2_with fail
  refine (HD1.out.sync_ HC1.out.size (Nat.le_trans HDK.out.loose (by decide))).mono ?_
  rintro e w2 ⟨rfl, F2, hD2, hc2, hg2⟩
  rw [HDK.out.synced.1]
  have HD2 := Lib.hid hD2
  have HC2 := Lib.hid (HD1.out.base HC1.out hc2)
  clear hD2 hc2 hg2 HD1 HC1
  obtain ⟨f, hf⟩ : ∃ f, f = K.now := ⟨_, rfl⟩
  have HSY := Lib.hid (show K.sync.now = f ∧ K.sync.sure = f ∧ K.sync.loose = [] ∧ K.sync.n = (nn : Int) ∧ K.sync.dark = false from ⟨by rw [HDK.out.synced.2.2.2, hf], by rw [HDK.out.synced.2.2.1, hf], HDK.out.synced.2.1, HDK.out.sync_.n, HDK.out.sync_.dark⟩)
  clear hf
  -- was
  go_wp2_with fail
  refine (all_any _ g K.sync F2 w2 HD2.out HSY.out.2.2.2.2 nn HSY.out.2.2.2.1 (by have := HN.out; omega)).mono ?_
  rintro e w3 ⟨v12, rfl, ho3, hc3⟩
  obtain ⟨A12, c12, rfl⟩ := own_slice ho3
  rw [HSY.out.1] at ho3
  have HO3 := Lib.hid (show w3.ownsRow w2.heap.size 9 1 (.slice A12 nn c12) nn (secs f nn) ∧ ∀ j, (Value.slice A12 nn c12).ownBlock = some j → ¬ F2 j from ⟨ho3, fun j e h => by have := (ho3.lt j e).1; have := (HD2.out.rng _ h).2; omega⟩)
  have HD3 := Lib.hid (HD2.out.no hc3)
  have HC3 := Lib.hid (HC2.out.trans hc3 (fun _ _ h => h))
  clear ho3 hc3 HD2 HC2
  -- Fuse
  go_wp2_with fail
  refine (HD3.out.fuse_ HC3.out.size fuse HFR.out.2).mono ?_
  rintro e w4 ⟨⟨v4, rfl⟩, F4, hD4, hc4, hg4⟩
  have HD4 := Lib.hid hD4
  have HC4 := Lib.hid (HD3.out.base HC3.out hc4)
  have HO4 := Lib.hid (keepRow hc4 hg4 HO3.out)
  have HSK := Lib.hid (show SOk (K.sync.armed fuse) f nn 0 (fun _ => false) from ⟨HSY.out.2.2.2.1, HSY.out.2.1, by show K.sync.loose.length ≤ 0; rw [HSY.out.2.2.1]; exact Nat.le_refl _, fun p hp => by have hp : p ∈ K.sync.loose := hp; rw [HSY.out.2.2.1] at hp; cases hp⟩)
  clear hD4 hc4 hg4 HD3 HC3 HO3
  -- wrote
  have hw5 := Blk.new w4 4 (marks (fun _ => false) nn)
  have hc5 : Chg NoB w4 (w4.alloc (.cells (marks (fun _ => false) nn) 4)) := (Chg.refl _ _).alloc _
  obtain ⟨w5, hw5e⟩ : ∃ w5, w5 = w4.alloc (.cells (marks (fun _ => false) nn) 4) := ⟨_, rfl⟩
  obtain ⟨bm, hbm⟩ : ∃ bm, bm = w4.heap.size := ⟨_, rfl⟩
  have HBM := Lib.hid (show w4.heap.size ≤ bm ∧ ¬ F4 bm from ⟨by omega, fun h => by have := (HD4.out.rng _ h).2; omega⟩)
  go_wp2_with fail
  rw [← hw5e, ← hbm]
  rw [← hw5e] at hw5 hc5
  rw [← hbm] at hw5
  have HB5 := Lib.hid hw5
  have HD5 := Lib.hid (HD4.out.no hc5)
  have HC5 := Lib.hid (HC4.out.trans hc5 (fun _ _ h => h))
  have HO5 := Lib.hid (keepRowNo hc5 HO4.out)
  have HCW := Lib.hid (show W.heap.size ≤ w4.heap.size from HC4.out.size)
  have HOB := Lib.hid (show ∀ j, (Value.slice A12 nn c12).ownBlock = some j → j ≠ bm from fun j e => by have := (HO4.out.1.lt j e).2; omega)
  clear hw5 hc5 hw5e hbm hmk HD4 HC4 HO4
  generalize decide ((nn : Int) < 1) = d1
  generalize decide ((40 : Int) < (nn : Int)) = d2
  generalize decide ((40 : Int) < (k : Int)) = d3
  generalize decide ((40 : Int) < (k2 : Int)) = d4
  go_loopw [14] (fun i wr => ∃ (j : Nat) (K' : Dk) (F' : Nat → Prop) (mk : Int → Bool), j ≤ k2 ∧ i = .int .i64 j ∧ Hid (SOk K' f nn j mk) ∧ Hid (DI W.heap.size wr g K' F') ∧ Hid (Blk wr bm 4 (marks mk nn) ∧ ¬ F' bm) ∧ Hid (wr.ownsRow w2.heap.size 9 1 (.slice A12 nn c12) nn (secs f nn) ∧ ∀ j, (Value.slice A12 nn c12).ownBlock = some j → ¬ F' j) ∧ Hid (Chg NoB W wr)) (fun i _ => k2 - (intOf i).toNat)
  case atStart => exact ⟨0, _, F4, _, Nat.zero_le _, rfl, HSK.out, HD5.out, ⟨HB5.out, HBM.out.2⟩, HO5.out, HC5.out⟩
  case round =>
    obtain ⟨j, K', F', mk, hj, rfl, HS, HDI, HBL, HRW, HCH⟩ := hrel
    have hcl := HCH.out
    have hj40 : (j : Int) < 40 ∨ ¬ j < k2 := by omega
    by_cases hlt : j < k2
    · obtain ⟨ad, x, rfl, hadb, hxj, hat, hok⟩ := HA2.out.at_ hlt
      have HOK := Lib.hid hok
      have hA3 := HA2.out.no HCH.out (Nat.le_refl _)
      obtain ⟨ad', x', e1, _, e2, hat2, hok2⟩ := hA3.at_ hlt
      obtain rfl : ad = ad' := by injection e1
      obtain rfl : x = x' := by rw [hxj] at e2; injection e2
      have c0 := hat2.c0
      have c1 := hat2.c1
      have HAT := Lib.hid hat2
      have HXJ := Lib.hid hxj
      have HLJ := Lib.hid (show K'.loose.length ≤ 60 from Nat.le_trans HS.out.loose (by omega))
      clear e1 e2 hat hok hok2 hA3 hat2 hxj hj40 hcl
      have hkind : x.kind = 2 ∨ (¬ x.kind = 1 ∧ ¬ x.kind = 2) ∨ x.kind = 1 := by omega
      rcases hkind with hk2 | ⟨hk1, hk2⟩ | hk1
      · go_wp2_with fail
        go_roundw
        case rel => exact ⟨j + 1, K', F', mk, by omega, by simp, HS.out.keep (fun _ h => h) (by omega), HDI.out, HBL.out, HRW.out, HCH.out⟩
        case measure => simp [intOf]; omega
      · go_wp2_with fail
        go_roundw
        case rel => exact ⟨j + 1, K', F', mk, by omega, by simp, HS.out.keep (fun _ h => h) (by omega), HDI.out, HBL.out, HRW.out, HCH.out⟩
        case measure => simp [intOf]; omega
      · have HAD := Lib.hid (show (ad.add (j * 5)).block < W.heap.size from by rw [block_of_add]; exact hadb)
        refine cutW (fun u a w' => a = ({ tmps := #[.int .i64 (nn : Int), .slice A k c, .slice (some ad) k2 c2, .int .i64 fuse, .slice Ak nk ck, undef, undef, undef, undef, undef, .bool false, .pointer (some ⟨g, 0, none⟩), .slice A12 nn c12, .slice (some ⟨bm, 0, none⟩) nn nn, .int .i64 (j : Int), undef, undef, .int .i64 (nn : Int), .bool d1, .bool d1, .int .i64 (nn : Int), .bool d2, .bool (d1 || d2), .bool (d1 || d2), .slice A k c, .int .i64 (k : Int), .bool d3, .bool (d1 || d2 || d3), .bool (d1 || d2 || d3), .slice (some ad) k2 c2, .int .i64 (k2 : Int), .bool d4, .bool (d1 || d2 || d3 || d4), undef, .int .i64 (nn : Int), .slice A k c, .pointer (some ⟨g, 0, none⟩), .pointer (some ⟨g, 0, none⟩), .bool false, .bool false, .pointer (some ⟨g, 0, none⟩), .int .i64 0, .bool false, .bool false, .pointer (some ⟨g, 0, none⟩), .slice A12 nn c12, .pointer (some ⟨g, 0, none⟩), .int .i64 fuse, v4, .int .i64 (nn : Int), .slice (some ⟨bm, 0, none⟩) nn nn, u 51, u 52, u 53, u 54, u 55, u 56, u 57, u 58, u 59, u 60, u 61, u 62, u 63, u 64, u 65, u 66, u 67, u 68, u 69, u 70, u 71, u 72, u 73, u 74, u 75, u 76, u 77, u 78, u 79, u 80, u 81, u 82, u 83, u 84, u 85, u 86, u 87, u 88, u 89, u 90, u 91, u 92, u 93, u 94, u 95, u 96, u 97, u 98, u 99, u 100, u 101, u 102, u 103, u 104, u 105, u 106, u 107, u 108, u 109, u 110, u 111, u 112, u 113, u 114, u 115, u 116, undef, undef, undef, undef, undef, undef, undef, undef, undef, undef, undef, undef, undef, undef, undef, undef, undef, undef, undef, undef, undef, undef, undef, undef, undef, undef, undef, undef, undef, undef, undef, undef, undef, undef, undef, undef, undef], defers := [] } : Act) ∧ wr = w') ?_ ?_
        · intro M hM
          go_wp2_with fail
          exact ⟨rfl, hM.out _ _ ⟨rfl, rfl⟩⟩
        rintro u _ _ ⟨rfl, rfl⟩
        refine wp_seq ?_
        refine wp_block ?_
        refine cutW (fun u a w' => a = ({ tmps := #[.int .i64 (nn : Int), .slice A k c, .slice (some ad) k2 c2, .int .i64 fuse, .slice Ak nk ck, undef, undef, undef, undef, undef, .bool false, .pointer (some ⟨g, 0, none⟩), .slice A12 nn c12, .slice (some ⟨bm, 0, none⟩) nn nn, .int .i64 (j : Int), undef, undef, .int .i64 (nn : Int), .bool d1, .bool d1, .int .i64 (nn : Int), .bool d2, .bool (d1 || d2), .bool (d1 || d2), .slice A k c, .int .i64 (k : Int), .bool d3, .bool (d1 || d2 || d3), .bool (d1 || d2 || d3), .slice (some ad) k2 c2, .int .i64 (k2 : Int), .bool d4, .bool (d1 || d2 || d3 || d4), undef, .int .i64 (nn : Int), .slice A k c, .pointer (some ⟨g, 0, none⟩), .pointer (some ⟨g, 0, none⟩), .bool false, .bool false, .pointer (some ⟨g, 0, none⟩), .int .i64 0, .bool false, .bool false, .pointer (some ⟨g, 0, none⟩), .slice A12 nn c12, .pointer (some ⟨g, 0, none⟩), .int .i64 fuse, v4, .int .i64 (nn : Int), .slice (some ⟨bm, 0, none⟩) nn nn, u 51, u 52, u 53, u 54, u 55, u 56, u 57, u 58, u 59, u 60, u 61, u 62, u 63, u 64, u 65, u 66, u 67, u 68, u 69, u 70, u 71, u 72, u 73, u 74, u 75, u 76, u 77, u 78, u 79, u 80, u 81, u 82, u 83, u 84, u 85, u 86, u 87, u 88, u 89, u 90, u 91, u 92, u 93, u 94, u 95, u 96, u 97, u 98, u 99, u 100, u 101, u 102, u 103, u 104, u 105, u 106, u 107, u 108, u 109, u 110, u 111, u 112, u 113, u 114, u 115, u 116, undef, undef, undef, undef, undef, undef, undef, undef, undef, undef, undef, undef, undef, undef, undef, undef, undef, undef, undef, undef, undef, undef, undef, undef, undef, undef, undef, undef, undef, undef, undef, undef, undef, undef, undef, undef, undef], defers := [] } : Act) ∧ wr = w') ?_ ?_
        · intro M hM
          go_wp2_with fail
          exact ⟨rfl, hM.out _ _ ⟨rfl, rfl⟩⟩
        clear u
        rintro u _ _ ⟨rfl, rfl⟩
        refine cutW (fun u a w' => a = ({ tmps := #[.int .i64 (nn : Int), .slice A k c, .slice (some ad) k2 c2, .int .i64 fuse, .slice Ak nk ck, undef, undef, undef, undef, undef, .bool false, .pointer (some ⟨g, 0, none⟩), .slice A12 nn c12, .slice (some ⟨bm, 0, none⟩) nn nn, .int .i64 (j : Int), undef, undef, .int .i64 (nn : Int), .bool d1, .bool d1, .int .i64 (nn : Int), .bool d2, .bool (d1 || d2), .bool (d1 || d2), .slice A k c, .int .i64 (k : Int), .bool d3, .bool (d1 || d2 || d3), .bool (d1 || d2 || d3), .slice (some ad) k2 c2, .int .i64 (k2 : Int), .bool d4, .bool (d1 || d2 || d3 || d4), undef, .int .i64 (nn : Int), .slice A k c, .pointer (some ⟨g, 0, none⟩), .pointer (some ⟨g, 0, none⟩), .bool false, .bool false, .pointer (some ⟨g, 0, none⟩), .int .i64 0, .bool false, .bool false, .pointer (some ⟨g, 0, none⟩), .slice A12 nn c12, .pointer (some ⟨g, 0, none⟩), .int .i64 fuse, v4, .int .i64 (nn : Int), .slice (some ⟨bm, 0, none⟩) nn nn, u 51, u 52, u 53, u 54, u 55, u 56, u 57, u 58, u 59, u 60, u 61, u 62, u 63, u 64, u 65, u 66, u 67, u 68, u 69, u 70, u 71, u 72, u 73, u 74, u 75, u 76, u 77, u 78, u 79, u 80, u 81, u 82, u 83, u 84, u 85, u 86, u 87, u 88, u 89, u 90, u 91, u 92, u 93, u 94, u 95, u 96, u 97, u 98, u 99, u 100, u 101, u 102, u 103, u 104, u 105, u 106, u 107, u 108, u 109, u 110, u 111, u 112, u 113, u 114, u 115, u 116, undef, undef, undef, undef, undef, undef, undef, undef, undef, undef, undef, undef, undef, undef, undef, undef, undef, undef, undef, undef, undef, undef, undef, undef, undef, undef, undef, undef, undef, undef, undef, undef, undef, undef, undef, undef, undef], defers := [] } : Act) ∧ ∃ mk5 : Int → Bool, Hid (Blk w' bm 4 (marks mk5 nn)) ∧ Hid (Chg (OneB bm) wr w') ∧ Hid ((∀ q, mk q = true → mk5 q = true) ∧ (0 ≤ x.i → x.i < (nn : Int) → mk5 x.i = true))) ?_ ?_
        · intro M hM
          have hix : x.i < 0 ∨ (0 ≤ x.i ∧ (nn : Int) ≤ x.i) ∨ (0 ≤ x.i ∧ x.i < (nn : Int)) := by omega
          rcases hix with hi1 | ⟨hi1, hi2⟩ | ⟨hi1, hi2⟩
          · go_wp2_with fail
            exact ⟨rfl, hM.out _ _ ⟨rfl, mk, HBL.out.1, Chg.refl _ _, fun _ h => h, fun h1 h2 => by omega⟩⟩
          · go_wp2_with fail
            exact ⟨rfl, hM.out _ _ ⟨rfl, mk, HBL.out.1, Chg.refl _ _, fun _ h => h, fun h1 h2 => by omega⟩⟩
          · obtain ⟨ii, hii⟩ : ∃ ii : Nat, x.i = (ii : Int) := ⟨x.i.toNat, by omega⟩
            have HII := Lib.hid hii
            have hiin : ii < nn := by omega
            have cb := HBL.out.1.cell ii
            have fb := HBL.out.1.frozen ii
            rw [marks_at mk hiin] at cb
            have hb6 := HBL.out.1.set_ ii (.bool true)
            rw [marks_set mk nn hiin] at hb6
            have HB6 := Lib.hid hb6
            have HC6 := Lib.hid (show Chg (OneB bm) wr (wr.setCell ⟨bm, ii, none⟩ (.bool true)) from (Chg.refl (OneB bm) wr).setCell (p := ⟨bm, ii, none⟩) (.inl rfl) _)
            have hci : wr.cell? ⟨(ad.add (j * 5)).block, (ad.add (j * 5)).off + 1, none⟩ = some (.int .i64 (ii : Int)) := by rw [c1, hii]
            clear c1 hii hb6 hi1 hi2
            go_wp2_with fail
            exact ⟨rfl, hM.out _ _ ⟨rfl, mark mk (ii : Int), HB6.out, HC6.out, fun q h => (by unfold mark; split <;> first | rfl | exact h), fun _ _ => (by rw [HII.out]; unfold mark; rw [if_pos rfl])⟩⟩
        clear u
        rintro u _ w6 ⟨rfl, mk5, HB6, HC6, HMK⟩
        have HD6 := Lib.hid (HDI.out.chg HC6.out (fun q hq h => HBL.out.2 ((show q = bm from h) ▸ hq)))
        have HCW6 := Lib.hid (show Chg NoB W w6 from HCH.out.trans HC6.out (fun q hq h => by have h1 : q = bm := h; have := HBM.out.1; have := HCW.out; omega))
        have HR6 := Lib.hid (show w6.ownsRow w2.heap.size 9 1 (.slice A12 nn c12) nn (secs f nn) from ownsRow_chg HRW.out.1 HC6.out (fun q e h => HOB.out q e h))
        have hA6 := HA2.out.no HCW6.out (Nat.le_refl _)
        obtain ⟨ad', x', e1, _, e2, hat2, _⟩ := hA6.at_ hlt
        obtain rfl : ad = ad' := by injection e1
        obtain rfl : x = x' := by rw [HXJ.out] at e2; injection e2
        clear c0 c1
        have c0 := hat2.c0
        have HAT6 := Lib.hid hat2
        clear e1 e2 hA6 hat2
        have HSO := Lib.hid (HS.out.write_ x.i (fillL x.c (fillN x.long)) HMK.out.1 HMK.out.2)
        have ADL := Lib.hid (show (ad.add (j * 5)).block < w6.heap.size from by have := HAD.out; have := HCW6.out.size; omega)
        obtain ⟨NN, hNN⟩ : ∃ NN, NN = fillN x.long := ⟨_, rfl⟩
        have HNN := Lib.hid hNN
        clear hNN
        have HQ1 := Lib.hid HAT6.out.c1
        have HQ2 := Lib.hid HAT6.out.c2
        have HQ3 := Lib.hid HAT6.out.c3
        refine cutW (fun u a w' => a = ({ tmps := #[.int .i64 (nn : Int), .slice A k c, .slice (some ad) k2 c2, .int .i64 fuse, .slice Ak nk ck, undef, undef, undef, undef, undef, .bool false, .pointer (some ⟨g, 0, none⟩), .slice A12 nn c12, .slice (some ⟨bm, 0, none⟩) nn nn, .int .i64 (j : Int), undef, undef, .int .i64 (nn : Int), .bool d1, .bool d1, .int .i64 (nn : Int), .bool d2, .bool (d1 || d2), .bool (d1 || d2), .slice A k c, .int .i64 (k : Int), .bool d3, .bool (d1 || d2 || d3), .bool (d1 || d2 || d3), .slice (some ad) k2 c2, .int .i64 (k2 : Int), .bool d4, .bool (d1 || d2 || d3 || d4), undef, .int .i64 (nn : Int), .slice A k c, .pointer (some ⟨g, 0, none⟩), .pointer (some ⟨g, 0, none⟩), .bool false, .bool false, .pointer (some ⟨g, 0, none⟩), .int .i64 0, .bool false, .bool false, .pointer (some ⟨g, 0, none⟩), .slice A12 nn c12, .pointer (some ⟨g, 0, none⟩), .int .i64 fuse, v4, .int .i64 (nn : Int), .slice (some ⟨bm, 0, none⟩) nn nn, u 51, u 52, u 53, u 54, u 55, u 56, u 57, u 58, u 59, u 60, u 61, u 62, u 63, u 64, u 65, u 66, u 67, u 68, u 69, u 70, u 71, u 72, u 73, u 74, u 75, u 76, u 77, u 78, u 79, u 80, u 81, u 82, u 83, u 84, u 85, u 86, u 87, u 88, u 89, u 90, u 91, u 92, u 93, u 94, u 95, u 96, u 97, .bool true, u 99, u 100, u 101, u 102, u 103, u 104, u 105, u 106, u 107, u 108, u 109, u 110, u 111, u 112, u 113, u 114, u 115, u 116, undef, undef, undef, undef, undef, undef, undef, undef, undef, undef, undef, undef, undef, undef, undef, undef, undef, undef, undef, undef, undef, undef, undef, undef, undef, undef, undef, undef, undef, undef, undef, undef, undef, undef, undef, undef, undef], defers := [] } : Act) ∧ w6 = w') ?_ ?_
        · intro M hM
          go_wp2_with fail
          exact ⟨rfl, hM.out _ _ ⟨rfl, rfl⟩⟩
        clear u
        rintro u _ _ ⟨rfl, rfl⟩
        clear hk1 c0
        go_wp2_with fail
        refine wp_region_cl rfl (by kernel_rfl) (InvSu u v4 d1 d2 d3 d4 A A12 Ak nn k c c12 nk ck bm g k2 c2 j NN ad fuse x.i x.long x.c F' W w6 (K'.write x.i (fillL x.c NN))) ?_ ?_ ?_
        · exact ⟨0, undef, rfl, (fun h _ => by cases h), fun _ => (Chg.refl _ _).drew, (fun h => by cases h), Nat.le_refl _⟩
        ·
          intro D a w i o ho hD hcl hpre hI
          obtain ⟨s16, v17, rfl, hb, hp0, hp1, hcn⟩ := hI
          have hi : i < 18 := by have := (List.getElem?_eq_some_iff.1 ho).1; simpa using this
          rcases (by omega : i = 0 ∨ i = 1 ∨ i = 2 ∨ i = 3 ∨ i = 4 ∨ i = 5 ∨ i = 6 ∨ i = 7 ∨ i = 8 ∨ i = 9 ∨ i = 10 ∨ i = 11 ∨ i = 12 ∨ i = 13 ∨ i = 14 ∨ i = 15 ∨ i = 16 ∨ i = 17) with rfl | rfl | rfl | rfl | rfl | rfl | rfl | rfl | rfl | rfl | rfl | rfl | rfl | rfl | rfl | rfl | rfl | rfl
          · obtain rfl := Option.some.inj ho
            clear ho hpre hi hcl
            go_wp2_with fail
            unfold AtEnd
            exact ⟨s16, v17, rfl, fun h1 h2 => hb (by simpa [more] using h1) (by simpa [more] using h2), fun h => hp0 (by simpa [more] using h), fun h => hp1 (by simpa [more] using h), hcn⟩
          · obtain rfl := Option.some.inj ho
            clear ho hpre hi hcl
            go_wp2_with fail
            unfold AtEnd
            exact ⟨s16, v17, rfl, fun h1 h2 => hb (by simpa [more] using h1) (by simpa [more] using h2), fun h => hp0 (by simpa [more] using h), fun h => hp1 (by simpa [more] using h), hcn⟩
          · obtain rfl := Option.some.inj ho
            clear ho hpre hi hcl
            go_wp2_with fail
            unfold AtEnd
            exact ⟨s16, v17, rfl, fun h1 h2 => hb (by simpa [more] using h1) (by simpa [more] using h2), fun h => hp0 (by simpa [more] using h), fun h => hp1 (by simpa [more] using h), hcn⟩
          · obtain rfl := Option.some.inj ho
            have q1 := hpre ⟨1, .data⟩ (by simp) rfl
            have q2 := hpre ⟨2, .data⟩ (by simp) rfl
            clear ho hpre hi hcl
            go_wp2_with fail
            unfold AtEnd
            exact ⟨s16, v17, by simp only [more, slot_true, slot_false, Nat.reduceEqDiff, ↓reduceIte, q1, q2], fun h1 h2 => hb (by simpa [more] using h1) (by simpa [more] using h2), fun h => hp0 (by simpa [more] using h), fun h => hp1 (by simpa [more] using h), hcn⟩
          · obtain rfl := Option.some.inj ho
            have q3 := hpre ⟨3, .data⟩ (by simp) rfl
            clear ho hpre hi hcl
            go_wp2_with fail
            unfold AtEnd
            exact ⟨s16, v17, by simp only [more, slot_true, slot_false, Nat.reduceEqDiff, ↓reduceIte, q3], fun h1 h2 => hb (by simpa [more] using h1) (by simpa [more] using h2), fun h => hp0 (by simpa [more] using h), fun h => hp1 (by simpa [more] using h), hcn⟩
          · obtain rfl := Option.some.inj ho
            have q4 := hpre ⟨4, .data⟩ (by simp) rfl
            have d17 : D 17 = false := (hcl.not_ 17 _ rfl 1 _ rfl rfl hD)
            clear ho hpre hi hcl
            have cq := cell_of_heap (w := w6) (w' := w) (p := ⟨(ad.add (j * 5)).block, (ad.add (j * 5)).off + 1, none⟩) ((hp0 d17).block _ ADL.out (fun h => h))
            rw [HQ1.out] at cq
            go_wp2_with fail
            unfold AtEnd
            exact ⟨s16, v17, by simp only [more, slot_true, slot_false, Nat.reduceEqDiff, ↓reduceIte, q4, d17], fun h1 h2 => hb (by simpa [more] using h1) (by simpa [more] using h2), fun h => hp0 (by simpa [more] using h), fun h => hp1 (by simpa [more] using h), hcn⟩
          · obtain rfl := Option.some.inj ho
            clear ho hpre hi hcl
            go_wp2_with fail
            unfold AtEnd
            exact ⟨s16, v17, rfl, fun h1 h2 => hb (by simpa [more] using h1) (by simpa [more] using h2), fun h => hp0 (by simpa [more] using h), fun h => hp1 (by simpa [more] using h), hcn⟩
          · obtain rfl := Option.some.inj ho
            clear ho hpre hi hcl
            go_wp2_with fail
            unfold AtEnd
            exact ⟨s16, v17, rfl, fun h1 h2 => hb (by simpa [more] using h1) (by simpa [more] using h2), fun h => hp0 (by simpa [more] using h), fun h => hp1 (by simpa [more] using h), hcn⟩
          · obtain rfl := Option.some.inj ho
            have q6 := hpre ⟨6, .data⟩ (by simp) rfl
            have q7 := hpre ⟨7, .data⟩ (by simp) rfl
            clear ho hpre hi hcl
            go_wp2_with fail
            unfold AtEnd
            exact ⟨s16, v17, by simp only [more, slot_true, slot_false, Nat.reduceEqDiff, ↓reduceIte, q6, q7], fun h1 h2 => hb (by simpa [more] using h1) (by simpa [more] using h2), fun h => hp0 (by simpa [more] using h), fun h => hp1 (by simpa [more] using h), hcn⟩
          · obtain rfl := Option.some.inj ho
            have q8 := hpre ⟨8, .data⟩ (by simp) rfl
            clear ho hpre hi hcl
            go_wp2_with fail
            unfold AtEnd
            exact ⟨s16, v17, by simp only [more, slot_true, slot_false, Nat.reduceEqDiff, ↓reduceIte, q8], fun h1 h2 => hb (by simpa [more] using h1) (by simpa [more] using h2), fun h => hp0 (by simpa [more] using h), fun h => hp1 (by simpa [more] using h), hcn⟩
          · obtain rfl := Option.some.inj ho
            have q9 := hpre ⟨9, .data⟩ (by simp) rfl
            have d17 : D 17 = false := (hcl.not_ 17 _ rfl 2 _ rfl rfl (hcl.not_ 16 _ rfl 0 _ rfl rfl hD))
            clear ho hpre hi hcl
            have cq := cell_of_heap (w := w6) (w' := w) (p := ⟨(ad.add (j * 5)).block, (ad.add (j * 5)).off + 2, none⟩) ((hp0 d17).block _ ADL.out (fun h => h))
            rw [HQ2.out] at cq
            go_wp2_with fail
            unfold AtEnd
            exact ⟨s16, v17, by simp only [more, slot_true, slot_false, Nat.reduceEqDiff, ↓reduceIte, q9, d17], fun h1 h2 => hb (by simpa [more] using h1) (by simpa [more] using h2), fun h => hp0 (by simpa [more] using h), fun h => hp1 (by simpa [more] using h), hcn⟩
          · obtain rfl := Option.some.inj ho
            clear ho hpre hi hcl
            go_wp2_with fail
            unfold AtEnd
            exact ⟨s16, v17, rfl, fun h1 h2 => hb (by simpa [more] using h1) (by simpa [more] using h2), fun h => hp0 (by simpa [more] using h), fun h => hp1 (by simpa [more] using h), hcn⟩
          · obtain rfl := Option.some.inj ho
            clear ho hpre hi hcl
            go_wp2_with fail
            unfold AtEnd
            exact ⟨s16, v17, rfl, fun h1 h2 => hb (by simpa [more] using h1) (by simpa [more] using h2), fun h => hp0 (by simpa [more] using h), fun h => hp1 (by simpa [more] using h), hcn⟩
          · obtain rfl := Option.some.inj ho
            have q11 := hpre ⟨11, .data⟩ (by simp) rfl
            have q12 := hpre ⟨12, .data⟩ (by simp) rfl
            clear ho hpre hi hcl
            go_wp2_with fail
            unfold AtEnd
            exact ⟨s16, v17, by simp only [more, slot_true, slot_false, Nat.reduceEqDiff, ↓reduceIte, q11, q12], fun h1 h2 => hb (by simpa [more] using h1) (by simpa [more] using h2), fun h => hp0 (by simpa [more] using h), fun h => hp1 (by simpa [more] using h), hcn⟩
          · obtain rfl := Option.some.inj ho
            have q13 := hpre ⟨13, .data⟩ (by simp) rfl
            clear ho hpre hi hcl
            go_wp2_with fail
            unfold AtEnd
            exact ⟨s16, v17, by simp only [more, slot_true, slot_false, Nat.reduceEqDiff, ↓reduceIte, q13], fun h1 h2 => hb (by simpa [more] using h1) (by simpa [more] using h2), fun h => hp0 (by simpa [more] using h), fun h => hp1 (by simpa [more] using h), hcn⟩
          · obtain rfl := Option.some.inj ho
            have q14 := hpre ⟨14, .data⟩ (by simp) rfl
            have d17 : D 17 = false := (hcl.not_ 17 _ rfl 2 _ rfl rfl (hcl.not_ 16 _ rfl 1 _ rfl rfl hD))
            clear ho hpre hi hcl
            have cq := cell_of_heap (w := w6) (w' := w) (p := ⟨(ad.add (j * 5)).block, (ad.add (j * 5)).off + 3, none⟩) ((hp0 d17).block _ ADL.out (fun h => h))
            rw [HQ3.out] at cq
            go_wp2_with fail
            unfold AtEnd
            exact ⟨s16, v17, by simp only [more, slot_true, slot_false, Nat.reduceEqDiff, ↓reduceIte, q14, d17], fun h1 h2 => hb (by simpa [more] using h1) (by simpa [more] using h2), fun h => hp0 (by simpa [more] using h), fun h => hp1 (by simpa [more] using h), hcn⟩
          · obtain rfl := Option.some.inj ho
            have q10 := hpre ⟨10, .data⟩ (by simp) rfl
            have q15 := hpre ⟨15, .data⟩ (by simp) rfl
            have d17 : D 17 = false := (hcl.not_ 17 _ rfl 2 _ rfl rfl hD)
            clear ho hpre hi hcl
            simp only [q10, q15, slot_true]
            go_wp2_with fail
            refine (filled_any x.c x.long w).mono ?_
            rintro e w5 ⟨s, rfl, hsl, hs, hc5⟩
            rw [← HNN.out] at hs ⊢
            go_wp2_with fail
            unfold AtEnd
            exact ⟨s, v17, by simp only [more, slot_true, slot_false, Nat.reduceEqDiff, ↓reduceIte, q10, q15, d17], fun _ _ => hs, fun _ => (hp0 d17).trans hc5 (fun _ _ h => h), fun h => by simp [more, d17] at h, Nat.le_trans hcn hc5.size⟩
          · obtain rfl := Option.some.inj ho
            have q0 := hpre ⟨0, .data⟩ (by simp) rfl
            have q5 := hpre ⟨5, .data⟩ (by simp) rfl
            have q16 := hpre ⟨16, .data⟩ (by simp) rfl
            clear ho hpre hi hcl
            have hDD := HD6.out.no (hp0 hD)
            have hbb := blk_RB (hb q16 hD)
            simp only [q0, q5, q16, slot_true]
            go_wp2_with fail
            refine (hDD.write_ (Nat.le_trans HCW6.out.size hcn) x.i NN (fillL_len x.c NN) hbb (fun ad e => by cases e; rfl) (Nat.le_trans HLJ.out (by decide))).mono ?_
            rintro e w5 ⟨rfl, F5, hD5, hc5, hg5⟩
            go_wp2_with fail
            unfold AtEnd
            exact ⟨s16, .int .i64 (writeE K' x.i (fillL x.c NN)), by simp only [more, slot_true, slot_false, Nat.reduceEqDiff, ↓reduceIte, q0, q5, q16], fun _ h => by simp [more] at h, fun h => by simp [more] at h, fun _ => ⟨w, F5, hp0 hD, hD5, hc5, hg5⟩, Nat.le_trans hcn hc5.size⟩
        · intro D a w hall hI
          obtain ⟨s16, v17, rfl, hb, hp0, hp1, hcn⟩ := hI
          obtain ⟨w7, F5, hn7, hD5, hc5, hg5⟩ := hp1 (hall 17 (by decide))
          have HD5 := Lib.hid (show DI W.heap.size w g (K'.write x.i (fillL x.c (fillN x.long))) F5 from by rw [← HNN.out]; exact hD5)
          have HC5 := Lib.hid ((HD6.out.no hn7).base (HCW6.out.trans hn7 (fun _ _ h => h)) hc5)
          have HB5 := Lib.hid (show Blk w bm 4 (marks mk5 nn) ∧ ¬ F5 bm from ⟨(HB6.out.chg hn7 (fun h => h)).chg hc5 HBL.out.2, fun h => (hg5 _ h).elim HBL.out.2 (fun h => by have := (HB6.out.chg hn7 (fun h => h)).lt; omega)⟩)
          have HR5 := Lib.hid (keepRow hc5 hg5 (keepRowNo hn7 ⟨HR6.out, HRW.out.2⟩))
          clear hp0 hp1 hcn hb hall hD5 hc5 hg5 hn7
          go_wp2_with fail
          go_roundw
          case rel => exact ⟨j + 1, _, F5, mk5, by omega, by simp, HSO.out, HD5.out, HB5.out, HR5.out, HC5.out⟩
          case measure => simp [intOf]; omega
    · obtain rfl : j = k2 := by omega
      go_wp2_with fail
      have HK5 := Lib.hid ((HIK.out.1.chg (Nat.le_refl _) HCH.out (fun _ _ h => h)).more HCH.out.size)
      refine (HDI.out.crash_ HCH.out.size (Nat.le_trans HS.out.loose (by omega)) ck HIK.out.2.1 HK5.out HIK.out.2.2.1 (fun h0 ad e h => by
        obtain ⟨ad2, e2, hb2, _⟩ := HIK.out.1.2 h0
        rw [e] at e2; injection e2 with e2
        have h1 := (HDI.out.rng _ h).1
        rw [e2] at h1; omega) HIK.out.2.2.2).mono ?_
      rintro e w7 ⟨rfl, F7, hD7, hc7, hg7⟩
      have HD7 := Lib.hid hD7
      have HC7 := Lib.hid (HDI.out.base HCH.out hc7)
      have HB7 := Lib.hid (HBL.out.1.chg hc7 HBL.out.2)
      have HR7 := Lib.hid (keepRow hc7 hg7 HRW.out).1
      clear hD7 hc7 hg7 HK5 HDI HCH HBL HRW
      go_wp2_with fail
      refine HD7.out.disk.dark_.mono ?_
      rintro e w8 ⟨rfl, rfl⟩
      rw [show (K'.crash (zk.take nk)).dark = false from rfl]
      go_wp2_with fail
      refine HD7.out.disk.loose_.mono ?_
      rintro e w8 ⟨rfl, rfl⟩
      rw [show ((K'.crash (zk.take nk)).loose.length : Int) = 0 from rfl]
      go_wp2_with fail
      refine (all_any _ g _ F7 w8 HD7.out rfl nn HS.out.n (by have := HN.out; omega)).mono ?_
      rintro e w9 ⟨v15, rfl, ho9, hc9⟩
      obtain ⟨A15, c15, rfl⟩ := own_slice ho9
      have HO9 := Lib.hid ho9
      have HB9 := Lib.hid (HB7.out.chg hc9 (fun h => h))
      have HR9 := Lib.hid (ownsRow_chg HR7.out hc9 (fun _ _ h => h))
      have HC9 := Lib.hid (HC7.out.trans hc9 (fun _ _ h => h))
      clear ho9 hc9 HD7 HB7 HR7 HC7
      go_wp2_with fail
      go_loopw [16] (fun i wr => ∃ j : Nat, j ≤ nn ∧ i = .int .i64 j ∧ Chg NoB w9 wr) (fun i _ => nn - (intOf i).toNat)
      case atStart => exact ⟨0, by omega, rfl, Chg.refl _ _⟩
      case round =>
        obtain ⟨j2, hj2, rfl, hch2⟩ := hrel
        have HCH2 := Lib.hid hch2
        clear hch2
        by_cases hlt2 : j2 < nn
        · obtain ⟨ga, rfl, ca⟩ := own_cell (ownsRow_chg HO9.out HCH2.out (fun _ _ h => h)) hlt2
          obtain ⟨gd, rfl, cd⟩ := own_cell (ownsRow_chg HR9.out HCH2.out (fun _ _ h => h)) hlt2
          have cm := (HB9.out.chg HCH2.out (fun h => h)).cell j2
          rw [marks_at mk hlt2] at cm
          rw [secs_at _ hlt2] at ca cd
          cases hmj : mk (j2 : Int)
          · rw [HS.out.crashed _ hmj] at ca
            obtain ⟨arr, harr⟩ : ∃ arr, arr = (f (j2 : Int)).toArray := ⟨_, rfl⟩
            rw [← harr] at ca cd
            rw [hmj] at cm
            clear harr hmj
            go_wp2_with fail
            go_quiet (fail)
            go_wp2_with fail
            go_roundw
            case rel => exact ⟨j2 + 1, by omega, by simp, HCH2.out.drewN nq⟩
            case measure => simp [intOf]; omega
          · obtain ⟨arr, harr⟩ : ∃ arr, arr = (f (j2 : Int)).toArray := ⟨_, rfl⟩
            obtain ⟨arr2, harr2⟩ : ∃ arr2, arr2 = ((K'.crash (zk.take nk)).now (j2 : Int)).toArray := ⟨_, rfl⟩
            rw [← harr2] at ca
            rw [← harr] at cd
            rw [hmj] at cm
            clear harr harr2 hmj
            go_wp2_with fail
            go_quiet (fail)
            go_wp2_with fail
            go_roundw
            case rel => exact ⟨j2 + 1, by omega, by simp, HCH2.out.drewN nq⟩
            case measure => simp [intOf]; omega
        · obtain rfl : j2 = nn := by omega
          go_wp2_with fail
          refine (lives_any _).mono ?_
          rintro e w11 ⟨rfl, hc11⟩
          go_wp2_with fail
          go_ret
          exact ⟨rfl, ((HC9.out.trans HCH2.out (fun _ _ h => h)).trans hc11 (fun _ _ h => h)).no⟩
end Go.Proofs.Ytmkbahhnjobglaa
