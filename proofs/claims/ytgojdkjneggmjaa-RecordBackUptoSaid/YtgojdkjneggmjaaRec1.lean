/-
  WORDS for slices of ints and for record's writer; THE WALKS of its twos and fours.
-/
import Derived.Test.YtgojdkjneggmjaaFieldG2
namespace Go.Proofs.Ytgojdkjneggmjaa
open Go.RowKit FieldM
/-- a slice of ints that reads as a list, below block B -/
def RI (w : World) (B : Nat) (A : Option Addr) (zs : List Int) : Prop := Reads w B 1 A zs.length (zs.map (Value.int .i64))
section
variable {w w' : World} {B : Nat} {A : Option Addr} {zs : List Int}
theorem RI.at_ (h : RI w B A zs) {k : Nat} (hk : k < zs.length) : ∃ ad, A = some ad ∧ ad.block < B ∧ w.cell? (ad.add k) = some (.int .i64 (zs[k]'hk)) := by
  obtain ⟨ad, u, hA, hb, hx, hc⟩ := Reads.at_ h hk
  refine ⟨ad, hA, hb, ?_⟩
  rw [hc, ← hx]; simp [hk]
theorem RI.chg {S : Nat → Prop} (h : RI w B A zs) (hc : Chg S w w') (hS : ∀ i, i < B → ¬ S i) : RI w' B A zs := by
  refine ⟨h.1, fun hn => ?_⟩
  obtain ⟨ad, hA, hb, hcell⟩ := h.2 hn
  refine ⟨ad, hA, hb, fun j u hu => ?_⟩
  have h1 := hcell j u hu
  have hlt := block_lt_of_cell h1
  rw [block_of_add] at hlt
  rw [World.cell?_of_block (w := w) (by rw [block_of_add]; exact hc.block _ hlt (hS _ hb))]
  exact h1
theorem RI.of_row {g t : Nat} {cs : Array Value} {fr : Nat × Nat} (h : w.heap[g]? = some (.cells cs t fr)) (zs : List Int) (e : cs.toList = zs.map (Value.int .i64)) (hB : g < B) : RI w B (some ⟨g, 0, none⟩) zs := by
  refine ⟨by simp, fun _ => ⟨_, rfl, hB, fun j u hu => ?_⟩⟩
  have ha : (⟨g, 0, none⟩ : Addr).add j = ⟨g, j, none⟩ := by unfold Addr.add; split <;> simp_all
  rw [ha, cell_of_row w g j cs t fr h, ← hu, ← e]; simp
end
/-- the writer at block g: it holds own bytes -/
def Wr (w : World) (base g : Nat) (l : List UInt8) : Prop := ∃ A n c, Blk w g 51 #[.slice A n c] ∧ OwnB w base (.slice A n c) l
theorem wr_ne {w : World} {base g : Nat} {v : Value} {l : List UInt8} {cs : Array Value} (h : OwnB w base v l) (hb : Blk w g 51 cs) : v.ownBlock ≠ some g := OwnB.blk_ne h hb (by decide)
theorem Wr.chg {w w' : World} {base g : Nat} {l : List UInt8} {S : Nat → Prop} (h : Wr w base g l) (hc : Chg S w w') (hg : ¬ S g) (hS : ∀ i, base ≤ i → ¬ S i) : Wr w' base g l := by
  obtain ⟨A, n, c, hb, ho⟩ := h
  exact ⟨A, n, c, hb.chg hc hg, ho.chg hc (fun g' e => hS g' (OwnB.lt ho g' e).1)⟩
theorem Wr.no {w w' : World} {base g : Nat} {l : List UInt8} (h : Wr w base g l) (hc : Chg NoB w w') : Wr w' base g l := h.chg hc (fun h => h) (fun _ _ h => h)
theorem Wr.lt {w : World} {base g : Nat} {l : List UInt8} (h : Wr w base g l) : g < w.heap.size := by
  obtain ⟨_, _, _, hb, _⟩ := h; exact hb.lt
/-- numbers laid down one behind the other -/
def lay (k : Nat) (zs : List Int) : List UInt8 := zs.flatMap fun z => leB z.toNat k
theorem lay_snoc (k : Nat) (zs : List Int) (z : Int) : lay k (zs ++ [z]) = lay k zs ++ leB z.toNat k := by simp [lay]
theorem lay_len (k : Nat) (zs : List Int) : (lay k zs).length = k * zs.length := by
  induction zs with
  | nil => rfl
  | cons z zs ih =>
    have : lay k (z :: zs) = leB z.toNat k ++ lay k zs := rfl
    rw [this, List.length_append, leB_len, ih, List.length_cons, Nat.mul_succ]; omega
theorem putL_ok {l : List UInt8} {z : Int} {k : Nat} (h : 0 ≤ z ∧ z < (256 : Int) ^ k) : putL l z k = l ++ leB z.toNat k := by
  unfold putL putErr; rw [if_pos h]; rfl
set_option maxRecDepth 100000 in
set_option maxHeartbeats 1000000 in
theorem twos_any (g base : Nat) (l : List UInt8) (s : Nat) (zs : List Int) (n c : Nat) (hn : zs.length = n) (cs : Array Value) (hcs : cs = (zs.map (Value.int .i64)).toArray) (w : World) (hw : Wr w base g l) (hr : Blk w s 3 cs)
    (hz : Hid (∀ z ∈ zs, 0 ≤ z ∧ z < (256 : Int) ^ 2)) (hbase : base ≤ w.heap.size) (hl : l.length + 2 * n ≤ 1000000) :
    Calls Try.prog 30 #[.pointer (some ⟨g, 0, none⟩), .slice (some ⟨s, 0, none⟩) n c] w fun e w' => e = .returned (.pointer (some ⟨g, 0, none⟩)) ∧ Wr w' base g (l ++ lay 2 zs) ∧ Chg (OneB g) w w' := by
  subst hn hcs
  have hglt := hw.lt
  have hsg : s ≠ g := by
    obtain ⟨_, _, _, hb, _⟩ := hw
    exact hr.ne_ hb (by decide)
  go_enter Try.func30, Try.ntmps30
  go_wp2_with fail
  go_loopw [9] (fun i wr => ∃ j : Nat, j ≤ zs.length ∧ i = .int .i64 j ∧ Wr wr base g (l ++ lay 2 (zs.take j)) ∧ Chg (OneB g) w wr) (fun i _ => zs.length - (intOf i).toNat)
  case atStart => exact ⟨0, by omega, rfl, by simpa [lay] using hw, Chg.refl _ _⟩
  case round =>
    obtain ⟨j, hj, rfl, hw1, hch⟩ := hrel
    have hsz := hch.size
    by_cases hlt : j < zs.length
    · have hcell : wr.cell? ⟨s, j, none⟩ = some (.int .i64 zs[j]) := ((hr.chg hch (fun e => hsg e)).cell j).trans (by simp [hlt])
      obtain ⟨A1, n1, c1, hb1, ho1⟩ := hw1
      obtain ⟨A2, n2, c2, hv, hn2, hr2, _⟩ := ho1.val
      injection hv with e1 e2 e3
      subst e1 e2 e3
      have hcg : wr.cell? ⟨g, 0, none⟩ = some (.slice A1 n1 c1) := hb1.cell 0
      have hle : n1 ≤ 1000000 := by
        rw [← hn2, List.length_append, lay_len, List.length_take]
        have : 2 * min j zs.length ≤ 2 * zs.length := Nat.mul_le_mul_left _ (by omega)
        omega
      have HN2 := Lib.hid hn2
      have hzj := hz.out zs[j] (List.getElem_mem hlt)
      have HZJ := Lib.hid hzj
      clear hn2 ho1 hzj
      go_wp2_with fail
      refine (put2_any A1 _ n1 c1 zs[j] HN2.out _ _ hr2 (by omega) (by have := HZJ.out; omega)).mono ?_
      rintro e w1 ⟨⟨v, rfl, hov⟩, hc1⟩
      obtain ⟨A3, n3, c3, rfl, hn3, _⟩ := hov.val
      have hb2 := hb1.chg hc1 (fun h => h)
      have hcg2 : w1.cell? ⟨g, 0, none⟩ = some (.slice A1 n1 c1) := hb2.cell 0
      have hfg2 : w1.frozen? ⟨g, 0, none⟩ = false := hb2.frozen 0
      have hb3 := hb2.set_ 0 (.slice A3 n3 c3)
      clear hn3
      go_wp2_with fail
      go_roundw
      case rel =>
        refine ⟨j + 1, by omega, by go_num, ⟨A3, n3, c3, hb3, ?_⟩, (hch.trans hc1 (fun _ _ h => h.elim)).setCell (p := ⟨g, 0, none⟩) (.inl (show OneB g g from rfl)) _⟩
        have ho3 := (hov.base_ (base' := base) (by omega)).chg ((Chg.refl (OneB g) w1).setCell (p := ⟨g, 0, none⟩) (.inl rfl) (.slice A3 n3 c3)) (fun g' e h => wr_ne hov hb2 (by rw [e]; exact congrArg some h))
        rw [putL_ok HZJ.out, List.append_assoc, ← lay_snoc, ← List.take_succ_eq_append_getElem hlt] at ho3
        exact ho3
      case measure => simp [intOf]; omega
    · have hjk : zs.take j = zs := List.take_of_length_le (by omega)
      rw [hjk] at hw1
      clear hjk
      go_wp2_with fail
      go_ret
      exact ⟨rfl, hw1, hch⟩
set_option maxRecDepth 100000 in
set_option maxHeartbeats 1000000 in
theorem fours_any (g base : Nat) (l : List UInt8) (s : Nat) (zs : List Int) (n c : Nat) (hn : zs.length = n) (cs : Array Value) (hcs : cs = (zs.map (Value.int .i64)).toArray) (w : World) (hw : Wr w base g l) (hr : Blk w s 3 cs)
    (hz : Hid (∀ z ∈ zs, 0 ≤ z ∧ z < (256 : Int) ^ 4)) (hbase : base ≤ w.heap.size) (hl : l.length + 4 * n ≤ 1000000) :
    Calls Try.prog 31 #[.pointer (some ⟨g, 0, none⟩), .slice (some ⟨s, 0, none⟩) n c] w fun e w' => e = .returned (.pointer (some ⟨g, 0, none⟩)) ∧ Wr w' base g (l ++ lay 4 zs) ∧ Chg (OneB g) w w' := by
  subst hn hcs
  have hglt := hw.lt
  have hsg : s ≠ g := by
    obtain ⟨_, _, _, hb, _⟩ := hw
    exact hr.ne_ hb (by decide)
  go_enter Try.func31, Try.ntmps31
  go_wp2_with fail
  go_loopw [9] (fun i wr => ∃ j : Nat, j ≤ zs.length ∧ i = .int .i64 j ∧ Wr wr base g (l ++ lay 4 (zs.take j)) ∧ Chg (OneB g) w wr) (fun i _ => zs.length - (intOf i).toNat)
  case atStart => exact ⟨0, by omega, rfl, by simpa [lay] using hw, Chg.refl _ _⟩
  case round =>
    obtain ⟨j, hj, rfl, hw1, hch⟩ := hrel
    have hsz := hch.size
    by_cases hlt : j < zs.length
    · have hcell : wr.cell? ⟨s, j, none⟩ = some (.int .i64 zs[j]) := ((hr.chg hch (fun e => hsg e)).cell j).trans (by simp [hlt])
      obtain ⟨A1, n1, c1, hb1, ho1⟩ := hw1
      obtain ⟨A2, n2, c2, hv, hn2, hr2, _⟩ := ho1.val
      injection hv with e1 e2 e3
      subst e1 e2 e3
      have hcg : wr.cell? ⟨g, 0, none⟩ = some (.slice A1 n1 c1) := hb1.cell 0
      have hle : n1 ≤ 1000000 := by
        rw [← hn2, List.length_append, lay_len, List.length_take]
        have : 4 * min j zs.length ≤ 4 * zs.length := Nat.mul_le_mul_left _ (by omega)
        omega
      have HN2 := Lib.hid hn2
      have hzj := hz.out zs[j] (List.getElem_mem hlt)
      have HZJ := Lib.hid hzj
      clear hn2 ho1 hzj
      go_wp2_with fail
      refine (put4_any A1 _ n1 c1 zs[j] HN2.out _ _ hr2 (by omega) (by have := HZJ.out; omega)).mono ?_
      rintro e w1 ⟨⟨v, rfl, hov⟩, hc1⟩
      obtain ⟨A3, n3, c3, rfl, hn3, _⟩ := hov.val
      have hb2 := hb1.chg hc1 (fun h => h)
      have hcg2 : w1.cell? ⟨g, 0, none⟩ = some (.slice A1 n1 c1) := hb2.cell 0
      have hfg2 : w1.frozen? ⟨g, 0, none⟩ = false := hb2.frozen 0
      have hb3 := hb2.set_ 0 (.slice A3 n3 c3)
      clear hn3
      go_wp2_with fail
      go_roundw
      case rel =>
        refine ⟨j + 1, by omega, by go_num, ⟨A3, n3, c3, hb3, ?_⟩, (hch.trans hc1 (fun _ _ h => h.elim)).setCell (p := ⟨g, 0, none⟩) (.inl (show OneB g g from rfl)) _⟩
        have ho3 := (hov.base_ (base' := base) (by omega)).chg ((Chg.refl (OneB g) w1).setCell (p := ⟨g, 0, none⟩) (.inl rfl) (.slice A3 n3 c3)) (fun g' e h => wr_ne hov hb2 (by rw [e]; exact congrArg some h))
        rw [putL_ok HZJ.out, List.append_assoc, ← lay_snoc, ← List.take_succ_eq_append_getElem hlt] at ho3
        exact ho3
      case measure => simp [intOf]; omega
    · have hjk : zs.take j = zs := List.take_of_length_le (by omega)
      rw [hjk] at hw1
      clear hjk
      go_wp2_with fail
      go_ret
      exact ⟨rfl, hw1, hch⟩
end Go.Proofs.Ytgojdkjneggmjaa
