/-
  THE WALK of copied: a map of its own.
-/
import Derived.Test.YtlhfhhbafhnbkaaSec7
namespace Go.Proofs.Ytlhfhhbafhnbkaa
open Go.RowKit Go.Maps
set_option linter.unusedSimpArgs false
theorem SMap.congr {w : World} {b : Nat} {f f' : Int → List UInt8} (h : SMap w b f) (e : ∀ i, f i = f' i) : SMap w b f' := by
  have : f = f' := funext e
  rw [← this]; exact h
/-- a map that is ranged over -/
def SRng (w : World) (b r : Nat) (f : Int → List UInt8) (left : Lit → Bool) (cnt : Nat) : Prop :=
  ∃ es : List (Lit × DataW Unit), w.ranges Try.prog 3 rdBlk b r 8192 (.map es) left cnt ∧ InRange es ∧ ∀ i, (DataW.map es).atKey (KL i) (BL zeros) = BL (f i)
def stillF (f : Int → List UInt8) (left : Lit → Bool) : Int → List UInt8 := fun i => if left (KL i) = true then zeros else f i
theorem SRng.smap {w : World} {b r : Nat} {f : Int → List UInt8} {left : Lit → Bool} {cnt : Nat} (h : SRng w b r f left cnt) : SMap w b f := by
  obtain ⟨es, h1, h2, h3⟩ := h
  exact ⟨es, h1.owns, h2, h3⟩
theorem SRng.kept {w w' : World} {row : Option Nat} {b r : Nat} {f : Int → List UInt8} {left : Lit → Bool} {cnt : Nat} (h : SRng w b r f left cnt) (hg : w.grownBy w' row) (h1 : some b ≠ row) (h2 : some r ≠ row) : SRng w' b r f left cnt := by
  obtain ⟨es, h3, h4, h5⟩ := h
  exact ⟨es, h3.kept hg h1 h2, h4, h5⟩
section
variable (w : World) {ops : Array Oper} {rest : List Oper} {o : Oper} {a : Act} {Q : Exit → Act → World → Prop}
theorem wpList_range_blk (hg : o.guard = none) (m : Operand) (hop : o.op = Op.range 45 m) (b : Nat) (f : Int → List UInt8) (hm : a.eval m = .map (some b)) (h : SMap w b f)
    (hK : ∀ w' left cnt, SRng w' b w.heap.size f left cnt → (∀ i, stillF f left i = zeros) → w.grownBy w' none → w'.heap.size = w.heap.size + 1 → wpList Try.prog ops Q rest (a.put o.dst (.pointer (some ⟨w.heap.size, 0, none⟩))) w') : wpList Try.prog ops Q (o :: rest) a w := by
  obtain ⟨es, h1, h2, h3⟩ := h
  refine wpList_range_own w hg m _ hop 3 84 int_kd Try.underlying45 rdBlk b 8192 (.map es) hm h1 fun w' r1 r2 r3 => ?_
  refine hK w' _ _ ⟨es, r1, h2, h3⟩ (fun i => ?_) r2 r3
  unfold stillF
  split
  · rfl
  · rename_i hx
    have hx2 : Maps.has (DataW.map es) (KL i) = false := by simpa using hx
    have h4 := h3 i
    rw [Maps.atKey_of_not_has hx2] at h4
    exact (BL_inj h4).symm
theorem wpList_next_blk (hg : o.guard = none) (it : Operand) (hop : o.op = Op.next it false) (b r : Nat) (f : Int → List UInt8) (left : Lit → Bool) (cnt : Nat) (hit : a.eval it = .pointer (some ⟨r, 0, none⟩)) (h : SRng w b r f left cnt)
    (hDone : (∀ i, stillF f left i = f i) → wpList Try.prog ops Q rest (a.put o.dst (.tuple #[.bool false])) w)
    (hMore : ∀ (x : Int) (w' : World) (left' : Lit → Bool) (cnt' : Nat), 0 ≤ x ∧ x < 8192 → SRng w' b r f left' cnt' → cnt' < cnt → (∀ i, upd (stillF f left) x (f x) i = stillF f left' i) →
      w.grownBy w' (some r) → w'.heap.size = w.heap.size → (Instr.entry (.pointer (some ⟨r, 0, none⟩))).run Try.prog w' = .ok (.tuple #[.int .i64 x, blkV (f x)]) w' → wpList Try.prog ops Q rest (a.put o.dst (.tuple #[.bool true, .int .i64 x, blkV (f x)])) w') :
    wpList Try.prog ops Q (o :: rest) a w := by
  obtain ⟨es, h1, h2, h3⟩ := h
  refine wpList_next_ranges w hg it hop 3 int_kd rdBlk (fun x : Int => .int .i64 x) blkV (fun key kl hk => ?_) (fun v y hv => ?_) b r 8192 (.map es) left cnt hit h1 (fun _ hl => hDone (fun i => ?_)) ?_
  · obtain ⟨x, hx, _⟩ := Maps.keyOf_int_inv Try.underlying3 hk
    exact ⟨x, hx⟩
  · obtain ⟨l, _, hl, _⟩ := rdBlk_inv hv
    exact ⟨l, hl⟩
  · unfold stillF; rw [hl]; simp
  · intro x c kl y w' cnt' hk hlk hv hat hr hlt hgr hsz hen
    obtain ⟨x2, hx, hkl, _⟩ := Maps.keyOf_int_inv Try.underlying3 hk
    injection hx with _ hx
    subst hx
    have hkl : kl = KL x := hkl
    subst hkl
    obtain ⟨l, hl, hc, hy⟩ := rdBlk_inv hv
    have hcl : c = l := blkV_inj hc
    subst hcl
    have h4 := h3 x
    rw [hat, hy] at h4
    have hcf : c = f x := BL_inj h4
    have hhas : Maps.has (DataW.map es) (KL x) = true := Maps.has_true_of_atKey hat
    rw [Maps.has_eq, List.any_eq_true] at hhas
    obtain ⟨p, hp, hpk⟩ := hhas
    obtain ⟨j, hj, j0, j1⟩ := h2 p hp
    have hjx : j = x := by
      have := WideAt.sameKey_eq hpk
      rw [hj] at this
      exact KL_inj this
    subst hjx
    rw [hcf] at hen ⊢
    refine hMore j w' _ cnt' ⟨j0, j1⟩ ⟨es, hr, h2, h3⟩ hlt (fun i => ?_) hgr hsz hen
    unfold upd stillF
    by_cases hi : i = j
    · subst hi
      have e1 : (left (KL i) && !(KL i).sameKey (KL i)) = false := by rw [WideAt.sameKey_self (KL_key i)]; simp
      rw [if_pos rfl]
      show f i = if (left (KL i) && !(KL i).sameKey (KL i)) = true then zeros else f i
      rw [e1]; simp
    · have e1 : (left (KL i) && !(KL i).sameKey (KL j)) = left (KL i) := by rw [Maps.sameKey_ne (fun e => hi (KL_inj e))]; simp
      rw [if_neg hi]
      show (if left (KL i) = true then zeros else f i) = if (left (KL i) && !(KL i).sameKey (KL j)) = true then zeros else f i
      rw [e1]
theorem wpList_len_blk (hg : o.guard = none) (m : Operand) (hop : o.op = Op.call { callee := Callee.builtin Builtin.len, args := #[m], argTypes := #[45] }) (b : Nat) (f : Int → List UInt8) (hm : a.eval m = .map (some b)) (h : SMap w b f)
    (hK : ∀ k : Nat, k ≤ 8192 → wpList Try.prog ops Q rest (a.put o.dst (.int .i64 (k : Int))) w) : wpList Try.prog ops Q (o :: rest) a w := by
  obtain ⟨es, h1, h2, h3⟩ := h
  exact wpList_len_own w hg m _ hop 3 84 Try.underlying45 rdBlk b 8192 _ hm h1 (hK _ h1.size_le)
end
theorem SRng.chg {S : Nat → Prop} {w w' : World} {b r : Nat} {f : Int → List UInt8} {left : Lit → Bool} {cnt : Nat} (h : SRng w b r f left cnt) (hc : Chg S w w') (h1 : ¬ S b) (h2 : ¬ S r) : SRng w' b r f left cnt := by
  obtain ⟨es, ⟨ms, clock, since, seen, c0, hb, F, hs, hD, hr, rest⟩, h4, h5⟩ := h
  exact ⟨es, ⟨ms, clock, since, seen, c0, (hc.block b (Array.getElem?_eq_some_iff.1 hb).1 h1).trans hb, F, hs, hD, (hc.block r (Array.getElem?_eq_some_iff.1 hr).1 h2).trans hr, rest⟩, h4, h5⟩
theorem SRng.left_eq {w : World} {b r : Nat} {f : Int → List UInt8} {left : Lit → Bool} {cnt : Nat} (h : SRng w b r f left cnt) : w.rangeLeft b r = cnt := by
  obtain ⟨es, h1, _⟩ := h
  exact h1.left_eq
theorem run_makeMap_size (k : Int) (w : World) : (Instr.makeMap 45 (some (.int .i64 k))).run Try.prog w = .ok (.map (some w.heap.size)) (w.alloc (.map #[] 0)) := by
  unfold Instr.makeMap
  simp [run_underlying Try.underlying45, go_sem]
set_option maxRecDepth 100000 in
set_option maxHeartbeats 4000000 in
theorem copied_any (b : Nat) (f : Int → List UInt8) (w : World) (h : SMap w b f) :
    Calls Try.prog 54 #[.map (some b)] w fun e w' => ∃ b', e = .returned (.map (some b')) ∧ w.heap.size ≤ b' ∧ SMap w' b' f ∧ Chg NoB w w' := by
  have HM := Lib.hid h
  clear h
  have hms := run_makeMap_size
  go_enter Try.func54, Try.ntmps54
  go_upto_region 2 with (first
    | (refine wpList_len_blk _ rfl _ rfl b f rfl HM.out ?_; intro k hk; clear hk)
    | fail)
  clear hms
  obtain ⟨w1, hw1⟩ : ∃ w1, w1 = w.alloc (.map #[] 0) := ⟨_, rfl⟩
  obtain ⟨b', hb'⟩ : ∃ b', b' = w.heap.size := ⟨_, rfl⟩
  have ho1 : SMap w1 b' zF := by rw [hw1, hb']; exact SMap.made w
  have hm1 : SMap w1 b f := by rw [hw1]; exact HM.out.alloc _
  have hc1 : Chg NoB w w1 := by rw [hw1]; exact (Chg.refl _ _).alloc _
  have hbb : b < b' := by rw [hb']; exact HM.out.lt
  have hbw : b' < w1.heap.size := ho1.lt
  have hwb : w.heap.size ≤ b' := Nat.le_of_eq hb'.symm
  rw [← hw1, ← hb']
  clear hw1 hb'
  go_wp2_with (first
    | (refine wpList_range_blk _ rfl _ rfl b f rfl hm1 ?_; intro w2 left cnt hrg hst hg2 hs2; go_frame)
    | fail)
  obtain ⟨r, hr⟩ : ∃ r, r = w1.heap.size := ⟨_, rfl⟩
  rw [← hr] at hrg
  rw [← hr]
  have ho2 : SMap w2 b' zF := ho1.chg ((Chg.refl NoB w1).grown hg2 (fun g e => by cases e)) (fun h => h)
  have ho3 : SMap w2 b' (stillF f left) := ho2.congr (fun i => (hst i).symm)
  have hc2 : Chg NoB w w2 := hc1.grown hg2 (fun g e => by cases e)
  have hbr : b' ≠ r := by omega
  have hbr2 : b ≠ r := by omega
  have hbb2 : b ≠ b' := by omega
  have hrw : w.heap.size ≤ r := by omega
  have hr2 : r < w2.heap.size := by omega
  have HC2 := Lib.hid hc2
  have HORD := Lib.hid (show b' ≠ r ∧ b ≠ r ∧ b ≠ b' ∧ w.heap.size ≤ r ∧ w.heap.size ≤ b' ∧ r < w2.heap.size ∧ b' < w2.heap.size from ⟨hbr, hbr2, hbb2, hrw, hwb, hr2, by omega⟩)
  clear hst hg2 hs2 ho1 hm1 hc1 hbb hbw hwb hr ho2 hc2 hbr hbr2 hbb2 hrw hr2
  go_loopw [4] (fun _ wr => ∃ left cnt, SRng wr b r f left cnt ∧ SMap wr b' (stillF f left) ∧ Chg (fun i => i = b' ∨ i = r) w2 wr) (fun _ wr => wr.rangeLeft b r)
  case atStart => exact ⟨left, cnt, hrg, ho3, Chg.refl _ _⟩
  case round =>
    clear ho3 hrg
    obtain ⟨left, cnt, hrg, hout, hch⟩ := hrel
    have HRG := Lib.hid hrg
    have HOUT := Lib.hid hout
    have HCH := Lib.hid hch
    clear hrg hout hch
    go_wp2_with (first
      | (at_next; refine wpList_next_blk _ rfl _ rfl b r f left cnt rfl HRG.out ?_ ?_)
      | fail)
    · intro hdone
      go_wp2_with fail
      go_ret
      exact ⟨b', rfl, HORD.out.2.2.2.2.1, HOUT.out.congr hdone, HC2.out.trans HCH.out (fun i hi h => by have h1 := HORD.out; have h2 : i = b' ∨ i = r := h; omega)⟩
    · intro x w3 left' cnt' hx0 hx1 hr3 hlt hst3 hg3 hs3 hen
      have hx : 0 ≤ x ∧ x < 8192 := ⟨hx0, hx1⟩
      clear hx0 hx1
      have hL := HRG.out.smap.len x
      have HLN := Lib.hid hL
      have HX := Lib.hid hx
      have HR3 := Lib.hid hr3
      have HST := Lib.hid hst3
      have hc3 : Chg (OneB r) wr w3 := (Chg.refl _ _).grown hg3 (fun g e => .inl (by injection e with e; exact e.symm))
      have hm3 : SMap w3 b' (stillF f left) := HOUT.out.chg hc3 (fun e => HORD.out.1 e)
      have HS3 := Lib.hid (show w3.heap.size = wr.heap.size ∧ cnt' < cnt ∧ w2.heap.size ≤ wr.heap.size from ⟨hs3, hlt, HCH.out.size⟩)
      have HC3 := Lib.hid hc3
      have HM3 := Lib.hid hm3
      obtain ⟨w4, hw4⟩ : ∃ w4, w4 = (w3.alloc (.cells (blkC zeros) 84)).setRow w3.heap.size (blkC (f x)) := ⟨_, rfl⟩
      have hb4 : Blk w4 w3.heap.size 84 (blkC (f x)) := by rw [hw4]; exact (Blk.new w3 _ _).row _
      have hc4 : Chg NoB w3 w4 := by rw [hw4]; exact ((Chg.refl NoB w3).alloc _).setRow (.inr (Nat.le_refl _)) _
      have HW4 := Lib.hid hw4
      have HB4 := Lib.hid hb4
      have HC4 := Lib.hid hc4
      clear hL hx hr3 hlt hst3 hg3 hs3 hc3 hm3 hb4 hc4 hw4
      go_wp2_with (first
        | (refine wpList_alloc_blk _ rfl rfl ?_)
        | (refine wpList_store_blk rfl 84 _ _ rfl w3.heap.size (blkC (f x)) rfl rfl 84 _ (Blk.new w3 _ _) (by rw [blkC_size, blkC_size, HLN.out, zeros_len]) (blk_infoS HLN.out) (blk_one _) ?_; rw [← HW4.out])
        | (refine wpList_load_row rfl 84 _ rfl w3.heap.size rfl 84 _ (0, 0) _ HB4.out Try.underlying84 rfl (blk_infoS HLN.out) ?_)
        | (at_mapUpdate; refine wpList_put_blk _ rfl _ _ _ rfl b' (stillF f left) rfl (HM3.out.chg HC4.out (fun h => h)) x rfl HX.out.1 HX.out.2 (f x) rfl HLN.out ?_; intro w5 hm5 hc5; go_frame)
        | fail)
      go_roundw
      case rel =>
        have h1 := HORD.out
        have hcw : Chg (fun i => i = b' ∨ i = r) wr w5 := (((Chg.refl (fun i => i = b' ∨ i = r) wr).trans HC3.out (fun i _ h => .inr h)).trans HC4.out (fun _ _ h => h.elim)).trans hc5 (fun i _ h => .inl h)
        exact ⟨left', cnt', (HR3.out.chg HC4.out (fun h => h) (fun h => h)).chg hc5 (fun h => h1.2.2.1 h) (fun h => h1.1 h.symm), hm5.congr HST.out, HCH.out.trans hcw (fun _ _ h => h)⟩
      case measure =>
        have h1 := HORD.out
        rw [((HR3.out.chg HC4.out (fun h => h) (fun h => h)).chg hc5 (fun h => h1.2.2.1 h) (fun h => h1.1 h.symm)).left_eq, HRG.out.left_eq]
        exact HS3.out.2.1
end Go.Proofs.Ytlhfhhbafhnbkaa
