/-
  PLAIN LAWS of slots: what a header reads, what is committed is loaded (no program in sight).
-/
import Derived.Test.YtlhfhhbafhnbkaaSlt9
namespace Go.Proofs.Ytlhfhhbafhnbkaa
open Go.RowKit FieldM CrcM
set_option linter.unusedSimpArgs false
set_option linter.unusedVariables false
/-! ### the header's numbers -/
theorem drop_mid (a b c : List UInt8) (n : Nat) (h : a.length = n) (h4 : b.length = 4) : ((a ++ (b ++ c)).drop n).take 4 = b := by
  rw [List.drop_append, List.drop_of_length_le (by omega), h, Nat.sub_self, List.nil_append, List.drop_zero, List.take_append, List.take_of_length_le (by omega), h4, Nat.sub_self, List.take_zero, List.append_nil]
theorem fld_hdr {a0 a1 a2 a3 : Nat} (h0 : a0 < 4294967296) (h1 : a1 < 4294967296) (h2 : a2 < 4294967296) (h3 : a3 < 4294967296) :
    fld (hdr a0 a1 a2 a3) 0 = a0 ∧ fld (hdr a0 a1 a2 a3) 1 = a1 ∧ fld (hdr a0 a1 a2 a3) 2 = a2 ∧ fld (hdr a0 a1 a2 a3) 3 = a3 := by
  obtain ⟨z, hz⟩ : ∃ z, z = leB (crcN (hd20 a0 a1 a2 a3)) 4 ++ List.replicate 488 (0 : UInt8) := ⟨_, rfl⟩
  have e : hdr a0 a1 a2 a3 = magic ++ (leB a0 4 ++ (leB a1 4 ++ (leB a2 4 ++ (leB a3 4 ++ z)))) := by
    rw [hz]; unfold hdr hd24
    generalize leB (crcN (hd20 a0 a1 a2 a3)) 4 = y
    unfold hd20
    simp only [List.append_assoc]
  have key : ∀ x : Nat, x < 4294967296 → le (leB x 4) = x := fun x hx => by rw [le_leB]; omega
  rw [e]
  unfold fld
  refine ⟨?_, ?_, ?_, ?_⟩
  · rw [drop_mid _ _ _ 4 rfl (leB_len _ _)]; exact key _ h0
  · rw [← List.append_assoc, drop_mid _ _ _ (4 + 4 * 1) (by simp [magic, leB_len]) (leB_len _ _)]; exact key _ h1
  · rw [← List.append_assoc, ← List.append_assoc, drop_mid _ _ _ (4 + 4 * 2) (by simp [magic, leB_len]) (leB_len _ _)]; exact key _ h2
  · rw [← List.append_assoc, ← List.append_assoc, ← List.append_assoc, drop_mid _ _ _ (4 + 4 * 3) (by simp [magic, leB_len]) (leB_len _ _)]; exact key _ h3
/-- a disk's first sector names bytes that stand in a slot -/
structure Holds (f : Int → List UInt8) (n : Int) (gen slot : Nat) (b : List UInt8) : Prop where
  hd : f 0 = hdr gen slot b.length (crcN b)
  gl : gen < 4294967296
  sl : slot ≤ 1
  rm : (b.length : Int) ≤ roomZ n
  ct : contentL f (1 + (slot : Int) * halfZ n) b.length = b
theorem roomZ_le (n : Int) : roomZ n ≤ 1048576 := by unfold roomZ; split <;> omega
theorem Holds.good {K : Dk} {gen slot : Nat} {b : List UInt8} (h : Holds K.now K.n gen slot b) : ldGood K ∧ fld (K.now 0) 0 = gen ∧ fld (K.now 0) 1 = slot ∧ fld (K.now 0) 2 = b.length ∧ contentL K.now (ldFrom K) b.length = b := by
  have hb : b.length < 4294967296 := by have := h.rm; have := roomZ_le K.n; omega
  have hs := h.sl
  have hf := fld_hdr h.gl (by omega : slot < 4294967296) hb (crcN_lt b)
  rw [← h.hd] at hf
  have hfr : ldFrom K = 1 + (slot : Int) * halfZ K.n := by unfold ldFrom; rw [hf.2.1]
  refine ⟨⟨?_, by rw [hf.2.1]; exact hs, by rw [hf.2.2.1]; exact h.rm, by rw [hf.2.2.1, hf.2.2.2, hfr, h.ct]⟩, hf.1, hf.2.1, hf.2.2.1, by rw [hfr]; exact h.ct⟩
  unfold hdOk
  rw [hf.1, hf.2.1, hf.2.2.1, hf.2.2.2, ← h.hd]
  simp
theorem Holds.load {K : Dk} {gen slot : Nat} {b : List UInt8} (h : Holds K.now K.n gen slot b) (h3 : 3 ≤ K.n) (hd : K.dark = false) : ldE K = 0 ∧ ldB K = b ∧ ldH K 0 = gen ∧ ldH K 1 = slot := by
  obtain ⟨hg, f0, f1, f2, fc⟩ := h.good
  have h0 : ldE K = 0 := by unfold ldE; rw [if_neg (by omega), if_neg (by rw [hd]; decide), if_pos hg]
  refine ⟨h0, ?_, ?_, ?_⟩
  · unfold ldB; rw [if_pos h0, f2, fc]
  · unfold ldH; rw [if_pos h0, f0]
  · unfold ldH; rw [if_pos h0, f1]
/-! ### a disk without a fuse -/
structure NF (K : Dk) (n : Int) : Prop where
  n : K.n = n
  fuse : K.fuse = -1
  dark : K.dark = false
  now : settle K.sure K.loose = K.now
theorem NF.write {K : Dk} {n : Int} (h : NF K n) {i : Int} {l : List UInt8} (h0 : 0 ≤ i) (h1 : i < n) (hl : l.length = 512) :
    writeE K i l = 0 ∧ NF (K.write i l) n ∧ (K.write i l).now = upd K.now i l ∧ (K.write i l).sure = K.sure ∧ (K.write i l).loose = K.loose ++ [(i, l)] := by
  have hb : ¬ wBad K i l := by unfold wBad; rw [h.n]; omega
  have hd : ¬ K.dark = true := by rw [h.dark]; decide
  have hf : ¬ K.fuse = 0 := by rw [h.fuse]; decide
  have hw : K.write i l = K.wrote i l := if_neg (fun e => e.elim hb hd)
  rw [hw]
  refine ⟨by unfold writeE; rw [if_neg hb, if_neg hd, if_neg hf], ⟨h.n, ?_, ?_, ?_⟩, rfl, rfl, rfl⟩
  · show (if 0 < K.fuse then K.fuse - 1 else K.fuse) = -1
    rw [h.fuse]; rfl
  · show (K.dark || K.fuse == 0) = false
    rw [h.fuse, h.dark]; rfl
  · show settle K.sure (K.loose ++ [(i, l)]) = upd K.now i l
    rw [settle_snoc, h.now]
theorem NF.sync {K : Dk} {n : Int} (h : NF K n) : syncE K = 0 ∧ NF K.sync n ∧ K.sync.now = K.now ∧ K.sync.sure = K.now ∧ K.sync.loose = [] := by
  have hd : ¬ K.dark = true := by rw [h.dark]; decide
  have hf : ¬ K.fuse = 0 := by rw [h.fuse]; decide
  have hs : K.sync = { K.spent with sure := settle K.sure K.loose, loose := [] } := by unfold Dk.sync; rw [if_neg hd, if_neg hf]
  rw [hs]
  refine ⟨if_neg (fun e => e.elim hd hf), ⟨h.n, ?_, ?_, h.now⟩, rfl, h.now, rfl⟩
  · show (if 0 < K.fuse then K.fuse - 1 else K.fuse) = -1
    rw [h.fuse]; rfl
  · show (K.dark || K.fuse == 0) = false
    rw [h.fuse, h.dark]; rfl
theorem runOps_ok {o : Op1} {r : List Op1} {K : Dk} (h : o.err K = 0) : runOps K (o :: r) = runOps (o.run K) r := if_pos h
theorem runOps_no {o : Op1} {r : List Op1} {K : Dk} (h : ¬ o.err K = 0) : runOps K (o :: r) = (o.run K, o.err K) := if_neg h
theorem runOps_app : ∀ (a b : List Op1) (K : Dk), runOps K (a ++ b) = if (runOps K a).2 = 0 then runOps (runOps K a).1 b else runOps K a := by
  intro a b
  induction a with
  | nil => intro K; exact (if_pos rfl).symm
  | cons o r ih =>
    intro K
    by_cases h : o.err K = 0
    · rw [List.cons_append, runOps_ok h, runOps_ok h, ih]
    · rw [List.cons_append, runOps_no h, runOps_no h, if_neg h]
/-- so many sectors are written -/
def putsF (f : Int → List UInt8) (fr : Int) (b : List UInt8) (q : Nat) : Int → List UInt8 := fun i => if fr ≤ i ∧ i < fr + (q : Int) then padL (b.drop (512 * (i - fr).toNat)) else f i
theorem putsF_succ (f : Int → List UInt8) (fr : Int) (b : List UInt8) (q : Nat) : upd (putsF f fr b q) (fr + (q : Int)) (padL (b.drop (512 * q))) = putsF f fr b (q + 1) := by
  funext i
  unfold upd putsF
  by_cases h : i = fr + (q : Int)
  · subst h
    rw [if_pos rfl, if_pos (by omega)]
    congr 3
    omega
  · rw [if_neg h]
    by_cases h2 : fr ≤ i ∧ i < fr + (q : Int)
    · rw [if_pos h2, if_pos (by omega)]
    · rw [if_neg h2, if_neg (by push_cast; omega)]
theorem NF.pieces {K : Dk} {n : Int} (h : NF K n) (fr : Int) (b : List UInt8) (h0 : 0 ≤ fr) : ∀ q : Nat, fr + (q : Int) ≤ n → (runOps K (pieceOps fr b q)).2 = 0 ∧ NF (runOps K (pieceOps fr b q)).1 n ∧ (runOps K (pieceOps fr b q)).1.now = putsF K.now fr b q ∧ (runOps K (pieceOps fr b q)).1.sure = K.sure := by
  intro q
  induction q with
  | zero =>
    intro _
    refine ⟨rfl, h, ?_, rfl⟩
    show K.now = _
    funext i; unfold putsF; rw [if_neg (by push_cast; omega)]
  | succ q ih =>
    intro hq
    obtain ⟨i1, i2, i3, i4⟩ := ih (by push_cast at hq; omega)
    rw [pieceOps_succ, runOps_app, if_pos i1]
    have hw := i2.write (i := fr + (q : Int)) (l := padL (b.drop (512 * q))) (by omega) (by push_cast at hq; omega) (padL_len _)
    have e : runOps (runOps K (pieceOps fr b q)).1 [Op1.wr (fr + (q : Int)) (padL (b.drop (512 * q)))] = ((runOps K (pieceOps fr b q)).1.write (fr + (q : Int)) (padL (b.drop (512 * q))), 0) := if_pos hw.1
    rw [e]
    exact ⟨rfl, hw.2.1, by rw [hw.2.2.1, i3, putsF_succ], by rw [hw.2.2.2.1, i4]⟩
theorem padL_take (m : List UInt8) : (padL m).take m.length = m.take 512 := by
  unfold padL
  have hm : Nat.min m.length 512 = min m.length 512 := rfl
  rw [hm]
  by_cases h : m.length ≤ 512
  · rw [List.take_of_length_le h, List.take_append_of_le_length (Nat.le_refl _), List.take_of_length_le (Nat.le_refl _)]
  · rw [show min m.length 512 = 512 from by omega, List.drop_of_length_le (by rw [zeros_len]; exact Nat.le_refl _), List.append_nil, List.take_take]
    congr 1; omega
theorem catL_pad {f : Int → List UInt8} {fr : Int} (b : List UInt8) (hf : ∀ i, (f i).length = 512) (q : Nat) (hq : ∀ j : Nat, j < q → f (fr + (j : Int)) = padL (b.drop (512 * j))) : (catL f fr q).take b.length = b.take (512 * q) := by
  induction q with
  | zero => simp [catL]
  | succ q ih =>
    have ih := ih (fun j hj => hq j (by omega))
    rw [catL_succ, hq q (by omega)]
    by_cases h : b.length ≤ 512 * q
    · rw [List.take_append_of_le_length (by rw [catL_len hf]; exact h), ih, List.take_of_length_le h, List.take_of_length_le (by omega)]
    · have e : catL f fr q = b.take (512 * q) := by rw [← ih, List.take_of_length_le (by rw [catL_len hf]; omega)]
      rw [List.take_append, catL_len hf, List.take_of_length_le (by rw [catL_len hf]; omega), e]
      have h2 := padL_take (b.drop (512 * q))
      rw [List.length_drop] at h2
      rw [h2, show 512 * (q + 1) = 512 * q + 512 from by omega, List.take_add]
theorem putsF_len {f : Int → List UInt8} (hf : ∀ i, (f i).length = 512) (fr : Int) (b : List UInt8) (q : Nat) : ∀ i, (putsF f fr b q i).length = 512 := by
  intro i; unfold putsF; split
  · exact padL_len _
  · exact hf i
/-- what is written in a slot reads so -/
theorem cont_puts {f : Int → List UInt8} (hf : ∀ i, (f i).length = 512) (fr : Int) (b : List UInt8) : contentL (putsF f fr b (cntOf b.length)) fr b.length = b := by
  have hc : b.length ≤ 512 * cntOf b.length := by unfold cntOf; omega
  rw [← catL_take (putsF_len hf fr b _) fr b.length (cntOf b.length) hc, catL_pad b (putsF_len hf fr b _) _ (fun j hj => ?_), List.take_of_length_le hc]
  unfold putsF
  rw [if_pos (by omega)]
  congr 3
  omega
theorem catL_congr {f g : Int → List UInt8} {fr : Int} (q : Nat) (h : ∀ j : Nat, j < q → f (fr + (j : Int)) = g (fr + (j : Int))) : catL f fr q = catL g fr q := by
  induction q with
  | zero => rfl
  | succ q ih => rw [catL_succ, catL_succ, ih (fun j hj => h j (by omega)), h q (by omega)]
theorem cont_congr {f g : Int → List UInt8} {fr : Int} {size : Nat} (hf : ∀ i, (f i).length = 512) (hg : ∀ i, (g i).length = 512) (h : ∀ i : Int, fr ≤ i → i < fr + (cntOf size : Int) → f i = g i) : contentL f fr size = contentL g fr size := by
  have hc : size ≤ 512 * cntOf size := by unfold cntOf; omega
  rw [← catL_take hf fr size _ hc, ← catL_take hg fr size _ hc]
  rw [catL_congr (cntOf size) (fun j hj => h _ (by omega) (by omega))]
theorem cnt_half {n : Int} {b : Nat} (h3 : 3 ≤ n) (hr : (b : Int) ≤ roomZ n) : (cntOf b : Int) ≤ halfZ n ∧ 1 + 2 * halfZ n ≤ n := by
  unfold roomZ at hr
  unfold cntOf
  have hh : 1 + 2 * halfZ n ≤ n := by unfold halfZ; omega
  refine ⟨?_, hh⟩
  split at hr
  · have : b = 0 := by omega
    subst this
    show (0 : Int) ≤ halfZ n
    unfold halfZ; omega
  · have : (b : Int) ≤ halfZ n * 512 := by omega
    omega
/-- a Commit of a disk without a fuse -/
theorem Holds.commit {K : Dk} {n : Int} {gen slot : Nat} {b b' : List UInt8} (h : Holds K.now K.n gen slot b) (hf : NF K n) (h3 : 3 ≤ n) (hl : ∀ i, (K.now i).length = 512) (hg : gen + 1 < 4294967296) (hr : (b'.length : Int) ≤ roomZ n) :
    (commitK K b').2 = 0 ∧ Holds (commitK K b').1.now n (gen + 1) (1 - slot) b' ∧ NF (commitK K b').1 n ∧ (commitK K b').1.sure = (commitK K b').1.now ∧ (commitK K b').1.loose = [] ∧ (commitK K b').1.now = upd (putsF K.now (1 + ((1 - slot : Nat) : Int) * halfZ n) b' (cntOf b'.length)) 0 (hdr (gen + 1) (1 - slot) b'.length (crcN b')) := by
  obtain ⟨l0, lb, lg, ls⟩ := h.load (by rw [hf.n]; exact h3) hf.dark
  have hs := h.sl
  obtain ⟨fr, hfr⟩ : ∃ fr : Int, fr = 1 + ((1 - slot : Nat) : Int) * halfZ n := ⟨_, rfl⟩
  have hcn := cnt_half h3 hr
  have hh0 : 0 ≤ halfZ n := by unfold halfZ; omega
  have hfb : 1 ≤ fr ∧ fr + (cntOf b'.length : Int) ≤ n := by
    rcases (by omega : slot = 0 ∨ slot = 1) with rfl | rfl
    · rw [hfr]; simp; omega
    · rw [hfr]; simp; omega
  have e0 : commitK K b' = runOps K (commitOps K b') := by
    unfold commitK
    rw [if_neg (by rw [l0]; simp), if_neg (by rw [lg]; omega), if_neg (by rw [hf.n]; omega)]
  have e1 : commitOps K b' = pieceOps fr b' (cntOf b'.length) ++ [.sync, .wr 0 (hdr (gen + 1) (1 - slot) b'.length (crcN b')), .sync] := by
    unfold commitOps nextFrom
    rw [lg, ls, hf.n, ← hfr]
  obtain ⟨p1, p2, p3, p4⟩ := hf.pieces fr b' (by omega) (cntOf b'.length) hfb.2
  obtain ⟨K1, hK1⟩ : ∃ K1, K1 = (runOps K (pieceOps fr b' (cntOf b'.length))).1 := ⟨_, rfl⟩
  rw [← hK1] at p2 p3 p4
  have s1 := p2.sync
  have w2 := s1.2.1.write (i := 0) (l := hdr (gen + 1) (1 - slot) b'.length (crcN b')) (by omega) (by omega) (hdr_len _ _ _ _)
  have s3 := w2.2.1.sync
  have e2 : commitK K b' = ((K1.sync.write 0 (hdr (gen + 1) (1 - slot) b'.length (crcN b'))).sync, 0) := by
    rw [e0, e1, runOps_app, if_pos p1, ← hK1]
    exact (runOps_ok (o := .sync) s1.1).trans ((runOps_ok (o := .wr 0 _) w2.1).trans (runOps_ok (o := .sync) s3.1))
  rw [e2]
  have hnow : (K1.sync.write 0 (hdr (gen + 1) (1 - slot) b'.length (crcN b'))).sync.now = upd (putsF K.now fr b' (cntOf b'.length)) 0 (hdr (gen + 1) (1 - slot) b'.length (crcN b')) := by
    rw [s3.2.2.1, w2.2.2.1, s1.2.2.1, p3]
  refine ⟨rfl, ?_, s3.2.1, by rw [s3.2.2.2.1, s3.2.2.1], s3.2.2.2.2, by rw [hnow, hfr]⟩
  show Holds (K1.sync.write 0 _).sync.now n (gen + 1) (1 - slot) b'
  rw [hnow]
  have hl2 : ∀ i, (upd (putsF K.now fr b' (cntOf b'.length)) 0 (hdr (gen + 1) (1 - slot) b'.length (crcN b')) i).length = 512 := fun i => by
    unfold upd; split
    · exact hdr_len _ _ _ _
    · exact putsF_len hl _ _ _ i
  refine ⟨by unfold upd; rw [if_pos rfl], hg, by omega, hr, ?_⟩
  rw [← hfr]
  rw [cont_congr hl2 (putsF_len hl fr b' (cntOf b'.length)) (fun i h1 h2 => by unfold upd; rw [if_neg (by omega)])]
  exact cont_puts hl fr b'
/-- a disk that was made, formatted -/
theorem format_new (n : Int) (h3 : 3 ≤ n) (h1 : n ≤ 8192) : (formatK (Dk.new n)).2 = 0 ∧ Holds (formatK (Dk.new n)).1.now n 0 0 [] ∧ NF (formatK (Dk.new n)).1 n ∧ (formatK (Dk.new n)).1.sure = (formatK (Dk.new n)).1.now ∧ (formatK (Dk.new n)).1.loose = [] ∧ (formatK (Dk.new n)).1.now = upd zF 0 (hdr 0 0 0 0) := by
  have hf : NF (Dk.new n) n := ⟨rfl, rfl, rfl, rfl⟩
  have w1 := hf.write (i := 0) (l := hdr 0 0 0 0) (by omega) (by omega) (hdr_len _ _ _ _)
  have s2 := w1.2.1.sync
  have e : formatK (Dk.new n) = (((Dk.new n).write 0 (hdr 0 0 0 0)).sync, 0) := by
    unfold formatK
    rw [if_neg (by show ¬ n < 3; omega)]
    exact (runOps_ok (o := .wr 0 _) w1.1).trans (runOps_ok (o := .sync) s2.1)
  rw [e]
  have hnow : ((Dk.new n).write 0 (hdr 0 0 0 0)).sync.now = upd zF 0 (hdr 0 0 0 0) := by rw [s2.2.2.1, w1.2.2.1]; rfl
  refine ⟨rfl, ?_, s2.2.1, by rw [s2.2.2.2.1, s2.2.2.1], s2.2.2.2.2, hnow⟩
  show Holds ((Dk.new n).write 0 _).sync.now n 0 0 []
  rw [hnow]
  have hc0 : crcN [] = 0 := by decide
  exact ⟨by unfold upd; rw [if_pos rfl]; rw [List.length_nil, hc0], by decide, by decide, by show (0 : Int) ≤ roomZ n; unfold roomZ halfZ; split <;> omega, rfl⟩
end Go.Proofs.Ytlhfhhbafhnbkaa
