/-
  PLAIN LAWS of slots: one byte is another one (no program in sight).
-/
import Derived.Test.YtlhfhhbafhnbkaaSlt12
namespace Go.Proofs.Ytlhfhhbafhnbkaa
open Go.RowKit FieldM CrcM
set_option linter.unusedSimpArgs false
set_option linter.unusedVariables false
theorem xor_zero_eq {u v : BitVec 32} (h : u ^^^ v = 0#32) : u = v := by
  have h1 : (u ^^^ v) ^^^ v = 0#32 ^^^ v := by rw [h]
  rw [BitVec.xor_assoc, BitVec.xor_self, BitVec.xor_zero, BitVec.zero_xor] at h1
  exact h1
theorem step_inj {u v : BitVec 32} (h : step8 u = step8 v) : u = v := by
  apply xor_zero_eq
  by_cases hz : u ^^^ v = 0#32
  · exact hz
  · have h1 := step_ne hz
    rw [step_xor, h, BitVec.xor_self] at h1
    exact absurd rfl h1
theorem fold_inj {u v : BitVec 32} : ∀ {y : List (BitVec 32)}, fold u y = fold v y → u = v := by
  intro y
  induction y generalizing u v with
  | nil => intro h; exact h
  | cons x r ih =>
    intro h
    rw [fold_cons, fold_cons] at h
    have h1 := step_inj (ih h)
    have h2 : (u ^^^ x) ^^^ x = (v ^^^ x) ^^^ x := by rw [h1]
    rw [BitVec.xor_assoc, BitVec.xor_assoc, BitVec.xor_self, BitVec.xor_zero, BitVec.xor_zero] at h2
    exact h2
theorem wd_inj {x y : UInt8} (h : wd x = wd y) : x = y := by
  unfold wd at h
  have h1 := congrArg BitVec.toNat h
  rw [BitVec.toNat_ofNat, BitVec.toNat_ofNat] at h1
  have := x.toNat_lt
  have := y.toNat_lt
  exact UInt8.toNat_inj.1 (by omega)
theorem crc_mid {a c : List UInt8} {x y : UInt8} (h : crcN (a ++ x :: c) = crcN (a ++ y :: c)) : x = y := by
  unfold crcN moreL sumMore at h
  have h1 := BitVec.eq_of_toNat_eq h
  have h2 : fold (~~~ 0#32) ((a ++ x :: c).map wd) = fold (~~~ 0#32) ((a ++ y :: c).map wd) := by
    have h3 := congrArg (fun z => ~~~ z) h1
    simpa using h3
  rw [List.map_append, List.map_append, List.map_cons, List.map_cons, fold_append, fold_append, fold_cons, fold_cons] at h2
  have h3 := step_inj (fold_inj h2)
  have h4 : ∀ p q r : BitVec 32, p ^^^ q = p ^^^ r → q = r := by
    intro p q r h
    have h5 : p ^^^ (p ^^^ q) = p ^^^ (p ^^^ r) := by rw [h]
    rw [← BitVec.xor_assoc, ← BitVec.xor_assoc, BitVec.xor_self, BitVec.zero_xor, BitVec.zero_xor] at h5
    exact h5
  exact wd_inj (h4 _ _ _ h3)
theorem crc_set {l : List UInt8} {p : Nat} {y : UInt8} (hp : p < l.length) (h : crcN (l.set p y) = crcN l) : y = l[p] := by
  have e1 : l.set p y = l.take p ++ y :: l.drop (p + 1) := List.set_eq_take_append_cons_drop ▸ (by rw [if_pos hp])
  have e2 : l = l.take p ++ l[p] :: l.drop (p + 1) := by
    conv => lhs; rw [← List.take_append_drop p l, List.drop_eq_getElem_cons hp]
  have h2 : crcN (l.take p ++ y :: l.drop (p + 1)) = crcN (l.take p ++ l[p] :: l.drop (p + 1)) := by rw [← e1, h]; conv => lhs; rw [e2]
  exact crc_mid h2
/-- a header of which a byte is another one is not right -/
theorem hd_turn {g s z u p : Nat} {y : UInt8} (hp : p < 512) (hy : y ≠ (hdr g s z u)[p]'(by rw [hdr_len]; exact hp)) : hdOk ((hdr g s z u).set p y) = false := by
  cases hk : hdOk ((hdr g s z u).set p y)
  · rfl
  exfalso
  obtain ⟨b, hb⟩ : ∃ b, b = hdr g s z u := ⟨_, rfl⟩
  have hbl : b.length = 512 := by rw [hb]; exact hdr_len _ _ _ _
  obtain ⟨b', hb'⟩ : ∃ b', b' = b.set p y := ⟨_, rfl⟩
  rw [← hb, ← hb'] at hk
  have hy2 : y ≠ b[p]'(by omega) := by simpa [hb] using hy
  have hk2 : hdr (fld b' 0) (fld b' 1) (fld b' 2) (fld b' 3) = b' := by unfold hdOk at hk; simpa using hk
  obtain ⟨t, ht⟩ : ∃ t, t = hd20 g s z u := ⟨_, rfl⟩
  obtain ⟨t', ht'⟩ : ∃ t', t' = hd20 (fld b' 0) (fld b' 1) (fld b' 2) (fld b' 3) := ⟨_, rfl⟩
  have htl : t.length = 20 := by rw [ht]; exact hd20_len _ _ _ _
  have htl' : t'.length = 20 := by rw [ht']; exact hd20_len _ _ _ _
  have f1 : b = t ++ (leB (crcN t) 4 ++ List.replicate 488 0) := by rw [hb, ht]; unfold hdr hd24; rw [List.append_assoc]
  have f2 : b' = t' ++ (leB (crcN t') 4 ++ List.replicate 488 0) := by rw [← hk2, ht']; unfold hdr hd24; rw [List.append_assoc]
  by_cases hp2 : p < 20
  · have d1 : b'.drop 20 = b.drop 20 := by rw [hb', List.drop_set, if_pos hp2]
    rw [f1, f2, List.drop_left' htl', List.drop_left' htl] at d1
    have d2 := List.append_inj_left d1 (by rw [leB_len, leB_len])
    have d3 : crcN t' = crcN t := by
      have h1 := congrArg le d2
      rw [le_leB, le_leB] at h1
      have := crcN_lt t
      have := crcN_lt t'
      omega
    have d4 : t' = t.set p y := by
      have h1 : b'.take 20 = (b.take 20).set p y := by rw [hb', List.take_set]
      rw [f1, f2, List.take_append_of_le_length (by omega), List.take_append_of_le_length (by omega), List.take_of_length_le (by omega), List.take_of_length_le (by omega)] at h1
      exact h1
    rw [d4] at d3
    have d5 := crc_set (by omega) d3
    apply hy2
    rw [d5]
    simp only [f1]
    rw [List.getElem_append_left (by omega)]
  · have d1 : b'.take 20 = b.take 20 := by rw [hb', List.take_set, List.set_eq_of_length_le (by simp; omega)]
    rw [f1, f2, List.take_append_of_le_length (by omega), List.take_append_of_le_length (by omega), List.take_of_length_le (by omega), List.take_of_length_le (by omega)] at d1
    have d2 : b' = b := by rw [f1, f2, d1]
    apply hy2
    have d3 : b'[p]? = b[p]? := by rw [d2]
    rw [hb', List.getElem?_set_self (by omega), List.getElem?_eq_getElem (by omega)] at d3
    exact Option.some.inj d3
theorem catL_get {f : Int → List UInt8} (hf : ∀ i, (f i).length = 512) (fr : Int) : ∀ (q k : Nat), k < 512 * q → (catL f fr q)[k]? = (f (fr + ((k / 512 : Nat) : Int)))[k % 512]? := by
  intro q
  induction q with
  | zero => intro k hk; omega
  | succ q ih =>
    intro k hk
    rw [catL_succ]
    by_cases h : k < 512 * q
    · rw [List.getElem?_append_left (by rw [catL_len hf]; exact h)]; exact ih k h
    · rw [List.getElem?_append_right (by rw [catL_len hf]; omega), catL_len hf]
      rw [show k / 512 = q from by omega, show k % 512 = k - 512 * q from by omega]
theorem contentL_get {f : Int → List UInt8} (hf : ∀ i, (f i).length = 512) (fr : Int) (size k : Nat) (hk : k < size) : (contentL f fr size)[k]? = (f (fr + ((k / 512 : Nat) : Int)))[k % 512]? := by
  unfold contentL
  rw [List.getElem?_take, if_pos hk]
  exact catL_get hf fr _ k (by omega)
/-- a byte of a sector is a byte of what stands in the slot -/
theorem contentL_set {f : Int → List UInt8} (hf : ∀ i, (f i).length = 512) (fr : Int) (size k : Nat) (y : UInt8) (hk : k < size) :
    contentL (upd f (fr + ((k / 512 : Nat) : Int)) ((f (fr + ((k / 512 : Nat) : Int))).set (k % 512) y)) fr size = (contentL f fr size).set k y := by
  have hf2 : ∀ i, (upd f (fr + ((k / 512 : Nat) : Int)) ((f (fr + ((k / 512 : Nat) : Int))).set (k % 512) y) i).length = 512 := fun i => by
    unfold upd; split
    · rw [List.length_set]; exact hf _
    · exact hf i
  apply List.ext_getElem?
  intro j
  by_cases hj : j < size
  · rw [contentL_get hf2 fr size j hj]
    by_cases hjk : j = k
    · subst hjk
      rw [List.getElem?_set_self (by rw [contentL_len hf]; exact hj)]
      unfold upd
      rw [if_pos rfl, List.getElem?_set_self (by rw [hf]; omega)]
    · rw [List.getElem?_set_ne (fun h => hjk h.symm), contentL_get hf fr size j hj]
      unfold upd
      by_cases hs : j / 512 = k / 512
      · rw [hs, if_pos rfl, List.getElem?_set_ne (by omega)]
      · rw [if_neg (by omega)]
  · rw [List.getElem?_eq_none (by rw [contentL_len hf2]; omega), List.getElem?_eq_none (by rw [List.length_set, contentL_len hf]; omega)]
/-- a disk whose bytes in the slot are others in one byte is not loaded -/
theorem Holds.turned {K : Dk} {gen slot : Nat} {b : List UInt8} {f : Int → List UInt8} (hl : ∀ i, (f i).length = 512) (h : Holds f K.n gen slot b) (h3 : 3 ≤ K.n) (hd : K.dark = false) (k : Nat) (hk : k < b.length) (y : UInt8) (hy : y ≠ b[k])
    (hn : K.now = upd f (1 + (slot : Int) * halfZ K.n + ((k / 512 : Nat) : Int)) ((f (1 + (slot : Int) * halfZ K.n + ((k / 512 : Nat) : Int))).set (k % 512) y)) : ldE K = 15 := by
  have hh : 0 ≤ halfZ K.n := by unfold halfZ; omega
  have hs0 : 0 ≤ (slot : Int) * halfZ K.n := Int.mul_nonneg (by omega) hh
  have h0 : K.now 0 = f 0 := by rw [hn]; unfold upd; rw [if_neg (by omega)]
  have hb : b.length < 4294967296 := by have := h.rm; have := roomZ_le K.n; omega
  have hfl := fld_hdr h.gl (by have := h.sl; omega : slot < 4294967296) hb (crcN_lt b)
  rw [← h.hd, ← h0] at hfl
  have hng : ¬ ldGood K := by
    intro hg
    have hc := hg.2.2.2
    have hfr : ldFrom K = 1 + (slot : Int) * halfZ K.n := by unfold ldFrom; rw [hfl.2.1]
    rw [hfl.2.2.1, hfl.2.2.2, hfr, hn, contentL_set hl _ _ k y hk, h.ct] at hc
    exact hy (crc_set hk hc)
  unfold ldE
  rw [if_neg (by omega), if_neg (by rw [hd]; decide), if_neg hng]
theorem hd_turn_ld {K : Dk} (h3 : 3 ≤ K.n) (hd : K.dark = false) (hk : hdOk (K.now 0) = false) : ldE K = 15 := by
  unfold ldE
  rw [if_neg (by omega), if_neg (by rw [hd]; decide), if_neg (fun h => by have h1 := h.1; rw [hk] at h1; cases h1)]
end Go.Proofs.Ytlhfhhbafhnbkaa
