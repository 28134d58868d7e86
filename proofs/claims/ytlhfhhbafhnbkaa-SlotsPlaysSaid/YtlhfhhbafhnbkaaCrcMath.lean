/-
  PLAIN LAWS on CRC-32 (no program in sight): the step as a linear map on 32 bits; sums go on, join, mix; a burst turns the sum. Proved for all words and lists.
-/
import Derived.Laws.Bits
namespace Go.Proofs.Ytlhfhhbafhnbkaa.CrcM
abbrev W := BitVec 32
def poly : W := 0xedb88320#32
def half (c : W) : W := (c >>> 1) ^^^ (if c.getLsbD 0 then poly else 0#32)
def iter (f : W → W) : Nat → W → W
  | 0, c => c
  | n + 1, c => iter f n (f c)
def step8 (c : W) : W := iter half 8 c
def fold (c : W) (b : List W) : W := b.foldl (fun c x => step8 (c ^^^ x)) c

theorem xor4 (a b c d : W) : (a ^^^ b) ^^^ (c ^^^ d) = (a ^^^ c) ^^^ (b ^^^ d) := by ac_rfl
theorem half_xor (a b : W) : half (a ^^^ b) = half a ^^^ half b := by
  unfold half
  rw [BitVec.ushiftRight_xor_distrib, BitVec.getLsbD_xor, xor4]
  congr 1
  cases a.getLsbD 0 <;> cases b.getLsbD 0 <;> simp
theorem half_zero : half 0#32 = 0#32 := by decide
theorem half_ne {c : W} (h : c ≠ 0#32) : half c ≠ 0#32 := by
  intro e
  apply h
  have top : (half c).getLsbD 31 = c.getLsbD 0 := by
    unfold half
    rw [BitVec.getLsbD_xor, BitVec.getLsbD_ushiftRight]
    have : c.getLsbD (1 + 31) = false := BitVec.getLsbD_of_ge _ _ (by omega)
    rw [this]
    cases c.getLsbD 0 <;> decide
  rw [e] at top
  have c0 : c.getLsbD 0 = false := by rw [← top]; decide
  have hs : c >>> 1 = 0#32 := by
    unfold half at e; rw [c0] at e; simpa using e
  apply BitVec.eq_of_getLsbD_eq
  intro i hi
  cases i with
  | zero => rw [c0]; simp
  | succ i =>
    have : (c >>> 1).getLsbD i = c.getLsbD (1 + i) := BitVec.getLsbD_ushiftRight ..
    rw [Nat.add_comm 1 i] at this
    rw [← this, hs]; simp
theorem iter_add (f : W → W) (m n : Nat) (c : W) : iter f (m + n) c = iter f n (iter f m c) := by
  induction m generalizing c with
  | zero => simp [iter]
  | succ m ih => rw [Nat.succ_add]; exact ih (f c)
theorem iter_mul (f : W → W) (m n : Nat) (c : W) : iter f (m * n) c = iter (iter f m) n c := by
  induction n generalizing c with
  | zero => simp [iter]
  | succ n ih => rw [Nat.mul_succ, Nat.add_comm, iter_add, ih]; rfl
theorem iter_xor {f : W → W} (hf : ∀ a b, f (a ^^^ b) = f a ^^^ f b) (n : Nat) (a b : W) : iter f n (a ^^^ b) = iter f n a ^^^ iter f n b := by
  induction n generalizing a b with
  | zero => rfl
  | succ n ih => simp only [iter]; rw [hf, ih]
theorem iter_ne {f : W → W} (hf : ∀ c, c ≠ 0#32 → f c ≠ 0#32) (n : Nat) (c : W) (h : c ≠ 0#32) : iter f n c ≠ 0#32 := by
  induction n generalizing c with
  | zero => exact h
  | succ n ih => exact ih _ (hf _ h)
theorem step_xor (a b : W) : step8 (a ^^^ b) = step8 a ^^^ step8 b := iter_xor half_xor 8 a b
theorem step_ne {c : W} (h : c ≠ 0#32) : step8 c ≠ 0#32 := iter_ne (fun _ h => half_ne h) 8 c h
theorem step_zero : step8 0#32 = 0#32 := by decide

def sumMore (s : W) (b : List W) : W := ~~~ fold (~~~ s) b
def zipx (a b : List W) : List W := List.zipWith (· ^^^ ·) a b

theorem fold_append (c : W) (a b : List W) : fold c (a ++ b) = fold (fold c a) b := by simp [fold]
theorem fold_cons (c x : W) (b : List W) : fold c (x :: b) = fold (step8 (c ^^^ x)) b := rfl
theorem fold_xor (c d : W) (b : List W) : fold (c ^^^ d) b = iter step8 b.length c ^^^ fold d b := by
  induction b generalizing c d with
  | nil => rfl
  | cons x b ih =>
    rw [fold_cons, fold_cons, List.length_cons, iter, BitVec.xor_assoc, step_xor, ih]
theorem not_eq_xor (c : W) : ~~~ c = c ^^^ BitVec.allOnes 32 := by
  rw [BitVec.xor_allOnes]
theorem sumMore_append (s : W) (a b : List W) : sumMore s (a ++ b) = sumMore (sumMore s a) b := by
  simp [sumMore, fold_append]
theorem join_sum (s : W) (a b : List W) : sumMore s (a ++ b) = iter step8 b.length (sumMore s a) ^^^ sumMore 0#32 b := by
  have : ~~~ (sumMore s a) = sumMore s a ^^^ ~~~ (0#32 : W) := by
    rw [not_eq_xor]; congr 1
  rw [sumMore_append]
  rw [sumMore, this, fold_xor, not_eq_xor, BitVec.xor_assoc, ← not_eq_xor]; rfl
theorem fold_three (c d e : W) (x y z : List W) (h1 : x.length = y.length) (h2 : x.length = z.length) :
    fold (c ^^^ d ^^^ e) (zipx (zipx x y) z) = fold c x ^^^ fold d y ^^^ fold e z := by
  induction x generalizing c d e y z with
  | nil => 
    have : y = [] := by simpa using h1.symm
    have : z = [] := by simpa using h2.symm
    subst y z; rfl
  | cons p x ih =>
    match y, z, h1, h2 with
    | q :: y, r :: z, h1, h2 =>
      have e1 : c ^^^ d ^^^ e ^^^ (p ^^^ q ^^^ r) = (c ^^^ p) ^^^ (d ^^^ q) ^^^ (e ^^^ r) := by ac_rfl
      show fold (step8 (c ^^^ d ^^^ e ^^^ (p ^^^ q ^^^ r))) (zipx (zipx x y) z) = _
      rw [e1, step_xor, step_xor]
      exact ih _ _ _ y z (by simpa using h1) (by simpa using h2)
theorem mixed (x y z : List W) (h1 : x.length = y.length) (h2 : x.length = z.length) :
    sumMore 0#32 (zipx (zipx x y) z) = sumMore 0#32 x ^^^ sumMore 0#32 y ^^^ sumMore 0#32 z := by
  have e : (~~~ (0#32 : W)) = ~~~ 0#32 ^^^ ~~~ 0#32 ^^^ ~~~ 0#32 := by decide
  rw [sumMore, e, fold_three _ _ _ x y z h1 h2]
  simp only [sumMore, not_eq_xor]
  have : BitVec.allOnes 32 ^^^ BitVec.allOnes 32 = (0#32 : W) := by decide
  generalize fold _ x = X
  generalize fold _ y = Y
  generalize fold _ z = Z
  calc X ^^^ Y ^^^ Z ^^^ BitVec.allOnes 32 = X ^^^ Y ^^^ Z ^^^ BitVec.allOnes 32 ^^^ (BitVec.allOnes 32 ^^^ BitVec.allOnes 32) := by rw [this]; simp
    _ = _ := by ac_rfl
-- bursts
theorem half_pow (k : Nat) (h : k < 31) : half (1#32 <<< (k + 1)) = 1#32 <<< k := by
  have : ∀ k : Fin 31, half (1#32 <<< (k.val + 1)) = 1#32 <<< k.val := by decide
  exact this ⟨k, h⟩
theorem iter_pow (i : Nat) (h : i < 32) : iter half i (1#32 <<< i) = 1#32 := by
  induction i with
  | zero => decide
  | succ i ih => rw [iter, half_pow i (by omega)]; exact ih (by omega)
/-- flipping bit p (from the lowest of the first byte on) -/
def flip (x : List W) (p : Nat) : List W := x.modify (p / 8) (· ^^^ (1#32 <<< (p % 8)))
theorem fold_set (c d : W) (y : List W) : fold c y ^^^ fold d y = iter step8 y.length (c ^^^ d) := by
  have := fold_xor (c ^^^ d) d y
  rw [show c ^^^ d ^^^ d = c by rw [BitVec.xor_assoc]; simp] at this
  rw [this, BitVec.xor_assoc]; simp
theorem iter_step (n : Nat) (c : W) : iter step8 n c = iter half (8 * n) c := (iter_mul half 8 n c).symm
theorem fold_flip (x : List W) (p : Nat) (hp : p < 8 * x.length) (c : W) : fold c (flip x p) = fold c x ^^^ iter half (8 * x.length - p) 1#32 := by
  induction x generalizing p c with
  | nil => simp at hp
  | cons a x ih =>
    by_cases h : p < 8
    · have h0 : p / 8 = 0 := by omega
      have hm : p % 8 = p := by omega
      simp only [flip, h0, hm, List.modify_zero_cons, fold_cons]
      rw [show c ^^^ (a ^^^ 1#32 <<< p) = (c ^^^ a) ^^^ 1#32 <<< p by ac_rfl]
      rw [step_xor, BitVec.xor_comm (step8 (c ^^^ a)), fold_xor, BitVec.xor_comm]
      congr 1
      rw [iter_step, step8, ← iter_add]
      have : 8 + 8 * x.length = p + (8 * (a :: x).length - p) := by simp; omega
      rw [this, iter_add, iter_pow p (by omega)]
    · have hd : p / 8 = (p - 8) / 8 + 1 := by omega
      have hm : p % 8 = (p - 8) % 8 := by omega
      have e : flip (a :: x) p = a :: flip x (p - 8) := by simp only [flip, hd, hm, List.modify_succ_cons]
      rw [e, fold_cons, fold_cons, ih (p - 8) (by simp at hp; omega)]
      congr 2
      simp; omega


-- ### the words as Go's numbers
def U (x : W) : Int := x.toNat
theorem U_lo (x : W) : 0 ≤ U x := by unfold U; omega
theorem U_hi (x : W) : U x ≤ 4294967295 := by unfold U; have := x.isLt; omega
theorem U_ofInt (n : Int) (h0 : 0 ≤ n) (h1 : n ≤ 4294967295) : U (BitVec.ofInt 32 n) = n := by
  unfold U; rw [BitVec.toNat_ofInt]; omega
theorem ofInt_U (x : W) : BitVec.ofInt 32 (U x) = x := by
  unfold U; apply BitVec.eq_of_toNat_eq; rw [BitVec.toNat_ofInt]; have := x.isLt; omega
theorem U_inj {x y : W} (h : U x = U y) : x = y := by
  rw [← ofInt_U x, h, ofInt_U]
theorem wrap_U (x : W) : IntKind.u32.wrap (x.toNat : Int) = U x := by
  rw [IntKind.wrap_u32]; unfold U; have := x.isLt; omega
theorem bits_xor_U (x y : W) : bits .xor .u32 (U x) (U y) = U (x ^^^ y) := by
  show IntKind.u32.wrap (((BitVec.ofInt 32 (U x)) ^^^ (BitVec.ofInt 32 (U y))).toNat : Int) = _
  rw [ofInt_U, ofInt_U, wrap_U]
theorem bits_and_U (x y : W) : bits .and .u32 (U x) (U y) = U (x &&& y) := by
  show IntKind.u32.wrap (((BitVec.ofInt 32 (U x)) &&& (BitVec.ofInt 32 (U y))).toNat : Int) = _
  rw [ofInt_U, ofInt_U, wrap_U]
theorem U_lit (n : Nat) (h : n < 4294967296) : (n : Int) = U (BitVec.ofNat 32 n) := by
  unfold U; rw [BitVec.toNat_ofNat]; omega
theorem U_half (x : W) : U x / (2 : Int) = U (x >>> 1) := by
  unfold U; rw [BitVec.toNat_ushiftRight]; simp [Nat.shiftRight_eq_div_pow]
theorem U_neg (x : W) : (-U x) % 4294967296 = U (-x) := by
  unfold U; rw [BitVec.toNat_neg]; have := x.isLt; omega
theorem U_not (x : W) : U (~~~x) = 4294967295 - U x := by
  unfold U; rw [BitVec.toNat_not]; have := x.isLt; omega
theorem one_U : (1 : Int) = U 1#32 := rfl
theorem poly_U : (3988292384 : Int) = U poly := rfl
theorem and_one (c : W) : poly &&& (-(c &&& 1#32)) = if c.getLsbD 0 then poly else 0#32 := by
  have h : c &&& 1#32 = if c.getLsbD 0 then 1#32 else 0#32 := by
    apply BitVec.eq_of_getLsbD_eq
    intro i hi
    rw [BitVec.getLsbD_and]
    cases i with
    | zero => cases c.getLsbD 0 <;> decide
    | succ i =>
      have : (1#32).getLsbD (i + 1) = false := by simp
      rw [this]
      cases c.getLsbD 0 <;> simp
  rw [h]
  cases c.getLsbD 0 <;> decide
theorem half_walk (c : W) : bits .xor .u32 (U c / 2) (bits .and .u32 3988292384 (-bits .and .u32 (U c) 1 % 4294967296)) = U (half c) := by
  rw [one_U, poly_U, bits_and_U, U_neg, bits_and_U, U_half, bits_xor_U, and_one]; rfl
theorem odd_walk (c : W) : (bits .and .u32 (U c) 1 == 1) = c.getLsbD 0 := by
  have h : c &&& 1#32 = if c.getLsbD 0 then 1#32 else 0#32 := by
    apply BitVec.eq_of_getLsbD_eq
    intro i hi
    rw [BitVec.getLsbD_and]
    cases i with
    | zero => cases c.getLsbD 0 <;> decide
    | succ i =>
      have : (1#32).getLsbD (i + 1) = false := by simp
      rw [this]
      cases c.getLsbD 0 <;> simp
  rw [one_U, bits_and_U, h]
  cases c.getLsbD 0 <;> decide
theorem half_even (c : W) (h : c.getLsbD 0 = false) : U c / 2 = U (half c) := by
  rw [U_half]; unfold half; rw [h]; simp
theorem half_odd (c : W) (h : c.getLsbD 0 = true) : bits .xor .u32 (U c / 2) 3988292384 = U (half c) := by
  rw [poly_U, U_half, bits_xor_U]; unfold half; rw [h]; simp
theorem iter_succ (f : W → W) (n : Nat) (c : W) : iter f (n + 1) c = f (iter f n c) := by
  rw [iter_add]; rfl
end Go.Proofs.Ytlhfhhbafhnbkaa.CrcM
