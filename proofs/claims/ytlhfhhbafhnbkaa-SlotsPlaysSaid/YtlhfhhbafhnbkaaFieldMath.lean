/-
  PLAIN LAWS on numbers laid in bytes, the lowest first (no program in sight).
-/
import Derived.Laws.Bits
import Derived.IntWalk
namespace Go.Proofs.Ytlhfhhbafhnbkaa.FieldM
/-- the number that bytes are, the lowest first -/
def le : List UInt8 → Nat
  | [] => 0
  | b :: r => b.toNat + 256 * le r
/-- so many bytes of a number, the lowest first -/
def leB (n : Nat) : Nat → List UInt8
  | 0 => []
  | k + 1 => UInt8.ofNat (n % 256) :: leB (n / 256) k
theorem leB_len (n k : Nat) : (leB n k).length = k := by
  induction k generalizing n with
  | zero => rfl
  | succ k ih => simp [leB, ih]
theorem ofNat_toNat (n : Nat) (h : n < 256) : (UInt8.ofNat n).toNat = n := by
  have : (UInt8.ofNat n).toNat = n % 256 := UInt8.toNat_ofNat'
  rw [this]; omega
theorem le_leB (n k : Nat) : le (leB n k) = n % 256 ^ k := by
  induction k generalizing n with
  | zero => simp [le, leB, Nat.mod_one]
  | succ k ih =>
    rw [leB, le, ih, ofNat_toNat _ (by omega), Nat.pow_succ, Nat.mul_comm (256 ^ k) 256, Nat.mod_mul]
theorem le_lt (l : List UInt8) : le l < 256 ^ l.length := by
  induction l with
  | nil => simp [le]
  | cons b l ih => 
    have := b.toNat_lt
    rw [le, List.length_cons, Nat.pow_succ]; omega
theorem leB_le (l : List UInt8) : leB (le l) l.length = l := by
  induction l with
  | nil => rfl
  | cons b l ih =>
    have hb := b.toNat_lt
    rw [le, List.length_cons, leB]
    have h1 : (b.toNat + 256 * le l) % 256 = b.toNat := by omega
    have h2 : (b.toNat + 256 * le l) / 256 = le l := by omega
    rw [h1, h2, ih]; simp
theorem le_snoc (l : List UInt8) (b : UInt8) : le (l ++ [b]) = le l + b.toNat * 256 ^ l.length := by
  induction l with
  | nil => simp [le]
  | cons c l ih =>
    rw [List.cons_append, le, le, ih, List.length_cons, Nat.pow_succ, Nat.mul_add, Nat.add_assoc]
    congr 2
    rw [Nat.mul_comm (256 ^ l.length) 256, ← Nat.mul_assoc, ← Nat.mul_assoc, Nat.mul_comm 256 b.toNat]
theorem leB_snoc (n k : Nat) : leB n (k + 1) = leB n k ++ [UInt8.ofNat (n / 256 ^ k % 256)] := by
  induction k generalizing n with
  | zero => simp [leB]
  | succ k ih =>
    rw [leB, ih (n / 256)]
    show _ = (UInt8.ofNat (n % 256) :: leB (n / 256) k) ++ _
    rw [List.cons_append, Nat.div_div_eq_div_mul, Nat.pow_succ, Nat.mul_comm 256]
theorem le_app (l m : List UInt8) : le (l ++ m) = le l + 256 ^ l.length * le m := by
  induction l with
  | nil => simp [le]
  | cons c l ih => rw [List.cons_append, le, le, ih, List.length_cons, Nat.pow_succ, Nat.mul_add, Nat.add_assoc, Nat.mul_comm (256 ^ l.length) 256, ← Nat.mul_assoc]
theorem le_drop (l : List UInt8) (k : Nat) (h : k < l.length) : le (l.drop k) = 256 * le (l.drop (k + 1)) + l[k].toNat := by
  rw [List.drop_eq_getElem_cons h, le]; omega
/-! ### In the walk's own forms -/
theorem pow8 (k : Nat) : 2 ^ (8 * k) = 256 ^ k := by rw [Nat.pow_mul]
/-- byte(n >> (8*i)) -/
theorem byte_walk (n k : Nat) : ((n : Int) / 2 ^ (8 * k) % 256) = ((UInt8.ofNat (n / 256 ^ k % 256)).toNat : Int) := by
  rw [ofNat_toNat _ (Nat.mod_lt _ (by decide)), ← pow8]
  simp
theorem wraps63 (n : Int) (h₀ : 0 ≤ n) (h₁ : n < 2 ^ 63) : IntKind.i64.wrap n = n := IntWalk.i64_in _ (by omega)
theorem or_walk (m b k : Nat) (hk : k ≤ 3) (hm : m < 256 ^ k) (hb : b < 256) : bits .or .i64 (m : Int) ((b * 256 ^ k : Nat) : Int) = ((m + b * 256 ^ k : Nat) : Int) := by
  have hp : ∀ k, k ≤ 3 → 256 ^ k ≤ 16777216 := by
    intro k h
    have : 256 ^ k ≤ 256 ^ 3 := Nat.pow_le_pow_right (by decide) h
    simpa using this
  have hq := hp k hk
  have hpos : 0 < 256 ^ k := Nat.pow_pos (by decide)
  have hlt : b * 256 ^ k < 4294967296 := by
    have : b * 256 ^ k ≤ 255 * 256 ^ k := Nat.mul_le_mul_right _ (by omega)
    omega
  rw [(bits_nat .i64 63 (by decide) wraps63 m (b * 256 ^ k) (by omega) (by omega)).2]
  congr 1
  show m ||| b * 256 ^ k = _
  rw [← pow8, ← Nat.shiftLeft_eq, Nat.or_comm, ← Nat.shiftLeft_add_eq_or_of_lt (by rw [pow8]; exact hm), Nat.add_comm]
theorem or_walk2 (m b k : Nat) (hk : k ≤ 3) (hm : m < 256 ^ k) (hb : b < 256) : bits .or .i64 (m : Int) (RowKit.wrap64 ((b : Int) * 2 ^ (8 * k))) = ((m + b * 256 ^ k : Nat) : Int) := by
  have hq : 256 ^ k ≤ 16777216 := by
    have : 256 ^ k ≤ 256 ^ 3 := Nat.pow_le_pow_right (by decide) hk
    simpa using this
  have hlt : b * 256 ^ k ≤ 255 * 16777216 := Nat.mul_le_mul (by omega) hq
  have h2 : ((b : Int) * 2 ^ (8 * k)) = ((b * 256 ^ k : Nat) : Int) := by rw [← pow8]; simp
  rw [h2, IntWalk.wrap64_in _ (by omega)]
  exact or_walk m b k hk hm hb
theorem run_shl_byte (P : Program) (b : UInt8) (k : Nat) (hk : k ≤ 3) (w : World) : (Op.shift .shl .i64 (b.toNat : Int) .i64 (8 * (k : Int))).run P w = .ok (.int .i64 ((b.toNat * 256 ^ k : Nat) : Int)) w := by
  have hb := b.toNat_lt
  have e : min ((8 * (k : Int)).toNat) IntKind.i64.bits = 8 * k := by
    show min ((8 * (k : Int)).toNat) 64 = 8 * k
    omega
  have hq : 256 ^ k ≤ 16777216 := by
    have : 256 ^ k ≤ 256 ^ 3 := Nat.pow_le_pow_right (by decide) hk
    simpa using this
  have hlt : b.toNat * 256 ^ k ≤ 255 * 16777216 := Nat.mul_le_mul (by omega) hq
  unfold Op.shift
  rw [if_neg (by omega)]
  simp only [e]
  have h2 : ((b.toNat : Int) * 2 ^ (8 * k)) = ((b.toNat * 256 ^ k : Nat) : Int) := by rw [← pow8]; simp
  rw [h2, IntWalk.i64_in _ (by omega)]
  rfl
end Go.Proofs.Ytlhfhhbafhnbkaa.FieldM
