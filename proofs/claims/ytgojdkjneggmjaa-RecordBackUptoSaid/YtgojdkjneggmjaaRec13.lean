/-
  THE WALK of the head's record.
-/
import Derived.Test.YtgojdkjneggmjaaRec12
import Derived.Deep.RegionHeld3
import Derived.Test.YtgojdkjneggmjaaStore
namespace Go.Proofs.Ytgojdkjneggmjaa
open Go.RowKit FieldM
set_option linter.unusedSimpArgs false
theorem undef_not {b : Bool} {p : Prop} (h : some undef = some (Value.bool b)) : p := by simp [undef] at h
def Rec.zero : Rec := ⟨[], 0, 0, 0, 0, 0⟩
def recN (x : List UInt8) (from_ : Nat) : Int := getL x ((from_ : Int) + 22) 2
def recOk (x : List UInt8) (from_ : Nat) : Bool := (decide (getL x from_ 2 ≤ 20) && (getL x ((from_ : Int) + 2) 2 == 0)) && ((getL x ((from_ : Int) + 4) 2 == 0) || (getL x ((from_ : Int) + 4) 2 == 8)) && decide (0 < recN x from_)
def recF (x : List UInt8) (f : Int) (long from_ : Nat) : Int := if f ≠ 0 then f else askF (askF 0 (recOk x from_) 15) (decide (recN x from_ ≤ (x.length : Int) - long)) 4
theorem recF_zero {x : List UInt8} {long from_ : Nat} (h : recF x 0 long from_ = 0) : recOk x from_ = true ∧ recN x from_ ≤ (x.length : Int) - long := by
  unfold recF at h
  rw [if_neg (by simp)] at h
  cases h1 : recOk x from_
  · rw [h1] at h; simp [askF] at h
  · rw [h1] at h
    refine ⟨rfl, ?_⟩
    by_cases h2 : recN x from_ ≤ (x.length : Int) - long
    · exact h2
    · rw [decide_eq_false h2] at h; simp [askF] at h
def recR (x : List UInt8) (f : Int) (long from_ : Nat) : Rec :=
  if recF x f long from_ = 0 then ⟨(x.drop long).take (recN x from_).toNat, getL x ((from_ : Int) + 4) 2, getL x ((from_ : Int) + 10) 4, getL x ((from_ : Int) + 14) 4, getL x ((from_ : Int) + 18) 4, 0⟩ else Rec.zero
theorem getL_nat (x : List UInt8) (p k : Int) : ∃ n : Nat, getL x p k = (n : Int) ∧ (n : Nat) = le (pieceL x p k) := ⟨_, rfl, rfl⟩
theorem pieceL_len (x : List UInt8) (p : Int) (k : Nat) : (pieceL x p k).length ≤ k := by
  unfold pieceL; split <;> simp
  omega
theorem getL_lt (x : List UInt8) (p : Int) (k : Nat) : ∃ n : Nat, getL x p k = (n : Int) ∧ n < 256 ^ k := by
  refine ⟨_, rfl, Nat.lt_of_lt_of_le (le_lt _) (Nat.pow_le_pow_right (by decide) (pieceL_len x p k))⟩
def InvRecd3 (g h r4 B nn long from_ : Nat) (x : List UInt8) (m v1 v2 v3 : Int) (w0 : World) (D : Nat → Bool) (a : Act) (w : World) : Prop :=
  ∃ (r5 : Nat), a = { tmps := #[.agg #[.pointer (some ⟨g, 0, none⟩), .int .i64 (long : Int)], .int .i64 (from_ : Int), .pointer (some ⟨h, 0, none⟩), undef, .pointer (some ⟨r4, 0, none⟩), (slot (D 21) (.pointer (some ⟨r5, 0, none⟩)) (undef)), undef, .pointer (some ⟨h, 0, none⟩), .pointer (some ⟨g, 0, none⟩), .pointer (some ⟨g, 0, none⟩), .pointer (some ⟨g, 1, none⟩), .int .i64 0, .bool false, undef, (slot (D 0) (.pointer (some ⟨h, 0, none⟩)) (undef)), (slot (D 1) (.pointer (some ⟨g, 0, none⟩)) (undef)), (slot (D 2) (.int .i64 (from_ : Int)) (undef)), (slot (D 3) (.int .i64 ((from_ : Int) + 4)) (undef)), (slot (D 4) (.int .i64 m) (undef)), (slot (D 5) (.pointer (some ⟨h, 0, none⟩)) (undef)), (slot (D 6) (.pointer (some ⟨g, 0, none⟩)) (undef)), (slot (D 7) (.int .i64 (from_ : Int)) (undef)), (slot (D 8) (.int .i64 ((from_ : Int) + 10)) (undef)), (slot (D 9) (.int .i64 v1) (undef)), (slot (D 10) (.pointer (some ⟨h, 0, none⟩)) (undef)), (slot (D 11) (.pointer (some ⟨g, 0, none⟩)) (undef)), (slot (D 12) (.int .i64 (from_ : Int)) (undef)), (slot (D 13) (.int .i64 ((from_ : Int) + 14)) (undef)), (slot (D 14) (.int .i64 v2) (undef)), (slot (D 15) (.pointer (some ⟨h, 0, none⟩)) (undef)), (slot (D 16) (.pointer (some ⟨g, 0, none⟩)) (undef)), (slot (D 17) (.int .i64 (from_ : Int)) (undef)), (slot (D 18) (.int .i64 ((from_ : Int) + 18)) (undef)), (slot (D 19) (.int .i64 v3) (undef)), (slot (D 20) (.agg #[.string ⟨#[]⟩, .int .i64 m, .int .i64 v1, .int .i64 v2, .int .i64 v3, .int .i64 0]) (undef)), undef, undef, undef, undef, undef, undef, undef, undef, undef, undef, undef, undef, undef, undef, undef, undef, undef, undef, undef, undef, undef, undef, undef, undef, undef, undef, undef, undef, undef, undef, undef, undef, undef, undef, undef, undef, undef, undef, undef, undef, undef, undef, undef, undef, undef, undef, undef, undef, undef, undef, undef, undef, undef, undef, undef, undef, undef, undef, undef, undef, undef, undef, undef, undef, undef, undef, undef, undef, undef, undef, undef], defers := [] } ∧
    (Eye w B g nn x 0) ∧
    (Blk w h 61 #[.pointer (some ⟨g, 0, none⟩), .int .i64 (long : Int)]) ∧
    (Blk w r4 23 #[.string ⟨#[]⟩, .int .i64 0, .int .i64 0, .int .i64 0, .int .i64 0, .int .i64 0]) ∧
    (D 21 = true → D 22 = false → Blk w r5 23 #[.string ⟨#[]⟩, .int .i64 0, .int .i64 0, .int .i64 0, .int .i64 0, .int .i64 0]) ∧
    (D 22 = true → Blk w r5 23 #[.string ⟨#[]⟩, .int .i64 m, .int .i64 v1, .int .i64 v2, .int .i64 v3, .int .i64 0]) ∧
    (Chg NoB w0 w) ∧
    (D 21 = true → w0.heap.size ≤ r5)
def InvRecd5 (g h r4 r5 B nn long from_ : Nat) (x : List UInt8) (m v1 v2 v3 n q q2 : Int) (c1 c2 aa c3 c4 cc bb c5 : Bool) (w0 : World) (D : Nat → Bool) (a : Act) (w : World) : Prop :=
  ∃ (v29 : Value), a = { tmps := #[.agg #[.pointer (some ⟨g, 0, none⟩), .int .i64 (long : Int)], .int .i64 (from_ : Int), .pointer (some ⟨h, 0, none⟩), undef, .pointer (some ⟨r4, 0, none⟩), .pointer (some ⟨r5, 0, none⟩), .int .i64 n, .pointer (some ⟨h, 0, none⟩), .pointer (some ⟨g, 0, none⟩), .pointer (some ⟨g, 0, none⟩), .pointer (some ⟨g, 1, none⟩), .int .i64 0, .bool false, undef, .pointer (some ⟨h, 0, none⟩), .pointer (some ⟨g, 0, none⟩), .int .i64 (from_ : Int), .int .i64 ((from_ : Int) + 4), .int .i64 m, .pointer (some ⟨h, 0, none⟩), .pointer (some ⟨g, 0, none⟩), .int .i64 (from_ : Int), .int .i64 ((from_ : Int) + 10), .int .i64 v1, .pointer (some ⟨h, 0, none⟩), .pointer (some ⟨g, 0, none⟩), .int .i64 (from_ : Int), .int .i64 ((from_ : Int) + 14), .int .i64 v2, .pointer (some ⟨h, 0, none⟩), .pointer (some ⟨g, 0, none⟩), .int .i64 (from_ : Int), .int .i64 ((from_ : Int) + 18), .int .i64 v3, .agg #[.string ⟨#[]⟩, .int .i64 m, .int .i64 v1, .int .i64 v2, .int .i64 v3, .int .i64 0], .pointer (some ⟨h, 0, none⟩), .pointer (some ⟨g, 0, none⟩), .int .i64 (from_ : Int), .int .i64 ((from_ : Int) + 22), .int .i64 n, (slot (D 0) (.pointer (some ⟨h, 0, none⟩)) (undef)), (slot (D 1) (.pointer (some ⟨g, 0, none⟩)) (undef)), (slot (D 2) (.pointer (some ⟨h, 0, none⟩)) (undef)), (slot (D 3) (.pointer (some ⟨g, 0, none⟩)) (undef)), (slot (D 4) (.int .i64 (from_ : Int)) (undef)), (slot (D 5) (.int .i64 q) (undef)), (slot (D 6) (.bool c1) (undef)), (slot (D 7) (.bool c1) (undef)), (slot (D 8 && (c1)) (.pointer (some ⟨h, 0, none⟩)) (undef)), (slot (D 9 && (c1)) (.pointer (some ⟨g, 0, none⟩)) (undef)), (slot (D 10 && (c1)) (.int .i64 (from_ : Int)) (undef)), (slot (D 11 && (c1)) (.int .i64 ((from_ : Int) + 2)) (undef)), (slot (D 12 && (c1)) (.int .i64 q2) (undef)), (slot (D 13 && (c1)) (.bool c2) (undef)), (slot (D 14) (.bool aa) (undef)), (slot (D 15) (.bool aa) (undef)), (slot (D 16 && (aa)) (.pointer (some ⟨r5, 1, none⟩)) (undef)), (slot (D 17 && (aa)) (.int .i64 m) (undef)), (slot (D 18 && (aa)) (.bool c3) (undef)), (slot (D 19 && (aa)) (.bool c3) (undef)), (slot (D 20 && (aa && !c3)) (.pointer (some ⟨r5, 1, none⟩)) (undef)), (slot (D 21 && (aa && !c3)) (.int .i64 m) (undef)), (slot (D 22 && (aa && !c3)) (.bool c4) (undef)), (slot (D 23 && (aa)) (.bool cc) (undef)), (slot (D 24) (.bool bb) (undef)), (slot (D 25) (.bool bb) (undef)), (slot (D 26 && (bb)) (.int .i64 n) (undef)), (slot (D 27 && (bb)) (.bool c5) (undef)), (slot (D 28) (.bool (bb && c5)) (undef)), (slot (D 29) (v29) (undef)), undef, undef, undef, undef, undef, undef, undef, undef, undef, undef, undef, undef, undef, undef, undef, undef, undef, undef, undef, undef, undef, undef, undef, undef, undef, undef, undef, undef, undef, undef, undef, undef, undef, undef, undef, undef], defers := [] } ∧
    (D 29 = false → Eye w B g nn x 0) ∧
    (D 29 = true → Eye w B g nn x (askF 0 (bb && c5) 15)) ∧
    (Blk w h 61 #[.pointer (some ⟨g, 0, none⟩), .int .i64 (long : Int)]) ∧
    (Blk w r4 23 #[.string ⟨#[]⟩, .int .i64 0, .int .i64 0, .int .i64 0, .int .i64 0, .int .i64 0]) ∧
    (Blk w r5 23 #[.string ⟨#[]⟩, .int .i64 m, .int .i64 v1, .int .i64 v2, .int .i64 v3, .int .i64 0]) ∧
    (Chg (OneB g) w0 w)
def InvRecd6 (g h r4 r5 B nn long from_ k6 : Nat) (A6 : Option Addr) (x : List UInt8) (m v1 v2 v3 n q q2 f1 : Int) (c1 c2 aa c3 c4 cc bb c5 ok2 : Bool) (v29 : Value) (w0 : World) (D : Nat → Bool) (a : Act) (w : World) : Prop :=
  ∃ (v13 : Value), a = { tmps := #[.agg #[.pointer (some ⟨g, 0, none⟩), .int .i64 (long : Int)], .int .i64 (from_ : Int), .pointer (some ⟨h, 0, none⟩), undef, .pointer (some ⟨r4, 0, none⟩), .pointer (some ⟨r5, 0, none⟩), .int .i64 n, .pointer (some ⟨h, 0, none⟩), .pointer (some ⟨g, 0, none⟩), .pointer (some ⟨g, 0, none⟩), .pointer (some ⟨g, 1, none⟩), .int .i64 0, .bool false, undef, .pointer (some ⟨h, 0, none⟩), .pointer (some ⟨g, 0, none⟩), .int .i64 (from_ : Int), .int .i64 ((from_ : Int) + 4), .int .i64 m, .pointer (some ⟨h, 0, none⟩), .pointer (some ⟨g, 0, none⟩), .int .i64 (from_ : Int), .int .i64 ((from_ : Int) + 10), .int .i64 v1, .pointer (some ⟨h, 0, none⟩), .pointer (some ⟨g, 0, none⟩), .int .i64 (from_ : Int), .int .i64 ((from_ : Int) + 14), .int .i64 v2, .pointer (some ⟨h, 0, none⟩), .pointer (some ⟨g, 0, none⟩), .int .i64 (from_ : Int), .int .i64 ((from_ : Int) + 18), .int .i64 v3, .agg #[.string ⟨#[]⟩, .int .i64 m, .int .i64 v1, .int .i64 v2, .int .i64 v3, .int .i64 0], .pointer (some ⟨h, 0, none⟩), .pointer (some ⟨g, 0, none⟩), .int .i64 (from_ : Int), .int .i64 ((from_ : Int) + 22), .int .i64 n, .pointer (some ⟨h, 0, none⟩), .pointer (some ⟨g, 0, none⟩), .pointer (some ⟨h, 0, none⟩), .pointer (some ⟨g, 0, none⟩), .int .i64 (from_ : Int), .int .i64 q, .bool c1, .bool c1, (slot (c1) (.pointer (some ⟨h, 0, none⟩)) (undef)), (slot (c1) (.pointer (some ⟨g, 0, none⟩)) (undef)), (slot (c1) (.int .i64 (from_ : Int)) (undef)), (slot (c1) (.int .i64 ((from_ : Int) + 2)) (undef)), (slot (c1) (.int .i64 q2) (undef)), (slot (c1) (.bool c2) (undef)), .bool aa, .bool aa, (slot (aa) (.pointer (some ⟨r5, 1, none⟩)) (undef)), (slot (aa) (.int .i64 m) (undef)), (slot (aa) (.bool c3) (undef)), (slot (aa) (.bool c3) (undef)), (slot (aa && !c3) (.pointer (some ⟨r5, 1, none⟩)) (undef)), (slot (aa && !c3) (.int .i64 m) (undef)), (slot (aa && !c3) (.bool c4) (undef)), (slot (aa) (.bool cc) (undef)), .bool bb, .bool bb, (slot (bb) (.int .i64 n) (undef)), (slot (bb) (.bool c5) (undef)), .bool (bb && c5), v29, (slot (D 0) (.pointer (some ⟨h, 0, none⟩)) (undef)), (slot (D 1) (.pointer (some ⟨g, 0, none⟩)) (undef)), (slot (D 2) (.pointer (some ⟨h, 0, none⟩)) (undef)), (slot (D 3) (.pointer (some ⟨g, 0, none⟩)) (undef)), (slot (D 4) (.pointer (some ⟨g, 0, none⟩)) (undef)), (slot (D 5) (.pointer (some ⟨g, 0, none⟩)) (undef)), (slot (D 6) (.slice A6 nn k6) (undef)), (slot (D 7) (.int .i64 (nn : Int)) (undef)), (slot (D 8) (.pointer (some ⟨h, 1, none⟩)) (undef)), (slot (D 9) (.int .i64 (long : Int)) (undef)), (slot (D 10) (.int .i64 ((nn : Int) - (long : Int))) (undef)), (slot (D 11) (.int .i64 n) (undef)), (slot (D 12) (.bool ok2) (undef)), (slot (D 13) (v13) (undef)), undef, undef, undef, undef, undef, undef, undef, undef, undef, undef, undef, undef, undef, undef, undef, undef, undef, undef, undef, undef, undef, undef], defers := [] } ∧
    (D 13 = false → Eye w B g nn x f1) ∧
    (D 13 = false → w.cell? ⟨g, 0, none⟩ = some (.slice A6 nn k6)) ∧
    (D 13 = true → Eye w B g nn x (askF f1 ok2 4)) ∧
    (Blk w h 61 #[.pointer (some ⟨g, 0, none⟩), .int .i64 (long : Int)]) ∧
    (Blk w r4 23 #[.string ⟨#[]⟩, .int .i64 0, .int .i64 0, .int .i64 0, .int .i64 0, .int .i64 0]) ∧
    (Blk w r5 23 #[.string ⟨#[]⟩, .int .i64 m, .int .i64 v1, .int .i64 v2, .int .i64 v3, .int .i64 0]) ∧
    (Chg (OneB g) w0 w)
def InvRecd9 (g h r4 r5 B nn long from_ k6 k7 nN c8 : Nat) (A6 A7 A8 : Option Addr) (nm : List UInt8) (m v1 v2 v3 q q2 : Int) (c1 c2 aa c3 c4 cc bb c5 ok2 : Bool) (v29 v13 : Value) (w0 : World) (D : Nat → Bool) (a : Act) (w : World) : Prop :=
  a = { tmps := #[.agg #[.pointer (some ⟨g, 0, none⟩), .int .i64 (long : Int)], .int .i64 (from_ : Int), .pointer (some ⟨h, 0, none⟩), undef, .pointer (some ⟨r4, 0, none⟩), .pointer (some ⟨r5, 0, none⟩), .int .i64 (nN : Int), .pointer (some ⟨h, 0, none⟩), .pointer (some ⟨g, 0, none⟩), .pointer (some ⟨g, 0, none⟩), .pointer (some ⟨g, 1, none⟩), .int .i64 0, .bool false, undef, .pointer (some ⟨h, 0, none⟩), .pointer (some ⟨g, 0, none⟩), .int .i64 (from_ : Int), .int .i64 ((from_ : Int) + 4), .int .i64 m, .pointer (some ⟨h, 0, none⟩), .pointer (some ⟨g, 0, none⟩), .int .i64 (from_ : Int), .int .i64 ((from_ : Int) + 10), .int .i64 v1, .pointer (some ⟨h, 0, none⟩), .pointer (some ⟨g, 0, none⟩), .int .i64 (from_ : Int), .int .i64 ((from_ : Int) + 14), .int .i64 v2, .pointer (some ⟨h, 0, none⟩), .pointer (some ⟨g, 0, none⟩), .int .i64 (from_ : Int), .int .i64 ((from_ : Int) + 18), .int .i64 v3, .agg #[.string ⟨#[]⟩, .int .i64 m, .int .i64 v1, .int .i64 v2, .int .i64 v3, .int .i64 0], .pointer (some ⟨h, 0, none⟩), .pointer (some ⟨g, 0, none⟩), .int .i64 (from_ : Int), .int .i64 ((from_ : Int) + 22), .int .i64 (nN : Int), .pointer (some ⟨h, 0, none⟩), .pointer (some ⟨g, 0, none⟩), .pointer (some ⟨h, 0, none⟩), .pointer (some ⟨g, 0, none⟩), .int .i64 (from_ : Int), .int .i64 q, .bool c1, .bool c1, (slot (c1) (.pointer (some ⟨h, 0, none⟩)) (undef)), (slot (c1) (.pointer (some ⟨g, 0, none⟩)) (undef)), (slot (c1) (.int .i64 (from_ : Int)) (undef)), (slot (c1) (.int .i64 ((from_ : Int) + 2)) (undef)), (slot (c1) (.int .i64 q2) (undef)), (slot (c1) (.bool c2) (undef)), .bool aa, .bool aa, (slot (aa) (.pointer (some ⟨r5, 1, none⟩)) (undef)), (slot (aa) (.int .i64 m) (undef)), (slot (aa) (.bool c3) (undef)), (slot (aa) (.bool c3) (undef)), (slot (aa && !c3) (.pointer (some ⟨r5, 1, none⟩)) (undef)), (slot (aa && !c3) (.int .i64 m) (undef)), (slot (aa && !c3) (.bool c4) (undef)), (slot (aa) (.bool cc) (undef)), .bool bb, .bool bb, (slot (bb) (.int .i64 (nN : Int)) (undef)), (slot (bb) (.bool c5) (undef)), .bool (bb && c5), v29, .pointer (some ⟨h, 0, none⟩), .pointer (some ⟨g, 0, none⟩), .pointer (some ⟨h, 0, none⟩), .pointer (some ⟨g, 0, none⟩), .pointer (some ⟨g, 0, none⟩), .pointer (some ⟨g, 0, none⟩), .slice A6 nn k6, .int .i64 (nn : Int), .pointer (some ⟨h, 1, none⟩), .int .i64 (long : Int), .int .i64 ((nn : Int) - (long : Int)), .int .i64 (nN : Int), .bool ok2, v13, .pointer (some ⟨h, 0, none⟩), .pointer (some ⟨g, 0, none⟩), .pointer (some ⟨g, 0, none⟩), .pointer (some ⟨g, 1, none⟩), .int .i64 0, .bool false, undef, (slot (D 0) (.pointer (some ⟨h, 0, none⟩)) (undef)), (slot (D 1) (.pointer (some ⟨g, 0, none⟩)) (undef)), (slot (D 2) (.pointer (some ⟨g, 0, none⟩)) (undef)), (slot (D 3) (.pointer (some ⟨g, 0, none⟩)) (undef)), (slot (D 4) (.slice A7 nn k7) (undef)), (slot (D 5) (.pointer (some ⟨h, 1, none⟩)) (undef)), (slot (D 6) (.int .i64 (long : Int)) (undef)), (slot (D 7) (.pointer (some ⟨h, 1, none⟩)) (undef)), (slot (D 8) (.int .i64 (long : Int)) (undef)), (slot (D 9) (.int .i64 (nN : Int)) (undef)), (slot (D 10) (.int .i64 ((long : Int) + (nN : Int))) (undef)), (slot (D 11) (.slice A8 nN c8) (undef)), (slot (D 12) (.string ⟨nm.toArray⟩) (undef)), (slot (D 13) (.pointer (some ⟨r5, 0, none⟩)) (undef)), undef], defers := [] } ∧
    (D 14 = false → RB w B A8 nm) ∧
    (w.cell? ⟨g, 0, none⟩ = some (.slice A7 nn k7)) ∧
    (Blk w h 61 #[.pointer (some ⟨g, 0, none⟩), .int .i64 (long : Int)]) ∧
    (Blk w r4 23 #[.string ⟨#[]⟩, .int .i64 0, .int .i64 0, .int .i64 0, .int .i64 0, .int .i64 0]) ∧
    (D 14 = false → Blk w r5 23 #[.string ⟨#[]⟩, .int .i64 m, .int .i64 v1, .int .i64 v2, .int .i64 v3, .int .i64 0]) ∧
    (D 14 = true → Blk w r5 23 #[.string ⟨nm.toArray⟩, .int .i64 m, .int .i64 v1, .int .i64 v2, .int .i64 v3, .int .i64 0]) ∧
    (Chg (OneB r5) w0 w)
def RecPost (w : World) (B g nn : Nat) (x : List UInt8) (f : Int) (long from_ : Nat) (e : Ending) (w' : World) : Prop :=
  e = .returned (.agg (recR x f long from_).cells) ∧ Eye w' B g nn x (recF x f long from_) ∧ Chg (OneB g) w w'
set_option maxRecDepth 100000 in
set_option maxHeartbeats 8000000 in
theorem record_any (B g nn : Nat) (x : List UInt8) (f : Int) (w : World) (hE : Eye w B g nn x f) (long from_ : Nat) (hf : from_ ≤ 6) (hl : long ≤ 100) :
    Calls Try.prog 45 #[.agg #[.pointer (some ⟨g, 0, none⟩), .int .i64 (long : Int)], .int .i64 (from_ : Int)] w (RecPost w B g nn x f long from_) := by
  have hgl := hE.lt
  obtain ⟨w2, hw2⟩ : ∃ w2, w2 = (w.alloc (.cells #[.pointer (some ⟨g, 0, none⟩), .int .i64 (long : Int)] 61)).alloc (.cells #[.string ⟨#[]⟩, .int .i64 0, .int .i64 0, .int .i64 0, .int .i64 0, .int .i64 0] 23) := ⟨_, rfl⟩
  have hwc : Chg NoB w w2 := by rw [hw2]; exact ((Chg.refl _ _).alloc _).alloc _
  have hE2 := hE.no hwc
  have hbx : Blk w2 w.heap.size 61 #[.pointer (some ⟨g, 0, none⟩), .int .i64 (long : Int)] := by rw [hw2]; exact (Blk.new w _ _).alloc _
  have hb4 : Blk w2 (w.heap.size + 1) 23 #[.string ⟨#[]⟩, .int .i64 0, .int .i64 0, .int .i64 0, .int .i64 0, .int .i64 0] := by
    rw [hw2]; have := Blk.new (w.alloc (.cells #[.pointer (some ⟨g, 0, none⟩), .int .i64 (long : Int)] 61)) 23 #[.string ⟨#[]⟩, .int .i64 0, .int .i64 0, .int .i64 0, .int .i64 0, .int .i64 0]; simpa using this
  have hcx := hbx.cell 0
  have hcx1 := hbx.cell 1
  obtain ⟨A0, c0, hEb, hrb, hnc⟩ := hE2.ex
  have hcf := hEb.cell 1
  have hcf2 := hcf
  rw [hw2] at hcf2
  have HE2 := Lib.hid hE2
  have HWC := Lib.hid hwc
  have HN := Lib.hid (show nn ≤ 140737488355328 ∧ x.length = nn from ⟨hE.big, hE.len⟩)
  have HG := Lib.hid hgl
  clear hE hE2 hEb hrb hnc hwc
  by_cases hf0 : f = 0
  · subst hf0
    obtain ⟨m, hm⟩ : ∃ m, getL x ((from_ : Int) + 4) 2 = m := ⟨_, rfl⟩
    obtain ⟨v1, hv1⟩ : ∃ m, getL x ((from_ : Int) + 10) 4 = m := ⟨_, rfl⟩
    obtain ⟨v2, hv2⟩ : ∃ m, getL x ((from_ : Int) + 14) 4 = m := ⟨_, rfl⟩
    obtain ⟨v3, hv3⟩ : ∃ m, getL x ((from_ : Int) + 18) 4 = m := ⟨_, rfl⟩
    obtain ⟨n, hn⟩ : ∃ m, recN x from_ = m := ⟨_, rfl⟩
    have Hn := Lib.hid (show getL x ((from_ : Int) + 22) 2 = n from hn)
    have Hm := Lib.hid hm
    have Hv1 := Lib.hid hv1
    have Hv2 := Lib.hid hv2
    have Hv3 := Lib.hid hv3
    clear hm hv1 hv2 hv3 hn
    go_enter Try.func45, Try.ntmps45
    go_wp2_with fail
    rw [← hw2]
    clear hcf hcf2 hcx hcx1
    obtain ⟨h, hh⟩ : ∃ h, h = w.heap.size := ⟨_, rfl⟩
    obtain ⟨r4, hr4⟩ : ∃ r, r = w.heap.size + 1 := ⟨_, rfl⟩
    rw [← hr4] at hb4
    rw [← hh] at hbx
    rw [← hr4, ← hh]
    have HH := Lib.hid (show h = w.heap.size ∧ r4 = w.heap.size + 1 ∧ w2.heap.size = w.heap.size + 2 from ⟨hh, hr4, by rw [hw2]; simp⟩)
    have HFAR := Lib.hid (show B ≤ g ∧ g < w2.heap.size ∧ h < w2.heap.size ∧ r4 < w2.heap.size from ⟨HE2.out.far, HE2.out.lt, hbx.lt, hb4.lt⟩)
    clear hh hr4 hw2
    have i1 : Eye w2.drew B g nn x 0 := HE2.out.no (Chg.refl NoB w2).drew
    have i2 := hbx.drew
    have i3 := hb4.drew
    have i4 : Chg NoB w2 w2.drew := (Chg.refl NoB w2).drew
    refine wp_region_cl rfl (by kernel_rfl) (InvRecd3 g h r4 B nn long from_ x m v1 v2 v3 w2) ?_ ?_ ?_
    · exact ⟨0, rfl, i1, i2, i3, (fun h => nomatch h), (fun h => nomatch h), i4, (fun h => nomatch h)⟩
    · clear i1 i2 i3 i4 HWC HH hbx hb4 HE2
      intro D a w i o ho hD hcl hpre hI
      obtain ⟨r5, rfl, hE, hbx, hb4, hb5, hb6, hch, hr5⟩ := hI
      have hi : i < 23 := by have := (List.getElem?_eq_some_iff.1 ho).1; simpa using this
      rcases (by omega : i = 0 ∨ i = 1 ∨ i = 2 ∨ i = 3 ∨ i = 4 ∨ i = 5 ∨ i = 6 ∨ i = 7 ∨ i = 8 ∨ i = 9 ∨ i = 10 ∨ i = 11 ∨ i = 12 ∨ i = 13 ∨ i = 14 ∨ i = 15 ∨ i = 16 ∨ i = 17 ∨ i = 18 ∨ i = 19 ∨ i = 20 ∨ i = 21 ∨ i = 22) with rfl | rfl | rfl | rfl | rfl | rfl | rfl | rfl | rfl | rfl | rfl | rfl | rfl | rfl | rfl | rfl | rfl | rfl | rfl | rfl | rfl | rfl | rfl
      · obtain rfl := Option.some.inj ho
        clear ho hpre hi hcl
        go_wp2_with fail
        unfold AtEnd
        exact ⟨r5, rfl, hE, hbx, hb4, hb5, hb6, hch, hr5⟩
      · obtain rfl := Option.some.inj ho
        have p0 := hpre ⟨0, .data⟩ (by simp) rfl
        clear ho hpre hi hcl
        have c1 := hbx.cell 0
        go_wp2_with fail
        unfold AtEnd
        exact ⟨r5, by simp only [more, slot_true, slot_false, Nat.reduceEqDiff, ↓reduceIte, p0], hE, hbx, hb4, hb5, hb6, hch, hr5⟩
      · obtain rfl := Option.some.inj ho
        clear ho hpre hi hcl
        go_wp2_with fail
        unfold AtEnd
        exact ⟨r5, rfl, hE, hbx, hb4, hb5, hb6, hch, hr5⟩
      · obtain rfl := Option.some.inj ho
        have p2 := hpre ⟨2, .data⟩ (by simp) rfl
        clear ho hpre hi hcl
        go_wp2_with fail
        unfold AtEnd
        exact ⟨r5, by simp only [more, slot_true, slot_false, Nat.reduceEqDiff, ↓reduceIte, p2], hE, hbx, hb4, hb5, hb6, hch, hr5⟩
      · obtain rfl := Option.some.inj ho
        have p1 := hpre ⟨1, .data⟩ (by simp) rfl
        have p3 := hpre ⟨3, .data⟩ (by simp) rfl
        clear ho hpre hi hcl
        go_wp2_with fail
        refine (etwo_any hE _).mono ?_
        rw [Hm.out]
        rintro e w1 ⟨rfl, hc1⟩
        go_wp2_with fail
        unfold AtEnd
        exact ⟨r5, by simp only [more, slot_true, slot_false, Nat.reduceEqDiff, ↓reduceIte, p1, p3], hE.no hc1, hbx.chg hc1 (fun h => h), hb4.chg hc1 (fun h => h), fun h1 h2 => (hb5 h1 h2).chg hc1 (fun h => h), fun h1 => (hb6 h1).chg hc1 (fun h => h), hch.trans hc1 (fun _ _ h => h), hr5⟩
      · obtain rfl := Option.some.inj ho
        clear ho hpre hi hcl
        go_wp2_with fail
        unfold AtEnd
        exact ⟨r5, rfl, hE, hbx, hb4, hb5, hb6, hch, hr5⟩
      · obtain rfl := Option.some.inj ho
        have p5 := hpre ⟨5, .data⟩ (by simp) rfl
        clear ho hpre hi hcl
        have c1 := hbx.cell 0
        go_wp2_with fail
        unfold AtEnd
        exact ⟨r5, by simp only [more, slot_true, slot_false, Nat.reduceEqDiff, ↓reduceIte, p5], hE, hbx, hb4, hb5, hb6, hch, hr5⟩
      · obtain rfl := Option.some.inj ho
        clear ho hpre hi hcl
        go_wp2_with fail
        unfold AtEnd
        exact ⟨r5, rfl, hE, hbx, hb4, hb5, hb6, hch, hr5⟩
      · obtain rfl := Option.some.inj ho
        have p7 := hpre ⟨7, .data⟩ (by simp) rfl
        clear ho hpre hi hcl
        go_wp2_with fail
        unfold AtEnd
        exact ⟨r5, by simp only [more, slot_true, slot_false, Nat.reduceEqDiff, ↓reduceIte, p7], hE, hbx, hb4, hb5, hb6, hch, hr5⟩
      · obtain rfl := Option.some.inj ho
        have p6 := hpre ⟨6, .data⟩ (by simp) rfl
        have p8 := hpre ⟨8, .data⟩ (by simp) rfl
        have p4 := hpre ⟨4, .chain⟩ (by simp) rfl
        clear ho hpre hi hcl
        go_wp2_with fail
        refine (efour_any hE _).mono ?_
        rw [Hv1.out]
        rintro e w1 ⟨rfl, hc1⟩
        go_wp2_with fail
        unfold AtEnd
        exact ⟨r5, by simp only [more, slot_true, slot_false, Nat.reduceEqDiff, ↓reduceIte, p6, p8, p4], hE.no hc1, hbx.chg hc1 (fun h => h), hb4.chg hc1 (fun h => h), fun h1 h2 => (hb5 h1 h2).chg hc1 (fun h => h), fun h1 => (hb6 h1).chg hc1 (fun h => h), hch.trans hc1 (fun _ _ h => h), hr5⟩
      · obtain rfl := Option.some.inj ho
        clear ho hpre hi hcl
        go_wp2_with fail
        unfold AtEnd
        exact ⟨r5, rfl, hE, hbx, hb4, hb5, hb6, hch, hr5⟩
      · obtain rfl := Option.some.inj ho
        have p10 := hpre ⟨10, .data⟩ (by simp) rfl
        clear ho hpre hi hcl
        have c1 := hbx.cell 0
        go_wp2_with fail
        unfold AtEnd
        exact ⟨r5, by simp only [more, slot_true, slot_false, Nat.reduceEqDiff, ↓reduceIte, p10], hE, hbx, hb4, hb5, hb6, hch, hr5⟩
      · obtain rfl := Option.some.inj ho
        clear ho hpre hi hcl
        go_wp2_with fail
        unfold AtEnd
        exact ⟨r5, rfl, hE, hbx, hb4, hb5, hb6, hch, hr5⟩
      · obtain rfl := Option.some.inj ho
        have p12 := hpre ⟨12, .data⟩ (by simp) rfl
        clear ho hpre hi hcl
        go_wp2_with fail
        unfold AtEnd
        exact ⟨r5, by simp only [more, slot_true, slot_false, Nat.reduceEqDiff, ↓reduceIte, p12], hE, hbx, hb4, hb5, hb6, hch, hr5⟩
      · obtain rfl := Option.some.inj ho
        have p11 := hpre ⟨11, .data⟩ (by simp) rfl
        have p13 := hpre ⟨13, .data⟩ (by simp) rfl
        have p9 := hpre ⟨9, .chain⟩ (by simp) rfl
        clear ho hpre hi hcl
        go_wp2_with fail
        refine (efour_any hE _).mono ?_
        rw [Hv2.out]
        rintro e w1 ⟨rfl, hc1⟩
        go_wp2_with fail
        unfold AtEnd
        exact ⟨r5, by simp only [more, slot_true, slot_false, Nat.reduceEqDiff, ↓reduceIte, p11, p13, p9], hE.no hc1, hbx.chg hc1 (fun h => h), hb4.chg hc1 (fun h => h), fun h1 h2 => (hb5 h1 h2).chg hc1 (fun h => h), fun h1 => (hb6 h1).chg hc1 (fun h => h), hch.trans hc1 (fun _ _ h => h), hr5⟩
      · obtain rfl := Option.some.inj ho
        clear ho hpre hi hcl
        go_wp2_with fail
        unfold AtEnd
        exact ⟨r5, rfl, hE, hbx, hb4, hb5, hb6, hch, hr5⟩
      · obtain rfl := Option.some.inj ho
        have p15 := hpre ⟨15, .data⟩ (by simp) rfl
        clear ho hpre hi hcl
        have c1 := hbx.cell 0
        go_wp2_with fail
        unfold AtEnd
        exact ⟨r5, by simp only [more, slot_true, slot_false, Nat.reduceEqDiff, ↓reduceIte, p15], hE, hbx, hb4, hb5, hb6, hch, hr5⟩
      · obtain rfl := Option.some.inj ho
        clear ho hpre hi hcl
        go_wp2_with fail
        unfold AtEnd
        exact ⟨r5, rfl, hE, hbx, hb4, hb5, hb6, hch, hr5⟩
      · obtain rfl := Option.some.inj ho
        have p17 := hpre ⟨17, .data⟩ (by simp) rfl
        clear ho hpre hi hcl
        go_wp2_with fail
        unfold AtEnd
        exact ⟨r5, by simp only [more, slot_true, slot_false, Nat.reduceEqDiff, ↓reduceIte, p17], hE, hbx, hb4, hb5, hb6, hch, hr5⟩
      · obtain rfl := Option.some.inj ho
        have p16 := hpre ⟨16, .data⟩ (by simp) rfl
        have p18 := hpre ⟨18, .data⟩ (by simp) rfl
        have p14 := hpre ⟨14, .chain⟩ (by simp) rfl
        clear ho hpre hi hcl
        go_wp2_with fail
        refine (efour_any hE _).mono ?_
        rw [Hv3.out]
        rintro e w1 ⟨rfl, hc1⟩
        go_wp2_with fail
        unfold AtEnd
        exact ⟨r5, by simp only [more, slot_true, slot_false, Nat.reduceEqDiff, ↓reduceIte, p16, p18, p14], hE.no hc1, hbx.chg hc1 (fun h => h), hb4.chg hc1 (fun h => h), fun h1 h2 => (hb5 h1 h2).chg hc1 (fun h => h), fun h1 => (hb6 h1).chg hc1 (fun h => h), hch.trans hc1 (fun _ _ h => h), hr5⟩
      · obtain rfl := Option.some.inj ho
        have p4 := hpre ⟨4, .data⟩ (by simp) rfl
        have p9 := hpre ⟨9, .data⟩ (by simp) rfl
        have p14 := hpre ⟨14, .data⟩ (by simp) rfl
        have p19 := hpre ⟨19, .data⟩ (by simp) rfl
        clear ho hpre hi hcl
        go_wp2_with fail
        unfold AtEnd
        exact ⟨r5, by simp only [more, slot_true, slot_false, Nat.reduceEqDiff, ↓reduceIte, p4, p9, p14, p19], hE, hbx, hb4, hb5, hb6, hch, hr5⟩
      · obtain rfl := Option.some.inj ho
        have d22 : D 22 = false := (hcl.not_ 22 _ rfl 0 _ rfl rfl hD)
        clear ho hpre hi hcl
        go_wp2_with fail
        unfold AtEnd
        exact ⟨w.heap.size, by simp only [more, slot_true, slot_false, Nat.reduceEqDiff, ↓reduceIte, d22], hE.no ((Chg.refl NoB w).alloc _), hbx.alloc _, hb4.alloc _, fun _ _ => Blk.new w _ _, fun h => by simp [more, d22] at h, hch.alloc _, fun _ => hch.size⟩
      · obtain rfl := Option.some.inj ho
        have p21 := hpre ⟨21, .data⟩ (by simp) rfl
        have p20 := hpre ⟨20, .data⟩ (by simp) rfl
        have p19 := hpre ⟨19, .chain⟩ (by simp) rfl
        clear ho hpre hi hcl
        have hq := hb5 p21 hD
        have hr := hr5 p21
        rw [p20, p21]
        simp only [slot_true]
        refine wpList_store_blk rfl 23 _ _ rfl r5 #[.string ⟨#[]⟩, .int .i64 m, .int .i64 v1, .int .i64 v2, .int .i64 v3, .int .i64 0] rfl rfl 23 _ hq rfl rec_info (by simp [Value.oneCell']) ?_
        go_wp2_with fail
        unfold AtEnd
        exact ⟨r5, by simp only [more, slot_true, slot_false, Nat.reduceEqDiff, ↓reduceIte, p21, p20, p19], hE.chg (Chg.setRow (S := OneB r5) (Chg.refl _ _) (.inl (by unfold OneB; rfl)) _) (fun i hi e => by have h1 := HFAR.out; unfold OneB at e; omega) (fun e => by have h1 := HFAR.out; unfold OneB at e; omega), hbx.farRow (by have h1 := HFAR.out; omega) _, hb4.farRow (by have h1 := HFAR.out; omega) _, fun _ h => by simp [more] at h, fun _ => hq.row _, hch.setRow (.inr hr) _, hr5⟩
    · intro D a w hall hI
      obtain ⟨r5, rfl, hE, hbx, hb4, hb5, hb6, hch, hr5⟩ := hI
      have e22 := hall 22 (by decide)
      have e0 := hall 0 (by decide)
      have e1 := hall 1 (by decide)
      have e2 := hall 2 (by decide)
      have e3 := hall 3 (by decide)
      have e4 := hall 4 (by decide)
      have e5 := hall 5 (by decide)
      have e6 := hall 6 (by decide)
      have e7 := hall 7 (by decide)
      have e8 := hall 8 (by decide)
      have e9 := hall 9 (by decide)
      have e10 := hall 10 (by decide)
      have e11 := hall 11 (by decide)
      have e12 := hall 12 (by decide)
      have e13 := hall 13 (by decide)
      have e14 := hall 14 (by decide)
      have e15 := hall 15 (by decide)
      have e16 := hall 16 (by decide)
      have e17 := hall 17 (by decide)
      have e18 := hall 18 (by decide)
      have e19 := hall 19 (by decide)
      have e20 := hall 20 (by decide)
      have e21 := hall 21 (by decide)
      have hb7 := hb6 e22
      have hr7 := hr5 e21
      rw [e0, e1, e2, e3, e4, e5, e6, e7, e8, e9, e10, e11, e12, e13, e14, e15, e16, e17, e18, e19, e20, e21]
      simp only [slot_true]
      clear hall hb5 hb6 hr5 e0 e1 e2 e3 e4 e5 e6 e7 e8 e9 e10 e11 e12 e13 e14 e15 e16 e17 e18 e19 e20 e21 e22 i1 i2 i3 i4
      have HHR := Lib.hid hr7
      have HHE := Lib.hid hE
      have HHB := Lib.hid hbx
      clear hr7
      have cx : w.cell? ⟨h, 0, none⟩ = some (.pointer (some ⟨g, 0, none⟩)) := hbx.cell 0
      go_wp2_with fail
      refine (etwo_any hE _).mono ?_
      rw [Hn.out]
      rintro e w4 ⟨rfl, hc4⟩
      have hE4 := hE.no hc4
      have hbx4 := hbx.chg hc4 (fun h => h)
      have hb44 := hb4.chg hc4 (fun h => h)
      have hb74 := hb7.chg hc4 (fun h => h)
      have hcc4 : Chg (OneB g) w2 w4 := (hch.trans hc4 (fun _ _ h => h)).mono (fun _ _ h => h.elim)
      have HC4 := Lib.hid hcc4
      have HR5 := Lib.hid (show B ≤ g ∧ w2.heap.size ≤ r5 from ⟨hE.far, HHR.out⟩)
      clear hE hbx hb4 hb7 hc4 hch cx HHE HHB HHR
      go_wp2_with fail
      obtain ⟨q, hq⟩ : ∃ q, getL x from_ 2 = q := ⟨_, rfl⟩
      obtain ⟨q2, hq2⟩ : ∃ q, getL x ((from_ : Int) + 2) 2 = q := ⟨_, rfl⟩
      obtain ⟨c1, hc1⟩ : ∃ c, decide (q ≤ 20) = c := ⟨_, rfl⟩
      obtain ⟨c2, hc2⟩ : ∃ c, (q2 == 0) = c := ⟨_, rfl⟩
      obtain ⟨aa, ha⟩ : ∃ c, c = (c1 && c2) := ⟨_, rfl⟩
      obtain ⟨c3, hc3⟩ : ∃ c, (m == 0) = c := ⟨_, rfl⟩
      obtain ⟨c4, hc4⟩ : ∃ c, (m == 8) = c := ⟨_, rfl⟩
      obtain ⟨cc, hcc⟩ : ∃ c, c = (c3 || c4) := ⟨_, rfl⟩
      obtain ⟨bb, hb⟩ : ∃ c, c = (aa && cc) := ⟨_, rfl⟩
      obtain ⟨c5, hc5⟩ : ∃ c, decide (0 < n) = c := ⟨_, rfl⟩
      have HOK : Hid (recOk x from_ = (bb && c5)) := by
        unfold recOk
        have h1 : recN x from_ = n := Hn.out
        rw [h1, hq, hq2, Hm.out, hc1, hc2, hc3, hc4, hc5, hb, ha, hcc]
        exact rfl
      have Hq := Lib.hid hq
      have Hq2 := Lib.hid hq2
      have Hc1 := Lib.hid hc1
      have Hc2 := Lib.hid hc2
      have HA := Lib.hid ha
      have Hc3 := Lib.hid hc3
      have Hc4 := Lib.hid hc4
      have HCC := Lib.hid hcc
      have HB := Lib.hid hb
      have Hc5 := Lib.hid hc5
      clear hq hq2 hc1 hc2 ha hc3 hc4 hcc hb hc5
      have i1 : false = false → Eye w4.drew B g nn x 0 := fun _ => hE4.no (Chg.refl NoB w4).drew
      have i2 := hbx4.drew
      have i3 := hb44.drew
      have i4 := hb74.drew
      have i5 : Chg (OneB g) w4 w4.drew := (Chg.refl _ w4).drew
      have HFR := Lib.hid (show h ≠ g ∧ r4 ≠ g ∧ r5 ≠ g from by
        obtain ⟨A9, c9, hb9, _⟩ := hE4.ex
        exact ⟨hbx4.ne_ hb9 (by decide), hb44.ne_ hb9 (by decide), hb74.ne_ hb9 (by decide)⟩)
      have HFR2 := Lib.hid (show h ≠ r5 ∧ r4 ≠ r5 from ⟨by have h1 := HR5.out.2; have h2 := HFAR.out; omega, by have h1 := HR5.out.2; have h2 := HFAR.out; omega⟩)
      refine wp_region_cl rfl (by kernel_rfl) (InvRecd5 g h r4 r5 B nn long from_ x m v1 v2 v3 n q q2 c1 c2 aa c3 c4 cc bb c5 w4) ?_ ?_ ?_
      · exact ⟨undef, rfl, i1, (fun h => nomatch h), i2, i3, i4, i5⟩
      · clear i1 i2 i3 i4 i5 hbx4 hb44 hb74 hE4 HH HE2 HWC
        intro D a w i o ho hD hcl hpre hI
        obtain ⟨v29, rfl, hE0, hE1, hbx, hb4, hb7, hch⟩ := hI
        have hi : i < 30 := by have := (List.getElem?_eq_some_iff.1 ho).1; simpa using this
        rcases (by omega : i = 0 ∨ i = 1 ∨ i = 2 ∨ i = 3 ∨ i = 4 ∨ i = 5 ∨ i = 6 ∨ i = 7 ∨ i = 8 ∨ i = 9 ∨ i = 10 ∨ i = 11 ∨ i = 12 ∨ i = 13 ∨ i = 14 ∨ i = 15 ∨ i = 16 ∨ i = 17 ∨ i = 18 ∨ i = 19 ∨ i = 20 ∨ i = 21 ∨ i = 22 ∨ i = 23 ∨ i = 24 ∨ i = 25 ∨ i = 26 ∨ i = 27 ∨ i = 28 ∨ i = 29) with rfl | rfl | rfl | rfl | rfl | rfl | rfl | rfl | rfl | rfl | rfl | rfl | rfl | rfl | rfl | rfl | rfl | rfl | rfl | rfl | rfl | rfl | rfl | rfl | rfl | rfl | rfl | rfl | rfl | rfl
        · obtain rfl := Option.some.inj ho
          clear ho hpre hi hcl
          go_wp2_with fail
          unfold AtEnd
          exact ⟨v29, rfl, hE0, hE1, hbx, hb4, hb7, hch⟩
        · obtain rfl := Option.some.inj ho
          have p0 := hpre ⟨0, .data⟩ (by simp) rfl
          clear ho hpre hi hcl
          have c1x : w.cell? ⟨h, 0, none⟩ = some (.pointer (some ⟨g, 0, none⟩)) := hbx.cell 0
          go_wp2_with fail
          unfold AtEnd
          exact ⟨v29, by simp only [more, slot_true, slot_false, Nat.reduceEqDiff, ↓reduceIte, Bool.and_true, Bool.true_and, Bool.and_false, Bool.false_and, Bool.or_true, Bool.true_or, Bool.or_false, Bool.false_or, Bool.not_true, Bool.not_false, p0], hE0, hE1, hbx, hb4, hb7, hch⟩
        · obtain rfl := Option.some.inj ho
          clear ho hpre hi hcl
          go_wp2_with fail
          unfold AtEnd
          exact ⟨v29, rfl, hE0, hE1, hbx, hb4, hb7, hch⟩
        · obtain rfl := Option.some.inj ho
          have p2 := hpre ⟨2, .data⟩ (by simp) rfl
          clear ho hpre hi hcl
          have c1x : w.cell? ⟨h, 0, none⟩ = some (.pointer (some ⟨g, 0, none⟩)) := hbx.cell 0
          go_wp2_with fail
          unfold AtEnd
          exact ⟨v29, by simp only [more, slot_true, slot_false, Nat.reduceEqDiff, ↓reduceIte, Bool.and_true, Bool.true_and, Bool.and_false, Bool.false_and, Bool.or_true, Bool.true_or, Bool.or_false, Bool.false_or, Bool.not_true, Bool.not_false, p2], hE0, hE1, hbx, hb4, hb7, hch⟩
        · obtain rfl := Option.some.inj ho
          clear ho hpre hi hcl
          go_wp2_with fail
          unfold AtEnd
          exact ⟨v29, rfl, hE0, hE1, hbx, hb4, hb7, hch⟩
        · obtain rfl := Option.some.inj ho
          have p3 := hpre ⟨3, .data⟩ (by simp) rfl
          have p4 := hpre ⟨4, .data⟩ (by simp) rfl
          have d29 : D 29 = false := (hcl.not_ 29 _ rfl 2 _ rfl rfl (hcl.not_ 25 _ rfl 1 _ rfl rfl (hcl.not_ 19 _ rfl 1 _ rfl rfl (hcl.not_ 15 _ rfl 1 _ rfl rfl (hcl.not_ 12 _ rfl 2 _ rfl rfl (hcl.not_ 7 _ rfl 1 _ rfl rfl hD))))))
          clear ho hpre hi hcl
          have hE := hE0 d29
          go_wp2_with fail
          try (refine (etwo_any hE _).mono ?_; rw [Hq.out]; rintro e w1 ⟨rfl, hc1⟩; go_wp2_with fail)
          unfold AtEnd
          exact ⟨v29, by simp only [more, slot_true, slot_false, Nat.reduceEqDiff, ↓reduceIte, Bool.and_true, Bool.true_and, Bool.and_false, Bool.false_and, Bool.or_true, Bool.true_or, Bool.or_false, Bool.false_or, Bool.not_true, Bool.not_false, p3, p4, d29], fun _ => by first | exact hE.no hc1 | exact hE, fun h => by simp [more, d29] at h, by first | exact hbx.chg hc1 (fun h => h) | exact hbx, by first | exact hb4.chg hc1 (fun h => h) | exact hb4, by first | exact hb7.chg hc1 (fun h => h) | exact hb7, by first | exact hch.trans hc1 (fun _ _ h => h.elim) | exact hch⟩
        · obtain rfl := Option.some.inj ho
          have p5 := hpre ⟨5, .data⟩ (by simp) rfl
          clear ho hpre hi hcl
          have h0 := Hc1.out
          go_wp2_with fail
          unfold AtEnd
          exact ⟨v29, by simp only [more, slot_true, slot_false, Nat.reduceEqDiff, ↓reduceIte, Bool.and_true, Bool.true_and, Bool.and_false, Bool.false_and, Bool.or_true, Bool.true_or, Bool.or_false, Bool.false_or, Bool.not_true, Bool.not_false, p5], hE0, hE1, hbx, hb4, hb7, hch⟩
        · obtain rfl := Option.some.inj ho
          have p6 := hpre ⟨6, .data⟩ (by simp) rfl
          have p5 := hpre ⟨5, .chain⟩ (by simp) rfl
          clear ho hpre hi hcl
          go_wp2_with fail
          unfold AtEnd
          exact ⟨v29, by simp only [more, slot_true, slot_false, Nat.reduceEqDiff, ↓reduceIte, Bool.and_true, Bool.true_and, Bool.and_false, Bool.false_and, Bool.or_true, Bool.true_or, Bool.or_false, Bool.false_or, Bool.not_true, Bool.not_false, p6, p5], hE0, hE1, hbx, hb4, hb7, hch⟩
        · obtain rfl := Option.some.inj ho
          have p7 := hpre ⟨7, .guard⟩ (by simp) rfl
          clear ho hpre hi hcl
          cases c1
          all_goals
            go_wp2_with fail
            unfold AtEnd
            exact ⟨v29, by simp only [more, slot_true, slot_false, Nat.reduceEqDiff, ↓reduceIte, Bool.and_true, Bool.true_and, Bool.and_false, Bool.false_and, Bool.or_true, Bool.true_or, Bool.or_false, Bool.false_or, Bool.not_true, Bool.not_false, p7], hE0, hE1, hbx, hb4, hb7, hch⟩
        · obtain rfl := Option.some.inj ho
          have p8 := hpre ⟨8, .data⟩ (by simp) rfl
          have p7 := hpre ⟨7, .guard⟩ (by simp) rfl
          clear ho hpre hi hcl
          cases c1
          all_goals
            have c1x : w.cell? ⟨h, 0, none⟩ = some (.pointer (some ⟨g, 0, none⟩)) := hbx.cell 0
            go_wp2_with fail
            unfold AtEnd
            exact ⟨v29, by simp only [more, slot_true, slot_false, Nat.reduceEqDiff, ↓reduceIte, Bool.and_true, Bool.true_and, Bool.and_false, Bool.false_and, Bool.or_true, Bool.true_or, Bool.or_false, Bool.false_or, Bool.not_true, Bool.not_false, p8, p7], hE0, hE1, hbx, hb4, hb7, hch⟩
        · obtain rfl := Option.some.inj ho
          have p7 := hpre ⟨7, .guard⟩ (by simp) rfl
          clear ho hpre hi hcl
          cases c1
          all_goals
            go_wp2_with fail
            unfold AtEnd
            exact ⟨v29, by simp only [more, slot_true, slot_false, Nat.reduceEqDiff, ↓reduceIte, Bool.and_true, Bool.true_and, Bool.and_false, Bool.false_and, Bool.or_true, Bool.true_or, Bool.or_false, Bool.false_or, Bool.not_true, Bool.not_false, p7], hE0, hE1, hbx, hb4, hb7, hch⟩
        · obtain rfl := Option.some.inj ho
          have p10 := hpre ⟨10, .data⟩ (by simp) rfl
          have p7 := hpre ⟨7, .guard⟩ (by simp) rfl
          clear ho hpre hi hcl
          cases c1
          all_goals
            go_wp2_with fail
            unfold AtEnd
            exact ⟨v29, by simp only [more, slot_true, slot_false, Nat.reduceEqDiff, ↓reduceIte, Bool.and_true, Bool.true_and, Bool.and_false, Bool.false_and, Bool.or_true, Bool.true_or, Bool.or_false, Bool.false_or, Bool.not_true, Bool.not_false, p10, p7], hE0, hE1, hbx, hb4, hb7, hch⟩
        · obtain rfl := Option.some.inj ho
          have p9 := hpre ⟨9, .data⟩ (by simp) rfl
          have p11 := hpre ⟨11, .data⟩ (by simp) rfl
          have p7 := hpre ⟨7, .chain⟩ (by simp) rfl
          have d29 : D 29 = false := (hcl.not_ 29 _ rfl 2 _ rfl rfl (hcl.not_ 25 _ rfl 1 _ rfl rfl (hcl.not_ 19 _ rfl 1 _ rfl rfl (hcl.not_ 15 _ rfl 1 _ rfl rfl hD))))
          clear ho hpre hi hcl
          cases c1
          all_goals
            have hE := hE0 d29
            go_wp2_with fail
            try (refine (etwo_any hE _).mono ?_; rw [Hq2.out]; rintro e w1 ⟨rfl, hc1⟩; go_wp2_with fail)
            unfold AtEnd
            exact ⟨v29, by simp only [more, slot_true, slot_false, Nat.reduceEqDiff, ↓reduceIte, Bool.and_true, Bool.true_and, Bool.and_false, Bool.false_and, Bool.or_true, Bool.true_or, Bool.or_false, Bool.false_or, Bool.not_true, Bool.not_false, p9, p11, p7, d29], fun _ => by first | exact hE.no hc1 | exact hE, fun h => by simp [more, d29] at h, by first | exact hbx.chg hc1 (fun h => h) | exact hbx, by first | exact hb4.chg hc1 (fun h => h) | exact hb4, by first | exact hb7.chg hc1 (fun h => h) | exact hb7, by first | exact hch.trans hc1 (fun _ _ h => h.elim) | exact hch⟩
        · obtain rfl := Option.some.inj ho
          have p12 := hpre ⟨12, .data⟩ (by simp) rfl
          have p7 := hpre ⟨7, .guard⟩ (by simp) rfl
          clear ho hpre hi hcl
          cases c1
          all_goals
            have h0 := Hc2.out
            go_wp2_with fail
            unfold AtEnd
            exact ⟨v29, by simp only [more, slot_true, slot_false, Nat.reduceEqDiff, ↓reduceIte, Bool.and_true, Bool.true_and, Bool.and_false, Bool.false_and, Bool.or_true, Bool.true_or, Bool.or_false, Bool.false_or, Bool.not_true, Bool.not_false, p12, p7], hE0, hE1, hbx, hb4, hb7, hch⟩
        · obtain rfl := Option.some.inj ho
          have p7 := hpre ⟨7, .data⟩ (by simp) rfl
          have p13 := hpre ⟨13, .data⟩ (by simp) rfl
          clear ho hpre hi hcl
          cases c1 <;> cases c2
          all_goals
            have h0 := HA.out
            simp at h0
            subst h0
            go_wp2_with fail
            unfold AtEnd
            exact ⟨v29, by simp only [more, slot_true, slot_false, Nat.reduceEqDiff, ↓reduceIte, Bool.and_true, Bool.true_and, Bool.and_false, Bool.false_and, Bool.or_true, Bool.true_or, Bool.or_false, Bool.false_or, Bool.not_true, Bool.not_false, p7, p13], hE0, hE1, hbx, hb4, hb7, hch⟩
        · obtain rfl := Option.some.inj ho
          have p14 := hpre ⟨14, .data⟩ (by simp) rfl
          have p12 := hpre ⟨12, .chain⟩ (by simp) rfl
          clear ho hpre hi hcl
          go_wp2_with fail
          unfold AtEnd
          exact ⟨v29, by simp only [more, slot_true, slot_false, Nat.reduceEqDiff, ↓reduceIte, Bool.and_true, Bool.true_and, Bool.and_false, Bool.false_and, Bool.or_true, Bool.true_or, Bool.or_false, Bool.false_or, Bool.not_true, Bool.not_false, p14, p12], hE0, hE1, hbx, hb4, hb7, hch⟩
        · obtain rfl := Option.some.inj ho
          have p15 := hpre ⟨15, .guard⟩ (by simp) rfl
          clear ho hpre hi hcl
          cases aa
          all_goals
            go_wp2_with fail
            unfold AtEnd
            exact ⟨v29, by simp only [more, slot_true, slot_false, Nat.reduceEqDiff, ↓reduceIte, Bool.and_true, Bool.true_and, Bool.and_false, Bool.false_and, Bool.or_true, Bool.true_or, Bool.or_false, Bool.false_or, Bool.not_true, Bool.not_false, p15], hE0, hE1, hbx, hb4, hb7, hch⟩
        · obtain rfl := Option.some.inj ho
          have p16 := hpre ⟨16, .data⟩ (by simp) rfl
          have p15 := hpre ⟨15, .guard⟩ (by simp) rfl
          clear ho hpre hi hcl
          cases aa
          all_goals
            have c1x : w.cell? ⟨r5, 1, none⟩ = some (.int .i64 m) := hb7.cell 1
            go_wp2_with fail
            unfold AtEnd
            exact ⟨v29, by simp only [more, slot_true, slot_false, Nat.reduceEqDiff, ↓reduceIte, Bool.and_true, Bool.true_and, Bool.and_false, Bool.false_and, Bool.or_true, Bool.true_or, Bool.or_false, Bool.false_or, Bool.not_true, Bool.not_false, p16, p15], hE0, hE1, hbx, hb4, hb7, hch⟩
        · obtain rfl := Option.some.inj ho
          have p17 := hpre ⟨17, .data⟩ (by simp) rfl
          have p15 := hpre ⟨15, .guard⟩ (by simp) rfl
          clear ho hpre hi hcl
          cases aa
          all_goals
            have h0 := Hc3.out
            go_wp2_with fail
            unfold AtEnd
            exact ⟨v29, by simp only [more, slot_true, slot_false, Nat.reduceEqDiff, ↓reduceIte, Bool.and_true, Bool.true_and, Bool.and_false, Bool.false_and, Bool.or_true, Bool.true_or, Bool.or_false, Bool.false_or, Bool.not_true, Bool.not_false, p17, p15], hE0, hE1, hbx, hb4, hb7, hch⟩
        · obtain rfl := Option.some.inj ho
          have p18 := hpre ⟨18, .data⟩ (by simp) rfl
          have p15 := hpre ⟨15, .chain⟩ (by simp) rfl
          clear ho hpre hi hcl
          cases aa
          all_goals
            go_wp2_with fail
            unfold AtEnd
            exact ⟨v29, by simp only [more, slot_true, slot_false, Nat.reduceEqDiff, ↓reduceIte, Bool.and_true, Bool.true_and, Bool.and_false, Bool.false_and, Bool.or_true, Bool.true_or, Bool.or_false, Bool.false_or, Bool.not_true, Bool.not_false, p18, p15], hE0, hE1, hbx, hb4, hb7, hch⟩
        · obtain rfl := Option.some.inj ho
          have p19 := hpre ⟨19, .guard⟩ (by simp) rfl
          clear ho hpre hi hcl
          cases aa <;> cases c3
          all_goals
            go_wp2_with fail
            try any_goals exact undef_not (by assumption)
            unfold AtEnd
            exact ⟨v29, by simp only [more, slot_true, slot_false, Nat.reduceEqDiff, ↓reduceIte, Bool.and_true, Bool.true_and, Bool.and_false, Bool.false_and, Bool.or_true, Bool.true_or, Bool.or_false, Bool.false_or, Bool.not_true, Bool.not_false, p19], hE0, hE1, hbx, hb4, hb7, hch⟩
        · obtain rfl := Option.some.inj ho
          have p20 := hpre ⟨20, .data⟩ (by simp) rfl
          have p19 := hpre ⟨19, .guard⟩ (by simp) rfl
          clear ho hpre hi hcl
          cases aa <;> cases c3
          all_goals
            have c1x : w.cell? ⟨r5, 1, none⟩ = some (.int .i64 m) := hb7.cell 1
            go_wp2_with fail
            try any_goals exact undef_not (by assumption)
            unfold AtEnd
            exact ⟨v29, by simp only [more, slot_true, slot_false, Nat.reduceEqDiff, ↓reduceIte, Bool.and_true, Bool.true_and, Bool.and_false, Bool.false_and, Bool.or_true, Bool.true_or, Bool.or_false, Bool.false_or, Bool.not_true, Bool.not_false, p20, p19], hE0, hE1, hbx, hb4, hb7, hch⟩
        · obtain rfl := Option.some.inj ho
          have p21 := hpre ⟨21, .data⟩ (by simp) rfl
          have p19 := hpre ⟨19, .guard⟩ (by simp) rfl
          clear ho hpre hi hcl
          cases aa <;> cases c3
          all_goals
            have h0 := Hc4.out
            go_wp2_with fail
            try any_goals exact undef_not (by assumption)
            unfold AtEnd
            exact ⟨v29, by simp only [more, slot_true, slot_false, Nat.reduceEqDiff, ↓reduceIte, Bool.and_true, Bool.true_and, Bool.and_false, Bool.false_and, Bool.or_true, Bool.true_or, Bool.or_false, Bool.false_or, Bool.not_true, Bool.not_false, p21, p19], hE0, hE1, hbx, hb4, hb7, hch⟩
        · obtain rfl := Option.some.inj ho
          have p19 := hpre ⟨19, .data⟩ (by simp) rfl
          have p22 := hpre ⟨22, .data⟩ (by simp) rfl
          have p15 := hpre ⟨15, .guard⟩ (by simp) rfl
          clear ho hpre hi hcl
          cases aa <;> cases c3 <;> cases c4
          all_goals
            have h0 := HCC.out
            simp at h0
            subst h0
            go_wp2_with fail
            unfold AtEnd
            exact ⟨v29, by simp only [more, slot_true, slot_false, Nat.reduceEqDiff, ↓reduceIte, Bool.and_true, Bool.true_and, Bool.and_false, Bool.false_and, Bool.or_true, Bool.true_or, Bool.or_false, Bool.false_or, Bool.not_true, Bool.not_false, p19, p22, p15], hE0, hE1, hbx, hb4, hb7, hch⟩
        · obtain rfl := Option.some.inj ho
          have p15 := hpre ⟨15, .data⟩ (by simp) rfl
          have p23 := hpre ⟨23, .data⟩ (by simp) rfl
          clear ho hpre hi hcl
          cases aa <;> cases cc
          all_goals
            have h0 := HB.out
            simp at h0
            subst h0
            go_wp2_with fail
            unfold AtEnd
            exact ⟨v29, by simp only [more, slot_true, slot_false, Nat.reduceEqDiff, ↓reduceIte, Bool.and_true, Bool.true_and, Bool.and_false, Bool.false_and, Bool.or_true, Bool.true_or, Bool.or_false, Bool.false_or, Bool.not_true, Bool.not_false, p15, p23], hE0, hE1, hbx, hb4, hb7, hch⟩
        · obtain rfl := Option.some.inj ho
          have p24 := hpre ⟨24, .data⟩ (by simp) rfl
          have p19 := hpre ⟨19, .chain⟩ (by simp) rfl
          clear ho hpre hi hcl
          go_wp2_with fail
          unfold AtEnd
          exact ⟨v29, by simp only [more, slot_true, slot_false, Nat.reduceEqDiff, ↓reduceIte, Bool.and_true, Bool.true_and, Bool.and_false, Bool.false_and, Bool.or_true, Bool.true_or, Bool.or_false, Bool.false_or, Bool.not_true, Bool.not_false, p24, p19], hE0, hE1, hbx, hb4, hb7, hch⟩
        · obtain rfl := Option.some.inj ho
          have p25 := hpre ⟨25, .guard⟩ (by simp) rfl
          clear ho hpre hi hcl
          cases bb
          all_goals
            go_wp2_with fail
            unfold AtEnd
            exact ⟨v29, by simp only [more, slot_true, slot_false, Nat.reduceEqDiff, ↓reduceIte, Bool.and_true, Bool.true_and, Bool.and_false, Bool.false_and, Bool.or_true, Bool.true_or, Bool.or_false, Bool.false_or, Bool.not_true, Bool.not_false, p25], hE0, hE1, hbx, hb4, hb7, hch⟩
        · obtain rfl := Option.some.inj ho
          have p26 := hpre ⟨26, .data⟩ (by simp) rfl
          have p25 := hpre ⟨25, .guard⟩ (by simp) rfl
          clear ho hpre hi hcl
          cases bb
          all_goals
            have h0 := Hc5.out
            go_wp2_with fail
            unfold AtEnd
            exact ⟨v29, by simp only [more, slot_true, slot_false, Nat.reduceEqDiff, ↓reduceIte, Bool.and_true, Bool.true_and, Bool.and_false, Bool.false_and, Bool.or_true, Bool.true_or, Bool.or_false, Bool.false_or, Bool.not_true, Bool.not_false, p26, p25], hE0, hE1, hbx, hb4, hb7, hch⟩
        · obtain rfl := Option.some.inj ho
          have p25 := hpre ⟨25, .data⟩ (by simp) rfl
          have p27 := hpre ⟨27, .data⟩ (by simp) rfl
          clear ho hpre hi hcl
          cases bb
          all_goals
            go_wp2_with fail
            unfold AtEnd
            exact ⟨v29, by simp only [more, slot_true, slot_false, Nat.reduceEqDiff, ↓reduceIte, Bool.and_true, Bool.true_and, Bool.and_false, Bool.false_and, Bool.or_true, Bool.true_or, Bool.or_false, Bool.false_or, Bool.not_true, Bool.not_false, p25, p27], hE0, hE1, hbx, hb4, hb7, hch⟩
        · obtain rfl := Option.some.inj ho
          have p1 := hpre ⟨1, .data⟩ (by simp) rfl
          have p28 := hpre ⟨28, .data⟩ (by simp) rfl
          have p25 := hpre ⟨25, .chain⟩ (by simp) rfl
          clear ho hpre hi hcl
          have hE := hE0 hD
          clear hE0 hE1
          go_wp2_with fail
          refine (ask_any hE _ 15).mono ?_
          rintro e w1 ⟨⟨v9, rfl⟩, hE9, hc1⟩
          go_wp2_with fail
          unfold AtEnd
          exact ⟨v9, by simp only [more, slot_true, slot_false, Nat.reduceEqDiff, ↓reduceIte, Bool.and_true, Bool.true_and, Bool.and_false, Bool.false_and, Bool.or_true, Bool.true_or, Bool.or_false, Bool.false_or, Bool.not_true, Bool.not_false, p1, p28, p25], fun h => by simp [more] at h, fun _ => hE9, hbx.chg hc1 (fun e => HFR.out.1 e), hb4.chg hc1 (fun e => HFR.out.2.1 e), hb7.chg hc1 (fun e => HFR.out.2.2 e), hch.trans hc1 (fun _ _ h => h)⟩
      · intro D a w hall hI
        obtain ⟨v29, rfl, hE0, hE1, hbx, hb4, hb7, hch⟩ := hI
        have e29 := hall 29 (by decide)
        have hE := hE1 e29
        have e0 := hall 0 (by decide)
        have e1 := hall 1 (by decide)
        have e2 := hall 2 (by decide)
        have e3 := hall 3 (by decide)
        have e4 := hall 4 (by decide)
        have e5 := hall 5 (by decide)
        have e6 := hall 6 (by decide)
        have e7 := hall 7 (by decide)
        have e8 := hall 8 (by decide)
        have e9 := hall 9 (by decide)
        have e10 := hall 10 (by decide)
        have e11 := hall 11 (by decide)
        have e12 := hall 12 (by decide)
        have e13 := hall 13 (by decide)
        have e14 := hall 14 (by decide)
        have e15 := hall 15 (by decide)
        have e16 := hall 16 (by decide)
        have e17 := hall 17 (by decide)
        have e18 := hall 18 (by decide)
        have e19 := hall 19 (by decide)
        have e20 := hall 20 (by decide)
        have e21 := hall 21 (by decide)
        have e22 := hall 22 (by decide)
        have e23 := hall 23 (by decide)
        have e24 := hall 24 (by decide)
        have e25 := hall 25 (by decide)
        have e26 := hall 26 (by decide)
        have e27 := hall 27 (by decide)
        have e28 := hall 28 (by decide)
        rw [← HOK.out] at hE
        rw [e0, e1, e2, e3, e4, e5, e6, e7, e8, e9, e10, e11, e12, e13, e14, e15, e16, e17, e18, e19, e20, e21, e22, e23, e24, e25, e26, e27, e28, e29]
        simp only [slot_true, Bool.true_and]
        clear hE0 hE1 hall e0 e1 e2 e3 e4 e5 e6 e7 e8 e9 e10 e11 e12 e13 e14 e15 e16 e17 e18 e19 e20 e21 e22 e23 e24 e25 e26 e27 e28 e29 i1 i2 i3 i4 i5 hE4
        obtain ⟨f1, hf1⟩ : ∃ f1, f1 = askF 0 (recOk x from_) 15 := ⟨_, rfl⟩
        rw [← hf1] at hE
        have HF1 := Lib.hid hf1
        obtain ⟨A6, k6, hb6, hr6, hnk6⟩ := hE.ex
        obtain ⟨w6, hw6⟩ : ∃ w6, w6 = w := ⟨_, rfl⟩
        subst hw6
        have l3 : w6.drew.cell? ⟨g, 0, none⟩ = some (.slice A6 nn k6) := hb6.cell 0
        obtain ⟨ok2, hok2⟩ : ∃ b, decide (n ≤ (nn : Int) - (long : Int)) = b := ⟨_, rfl⟩
        have HO2 := Lib.hid hok2
        have HC6 := Lib.hid (HC4.out.trans hch (fun _ _ h => h))
        clear hf1 hb6 hr6 hok2
        have i1 : false = false → Eye w6.drew B g nn x f1 := fun _ => hE.no (Chg.refl NoB w6).drew
        have i2 : false = false → w6.drew.cell? ⟨g, 0, none⟩ = some (.slice A6 nn k6) := fun _ => l3
        have i3 := hbx.drew
        have i4 := hb4.drew
        have i5 := hb7.drew
        have i6 : Chg (OneB g) w6 w6.drew := (Chg.refl _ w6).drew
        clear l3 hE hbx hb4 hb7 hch
        go_wp2_with fail
        refine wp_region_cl rfl (by kernel_rfl) (InvRecd6 g h r4 r5 B nn long from_ k6 A6 x m v1 v2 v3 n q q2 f1 c1 c2 aa c3 c4 cc bb c5 ok2 v29 w6) ?_ ?_ ?_
        · exact ⟨undef, rfl, (fun _ => i1 trivial), (fun _ => i2 trivial), (fun h => nomatch h), i3, i4, i5, i6⟩
        · clear i1 i2 i3 i4 i5 i6
          intro D a w i o ho hD hcl hpre hI
          obtain ⟨v13, rfl, hE0, hS, hE1, hbx, hb4, hb7, hch⟩ := hI
          have hi : i < 14 := by have := (List.getElem?_eq_some_iff.1 ho).1; simpa using this
          rcases (by omega : i = 0 ∨ i = 1 ∨ i = 2 ∨ i = 3 ∨ i = 4 ∨ i = 5 ∨ i = 6 ∨ i = 7 ∨ i = 8 ∨ i = 9 ∨ i = 10 ∨ i = 11 ∨ i = 12 ∨ i = 13) with rfl | rfl | rfl | rfl | rfl | rfl | rfl | rfl | rfl | rfl | rfl | rfl | rfl | rfl
          · obtain rfl := Option.some.inj ho
            clear ho hpre hi hcl
            go_wp2_with fail
            unfold AtEnd
            exact ⟨v13, rfl, hE0, hS, hE1, hbx, hb4, hb7, hch⟩
          · obtain rfl := Option.some.inj ho
            have p0 := hpre ⟨0, .data⟩ (by simp) rfl
            clear ho hpre hi hcl
            have c1x : w.cell? ⟨h, 0, none⟩ = some (.pointer (some ⟨g, 0, none⟩)) := hbx.cell 0
            go_wp2_with fail
            unfold AtEnd
            exact ⟨v13, by simp only [more, slot_true, slot_false, Nat.reduceEqDiff, ↓reduceIte, p0], hE0, hS, hE1, hbx, hb4, hb7, hch⟩
          · obtain rfl := Option.some.inj ho
            clear ho hpre hi hcl
            go_wp2_with fail
            unfold AtEnd
            exact ⟨v13, rfl, hE0, hS, hE1, hbx, hb4, hb7, hch⟩
          · obtain rfl := Option.some.inj ho
            have p2 := hpre ⟨2, .data⟩ (by simp) rfl
            clear ho hpre hi hcl
            have c1x : w.cell? ⟨h, 0, none⟩ = some (.pointer (some ⟨g, 0, none⟩)) := hbx.cell 0
            go_wp2_with fail
            unfold AtEnd
            exact ⟨v13, by simp only [more, slot_true, slot_false, Nat.reduceEqDiff, ↓reduceIte, p2], hE0, hS, hE1, hbx, hb4, hb7, hch⟩
          · obtain rfl := Option.some.inj ho
            have p3 := hpre ⟨3, .data⟩ (by simp) rfl
            clear ho hpre hi hcl
            go_wp2_with fail
            unfold AtEnd
            exact ⟨v13, by simp only [more, slot_true, slot_false, Nat.reduceEqDiff, ↓reduceIte, p3], hE0, hS, hE1, hbx, hb4, hb7, hch⟩
          · obtain rfl := Option.some.inj ho
            have p4 := hpre ⟨4, .data⟩ (by simp) rfl
            clear ho hpre hi hcl
            go_wp2_with fail
            unfold AtEnd
            exact ⟨v13, by simp only [more, slot_true, slot_false, Nat.reduceEqDiff, ↓reduceIte, p4], hE0, hS, hE1, hbx, hb4, hb7, hch⟩
          · obtain rfl := Option.some.inj ho
            have p5 := hpre ⟨5, .data⟩ (by simp) rfl
            have d13 : D 13 = false := (hcl.not_ 13 _ rfl 1 _ rfl rfl (hcl.not_ 12 _ rfl 0 _ rfl rfl (hcl.not_ 10 _ rfl 0 _ rfl rfl (hcl.not_ 7 _ rfl 0 _ rfl rfl hD))))
            clear ho hpre hi hcl
            have c1x := hS d13
            go_wp2_with fail
            unfold AtEnd
            exact ⟨v13, by simp only [more, slot_true, slot_false, Nat.reduceEqDiff, ↓reduceIte, p5, d13], hE0, hS, hE1, hbx, hb4, hb7, hch⟩
          · obtain rfl := Option.some.inj ho
            have p6 := hpre ⟨6, .data⟩ (by simp) rfl
            clear ho hpre hi hcl
            go_wp2_with fail
            unfold AtEnd
            exact ⟨v13, by simp only [more, slot_true, slot_false, Nat.reduceEqDiff, ↓reduceIte, p6], hE0, hS, hE1, hbx, hb4, hb7, hch⟩
          · obtain rfl := Option.some.inj ho
            clear ho hpre hi hcl
            go_wp2_with fail
            unfold AtEnd
            exact ⟨v13, rfl, hE0, hS, hE1, hbx, hb4, hb7, hch⟩
          · obtain rfl := Option.some.inj ho
            have p8 := hpre ⟨8, .data⟩ (by simp) rfl
            clear ho hpre hi hcl
            have c1x : w.cell? ⟨h, 1, none⟩ = some (.int .i64 (long : Int)) := hbx.cell 1
            go_wp2_with fail
            unfold AtEnd
            exact ⟨v13, by simp only [more, slot_true, slot_false, Nat.reduceEqDiff, ↓reduceIte, p8], hE0, hS, hE1, hbx, hb4, hb7, hch⟩
          · obtain rfl := Option.some.inj ho
            have p7 := hpre ⟨7, .data⟩ (by simp) rfl
            have p9 := hpre ⟨9, .data⟩ (by simp) rfl
            clear ho hpre hi hcl
            have hn1 : nn ≤ 140737488355328 := HN.out.1
            go_wp2_with fail
            unfold AtEnd
            exact ⟨v13, by simp only [more, slot_true, slot_false, Nat.reduceEqDiff, ↓reduceIte, p7, p9], hE0, hS, hE1, hbx, hb4, hb7, hch⟩
          · obtain rfl := Option.some.inj ho
            clear ho hpre hi hcl
            go_wp2_with fail
            unfold AtEnd
            exact ⟨v13, rfl, hE0, hS, hE1, hbx, hb4, hb7, hch⟩
          · obtain rfl := Option.some.inj ho
            have p10 := hpre ⟨10, .data⟩ (by simp) rfl
            have p11 := hpre ⟨11, .data⟩ (by simp) rfl
            clear ho hpre hi hcl
            have h0 := HO2.out
            go_wp2_with fail
            unfold AtEnd
            exact ⟨v13, by simp only [more, slot_true, slot_false, Nat.reduceEqDiff, ↓reduceIte, p10, p11], hE0, hS, hE1, hbx, hb4, hb7, hch⟩
          · obtain rfl := Option.some.inj ho
            have p1 := hpre ⟨1, .data⟩ (by simp) rfl
            have p12 := hpre ⟨12, .data⟩ (by simp) rfl
            clear ho hpre hi hcl
            have hE := hE0 hD
            clear hE0 hE1 hS
            go_wp2_with fail
            refine (ask_any hE _ 4).mono ?_
            rintro e w1 ⟨⟨v9, rfl⟩, hE9, hc1⟩
            go_wp2_with fail
            unfold AtEnd
            exact ⟨v9, by simp only [more, slot_true, slot_false, Nat.reduceEqDiff, ↓reduceIte, p1, p12], fun h => by simp [more] at h, fun h => by simp [more] at h, fun _ => hE9, hbx.chg hc1 (fun e => HFR.out.1 e), hb4.chg hc1 (fun e => HFR.out.2.1 e), hb7.chg hc1 (fun e => HFR.out.2.2 e), hch.trans hc1 (fun _ _ h => h)⟩
        · intro D a w hall hI
          obtain ⟨v13, rfl, hE0, hS, hE1, hbx, hb4, hb7, hch⟩ := hI
          have e0 := hall 0 (by decide)
          have e1 := hall 1 (by decide)
          have e2 := hall 2 (by decide)
          have e3 := hall 3 (by decide)
          have e4 := hall 4 (by decide)
          have e5 := hall 5 (by decide)
          have e6 := hall 6 (by decide)
          have e7 := hall 7 (by decide)
          have e8 := hall 8 (by decide)
          have e9 := hall 9 (by decide)
          have e10 := hall 10 (by decide)
          have e11 := hall 11 (by decide)
          have e12 := hall 12 (by decide)
          have e13 := hall 13 (by decide)
          have hE := hE1 e13
          rw [e0, e1, e2, e3, e4, e5, e6, e7, e8, e9, e10, e11, e12, e13]
          simp only [slot_true]
          clear hE0 hE1 hS hall e0 e1 e2 e3 e4 e5 e6 e7 e8 e9 e10 e11 e12 e13 i1 i2 i3 i4 i5 i6
          obtain ⟨F, hF⟩ : ∃ F, F = askF f1 ok2 4 := ⟨_, rfl⟩
          rw [← hF] at hE
          have HFF : Hid (F = recF x 0 long from_) := by
            have h1 : recN x from_ = n := Hn.out
            unfold recF
            rw [if_neg (by simp), ← HF1.out, h1, HN.out.2, HO2.out, hF]
            exact rfl
          clear hF
          obtain ⟨w7, hw7⟩ : ∃ w7, w7 = w := ⟨_, rfl⟩
          subst hw7
          obtain ⟨A7, k7, hb7e, hr7, hnk⟩ := hE.ex
          have cx : w7.cell? ⟨h, 0, none⟩ = some (.pointer (some ⟨g, 0, none⟩)) := hbx.cell 0
          have cf : w7.cell? ⟨g, 1, none⟩ = some (.int .i64 F) := hb7e.cell 1
          by_cases h0 : F = 0
          · subst h0
            go_wp2_with fail
            obtain ⟨nN, hnN⟩ : ∃ nN : Nat, n = (nN : Int) := by
              obtain ⟨k, hk, _⟩ := getL_nat x ((from_ : Int) + 22) 2
              exact ⟨k, by rw [← Hn.out, hk]⟩
            have hz := recF_zero (x := x) (long := long) (from_ := from_) HFF.out.symm
            have hle : long + nN ≤ nn := by
              have h1 := hz.2; have h2 : recN x from_ = n := Hn.out; have h3 := HN.out.2
              rw [h2, hnN, h3] at h1; omega
            obtain ⟨A8, c8, hs8, hr8, hc8⟩ := run_slice2 hr7 nn k7 long nN HN.out.2 hnk hle
            have hl8 : ((x.drop long).take nN).length = nN := by rw [List.length_take, List.length_drop, HN.out.2]; omega
            obtain ⟨nm, hnm⟩ : ∃ nm, nm = (x.drop long).take nN := ⟨_, rfl⟩
            rw [← hnm] at hr8 hl8
            have HNM := Lib.hid (show nm = (x.drop long).take nN ∧ nm.length = nN ∧ n = (nN : Int) from ⟨hnm, hl8, hnN⟩)
            have HS8 := Lib.hid hs8
            have HLE := Lib.hid (show long + nN ≤ nn ∧ nn ≤ 140737488355328 from ⟨hle, HN.out.1⟩)
            have HE7 := Lib.hid hE
            have HCH7 := Lib.hid (HC6.out.trans hch (fun _ _ h => h))
            subst hnN
            have i1 : false = false → RB w7.drew B A8 nm := fun _ => hr8.drew
            have i2 : w7.drew.cell? ⟨g, 0, none⟩ = some (.slice A7 nn k7) := hb7e.cell 0
            have i3 := hbx.drew
            have i4 := hb4.drew
            have i5 : false = false → Blk w7.drew r5 23 #[.string ⟨#[]⟩, .int .i64 m, .int .i64 v1, .int .i64 v2, .int .i64 v3, .int .i64 0] := fun _ => hb7.drew
            have i6 : Chg (OneB r5) w7 w7.drew := (Chg.refl _ w7).drew
            clear hbx hb4 hb7 hb7e hr7 hr8 cx cf hle hz hl8 hnm hs8 hE hch
            refine wp_region_cl rfl (by kernel_rfl) (InvRecd9 g h r4 r5 B nn long from_ k6 k7 nN c8 A6 A7 A8 nm m v1 v2 v3 q q2 c1 c2 aa c3 c4 cc bb c5 ok2 v29 v13 w7) ?_ ?_ ?_
            · exact ⟨rfl, i1, i2, i3, i4, i5, (fun h => nomatch h), i6⟩
            · clear i1 i2 i3 i4 i5 i6
              intro D a w i o ho hD hcl hpre hI
              obtain ⟨rfl, hrb, hS, hbx, hb4, hb7, hb8, hch⟩ := hI
              have hi : i < 15 := by have := (List.getElem?_eq_some_iff.1 ho).1; simpa using this
              rcases (by omega : i = 0 ∨ i = 1 ∨ i = 2 ∨ i = 3 ∨ i = 4 ∨ i = 5 ∨ i = 6 ∨ i = 7 ∨ i = 8 ∨ i = 9 ∨ i = 10 ∨ i = 11 ∨ i = 12 ∨ i = 13 ∨ i = 14) with rfl | rfl | rfl | rfl | rfl | rfl | rfl | rfl | rfl | rfl | rfl | rfl | rfl | rfl | rfl
              · obtain rfl := Option.some.inj ho
                clear ho hpre hi hcl
                go_wp2_with fail
                unfold AtEnd
                exact ⟨rfl, hrb, hS, hbx, hb4, hb7, hb8, hch⟩
              · obtain rfl := Option.some.inj ho
                have p0 := hpre ⟨0, .data⟩ (by simp) rfl
                clear ho hpre hi hcl
                have c1x : w.cell? ⟨h, 0, none⟩ = some (.pointer (some ⟨g, 0, none⟩)) := hbx.cell 0
                go_wp2_with fail
                unfold AtEnd
                exact ⟨by simp only [more, slot_true, slot_false, Nat.reduceEqDiff, ↓reduceIte, p0], hrb, hS, hbx, hb4, hb7, hb8, hch⟩
              · obtain rfl := Option.some.inj ho
                have p1 := hpre ⟨1, .data⟩ (by simp) rfl
                clear ho hpre hi hcl
                go_wp2_with fail
                unfold AtEnd
                exact ⟨by simp only [more, slot_true, slot_false, Nat.reduceEqDiff, ↓reduceIte, p1], hrb, hS, hbx, hb4, hb7, hb8, hch⟩
              · obtain rfl := Option.some.inj ho
                have p2 := hpre ⟨2, .data⟩ (by simp) rfl
                clear ho hpre hi hcl
                go_wp2_with fail
                unfold AtEnd
                exact ⟨by simp only [more, slot_true, slot_false, Nat.reduceEqDiff, ↓reduceIte, p2], hrb, hS, hbx, hb4, hb7, hb8, hch⟩
              · obtain rfl := Option.some.inj ho
                have p3 := hpre ⟨3, .data⟩ (by simp) rfl
                clear ho hpre hi hcl
                go_wp2_with fail
                unfold AtEnd
                exact ⟨by simp only [more, slot_true, slot_false, Nat.reduceEqDiff, ↓reduceIte, p3], hrb, hS, hbx, hb4, hb7, hb8, hch⟩
              · obtain rfl := Option.some.inj ho
                clear ho hpre hi hcl
                go_wp2_with fail
                unfold AtEnd
                exact ⟨rfl, hrb, hS, hbx, hb4, hb7, hb8, hch⟩
              · obtain rfl := Option.some.inj ho
                have p5 := hpre ⟨5, .data⟩ (by simp) rfl
                clear ho hpre hi hcl
                have c1x : w.cell? ⟨h, 1, none⟩ = some (.int .i64 (long : Int)) := hbx.cell 1
                go_wp2_with fail
                unfold AtEnd
                exact ⟨by simp only [more, slot_true, slot_false, Nat.reduceEqDiff, ↓reduceIte, p5], hrb, hS, hbx, hb4, hb7, hb8, hch⟩
              · obtain rfl := Option.some.inj ho
                clear ho hpre hi hcl
                go_wp2_with fail
                unfold AtEnd
                exact ⟨rfl, hrb, hS, hbx, hb4, hb7, hb8, hch⟩
              · obtain rfl := Option.some.inj ho
                have p7 := hpre ⟨7, .data⟩ (by simp) rfl
                clear ho hpre hi hcl
                have c1x : w.cell? ⟨h, 1, none⟩ = some (.int .i64 (long : Int)) := hbx.cell 1
                go_wp2_with fail
                unfold AtEnd
                exact ⟨by simp only [more, slot_true, slot_false, Nat.reduceEqDiff, ↓reduceIte, p7], hrb, hS, hbx, hb4, hb7, hb8, hch⟩
              · obtain rfl := Option.some.inj ho
                clear ho hpre hi hcl
                go_wp2_with fail
                unfold AtEnd
                exact ⟨rfl, hrb, hS, hbx, hb4, hb7, hb8, hch⟩
              · obtain rfl := Option.some.inj ho
                have p8 := hpre ⟨8, .data⟩ (by simp) rfl
                have p9 := hpre ⟨9, .data⟩ (by simp) rfl
                clear ho hpre hi hcl
                have h1 := HLE.out
                go_wp2_with fail
                unfold AtEnd
                exact ⟨by simp only [more, slot_true, slot_false, Nat.reduceEqDiff, ↓reduceIte, p8, p9], hrb, hS, hbx, hb4, hb7, hb8, hch⟩
              · obtain rfl := Option.some.inj ho
                have p4 := hpre ⟨4, .data⟩ (by simp) rfl
                have p6 := hpre ⟨6, .data⟩ (by simp) rfl
                have p10 := hpre ⟨10, .data⟩ (by simp) rfl
                clear ho hpre hi hcl
                have h1 := HS8.out
                go_wp2_with fail
                unfold AtEnd
                exact ⟨by simp only [more, slot_true, slot_false, Nat.reduceEqDiff, ↓reduceIte, p4, p6, p10], hrb, hS, hbx, hb4, hb7, hb8, hch⟩
              · obtain rfl := Option.some.inj ho
                have p11 := hpre ⟨11, .data⟩ (by simp) rfl
                have d14 : D 14 = false := (hcl.not_ 14 _ rfl 1 _ rfl rfl hD)
                clear ho hpre hi hcl
                have h0 := (hrb d14).toStr (n := nN) HNM.out.2.1 c8 Try.underlying24 Try.underlying5 Try.underlying9
                go_wp2_with fail
                unfold AtEnd
                exact ⟨by simp only [more, slot_true, slot_false, Nat.reduceEqDiff, ↓reduceIte, p11, d14], hrb, hS, hbx, hb4, hb7, hb8, hch⟩
              · obtain rfl := Option.some.inj ho
                clear ho hpre hi hcl
                go_wp2_with fail
                unfold AtEnd
                exact ⟨rfl, hrb, hS, hbx, hb4, hb7, hb8, hch⟩
              · obtain rfl := Option.some.inj ho
                have p13 := hpre ⟨13, .data⟩ (by simp) rfl
                have p12 := hpre ⟨12, .data⟩ (by simp) rfl
                clear ho hpre hi hcl
                have hq := hb7 hD
                have k0 := hq.cell 0
                have f0 := hq.frozen 0
                have hs2 := hq.set_ 0 (.string ⟨nm.toArray⟩)
                clear hb7 hb8 hrb
                go_wp2_with fail
                unfold AtEnd
                exact ⟨by simp only [more, slot_true, slot_false, Nat.reduceEqDiff, ↓reduceIte, p13, p12], fun h => by simp [more] at h, by rw [World.cell?_setCell_other _ _ _ _ (by intro e; injection e with e1 e2; exact HFR.out.2.2 (by first | exact e1 | exact e1.symm))]; exact hS, hbx.far (fun e => HFR2.out.1 e) _, hb4.far (fun e => HFR2.out.2 e) _, fun h => by simp [more] at h, fun _ => by simpa using hs2, Chg.setCell (S := OneB r5) (p := ⟨r5, 0, none⟩) hch (.inl (by unfold OneB; rfl)) _⟩
            · intro D a w hall hI
              obtain ⟨rfl, hrb, hS, hbx, hb4, hb7, hb8, hch⟩ := hI
              have e0 := hall 0 (by decide)
              have e1 := hall 1 (by decide)
              have e2 := hall 2 (by decide)
              have e3 := hall 3 (by decide)
              have e4 := hall 4 (by decide)
              have e5 := hall 5 (by decide)
              have e6 := hall 6 (by decide)
              have e7 := hall 7 (by decide)
              have e8 := hall 8 (by decide)
              have e9 := hall 9 (by decide)
              have e10 := hall 10 (by decide)
              have e11 := hall 11 (by decide)
              have e12 := hall 12 (by decide)
              have e13 := hall 13 (by decide)
              have e14 := hall 14 (by decide)
              have hb9 := hb8 e14
              rw [e0, e1, e2, e3, e4, e5, e6, e7, e8, e9, e10, e11, e12, e13]
              simp only [slot_true]
              clear hb7 hb8 hrb hall e0 e1 e2 e3 e4 e5 e6 e7 e8 e9 e10 e11 e12 e13 e14 i1 i2 i3 i4 i5 i6
              go_wp2_with (first
                | (refine wpList_load_row rfl 23 _ rfl r5 rfl 23 _ (0, 0) _ hb9 Try.underlying23 rfl rec_info ?_)
                | (refine wpList_store_blk rfl 23 _ _ rfl r4 #[.string ⟨nm.toArray⟩, .int .i64 m, .int .i64 v1, .int .i64 v2, .int .i64 v3, .int .i64 0] rfl rfl 23 _ hb4 rfl rec_info (by simp [Value.oneCell']) ?_))
              have hb10 := hb4.row #[.string ⟨nm.toArray⟩, .int .i64 m, .int .i64 v1, .int .i64 v2, .int .i64 v3, .int .i64 0]
              have k0 := hb10.cell 0
              have k1 := hb10.cell 1
              have k2 := hb10.cell 2
              have k3 := hb10.cell 3
              have k4 := hb10.cell 4
              have k5 := hb10.cell 5
              refine bodyPost_ret (v := .agg #[.string ⟨nm.toArray⟩, .int .i64 m, .int .i64 v1, .int .i64 v2, .int .i64 v3, .int .i64 0]) (by simp [results, Try.results45, go_sem, k0, k1, k2, k3, k4, k5]) rfl ?_
              have hr : recR x 0 long from_ = ⟨nm, m, v1, v2, v3, 0⟩ := by
                unfold recR
                rw [if_pos HFF.out.symm, show recN x from_ = (nN : Int) from Hn.out, HNM.out.1, Hm.out, Hv1.out, Hv2.out, Hv3.out]
                simp
              have q1 := (HWC.out.mono (T := OneB g) (fun _ _ h => h.elim)).trans HCH7.out (fun _ _ h => h)
              have q2 := q1.trans hch (fun i hi e => by have h1 := HR5.out.2; have h2 := HWC.out.size; unfold OneB at e; omega)
              refine ⟨by rw [hr]; rfl, ?_, q2.setRow (.inr (by have h1 := HH.out; omega)) _⟩
              rw [← HFF.out]
              exact (HE7.out.chg hch (fun i hi e => by have h1 := HR5.out; have h2 := HFAR.out; unfold OneB at e; omega) (fun e => HFR.out.2.2 e.symm)).chg (Chg.setRow (S := OneB r4) (Chg.refl _ _) (.inl (by unfold OneB; rfl)) _) (fun i hi e => by have h1 := HFAR.out; have h2 := HH.out; unfold OneB at e; omega) (fun e => HFR.out.2.1 e.symm)
          · have hfb : (F != 0) = true := by simpa using h0
            have hfe : (F == 0) = false := by simpa using h0
            have HF0 := Lib.hid h0
            have HE7 := Lib.hid hE
            have HB4 := Lib.hid hb4
            clear h0 hE hbx hb7 hb7e hr7
            go_wp2_with (refine wpList_store_blk rfl 23 _ _ rfl r4 #[.string ⟨#[]⟩, .int .i64 0, .int .i64 0, .int .i64 0, .int .i64 0, .int .i64 0] rfl rfl 23 _ HB4.out rfl rec_info (by simp [Value.oneCell']) ?_)
            have hb10 := HB4.out.row #[.string ⟨#[]⟩, .int .i64 0, .int .i64 0, .int .i64 0, .int .i64 0, .int .i64 0]
            have k0 := hb10.cell 0
            have k1 := hb10.cell 1
            have k2 := hb10.cell 2
            have k3 := hb10.cell 3
            have k4 := hb10.cell 4
            have k5 := hb10.cell 5
            refine bodyPost_ret (v := .agg #[.string ⟨#[]⟩, .int .i64 0, .int .i64 0, .int .i64 0, .int .i64 0, .int .i64 0]) (by simp [results, Try.results45, go_sem, k0, k1, k2, k3, k4, k5]) rfl ?_
            have hr : recR x 0 long from_ = Rec.zero := by
              unfold recR
              rw [if_neg (by rw [← HFF.out]; exact HF0.out)]
            have q1 := (HWC.out.mono (T := OneB g) (fun _ _ h => h.elim)).trans (HC6.out.trans hch (fun _ _ h => h)) (fun _ _ h => h)
            refine ⟨by rw [hr]; rfl, ?_, q1.setRow (.inr (by have h1 := HH.out; omega)) _⟩
            rw [← HFF.out]
            exact HE7.out.chg (Chg.setRow (S := OneB r4) (Chg.refl _ _) (.inl (by unfold OneB; rfl)) _) (fun i hi e => by have h1 := HFAR.out; have h2 := HH.out; unfold OneB at e; omega) (fun e => HFR.out.2.1 e.symm)
  · have hfb : (f != 0) = true := by simpa using hf0
    have hfe : (f == 0) = false := by simpa using hf0
    have hb4' := hb4
    rw [hw2] at hb4'
    have HB4 := Lib.hid hb4'
    have HF0 := Lib.hid hf0
    have HW2 := Lib.hid hw2
    have HHX := Lib.hid hbx
    clear hb4' hf0 hw2 hbx hcx hcx1 hcf
    go_enter Try.func45, Try.ntmps45
    go_wp2_with (refine wpList_store_blk rfl 23 _ _ rfl (w.heap.size + 1) #[.string ⟨#[]⟩, .int .i64 0, .int .i64 0, .int .i64 0, .int .i64 0, .int .i64 0] rfl rfl 23 _ HB4.out rfl rec_info (by simp [Value.oneCell']) ?_)
    have hb10 := HB4.out.row #[.string ⟨#[]⟩, .int .i64 0, .int .i64 0, .int .i64 0, .int .i64 0, .int .i64 0]
    have k0 := hb10.cell 0
    have k1 := hb10.cell 1
    have k2 := hb10.cell 2
    have k3 := hb10.cell 3
    have k4 := hb10.cell 4
    have k5 := hb10.cell 5
    refine bodyPost_ret (v := .agg #[.string ⟨#[]⟩, .int .i64 0, .int .i64 0, .int .i64 0, .int .i64 0, .int .i64 0]) (by simp [results, Try.results45, go_sem, k0, k1, k2, k3, k4, k5]) rfl ?_
    have hF : recF x f long from_ = f := by unfold recF; rw [if_pos HF0.out]
    have hr : recR x f long from_ = Rec.zero := by
      unfold recR
      rw [if_neg (by rw [hF]; exact HF0.out)]
    rw [← HW2.out]
    obtain ⟨A9, c9, hb9, _⟩ := HE2.out.ex
    have q1 := HWC.out.mono (T := OneB g) (fun _ _ h => h.elim)
    refine ⟨by rw [hr]; rfl, ?_, q1.setRow (.inr (by omega)) _⟩
    rw [hF]
    exact HE2.out.chg (Chg.setRow (S := OneB (w.heap.size + 1)) (Chg.refl _ _) (.inl (by unfold OneB; rfl)) _) (fun i hi e => by have h1 := HE2.out.far; have h2 := HG.out; unfold OneB at e; omega) (fun e => by have h2 := HG.out; unfold OneB at e; omega)
end Go.Proofs.Ytgojdkjneggmjaa
