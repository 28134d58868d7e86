/-
  THE WALKS of field.Add, Sub, Mul and of the reference's: at any two numbers they tell one and the same.
-/
import Derived.Test.YtneecdajfblgbaaField1
namespace Go.Proofs.Ytneecdajfblgbaa
open Go.RowKit FieldM
/-- is it a number of four bytes? -/
def isNum (n : Int) : Bool := decide (0 ≤ n) && decide (n ≤ 4294967295)
theorem isNum_yes {n : Int} (h0 : 0 ≤ n) (h1 : n ≤ 4294967295) : isNum n = true := by simp [isNum, h0, h1]
theorem isNum_low {n : Int} (h0 : n < 0) : isNum n = false := by simp [isNum]; omega
theorem isNum_high {n : Int} (h0 : 4294967295 < n) : isNum n = false := by simp [isNum]; omega
/-- a result that is told, if it is a number -/
def toldV (n : Int) : Int := if isNum n then n else 0
def toldE (n : Int) : Int := if isNum n then 0 else 3
def opV (a b r : Int) : Int := if isNum a && isNum b then toldV r else 0
def opE (a b r : Int) : Int := if isNum a && isNum b then toldE r else 2
theorem opV_no {a b r : Int} (h : isNum a = false ∨ isNum b = false) : opV a b r = 0 := by
  unfold opV; rcases h with h | h <;> simp [h]
theorem opE_no {a b r : Int} (h : isNum a = false ∨ isNum b = false) : opE a b r = 2 := by
  unfold opE; rcases h with h | h <;> simp [h]
theorem opV_ok {a b r : Int} (h : isNum a = true) (h2 : isNum b = true) (h3 : isNum r = true) : opV a b r = r := by simp [opV, toldV, h, h2, h3]
theorem opE_ok {a b r : Int} (h : isNum a = true) (h2 : isNum b = true) (h3 : isNum r = true) : opE a b r = 0 := by simp [opE, toldE, h, h2, h3]
theorem opV_big {a b r : Int} (h : isNum a = true) (h2 : isNum b = true) (h3 : isNum r = false) : opV a b r = 0 := by simp [opV, toldV, h, h2, h3]
theorem opE_big {a b r : Int} (h : isNum a = true) (h2 : isNum b = true) (h3 : isNum r = false) : opE a b r = 3 := by simp [opE, toldE, h, h2, h3]
set_option maxRecDepth 100000 in
set_option maxHeartbeats 1000000 in
theorem add_any (a b : Int) (w : World) : Calls Try.prog 21 #[.int .i64 a, .int .i64 b] w fun e w' => e = .returned (.tuple #[.int .i64 (opV a b (a + b)), .int .i64 (opE a b (a + b))]) ∧ w' = w := by
  by_cases a0 : a < 0
  · go_enter Try.func21, Try.ntmps21
    go_wp2
    go_ret2
    exact ⟨by rw [opV_no (.inl (isNum_low a0)), opE_no (.inl (isNum_low a0))]; rfl, rfl⟩
  by_cases a1 : 4294967295 < a
  · have d0 : decide (a ≤ 4294967295) = false := by simp; omega
    go_enter Try.func21, Try.ntmps21
    go_wp2
    go_ret2
    exact ⟨by rw [opV_no (.inl (isNum_high a1)), opE_no (.inl (isNum_high a1))]; rfl, rfl⟩
  by_cases b0 : b < 0
  · have d0 : decide (a ≤ 4294967295) = true := by simp; omega
    go_enter Try.func21, Try.ntmps21
    go_wp2
    go_ret2
    exact ⟨by rw [opV_no (.inr (isNum_low b0)), opE_no (.inr (isNum_low b0))]; rfl, rfl⟩
  by_cases b1 : 4294967295 < b
  · have d0 : decide (a ≤ 4294967295) = true := by simp; omega
    have d1 : decide (b ≤ 4294967295) = false := by simp; omega
    go_enter Try.func21, Try.ntmps21
    go_wp2
    go_ret2
    exact ⟨by rw [opV_no (.inr (isNum_high b1)), opE_no (.inr (isNum_high b1))]; rfl, rfl⟩
  have ha : isNum a = true := isNum_yes (by omega) (by omega)
  have hb : isNum b = true := isNum_yes (by omega) (by omega)
  have HA := Lib.hid ha
  have HB := Lib.hid hb
  clear ha hb
  by_cases r1 : 4294967295 < a + b
  · have d0 : decide (a ≤ 4294967295) = true := by simp; omega
    have d1 : decide (b ≤ 4294967295) = true := by simp; omega
    have d2 : decide (a + b ≤ 4294967295) = false := by simp; omega
    go_enter Try.func21, Try.ntmps21
    go_wp2
    go_ret2
    exact ⟨by rw [opV_big HA.out HB.out (isNum_high r1), opE_big HA.out HB.out (isNum_high r1)]; rfl, rfl⟩
  · have d0 : decide (a ≤ 4294967295) = true := by simp; omega
    have d1 : decide (b ≤ 4294967295) = true := by simp; omega
    have d2 : decide (a + b ≤ 4294967295) = true := by simp; omega
    go_enter Try.func21, Try.ntmps21
    go_wp2
    go_ret2
    exact ⟨by rw [opV_ok HA.out HB.out (isNum_yes (by omega) (by omega)), opE_ok HA.out HB.out (isNum_yes (by omega) (by omega))]; rfl, rfl⟩
set_option maxRecDepth 100000 in
set_option maxHeartbeats 1000000 in
theorem radd_any (a b : Int) (w : World) : Calls Try.prog 22 #[.int .i64 a, .int .i64 b] w fun e w' => e = .returned (.tuple #[.int .i64 (opV a b (a + b)), .int .i64 (opE a b (a + b))]) ∧ w' = w := by
  by_cases a0 : a < 0
  · go_enter Try.func22, Try.ntmps22
    go_wp2
    go_ret2
    exact ⟨by rw [opV_no (.inl (isNum_low a0)), opE_no (.inl (isNum_low a0))]; rfl, rfl⟩
  by_cases a1 : 4294967295 < a
  · have d0 : decide (a ≤ 4294967295) = false := by simp; omega
    go_enter Try.func22, Try.ntmps22
    go_wp2
    go_ret2
    exact ⟨by rw [opV_no (.inl (isNum_high a1)), opE_no (.inl (isNum_high a1))]; rfl, rfl⟩
  by_cases b0 : b < 0
  · have d0 : decide (a ≤ 4294967295) = true := by simp; omega
    go_enter Try.func22, Try.ntmps22
    go_wp2
    go_ret2
    exact ⟨by rw [opV_no (.inr (isNum_low b0)), opE_no (.inr (isNum_low b0))]; rfl, rfl⟩
  by_cases b1 : 4294967295 < b
  · have d0 : decide (a ≤ 4294967295) = true := by simp; omega
    have d1 : decide (b ≤ 4294967295) = false := by simp; omega
    go_enter Try.func22, Try.ntmps22
    go_wp2
    go_ret2
    exact ⟨by rw [opV_no (.inr (isNum_high b1)), opE_no (.inr (isNum_high b1))]; rfl, rfl⟩
  have ha : isNum a = true := isNum_yes (by omega) (by omega)
  have hb : isNum b = true := isNum_yes (by omega) (by omega)
  have HA := Lib.hid ha
  have HB := Lib.hid hb
  clear ha hb
  by_cases r1 : 4294967295 < a + b
  · have d0 : decide (a ≤ 4294967295) = true := by simp; omega
    have d1 : decide (b ≤ 4294967295) = true := by simp; omega
    have d2 : decide (a + b ≤ 4294967295) = false := by simp; omega
    go_enter Try.func22, Try.ntmps22
    go_wp2
    go_ret2
    exact ⟨by rw [opV_big HA.out HB.out (isNum_high r1), opE_big HA.out HB.out (isNum_high r1)]; rfl, rfl⟩
  · have d0 : decide (a ≤ 4294967295) = true := by simp; omega
    have d1 : decide (b ≤ 4294967295) = true := by simp; omega
    have d2 : decide (a + b ≤ 4294967295) = true := by simp; omega
    go_enter Try.func22, Try.ntmps22
    go_wp2
    go_ret2
    exact ⟨by rw [opV_ok HA.out HB.out (isNum_yes (by omega) (by omega)), opE_ok HA.out HB.out (isNum_yes (by omega) (by omega))]; rfl, rfl⟩
set_option maxRecDepth 100000 in
set_option maxHeartbeats 1000000 in
theorem sub_any (a b : Int) (w : World) : Calls Try.prog 23 #[.int .i64 a, .int .i64 b] w fun e w' => e = .returned (.tuple #[.int .i64 (opV a b (a - b)), .int .i64 (opE a b (a - b))]) ∧ w' = w := by
  by_cases a0 : a < 0
  · go_enter Try.func23, Try.ntmps23
    go_wp2
    go_ret2
    exact ⟨by rw [opV_no (.inl (isNum_low a0)), opE_no (.inl (isNum_low a0))]; rfl, rfl⟩
  by_cases a1 : 4294967295 < a
  · have d0 : decide (a ≤ 4294967295) = false := by simp; omega
    go_enter Try.func23, Try.ntmps23
    go_wp2
    go_ret2
    exact ⟨by rw [opV_no (.inl (isNum_high a1)), opE_no (.inl (isNum_high a1))]; rfl, rfl⟩
  by_cases b0 : b < 0
  · have d0 : decide (a ≤ 4294967295) = true := by simp; omega
    go_enter Try.func23, Try.ntmps23
    go_wp2
    go_ret2
    exact ⟨by rw [opV_no (.inr (isNum_low b0)), opE_no (.inr (isNum_low b0))]; rfl, rfl⟩
  by_cases b1 : 4294967295 < b
  · have d0 : decide (a ≤ 4294967295) = true := by simp; omega
    have d1 : decide (b ≤ 4294967295) = false := by simp; omega
    go_enter Try.func23, Try.ntmps23
    go_wp2
    go_ret2
    exact ⟨by rw [opV_no (.inr (isNum_high b1)), opE_no (.inr (isNum_high b1))]; rfl, rfl⟩
  have ha : isNum a = true := isNum_yes (by omega) (by omega)
  have hb : isNum b = true := isNum_yes (by omega) (by omega)
  have HA := Lib.hid ha
  have HB := Lib.hid hb
  clear ha hb
  by_cases r1 : a - b < 0
  · have d0 : decide (a ≤ 4294967295) = true := by simp; omega
    have d1 : decide (b ≤ 4294967295) = true := by simp; omega
    go_enter Try.func23, Try.ntmps23
    go_wp2
    go_ret2
    exact ⟨by rw [opV_big HA.out HB.out (isNum_low r1), opE_big HA.out HB.out (isNum_low r1)]; rfl, rfl⟩
  · have d0 : decide (a ≤ 4294967295) = true := by simp; omega
    have d1 : decide (b ≤ 4294967295) = true := by simp; omega
    have d2 : decide (a - b ≤ 4294967295) = true := by simp; omega
    go_enter Try.func23, Try.ntmps23
    go_wp2
    go_ret2
    exact ⟨by rw [opV_ok HA.out HB.out (isNum_yes (by omega) (by omega)), opE_ok HA.out HB.out (isNum_yes (by omega) (by omega))]; rfl, rfl⟩
set_option maxRecDepth 100000 in
set_option maxHeartbeats 1000000 in
theorem rsub_any (a b : Int) (w : World) : Calls Try.prog 24 #[.int .i64 a, .int .i64 b] w fun e w' => e = .returned (.tuple #[.int .i64 (opV a b (a - b)), .int .i64 (opE a b (a - b))]) ∧ w' = w := by
  by_cases a0 : a < 0
  · go_enter Try.func24, Try.ntmps24
    go_wp2
    go_ret2
    exact ⟨by rw [opV_no (.inl (isNum_low a0)), opE_no (.inl (isNum_low a0))]; rfl, rfl⟩
  by_cases a1 : 4294967295 < a
  · have d0 : decide (a ≤ 4294967295) = false := by simp; omega
    go_enter Try.func24, Try.ntmps24
    go_wp2
    go_ret2
    exact ⟨by rw [opV_no (.inl (isNum_high a1)), opE_no (.inl (isNum_high a1))]; rfl, rfl⟩
  by_cases b0 : b < 0
  · have d0 : decide (a ≤ 4294967295) = true := by simp; omega
    go_enter Try.func24, Try.ntmps24
    go_wp2
    go_ret2
    exact ⟨by rw [opV_no (.inr (isNum_low b0)), opE_no (.inr (isNum_low b0))]; rfl, rfl⟩
  by_cases b1 : 4294967295 < b
  · have d0 : decide (a ≤ 4294967295) = true := by simp; omega
    have d1 : decide (b ≤ 4294967295) = false := by simp; omega
    go_enter Try.func24, Try.ntmps24
    go_wp2
    go_ret2
    exact ⟨by rw [opV_no (.inr (isNum_high b1)), opE_no (.inr (isNum_high b1))]; rfl, rfl⟩
  have ha : isNum a = true := isNum_yes (by omega) (by omega)
  have hb : isNum b = true := isNum_yes (by omega) (by omega)
  have HA := Lib.hid ha
  have HB := Lib.hid hb
  clear ha hb
  by_cases r1 : a - b < 0
  · have d0 : decide (a ≤ 4294967295) = true := by simp; omega
    have d1 : decide (b ≤ 4294967295) = true := by simp; omega
    go_enter Try.func24, Try.ntmps24
    go_wp2
    go_ret2
    exact ⟨by rw [opV_big HA.out HB.out (isNum_low r1), opE_big HA.out HB.out (isNum_low r1)]; rfl, rfl⟩
  · have d0 : decide (a ≤ 4294967295) = true := by simp; omega
    have d1 : decide (b ≤ 4294967295) = true := by simp; omega
    have d2 : decide (a - b ≤ 4294967295) = true := by simp; omega
    go_enter Try.func24, Try.ntmps24
    go_wp2
    go_ret2
    exact ⟨by rw [opV_ok HA.out HB.out (isNum_yes (by omega) (by omega)), opE_ok HA.out HB.out (isNum_yes (by omega) (by omega))]; rfl, rfl⟩
theorem mul_big {a b : Int} (ha : 1 ≤ a) (h : 4294967295 / a < b) : 4294967295 < a * b := by
  have := Int.lt_mul_of_ediv_lt (by omega) h
  rwa [Int.mul_comm] at this
theorem mul_in {a b : Int} (ha : 1 ≤ a) (hb : 0 ≤ b) (h : ¬ 4294967295 / a < b) : 0 ≤ a * b ∧ a * b ≤ 4294967295 := by
  refine ⟨Int.mul_nonneg (by omega) hb, ?_⟩
  have := (Int.le_ediv_iff_mul_le (by omega)).1 (Int.not_lt.1 h)
  rwa [Int.mul_comm] at this
set_option maxRecDepth 100000 in
set_option maxHeartbeats 1000000 in
theorem mul_any (a b : Int) (w : World) : Calls Try.prog 25 #[.int .i64 a, .int .i64 b] w fun e w' => e = .returned (.tuple #[.int .i64 (opV a b (a * b)), .int .i64 (opE a b (a * b))]) ∧ w' = w := by
  by_cases a0 : a < 0
  · go_enter Try.func25, Try.ntmps25
    go_wp2
    go_ret2
    exact ⟨by rw [opV_no (.inl (isNum_low a0)), opE_no (.inl (isNum_low a0))]; rfl, rfl⟩
  by_cases a1 : 4294967295 < a
  · have d0 : decide (a ≤ 4294967295) = false := by simp; omega
    go_enter Try.func25, Try.ntmps25
    go_wp2
    go_ret2
    exact ⟨by rw [opV_no (.inl (isNum_high a1)), opE_no (.inl (isNum_high a1))]; rfl, rfl⟩
  by_cases b0 : b < 0
  · have d0 : decide (a ≤ 4294967295) = true := by simp; omega
    go_enter Try.func25, Try.ntmps25
    go_wp2
    go_ret2
    exact ⟨by rw [opV_no (.inr (isNum_low b0)), opE_no (.inr (isNum_low b0))]; rfl, rfl⟩
  by_cases b1 : 4294967295 < b
  · have d0 : decide (a ≤ 4294967295) = true := by simp; omega
    have d1 : decide (b ≤ 4294967295) = false := by simp; omega
    go_enter Try.func25, Try.ntmps25
    go_wp2
    go_ret2
    exact ⟨by rw [opV_no (.inr (isNum_high b1)), opE_no (.inr (isNum_high b1))]; rfl, rfl⟩
  have ha : isNum a = true := isNum_yes (by omega) (by omega)
  have hb : isNum b = true := isNum_yes (by omega) (by omega)
  have HA := Lib.hid ha
  have HB := Lib.hid hb
  clear ha hb
  by_cases z : a = 0
  · have hz : (a != 0) = false := by rw [z]; rfl
    have hr : opV a b (a * b) = 0 ∧ opE a b (a * b) = 0 := by rw [opV_ok HA.out HB.out (by rw [z, Int.zero_mul]; rfl), opE_ok HA.out HB.out (by rw [z, Int.zero_mul]; rfl), z, Int.zero_mul]; exact ⟨rfl, rfl⟩
    have hw : IntKind.i64.wrap (a * b) = 0 := by rw [z, Int.zero_mul]; rfl
    rw [hr.1, hr.2]
    clear z hr
    have d0 : decide (a ≤ 4294967295) = true := by simp; omega
    have d1 : decide (b ≤ 4294967295) = true := by simp; omega
    go_enter Try.func25, Try.ntmps25
    go_wp2
    go_ret2
    exact ⟨rfl, rfl⟩
  have hz : (a != 0) = true := by simp; omega
  have ap : 1 ≤ a := by omega
  by_cases r1 : 4294967295 / a < b
  · have hn : isNum (a * b) = false := isNum_high (mul_big ap r1)
    have hr : opV a b (a * b) = 0 ∧ opE a b (a * b) = 3 := by rw [opV_big HA.out HB.out hn, opE_big HA.out HB.out hn]; exact ⟨rfl, rfl⟩
    rw [hr.1, hr.2]
    clear hr hn
    have d0 : decide (a ≤ 4294967295) = true := by simp; omega
    have d1 : decide (b ≤ 4294967295) = true := by simp; omega
    go_enter Try.func25, Try.ntmps25
    go_wp2
    go_ret2
    exact ⟨rfl, rfl⟩
  · have hm := mul_in ap (by omega) r1
    have hn : isNum (a * b) = true := isNum_yes hm.1 hm.2
    have hw : IntKind.i64.wrap (a * b) = a * b := IntWalk.i64_in _ (by omega)
    rw [opV_ok HA.out HB.out hn, opE_ok HA.out HB.out hn]
    have HW := Lib.hid hw
    clear hm hn hw
    have d0 : decide (a ≤ 4294967295) = true := by simp; omega
    have d1 : decide (b ≤ 4294967295) = true := by simp; omega
    go_enter Try.func25, Try.ntmps25
    go_wp2
    go_ret2
    refine ⟨?_, rfl⟩
    show Ending.returned (Value.tuple #[Value.int .i64 (wrap64 (a * b)), _]) = _
    rw [← IntWalk.i64_left, HW.out]; rfl
set_option maxRecDepth 100000 in
set_option maxHeartbeats 1000000 in
theorem rmul_any (a b : Int) (w : World) : Calls Try.prog 26 #[.int .i64 a, .int .i64 b] w fun e w' => e = .returned (.tuple #[.int .i64 (opV a b (a * b)), .int .i64 (opE a b (a * b))]) ∧ w' = w := by
  by_cases a0 : a < 0
  · go_enter Try.func26, Try.ntmps26
    go_wp2
    go_ret2
    exact ⟨by rw [opV_no (.inl (isNum_low a0)), opE_no (.inl (isNum_low a0))]; rfl, rfl⟩
  by_cases a1 : 4294967295 < a
  · have d0 : decide (a ≤ 4294967295) = false := by simp; omega
    go_enter Try.func26, Try.ntmps26
    go_wp2
    go_ret2
    exact ⟨by rw [opV_no (.inl (isNum_high a1)), opE_no (.inl (isNum_high a1))]; rfl, rfl⟩
  by_cases b0 : b < 0
  · have d0 : decide (a ≤ 4294967295) = true := by simp; omega
    go_enter Try.func26, Try.ntmps26
    go_wp2
    go_ret2
    exact ⟨by rw [opV_no (.inr (isNum_low b0)), opE_no (.inr (isNum_low b0))]; rfl, rfl⟩
  by_cases b1 : 4294967295 < b
  · have d0 : decide (a ≤ 4294967295) = true := by simp; omega
    have d1 : decide (b ≤ 4294967295) = false := by simp; omega
    go_enter Try.func26, Try.ntmps26
    go_wp2
    go_ret2
    exact ⟨by rw [opV_no (.inr (isNum_high b1)), opE_no (.inr (isNum_high b1))]; rfl, rfl⟩
  have ha : isNum a = true := isNum_yes (by omega) (by omega)
  have hb : isNum b = true := isNum_yes (by omega) (by omega)
  have HA := Lib.hid ha
  have HB := Lib.hid hb
  clear ha hb
  by_cases z : a = 0
  · have hz : decide (0 < a) = false := by rw [z]; rfl
    have hr : opV a b (a * b) = 0 ∧ opE a b (a * b) = 0 := by rw [opV_ok HA.out HB.out (by rw [z, Int.zero_mul]; rfl), opE_ok HA.out HB.out (by rw [z, Int.zero_mul]; rfl), z, Int.zero_mul]; exact ⟨rfl, rfl⟩
    have hw : IntKind.i64.wrap (a * b) = 0 := by rw [z, Int.zero_mul]; rfl
    rw [hr.1, hr.2]
    clear z hr
    have d0 : decide (a ≤ 4294967295) = true := by simp; omega
    have d1 : decide (b ≤ 4294967295) = true := by simp; omega
    go_enter Try.func26, Try.ntmps26
    go_wp2
    go_ret2
    exact ⟨rfl, rfl⟩
  have hz : decide (0 < a) = true := by simp; omega
  have ap : 1 ≤ a := by omega
  by_cases r1 : 4294967295 / a < b
  · have hn : isNum (a * b) = false := isNum_high (mul_big ap r1)
    have hr : opV a b (a * b) = 0 ∧ opE a b (a * b) = 3 := by rw [opV_big HA.out HB.out hn, opE_big HA.out HB.out hn]; exact ⟨rfl, rfl⟩
    rw [hr.1, hr.2]
    clear hr hn
    have d0 : decide (a ≤ 4294967295) = true := by simp; omega
    have d1 : decide (b ≤ 4294967295) = true := by simp; omega
    go_enter Try.func26, Try.ntmps26
    go_wp2
    go_ret2
    exact ⟨rfl, rfl⟩
  · have hm := mul_in ap (by omega) r1
    have hn : isNum (a * b) = true := isNum_yes hm.1 hm.2
    have hw : IntKind.i64.wrap (a * b) = a * b := IntWalk.i64_in _ (by omega)
    rw [opV_ok HA.out HB.out hn, opE_ok HA.out HB.out hn]
    have HW := Lib.hid hw
    clear hm hn hw
    have d0 : decide (a ≤ 4294967295) = true := by simp; omega
    have d1 : decide (b ≤ 4294967295) = true := by simp; omega
    go_enter Try.func26, Try.ntmps26
    go_wp2
    go_ret2
    refine ⟨?_, rfl⟩
    show Ending.returned (Value.tuple #[Value.int .i64 (wrap64 (a * b)), _]) = _
    rw [← IntWalk.i64_left, HW.out]; rfl
end Go.Proofs.Ytneecdajfblgbaa
