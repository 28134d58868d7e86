/-
  THE WALK of the law FieldUndoes.
-/
import Derived.Test.YtneecdajfblgbaaField5
namespace Go.Proofs.Ytneecdajfblgbaa
open Go.RowKit FieldM
theorem op_no {a b r : Int} (h : (isNum a && isNum b) = false) : opV a b r = 0 ∧ opE a b r = 2 := by unfold opV opE; rw [h]; exact ⟨rfl, rfl⟩
theorem op_big {a b r : Int} (h : (isNum a && isNum b) = true) (h2 : isNum r = false) : opV a b r = 0 ∧ opE a b r = 3 := by unfold opV opE toldV toldE; rw [h, h2]; exact ⟨rfl, rfl⟩
theorem op_ok {a b r : Int} (h : (isNum a && isNum b) = true) (h2 : isNum r = true) : opV a b r = r ∧ opE a b r = 0 := by unfold opV opE toldV toldE; rw [h, h2]; exact ⟨rfl, rfl⟩
theorem num_bd {a : Int} (h : isNum a = true) : 0 ≤ a ∧ a ≤ 4294967295 := by simpa [isNum] using h
set_option maxRecDepth 100000 in
set_option maxHeartbeats 2000000 in
theorem fieldUndoes_walk (a b : Int) (w : World) (_ : (Lit.int .i64 a).wf = true) (_ : (Lit.int .i64 b).wf = true) :
    Calls Try.prog 9 #[.int .i64 a, .int .i64 b] w fun e w' => e = .returned (.bool true) ∧ Below w.heap.size w w' := by
  cases hab : isNum a && isNum b
  · have E1 := Lib.hid (op_no (r := a + b) hab)
    have E2 := Lib.hid (op_no (r := a * b) hab)
    clear hab
    go_enter Try.func9, Try.ntmps9
    go_wp2_with fail
    refine (add_any a b _).mono ?_
    rintro e w1 ⟨rfl, rfl⟩
    rw [E1.out.1, E1.out.2]
    go_wp2_with fail
    refine (mul_any a b _).mono ?_
    rintro e w1 ⟨rfl, rfl⟩
    rw [E2.out.1, E2.out.2]
    go_wp2_with fail
    refine (fieldLives_any _).mono ?_
    rintro e w1 ⟨rfl, hc⟩
    go_wp2_with fail
    go_ret
    exact ⟨rfl, hc.no⟩
  · have hA := (num_bd (Bool.and_eq_true _ _ ▸ hab : isNum a = true ∧ isNum b = true).1)
    have hB := (num_bd (Bool.and_eq_true _ _ ▸ hab : isNum a = true ∧ isNum b = true).2)
    have HAB := Lib.hid hab
    have hbb : (isNum b) = true := (Bool.and_eq_true _ _ ▸ hab : isNum a = true ∧ isNum b = true).2
    have haa : (isNum a) = true := (Bool.and_eq_true _ _ ▸ hab : isNum a = true ∧ isNum b = true).1
    have HBB := Lib.hid hbb
    have HAA := Lib.hid haa
    clear hab hbb haa
    cases hs : isNum (a + b)
    · have E1 := Lib.hid (op_big HAB.out hs)
      clear hs
      cases hm : isNum (a * b)
      · have E2 := Lib.hid (op_big HAB.out hm)
        clear hm
        go_enter Try.func9, Try.ntmps9
        go_wp2_with fail
        refine (add_any a b _).mono ?_
        rintro e w1 ⟨rfl, rfl⟩
        rw [E1.out.1, E1.out.2]
        go_wp2_with fail
        refine (mul_any a b _).mono ?_
        rintro e w1 ⟨rfl, rfl⟩
        rw [E2.out.1, E2.out.2]
        go_wp2_with fail
        refine (fieldLives_any _).mono ?_
        rintro e w1 ⟨rfl, hc⟩
        go_wp2_with fail
        go_ret
        exact ⟨rfl, hc.no⟩
      · have E2 := Lib.hid (op_ok HAB.out hm)
        have HM := Lib.hid hm
        clear hm
        by_cases hb9 : 4294967295 ≤ b
        · have hbe : decide (4294967295 ≤ b) = true := by simpa using hb9
          go_enter Try.func9, Try.ntmps9
          go_wp2_with fail
          refine (add_any a b _).mono ?_
          rintro e w1 ⟨rfl, rfl⟩
          rw [E1.out.1, E1.out.2]
          go_wp2_with fail
          refine (mul_any a b _).mono ?_
          rintro e w1 ⟨rfl, rfl⟩
          rw [E2.out.1, E2.out.2]
          go_wp2_with fail
          refine (fieldLives_any _).mono ?_
          rintro e w1 ⟨rfl, hc⟩
          go_wp2_with fail
          go_ret
          exact ⟨rfl, hc.no⟩
        · have hbe : decide (4294967295 ≤ b) = false := by simpa using hb9
          have hb1 : isNum (b + 1) = true := isNum_yes (by omega) (by omega)
          have HAB1 : Hid ((isNum a && isNum (b + 1)) = true) := by show (isNum a && isNum (b + 1)) = true; rw [HAA.out, hb1]; rfl
          have HMA : Hid ((isNum (a * b) && isNum a) = true) := by show (isNum (a * b) && isNum a) = true; rw [HAA.out, HM.out]; rfl
          have hdist : a * (b + 1) = a * b + a := by rw [Int.mul_add, Int.mul_one]
          have HD := Lib.hid hdist
          have hs : ∃ v g : Int, Hid ((opV a (b + 1) (a * (b + 1)) = v ∧ opE a (b + 1) (a * (b + 1)) = g) ∧ (opV (a * b) a (a * b + a) = v ∧ opE (a * b) a (a * b + a) = g)) := by
            rw [hdist]
            cases hs : isNum (a * b + a)
            · exact ⟨0, 3, op_big HAB1.out hs, op_big HMA.out hs⟩
            · exact ⟨_, 0, op_ok HAB1.out hs, op_ok HMA.out hs⟩
          obtain ⟨v, g, HV⟩ := hs
          clear hb1 hdist
          go_enter Try.func9, Try.ntmps9
          go_wp2_with fail
          refine (add_any a b _).mono ?_
          rintro e w1 ⟨rfl, rfl⟩
          rw [E1.out.1, E1.out.2]
          go_wp2_with fail
          refine (mul_any a b _).mono ?_
          rintro e w1 ⟨rfl, rfl⟩
          rw [E2.out.1, E2.out.2]
          go_wp2_with fail
          refine (mul_any a (b + 1) _).mono ?_
          rintro e w1 ⟨rfl, rfl⟩
          rw [HV.out.1.1, HV.out.1.2]
          go_wp2_with fail
          refine (add_any (a * b) a _).mono ?_
          rintro e w1 ⟨rfl, rfl⟩
          rw [HV.out.2.1, HV.out.2.2]
          go_wp2_with fail
          refine (fieldLives_any _).mono ?_
          rintro e w1 ⟨rfl, hc⟩
          go_wp2_with fail
          go_ret
          exact ⟨rfl, hc.no⟩
    · have E1 := Lib.hid (op_ok HAB.out hs)
      have hsb : (isNum (a + b) && isNum b) = true := by rw [hs, HBB.out]; rfl
      have E3 : Hid (opV (a + b) b (a + b - b) = a ∧ opE (a + b) b (a + b - b) = 0) := by
        have e : a + b - b = a := by omega
        rw [e]; exact op_ok hsb HAA.out
      clear hs hsb
      cases hm : isNum (a * b)
      · have E2 := Lib.hid (op_big HAB.out hm)
        clear hm
        go_enter Try.func9, Try.ntmps9
        go_wp2_with fail
        refine (add_any a b _).mono ?_
        rintro e w1 ⟨rfl, rfl⟩
        rw [E1.out.1, E1.out.2]
        go_wp2_with fail
        refine (sub_any (a + b) b _).mono ?_
        rintro e w1 ⟨rfl, rfl⟩
        rw [E3.out.1, E3.out.2]
        go_wp2_with fail
        refine (mul_any a b _).mono ?_
        rintro e w1 ⟨rfl, rfl⟩
        rw [E2.out.1, E2.out.2]
        go_wp2_with fail
        refine (fieldLives_any _).mono ?_
        rintro e w1 ⟨rfl, hc⟩
        go_wp2_with fail
        go_ret
        exact ⟨rfl, hc.no⟩
      · have E2 := Lib.hid (op_ok HAB.out hm)
        have HM := Lib.hid hm
        clear hm
        by_cases hb9 : 4294967295 ≤ b
        · have hbe : decide (4294967295 ≤ b) = true := by simpa using hb9
          go_enter Try.func9, Try.ntmps9
          go_wp2_with fail
          refine (add_any a b _).mono ?_
          rintro e w1 ⟨rfl, rfl⟩
          rw [E1.out.1, E1.out.2]
          go_wp2_with fail
          refine (sub_any (a + b) b _).mono ?_
          rintro e w1 ⟨rfl, rfl⟩
          rw [E3.out.1, E3.out.2]
          go_wp2_with fail
          refine (mul_any a b _).mono ?_
          rintro e w1 ⟨rfl, rfl⟩
          rw [E2.out.1, E2.out.2]
          go_wp2_with fail
          refine (fieldLives_any _).mono ?_
          rintro e w1 ⟨rfl, hc⟩
          go_wp2_with fail
          go_ret
          exact ⟨rfl, hc.no⟩
        · have hbe : decide (4294967295 ≤ b) = false := by simpa using hb9
          have hb1 : isNum (b + 1) = true := isNum_yes (by omega) (by omega)
          have HAB1 : Hid ((isNum a && isNum (b + 1)) = true) := by show (isNum a && isNum (b + 1)) = true; rw [HAA.out, hb1]; rfl
          have HMA : Hid ((isNum (a * b) && isNum a) = true) := by show (isNum (a * b) && isNum a) = true; rw [HAA.out, HM.out]; rfl
          have hdist : a * (b + 1) = a * b + a := by rw [Int.mul_add, Int.mul_one]
          have HD := Lib.hid hdist
          have hs : ∃ v g : Int, Hid ((opV a (b + 1) (a * (b + 1)) = v ∧ opE a (b + 1) (a * (b + 1)) = g) ∧ (opV (a * b) a (a * b + a) = v ∧ opE (a * b) a (a * b + a) = g)) := by
            rw [hdist]
            cases hs : isNum (a * b + a)
            · exact ⟨0, 3, op_big HAB1.out hs, op_big HMA.out hs⟩
            · exact ⟨_, 0, op_ok HAB1.out hs, op_ok HMA.out hs⟩
          obtain ⟨v, g, HV⟩ := hs
          clear hb1 hdist
          go_enter Try.func9, Try.ntmps9
          go_wp2_with fail
          refine (add_any a b _).mono ?_
          rintro e w1 ⟨rfl, rfl⟩
          rw [E1.out.1, E1.out.2]
          go_wp2_with fail
          refine (sub_any (a + b) b _).mono ?_
          rintro e w1 ⟨rfl, rfl⟩
          rw [E3.out.1, E3.out.2]
          go_wp2_with fail
          refine (mul_any a b _).mono ?_
          rintro e w1 ⟨rfl, rfl⟩
          rw [E2.out.1, E2.out.2]
          go_wp2_with fail
          refine (mul_any a (b + 1) _).mono ?_
          rintro e w1 ⟨rfl, rfl⟩
          rw [HV.out.1.1, HV.out.1.2]
          go_wp2_with fail
          refine (add_any (a * b) a _).mono ?_
          rintro e w1 ⟨rfl, rfl⟩
          rw [HV.out.2.1, HV.out.2.2]
          go_wp2_with fail
          refine (fieldLives_any _).mono ?_
          rintro e w1 ⟨rfl, hc⟩
          go_wp2_with fail
          go_ret
          exact ⟨rfl, hc.no⟩
end Go.Proofs.Ytneecdajfblgbaa
