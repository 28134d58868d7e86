/-
  THE WALKS of valiselaw03.lives and of the laws FieldSums, FieldUndoes.
-/
import Derived.Test.YtneecdajfblgbaaField4
namespace Go.Proofs.Ytneecdajfblgbaa
open Go.RowKit FieldM
theorem flive1 : putErr 300 2 = 0 ∧ putL [] 300 2 = [44, 1] := by constructor <;> decide
theorem flive2 : putErr 70000 4 = 0 ∧ putL [] 70000 4 = [112, 17, 1, 0] := by constructor <;> decide
theorem flive3 : cutErr 3 0 4 = 4 := by decide
theorem flive4 : opV 65536 65536 (65536 * 65536) = 0 ∧ opE 65536 65536 (65536 * 65536) = 3 := by constructor <;> decide
theorem flive5 : opV 1 2 (1 - 2) = 0 ∧ opE 1 2 (1 - 2) = 3 := by constructor <;> decide
set_option maxRecDepth 100000 in
set_option maxHeartbeats 2000000 in
theorem fieldLives_any (w : World) : Calls Try.prog 15 #[] w fun e w' => e = .returned (.bool true) ∧ Chg NoB w w' := by
  go_enter Try.func15, Try.ntmps15
  go_wp2_with fail
  refine (put2_any none [] 0 0 300 rfl 0 _ RB.none_ (by omega) (by omega)).mono ?_
  rintro e w1 ⟨⟨v1, rfl, ho1⟩, hc1⟩
  rw [flive1.1]
  rw [flive1.2] at ho1
  go_wp2_with fail
  refine (put4_any none [] 0 0 70000 rfl 0 _ RB.none_ (by omega) (by omega)).mono ?_
  rintro e w2 ⟨⟨v2, rfl, ho2⟩, hc2⟩
  rw [flive2.1]
  rw [flive2.2] at ho2
  have ho1 := ho1.chg hc2 (fun _ _ h => h)
  have hcc := hc1.trans hc2 (fun _ _ h => h)
  clear hc1 hc2
  go_wp2_with fail
  refine (get4_any _ [1, 2, 3] 3 3 0 rfl (w2.heap.size + 1) _ (RB.of_row (heap_alloc_new _ _) _ rfl (by omega)) (by omega) (by omega)).mono ?_
  rintro e w3 ⟨rfl, hc3⟩
  have hc3 := ((Chg.refl NoB w2).alloc _).trans hc3 (fun _ _ h => h)
  have ho1 := ho1.chg hc3 (fun _ _ h => h)
  have ho2 := ho2.chg hc3 (fun _ _ h => h)
  have hcc := hcc.trans hc3 (fun _ _ h => h)
  clear hc3
  rw [show ((3 : Nat) : Int) = 3 from rfl, flive3]
  go_wp2_with fail
  refine (mul_any 65536 65536 _).mono ?_
  rintro e w4 ⟨rfl, rfl⟩
  rw [flive4.1, flive4.2]
  go_wp2_with fail
  refine (sub_any 1 2 _).mono ?_
  rintro e w4 ⟨rfl, rfl⟩
  rw [flive5.1, flive5.2]
  obtain ⟨A1, n1, c1, rfl, hn1, hr1, _⟩ := ho1.val
  obtain ⟨A2, n2, c2, rfl, hn2, hr2, _⟩ := ho2.val
  have hs1 := hr1.toStr hn1 c1 Try.underlying22 Try.underlying5 Try.underlying9
  have hs2 := hr2.toStr hn2 c2 Try.underlying22 Try.underlying5 Try.underlying9
  have HN1 := Lib.hid hn1
  have HN2 := Lib.hid hn2
  clear hn1 hn2 ho1 ho2 hr1 hr2
  go_wp2_with fail
  go_ret
  exact ⟨rfl, hcc⟩
set_option maxRecDepth 100000 in
set_option maxHeartbeats 2000000 in
theorem fieldSums_walk (a b : Int) (w : World) (_ : (Lit.int .i64 a).wf = true) (_ : (Lit.int .i64 b).wf = true) :
    Calls Try.prog 8 #[.int .i64 a, .int .i64 b] w fun e w' => e = .returned (.bool true) ∧ Below w.heap.size w w' := by
  go_enter Try.func8, Try.ntmps8
  go_wp2_with fail
  refine (add_any a b _).mono ?_
  rintro e w1 ⟨rfl, rfl⟩
  go_wp2_with fail
  refine (radd_any a b _).mono ?_
  rintro e w1 ⟨rfl, rfl⟩
  go_wp2_with fail
  refine (sub_any a b _).mono ?_
  rintro e w1 ⟨rfl, rfl⟩
  go_wp2_with fail
  refine (rsub_any a b _).mono ?_
  rintro e w1 ⟨rfl, rfl⟩
  go_wp2_with fail
  refine (mul_any a b _).mono ?_
  rintro e w1 ⟨rfl, rfl⟩
  go_wp2_with fail
  refine (rmul_any a b _).mono ?_
  rintro e w1 ⟨rfl, rfl⟩
  go_wp2_with fail
  refine (fieldLives_any _).mono ?_
  rintro e w1 ⟨rfl, hc⟩
  go_wp2_with fail
  go_ret
  exact ⟨rfl, hc.no⟩
end Go.Proofs.Ytneecdajfblgbaa
