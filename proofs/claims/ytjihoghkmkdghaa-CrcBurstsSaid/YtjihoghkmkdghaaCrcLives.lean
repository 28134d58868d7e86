/-
  THE WALK of valiselaw02.lives: the document's examples of CRC-32 hold.
-/
import Derived.Test.YtjihoghkmkdghaaCrcJoins
import Derived.Lib.SlBytesConst
namespace Go.Proofs.Ytjihoghkmkdghaa
open Go.RowKit CrcM
def l15 : List UInt8 := [49, 50, 51, 52, 53]
def l69 : List UInt8 := [54, 55, 56, 57]
def l19 : List UInt8 := [49, 50, 51, 52, 53, 54, 55, 56, 57]
theorem ex1 : (U (moreL 0#32 l19) == 3421780262) = true := by decide +kernel
theorem ex2 : (U (moreL (moreL 0#32 l15) l69) == 3421780262) = true := by decide +kernel
theorem ex3 : (U (iter step8 4 (moreL 0#32 l15) ^^^ moreL 0#32 l69) == 3421780262) = true := by decide +kernel
theorem ex4 : (U (iter step8 1 1#32 ^^^ 0#32) == 1996959894) = true := by decide +kernel
set_option maxRecDepth 100000 in
set_option maxHeartbeats 1000000 in
theorem crcLives_any (w : World) : Calls Try.prog 9 #[] w fun e w' => e = .returned (.bool true) ∧ Chg NoB w w' := by
  have kc := fun (w : World) (C : Array Value) (n c : Nat) => Lib.run_convert_bytes_const (P := Try.prog) w 23 5 C n c Try.underlying23 Try.underlying5
  have e1 := ex1
  have e2 := ex2
  have e3 := ex3
  have e4 := ex4
  go_enter Try.func9, Try.ntmps9
  go_wp2_with fail
  refine (sum_any _ l15 _ _ rfl (w.heap.size + 1) _ (RB.of_row (heap_alloc_new _ _) _ rfl (by omega)) (by decide)).mono ?_
  rintro e w1 ⟨rfl, hw1⟩
  have hc1 : Chg NoB w w1 := by rw [hw1]; exact (Chg.refl _ _).alloc _
  clear hw1
  go_wp2_with fail
  refine (sum_any _ l69 _ _ rfl (w1.heap.size + 1) _ (RB.of_row (heap_alloc_new _ _) _ rfl (by omega)) (by decide)).mono ?_
  rintro e w2 ⟨rfl, hw2⟩
  have hc2 : Chg NoB w w2 := by rw [hw2]; exact hc1.alloc _
  clear hw2 hc1
  go_wp2_with fail
  refine (join_yes (moreL 0#32 l15) (moreL 0#32 l69) 4 _ (by omega)).mono ?_
  rintro e w3 ⟨rfl, hw3⟩
  have hc3 : Chg NoB w w3 := hc2.trans hw3 (fun _ _ h => h)
  clear hw3 hc2
  go_wp2_with fail
  refine (join_yes 1#32 0#32 1 _ (by omega)).mono ?_
  rintro e w4 ⟨rfl, hw4⟩
  have hc4 : Chg NoB w w4 := hc3.trans hw4 (fun _ _ h => h)
  clear hw4 hc3
  go_wp2_with fail
  refine (sum_any _ l19 _ _ rfl (w4.heap.size + 1) _ (RB.of_row (heap_alloc_new _ _) _ rfl (by omega)) (by decide)).mono ?_
  rintro e w5 ⟨rfl, hw5⟩
  have hc5 : Chg NoB w w5 := by rw [hw5]; exact hc4.alloc _
  clear hw5 hc4
  go_wp2_with fail
  refine (more_any _ _ l69 _ _ rfl (w5.heap.size + 1) _ (RB.of_row (heap_alloc_new _ _) _ rfl (by omega)) (by decide)).mono ?_
  rintro e w6 ⟨rfl, hw6⟩
  have hc6 : Chg NoB w w6 := by rw [hw6]; exact hc5.alloc _
  clear hw6 hc5
  go_wp2_with fail
  go_ret
  exact ⟨rfl, hc6⟩
end Go.Proofs.Ytjihoghkmkdghaa
