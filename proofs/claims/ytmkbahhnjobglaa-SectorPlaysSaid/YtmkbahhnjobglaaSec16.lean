/-
  THE WALK of the laws' filled.
-/
import Derived.Test.YtmkbahhnjobglaaSec15
namespace Go.Proofs.Ytmkbahhnjobglaa
open Go.RowKit
set_option linter.unusedSimpArgs false
/-- bytes, each one more than the one ahead -/
def fillL (c : UInt8) (n : Nat) : List UInt8 := (List.range n).map fun i => c + UInt8.ofNat i
theorem fillL_len (c : UInt8) (n : Nat) : (fillL c n).length = n := by simp [fillL]
def fillN (more : Int) : Nat := if -3 < more ∧ more < 3 then (512 + more).toNat else 512
def fillP (c : UInt8) (N j : Nat) : Array Value := ((List.range N).map fun i => bv (if i < j then c + UInt8.ofNat i else 0)).toArray
theorem fillP_zero (c : UInt8) (N : Nat) : fillP c N 0 = Array.replicate N (.int .u8 0) := by
  apply Array.ext <;> simp [fillP, bv]
theorem fillP_full (c : UInt8) (N : Nat) : fillP c N N = ((fillL c N).map bv).toArray := by
  apply Array.ext
  · simp [fillP, fillL]
  · intro i h1 h2
    simp [fillP] at h1
    simp [fillP, fillL, h1]
theorem fillP_set (c : UInt8) (N j : Nat) (hj : j < N) : (fillP c N j).setIfInBounds j (bv (c + UInt8.ofNat j)) = fillP c N (j + 1) := by
  apply Array.ext
  · simp [fillP]
  · intro i h1 h2
    simp [fillP] at h1 h2
    simp only [fillP, Array.getElem_setIfInBounds, List.getElem_toArray, List.getElem_map, List.getElem_range]
    by_cases h : i = j
    · subst h; simp
    · have h3 : (i < j + 1) = (i < j) := by apply propext; omega
      simp [h, h3, Ne.symm h]
theorem fill_val (c : UInt8) (j : Nat) : Value.int .u8 (((c.toNat : Int) + (j : Int)) % 256) = bv (c + UInt8.ofNat j) := by
  unfold bv
  congr 1
  have h1 : (c + UInt8.ofNat j).toNat = (c.toNat + j % 256) % 256 := by simp [UInt8.toNat_add]
  rw [h1]; omega
theorem byte_full : ∃ i, Try.prog.info? 5 = some i ∧ i.zero = some (.int .u8 0) ∧ i.size = 1 ∧ i.bytes = 1 := by
  have h := u8_info
  cases hi : Try.prog.info? 5 with
  | none => rw [hi] at h; cases h
  | some i => rw [hi] at h; simp at h; exact ⟨i, rfl, h.1, h.2.1, h.2.2⟩
set_option maxRecDepth 100000 in
set_option maxHeartbeats 2000000 in
theorem filled_any (c : UInt8) (more : Int) (w : World) :
    Calls Try.prog 12 #[.int .u8 (c.toNat : Int), .int .i64 more] w fun e w' => ∃ g, e = .returned (.slice (some ⟨g, 0, none⟩) (fillN more) (fillN more)) ∧ w.heap.size ≤ g ∧ Blk w' g 5 ((fillL c (fillN more)).map bv).toArray ∧ Chg NoB w w' := by
  obtain ⟨NN, hNN⟩ : ∃ NN, NN = fillN more := ⟨_, rfl⟩
  have hN : 510 ≤ NN ∧ NN ≤ 514 := by rw [hNN]; unfold fillN; split <;> omega
  have hcase : (¬ -3 < more ∧ NN = 512) ∨ (-3 < more ∧ more < 3 ∧ (NN : Int) = 512 + more) ∨ (-3 < more ∧ ¬ more < 3 ∧ NN = 512) := by
    rw [hNN]; unfold fillN
    by_cases h1 : -3 < more
    · by_cases h2 : more < 3
      · right; left; rw [if_pos ⟨h1, h2⟩]; omega
      · right; right; exact ⟨h1, h2, if_neg (fun h => h2 h.2)⟩
    · left; exact ⟨h1, if_neg (fun h => h1 h.1)⟩
  rw [← hNN]
  clear hNN
  go_enter Try.func12, Try.ntmps12
  have hmk : ∀ (X : Int) (_ : X = (NN : Int)) (w : World), (Instr.makeSlice 30 (.int .i64 X) (.int .i64 X)).run Try.prog w = .ok (.slice (some ⟨w.heap.size, 0, none⟩) NN NN) (w.alloc (.cells (fillP c NN 0) 5)) := by
    intro X hX w
    obtain ⟨i, hi, hz, hs, hb⟩ := byte_full
    subst hX
    rw [run_makeSlice w 30 5 i _ Try.underlying30 hi hz .i64 .i64 NN NN (by omega) (by omega) (by rw [hs]; omega) (by rw [hb]; omega) (by omega), hs, fillP_zero]
    have hv : (Value.int .u8 0).cells = #[.int .u8 0] := rfl
    rw [hv]
    congr 3
    apply Array.ext <;> simp [madeCells, Nat.mod_one]
  rcases hcase with ⟨h1, h2⟩ | ⟨h1, h3, h2⟩ | ⟨h1, h3, h2⟩
  · have hm1 := hmk 512 (by omega)
    have hX : (NN : Int) ≤ 512 ∧ (512 : Int) ≤ NN := by omega
    clear h2
    clear hmk
    go_wp2_with fail
    go_loopw [7] (fun i wr => ∃ j : Nat, j ≤ NN ∧ i = .int .i64 j ∧ Blk wr w.heap.size 5 (fillP c NN j) ∧ Chg NoB w wr) (fun i _ => NN - (intOf i).toNat)
    case atStart => exact ⟨0, Nat.zero_le _, rfl, Blk.new w _ _, (Chg.refl _ _).alloc _⟩
    case round =>
      obtain ⟨j, hj, rfl, hb, hch⟩ := hrel
      have HCH := Lib.hid hch
      have HB := Lib.hid hb
      clear hch hb
      by_cases hlt : j < NN
      · have cj := HB.out.cell j
        have fj := HB.out.frozen j
        have hsz : (fillP c NN j)[j]? = some (bv (if j < j then c + UInt8.ofNat j else 0)) := by simp [fillP, hlt]
        rw [hsz] at cj
        go_wp2_with fail
        go_roundw
        case rel =>
          refine ⟨j + 1, by omega, by simp, ?_, HCH.out.setCell (.inr (Nat.le_refl _)) _⟩
          have h1 := HB.out.set_ j (bv (c + UInt8.ofNat j))
          rw [fillP_set c NN j hlt] at h1
          rw [fill_val]; exact h1
        case measure => simp [intOf]; omega
      · obtain rfl : j = NN := by omega
        go_wp2_with fail
        go_ret
        exact ⟨_, rfl, Nat.le_refl _, by rw [← fillP_full]; exact HB.out, HCH.out⟩
  · have hm1 := hmk (512 + more) (by omega)
    have hX : (NN : Int) ≤ 512 + more ∧ 512 + more ≤ (NN : Int) := by omega
    clear h2
    clear hmk
    go_wp2_with fail
    go_loopw [7] (fun i wr => ∃ j : Nat, j ≤ NN ∧ i = .int .i64 j ∧ Blk wr w.heap.size 5 (fillP c NN j) ∧ Chg NoB w wr) (fun i _ => NN - (intOf i).toNat)
    case atStart => exact ⟨0, Nat.zero_le _, rfl, Blk.new w _ _, (Chg.refl _ _).alloc _⟩
    case round =>
      obtain ⟨j, hj, rfl, hb, hch⟩ := hrel
      have HCH := Lib.hid hch
      have HB := Lib.hid hb
      clear hch hb
      by_cases hlt : j < NN
      · have cj := HB.out.cell j
        have fj := HB.out.frozen j
        have hsz : (fillP c NN j)[j]? = some (bv (if j < j then c + UInt8.ofNat j else 0)) := by simp [fillP, hlt]
        rw [hsz] at cj
        go_wp2_with fail
        go_roundw
        case rel =>
          refine ⟨j + 1, by omega, by simp, ?_, HCH.out.setCell (.inr (Nat.le_refl _)) _⟩
          have h1 := HB.out.set_ j (bv (c + UInt8.ofNat j))
          rw [fillP_set c NN j hlt] at h1
          rw [fill_val]; exact h1
        case measure => simp [intOf]; omega
      · obtain rfl : j = NN := by omega
        go_wp2_with fail
        go_ret
        exact ⟨_, rfl, Nat.le_refl _, by rw [← fillP_full]; exact HB.out, HCH.out⟩
  · have hm1 := hmk 512 (by omega)
    have hX : (NN : Int) ≤ 512 ∧ (512 : Int) ≤ NN := by omega
    clear h2
    clear hmk
    go_wp2_with fail
    go_loopw [7] (fun i wr => ∃ j : Nat, j ≤ NN ∧ i = .int .i64 j ∧ Blk wr w.heap.size 5 (fillP c NN j) ∧ Chg NoB w wr) (fun i _ => NN - (intOf i).toNat)
    case atStart => exact ⟨0, Nat.zero_le _, rfl, Blk.new w _ _, (Chg.refl _ _).alloc _⟩
    case round =>
      obtain ⟨j, hj, rfl, hb, hch⟩ := hrel
      have HCH := Lib.hid hch
      have HB := Lib.hid hb
      clear hch hb
      by_cases hlt : j < NN
      · have cj := HB.out.cell j
        have fj := HB.out.frozen j
        have hsz : (fillP c NN j)[j]? = some (bv (if j < j then c + UInt8.ofNat j else 0)) := by simp [fillP, hlt]
        rw [hsz] at cj
        go_wp2_with fail
        go_roundw
        case rel =>
          refine ⟨j + 1, by omega, by simp, ?_, HCH.out.setCell (.inr (Nat.le_refl _)) _⟩
          have h1 := HB.out.set_ j (bv (c + UInt8.ofNat j))
          rw [fillP_set c NN j hlt] at h1
          rw [fill_val]; exact h1
        case measure => simp [intOf]; omega
      · obtain rfl : j = NN := by omega
        go_wp2_with fail
        go_ret
        exact ⟨_, rfl, Nat.le_refl _, by rw [← fillP_full]; exact HB.out, HCH.out⟩
end Go.Proofs.Ytmkbahhnjobglaa
