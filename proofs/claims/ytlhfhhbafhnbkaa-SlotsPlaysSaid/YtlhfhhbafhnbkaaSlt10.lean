/-
  SLOTS: the walk of the law's lives.
-/
import Derived.Test.YtlhfhhbafhnbkaaSltM
import Derived.Lib.SlBytesConst
namespace Go.Proofs.Ytlhfhhbafhnbkaa
open Go.RowKit FieldM CrcM
set_option linter.unusedSimpArgs false
set_option linter.unusedVariables false
set_option maxRecDepth 100000 in
theorem rroom_any (n : Int) (h0 : -9223372036854775808 ≤ n) (h1 : n ≤ 9223372036854775807) (w : World) : Calls Try.prog 11 #[.int .i64 n] w fun e w' => e = .returned (.int .i64 (roomZ n)) ∧ w' = w := by
  by_cases hn : n < 3 ∨ 8192 < n
  · have hr : roomZ n = 0 := if_pos hn
    rw [hr]
    clear hr
    go_enter Try.func11, Try.ntmps11
    go_wp2_with fail
    all_goals first
      | (go_ret; exact ⟨rfl, rfl⟩)
      | (exfalso; omega)
  · obtain ⟨hz, hhz⟩ : ∃ hz, hz = halfZ n := ⟨_, rfl⟩
    have hb : 1 ≤ hz ∧ hz ≤ 4095 := by rw [hhz]; unfold halfZ; omega
    have hr : roomZ n = min (hz * 512) 1048576 := by rw [hhz]; exact if_neg hn
    rw [hr]
    have hq : Int.tdiv (n - 1) 2 = hz := by rw [hhz]; exact Int.tdiv_eq_ediv_of_nonneg (by omega)
    have hw2 : RowKit.wrap64 hz = hz := IntWalk.wrap64_in _ (by omega)
    have g0 : 3 ≤ n := by omega
    have g1 : n ≤ 8192 := by omega
    have hw3 : RowKit.wrap64 (hz * 512) = hz * 512 := IntWalk.wrap64_in _ (by omega)
    clear hr hhz hn
    by_cases hm : hz * 512 ≤ 1048576
    · have hmm : min (hz * 512) (1048576 : Int) = hz * 512 := by omega
      rw [hmm]
      go_enter Try.func11, Try.ntmps11
      go_wp2_with fail
      all_goals first
        | (go_ret; exact ⟨by first | rfl | (simp [hw2, hw3]), rfl⟩)
        | (exfalso; omega)
    · have hmm : min (hz * 512) (1048576 : Int) = 1048576 := by omega
      rw [hmm]
      go_enter Try.func11, Try.ntmps11
      go_wp2_with fail
      all_goals first
        | (go_ret; exact ⟨by first | rfl | (simp [hw2, hw3]), rfl⟩)
        | (exfalso; rename_i hx; rw [hw2] at hx; omega)
        | (exfalso; omega)
def abcL : List UInt8 := [97, 98, 99]
/-- the disk of lives, formatted, and committed to -/
noncomputable def LvA : Dk := (formatK (Dk.new 3)).1
noncomputable def LvB : Dk := (commitK LvA abcL).1
set_option maxRecDepth 100000 in
theorem lvA : (formatK (Dk.new 3)).2 = 0 ∧ Holds LvA.now 3 0 0 [] ∧ NF LvA 3 ∧ LvA.loose = [] ∧ (∀ i, (LvA.now i).length = 512) := by
  obtain ⟨h1, h2, h3, h4, h5, h6⟩ := format_new 3 (by decide) (by decide)
  unfold LvA
  refine ⟨h1, h2, h3, h5, fun i => ?_⟩
  rw [h6]; unfold upd; split
  · exact hdr_len _ _ _ _
  · exact zeros_len
theorem room3 : roomZ 3 = 512 := by decide
set_option maxRecDepth 100000 in
theorem lvB : (commitK LvA abcL).2 = 0 ∧ Holds LvB.now 3 1 1 abcL ∧ NF LvB 3 ∧ LvB.loose = [] ∧ LvB.now 2 = padL abcL := by
  obtain ⟨h1, h2, h3, h4, h5⟩ := lvA
  obtain ⟨c1, c2, c3, c4, c5, c6⟩ := Holds.commit (b' := abcL) (by rw [h3.n]; exact h2) h3 (by decide) h5 (by decide) (by rw [room3]; decide)
  unfold LvB
  refine ⟨c1, c2, c3, c5, ?_⟩
  rw [c6]
  unfold upd putsF
  rw [if_neg (by decide), if_pos (by decide)]
  rfl
theorem abc_take : (padL abcL).take 4 = [97, 98, 99, 0] := by decide
set_option maxRecDepth 100000 in
set_option maxHeartbeats 8000000 in
theorem slives_any (W : World) : Calls Try.prog 12 #[] W fun e w' => e = .returned (.bool true) ∧ Chg NoB W w' := by
  have la := lvA
  have lb := lvB
  have hA1 : formatK (Dk.new 3) = (LvA, 0) := Prod.ext rfl la.1
  have hB1 : commitK LvA abcL = (LvB, 0) := Prod.ext rfl lb.1
  obtain ⟨KA, hKA⟩ : ∃ KA, KA = LvA := ⟨_, rfl⟩
  obtain ⟨KB, hKB⟩ : ∃ KB, KB = LvB := ⟨_, rfl⟩
  rw [← hKA] at la hA1 hB1
  rw [← hKB] at lb hB1
  obtain ⟨_, la2, la3, la4, la5⟩ := la
  obtain ⟨_, lb2, lb3, lb4, lb5⟩ := lb
  have HA := Lib.hid hA1
  have HBB := Lib.hid hB1
  have hla := Holds.load (K := KA) (by rw [la3.n]; exact la2) (by rw [la3.n]; decide) la3.dark
  have hlb := Holds.load (K := KB) (by rw [lb3.n]; exact lb2) (by rw [lb3.n]; decide) lb3.dark
  have HLA := Lib.hid hla
  have HLB := Lib.hid hlb
  have HAL := Lib.hid (show KA.loose.length ≤ 0 ∧ KA.n = 3 from by rw [la4]; exact ⟨Nat.le_refl _, la3.n⟩)
  have HBL := Lib.hid (show KB.loose.length ≤ 0 ∧ KB.n = 3 ∧ KB.dark = false from by rw [lb4]; exact ⟨Nat.le_refl _, lb3.n, lb3.dark⟩)
  have HB2 := Lib.hid lb5
  have HC7 := Lib.hid (show commitK KB (List.replicate 600 0) = (KB, 7) from by
    unfold commitK
    rw [if_neg (by rw [hlb.1]; simp), if_neg (by rw [hlb.2.2.1]; decide), lb3.n, room3, List.length_replicate, if_pos (by decide)])
  clear hKA hKB la2 la3 la4 la5 lb2 lb3 lb4 lb5 hA1 hB1 hla hlb
  go_enter Try.func12, Try.ntmps12
  go_wp2_with fail
  refine (DI.new_ 3 W (by decide) (by decide)).mono ?_
  rintro e w1 ⟨g, F1, rfl, hD1, hc1⟩
  have HD1 := Lib.hid hD1
  have HC1 := Lib.hid hc1
  clear hD1 hc1
  go_wp2_with fail
  refine (format_any HD1.out HC1.out.size (by decide)).mono ?_
  rw [HA.out]
  rintro e w2 ⟨rfl, F2, hD2, hc2, hf2⟩
  have HD2 := Lib.hid hD2
  have HC2 := Lib.hid (HD1.out.base HC1.out hc2)
  clear hD2 hc2 hf2 HD1 HC1
  go_wp2_with fail
  refine (sload_any HD2.out).mono ?_
  rintro e w3 ⟨v3, rfl, ho3, _, hc3⟩
  rw [HLA.out.2.1] at ho3
  rw [HLA.out.1, HLA.out.2.2.1]
  obtain ⟨A3, n3, c3, rfl, hn3, _⟩ := ho3.val
  obtain rfl : n3 = 0 := by rw [← hn3]; rfl
  have HD3 := Lib.hid (HD2.out.no hc3)
  have HC3 := Lib.hid (HC2.out.trans hc3 (fun _ _ h => h))
  clear ho3 hn3 hc3 HD2 HC2
  have kc := Lib.run_convert_bytes_const (P := Try.prog) w3 25 5 #[.int .u8 97, .int .u8 98, .int .u8 99] 3 3 Try.underlying25 Try.underlying5
  have hlit : OwnB (w3.alloc (.cells #[.int .u8 97, .int .u8 98, .int .u8 99] 5 (3, 4))) w3.heap.size (.slice (some ⟨w3.heap.size, 0, none⟩) 3 3) abcL := .inr ⟨w3.heap.size, rfl, Nat.le_refl _, heap_alloc_new w3 _⟩
  have HLIT := Lib.hid hlit
  clear hlit
  go_wp2_with fail
  clear kc
  have hc4 : Chg NoB w3 (w3.alloc (.cells #[.int .u8 97, .int .u8 98, .int .u8 99] 5 (3, 4))) := (Chg.refl _ _).alloc _
  obtain ⟨A4, n4, c4, e4, hn4, hr4, hc4', _⟩ := HLIT.out.val
  injection e4 with e4a e4b e4c
  subst e4a e4b e4c
  refine (commit_any (HD3.out.no hc4) (Nat.le_trans HC3.out.size hc4.size) (by have := HAL.out.1; omega) (by rw [HAL.out.2]; decide) _ 3 3 abcL rfl (by decide) (Nat.le_refl _) hr4).mono ?_
  rw [HBB.out]
  rintro e w5 ⟨rfl, F5, hD5, hc5, hf5⟩
  have HD5 := Lib.hid hD5
  have HC5 := Lib.hid ((HD3.out.no hc4).base (HC3.out.trans hc4 (fun _ _ h => h)) hc5)
  clear hD5 hc5 hf5 hc4 hn4 hr4 hc4' HD3 HC3 HLIT
  go_wp2_with fail
  refine (sload_any HD5.out).mono ?_
  rintro e w6 ⟨v6, rfl, ho6, _, hc6⟩
  rw [HLB.out.2.1] at ho6
  rw [HLB.out.1, HLB.out.2.2.1]
  obtain ⟨A6, n6, c6, rfl, hn6, hr6, hcc6, _⟩ := ho6.val
  obtain rfl : n6 = 3 := by rw [← hn6]; rfl
  have HD6 := Lib.hid (HD5.out.no hc6)
  have HC6 := Lib.hid (HC5.out.trans hc6 (fun _ _ h => h))
  have HR6 := Lib.hid hr6
  clear ho6 hn6 hr6 hcc6 hc6 HD5 HC5
  go_wp2_with fail
  refine (HD6.out.disk.read 2).mono ?_
  have hr0 : readE KB 2 = 0 := by
    unfold readE
    rw [if_neg (by rw [HBL.out.2.1]; decide), if_neg (by rw [HBL.out.2.2]; decide)]
  rintro e w7 (⟨hne, _⟩ | ⟨_, ⟨b7, rfl, hgb, hb7⟩, hc7⟩)
  · exact absurd hr0 hne
  rw [HB2.out] at hb7
  have HB7 := Lib.hid (show Blk w7 b7 84 (((padL abcL).map bv).toArray) from hb7)
  have HD7 := Lib.hid (HD6.out.no hc7)
  have HC7' := Lib.hid (HC6.out.trans hc7 (fun _ _ h => h))
  have hst1 := (RBchg HR6.out hc7).toStr (n := 3) rfl c6 Try.underlying25 Try.underlying5 Try.underlying9
  have hst2 := ((blk_RB HB7.out).take 4).toStr (n := 4) (by rw [abc_take]; rfl) 512 Try.underlying25 Try.underlying5 Try.underlying9
  rw [abc_take] at hst2
  have hst1' : (convert 25 9 (.slice A6 3 c6)).run Try.prog w7 = .ok (.string ⟨#[97, 98, 99]⟩) w7 := hst1
  have hst2' : (convert 25 9 (.slice (some ⟨b7, 0, none⟩) 4 512)).run Try.prog w7 = .ok (.string ⟨#[97, 98, 99, 0]⟩) w7 := hst2
  have hmk : (Instr.makeSlice 25 (.int .i64 600) (.int .i64 600)).run Try.prog w7 = .ok (.slice (some ⟨w7.heap.size, 0, none⟩) 600 600) (w7.alloc (.cells (Array.replicate 600 (.int .u8 0)) 5)) := by
    obtain ⟨i, hi, hz, hs, hb⟩ := byte_full
    have h := run_makeSlice w7 25 5 i _ Try.underlying25 hi hz .i64 .i64 600 600 (by omega) (by omega) (by rw [hs]; omega) (by rw [hb]; omega) (by omega)
    rw [h, hs, made_u8']; rfl
  have hc8 : Chg NoB w7 (w7.alloc (.cells (Array.replicate 600 (.int .u8 0)) 5)) := (Chg.refl _ _).alloc _
  have hr8 : RB (w7.alloc (.cells (Array.replicate 600 (.int .u8 0)) 5)) (w7.alloc (.cells (Array.replicate 600 (.int .u8 0)) 5)).heap.size (some ⟨w7.heap.size, 0, none⟩) (List.replicate 600 (0 : UInt8)) := by
    refine blk_RB (t := 5) ?_
    have h := Blk.new w7 5 (Array.replicate 600 (.int .u8 0))
    have e : ((List.replicate 600 (0 : UInt8)).map bv).toArray = Array.replicate 600 (.int .u8 0) := by
      rw [List.map_replicate]; exact List.toArray_replicate _ _
    rw [e]; exact h
  have HR8 := Lib.hid hr8
  have HC8 := Lib.hid hc8
  clear hr0 hgb hb7 hc7 hst1 hst2 hr8 hc8
  go_wp2_with fail
  clear hst1' hst2' hmk
  refine (commit_any (HD7.out.no HC8.out) (Nat.le_trans HC7'.out.size HC8.out.size) (by have := HBL.out.1; omega) (by rw [HBL.out.2.1]; decide) _ 600 600 (List.replicate 600 0) (List.length_replicate) (by decide) (Nat.le_refl _) HR8.out).mono ?_
  rw [HC7.out]
  rintro e w9 ⟨rfl, F9, hD9, hc9, hf9⟩
  have HC9 := Lib.hid ((HD7.out.no HC8.out).base (HC7'.out.trans HC8.out (fun _ _ h => h)) hc9)
  clear hD9 hc9 hf9
  go_wp2_with fail
  refine (room_any 10 (by decide) (by decide) _).mono ?_
  rintro e w10 ⟨rfl, rfl⟩
  rw [show roomZ 10 = 2048 from by decide]
  go_wp2_with fail
  refine (rroom_any 3 (by decide) (by decide) _).mono ?_
  rintro e w11 ⟨rfl, rfl⟩
  rw [room3]
  go_wp2_with fail
  go_ret
  exact ⟨rfl, HC9.out⟩
set_option maxRecDepth 100000 in
theorem slotsRooms_walk (n : Int) (W : World) (hw : (Lit.int .i64 n).wf = true) : Calls Try.prog 3 #[.int .i64 n] W fun e W' => e = .returned (.bool true) ∧ Below W.heap.size W W' := by
  have hn : -9223372036854775808 ≤ n ∧ n ≤ 9223372036854775807 := by
    simp [Lit.wf, IntKind.min, IntKind.max, IntKind.bits, IntKind.signed] at hw; exact ⟨by omega, by omega⟩
  clear hw
  go_enter Try.func3, Try.ntmps3
  go_wp2_with fail
  refine (room_any n hn.1 hn.2 W).mono ?_
  rintro e w1 ⟨rfl, rfl⟩
  go_wp2_with fail
  refine (rroom_any n hn.1 hn.2 w1).mono ?_
  rintro e w2 ⟨rfl, rfl⟩
  go_wp2_with fail
  refine (slives_any w2).mono ?_
  rintro e w3 ⟨rfl, hc3⟩
  go_wp2_with fail
  go_ret
  exact ⟨rfl, hc3.no⟩
end Go.Proofs.Ytlhfhhbafhnbkaa
