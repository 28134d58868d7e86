/-
  THE WALK of the law's alike: both disks answer alike.
-/
import Derived.Test.YtmkbahhnjobglaaSecStep
namespace Go.Proofs.Ytmkbahhnjobglaa
open Go.RowKit
set_option linter.unusedSimpArgs false
set_option linter.unusedVariables false
def InvAl (g n nl c1 c2 : Nat) (A1 A2 : Option Addr) (fu : Int) (da : Bool) (W w0 : World) (D : Nat → Bool) (a : Act) (w : World) : Prop :=
  a = { tmps := #[.pointer (some ⟨g, 0, none⟩), .agg #[.slice A1 n c1, .slice A2 nl c2, .int .i64 fu, .bool da], undef, .pointer (some ⟨W.heap.size, 0, none⟩), .bool false, undef, undef, undef, undef, undef, (slot (D 0) (.pointer (some ⟨g, 0, none⟩)) (undef)), (slot (D 1) (.bool false) (undef)), (slot (D 2) (.bool false) (undef)), (slot (D 3) (.pointer (some ⟨g, 0, none⟩)) (undef)), (slot (D 4) (.int .i64 (n : Int)) (undef)), (slot (D 5) (.pointer (some ⟨W.heap.size, 0, none⟩)) (undef)), (slot (D 6) (.slice A1 n c1) (undef)), (slot (D 7) (.int .i64 (n : Int)) (undef)), (slot (D 8) (.bool false) (undef)), (slot (D 9) (.bool false) (undef)), (slot (D 10) (.bool false) (undef)), (slot (D 11) (.pointer (some ⟨g, 0, none⟩)) (undef)), (slot (D 12) (.int .i64 (nl : Int)) (undef)), (slot (D 13) (.pointer (some ⟨W.heap.size, 1, none⟩)) (undef)), (slot (D 14) (.slice A2 nl c2) (undef)), (slot (D 15) (.int .i64 (nl : Int)) (undef)), (slot (D 16) (.bool false) (undef)), (slot (D 17) (.bool false) (undef)), (slot (D 18) (.bool false) (undef)), (slot (D 19) (.pointer (some ⟨g, 0, none⟩)) (undef)), (slot (D 20) (.bool da) (undef)), (slot (D 21) (.pointer (some ⟨W.heap.size, 3, none⟩)) (undef)), (slot (D 22) (.bool da) (undef)), (slot (D 23) (.bool false) (undef)), (slot (D 24) (.bool false) (undef)), undef, undef, undef, undef, undef, undef, undef, undef, undef, undef, undef, undef, undef, undef, undef, undef, undef, undef, undef, undef, undef, undef, undef, undef, undef, undef, undef, undef], defers := [] } ∧
    (Chg NoB w0 w)
set_option maxRecDepth 100000 in
set_option maxHeartbeats 8000000 in
theorem alike_any {B : Nat} {W : World} {g : Nat} {F : Nat → Prop} {s p : Value} {K : Dk} {n m : Nat} (hJ : BK B W g F s p K n m) (hm : m ≤ 101) :
    Calls Try.prog 25 #[.pointer (some ⟨g, 0, none⟩), rkV s p K] W fun e w' => e = .returned (.bool true) ∧ Chg NoB W w' := by
  obtain ⟨A1, c1, hs⟩ := own_slice hJ.rk.sure
  obtain ⟨nl, hnl⟩ : ∃ nl, nl = K.loose.length := ⟨_, rfl⟩
  obtain ⟨A2, c2, hp⟩ := own_slice hJ.rk.loose
  rw [← hnl] at hp
  subst hs hp
  have HNUM := Lib.hid hJ.rk.num
  have HN1 := Lib.hid hJ.rk.n1
  have HLO := Lib.hid (show K.loose.length ≤ 1000 from Nat.le_trans hJ.ok.loose (by omega))
  obtain ⟨fu, hfu⟩ : ∃ fu, fu = K.fuse := ⟨_, rfl⟩
  obtain ⟨da, hda⟩ : ∃ da, da = K.dark := ⟨_, rfl⟩
  have HDA := Lib.hid hda
  have HRK := Lib.hid (show rkV (.slice A1 n c1) (.slice A2 nl c2) K = .agg #[.slice A1 n c1, .slice A2 nl c2, .int .i64 fu, .bool da] from by rw [hfu, hda]; rfl)
  rw [HRK.out]
  obtain ⟨wA, hwA⟩ : ∃ wA, wA = W.alloc (.cells #[.slice A1 n c1, .slice A2 nl c2, .int .i64 fu, .bool da] 52) := ⟨_, rfl⟩
  have hcA : Chg NoB W wA := by rw [hwA]; exact (Chg.refl _ _).alloc _
  have hmA : Blk wA W.heap.size 52 #[.slice A1 n c1, .slice A2 nl c2, .int .i64 fu, .bool da] := by rw [hwA]; exact Blk.new W _ _
  have HCA := Lib.hid hcA
  have HMA := Lib.hid hmA
  have HJ := Lib.hid hJ
  have HNL := Lib.hid hnl
  have HD := Lib.hid (hJ.no hcA).di
  clear hfu hda hcA hmA hJ hnl hm
  go_enter Try.func25, Try.ntmps25
  go_upto_region 1 with (fail)
  rw [← hwA]
  clear hwA
  refine wp_region_cl rfl (by kernel_rfl) (InvAl g n nl c1 c2 A1 A2 fu da W wA) ?_ ?_ ?_
  · exact ⟨rfl, (Chg.refl _ _).drew⟩
  ·
    intro D a w i o ho hD hcl hpre hI
    obtain ⟨rfl, h0⟩ := hI
    have hi : i < 25 := by have := (List.getElem?_eq_some_iff.1 ho).1; simpa using this
    rcases (by omega : i = 0 ∨ i = 1 ∨ i = 2 ∨ i = 3 ∨ i = 4 ∨ i = 5 ∨ i = 6 ∨ i = 7 ∨ i = 8 ∨ i = 9 ∨ i = 10 ∨ i = 11 ∨ i = 12 ∨ i = 13 ∨ i = 14 ∨ i = 15 ∨ i = 16 ∨ i = 17 ∨ i = 18 ∨ i = 19 ∨ i = 20 ∨ i = 21 ∨ i = 22 ∨ i = 23 ∨ i = 24) with rfl | rfl | rfl | rfl | rfl | rfl | rfl | rfl | rfl | rfl | rfl | rfl | rfl | rfl | rfl | rfl | rfl | rfl | rfl | rfl | rfl | rfl | rfl | rfl | rfl
    · obtain rfl := Option.some.inj ho
      clear ho hpre hi hcl
      go_wp2_with fail
      unfold AtEnd
      exact ⟨rfl, h0⟩
    · obtain rfl := Option.some.inj ho
      have z0 := hpre ⟨0, .data⟩ (by simp) rfl
      clear ho hpre hi hcl
      go_wp2_with fail
      unfold AtEnd
      exact ⟨by simp only [more, slot_true, slot_false, Nat.reduceEqDiff, ↓reduceIte, z0], h0⟩
    · obtain rfl := Option.some.inj ho
      have z1 := hpre ⟨1, .data⟩ (by simp) rfl
      clear ho hpre hi hcl
      go_wp2_with fail
      unfold AtEnd
      exact ⟨by simp only [more, slot_true, slot_false, Nat.reduceEqDiff, ↓reduceIte, z1], h0⟩
    · obtain rfl := Option.some.inj ho
      have z2 := hpre ⟨2, .guard⟩ (by simp) rfl
      clear ho hpre hi hcl
      go_wp2_with fail
      unfold AtEnd
      exact ⟨by simp only [more, slot_true, slot_false, Nat.reduceEqDiff, ↓reduceIte, z2], h0⟩
    · obtain rfl := Option.some.inj ho
      have z3 := hpre ⟨3, .data⟩ (by simp) rfl
      have z2 := hpre ⟨2, .chain⟩ (by simp) rfl
      clear ho hpre hi hcl
      have hdd := (HD.out.no h0).disk.len_
      have HDD := Lib.hid hdd
      clear hdd
      go_wp2_with fail
      refine HDD.out.mono ?_
      rintro e w5 ⟨rfl, rfl⟩
      rw [HNUM.out]
      go_wp2_with fail
      unfold AtEnd
      exact ⟨by simp only [more, slot_true, slot_false, Nat.reduceEqDiff, ↓reduceIte, z3, z2], h0⟩
    · obtain rfl := Option.some.inj ho
      have z2 := hpre ⟨2, .guard⟩ (by simp) rfl
      clear ho hpre hi hcl
      go_wp2_with fail
      unfold AtEnd
      exact ⟨by simp only [more, slot_true, slot_false, Nat.reduceEqDiff, ↓reduceIte, z2], h0⟩
    · obtain rfl := Option.some.inj ho
      have z5 := hpre ⟨5, .data⟩ (by simp) rfl
      have z2 := hpre ⟨2, .guard⟩ (by simp) rfl
      clear ho hpre hi hcl
      have k0 := (HMA.out.chg h0 (fun h => h)).cell 0
      go_wp2_with fail
      unfold AtEnd
      exact ⟨by simp only [more, slot_true, slot_false, Nat.reduceEqDiff, ↓reduceIte, z5, z2], h0⟩
    · obtain rfl := Option.some.inj ho
      have z6 := hpre ⟨6, .data⟩ (by simp) rfl
      have z2 := hpre ⟨2, .guard⟩ (by simp) rfl
      clear ho hpre hi hcl
      go_wp2_with fail
      unfold AtEnd
      exact ⟨by simp only [more, slot_true, slot_false, Nat.reduceEqDiff, ↓reduceIte, z6, z2], h0⟩
    · obtain rfl := Option.some.inj ho
      have z4 := hpre ⟨4, .data⟩ (by simp) rfl
      have z7 := hpre ⟨7, .data⟩ (by simp) rfl
      have z2 := hpre ⟨2, .guard⟩ (by simp) rfl
      clear ho hpre hi hcl
      go_wp2_with fail
      unfold AtEnd
      exact ⟨by simp only [more, slot_true, slot_false, Nat.reduceEqDiff, ↓reduceIte, z4, z7, z2], h0⟩
    · obtain rfl := Option.some.inj ho
      have z2 := hpre ⟨2, .data⟩ (by simp) rfl
      have z8 := hpre ⟨8, .data⟩ (by simp) rfl
      clear ho hpre hi hcl
      go_wp2_with fail
      unfold AtEnd
      exact ⟨by simp only [more, slot_true, slot_false, Nat.reduceEqDiff, ↓reduceIte, z2, z8], h0⟩
    · obtain rfl := Option.some.inj ho
      have z9 := hpre ⟨9, .data⟩ (by simp) rfl
      have z4 := hpre ⟨4, .chain⟩ (by simp) rfl
      clear ho hpre hi hcl
      go_wp2_with fail
      unfold AtEnd
      exact ⟨by simp only [more, slot_true, slot_false, Nat.reduceEqDiff, ↓reduceIte, z9, z4], h0⟩
    · obtain rfl := Option.some.inj ho
      have z10 := hpre ⟨10, .guard⟩ (by simp) rfl
      clear ho hpre hi hcl
      go_wp2_with fail
      unfold AtEnd
      exact ⟨by simp only [more, slot_true, slot_false, Nat.reduceEqDiff, ↓reduceIte, z10], h0⟩
    · obtain rfl := Option.some.inj ho
      have z11 := hpre ⟨11, .data⟩ (by simp) rfl
      have z10 := hpre ⟨10, .chain⟩ (by simp) rfl
      clear ho hpre hi hcl
      have hdd := (HD.out.no h0).disk.loose_
      have HDD := Lib.hid hdd
      clear hdd
      go_wp2_with fail
      refine HDD.out.mono ?_
      rintro e w5 ⟨rfl, rfl⟩
      rw [← HNL.out]
      go_wp2_with fail
      unfold AtEnd
      exact ⟨by simp only [more, slot_true, slot_false, Nat.reduceEqDiff, ↓reduceIte, z11, z10], h0⟩
    · obtain rfl := Option.some.inj ho
      have z10 := hpre ⟨10, .guard⟩ (by simp) rfl
      clear ho hpre hi hcl
      go_wp2_with fail
      unfold AtEnd
      exact ⟨by simp only [more, slot_true, slot_false, Nat.reduceEqDiff, ↓reduceIte, z10], h0⟩
    · obtain rfl := Option.some.inj ho
      have z13 := hpre ⟨13, .data⟩ (by simp) rfl
      have z10 := hpre ⟨10, .guard⟩ (by simp) rfl
      clear ho hpre hi hcl
      have k0 := (HMA.out.chg h0 (fun h => h)).cell 1
      go_wp2_with fail
      unfold AtEnd
      exact ⟨by simp only [more, slot_true, slot_false, Nat.reduceEqDiff, ↓reduceIte, z13, z10], h0⟩
    · obtain rfl := Option.some.inj ho
      have z14 := hpre ⟨14, .data⟩ (by simp) rfl
      have z10 := hpre ⟨10, .guard⟩ (by simp) rfl
      clear ho hpre hi hcl
      go_wp2_with fail
      unfold AtEnd
      exact ⟨by simp only [more, slot_true, slot_false, Nat.reduceEqDiff, ↓reduceIte, z14, z10], h0⟩
    · obtain rfl := Option.some.inj ho
      have z12 := hpre ⟨12, .data⟩ (by simp) rfl
      have z15 := hpre ⟨15, .data⟩ (by simp) rfl
      have z10 := hpre ⟨10, .guard⟩ (by simp) rfl
      clear ho hpre hi hcl
      go_wp2_with fail
      unfold AtEnd
      exact ⟨by simp only [more, slot_true, slot_false, Nat.reduceEqDiff, ↓reduceIte, z12, z15, z10], h0⟩
    · obtain rfl := Option.some.inj ho
      have z10 := hpre ⟨10, .data⟩ (by simp) rfl
      have z16 := hpre ⟨16, .data⟩ (by simp) rfl
      clear ho hpre hi hcl
      go_wp2_with fail
      unfold AtEnd
      exact ⟨by simp only [more, slot_true, slot_false, Nat.reduceEqDiff, ↓reduceIte, z10, z16], h0⟩
    · obtain rfl := Option.some.inj ho
      have z17 := hpre ⟨17, .data⟩ (by simp) rfl
      have z12 := hpre ⟨12, .chain⟩ (by simp) rfl
      clear ho hpre hi hcl
      go_wp2_with fail
      unfold AtEnd
      exact ⟨by simp only [more, slot_true, slot_false, Nat.reduceEqDiff, ↓reduceIte, z17, z12], h0⟩
    · obtain rfl := Option.some.inj ho
      have z18 := hpre ⟨18, .guard⟩ (by simp) rfl
      clear ho hpre hi hcl
      go_wp2_with fail
      unfold AtEnd
      exact ⟨by simp only [more, slot_true, slot_false, Nat.reduceEqDiff, ↓reduceIte, z18], h0⟩
    · obtain rfl := Option.some.inj ho
      have z19 := hpre ⟨19, .data⟩ (by simp) rfl
      have z18 := hpre ⟨18, .chain⟩ (by simp) rfl
      clear ho hpre hi hcl
      have hdd := (HD.out.no h0).disk.dark_
      have HDD := Lib.hid hdd
      clear hdd
      go_wp2_with fail
      refine HDD.out.mono ?_
      rintro e w5 ⟨rfl, rfl⟩
      rw [← HDA.out]
      go_wp2_with fail
      unfold AtEnd
      exact ⟨by simp only [more, slot_true, slot_false, Nat.reduceEqDiff, ↓reduceIte, z19, z18], h0⟩
    · obtain rfl := Option.some.inj ho
      have z18 := hpre ⟨18, .guard⟩ (by simp) rfl
      clear ho hpre hi hcl
      go_wp2_with fail
      unfold AtEnd
      exact ⟨by simp only [more, slot_true, slot_false, Nat.reduceEqDiff, ↓reduceIte, z18], h0⟩
    · obtain rfl := Option.some.inj ho
      have z21 := hpre ⟨21, .data⟩ (by simp) rfl
      have z18 := hpre ⟨18, .guard⟩ (by simp) rfl
      clear ho hpre hi hcl
      have k0 := (HMA.out.chg h0 (fun h => h)).cell 3
      go_wp2_with fail
      unfold AtEnd
      exact ⟨by simp only [more, slot_true, slot_false, Nat.reduceEqDiff, ↓reduceIte, z21, z18], h0⟩
    · obtain rfl := Option.some.inj ho
      have z20 := hpre ⟨20, .data⟩ (by simp) rfl
      have z22 := hpre ⟨22, .data⟩ (by simp) rfl
      have z18 := hpre ⟨18, .guard⟩ (by simp) rfl
      clear ho hpre hi hcl
      go_wp2_with fail
      unfold AtEnd
      exact ⟨by simp only [more, slot_true, slot_false, Nat.reduceEqDiff, ↓reduceIte, z20, z22, z18], h0⟩
    · obtain rfl := Option.some.inj ho
      have z18 := hpre ⟨18, .data⟩ (by simp) rfl
      have z23 := hpre ⟨23, .data⟩ (by simp) rfl
      clear ho hpre hi hcl
      go_wp2_with fail
      unfold AtEnd
      exact ⟨by simp only [more, slot_true, slot_false, Nat.reduceEqDiff, ↓reduceIte, z18, z23], h0⟩
  · intro D a w hall hI
    obtain ⟨rfl, h0⟩ := hI
    have hch := h0
    have HC1 := Lib.hid (HCA.out.trans hch (fun _ _ h => h))
    have HM1 := Lib.hid (HMA.out.chg hch (fun h => h))
    have z0 := hall 0 (by decide)
    have z1 := hall 1 (by decide)
    have z2 := hall 2 (by decide)
    have z3 := hall 3 (by decide)
    have z4 := hall 4 (by decide)
    have z5 := hall 5 (by decide)
    have z6 := hall 6 (by decide)
    have z7 := hall 7 (by decide)
    have z8 := hall 8 (by decide)
    have z9 := hall 9 (by decide)
    have z10 := hall 10 (by decide)
    have z11 := hall 11 (by decide)
    have z12 := hall 12 (by decide)
    have z13 := hall 13 (by decide)
    have z14 := hall 14 (by decide)
    have z15 := hall 15 (by decide)
    have z16 := hall 16 (by decide)
    have z17 := hall 17 (by decide)
    have z18 := hall 18 (by decide)
    have z19 := hall 19 (by decide)
    have z20 := hall 20 (by decide)
    have z21 := hall 21 (by decide)
    have z22 := hall 22 (by decide)
    have z23 := hall 23 (by decide)
    have z24 := hall 24 (by decide)
    clear hall
    simp only [z0, z1, z2, z3, z4, z5, z6, z7, z8, z9, z10, z11, z12, z13, z14, z15, z16, z17, z18, z19, z20, z21, z22, z23, z24, slot_true]
    clear z0 z1 z2 z3 z4 z5 z6 z7 z8 z9 z10 z11 z12 z13 z14 z15 z16 z17 z18 z19 z20 z21 z22 z23 z24
    obtain ⟨w1, hw1⟩ : ∃ w1, w1 = w := ⟨_, rfl⟩
    rw [← hw1] at HC1 HM1 ⊢
    clear h0 hch hw1
    go_wp2_with fail
    go_loopw [5] (fun i wr => ∃ j : Nat, j ≤ n ∧ i = .int .i64 j ∧ Chg NoB w1 wr) (fun i _ => n - (intOf i).toNat)
    case atStart => exact ⟨0, Nat.zero_le _, rfl, Chg.refl _ _⟩
    case round =>
      obtain ⟨j, hj, rfl, hch⟩ := hrel
      have HCH := Lib.hid hch
      have HC0 := Lib.hid (HC1.out.trans hch (fun _ _ h => h))
      have HMR := Lib.hid (HM1.out.chg hch (fun h => h))
      have k0 := HMR.out.cell 0
      clear hch
      have hn8 := HN1.out
      by_cases hlt : j < n
      · have HLT := Lib.hid hlt
        go_upto_region 6 with (fail)
        clear k0
        go_wp2_with fail
        refine ((HJ.out.no HC0.out).di.disk.read (j : Int)).mono ?_
        rintro e w5 (⟨hne, rfl, rfl⟩ | ⟨heq, ⟨gb, rfl, hgb, hb5⟩, hc5⟩)
        · have HNE := Lib.hid hne
          obtain ⟨e0, he0⟩ : ∃ e0, e0 = readE K (j : Int) := ⟨_, rfl⟩
          have HE0 := Lib.hid he0
          rw [← he0]
          clear hne he0
          go_wp2_with (first
            | (refine wpList_load_row rfl 52 _ rfl W.heap.size rfl 52 _ (0, 0) _ HMR.out Try.underlying52 rfl rd_size ?_)
            | fail)
          have hcall := rread_K K n w5 (HJ.out.rk.no HC0.out) HLO.out HJ.out.ok.now (j : Int)
          rw [HRK.out, ← HE0.out, if_neg (by rw [HE0.out]; exact HNE.out)] at hcall
          refine hcall.mono ?_
          clear hcall
          rintro e w6 ⟨rfl, hc6⟩
          have hst := (RB.none_ (w := w6) (B := w6.heap.size) (A := none)).toStr (n := 0) rfl 0 Try.underlying30 Try.underlying5 Try.underlying9
          rw [show strV [] = .string ⟨#[]⟩ from rfl]
          have HC6 := Lib.hid (HCH.out.trans hc6 (fun _ _ h => h))
          clear hc6
          go_wp2_with fail
          clear hst
          go_roundw
          case rel => exact ⟨j + 1, by omega, by go_num, HC6.out⟩
          case measure => simp [intOf]; omega
        · have HEQ := Lib.hid heq
          have hnl : (K.now (j : Int)).length = 512 := by
            rw [← HJ.out.ok.now]; exact settle_len (f := K.sure) _ _ HJ.out.ok.s5 HJ.out.ok.l5 _
          have HNL5 := Lib.hid hnl
          have HM5 := Lib.hid (HMR.out.chg hc5 (fun h => h))
          have HC5 := Lib.hid (HC0.out.trans hc5 (fun _ _ h => h))
          have HB5 := Lib.hid (show Blk w5 gb 65 (((K.now (j : Int)).map bv).toArray) from hb5)
          have HCH5 := Lib.hid (HCH.out.trans hc5 (fun _ _ h => h))
          obtain ⟨arr, harr⟩ : ∃ arr, arr = (K.now (j : Int)).toArray := ⟨_, rfl⟩
          have HARR := Lib.hid harr
          clear heq hnl hgb hb5 hc5 harr
          go_wp2_with (first
            | (refine wpList_load_row rfl 52 _ rfl W.heap.size rfl 52 _ (0, 0) _ HM5.out Try.underlying52 rfl rd_size ?_)
            | fail)
          have hcall := rread_K K n w5 (HJ.out.rk.no HC5.out) HLO.out HJ.out.ok.now (j : Int)
          rw [HRK.out, if_pos HEQ.out, HEQ.out, show strV (K.now (j : Int)) = .string ⟨arr⟩ from by rw [HARR.out]; rfl] at hcall
          refine hcall.mono ?_
          clear hcall
          rintro e w6 ⟨rfl, hc6⟩
          have hb6 := HB5.out.chg hc6 (fun h => h)
          have hst := (blk_RB hb6).toStr (n := 512) HNL5.out 512 Try.underlying30 Try.underlying5 Try.underlying9
          rw [← HARR.out] at hst
          have HC6 := Lib.hid (HCH5.out.trans hc6 (fun _ _ h => h))
          clear hc6 hb6
          go_wp2_with fail
          clear hst
          go_roundw
          case rel => exact ⟨j + 1, by omega, by go_num, HC6.out⟩
          case measure => simp [intOf]; omega
      · obtain rfl : j = n := by omega
        go_wp2_with fail
        go_ret
        exact ⟨rfl, HC0.out⟩
end Go.Proofs.Ytmkbahhnjobglaa
