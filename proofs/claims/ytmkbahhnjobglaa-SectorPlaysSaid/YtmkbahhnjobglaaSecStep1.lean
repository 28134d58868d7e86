/-
  A STEP: Write.
-/
import Derived.Test.YtmkbahhnjobglaaSecStep
namespace Go.Proofs.Ytmkbahhnjobglaa
open Go.RowKit
set_option linter.unusedSimpArgs false
set_option linter.unusedVariables false
def InvS10 (g n nl c1 c2 kn kc gb NN s6 n6 c6 : Nat) (A1 A2 A6 ka : Option Addr) (fu f6 xi xl e0 : Int) (da d6 : Bool) (xc : UInt8) (arr : Array UInt8) (u50 u51 u52 u53 u54 : Value) (W w0 : World) (D : Nat → Bool) (a : Act) (w : World) : Prop :=
  a = { tmps := #[.pointer (some ⟨g, 0, none⟩), .agg #[.slice A1 n c1, .slice A2 nl c2, .int .i64 fu, .bool da], .agg #[.int .i64 1, .int .i64 xi, .int .u8 (xc.toNat : Int), .int .i64 xl, .slice ka kn kc], undef, .pointer (some ⟨W.heap.size, 0, none⟩), .pointer (some ⟨W.heap.size + 1, 0, none⟩), (slot (D 5) (.pointer (some ⟨g, 0, none⟩)) (.pointer none)), .pointer (some ⟨W.heap.size + 1 + 1, 0, none⟩), (slot (D 7) (.bool true) (.bool false)), .slice (some ⟨gb, 0, none⟩) NN NN, .pointer (some ⟨s6, 0, none⟩), .int .i64 e0, .int .i64 e0, .int .i64 (NN : Int), undef, undef, undef, undef, undef, undef, undef, undef, undef, .pointer (some ⟨W.heap.size + 1, 0, none⟩), .int .i64 1, .bool true, .bool true, .pointer (some ⟨W.heap.size + 1, 2, none⟩), .int .u8 (xc.toNat : Int), .pointer (some ⟨W.heap.size + 1, 3, none⟩), .int .i64 xl, .slice (some ⟨gb, 0, none⟩) NN NN, .tuple #[.agg #[.slice A1 n c1, .slice A6 n6 c6, .int .i64 f6, .bool d6], .int .i64 e0], .agg #[.slice A1 n c1, .slice A2 nl c2, .int .i64 fu, .bool da], .pointer (some ⟨W.heap.size + 1, 1, none⟩), .int .i64 xi, .slice (some ⟨gb, 0, none⟩) NN NN, .string ⟨arr⟩, .tuple #[.agg #[.slice A1 n c1, .slice A6 n6 c6, .int .i64 f6, .bool d6], .int .i64 e0], .agg #[.slice A1 n c1, .slice A6 n6 c6, .int .i64 f6, .bool d6], .int .i64 e0, .pointer (some ⟨g, 0, none⟩), .pointer (some ⟨W.heap.size + 1, 1, none⟩), .int .i64 xi, .slice (some ⟨gb, 0, none⟩) NN NN, .int .i64 e0, .int .i64 (NN : Int), .slice (some ⟨gb, 0, none⟩) NN NN, .int .i64 (NN : Int), .bool false, u50, u51, u52, u53, u54, (slot (D 0) (.pointer (some ⟨g, 0, none⟩)) (undef)), (slot (D 1) (.agg #[.slice A1 n c1, .slice A6 n6 c6, .int .i64 f6, .bool d6]) (undef)), (slot (D 2) (.int .i64 e0) (undef)), (slot (D 3) (.int .i64 e0) (undef)), (slot (D 4) (.bool true) (undef)), undef, undef, undef, undef, undef, undef, undef, undef, undef, undef, undef, undef, undef, undef, undef, undef, undef, undef, undef, undef, undef, undef, undef, undef, undef, undef, undef, undef, undef, undef, undef, undef, undef, undef, undef, undef, undef, undef, undef, undef, undef, undef, undef, undef, undef, undef, undef, undef, undef, undef, undef, undef, undef, undef, undef, undef, undef, undef, undef, undef, undef, undef, undef, undef, undef, undef, undef, undef, undef, undef, undef, undef, undef, undef, undef, undef, undef, undef, undef, undef, undef, undef, undef, undef, undef, undef, undef], defers := [] } ∧
    (D 6 = false → Chg NoB w0 w) ∧
    (D 6 = true → Chg (fun b => b = W.heap.size + 2) w0 w ∧ Blk w (W.heap.size + 2) 52 #[.slice A1 n c1, .slice A6 n6 c6, .int .i64 f6, .bool d6])
set_option maxRecDepth 100000 in
set_option maxHeartbeats 8000000 in
theorem step_write {B : Nat} {W : World} {g : Nat} {F : Nat → Prop} {s p : Value} {K : Dk} {n m : Nat} (hB : B ≤ W.heap.size) (hJ : BK B W g F s p K n m) (hm : m ≤ 100) (x : ActV) (hkd : x.kind = 1) :
    Calls Try.prog 24 #[.pointer (some ⟨g, 0, none⟩), rkV s p K, actV x] W (StepPost B W F n m) := by
  obtain ⟨A1, c1, hs⟩ := own_slice hJ.rk.sure
  obtain ⟨nl, hnl⟩ : ∃ nl, nl = K.loose.length := ⟨_, rfl⟩
  obtain ⟨A2, c2, hp⟩ := own_slice hJ.rk.loose
  rw [← hnl] at hp
  subst hs hp
  obtain ⟨kd, xi, xc, xl, ka, kn, kc, ks⟩ := x
  obtain rfl : kd = 1 := hkd
  have HB := Lib.hid hB
  have HM := Lib.hid hm
  obtain ⟨fu, hfu⟩ : ∃ fu, fu = K.fuse := ⟨_, rfl⟩
  obtain ⟨da, hda⟩ : ∃ da, da = K.dark := ⟨_, rfl⟩
  have HRK := Lib.hid (show rkV (.slice A1 n c1) (.slice A2 nl c2) K = .agg #[.slice A1 n c1, .slice A2 nl c2, .int .i64 fu, .bool da] from by rw [hfu, hda]; rfl)
  rw [HRK.out]
  unfold actV
  simp only
  obtain ⟨wA, hwA⟩ : ∃ wA, wA = ((W.alloc (.cells #[.slice A1 n c1, .slice A2 nl c2, .int .i64 fu, .bool da] 52)).alloc (.cells #[.int .i64 1, .int .i64 xi, .int .u8 (xc.toNat : Int), .int .i64 xl, .slice ka kn kc] 33)).alloc (.cells #[.slice none 0 0, .slice none 0 0, .int .i64 0, .bool false] 52) := ⟨_, rfl⟩
  have hcA : Chg NoB W wA := by rw [hwA]; exact (((Chg.refl _ _).alloc _).alloc _).alloc _
  have hmA : Blk wA W.heap.size 52 #[.slice A1 n c1, .slice A2 nl c2, .int .i64 fu, .bool da] := by rw [hwA]; exact ((Blk.new W _ _).alloc _).alloc _
  have haA : Blk wA (W.heap.size + 1) 33 #[.int .i64 1, .int .i64 xi, .int .u8 (xc.toNat : Int), .int .i64 xl, .slice ka kn kc] := by
    rw [hwA]
    have h := Blk.new (W.alloc (.cells #[.slice A1 n c1, .slice A2 nl c2, .int .i64 fu, .bool da] 52)) 33 #[.int .i64 1, .int .i64 xi, .int .u8 (xc.toNat : Int), .int .i64 xl, .slice ka kn kc]
    exact Blk.alloc (by simpa using h) _
  have hrA : Blk wA (W.heap.size + 2) 52 #[.slice none 0 0, .slice none 0 0, .int .i64 0, .bool false] := by
    rw [hwA]
    have h := Blk.new ((W.alloc (.cells #[.slice A1 n c1, .slice A2 nl c2, .int .i64 fu, .bool da] 52)).alloc (.cells #[.int .i64 1, .int .i64 xi, .int .u8 (xc.toNat : Int), .int .i64 xl, .slice ka kn kc] 33)) 52 #[.slice none 0 0, .slice none 0 0, .int .i64 0, .bool false]
    simpa using h
  have hsA : wA.heap.size = W.heap.size + 3 := by rw [hwA]; simp
  have HCA := Lib.hid hcA
  have HMA := Lib.hid hmA
  have HAA := Lib.hid haA
  have HRA := Lib.hid hrA
  have HSA := Lib.hid hsA
  have HJ := Lib.hid hJ
  have HNL := Lib.hid hnl
  clear hB hm hfu hda hcA hmA haA hrA hsA hJ hnl
  go_enter Try.func24, Try.ntmps24
  go_upto_region 3 with (fail)
  rw [← hwA]
  clear hwA
  have HLO := Lib.hid (show K.loose.length ≤ 100 from Nat.le_trans HJ.out.ok.loose HM.out)
  have k2 := HAA.out.cell 2
  have k3 := HAA.out.cell 3
  go_wp2_with fail
  have hfl := filled_any xc xl wA
  obtain ⟨NN, hNN⟩ : ∃ NN, NN = fillN xl := ⟨_, rfl⟩
  rw [← hNN] at hfl
  have HNN := Lib.hid (show NN ≤ 514 from by rw [hNN]; unfold fillN; split <;> omega)
  have HFL := Lib.hid hfl
  clear hfl hNN k2 k3
  refine HFL.out.mono ?_
  rintro e w5 ⟨gb, rfl, hgb, hb5, hc5⟩
  have HBS := Lib.hid (show ((fillL xc NN).map bv).toArray.size = NN from by simp [fillL_len])
  have hst := (blk_RB hb5).toStr (n := NN) (fillL_len xc NN) NN Try.underlying30 Try.underlying5 Try.underlying9
  obtain ⟨arr, harr⟩ : ∃ arr, arr = (fillL xc NN).toArray := ⟨_, rfl⟩
  rw [← harr] at hst
  have HARR := Lib.hid harr
  have ha5 := HAA.out.chg hc5 (fun h => h)
  have k1 := ha5.cell 1
  have HM5 := Lib.hid (HMA.out.chg hc5 (fun h => h))
  have HB5 := Lib.hid hb5
  have HA5 := Lib.hid ha5
  have HGB := Lib.hid (show W.heap.size + 3 ≤ gb from by have := HSA.out; omega)
  have HC5 := Lib.hid (HCA.out.trans hc5 (fun _ _ h => h))
  have HR5 := Lib.hid (HRA.out.chg hc5 (fun h => h))
  clear hgb hb5 hc5 harr ha5 HMA HAA
  go_wp2_with (first
    | (refine wpList_load_row rfl 52 _ rfl W.heap.size rfl 52 _ (0, 0) _ HM5.out Try.underlying52 rfl rd_size ?_)
    | fail)
  have hcall := rwrite_any K n w5 (HJ.out.rk.no HC5.out) (Nat.le_trans HLO.out (by omega)) xi (fillL xc NN) (by rw [fillL_len]; have := HNN.out; omega)
  rw [HRK.out, show strV (fillL xc NN) = .string ⟨arr⟩ from by rw [HARR.out]; rfl] at hcall
  refine hcall.mono ?_
  clear hcall
  rintro e w6 ⟨p6, rfl, hr6, hw6, hc6⟩
  obtain ⟨K6, hK6⟩ : ∃ K6, K6 = K.write xi (fillL xc NN) := ⟨_, rfl⟩
  obtain ⟨e0, he0⟩ : ∃ e0, e0 = writeE K xi (fillL xc NN) := ⟨_, rfl⟩
  have HOK := Lib.hid (show KOk K6 (m + 1) from by rw [hK6]; exact HJ.out.ok.write_ _ _)
  rw [← hK6] at hr6 ⊢
  rw [← he0]
  have HK6 := Lib.hid hK6
  have HE0 := Lib.hid he0
  obtain ⟨n6, hn6⟩ : ∃ n6, n6 = K6.loose.length := ⟨_, rfl⟩
  obtain ⟨A6, c6, hp6⟩ := own_slice hr6.loose
  rw [← hn6] at hp6
  subst hp6
  obtain ⟨f6, hf6⟩ : ∃ f6, f6 = K6.fuse := ⟨_, rfl⟩
  obtain ⟨d6, hd6⟩ : ∃ d6, d6 = K6.dark := ⟨_, rfl⟩
  have HRK6 := Lib.hid (show rkV (.slice A1 n c1) (.slice A6 n6 c6) K6 = .agg #[.slice A1 n c1, .slice A6 n6 c6, .int .i64 f6, .bool d6] from by rw [hf6, hd6]; rfl)
  rw [HRK6.out]
  have HR6 := Lib.hid hr6
  have HW6 := Lib.hid hw6
  have HC6 := Lib.hid hc6
  clear hn6 hf6 hd6 hr6 hw6 hc6 hK6 he0 hst k1
  go_upto_region 5 with (first
    | (refine wpList_store_blk rfl 52 _ _ rfl w6.heap.size _ rfl rfl 52 _ (Blk.new w6 _ _) rfl rd_size (by simp [Value.oneCell']) ?_)
    | fail)
  have hb10 := (Blk.new w6 52 #[.slice none 0 0, .slice none 0 0, .int .i64 0, .bool false]).row #[.slice A1 n c1, .slice A6 n6 c6, .int .i64 f6, .bool d6]
  have hc7 : Chg NoB w6 ((w6.alloc (.cells #[.slice none 0 0, .slice none 0 0, .int .i64 0, .bool false] 52)).setRow w6.heap.size #[.slice A1 n c1, .slice A6 n6 c6, .int .i64 f6, .bool d6]) := ((Chg.refl NoB w6).alloc _).setRow (.inr (Nat.le_refl _)) _
  generalize hw7 : (w6.alloc (.cells #[.slice none 0 0, .slice none 0 0, .int .i64 0, .bool false] 52)).setRow w6.heap.size #[.slice A1 n c1, .slice A6 n6 c6, .int .i64 f6, .bool d6] = w7 at hb10 hc7 ⊢
  have HB10 := Lib.hid hb10
  have HC57 := Lib.hid (HC6.out.trans hc7 (fun _ _ h => h))
  have HC07 := Lib.hid (HC5.out.trans HC57.out (fun _ _ h => h))
  have hb7 := HB5.out.chg HC57.out (fun h => h)
  have HB7 := Lib.hid hb7
  have HRB7 := Lib.hid (blk_RB hb7)
  have HR7 := Lib.hid (HR5.out.chg HC57.out (fun h => h))
  have k1 := (HA5.out.chg HC57.out (fun h => h)).cell 1
  have HK7 := Lib.hid (HR6.out.no hc7)
  clear hw7 hb10 hc7 hb7
  go_wp2_with fail
  refine ((HJ.out.no HC07.out).di.write_ (Nat.le_trans HB.out HC07.out.size) xi NN (fillL_len xc NN) HRB7.out (fun ad e => by cases e; rfl) (Nat.le_trans HLO.out (by omega))).mono ?_
  rintro e w8 ⟨rfl, hp8⟩
  rw [← HE0.out]
  rw [← HK6.out] at hp8
  obtain ⟨F8, hbk8, hc8, hF8⟩ := HJ.out.next HK7.out (fun b hb => (HW6.out b hb).imp id (fun h => Nat.le_trans HC5.out.size h)) HC07.out.size hp8 HOK.out
  have HF0 := Lib.hid (show ∀ b, F b → b < W.heap.size from fun b hb => (HJ.out.di.rng b hb).2)
  have HBK8 := Lib.hid hbk8
  have HF8 := Lib.hid hF8
  have HC08 := Lib.hid (Chg.trans (S := F) (T := F) (HC07.out.mono (fun _ _ h => h.elim)) hc8 (fun _ _ h => h))
  have HB8 := Lib.hid (HB7.out.chg hc8 (fun h => by have h1 := HF0.out _ h; have h2 := HGB.out; omega))
  have HR8 := Lib.hid (HR7.out.chg hc8 (fun h => by have h1 := HF0.out _ h; omega))
  have HW56 := Lib.hid (show W.heap.size + 3 ≤ w5.heap.size ∧ w5.heap.size ≤ w6.heap.size ∧ gb < w5.heap.size from ⟨by have h1 := HB5.out.lt; have h2 := HGB.out; omega, HC6.out.size, HB5.out.lt⟩)
  have HX10 := Lib.hid (HB10.out.chg hc8 (fun h => by have h1 := HF0.out _ h; have h2 := HW56.out; omega))
  have HW7 := Lib.hid (show w6.heap.size < w7.heap.size from HB10.out.lt)
  clear hp8 hbk8 hc8 hF8 k1
  go_wp2_with fail
  go_loopw [13] (fun i wr => ∃ j : Nat, j ≤ NN ∧ i = .int .i64 j ∧ (∃ cs, Blk wr gb 5 cs ∧ cs.size = NN) ∧ Chg (fun b => b = gb) w8 wr) (fun i _ => NN - (intOf i).toNat)
  case atStart => exact ⟨0, Nat.zero_le _, rfl, ⟨_, HB8.out, HBS.out⟩, Chg.refl _ _⟩
  case round =>
    obtain ⟨j, hj, rfl, ⟨cs, hb, hsz⟩, hch⟩ := hrel
    have HCH := Lib.hid hch
    have hNN := HNN.out
    by_cases hlt : j < NN
    · have k0 := hb.cell j
      rw [Array.getElem?_eq_getElem (by omega)] at k0
      have kf := hb.frozen j
      have HBB := Lib.hid hb
      clear hb hch
      go_wp2_with fail
      go_roundw
      case rel => exact ⟨j + 1, by omega, by go_num, ⟨_, HBB.out.set_ j _, by simpa using hsz⟩, HCH.out.setCell (.inl rfl) _⟩
      case measure => simp [intOf]; omega
    · obtain rfl : j = NN := by omega
      clear hb hsz hch hlt
      go_wp2_with fail
      have HXR := Lib.hid (HX10.out.chg HCH.out (fun h => by have h1 := HW56.out; omega))
      have HRR := Lib.hid (HR8.out.chg HCH.out (fun h => by have h1 := HGB.out; omega))
      refine wp_region_cl rfl (by kernel_rfl) (InvS10 g n nl c1 c2 kn kc gb j w6.heap.size n6 c6 A1 A2 A6 ka fu f6 xi xl e0 da d6 xc arr u50 u51 u52 u53 u54 W wr) ?_ ?_ ?_
      · exact ⟨rfl, fun _ => (Chg.refl _ _).drew, (fun h => by cases h)⟩
      ·
        intro D a w i o ho hD hcl hpre hI
        obtain ⟨rfl, h0, h6⟩ := hI
        have hi : i < 8 := by have := (List.getElem?_eq_some_iff.1 ho).1; simpa using this
        rcases (by omega : i = 0 ∨ i = 1 ∨ i = 2 ∨ i = 3 ∨ i = 4 ∨ i = 5 ∨ i = 6 ∨ i = 7) with rfl | rfl | rfl | rfl | rfl | rfl | rfl | rfl
        · obtain rfl := Option.some.inj ho
          clear ho hpre hi hcl
          go_wp2_with fail
          unfold AtEnd
          exact ⟨rfl, fun h => h0 (by simpa [more] using h), fun h => h6 (by simpa [more] using h)⟩
        · obtain rfl := Option.some.inj ho
          have d6 : D 6 = false := (hcl.not_ 6 _ rfl 0 _ rfl rfl hD)
          clear ho hpre hi hcl
          have hb := HXR.out.chg (h0 d6) (fun h => h)
          go_wp2_with (first
            | (refine wpList_load_row rfl 52 _ rfl w6.heap.size rfl 52 _ (0, 0) _ hb Try.underlying52 rfl rd_size ?_)
            | fail)
          unfold AtEnd
          exact ⟨by simp only [more, slot_true, slot_false, Nat.reduceEqDiff, ↓reduceIte, d6], fun h => h0 (by simpa [more] using h), fun h => h6 (by simpa [more] using h)⟩
        · obtain rfl := Option.some.inj ho
          clear ho hpre hi hcl
          go_wp2_with fail
          unfold AtEnd
          exact ⟨rfl, fun h => h0 (by simpa [more] using h), fun h => h6 (by simpa [more] using h)⟩
        · obtain rfl := Option.some.inj ho
          clear ho hpre hi hcl
          go_wp2_with fail
          unfold AtEnd
          exact ⟨rfl, fun h => h0 (by simpa [more] using h), fun h => h6 (by simpa [more] using h)⟩
        · obtain rfl := Option.some.inj ho
          have z2 := hpre ⟨2, .data⟩ (by simp) rfl
          have z3 := hpre ⟨3, .data⟩ (by simp) rfl
          clear ho hpre hi hcl
          go_wp2_with fail
          unfold AtEnd
          exact ⟨by simp only [more, slot_true, slot_false, Nat.reduceEqDiff, ↓reduceIte, z2, z3], fun h => h0 (by simpa [more] using h), fun h => h6 (by simpa [more] using h)⟩
        · obtain rfl := Option.some.inj ho
          have z0 := hpre ⟨0, .data⟩ (by simp) rfl
          clear ho hpre hi hcl
          go_wp2_with fail
          unfold AtEnd
          exact ⟨by simp only [more, slot_true, slot_false, Nat.reduceEqDiff, ↓reduceIte, z0], fun h => h0 (by simpa [more] using h), fun h => h6 (by simpa [more] using h)⟩
        · obtain rfl := Option.some.inj ho
          have z1 := hpre ⟨1, .data⟩ (by simp) rfl
          have z5 := hpre ⟨5, .chain⟩ (by simp) rfl
          clear ho hpre hi hcl
          have hcw := h0 hD
          have HBR := Lib.hid (HRR.out.chg hcw (fun h => h))
          have HCW := Lib.hid hcw
          clear h0 h6 hcw
          simp only [z1, slot_true]
          go_wp2_with (first
            | (refine wpList_store_blk rfl 52 _ _ rfl (W.heap.size + 2) _ rfl rfl 52 _ HBR.out rfl rd_size (by simp [Value.oneCell']) ?_)
            | fail)
          unfold AtEnd
          exact ⟨by simp only [more, slot_true, slot_false, Nat.reduceEqDiff, ↓reduceIte, z1, z5], fun h => by simp [more] at h, fun _ => ⟨(Chg.mono (S := NoB) (T := fun b => b = W.heap.size + 2) HCW.out (fun _ _ h => h.elim)).setRow (g := W.heap.size + 2) (.inl rfl) _, HBR.out.row _⟩⟩
        · obtain rfl := Option.some.inj ho
          have z4 := hpre ⟨4, .data⟩ (by simp) rfl
          have z6 := hpre ⟨6, .chain⟩ (by simp) rfl
          clear ho hpre hi hcl
          go_wp2_with fail
          unfold AtEnd
          exact ⟨by simp only [more, slot_true, slot_false, Nat.reduceEqDiff, ↓reduceIte, z4, z6], fun h => h0 (by simpa [more] using h), fun h => h6 (by simpa [more] using h)⟩
      · intro D a w hall hI
        obtain ⟨rfl, h0, h6⟩ := hI
        obtain ⟨hcF, hbr⟩ := h6 (hall 6 (by decide))
        have HCF := Lib.hid hcF
        have HBR := Lib.hid hbr
        have z5 := hall 5 (by decide)
        have z7 := hall 7 (by decide)
        clear h0 h6 hcF hbr hall
        simp only [z5, z7, slot_true]
        go_wp2_with fail
        try simp only [Exit.inBlock, Exit.then]
        refine bodyPost_ret (rd_ret3 rfl _ _ (W.heap.size + 2) 52 _ _ _ _ rfl HBR.out) rfl ⟨g, F8, _, _, K6, ?_, (HBK8.out.chg HCH.out (fun i hi h => ?_) (fun i hi h => ?_)).chg HCF.out (fun i hi h => ?_) (fun i hi h => ?_), (HC08.out.trans HCH.out (fun i hi h => by have h1 : i = gb := h; have := HGB.out; omega)).trans HCF.out (fun i hi h => by have h1 : i = W.heap.size + 2 := h; omega), fun i hi => (HF8.out i hi).imp id (fun h => by have h2 := HW56.out; have h4 := HW7.out; omega)⟩
        · rw [HRK6.out]; rfl
        all_goals
          have h2 := HW56.out
          have h3 := HGB.out
          have h4 := HW7.out
        · have h1 : i = gb := h
          exact (HF8.out i hi).elim (fun hf => by have := HF0.out i hf; omega) (fun h8 => by omega)
        · have h1 : i = gb := h
          exact (HW6.out i hi).elim (fun hf => by have := HJ.out.rk.lt i hf; omega) (fun h8 => by omega)
        · have h1 : i = W.heap.size + 2 := h
          exact (HF8.out i hi).elim (fun hf => by have := HF0.out i hf; omega) (fun h8 => by omega)
        · have h1 : i = W.heap.size + 2 := h
          exact (HW6.out i hi).elim (fun hf => by have := HJ.out.rk.lt i hf; omega) (fun h8 => by omega)
end Go.Proofs.Ytmkbahhnjobglaa
