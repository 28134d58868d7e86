/-
  A STEP: Copy; the old disk is written and crashed, the copy goes on.
-/
import Derived.Test.YtmkbahhnjobglaaSecStep
namespace Go.Proofs.Ytmkbahhnjobglaa
open Go.RowKit
set_option linter.unusedSimpArgs false
set_option linter.unusedVariables false
def InvS23 (g n nl c1 c2 kn kc cp b6 s7 : Nat) (A1 A2 ka : Option Addr) (fu xi xl e7 : Int) (da : Bool) (xc : UInt8) (W w0 : World) (D : Nat → Bool) (a : Act) (w : World) : Prop :=
  a = { tmps := #[.pointer (some ⟨g, 0, none⟩), .agg #[.slice A1 n c1, .slice A2 nl c2, .int .i64 fu, .bool da], .agg #[.int .i64 5, .int .i64 xi, .int .u8 (xc.toNat : Int), .int .i64 xl, .slice ka kn kc], undef, .pointer (some ⟨W.heap.size, 0, none⟩), .pointer (some ⟨W.heap.size + 1, 0, none⟩), (slot (D 4) (.pointer (some ⟨cp, 0, none⟩)) (.pointer none)), .pointer (some ⟨W.heap.size + 1 + 1, 0, none⟩), (slot (D 6) (.bool true) (.bool false)), undef, undef, undef, undef, undef, undef, undef, .pointer (some ⟨cp, 0, none⟩), undef, undef, undef, undef, undef, undef, .pointer (some ⟨W.heap.size + 1, 0, none⟩), .int .i64 5, .bool false, .bool false, undef, undef, undef, undef, undef, undef, undef, undef, undef, undef, undef, undef, undef, undef, undef, undef, undef, undef, undef, undef, undef, undef, undef, undef, undef, undef, undef, undef, undef, undef, undef, undef, undef, .bool false, .bool false, undef, undef, undef, undef, undef, undef, undef, undef, undef, undef, undef, .bool false, .bool false, undef, undef, undef, undef, undef, undef, undef, undef, undef, .bool false, .bool false, undef, undef, undef, undef, undef, undef, undef, undef, undef, undef, undef, undef, .bool true, .bool true, .pointer (some ⟨g, 0, none⟩), .pointer (some ⟨cp, 0, none⟩), .pointer (some ⟨g, 0, none⟩), .slice (some ⟨b6, 0, none⟩) 512 512, .int .i64 e7, .pointer (some ⟨g, 0, none⟩), .slice (some ⟨s7, 0, none⟩) 3 3, .int .i64 0, (slot (D 0) (.pointer (some ⟨cp, 0, none⟩)) (undef)), (slot (D 1) (.agg #[.slice A1 n c1, .slice A2 nl c2, .int .i64 fu, .bool da]) (undef)), (slot (D 2) (.pointer (some ⟨cp, 0, none⟩)) (undef)), (slot (D 3) (.bool true) (undef)), undef, undef, undef, undef, undef, undef, undef, undef, undef, undef, undef, undef, undef, undef, undef, undef, undef, undef, undef, undef, undef, undef, undef, undef, undef, undef, undef, undef, undef, undef, undef, undef, undef, undef, undef], defers := [] } ∧
    (D 5 = false → Chg NoB w0 w) ∧
    (D 5 = true → Chg (fun b => b = W.heap.size + 2) w0 w ∧ Blk w (W.heap.size + 2) 52 #[.slice A1 n c1, .slice A2 nl c2, .int .i64 fu, .bool da])
set_option maxRecDepth 100000 in
set_option maxHeartbeats 8000000 in
theorem step_copy {B : Nat} {W : World} {g : Nat} {F : Nat → Prop} {s p : Value} {K : Dk} {n m : Nat} (hB : B ≤ W.heap.size) (hJ : BK B W g F s p K n m) (hm : m ≤ 100) (x : ActV) (hkd : x.kind = 5) :
    Calls Try.prog 24 #[.pointer (some ⟨g, 0, none⟩), rkV s p K, actV x] W (StepPost B W F n m) := by
  obtain ⟨A1, c1, hs⟩ := own_slice hJ.rk.sure
  obtain ⟨nl, hnl⟩ : ∃ nl, nl = K.loose.length := ⟨_, rfl⟩
  obtain ⟨A2, c2, hp⟩ := own_slice hJ.rk.loose
  rw [← hnl] at hp
  subst hs hp
  obtain ⟨kd, xi, xc, xl, ka, kn, kc, ks⟩ := x
  obtain rfl : kd = 5 := hkd
  have HB := Lib.hid hB
  have HM := Lib.hid hm
  obtain ⟨fu, hfu⟩ : ∃ fu, fu = K.fuse := ⟨_, rfl⟩
  obtain ⟨da, hda⟩ : ∃ da, da = K.dark := ⟨_, rfl⟩
  have HRK := Lib.hid (show rkV (.slice A1 n c1) (.slice A2 nl c2) K = .agg #[.slice A1 n c1, .slice A2 nl c2, .int .i64 fu, .bool da] from by rw [hfu, hda]; rfl)
  rw [HRK.out]
  unfold actV
  simp only
  obtain ⟨wA, hwA⟩ : ∃ wA, wA = ((W.alloc (.cells #[.slice A1 n c1, .slice A2 nl c2, .int .i64 fu, .bool da] 52)).alloc (.cells #[.int .i64 5, .int .i64 xi, .int .u8 (xc.toNat : Int), .int .i64 xl, .slice ka kn kc] 33)).alloc (.cells #[.slice none 0 0, .slice none 0 0, .int .i64 0, .bool false] 52) := ⟨_, rfl⟩
  have hcA : Chg NoB W wA := by rw [hwA]; exact (((Chg.refl _ _).alloc _).alloc _).alloc _
  have hmA : Blk wA W.heap.size 52 #[.slice A1 n c1, .slice A2 nl c2, .int .i64 fu, .bool da] := by rw [hwA]; exact ((Blk.new W _ _).alloc _).alloc _
  have haA : Blk wA (W.heap.size + 1) 33 #[.int .i64 5, .int .i64 xi, .int .u8 (xc.toNat : Int), .int .i64 xl, .slice ka kn kc] := by
    rw [hwA]
    have h := Blk.new (W.alloc (.cells #[.slice A1 n c1, .slice A2 nl c2, .int .i64 fu, .bool da] 52)) 33 #[.int .i64 5, .int .i64 xi, .int .u8 (xc.toNat : Int), .int .i64 xl, .slice ka kn kc]
    exact Blk.alloc (by simpa using h) _
  have hrA : Blk wA (W.heap.size + 2) 52 #[.slice none 0 0, .slice none 0 0, .int .i64 0, .bool false] := by
    rw [hwA]
    have h := Blk.new ((W.alloc (.cells #[.slice A1 n c1, .slice A2 nl c2, .int .i64 fu, .bool da] 52)).alloc (.cells #[.int .i64 5, .int .i64 xi, .int .u8 (xc.toNat : Int), .int .i64 xl, .slice ka kn kc] 33)) 52 #[.slice none 0 0, .slice none 0 0, .int .i64 0, .bool false]
    simpa using h
  have hsA : wA.heap.size = W.heap.size + 3 := by rw [hwA]; simp
  have HCA := Lib.hid hcA
  have HMA := Lib.hid hmA
  have HAA := Lib.hid haA
  have HRA := Lib.hid hrA
  have HSA := Lib.hid hsA
  have HJ := Lib.hid hJ
  have HNL := Lib.hid hnl
  clear hB hm hfu hda hcA hmA haA hrA hsA hJ hnl
  go_enter Try.func24, Try.ntmps24
  go_upto_region 20 with (fail)
  rw [← hwA]
  clear hwA
  have HLO := Lib.hid (show K.loose.length ≤ 100 from Nat.le_trans HJ.out.ok.loose HM.out)
  go_wp2_with fail
  refine ((HJ.out.no HCA.out).di.copy_ (Nat.le_trans HLO.out (by omega))).mono ?_
  rintro e w5 ⟨cp, F5, rfl, hD5, hc5⟩
  have HD5 := Lib.hid hD5
  have HC5 := Lib.hid hc5
  clear hD5 hc5
  go_wp2_with fail
  refine (filled_512 9 9 rfl w5).mono ?_
  rintro e w6 ⟨b6, rfl, hbl6, hb6, hc6⟩
  have HB6 := Lib.hid (blk_RB hb6)
  have HC6 := Lib.hid (HC5.out.trans hc6 (fun _ _ h => h))
  have HC06 := Lib.hid (HCA.out.trans HC6.out (fun _ _ h => h))
  have HD6 := Lib.hid (HD5.out.no hc6)
  have HS56 := Lib.hid hc6.size
  clear hbl6 hb6 hc6
  go_wp2_with fail
  refine ((HJ.out.no HC06.out).di.write_ (Nat.le_trans HB.out HC06.out.size) 0 512 (fillL_len 9 512) HB6.out (fun ad e => by cases e; rfl) (Nat.le_trans HLO.out (by omega))).mono ?_
  rintro e w7 ⟨rfl, F7, hD7, hc7, hF7⟩
  have HLO7 := Lib.hid (show (K.write 0 (fillL 9 512)).loose.length ≤ 1000 from Nat.le_trans (HJ.out.ok.write_ 0 (fillL 9 512)).loose (by have := HM.out; omega))
  have HD7 := Lib.hid hD7
  have HC7 := Lib.hid hc7
  have HF7 := Lib.hid hF7
  generalize writeE K 0 (fillL 9 512) = e7
  clear hD7 hc7 hF7
  go_wp2_with fail
  have hk8 : IB (w7.alloc (.cells #[.int .i64 1, .int .i64 1, .int .i64 1] 3)) (w7.alloc (.cells #[.int .i64 1, .int .i64 1, .int .i64 1] 3)).heap.size (some ⟨w7.heap.size, 0, none⟩) [1, 1, 1] := by
    refine ⟨rfl, fun _ => ⟨_, rfl, by simp, fun j u hu => ?_⟩⟩
    have ha : (⟨w7.heap.size, 0, none⟩ : Addr).add j = ⟨w7.heap.size, j, none⟩ := by unfold Addr.add; split <;> simp_all
    rw [ha, (Blk.new w7 3 #[.int .i64 1, .int .i64 1, .int .i64 1]).cell j, ← hu]; simp
  have hc8 : Chg NoB w7 (w7.alloc (.cells #[.int .i64 1, .int .i64 1, .int .i64 1] 3)) := (Chg.refl _ _).alloc _
  have hS7 : B ≤ w7.heap.size := Nat.le_trans HB.out (Nat.le_trans HC06.out.size HC7.out.size)
  refine ((HD7.out.no hc8).crash_ (Nat.le_trans hS7 hc8.size) HLO7.out 3 rfl hk8 (fun h => by cases h) (fun _ ad e h => by cases e; have h1 : w7.heap.size < w7.heap.size := (HD7.out.rng _ h).2; omega) (fun k hk => by simp at hk; omega)).mono ?_
  rintro e w8 ⟨rfl, F8, hD8, hc8', hF8⟩
  have hF6 : ∀ i, F7 i → i < w6.heap.size → F i := fun i hi hlt => (HF7.out i hi).elim id (fun h => by omega)
  have h78 : Chg F7 w7 w8 := Chg.trans (S := F7) (hc8.mono (fun _ _ h => h.elim)) hc8' (fun _ _ h => h)
  have h68 : Chg F w6 w8 := HC7.out.trans h78 (fun i hi h => hF6 i h hi)
  have h08 : Chg F W w8 := Chg.trans (S := F) (T := F) (HC06.out.mono (fun _ _ h => h.elim)) h68 (fun _ _ h => h)
  have HF0 := Lib.hid (show ∀ b, F b → b < W.heap.size from fun b hb => (HJ.out.di.rng b hb).2)
  have hSA := HSA.out
  have HC08 := Lib.hid h08
  have HM8 := Lib.hid ((HMA.out.chg HC6.out (fun h => h)).chg h68 (fun h => by have := HF0.out _ h; omega))
  have HR8 := Lib.hid ((HRA.out.chg HC6.out (fun h => h)).chg h68 (fun h => by have := HF0.out _ h; omega))
  have hdi8 : DI wA.heap.size w8 cp K F5 := HD6.out.chg h68 (fun i hi hf => by have h1 := HF0.out i hf; have h2 := (HD6.out.rng i hi).1; omega)
  have hbk : BK B w8 cp F5 (.slice A1 n c1) (.slice A2 nl c2) K n (m + 1) := ⟨⟨hdi8.disk, fun i hi => ⟨Nat.le_trans HB.out (by have := (hdi8.rng i hi).1; omega), (hdi8.rng i hi).2⟩⟩, (HJ.out.rk.no HC06.out).chg h68 HJ.out.apart, fun b hb hf => by have h1 := HJ.out.rk.lt b hb; have h2 := (hdi8.rng b hf).1; omega, HJ.out.ok.more (by omega)⟩
  have HBK := Lib.hid hbk
  have HF5 := Lib.hid (show ∀ i, F5 i → wA.heap.size ≤ i from fun i hi => (hdi8.rng i hi).1)
  clear hk8 hc8 hS7 hD8 hc8' hF8 hF6 h78 h68 h08 hSA hdi8 hbk
  go_wp2_with fail
  refine wp_region_cl rfl (by kernel_rfl) (InvS23 g n nl c1 c2 kn kc cp b6 w7.heap.size A1 A2 ka fu xi xl e7 da xc W w8) ?_ ?_ ?_
  · exact ⟨rfl, fun _ => (Chg.refl _ _).drew, (fun h => by cases h)⟩
  ·
    intro D a w i o ho hD hcl hpre hI
    obtain ⟨rfl, h0, h5⟩ := hI
    have hi : i < 7 := by have := (List.getElem?_eq_some_iff.1 ho).1; simpa using this
    rcases (by omega : i = 0 ∨ i = 1 ∨ i = 2 ∨ i = 3 ∨ i = 4 ∨ i = 5 ∨ i = 6) with rfl | rfl | rfl | rfl | rfl | rfl | rfl
    · obtain rfl := Option.some.inj ho
      clear ho hpre hi hcl
      go_wp2_with fail
      unfold AtEnd
      exact ⟨rfl, fun h => h0 (by simpa [more] using h), fun h => h5 (by simpa [more] using h)⟩
    · obtain rfl := Option.some.inj ho
      have d5 : D 5 = false := (hcl.not_ 5 _ rfl 0 _ rfl rfl hD)
      clear ho hpre hi hcl
      have hb := HM8.out.chg (h0 d5) (fun h => h)
      go_wp2_with (first
        | (refine wpList_load_row rfl 52 _ rfl W.heap.size rfl 52 _ (0, 0) _ hb Try.underlying52 rfl rd_size ?_)
        | fail)
      unfold AtEnd
      exact ⟨by simp only [more, slot_true, slot_false, Nat.reduceEqDiff, ↓reduceIte, d5], fun h => h0 (by simpa [more] using h), fun h => h5 (by simpa [more] using h)⟩
    · obtain rfl := Option.some.inj ho
      clear ho hpre hi hcl
      go_wp2_with fail
      unfold AtEnd
      exact ⟨rfl, fun h => h0 (by simpa [more] using h), fun h => h5 (by simpa [more] using h)⟩
    · obtain rfl := Option.some.inj ho
      have z2 := hpre ⟨2, .data⟩ (by simp) rfl
      clear ho hpre hi hcl
      go_wp2_with fail
      unfold AtEnd
      exact ⟨by simp only [more, slot_true, slot_false, Nat.reduceEqDiff, ↓reduceIte, z2], fun h => h0 (by simpa [more] using h), fun h => h5 (by simpa [more] using h)⟩
    · obtain rfl := Option.some.inj ho
      have z0 := hpre ⟨0, .data⟩ (by simp) rfl
      clear ho hpre hi hcl
      go_wp2_with fail
      unfold AtEnd
      exact ⟨by simp only [more, slot_true, slot_false, Nat.reduceEqDiff, ↓reduceIte, z0], fun h => h0 (by simpa [more] using h), fun h => h5 (by simpa [more] using h)⟩
    · obtain rfl := Option.some.inj ho
      have z1 := hpre ⟨1, .data⟩ (by simp) rfl
      have z4 := hpre ⟨4, .chain⟩ (by simp) rfl
      clear ho hpre hi hcl
      have hcw := h0 hD
      have HBR := Lib.hid (HR8.out.chg hcw (fun h => h))
      have HCW := Lib.hid hcw
      clear h0 h5 hcw
      simp only [z1, slot_true]
      go_wp2_with (first
        | (refine wpList_store_blk rfl 52 _ _ rfl (W.heap.size + 2) _ rfl rfl 52 _ HBR.out rfl rd_size (by simp [Value.oneCell']) ?_)
        | fail)
      unfold AtEnd
      exact ⟨by simp only [more, slot_true, slot_false, Nat.reduceEqDiff, ↓reduceIte, z1, z4], fun h => by simp [more] at h, fun _ => ⟨(Chg.mono (S := NoB) (T := fun b => b = W.heap.size + 2) HCW.out (fun _ _ h => h.elim)).setRow (g := W.heap.size + 2) (.inl rfl) _, HBR.out.row _⟩⟩
    · obtain rfl := Option.some.inj ho
      have z3 := hpre ⟨3, .data⟩ (by simp) rfl
      have z5 := hpre ⟨5, .chain⟩ (by simp) rfl
      clear ho hpre hi hcl
      go_wp2_with fail
      unfold AtEnd
      exact ⟨by simp only [more, slot_true, slot_false, Nat.reduceEqDiff, ↓reduceIte, z3, z5], fun h => h0 (by simpa [more] using h), fun h => h5 (by simpa [more] using h)⟩
  · intro D a w hall hI
    obtain ⟨rfl, h0, h5⟩ := hI
    obtain ⟨hcF, hbr⟩ := h5 (hall 5 (by decide))
    have HCF := Lib.hid hcF
    have HBR := Lib.hid hbr
    have z4 := hall 4 (by decide)
    have z6 := hall 6 (by decide)
    clear h0 h5 hcF hbr hall
    simp only [z4, z6, slot_true]
    go_wp2_with fail
    try simp only [Exit.inBlock, Exit.then]
    refine bodyPost_ret (rd_ret3 rfl _ _ (W.heap.size + 2) 52 _ _ _ _ rfl HBR.out) rfl ⟨cp, F5, _, _, K, ?_, HBK.out.chg HCF.out (fun i hi h => ?_) (fun i hi h => ?_), HC08.out.trans HCF.out (fun i hi h => by have h1 : i = W.heap.size + 2 := h; omega), fun i hi => .inr (by have h2 := HF5.out i hi; have h3 := HSA.out; omega)⟩
    · rw [HRK.out]; rfl
    · have h1 : i = W.heap.size + 2 := h
      have h2 := HF5.out i hi
      have h3 := HSA.out
      omega
    · have h1 : i = W.heap.size + 2 := h
      have h2 := HJ.out.rk.lt i hi
      omega
end Go.Proofs.Ytmkbahhnjobglaa
