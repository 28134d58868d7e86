/-
  A STEP: Sync.
-/
import Derived.Test.YtmkbahhnjobglaaSecStep
namespace Go.Proofs.Ytmkbahhnjobglaa
open Go.RowKit
set_option linter.unusedSimpArgs false
set_option linter.unusedVariables false
def InvS13 (B g n m nl c1 c2 kn kc c5 c6 n5 : Nat) (A1 A2 A5 A6 ka : Option Addr) (fu f5 xi xl : Int) (da d5 : Bool) (xc : UInt8) (W w5 w0 : World) (F : Nat → Prop) (K5 : Dk) (e0 : Int) (D : Nat → Bool) (a : Act) (w : World) : Prop :=
  a = { tmps := #[.pointer (some ⟨g, 0, none⟩), .agg #[.slice A1 n c1, .slice A2 nl c2, .int .i64 fu, .bool da], .agg #[.int .i64 2, .int .i64 xi, .int .u8 (xc.toNat : Int), .int .i64 xl, .slice ka kn kc], undef, .pointer (some ⟨W.heap.size, 0, none⟩), .pointer (some ⟨W.heap.size + 1, 0, none⟩), (slot (D 6) (.pointer (some ⟨g, 0, none⟩)) (.pointer none)), .pointer (some ⟨W.heap.size + 1 + 1, 0, none⟩), (slot (D 8) (.bool true) (.bool false)), undef, undef, undef, undef, undef, .pointer (some ⟨w5.heap.size, 0, none⟩), .int .i64 e0, undef, undef, undef, undef, undef, undef, undef, .pointer (some ⟨W.heap.size + 1, 0, none⟩), .int .i64 2, .bool false, .bool false, undef, undef, undef, undef, undef, undef, undef, undef, undef, undef, undef, undef, undef, undef, undef, undef, undef, undef, undef, undef, undef, undef, undef, undef, undef, undef, undef, undef, undef, undef, undef, undef, undef, .bool true, .bool true, .tuple #[.agg #[.slice A5 n c5, .slice A6 n5 c6, .int .i64 f5, .bool d5], .int .i64 e0], .agg #[.slice A1 n c1, .slice A2 nl c2, .int .i64 fu, .bool da], .tuple #[.agg #[.slice A5 n c5, .slice A6 n5 c6, .int .i64 f5, .bool d5], .int .i64 e0], .agg #[.slice A5 n c5, .slice A6 n5 c6, .int .i64 f5, .bool d5], .int .i64 e0, (slot (D 0) (.pointer (some ⟨g, 0, none⟩)) (undef)), (slot (D 1) (.agg #[.slice A5 n c5, .slice A6 n5 c6, .int .i64 f5, .bool d5]) (undef)), (slot (D 2) (.pointer (some ⟨g, 0, none⟩)) (undef)), (slot (D 3) (.int .i64 e0) (undef)), (slot (D 4) (.int .i64 e0) (undef)), (slot (D 5) (.bool true) (undef)), undef, undef, undef, undef, undef, undef, undef, undef, undef, undef, undef, undef, undef, undef, undef, undef, undef, undef, undef, undef, undef, undef, undef, undef, undef, undef, undef, undef, undef, undef, undef, undef, undef, undef, undef, undef, undef, undef, undef, undef, undef, undef, undef, undef, undef, undef, undef, undef, undef, undef, undef, undef, undef, undef, undef, undef, undef, undef, undef, undef, undef, undef, undef, undef, undef, undef, undef, undef, undef, undef, undef, undef, undef, undef], defers := [] } ∧
    (D 3 = false → Chg NoB w0 w) ∧
    (D 3 = true → D 7 = false → ∃ F7, BK B w g F7 (.slice A5 n c5) (.slice A6 n5 c6) K5 n (m + 1) ∧ Chg F w0 w ∧ ∀ i, F7 i → F i ∨ w0.heap.size ≤ i) ∧
    (D 7 = true → ∃ F7, BK B w g F7 (.slice A5 n c5) (.slice A6 n5 c6) K5 n (m + 1) ∧ Chg F W w ∧ (∀ i, F7 i → F i ∨ W.heap.size ≤ i) ∧ Blk w (W.heap.size + 2) 52 #[.slice A5 n c5, .slice A6 n5 c6, .int .i64 f5, .bool d5])
set_option maxRecDepth 100000 in
set_option maxHeartbeats 8000000 in
theorem step_sync {B : Nat} {W : World} {g : Nat} {F : Nat → Prop} {s p : Value} {K : Dk} {n m : Nat} (hB : B ≤ W.heap.size) (hJ : BK B W g F s p K n m) (hm : m ≤ 100) (x : ActV) (hkd : x.kind = 2) :
    Calls Try.prog 24 #[.pointer (some ⟨g, 0, none⟩), rkV s p K, actV x] W (StepPost B W F n m) := by
  obtain ⟨A1, c1, hs⟩ := own_slice hJ.rk.sure
  obtain ⟨nl, hnl⟩ : ∃ nl, nl = K.loose.length := ⟨_, rfl⟩
  obtain ⟨A2, c2, hp⟩ := own_slice hJ.rk.loose
  rw [← hnl] at hp
  subst hs hp
  obtain ⟨kd, xi, xc, xl, ka, kn, kc, ks⟩ := x
  obtain rfl : kd = 2 := hkd
  have HB := Lib.hid hB
  have HM := Lib.hid hm
  obtain ⟨fu, hfu⟩ : ∃ fu, fu = K.fuse := ⟨_, rfl⟩
  obtain ⟨da, hda⟩ : ∃ da, da = K.dark := ⟨_, rfl⟩
  have HRK := Lib.hid (show rkV (.slice A1 n c1) (.slice A2 nl c2) K = .agg #[.slice A1 n c1, .slice A2 nl c2, .int .i64 fu, .bool da] from by rw [hfu, hda]; rfl)
  rw [HRK.out]
  unfold actV
  simp only
  obtain ⟨wA, hwA⟩ : ∃ wA, wA = ((W.alloc (.cells #[.slice A1 n c1, .slice A2 nl c2, .int .i64 fu, .bool da] 52)).alloc (.cells #[.int .i64 2, .int .i64 xi, .int .u8 (xc.toNat : Int), .int .i64 xl, .slice ka kn kc] 33)).alloc (.cells #[.slice none 0 0, .slice none 0 0, .int .i64 0, .bool false] 52) := ⟨_, rfl⟩
  have hcA : Chg NoB W wA := by rw [hwA]; exact (((Chg.refl _ _).alloc _).alloc _).alloc _
  have hmA : Blk wA W.heap.size 52 #[.slice A1 n c1, .slice A2 nl c2, .int .i64 fu, .bool da] := by rw [hwA]; exact ((Blk.new W _ _).alloc _).alloc _
  have haA : Blk wA (W.heap.size + 1) 33 #[.int .i64 2, .int .i64 xi, .int .u8 (xc.toNat : Int), .int .i64 xl, .slice ka kn kc] := by
    rw [hwA]
    have h := Blk.new (W.alloc (.cells #[.slice A1 n c1, .slice A2 nl c2, .int .i64 fu, .bool da] 52)) 33 #[.int .i64 2, .int .i64 xi, .int .u8 (xc.toNat : Int), .int .i64 xl, .slice ka kn kc]
    exact Blk.alloc (by simpa using h) _
  have hrA : Blk wA (W.heap.size + 2) 52 #[.slice none 0 0, .slice none 0 0, .int .i64 0, .bool false] := by
    rw [hwA]
    have h := Blk.new ((W.alloc (.cells #[.slice A1 n c1, .slice A2 nl c2, .int .i64 fu, .bool da] 52)).alloc (.cells #[.int .i64 2, .int .i64 xi, .int .u8 (xc.toNat : Int), .int .i64 xl, .slice ka kn kc] 33)) 52 #[.slice none 0 0, .slice none 0 0, .int .i64 0, .bool false]
    simpa using h
  have hsA : wA.heap.size = W.heap.size + 3 := by rw [hwA]; simp
  have HCA := Lib.hid hcA
  have HMA := Lib.hid hmA
  have HAA := Lib.hid haA
  have HRA := Lib.hid hrA
  have HSA := Lib.hid hsA
  have HJ := Lib.hid hJ
  have HNL := Lib.hid hnl
  clear hB hm hfu hda hcA hmA haA hrA hsA hJ hnl
  go_enter Try.func24, Try.ntmps24
  go_upto_region 12 with (fail)
  rw [← hwA]
  clear hwA
  go_wp2_with (first
    | (refine wpList_load_row rfl 52 _ rfl W.heap.size rfl 52 _ (0, 0) _ HMA.out Try.underlying52 rfl rd_size ?_)
    | fail)
  have hcall := rsync_any K n wA (HJ.out.rk.no HCA.out) (Nat.le_trans HJ.out.ok.loose (by have := HM.out; omega))
  rw [HRK.out] at hcall
  refine hcall.mono ?_
  clear hcall
  rintro e w5 ⟨s5, p5, rfl, hr5, hw5, hc5⟩
  obtain ⟨K5, hK5⟩ : ∃ K5, K5 = K.sync := ⟨_, rfl⟩
  have HOK := Lib.hid (show KOk K5 (m + 1) from by rw [hK5]; exact HJ.out.ok.sync_.more (by omega))
  rw [← hK5] at hr5 ⊢
  have HK5 := Lib.hid hK5
  obtain ⟨e0, he0⟩ : ∃ e0, e0 = syncE K := ⟨_, rfl⟩
  rw [← he0]
  have HE0 := Lib.hid he0
  obtain ⟨A5, c5, hs5⟩ := own_slice hr5.sure
  obtain ⟨n5, hn5⟩ : ∃ n5, n5 = K5.loose.length := ⟨_, rfl⟩
  obtain ⟨A6, c6, hp5⟩ := own_slice hr5.loose
  rw [← hn5] at hp5
  subst hs5 hp5
  obtain ⟨f5, hf5⟩ : ∃ f5, f5 = K5.fuse := ⟨_, rfl⟩
  obtain ⟨d5, hd5⟩ : ∃ d5, d5 = K5.dark := ⟨_, rfl⟩
  have HRK5 := Lib.hid (show rkV (.slice A5 n c5) (.slice A6 n5 c6) K5 = .agg #[.slice A5 n c5, .slice A6 n5 c6, .int .i64 f5, .bool d5] from by rw [hf5, hd5]; rfl)
  rw [HRK5.out]
  have HR5 := Lib.hid hr5
  have HW5 := Lib.hid hw5
  have HC5 := Lib.hid hc5
  clear hn5 hf5 hd5 hr5 hw5 hc5
  clear hK5 he0
  go_wp2_with (first
    | (refine wpList_store_blk rfl 52 _ _ rfl w5.heap.size _ rfl rfl 52 _ (Blk.new w5 _ _) rfl rd_size (by simp [Value.oneCell']) ?_)
    | fail)
  have hb14 := (Blk.new w5 52 #[.slice none 0 0, .slice none 0 0, .int .i64 0, .bool false]).row #[.slice A5 n c5, .slice A6 n5 c6, .int .i64 f5, .bool d5]
  have hc6 : Chg NoB w5 ((w5.alloc (.cells #[.slice none 0 0, .slice none 0 0, .int .i64 0, .bool false] 52)).setRow w5.heap.size #[.slice A5 n c5, .slice A6 n5 c6, .int .i64 f5, .bool d5]) := ((Chg.refl NoB w5).alloc _).setRow (.inr (Nat.le_refl _)) _
  generalize hw6 : (w5.alloc (.cells #[.slice none 0 0, .slice none 0 0, .int .i64 0, .bool false] 52)).setRow w5.heap.size #[.slice A5 n c5, .slice A6 n5 c6, .int .i64 f5, .bool d5] = w6 at hb14 hc6 ⊢
  have HB14 := Lib.hid hb14
  have HC6 := Lib.hid hc6
  clear hw6 hb14 hc6
  have HSZ := Lib.hid (show W.heap.size ≤ w5.heap.size ∧ W.heap.size + 2 < w5.heap.size from by have h1 := HSA.out; have h2 := HC5.out.size; omega)
  have HW6 := Lib.hid (show W.heap.size ≤ w6.heap.size from by have h1 := HSZ.out; have h2 := HC6.out.size; omega)
  have HW62 := Lib.hid (show W.heap.size + 2 < w6.heap.size from by have h1 := HSZ.out; have h2 := HC6.out.size; omega)
  have HC06 := Lib.hid ((HCA.out.trans HC5.out (fun _ _ h => h)).trans HC6.out (fun _ _ h => h))
  have HJ6 := Lib.hid (HJ.out.no HC06.out)
  have HR6 := Lib.hid (HR5.out.no HC6.out)
  have HR14 := Lib.hid ((HRA.out.chg HC5.out (fun h => h)).chg HC6.out (fun h => h))
  refine wp_region_cl rfl (by kernel_rfl) (InvS13 B g n m nl c1 c2 kn kc c5 c6 n5 A1 A2 A5 A6 ka fu f5 xi xl da d5 xc W w5 w6 F K5 e0) ?_ ?_ ?_
  · exact ⟨rfl, fun _ => (Chg.refl _ _).drew, (fun h _ => by cases h), (fun h => by cases h)⟩
  ·
    intro D a w i o ho hD hcl hpre hI
    obtain ⟨rfl, h0, h1, h2⟩ := hI
    have hi : i < 9 := by have := (List.getElem?_eq_some_iff.1 ho).1; simpa using this
    rcases (by omega : i = 0 ∨ i = 1 ∨ i = 2 ∨ i = 3 ∨ i = 4 ∨ i = 5 ∨ i = 6 ∨ i = 7 ∨ i = 8) with rfl | rfl | rfl | rfl | rfl | rfl | rfl | rfl | rfl
    · obtain rfl := Option.some.inj ho
      clear ho hpre hi hcl
      go_wp2_with fail
      unfold AtEnd
      exact ⟨rfl, fun h => h0 (by simpa [more] using h), fun a1 a2 => h1 (by simpa [more] using a1) (by simpa [more] using a2), fun h => h2 (by simpa [more] using h)⟩
    · obtain rfl := Option.some.inj ho
      have d7 : D 7 = false := (hcl.not_ 7 _ rfl 0 _ rfl rfl hD)
      clear ho hpre hi hcl
      have hb : Blk w w5.heap.size 52 #[.slice A5 n c5, .slice A6 n5 c6, .int .i64 f5, .bool d5] := by
        cases h3 : D 3
        · exact HB14.out.chg (h0 h3) (fun h => h)
        · obtain ⟨F7, _, hc, _⟩ := h1 h3 d7
          exact HB14.out.chg hc (fun hf => by have h8 := (HJ.out.di.rng _ hf).2; have h9 := HSZ.out; omega)
      go_wp2_with (first
        | (refine wpList_load_row rfl 52 _ rfl w5.heap.size rfl 52 _ (0, 0) _ hb Try.underlying52 rfl rd_size ?_)
        | fail)
      unfold AtEnd
      exact ⟨by simp only [more, slot_true, slot_false, Nat.reduceEqDiff, ↓reduceIte, d7], fun h => h0 (by simpa [more] using h), fun a1 a2 => h1 (by simpa [more] using a1) (by simpa [more] using a2), fun h => h2 (by simpa [more] using h)⟩
    · obtain rfl := Option.some.inj ho
      clear ho hpre hi hcl
      go_wp2_with fail
      unfold AtEnd
      exact ⟨rfl, fun h => h0 (by simpa [more] using h), fun a1 a2 => h1 (by simpa [more] using a1) (by simpa [more] using a2), fun h => h2 (by simpa [more] using h)⟩
    · obtain rfl := Option.some.inj ho
      have z2 := hpre ⟨2, .data⟩ (by simp) rfl
      have d7 : D 7 = false := (hcl.not_ 7 _ rfl 1 _ rfl rfl (hcl.not_ 6 _ rfl 1 _ rfl rfl hD))
      clear ho hpre hi hcl
      have hcw := h0 hD
      have hdi := (HJ6.out.no hcw).di
      have hrk := HR6.out.no hcw
      have HCW := Lib.hid hcw
      have HDI := Lib.hid hdi
      have HRKW := Lib.hid hrk
      clear h0 h1 h2 hcw hdi hrk
      simp only [z2, slot_true]
      go_wp2_with fail
      refine (HDI.out.sync_ (Nat.le_trans HB.out (Nat.le_trans HW6.out HCW.out.size)) (Nat.le_trans HJ.out.ok.loose (by have := HM.out; omega))).mono ?_
      rintro e w7 ⟨rfl, hp7⟩
      rw [← HE0.out]
      rw [← HK5.out] at hp7
      have HN := Lib.hid (HJ.out.next HRKW.out (fun b hb => (HW5.out b hb).imp id (fun h => Nat.le_trans HCA.out.size h)) (Nat.le_trans HW6.out HCW.out.size) hp7 HOK.out)
      clear hp7
      go_wp2_with fail
      obtain ⟨F7, hn1, hn2, hn3⟩ := HN.out
      unfold AtEnd
      exact ⟨by simp only [more, slot_true, slot_false, Nat.reduceEqDiff, ↓reduceIte, z2, d7], fun h => by simp [more] at h, fun _ _ => ⟨F7, hn1, Chg.trans (S := F) (HCW.out.mono (fun _ _ h => h.elim)) hn2 (fun _ _ h => h), fun i hi => (hn3 i hi).imp id (fun h => Nat.le_trans HCW.out.size h)⟩, fun h => by simp [more, d7] at h⟩
    · obtain rfl := Option.some.inj ho
      clear ho hpre hi hcl
      go_wp2_with fail
      unfold AtEnd
      exact ⟨rfl, fun h => h0 (by simpa [more] using h), fun a1 a2 => h1 (by simpa [more] using a1) (by simpa [more] using a2), fun h => h2 (by simpa [more] using h)⟩
    · obtain rfl := Option.some.inj ho
      have z3 := hpre ⟨3, .data⟩ (by simp) rfl
      have z4 := hpre ⟨4, .data⟩ (by simp) rfl
      clear ho hpre hi hcl
      go_wp2_with fail
      unfold AtEnd
      exact ⟨by simp only [more, slot_true, slot_false, Nat.reduceEqDiff, ↓reduceIte, z3, z4], fun h => h0 (by simpa [more] using h), fun a1 a2 => h1 (by simpa [more] using a1) (by simpa [more] using a2), fun h => h2 (by simpa [more] using h)⟩
    · obtain rfl := Option.some.inj ho
      have z0 := hpre ⟨0, .data⟩ (by simp) rfl
      have z3 := hpre ⟨3, .chain⟩ (by simp) rfl
      clear ho hpre hi hcl
      go_wp2_with fail
      unfold AtEnd
      exact ⟨by simp only [more, slot_true, slot_false, Nat.reduceEqDiff, ↓reduceIte, z0, z3], fun h => h0 (by simpa [more] using h), fun a1 a2 => h1 (by simpa [more] using a1) (by simpa [more] using a2), fun h => h2 (by simpa [more] using h)⟩
    · obtain rfl := Option.some.inj ho
      have z1 := hpre ⟨1, .data⟩ (by simp) rfl
      have z6 := hpre ⟨6, .chain⟩ (by simp) rfl
      have z3 : D 3 = true := (hcl.at_ 6 _ rfl z6 1 _ rfl rfl)
      clear ho hpre hi hcl
      obtain ⟨F7, hbk, hcf, hF⟩ := h1 z3 hD
      have hbr := HR14.out.chg hcf (fun hf => by have h8 := (HJ.out.di.rng _ hf).2; omega)
      have HBR := Lib.hid hbr
      have HBK := Lib.hid hbk
      have HCF := Lib.hid hcf
      have HF := Lib.hid hF
      clear h0 h1 h2 hbk hcf hF hbr
      simp only [z1, slot_true]
      go_wp2_with (first
        | (refine wpList_store_blk rfl 52 _ _ rfl (W.heap.size + 2) _ rfl rfl 52 _ HBR.out rfl rd_size (by simp [Value.oneCell']) ?_)
        | fail)
      have hcs : Chg (fun b => b = W.heap.size + 2) w (w.setRow (W.heap.size + 2) #[.slice A5 n c5, .slice A6 n5 c6, .int .i64 f5, .bool d5]) := (Chg.refl (fun b => b = W.heap.size + 2) w).setRow (g := W.heap.size + 2) (.inl rfl) _
      have hbk2 := HBK.out.chg hcs (fun i hi h => by have h9 := HW62.out; exact (HF.out i hi).elim (fun hf => by have h8 := (HJ.out.di.rng _ hf).2; have h7 : i = W.heap.size + 2 := h; omega) (fun h8 => by have h7 : i = W.heap.size + 2 := h; omega)) (fun i hi h => by have h7 : i = W.heap.size + 2 := h; exact (HW5.out i hi).elim (fun hr => by have h8 := HJ.out.rk.lt i hr; omega) (fun h8 => by have h9 := HSA.out; omega))
      unfold AtEnd
      exact ⟨by simp only [more, slot_true, slot_false, Nat.reduceEqDiff, ↓reduceIte, z1, z6, z3], fun h => by simp [more, z3] at h, fun _ h => by simp [more] at h, fun _ => ⟨F7, hbk2, (Chg.trans (S := F) (T := F) (HC06.out.mono (fun _ _ h => h.elim)) HCF.out (fun _ _ h => h)).setRow (.inr (by omega)) _, fun i hi => (HF.out i hi).imp id (fun h => Nat.le_trans HW6.out h), HBR.out.row _⟩⟩
    · obtain rfl := Option.some.inj ho
      have z5 := hpre ⟨5, .data⟩ (by simp) rfl
      have z7 := hpre ⟨7, .chain⟩ (by simp) rfl
      clear ho hpre hi hcl
      go_wp2_with fail
      unfold AtEnd
      exact ⟨by simp only [more, slot_true, slot_false, Nat.reduceEqDiff, ↓reduceIte, z5, z7], fun h => h0 (by simpa [more] using h), fun a1 a2 => h1 (by simpa [more] using a1) (by simpa [more] using a2), fun h => h2 (by simpa [more] using h)⟩
  · intro D a w hall hI
    obtain ⟨rfl, h0, h1, h2⟩ := hI
    obtain ⟨F7, hbk, hcF, hff, hbr⟩ := h2 (hall 7 (by decide))
    have HBK := Lib.hid hbk
    have HCF := Lib.hid hcF
    have HBR := Lib.hid hbr
    have HFF := Lib.hid hff
    have z6 := hall 6 (by decide)
    have z8 := hall 8 (by decide)
    clear h0 h1 h2 hbk hcF hff hbr hall
    simp only [z6, z8, slot_true]
    go_wp2_with fail
    try simp only [Exit.inBlock, Exit.then]
    refine bodyPost_ret (rd_ret3 rfl _ _ (W.heap.size + 2) 52 _ _ _ _ rfl HBR.out) rfl ⟨g, F7, _, _, K5, ?_, HBK.out, HCF.out, HFF.out⟩
    rw [HRK5.out]; rfl
end Go.Proofs.Ytmkbahhnjobglaa
