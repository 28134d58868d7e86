/-
  A STEP: Fuse.
-/
import Derived.Test.YtmkbahhnjobglaaSecStep
namespace Go.Proofs.Ytmkbahhnjobglaa
open Go.RowKit
set_option linter.unusedSimpArgs false
set_option linter.unusedVariables false
set_option maxRecDepth 100000 in
set_option maxHeartbeats 8000000 in
theorem step_fuse {B : Nat} {W : World} {g : Nat} {F : Nat → Prop} {s p : Value} {K : Dk} {n m : Nat} (hB : B ≤ W.heap.size) (hJ : BK B W g F s p K n m) (hm : m ≤ 100) (x : ActV) (hkd : x.kind = 3) (hxi : x.i ≤ 9223372036854775807) :
    Calls Try.prog 24 #[.pointer (some ⟨g, 0, none⟩), rkV s p K, actV x] W (StepPost B W F n m) := by
  obtain ⟨A1, c1, hs⟩ := own_slice hJ.rk.sure
  obtain ⟨nl, hnl⟩ : ∃ nl, nl = K.loose.length := ⟨_, rfl⟩
  obtain ⟨A2, c2, hp⟩ := own_slice hJ.rk.loose
  rw [← hnl] at hp
  subst hs hp
  obtain ⟨kd, xi, xc, xl, ka, kn, kc, ks⟩ := x
  obtain rfl : kd = 3 := hkd
  have HB := Lib.hid hB
  have HM := Lib.hid hm
  obtain ⟨fu, hfu⟩ : ∃ fu, fu = K.fuse := ⟨_, rfl⟩
  obtain ⟨da, hda⟩ : ∃ da, da = K.dark := ⟨_, rfl⟩
  have HRK := Lib.hid (show rkV (.slice A1 n c1) (.slice A2 nl c2) K = .agg #[.slice A1 n c1, .slice A2 nl c2, .int .i64 fu, .bool da] from by rw [hfu, hda]; rfl)
  rw [HRK.out]
  unfold actV
  simp only
  obtain ⟨wA, hwA⟩ : ∃ wA, wA = ((W.alloc (.cells #[.slice A1 n c1, .slice A2 nl c2, .int .i64 fu, .bool da] 52)).alloc (.cells #[.int .i64 3, .int .i64 xi, .int .u8 (xc.toNat : Int), .int .i64 xl, .slice ka kn kc] 33)).alloc (.cells #[.slice none 0 0, .slice none 0 0, .int .i64 0, .bool false] 52) := ⟨_, rfl⟩
  have hcA : Chg NoB W wA := by rw [hwA]; exact (((Chg.refl _ _).alloc _).alloc _).alloc _
  have hmA : Blk wA W.heap.size 52 #[.slice A1 n c1, .slice A2 nl c2, .int .i64 fu, .bool da] := by rw [hwA]; exact ((Blk.new W _ _).alloc _).alloc _
  have haA : Blk wA (W.heap.size + 1) 33 #[.int .i64 3, .int .i64 xi, .int .u8 (xc.toNat : Int), .int .i64 xl, .slice ka kn kc] := by
    rw [hwA]
    have h := Blk.new (W.alloc (.cells #[.slice A1 n c1, .slice A2 nl c2, .int .i64 fu, .bool da] 52)) 33 #[.int .i64 3, .int .i64 xi, .int .u8 (xc.toNat : Int), .int .i64 xl, .slice ka kn kc]
    exact Blk.alloc (by simpa using h) _
  have hrA : Blk wA (W.heap.size + 2) 52 #[.slice none 0 0, .slice none 0 0, .int .i64 0, .bool false] := by
    rw [hwA]
    have h := Blk.new ((W.alloc (.cells #[.slice A1 n c1, .slice A2 nl c2, .int .i64 fu, .bool da] 52)).alloc (.cells #[.int .i64 3, .int .i64 xi, .int .u8 (xc.toNat : Int), .int .i64 xl, .slice ka kn kc] 33)) 52 #[.slice none 0 0, .slice none 0 0, .int .i64 0, .bool false]
    simpa using h
  have hsA : wA.heap.size = W.heap.size + 3 := by rw [hwA]; simp
  have HCA := Lib.hid hcA
  have HMA := Lib.hid hmA
  have HAA := Lib.hid haA
  have HRA := Lib.hid hrA
  have HSA := Lib.hid hsA
  have HJ := Lib.hid hJ
  have HNL := Lib.hid hnl
  clear hB hm hfu hda hcA hmA haA hrA hsA hJ hnl
  go_enter Try.func24, Try.ntmps24
  go_upto_region 15 with (fail)
  rw [← hwA]
  clear hwA
  have HXI := Lib.hid (show xi ≤ 9223372036854775807 from hxi)
  clear hxi
  have k1 := HAA.out.cell 1
  go_wp2_with fail
  have HSA2 := Lib.hid (show W.heap.size ≤ wA.heap.size from by have := HSA.out; omega)
  refine ((HJ.out.no HCA.out).di.fuse_ (Nat.le_trans HB.out HSA2.out) xi HXI.out).mono ?_
  rintro e w5 ⟨⟨v5, rfl⟩, F5, hd5, hc5, hF5⟩
  have HF0 := Lib.hid (show ∀ b, F b → b < W.heap.size from fun b hb => (HJ.out.di.rng b hb).2)
  have HM5 := Lib.hid (HMA.out.chg hc5 (fun h => by have := HF0.out _ h; omega))
  have ha5 := HAA.out.chg hc5 (fun h => by have := HF0.out _ h; omega)
  have HR5 := Lib.hid (HRA.out.chg hc5 (fun h => by have := HF0.out _ h; omega))
  have HRW := Lib.hid ((HJ.out.rk.no HCA.out).chg hc5 HJ.out.apart)
  have HD5 := Lib.hid hd5
  have HC5 := Lib.hid (Chg.trans (S := F) (T := F) (HCA.out.mono (fun _ _ h => h.elim)) hc5 (fun _ _ h => h))
  have HF5 := Lib.hid hF5
  have HSZ5 := Lib.hid hc5.size
  clear k1 hd5 hc5 hF5
  have k1 := ha5.cell 1
  clear ha5
  go_wp2_with (first
    | (refine wpList_load_row rfl 52 _ rfl W.heap.size rfl 52 _ (0, 0) _ HM5.out Try.underlying52 rfl rd_size ?_)
    | fail)
  have hcall := rarm_K K n w5 HRW.out xi HXI.out
  rw [HRK.out] at hcall
  refine hcall.mono ?_
  clear hcall
  rintro e w6 ⟨rfl, hr6, hc6⟩
  obtain ⟨f6, hf6⟩ : ∃ f6, f6 = (K.armed xi).fuse := ⟨_, rfl⟩
  obtain ⟨d6, hd6⟩ : ∃ d6, d6 = (K.armed xi).dark := ⟨_, rfl⟩
  have HRK6 := Lib.hid (show rkV (.slice A1 n c1) (.slice A2 nl c2) (K.armed xi) = .agg #[.slice A1 n c1, .slice A2 nl c2, .int .i64 f6, .bool d6] from by rw [hf6, hd6]; rfl)
  rw [HRK6.out]
  have HR6 := Lib.hid (HR5.out.chg hc6 (fun h => h))
  have HC6 := Lib.hid (Chg.trans (S := F) (T := F) HC5.out (hc6.mono (fun _ _ h => h.elim)) (fun _ _ h => h))
  have hbk : BK B w6 g F5 (.slice A1 n c1) (.slice A2 nl c2) (K.armed xi) n (m + 1) := ⟨HD5.out.no hc6, hr6, fun b hb hf => (HF5.out b hf).elim (fun h => HJ.out.apart b hb h) (fun h => by have h1 := HJ.out.rk.lt b hb; have h2 := HSA2.out; omega), (HJ.out.ok.armed_ xi).more (by omega)⟩
  have HBK := Lib.hid hbk
  clear hf6 hd6 hr6 hc6 hbk k1
  go_wp2_with (first
    | (refine wpList_store_blk rfl 52 _ _ rfl (W.heap.size + 2) _ rfl rfl 52 _ HR6.out rfl rd_size (by simp [Value.oneCell']) ?_)
    | fail)
  try simp only [Exit.inBlock, Exit.then]
  have hcs : Chg (fun b => b = W.heap.size + 2) w6 (w6.setRow (W.heap.size + 2) #[.slice A1 n c1, .slice A2 nl c2, .int .i64 f6, .bool d6]) := (Chg.refl (fun b => b = W.heap.size + 2) w6).setRow (g := W.heap.size + 2) (.inl rfl) _
  refine bodyPost_ret (rd_ret3 rfl _ _ (W.heap.size + 2) 52 _ _ _ _ rfl (HR6.out.row _)) rfl ⟨g, F5, _, _, K.armed xi, ?_, HBK.out.chg hcs (fun i hi h => ?_) (fun i hi h => ?_), HC6.out.setRow (.inr (by omega)) _, fun i hi => (HF5.out i hi).imp id (fun h => Nat.le_trans HSA2.out h)⟩
  · rw [HRK6.out]; rfl
  · have h7 : i = W.heap.size + 2 := h
    have h9 := HSA.out
    exact (HF5.out i hi).elim (fun hf => by have := HF0.out i hf; omega) (fun h8 => by omega)
  · have h7 : i = W.heap.size + 2 := h
    have h8 := HJ.out.rk.lt i hi
    omega
end Go.Proofs.Ytmkbahhnjobglaa
