/-
  THE LAW RecordApart, walked.
-/
import Derived.Test.YtgojdkjneggmjaaRecReads
namespace Go.Proofs.Ytgojdkjneggmjaa
open Go.RowKit FieldM
set_option linter.unusedSimpArgs false
theorem look_of_readF {l : List UInt8} {p : Int} {mk : List UInt8} {long from_ : Nat} {zs : List Int} (h : readF l p mk long from_ zs = 0) : (l.drop p.toNat).take 4 = mk := by
  have hc := readF_look h
  have hx : lookX l p long = l.drop p.toNat := by unfold lookX; rw [if_pos hc]
  by_cases hm : (lookX l p long).take 4 = mk
  · rw [hx] at hm; exact hm
  · have := readF_bad (from_ := from_) (zs := zs) hc (.inl hm)
    rw [h] at this; cases this
theorem look_of_readEF {l : List UInt8} {p : Int} (h : readEF l p = 0) : (l.drop p.toNat).take 4 = [80, 75, 5, 6] := by
  by_cases hc : cutErr l.length p 22 = 0
  · have hx : lookX l p 22 = l.drop p.toNat := by unfold lookX; rw [if_pos hc]
    by_cases hm : (lookX l p 22).take 4 = [80, 75, 5, 6]
    · rw [hx] at hm; exact hm
    · have := readEF_bad hc (.inl hm)
      rw [h] at this; cases this
  · have := readEF_err hc
    rw [h] at this; exact absurd this.symm hc
set_option maxRecDepth 100000 in
set_option maxHeartbeats 8000000 in
theorem recordApart_walk (a0 : Option Addr) (len0 cap0 : Nat) (z0 : List Int) (p : Int) (W : World) (h0 : IsRow .u8 W a0 len0 cap0 z0) (hcap : cap0 ≤ 140737488351232) (_ : (Lit.int .i64 p).wf = true) :
    Calls Try.prog 9 #[.slice a0 len0 cap0, .int .i64 p] W fun e W' => e = .returned (.bool true) ∧ Below W.heap.size W W' := by
  obtain ⟨l, hl, hm, hr, hlc⟩ := h0.rb
  have HN := Lib.hid hl.symm
  have hle : len0 ≤ cap0 := by omega
  clear h0 hl hm hlc
  obtain ⟨w1, hw1⟩ : ∃ w1, w1 = W := ⟨_, rfl⟩
  have hcc0 : Chg NoB W w1 := by rw [hw1]; exact Chg.refl _ _
  have hr : RB w1 W.heap.size a0 l := by rw [hw1]; exact hr
  have HB0 := Lib.hid (show W.heap.size ≤ w1.heap.size by rw [hw1]; exact Nat.le_refl _)
  go_enter Try.func9, Try.ntmps9
  go_wp2_with fail
  rw [← hw1]
  clear hw1
  refine (readlocal_any a0 l len0 cap0 p HN.out _ w1 hr hle (by omega) HB0.out).mono ?_
  rintro e w2 ⟨rfl, hc2⟩
  obtain ⟨r1, hr1⟩ : ∃ r, r = readR l p [80, 75, 3, 4] 30 4 [28] := ⟨_, rfl⟩
  obtain ⟨p1, hp1⟩ : ∃ r, r = (if readF l p [80, 75, 3, 4] 30 4 [28] = 0 then p + 30 + (readR l p [80, 75, 3, 4] 30 4 [28]).name.length else 0) := ⟨_, rfl⟩
  obtain ⟨f1, hf1⟩ : ∃ r, r = readF l p [80, 75, 3, 4] 30 4 [28] := ⟨_, rfl⟩
  rw [← hp1, ← hr1, ← hf1]
  have HV1 := Lib.hid (show r1 = readR l p [80, 75, 3, 4] 30 4 [28] ∧ p1 = (if readF l p [80, 75, 3, 4] 30 4 [28] = 0 then p + 30 + (readR l p [80, 75, 3, 4] 30 4 [28]).name.length else 0) ∧ f1 = readF l p [80, 75, 3, 4] 30 4 [28] from ⟨hr1, hp1, hf1⟩)
  clear hr1 hp1 hf1
  obtain ⟨hx1, hy1⟩ := box_rec w2 r1
  go_wp2_with (first
    | (refine wpList_store_blk rfl 23 _ _ rfl w2.heap.size r1.cells rfl rfl 23 _ (Blk.new w2 _ _) rfl rec_info (by simp [Value.oneCell', Rec.cells]) ?_)
    | fail)
  obtain ⟨w3, hw3⟩ : ∃ w, w = (w2.alloc (.cells #[.string ⟨#[]⟩, .int .i64 0, .int .i64 0, .int .i64 0, .int .i64 0, .int .i64 0] 23)).setRow w2.heap.size r1.cells := ⟨_, rfl⟩
  obtain ⟨b1, hb1⟩ : ∃ b, b = w2.heap.size := ⟨_, rfl⟩
  rw [← hw3, ← hb1] at hx1
  rw [← hw3] at hy1
  rw [← hw3, ← hb1]
  have hcc1 := (hcc0.trans hc2 (fun _ _ h => h)).trans hy1 (fun _ _ h => h)
  have hr := (hr.no hc2).no hy1
  have HB1 := Lib.hid (Nat.le_trans HB0.out (Nat.le_trans hc2.size hy1.size))
  clear hc2 hy1 hw3 hb1
  go_wp2_with fail
  refine (readcentral_any a0 l len0 cap0 p HN.out _ w3 hr hle (by omega) HB1.out).mono ?_
  rintro e w4 ⟨rfl, hc4⟩
  obtain ⟨r2, hr2⟩ : ∃ r, r = readC l p := ⟨_, rfl⟩
  obtain ⟨p2, hp2⟩ : ∃ r, r = (if readF l p [80, 75, 1, 2] 46 6 [30, 32, 34] = 0 then p + 46 + (readC l p).name.length else 0) := ⟨_, rfl⟩
  obtain ⟨f2, hf2⟩ : ∃ r, r = readF l p [80, 75, 1, 2] 46 6 [30, 32, 34] := ⟨_, rfl⟩
  rw [← hp2, ← hr2, ← hf2]
  have HV2 := Lib.hid (show r2 = readC l p ∧ p2 = (if readF l p [80, 75, 1, 2] 46 6 [30, 32, 34] = 0 then p + 46 + (readC l p).name.length else 0) ∧ f2 = readF l p [80, 75, 1, 2] 46 6 [30, 32, 34] from ⟨hr2, hp2, hf2⟩)
  clear hr2 hp2 hf2
  obtain ⟨hx2, hy2⟩ := box_rec w4 r2
  go_wp2_with (first
    | (refine wpList_store_blk rfl 23 _ _ rfl w4.heap.size r2.cells rfl rfl 23 _ (Blk.new w4 _ _) rfl rec_info (by simp [Value.oneCell', Rec.cells]) ?_)
    | fail)
  obtain ⟨w5, hw5⟩ : ∃ w, w = (w4.alloc (.cells #[.string ⟨#[]⟩, .int .i64 0, .int .i64 0, .int .i64 0, .int .i64 0, .int .i64 0] 23)).setRow w4.heap.size r2.cells := ⟨_, rfl⟩
  obtain ⟨b2, hb2⟩ : ∃ b, b = w4.heap.size := ⟨_, rfl⟩
  rw [← hw5, ← hb2] at hx2
  rw [← hw5] at hy2
  rw [← hw5, ← hb2]
  have hcc2 := (hcc1.trans hc4 (fun _ _ h => h)).trans hy2 (fun _ _ h => h)
  have hx1 := (hx1.chg hc4 (fun h => h)).chg hy2 (fun h => h)
  have hr := (hr.no hc4).no hy2
  have HB2 := Lib.hid (Nat.le_trans HB1.out (Nat.le_trans hc4.size hy2.size))
  clear hc4 hy2 hw5 hb2
  go_wp2_with fail
  refine (readend_any a0 l len0 cap0 p HN.out _ w5 hr hle (by omega) HB2.out).mono ?_
  rintro e w6 ⟨rfl, hc6⟩
  obtain ⟨f3, hf3⟩ : ∃ r, r = readEF l p := ⟨_, rfl⟩
  rw [← hf3]
  have HF3 := Lib.hid hf3
  have HCC := Lib.hid (hcc2.trans hc6 (fun _ _ h => h))
  clear hf3 hr hx1 hx2 hcc0 hcc1 hcc2 hc6
  have X12 : f1 = 0 → f2 = 0 → False := fun h1 h2 => by
    rw [HV1.out.2.2] at h1; rw [HV2.out.2.2] at h2
    have h3 := look_of_readF h1; have h4 := look_of_readF h2
    rw [h3] at h4; revert h4; decide
  have X13 : f1 = 0 → f3 = 0 → False := fun h1 h2 => by
    rw [HV1.out.2.2] at h1; rw [HF3.out] at h2
    have h3 := look_of_readF h1; have h4 := look_of_readEF h2
    rw [h3] at h4; revert h4; decide
  have X23 : f2 = 0 → f3 = 0 → False := fun h1 h2 => by
    rw [HV2.out.2.2] at h1; rw [HF3.out] at h2
    have h3 := look_of_readF h1; have h4 := look_of_readEF h2
    rw [h3] at h4; revert h4; decide
  have HX12 := Lib.hid X12
  have HX13 := Lib.hid X13
  have HX23 := Lib.hid X23
  clear X12 X13 X23
  have key : (f1 = 0 ∧ f2 ≠ 0 ∧ f3 ≠ 0) ∨ (f1 ≠ 0 ∧ f2 = 0 ∧ f3 ≠ 0) ∨ (f1 ≠ 0 ∧ f2 ≠ 0 ∧ f3 = 0) ∨ (f1 ≠ 0 ∧ f2 ≠ 0 ∧ f3 ≠ 0) := by
    by_cases h1 : f1 = 0
    · exact .inl ⟨h1, fun h => HX12.out h1 h, fun h => HX13.out h1 h⟩
    · by_cases h2 : f2 = 0
      · exact .inr (.inl ⟨h1, h2, fun h => HX23.out h2 h⟩)
      · by_cases h3 : f3 = 0
        · exact .inr (.inr (.inl ⟨h1, h2, h3⟩))
        · exact .inr (.inr (.inr ⟨h1, h2, h3⟩))
  rcases key with ⟨h1, h2, h3⟩ | ⟨h1, h2, h3⟩ | ⟨h1, h2, h3⟩ | ⟨h1, h2, h3⟩
  · have t1 : (f1 == 0) = true := by rw [h1]; rfl
    have t2 : (f2 == 0) = false := by simpa using h2
    have t3 : (f3 == 0) = false := by simpa using h3
    clear h1 h2 h3
    go_wp2_with ((refine (lives_any w6).mono ?_); rintro e w10 ⟨rfl, hc10⟩)
    go_ret
    exact ⟨rfl, (HCC.out.trans hc10 (fun _ _ h => h)).no⟩
  · have t1 : (f1 == 0) = false := by simpa using h1
    have t2 : (f2 == 0) = true := by rw [h2]; rfl
    have t3 : (f3 == 0) = false := by simpa using h3
    clear h1 h2 h3
    go_wp2_with ((refine (lives_any w6).mono ?_); rintro e w10 ⟨rfl, hc10⟩)
    go_ret
    exact ⟨rfl, (HCC.out.trans hc10 (fun _ _ h => h)).no⟩
  · have t1 : (f1 == 0) = false := by simpa using h1
    have t2 : (f2 == 0) = false := by simpa using h2
    have t3 : (f3 == 0) = true := by rw [h3]; rfl
    clear h1 h2 h3
    go_wp2_with ((refine (lives_any w6).mono ?_); rintro e w10 ⟨rfl, hc10⟩)
    go_ret
    exact ⟨rfl, (HCC.out.trans hc10 (fun _ _ h => h)).no⟩
  · have t1 : (f1 == 0) = false := by simpa using h1
    have t2 : (f2 == 0) = false := by simpa using h2
    have t3 : (f3 == 0) = false := by simpa using h3
    clear h1 h2 h3
    go_wp2_with ((refine (lives_any w6).mono ?_); rintro e w10 ⟨rfl, hc10⟩)
    go_ret
    exact ⟨rfl, (HCC.out.trans hc10 (fun _ _ h => h)).no⟩
end Go.Proofs.Ytgojdkjneggmjaa
