/-
  THE LAW RecordReads, walked.
-/
import Derived.Test.YtgojdkjneggmjaaRecReadEnds
namespace Go.Proofs.Ytgojdkjneggmjaa
open Go.RowKit FieldM
set_option linter.unusedSimpArgs false
theorem box_rec (w : World) (rr : Rec) : Blk ((w.alloc (.cells #[.string ⟨#[]⟩, .int .i64 0, .int .i64 0, .int .i64 0, .int .i64 0, .int .i64 0] 23)).setRow w.heap.size rr.cells) w.heap.size 23 rr.cells ∧ Chg NoB w ((w.alloc (.cells #[.string ⟨#[]⟩, .int .i64 0, .int .i64 0, .int .i64 0, .int .i64 0, .int .i64 0] 23)).setRow w.heap.size rr.cells) :=
  ⟨(Blk.new w _ _).row _, ((Chg.refl NoB w).alloc _).setRow (.inr (Nat.le_refl _)) _⟩
set_option maxRecDepth 100000 in
set_option maxHeartbeats 8000000 in
theorem recordReads_walk (a0 : Option Addr) (len0 cap0 : Nat) (z0 : List Int) (p : Int) (W : World) (h0 : IsRow .u8 W a0 len0 cap0 z0) (hcap : cap0 ≤ 140737488351232) (_ : (Lit.int .i64 p).wf = true) :
    Calls Try.prog 7 #[.slice a0 len0 cap0, .int .i64 p] W fun e W' => e = .returned (.bool true) ∧ Below W.heap.size W W' := by
  obtain ⟨l, hl, hm, hr, hlc⟩ := h0.rb
  have HN := Lib.hid hl.symm
  have hle : len0 ≤ cap0 := by omega
  clear h0 hl hm hlc
  go_enter Try.func7, Try.ntmps7
  go_wp2_with fail
  refine (own_any a0 l len0 cap0 HN.out _ W hr (by omega)).mono ?_
  rintro e w1 ⟨⟨v1, rfl, ho1⟩, hcc0⟩
  obtain ⟨A1, n1, c1, rfl, hn1, hr1, hnc1, _⟩ := ho1.val
  have hn1' : n1 = len0 := by rw [← hn1, HN.out]
  subst hn1'
  have hr := hr.no hcc0
  clear hn1
  go_wp2_with fail
  refine (readlocal_any A1 l n1 c1 p HN.out _ w1 hr1 hnc1 (by omega) (Nat.le_refl _)).mono ?_
  rintro e w2 ⟨rfl, hc2⟩
  obtain ⟨r1, hr1⟩ : ∃ r, r = readR l p [80, 75, 3, 4] 30 4 [28] := ⟨_, rfl⟩
  obtain ⟨p1, hp1⟩ : ∃ r, r = (if readF l p [80, 75, 3, 4] 30 4 [28] = 0 then p + 30 + (readR l p [80, 75, 3, 4] 30 4 [28]).name.length else 0) := ⟨_, rfl⟩
  obtain ⟨f1, hf1⟩ : ∃ r, r = readF l p [80, 75, 3, 4] 30 4 [28] := ⟨_, rfl⟩
  rw [← hp1, ← hr1, ← hf1]
  have HV1 := Lib.hid (show r1 = readR l p [80, 75, 3, 4] 30 4 [28] ∧ p1 = (if readF l p [80, 75, 3, 4] 30 4 [28] = 0 then p + 30 + (readR l p [80, 75, 3, 4] 30 4 [28]).name.length else 0) ∧ f1 = readF l p [80, 75, 3, 4] 30 4 [28] from ⟨hr1, hp1, hf1⟩)
  clear hr1 hp1 hf1
  obtain ⟨hx1, hy1⟩ := box_rec w2 r1
  go_wp2_with (first
    | (refine wpList_store_blk rfl 23 _ _ rfl w2.heap.size r1.cells rfl rfl 23 _ (Blk.new w2 _ _) rfl rec_info (by simp [Value.oneCell', Rec.cells]) ?_)
    | fail)
  obtain ⟨w3, hw3⟩ : ∃ w, w = (w2.alloc (.cells #[.string ⟨#[]⟩, .int .i64 0, .int .i64 0, .int .i64 0, .int .i64 0, .int .i64 0] 23)).setRow w2.heap.size r1.cells := ⟨_, rfl⟩
  obtain ⟨b1, hb1⟩ : ∃ b, b = w2.heap.size := ⟨_, rfl⟩
  rw [← hw3, ← hb1] at hx1
  rw [← hw3] at hy1
  rw [← hw3, ← hb1]
  have hcc1 := (hcc0.trans hc2 (fun _ _ h => h)).trans hy1 (fun _ _ h => h)
  have hr := (hr.no hc2).no hy1
  have hr1 := (hr1.no hc2).no hy1
  have ho1 := (ho1.chg hc2 (fun _ _ h => h)).chg hy1 (fun _ _ h => h)
  have HB1 := Lib.hid (show w1.heap.size ≤ w3.heap.size ∧ W.heap.size ≤ w1.heap.size from ⟨Nat.le_trans hc2.size hy1.size, hcc0.size⟩)
  clear hc2 hy1 hw3 hb1
  go_wp2_with fail
  refine (rreadlocal_any a0 l n1 cap0 p HN.out _ w3 hr hle (by omega) (Nat.le_trans HB1.out.2 HB1.out.1)).mono ?_
  rintro e w4 ⟨rfl, hc4⟩
  obtain ⟨r2, hr2⟩ : ∃ r, r = readR l p [80, 75, 3, 4] 30 4 [28] := ⟨_, rfl⟩
  obtain ⟨p2, hp2⟩ : ∃ r, r = (if readF l p [80, 75, 3, 4] 30 4 [28] = 0 then p + 30 + (readR l p [80, 75, 3, 4] 30 4 [28]).name.length else 0) := ⟨_, rfl⟩
  obtain ⟨f2, hf2⟩ : ∃ r, r = readF l p [80, 75, 3, 4] 30 4 [28] := ⟨_, rfl⟩
  rw [← hp2, ← hr2, ← hf2]
  have HV2 := Lib.hid (show r2 = readR l p [80, 75, 3, 4] 30 4 [28] ∧ p2 = (if readF l p [80, 75, 3, 4] 30 4 [28] = 0 then p + 30 + (readR l p [80, 75, 3, 4] 30 4 [28]).name.length else 0) ∧ f2 = readF l p [80, 75, 3, 4] 30 4 [28] from ⟨hr2, hp2, hf2⟩)
  clear hr2 hp2 hf2
  obtain ⟨hx2, hy2⟩ := box_rec w4 r2
  go_wp2_with (first
    | (refine wpList_store_blk rfl 23 _ _ rfl w4.heap.size r2.cells rfl rfl 23 _ (Blk.new w4 _ _) rfl rec_info (by simp [Value.oneCell', Rec.cells]) ?_)
    | fail)
  obtain ⟨w5, hw5⟩ : ∃ w, w = (w4.alloc (.cells #[.string ⟨#[]⟩, .int .i64 0, .int .i64 0, .int .i64 0, .int .i64 0, .int .i64 0] 23)).setRow w4.heap.size r2.cells := ⟨_, rfl⟩
  obtain ⟨b2, hb2⟩ : ∃ b, b = w4.heap.size := ⟨_, rfl⟩
  rw [← hw5, ← hb2] at hx2
  rw [← hw5] at hy2
  rw [← hw5, ← hb2]
  have hcc2 := (hcc1.trans hc4 (fun _ _ h => h)).trans hy2 (fun _ _ h => h)
  have hx1 := (hx1.chg hc4 (fun h => h)).chg hy2 (fun h => h)
  have hr := (hr.no hc4).no hy2
  have hr1 := (hr1.no hc4).no hy2
  have ho1 := (ho1.chg hc4 (fun _ _ h => h)).chg hy2 (fun _ _ h => h)
  have HB2 := Lib.hid (Nat.le_trans hc4.size hy2.size)
  clear hc4 hy2 hw5 hb2
  go_wp2_with fail
  refine (readcentral_any A1 l n1 c1 p HN.out _ w5 hr1 hnc1 (by omega) (Nat.le_trans HB1.out.1 HB2.out)).mono ?_
  rintro e w6 ⟨rfl, hc6⟩
  obtain ⟨r3, hr3⟩ : ∃ r, r = readC l p := ⟨_, rfl⟩
  obtain ⟨p3, hp3⟩ : ∃ r, r = (if readF l p [80, 75, 1, 2] 46 6 [30, 32, 34] = 0 then p + 46 + (readC l p).name.length else 0) := ⟨_, rfl⟩
  obtain ⟨f3, hf3⟩ : ∃ r, r = readF l p [80, 75, 1, 2] 46 6 [30, 32, 34] := ⟨_, rfl⟩
  rw [← hp3, ← hr3, ← hf3]
  have HV3 := Lib.hid (show r3 = readC l p ∧ p3 = (if readF l p [80, 75, 1, 2] 46 6 [30, 32, 34] = 0 then p + 46 + (readC l p).name.length else 0) ∧ f3 = readF l p [80, 75, 1, 2] 46 6 [30, 32, 34] from ⟨hr3, hp3, hf3⟩)
  clear hr3 hp3 hf3
  obtain ⟨hx3, hy3⟩ := box_rec w6 r3
  go_wp2_with (first
    | (refine wpList_store_blk rfl 23 _ _ rfl w6.heap.size r3.cells rfl rfl 23 _ (Blk.new w6 _ _) rfl rec_info (by simp [Value.oneCell', Rec.cells]) ?_)
    | fail)
  obtain ⟨w7, hw7⟩ : ∃ w, w = (w6.alloc (.cells #[.string ⟨#[]⟩, .int .i64 0, .int .i64 0, .int .i64 0, .int .i64 0, .int .i64 0] 23)).setRow w6.heap.size r3.cells := ⟨_, rfl⟩
  obtain ⟨b3, hb3⟩ : ∃ b, b = w6.heap.size := ⟨_, rfl⟩
  rw [← hw7, ← hb3] at hx3
  rw [← hw7] at hy3
  rw [← hw7, ← hb3]
  have hcc3 := (hcc2.trans hc6 (fun _ _ h => h)).trans hy3 (fun _ _ h => h)
  have hx1 := (hx1.chg hc6 (fun h => h)).chg hy3 (fun h => h)
  have hx2 := (hx2.chg hc6 (fun h => h)).chg hy3 (fun h => h)
  have hr := (hr.no hc6).no hy3
  have hr1 := (hr1.no hc6).no hy3
  have ho1 := (ho1.chg hc6 (fun _ _ h => h)).chg hy3 (fun _ _ h => h)
  have HB3 := Lib.hid (Nat.le_trans hc6.size hy3.size)
  clear hc6 hy3 hw7 hb3
  go_wp2_with fail
  refine (rreadcentral_any a0 l n1 cap0 p HN.out _ w7 hr hle (by omega) (Nat.le_trans HB1.out.2 (Nat.le_trans HB1.out.1 (Nat.le_trans HB2.out HB3.out)))).mono ?_
  rintro e w8 ⟨rfl, hc8⟩
  obtain ⟨r4, hr4⟩ : ∃ r, r = readC l p := ⟨_, rfl⟩
  obtain ⟨p4, hp4⟩ : ∃ r, r = (if readF l p [80, 75, 1, 2] 46 6 [30, 32, 34] = 0 then p + 46 + (readC l p).name.length else 0) := ⟨_, rfl⟩
  obtain ⟨f4, hf4⟩ : ∃ r, r = readF l p [80, 75, 1, 2] 46 6 [30, 32, 34] := ⟨_, rfl⟩
  rw [← hp4, ← hr4, ← hf4]
  have HV4 := Lib.hid (show r4 = readC l p ∧ p4 = (if readF l p [80, 75, 1, 2] 46 6 [30, 32, 34] = 0 then p + 46 + (readC l p).name.length else 0) ∧ f4 = readF l p [80, 75, 1, 2] 46 6 [30, 32, 34] from ⟨hr4, hp4, hf4⟩)
  clear hr4 hp4 hf4
  obtain ⟨hx4, hy4⟩ := box_rec w8 r4
  go_wp2_with (first
    | (refine wpList_store_blk rfl 23 _ _ rfl w8.heap.size r4.cells rfl rfl 23 _ (Blk.new w8 _ _) rfl rec_info (by simp [Value.oneCell', Rec.cells]) ?_)
    | fail)
  obtain ⟨w9, hw9⟩ : ∃ w, w = (w8.alloc (.cells #[.string ⟨#[]⟩, .int .i64 0, .int .i64 0, .int .i64 0, .int .i64 0, .int .i64 0] 23)).setRow w8.heap.size r4.cells := ⟨_, rfl⟩
  obtain ⟨b4, hb4⟩ : ∃ b, b = w8.heap.size := ⟨_, rfl⟩
  rw [← hw9, ← hb4] at hx4
  rw [← hw9] at hy4
  rw [← hw9, ← hb4]
  have hcc4 := (hcc3.trans hc8 (fun _ _ h => h)).trans hy4 (fun _ _ h => h)
  have hx1 := (hx1.chg hc8 (fun h => h)).chg hy4 (fun h => h)
  have hx2 := (hx2.chg hc8 (fun h => h)).chg hy4 (fun h => h)
  have hx3 := (hx3.chg hc8 (fun h => h)).chg hy4 (fun h => h)
  have hr := (hr.no hc8).no hy4
  have hr1 := (hr1.no hc8).no hy4
  have ho1 := (ho1.chg hc8 (fun _ _ h => h)).chg hy4 (fun _ _ h => h)
  clear hc8 hy4 hw9 hb4
  have e12 : r2 = r1 ∧ p2 = p1 ∧ f2 = f1 := ⟨by rw [HV1.out.1, HV2.out.1], by rw [HV1.out.2.1, HV2.out.2.1], by rw [HV1.out.2.2, HV2.out.2.2]⟩
  have e34 : r4 = r3 ∧ p4 = p3 ∧ f4 = f3 := ⟨by rw [HV3.out.1, HV4.out.1], by rw [HV3.out.2.1, HV4.out.2.1], by rw [HV3.out.2.2, HV4.out.2.2]⟩
  obtain ⟨rfl, rfl, rfl⟩ := e12
  obtain ⟨rfl, rfl, rfl⟩ := e34
  clear hr hr1
  have HCC := Lib.hid hcc4
  have HX := Lib.hid (show Blk w9 b1 23 r2.cells ∧ Blk w9 b2 23 r2.cells ∧ Blk w9 b3 23 r4.cells ∧ Blk w9 b4 23 r4.cells from ⟨hx1, hx2, hx3, hx4⟩)
  have HNE := Lib.hid (show ¬ ((Value.slice A1 n1 c1).ownBlock = some b1) ∧ ¬ ((Value.slice A1 n1 c1).ownBlock = some b2) ∧ ¬ ((Value.slice A1 n1 c1).ownBlock = some b3) ∧ ¬ ((Value.slice A1 n1 c1).ownBlock = some b4) from ⟨ho1.blk_ne hx1 (by decide), ho1.blk_ne hx2 (by decide), ho1.blk_ne hx3 (by decide), ho1.blk_ne hx4 (by decide)⟩)
  have HO1 := Lib.hid ho1
  clear hx1 hx2 hx3 hx4 hcc0 hcc1 hcc2 hcc3 hcc4
  go_wp2_with fail
  go_loopw [18] (fun i wr => ∃ (j : Nat) (l' : List UInt8), j ≤ n1 ∧ i = .int .i64 j ∧ l'.length = n1 ∧ OwnB wr W.heap.size (.slice A1 n1 c1) l' ∧ Chg (fun k => (Value.slice A1 n1 c1).ownBlock = some k) w9 wr) (fun i _ => n1 - (intOf i).toNat)
  case atStart => exact ⟨0, l, by omega, rfl, HN.out, ho1, Chg.refl _ _⟩
  case round =>
    obtain ⟨j, l', hj, rfl, hl', hoj, hch⟩ := hrel
    have HL := Lib.hid hl'
    clear hl'
    by_cases hlt : j < n1
    · obtain ⟨g, rfl⟩ := (hoj.addr (by rw [HL.out]; omega)).1
      obtain ⟨k1, k2, _, _⟩ := hoj.cell j (by rw [HL.out]; exact hlt)
      obtain ⟨x, hx⟩ : ∃ x, x = l'[j]'(by rw [HL.out]; exact hlt) := ⟨_, rfl⟩
      rw [← hx] at k1
      have hset := hoj.set_ j (UInt8.ofNat ((x.toNat + 1) % 256))
      have hval : (((UInt8.ofNat ((x.toNat + 1) % 256)).toNat : Nat) : Int) = ((x.toNat : Int) + 1) % 256 := by rw [ofNat_toNat _ (Nat.mod_lt _ (by decide))]; omega
      rw [hval] at hset
      have HS := Lib.hid hset
      have hb1 := u8_hi x
      have hb2 := u8_lo x
      clear hval hset hoj hx
      go_wp2_with fail
      go_roundw
      case rel => exact ⟨j + 1, _, by omega, by simp, by rw [List.length_set]; exact HL.out, HS.out, Chg.setCell (p := ⟨g, j, none⟩) hch (.inl rfl) _⟩
      case measure => simp [intOf]; omega
    · obtain rfl : j = n1 := by omega
      have q1 := HX.out.1.chg hch HNE.out.1
      have q2 := HX.out.2.1.chg hch HNE.out.2.1
      have q3 := HX.out.2.2.1.chg hch HNE.out.2.2.1
      have q4 := HX.out.2.2.2.chg hch HNE.out.2.2.2
      have HCF := Lib.hid (show Chg NoB W wr from HCC.out.trans hch (fun i hi e => by have h1 := (HO1.out.lt i e).1; omega))
      clear hoj hch HV1 HV2 HV3 HV4 HX
      obtain ⟨nm1, m1, s1, pk1, sz1, at1⟩ := r2
      obtain ⟨nm2, m2, s2, pk2, sz2, at2⟩ := r4
      simp only [Rec.cells] at q1 q2 q3 q4
      have c10 := q1.cell 0
      have c11 := q1.cell 1
      have c12 := q1.cell 2
      have c13 := q1.cell 3
      have c14 := q1.cell 4
      have c15 := q1.cell 5
      have c20 := q2.cell 0
      have c21 := q2.cell 1
      have c22 := q2.cell 2
      have c23 := q2.cell 3
      have c24 := q2.cell 4
      have c25 := q2.cell 5
      have c30 := q3.cell 0
      have c31 := q3.cell 1
      have c32 := q3.cell 2
      have c33 := q3.cell 3
      have c34 := q3.cell 4
      have c35 := q3.cell 5
      have c40 := q4.cell 0
      have c41 := q4.cell 1
      have c42 := q4.cell 2
      have c43 := q4.cell 3
      have c44 := q4.cell 4
      have c45 := q4.cell 5
      clear q1 q2 q3 q4
      go_wp2_with ((refine (lives_any wr).mono ?_); rintro e w10 ⟨rfl, hc10⟩)
      go_ret
      exact ⟨rfl, (HCF.out.trans hc10 (fun _ _ h => h)).no⟩
end Go.Proofs.Ytgojdkjneggmjaa
