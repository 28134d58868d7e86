/-
  THE WALK of the law's lives.
-/
import Derived.Test.YtmkbahhnjobglaaSec17
namespace Go.Proofs.Ytmkbahhnjobglaa
open Go.RowKit
set_option linter.unusedSimpArgs false
def InvLv (g b2 b5 b7 b12 b14 k9 : Nat) (v13 : Value) (x y yx : List UInt8) (w0 : World) (D : Nat → Bool) (a : Act) (w : World) : Prop :=
  ∃ (s5 : Nat) (s8 : Nat), a = { tmps := #[(slot (D 35) (.bool true) (.bool false)), .pointer (some ⟨g, 0, none⟩), .int .i64 0, .slice (some ⟨b12, 0, none⟩) 512 512, .int .i64 0, .int .i64 6, .slice none 0 0, .int .i64 6, .tuple #[.pointer (some ⟨g, 0, none⟩), .int .i64 0], .tuple #[.pointer (some ⟨g, 0, none⟩), .int .i64 0], .pointer (some ⟨g, 0, none⟩), .int .i64 0, .pointer (some ⟨g, 0, none⟩), .bool false, .bool false, .int .i64 0, .bool false, .bool false, .bool false, .pointer (some ⟨g, 0, none⟩), .slice (some ⟨b2, 0, none⟩) 512 512, .int .i64 0, .bool false, .bool false, .bool false, .pointer (some ⟨g, 0, none⟩), .int .i64 0, .bool false, .bool false, .bool false, .pointer (some ⟨g, 0, none⟩), .slice (some ⟨b5, 0, none⟩) 512 512, .int .i64 0, .bool false, .bool false, .bool false, .pointer (some ⟨g, 0, none⟩), .slice (some ⟨b7, 0, none⟩) 512 512, .int .i64 0, .bool false, .bool false, .bool false, .pointer (some ⟨g, 0, none⟩), .int .i64 2, .bool false, .bool false, .pointer (some ⟨g, 0, none⟩), .slice (some ⟨k9, 0, none⟩) 1 1, .int .i64 0, .tuple #[.slice (some ⟨b12, 0, none⟩) 512 512, .int .i64 0], .pointer (some ⟨g, 0, none⟩), .tuple #[.slice (some ⟨b12, 0, none⟩) 512 512, .int .i64 0], .slice (some ⟨b12, 0, none⟩) 512 512, .int .i64 0, .pointer (some ⟨g, 0, none⟩), v13, .pointer (some ⟨g, 0, none⟩), .slice (some ⟨b14, 0, none⟩) 512 512, .int .i64 6, .tuple #[.slice none 0 0, .int .i64 6], .pointer (some ⟨g, 0, none⟩), .tuple #[.slice none 0 0, .int .i64 6], .slice none 0 0, .int .i64 6, (slot (D 0) (.int .i64 0) (undef)), (slot (D 1) (.bool true) (undef)), (slot (D 2) (.bool true) (undef)), (slot (D 3) (.slice (some ⟨b12, 0, none⟩) 512 512) (undef)), (slot (D 4) (.string ⟨yx.toArray⟩) (undef)), (slot (D 5) (.slice (some ⟨s5, 0, none⟩) 512 512) (undef)), (slot (D 6) (.slice (some ⟨s5, 0, none⟩) 10 512) (undef)), (slot (D 7) (.string ⟨(y.take 10).toArray⟩) (undef)), (slot (D 8) (.slice (some ⟨s8, 0, none⟩) 512 512) (undef)), (slot (D 9) (.slice (some ⟨s8, 10, none⟩) 502 502) (undef)), (slot (D 10) (.string ⟨(x.drop 10).toArray⟩) (undef)), (slot (D 11) (.string ⟨yx.toArray⟩) (undef)), (slot (D 12) (.bool true) (undef)), (slot (D 13) (.bool true) (undef)), (slot (D 14) (.bool true) (undef)), (slot (D 15) (.int .i64 6) (undef)), (slot (D 16) (.bool true) (undef)), (slot (D 17) (.bool true) (undef)), (slot (D 18) (.bool true) (undef)), (slot (D 19) (.int .i64 6) (undef)), (slot (D 20) (.bool true) (undef)), (slot (D 21) (.bool true) (undef)), (slot (D 22) (.bool true) (undef)), (slot (D 23) (.pointer (some ⟨g, 0, none⟩)) (undef)), (slot (D 24) (.int .i64 1) (undef)), (slot (D 25) (.bool true) (undef)), (slot (D 26) (.bool true) (undef)), (slot (D 27) (.bool true) (undef)), (slot (D 28) (.pointer (some ⟨g, 0, none⟩)) (undef)), (slot (D 29) (.bool true) (undef)), (slot (D 30) (.bool true) (undef)), (slot (D 31) (.bool true) (undef)), (slot (D 32) (.bool true) (undef)), (slot (D 33) (.bool true) (undef)), (slot (D 34) (.bool true) (undef))], defers := [] } ∧
    (Chg NoB w0 w) ∧
    (D 5 = true → Blk w s5 5 ((y.map bv).toArray)) ∧
    (D 8 = true → Blk w s8 5 ((x.map bv).toArray))
set_option maxRecDepth 100000 in
set_option maxHeartbeats 8000000 in
theorem lives_any (w : World) :
    Calls Try.prog 10 #[] w fun e w' => e = .returned (.bool true) ∧ Chg NoB w w' := by
  obtain ⟨x, hx⟩ : ∃ x, x = fillL 120 512 := ⟨_, rfl⟩
  obtain ⟨y, hy⟩ : ∃ y, y = fillL 121 512 := ⟨_, rfl⟩
  obtain ⟨z, hz⟩ : ∃ z, z = fillL 122 512 := ⟨_, rfl⟩
  have fx := fun w => filled_512 120 120 rfl w
  have fy := fun w => filled_512 121 121 rfl w
  have fz := fun w => filled_512 122 122 rfl w
  rw [← hx] at fx
  rw [← hy] at fy
  rw [← hz] at fz
  have HX := Lib.hid (show x.length = 512 from by rw [hx, fillL_len])
  have HY := Lib.hid (show y.length = 512 from by rw [hy, fillL_len])
  have HZ := Lib.hid (show z.length = 512 from by rw [hz, fillL_len])
  have FX := Lib.hid fx
  have FY := Lib.hid fy
  have FZ := Lib.hid fz
  clear hx hy hz fx fy fz
  go_enter Try.func10, Try.ntmps10
  go_wp2_with fail
  refine (DI.new_ 2 w (by decide) (by decide)).mono ?_
  rintro e w1 ⟨g, F1, rfl, hD1, hc1⟩
  have HD1 := Lib.hid hD1
  have HC1 := Lib.hid hc1
  clear hD1 hc1
  go_wp2_with fail
  refine (FX.out w1).mono ?_
  rintro e w2 ⟨b2, rfl, hbl2, hb2, hc2⟩
  have HD2 := Lib.hid (HD1.out.no hc2)
  have HC2 := Lib.hid (HC1.out.trans hc2 (fun _ _ h => h))
  have HB2 := Lib.hid (blk_RB hb2)
  clear hb2 hc2 HC1 HD1
  go_wp2_with fail
  refine (HD2.out.write_ HC2.out.size 1 512 HX.out HB2.out (fun ad e => by cases e; rfl) (by simp [Dk.new])).mono ?_
  rintro e w3 ⟨rfl, F3, hD3, hc3, hg3⟩
  rw [(lv1 HX.out).1] at hD3
  rw [(lv1 HX.out).2]
  have HD3 := Lib.hid hD3
  have HC3 := Lib.hid (HD2.out.base HC2.out hc3)
  clear hD3 hc3 hg3 HC2 HD2
  go_wp2_with fail
  refine (HD3.out.sync_ HC3.out.size (by simp [Lv1])).mono ?_
  rintro e w4 ⟨rfl, F4, hD4, hc4, hg4⟩
  rw [lv2.1] at hD4
  rw [lv2.2]
  have HD4 := Lib.hid hD4
  have HC4 := Lib.hid (HD3.out.base HC3.out hc4)
  clear hD4 hc4 hg4 HC3 HD3
  go_wp2_with fail
  refine (FY.out w4).mono ?_
  rintro e w5 ⟨b5, rfl, hbl5, hb5, hc5⟩
  have HD5 := Lib.hid (HD4.out.no hc5)
  have HC5 := Lib.hid (HC4.out.trans hc5 (fun _ _ h => h))
  have HB5 := Lib.hid (blk_RB hb5)
  clear hb5 hc5 HC4 HD4
  go_wp2_with fail
  refine (HD5.out.write_ HC5.out.size 1 512 HY.out HB5.out (fun ad e => by cases e; rfl) (by simp [Lv2])).mono ?_
  rintro e w6 ⟨rfl, F6, hD6, hc6, hg6⟩
  rw [(lv3 HY.out).1] at hD6
  rw [(lv3 HY.out).2]
  have HD6 := Lib.hid hD6
  have HC6 := Lib.hid (HD5.out.base HC5.out hc6)
  clear hD6 hc6 hg6 HC5 HD5
  go_wp2_with fail
  refine (FZ.out w6).mono ?_
  rintro e w7 ⟨b7, rfl, hbl7, hb7, hc7⟩
  have HD7 := Lib.hid (HD6.out.no hc7)
  have HC7 := Lib.hid (HC6.out.trans hc7 (fun _ _ h => h))
  have HB7 := Lib.hid (blk_RB hb7)
  clear hb7 hc7 HC6 HD6
  go_wp2_with fail
  refine (HD7.out.write_ HC7.out.size 0 512 HZ.out HB7.out (fun ad e => by cases e; rfl) (by simp [Lv3])).mono ?_
  rintro e w8 ⟨rfl, F8, hD8, hc8, hg8⟩
  rw [(lv4 HZ.out).1] at hD8
  rw [(lv4 HZ.out).2]
  have HD8 := Lib.hid hD8
  have HC8 := Lib.hid (HD7.out.base HC7.out hc8)
  clear hD8 hc8 hg8 HC7 HD7
  go_wp2_with fail
  refine HD8.out.disk.loose_.mono ?_
  rintro e w9 ⟨rfl, rfl⟩
  have hll : ((Lv4 x y z).loose.length : Int) = 2 := rfl
  rw [hll]
  clear hll
  go_wp2_with fail
  -- Crash
  have hk10 : IB (w9.alloc (.cells #[.int .i64 12] 3)) (w9.alloc (.cells #[.int .i64 12] 3)).heap.size (some ⟨w9.heap.size, 0, none⟩) [12] := by
    refine ⟨rfl, fun _ => ⟨_, rfl, by simp, fun j u hu => ?_⟩⟩
    have ha : (⟨w9.heap.size, 0, none⟩ : Addr).add j = ⟨w9.heap.size, j, none⟩ := by unfold Addr.add; split <;> simp_all
    rw [ha, (Blk.new w9 3 #[.int .i64 12]).cell j, ← hu]; simp
  have hc10 : Chg NoB w9 (w9.alloc (.cells #[.int .i64 12] 3)) := (Chg.refl _ _).alloc _
  have hC10 : Chg NoB w (w9.alloc (.cells #[.int .i64 12] 3)) := HC8.out.alloc _
  refine ((HD8.out.no hc10).crash_ hC10.size (by simp [Lv4]) 1 rfl hk10 (fun h => by cases h) (fun _ ad e h => by cases e; have h1 : w9.heap.size < w9.heap.size := (HD8.out.rng _ h).2; omega) (fun k hk => by simp at hk; omega)).mono ?_
  rintro e w11 ⟨rfl, F11, hD11, hc11, hg11⟩
  rw [lv5_] at hD11
  have HD11 := Lib.hid hD11
  have HC11 := Lib.hid ((HD8.out.no hc10).base hC10 hc11)
  clear hk10 hc10 hC10 hD11 hc11 hg11 HC8 HD8 HB2 HB5 HB7
  -- Read
  go_wp2_with fail
  refine (HD11.out.disk.read 1).mono ?_
  rintro e w12 (⟨h, _⟩ | ⟨_, ⟨b12, rfl, hbl12, hb12⟩, hc12⟩)
  · exact absurd rfl h
  have HD12 := Lib.hid (HD11.out.no hc12)
  have HC12 := Lib.hid (HC11.out.trans hc12 (fun _ _ h => h))
  have hb12' : Blk w12 b12 65 (((y.take 10 ++ x.drop 10).map bv).toArray) := by
    have h1 : (Lv5 x y).now 1 = y.take 10 ++ x.drop 10 := lv5_1
    rw [h1] at hb12; exact hb12
  have HB12 := Lib.hid (show Blk w12 b12 65 (((y.take 10 ++ x.drop 10).map bv).toArray) ∧ ¬ F11 b12 from ⟨hb12', fun h => by have := (HD11.out.rng _ h).2; omega⟩)
  clear hb12 hb12' hbl12 hc12 HC11 HD11
  -- Fuse
  go_wp2_with fail
  refine (HD12.out.fuse_ HC12.out.size 0 (by decide)).mono ?_
  rintro e w13 ⟨⟨v13, rfl⟩, F13, hD13, hc13, hg13⟩
  have HD13 := Lib.hid hD13
  have HC13 := Lib.hid (HD12.out.base HC12.out hc13)
  have HB13 := Lib.hid (show Blk w13 b12 65 (((y.take 10 ++ x.drop 10).map bv).toArray) ∧ ¬ F13 b12 from ⟨HB12.out.1.chg hc13 HB12.out.2, fun h => (hg13 _ h).elim HB12.out.2 (fun h => by have := HB12.out.1.lt; omega)⟩)
  clear hD13 hc13 hg13 HC12 HD12 HB12
  -- Write
  go_wp2_with fail
  refine (FY.out w13).mono ?_
  rintro e w14 ⟨b14, rfl, hbl14, hb14, hc14⟩
  have HD14 := Lib.hid (HD13.out.no hc14)
  have HC14 := Lib.hid (HC13.out.trans hc14 (fun _ _ h => h))
  have HB14 := Lib.hid (show Blk w14 b12 65 (((y.take 10 ++ x.drop 10).map bv).toArray) ∧ ¬ F13 b12 from ⟨HB13.out.1.chg hc14 (fun h => h), HB13.out.2⟩)
  have HR14 := Lib.hid (blk_RB hb14)
  clear hb14 hbl14 hc14 HC13 HD13 HB13
  go_wp2_with fail
  refine (HD14.out.write_ HC14.out.size 1 512 HY.out HR14.out (fun ad e => by cases e; rfl) (by simp [Dk.armed, Lv5])).mono ?_
  rintro e w15 ⟨rfl, F15, hD15, hc15, hg15⟩
  rw [(lv7 HY.out).1] at hD15
  rw [(lv7 HY.out).2]
  have HD15 := Lib.hid hD15
  have HC15 := Lib.hid (HD14.out.base HC14.out hc15)
  have HB15 := Lib.hid (HB14.out.1.chg hc15 HB14.out.2)
  clear hD15 hc15 hg15 HC14 HD14 HB14 HR14
  -- Read
  go_wp2_with fail
  refine (HD15.out.disk.read 1).mono ?_
  rintro e w16 (⟨_, rfl, rfl⟩ | ⟨h, _⟩)
  rotate_left
  · have h2 : (6 : Int) = 0 := h
    omega
  have hr6 : readE (Lv7 x y) 1 = 6 := rfl
  rw [hr6]
  clear hr6
  obtain ⟨yx, hyx⟩ : ∃ yx, yx = y.take 10 ++ x.drop 10 := ⟨_, rfl⟩
  have hb16 := HB15.out
  rw [← hyx] at hb16
  have HB16 := Lib.hid hb16
  have HYX := Lib.hid hyx
  have HYL := Lib.hid (show yx.length = 512 from by rw [hyx, List.length_append, List.length_take, List.length_drop, HX.out, HY.out]; decide)
  clear hb16 hyx HB15
  go_wp2_with fail
  refine wp_region_cl rfl (by kernel_rfl) (InvLv g b2 b5 b7 b12 b14 w9.heap.size v13 x y yx w16) ?_ ?_ ?_
  · exact ⟨0, 0, rfl, (Chg.refl _ _).drew, (fun h => by cases h), (fun h => by cases h)⟩
  ·
    intro D a w i o ho hD hcl hpre hI
    obtain ⟨s5, s8, rfl, hch, h5, h8⟩ := hI
    have hi : i < 36 := by have := (List.getElem?_eq_some_iff.1 ho).1; simpa using this
    rcases (by omega : i = 0 ∨ i = 1 ∨ i = 2 ∨ i = 3 ∨ i = 4 ∨ i = 5 ∨ i = 6 ∨ i = 7 ∨ i = 8 ∨ i = 9 ∨ i = 10 ∨ i = 11 ∨ i = 12 ∨ i = 13 ∨ i = 14 ∨ i = 15 ∨ i = 16 ∨ i = 17 ∨ i = 18 ∨ i = 19 ∨ i = 20 ∨ i = 21 ∨ i = 22 ∨ i = 23 ∨ i = 24 ∨ i = 25 ∨ i = 26 ∨ i = 27 ∨ i = 28 ∨ i = 29 ∨ i = 30 ∨ i = 31 ∨ i = 32 ∨ i = 33 ∨ i = 34 ∨ i = 35) with rfl | rfl | rfl | rfl | rfl | rfl | rfl | rfl | rfl | rfl | rfl | rfl | rfl | rfl | rfl | rfl | rfl | rfl | rfl | rfl | rfl | rfl | rfl | rfl | rfl | rfl | rfl | rfl | rfl | rfl | rfl | rfl | rfl | rfl | rfl | rfl
    · obtain rfl := Option.some.inj ho
      clear ho hpre hi hcl
      go_wp2_with fail
      unfold AtEnd
      exact ⟨s5, s8, rfl, hch, fun h => h5 (by simpa [more] using h), fun h => h8 (by simpa [more] using h)⟩
    · obtain rfl := Option.some.inj ho
      have p0 := hpre ⟨0, .data⟩ (by simp) rfl
      clear ho hpre hi hcl
      go_wp2_with fail
      unfold AtEnd
      exact ⟨s5, s8, by simp only [more, slot_true, slot_false, Nat.reduceEqDiff, ↓reduceIte, p0], hch, fun h => h5 (by simpa [more] using h), fun h => h8 (by simpa [more] using h)⟩
    · obtain rfl := Option.some.inj ho
      have p1 := hpre ⟨1, .data⟩ (by simp) rfl
      clear ho hpre hi hcl
      go_wp2_with fail
      unfold AtEnd
      exact ⟨s5, s8, by simp only [more, slot_true, slot_false, Nat.reduceEqDiff, ↓reduceIte, p1], hch, fun h => h5 (by simpa [more] using h), fun h => h8 (by simpa [more] using h)⟩
    · obtain rfl := Option.some.inj ho
      have p2 := hpre ⟨2, .guard⟩ (by simp) rfl
      clear ho hpre hi hcl
      go_wp2_with fail
      unfold AtEnd
      exact ⟨s5, s8, by simp only [more, slot_true, slot_false, Nat.reduceEqDiff, ↓reduceIte, p2], hch, fun h => h5 (by simpa [more] using h), fun h => h8 (by simpa [more] using h)⟩
    · obtain rfl := Option.some.inj ho
      have p3 := hpre ⟨3, .data⟩ (by simp) rfl
      have p2 := hpre ⟨2, .guard⟩ (by simp) rfl
      clear ho hpre hi hcl
      have hb := HB16.out.chg hch (fun h => h)
      have h0 := (blk_RB hb).toStr (n := 512) HYL.out 512 Try.underlying30 Try.underlying5 Try.underlying9
      clear hb
      go_wp2_with fail
      unfold AtEnd
      exact ⟨s5, s8, by simp only [more, slot_true, slot_false, Nat.reduceEqDiff, ↓reduceIte, p3, p2], hch, fun h => h5 (by simpa [more] using h), fun h => h8 (by simpa [more] using h)⟩
    · obtain rfl := Option.some.inj ho
      have p2 := hpre ⟨2, .chain⟩ (by simp) rfl
      have d6 : D 6 = false := (hcl.not_ 6 _ rfl 0 _ rfl rfl hD)
      clear ho hpre hi hcl
      go_wp2_with fail
      refine (FY.out w).mono ?_
      rintro e w5 ⟨b, rfl, hbl, hb, hc5⟩
      go_wp2_with fail
      unfold AtEnd
      exact ⟨b, s8, by simp only [more, slot_true, slot_false, Nat.reduceEqDiff, ↓reduceIte, p2, d6], hch.trans hc5 (fun _ _ h => h), fun _ => hb, fun h => (h8 (by simpa [more] using h)).chg hc5 (fun h => h)⟩
    · obtain rfl := Option.some.inj ho
      have p5 := hpre ⟨5, .data⟩ (by simp) rfl
      have p2 := hpre ⟨2, .guard⟩ (by simp) rfl
      clear ho hpre hi hcl
      go_wp2_with fail
      unfold AtEnd
      exact ⟨s5, s8, by simp only [more, slot_true, slot_false, Nat.reduceEqDiff, ↓reduceIte, p5, p2], hch, fun h => h5 (by simpa [more] using h), fun h => h8 (by simpa [more] using h)⟩
    · obtain rfl := Option.some.inj ho
      have p6 := hpre ⟨6, .data⟩ (by simp) rfl
      have p2 := hpre ⟨2, .guard⟩ (by simp) rfl
      have p5 : D 5 = true := (hcl.at_ 6 _ rfl p6 0 _ rfl rfl)
      clear ho hpre hi hcl
      have h0 := ((blk_RB (h5 p5)).take 10).toStr (n := 10) (by rw [List.length_take, HY.out]; rfl) 512 Try.underlying30 Try.underlying5 Try.underlying9
      go_wp2_with fail
      unfold AtEnd
      exact ⟨s5, s8, by simp only [more, slot_true, slot_false, Nat.reduceEqDiff, ↓reduceIte, p6, p2, p5], hch, fun h => h5 (by simpa [more] using h), fun h => h8 (by simpa [more] using h)⟩
    · obtain rfl := Option.some.inj ho
      have p5 := hpre ⟨5, .chain⟩ (by simp) rfl
      have p2 := hpre ⟨2, .guard⟩ (by simp) rfl
      have d9 : D 9 = false := (hcl.not_ 9 _ rfl 0 _ rfl rfl hD)
      clear ho hpre hi hcl
      go_wp2_with fail
      refine (FX.out w).mono ?_
      rintro e w5 ⟨b, rfl, hbl, hb, hc5⟩
      go_wp2_with fail
      unfold AtEnd
      exact ⟨s5, b, by simp only [more, slot_true, slot_false, Nat.reduceEqDiff, ↓reduceIte, p5, p2, d9], hch.trans hc5 (fun _ _ h => h), fun h => (h5 (by simpa [more] using h)).chg hc5 (fun h => h), fun _ => hb⟩
    · obtain rfl := Option.some.inj ho
      have p8 := hpre ⟨8, .data⟩ (by simp) rfl
      have p2 := hpre ⟨2, .guard⟩ (by simp) rfl
      clear ho hpre hi hcl
      go_wp2_with fail
      unfold AtEnd
      exact ⟨s5, s8, by simp only [more, slot_true, slot_false, Nat.reduceEqDiff, ↓reduceIte, p8, p2], hch, fun h => h5 (by simpa [more] using h), fun h => h8 (by simpa [more] using h)⟩
    · obtain rfl := Option.some.inj ho
      have p9 := hpre ⟨9, .data⟩ (by simp) rfl
      have p2 := hpre ⟨2, .guard⟩ (by simp) rfl
      have p8 : D 8 = true := (hcl.at_ 9 _ rfl p9 0 _ rfl rfl)
      clear ho hpre hi hcl
      have h0 := (show RB w w.heap.size (some ⟨s8, 10, none⟩) (x.drop 10) from (blk_RB (h8 p8)).drop (k := 10) (cap := 512) (by rw [HX.out]; decide) (by rw [HX.out]; decide)).toStr (n := 502) (by rw [List.length_drop, HX.out]) 502 Try.underlying30 Try.underlying5 Try.underlying9
      go_wp2_with fail
      unfold AtEnd
      exact ⟨s5, s8, by simp only [more, slot_true, slot_false, Nat.reduceEqDiff, ↓reduceIte, p9, p2, p8], hch, fun h => h5 (by simpa [more] using h), fun h => h8 (by simpa [more] using h)⟩
    · obtain rfl := Option.some.inj ho
      have p7 := hpre ⟨7, .data⟩ (by simp) rfl
      have p10 := hpre ⟨10, .data⟩ (by simp) rfl
      have p2 := hpre ⟨2, .guard⟩ (by simp) rfl
      clear ho hpre hi hcl
      have h0 := run_add_lists Try.prog (y.take 10) (x.drop 10) (by rw [List.length_take, List.length_drop, HX.out, HY.out]; decide) w
      rw [← HYX.out] at h0
      go_wp2_with fail
      unfold AtEnd
      exact ⟨s5, s8, by simp only [more, slot_true, slot_false, Nat.reduceEqDiff, ↓reduceIte, p7, p10, p2], hch, fun h => h5 (by simpa [more] using h), fun h => h8 (by simpa [more] using h)⟩
    · obtain rfl := Option.some.inj ho
      have p4 := hpre ⟨4, .data⟩ (by simp) rfl
      have p11 := hpre ⟨11, .data⟩ (by simp) rfl
      have p2 := hpre ⟨2, .guard⟩ (by simp) rfl
      clear ho hpre hi hcl
      go_wp2_with fail
      unfold AtEnd
      exact ⟨s5, s8, by simp only [more, slot_true, slot_false, Nat.reduceEqDiff, ↓reduceIte, p4, p11, p2], hch, fun h => h5 (by simpa [more] using h), fun h => h8 (by simpa [more] using h)⟩
    · obtain rfl := Option.some.inj ho
      have p2 := hpre ⟨2, .data⟩ (by simp) rfl
      have p12 := hpre ⟨12, .data⟩ (by simp) rfl
      clear ho hpre hi hcl
      go_wp2_with fail
      unfold AtEnd
      exact ⟨s5, s8, by simp only [more, slot_true, slot_false, Nat.reduceEqDiff, ↓reduceIte, p2, p12], hch, fun h => h5 (by simpa [more] using h), fun h => h8 (by simpa [more] using h)⟩
    · obtain rfl := Option.some.inj ho
      have p13 := hpre ⟨13, .data⟩ (by simp) rfl
      have p8 := hpre ⟨8, .chain⟩ (by simp) rfl
      clear ho hpre hi hcl
      go_wp2_with fail
      unfold AtEnd
      exact ⟨s5, s8, by simp only [more, slot_true, slot_false, Nat.reduceEqDiff, ↓reduceIte, p13, p8], hch, fun h => h5 (by simpa [more] using h), fun h => h8 (by simpa [more] using h)⟩
    · obtain rfl := Option.some.inj ho
      have p14 := hpre ⟨14, .guard⟩ (by simp) rfl
      clear ho hpre hi hcl
      go_wp2_with fail
      unfold AtEnd
      exact ⟨s5, s8, by simp only [more, slot_true, slot_false, Nat.reduceEqDiff, ↓reduceIte, p14], hch, fun h => h5 (by simpa [more] using h), fun h => h8 (by simpa [more] using h)⟩
    · obtain rfl := Option.some.inj ho
      have p15 := hpre ⟨15, .data⟩ (by simp) rfl
      have p14 := hpre ⟨14, .guard⟩ (by simp) rfl
      clear ho hpre hi hcl
      go_wp2_with fail
      unfold AtEnd
      exact ⟨s5, s8, by simp only [more, slot_true, slot_false, Nat.reduceEqDiff, ↓reduceIte, p15, p14], hch, fun h => h5 (by simpa [more] using h), fun h => h8 (by simpa [more] using h)⟩
    · obtain rfl := Option.some.inj ho
      have p14 := hpre ⟨14, .data⟩ (by simp) rfl
      have p16 := hpre ⟨16, .data⟩ (by simp) rfl
      clear ho hpre hi hcl
      go_wp2_with fail
      unfold AtEnd
      exact ⟨s5, s8, by simp only [more, slot_true, slot_false, Nat.reduceEqDiff, ↓reduceIte, p14, p16], hch, fun h => h5 (by simpa [more] using h), fun h => h8 (by simpa [more] using h)⟩
    · obtain rfl := Option.some.inj ho
      have p17 := hpre ⟨17, .data⟩ (by simp) rfl
      have p14 := hpre ⟨14, .chain⟩ (by simp) rfl
      clear ho hpre hi hcl
      go_wp2_with fail
      unfold AtEnd
      exact ⟨s5, s8, by simp only [more, slot_true, slot_false, Nat.reduceEqDiff, ↓reduceIte, p17, p14], hch, fun h => h5 (by simpa [more] using h), fun h => h8 (by simpa [more] using h)⟩
    · obtain rfl := Option.some.inj ho
      have p18 := hpre ⟨18, .guard⟩ (by simp) rfl
      clear ho hpre hi hcl
      go_wp2_with fail
      unfold AtEnd
      exact ⟨s5, s8, by simp only [more, slot_true, slot_false, Nat.reduceEqDiff, ↓reduceIte, p18], hch, fun h => h5 (by simpa [more] using h), fun h => h8 (by simpa [more] using h)⟩
    · obtain rfl := Option.some.inj ho
      have p19 := hpre ⟨19, .data⟩ (by simp) rfl
      have p18 := hpre ⟨18, .guard⟩ (by simp) rfl
      clear ho hpre hi hcl
      go_wp2_with fail
      unfold AtEnd
      exact ⟨s5, s8, by simp only [more, slot_true, slot_false, Nat.reduceEqDiff, ↓reduceIte, p19, p18], hch, fun h => h5 (by simpa [more] using h), fun h => h8 (by simpa [more] using h)⟩
    · obtain rfl := Option.some.inj ho
      have p18 := hpre ⟨18, .data⟩ (by simp) rfl
      have p20 := hpre ⟨20, .data⟩ (by simp) rfl
      clear ho hpre hi hcl
      go_wp2_with fail
      unfold AtEnd
      exact ⟨s5, s8, by simp only [more, slot_true, slot_false, Nat.reduceEqDiff, ↓reduceIte, p18, p20], hch, fun h => h5 (by simpa [more] using h), fun h => h8 (by simpa [more] using h)⟩
    · obtain rfl := Option.some.inj ho
      have p21 := hpre ⟨21, .data⟩ (by simp) rfl
      have p18 := hpre ⟨18, .chain⟩ (by simp) rfl
      clear ho hpre hi hcl
      go_wp2_with fail
      unfold AtEnd
      exact ⟨s5, s8, by simp only [more, slot_true, slot_false, Nat.reduceEqDiff, ↓reduceIte, p21, p18], hch, fun h => h5 (by simpa [more] using h), fun h => h8 (by simpa [more] using h)⟩
    · obtain rfl := Option.some.inj ho
      have p22 := hpre ⟨22, .guard⟩ (by simp) rfl
      clear ho hpre hi hcl
      go_wp2_with fail
      unfold AtEnd
      exact ⟨s5, s8, by simp only [more, slot_true, slot_false, Nat.reduceEqDiff, ↓reduceIte, p22], hch, fun h => h5 (by simpa [more] using h), fun h => h8 (by simpa [more] using h)⟩
    · obtain rfl := Option.some.inj ho
      have p23 := hpre ⟨23, .data⟩ (by simp) rfl
      have p22 := hpre ⟨22, .chain⟩ (by simp) rfl
      clear ho hpre hi hcl
      go_wp2_with fail
      refine (HD15.out.no hch).disk.loose_.mono ?_
      rintro e w5 ⟨rfl, rfl⟩
      have hll : ((Lv7 x y).loose.length : Int) = 1 := rfl
      rw [hll]
      clear hll
      go_wp2_with fail
      unfold AtEnd
      exact ⟨s5, s8, by simp only [more, slot_true, slot_false, Nat.reduceEqDiff, ↓reduceIte, p23, p22], hch, fun h => h5 (by simpa [more] using h), fun h => h8 (by simpa [more] using h)⟩
    · obtain rfl := Option.some.inj ho
      have p24 := hpre ⟨24, .data⟩ (by simp) rfl
      have p22 := hpre ⟨22, .guard⟩ (by simp) rfl
      clear ho hpre hi hcl
      go_wp2_with fail
      unfold AtEnd
      exact ⟨s5, s8, by simp only [more, slot_true, slot_false, Nat.reduceEqDiff, ↓reduceIte, p24, p22], hch, fun h => h5 (by simpa [more] using h), fun h => h8 (by simpa [more] using h)⟩
    · obtain rfl := Option.some.inj ho
      have p22 := hpre ⟨22, .data⟩ (by simp) rfl
      have p25 := hpre ⟨25, .data⟩ (by simp) rfl
      clear ho hpre hi hcl
      go_wp2_with fail
      unfold AtEnd
      exact ⟨s5, s8, by simp only [more, slot_true, slot_false, Nat.reduceEqDiff, ↓reduceIte, p22, p25], hch, fun h => h5 (by simpa [more] using h), fun h => h8 (by simpa [more] using h)⟩
    · obtain rfl := Option.some.inj ho
      have p26 := hpre ⟨26, .data⟩ (by simp) rfl
      have p24 := hpre ⟨24, .chain⟩ (by simp) rfl
      clear ho hpre hi hcl
      go_wp2_with fail
      unfold AtEnd
      exact ⟨s5, s8, by simp only [more, slot_true, slot_false, Nat.reduceEqDiff, ↓reduceIte, p26, p24], hch, fun h => h5 (by simpa [more] using h), fun h => h8 (by simpa [more] using h)⟩
    · obtain rfl := Option.some.inj ho
      have p27 := hpre ⟨27, .guard⟩ (by simp) rfl
      clear ho hpre hi hcl
      go_wp2_with fail
      unfold AtEnd
      exact ⟨s5, s8, by simp only [more, slot_true, slot_false, Nat.reduceEqDiff, ↓reduceIte, p27], hch, fun h => h5 (by simpa [more] using h), fun h => h8 (by simpa [more] using h)⟩
    · obtain rfl := Option.some.inj ho
      have p28 := hpre ⟨28, .data⟩ (by simp) rfl
      have p27 := hpre ⟨27, .chain⟩ (by simp) rfl
      clear ho hpre hi hcl
      go_wp2_with fail
      refine (HD15.out.no hch).disk.dark_.mono ?_
      rintro e w5 ⟨rfl, rfl⟩
      have hll : (Lv7 x y).dark = true := rfl
      rw [hll]
      clear hll
      go_wp2_with fail
      unfold AtEnd
      exact ⟨s5, s8, by simp only [more, slot_true, slot_false, Nat.reduceEqDiff, ↓reduceIte, p28, p27], hch, fun h => h5 (by simpa [more] using h), fun h => h8 (by simpa [more] using h)⟩
    · obtain rfl := Option.some.inj ho
      have p27 := hpre ⟨27, .data⟩ (by simp) rfl
      have p29 := hpre ⟨29, .data⟩ (by simp) rfl
      clear ho hpre hi hcl
      go_wp2_with fail
      unfold AtEnd
      exact ⟨s5, s8, by simp only [more, slot_true, slot_false, Nat.reduceEqDiff, ↓reduceIte, p27, p29], hch, fun h => h5 (by simpa [more] using h), fun h => h8 (by simpa [more] using h)⟩
    · obtain rfl := Option.some.inj ho
      have p30 := hpre ⟨30, .data⟩ (by simp) rfl
      have p29 := hpre ⟨29, .chain⟩ (by simp) rfl
      clear ho hpre hi hcl
      go_wp2_with fail
      unfold AtEnd
      exact ⟨s5, s8, by simp only [more, slot_true, slot_false, Nat.reduceEqDiff, ↓reduceIte, p30, p29], hch, fun h => h5 (by simpa [more] using h), fun h => h8 (by simpa [more] using h)⟩
    · obtain rfl := Option.some.inj ho
      have p31 := hpre ⟨31, .data⟩ (by simp) rfl
      clear ho hpre hi hcl
      go_wp2_with fail
      unfold AtEnd
      exact ⟨s5, s8, by simp only [more, slot_true, slot_false, Nat.reduceEqDiff, ↓reduceIte, p31], hch, fun h => h5 (by simpa [more] using h), fun h => h8 (by simpa [more] using h)⟩
    · obtain rfl := Option.some.inj ho
      have p32 := hpre ⟨32, .data⟩ (by simp) rfl
      have p31 := hpre ⟨31, .chain⟩ (by simp) rfl
      clear ho hpre hi hcl
      go_wp2_with fail
      unfold AtEnd
      exact ⟨s5, s8, by simp only [more, slot_true, slot_false, Nat.reduceEqDiff, ↓reduceIte, p32, p31], hch, fun h => h5 (by simpa [more] using h), fun h => h8 (by simpa [more] using h)⟩
    · obtain rfl := Option.some.inj ho
      have p33 := hpre ⟨33, .data⟩ (by simp) rfl
      clear ho hpre hi hcl
      go_wp2_with fail
      unfold AtEnd
      exact ⟨s5, s8, by simp only [more, slot_true, slot_false, Nat.reduceEqDiff, ↓reduceIte, p33], hch, fun h => h5 (by simpa [more] using h), fun h => h8 (by simpa [more] using h)⟩
    · obtain rfl := Option.some.inj ho
      have p34 := hpre ⟨34, .data⟩ (by simp) rfl
      have p33 := hpre ⟨33, .chain⟩ (by simp) rfl
      clear ho hpre hi hcl
      go_wp2_with fail
      unfold AtEnd
      exact ⟨s5, s8, by simp only [more, slot_true, slot_false, Nat.reduceEqDiff, ↓reduceIte, p34, p33], hch, fun h => h5 (by simpa [more] using h), fun h => h8 (by simpa [more] using h)⟩
  · intro D a w hall hI
    obtain ⟨s5, s8, rfl, hch, h5, h8⟩ := hI
    simp only [hall 35 (by decide), slot_true]
    have HFIN := Lib.hid (HC15.out.trans hch (fun _ _ h => h))
    clear hch hall h5 h8
    go_wp2_with fail
    go_ret
    exact ⟨rfl, HFIN.out⟩
end Go.Proofs.Ytmkbahhnjobglaa
