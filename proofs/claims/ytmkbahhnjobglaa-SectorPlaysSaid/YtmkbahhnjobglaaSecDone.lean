/-
  THE WALK of the laws' done.
-/
import Derived.Test.YtmkbahhnjobglaaSecPlay
namespace Go.Proofs.Ytmkbahhnjobglaa
open Go.RowKit
set_option linter.unusedSimpArgs false
set_option linter.unusedVariables false
def InvDn (g k c j NN : Nat) (ad : Addr) (n xi xlong : Int) (xc : UInt8) (u27 u28 u36 u37 u38 u39 u40 u41 u42 u43 u44 u45 u46 u47 u48 u49 u50 u51 u52 u53 u54 u55 u56 u57 u58 u59 u60 u61 u62 u63 u64 u65 u66 : Value) (W w0 : World) (K K2 : Dk) (F : Nat → Prop) (D : Nat → Bool) (a : Act) (w : World) : Prop :=
  ∃ (s16 : Nat) (v17 : Value), a = { tmps := #[.int .i64 n, .slice (some ad) k c, undef, undef, .pointer none, .pointer (some ⟨g, 0, none⟩), .int .i64 0, .int .i64 (j : Int), .tuple #[.pointer (some ⟨g, 0, none⟩), .int .i64 0], .int .i64 n, .tuple #[.pointer (some ⟨g, 0, none⟩), .int .i64 0], .pointer (some ⟨g, 0, none⟩), .int .i64 0, .int .i64 0, .bool false, .bool false, .pointer (some ⟨g, 0, none⟩), .bool false, .bool false, .int .i64 (j : Int), .slice (some ad) k c, .int .i64 (k : Int), .bool true, .bool true, .int .i64 (j : Int), .bool true, .bool true, u27, u28, .slice (some ad) k c, .int .i64 (j : Int), .pointer (some (ad.add (j * 5))), .pointer (some (ad.add (j * 5))), .int .i64 1, .bool true, .bool true, (slot (D 0) (.pointer (some ⟨g, 0, none⟩)) (u36)), (slot (D 1) (.slice (some ad) k c) (u37)), (slot (D 2) (.int .i64 (j : Int)) (u38)), (slot (D 3) (.pointer (some (ad.add (j * 5)))) (u39)), (slot (D 4) (.pointer (some ⟨(ad.add (j * 5)).block, (ad.add (j * 5)).off + 1, none⟩)) (u40)), (slot (D 5) (.int .i64 xi) (u41)), (slot (D 6) (.slice (some ad) k c) (u42)), (slot (D 7) (.int .i64 (j : Int)) (u43)), (slot (D 8) (.pointer (some (ad.add (j * 5)))) (u44)), (slot (D 9) (.pointer (some ⟨(ad.add (j * 5)).block, (ad.add (j * 5)).off + 2, none⟩)) (u45)), (slot (D 10) (.int .u8 (xc.toNat : Int)) (u46)), (slot (D 11) (.slice (some ad) k c) (u47)), (slot (D 12) (.int .i64 (j : Int)) (u48)), (slot (D 13) (.pointer (some (ad.add (j * 5)))) (u49)), (slot (D 14) (.pointer (some ⟨(ad.add (j * 5)).block, (ad.add (j * 5)).off + 3, none⟩)) (u50)), (slot (D 15) (.int .i64 xlong) (u51)), (slot (D 16) (.slice (some ⟨s16, 0, none⟩) NN NN) (u52)), (slot (D 17) (v17) (u53)), u54, u55, u56, u57, u58, u59, u60, u61, u62, u63, u64, u65, u66, undef], defers := [] } ∧
    (D 16 = true → D 17 = false → Blk w s16 5 ((fillL xc NN).map bv).toArray) ∧
    (D 17 = false → Chg NoB w0 w) ∧
    (D 17 = true → ∃ F5, DI W.heap.size w g K2 F5 ∧ Chg NoB W w) ∧
    (w0.heap.size ≤ w.heap.size)
set_option maxRecDepth 100000 in
set_option maxHeartbeats 8000000 in
theorem done_any (n : Int) (A : Option Addr) (k c : Nat) (l : List ActV) (W : World) (hA : Acts W W.heap.size A k l) (h0 : 1 ≤ n) (h1 : n ≤ 8192) (hk : k ≤ 40) :
    Calls Try.prog 19 #[.int .i64 n, .slice A k c] W fun e w' => ∃ g F', e = .returned (.pointer (some ⟨g, 0, none⟩)) ∧ DI W.heap.size w' g (doneK n l) F' ∧ Chg NoB W w' := by
  have HA := Lib.hid hA
  have HN := Lib.hid (show 1 ≤ n ∧ n ≤ 8192 from ⟨h0, h1⟩)
  clear hA h0 h1
  go_enter Try.func19, Try.ntmps19
  go_wp2_with fail
  refine (DI.new_ n W HN.out.1 HN.out.2).mono ?_
  rintro e w1 ⟨g, F1, rfl, hD1, hc1⟩
  have HD1 := Lib.hid hD1
  have HC1 := Lib.hid hc1
  clear hD1 hc1
  go_wp2_with fail
  go_loopw [7] (fun i wr => ∃ j : Nat, j ≤ k ∧ i = .int .i64 j ∧ (∃ F', DI W.heap.size wr g (doneK n (l.take j)) F') ∧ Chg NoB W wr) (fun i _ => k - (intOf i).toNat)
  case atStart => exact ⟨0, Nat.zero_le _, rfl, ⟨F1, HD1.out⟩, HC1.out⟩
  case round =>
    obtain ⟨j, hj, rfl, ⟨F2, hD2⟩, hch⟩ := hrel
    have HD2 := Lib.hid hD2
    have HCH := Lib.hid hch
    clear hD2 hch
    by_cases hlt : j < k
    · obtain ⟨ad, x, rfl, hadb, hxj, hat, hok⟩ := HA.out.at_ hlt
      have HOK := Lib.hid hok
      have hA2 := HA.out.no HCH.out (Nat.le_refl _)
      obtain ⟨ad', x', e1, _, e2, hat2, hok2⟩ := hA2.at_ hlt
      obtain rfl : ad = ad' := by injection e1
      obtain rfl : x = x' := by rw [hxj] at e2; injection e2
      have HTK := Lib.hid (show doneK n (l.take (j + 1)) = (doneK n (l.take j)).act x from by
        rw [show l.take (j + 1) = l.take j ++ [x] from by rw [List.take_add_one, hxj]; rfl, doneK_snoc])
      have c0 := hat2.c0
      have HAT := Lib.hid hat2
      have HROW := Lib.hid hok2.row
      clear e1 e2 hat hok hok2 hA2 hat2 hxj
      have hkind : x.kind = 1 ∨ x.kind = 2 ∨ x.kind = 4 ∨ (¬ x.kind = 1 ∧ ¬ x.kind = 2 ∧ ¬ x.kind = 4) := by omega
      have HOKJ := Lib.hid ((DOk.done_ n (l.take j)).loose)
      have HLJ := Lib.hid (show (l.take j).length ≤ 40 from by rw [List.length_take]; omega)
      rcases hkind with hk1 | hk2 | hk4 | ⟨hk1, hk2, hk4⟩
      · have HK := Lib.hid hk1
        have hc1 := HAT.out.c1
        have hc2 := HAT.out.c2
        have hc3 := HAT.out.c3
        have hj40 : (j : Int) < 40 := by omega
        have ADL := Lib.hid (show (ad.add (j * 5)).block < wr.heap.size from by rw [block_of_add]; have := HCH.out.size; omega)
        obtain ⟨NN, hNN⟩ : ∃ NN, NN = fillN x.long := ⟨_, rfl⟩
        have HNN := Lib.hid hNN
        clear hNN
        have HC1 := Lib.hid hc1
        have HC2 := Lib.hid hc2
        have HC3 := Lib.hid hc3
        clear hc1 hc2 hc3
        go_wp2_with fail
        refine wp_region_cl rfl (by kernel_rfl) (InvDn g k c j NN ad n x.i x.long x.c u27 u28 u36 u37 u38 u39 u40 u41 u42 u43 u44 u45 u46 u47 u48 u49 u50 u51 u52 u53 u54 u55 u56 u57 u58 u59 u60 u61 u62 u63 u64 u65 u66 W wr (doneK n (l.take j)) ((doneK n (l.take j)).write x.i (fillL x.c NN)) F2) ?_ ?_ ?_
        · exact ⟨0, undef, rfl, (fun h _ => by cases h), fun _ => (Chg.refl _ _).drew, (fun h => by cases h), Nat.le_refl _⟩
        ·
          intro D a w i o ho hD hcl hpre hI
          obtain ⟨s16, v17, rfl, hb, hp0, hp1, hcn⟩ := hI
          have hi : i < 18 := by have := (List.getElem?_eq_some_iff.1 ho).1; simpa using this
          rcases (by omega : i = 0 ∨ i = 1 ∨ i = 2 ∨ i = 3 ∨ i = 4 ∨ i = 5 ∨ i = 6 ∨ i = 7 ∨ i = 8 ∨ i = 9 ∨ i = 10 ∨ i = 11 ∨ i = 12 ∨ i = 13 ∨ i = 14 ∨ i = 15 ∨ i = 16 ∨ i = 17) with rfl | rfl | rfl | rfl | rfl | rfl | rfl | rfl | rfl | rfl | rfl | rfl | rfl | rfl | rfl | rfl | rfl | rfl
          · obtain rfl := Option.some.inj ho
            clear ho hpre hi hcl
            go_wp2_with fail
            unfold AtEnd
            exact ⟨s16, v17, rfl, fun h1 h2 => hb (by simpa [more] using h1) (by simpa [more] using h2), fun h => hp0 (by simpa [more] using h), fun h => hp1 (by simpa [more] using h), hcn⟩
          · obtain rfl := Option.some.inj ho
            clear ho hpre hi hcl
            go_wp2_with fail
            unfold AtEnd
            exact ⟨s16, v17, rfl, fun h1 h2 => hb (by simpa [more] using h1) (by simpa [more] using h2), fun h => hp0 (by simpa [more] using h), fun h => hp1 (by simpa [more] using h), hcn⟩
          · obtain rfl := Option.some.inj ho
            clear ho hpre hi hcl
            go_wp2_with fail
            unfold AtEnd
            exact ⟨s16, v17, rfl, fun h1 h2 => hb (by simpa [more] using h1) (by simpa [more] using h2), fun h => hp0 (by simpa [more] using h), fun h => hp1 (by simpa [more] using h), hcn⟩
          · obtain rfl := Option.some.inj ho
            have p1 := hpre ⟨1, .data⟩ (by simp) rfl
            have p2 := hpre ⟨2, .data⟩ (by simp) rfl
            clear ho hpre hi hcl
            go_wp2_with fail
            unfold AtEnd
            exact ⟨s16, v17, by simp only [more, slot_true, slot_false, Nat.reduceEqDiff, ↓reduceIte, p1, p2], fun h1 h2 => hb (by simpa [more] using h1) (by simpa [more] using h2), fun h => hp0 (by simpa [more] using h), fun h => hp1 (by simpa [more] using h), hcn⟩
          · obtain rfl := Option.some.inj ho
            have p3 := hpre ⟨3, .data⟩ (by simp) rfl
            clear ho hpre hi hcl
            go_wp2_with fail
            unfold AtEnd
            exact ⟨s16, v17, by simp only [more, slot_true, slot_false, Nat.reduceEqDiff, ↓reduceIte, p3], fun h1 h2 => hb (by simpa [more] using h1) (by simpa [more] using h2), fun h => hp0 (by simpa [more] using h), fun h => hp1 (by simpa [more] using h), hcn⟩
          · obtain rfl := Option.some.inj ho
            have p4 := hpre ⟨4, .data⟩ (by simp) rfl
            have d17 : D 17 = false := (hcl.not_ 17 _ rfl 1 _ rfl rfl hD)
            clear ho hpre hi hcl
            have cq := cell_of_heap (w := wr) (w' := w) (p := ⟨(ad.add (j * 5)).block, (ad.add (j * 5)).off + 1, none⟩) ((hp0 d17).block _ ADL.out (fun h => h))
            rw [HC1.out] at cq
            go_wp2_with fail
            unfold AtEnd
            exact ⟨s16, v17, by simp only [more, slot_true, slot_false, Nat.reduceEqDiff, ↓reduceIte, p4, d17], fun h1 h2 => hb (by simpa [more] using h1) (by simpa [more] using h2), fun h => hp0 (by simpa [more] using h), fun h => hp1 (by simpa [more] using h), hcn⟩
          · obtain rfl := Option.some.inj ho
            clear ho hpre hi hcl
            go_wp2_with fail
            unfold AtEnd
            exact ⟨s16, v17, rfl, fun h1 h2 => hb (by simpa [more] using h1) (by simpa [more] using h2), fun h => hp0 (by simpa [more] using h), fun h => hp1 (by simpa [more] using h), hcn⟩
          · obtain rfl := Option.some.inj ho
            clear ho hpre hi hcl
            go_wp2_with fail
            unfold AtEnd
            exact ⟨s16, v17, rfl, fun h1 h2 => hb (by simpa [more] using h1) (by simpa [more] using h2), fun h => hp0 (by simpa [more] using h), fun h => hp1 (by simpa [more] using h), hcn⟩
          · obtain rfl := Option.some.inj ho
            have p6 := hpre ⟨6, .data⟩ (by simp) rfl
            have p7 := hpre ⟨7, .data⟩ (by simp) rfl
            clear ho hpre hi hcl
            go_wp2_with fail
            unfold AtEnd
            exact ⟨s16, v17, by simp only [more, slot_true, slot_false, Nat.reduceEqDiff, ↓reduceIte, p6, p7], fun h1 h2 => hb (by simpa [more] using h1) (by simpa [more] using h2), fun h => hp0 (by simpa [more] using h), fun h => hp1 (by simpa [more] using h), hcn⟩
          · obtain rfl := Option.some.inj ho
            have p8 := hpre ⟨8, .data⟩ (by simp) rfl
            clear ho hpre hi hcl
            go_wp2_with fail
            unfold AtEnd
            exact ⟨s16, v17, by simp only [more, slot_true, slot_false, Nat.reduceEqDiff, ↓reduceIte, p8], fun h1 h2 => hb (by simpa [more] using h1) (by simpa [more] using h2), fun h => hp0 (by simpa [more] using h), fun h => hp1 (by simpa [more] using h), hcn⟩
          · obtain rfl := Option.some.inj ho
            have p9 := hpre ⟨9, .data⟩ (by simp) rfl
            have d17 : D 17 = false := (hcl.not_ 17 _ rfl 2 _ rfl rfl (hcl.not_ 16 _ rfl 0 _ rfl rfl hD))
            clear ho hpre hi hcl
            have cq := cell_of_heap (w := wr) (w' := w) (p := ⟨(ad.add (j * 5)).block, (ad.add (j * 5)).off + 2, none⟩) ((hp0 d17).block _ ADL.out (fun h => h))
            rw [HC2.out] at cq
            go_wp2_with fail
            unfold AtEnd
            exact ⟨s16, v17, by simp only [more, slot_true, slot_false, Nat.reduceEqDiff, ↓reduceIte, p9, d17], fun h1 h2 => hb (by simpa [more] using h1) (by simpa [more] using h2), fun h => hp0 (by simpa [more] using h), fun h => hp1 (by simpa [more] using h), hcn⟩
          · obtain rfl := Option.some.inj ho
            clear ho hpre hi hcl
            go_wp2_with fail
            unfold AtEnd
            exact ⟨s16, v17, rfl, fun h1 h2 => hb (by simpa [more] using h1) (by simpa [more] using h2), fun h => hp0 (by simpa [more] using h), fun h => hp1 (by simpa [more] using h), hcn⟩
          · obtain rfl := Option.some.inj ho
            clear ho hpre hi hcl
            go_wp2_with fail
            unfold AtEnd
            exact ⟨s16, v17, rfl, fun h1 h2 => hb (by simpa [more] using h1) (by simpa [more] using h2), fun h => hp0 (by simpa [more] using h), fun h => hp1 (by simpa [more] using h), hcn⟩
          · obtain rfl := Option.some.inj ho
            have p11 := hpre ⟨11, .data⟩ (by simp) rfl
            have p12 := hpre ⟨12, .data⟩ (by simp) rfl
            clear ho hpre hi hcl
            go_wp2_with fail
            unfold AtEnd
            exact ⟨s16, v17, by simp only [more, slot_true, slot_false, Nat.reduceEqDiff, ↓reduceIte, p11, p12], fun h1 h2 => hb (by simpa [more] using h1) (by simpa [more] using h2), fun h => hp0 (by simpa [more] using h), fun h => hp1 (by simpa [more] using h), hcn⟩
          · obtain rfl := Option.some.inj ho
            have p13 := hpre ⟨13, .data⟩ (by simp) rfl
            clear ho hpre hi hcl
            go_wp2_with fail
            unfold AtEnd
            exact ⟨s16, v17, by simp only [more, slot_true, slot_false, Nat.reduceEqDiff, ↓reduceIte, p13], fun h1 h2 => hb (by simpa [more] using h1) (by simpa [more] using h2), fun h => hp0 (by simpa [more] using h), fun h => hp1 (by simpa [more] using h), hcn⟩
          · obtain rfl := Option.some.inj ho
            have p14 := hpre ⟨14, .data⟩ (by simp) rfl
            have d17 : D 17 = false := (hcl.not_ 17 _ rfl 2 _ rfl rfl (hcl.not_ 16 _ rfl 1 _ rfl rfl hD))
            clear ho hpre hi hcl
            have cq := cell_of_heap (w := wr) (w' := w) (p := ⟨(ad.add (j * 5)).block, (ad.add (j * 5)).off + 3, none⟩) ((hp0 d17).block _ ADL.out (fun h => h))
            rw [HC3.out] at cq
            go_wp2_with fail
            unfold AtEnd
            exact ⟨s16, v17, by simp only [more, slot_true, slot_false, Nat.reduceEqDiff, ↓reduceIte, p14, d17], fun h1 h2 => hb (by simpa [more] using h1) (by simpa [more] using h2), fun h => hp0 (by simpa [more] using h), fun h => hp1 (by simpa [more] using h), hcn⟩
          · obtain rfl := Option.some.inj ho
            have p10 := hpre ⟨10, .data⟩ (by simp) rfl
            have p15 := hpre ⟨15, .data⟩ (by simp) rfl
            have d17 : D 17 = false := (hcl.not_ 17 _ rfl 2 _ rfl rfl hD)
            clear ho hpre hi hcl
            simp only [p10, p15, slot_true]
            go_wp2_with fail
            refine (filled_any x.c x.long w).mono ?_
            rintro e w5 ⟨s, rfl, hsl, hs, hc5⟩
            rw [← HNN.out] at hs ⊢
            go_wp2_with fail
            unfold AtEnd
            exact ⟨s, v17, by simp only [more, slot_true, slot_false, Nat.reduceEqDiff, ↓reduceIte, p10, p15, d17], fun _ _ => hs, fun _ => (hp0 d17).trans hc5 (fun _ _ h => h), fun h => by simp [more, d17] at h, Nat.le_trans hcn hc5.size⟩
          · obtain rfl := Option.some.inj ho
            have p0 := hpre ⟨0, .data⟩ (by simp) rfl
            have p5 := hpre ⟨5, .data⟩ (by simp) rfl
            have p16 := hpre ⟨16, .data⟩ (by simp) rfl
            clear ho hpre hi hcl
            have hDD := HD2.out.no (hp0 hD)
            have hbb := blk_RB (hb p16 hD)
            simp only [p0, p5, p16, slot_true]
            go_wp2_with fail
            refine (hDD.write_ (Nat.le_trans HCH.out.size hcn) x.i NN (fillL_len x.c NN) hbb (fun ad e => by cases e; rfl) (Nat.le_trans HOKJ.out (by have := HLJ.out; omega))).mono ?_
            rintro e w5 ⟨rfl, F5, hD5, hc5, _⟩
            go_wp2_with fail
            unfold AtEnd
            exact ⟨s16, .int .i64 (writeE (doneK n (l.take j)) x.i (fillL x.c NN)), by simp only [more, slot_true, slot_false, Nat.reduceEqDiff, ↓reduceIte, p0, p5, p16], fun _ h => by simp [more] at h, fun h => by simp [more] at h, fun _ => ⟨F5, hD5, hDD.base (HCH.out.trans (hp0 hD) (fun _ _ h => h)) hc5⟩, Nat.le_trans hcn hc5.size⟩
        · intro D a w hall hI
          obtain ⟨s16, v17, rfl, hb, hp0, hp1, hcn⟩ := hI
          have HP := Lib.hid (hp1 (hall 17 (by decide)))
          have HC := Lib.hid hcn
          clear hp0 hp1 hcn hall hb
          go_wp2_with fail
          obtain ⟨F5, hD5, hc5⟩ := HP.out
          go_roundw
          case rel => exact ⟨j + 1, by omega, by simp, ⟨_, by rw [HTK.out]; unfold Dk.act; rw [if_pos HK.out]; rw [← HNN.out]; exact hD5⟩, hc5⟩
          case measure => simp [intOf]; omega
      · have HK := Lib.hid hk2
        go_wp2_with fail
        refine (HD2.out.sync_ HCH.out.size (Nat.le_trans HOKJ.out (by have := HLJ.out; omega))).mono ?_
        rintro e w5 ⟨rfl, F5, hD5, hc5, _⟩
        have HD5 := Lib.hid hD5
        have HC5 := Lib.hid (HD2.out.base HCH.out hc5)
        clear hD5 hc5
        go_wp2_with fail
        go_roundw
        case rel => exact ⟨j + 1, by omega, by simp, ⟨_, by rw [HTK.out]; unfold Dk.act; rw [if_neg (by rw [HK.out]; decide), if_pos HK.out]; exact HD5.out⟩, HC5.out⟩
        case measure => simp [intOf]; omega
      · have HK := Lib.hid hk4
        have c4 := HAT.out.c4
        go_wp2_with fail
        refine (HD2.out.crash_ HCH.out.size (Nat.le_trans HOKJ.out (by have := HLJ.out; omega)) x.kc HOK.out.len (HROW.out.more HCH.out.size) HOK.out.nil (fun h0 ad' e hf => by
          obtain ⟨ad2, e2, hb2, _⟩ := HOK.out.row.2 h0
          rw [e] at e2; injection e2 with e2
          have h1 := (HD2.out.rng _ hf).1
          rw [e2] at h1; omega) HOK.out.rng).mono ?_
        rintro e w5 ⟨rfl, F5, hD5, hc5, _⟩
        have HD5 := Lib.hid hD5
        have HC5 := Lib.hid (HD2.out.base HCH.out hc5)
        clear hD5 hc5
        go_wp2_with fail
        go_roundw
        case rel => exact ⟨j + 1, by omega, by simp, ⟨_, by rw [HTK.out]; unfold Dk.act; rw [if_neg (by rw [HK.out]; decide), if_neg (by rw [HK.out]; decide), if_pos HK.out]; exact HD5.out⟩, HC5.out⟩
        case measure => simp [intOf]; omega
      · have HK := Lib.hid (show ¬ x.kind = 1 ∧ ¬ x.kind = 2 ∧ ¬ x.kind = 4 from ⟨hk1, hk2, hk4⟩)
        go_wp2_with fail
        go_roundw
        case rel => exact ⟨j + 1, by omega, by simp, ⟨F2, by rw [HTK.out]; unfold Dk.act; rw [if_neg HK.out.1, if_neg HK.out.2.1, if_neg HK.out.2.2]; exact HD2.out⟩, HCH.out⟩
        case measure => simp [intOf]; omega
    · obtain rfl : j = k := by omega
      go_wp2_with fail
      go_ret
      exact ⟨g, F2, rfl, by have h := HD2.out; rw [List.take_of_length_le (by rw [HA.out.1]; exact Nat.le_refl _)] at h; exact h, HCH.out⟩
end Go.Proofs.Ytmkbahhnjobglaa
