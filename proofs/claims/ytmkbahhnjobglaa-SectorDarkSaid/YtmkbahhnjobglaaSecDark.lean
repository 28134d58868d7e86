/-
  THE WALK of SectorDark.
-/
import Derived.Test.YtmkbahhnjobglaaSecRefuses
namespace Go.Proofs.Ytmkbahhnjobglaa
open Go.RowKit
set_option linter.unusedSimpArgs false
set_option linter.unusedVariables false
/-- a disk with a fuse: so many changes are done still; where it is dark, none -/
structure FOk (K : Dk) (left : Int) (m : Nat) : Prop where
  n : K.n = 9
  fuse : K.fuse = left
  left0 : 0 ≤ left
  left1 : left ≤ 9223372036854775807
  dark : K.dark = true → left = 0
  loose : K.loose.length ≤ m
def fE (left : Int) : Int := if 0 < left then 0 else 6
theorem FOk.write_ {K : Dk} {left : Int} {m : Nat} (h : FOk K left m) {i : Int} {l : List UInt8} (h0 : 0 ≤ i) (h1 : i < 9) (hl : l.length = 512) :
    writeE K i l = fE left ∧ FOk (K.write i l) (max 0 (left - 1)) (m + 1) ∧ (K.write i l).dark = decide (left = 0) := by
  have hb : ¬ wBad K i l := by unfold wBad; rw [h.n]; omega
  have hl0 := h.left0
  have hl1 := h.left1
  by_cases hd : K.dark = true
  · have h2 := h.dark hd
    have hw : K.write i l = K := by unfold Dk.write; rw [if_pos (.inr hd)]
    rw [hw]
    refine ⟨?_, ⟨h.n, ?_, by omega, by omega, fun _ => by omega, by have := h.loose; omega⟩, ?_⟩
    · unfold writeE fE; rw [if_neg hb, if_pos hd, if_neg (by omega)]
    · rw [h.fuse]; omega
    · rw [hd, h2]; rfl
  · have hw : K.write i l = K.wrote i l := by unfold Dk.write; rw [if_neg (fun h => h.elim hb hd)]
    have hdf : K.dark = false := by simpa using hd
    rw [hw]
    refine ⟨?_, ⟨h.n, ?_, by omega, by omega, fun hx => ?_, ?_⟩, ?_⟩
    · unfold writeE fE
      rw [if_neg hb, if_neg hd, h.fuse]
      by_cases h0 : left = 0
      · rw [if_pos h0, if_neg (by omega)]
      · rw [if_neg h0, if_pos (by omega)]
    · show (if 0 < K.fuse then K.fuse - 1 else K.fuse) = max 0 (left - 1)
      rw [h.fuse]; split <;> omega
    · have h2 : (K.dark || K.fuse == 0) = true := hx
      rw [hdf, h.fuse] at h2; simp at h2; omega
    · show (K.loose ++ [(i, l)]).length ≤ m + 1
      have := h.loose
      simp; omega
    · show (K.dark || K.fuse == 0) = decide (left = 0)
      rw [hdf, h.fuse]; rfl
theorem FOk.sync_ {K : Dk} {left : Int} {m : Nat} (h : FOk K left m) :
    syncE K = fE left ∧ FOk K.sync (max 0 (left - 1)) (m + 1) ∧ K.sync.dark = decide (left = 0) := by
  have hl0 := h.left0
  have hl1 := h.left1
  by_cases hd : K.dark = true
  · have h2 := h.dark hd
    have hw : K.sync = K := by unfold Dk.sync; rw [if_pos hd]
    rw [hw]
    refine ⟨?_, ⟨h.n, ?_, by omega, by omega, fun _ => by omega, by have := h.loose; omega⟩, ?_⟩
    · unfold syncE fE; rw [if_pos (.inl hd), if_neg (by omega)]
    · rw [h.fuse]; omega
    · rw [hd, h2]; rfl
  · have hdf : K.dark = false := by simpa using hd
    by_cases h0 : left = 0
    · have hw : K.sync = K.spent := by unfold Dk.sync; rw [if_neg hd, if_pos (by rw [h.fuse]; exact h0)]
      rw [hw]
      refine ⟨?_, ⟨h.n, ?_, by omega, by omega, fun _ => by omega, by have := h.loose; exact Nat.le_trans this (by omega)⟩, ?_⟩
      · unfold syncE fE; rw [if_pos (.inr (by rw [h.fuse]; exact h0)), if_neg (by omega)]
      · show (if 0 < K.fuse then K.fuse - 1 else K.fuse) = max 0 (left - 1)
        rw [h.fuse]; split <;> omega
      · show (K.dark || K.fuse == 0) = decide (left = 0)
        rw [hdf, h.fuse]; rfl
    · have hw : K.sync = { K.spent with sure := settle K.sure K.loose, loose := [] } := by unfold Dk.sync; rw [if_neg hd, if_neg (by rw [h.fuse]; exact h0)]
      rw [hw]
      refine ⟨?_, ⟨h.n, ?_, by omega, by omega, fun hx => ?_, Nat.zero_le _⟩, ?_⟩
      · unfold syncE fE; rw [if_neg (fun h2 => h2.elim hd (by rw [h.fuse]; exact h0)), if_pos (by omega)]
      · show (if 0 < K.fuse then K.fuse - 1 else K.fuse) = max 0 (left - 1)
        rw [h.fuse]; split <;> omega
      · have h2 : (K.dark || K.fuse == 0) = true := hx
        rw [hdf, h.fuse] at h2; simp at h2; omega
      · show (K.dark || K.fuse == 0) = decide (left = 0)
        rw [hdf, h.fuse]; rfl
theorem FOk.new_ (fuse : Int) (hf : fuse ≤ 9223372036854775807) : FOk ((Dk.new 9).armed fuse) (max 0 fuse) 0 :=
  ⟨rfl, rfl, by omega, by omega, fun h => (by cases h), Nat.zero_le _⟩
theorem crash_sync (K : Dk) (ks : List Int) : syncE (K.crash ks) = 0 := rfl
def InvDk (g k c j : Nat) (ad : Addr) (fuse left m0 : Int) (x : ActV) (q12 v2 q40 u4 u33 u34 u41 u42 u43 u44 u45 u46 u47 u48 u49 u50 u51 u52 u53 u54 u55 u56 u57 u58 u59 u60 u61 u62 u63 u64 u65 u66 u67 u68 u69 u70 u71 u72 u73 u74 u75 u76 u77 u78 u79 u80 u81 : Value) (W w0 : World) (K2 : Dk) (D : Nat → Bool) (a : Act) (w : World) : Prop :=
  ∃ (s14 : Nat), a = { tmps := #[.int .i64 fuse, .slice (some ad) k c, undef, undef, u4, .pointer (some ⟨g, 0, none⟩), .int .i64 0, .int .i64 left, .int .i64 (j : Int), (slot (D 16) (.int .i64 (fE left)) (.int .i64 0)), .slice (some ad) k c, .int .i64 (k : Int), q12, undef, .tuple #[.pointer (some ⟨g, 0, none⟩), .int .i64 0], .tuple #[.pointer (some ⟨g, 0, none⟩), .int .i64 0], .pointer (some ⟨g, 0, none⟩), .int .i64 0, .int .i64 0, .bool false, .bool false, .pointer (some ⟨g, 0, none⟩), .bool false, .bool false, .pointer (some ⟨g, 0, none⟩), .int .i64 fuse, v2, .int .i64 fuse, .int .i64 m0, .int .i64 (j : Int), .slice (some ad) k c, .int .i64 (k : Int), .bool true, u33, u34, .slice (some ad) k c, .int .i64 (j : Int), .pointer (some (ad.add (j * 5))), .pointer (some (ad.add (j * 5))), .int .i64 x.kind, q40, u41, u42, (slot (D 0) (.pointer (some ⟨g, 0, none⟩)) (u43)), (slot (D 1) (.slice (some ad) k c) (u44)), (slot (D 2) (.int .i64 (j : Int)) (u45)), (slot (D 3) (.pointer (some (ad.add (j * 5)))) (u46)), (slot (D 4) (.pointer (some ⟨(ad.add (j * 5)).block, (ad.add (j * 5)).off + 1, none⟩)) (u47)), (slot (D 5) (.int .i64 x.i) (u48)), (slot (D 6) (.int .u64 (x.i % 18446744073709551616)) (u49)), (slot (D 7) (.int .u64 (x.i % 18446744073709551616 % 9)) (u50)), (slot (D 8) (.int .i64 (x.i % 18446744073709551616 % 9)) (u51)), (slot (D 9) (.slice (some ad) k c) (u52)), (slot (D 10) (.int .i64 (j : Int)) (u53)), (slot (D 11) (.pointer (some (ad.add (j * 5)))) (u54)), (slot (D 12) (.pointer (some ⟨(ad.add (j * 5)).block, (ad.add (j * 5)).off + 2, none⟩)) (u55)), (slot (D 13) (.int .u8 (x.c.toNat : Int)) (u56)), (slot (D 14) (.slice (some ⟨s14, 0, none⟩) 512 512) (u57)), (slot (D 15) (.int .i64 (fE left)) (u58)), u59, u60, u61, u62, u63, u64, u65, u66, u67, u68, u69, u70, u71, u72, u73, u74, u75, u76, u77, u78, u79, u80, u81, undef, undef, undef, undef, undef, undef, undef, undef, undef, undef, undef, undef, undef], defers := [] } ∧
    (D 14 = true → D 15 = false → Blk w s14 5 ((fillL x.c 512).map bv).toArray) ∧
    (D 15 = false → Chg NoB w0 w) ∧
    (D 15 = true → ∃ F5, DI W.heap.size w g K2 F5 ∧ Chg NoB W w) ∧
    (w0.heap.size ≤ w.heap.size)
set_option maxRecDepth 100000 in
set_option maxHeartbeats 8000000 in
theorem sectorDark_walk (fuse : Int) (A : Option Addr) (k c : Nat) (l : List ActV) (W : World) (hfw : (Lit.int .i64 fuse).wf = true) (hA : Acts W W.heap.size A k l) :
    Calls Try.prog 4 #[.int .i64 fuse, .slice A k c] W fun e W' => e = .returned (.bool true) ∧ Below W.heap.size W W' := by
  have HA := Lib.hid hA
  have HFR := Lib.hid (i64_of hfw)
  clear hA hfw
  by_cases hk : k ≤ 60
  rotate_left
  · go_enter Try.func4, Try.ntmps4
    go_wp2_with fail
    refine (lives_any W).mono ?_
    rintro e w1 ⟨rfl, hc1⟩
    go_wp2_with fail
    go_ret
    exact ⟨rfl, hc1.no⟩
  go_enter Try.func4, Try.ntmps4
  obtain ⟨m0, hm0⟩ : ∃ m0, m0 = max 0 fuse := ⟨_, rfl⟩
  have hmx : (if 0 < fuse then fuse else 0) = m0 := by rw [hm0]; split <;> omega
  have HM0 := Lib.hid hm0
  clear hm0
  go_wp2_with fail
  refine (DI.new_ 9 W (by decide) (by decide)).mono ?_
  rintro e w1 ⟨g, F1, rfl, hD1, hc1⟩
  have HD1 := Lib.hid hD1
  have HC1 := Lib.hid hc1
  clear hD1 hc1
  go_wp2_with fail
  refine (HD1.out.fuse_ HC1.out.size fuse HFR.out.2).mono ?_
  rintro e w2 ⟨⟨v2, rfl⟩, F2, hD2, hc2, _⟩
  have HD2 := Lib.hid hD2
  have HC2 := Lib.hid (HD1.out.base HC1.out hc2)
  clear hD2 hc2 HD1 HC1
  go_wp2_with fail
  go_loopw [7, 8] (fun lf i wr => ∃ (j : Nat) (left : Int) (K : Dk) (F' : Nat → Prop), j ≤ k ∧ i = .int .i64 j ∧ lf = .int .i64 left ∧ Hid (FOk K left j) ∧ Hid (DI W.heap.size wr g K F') ∧ Chg NoB W wr) (fun _ i _ => k - (intOf i).toNat)
  case atStart => exact ⟨0, m0, _, F2, Nat.zero_le _, rfl, rfl, by rw [HM0.out]; exact FOk.new_ fuse HFR.out.2, HD2.out, HC2.out⟩

  case round =>
    obtain ⟨j, left, K, F', hj, rfl, rfl, HF, HDI, hch⟩ := hrel
    have HCH := Lib.hid hch
    clear hch
    have hl0 := HF.out.left0
    have hl1 := HF.out.left1
    obtain ⟨m1, hm1⟩ : ∃ m1, m1 = max 0 (left - 1) := ⟨_, rfl⟩
    have hmx1 : (if 0 < left - 1 then left - 1 else 0) = m1 := by rw [hm1]; split <;> omega
    have HM1 := Lib.hid hm1
    clear hm1
    by_cases hlt : j < k
    · obtain ⟨ad, x, rfl, hadb, hxj, hat, hok⟩ := HA.out.at_ hlt
      have HOK := Lib.hid hok
      have hA2 := HA.out.no HCH.out (Nat.le_refl _)
      obtain ⟨ad', x', e1, _, e2, hat2, hok2⟩ := hA2.at_ hlt
      obtain rfl : ad = ad' := by injection e1
      obtain rfl : x = x' := by rw [hxj] at e2; injection e2
      have c0 := hat2.c0
      have HAT := Lib.hid hat2
      clear e1 e2 hat hok hok2 hA2 hat2 hxj
      have HLJ := Lib.hid (show K.loose.length ≤ 60 from Nat.le_trans HF.out.loose (by omega))
      by_cases hk2 : x.kind = 2
      · go_wp2_with fail
        refine (HDI.out.sync_ HCH.out.size (Nat.le_trans HLJ.out (by decide))).mono ?_
        rintro e w5 ⟨rfl, F5, hD5, hc5, _⟩
        have HD5 := Lib.hid hD5
        have HC5 := Lib.hid (HDI.out.base HCH.out hc5)
        clear hD5 hc5
        have HS := Lib.hid HF.out.sync_
        rw [HS.out.1]
        have hfe : (left ≤ 0 ∧ fE left = 6) ∨ (0 < left ∧ fE left = 0) := by
          unfold fE
          by_cases h : 0 < left
          · exact .inr ⟨h, if_pos h⟩
          · exact .inl ⟨by omega, if_neg h⟩
        rcases hfe with ⟨hle, hfe⟩ | ⟨hle, hfe⟩
        · rw [hfe]
          have hdl : decide (left = 0) = true := by simp; omega
          clear hfe hmx1
          obtain rfl : left = 0 := by omega
          clear hle hl0 hl1
          go_wp2_with fail
          refine HD5.out.disk.dark_.mono ?_
          rintro e w6 ⟨rfl, rfl⟩
          rw [HS.out.2.2, hdl]
          clear hdl
          go_wp2_with fail
          go_roundw
          case rel => exact ⟨j + 1, 0, _, F5, by omega, by simp, rfl, HS.out.2.1, HD5.out, HC5.out⟩
          case measure => simp [intOf]; omega
        · rw [hfe]
          have hdl : decide (left = 0) = false := by simp; omega
          clear hfe
          go_wp2_with fail
          refine HD5.out.disk.dark_.mono ?_
          rintro e w6 ⟨rfl, rfl⟩
          rw [HS.out.2.2, hdl]
          clear hdl
          go_wp2_with fail
          go_roundw
          case rel => exact ⟨j + 1, m1, _, F5, by omega, by simp, by have h1 := HM1.out; simp; split <;> omega, by rw [HM1.out]; exact HS.out.2.1, HD5.out, HC5.out⟩
          case measure => simp [intOf]; omega
      · have hidx : 0 ≤ x.i % 18446744073709551616 % 9 ∧ x.i % 18446744073709551616 % 9 < 9 := by omega
        have HS := Lib.hid (HF.out.write_ hidx.1 hidx.2 (fillL_len x.c 512))
        have HIR := Lib.hid hidx
        clear hidx
        have ADL := Lib.hid (show (ad.add (j * 5)).block < wr.heap.size from by rw [block_of_add]; have := HCH.out.size; omega)
        have HC1 := Lib.hid HAT.out.c1
        have HC2 := Lib.hid HAT.out.c2
        go_wp2_with fail
        obtain ⟨q40, hq40⟩ : ∃ q40, q40 = Value.bool (x.kind == 2) := ⟨_, rfl⟩
        rw [← hq40]
        clear hq40 hk2
        refine wp_region_cl rfl (by kernel_rfl) (InvDk g k c j ad fuse left m0 x (.bool (decide (60 < (k : Int)))) v2 q40 u4 u33 u34 u41 u42 u43 u44 u45 u46 u47 u48 u49 u50 u51 u52 u53 u54 u55 u56 u57 u58 u59 u60 u61 u62 u63 u64 u65 u66 u67 u68 u69 u70 u71 u72 u73 u74 u75 u76 u77 u78 u79 u80 u81 W wr (K.write (x.i % 18446744073709551616 % 9) (fillL x.c 512))) ?_ ?_ ?_
        · exact ⟨0, rfl, (fun h _ => by cases h), fun _ => (Chg.refl _ _).drew, (fun h => by cases h), Nat.le_refl _⟩
        ·
          intro D a w i o ho hD hcl hpre hI
          obtain ⟨s14, rfl, hb, hp0, hp1, hcn⟩ := hI
          have hi : i < 17 := by have := (List.getElem?_eq_some_iff.1 ho).1; simpa using this
          rcases (by omega : i = 0 ∨ i = 1 ∨ i = 2 ∨ i = 3 ∨ i = 4 ∨ i = 5 ∨ i = 6 ∨ i = 7 ∨ i = 8 ∨ i = 9 ∨ i = 10 ∨ i = 11 ∨ i = 12 ∨ i = 13 ∨ i = 14 ∨ i = 15 ∨ i = 16) with rfl | rfl | rfl | rfl | rfl | rfl | rfl | rfl | rfl | rfl | rfl | rfl | rfl | rfl | rfl | rfl | rfl
          · obtain rfl := Option.some.inj ho
            clear ho hpre hi hcl
            go_wp2_with fail
            unfold AtEnd
            exact ⟨s14, rfl, fun h1 h2 => hb (by simpa [more] using h1) (by simpa [more] using h2), fun h => hp0 (by simpa [more] using h), fun h => hp1 (by simpa [more] using h), hcn⟩
          · obtain rfl := Option.some.inj ho
            clear ho hpre hi hcl
            go_wp2_with fail
            unfold AtEnd
            exact ⟨s14, rfl, fun h1 h2 => hb (by simpa [more] using h1) (by simpa [more] using h2), fun h => hp0 (by simpa [more] using h), fun h => hp1 (by simpa [more] using h), hcn⟩
          · obtain rfl := Option.some.inj ho
            clear ho hpre hi hcl
            go_wp2_with fail
            unfold AtEnd
            exact ⟨s14, rfl, fun h1 h2 => hb (by simpa [more] using h1) (by simpa [more] using h2), fun h => hp0 (by simpa [more] using h), fun h => hp1 (by simpa [more] using h), hcn⟩
          · obtain rfl := Option.some.inj ho
            have p1 := hpre ⟨1, .data⟩ (by simp) rfl
            have p2 := hpre ⟨2, .data⟩ (by simp) rfl
            clear ho hpre hi hcl
            go_wp2_with fail
            unfold AtEnd
            exact ⟨s14, by simp only [more, slot_true, slot_false, Nat.reduceEqDiff, ↓reduceIte, p1, p2], fun h1 h2 => hb (by simpa [more] using h1) (by simpa [more] using h2), fun h => hp0 (by simpa [more] using h), fun h => hp1 (by simpa [more] using h), hcn⟩
          · obtain rfl := Option.some.inj ho
            have p3 := hpre ⟨3, .data⟩ (by simp) rfl
            clear ho hpre hi hcl
            go_wp2_with fail
            unfold AtEnd
            exact ⟨s14, by simp only [more, slot_true, slot_false, Nat.reduceEqDiff, ↓reduceIte, p3], fun h1 h2 => hb (by simpa [more] using h1) (by simpa [more] using h2), fun h => hp0 (by simpa [more] using h), fun h => hp1 (by simpa [more] using h), hcn⟩
          · obtain rfl := Option.some.inj ho
            have p4 := hpre ⟨4, .data⟩ (by simp) rfl
            have d15 : D 15 = false := (hcl.not_ 15 _ rfl 1 _ rfl rfl (hcl.not_ 8 _ rfl 0 _ rfl rfl (hcl.not_ 7 _ rfl 0 _ rfl rfl (hcl.not_ 6 _ rfl 0 _ rfl rfl hD))))
            clear ho hpre hi hcl
            have cq := cell_of_heap (w := wr) (w' := w) (p := ⟨(ad.add (j * 5)).block, (ad.add (j * 5)).off + 1, none⟩) ((hp0 d15).block _ ADL.out (fun h => h))
            rw [HC1.out] at cq
            go_wp2_with fail
            unfold AtEnd
            exact ⟨s14, by simp only [more, slot_true, slot_false, Nat.reduceEqDiff, ↓reduceIte, p4, d15], fun h1 h2 => hb (by simpa [more] using h1) (by simpa [more] using h2), fun h => hp0 (by simpa [more] using h), fun h => hp1 (by simpa [more] using h), hcn⟩
          · obtain rfl := Option.some.inj ho
            have p5 := hpre ⟨5, .data⟩ (by simp) rfl
            clear ho hpre hi hcl
            have hwx : IntKind.u64.wrap x.i = x.i % 18446744073709551616 := rfl
            go_wp2_with fail
            unfold AtEnd
            exact ⟨s14, by simp only [more, slot_true, slot_false, Nat.reduceEqDiff, ↓reduceIte, p5], fun h1 h2 => hb (by simpa [more] using h1) (by simpa [more] using h2), fun h => hp0 (by simpa [more] using h), fun h => hp1 (by simpa [more] using h), hcn⟩
          · obtain rfl := Option.some.inj ho
            have p6 := hpre ⟨6, .data⟩ (by simp) rfl
            clear ho hpre hi hcl
            go_wp2_with fail
            unfold AtEnd
            exact ⟨s14, by simp only [more, slot_true, slot_false, Nat.reduceEqDiff, ↓reduceIte, p6], fun h1 h2 => hb (by simpa [more] using h1) (by simpa [more] using h2), fun h => hp0 (by simpa [more] using h), fun h => hp1 (by simpa [more] using h), hcn⟩
          · obtain rfl := Option.some.inj ho
            have p7 := hpre ⟨7, .data⟩ (by simp) rfl
            clear ho hpre hi hcl
            go_wp2_with fail
            unfold AtEnd
            exact ⟨s14, by simp only [more, slot_true, slot_false, Nat.reduceEqDiff, ↓reduceIte, p7], fun h1 h2 => hb (by simpa [more] using h1) (by simpa [more] using h2), fun h => hp0 (by simpa [more] using h), fun h => hp1 (by simpa [more] using h), hcn⟩
          · obtain rfl := Option.some.inj ho
            clear ho hpre hi hcl
            go_wp2_with fail
            unfold AtEnd
            exact ⟨s14, rfl, fun h1 h2 => hb (by simpa [more] using h1) (by simpa [more] using h2), fun h => hp0 (by simpa [more] using h), fun h => hp1 (by simpa [more] using h), hcn⟩
          · obtain rfl := Option.some.inj ho
            clear ho hpre hi hcl
            go_wp2_with fail
            unfold AtEnd
            exact ⟨s14, rfl, fun h1 h2 => hb (by simpa [more] using h1) (by simpa [more] using h2), fun h => hp0 (by simpa [more] using h), fun h => hp1 (by simpa [more] using h), hcn⟩
          · obtain rfl := Option.some.inj ho
            have p9 := hpre ⟨9, .data⟩ (by simp) rfl
            have p10 := hpre ⟨10, .data⟩ (by simp) rfl
            clear ho hpre hi hcl
            go_wp2_with fail
            unfold AtEnd
            exact ⟨s14, by simp only [more, slot_true, slot_false, Nat.reduceEqDiff, ↓reduceIte, p9, p10], fun h1 h2 => hb (by simpa [more] using h1) (by simpa [more] using h2), fun h => hp0 (by simpa [more] using h), fun h => hp1 (by simpa [more] using h), hcn⟩
          · obtain rfl := Option.some.inj ho
            have p11 := hpre ⟨11, .data⟩ (by simp) rfl
            clear ho hpre hi hcl
            go_wp2_with fail
            unfold AtEnd
            exact ⟨s14, by simp only [more, slot_true, slot_false, Nat.reduceEqDiff, ↓reduceIte, p11], fun h1 h2 => hb (by simpa [more] using h1) (by simpa [more] using h2), fun h => hp0 (by simpa [more] using h), fun h => hp1 (by simpa [more] using h), hcn⟩
          · obtain rfl := Option.some.inj ho
            have p12 := hpre ⟨12, .data⟩ (by simp) rfl
            have d15 : D 15 = false := (hcl.not_ 15 _ rfl 2 _ rfl rfl (hcl.not_ 14 _ rfl 0 _ rfl rfl hD))
            clear ho hpre hi hcl
            have cq := cell_of_heap (w := wr) (w' := w) (p := ⟨(ad.add (j * 5)).block, (ad.add (j * 5)).off + 2, none⟩) ((hp0 d15).block _ ADL.out (fun h => h))
            rw [HC2.out] at cq
            go_wp2_with fail
            unfold AtEnd
            exact ⟨s14, by simp only [more, slot_true, slot_false, Nat.reduceEqDiff, ↓reduceIte, p12, d15], fun h1 h2 => hb (by simpa [more] using h1) (by simpa [more] using h2), fun h => hp0 (by simpa [more] using h), fun h => hp1 (by simpa [more] using h), hcn⟩
          · obtain rfl := Option.some.inj ho
            have p13 := hpre ⟨13, .data⟩ (by simp) rfl
            have d15 : D 15 = false := (hcl.not_ 15 _ rfl 2 _ rfl rfl hD)
            clear ho hpre hi hcl
            simp only [p13, slot_true]
            go_wp2_with fail
            refine (filled_512 x.c _ rfl w).mono ?_
            rintro e w5 ⟨s, rfl, hsl, hs, hc5⟩
            go_wp2_with fail
            unfold AtEnd
            exact ⟨s, by simp only [more, slot_true, slot_false, Nat.reduceEqDiff, ↓reduceIte, p13, d15], fun _ _ => hs, fun _ => (hp0 d15).trans hc5 (fun _ _ h => h), fun h => by simp [more, d15] at h, Nat.le_trans hcn hc5.size⟩
          · obtain rfl := Option.some.inj ho
            have p0 := hpre ⟨0, .data⟩ (by simp) rfl
            have p8 := hpre ⟨8, .data⟩ (by simp) rfl
            have p14 := hpre ⟨14, .data⟩ (by simp) rfl
            clear ho hpre hi hcl
            have hDD := HDI.out.no (hp0 hD)
            have hbb := blk_RB (hb p14 hD)
            simp only [p0, p8, p14, slot_true]
            go_wp2_with fail
            refine (hDD.write_ (Nat.le_trans HCH.out.size hcn) (x.i % 18446744073709551616 % 9) 512 (fillL_len x.c 512) hbb (fun ad e => by cases e; rfl) (Nat.le_trans HLJ.out (by decide))).mono ?_
            rintro e w5 ⟨rfl, F5, hD5, hc5, _⟩
            rw [HS.out.1]
            go_wp2_with fail
            unfold AtEnd
            exact ⟨s14, by simp only [more, slot_true, slot_false, Nat.reduceEqDiff, ↓reduceIte, p0, p8, p14], fun _ h => by simp [more] at h, fun h => by simp [more] at h, fun _ => ⟨F5, hD5, hDD.base (HCH.out.trans (hp0 hD) (fun _ _ h => h)) hc5⟩, Nat.le_trans hcn hc5.size⟩
          · obtain rfl := Option.some.inj ho
            have p15 := hpre ⟨15, .data⟩ (by simp) rfl
            clear ho hpre hi hcl
            go_wp2_with fail
            unfold AtEnd
            exact ⟨s14, by simp only [more, slot_true, slot_false, Nat.reduceEqDiff, ↓reduceIte, p15], fun h1 h2 => hb (by simpa [more] using h1) (by simpa [more] using h2), fun h => hp0 (by simpa [more] using h), fun h => hp1 (by simpa [more] using h), hcn⟩
        · intro D a w hall hI
          obtain ⟨s14, rfl, hb, hp0, hp1, hcn⟩ := hI
          have HP := Lib.hid (hp1 (hall 15 (by decide)))
          clear hp0 hp1 hcn hb
          simp only [hall 15 (by decide), hall 16 (by decide), slot_true]
          clear hall
          obtain ⟨F5, hD5, hc5⟩ := HP.out
          have HD5 := Lib.hid hD5
          have HC5 := Lib.hid hc5
          clear hD5 hc5 HP
          have hfe : (left ≤ 0 ∧ fE left = 6) ∨ (0 < left ∧ fE left = 0) := by
            unfold fE
            by_cases h : 0 < left
            · exact .inr ⟨h, if_pos h⟩
            · exact .inl ⟨by omega, if_neg h⟩
          rcases hfe with ⟨hle, hfe⟩ | ⟨hle, hfe⟩
          · rw [hfe]
            have hdl : decide (left = 0) = true := by simp; omega
            clear hfe hmx1
            obtain rfl : left = 0 := by omega
            clear hle hl0 hl1
            go_wp2_with fail
            refine HD5.out.disk.dark_.mono ?_
            rintro e w6 ⟨rfl, rfl⟩
            rw [HS.out.2.2, hdl]
            clear hdl
            go_wp2_with fail
            go_roundw
            case rel => exact ⟨j + 1, 0, _, F5, by omega, by simp, rfl, HS.out.2.1, HD5.out, HC5.out⟩
            case measure => simp [intOf]; omega
          · rw [hfe]
            have hdl : decide (left = 0) = false := by simp; omega
            clear hfe
            go_wp2_with fail
            refine HD5.out.disk.dark_.mono ?_
            rintro e w6 ⟨rfl, rfl⟩
            rw [HS.out.2.2, hdl]
            clear hdl
            go_wp2_with fail
            go_roundw
            case rel => exact ⟨j + 1, m1, _, F5, by omega, by simp, by have h1 := HM1.out; simp; split <;> omega, by rw [HM1.out]; exact HS.out.2.1, HD5.out, HC5.out⟩
            case measure => simp [intOf]; omega
    · obtain rfl : j = k := by omega
      go_wp2_with fail
      refine (HDI.out.crash_ HCH.out.size (Nat.le_trans HF.out.loose (by omega)) 0 (ks := []) rfl IB.none_ (fun _ => ⟨rfl, rfl⟩) (fun h => by simp at h) (fun _ h => by cases h)).mono ?_
      rintro e w5 ⟨rfl, F5, hD5, hc5, _⟩
      have HD5 := Lib.hid hD5
      have HC5 := Lib.hid (HDI.out.base HCH.out hc5)
      clear hD5 hc5 HDI HCH
      go_wp2_with fail
      refine HD5.out.disk.dark_.mono ?_
      rintro e w6 ⟨rfl, rfl⟩
      rw [show (K.crash []).dark = false from rfl]
      go_wp2_with fail
      refine (HD5.out.sync_ HC5.out.size (Nat.zero_le _)).mono ?_
      rintro e w7 ⟨rfl, F7, hD7, hc7, _⟩
      rw [crash_sync]
      have HC7 := Lib.hid (HD5.out.base HC5.out hc7)
      clear hD7 hc7 HD5 HC5
      go_wp2_with fail
      refine (lives_any w7).mono ?_
      rintro e w8 ⟨rfl, hc8⟩
      go_wp2_with fail
      go_ret
      exact ⟨rfl, (HC7.out.trans hc8 (fun _ _ h => h)).no⟩
end Go.Proofs.Ytmkbahhnjobglaa
