/-
  THE WALKS of the law's lives and own.
-/
import Derived.Test.YtgojdkjneggmjaaRec21
namespace Go.Proofs.Ytgojdkjneggmjaa
open Go.RowKit FieldM
set_option linter.unusedSimpArgs false
def rA : Rec := ⟨[97], 0, 0, 0, 0, 0⟩
def rD : Rec := ⟨[100, 47], 0, 0, 0, 0, 0⟩
theorem rA_ok : rA.Ok := ⟨by decide, by decide, .inl rfl, by decide, by decide, by decide, by decide⟩
theorem rD_ok : rD.Ok := ⟨by decide, by decide, .inl rfl, by decide, by decide, by decide, by decide⟩
theorem localL_A : localL rA = [80, 75, 3, 4, 20, 0, 0, 0, 0, 0, 0, 0, 33, 0, 0, 0, 0, 0, 0, 0, 0, 0, 0, 0, 0, 0, 1, 0, 0, 0, 97] := by decide
theorem centralL_D : centralL rD = [80, 75, 1, 2, 20, 0, 20, 0, 0, 0, 0, 0, 0, 0, 33, 0, 0, 0, 0, 0, 0, 0, 0, 0, 0, 0, 0, 0, 2, 0, 0, 0, 0, 0, 0, 0, 0, 0, 16, 0, 0, 0, 0, 0, 0, 0, 100, 47] := by decide
theorem end000 : endL 0 0 0 = [80, 75, 5, 6, 0, 0, 0, 0, 0, 0, 0, 0, 0, 0, 0, 0, 0, 0, 0, 0, 0, 0] := by decide
theorem readA : readF (localL rA) 0 [80, 75, 3, 4] 30 4 [28] = 0 ∧ readR (localL rA) 0 [80, 75, 3, 4] 30 4 [28] = rA := by
  have h : readF (localL rA) 0 [80, 75, 3, 4] 30 4 [28] = 0 := by decide
  exact ⟨h, rfl⟩
theorem cell_chg {w w' : World} {a : Addr} {v : Value} (h : w.cell? a = some v) (hc : Chg NoB w w') : w'.cell? a = some v := by
  rw [World.cell?_of_block (w := w) (hc.block _ (block_lt_of_cell h) (fun h => h))]; exact h
def InvLv (r7 c1 c2 c3 g1 g2 g3 : Nat) (w0 : World) (D : Nat → Bool) (a : Act) (w : World) : Prop :=
  ∃ (s1 : Nat), a = { tmps := #[(slot (D 53) (.bool true) (.bool false)), .slice (some ⟨g1, 0, none⟩) 31 c1, .int .i64 0, .slice (some ⟨g2, 0, none⟩) 48 c2, .int .i64 0, .slice (some ⟨g3, 0, none⟩) 22 c3, .int .i64 0, .pointer (some ⟨r7, 0, none⟩), .int .i64 31, .int .i64 0, .tuple #[.slice (some ⟨g1, 0, none⟩) 31 c1, .int .i64 0], .agg #[.string ⟨#[97]⟩, .int .i64 0, .int .i64 0, .int .i64 0, .int .i64 0, .int .i64 0], .tuple #[.slice (some ⟨g1, 0, none⟩) 31 c1, .int .i64 0], .slice (some ⟨g1, 0, none⟩) 31 c1, .int .i64 0, .tuple #[.slice (some ⟨g2, 0, none⟩) 48 c2, .int .i64 0], .agg #[.string ⟨#[100, 47]⟩, .int .i64 0, .int .i64 0, .int .i64 0, .int .i64 0, .int .i64 0], .tuple #[.slice (some ⟨g2, 0, none⟩) 48 c2, .int .i64 0], .slice (some ⟨g2, 0, none⟩) 48 c2, .int .i64 0, .tuple #[.slice (some ⟨g3, 0, none⟩) 22 c3, .int .i64 0], .tuple #[.slice (some ⟨g3, 0, none⟩) 22 c3, .int .i64 0], .slice (some ⟨g3, 0, none⟩) 22 c3, .int .i64 0, .tuple #[.agg #[.string ⟨#[97]⟩, .int .i64 0, .int .i64 0, .int .i64 0, .int .i64 0, .int .i64 0], .int .i64 31, .int .i64 0], .slice (some ⟨g1, 0, none⟩) 31 c1, .tuple #[.agg #[.string ⟨#[97]⟩, .int .i64 0, .int .i64 0, .int .i64 0, .int .i64 0, .int .i64 0], .int .i64 31, .int .i64 0], .agg #[.string ⟨#[97]⟩, .int .i64 0, .int .i64 0, .int .i64 0, .int .i64 0, .int .i64 0], .int .i64 31, .int .i64 0, (slot (D 0) (.slice (some ⟨g1, 0, none⟩) 31 c1) (undef)), (slot (D 1) (.int .i64 31) (undef)), (slot (D 2) (.bool true) (undef)), (slot (D 3) (.bool true) (undef)), (slot (D 4) (.slice (some ⟨g1, 0, none⟩) 31 c1) (undef)), (slot (D 5) (.pointer (some ⟨g1, 30, none⟩)) (undef)), (slot (D 6) (.int .u8 97) (undef)), (slot (D 7) (.bool true) (undef)), (slot (D 8) (.bool true) (undef)), (slot (D 9) (.bool true) (undef)), (slot (D 10) (.int .i64 0) (undef)), (slot (D 11) (.bool true) (undef)), (slot (D 12) (.bool true) (undef)), (slot (D 13) (.bool true) (undef)), (slot (D 14) (.slice (some ⟨g2, 0, none⟩) 48 c2) (undef)), (slot (D 15) (.int .i64 48) (undef)), (slot (D 16) (.bool true) (undef)), (slot (D 17) (.bool true) (undef)), (slot (D 18) (.bool true) (undef)), (slot (D 19) (.slice (some ⟨g2, 0, none⟩) 48 c2) (undef)), (slot (D 20) (.pointer (some ⟨g2, 38, none⟩)) (undef)), (slot (D 21) (.int .u8 16) (undef)), (slot (D 22) (.bool true) (undef)), (slot (D 23) (.bool true) (undef)), (slot (D 24) (.bool true) (undef)), (slot (D 25) (.int .i64 0) (undef)), (slot (D 26) (.bool true) (undef)), (slot (D 27) (.bool true) (undef)), (slot (D 28) (.bool true) (undef)), (slot (D 29) (.slice (some ⟨g3, 0, none⟩) 22 c3) (undef)), (slot (D 30) (.string ⟨#[80, 75, 5, 6, 0, 0, 0, 0, 0, 0, 0, 0, 0, 0, 0, 0, 0, 0, 0, 0, 0, 0]⟩) (undef)), (slot (D 31) (.slice (some ⟨s1, 0, none⟩) 18 18) (undef)), (slot (D 32) (.string ⟨#[0, 0, 0, 0, 0, 0, 0, 0, 0, 0, 0, 0, 0, 0, 0, 0, 0, 0]⟩) (undef)), (slot (D 33) (.string ⟨#[80, 75, 5, 6, 0, 0, 0, 0, 0, 0, 0, 0, 0, 0, 0, 0, 0, 0, 0, 0, 0, 0]⟩) (undef)), (slot (D 34) (.bool true) (undef)), (slot (D 35) (.bool true) (undef)), (slot (D 36) (.bool true) (undef)), (slot (D 37) (.int .i64 0) (undef)), (slot (D 38) (.bool true) (undef)), (slot (D 39) (.bool true) (undef)), (slot (D 40) (.bool true) (undef)), (slot (D 41) (.agg #[.string ⟨#[97]⟩, .int .i64 0, .int .i64 0, .int .i64 0, .int .i64 0, .int .i64 0]) (undef)), (slot (D 42) (.agg #[.string ⟨#[97]⟩, .int .i64 0, .int .i64 0, .int .i64 0, .int .i64 0, .int .i64 0]) (undef)), (slot (D 43) (.bool true) (undef)), (slot (D 44) (.bool true) (undef)), (slot (D 45) (.bool true) (undef)), (slot (D 46) (.int .i64 31) (undef)), (slot (D 47) (.bool true) (undef)), (slot (D 48) (.bool true) (undef)), (slot (D 49) (.bool true) (undef)), (slot (D 50) (.int .i64 0) (undef)), (slot (D 51) (.bool true) (undef)), (slot (D 52) (.bool true) (undef))], defers := [] } ∧
    (Chg NoB w0 w) ∧
    (D 31 = true → Blk w s1 5 #[.int .u8 0, .int .u8 0, .int .u8 0, .int .u8 0, .int .u8 0, .int .u8 0, .int .u8 0, .int .u8 0, .int .u8 0, .int .u8 0, .int .u8 0, .int .u8 0, .int .u8 0, .int .u8 0, .int .u8 0, .int .u8 0, .int .u8 0, .int .u8 0])
set_option maxRecDepth 100000 in
set_option maxHeartbeats 4000000 in
theorem lives_any (w : World) :
    Calls Try.prog 16 #[] w fun e w' => e = .returned (.bool true) ∧ Chg NoB w w' := by
  go_enter Try.func16, Try.ntmps16
  go_wp2_with fail
  refine (local_any rA w).mono ?_
  rintro e w1 ⟨hcase, hc1⟩
  rcases hcase with ⟨_, v1, rfl, ho1⟩ | ⟨h, _⟩
  rotate_left
  · exact absurd rA_ok h
  obtain ⟨A1, n1, c1, rfl, hn1, hr1, hnc1, _⟩ := ho1.val
  obtain ⟨g1, rfl⟩ := (ho1.addr (by rw [localL_A]; decide)).1
  have hn1' : n1 = 31 := by rw [← hn1, localL_A]; rfl
  subst hn1'
  go_wp2_with fail
  refine (central_any rD w1).mono ?_
  rintro e w2 ⟨hcase, hc2⟩
  rcases hcase with ⟨_, v2, rfl, ho2⟩ | ⟨h, _⟩
  rotate_left
  · exact absurd rD_ok h
  obtain ⟨A2, n2, c2, rfl, hn2, hr2, hnc2, _⟩ := ho2.val
  obtain ⟨g2, rfl⟩ := (ho2.addr (by rw [centralL_D]; decide)).1
  have hn2' : n2 = 48 := by rw [← hn2, centralL_D]; rfl
  subst hn2'
  go_wp2_with fail
  refine (end_any 0 0 0 w2).mono ?_
  rintro e w3 ⟨hcase, hc3⟩
  rcases hcase with ⟨_, v3, rfl, ho3⟩ | ⟨h, _⟩
  rotate_left
  · exact absurd (by unfold EndOk; decide) h
  obtain ⟨A3, n3, c3, rfl, hn3, hr3, hnc3, _⟩ := ho3.val
  obtain ⟨g3, rfl⟩ := (ho3.addr (by rw [end000]; decide)).1
  have hn3' : n3 = 22 := by rw [← hn3, end000]; rfl
  subst hn3'
  have hr13 := (hr1.no hc2).no hc3
  have hr23 := hr2.no hc3
  have hcc3 := (hc1.trans hc2 (fun _ _ h => h)).trans hc3 (fun _ _ h => h)
  have HL := Lib.hid (Nat.le_trans hc2.size hc3.size)
  clear ho1 ho2 ho3 hr1 hr2 hc1 hc2 hc3
  go_wp2_with fail
  refine (readlocal_any (some ⟨g1, 0, none⟩) (localL rA) 31 c1 0 hn1 w1.heap.size w3 hr13 hnc1 (by decide) HL.out).mono ?_
  rintro e w4 ⟨rfl, hc4⟩
  rw [readA.1, readA.2, if_pos rfl, show (Rec.cells rA) = #[.string ⟨#[97]⟩, .int .i64 0, .int .i64 0, .int .i64 0, .int .i64 0, .int .i64 0] from rfl, show ((0 : Int) + 30 + (rA.name.length : Int)) = 31 from rfl]
  have hr14 := hr13.no hc4
  have hr24 := hr23.no hc4
  have hr34 := hr3.no hc4
  have hcc4 := hcc3.trans hc4 (fun _ _ h => h)
  rw [localL_A] at hr14
  rw [centralL_D] at hr24
  rw [end000] at hr34
  clear hr13 hr23 hr3 hc4 hcc3 hn1 hn2 hn3
  go_wp2_with fail
  obtain ⟨r7, hr7⟩ : ∃ r, r = w4.heap.size := ⟨_, rfl⟩
  obtain ⟨w5, hw5⟩ : ∃ w5, w5 = w4.alloc (.cells #[.string ⟨#[97]⟩, .int .i64 0, .int .i64 0, .int .i64 0, .int .i64 0, .int .i64 0] 23) := ⟨_, rfl⟩
  have HB7 := Lib.hid (show Blk w5 r7 23 #[.string ⟨#[97]⟩, .int .i64 0, .int .i64 0, .int .i64 0, .int .i64 0, .int .i64 0] by rw [hw5, hr7]; exact Blk.new w4 _ _)
  have hwc : Chg NoB w4 w5 := by rw [hw5]; exact (Chg.refl _ _).alloc _
  rw [← hw5, ← hr7]
  have HCC := Lib.hid (hcc4.trans hwc (fun _ _ h => h))
  have hr15 := hr14.no hwc
  have hr25 := hr24.no hwc
  have HR3 := Lib.hid (hr34.no hwc)
  obtain ⟨a1, ha1, _, hk1⟩ := hr15.at_ (k := 30) (by decide)
  obtain ⟨a2, ha2, _, hk2⟩ := hr25.at_ (k := 38) (by decide)
  have HK1 := Lib.hid (show w5.cell? ⟨g1, 30, none⟩ = some (.int .u8 97) by injection ha1 with ha1; subst ha1; exact hk1)
  have HK2 := Lib.hid (show w5.cell? ⟨g2, 38, none⟩ = some (.int .u8 16) by injection ha2 with ha2; subst ha2; exact hk2)
  clear hr7 hw5 hr14 hr24 hr34 hr15 hr25 ha1 ha2 hk1 hk2 hwc hcc4
  have i1 : Chg NoB w5 w5.drew := (Chg.refl _ _).drew
  refine wp_region_cl rfl (by kernel_rfl) (InvLv r7 c1 c2 c3 g1 g2 g3 w5) ?_ ?_ ?_
  · exact ⟨0, rfl, i1, (fun h => nomatch h)⟩
  · clear i1
    intro D a w i o ho hD hcl hpre hI
    obtain ⟨s1, rfl, hch, hs⟩ := hI
    have hi : i < 54 := by have := (List.getElem?_eq_some_iff.1 ho).1; simpa using this
    rcases (by omega : i = 0 ∨ i = 1 ∨ i = 2 ∨ i = 3 ∨ i = 4 ∨ i = 5 ∨ i = 6 ∨ i = 7 ∨ i = 8 ∨ i = 9 ∨ i = 10 ∨ i = 11 ∨ i = 12 ∨ i = 13 ∨ i = 14 ∨ i = 15 ∨ i = 16 ∨ i = 17 ∨ i = 18 ∨ i = 19 ∨ i = 20 ∨ i = 21 ∨ i = 22 ∨ i = 23 ∨ i = 24 ∨ i = 25 ∨ i = 26 ∨ i = 27 ∨ i = 28 ∨ i = 29 ∨ i = 30 ∨ i = 31 ∨ i = 32 ∨ i = 33 ∨ i = 34 ∨ i = 35 ∨ i = 36 ∨ i = 37 ∨ i = 38 ∨ i = 39 ∨ i = 40 ∨ i = 41 ∨ i = 42 ∨ i = 43 ∨ i = 44 ∨ i = 45 ∨ i = 46 ∨ i = 47 ∨ i = 48 ∨ i = 49 ∨ i = 50 ∨ i = 51 ∨ i = 52 ∨ i = 53) with rfl | rfl | rfl | rfl | rfl | rfl | rfl | rfl | rfl | rfl | rfl | rfl | rfl | rfl | rfl | rfl | rfl | rfl | rfl | rfl | rfl | rfl | rfl | rfl | rfl | rfl | rfl | rfl | rfl | rfl | rfl | rfl | rfl | rfl | rfl | rfl | rfl | rfl | rfl | rfl | rfl | rfl | rfl | rfl | rfl | rfl | rfl | rfl | rfl | rfl | rfl | rfl | rfl | rfl
    · obtain rfl := Option.some.inj ho
      clear ho hpre hi hcl
      go_wp2_with fail
      unfold AtEnd
      exact ⟨s1, rfl, hch, hs⟩
    · obtain rfl := Option.some.inj ho
      have p0 := hpre ⟨0, .data⟩ (by simp) rfl
      clear ho hpre hi hcl
      go_wp2_with fail
      unfold AtEnd
      exact ⟨s1, by simp only [more, slot_true, slot_false, Nat.reduceEqDiff, ↓reduceIte, p0], hch, hs⟩
    · obtain rfl := Option.some.inj ho
      have p1 := hpre ⟨1, .data⟩ (by simp) rfl
      clear ho hpre hi hcl
      go_wp2_with fail
      unfold AtEnd
      exact ⟨s1, by simp only [more, slot_true, slot_false, Nat.reduceEqDiff, ↓reduceIte, p1], hch, hs⟩
    · obtain rfl := Option.some.inj ho
      have p2 := hpre ⟨2, .data⟩ (by simp) rfl
      clear ho hpre hi hcl
      go_wp2_with fail
      unfold AtEnd
      exact ⟨s1, by simp only [more, slot_true, slot_false, Nat.reduceEqDiff, ↓reduceIte, p2], hch, hs⟩
    · obtain rfl := Option.some.inj ho
      have p3 := hpre ⟨3, .guard⟩ (by simp) rfl
      clear ho hpre hi hcl
      go_wp2_with fail
      unfold AtEnd
      exact ⟨s1, by simp only [more, slot_true, slot_false, Nat.reduceEqDiff, ↓reduceIte, p3], hch, hs⟩
    · obtain rfl := Option.some.inj ho
      have p4 := hpre ⟨4, .data⟩ (by simp) rfl
      have p3 := hpre ⟨3, .guard⟩ (by simp) rfl
      clear ho hpre hi hcl
      go_wp2_with fail
      unfold AtEnd
      exact ⟨s1, by simp only [more, slot_true, slot_false, Nat.reduceEqDiff, ↓reduceIte, p4, p3], hch, hs⟩
    · obtain rfl := Option.some.inj ho
      have p5 := hpre ⟨5, .data⟩ (by simp) rfl
      have p3 := hpre ⟨3, .guard⟩ (by simp) rfl
      clear ho hpre hi hcl
      have k := cell_chg HK1.out hch
      go_wp2_with fail
      unfold AtEnd
      exact ⟨s1, by simp only [more, slot_true, slot_false, Nat.reduceEqDiff, ↓reduceIte, p5, p3], hch, hs⟩
    · obtain rfl := Option.some.inj ho
      have p6 := hpre ⟨6, .data⟩ (by simp) rfl
      have p3 := hpre ⟨3, .guard⟩ (by simp) rfl
      clear ho hpre hi hcl
      go_wp2_with fail
      unfold AtEnd
      exact ⟨s1, by simp only [more, slot_true, slot_false, Nat.reduceEqDiff, ↓reduceIte, p6, p3], hch, hs⟩
    · obtain rfl := Option.some.inj ho
      have p3 := hpre ⟨3, .data⟩ (by simp) rfl
      have p7 := hpre ⟨7, .data⟩ (by simp) rfl
      clear ho hpre hi hcl
      go_wp2_with fail
      unfold AtEnd
      exact ⟨s1, by simp only [more, slot_true, slot_false, Nat.reduceEqDiff, ↓reduceIte, p3, p7], hch, hs⟩
    · obtain rfl := Option.some.inj ho
      have p8 := hpre ⟨8, .data⟩ (by simp) rfl
      have p3 := hpre ⟨3, .chain⟩ (by simp) rfl
      clear ho hpre hi hcl
      go_wp2_with fail
      unfold AtEnd
      exact ⟨s1, by simp only [more, slot_true, slot_false, Nat.reduceEqDiff, ↓reduceIte, p8, p3], hch, hs⟩
    · obtain rfl := Option.some.inj ho
      have p9 := hpre ⟨9, .guard⟩ (by simp) rfl
      clear ho hpre hi hcl
      go_wp2_with fail
      unfold AtEnd
      exact ⟨s1, by simp only [more, slot_true, slot_false, Nat.reduceEqDiff, ↓reduceIte, p9], hch, hs⟩
    · obtain rfl := Option.some.inj ho
      have p10 := hpre ⟨10, .data⟩ (by simp) rfl
      have p9 := hpre ⟨9, .guard⟩ (by simp) rfl
      clear ho hpre hi hcl
      go_wp2_with fail
      unfold AtEnd
      exact ⟨s1, by simp only [more, slot_true, slot_false, Nat.reduceEqDiff, ↓reduceIte, p10, p9], hch, hs⟩
    · obtain rfl := Option.some.inj ho
      have p9 := hpre ⟨9, .data⟩ (by simp) rfl
      have p11 := hpre ⟨11, .data⟩ (by simp) rfl
      clear ho hpre hi hcl
      go_wp2_with fail
      unfold AtEnd
      exact ⟨s1, by simp only [more, slot_true, slot_false, Nat.reduceEqDiff, ↓reduceIte, p9, p11], hch, hs⟩
    · obtain rfl := Option.some.inj ho
      have p12 := hpre ⟨12, .data⟩ (by simp) rfl
      have p9 := hpre ⟨9, .chain⟩ (by simp) rfl
      clear ho hpre hi hcl
      go_wp2_with fail
      unfold AtEnd
      exact ⟨s1, by simp only [more, slot_true, slot_false, Nat.reduceEqDiff, ↓reduceIte, p12, p9], hch, hs⟩
    · obtain rfl := Option.some.inj ho
      have p13 := hpre ⟨13, .guard⟩ (by simp) rfl
      clear ho hpre hi hcl
      go_wp2_with fail
      unfold AtEnd
      exact ⟨s1, by simp only [more, slot_true, slot_false, Nat.reduceEqDiff, ↓reduceIte, p13], hch, hs⟩
    · obtain rfl := Option.some.inj ho
      have p14 := hpre ⟨14, .data⟩ (by simp) rfl
      have p13 := hpre ⟨13, .guard⟩ (by simp) rfl
      clear ho hpre hi hcl
      go_wp2_with fail
      unfold AtEnd
      exact ⟨s1, by simp only [more, slot_true, slot_false, Nat.reduceEqDiff, ↓reduceIte, p14, p13], hch, hs⟩
    · obtain rfl := Option.some.inj ho
      have p15 := hpre ⟨15, .data⟩ (by simp) rfl
      have p13 := hpre ⟨13, .guard⟩ (by simp) rfl
      clear ho hpre hi hcl
      go_wp2_with fail
      unfold AtEnd
      exact ⟨s1, by simp only [more, slot_true, slot_false, Nat.reduceEqDiff, ↓reduceIte, p15, p13], hch, hs⟩
    · obtain rfl := Option.some.inj ho
      have p13 := hpre ⟨13, .data⟩ (by simp) rfl
      have p16 := hpre ⟨16, .data⟩ (by simp) rfl
      clear ho hpre hi hcl
      go_wp2_with fail
      unfold AtEnd
      exact ⟨s1, by simp only [more, slot_true, slot_false, Nat.reduceEqDiff, ↓reduceIte, p13, p16], hch, hs⟩
    · obtain rfl := Option.some.inj ho
      have p17 := hpre ⟨17, .data⟩ (by simp) rfl
      have p13 := hpre ⟨13, .chain⟩ (by simp) rfl
      clear ho hpre hi hcl
      go_wp2_with fail
      unfold AtEnd
      exact ⟨s1, by simp only [more, slot_true, slot_false, Nat.reduceEqDiff, ↓reduceIte, p17, p13], hch, hs⟩
    · obtain rfl := Option.some.inj ho
      have p18 := hpre ⟨18, .guard⟩ (by simp) rfl
      clear ho hpre hi hcl
      go_wp2_with fail
      unfold AtEnd
      exact ⟨s1, by simp only [more, slot_true, slot_false, Nat.reduceEqDiff, ↓reduceIte, p18], hch, hs⟩
    · obtain rfl := Option.some.inj ho
      have p19 := hpre ⟨19, .data⟩ (by simp) rfl
      have p18 := hpre ⟨18, .guard⟩ (by simp) rfl
      clear ho hpre hi hcl
      go_wp2_with fail
      unfold AtEnd
      exact ⟨s1, by simp only [more, slot_true, slot_false, Nat.reduceEqDiff, ↓reduceIte, p19, p18], hch, hs⟩
    · obtain rfl := Option.some.inj ho
      have p20 := hpre ⟨20, .data⟩ (by simp) rfl
      have p18 := hpre ⟨18, .guard⟩ (by simp) rfl
      clear ho hpre hi hcl
      have k := cell_chg HK2.out hch
      go_wp2_with fail
      unfold AtEnd
      exact ⟨s1, by simp only [more, slot_true, slot_false, Nat.reduceEqDiff, ↓reduceIte, p20, p18], hch, hs⟩
    · obtain rfl := Option.some.inj ho
      have p21 := hpre ⟨21, .data⟩ (by simp) rfl
      have p18 := hpre ⟨18, .guard⟩ (by simp) rfl
      clear ho hpre hi hcl
      go_wp2_with fail
      unfold AtEnd
      exact ⟨s1, by simp only [more, slot_true, slot_false, Nat.reduceEqDiff, ↓reduceIte, p21, p18], hch, hs⟩
    · obtain rfl := Option.some.inj ho
      have p18 := hpre ⟨18, .data⟩ (by simp) rfl
      have p22 := hpre ⟨22, .data⟩ (by simp) rfl
      clear ho hpre hi hcl
      go_wp2_with fail
      unfold AtEnd
      exact ⟨s1, by simp only [more, slot_true, slot_false, Nat.reduceEqDiff, ↓reduceIte, p18, p22], hch, hs⟩
    · obtain rfl := Option.some.inj ho
      have p23 := hpre ⟨23, .data⟩ (by simp) rfl
      have p18 := hpre ⟨18, .chain⟩ (by simp) rfl
      clear ho hpre hi hcl
      go_wp2_with fail
      unfold AtEnd
      exact ⟨s1, by simp only [more, slot_true, slot_false, Nat.reduceEqDiff, ↓reduceIte, p23, p18], hch, hs⟩
    · obtain rfl := Option.some.inj ho
      have p24 := hpre ⟨24, .guard⟩ (by simp) rfl
      clear ho hpre hi hcl
      go_wp2_with fail
      unfold AtEnd
      exact ⟨s1, by simp only [more, slot_true, slot_false, Nat.reduceEqDiff, ↓reduceIte, p24], hch, hs⟩
    · obtain rfl := Option.some.inj ho
      have p25 := hpre ⟨25, .data⟩ (by simp) rfl
      have p24 := hpre ⟨24, .guard⟩ (by simp) rfl
      clear ho hpre hi hcl
      go_wp2_with fail
      unfold AtEnd
      exact ⟨s1, by simp only [more, slot_true, slot_false, Nat.reduceEqDiff, ↓reduceIte, p25, p24], hch, hs⟩
    · obtain rfl := Option.some.inj ho
      have p24 := hpre ⟨24, .data⟩ (by simp) rfl
      have p26 := hpre ⟨26, .data⟩ (by simp) rfl
      clear ho hpre hi hcl
      go_wp2_with fail
      unfold AtEnd
      exact ⟨s1, by simp only [more, slot_true, slot_false, Nat.reduceEqDiff, ↓reduceIte, p24, p26], hch, hs⟩
    · obtain rfl := Option.some.inj ho
      have p27 := hpre ⟨27, .data⟩ (by simp) rfl
      have p24 := hpre ⟨24, .chain⟩ (by simp) rfl
      clear ho hpre hi hcl
      go_wp2_with fail
      unfold AtEnd
      exact ⟨s1, by simp only [more, slot_true, slot_false, Nat.reduceEqDiff, ↓reduceIte, p27, p24], hch, hs⟩
    · obtain rfl := Option.some.inj ho
      have p28 := hpre ⟨28, .guard⟩ (by simp) rfl
      clear ho hpre hi hcl
      go_wp2_with fail
      unfold AtEnd
      exact ⟨s1, by simp only [more, slot_true, slot_false, Nat.reduceEqDiff, ↓reduceIte, p28], hch, hs⟩
    · obtain rfl := Option.some.inj ho
      have p29 := hpre ⟨29, .data⟩ (by simp) rfl
      have p28 := hpre ⟨28, .guard⟩ (by simp) rfl
      clear ho hpre hi hcl
      have h0 := (HR3.out.no hch).toStr (n := 22) rfl c3 Try.underlying24 Try.underlying5 Try.underlying9
      go_wp2_with fail
      unfold AtEnd
      exact ⟨s1, by simp only [more, slot_true, slot_false, Nat.reduceEqDiff, ↓reduceIte, p29, p28], hch, hs⟩
    · obtain rfl := Option.some.inj ho
      have p28 := hpre ⟨28, .guard⟩ (by simp) rfl
      clear ho hpre hi hcl
      have hmk : ∀ w, (Instr.makeSlice 24 (.int .i64 18) (.int .i64 18)).run Try.prog w = .ok (.slice (some ⟨w.heap.size, 0, none⟩) 18 18) (w.alloc (.cells #[.int .u8 0, .int .u8 0, .int .u8 0, .int .u8 0, .int .u8 0, .int .u8 0, .int .u8 0, .int .u8 0, .int .u8 0, .int .u8 0, .int .u8 0, .int .u8 0, .int .u8 0, .int .u8 0, .int .u8 0, .int .u8 0, .int .u8 0, .int .u8 0] 5)) := fun _ => by kernel_rfl
      go_wp2_with fail
      unfold AtEnd
      exact ⟨w.heap.size, by simp only [more, slot_true, slot_false, Nat.reduceEqDiff, ↓reduceIte, p28], hch.alloc _, fun _ => Blk.new w _ _⟩
    · obtain rfl := Option.some.inj ho
      have p31 := hpre ⟨31, .data⟩ (by simp) rfl
      have p28 := hpre ⟨28, .guard⟩ (by simp) rfl
      clear ho hpre hi hcl
      have h0 := (RB.of_row (hs p31) [0, 0, 0, 0, 0, 0, 0, 0, 0, 0, 0, 0, 0, 0, 0, 0, 0, 0] rfl (hs p31).lt).toStr (n := 18) rfl 18 Try.underlying24 Try.underlying5 Try.underlying9
      go_wp2_with fail
      unfold AtEnd
      exact ⟨s1, by simp only [more, slot_true, slot_false, Nat.reduceEqDiff, ↓reduceIte, p31, p28], hch, hs⟩
    · obtain rfl := Option.some.inj ho
      have p32 := hpre ⟨32, .data⟩ (by simp) rfl
      have p28 := hpre ⟨28, .guard⟩ (by simp) rfl
      clear ho hpre hi hcl
      have h0 := run_add_lists (P := Try.prog) [80, 75, 5, 6] [0, 0, 0, 0, 0, 0, 0, 0, 0, 0, 0, 0, 0, 0, 0, 0, 0, 0] (by decide) w
      go_wp2_with fail
      unfold AtEnd
      exact ⟨s1, by simp only [more, slot_true, slot_false, Nat.reduceEqDiff, ↓reduceIte, p32, p28], hch, hs⟩
    · obtain rfl := Option.some.inj ho
      have p30 := hpre ⟨30, .data⟩ (by simp) rfl
      have p33 := hpre ⟨33, .data⟩ (by simp) rfl
      have p28 := hpre ⟨28, .guard⟩ (by simp) rfl
      clear ho hpre hi hcl
      go_wp2_with fail
      unfold AtEnd
      exact ⟨s1, by simp only [more, slot_true, slot_false, Nat.reduceEqDiff, ↓reduceIte, p30, p33, p28], hch, hs⟩
    · obtain rfl := Option.some.inj ho
      have p28 := hpre ⟨28, .data⟩ (by simp) rfl
      have p34 := hpre ⟨34, .data⟩ (by simp) rfl
      clear ho hpre hi hcl
      go_wp2_with fail
      unfold AtEnd
      exact ⟨s1, by simp only [more, slot_true, slot_false, Nat.reduceEqDiff, ↓reduceIte, p28, p34], hch, hs⟩
    · obtain rfl := Option.some.inj ho
      have p35 := hpre ⟨35, .data⟩ (by simp) rfl
      have p28 := hpre ⟨28, .chain⟩ (by simp) rfl
      clear ho hpre hi hcl
      go_wp2_with fail
      unfold AtEnd
      exact ⟨s1, by simp only [more, slot_true, slot_false, Nat.reduceEqDiff, ↓reduceIte, p35, p28], hch, hs⟩
    · obtain rfl := Option.some.inj ho
      have p36 := hpre ⟨36, .guard⟩ (by simp) rfl
      clear ho hpre hi hcl
      go_wp2_with fail
      unfold AtEnd
      exact ⟨s1, by simp only [more, slot_true, slot_false, Nat.reduceEqDiff, ↓reduceIte, p36], hch, hs⟩
    · obtain rfl := Option.some.inj ho
      have p37 := hpre ⟨37, .data⟩ (by simp) rfl
      have p36 := hpre ⟨36, .guard⟩ (by simp) rfl
      clear ho hpre hi hcl
      go_wp2_with fail
      unfold AtEnd
      exact ⟨s1, by simp only [more, slot_true, slot_false, Nat.reduceEqDiff, ↓reduceIte, p37, p36], hch, hs⟩
    · obtain rfl := Option.some.inj ho
      have p36 := hpre ⟨36, .data⟩ (by simp) rfl
      have p38 := hpre ⟨38, .data⟩ (by simp) rfl
      clear ho hpre hi hcl
      go_wp2_with fail
      unfold AtEnd
      exact ⟨s1, by simp only [more, slot_true, slot_false, Nat.reduceEqDiff, ↓reduceIte, p36, p38], hch, hs⟩
    · obtain rfl := Option.some.inj ho
      have p39 := hpre ⟨39, .data⟩ (by simp) rfl
      have p36 := hpre ⟨36, .chain⟩ (by simp) rfl
      clear ho hpre hi hcl
      go_wp2_with fail
      unfold AtEnd
      exact ⟨s1, by simp only [more, slot_true, slot_false, Nat.reduceEqDiff, ↓reduceIte, p39, p36], hch, hs⟩
    · obtain rfl := Option.some.inj ho
      have p40 := hpre ⟨40, .guard⟩ (by simp) rfl
      clear ho hpre hi hcl
      have hb7 := HB7.out.chg hch (fun h => h)
      have k0 := hb7.cell 0
      have k1 := hb7.cell 1
      have k2 := hb7.cell 2
      have k3 := hb7.cell 3
      have k4 := hb7.cell 4
      have k5 := hb7.cell 5
      clear hb7
      go_wp2_with fail
      unfold AtEnd
      exact ⟨s1, by simp only [more, slot_true, slot_false, Nat.reduceEqDiff, ↓reduceIte, p40], hch, hs⟩
    · obtain rfl := Option.some.inj ho
      have p40 := hpre ⟨40, .guard⟩ (by simp) rfl
      clear ho hpre hi hcl
      go_wp2_with fail
      unfold AtEnd
      exact ⟨s1, by simp only [more, slot_true, slot_false, Nat.reduceEqDiff, ↓reduceIte, p40], hch, hs⟩
    · obtain rfl := Option.some.inj ho
      have p41 := hpre ⟨41, .data⟩ (by simp) rfl
      have p42 := hpre ⟨42, .data⟩ (by simp) rfl
      have p40 := hpre ⟨40, .guard⟩ (by simp) rfl
      clear ho hpre hi hcl
      go_wp2_with fail
      unfold AtEnd
      exact ⟨s1, by simp only [more, slot_true, slot_false, Nat.reduceEqDiff, ↓reduceIte, p41, p42, p40], hch, hs⟩
    · obtain rfl := Option.some.inj ho
      have p40 := hpre ⟨40, .data⟩ (by simp) rfl
      have p43 := hpre ⟨43, .data⟩ (by simp) rfl
      clear ho hpre hi hcl
      go_wp2_with fail
      unfold AtEnd
      exact ⟨s1, by simp only [more, slot_true, slot_false, Nat.reduceEqDiff, ↓reduceIte, p40, p43], hch, hs⟩
    · obtain rfl := Option.some.inj ho
      have p44 := hpre ⟨44, .data⟩ (by simp) rfl
      have p40 := hpre ⟨40, .chain⟩ (by simp) rfl
      clear ho hpre hi hcl
      go_wp2_with fail
      unfold AtEnd
      exact ⟨s1, by simp only [more, slot_true, slot_false, Nat.reduceEqDiff, ↓reduceIte, p44, p40], hch, hs⟩
    · obtain rfl := Option.some.inj ho
      have p45 := hpre ⟨45, .guard⟩ (by simp) rfl
      clear ho hpre hi hcl
      go_wp2_with fail
      unfold AtEnd
      exact ⟨s1, by simp only [more, slot_true, slot_false, Nat.reduceEqDiff, ↓reduceIte, p45], hch, hs⟩
    · obtain rfl := Option.some.inj ho
      have p46 := hpre ⟨46, .data⟩ (by simp) rfl
      have p45 := hpre ⟨45, .guard⟩ (by simp) rfl
      clear ho hpre hi hcl
      go_wp2_with fail
      unfold AtEnd
      exact ⟨s1, by simp only [more, slot_true, slot_false, Nat.reduceEqDiff, ↓reduceIte, p46, p45], hch, hs⟩
    · obtain rfl := Option.some.inj ho
      have p45 := hpre ⟨45, .data⟩ (by simp) rfl
      have p47 := hpre ⟨47, .data⟩ (by simp) rfl
      clear ho hpre hi hcl
      go_wp2_with fail
      unfold AtEnd
      exact ⟨s1, by simp only [more, slot_true, slot_false, Nat.reduceEqDiff, ↓reduceIte, p45, p47], hch, hs⟩
    · obtain rfl := Option.some.inj ho
      have p48 := hpre ⟨48, .data⟩ (by simp) rfl
      have p45 := hpre ⟨45, .chain⟩ (by simp) rfl
      clear ho hpre hi hcl
      go_wp2_with fail
      unfold AtEnd
      exact ⟨s1, by simp only [more, slot_true, slot_false, Nat.reduceEqDiff, ↓reduceIte, p48, p45], hch, hs⟩
    · obtain rfl := Option.some.inj ho
      have p49 := hpre ⟨49, .guard⟩ (by simp) rfl
      clear ho hpre hi hcl
      go_wp2_with fail
      unfold AtEnd
      exact ⟨s1, by simp only [more, slot_true, slot_false, Nat.reduceEqDiff, ↓reduceIte, p49], hch, hs⟩
    · obtain rfl := Option.some.inj ho
      have p50 := hpre ⟨50, .data⟩ (by simp) rfl
      have p49 := hpre ⟨49, .guard⟩ (by simp) rfl
      clear ho hpre hi hcl
      go_wp2_with fail
      unfold AtEnd
      exact ⟨s1, by simp only [more, slot_true, slot_false, Nat.reduceEqDiff, ↓reduceIte, p50, p49], hch, hs⟩
    · obtain rfl := Option.some.inj ho
      have p49 := hpre ⟨49, .data⟩ (by simp) rfl
      have p51 := hpre ⟨51, .data⟩ (by simp) rfl
      clear ho hpre hi hcl
      go_wp2_with fail
      unfold AtEnd
      exact ⟨s1, by simp only [more, slot_true, slot_false, Nat.reduceEqDiff, ↓reduceIte, p49, p51], hch, hs⟩
    · obtain rfl := Option.some.inj ho
      have p52 := hpre ⟨52, .data⟩ (by simp) rfl
      have p49 := hpre ⟨49, .chain⟩ (by simp) rfl
      clear ho hpre hi hcl
      go_wp2_with fail
      unfold AtEnd
      exact ⟨s1, by simp only [more, slot_true, slot_false, Nat.reduceEqDiff, ↓reduceIte, p52, p49], hch, hs⟩
  · intro D a w hall hI
    obtain ⟨s1, rfl, hch, hs⟩ := hI
    have e53 := hall 53 (by decide)
    clear hall
    rw [e53]
    simp only [slot_true]
    clear e53 hs
    go_wp2_with fail
    go_ret
    exact ⟨rfl, HCC.out.trans hch (fun _ _ h => h)⟩
end Go.Proofs.Ytgojdkjneggmjaa
