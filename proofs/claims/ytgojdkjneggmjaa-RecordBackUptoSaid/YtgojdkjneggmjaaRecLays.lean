/-
  THE LAW RecordLays, walked.
-/
import Derived.Test.YtgojdkjneggmjaaRecArg
import Derived.Deep.Cut
namespace Go.Proofs.Ytgojdkjneggmjaa
open Go.RowKit FieldM
set_option linter.unusedSimpArgs false
def InvRLays (b1 : Nat) (r : Rec) (er : Int) (s1 s2 : Value) (L1 L2 : List UInt8) (w0 : World) (D : Nat → Bool) (a : Act) (w : World) : Prop :=
  a = { tmps := #[.agg r.cells, .pointer (some ⟨b1, 0, none⟩), (slot (D 30) (.bool true) (.bool false)), s1, .int .i64 er, .string ⟨L1.toArray⟩, .int .i64 er, s2, .int .i64 er, .string ⟨L2.toArray⟩, .int .i64 er, .tuple #[s1, .int .i64 er], .agg r.cells, .tuple #[s1, .int .i64 er], s1, .int .i64 er, .tuple #[.string ⟨L1.toArray⟩, .int .i64 er], .agg r.cells, .tuple #[.string ⟨L1.toArray⟩, .int .i64 er], .string ⟨L1.toArray⟩, .int .i64 er, .tuple #[s2, .int .i64 er], .agg r.cells, .tuple #[s2, .int .i64 er], s2, .int .i64 er, .tuple #[.string ⟨L2.toArray⟩, .int .i64 er], .agg r.cells, .tuple #[.string ⟨L2.toArray⟩, .int .i64 er], .string ⟨L2.toArray⟩, .int .i64 er, (slot (D 0) (.agg r.cells) (undef)), (slot (D 1) (.int .i64 er) (undef)), (slot (D 2) (.agg r.cells) (undef)), (slot (D 3) (.int .i64 er) (undef)), (slot (D 4) (.bool true) (undef)), (slot (D 5) (.bool true) (undef)), (slot (D 6) (s1) (undef)), (slot (D 7) (.string ⟨L1.toArray⟩) (undef)), (slot (D 8) (.string ⟨L1.toArray⟩) (undef)), (slot (D 9) (.bool true) (undef)), (slot (D 10) (.bool true) (undef)), (slot (D 11) (.bool true) (undef)), (slot (D 12) (.int .i64 er) (undef)), (slot (D 13) (.int .i64 er) (undef)), (slot (D 14) (.bool true) (undef)), (slot (D 15) (.bool true) (undef)), (slot (D 16) (.bool true) (undef)), (slot (D 17) (s2) (undef)), (slot (D 18) (.string ⟨L2.toArray⟩) (undef)), (slot (D 19) (.string ⟨L2.toArray⟩) (undef)), (slot (D 20) (.bool true) (undef)), (slot (D 21) (.bool true) (undef)), (slot (D 22) (.bool true) (undef)), (slot (D 23) (.int .i64 er) (undef)), (slot (D 24) (.int .i64 er) (undef)), (slot (D 25) (.bool true) (undef)), (slot (D 26) (.bool true) (undef)), (slot (D 27) (.bool true) (undef)), (slot (D 28) (.bool true) (undef)), (slot (D 29) (.bool true) (undef))], defers := [] } ∧
    (Chg NoB w0 w)
set_option maxRecDepth 100000 in
set_option maxHeartbeats 8000000 in
theorem recordLays_walk (r : Rec) (W : World) :
    Calls Try.prog 3 #[.agg r.cells] W fun e W' => e = .returned (.bool true) ∧ Below W.heap.size W W' := by
  obtain ⟨w0, hw0⟩ : ∃ w0, w0 = W.alloc (.cells r.cells 23) := ⟨_, rfl⟩
  obtain ⟨b1, hb1⟩ : ∃ b, b = W.heap.size := ⟨_, rfl⟩
  have hbx : Blk w0 b1 23 r.cells := by rw [hw0, hb1]; exact Blk.new W _ _
  have hcc0 : Chg NoB W w0 := by rw [hw0]; exact (Chg.refl _ _).alloc _
  go_enter Try.func3, Try.ntmps3
  go_upto_region 1 with (fail)
  rw [← hw0, ← hb1]
  clear hw0 hb1
  go_wp2_with (first | (refine wpList_load_row rfl 23 _ rfl b1 rfl 23 _ (0, 0) _ hbx Try.underlying23 rfl rec_info ?_) | fail)
  refine (local_any r _).mono ?_
  rintro e w1 ⟨hcase, hc1⟩
  rcases hcase with ⟨hok, v1, rfl, ho1⟩ | ⟨hok, rfl⟩
  · have HOK := Lib.hid hok
    clear hok
    obtain ⟨A1, n1, c1, rfl, hn1, hr1, hnc1, _⟩ := ho1.val
    clear ho1
    have hbx := hbx.chg hc1 (fun h => h)
    have hcc1 := hcc0.trans hc1 (fun _ _ h => h)
    go_wp2_with (first | (refine wpList_load_row rfl 23 _ rfl b1 rfl 23 _ (0, 0) _ hbx Try.underlying23 rfl rec_info ?_) | fail)
    refine (rlocal_any r _).mono ?_
    rintro e w2 ⟨hcase, hc2⟩
    rcases hcase with ⟨_, rfl⟩ | ⟨h, _⟩
    rotate_left
    · exact absurd HOK.out h
    have hr1 := hr1.no hc2
    have hbx := hbx.chg hc2 (fun h => h)
    have hcc2 := hcc1.trans hc2 (fun _ _ h => h)
    go_wp2_with (first | (refine wpList_load_row rfl 23 _ rfl b1 rfl 23 _ (0, 0) _ hbx Try.underlying23 rfl rec_info ?_) | fail)
    refine (central_any r _).mono ?_
    rintro e w3 ⟨hcase, hc3⟩
    rcases hcase with ⟨_, v2, rfl, ho2⟩ | ⟨h, _⟩
    rotate_left
    · exact absurd HOK.out h
    obtain ⟨A2, n2, c2, rfl, hn2, hr2, hnc2, _⟩ := ho2.val
    clear ho2
    have hr1 := hr1.no hc3
    have hbx := hbx.chg hc3 (fun h => h)
    have hcc3 := hcc2.trans hc3 (fun _ _ h => h)
    go_wp2_with (first | (refine wpList_load_row rfl 23 _ rfl b1 rfl 23 _ (0, 0) _ hbx Try.underlying23 rfl rec_info ?_) | fail)
    refine (rcentral_any r _).mono ?_
    rintro e w4 ⟨hcase, hc4⟩
    rcases hcase with ⟨_, rfl⟩ | ⟨h, _⟩
    rotate_left
    · exact absurd HOK.out h
    have hr1 := hr1.no hc4
    have hr2 := hr2.no hc4
    have hbx := hbx.chg hc4 (fun h => h)
    have hcc4 := hcc3.trans hc4 (fun _ _ h => h)
    obtain ⟨L1, hL1⟩ : ∃ L, L = localL r := ⟨_, rfl⟩
    obtain ⟨L2, hL2⟩ : ∃ L, L = centralL r := ⟨_, rfl⟩
    rw [← hL1] at hr1 hn1
    rw [← hL2] at hr2 hn2
    rw [← hL1, ← hL2]
    obtain ⟨w5, hw5⟩ : ∃ w, w = w4 := ⟨_, rfl⟩
    subst hw5
    have HR1 := Lib.hid (show RB w5 w1.heap.size A1 L1 ∧ L1.length = n1 from ⟨hr1, hn1⟩)
    have HR2 := Lib.hid (show RB w5 w3.heap.size A2 L2 ∧ L2.length = n2 from ⟨hr2, hn2⟩)
    have HB := Lib.hid hbx
    have HCC := Lib.hid hcc4
    have i1 : Chg NoB w5 w5.drew := (Chg.refl _ _).drew
    clear hr1 hr2 hn1 hn2 hL1 hL2 hbx hcc0 hcc1 hcc2 hcc3 hcc4 hc1 hc2 hc3 hc4
    go_wp2_with fail
    refine wp_region_cl rfl (by kernel_rfl) (InvRLays b1 r 0 (.slice A1 n1 c1) (.slice A2 n2 c2) L1 L2 w5) ?_ ?_ ?_
    · exact ⟨rfl, i1⟩
    · clear i1
      intro D a w i o ho hD hcl hpre hI
      obtain ⟨rfl, hch⟩ := hI
      have hi : i < 31 := by have := (List.getElem?_eq_some_iff.1 ho).1; simpa using this
      rcases (by omega : i = 0 ∨ i = 1 ∨ i = 2 ∨ i = 3 ∨ i = 4 ∨ i = 5 ∨ i = 6 ∨ i = 7 ∨ i = 8 ∨ i = 9 ∨ i = 10 ∨ i = 11 ∨ i = 12 ∨ i = 13 ∨ i = 14 ∨ i = 15 ∨ i = 16 ∨ i = 17 ∨ i = 18 ∨ i = 19 ∨ i = 20 ∨ i = 21 ∨ i = 22 ∨ i = 23 ∨ i = 24 ∨ i = 25 ∨ i = 26 ∨ i = 27 ∨ i = 28 ∨ i = 29 ∨ i = 30) with rfl | rfl | rfl | rfl | rfl | rfl | rfl | rfl | rfl | rfl | rfl | rfl | rfl | rfl | rfl | rfl | rfl | rfl | rfl | rfl | rfl | rfl | rfl | rfl | rfl | rfl | rfl | rfl | rfl | rfl | rfl
      · obtain rfl := Option.some.inj ho
        clear ho hpre hi hcl
        go_wp2_with (refine wpList_load_row rfl 23 _ rfl b1 rfl 23 _ (0, 0) _ (HB.out.chg hch (fun h => h)) Try.underlying23 rfl rec_info ?_)
        unfold AtEnd
        exact ⟨rfl, hch⟩
      · obtain rfl := Option.some.inj ho
        have p0 := hpre ⟨0, .data⟩ (by simp) rfl
        clear ho hpre hi hcl
        go_wp2_with fail
        refine (check_any r _).mono ?_
        rintro e w1 ⟨hcase, hc1⟩
        rcases hcase with ⟨_, rfl⟩ | ⟨h, _⟩
        rotate_left
        · exact absurd HOK.out h
        go_wp2_with fail
        unfold AtEnd
        exact ⟨by simp only [more, slot_true, slot_false, Nat.reduceEqDiff, ↓reduceIte, p0], hch.trans hc1 (fun _ _ h => h)⟩
      · obtain rfl := Option.some.inj ho
        clear ho hpre hi hcl
        go_wp2_with (refine wpList_load_row rfl 23 _ rfl b1 rfl 23 _ (0, 0) _ (HB.out.chg hch (fun h => h)) Try.underlying23 rfl rec_info ?_)
        unfold AtEnd
        exact ⟨rfl, hch⟩
      · obtain rfl := Option.some.inj ho
        have p2 := hpre ⟨2, .data⟩ (by simp) rfl
        have p1 := hpre ⟨1, .chain⟩ (by simp) rfl
        clear ho hpre hi hcl
        go_wp2_with fail
        refine (rcheck_any r _).mono ?_
        rintro e w1 ⟨hcase, hc1⟩
        rcases hcase with ⟨_, rfl⟩ | ⟨h, _⟩
        rotate_left
        · exact absurd HOK.out h
        go_wp2_with fail
        unfold AtEnd
        exact ⟨by simp only [more, slot_true, slot_false, Nat.reduceEqDiff, ↓reduceIte, p2, p1], hch.trans hc1 (fun _ _ h => h)⟩
      · obtain rfl := Option.some.inj ho
        have p1 := hpre ⟨1, .data⟩ (by simp) rfl
        have p3 := hpre ⟨3, .data⟩ (by simp) rfl
        clear ho hpre hi hcl
        go_wp2_with fail
        unfold AtEnd
        exact ⟨by simp only [more, slot_true, slot_false, Nat.reduceEqDiff, ↓reduceIte, p1, p3], hch⟩
      · obtain rfl := Option.some.inj ho
        have p4 := hpre ⟨4, .data⟩ (by simp) rfl
        have p3 := hpre ⟨3, .chain⟩ (by simp) rfl
        clear ho hpre hi hcl
        go_wp2_with fail
        unfold AtEnd
        exact ⟨by simp only [more, slot_true, slot_false, Nat.reduceEqDiff, ↓reduceIte, p4, p3], hch⟩
      · obtain rfl := Option.some.inj ho
        have p5 := hpre ⟨5, .guard⟩ (by simp) rfl
        clear ho hpre hi hcl
        go_wp2_with fail
        unfold AtEnd
        exact ⟨by simp only [more, slot_true, slot_false, Nat.reduceEqDiff, ↓reduceIte, p5], hch⟩
      · obtain rfl := Option.some.inj ho
        have p6 := hpre ⟨6, .data⟩ (by simp) rfl
        have p5 := hpre ⟨5, .guard⟩ (by simp) rfl
        clear ho hpre hi hcl
        have h0 := (HR1.out.1.no hch).toStr HR1.out.2 c1 Try.underlying24 Try.underlying5 Try.underlying9
        go_wp2_with fail
        unfold AtEnd
        exact ⟨by simp only [more, slot_true, slot_false, Nat.reduceEqDiff, ↓reduceIte, p6, p5], hch⟩
      · obtain rfl := Option.some.inj ho
        have p5 := hpre ⟨5, .guard⟩ (by simp) rfl
        clear ho hpre hi hcl
        go_wp2_with fail
        unfold AtEnd
        exact ⟨by simp only [more, slot_true, slot_false, Nat.reduceEqDiff, ↓reduceIte, p5], hch⟩
      · obtain rfl := Option.some.inj ho
        have p7 := hpre ⟨7, .data⟩ (by simp) rfl
        have p8 := hpre ⟨8, .data⟩ (by simp) rfl
        have p5 := hpre ⟨5, .guard⟩ (by simp) rfl
        clear ho hpre hi hcl
        go_wp2_with fail
        unfold AtEnd
        exact ⟨by simp only [more, slot_true, slot_false, Nat.reduceEqDiff, ↓reduceIte, p7, p8, p5], hch⟩
      · obtain rfl := Option.some.inj ho
        have p5 := hpre ⟨5, .data⟩ (by simp) rfl
        have p9 := hpre ⟨9, .data⟩ (by simp) rfl
        clear ho hpre hi hcl
        go_wp2_with fail
        unfold AtEnd
        exact ⟨by simp only [more, slot_true, slot_false, Nat.reduceEqDiff, ↓reduceIte, p5, p9], hch⟩
      · obtain rfl := Option.some.inj ho
        have p10 := hpre ⟨10, .data⟩ (by simp) rfl
        have p5 := hpre ⟨5, .chain⟩ (by simp) rfl
        clear ho hpre hi hcl
        go_wp2_with fail
        unfold AtEnd
        exact ⟨by simp only [more, slot_true, slot_false, Nat.reduceEqDiff, ↓reduceIte, p10, p5], hch⟩
      · obtain rfl := Option.some.inj ho
        have p11 := hpre ⟨11, .guard⟩ (by simp) rfl
        clear ho hpre hi hcl
        go_wp2_with fail
        unfold AtEnd
        exact ⟨by simp only [more, slot_true, slot_false, Nat.reduceEqDiff, ↓reduceIte, p11], hch⟩
      · obtain rfl := Option.some.inj ho
        have p11 := hpre ⟨11, .guard⟩ (by simp) rfl
        clear ho hpre hi hcl
        go_wp2_with fail
        unfold AtEnd
        exact ⟨by simp only [more, slot_true, slot_false, Nat.reduceEqDiff, ↓reduceIte, p11], hch⟩
      · obtain rfl := Option.some.inj ho
        have p12 := hpre ⟨12, .data⟩ (by simp) rfl
        have p13 := hpre ⟨13, .data⟩ (by simp) rfl
        have p11 := hpre ⟨11, .guard⟩ (by simp) rfl
        clear ho hpre hi hcl
        go_wp2_with fail
        unfold AtEnd
        exact ⟨by simp only [more, slot_true, slot_false, Nat.reduceEqDiff, ↓reduceIte, p12, p13, p11], hch⟩
      · obtain rfl := Option.some.inj ho
        have p11 := hpre ⟨11, .data⟩ (by simp) rfl
        have p14 := hpre ⟨14, .data⟩ (by simp) rfl
        clear ho hpre hi hcl
        go_wp2_with fail
        unfold AtEnd
        exact ⟨by simp only [more, slot_true, slot_false, Nat.reduceEqDiff, ↓reduceIte, p11, p14], hch⟩
      · obtain rfl := Option.some.inj ho
        have p15 := hpre ⟨15, .data⟩ (by simp) rfl
        have p11 := hpre ⟨11, .chain⟩ (by simp) rfl
        clear ho hpre hi hcl
        go_wp2_with fail
        unfold AtEnd
        exact ⟨by simp only [more, slot_true, slot_false, Nat.reduceEqDiff, ↓reduceIte, p15, p11], hch⟩
      · obtain rfl := Option.some.inj ho
        have p16 := hpre ⟨16, .guard⟩ (by simp) rfl
        clear ho hpre hi hcl
        go_wp2_with fail
        unfold AtEnd
        exact ⟨by simp only [more, slot_true, slot_false, Nat.reduceEqDiff, ↓reduceIte, p16], hch⟩
      · obtain rfl := Option.some.inj ho
        have p17 := hpre ⟨17, .data⟩ (by simp) rfl
        have p16 := hpre ⟨16, .guard⟩ (by simp) rfl
        clear ho hpre hi hcl
        have h0 := (HR2.out.1.no hch).toStr HR2.out.2 c2 Try.underlying24 Try.underlying5 Try.underlying9
        go_wp2_with fail
        unfold AtEnd
        exact ⟨by simp only [more, slot_true, slot_false, Nat.reduceEqDiff, ↓reduceIte, p17, p16], hch⟩
      · obtain rfl := Option.some.inj ho
        have p16 := hpre ⟨16, .guard⟩ (by simp) rfl
        clear ho hpre hi hcl
        go_wp2_with fail
        unfold AtEnd
        exact ⟨by simp only [more, slot_true, slot_false, Nat.reduceEqDiff, ↓reduceIte, p16], hch⟩
      · obtain rfl := Option.some.inj ho
        have p18 := hpre ⟨18, .data⟩ (by simp) rfl
        have p19 := hpre ⟨19, .data⟩ (by simp) rfl
        have p16 := hpre ⟨16, .guard⟩ (by simp) rfl
        clear ho hpre hi hcl
        go_wp2_with fail
        unfold AtEnd
        exact ⟨by simp only [more, slot_true, slot_false, Nat.reduceEqDiff, ↓reduceIte, p18, p19, p16], hch⟩
      · obtain rfl := Option.some.inj ho
        have p16 := hpre ⟨16, .data⟩ (by simp) rfl
        have p20 := hpre ⟨20, .data⟩ (by simp) rfl
        clear ho hpre hi hcl
        go_wp2_with fail
        unfold AtEnd
        exact ⟨by simp only [more, slot_true, slot_false, Nat.reduceEqDiff, ↓reduceIte, p16, p20], hch⟩
      · obtain rfl := Option.some.inj ho
        have p21 := hpre ⟨21, .data⟩ (by simp) rfl
        have p16 := hpre ⟨16, .chain⟩ (by simp) rfl
        clear ho hpre hi hcl
        go_wp2_with fail
        unfold AtEnd
        exact ⟨by simp only [more, slot_true, slot_false, Nat.reduceEqDiff, ↓reduceIte, p21, p16], hch⟩
      · obtain rfl := Option.some.inj ho
        have p22 := hpre ⟨22, .guard⟩ (by simp) rfl
        clear ho hpre hi hcl
        go_wp2_with fail
        unfold AtEnd
        exact ⟨by simp only [more, slot_true, slot_false, Nat.reduceEqDiff, ↓reduceIte, p22], hch⟩
      · obtain rfl := Option.some.inj ho
        have p22 := hpre ⟨22, .guard⟩ (by simp) rfl
        clear ho hpre hi hcl
        go_wp2_with fail
        unfold AtEnd
        exact ⟨by simp only [more, slot_true, slot_false, Nat.reduceEqDiff, ↓reduceIte, p22], hch⟩
      · obtain rfl := Option.some.inj ho
        have p23 := hpre ⟨23, .data⟩ (by simp) rfl
        have p24 := hpre ⟨24, .data⟩ (by simp) rfl
        have p22 := hpre ⟨22, .guard⟩ (by simp) rfl
        clear ho hpre hi hcl
        go_wp2_with fail
        unfold AtEnd
        exact ⟨by simp only [more, slot_true, slot_false, Nat.reduceEqDiff, ↓reduceIte, p23, p24, p22], hch⟩
      · obtain rfl := Option.some.inj ho
        have p22 := hpre ⟨22, .data⟩ (by simp) rfl
        have p25 := hpre ⟨25, .data⟩ (by simp) rfl
        clear ho hpre hi hcl
        go_wp2_with fail
        unfold AtEnd
        exact ⟨by simp only [more, slot_true, slot_false, Nat.reduceEqDiff, ↓reduceIte, p22, p25], hch⟩
      · obtain rfl := Option.some.inj ho
        have p26 := hpre ⟨26, .data⟩ (by simp) rfl
        have p22 := hpre ⟨22, .chain⟩ (by simp) rfl
        clear ho hpre hi hcl
        go_wp2_with fail
        unfold AtEnd
        exact ⟨by simp only [more, slot_true, slot_false, Nat.reduceEqDiff, ↓reduceIte, p26, p22], hch⟩
      · obtain rfl := Option.some.inj ho
        have p27 := hpre ⟨27, .chain⟩ (by simp) rfl
        clear ho hpre hi hcl
        go_wp2_with fail
        refine (lives_any _).mono ?_
        rintro e w1 ⟨rfl, hc1⟩
        go_wp2_with fail
        unfold AtEnd
        exact ⟨by simp only [more, slot_true, slot_false, Nat.reduceEqDiff, ↓reduceIte, p27], hch.trans hc1 (fun _ _ h => h)⟩
      · obtain rfl := Option.some.inj ho
        have p27 := hpre ⟨27, .data⟩ (by simp) rfl
        have p28 := hpre ⟨28, .data⟩ (by simp) rfl
        clear ho hpre hi hcl
        go_wp2_with fail
        unfold AtEnd
        exact ⟨by simp only [more, slot_true, slot_false, Nat.reduceEqDiff, ↓reduceIte, p27, p28], hch⟩
      · obtain rfl := Option.some.inj ho
        have p29 := hpre ⟨29, .data⟩ (by simp) rfl
        have p28 := hpre ⟨28, .chain⟩ (by simp) rfl
        clear ho hpre hi hcl
        go_wp2_with fail
        unfold AtEnd
        exact ⟨by simp only [more, slot_true, slot_false, Nat.reduceEqDiff, ↓reduceIte, p29, p28], hch⟩
    · intro D a w hall hI
      obtain ⟨rfl, hch⟩ := hI
      have e30 := hall 30 (by decide)
      clear hall
      rw [e30]
      simp only [slot_true]
      clear e30
      go_wp2_with fail
      go_ret
      exact ⟨rfl, (HCC.out.trans hch (fun _ _ h => h)).no⟩
  · have HOK := Lib.hid hok
    clear hok
    have hbx := hbx.chg hc1 (fun h => h)
    have hcc1 := hcc0.trans hc1 (fun _ _ h => h)
    go_wp2_with (first | (refine wpList_load_row rfl 23 _ rfl b1 rfl 23 _ (0, 0) _ hbx Try.underlying23 rfl rec_info ?_) | fail)
    refine (rlocal_any r _).mono ?_
    rintro e w2 ⟨hcase, hc2⟩
    rcases hcase with ⟨h, _⟩ | ⟨_, rfl⟩
    · exact absurd h HOK.out
    have hbx := hbx.chg hc2 (fun h => h)
    have hcc2 := hcc1.trans hc2 (fun _ _ h => h)
    go_wp2_with (first | (refine wpList_load_row rfl 23 _ rfl b1 rfl 23 _ (0, 0) _ hbx Try.underlying23 rfl rec_info ?_) | fail)
    refine (central_any r _).mono ?_
    rintro e w3 ⟨hcase, hc3⟩
    rcases hcase with ⟨h, _⟩ | ⟨_, rfl⟩
    · exact absurd h HOK.out
    have hbx := hbx.chg hc3 (fun h => h)
    have hcc3 := hcc2.trans hc3 (fun _ _ h => h)
    go_wp2_with (first | (refine wpList_load_row rfl 23 _ rfl b1 rfl 23 _ (0, 0) _ hbx Try.underlying23 rfl rec_info ?_) | fail)
    refine (rcentral_any r _).mono ?_
    rintro e w4 ⟨hcase, hc4⟩
    rcases hcase with ⟨h, _⟩ | ⟨_, rfl⟩
    · exact absurd h HOK.out
    have hbx := hbx.chg hc4 (fun h => h)
    have hcc4 := hcc3.trans hc4 (fun _ _ h => h)
    obtain ⟨w5, hw5⟩ : ∃ w, w = w4 := ⟨_, rfl⟩
    subst hw5
    have HB := Lib.hid hbx
    have HCC := Lib.hid hcc4
    have i1 : Chg NoB w5 w5.drew := (Chg.refl _ _).drew
    clear hbx hcc0 hcc1 hcc2 hcc3 hcc4 hc1 hc2 hc3 hc4
    go_wp2_with fail
    refine wp_region_cl rfl (by kernel_rfl) (InvRLays b1 r 2 (.slice none 0 0) (.slice none 0 0) [] [] w5) ?_ ?_ ?_
    · exact ⟨rfl, i1⟩
    · clear i1
      intro D a w i o ho hD hcl hpre hI
      obtain ⟨rfl, hch⟩ := hI
      have hi : i < 31 := by have := (List.getElem?_eq_some_iff.1 ho).1; simpa using this
      rcases (by omega : i = 0 ∨ i = 1 ∨ i = 2 ∨ i = 3 ∨ i = 4 ∨ i = 5 ∨ i = 6 ∨ i = 7 ∨ i = 8 ∨ i = 9 ∨ i = 10 ∨ i = 11 ∨ i = 12 ∨ i = 13 ∨ i = 14 ∨ i = 15 ∨ i = 16 ∨ i = 17 ∨ i = 18 ∨ i = 19 ∨ i = 20 ∨ i = 21 ∨ i = 22 ∨ i = 23 ∨ i = 24 ∨ i = 25 ∨ i = 26 ∨ i = 27 ∨ i = 28 ∨ i = 29 ∨ i = 30) with rfl | rfl | rfl | rfl | rfl | rfl | rfl | rfl | rfl | rfl | rfl | rfl | rfl | rfl | rfl | rfl | rfl | rfl | rfl | rfl | rfl | rfl | rfl | rfl | rfl | rfl | rfl | rfl | rfl | rfl | rfl
      · obtain rfl := Option.some.inj ho
        clear ho hpre hi hcl
        go_wp2_with (refine wpList_load_row rfl 23 _ rfl b1 rfl 23 _ (0, 0) _ (HB.out.chg hch (fun h => h)) Try.underlying23 rfl rec_info ?_)
        unfold AtEnd
        exact ⟨rfl, hch⟩
      · obtain rfl := Option.some.inj ho
        have p0 := hpre ⟨0, .data⟩ (by simp) rfl
        clear ho hpre hi hcl
        go_wp2_with fail
        refine (check_any r _).mono ?_
        rintro e w1 ⟨hcase, hc1⟩
        rcases hcase with ⟨h, _⟩ | ⟨_, rfl⟩
        · exact absurd h HOK.out
        go_wp2_with fail
        unfold AtEnd
        exact ⟨by simp only [more, slot_true, slot_false, Nat.reduceEqDiff, ↓reduceIte, p0], hch.trans hc1 (fun _ _ h => h)⟩
      · obtain rfl := Option.some.inj ho
        clear ho hpre hi hcl
        go_wp2_with (refine wpList_load_row rfl 23 _ rfl b1 rfl 23 _ (0, 0) _ (HB.out.chg hch (fun h => h)) Try.underlying23 rfl rec_info ?_)
        unfold AtEnd
        exact ⟨rfl, hch⟩
      · obtain rfl := Option.some.inj ho
        have p2 := hpre ⟨2, .data⟩ (by simp) rfl
        have p1 := hpre ⟨1, .chain⟩ (by simp) rfl
        clear ho hpre hi hcl
        go_wp2_with fail
        refine (rcheck_any r _).mono ?_
        rintro e w1 ⟨hcase, hc1⟩
        rcases hcase with ⟨h, _⟩ | ⟨_, rfl⟩
        · exact absurd h HOK.out
        go_wp2_with fail
        unfold AtEnd
        exact ⟨by simp only [more, slot_true, slot_false, Nat.reduceEqDiff, ↓reduceIte, p2, p1], hch.trans hc1 (fun _ _ h => h)⟩
      · obtain rfl := Option.some.inj ho
        have p1 := hpre ⟨1, .data⟩ (by simp) rfl
        have p3 := hpre ⟨3, .data⟩ (by simp) rfl
        clear ho hpre hi hcl
        go_wp2_with fail
        unfold AtEnd
        exact ⟨by simp only [more, slot_true, slot_false, Nat.reduceEqDiff, ↓reduceIte, p1, p3], hch⟩
      · obtain rfl := Option.some.inj ho
        have p4 := hpre ⟨4, .data⟩ (by simp) rfl
        have p3 := hpre ⟨3, .chain⟩ (by simp) rfl
        clear ho hpre hi hcl
        go_wp2_with fail
        unfold AtEnd
        exact ⟨by simp only [more, slot_true, slot_false, Nat.reduceEqDiff, ↓reduceIte, p4, p3], hch⟩
      · obtain rfl := Option.some.inj ho
        have p5 := hpre ⟨5, .guard⟩ (by simp) rfl
        clear ho hpre hi hcl
        go_wp2_with fail
        unfold AtEnd
        exact ⟨by simp only [more, slot_true, slot_false, Nat.reduceEqDiff, ↓reduceIte, p5], hch⟩
      · obtain rfl := Option.some.inj ho
        have p6 := hpre ⟨6, .data⟩ (by simp) rfl
        have p5 := hpre ⟨5, .guard⟩ (by simp) rfl
        clear ho hpre hi hcl
        have h0 := (RB.none_ (w := w) (B := 0) (A := none)).toStr (P := Try.prog) (n := 0) rfl 0 Try.underlying24 Try.underlying5 Try.underlying9
        go_wp2_with fail
        unfold AtEnd
        exact ⟨by simp only [more, slot_true, slot_false, Nat.reduceEqDiff, ↓reduceIte, p6, p5], hch⟩
      · obtain rfl := Option.some.inj ho
        have p5 := hpre ⟨5, .guard⟩ (by simp) rfl
        clear ho hpre hi hcl
        go_wp2_with fail
        unfold AtEnd
        exact ⟨by simp only [more, slot_true, slot_false, Nat.reduceEqDiff, ↓reduceIte, p5], hch⟩
      · obtain rfl := Option.some.inj ho
        have p7 := hpre ⟨7, .data⟩ (by simp) rfl
        have p8 := hpre ⟨8, .data⟩ (by simp) rfl
        have p5 := hpre ⟨5, .guard⟩ (by simp) rfl
        clear ho hpre hi hcl
        go_wp2_with fail
        unfold AtEnd
        exact ⟨by simp only [more, slot_true, slot_false, Nat.reduceEqDiff, ↓reduceIte, p7, p8, p5], hch⟩
      · obtain rfl := Option.some.inj ho
        have p5 := hpre ⟨5, .data⟩ (by simp) rfl
        have p9 := hpre ⟨9, .data⟩ (by simp) rfl
        clear ho hpre hi hcl
        go_wp2_with fail
        unfold AtEnd
        exact ⟨by simp only [more, slot_true, slot_false, Nat.reduceEqDiff, ↓reduceIte, p5, p9], hch⟩
      · obtain rfl := Option.some.inj ho
        have p10 := hpre ⟨10, .data⟩ (by simp) rfl
        have p5 := hpre ⟨5, .chain⟩ (by simp) rfl
        clear ho hpre hi hcl
        go_wp2_with fail
        unfold AtEnd
        exact ⟨by simp only [more, slot_true, slot_false, Nat.reduceEqDiff, ↓reduceIte, p10, p5], hch⟩
      · obtain rfl := Option.some.inj ho
        have p11 := hpre ⟨11, .guard⟩ (by simp) rfl
        clear ho hpre hi hcl
        go_wp2_with fail
        unfold AtEnd
        exact ⟨by simp only [more, slot_true, slot_false, Nat.reduceEqDiff, ↓reduceIte, p11], hch⟩
      · obtain rfl := Option.some.inj ho
        have p11 := hpre ⟨11, .guard⟩ (by simp) rfl
        clear ho hpre hi hcl
        go_wp2_with fail
        unfold AtEnd
        exact ⟨by simp only [more, slot_true, slot_false, Nat.reduceEqDiff, ↓reduceIte, p11], hch⟩
      · obtain rfl := Option.some.inj ho
        have p12 := hpre ⟨12, .data⟩ (by simp) rfl
        have p13 := hpre ⟨13, .data⟩ (by simp) rfl
        have p11 := hpre ⟨11, .guard⟩ (by simp) rfl
        clear ho hpre hi hcl
        go_wp2_with fail
        unfold AtEnd
        exact ⟨by simp only [more, slot_true, slot_false, Nat.reduceEqDiff, ↓reduceIte, p12, p13, p11], hch⟩
      · obtain rfl := Option.some.inj ho
        have p11 := hpre ⟨11, .data⟩ (by simp) rfl
        have p14 := hpre ⟨14, .data⟩ (by simp) rfl
        clear ho hpre hi hcl
        go_wp2_with fail
        unfold AtEnd
        exact ⟨by simp only [more, slot_true, slot_false, Nat.reduceEqDiff, ↓reduceIte, p11, p14], hch⟩
      · obtain rfl := Option.some.inj ho
        have p15 := hpre ⟨15, .data⟩ (by simp) rfl
        have p11 := hpre ⟨11, .chain⟩ (by simp) rfl
        clear ho hpre hi hcl
        go_wp2_with fail
        unfold AtEnd
        exact ⟨by simp only [more, slot_true, slot_false, Nat.reduceEqDiff, ↓reduceIte, p15, p11], hch⟩
      · obtain rfl := Option.some.inj ho
        have p16 := hpre ⟨16, .guard⟩ (by simp) rfl
        clear ho hpre hi hcl
        go_wp2_with fail
        unfold AtEnd
        exact ⟨by simp only [more, slot_true, slot_false, Nat.reduceEqDiff, ↓reduceIte, p16], hch⟩
      · obtain rfl := Option.some.inj ho
        have p17 := hpre ⟨17, .data⟩ (by simp) rfl
        have p16 := hpre ⟨16, .guard⟩ (by simp) rfl
        clear ho hpre hi hcl
        have h0 := (RB.none_ (w := w) (B := 0) (A := none)).toStr (P := Try.prog) (n := 0) rfl 0 Try.underlying24 Try.underlying5 Try.underlying9
        go_wp2_with fail
        unfold AtEnd
        exact ⟨by simp only [more, slot_true, slot_false, Nat.reduceEqDiff, ↓reduceIte, p17, p16], hch⟩
      · obtain rfl := Option.some.inj ho
        have p16 := hpre ⟨16, .guard⟩ (by simp) rfl
        clear ho hpre hi hcl
        go_wp2_with fail
        unfold AtEnd
        exact ⟨by simp only [more, slot_true, slot_false, Nat.reduceEqDiff, ↓reduceIte, p16], hch⟩
      · obtain rfl := Option.some.inj ho
        have p18 := hpre ⟨18, .data⟩ (by simp) rfl
        have p19 := hpre ⟨19, .data⟩ (by simp) rfl
        have p16 := hpre ⟨16, .guard⟩ (by simp) rfl
        clear ho hpre hi hcl
        go_wp2_with fail
        unfold AtEnd
        exact ⟨by simp only [more, slot_true, slot_false, Nat.reduceEqDiff, ↓reduceIte, p18, p19, p16], hch⟩
      · obtain rfl := Option.some.inj ho
        have p16 := hpre ⟨16, .data⟩ (by simp) rfl
        have p20 := hpre ⟨20, .data⟩ (by simp) rfl
        clear ho hpre hi hcl
        go_wp2_with fail
        unfold AtEnd
        exact ⟨by simp only [more, slot_true, slot_false, Nat.reduceEqDiff, ↓reduceIte, p16, p20], hch⟩
      · obtain rfl := Option.some.inj ho
        have p21 := hpre ⟨21, .data⟩ (by simp) rfl
        have p16 := hpre ⟨16, .chain⟩ (by simp) rfl
        clear ho hpre hi hcl
        go_wp2_with fail
        unfold AtEnd
        exact ⟨by simp only [more, slot_true, slot_false, Nat.reduceEqDiff, ↓reduceIte, p21, p16], hch⟩
      · obtain rfl := Option.some.inj ho
        have p22 := hpre ⟨22, .guard⟩ (by simp) rfl
        clear ho hpre hi hcl
        go_wp2_with fail
        unfold AtEnd
        exact ⟨by simp only [more, slot_true, slot_false, Nat.reduceEqDiff, ↓reduceIte, p22], hch⟩
      · obtain rfl := Option.some.inj ho
        have p22 := hpre ⟨22, .guard⟩ (by simp) rfl
        clear ho hpre hi hcl
        go_wp2_with fail
        unfold AtEnd
        exact ⟨by simp only [more, slot_true, slot_false, Nat.reduceEqDiff, ↓reduceIte, p22], hch⟩
      · obtain rfl := Option.some.inj ho
        have p23 := hpre ⟨23, .data⟩ (by simp) rfl
        have p24 := hpre ⟨24, .data⟩ (by simp) rfl
        have p22 := hpre ⟨22, .guard⟩ (by simp) rfl
        clear ho hpre hi hcl
        go_wp2_with fail
        unfold AtEnd
        exact ⟨by simp only [more, slot_true, slot_false, Nat.reduceEqDiff, ↓reduceIte, p23, p24, p22], hch⟩
      · obtain rfl := Option.some.inj ho
        have p22 := hpre ⟨22, .data⟩ (by simp) rfl
        have p25 := hpre ⟨25, .data⟩ (by simp) rfl
        clear ho hpre hi hcl
        go_wp2_with fail
        unfold AtEnd
        exact ⟨by simp only [more, slot_true, slot_false, Nat.reduceEqDiff, ↓reduceIte, p22, p25], hch⟩
      · obtain rfl := Option.some.inj ho
        have p26 := hpre ⟨26, .data⟩ (by simp) rfl
        have p22 := hpre ⟨22, .chain⟩ (by simp) rfl
        clear ho hpre hi hcl
        go_wp2_with fail
        unfold AtEnd
        exact ⟨by simp only [more, slot_true, slot_false, Nat.reduceEqDiff, ↓reduceIte, p26, p22], hch⟩
      · obtain rfl := Option.some.inj ho
        have p27 := hpre ⟨27, .chain⟩ (by simp) rfl
        clear ho hpre hi hcl
        go_wp2_with fail
        refine (lives_any _).mono ?_
        rintro e w1 ⟨rfl, hc1⟩
        go_wp2_with fail
        unfold AtEnd
        exact ⟨by simp only [more, slot_true, slot_false, Nat.reduceEqDiff, ↓reduceIte, p27], hch.trans hc1 (fun _ _ h => h)⟩
      · obtain rfl := Option.some.inj ho
        have p27 := hpre ⟨27, .data⟩ (by simp) rfl
        have p28 := hpre ⟨28, .data⟩ (by simp) rfl
        clear ho hpre hi hcl
        go_wp2_with fail
        unfold AtEnd
        exact ⟨by simp only [more, slot_true, slot_false, Nat.reduceEqDiff, ↓reduceIte, p27, p28], hch⟩
      · obtain rfl := Option.some.inj ho
        have p29 := hpre ⟨29, .data⟩ (by simp) rfl
        have p28 := hpre ⟨28, .chain⟩ (by simp) rfl
        clear ho hpre hi hcl
        go_wp2_with fail
        unfold AtEnd
        exact ⟨by simp only [more, slot_true, slot_false, Nat.reduceEqDiff, ↓reduceIte, p29, p28], hch⟩
    · intro D a w hall hI
      obtain ⟨rfl, hch⟩ := hI
      have e30 := hall 30 (by decide)
      clear hall
      rw [e30]
      simp only [slot_true]
      clear e30
      go_wp2_with fail
      go_ret
      exact ⟨rfl, (HCC.out.trans hch (fun _ _ h => h)).no⟩
end Go.Proofs.Ytgojdkjneggmjaa
