/-
  THE WALK of the program's Local.
-/
import Derived.Test.YtgojdkjneggmjaaRec7
import Derived.Test.YtgojdkjneggmjaaAppStr
namespace Go.Proofs.Ytgojdkjneggmjaa
open Go.RowKit FieldM
set_option linter.unusedSimpArgs false
theorem rec_info : (Try.prog.info? 23).map (·.size) = some (#[undef, undef, undef, undef, undef, undef] : Array Value).size := by kernel_rfl
def localL (r : Rec) : List UInt8 := [80, 75, 3, 4] ++ r.mid ++ r.name
theorem mid_len (r : Rec) : r.mid.length = 26 := by
  have h1 : r.mid1.length = 10 := lay_len 2 _
  have h2 : r.mid2.length = 12 := lay_len 4 _
  have h3 : r.mid3.length = 4 := lay_len 2 _
  unfold Rec.mid; simp only [List.length_append]; omega
def InvLocal (g base b : Nat) (r : Rec) (w0 : World) (D : Nat → Bool) (a : Act) (w : World) : Prop :=
  ∃ (u : Value) (v : Value), a = { tmps := #[.agg r.cells, .pointer (some ⟨b, 0, none⟩), (slot (D 9) (v) (.slice none 0 0)), (slot (D 10) (.int .i64 0) (.int .i64 0)), .int .i64 0, .pointer (some ⟨g, 0, none⟩), .agg r.cells, .int .i64 0, .int .i64 0, .bool false, undef, .slice (some ⟨base, 0, none⟩) 4 4, .slice (some ⟨base, 0, none⟩) 4 4, .agg #[.slice (some ⟨base, 0, none⟩) 4 4], .pointer (some ⟨g, 0, none⟩), (slot (D 0) (.pointer (some ⟨g, 0, none⟩)) (undef)), (slot (D 1) (.agg r.cells) (undef)), (slot (D 2) (.pointer (some ⟨g, 0, none⟩)) (undef)), (slot (D 3) (.pointer (some ⟨g, 0, none⟩)) (undef)), (slot (D 4) (.pointer (some ⟨g, 0, none⟩)) (undef)), (slot (D 5) (u) (undef)), (slot (D 6) (.pointer (some ⟨b, 0, none⟩)) (undef)), (slot (D 7) (.string ⟨r.name.toArray⟩) (undef)), (slot (D 8) (v) (undef))], defers := [] } ∧
    (D 8 = false → Wr w base g ([80, 75, 3, 4] ++ pick (D 2) r.mid)) ∧
    (D 5 = true → D 8 = false → OwnB w base u ([80, 75, 3, 4] ++ r.mid)) ∧
    (D 8 = true → OwnB w base v (localL r)) ∧
    (Chg (fun i => base ≤ i) w0 w) ∧
    (Blk w b 23 r.cells)
set_option maxRecDepth 100000 in
set_option maxHeartbeats 4000000 in
theorem local_any (r : Rec) (w : World) :
    Calls Try.prog 10 #[.agg r.cells] w fun e w' => ((r.Ok ∧ ∃ v, e = .returned (.tuple #[v, .int .i64 0]) ∧ OwnB w' w.heap.size v (localL r)) ∨ (¬ r.Ok ∧ e = .returned (.tuple #[.slice none 0 0, .int .i64 2]))) ∧ Chg NoB w w' := by
  have hcc : Chg NoB w w := Chg.refl _ _
  have kc := fun (w : World) (C : Array Value) (n c : Nat) => Lib.run_convert_bytes_const (P := Try.prog) w 24 5 C n c Try.underlying24 Try.underlying5
  go_enter Try.func10, Try.ntmps10
  have hbox := Blk.new w 23 r.cells
  have c5 : Chg NoB w (w.alloc (.cells r.cells 23)) := (Chg.refl _ _).alloc _
  go_wp2_with (first
    | (refine wpList_load_row rfl 23 _ rfl w.heap.size rfl 23 _ (0, 0) _ hbox Try.underlying23 rfl rec_info ?_)
    | fail)
  refine (check_any r _).mono ?_
  rintro e w1 ⟨hcase, hc1⟩
  have hb := hbox.chg hc1 (fun h => h)
  have hcc1 : Chg NoB w w1 := c5.trans hc1 (fun _ _ h => h)
  have hbox1 : w.heap.size < w1.heap.size := hb.lt
  clear hbox c5 hc1 hcc
  rcases hcase with ⟨hok, rfl⟩ | ⟨hok, rfl⟩
  · have HOK := Lib.hid hok
    clear hok
    go_wp2_with fail
    obtain ⟨hw0, hc0⟩ := mark_wr w1 [80, 75, 3, 4] #[.int .u8 80, .int .u8 75, .int .u8 3, .int .u8 4] 4 rfl rfl
    obtain ⟨w2, hw2⟩ : ∃ w2, w2 = ((w1.alloc (.cells #[.int .u8 80, .int .u8 75, .int .u8 3, .int .u8 4] 5 (4, 5))).alloc (.cells #[.slice (some ⟨w1.heap.size, 0, none⟩) 4 4] 51)) := ⟨_, rfl⟩
    rw [← hw2] at hw0 hc0 ⊢
    have i3 := (hb.chg hc0 (fun h => h)).drew
    have hcc2 : Chg NoB w w2 := hcc1.trans hc0 (fun _ _ h => h)
    obtain ⟨b, hbd⟩ : ∃ b, b = w.heap.size := ⟨_, rfl⟩
    obtain ⟨base, hbase⟩ : ∃ base, base = w1.heap.size := ⟨_, rfl⟩
    obtain ⟨g, hg⟩ : ∃ g, g = base + 1 := ⟨_, rfl⟩
    rw [← hbase, ← hg] at hw0
    rw [← hbd] at i3
    rw [← hbase, ← hbd, ← hg]
    have hle : Hid (w.heap.size ≤ base) := by have h1 := hcc1.size; rw [hbase]; exact h1
    have HG : Hid (g = base + 1) := hg
    have HB : Hid (b < base) := by have h1 := hbox1; rw [hbd, hbase]; exact h1
    have HS : Hid (base ≤ w2.heap.size) := by rw [hbase]; exact hc0.size
    have HC : Hid (Chg NoB w w2) := hcc2
    have i2 : Chg (fun i => base ≤ i) w2 w2.drew := (Chg.refl _ _).drew
    have i1 : false = false → Wr w2.drew base g ([80, 75, 3, 4] ++ pick false r.mid) := by intro _; simpa [pick] using hw0.no ((Chg.refl NoB _).drew)
    refine wp_region_cl rfl (by kernel_rfl) (InvLocal g base b r w2) ?_ ?_ ?_
    · exact ⟨undef, undef, rfl, i1, (fun h => nomatch h), (fun h => nomatch h), i2, i3⟩
    · clear i1 i2 i3 hw2 hbd hbase hg hw0 hc0 hcc2 hcc1 hb hbox1
      intro D a w i o ho hD hcl hpre hI
      obtain ⟨u, v, rfl, hw, hu, hv, hch, hb⟩ := hI
      have hi : i < 11 := by have := (List.getElem?_eq_some_iff.1 ho).1; simpa using this
      rcases (by omega : i = 0 ∨ i = 1 ∨ i = 2 ∨ i = 3 ∨ i = 4 ∨ i = 5 ∨ i = 6 ∨ i = 7 ∨ i = 8 ∨ i = 9 ∨ i = 10) with rfl | rfl | rfl | rfl | rfl | rfl | rfl | rfl | rfl | rfl | rfl
      · obtain rfl := Option.some.inj ho
        clear ho hpre hi hcl
        go_wp2_with fail
        unfold AtEnd
        exact ⟨u, v, rfl, hw, hu, hv, hch, hb⟩
      · obtain rfl := Option.some.inj ho
        clear ho hpre hi hcl
        go_wp2_with (refine wpList_load_row rfl 23 _ rfl b rfl 23 _ (0, 0) _ hb Try.underlying23 rfl rec_info ?_)
        unfold AtEnd
        exact ⟨u, v, rfl, hw, hu, hv, hch, hb⟩
      · obtain rfl := Option.some.inj ho
        have p0 := hpre ⟨0, .data⟩ (by simp) rfl
        have p1 := hpre ⟨1, .data⟩ (by simp) rfl
        have d5 : D 5 = false := (hcl.not_ 5 _ rfl 0 _ rfl rfl (hcl.not_ 4 _ rfl 0 _ rfl rfl (hcl.not_ 3 _ rfl 0 _ rfl rfl hD)))
        have d8 : D 8 = false := (hcl.not_ 8 _ rfl 2 _ rfl rfl hD)
        clear ho hpre hi hcl
        have hw' := hw d8
        rw [hD] at hw'
        have hsz := hch.size
        clear hw hu hv
        go_wp2_with fail
        refine (common_any g base [80, 75, 3, 4] r w HOK.out (by simpa [pick] using hw') (Nat.le_trans HS hsz) (by simp)).mono ?_
        rintro e w3 ⟨rfl, hw3, hc3⟩
        go_wp2_with fail
        unfold AtEnd
        exact ⟨u, v, by simp only [more, slot_true, slot_false, Nat.reduceEqDiff, ↓reduceIte, p0, p1, d5, d8], fun _ => by simpa [pick, more] using hw3, fun h => by simp [more, d5] at h, fun h => by simp [more, d8] at h, hch.trans hc3 (fun i _ h => by have h1 : g = base + 1 := HG; unfold OneB at h; omega), hb.chg hc3 (fun h => by have h1 : g = base + 1 := HG; have h2 : b < base := HB; unfold OneB at h; omega)⟩
      · obtain rfl := Option.some.inj ho
        have p2 := hpre ⟨2, .data⟩ (by simp) rfl
        clear ho hpre hi hcl
        go_wp2_with fail
        unfold AtEnd
        exact ⟨u, v, by simp only [more, slot_true, slot_false, Nat.reduceEqDiff, ↓reduceIte, p2], hw, hu, hv, hch, hb⟩
      · obtain rfl := Option.some.inj ho
        have p3 := hpre ⟨3, .data⟩ (by simp) rfl
        clear ho hpre hi hcl
        go_wp2_with fail
        unfold AtEnd
        exact ⟨u, v, by simp only [more, slot_true, slot_false, Nat.reduceEqDiff, ↓reduceIte, p3], hw, hu, hv, hch, hb⟩
      · obtain rfl := Option.some.inj ho
        have p4 := hpre ⟨4, .data⟩ (by simp) rfl
        have p2 : D 2 = true := (hcl.at_ 3 _ rfl (hcl.at_ 4 _ rfl p4 0 _ rfl rfl) 0 _ rfl rfl)
        have d8 : D 8 = false := (hcl.not_ 8 _ rfl 0 _ rfl rfl hD)
        clear ho hpre hi hcl
        have hw' := hw d8
        rw [p2] at hw'
        obtain ⟨A5, n5, c5, hb5, ho5⟩ := hw'
        have cc5 := hb5.cell 0
        clear hw hu hv
        go_wp2_with fail
        unfold AtEnd
        exact ⟨(.slice A5 n5 c5), v, by simp only [more, slot_true, slot_false, Nat.reduceEqDiff, ↓reduceIte, p4, p2, d8], fun _ => ⟨A5, n5, c5, hb5, by simpa [more, p2] using ho5⟩, fun _ _ => by simpa [pick] using ho5, fun h => by simp [more, d8] at h, hch, hb⟩
      · obtain rfl := Option.some.inj ho
        clear ho hpre hi hcl
        go_wp2_with fail
        unfold AtEnd
        exact ⟨u, v, rfl, hw, hu, hv, hch, hb⟩
      · obtain rfl := Option.some.inj ho
        have p6 := hpre ⟨6, .data⟩ (by simp) rfl
        clear ho hpre hi hcl
        have c1 := hb.cell 0
        simp only [Rec.cells] at c1
        go_wp2_with fail
        unfold AtEnd
        exact ⟨u, v, by simp only [more, slot_true, slot_false, Nat.reduceEqDiff, ↓reduceIte, p6], hw, hu, hv, hch, hb⟩
      · obtain rfl := Option.some.inj ho
        have p5 := hpre ⟨5, .data⟩ (by simp) rfl
        have p7 := hpre ⟨7, .data⟩ (by simp) rfl
        have p2 := hpre ⟨2, .chain⟩ (by simp) rfl
        have d9 : D 9 = false := (hcl.not_ 9 _ rfl 0 _ rfl rfl hD)
        clear ho hpre hi hcl
        have hu' := hu p5 hD
        have hsz := hch.size
        have hnl : 0 < r.name.length ∧ r.name.length ≤ 65535 := by have h1 := HOK.out; exact ⟨h1.name1, h1.name2⟩
        have HNL := Lib.hid hnl
        clear hw hu hv hnl
        rw [p5, p7]
        simp only [slot_true]
        refine wpList_appendStrB rfl _ _ rfl base u _ (by rfl) hu' r.name (by rfl) HNL.out.1 (by have h1 := HNL.out.2; have h2 := mid_len r; simp only [List.length_append, List.length_cons, List.length_nil]; omega) (Nat.le_trans HS hsz) ?_
        intro v' w' hv' hg'
        go_wp2_with fail
        unfold AtEnd
        exact ⟨u, v', by simp only [more, slot_true, slot_false, Nat.reduceEqDiff, ↓reduceIte, p5, p7, p2, d9], fun h => by simp [more] at h, fun _ h => by simp [more] at h, fun _ => by unfold localL; exact hv', hch.grown hg' (fun i e => .inl (hu'.lt i e).1), hb.grown hg' (fun e => by have h1 := (hu'.lt b e.symm).1; have h2 : b < base := HB; omega)⟩
      · obtain rfl := Option.some.inj ho
        have p8 := hpre ⟨8, .data⟩ (by simp) rfl
        have p2 : D 2 = true := (hpre ⟨2, .phase⟩ (by simp) rfl)
        clear ho hpre hi hcl
        go_wp2_with fail
        unfold AtEnd
        exact ⟨u, v, by simp only [more, slot_true, slot_false, Nat.reduceEqDiff, ↓reduceIte, p8, p2], hw, hu, hv, hch, hb⟩
      · obtain rfl := Option.some.inj ho
        have p9 := hpre ⟨9, .chain⟩ (by simp) rfl
        have p2 : D 2 = true := (hpre ⟨2, .phase⟩ (by simp) rfl)
        clear ho hpre hi hcl
        go_wp2_with fail
        unfold AtEnd
        exact ⟨u, v, by simp only [more, slot_true, slot_false, Nat.reduceEqDiff, ↓reduceIte, p9, p2], hw, hu, hv, hch, hb⟩
    · intro D a w hall hI
      obtain ⟨u, v, rfl, hw, hu, hv, hch, hb⟩ := hI
      have e8 := hall 8 (by decide)
      have e9 := hall 9 (by decide)
      have e10 := hall 10 (by decide)
      have hv' := hv e8
      clear hall hw hu hv
      rw [e9, e10]
      clear e8 e9 e10
      go_wp2_with fail
      go_ret2
      exact ⟨.inl ⟨HOK.out, v, rfl, hv'.base_ hle⟩, Chg.trans HC hch (fun i hi h => absurd h (by have h1 := Hid.out hle; omega))⟩
  · have HOK := Lib.hid hok
    clear hok
    go_wp2_with fail
    go_ret2
    exact ⟨.inr ⟨HOK.out, rfl⟩, hcc1⟩
end Go.Proofs.Ytgojdkjneggmjaa
