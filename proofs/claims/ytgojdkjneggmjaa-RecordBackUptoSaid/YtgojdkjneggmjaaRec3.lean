/-
  THE WALKS of the reference's two, four and middle; of number and Is.
-/
import Derived.Test.YtgojdkjneggmjaaRec2
import Derived.Test.YtgojdkjneggmjaaFieldRef
import Derived.Laws.Concat
namespace Go.Proofs.Ytgojdkjneggmjaa
open Go.RowKit FieldM
set_option linter.unusedSimpArgs false
set_option maxRecDepth 100000 in
set_option maxHeartbeats 4000000 in
theorem two_any (z : Int) (hz : Hid (0 ≤ z ∧ z ≤ 9223372036854775807)) (w : World) :
    Calls Try.prog 28 #[.int .i64 z] w fun e w' => e = .returned (.string ⟨(leB z.toNat 2).toArray⟩) ∧ Chg NoB w w' := by
  have hz' : 0 ≤ z ∧ z ≤ 9223372036854775807 := hz
  obtain ⟨x, hx⟩ := Int.eq_ofNat_of_zero_le hz'.1
  subst hx
  have hx2 : x ≤ 9223372036854775807 := by omega
  clear hz' hz
  go_enter Try.func28, Try.ntmps28
  go_wp2_with fail
  refine (rbytes_any x 2 (by decide) hx2 _).mono ?_
  rintro e w1 ⟨⟨v, rfl, how⟩, hc1⟩
  obtain ⟨A, n, c, rfl, hn, hr, _⟩ := how.val
  have hs1 := hr.toStr hn c Try.underlying24 Try.underlying5 Try.underlying9
  clear how hr hn
  go_wp2_with fail
  go_ret
  exact ⟨rfl, hc1⟩
set_option maxRecDepth 100000 in
set_option maxHeartbeats 4000000 in
theorem four_any (z : Int) (hz : Hid (0 ≤ z ∧ z ≤ 9223372036854775807)) (w : World) :
    Calls Try.prog 32 #[.int .i64 z] w fun e w' => e = .returned (.string ⟨(leB z.toNat 4).toArray⟩) ∧ Chg NoB w w' := by
  have hz' : 0 ≤ z ∧ z ≤ 9223372036854775807 := hz
  obtain ⟨x, hx⟩ := Int.eq_ofNat_of_zero_le hz'.1
  subst hx
  have hx2 : x ≤ 9223372036854775807 := by omega
  clear hz' hz
  go_enter Try.func32, Try.ntmps32
  go_wp2_with fail
  refine (rbytes_any x 4 (by decide) hx2 _).mono ?_
  rintro e w1 ⟨⟨v, rfl, how⟩, hc1⟩
  obtain ⟨A, n, c, rfl, hn, hr, _⟩ := how.val
  have hs1 := hr.toStr hn c Try.underlying24 Try.underlying5 Try.underlying9
  clear how hr hn
  go_wp2_with fail
  go_ret
  exact ⟨rfl, hc1⟩
set_option maxRecDepth 100000 in
set_option maxHeartbeats 4000000 in
theorem number_any (z : Int) (w : World) :
    Calls Try.prog 33 #[.int .i64 z] w fun e w' => e = .returned (.bool (decide (0 ≤ z ∧ z ≤ 4294967295))) ∧ w' = w := by
  go_enter Try.func33, Try.ntmps33
  go_wp2_with fail
  all_goals go_ret
  all_goals (refine ⟨?_, rfl⟩; simp; try omega)
set_option maxRecDepth 100000 in
set_option maxHeartbeats 4000000 in
theorem is_any (z : Int) (w : World) :
    Calls Try.prog 34 #[.int .i64 z] w fun e w' => e = .returned (.bool (decide (0 ≤ z ∧ z ≤ 4294967295))) ∧ w' = w := by
  go_enter Try.func34, Try.ntmps34
  go_wp2_with fail
  all_goals go_ret
  all_goals (refine ⟨?_, rfl⟩; simp; try omega)

theorem run_add_lists {P : Program} (l m : List UInt8) (h : l.length + m.length ≤ 1000000) (w : World) : (Op.stringOp .add ⟨l.toArray⟩ ⟨m.toArray⟩).run P w = .ok (.string ⟨(l ++ m).toArray⟩) w := by
  rw [run_string_add_sum w _ _ (by simp [ByteArray.size]; omega), ByteArray.mk_append_mk]
def InvMiddle (b : Nat) (r : Rec) (w0 : World) (D : Nat → Bool) (a : Act) (w : World) : Prop :=
  a = { tmps := #[.agg r.cells, .pointer (some ⟨b, 0, none⟩), (slot (D 28) (.string ⟨(leB 20 2 ++ (leB 0 2 ++ (leB r.method.toNat 2 ++ (leB 0 2 ++ (leB 33 2 ++ (leB r.sum.toNat 4 ++ (leB r.packed.toNat 4 ++ (leB r.size.toNat 4 ++ leB r.name.length 2)))))))).toArray⟩) (.string ⟨#[]⟩)), (slot (D 0) (.string ⟨(leB 20 2).toArray⟩) (undef)), (slot (D 1) (.string ⟨(leB 0 2).toArray⟩) (undef)), (slot (D 2) (.string ⟨(leB 20 2 ++ leB 0 2).toArray⟩) (undef)), (slot (D 3) (.pointer (some ⟨b, 1, none⟩)) (undef)), (slot (D 4) (.int .i64 r.method) (undef)), (slot (D 5) (.string ⟨(leB r.method.toNat 2).toArray⟩) (undef)), (slot (D 6) (.string ⟨(leB 20 2 ++ (leB 0 2 ++ leB r.method.toNat 2)).toArray⟩) (undef)), (slot (D 7) (.string ⟨(leB 0 2).toArray⟩) (undef)), (slot (D 8) (.string ⟨(leB 20 2 ++ (leB 0 2 ++ (leB r.method.toNat 2 ++ leB 0 2))).toArray⟩) (undef)), (slot (D 9) (.string ⟨(leB 33 2).toArray⟩) (undef)), (slot (D 10) (.string ⟨(leB 20 2 ++ (leB 0 2 ++ (leB r.method.toNat 2 ++ (leB 0 2 ++ leB 33 2)))).toArray⟩) (undef)), (slot (D 11) (.pointer (some ⟨b, 2, none⟩)) (undef)), (slot (D 12) (.int .i64 r.sum) (undef)), (slot (D 13) (.string ⟨(leB r.sum.toNat 4).toArray⟩) (undef)), (slot (D 14) (.string ⟨(leB 20 2 ++ (leB 0 2 ++ (leB r.method.toNat 2 ++ (leB 0 2 ++ (leB 33 2 ++ leB r.sum.toNat 4))))).toArray⟩) (undef)), (slot (D 15) (.pointer (some ⟨b, 3, none⟩)) (undef)), (slot (D 16) (.int .i64 r.packed) (undef)), (slot (D 17) (.string ⟨(leB r.packed.toNat 4).toArray⟩) (undef)), (slot (D 18) (.string ⟨(leB 20 2 ++ (leB 0 2 ++ (leB r.method.toNat 2 ++ (leB 0 2 ++ (leB 33 2 ++ (leB r.sum.toNat 4 ++ leB r.packed.toNat 4)))))).toArray⟩) (undef)), (slot (D 19) (.pointer (some ⟨b, 4, none⟩)) (undef)), (slot (D 20) (.int .i64 r.size) (undef)), (slot (D 21) (.string ⟨(leB r.size.toNat 4).toArray⟩) (undef)), (slot (D 22) (.string ⟨(leB 20 2 ++ (leB 0 2 ++ (leB r.method.toNat 2 ++ (leB 0 2 ++ (leB 33 2 ++ (leB r.sum.toNat 4 ++ (leB r.packed.toNat 4 ++ leB r.size.toNat 4))))))).toArray⟩) (undef)), (slot (D 23) (.pointer (some ⟨b, 0, none⟩)) (undef)), (slot (D 24) (.string ⟨r.name.toArray⟩) (undef)), (slot (D 25) (.int .i64 (r.name.length : Int)) (undef)), (slot (D 26) (.string ⟨(leB r.name.length 2).toArray⟩) (undef)), (slot (D 27) (.string ⟨(leB 20 2 ++ (leB 0 2 ++ (leB r.method.toNat 2 ++ (leB 0 2 ++ (leB 33 2 ++ (leB r.sum.toNat 4 ++ (leB r.packed.toNat 4 ++ (leB r.size.toNat 4 ++ leB r.name.length 2)))))))).toArray⟩) (undef))], defers := [] } ∧
    (Chg NoB w0 w) ∧
    (Blk w b 23 r.cells)
set_option maxRecDepth 100000 in
set_option maxHeartbeats 4000000 in
theorem middle_any (r : Rec) (w : World) (hok : Hid r.Ok) :
    Calls Try.prog 27 #[.agg r.cells] w fun e w' => e = .returned (str (r.mid1 ++ r.mid2 ++ leB r.name.length 2)) ∧ Chg NoB w w' := by
  obtain ⟨w0, hw0⟩ : ∃ w0, w0 = w := ⟨_, rfl⟩
  obtain ⟨b, hbd⟩ : ∃ b, b = w.heap.size := ⟨_, rfl⟩
  have i1 : Chg NoB w0 (w.alloc (.cells r.cells 23)).drew := by rw [hw0]; exact ((Chg.refl _ _).alloc _).drew
  have i2 : Blk (w.alloc (.cells r.cells 23)).drew b 23 r.cells := by rw [hbd]; exact (Blk.new w _ _).drew
  go_enter Try.func27, Try.ntmps27
  go_wp2_with fail
  rw [← hbd]
  refine wp_region_inv rfl (by kernel_rfl) (InvMiddle b r w0) ?_ ?_ ?_
  · exact ⟨rfl, i1, i2⟩
  · clear i1 i2 hw0 hbd
    intro D a w i o ho hD hpre hI
    obtain ⟨rfl, hch, hb⟩ := hI
    have hi : i < 29 := by have := (List.getElem?_eq_some_iff.1 ho).1; simpa using this
    rcases (by omega : i = 0 ∨ i = 1 ∨ i = 2 ∨ i = 3 ∨ i = 4 ∨ i = 5 ∨ i = 6 ∨ i = 7 ∨ i = 8 ∨ i = 9 ∨ i = 10 ∨ i = 11 ∨ i = 12 ∨ i = 13 ∨ i = 14 ∨ i = 15 ∨ i = 16 ∨ i = 17 ∨ i = 18 ∨ i = 19 ∨ i = 20 ∨ i = 21 ∨ i = 22 ∨ i = 23 ∨ i = 24 ∨ i = 25 ∨ i = 26 ∨ i = 27 ∨ i = 28) with rfl | rfl | rfl | rfl | rfl | rfl | rfl | rfl | rfl | rfl | rfl | rfl | rfl | rfl | rfl | rfl | rfl | rfl | rfl | rfl | rfl | rfl | rfl | rfl | rfl | rfl | rfl | rfl | rfl
    · obtain rfl := Option.some.inj ho
      clear ho hpre hi
      go_wp2_with fail
      refine (two_any 20 (by have hO : r.Ok := hok; have h1 := hO.method; have h2 := hO.sum; have h3 := hO.packed; have h4 := hO.size; have h5 := hO.name2; show 0 ≤ 20 ∧ 20 ≤ (9223372036854775807 : Int); omega) _).mono ?_
      rintro e w1 ⟨rfl, hc1⟩
      go_wp2_with fail
      unfold AtEnd
      exact ⟨rfl, hch.trans hc1 (fun _ _ h => h), hb.chg hc1 (fun h => h)⟩
    · obtain rfl := Option.some.inj ho
      have p0 := hpre ⟨0, .chain⟩ (by simp) rfl
      clear ho hpre hi
      go_wp2_with fail
      refine (two_any 0 (by have hO : r.Ok := hok; have h1 := hO.method; have h2 := hO.sum; have h3 := hO.packed; have h4 := hO.size; have h5 := hO.name2; show 0 ≤ 0 ∧ 0 ≤ (9223372036854775807 : Int); omega) _).mono ?_
      rintro e w1 ⟨rfl, hc1⟩
      go_wp2_with fail
      unfold AtEnd
      exact ⟨by simp only [more, slot_true, slot_false, Nat.reduceEqDiff, ↓reduceIte, p0], hch.trans hc1 (fun _ _ h => h), hb.chg hc1 (fun h => h)⟩
    · obtain rfl := Option.some.inj ho
      have p0 := hpre ⟨0, .data⟩ (by simp) rfl
      have p1 := hpre ⟨1, .data⟩ (by simp) rfl
      clear ho hpre hi
      have ha := run_add_lists (P := Try.prog) (leB 20 2) (leB 0 2) (by simp only [List.length_append, leB_len]; omega) w
      try simp only [List.append_assoc] at ha
      go_wp2_with fail
      unfold AtEnd
      exact ⟨by simp only [more, slot_true, slot_false, Nat.reduceEqDiff, ↓reduceIte, p0, p1], hch, hb⟩
    · obtain rfl := Option.some.inj ho
      clear ho hpre hi
      go_wp2_with fail
      unfold AtEnd
      exact ⟨rfl, hch, hb⟩
    · obtain rfl := Option.some.inj ho
      have p3 := hpre ⟨3, .data⟩ (by simp) rfl
      clear ho hpre hi
      have c1 := hb.cell 1
      simp only [Rec.cells] at c1
      go_wp2_with fail
      unfold AtEnd
      exact ⟨by simp only [more, slot_true, slot_false, Nat.reduceEqDiff, ↓reduceIte, p3], hch, hb⟩
    · obtain rfl := Option.some.inj ho
      have p4 := hpre ⟨4, .data⟩ (by simp) rfl
      have p1 := hpre ⟨1, .chain⟩ (by simp) rfl
      clear ho hpre hi
      go_wp2_with fail
      refine (two_any r.method (by have hO : r.Ok := hok; have h1 := hO.method; have h2 := hO.sum; have h3 := hO.packed; have h4 := hO.size; have h5 := hO.name2; show 0 ≤ r.method ∧ r.method ≤ (9223372036854775807 : Int); omega) _).mono ?_
      rintro e w1 ⟨rfl, hc1⟩
      go_wp2_with fail
      unfold AtEnd
      exact ⟨by simp only [more, slot_true, slot_false, Nat.reduceEqDiff, ↓reduceIte, p4, p1], hch.trans hc1 (fun _ _ h => h), hb.chg hc1 (fun h => h)⟩
    · obtain rfl := Option.some.inj ho
      have p2 := hpre ⟨2, .data⟩ (by simp) rfl
      have p5 := hpre ⟨5, .data⟩ (by simp) rfl
      clear ho hpre hi
      have ha := run_add_lists (P := Try.prog) (leB 20 2 ++ leB 0 2) (leB r.method.toNat 2) (by simp only [List.length_append, leB_len]; omega) w
      try simp only [List.append_assoc] at ha
      go_wp2_with fail
      unfold AtEnd
      exact ⟨by simp only [more, slot_true, slot_false, Nat.reduceEqDiff, ↓reduceIte, p2, p5], hch, hb⟩
    · obtain rfl := Option.some.inj ho
      have p5 := hpre ⟨5, .chain⟩ (by simp) rfl
      clear ho hpre hi
      go_wp2_with fail
      refine (two_any 0 (by have hO : r.Ok := hok; have h1 := hO.method; have h2 := hO.sum; have h3 := hO.packed; have h4 := hO.size; have h5 := hO.name2; show 0 ≤ 0 ∧ 0 ≤ (9223372036854775807 : Int); omega) _).mono ?_
      rintro e w1 ⟨rfl, hc1⟩
      go_wp2_with fail
      unfold AtEnd
      exact ⟨by simp only [more, slot_true, slot_false, Nat.reduceEqDiff, ↓reduceIte, p5], hch.trans hc1 (fun _ _ h => h), hb.chg hc1 (fun h => h)⟩
    · obtain rfl := Option.some.inj ho
      have p6 := hpre ⟨6, .data⟩ (by simp) rfl
      have p7 := hpre ⟨7, .data⟩ (by simp) rfl
      clear ho hpre hi
      have ha := run_add_lists (P := Try.prog) (leB 20 2 ++ (leB 0 2 ++ leB r.method.toNat 2)) (leB 0 2) (by simp only [List.length_append, leB_len]; omega) w
      try simp only [List.append_assoc] at ha
      go_wp2_with fail
      unfold AtEnd
      exact ⟨by simp only [more, slot_true, slot_false, Nat.reduceEqDiff, ↓reduceIte, p6, p7], hch, hb⟩
    · obtain rfl := Option.some.inj ho
      have p7 := hpre ⟨7, .chain⟩ (by simp) rfl
      clear ho hpre hi
      go_wp2_with fail
      refine (two_any 33 (by have hO : r.Ok := hok; have h1 := hO.method; have h2 := hO.sum; have h3 := hO.packed; have h4 := hO.size; have h5 := hO.name2; show 0 ≤ 33 ∧ 33 ≤ (9223372036854775807 : Int); omega) _).mono ?_
      rintro e w1 ⟨rfl, hc1⟩
      go_wp2_with fail
      unfold AtEnd
      exact ⟨by simp only [more, slot_true, slot_false, Nat.reduceEqDiff, ↓reduceIte, p7], hch.trans hc1 (fun _ _ h => h), hb.chg hc1 (fun h => h)⟩
    · obtain rfl := Option.some.inj ho
      have p8 := hpre ⟨8, .data⟩ (by simp) rfl
      have p9 := hpre ⟨9, .data⟩ (by simp) rfl
      clear ho hpre hi
      have ha := run_add_lists (P := Try.prog) (leB 20 2 ++ (leB 0 2 ++ (leB r.method.toNat 2 ++ leB 0 2))) (leB 33 2) (by simp only [List.length_append, leB_len]; omega) w
      try simp only [List.append_assoc] at ha
      go_wp2_with fail
      unfold AtEnd
      exact ⟨by simp only [more, slot_true, slot_false, Nat.reduceEqDiff, ↓reduceIte, p8, p9], hch, hb⟩
    · obtain rfl := Option.some.inj ho
      clear ho hpre hi
      go_wp2_with fail
      unfold AtEnd
      exact ⟨rfl, hch, hb⟩
    · obtain rfl := Option.some.inj ho
      have p11 := hpre ⟨11, .data⟩ (by simp) rfl
      clear ho hpre hi
      have c1 := hb.cell 2
      simp only [Rec.cells] at c1
      go_wp2_with fail
      unfold AtEnd
      exact ⟨by simp only [more, slot_true, slot_false, Nat.reduceEqDiff, ↓reduceIte, p11], hch, hb⟩
    · obtain rfl := Option.some.inj ho
      have p12 := hpre ⟨12, .data⟩ (by simp) rfl
      have p9 := hpre ⟨9, .chain⟩ (by simp) rfl
      clear ho hpre hi
      go_wp2_with fail
      refine (four_any r.sum (by have hO : r.Ok := hok; have h1 := hO.method; have h2 := hO.sum; have h3 := hO.packed; have h4 := hO.size; have h5 := hO.name2; show 0 ≤ r.sum ∧ r.sum ≤ (9223372036854775807 : Int); omega) _).mono ?_
      rintro e w1 ⟨rfl, hc1⟩
      go_wp2_with fail
      unfold AtEnd
      exact ⟨by simp only [more, slot_true, slot_false, Nat.reduceEqDiff, ↓reduceIte, p12, p9], hch.trans hc1 (fun _ _ h => h), hb.chg hc1 (fun h => h)⟩
    · obtain rfl := Option.some.inj ho
      have p10 := hpre ⟨10, .data⟩ (by simp) rfl
      have p13 := hpre ⟨13, .data⟩ (by simp) rfl
      clear ho hpre hi
      have ha := run_add_lists (P := Try.prog) (leB 20 2 ++ (leB 0 2 ++ (leB r.method.toNat 2 ++ (leB 0 2 ++ leB 33 2)))) (leB r.sum.toNat 4) (by simp only [List.length_append, leB_len]; omega) w
      try simp only [List.append_assoc] at ha
      go_wp2_with fail
      unfold AtEnd
      exact ⟨by simp only [more, slot_true, slot_false, Nat.reduceEqDiff, ↓reduceIte, p10, p13], hch, hb⟩
    · obtain rfl := Option.some.inj ho
      clear ho hpre hi
      go_wp2_with fail
      unfold AtEnd
      exact ⟨rfl, hch, hb⟩
    · obtain rfl := Option.some.inj ho
      have p15 := hpre ⟨15, .data⟩ (by simp) rfl
      clear ho hpre hi
      have c1 := hb.cell 3
      simp only [Rec.cells] at c1
      go_wp2_with fail
      unfold AtEnd
      exact ⟨by simp only [more, slot_true, slot_false, Nat.reduceEqDiff, ↓reduceIte, p15], hch, hb⟩
    · obtain rfl := Option.some.inj ho
      have p16 := hpre ⟨16, .data⟩ (by simp) rfl
      have p13 := hpre ⟨13, .chain⟩ (by simp) rfl
      clear ho hpre hi
      go_wp2_with fail
      refine (four_any r.packed (by have hO : r.Ok := hok; have h1 := hO.method; have h2 := hO.sum; have h3 := hO.packed; have h4 := hO.size; have h5 := hO.name2; show 0 ≤ r.packed ∧ r.packed ≤ (9223372036854775807 : Int); omega) _).mono ?_
      rintro e w1 ⟨rfl, hc1⟩
      go_wp2_with fail
      unfold AtEnd
      exact ⟨by simp only [more, slot_true, slot_false, Nat.reduceEqDiff, ↓reduceIte, p16, p13], hch.trans hc1 (fun _ _ h => h), hb.chg hc1 (fun h => h)⟩
    · obtain rfl := Option.some.inj ho
      have p14 := hpre ⟨14, .data⟩ (by simp) rfl
      have p17 := hpre ⟨17, .data⟩ (by simp) rfl
      clear ho hpre hi
      have ha := run_add_lists (P := Try.prog) (leB 20 2 ++ (leB 0 2 ++ (leB r.method.toNat 2 ++ (leB 0 2 ++ (leB 33 2 ++ leB r.sum.toNat 4))))) (leB r.packed.toNat 4) (by simp only [List.length_append, leB_len]; omega) w
      try simp only [List.append_assoc] at ha
      go_wp2_with fail
      unfold AtEnd
      exact ⟨by simp only [more, slot_true, slot_false, Nat.reduceEqDiff, ↓reduceIte, p14, p17], hch, hb⟩
    · obtain rfl := Option.some.inj ho
      clear ho hpre hi
      go_wp2_with fail
      unfold AtEnd
      exact ⟨rfl, hch, hb⟩
    · obtain rfl := Option.some.inj ho
      have p19 := hpre ⟨19, .data⟩ (by simp) rfl
      clear ho hpre hi
      have c1 := hb.cell 4
      simp only [Rec.cells] at c1
      go_wp2_with fail
      unfold AtEnd
      exact ⟨by simp only [more, slot_true, slot_false, Nat.reduceEqDiff, ↓reduceIte, p19], hch, hb⟩
    · obtain rfl := Option.some.inj ho
      have p20 := hpre ⟨20, .data⟩ (by simp) rfl
      have p17 := hpre ⟨17, .chain⟩ (by simp) rfl
      clear ho hpre hi
      go_wp2_with fail
      refine (four_any r.size (by have hO : r.Ok := hok; have h1 := hO.method; have h2 := hO.sum; have h3 := hO.packed; have h4 := hO.size; have h5 := hO.name2; show 0 ≤ r.size ∧ r.size ≤ (9223372036854775807 : Int); omega) _).mono ?_
      rintro e w1 ⟨rfl, hc1⟩
      go_wp2_with fail
      unfold AtEnd
      exact ⟨by simp only [more, slot_true, slot_false, Nat.reduceEqDiff, ↓reduceIte, p20, p17], hch.trans hc1 (fun _ _ h => h), hb.chg hc1 (fun h => h)⟩
    · obtain rfl := Option.some.inj ho
      have p18 := hpre ⟨18, .data⟩ (by simp) rfl
      have p21 := hpre ⟨21, .data⟩ (by simp) rfl
      clear ho hpre hi
      have ha := run_add_lists (P := Try.prog) (leB 20 2 ++ (leB 0 2 ++ (leB r.method.toNat 2 ++ (leB 0 2 ++ (leB 33 2 ++ (leB r.sum.toNat 4 ++ leB r.packed.toNat 4)))))) (leB r.size.toNat 4) (by simp only [List.length_append, leB_len]; omega) w
      try simp only [List.append_assoc] at ha
      go_wp2_with fail
      unfold AtEnd
      exact ⟨by simp only [more, slot_true, slot_false, Nat.reduceEqDiff, ↓reduceIte, p18, p21], hch, hb⟩
    · obtain rfl := Option.some.inj ho
      clear ho hpre hi
      go_wp2_with fail
      unfold AtEnd
      exact ⟨rfl, hch, hb⟩
    · obtain rfl := Option.some.inj ho
      have p23 := hpre ⟨23, .data⟩ (by simp) rfl
      clear ho hpre hi
      have c1 := hb.cell 0
      simp only [Rec.cells] at c1
      go_wp2_with fail
      unfold AtEnd
      exact ⟨by simp only [more, slot_true, slot_false, Nat.reduceEqDiff, ↓reduceIte, p23], hch, hb⟩
    · obtain rfl := Option.some.inj ho
      have p24 := hpre ⟨24, .data⟩ (by simp) rfl
      clear ho hpre hi
      go_wp2_with fail
      unfold AtEnd
      exact ⟨by simp only [more, slot_true, slot_false, Nat.reduceEqDiff, ↓reduceIte, p24], hch, hb⟩
    · obtain rfl := Option.some.inj ho
      have p25 := hpre ⟨25, .data⟩ (by simp) rfl
      have p21 := hpre ⟨21, .chain⟩ (by simp) rfl
      clear ho hpre hi
      go_wp2_with fail
      refine (two_any (r.name.length : Int) (by have hO : r.Ok := hok; have h1 := hO.method; have h2 := hO.sum; have h3 := hO.packed; have h4 := hO.size; have h5 := hO.name2; show 0 ≤ (r.name.length : Int) ∧ (r.name.length : Int) ≤ (9223372036854775807 : Int); omega) _).mono ?_
      rintro e w1 ⟨rfl, hc1⟩
      go_wp2_with fail
      unfold AtEnd
      exact ⟨by simp only [more, slot_true, slot_false, Nat.reduceEqDiff, ↓reduceIte, p25, p21], hch.trans hc1 (fun _ _ h => h), hb.chg hc1 (fun h => h)⟩
    · obtain rfl := Option.some.inj ho
      have p22 := hpre ⟨22, .data⟩ (by simp) rfl
      have p26 := hpre ⟨26, .data⟩ (by simp) rfl
      clear ho hpre hi
      have ha := run_add_lists (P := Try.prog) (leB 20 2 ++ (leB 0 2 ++ (leB r.method.toNat 2 ++ (leB 0 2 ++ (leB 33 2 ++ (leB r.sum.toNat 4 ++ (leB r.packed.toNat 4 ++ leB r.size.toNat 4))))))) (leB r.name.length 2) (by simp only [List.length_append, leB_len]; omega) w
      try simp only [List.append_assoc] at ha
      go_wp2_with fail
      unfold AtEnd
      exact ⟨by simp only [more, slot_true, slot_false, Nat.reduceEqDiff, ↓reduceIte, p22, p26], hch, hb⟩
    · obtain rfl := Option.some.inj ho
      have p27 := hpre ⟨27, .data⟩ (by simp) rfl
      have p26 := hpre ⟨26, .chain⟩ (by simp) rfl
      clear ho hpre hi
      go_wp2_with fail
      unfold AtEnd
      exact ⟨by simp only [more, slot_true, slot_false, Nat.reduceEqDiff, ↓reduceIte, p27, p26], hch, hb⟩
  · intro D a w hall hI
    obtain ⟨rfl, hch, hb⟩ := hI
    have e28 := hall 28 (by decide)
    clear hall
    rw [hw0] at hch
    clear hw0
    rw [e28]
    clear e28 hb
    go_wp2_with fail
    go_ret
    refine ⟨?_, hch⟩
    simp [Rec.mid1, Rec.mid2, lay, str]
end Go.Proofs.Ytgojdkjneggmjaa
