/-
  THE WALKS of the reference's Local and Central.
-/
import Derived.Test.YtgojdkjneggmjaaRec9
namespace Go.Proofs.Ytgojdkjneggmjaa
open Go.RowKit FieldM
set_option linter.unusedSimpArgs false
theorem mid_eq (r : Rec) : r.mid = (r.mid1 ++ r.mid2 ++ leB r.name.length 2) ++ leB 0 2 := by
  simp [Rec.mid, Rec.mid3, lay]
theorem mid'_len (r : Rec) : (r.mid1 ++ r.mid2 ++ leB r.name.length 2).length = 24 := by
  have h1 : r.mid1.length = 10 := lay_len 2 _
  have h2 : r.mid2.length = 12 := lay_len 4 _
  simp only [List.length_append, leB_len]; omega
def InvRLocal (b : Nat) (r : Rec) (mk m : List UInt8) (w0 : World) (D : Nat → Bool) (a : Act) (w : World) : Prop :=
  a = { tmps := #[.agg r.cells, .pointer (some ⟨b, 0, none⟩), (slot (D 8) (.string ⟨(mk ++ (m ++ (leB 0 2 ++ r.name))).toArray⟩) (.string ⟨#[]⟩)), (slot (D 9) (.int .i64 0) (.int .i64 0)), .int .i64 0, .agg r.cells, .int .i64 0, .int .i64 0, .bool false, undef, (slot (D 0) (.agg r.cells) (undef)), (slot (D 1) (.string ⟨(m).toArray⟩) (undef)), (slot (D 2) (.string ⟨(mk ++ m).toArray⟩) (undef)), (slot (D 3) (.string ⟨(leB 0 2).toArray⟩) (undef)), (slot (D 4) (.string ⟨(mk ++ (m ++ leB 0 2)).toArray⟩) (undef)), (slot (D 5) (.pointer (some ⟨b, 0, none⟩)) (undef)), (slot (D 6) (.string ⟨r.name.toArray⟩) (undef)), (slot (D 7) (.string ⟨(mk ++ (m ++ (leB 0 2 ++ r.name))).toArray⟩) (undef))], defers := [] } ∧
    (Chg NoB w0 w) ∧
    (Blk w b 23 r.cells)
set_option maxRecDepth 100000 in
set_option maxHeartbeats 4000000 in
theorem rlocal_any (r : Rec) (w : World) :
    Calls Try.prog 11 #[.agg r.cells] w fun e w' => ((r.Ok ∧ e = .returned (.tuple #[.string ⟨(localL r).toArray⟩, .int .i64 0])) ∨ (¬ r.Ok ∧ e = .returned (.tuple #[.string ⟨#[]⟩, .int .i64 2]))) ∧ Chg NoB w w' := by
  obtain ⟨m, hm⟩ : ∃ m, m = r.mid1 ++ r.mid2 ++ leB r.name.length 2 := ⟨_, rfl⟩
  have HME := Lib.hid hm
  have HML : Hid (m.length = 24) := Lib.hid (by rw [hm]; exact mid'_len r)
  clear hm
  obtain ⟨mk, hmk⟩ : ∃ mk : List UInt8, mk = [80, 75, 3, 4] := ⟨_, rfl⟩
  have HMK := Lib.hid hmk
  have a0 : ∀ (x : List UInt8) (w : World), x.length ≤ 1000 → (Op.stringOp .add ⟨#[80, 75, 3, 4]⟩ ⟨x.toArray⟩).run Try.prog w = .ok (.string ⟨(mk ++ x).toArray⟩) w := by
    intro x w hx; rw [hmk]; exact run_add_lists [80, 75, 3, 4] x (by simp; omega) w
  have HKL : Hid (mk.length = 4) := Lib.hid (by rw [hmk]; rfl)
  clear hmk
  go_enter Try.func11, Try.ntmps11
  have hbox := Blk.new w 23 r.cells
  have c5 : Chg NoB w (w.alloc (.cells r.cells 23)) := (Chg.refl _ _).alloc _
  go_wp2_with (first
    | (refine wpList_load_row rfl 23 _ rfl w.heap.size rfl 23 _ (0, 0) _ hbox Try.underlying23 rfl rec_info ?_)
    | fail)
  refine (rcheck_any r _).mono ?_
  rintro e w1 ⟨hcase, hc1⟩
  have hb := hbox.chg hc1 (fun h => h)
  have hcc1 : Chg NoB w w1 := c5.trans hc1 (fun _ _ h => h)
  have HBX : Hid (w.heap.size < w1.heap.size) := hb.lt
  clear hbox c5 hc1
  rcases hcase with ⟨hok, rfl⟩ | ⟨hok, rfl⟩
  · have HOK := Lib.hid hok
    have hn1 := hok.name1
    have hn2 := hok.name2
    have HNL : Hid (0 < r.name.length ∧ r.name.length ≤ 65535) := by have h1 := HOK.out; exact ⟨h1.name1, h1.name2⟩
    clear hok
    have HK4 : Hid ((4 : Nat) = 4 ∧ True) := ⟨rfl, trivial⟩
    have HA4 : Hid ((4 : Nat) = 4 ∧ True) := ⟨rfl, trivial⟩
    go_wp2_with fail
    obtain ⟨b, hbd⟩ : ∃ b, b = w.heap.size := ⟨_, rfl⟩
    rw [← hbd] at hb
    rw [← hbd]
    have i1 : Chg NoB w1 w1.drew := (Chg.refl _ _).drew
    have i2 : Blk w1.drew b 23 r.cells := hb.drew
    have HC := Lib.hid hcc1
    clear hcc1 hn1 hn2
    refine wp_region_cl rfl (by kernel_rfl) (InvRLocal b r mk m w1) ?_ ?_ ?_
    · exact ⟨rfl, i1, i2⟩
    · clear i1 i2 hbd hb
      intro D a w i o ho hD hcl hpre hI
      obtain ⟨rfl, hch, hb⟩ := hI
      have hi : i < 10 := by have := (List.getElem?_eq_some_iff.1 ho).1; simpa using this
      rcases (by omega : i = 0 ∨ i = 1 ∨ i = 2 ∨ i = 3 ∨ i = 4 ∨ i = 5 ∨ i = 6 ∨ i = 7 ∨ i = 8 ∨ i = 9) with rfl | rfl | rfl | rfl | rfl | rfl | rfl | rfl | rfl | rfl
      · obtain rfl := Option.some.inj ho
        clear ho hpre hi hcl
        go_wp2_with (refine wpList_load_row rfl 23 _ rfl b rfl 23 _ (0, 0) _ hb Try.underlying23 rfl rec_info ?_)
        unfold AtEnd
        exact ⟨rfl, hch, hb⟩
      · obtain rfl := Option.some.inj ho
        have p0 := hpre ⟨0, .data⟩ (by simp) rfl
        clear ho hpre hi hcl
        go_wp2_with fail
        refine (middle_any r _ HOK).mono ?_
        rw [← HME.out]
        unfold str
        rintro e w1 ⟨rfl, hc1⟩
        go_wp2_with fail
        unfold AtEnd
        exact ⟨by simp only [more, slot_true, slot_false, Nat.reduceEqDiff, ↓reduceIte, p0], hch.trans hc1 (fun _ _ h => h), hb.chg hc1 (fun h => h)⟩
      · obtain rfl := Option.some.inj ho
        have p1 := hpre ⟨1, .data⟩ (by simp) rfl
        clear ho hpre hi hcl
        have ha := a0 (m) w (by (try simp only [List.length_append, leB_len]); have h1 := HML.out; omega)
        go_wp2_with fail
        unfold AtEnd
        exact ⟨by simp only [more, slot_true, slot_false, Nat.reduceEqDiff, ↓reduceIte, p1], hch, hb⟩
      · obtain rfl := Option.some.inj ho
        have p1 := hpre ⟨1, .chain⟩ (by simp) rfl
        clear ho hpre hi hcl
        go_wp2_with fail
        refine (two_nat 0 _ (by omega) (by omega) _).mono ?_
        rintro e w1 ⟨rfl, hc1⟩
        go_wp2_with fail
        unfold AtEnd
        exact ⟨by simp only [more, slot_true, slot_false, Nat.reduceEqDiff, ↓reduceIte, p1], hch.trans hc1 (fun _ _ h => h), hb.chg hc1 (fun h => h)⟩
      · obtain rfl := Option.some.inj ho
        have p2 := hpre ⟨2, .data⟩ (by simp) rfl
        have p3 := hpre ⟨3, .data⟩ (by simp) rfl
        clear ho hpre hi hcl
        have ha := run_add_lists (P := Try.prog) (mk ++ m) (leB 0 2) (by have h1 := HML.out; have h2 := HKL.out; have h3 := HNL.out; have h4 := HK4.out.1; have h5 := HA4.out.1; simp only [List.length_append, leB_len]; omega) w
        try simp only [List.append_assoc] at ha
        go_wp2_with fail
        unfold AtEnd
        exact ⟨by simp only [more, slot_true, slot_false, Nat.reduceEqDiff, ↓reduceIte, p2, p3], hch, hb⟩
      · obtain rfl := Option.some.inj ho
        clear ho hpre hi hcl
        go_wp2_with fail
        unfold AtEnd
        exact ⟨rfl, hch, hb⟩
      · obtain rfl := Option.some.inj ho
        have p5 := hpre ⟨5, .data⟩ (by simp) rfl
        clear ho hpre hi hcl
        have c1 := hb.cell 0
        simp only [Rec.cells] at c1
        go_wp2_with fail
        unfold AtEnd
        exact ⟨by simp only [more, slot_true, slot_false, Nat.reduceEqDiff, ↓reduceIte, p5], hch, hb⟩
      · obtain rfl := Option.some.inj ho
        have p4 := hpre ⟨4, .data⟩ (by simp) rfl
        have p6 := hpre ⟨6, .data⟩ (by simp) rfl
        clear ho hpre hi hcl
        have ha := run_add_lists (P := Try.prog) (mk ++ (m ++ leB 0 2)) (r.name) (by have h1 := HML.out; have h2 := HKL.out; have h3 := HNL.out; have h4 := HK4.out.1; have h5 := HA4.out.1; simp only [List.length_append, leB_len]; omega) w
        try simp only [List.append_assoc] at ha
        go_wp2_with fail
        unfold AtEnd
        exact ⟨by simp only [more, slot_true, slot_false, Nat.reduceEqDiff, ↓reduceIte, p4, p6], hch, hb⟩
      · obtain rfl := Option.some.inj ho
        have p7 := hpre ⟨7, .data⟩ (by simp) rfl
        have p3 := hpre ⟨3, .chain⟩ (by simp) rfl
        clear ho hpre hi hcl
        go_wp2_with fail
        unfold AtEnd
        exact ⟨by simp only [more, slot_true, slot_false, Nat.reduceEqDiff, ↓reduceIte, p7, p3], hch, hb⟩
      · obtain rfl := Option.some.inj ho
        have p8 := hpre ⟨8, .chain⟩ (by simp) rfl
        clear ho hpre hi hcl
        go_wp2_with fail
        unfold AtEnd
        exact ⟨by simp only [more, slot_true, slot_false, Nat.reduceEqDiff, ↓reduceIte, p8], hch, hb⟩
    · intro D a w hall hI
      obtain ⟨rfl, hch, hb⟩ := hI
      have e8 := hall 8 (by decide)
      have e9 := hall 9 (by decide)
      clear hall
      rw [e8, e9]
      clear e8 e9
      go_wp2_with fail
      go_ret2
      refine ⟨.inl ⟨HOK.out, ?_⟩, HC.out.trans hch (fun _ _ h => h)⟩
      rw [HMK.out, HME.out]
      unfold localL
      rw [mid_eq]
      simp only [slot_true, List.append_assoc]
      rfl
  · have HOK := Lib.hid hok
    clear hok
    go_wp2_with fail
    go_ret2
    exact ⟨.inr ⟨HOK.out, rfl⟩, hcc1⟩
def InvRCen (b : Nat) (r : Rec) (kd : Int) (ch : Int) (es : Bool) (mk m : List UInt8) (k4 a4 : List UInt8) (w0 : World) (D : Nat → Bool) (a : Act) (w : World) : Prop :=
  a = { tmps := #[.agg r.cells, .pointer (some ⟨b, 0, none⟩), (slot (D 23) (.string ⟨(mk ++ (leB 20 2 ++ (m ++ (leB 0 2 ++ (leB 0 2 ++ (leB 0 2 ++ (leB 0 2 ++ (k4 ++ (a4 ++ r.name))))))))).toArray⟩) (.string ⟨#[]⟩)), (slot (D 24) (.int .i64 0) (.int .i64 0)), .int .i64 0, .int .i64 kd, .agg r.cells, .int .i64 0, .int .i64 0, .bool false, undef, .pointer (some ⟨b, 0, none⟩), .string ⟨r.name.toArray⟩, .pointer (some ⟨b, 0, none⟩), .string ⟨r.name.toArray⟩, .int .i64 (r.name.length : Int), .int .i64 ((r.name.length : Int) - 1), .int .u8 ch, .bool es, (slot (D 0) (.string ⟨(leB 20 2).toArray⟩) (undef)), (slot (D 1) (.string ⟨(mk ++ leB 20 2).toArray⟩) (undef)), (slot (D 2) (.agg r.cells) (undef)), (slot (D 3) (.string ⟨(m).toArray⟩) (undef)), (slot (D 4) (.string ⟨(mk ++ (leB 20 2 ++ m)).toArray⟩) (undef)), (slot (D 5) (.string ⟨(leB 0 2).toArray⟩) (undef)), (slot (D 6) (.string ⟨(mk ++ (leB 20 2 ++ (m ++ leB 0 2))).toArray⟩) (undef)), (slot (D 7) (.string ⟨(leB 0 2).toArray⟩) (undef)), (slot (D 8) (.string ⟨(mk ++ (leB 20 2 ++ (m ++ (leB 0 2 ++ leB 0 2)))).toArray⟩) (undef)), (slot (D 9) (.string ⟨(leB 0 2).toArray⟩) (undef)), (slot (D 10) (.string ⟨(mk ++ (leB 20 2 ++ (m ++ (leB 0 2 ++ (leB 0 2 ++ leB 0 2))))).toArray⟩) (undef)), (slot (D 11) (.string ⟨(leB 0 2).toArray⟩) (undef)), (slot (D 12) (.string ⟨(mk ++ (leB 20 2 ++ (m ++ (leB 0 2 ++ (leB 0 2 ++ (leB 0 2 ++ leB 0 2)))))).toArray⟩) (undef)), (slot (D 13) (.int .i64 kd) (undef)), (slot (D 14) (.string ⟨(k4).toArray⟩) (undef)), (slot (D 15) (.string ⟨(mk ++ (leB 20 2 ++ (m ++ (leB 0 2 ++ (leB 0 2 ++ (leB 0 2 ++ (leB 0 2 ++ k4))))))).toArray⟩) (undef)), (slot (D 16) (.pointer (some ⟨b, 5, none⟩)) (undef)), (slot (D 17) (.int .i64 r.at_) (undef)), (slot (D 18) (.string ⟨(a4).toArray⟩) (undef)), (slot (D 19) (.string ⟨(mk ++ (leB 20 2 ++ (m ++ (leB 0 2 ++ (leB 0 2 ++ (leB 0 2 ++ (leB 0 2 ++ (k4 ++ a4)))))))).toArray⟩) (undef)), (slot (D 20) (.pointer (some ⟨b, 0, none⟩)) (undef)), (slot (D 21) (.string ⟨r.name.toArray⟩) (undef)), (slot (D 22) (.string ⟨(mk ++ (leB 20 2 ++ (m ++ (leB 0 2 ++ (leB 0 2 ++ (leB 0 2 ++ (leB 0 2 ++ (k4 ++ (a4 ++ r.name))))))))).toArray⟩) (undef))], defers := [] } ∧
    (Chg NoB w0 w) ∧
    (Blk w b 23 r.cells)
set_option maxRecDepth 100000 in
set_option maxHeartbeats 4000000 in
theorem rcentral_any (r : Rec) (w : World) :
    Calls Try.prog 13 #[.agg r.cells] w fun e w' => ((r.Ok ∧ e = .returned (.tuple #[.string ⟨(centralL r).toArray⟩, .int .i64 0])) ∨ (¬ r.Ok ∧ e = .returned (.tuple #[.string ⟨#[]⟩, .int .i64 2]))) ∧ Chg NoB w w' := by
  obtain ⟨m, hm⟩ : ∃ m, m = r.mid1 ++ r.mid2 ++ leB r.name.length 2 := ⟨_, rfl⟩
  have HME := Lib.hid hm
  have HML : Hid (m.length = 24) := Lib.hid (by rw [hm]; exact mid'_len r)
  clear hm
  obtain ⟨mk, hmk⟩ : ∃ mk : List UInt8, mk = [80, 75, 1, 2] := ⟨_, rfl⟩
  have HMK := Lib.hid hmk
  have a0 : ∀ (x : List UInt8) (w : World), x.length ≤ 1000 → (Op.stringOp .add ⟨#[80, 75, 1, 2]⟩ ⟨x.toArray⟩).run Try.prog w = .ok (.string ⟨(mk ++ x).toArray⟩) w := by
    intro x w hx; rw [hmk]; exact run_add_lists [80, 75, 1, 2] x (by simp; omega) w
  have HKL : Hid (mk.length = 4) := Lib.hid (by rw [hmk]; rfl)
  clear hmk
  go_enter Try.func13, Try.ntmps13
  have hbox := Blk.new w 23 r.cells
  have c5 : Chg NoB w (w.alloc (.cells r.cells 23)) := (Chg.refl _ _).alloc _
  go_wp2_with (first
    | (refine wpList_load_row rfl 23 _ rfl w.heap.size rfl 23 _ (0, 0) _ hbox Try.underlying23 rfl rec_info ?_)
    | fail)
  refine (rcheck_any r _).mono ?_
  rintro e w1 ⟨hcase, hc1⟩
  have hb := hbox.chg hc1 (fun h => h)
  have hcc1 : Chg NoB w w1 := c5.trans hc1 (fun _ _ h => h)
  have HBX : Hid (w.heap.size < w1.heap.size) := hb.lt
  clear hbox c5 hc1
  rcases hcase with ⟨hok, rfl⟩ | ⟨hok, rfl⟩
  · have HOK := Lib.hid hok
    have hn1 := hok.name1
    have hn2 := hok.name2
    have HNL : Hid (0 < r.name.length ∧ r.name.length ≤ 65535) := by have h1 := HOK.out; exact ⟨h1.name1, h1.name2⟩
    clear hok
    have c1 := hb.cell 0
    simp only [Rec.cells] at c1
    have hss : (ByteArray.mk r.name.toArray).size = r.name.length := by simp [ByteArray.size]
    obtain ⟨ch, hch⟩ : ∃ ch : Int, (((ByteArray.mk r.name.toArray)[r.name.length - 1]'(by rw [hss]; omega)).toNat : Int) = ch := ⟨_, rfl⟩
    have ht : (ch == 47) = endsSlash r.name := by
      rw [← hch]
      have hgl : r.name.getLast? = some (r.name[r.name.length - 1]'(by omega)) := by rw [List.getLast?_eq_getElem?]; simp
      unfold endsSlash
      rw [hgl]
      have hx : (ByteArray.mk r.name.toArray)[r.name.length - 1]'(by rw [hss]; omega) = r.name[r.name.length - 1]'(by omega) := by simp [ByteArray.getElem_eq_getElem_data]
      rw [hx, Bool.eq_iff_iff]
      simp [← UInt8.toNat_inj]
      omega
    cases hsl : endsSlash r.name
    all_goals rw [hsl] at ht
    all_goals have HK := Lib.hid (show kindOf r = (if endsSlash r.name = true then 16 else 0) from rfl)
    all_goals rw [hsl] at HK
    all_goals clear hsl
    · obtain ⟨k4, hk4⟩ : ∃ k4, k4 = leB 0 4 := ⟨_, rfl⟩
      obtain ⟨a4, ha4⟩ : ∃ a4, a4 = leB r.at_.toNat 4 := ⟨_, rfl⟩
      have HK4 := Lib.hid (show k4.length = 4 ∧ k4 = leB 0 4 from ⟨by rw [hk4, leB_len], hk4⟩)
      have HA4 := Lib.hid (show a4.length = 4 ∧ a4 = leB r.at_.toNat 4 from ⟨by rw [ha4, leB_len], ha4⟩)
      clear hk4 ha4
      go_wp2_with fail
      obtain ⟨b, hbd⟩ : ∃ b, b = w.heap.size := ⟨_, rfl⟩
      rw [← hbd] at hb
      rw [← hbd]
      have i1 : Chg NoB w1 w1.drew := (Chg.refl _ _).drew
      have i2 : Blk w1.drew b 23 r.cells := hb.drew
      have HC := Lib.hid hcc1
      clear hcc1 hn1 hn2 c1 hss hch ht
      refine wp_region_cl rfl (by kernel_rfl) (InvRCen b r 0 ch false mk m k4 a4 w1) ?_ ?_ ?_
      · exact ⟨rfl, i1, i2⟩
      · clear i1 i2 hbd hb
        intro D a w i o ho hD hcl hpre hI
        obtain ⟨rfl, hch, hb⟩ := hI
        have hi : i < 25 := by have := (List.getElem?_eq_some_iff.1 ho).1; simpa using this
        rcases (by omega : i = 0 ∨ i = 1 ∨ i = 2 ∨ i = 3 ∨ i = 4 ∨ i = 5 ∨ i = 6 ∨ i = 7 ∨ i = 8 ∨ i = 9 ∨ i = 10 ∨ i = 11 ∨ i = 12 ∨ i = 13 ∨ i = 14 ∨ i = 15 ∨ i = 16 ∨ i = 17 ∨ i = 18 ∨ i = 19 ∨ i = 20 ∨ i = 21 ∨ i = 22 ∨ i = 23 ∨ i = 24) with rfl | rfl | rfl | rfl | rfl | rfl | rfl | rfl | rfl | rfl | rfl | rfl | rfl | rfl | rfl | rfl | rfl | rfl | rfl | rfl | rfl | rfl | rfl | rfl | rfl
        · obtain rfl := Option.some.inj ho
          clear ho hpre hi hcl
          go_wp2_with fail
          refine (two_nat 20 _ (by omega) (by omega) _).mono ?_
          rintro e w1 ⟨rfl, hc1⟩
          go_wp2_with fail
          unfold AtEnd
          exact ⟨rfl, hch.trans hc1 (fun _ _ h => h), hb.chg hc1 (fun h => h)⟩
        · obtain rfl := Option.some.inj ho
          have p0 := hpre ⟨0, .data⟩ (by simp) rfl
          clear ho hpre hi hcl
          have ha := a0 (leB 20 2) w (by (try simp only [List.length_append, leB_len]); have h1 := HML.out; omega)
          go_wp2_with fail
          unfold AtEnd
          exact ⟨by simp only [more, slot_true, slot_false, Nat.reduceEqDiff, ↓reduceIte, p0], hch, hb⟩
        · obtain rfl := Option.some.inj ho
          clear ho hpre hi hcl
          go_wp2_with (refine wpList_load_row rfl 23 _ rfl b rfl 23 _ (0, 0) _ hb Try.underlying23 rfl rec_info ?_)
          unfold AtEnd
          exact ⟨rfl, hch, hb⟩
        · obtain rfl := Option.some.inj ho
          have p2 := hpre ⟨2, .data⟩ (by simp) rfl
          have p0 := hpre ⟨0, .chain⟩ (by simp) rfl
          clear ho hpre hi hcl
          go_wp2_with fail
          refine (middle_any r _ HOK).mono ?_
          rw [← HME.out]
          unfold str
          rintro e w1 ⟨rfl, hc1⟩
          go_wp2_with fail
          unfold AtEnd
          exact ⟨by simp only [more, slot_true, slot_false, Nat.reduceEqDiff, ↓reduceIte, p2, p0], hch.trans hc1 (fun _ _ h => h), hb.chg hc1 (fun h => h)⟩
        · obtain rfl := Option.some.inj ho
          have p1 := hpre ⟨1, .data⟩ (by simp) rfl
          have p3 := hpre ⟨3, .data⟩ (by simp) rfl
          clear ho hpre hi hcl
          have ha := run_add_lists (P := Try.prog) (mk ++ leB 20 2) (m) (by have h1 := HML.out; have h2 := HKL.out; have h3 := HNL.out; have h4 := HK4.out.1; have h5 := HA4.out.1; simp only [List.length_append, leB_len]; omega) w
          try simp only [List.append_assoc] at ha
          go_wp2_with fail
          unfold AtEnd
          exact ⟨by simp only [more, slot_true, slot_false, Nat.reduceEqDiff, ↓reduceIte, p1, p3], hch, hb⟩
        · obtain rfl := Option.some.inj ho
          have p3 := hpre ⟨3, .chain⟩ (by simp) rfl
          clear ho hpre hi hcl
          go_wp2_with fail
          refine (two_nat 0 _ (by omega) (by omega) _).mono ?_
          rintro e w1 ⟨rfl, hc1⟩
          go_wp2_with fail
          unfold AtEnd
          exact ⟨by simp only [more, slot_true, slot_false, Nat.reduceEqDiff, ↓reduceIte, p3], hch.trans hc1 (fun _ _ h => h), hb.chg hc1 (fun h => h)⟩
        · obtain rfl := Option.some.inj ho
          have p4 := hpre ⟨4, .data⟩ (by simp) rfl
          have p5 := hpre ⟨5, .data⟩ (by simp) rfl
          clear ho hpre hi hcl
          have ha := run_add_lists (P := Try.prog) (mk ++ (leB 20 2 ++ m)) (leB 0 2) (by have h1 := HML.out; have h2 := HKL.out; have h3 := HNL.out; have h4 := HK4.out.1; have h5 := HA4.out.1; simp only [List.length_append, leB_len]; omega) w
          try simp only [List.append_assoc] at ha
          go_wp2_with fail
          unfold AtEnd
          exact ⟨by simp only [more, slot_true, slot_false, Nat.reduceEqDiff, ↓reduceIte, p4, p5], hch, hb⟩
        · obtain rfl := Option.some.inj ho
          have p5 := hpre ⟨5, .chain⟩ (by simp) rfl
          clear ho hpre hi hcl
          go_wp2_with fail
          refine (two_nat 0 _ (by omega) (by omega) _).mono ?_
          rintro e w1 ⟨rfl, hc1⟩
          go_wp2_with fail
          unfold AtEnd
          exact ⟨by simp only [more, slot_true, slot_false, Nat.reduceEqDiff, ↓reduceIte, p5], hch.trans hc1 (fun _ _ h => h), hb.chg hc1 (fun h => h)⟩
        · obtain rfl := Option.some.inj ho
          have p6 := hpre ⟨6, .data⟩ (by simp) rfl
          have p7 := hpre ⟨7, .data⟩ (by simp) rfl
          clear ho hpre hi hcl
          have ha := run_add_lists (P := Try.prog) (mk ++ (leB 20 2 ++ (m ++ leB 0 2))) (leB 0 2) (by have h1 := HML.out; have h2 := HKL.out; have h3 := HNL.out; have h4 := HK4.out.1; have h5 := HA4.out.1; simp only [List.length_append, leB_len]; omega) w
          try simp only [List.append_assoc] at ha
          go_wp2_with fail
          unfold AtEnd
          exact ⟨by simp only [more, slot_true, slot_false, Nat.reduceEqDiff, ↓reduceIte, p6, p7], hch, hb⟩
        · obtain rfl := Option.some.inj ho
          have p7 := hpre ⟨7, .chain⟩ (by simp) rfl
          clear ho hpre hi hcl
          go_wp2_with fail
          refine (two_nat 0 _ (by omega) (by omega) _).mono ?_
          rintro e w1 ⟨rfl, hc1⟩
          go_wp2_with fail
          unfold AtEnd
          exact ⟨by simp only [more, slot_true, slot_false, Nat.reduceEqDiff, ↓reduceIte, p7], hch.trans hc1 (fun _ _ h => h), hb.chg hc1 (fun h => h)⟩
        · obtain rfl := Option.some.inj ho
          have p8 := hpre ⟨8, .data⟩ (by simp) rfl
          have p9 := hpre ⟨9, .data⟩ (by simp) rfl
          clear ho hpre hi hcl
          have ha := run_add_lists (P := Try.prog) (mk ++ (leB 20 2 ++ (m ++ (leB 0 2 ++ leB 0 2)))) (leB 0 2) (by have h1 := HML.out; have h2 := HKL.out; have h3 := HNL.out; have h4 := HK4.out.1; have h5 := HA4.out.1; simp only [List.length_append, leB_len]; omega) w
          try simp only [List.append_assoc] at ha
          go_wp2_with fail
          unfold AtEnd
          exact ⟨by simp only [more, slot_true, slot_false, Nat.reduceEqDiff, ↓reduceIte, p8, p9], hch, hb⟩
        · obtain rfl := Option.some.inj ho
          have p9 := hpre ⟨9, .chain⟩ (by simp) rfl
          clear ho hpre hi hcl
          go_wp2_with fail
          refine (two_nat 0 _ (by omega) (by omega) _).mono ?_
          rintro e w1 ⟨rfl, hc1⟩
          go_wp2_with fail
          unfold AtEnd
          exact ⟨by simp only [more, slot_true, slot_false, Nat.reduceEqDiff, ↓reduceIte, p9], hch.trans hc1 (fun _ _ h => h), hb.chg hc1 (fun h => h)⟩
        · obtain rfl := Option.some.inj ho
          have p10 := hpre ⟨10, .data⟩ (by simp) rfl
          have p11 := hpre ⟨11, .data⟩ (by simp) rfl
          clear ho hpre hi hcl
          have ha := run_add_lists (P := Try.prog) (mk ++ (leB 20 2 ++ (m ++ (leB 0 2 ++ (leB 0 2 ++ leB 0 2))))) (leB 0 2) (by have h1 := HML.out; have h2 := HKL.out; have h3 := HNL.out; have h4 := HK4.out.1; have h5 := HA4.out.1; simp only [List.length_append, leB_len]; omega) w
          try simp only [List.append_assoc] at ha
          go_wp2_with fail
          unfold AtEnd
          exact ⟨by simp only [more, slot_true, slot_false, Nat.reduceEqDiff, ↓reduceIte, p10, p11], hch, hb⟩
        · obtain rfl := Option.some.inj ho
          clear ho hpre hi hcl
          go_wp2_with fail
          unfold AtEnd
          exact ⟨rfl, hch, hb⟩
        · obtain rfl := Option.some.inj ho
          have p13 := hpre ⟨13, .data⟩ (by simp) rfl
          have p11 := hpre ⟨11, .chain⟩ (by simp) rfl
          clear ho hpre hi hcl
          go_wp2_with fail
          refine (four_nat 0 _ (by omega) (by omega) _).mono ?_
          rw [← HK4.out.2]
          rintro e w1 ⟨rfl, hc1⟩
          go_wp2_with fail
          unfold AtEnd
          exact ⟨by simp only [more, slot_true, slot_false, Nat.reduceEqDiff, ↓reduceIte, p13, p11], hch.trans hc1 (fun _ _ h => h), hb.chg hc1 (fun h => h)⟩
        · obtain rfl := Option.some.inj ho
          have p12 := hpre ⟨12, .data⟩ (by simp) rfl
          have p14 := hpre ⟨14, .data⟩ (by simp) rfl
          clear ho hpre hi hcl
          have ha := run_add_lists (P := Try.prog) (mk ++ (leB 20 2 ++ (m ++ (leB 0 2 ++ (leB 0 2 ++ (leB 0 2 ++ leB 0 2)))))) (k4) (by have h1 := HML.out; have h2 := HKL.out; have h3 := HNL.out; have h4 := HK4.out.1; have h5 := HA4.out.1; simp only [List.length_append, leB_len]; omega) w
          try simp only [List.append_assoc] at ha
          go_wp2_with fail
          unfold AtEnd
          exact ⟨by simp only [more, slot_true, slot_false, Nat.reduceEqDiff, ↓reduceIte, p12, p14], hch, hb⟩
        · obtain rfl := Option.some.inj ho
          clear ho hpre hi hcl
          go_wp2_with fail
          unfold AtEnd
          exact ⟨rfl, hch, hb⟩
        · obtain rfl := Option.some.inj ho
          have p16 := hpre ⟨16, .data⟩ (by simp) rfl
          clear ho hpre hi hcl
          have c1 := hb.cell 5
          simp only [Rec.cells] at c1
          go_wp2_with fail
          unfold AtEnd
          exact ⟨by simp only [more, slot_true, slot_false, Nat.reduceEqDiff, ↓reduceIte, p16], hch, hb⟩
        · obtain rfl := Option.some.inj ho
          have p17 := hpre ⟨17, .data⟩ (by simp) rfl
          have p14 := hpre ⟨14, .chain⟩ (by simp) rfl
          clear ho hpre hi hcl
          go_wp2_with fail
          refine (four_nat r.at_.toNat _ (by have h1 := HOK.out.at_; omega) (by have h1 := HOK.out.at_; omega) _).mono ?_
          rw [← HA4.out.2]
          rintro e w1 ⟨rfl, hc1⟩
          go_wp2_with fail
          unfold AtEnd
          exact ⟨by simp only [more, slot_true, slot_false, Nat.reduceEqDiff, ↓reduceIte, p17, p14], hch.trans hc1 (fun _ _ h => h), hb.chg hc1 (fun h => h)⟩
        · obtain rfl := Option.some.inj ho
          have p15 := hpre ⟨15, .data⟩ (by simp) rfl
          have p18 := hpre ⟨18, .data⟩ (by simp) rfl
          clear ho hpre hi hcl
          have ha := run_add_lists (P := Try.prog) (mk ++ (leB 20 2 ++ (m ++ (leB 0 2 ++ (leB 0 2 ++ (leB 0 2 ++ (leB 0 2 ++ k4))))))) (a4) (by have h1 := HML.out; have h2 := HKL.out; have h3 := HNL.out; have h4 := HK4.out.1; have h5 := HA4.out.1; simp only [List.length_append, leB_len]; omega) w
          try simp only [List.append_assoc] at ha
          go_wp2_with fail
          unfold AtEnd
          exact ⟨by simp only [more, slot_true, slot_false, Nat.reduceEqDiff, ↓reduceIte, p15, p18], hch, hb⟩
        · obtain rfl := Option.some.inj ho
          clear ho hpre hi hcl
          go_wp2_with fail
          unfold AtEnd
          exact ⟨rfl, hch, hb⟩
        · obtain rfl := Option.some.inj ho
          have p20 := hpre ⟨20, .data⟩ (by simp) rfl
          clear ho hpre hi hcl
          have c1 := hb.cell 0
          simp only [Rec.cells] at c1
          go_wp2_with fail
          unfold AtEnd
          exact ⟨by simp only [more, slot_true, slot_false, Nat.reduceEqDiff, ↓reduceIte, p20], hch, hb⟩
        · obtain rfl := Option.some.inj ho
          have p19 := hpre ⟨19, .data⟩ (by simp) rfl
          have p21 := hpre ⟨21, .data⟩ (by simp) rfl
          clear ho hpre hi hcl
          have ha := run_add_lists (P := Try.prog) (mk ++ (leB 20 2 ++ (m ++ (leB 0 2 ++ (leB 0 2 ++ (leB 0 2 ++ (leB 0 2 ++ (k4 ++ a4)))))))) (r.name) (by have h1 := HML.out; have h2 := HKL.out; have h3 := HNL.out; have h4 := HK4.out.1; have h5 := HA4.out.1; simp only [List.length_append, leB_len]; omega) w
          try simp only [List.append_assoc] at ha
          go_wp2_with fail
          unfold AtEnd
          exact ⟨by simp only [more, slot_true, slot_false, Nat.reduceEqDiff, ↓reduceIte, p19, p21], hch, hb⟩
        · obtain rfl := Option.some.inj ho
          have p22 := hpre ⟨22, .data⟩ (by simp) rfl
          have p18 := hpre ⟨18, .chain⟩ (by simp) rfl
          clear ho hpre hi hcl
          go_wp2_with fail
          unfold AtEnd
          exact ⟨by simp only [more, slot_true, slot_false, Nat.reduceEqDiff, ↓reduceIte, p22, p18], hch, hb⟩
        · obtain rfl := Option.some.inj ho
          have p23 := hpre ⟨23, .chain⟩ (by simp) rfl
          clear ho hpre hi hcl
          go_wp2_with fail
          unfold AtEnd
          exact ⟨by simp only [more, slot_true, slot_false, Nat.reduceEqDiff, ↓reduceIte, p23], hch, hb⟩
      · intro D a w hall hI
        obtain ⟨rfl, hch, hb⟩ := hI
        have e23 := hall 23 (by decide)
        have e24 := hall 24 (by decide)
        clear hall
        rw [e23, e24]
        clear e23 e24
        go_wp2_with fail
        go_ret2
        refine ⟨.inl ⟨HOK.out, ?_⟩, HC.out.trans hch (fun _ _ h => h)⟩
        rw [HMK.out, HME.out]
        unfold centralL
        rw [mid_eq, show kindOf r = 0 from HK.out, HK4.out.2, HA4.out.2]
        simp only [slot_true, List.append_assoc, lay, List.flatMap_cons, List.flatMap_nil, List.append_nil]
        rfl
    · obtain ⟨k4, hk4⟩ : ∃ k4, k4 = leB 16 4 := ⟨_, rfl⟩
      obtain ⟨a4, ha4⟩ : ∃ a4, a4 = leB r.at_.toNat 4 := ⟨_, rfl⟩
      have HK4 := Lib.hid (show k4.length = 4 ∧ k4 = leB 16 4 from ⟨by rw [hk4, leB_len], hk4⟩)
      have HA4 := Lib.hid (show a4.length = 4 ∧ a4 = leB r.at_.toNat 4 from ⟨by rw [ha4, leB_len], ha4⟩)
      clear hk4 ha4
      go_wp2_with fail
      obtain ⟨b, hbd⟩ : ∃ b, b = w.heap.size := ⟨_, rfl⟩
      rw [← hbd] at hb
      rw [← hbd]
      have i1 : Chg NoB w1 w1.drew := (Chg.refl _ _).drew
      have i2 : Blk w1.drew b 23 r.cells := hb.drew
      have HC := Lib.hid hcc1
      clear hcc1 hn1 hn2 c1 hss hch ht
      refine wp_region_cl rfl (by kernel_rfl) (InvRCen b r 16 ch true mk m k4 a4 w1) ?_ ?_ ?_
      · exact ⟨rfl, i1, i2⟩
      · clear i1 i2 hbd hb
        intro D a w i o ho hD hcl hpre hI
        obtain ⟨rfl, hch, hb⟩ := hI
        have hi : i < 25 := by have := (List.getElem?_eq_some_iff.1 ho).1; simpa using this
        rcases (by omega : i = 0 ∨ i = 1 ∨ i = 2 ∨ i = 3 ∨ i = 4 ∨ i = 5 ∨ i = 6 ∨ i = 7 ∨ i = 8 ∨ i = 9 ∨ i = 10 ∨ i = 11 ∨ i = 12 ∨ i = 13 ∨ i = 14 ∨ i = 15 ∨ i = 16 ∨ i = 17 ∨ i = 18 ∨ i = 19 ∨ i = 20 ∨ i = 21 ∨ i = 22 ∨ i = 23 ∨ i = 24) with rfl | rfl | rfl | rfl | rfl | rfl | rfl | rfl | rfl | rfl | rfl | rfl | rfl | rfl | rfl | rfl | rfl | rfl | rfl | rfl | rfl | rfl | rfl | rfl | rfl
        · obtain rfl := Option.some.inj ho
          clear ho hpre hi hcl
          go_wp2_with fail
          refine (two_nat 20 _ (by omega) (by omega) _).mono ?_
          rintro e w1 ⟨rfl, hc1⟩
          go_wp2_with fail
          unfold AtEnd
          exact ⟨rfl, hch.trans hc1 (fun _ _ h => h), hb.chg hc1 (fun h => h)⟩
        · obtain rfl := Option.some.inj ho
          have p0 := hpre ⟨0, .data⟩ (by simp) rfl
          clear ho hpre hi hcl
          have ha := a0 (leB 20 2) w (by (try simp only [List.length_append, leB_len]); have h1 := HML.out; omega)
          go_wp2_with fail
          unfold AtEnd
          exact ⟨by simp only [more, slot_true, slot_false, Nat.reduceEqDiff, ↓reduceIte, p0], hch, hb⟩
        · obtain rfl := Option.some.inj ho
          clear ho hpre hi hcl
          go_wp2_with (refine wpList_load_row rfl 23 _ rfl b rfl 23 _ (0, 0) _ hb Try.underlying23 rfl rec_info ?_)
          unfold AtEnd
          exact ⟨rfl, hch, hb⟩
        · obtain rfl := Option.some.inj ho
          have p2 := hpre ⟨2, .data⟩ (by simp) rfl
          have p0 := hpre ⟨0, .chain⟩ (by simp) rfl
          clear ho hpre hi hcl
          go_wp2_with fail
          refine (middle_any r _ HOK).mono ?_
          rw [← HME.out]
          unfold str
          rintro e w1 ⟨rfl, hc1⟩
          go_wp2_with fail
          unfold AtEnd
          exact ⟨by simp only [more, slot_true, slot_false, Nat.reduceEqDiff, ↓reduceIte, p2, p0], hch.trans hc1 (fun _ _ h => h), hb.chg hc1 (fun h => h)⟩
        · obtain rfl := Option.some.inj ho
          have p1 := hpre ⟨1, .data⟩ (by simp) rfl
          have p3 := hpre ⟨3, .data⟩ (by simp) rfl
          clear ho hpre hi hcl
          have ha := run_add_lists (P := Try.prog) (mk ++ leB 20 2) (m) (by have h1 := HML.out; have h2 := HKL.out; have h3 := HNL.out; have h4 := HK4.out.1; have h5 := HA4.out.1; simp only [List.length_append, leB_len]; omega) w
          try simp only [List.append_assoc] at ha
          go_wp2_with fail
          unfold AtEnd
          exact ⟨by simp only [more, slot_true, slot_false, Nat.reduceEqDiff, ↓reduceIte, p1, p3], hch, hb⟩
        · obtain rfl := Option.some.inj ho
          have p3 := hpre ⟨3, .chain⟩ (by simp) rfl
          clear ho hpre hi hcl
          go_wp2_with fail
          refine (two_nat 0 _ (by omega) (by omega) _).mono ?_
          rintro e w1 ⟨rfl, hc1⟩
          go_wp2_with fail
          unfold AtEnd
          exact ⟨by simp only [more, slot_true, slot_false, Nat.reduceEqDiff, ↓reduceIte, p3], hch.trans hc1 (fun _ _ h => h), hb.chg hc1 (fun h => h)⟩
        · obtain rfl := Option.some.inj ho
          have p4 := hpre ⟨4, .data⟩ (by simp) rfl
          have p5 := hpre ⟨5, .data⟩ (by simp) rfl
          clear ho hpre hi hcl
          have ha := run_add_lists (P := Try.prog) (mk ++ (leB 20 2 ++ m)) (leB 0 2) (by have h1 := HML.out; have h2 := HKL.out; have h3 := HNL.out; have h4 := HK4.out.1; have h5 := HA4.out.1; simp only [List.length_append, leB_len]; omega) w
          try simp only [List.append_assoc] at ha
          go_wp2_with fail
          unfold AtEnd
          exact ⟨by simp only [more, slot_true, slot_false, Nat.reduceEqDiff, ↓reduceIte, p4, p5], hch, hb⟩
        · obtain rfl := Option.some.inj ho
          have p5 := hpre ⟨5, .chain⟩ (by simp) rfl
          clear ho hpre hi hcl
          go_wp2_with fail
          refine (two_nat 0 _ (by omega) (by omega) _).mono ?_
          rintro e w1 ⟨rfl, hc1⟩
          go_wp2_with fail
          unfold AtEnd
          exact ⟨by simp only [more, slot_true, slot_false, Nat.reduceEqDiff, ↓reduceIte, p5], hch.trans hc1 (fun _ _ h => h), hb.chg hc1 (fun h => h)⟩
        · obtain rfl := Option.some.inj ho
          have p6 := hpre ⟨6, .data⟩ (by simp) rfl
          have p7 := hpre ⟨7, .data⟩ (by simp) rfl
          clear ho hpre hi hcl
          have ha := run_add_lists (P := Try.prog) (mk ++ (leB 20 2 ++ (m ++ leB 0 2))) (leB 0 2) (by have h1 := HML.out; have h2 := HKL.out; have h3 := HNL.out; have h4 := HK4.out.1; have h5 := HA4.out.1; simp only [List.length_append, leB_len]; omega) w
          try simp only [List.append_assoc] at ha
          go_wp2_with fail
          unfold AtEnd
          exact ⟨by simp only [more, slot_true, slot_false, Nat.reduceEqDiff, ↓reduceIte, p6, p7], hch, hb⟩
        · obtain rfl := Option.some.inj ho
          have p7 := hpre ⟨7, .chain⟩ (by simp) rfl
          clear ho hpre hi hcl
          go_wp2_with fail
          refine (two_nat 0 _ (by omega) (by omega) _).mono ?_
          rintro e w1 ⟨rfl, hc1⟩
          go_wp2_with fail
          unfold AtEnd
          exact ⟨by simp only [more, slot_true, slot_false, Nat.reduceEqDiff, ↓reduceIte, p7], hch.trans hc1 (fun _ _ h => h), hb.chg hc1 (fun h => h)⟩
        · obtain rfl := Option.some.inj ho
          have p8 := hpre ⟨8, .data⟩ (by simp) rfl
          have p9 := hpre ⟨9, .data⟩ (by simp) rfl
          clear ho hpre hi hcl
          have ha := run_add_lists (P := Try.prog) (mk ++ (leB 20 2 ++ (m ++ (leB 0 2 ++ leB 0 2)))) (leB 0 2) (by have h1 := HML.out; have h2 := HKL.out; have h3 := HNL.out; have h4 := HK4.out.1; have h5 := HA4.out.1; simp only [List.length_append, leB_len]; omega) w
          try simp only [List.append_assoc] at ha
          go_wp2_with fail
          unfold AtEnd
          exact ⟨by simp only [more, slot_true, slot_false, Nat.reduceEqDiff, ↓reduceIte, p8, p9], hch, hb⟩
        · obtain rfl := Option.some.inj ho
          have p9 := hpre ⟨9, .chain⟩ (by simp) rfl
          clear ho hpre hi hcl
          go_wp2_with fail
          refine (two_nat 0 _ (by omega) (by omega) _).mono ?_
          rintro e w1 ⟨rfl, hc1⟩
          go_wp2_with fail
          unfold AtEnd
          exact ⟨by simp only [more, slot_true, slot_false, Nat.reduceEqDiff, ↓reduceIte, p9], hch.trans hc1 (fun _ _ h => h), hb.chg hc1 (fun h => h)⟩
        · obtain rfl := Option.some.inj ho
          have p10 := hpre ⟨10, .data⟩ (by simp) rfl
          have p11 := hpre ⟨11, .data⟩ (by simp) rfl
          clear ho hpre hi hcl
          have ha := run_add_lists (P := Try.prog) (mk ++ (leB 20 2 ++ (m ++ (leB 0 2 ++ (leB 0 2 ++ leB 0 2))))) (leB 0 2) (by have h1 := HML.out; have h2 := HKL.out; have h3 := HNL.out; have h4 := HK4.out.1; have h5 := HA4.out.1; simp only [List.length_append, leB_len]; omega) w
          try simp only [List.append_assoc] at ha
          go_wp2_with fail
          unfold AtEnd
          exact ⟨by simp only [more, slot_true, slot_false, Nat.reduceEqDiff, ↓reduceIte, p10, p11], hch, hb⟩
        · obtain rfl := Option.some.inj ho
          clear ho hpre hi hcl
          go_wp2_with fail
          unfold AtEnd
          exact ⟨rfl, hch, hb⟩
        · obtain rfl := Option.some.inj ho
          have p13 := hpre ⟨13, .data⟩ (by simp) rfl
          have p11 := hpre ⟨11, .chain⟩ (by simp) rfl
          clear ho hpre hi hcl
          go_wp2_with fail
          refine (four_nat 16 _ (by omega) (by omega) _).mono ?_
          rw [← HK4.out.2]
          rintro e w1 ⟨rfl, hc1⟩
          go_wp2_with fail
          unfold AtEnd
          exact ⟨by simp only [more, slot_true, slot_false, Nat.reduceEqDiff, ↓reduceIte, p13, p11], hch.trans hc1 (fun _ _ h => h), hb.chg hc1 (fun h => h)⟩
        · obtain rfl := Option.some.inj ho
          have p12 := hpre ⟨12, .data⟩ (by simp) rfl
          have p14 := hpre ⟨14, .data⟩ (by simp) rfl
          clear ho hpre hi hcl
          have ha := run_add_lists (P := Try.prog) (mk ++ (leB 20 2 ++ (m ++ (leB 0 2 ++ (leB 0 2 ++ (leB 0 2 ++ leB 0 2)))))) (k4) (by have h1 := HML.out; have h2 := HKL.out; have h3 := HNL.out; have h4 := HK4.out.1; have h5 := HA4.out.1; simp only [List.length_append, leB_len]; omega) w
          try simp only [List.append_assoc] at ha
          go_wp2_with fail
          unfold AtEnd
          exact ⟨by simp only [more, slot_true, slot_false, Nat.reduceEqDiff, ↓reduceIte, p12, p14], hch, hb⟩
        · obtain rfl := Option.some.inj ho
          clear ho hpre hi hcl
          go_wp2_with fail
          unfold AtEnd
          exact ⟨rfl, hch, hb⟩
        · obtain rfl := Option.some.inj ho
          have p16 := hpre ⟨16, .data⟩ (by simp) rfl
          clear ho hpre hi hcl
          have c1 := hb.cell 5
          simp only [Rec.cells] at c1
          go_wp2_with fail
          unfold AtEnd
          exact ⟨by simp only [more, slot_true, slot_false, Nat.reduceEqDiff, ↓reduceIte, p16], hch, hb⟩
        · obtain rfl := Option.some.inj ho
          have p17 := hpre ⟨17, .data⟩ (by simp) rfl
          have p14 := hpre ⟨14, .chain⟩ (by simp) rfl
          clear ho hpre hi hcl
          go_wp2_with fail
          refine (four_nat r.at_.toNat _ (by have h1 := HOK.out.at_; omega) (by have h1 := HOK.out.at_; omega) _).mono ?_
          rw [← HA4.out.2]
          rintro e w1 ⟨rfl, hc1⟩
          go_wp2_with fail
          unfold AtEnd
          exact ⟨by simp only [more, slot_true, slot_false, Nat.reduceEqDiff, ↓reduceIte, p17, p14], hch.trans hc1 (fun _ _ h => h), hb.chg hc1 (fun h => h)⟩
        · obtain rfl := Option.some.inj ho
          have p15 := hpre ⟨15, .data⟩ (by simp) rfl
          have p18 := hpre ⟨18, .data⟩ (by simp) rfl
          clear ho hpre hi hcl
          have ha := run_add_lists (P := Try.prog) (mk ++ (leB 20 2 ++ (m ++ (leB 0 2 ++ (leB 0 2 ++ (leB 0 2 ++ (leB 0 2 ++ k4))))))) (a4) (by have h1 := HML.out; have h2 := HKL.out; have h3 := HNL.out; have h4 := HK4.out.1; have h5 := HA4.out.1; simp only [List.length_append, leB_len]; omega) w
          try simp only [List.append_assoc] at ha
          go_wp2_with fail
          unfold AtEnd
          exact ⟨by simp only [more, slot_true, slot_false, Nat.reduceEqDiff, ↓reduceIte, p15, p18], hch, hb⟩
        · obtain rfl := Option.some.inj ho
          clear ho hpre hi hcl
          go_wp2_with fail
          unfold AtEnd
          exact ⟨rfl, hch, hb⟩
        · obtain rfl := Option.some.inj ho
          have p20 := hpre ⟨20, .data⟩ (by simp) rfl
          clear ho hpre hi hcl
          have c1 := hb.cell 0
          simp only [Rec.cells] at c1
          go_wp2_with fail
          unfold AtEnd
          exact ⟨by simp only [more, slot_true, slot_false, Nat.reduceEqDiff, ↓reduceIte, p20], hch, hb⟩
        · obtain rfl := Option.some.inj ho
          have p19 := hpre ⟨19, .data⟩ (by simp) rfl
          have p21 := hpre ⟨21, .data⟩ (by simp) rfl
          clear ho hpre hi hcl
          have ha := run_add_lists (P := Try.prog) (mk ++ (leB 20 2 ++ (m ++ (leB 0 2 ++ (leB 0 2 ++ (leB 0 2 ++ (leB 0 2 ++ (k4 ++ a4)))))))) (r.name) (by have h1 := HML.out; have h2 := HKL.out; have h3 := HNL.out; have h4 := HK4.out.1; have h5 := HA4.out.1; simp only [List.length_append, leB_len]; omega) w
          try simp only [List.append_assoc] at ha
          go_wp2_with fail
          unfold AtEnd
          exact ⟨by simp only [more, slot_true, slot_false, Nat.reduceEqDiff, ↓reduceIte, p19, p21], hch, hb⟩
        · obtain rfl := Option.some.inj ho
          have p22 := hpre ⟨22, .data⟩ (by simp) rfl
          have p18 := hpre ⟨18, .chain⟩ (by simp) rfl
          clear ho hpre hi hcl
          go_wp2_with fail
          unfold AtEnd
          exact ⟨by simp only [more, slot_true, slot_false, Nat.reduceEqDiff, ↓reduceIte, p22, p18], hch, hb⟩
        · obtain rfl := Option.some.inj ho
          have p23 := hpre ⟨23, .chain⟩ (by simp) rfl
          clear ho hpre hi hcl
          go_wp2_with fail
          unfold AtEnd
          exact ⟨by simp only [more, slot_true, slot_false, Nat.reduceEqDiff, ↓reduceIte, p23], hch, hb⟩
      · intro D a w hall hI
        obtain ⟨rfl, hch, hb⟩ := hI
        have e23 := hall 23 (by decide)
        have e24 := hall 24 (by decide)
        clear hall
        rw [e23, e24]
        clear e23 e24
        go_wp2_with fail
        go_ret2
        refine ⟨.inl ⟨HOK.out, ?_⟩, HC.out.trans hch (fun _ _ h => h)⟩
        rw [HMK.out, HME.out]
        unfold centralL
        rw [mid_eq, show kindOf r = 16 from HK.out, HK4.out.2, HA4.out.2]
        simp only [slot_true, List.append_assoc, lay, List.flatMap_cons, List.flatMap_nil, List.append_nil]
        rfl
  · have HOK := Lib.hid hok
    clear hok
    go_wp2_with fail
    go_ret2
    exact ⟨.inr ⟨HOK.out, rfl⟩, hcc1⟩
end Go.Proofs.Ytgojdkjneggmjaa
