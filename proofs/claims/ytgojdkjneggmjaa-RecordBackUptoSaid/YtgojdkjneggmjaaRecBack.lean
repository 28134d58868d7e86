/-
  THE LAW RecordBack, walked.
-/
import Derived.Test.YtgojdkjneggmjaaRecBackMath2
import Derived.Test.YtgojdkjneggmjaaRecReads
import Derived.Test.YtgojdkjneggmjaaRecLays
import Derived.Deep.Cut
namespace Go.Proofs.Ytgojdkjneggmjaa
open Go.RowKit FieldM
set_option linter.unusedSimpArgs false
theorem RB.chgA {S : Nat → Prop} {w w' : World} {B : Nat} {A : Option Addr} {l : List UInt8} (h : RB w B A l) (hc : Chg S w w') (hS : ∀ ad, A = some ad → ¬ S ad.block) : RB w' B A l := by
  refine ⟨h.1, fun hn => ?_⟩
  obtain ⟨ad, hA, hb, hcell⟩ := h.2 hn
  refine ⟨ad, hA, hb, fun j u hu => ?_⟩
  have h1 := hcell j u hu
  have hlt := block_lt_of_cell h1
  rw [block_of_add] at hlt
  rw [World.cell?_of_block (w := w) (by rw [block_of_add]; exact hc.block _ hlt (hS _ hA))]
  exact h1
set_option maxRecDepth 100000 in
set_option maxHeartbeats 8000000 in
theorem recordBack_walk (a0 : Option Addr) (len0 cap0 : Nat) (z0 : List Int) (r : Rec) (a2 : Option Addr) (len2 cap2 : Nat) (z2 : List Int) (W : World) (h0 : IsRow .u8 W a0 len0 cap0 z0) (h2 : IsRow .u8 W a2 len2 cap2 z2) (hsum : len0 + len2 ≤ 100000000) :
    Calls Try.prog 8 #[.slice a0 len0 cap0, .agg r.cells, .slice a2 len2 cap2] W fun e W' => e = .returned (.bool true) ∧ Below W.heap.size W W' := by
  obtain ⟨l, hl, _, hr, _⟩ := h0.rb
  obtain ⟨m, hm, _, hrm, _⟩ := h2.rb
  have HN := Lib.hid hl.symm
  have HM := Lib.hid hm.symm
  have HSZ := Lib.hid (show len0 ≤ 100000000 ∧ len2 ≤ 100000000 from ⟨by omega, by omega⟩)
  clear h0 h2 hl hm hsum
  obtain ⟨w0, hw0⟩ : ∃ w0, w0 = W.alloc (.cells r.cells 23) := ⟨_, rfl⟩
  obtain ⟨b1, hb1⟩ : ∃ b, b = W.heap.size := ⟨_, rfl⟩
  have hbx : Blk w0 b1 23 r.cells := by rw [hw0, hb1]; exact Blk.new W _ _
  have hcc0 : Chg NoB W w0 := by rw [hw0]; exact (Chg.refl _ _).alloc _
  go_enter Try.func8, Try.ntmps8
  go_upto_region 1 with (fail)
  rw [← hw0, ← hb1]
  have HB0 := Lib.hid (show W.heap.size ≤ b1 from Nat.le_of_eq hb1.symm)
  clear hw0 hb1
  go_wp2_with (first | (refine wpList_load_row rfl 23 _ rfl b1 rfl 23 _ (0, 0) _ hbx Try.underlying23 rfl rec_info ?_) | fail)
  refine (local_any r _).mono ?_
  rintro e w1 ⟨hcase, hc1⟩
  rcases hcase with ⟨hok, v1, rfl, ho1⟩ | ⟨hok, rfl⟩
  rotate_left
  · have HOK := Lib.hid hok
    clear hok
    have hbx := hbx.chg hc1 (fun h => h)
    have hcc1 := hcc0.trans hc1 (fun _ _ h => h)
    go_wp2_with (first | (refine wpList_load_row rfl 23 _ rfl b1 rfl 23 _ (0, 0) _ hbx Try.underlying23 rfl rec_info ?_) | fail)
    refine (central_any r _).mono ?_
    rintro e w2 ⟨hcase, hc2⟩
    rcases hcase with ⟨h, _⟩ | ⟨_, rfl⟩
    · exact absurd h HOK.out
    have hcc2 := hcc1.trans hc2 (fun _ _ h => h)
    go_wp2_with ((refine (lives_any _).mono ?_); rintro e w3 ⟨rfl, hc3⟩)
    go_ret
    exact ⟨rfl, (hcc2.trans hc3 (fun _ _ h => h)).no⟩
  have HOK := Lib.hid hok
  have HMATH := Lib.hid (show (∃ k, (localL r).length = k + 1) ∧ (∃ k, (centralL r).length = k + 1) ∧ (localL r).length ≤ 70000 ∧ (centralL r).length ≤ 70000 from ⟨⟨_, by rw [local_len]; exact Nat.add_comm 30 _ |>.trans rfl⟩, ⟨_, by rw [central_len]; exact Nat.add_comm 46 _ |>.trans rfl⟩, by rw [local_len]; have := hok.name2; omega, by rw [central_len]; have := hok.name2; omega⟩)
  clear hok
  obtain ⟨A1, n1, c1, rfl, hn1, hr1, hnc1, hA1⟩ := ho1.val
  have HA1 := Lib.hid (show ∀ ad, A1 = some ad → ad.block ≠ b1 from fun ad e => by have h1 := (hA1 ad e).2.2; have h2 := hbx.lt; omega)
  clear ho1 hA1
  have hbx := hbx.chg hc1 (fun h => h)
  have hcc1 := hcc0.trans hc1 (fun _ _ h => h)
  go_wp2_with (first | (refine wpList_load_row rfl 23 _ rfl b1 rfl 23 _ (0, 0) _ hbx Try.underlying23 rfl rec_info ?_) | fail)
  refine (central_any r _).mono ?_
  rintro e w2 ⟨hcase, hc2⟩
  rcases hcase with ⟨_, v2, rfl, ho2⟩ | ⟨h, _⟩
  rotate_left
  · exact absurd HOK.out h
  obtain ⟨A2, n2, c2, rfl, hn2, hr2, hnc2, hA2⟩ := ho2.val
  have HA2 := Lib.hid (show ∀ ad, A2 = some ad → ad.block ≠ b1 from fun ad e => by have h1 := (hA2 ad e).2.2; have h2 := hbx.lt; omega)
  clear ho2 hA2
  have hr1 := hr1.no hc2
  have hbx := hbx.chg hc2 (fun h => h)
  have hcc2 := hcc1.trans hc2 (fun _ _ h => h)
  have hr := hr.no hcc2
  have hrm := hrm.no hcc2
  have HS := Lib.hid (show w1.heap.size ≤ w2.heap.size ∧ W.heap.size ≤ w2.heap.size from ⟨hc2.size, hcc2.size⟩)
  clear hcc0 hcc1 hc1 hc2
  obtain ⟨L1, hL1⟩ : ∃ L, L = localL r := ⟨_, rfl⟩
  obtain ⟨L2, hL2⟩ : ∃ L, L = centralL r := ⟨_, rfl⟩
  rw [← hL1] at hr1 hn1 HMATH
  rw [← hL2] at hr2 hn2 HMATH
  have HL := Lib.hid (show L1 = localL r ∧ L2 = centralL r from ⟨hL1, hL2⟩)
  clear hL1 hL2
  obtain ⟨m1, hm1⟩ := HMATH.out.1
  obtain ⟨m2, hm2⟩ := HMATH.out.2.1
  have HE1 := Lib.hid (show n1 = m1 + 1 by rw [← hn1, hm1])
  have HE2 := Lib.hid (show n2 = m2 + 1 by rw [← hn2, hm2])
  have HN1 := Lib.hid hn1
  have HN2 := Lib.hid hn2
  clear hn1 hn2 hm1 hm2
  go_wp2_with fail
  all_goals first | (exfalso; have h1 := HE1.out; have h2 := HE2.out; omega) | (rename_i hq; exfalso; simp at hq; have h1 := HE1.out; have h2 := HE2.out; omega) | skip
  rename_i hq1 hq2 hq3 hq4 hq5 hq6
  clear hq1 hq2

  refine (own_any a0 l len0 cap0 HN.out _ w2 hr (by have := HSZ.out.1; omega)).mono ?_
  rintro e x1a ⟨⟨v3a, rfl, ho3a⟩, hc3a⟩
  have HS3a := Lib.hid hc3a.size
  go_wp2_with (first
    | (at_builtin; refine wpList_appendB rfl (.tmp 68) (.tmp 69) rfl w2.heap.size v3a l rfl ho3a _ A1 n1 c1 L1 HN1.out rfl (hr1.no hc3a) (by have h1 := HN.out; have h2 := HSZ.out; have h3 := HMATH.out; omega) HS3a.out ?_; intro v4a x2a ho4a hg4a _; have hc4a : Chg NoB w2 x2a := hc3a.own ho3a hg4a (Nat.le_refl _); clear ho3a hg4a hc3a)
    | (at_builtin; refine wpList_appendB rfl (.tmp 70) (.tmp 71) rfl w2.heap.size v4a (l ++ L1) rfl ho4a _ a2 len2 cap2 m HM.out rfl (hrm.no hc4a) (by rw [List.length_append]; have h1 := HN.out; have h2 := HSZ.out; have h3 := HMATH.out; have h4 := HM.out; omega) hc4a.size ?_; intro v5a x3a ho5a hg5a _; have hc5a : Chg NoB w2 x3a := hc4a.own ho4a hg5a (Nat.le_refl _); obtain ⟨A5a, n5a, c5a, rfl, hn5a, hrr5a, hmc5a, _⟩ := ho5a.val; have HN5a := Lib.hid hn5a; clear ho4a hg5a hc4a ho5a hn5a)
    | fail)

  have hXa := local_read HOK.out l m
  rw [← HL.out.1, HN.out, ← List.append_assoc] at hXa
  refine (readlocal_any A5a _ n5a c5a (len0 : Int) HN5a.out _ x3a hrr5a hmc5a (by rw [← HN5a.out, List.length_append, List.length_append]; have h1 := HN.out; have h2 := HSZ.out; have h3 := HMATH.out; have h4 := HM.out; omega) (Nat.le_refl _)).mono ?_
  rintro e x4a ⟨rfl, hc6a⟩
  rw [show readR (l ++ L1 ++ m) (len0 : Int) [80, 75, 3, 4] 30 4 [28] = _ from hXa.2, show readF (l ++ L1 ++ m) (len0 : Int) [80, 75, 3, 4] 30 4 [28] = 0 from hXa.1, if_pos rfl]
  have hpa : (len0 : Int) + 30 + (({ r with at_ := 0 } : Rec).name.length : Int) = (len0 : Int) + (n1 : Int) := by have h1 := HN1.out; rw [HL.out.1, local_len] at h1; show (len0 : Int) + 30 + (r.name.length : Int) = _; omega
  rw [hpa]
  obtain ⟨ra, hra⟩ : ∃ q, q = ({ r with at_ := 0 } : Rec) := ⟨_, rfl⟩
  rw [← hra]
  have HRA := Lib.hid hra
  have hca := hc5a.trans hc6a (fun _ _ h => h)
  clear hXa hpa hra hc5a hc6a hrr5a
  obtain ⟨hxa, hya⟩ := box_rec x4a ra
  go_wp2_with (first
    | (refine wpList_store_blk rfl 23 _ _ rfl x4a.heap.size ra.cells rfl rfl 23 _ (Blk.new x4a _ _) rfl rec_info (by simp [Value.oneCell', Rec.cells]) ?_)
    | fail)
  obtain ⟨ya, hwa⟩ : ∃ w, w = (x4a.alloc (.cells #[.string ⟨#[]⟩, .int .i64 0, .int .i64 0, .int .i64 0, .int .i64 0, .int .i64 0] 23)).setRow x4a.heap.size ra.cells := ⟨_, rfl⟩
  obtain ⟨ga, hba⟩ : ∃ b, b = x4a.heap.size := ⟨_, rfl⟩
  rw [← hwa, ← hba] at hxa
  rw [← hwa] at hya
  rw [← hwa, ← hba]

  have HGA := Lib.hid (show ¬ ga = b1 from fun e => by have h1 := hbx.lt; have h2 := hca.size; rw [hba] at e; omega)
  have hca := hca.trans hya (fun _ _ h => h)
  have hbx := hbx.chg hca (fun h => h)
  have hr1 := hr1.no hca
  have hr2 := hr2.no hca
  have hr := hr.no hca
  have hrm := hrm.no hca
  have hcc3 := hcc2.trans hca (fun _ _ h => h)
  have HSA := Lib.hid hca.size
  clear hca hya hwa hba hcc2
  go_wp2_with fail
  refine (own_any a0 l len0 cap0 HN.out _ ya hr (by have := HSZ.out.1; omega)).mono ?_
  rintro e x1c ⟨⟨v3c, rfl, ho3c⟩, hc3c⟩
  have HS3c := Lib.hid hc3c.size
  go_wp2_with (first
    | (at_builtin; refine wpList_appendB rfl (.tmp 81) (.tmp 82) rfl ya.heap.size v3c l rfl ho3c _ A2 n2 c2 L2 HN2.out rfl (hr2.no hc3c) (by have h1 := HN.out; have h2 := HSZ.out; have h3 := HMATH.out; omega) HS3c.out ?_; intro v4c x2c ho4c hg4c _; have hc4c : Chg NoB ya x2c := hc3c.own ho3c hg4c (Nat.le_refl _); clear ho3c hg4c hc3c)
    | (at_builtin; refine wpList_appendB rfl (.tmp 83) (.tmp 84) rfl ya.heap.size v4c (l ++ L2) rfl ho4c _ a2 len2 cap2 m HM.out rfl (hrm.no hc4c) (by rw [List.length_append]; have h1 := HN.out; have h2 := HSZ.out; have h3 := HMATH.out; have h4 := HM.out; omega) hc4c.size ?_; intro v5c x3c ho5c hg5c _; have hc5c : Chg NoB ya x3c := hc4c.own ho4c hg5c (Nat.le_refl _); obtain ⟨A5c, n5c, c5c, rfl, hn5c, hrr5c, hmc5c, _⟩ := ho5c.val; have HN5c := Lib.hid hn5c; clear ho4c hg5c hc4c ho5c hn5c)
    | fail)

  have hXc := central_read HOK.out l m
  rw [← HL.out.2, HN.out, ← List.append_assoc] at hXc
  refine (readcentral_any A5c _ n5c c5c (len0 : Int) HN5c.out _ x3c hrr5c hmc5c (by rw [← HN5c.out, List.length_append, List.length_append]; have h1 := HN.out; have h2 := HSZ.out; have h3 := HMATH.out; have h4 := HM.out; omega) (Nat.le_refl _)).mono ?_
  rintro e x4c ⟨rfl, hc6c⟩
  rw [show readC (l ++ L2 ++ m) (len0 : Int) = r from hXc.2, show readF (l ++ L2 ++ m) (len0 : Int) [80, 75, 1, 2] 46 6 [30, 32, 34] = 0 from hXc.1, if_pos rfl]
  have hpc : (len0 : Int) + 46 + (r.name.length : Int) = (len0 : Int) + (n2 : Int) := by have h1 := HN2.out; rw [HL.out.2, central_len] at h1; omega
  rw [hpc]
  have hcc := hc5c.trans hc6c (fun _ _ h => h)
  clear hXc hpc hc5c hc6c hrr5c
  obtain ⟨hxc, hyc⟩ := box_rec x4c r
  go_upto_region 9 with (first
    | (refine wpList_store_blk rfl 23 _ _ rfl x4c.heap.size r.cells rfl rfl 23 _ (Blk.new x4c _ _) rfl rec_info (by simp [Value.oneCell', Rec.cells]) ?_)
    | fail)
  obtain ⟨yc, hwc⟩ : ∃ w, w = (x4c.alloc (.cells #[.string ⟨#[]⟩, .int .i64 0, .int .i64 0, .int .i64 0, .int .i64 0, .int .i64 0] 23)).setRow x4c.heap.size r.cells := ⟨_, rfl⟩
  obtain ⟨gc, hbc⟩ : ∃ b, b = x4c.heap.size := ⟨_, rfl⟩
  rw [← hwc, ← hbc] at hxc
  rw [← hwc] at hyc
  rw [← hwc, ← hbc]

  have hcc := hcc.trans hyc (fun _ _ h => h)
  have hbx := hbx.chg hcc (fun h => h)
  have hxa := hxa.chg hcc (fun h => h)
  have hr1 := hr1.no hcc
  have hr2 := hr2.no hcc
  have hcc4 := hcc3.trans hcc (fun _ _ h => h)
  have HSC := Lib.hid hcc.size
  clear hcc hyc hwc hbc hcc3 hr hrm
  have HR1 := Lib.hid hr1
  have HR2 := Lib.hid hr2
  have HC4 := Lib.hid hcc4
  have HXA := Lib.hid hxa
  clear hr1 hr2 hcc4 hxa
  obtain ⟨nm, me, su, pk, sz, at1⟩ := r
  have hrq : ra = ⟨nm, me, su, pk, sz, 0⟩ := HRA.out
  subst hrq
  have HBX := Lib.hid hbx
  clear hbx
  have HNC := Lib.hid (show n1 ≤ c1 ∧ n2 ≤ c2 from ⟨hnc1, hnc2⟩)
  clear hnc1 hnc2 hmc5a hmc5c
  have hq1 := HBX.out
  simp only [Rec.cells] at hq1 hxc
  have c10 := hq1.cell 0
  have c11 := hq1.cell 1
  have c12 := hq1.cell 2
  have c13 := hq1.cell 3
  have c14 := hq1.cell 4
  have c15 := hq1.cell 5
  have c30 := hxc.cell 0
  have c31 := hxc.cell 1
  have c32 := hxc.cell 2
  have c33 := hxc.cell 3
  have c34 := hxc.cell 4
  have c35 := hxc.cell 5
  clear hq1 hxc
  have hq2 : RowKit.wrap64 ((len0 : Int) + (n1 : Int)) = (len0 : Int) + (n1 : Int) := IntWalk.wrap64_in _ (by have h1 := HSZ.out; have h2 := HMATH.out; have h3 := HN1.out; omega)
  have hq3 : RowKit.wrap64 ((len0 : Int) + (n2 : Int)) = (len0 : Int) + (n2 : Int) := IntWalk.wrap64_in _ (by have h1 := HSZ.out; have h2 := HMATH.out; have h3 := HN2.out; omega)
  go_upto_region 11 with (fail)
  clear c30 c31 c32 c33 c34 c35 hq2 hq3
  have fr5 := HBX.out.frozen 5
  go_upto_region 12 with (fail)
  obtain ⟨yd, hyd⟩ : ∃ w, w = yc.setCell ⟨b1, 5, none⟩ (.int .i64 0) := ⟨_, rfl⟩
  have hbd : Blk yd b1 23 #[.string ⟨nm.toArray⟩, .int .i64 me, .int .i64 su, .int .i64 pk, .int .i64 sz, .int .i64 0] := by rw [hyd]; exact HBX.out.set_ 5 _
  have hcd : Chg (fun i => i = b1) yc yd := by rw [hyd]; exact Chg.setCell (S := fun i => i = b1) (p := ⟨b1, 5, none⟩) (Chg.refl _ _) (.inl rfl) _
  have hC4 : Chg NoB W yd := by rw [hyd]; exact Chg.setCell (p := ⟨b1, 5, none⟩) HC4.out (.inr HB0.out) _
  rw [← hyd]
  clear fr5 hyd c10 c11 c12 c13 c14 c15
  have hr1 := (HR1.out.chgA hcd HA1.out).take m1
  have hr2 := (HR2.out.chgA hcd HA2.out).take m2
  have hxd : Blk yd ga 23 _ := HXA.out.chg hcd HGA.out
  simp only [Rec.cells] at hxd
  have HSD := Lib.hid hcd.size
  clear hcd
  have HC5 := Lib.hid hC4
  clear hC4
  have c10 := hbd.cell 0
  have c11 := hbd.cell 1
  have c12 := hbd.cell 2
  have c13 := hbd.cell 3
  have c14 := hbd.cell 4
  have c15 := hbd.cell 5
  have c30 := hxd.cell 0
  have c31 := hxd.cell 1
  have c32 := hxd.cell 2
  have c33 := hxd.cell 3
  have c34 := hxd.cell 4
  have c35 := hxd.cell 5
  clear hbd hxd
  go_upto_region 14 with (fail)
  clear c10 c11 c12 c13 c14 c15 c30 c31 c32 c33 c34 c35
  have hq4 : RowKit.wrap64 ((n1 : Int) - 1) = (m1 : Int) := by rw [IntWalk.wrap64_in _ (by have h1 := HMATH.out; have h2 := HN1.out; omega)]; have h3 := HE1.out; omega
  have hq5 : RowKit.wrap64 ((n2 : Int) - 1) = (m2 : Int) := by rw [IntWalk.wrap64_in _ (by have h1 := HMATH.out; have h2 := HN2.out; omega)]; have h3 := HE2.out; omega
  have hm1 : m1 ≤ c1 := by have h1 := HE1.out; have h2 := HNC.out; omega
  have hm2 : m2 ≤ c2 := by have h1 := HE2.out; have h2 := HNC.out; omega
  go_wp2_with fail
  refine (readlocal_any A1 (L1.take m1) m1 c1 0 (by rw [List.length_take]; have h1 := HE1.out; have h2 := HN1.out; omega) _ yd hr1 hm1 (by have h1 := HMATH.out; have h2 := HN1.out; have h3 := HE1.out; omega) (Nat.le_trans HS.out.1 (Nat.le_trans HSA.out (Nat.le_trans HSC.out HSD.out)))).mono ?_
  rintro e x5 ⟨rfl, hc5⟩
  obtain ⟨r5, hr5⟩ : ∃ q, q = readR (L1.take m1) 0 [80, 75, 3, 4] 30 4 [28] := ⟨_, rfl⟩
  obtain ⟨p5, hp5⟩ : ∃ q, q = (if readF (L1.take m1) 0 [80, 75, 3, 4] 30 4 [28] = 0 then 0 + 30 + ((readR (L1.take m1) 0 [80, 75, 3, 4] 30 4 [28]).name.length : Int) else 0) := ⟨_, rfl⟩
  rw [← hp5, ← hr5, show readF (L1.take m1) 0 [80, 75, 3, 4] 30 4 [28] = 4 by rw [HL.out.1]; exact local_short HOK.out m1 (by rw [← HL.out.1, HN1.out, HE1.out])]
  clear hp5 hr5 hq4

  obtain ⟨hxe, hye⟩ := box_rec x5 r5
  go_wp2_with (first
    | (refine wpList_store_blk rfl 23 _ _ rfl x5.heap.size r5.cells rfl rfl 23 _ (Blk.new x5 _ _) rfl rec_info (by simp [Value.oneCell', Rec.cells]) ?_)
    | fail)
  obtain ⟨ye, hwe⟩ : ∃ w, w = (x5.alloc (.cells #[.string ⟨#[]⟩, .int .i64 0, .int .i64 0, .int .i64 0, .int .i64 0, .int .i64 0] 23)).setRow x5.heap.size r5.cells := ⟨_, rfl⟩
  obtain ⟨ge, hbe⟩ : ∃ b, b = x5.heap.size := ⟨_, rfl⟩
  rw [← hwe, ← hbe] at hxe
  rw [← hwe] at hye
  rw [← hwe, ← hbe]

  have hce := hc5.trans hye (fun _ _ h => h)
  have hr2 := hr2.no hce
  have HCE := Lib.hid hce
  clear hc5 hye hwe hbe hce hxe hr1
  refine (readcentral_any A2 (L2.take m2) m2 c2 0 (by rw [List.length_take]; have h1 := HE2.out; have h2 := HN2.out; omega) _ ye hr2 hm2 (by have h1 := HMATH.out; have h2 := HN2.out; have h3 := HE2.out; omega) (Nat.le_trans HSA.out (Nat.le_trans HSC.out (Nat.le_trans HSD.out HCE.out.size)))).mono ?_
  rintro e x6 ⟨rfl, hc6⟩
  obtain ⟨r6, hr6⟩ : ∃ q, q = readC (L2.take m2) 0 := ⟨_, rfl⟩
  obtain ⟨p6, hp6⟩ : ∃ q, q = (if readF (L2.take m2) 0 [80, 75, 1, 2] 46 6 [30, 32, 34] = 0 then 0 + 46 + ((readC (L2.take m2) 0).name.length : Int) else 0) := ⟨_, rfl⟩
  rw [← hp6, ← hr6, show readF (L2.take m2) 0 [80, 75, 1, 2] 46 6 [30, 32, 34] = 4 by rw [HL.out.2]; exact central_short HOK.out m2 (by rw [← HL.out.2, HN2.out, HE2.out])]
  clear hp6 hr6 hq5

  obtain ⟨hxf, hyf⟩ := box_rec x6 r6
  go_upto_region 16 with (first
    | (refine wpList_store_blk rfl 23 _ _ rfl x6.heap.size r6.cells rfl rfl 23 _ (Blk.new x6 _ _) rfl rec_info (by simp [Value.oneCell', Rec.cells]) ?_)
    | fail)
  obtain ⟨yf, hwf⟩ : ∃ w, w = (x6.alloc (.cells #[.string ⟨#[]⟩, .int .i64 0, .int .i64 0, .int .i64 0, .int .i64 0, .int .i64 0] 23)).setRow x6.heap.size r6.cells := ⟨_, rfl⟩
  obtain ⟨gf, hbf⟩ : ∃ b, b = x6.heap.size := ⟨_, rfl⟩
  rw [← hwf, ← hbf] at hxf
  rw [← hwf] at hyf
  rw [← hwf, ← hbf]

  have hcf := (HC5.out.trans HCE.out (fun _ _ h => h)).trans (hc6.trans hyf (fun _ _ h => h)) (fun _ _ h => h)
  clear hc6 hyf hwf hbf hxf hr2
  go_wp2_with ((refine (lives_any _).mono ?_); rintro e w7 ⟨rfl, hc7⟩)
  go_ret
  exact ⟨rfl, (hcf.trans hc7 (fun _ _ h => h)).no⟩

end Go.Proofs.Ytgojdkjneggmjaa
