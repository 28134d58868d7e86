/-
  THE WALK of the reference's body.
-/
import Derived.Test.YtgojdkjneggmjaaRec17
import Derived.Deep.Cut
namespace Go.Proofs.Ytgojdkjneggmjaa
open Go.RowKit FieldM
set_option linter.unusedSimpArgs false
def RBPost (w : World) (x : List UInt8) (long from_ : Nat) (e : Ending) (w' : World) : Prop :=
  e = .returned (.tuple #[.agg (recR x 0 long from_).cells, .int .i64 (recF x 0 long from_)]) ∧ Chg NoB w w'
set_option maxRecDepth 100000 in
set_option maxHeartbeats 8000000 in
theorem body_any (A : Option Addr) (x : List UInt8) (n c : Nat) (from_ long : Nat) (hn : x.length = n) (B : Nat) (w : World) (hr : RB w B A x) (hc : n ≤ c) (hb : n ≤ 140737488355328) (hB : B ≤ w.heap.size) (hf : from_ ≤ 6) (hl : long ≤ 100) :
    Calls Try.prog 46 #[.slice A n c, .int .i64 (from_ : Int), .int .i64 (long : Int)] w (RBPost w x long from_) := by
  have HN := Lib.hid hn
  clear hn
  obtain ⟨r6, hr6⟩ : ∃ r, r = w.heap.size := ⟨_, rfl⟩
  have hb6 : Blk (w.alloc (.cells #[.string ⟨#[]⟩, .int .i64 0, .int .i64 0, .int .i64 0, .int .i64 0, .int .i64 0] 23)) r6 23 #[.string ⟨#[]⟩, .int .i64 0, .int .i64 0, .int .i64 0, .int .i64 0, .int .i64 0] := by rw [hr6]; exact Blk.new w _ _
  have hcc : Chg NoB w (w.alloc (.cells #[.string ⟨#[]⟩, .int .i64 0, .int .i64 0, .int .i64 0, .int .i64 0, .int .i64 0] 23)) := (Chg.refl _ _).alloc _
  have hr := hr.alloc hB (.cells #[.string ⟨#[]⟩, .int .i64 0, .int .i64 0, .int .i64 0, .int .i64 0, .int .i64 0] 23)
  obtain ⟨m, hm⟩ : ∃ m, getL x ((from_ : Int) + 4) 2 = m := ⟨_, rfl⟩
  obtain ⟨v1, hv1⟩ : ∃ m, getL x ((from_ : Int) + 10) 4 = m := ⟨_, rfl⟩
  obtain ⟨v2, hv2⟩ : ∃ m, getL x ((from_ : Int) + 14) 4 = m := ⟨_, rfl⟩
  obtain ⟨v3, hv3⟩ : ∃ m, getL x ((from_ : Int) + 18) 4 = m := ⟨_, rfl⟩
  obtain ⟨nN, hnN⟩ : ∃ k : Nat, getL x ((from_ : Int) + 22) 2 = (k : Int) ∧ k < 256 ^ 2 := getL_lt x _ 2
  obtain ⟨hnv, hnl⟩ := hnN
  have hnl : nN ≤ 65535 := by simp at hnl; omega
  obtain ⟨q, hq⟩ : ∃ q, getL x from_ 2 = q := ⟨_, rfl⟩
  obtain ⟨q2, hq2⟩ : ∃ q, getL x ((from_ : Int) + 2) 2 = q := ⟨_, rfl⟩
  have HOK : Hid (recOk x from_ = ((decide (q ≤ 20) && (q2 == 0)) && ((m == 0) || (m == 8)) && decide (0 < (nN : Int)))) := by
    unfold recOk recN
    rw [hq, hq2, hm, hnv]; exact rfl
  have Hm := Lib.hid hm
  have Hv1 := Lib.hid hv1
  have Hv2 := Lib.hid hv2
  have Hv3 := Lib.hid hv3
  have Hn := Lib.hid hnv
  have Hq := Lib.hid hq
  have Hq2 := Lib.hid hq2
  have HR6 := Lib.hid hr6
  clear hm hv1 hv2 hv3 hnv hq hq2 hB
  go_enter Try.func46, Try.ntmps46
  go_wp2_with fail
  rw [← hr6]
  clear hr6
  refine (rg2_any A x n c _ HN.out B _ hr hc hb).mono ?_
  rw [Hm.out]
  rintro e w1 ⟨rfl, hc1⟩
  have hr := hr.no hc1
  have hb6 := hb6.chg hc1 (fun h => h)
  have hcc := hcc.trans hc1 (fun _ _ h => h)
  clear hc1
  go_wp2_with fail
  refine (rg4_any A x n c _ HN.out B _ hr hc hb).mono ?_
  rw [Hv1.out]
  rintro e w1 ⟨rfl, hc1⟩
  have hr := hr.no hc1
  have hb6 := hb6.chg hc1 (fun h => h)
  have hcc := hcc.trans hc1 (fun _ _ h => h)
  clear hc1
  go_wp2_with fail
  refine (rg4_any A x n c _ HN.out B _ hr hc hb).mono ?_
  rw [Hv2.out]
  rintro e w1 ⟨rfl, hc1⟩
  have hr := hr.no hc1
  have hb6 := hb6.chg hc1 (fun h => h)
  have hcc := hcc.trans hc1 (fun _ _ h => h)
  clear hc1
  go_wp2_with fail
  refine (rg4_any A x n c _ HN.out B _ hr hc hb).mono ?_
  rw [Hv3.out]
  rintro e w1 ⟨rfl, hc1⟩
  have hr := hr.no hc1
  have hb6 := hb6.chg hc1 (fun h => h)
  have hcc := hcc.trans hc1 (fun _ _ h => h)
  clear hc1
  go_wp2_with fail
  obtain ⟨r8, hr8⟩ : ∃ r, r = w1.heap.size := ⟨_, rfl⟩
  obtain ⟨w2, hw2⟩ : ∃ w2, w2 = w1.alloc (.cells #[.string ⟨#[]⟩, .int .i64 m, .int .i64 v1, .int .i64 v2, .int .i64 v3, .int .i64 0] 23) := ⟨_, rfl⟩
  have hb8 : Blk w2 r8 23 #[.string ⟨#[]⟩, .int .i64 m, .int .i64 v1, .int .i64 v2, .int .i64 v3, .int .i64 0] := by rw [hw2, hr8]; exact Blk.new w1 _ _
  have hwc : Chg NoB w1 w2 := by rw [hw2]; exact (Chg.refl _ _).alloc _
  rw [← hw2, ← hr8]
  have HRN := Lib.hid (show r8 ≠ r6 ∧ w.heap.size ≤ r8 from ⟨by have h1 := hb6.lt; omega, by rw [hr8]; exact hcc.size⟩)
  have hr := hr.no hwc
  have hb6 := hb6.chg hwc (fun h => h)
  have hcc := hcc.trans hwc (fun _ _ h => h)
  clear hwc hw2 hr8
  refine (rg2_any A x n c _ HN.out B _ hr hc hb).mono ?_
  rw [Hn.out]
  rintro e w1 ⟨rfl, hc1⟩
  have hr := hr.no hc1
  have hb6 := hb6.chg hc1 (fun h => h)
  have hb8 := hb8.chg hc1 (fun h => h)
  have hcc := hcc.trans hc1 (fun _ _ h => h)
  clear hc1
  have km : w1.cell? ⟨r8, 1, none⟩ = some (.int .i64 m) := hb8.cell 1
  go_wp2_with fail
  refine (rg2_any A x n c _ HN.out B _ hr hc hb).mono ?_
  rw [Hq.out]
  rintro e w1 ⟨rfl, hc1⟩
  have hr := hr.no hc1
  have hb6 := hb6.chg hc1 (fun h => h)
  have hb8 := hb8.chg hc1 (fun h => h)
  have hcc := hcc.trans hc1 (fun _ _ h => h)
  clear hc1
  have km : w1.cell? ⟨r8, 1, none⟩ = some (.int .i64 m) := hb8.cell 1
  by_cases hA : q ≤ 20
  · have hA1 : ¬ 20 < q := by omega
    go_wp2_with fail
    refine (rg2_any A x n c _ HN.out B _ hr hc hb).mono ?_
    rw [Hq2.out]
    rintro e w1 ⟨rfl, hc1⟩
    have hr := hr.no hc1
    have hb6 := hb6.chg hc1 (fun h => h)
    have hb8 := hb8.chg hc1 (fun h => h)
    have hcc := hcc.trans hc1 (fun _ _ h => h)
    clear hc1
    have km : w1.cell? ⟨r8, 1, none⟩ = some (.int .i64 m) := hb8.cell 1
    by_cases hQ : q2 = 0
    · subst hQ
      by_cases hM : m = 0 ∨ m = 8
      · by_cases hN : nN = 0
        · subst hN
          rcases hM with h | h
          · have hm1 : (m != 0) = false := by rw [h]; rfl
            clear h
            go_upto_region 4 with (fail)
            go_wp2_with (refine wpList_store_blk rfl 23 _ _ rfl r6 #[.string ⟨#[]⟩, .int .i64 0, .int .i64 0, .int .i64 0, .int .i64 0, .int .i64 0] rfl rfl 23 _ hb6 rfl rec_info (by simp [Value.oneCell']) ?_)
            have hb10 := hb6.row #[.string ⟨#[]⟩, .int .i64 0, .int .i64 0, .int .i64 0, .int .i64 0, .int .i64 0]
            have k0 := hb10.cell 0
            have k1 := hb10.cell 1
            have k2 := hb10.cell 2
            have k3 := hb10.cell 3
            have k4 := hb10.cell 4
            have k5 := hb10.cell 5
            refine bodyPost_ret (v := .tuple #[.agg #[.string ⟨#[]⟩, .int .i64 0, .int .i64 0, .int .i64 0, .int .i64 0, .int .i64 0], .int .i64 15]) (by simp [results, Try.results46, go_sem, k0, k1, k2, k3, k4, k5]) rfl ?_
            have hok : recOk x from_ = false := by
              rw [HOK.out]
              simp
            have hF : recF x 0 long from_ = 15 := by unfold recF; rw [if_neg (by simp), hok]; rfl
            have hr0 : recR x 0 long from_ = Rec.zero := by unfold recR; rw [if_neg (by rw [hF]; decide)]
            exact ⟨by rw [hF, hr0]; rfl, hcc.setRow (.inr (by have h1 := HR6.out; omega)) _⟩
          · have hm1 : (m != 0) = true := by rw [h]; rfl
            have hm2 : (m != 8) = false := by rw [h]; rfl
            clear h
            go_upto_region 4 with (fail)
            go_wp2_with (refine wpList_store_blk rfl 23 _ _ rfl r6 #[.string ⟨#[]⟩, .int .i64 0, .int .i64 0, .int .i64 0, .int .i64 0, .int .i64 0] rfl rfl 23 _ hb6 rfl rec_info (by simp [Value.oneCell']) ?_)
            have hb10 := hb6.row #[.string ⟨#[]⟩, .int .i64 0, .int .i64 0, .int .i64 0, .int .i64 0, .int .i64 0]
            have k0 := hb10.cell 0
            have k1 := hb10.cell 1
            have k2 := hb10.cell 2
            have k3 := hb10.cell 3
            have k4 := hb10.cell 4
            have k5 := hb10.cell 5
            refine bodyPost_ret (v := .tuple #[.agg #[.string ⟨#[]⟩, .int .i64 0, .int .i64 0, .int .i64 0, .int .i64 0, .int .i64 0], .int .i64 15]) (by simp [results, Try.results46, go_sem, k0, k1, k2, k3, k4, k5]) rfl ?_
            have hok : recOk x from_ = false := by
              rw [HOK.out]
              simp
            have hF : recF x 0 long from_ = 15 := by unfold recF; rw [if_neg (by simp), hok]; rfl
            have hr0 : recR x 0 long from_ = Rec.zero := by unfold recR; rw [if_neg (by rw [hF]; decide)]
            exact ⟨by rw [hF, hr0]; rfl, hcc.setRow (.inr (by have h1 := HR6.out; omega)) _⟩
        · have hN1 : ((nN : Int) == 0) = false := by simpa using hN
          have hN2 : (nN == 0) = false := by simpa using hN
          have HOK2 : Hid (recOk x from_ = true) := by
            have h1 := HOK.out
            have h2 : recOk x from_ = true := by
              rw [h1, decide_eq_true hA, decide_eq_true (show (0 : Int) < nN by omega)]
              rcases hM with rfl | rfl <;> rfl
            exact h2
          by_cases hS : long + nN ≤ n
          · have hS1 : ¬ n < long + nN := by omega
            obtain ⟨A8, c8, hs8, hr8, hc8⟩ := run_slice2 hr n c long nN HN.out hc hS
            obtain ⟨nm, hnm⟩ : ∃ nm, nm = (x.drop long).take nN := ⟨_, rfl⟩
            rw [← hnm] at hr8
            have hl8 : nm.length = nN := by rw [hnm, List.length_take, List.length_drop, HN.out]; omega
            have HNM := Lib.hid (show nm = (x.drop long).take nN from hnm)
            have hs3 := hr8.toStr (n := nN) hl8 c8 Try.underlying24 Try.underlying5 Try.underlying9
            have k0 := hb8.cell 0
            have f0 := hb8.frozen 0
            have hb9 : Blk (w1.setCell ⟨r8, 0, none⟩ (.string ⟨nm.toArray⟩)) r8 23 #[.string ⟨nm.toArray⟩, .int .i64 m, .int .i64 v1, .int .i64 v2, .int .i64 v3, .int .i64 0] := by simpa using hb8.set_ 0 (.string ⟨nm.toArray⟩)
            have hb69 : Blk (w1.setCell ⟨r8, 0, none⟩ (.string ⟨nm.toArray⟩)) r6 23 #[.string ⟨#[]⟩, .int .i64 0, .int .i64 0, .int .i64 0, .int .i64 0, .int .i64 0] := hb6.far (fun e => HRN.out.1 e.symm) _
            have hF : recF x 0 long from_ = 0 := by
              unfold recF
              rw [if_neg (by simp), HOK2.out, show recN x from_ = (nN : Int) from Hn.out, HN.out, decide_eq_true (by omega)]; rfl
            have hR : recR x 0 long from_ = ⟨nm, m, v1, v2, v3, 0⟩ := by
              unfold recR
              rw [if_pos hF, show recN x from_ = (nN : Int) from Hn.out, HNM.out, Hm.out, Hv1.out, Hv2.out, Hv3.out]; simp
            have HF := Lib.hid hF
            have HR := Lib.hid hR
            have HCC := Lib.hid (Chg.setCell (S := NoB) (p := ⟨r8, 0, none⟩) hcc (.inr HRN.out.2) (.string ⟨nm.toArray⟩))
            clear hF hR hnm hl8 hcc hr hr8
            have hmm : ((m != 0) = false) ∨ ((m != 0) = true ∧ (m != 8) = false) := by
              rcases hM with h | h
              · exact .inl (by rw [h]; rfl)
              · exact .inr ⟨by rw [h]; rfl, by rw [h]; rfl⟩
            clear hM
            rcases hmm with hm1 | ⟨hm1, hm2⟩
            all_goals
              go_upto_region 8 with (fail)
              go_wp2_with (first
                | (refine wpList_load_row rfl 23 _ rfl r8 rfl 23 _ (0, 0) _ hb9 Try.underlying23 rfl rec_info ?_)
                | (refine wpList_store_blk rfl 23 _ _ rfl r6 (Rec.mk nm m v1 v2 v3 0).cells rfl rfl 23 _ hb69 rfl rec_info (by simp [Value.oneCell', Rec.cells]) ?_))
              have hb10 := hb69.row (Rec.mk nm m v1 v2 v3 0).cells
              have k0 := hb10.cell 0
              have k1 := hb10.cell 1
              have k2 := hb10.cell 2
              have k3 := hb10.cell 3
              have k4 := hb10.cell 4
              have k5 := hb10.cell 5
              simp only [Rec.cells] at k0 k1 k2 k3 k4 k5
              refine bodyPost_ret (v := .tuple #[.agg (Rec.mk nm m v1 v2 v3 0).cells, .int .i64 0]) (by simp [results, Try.results46, go_sem, k0, k1, k2, k3, k4, k5, Rec.cells]) rfl ?_
              exact ⟨by rw [HF.out, HR.out], HCC.out.setRow (.inr (by have h1 := HR6.out; omega)) _⟩
          · have hS1 : n < long + nN := by omega
            have hmm : ((m != 0) = false) ∨ ((m != 0) = true ∧ (m != 8) = false) := by
              rcases hM with h | h
              · exact .inl (by rw [h]; rfl)
              · exact .inr ⟨by rw [h]; rfl, by rw [h]; rfl⟩
            clear hM
            rcases hmm with hm1 | ⟨hm1, hm2⟩
            all_goals
              go_upto_region 6 with (fail)
              go_wp2_with (refine wpList_store_blk rfl 23 _ _ rfl r6 #[.string ⟨#[]⟩, .int .i64 0, .int .i64 0, .int .i64 0, .int .i64 0, .int .i64 0] rfl rfl 23 _ hb6 rfl rec_info (by simp [Value.oneCell']) ?_)
              have hb10 := hb6.row #[.string ⟨#[]⟩, .int .i64 0, .int .i64 0, .int .i64 0, .int .i64 0, .int .i64 0]
              have k0 := hb10.cell 0
              have k1 := hb10.cell 1
              have k2 := hb10.cell 2
              have k3 := hb10.cell 3
              have k4 := hb10.cell 4
              have k5 := hb10.cell 5
              refine bodyPost_ret (v := .tuple #[.agg #[.string ⟨#[]⟩, .int .i64 0, .int .i64 0, .int .i64 0, .int .i64 0, .int .i64 0], .int .i64 4]) (by simp [results, Try.results46, go_sem, k0, k1, k2, k3, k4, k5]) rfl ?_
              have hF : recF x 0 long from_ = 4 := by
                unfold recF
                rw [if_neg (by simp), HOK2.out, show recN x from_ = (nN : Int) from Hn.out, HN.out, decide_eq_false (by omega)]; rfl
              have hr0 : recR x 0 long from_ = Rec.zero := by unfold recR; rw [if_neg (by rw [hF]; decide)]
              exact ⟨by rw [hF, hr0]; rfl, hcc.setRow (.inr (by have h1 := HR6.out; omega)) _⟩
      · have hM1 : (m != 0) = true := by have h1 : m ≠ 0 := fun e => hM (.inl e); simpa using h1
        have hM2 : (m != 8) = true := by have h1 : m ≠ 8 := fun e => hM (.inr e); simpa using h1
        have HM := Lib.hid hM
        clear hM
        go_upto_region 4 with (fail)
        go_wp2_with (refine wpList_store_blk rfl 23 _ _ rfl r6 #[.string ⟨#[]⟩, .int .i64 0, .int .i64 0, .int .i64 0, .int .i64 0, .int .i64 0] rfl rfl 23 _ hb6 rfl rec_info (by simp [Value.oneCell']) ?_)
        have hb10 := hb6.row #[.string ⟨#[]⟩, .int .i64 0, .int .i64 0, .int .i64 0, .int .i64 0, .int .i64 0]
        have k0 := hb10.cell 0
        have k1 := hb10.cell 1
        have k2 := hb10.cell 2
        have k3 := hb10.cell 3
        have k4 := hb10.cell 4
        have k5 := hb10.cell 5
        refine bodyPost_ret (v := .tuple #[.agg #[.string ⟨#[]⟩, .int .i64 0, .int .i64 0, .int .i64 0, .int .i64 0, .int .i64 0], .int .i64 15]) (by simp [results, Try.results46, go_sem, k0, k1, k2, k3, k4, k5]) rfl ?_
        have hok : recOk x from_ = false := by
          rw [HOK.out]
          have h1 : (m == 0) = false := by simpa using (fun e => HM.out (.inl e) : m ≠ 0)
          have h3 : (m == 8) = false := by simpa using (fun e => HM.out (.inr e) : m ≠ 8)
          rw [h1, h3]; simp
        have hF : recF x 0 long from_ = 15 := by unfold recF; rw [if_neg (by simp), hok]; rfl
        have hr0 : recR x 0 long from_ = Rec.zero := by unfold recR; rw [if_neg (by rw [hF]; decide)]
        exact ⟨by rw [hF, hr0]; rfl, hcc.setRow (.inr (by have h1 := HR6.out; omega)) _⟩
    · have hQ1 : (q2 != 0) = true := by simpa using hQ
      have HQ := Lib.hid hQ
      clear hQ
      go_upto_region 4 with (fail)
      go_wp2_with (refine wpList_store_blk rfl 23 _ _ rfl r6 #[.string ⟨#[]⟩, .int .i64 0, .int .i64 0, .int .i64 0, .int .i64 0, .int .i64 0] rfl rfl 23 _ hb6 rfl rec_info (by simp [Value.oneCell']) ?_)
      have hb10 := hb6.row #[.string ⟨#[]⟩, .int .i64 0, .int .i64 0, .int .i64 0, .int .i64 0, .int .i64 0]
      have k0 := hb10.cell 0
      have k1 := hb10.cell 1
      have k2 := hb10.cell 2
      have k3 := hb10.cell 3
      have k4 := hb10.cell 4
      have k5 := hb10.cell 5
      refine bodyPost_ret (v := .tuple #[.agg #[.string ⟨#[]⟩, .int .i64 0, .int .i64 0, .int .i64 0, .int .i64 0, .int .i64 0], .int .i64 15]) (by simp [results, Try.results46, go_sem, k0, k1, k2, k3, k4, k5]) rfl ?_
      have hok : recOk x from_ = false := by
        rw [HOK.out]
        have h1 : (q2 == 0) = false := by simpa using (HQ.out : ¬ q2 = 0)
        rw [h1]; simp
      have hF : recF x 0 long from_ = 15 := by unfold recF; rw [if_neg (by simp), hok]; rfl
      have hr0 : recR x 0 long from_ = Rec.zero := by unfold recR; rw [if_neg (by rw [hF]; decide)]
      exact ⟨by rw [hF, hr0]; rfl, hcc.setRow (.inr (by have h1 := HR6.out; omega)) _⟩
  · have hA1 : 20 < q := by omega
    go_upto_region 4 with (fail)
    go_wp2_with (refine wpList_store_blk rfl 23 _ _ rfl r6 #[.string ⟨#[]⟩, .int .i64 0, .int .i64 0, .int .i64 0, .int .i64 0, .int .i64 0] rfl rfl 23 _ hb6 rfl rec_info (by simp [Value.oneCell']) ?_)
    have hb10 := hb6.row #[.string ⟨#[]⟩, .int .i64 0, .int .i64 0, .int .i64 0, .int .i64 0, .int .i64 0]
    have k0 := hb10.cell 0
    have k1 := hb10.cell 1
    have k2 := hb10.cell 2
    have k3 := hb10.cell 3
    have k4 := hb10.cell 4
    have k5 := hb10.cell 5
    refine bodyPost_ret (v := .tuple #[.agg #[.string ⟨#[]⟩, .int .i64 0, .int .i64 0, .int .i64 0, .int .i64 0, .int .i64 0], .int .i64 15]) (by simp [results, Try.results46, go_sem, k0, k1, k2, k3, k4, k5]) rfl ?_
    have hok : recOk x from_ = false := by
      rw [HOK.out]
      rw [decide_eq_false (show ¬ q ≤ 20 by omega)]; simp
    have hF : recF x 0 long from_ = 15 := by unfold recF; rw [if_neg (by simp), hok]; rfl
    have hr0 : recR x 0 long from_ = Rec.zero := by unfold recR; rw [if_neg (by rw [hF]; decide)]
    exact ⟨by rw [hF, hr0]; rfl, hcc.setRow (.inr (by have h1 := HR6.out; omega)) _⟩
end Go.Proofs.Ytgojdkjneggmjaa
