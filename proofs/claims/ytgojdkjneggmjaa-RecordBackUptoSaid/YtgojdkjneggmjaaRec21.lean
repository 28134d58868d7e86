/-
  THE WALK of the reference's ReadEnd.
-/
import Derived.Test.YtgojdkjneggmjaaRec20
namespace Go.Proofs.Ytgojdkjneggmjaa
open Go.RowKit FieldM
set_option linter.unusedSimpArgs false
section
variable {l : List UInt8} {p : Int}
theorem readEF_err (h : cutErr l.length p 22 ≠ 0) : readEF l p = cutErr l.length p 22 := by
  have h1 : lookF l p [80, 75, 5, 6] 22 = cutErr l.length p 22 := by unfold lookF; rw [if_neg h]
  unfold readEF askF
  rw [h1, noneF_ne _ _ h, if_neg (fun e => h e.1)]
theorem readEF_bad (h : cutErr l.length p 22 = 0) (hb : (lookX l p 22).take 4 ≠ [80, 75, 5, 6] ∨ allZ (lookX l p 22) [4, 6, 20] = false ∨ (getL (lookX l p 22) 8 2 == getL (lookX l p 22) 10 2) = false) : readEF l p = 15 := by
  have hx : lookX l p 22 = l.drop p.toNat := by unfold lookX; rw [if_pos h]
  unfold readEF
  by_cases hm : (lookX l p 22).take 4 = [80, 75, 5, 6]
  · have h1 : lookF l p [80, 75, 5, 6] 22 = 0 := by unfold lookF; rw [if_pos h, ← hx, if_pos hm]
    rw [h1]
    cases hz : allZ (lookX l p 22) [4, 6, 20]
    · rw [noneF_bad hz]; rfl
    · rw [noneF_ok hz]
      rcases hb with hb | hb | hb
      · exact absurd hm hb
      · rw [hz] at hb; cases hb
      · rw [hb]; rfl
  · have h1 : lookF l p [80, 75, 5, 6] 22 = 15 := by unfold lookF; rw [if_pos h, ← hx, if_neg hm]
    rw [h1, noneF_ne _ _ (by decide)]; rfl
theorem readEF_ok (h : cutErr l.length p 22 = 0) (hm : (lookX l p 22).take 4 = [80, 75, 5, 6]) (hz : allZ (lookX l p 22) [4, 6, 20] = true) (he : (getL (lookX l p 22) 8 2 == getL (lookX l p 22) 10 2) = true) : readEF l p = 0 := by
  have hx : lookX l p 22 = l.drop p.toNat := by unfold lookX; rw [if_pos h]
  have h1 : lookF l p [80, 75, 5, 6] 22 = 0 := by unfold lookF; rw [if_pos h, ← hx, if_pos hm]
  unfold readEF
  rw [h1, noneF_ok hz, he]; rfl
end
set_option maxRecDepth 100000 in
set_option maxHeartbeats 8000000 in
theorem rreadend_any (A : Option Addr) (l : List UInt8) (n c : Nat) (p : Int) (hn : l.length = n) (B : Nat) (w : World) (hr : RB w B A l) (hc : n ≤ c) (hb : n ≤ 140737488355328) (hB : B ≤ w.heap.size) :
    Calls Try.prog 21 #[.slice A n c, .int .i64 p] w (REPost w l p) := by
  have HN := Lib.hid hn
  clear hn
  have hcc : Chg NoB w w := Chg.refl _ _
  go_enter Try.func21, Try.ntmps21
  go_wp2_with fail
  refine (begin_lit A l n c p 22 22 rfl HN.out B _ hr hc hb (by decide)).mono ?_
  rintro e w1 ⟨⟨A1, c1, rfl, hr1, hc1⟩, rfl⟩
  clear hr
  obtain ⟨x, hx⟩ : ∃ x, x = lookX l p 22 := ⟨_, rfl⟩
  obtain ⟨nn, hnn⟩ : ∃ nn, nn = x.length := ⟨_, rfl⟩
  rw [← hx] at hr1 hc1 ⊢
  rw [← hnn] at hc1 ⊢
  have HX := Lib.hid hx
  have HNN := Lib.hid hnn
  clear hx hnn
  by_cases hE : cutErr l.length p 22 = 0
  · rw [hE]
    have HE := Lib.hid hE
    have hcz := cutErr_zero hE
    rw [HN.out] at hcz
    have hnn2 : nn + p.toNat = n := by
      rw [HNN.out, HX.out]; unfold lookX; rw [if_pos HE.out, List.length_drop, HN.out]; omega
    have hp1 : 0 ≤ p := hcz.1
    have hp2 : p + 22 ≤ n := hcz.2.2
    have h30 : 22 ≤ nn := by omega
    have hnb : nn ≤ 140737488355328 := by omega
    obtain ⟨tk, htk⟩ : ∃ tk, tk = x.take 4 := ⟨_, rfl⟩
    have htl : tk.length = 4 := by rw [htk, List.length_take, ← HNN.out]; omega
    have hr4' := hr1.take 4
    rw [← htk] at hr4'
    have hs3 := hr4'.toStr (n := 4) htl c1 Try.underlying24 Try.underlying5 Try.underlying9
    have HTK := Lib.hid htk
    clear hE hcz hnn2 htk htl hr4'
    by_cases hM : tk = [80, 75, 5, 6]
    · have hm1 : (tk != [80, 75, 5, 6]) = false := by rw [hM]; rfl
      have hm2 : (tk == [80, 75, 5, 6]) = true := by rw [hM]; rfl
      have HM := Lib.hid hM
      clear hM
      go_wp2_with fail
      have hs5 := Blk.new w1 3 #[.int .i64 4, .int .i64 6, .int .i64 20]
      refine (zero_any A1 x nn c1 [4, 6, 20] 3 w1.heap.size HNN.out.symm rfl (by decide) B _ (hr1.alloc hB _) hc1 hnb hs5).mono ?_
      rintro e w2 ⟨rfl, hcw⟩
      have hcw2 : Chg NoB w1 w2 := ((Chg.refl NoB w1).alloc _).trans hcw (fun _ _ h => h)
      have hr1 := hr1.no hcw2
      have hcc := hcc.trans hcw2 (fun _ _ h => h)
      clear hs5 hcw hcw2 hs3
      cases hZ : allZ x [4, 6, 20]
      · have HZ := Lib.hid hZ
        clear hZ
        go_wp2_with fail
        refine bodyPost_ret (v := .tuple #[.int .i64 0, .int .i64 0, .int .i64 0, .int .i64 15]) (by simp [results, Try.results21, go_sem]) rfl ?_
        have hF : readEF l p = 15 := readEF_bad HE.out (.inr (.inl (by have h1 := HZ.out; rw [HX.out] at h1; exact h1)))
        refine ⟨?_, hcc⟩
        unfold readE
        rw [hF, if_neg (by decide), if_neg (by decide), if_neg (by decide)]
      · have HZ := Lib.hid hZ
        clear hZ
        obtain ⟨a8, ha8⟩ : ∃ v, getL x 8 2 = v := ⟨_, rfl⟩
        obtain ⟨a10, ha10⟩ : ∃ v, getL x 10 2 = v := ⟨_, rfl⟩
        obtain ⟨b12, hb12⟩ : ∃ v, getL x 12 4 = v := ⟨_, rfl⟩
        obtain ⟨b16, hb16⟩ : ∃ v, getL x 16 4 = v := ⟨_, rfl⟩
        have Ha8 := Lib.hid ha8
        have Ha10 := Lib.hid ha10
        have Hb12 := Lib.hid hb12
        have Hb16 := Lib.hid hb16
        clear ha8 ha10 hb12 hb16
        go_wp2_with fail
        refine (rg2_any A1 x nn c1 8 HNN.out.symm B _ hr1 hc1 hnb).mono ?_
        rw [Ha8.out]
        rintro e w3 ⟨rfl, hc3⟩
        have hr1 := hr1.no hc3
        have hcc := hcc.trans hc3 (fun _ _ h => h)
        clear hc3
        go_wp2_with fail
        refine (rg2_any A1 x nn c1 10 HNN.out.symm B _ hr1 hc1 hnb).mono ?_
        rw [Ha10.out]
        rintro e w3 ⟨rfl, hc3⟩
        have hr1 := hr1.no hc3
        have hcc := hcc.trans hc3 (fun _ _ h => h)
        clear hc3
        by_cases hq : a8 = a10
        · subst hq
          go_wp2_with fail
          refine (rg2_any A1 x nn c1 8 HNN.out.symm B _ hr1 hc1 hnb).mono ?_
          rw [Ha8.out]
          rintro e w3 ⟨rfl, hc3⟩
          have hr1 := hr1.no hc3
          have hcc := hcc.trans hc3 (fun _ _ h => h)
          clear hc3
          go_wp2_with fail
          refine (rg4_any A1 x nn c1 12 HNN.out.symm B _ hr1 hc1 hnb).mono ?_
          rw [Hb12.out]
          rintro e w3 ⟨rfl, hc3⟩
          have hr1 := hr1.no hc3
          have hcc := hcc.trans hc3 (fun _ _ h => h)
          clear hc3
          go_wp2_with fail
          refine (rg4_any A1 x nn c1 16 HNN.out.symm B _ hr1 hc1 hnb).mono ?_
          rw [Hb16.out]
          rintro e w3 ⟨rfl, hc3⟩
          have hr1 := hr1.no hc3
          have hcc := hcc.trans hc3 (fun _ _ h => h)
          clear hc3
          go_wp2_with fail
          refine bodyPost_ret (v := .tuple #[.int .i64 a8, .int .i64 b12, .int .i64 b16, .int .i64 0]) (by simp [results, Try.results21, go_sem]) rfl ?_
          have hF : readEF l p = 0 := readEF_ok HE.out (by have h1 := HM.out; rw [HTK.out, HX.out] at h1; exact h1) (by have h1 := HZ.out; rw [HX.out] at h1; exact h1) (by rw [← HX.out, Ha8.out, Ha10.out]; simp)
          refine ⟨?_, hcc⟩
          unfold readE
          rw [hF, if_pos rfl, if_pos rfl, if_pos rfl, ← HX.out, Ha8.out, Hb12.out, Hb16.out]
        · have hq1 : (a8 != a10) = true := by simpa using hq
          have hq2 : (a8 == a10) = false := by simpa using hq
          have HQ := Lib.hid hq2
          clear hq
          go_wp2_with fail
          refine bodyPost_ret (v := .tuple #[.int .i64 0, .int .i64 0, .int .i64 0, .int .i64 15]) (by simp [results, Try.results21, go_sem]) rfl ?_
          have hF : readEF l p = 15 := readEF_bad HE.out (.inr (.inr (by rw [← HX.out, Ha8.out, Ha10.out]; exact HQ.out)))
          refine ⟨?_, hcc⟩
          unfold readE
          rw [hF, if_neg (by decide), if_neg (by decide), if_neg (by decide)]
    · have hm1 : (tk != [80, 75, 5, 6]) = true := by simpa using hM
      have hm2 : (tk == [80, 75, 5, 6]) = false := by simpa using hM
      have HM := Lib.hid hM
      clear hM
      go_wp2_with fail
      refine bodyPost_ret (v := .tuple #[.int .i64 0, .int .i64 0, .int .i64 0, .int .i64 15]) (by simp [results, Try.results21, go_sem]) rfl ?_
      have hF : readEF l p = 15 := readEF_bad HE.out (.inl (by have h1 := HM.out; rw [HTK.out, HX.out] at h1; exact h1))
      refine ⟨?_, hcc⟩
      unfold readE
      rw [hF, if_neg (by decide), if_neg (by decide), if_neg (by decide)]
  · have hE1 : (cutErr l.length p 22 != 0) = true := by simpa using hE
    have hE2 : (cutErr l.length p 22 == 0) = false := by simpa using hE
    have HE := Lib.hid hE
    clear hE
    go_wp2_with fail
    refine bodyPost_ret (v := .tuple #[.int .i64 0, .int .i64 0, .int .i64 0, .int .i64 (cutErr l.length p 22)]) (by simp [results, Try.results21, go_sem]) rfl ?_
    have hF : readEF l p = (cutErr l.length p 22) := readEF_err HE.out
    refine ⟨?_, hcc⟩
    unfold readE
    rw [hF, if_neg HE.out, if_neg HE.out, if_neg HE.out]
end Go.Proofs.Ytgojdkjneggmjaa
