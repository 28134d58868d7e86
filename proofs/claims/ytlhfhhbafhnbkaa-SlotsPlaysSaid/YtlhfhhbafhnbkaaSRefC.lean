/-
  THE REFERENCE'S Load (ref12).
-/
import Derived.Test.YtlhfhhbafhnbkaaSRefB
import Derived.Test.YtlhfhhbafhnbkaaSlt10
import Derived.Test.YtlhfhhbafhnbkaaSltM
namespace Go.Proofs.Ytlhfhhbafhnbkaa
open Go.RowKit FieldM CrcM
set_option linter.unusedSimpArgs false
set_option linter.unusedVariables false
theorem rres4 {fn : Func} {t u v x : Tmp} (h : fn.results = #[.tmp t, .tmp u, .tmp v, .tmp x]) (tmps : Array Value) (P : Program) (w : World) :
    (results fn tmps).run P w = .ok (.tuple #[tmps.getD t undef, tmps.getD u undef, tmps.getD v undef, tmps.getD x undef]) w := by
  simp [results, h, go_sem]
/-- what a header with a right sum of its bytes says -/
theorem good_iff {K : Dk} {b : List UInt8} (hb : b = contentL K.now (ldFrom K) (fld (K.now 0) 2)) (hbl : b.length = fld (K.now 0) 2) (h1 : fld (K.now 0) 1 ≤ 1) (h2 : (fld (K.now 0) 2 : Int) ≤ roomZ K.n) :
    ldGood K ↔ K.now 0 = hdr (fld (K.now 0) 0) (fld (K.now 0) 1) b.length (crcN b) := by
  unfold ldGood hdOk
  rw [← hb, hbl]
  constructor
  · rintro ⟨g1, _, _, g4⟩
    rw [g4]; exact (eq_of_beq g1).symm
  · intro h
    have hf := fld_hdr (a0 := fld (K.now 0) 0) (a1 := fld (K.now 0) 1) (a2 := fld (K.now 0) 2) (a3 := crcN b) (fld_lt _) (fld_lt _) (fld_lt _) (crcN_lt _)
    have h3 : fld (K.now 0) 3 = crcN b := by
      have := hf.2.2.2
      rw [← h] at this; exact this
    refine ⟨?_, h1, h2, h3.symm⟩
    rw [h3, ← h]; exact beq_self_eq_true _
def RLoadPost (K : Dk) (w : World) (e : Ending) (w' : World) : Prop := e = .returned (.tuple #[strV (ldB K), .int .i64 (ldH K 0 : Int), .int .i64 (ldH K 1 : Int), .int .i64 (ldE K)]) ∧ Chg NoB w w'
theorem RLoadPost.bad {K : Dk} {w w' : World} {e : Ending} (er : Int) (h : ldE K = er) (h0 : er ≠ 0) (he : e = .returned (.tuple #[.string ⟨#[]⟩, .int .i64 0, .int .i64 0, .int .i64 er])) (hc : Chg NoB w w') : RLoadPost K w e w' := by
  refine ⟨?_, hc⟩
  have h1 : ¬ ldE K = 0 := by rw [h]; exact h0
  rw [he, show ldB K = [] from if_neg h1, show ldH K 0 = 0 from if_neg h1, show ldH K 1 = 0 from if_neg h1, h]
  rfl
set_option maxRecDepth 100000 in
set_option maxHeartbeats 8000000 in
theorem rload_any {s p : Value} (K : Dk) (n m : Nat) (w : World) (hR : RK w s p K n) (hk : KOk K m) (hm : m ≤ 1000) :
    Calls Try.prog 19 #[rkV s p K] w (RLoadPost K w) := by
  have hlen := Dk.now_len hk
  obtain ⟨A1, c1, rfl⟩ := own_slice hR.sure
  obtain ⟨A2, c2, rfl⟩ := own_slice hR.loose
  have HR := Lib.hid hR
  have HKO := Lib.hid hk
  have HM := Lib.hid hm
  have HK := Lib.hid (show K.loose.length ≤ 1000 ∧ settle K.sure K.loose = K.now from ⟨Nat.le_trans hk.loose hm, hk.now⟩)
  have HL := Lib.hid hlen
  have hn0 := hR.n0
  have hn1 := hR.n1
  have HNN := Lib.hid hR.num
  obtain ⟨fu, hfu⟩ : ∃ fu, fu = K.fuse := ⟨_, rfl⟩
  obtain ⟨dk, hdk⟩ : ∃ dk, dk = K.dark := ⟨_, rfl⟩
  have HDK := Lib.hid hdk
  have HKV := Lib.hid (show Value.agg #[.slice A1 n c1, .slice A2 K.loose.length c2, .int .i64 fu, .bool dk] = rkV (.slice A1 n c1) (.slice A2 K.loose.length c2) K from by rw [hfu, hdk]; rfl)
  rw [← HKV.out]
  obtain ⟨nl, hnl⟩ : ∃ nl, nl = K.loose.length := ⟨_, rfl⟩
  rw [← hnl] at HR HKV ⊢
  obtain ⟨w1, hw1⟩ : ∃ w1, w1 = w.alloc (.cells #[.slice A1 n c1, .slice A2 nl c2, .int .i64 fu, .bool dk] 34) := ⟨_, rfl⟩
  have HC1 := Lib.hid (show Chg NoB w w1 from by rw [hw1]; exact (Chg.refl _ _).alloc _)
  have HB1 := Lib.hid (show Blk w1 w.heap.size 34 #[.slice A1 n c1, .slice A2 nl c2, .int .i64 fu, .bool dk] from by rw [hw1]; exact Blk.new w _ _)
  obtain ⟨bx, hbx⟩ : ∃ bx, bx = w.heap.size := ⟨_, rfl⟩
  rw [← hbx] at HB1
  have k0 := HB1.out.cell 0
  clear hR hk hm hlen hfu hdk hnl
  go_enter Try.func19, Try.ntmps19
  go_upto_region 1 with fail
  rw [← hw1, ← hbx]
  clear hw1 hbx
  by_cases h3 : n < 3
  · have h3i : (n : Int) < 3 := by omega
    go_wp2_with fail
    refine bodyPost_ret (rres4 rfl _ _ _) rfl ?_
    exact RLoadPost.bad 7 (by unfold ldE; rw [if_pos (by rw [HNN.out]; exact h3i)]) (by decide) rfl HC1.out
  have h3i : ¬ (n : Int) < 3 := by omega
  have H3 := Lib.hid (show 3 ≤ K.n from by rw [HNN.out]; omega)
  go_wp2_with (first
    | (refine wpList_load_row rfl 34 _ rfl bx rfl 34 _ (0, 0) _ HB1.out Try.underlying34 rfl rd_size ?_)
    | fail)
  have hrk := rread_K K n _ (HR.out.no HC1.out) HK.out.1 HK.out.2 0
  rw [← HKV.out] at hrk
  refine hrk.mono ?_
  clear hrk
  cases dk with
  | true =>
    rw [show readE K 0 = 6 from by unfold readE; rw [if_neg (by rw [HNN.out]; omega), if_pos HDK.out.symm], if_neg (by decide)]
    rintro e w2 ⟨rfl, hc2⟩
    have HC2 := Lib.hid (HC1.out.trans hc2 (fun _ _ h => h))
    clear hc2
    unfold strV
    go_wp2_with fail
    refine bodyPost_ret (rres4 rfl _ _ _) rfl ?_
    exact RLoadPost.bad 6 (by unfold ldE; rw [if_neg (by have := H3.out; omega), if_pos HDK.out.symm]) (by decide) rfl HC2.out
  | false =>
    rw [show readE K 0 = 0 from by unfold readE; rw [if_neg (by rw [HNN.out]; omega), if_neg (by rw [← HDK.out]; decide)], if_pos rfl]
    rintro e w2 ⟨rfl, hc2⟩
    have HC2 := Lib.hid hc2
    have HB2 := Lib.hid (HB1.out.chg hc2 (fun h => h))
    clear hc2 k0
    obtain ⟨h, hh⟩ : ∃ h, h = K.now 0 := ⟨_, rfl⟩
    rw [← hh]
    have hhl : h.length = 512 := by rw [hh]; exact HL.out _
    have HH := Lib.hid hh
    have HHL := Lib.hid hhl
    obtain ⟨f0, hf0⟩ : ∃ f0, f0 = fld h 0 := ⟨_, rfl⟩
    obtain ⟨f1, hf1⟩ : ∃ f1, f1 = fld h 1 := ⟨_, rfl⟩
    obtain ⟨f2, hf2⟩ : ∃ f2, f2 = fld h 2 := ⟨_, rfl⟩
    have HF := Lib.hid (show f0 = fld h 0 ∧ f1 = fld h 1 ∧ f2 = fld h 2 from ⟨hf0, hf1, hf2⟩)
    have hl0 : f0 < 4294967296 := by rw [hf0]; exact fld_lt _
    have hl1 : f1 < 4294967296 := by rw [hf1]; exact fld_lt _
    have hl2 : f2 < 4294967296 := by rw [hf2]; exact fld_lt _
    have HFL := Lib.hid (And.intro hl0 (And.intro hl1 hl2))
    have g0 := getL_fld hhl 0 (by decide)
    have g1 := getL_fld hhl 1 (by decide)
    have g2 := getL_fld hhl 2 (by decide)
    rw [← hf0] at g0
    rw [← hf1] at g1
    rw [← hf2] at g2
    have G0 : Hid (getL h 4 4 = (f0 : Int) ∧ cutErr (512 : Nat) 4 4 = 0) := g0
    have G1 : Hid (getL h 8 4 = (f1 : Int) ∧ cutErr (512 : Nat) 8 4 = 0) := g1
    have G2 : Hid (getL h 12 4 = (f2 : Int) ∧ cutErr (512 : Nat) 12 4 = 0) := g2
    clear hh hf0 hf1 hf2 g0 g1 g2
    unfold strV
    -- gen
    obtain ⟨ca, w3, hcv, hr3, hca, hch3, _, _⟩ := str_rb w2 h
    rw [hhl] at hcv hca
    clear hhl
    have HC3 := Lib.hid (HC2.out.trans hch3 (fun _ _ h => h))
    have HR3 := Lib.hid hr3
    have HCA := Lib.hid hca
    clear hr3 hch3 hca
    go_wp2_with fail
    refine (rget4_any _ h 512 ca 4 HHL.out _ w3 HR3.out HCA.out (by decide)).mono ?_
    rw [G0.out.1, G0.out.2]
    rintro e w4 ⟨rfl, hc4⟩
    have HC4 := Lib.hid (HC3.out.trans hc4 (fun _ _ h => h))
    clear hc4 hcv
    obtain ⟨cb, w5, hcv, hr5, hcb, hch5, _, _⟩ := str_rb w4 h
    rw [HHL.out] at hcv hcb
    have HC5 := Lib.hid (HC4.out.trans hch5 (fun _ _ h => h))
    have HR5 := Lib.hid hr5
    have HCB := Lib.hid hcb
    clear hr5 hch5 hcb
    go_wp2_with fail
    refine (rget4_any _ h 512 cb 8 HHL.out _ w5 HR5.out HCB.out (by decide)).mono ?_
    rw [G1.out.1, G1.out.2]
    rintro e w6 ⟨rfl, hc6⟩
    have HC6 := Lib.hid (HC5.out.trans hc6 (fun _ _ h => h))
    clear hc6 hcv
    obtain ⟨cc, w7, hcv, hr7, hcc, hch7, _, _⟩ := str_rb w6 h
    rw [HHL.out] at hcv hcc
    have HC7 := Lib.hid (HC6.out.trans hch7 (fun _ _ h => h))
    have HR7 := Lib.hid hr7
    have HCC := Lib.hid hcc
    clear hr7 hch7 hcc
    go_wp2_with fail
    refine (rget4_any _ h 512 cc 12 HHL.out _ w7 HR7.out HCC.out (by decide)).mono ?_
    rw [G2.out.1, G2.out.2]
    rintro e w8 ⟨rfl, hc8⟩
    have HC8 := Lib.hid (HC7.out.trans hc8 (fun _ _ h => h))
    clear hc8 hcv
    have HB8 := Lib.hid (HB1.out.chg HC8.out (fun h => h))
    have k0 := HB8.out.cell 0
    -- which
    by_cases hw : 1 < f1
    · have hwi : (1 : Int) < (f1 : Int) := by omega
      go_wp2_with fail
      refine bodyPost_ret (rres4 rfl _ _ _) rfl ?_
      exact RLoadPost.bad 15 (by unfold ldE; rw [if_neg (by have := H3.out; omega), if_neg (by rw [← HDK.out]; decide), if_neg (fun hg => by have h1 := hg.2.1; rw [← HH.out, ← HF.out.2.1] at h1; omega)]) (by decide) rfl (HC1.out.trans HC8.out (fun _ _ h => h))
    have hwi : (f1 : Int) ≤ 1 := by omega
    have HW := Lib.hid (show f1 ≤ 1 from by omega)
    clear hw
    obtain ⟨rz, hrz⟩ : ∃ rz, rz = roomZ (n : Int) := ⟨_, rfl⟩
    have HRZ := Lib.hid (show rz = roomZ K.n from by rw [hrz, HNN.out])
    by_cases hz : rz < (f2 : Int)
    · go_wp2_with fail
      refine (rroom_any (n : Int) (by omega) (by omega) _).mono ?_
      rw [← hrz]
      rintro e w9 ⟨rfl, rfl⟩
      clear hrz
      go_wp2_with fail
      refine bodyPost_ret (rres4 rfl _ _ _) rfl ?_
      exact RLoadPost.bad 15 (by unfold ldE; rw [if_neg (by have := H3.out; omega), if_neg (by rw [← HDK.out]; decide), if_neg (fun hg => by have h1 := hg.2.2.1; rw [← HH.out, ← HF.out.2.2, ← HRZ.out] at h1; omega)]) (by decide) rfl (HC1.out.trans HC8.out (fun _ _ h => h))
    have hz2 : (f2 : Int) ≤ rz := by omega
    have HZ := Lib.hid hz2
    clear hz
    go_wp2_with fail
    refine (rroom_any (n : Int) (by omega) (by omega) _).mono ?_
    rw [← hrz]
    rintro e w9 ⟨rfl, rfl⟩
    clear hrz
    go_wp2_with (first
      | (refine wpList_load_row rfl 34 _ rfl bx rfl 34 _ (0, 0) _ HB8.out Try.underlying34 rfl rd_size ?_)
      | fail)
    have hrs := rslot_any K n m _ (HR.out.no (HC1.out.trans HC8.out (fun _ _ h => h))) HKO.out HM.out HDK.out.symm f1 f2 HW.out (by rw [← HRZ.out]; exact HZ.out)
    rw [← HKV.out] at hrs
    refine hrs.mono ?_
    clear hrs
    obtain ⟨b, hb⟩ : ∃ b, b = contentL K.now (1 + (f1 : Int) * halfZ K.n) f2 := ⟨_, rfl⟩
    rw [← hb]
    have HBE := Lib.hid (show b = contentL K.now (ldFrom K) (fld (K.now 0) 2) ∧ b.length = f2 from ⟨by rw [hb, HF.out.2.2, HF.out.2.1, HH.out]; rfl, by rw [hb]; exact contentL_len HL.out _ _⟩)
    clear hb
    rintro e w10 ⟨rfl, hc10⟩
    have HC10 := Lib.hid (HC8.out.trans hc10 (fun _ _ h => h))
    clear hc10 k0
    unfold strV
    go_wp2_with fail
    refine (rheader_any f0 f1 b HFL.out.1 HFL.out.2.1 (by rw [HBE.out.2]; exact HFL.out.2.2) _).mono ?_
    obtain ⟨H, hHe⟩ : ∃ H, H = hdr f0 f1 b.length (crcN b) := ⟨_, rfl⟩
    rw [← hHe]
    have hgi := good_iff (K := K) HBE.out.1 (by rw [HBE.out.2, HF.out.2.2, HH.out]) (by rw [← HH.out, ← HF.out.2.1]; exact HW.out) (by rw [← HH.out, ← HF.out.2.2, ← HRZ.out]; exact HZ.out)
    rw [← HH.out, ← HF.out.1, ← HF.out.2.1, ← hHe] at hgi
    have HGI := Lib.hid hgi
    rintro e w11 ⟨rfl, hc11⟩
    have HC11 := Lib.hid (HC10.out.trans hc11 (fun _ _ h => h))
    clear hc11 hHe hgi
    by_cases hq : h = H
    · have hg : ldE K = 0 := by unfold ldE; rw [if_neg (by have := H3.out; omega), if_neg (by rw [← HDK.out]; decide), if_pos (HGI.out.2 hq)]
      have HG := Lib.hid hg
      subst hq
      clear hg
      go_wp2_with fail
      refine bodyPost_ret (rres4 rfl _ _ _) rfl ⟨?_, HC1.out.trans HC11.out (fun _ _ h => h)⟩
      rw [show ldB K = b from by unfold ldB; rw [if_pos HG.out]; exact HBE.out.1.symm, show ldH K 0 = f0 from by unfold ldH; rw [if_pos HG.out, HF.out.1, HH.out], show ldH K 1 = f1 from by unfold ldH; rw [if_pos HG.out, HF.out.2.1, HH.out], HG.out]
      rfl
    · obtain ⟨ax, hax⟩ : ∃ ax, ax = h.toArray := ⟨_, rfl⟩
      obtain ⟨ab, hab⟩ : ∃ ab, ab = H.toArray := ⟨_, rfl⟩
      have hne : (ByteArray.toList ⟨ax⟩ == ByteArray.toList ⟨ab⟩) = false := by
        rw [ByteArray.toList_eq, ByteArray.toList_eq, beq_eq_false_iff_ne]
        intro e
        refine hq ?_
        have := Array.toList_inj.1 e
        rw [hax, hab] at this
        exact Array.mk.inj this
      have HG := Lib.hid (show ldE K = 15 from by unfold ldE; rw [if_neg (by have := H3.out; omega), if_neg (by rw [← HDK.out]; decide), if_neg (fun hg => hq (HGI.out.1 hg))])
      rw [← hax, ← hab]
      clear hax hab hq
      go_wp2_with fail
      refine bodyPost_ret (rres4 rfl _ _ _) rfl ?_
      exact RLoadPost.bad 15 HG.out (by decide) rfl (HC1.out.trans HC11.out (fun _ _ h => h))
end Go.Proofs.Ytlhfhhbafhnbkaa
