/-
  SLOTS: the walk of SlotsPlays.
-/
import Derived.Test.YtlhfhhbafhnbkaaSPly
import Derived.Deep.Cut
import Derived.Deep.CutRange
import Derived.StillTailTactics
import Derived.Deep.QuietTactic
import Derived.BigQuiet
namespace Go.Proofs.Ytlhfhhbafhnbkaa
open Go.RowKit FieldM CrcM
set_option linter.unusedSimpArgs false
set_option linter.unusedVariables false
theorem act_size : (Try.prog.info? 68).map (·.size) = some 6 := by kernel_rfl
set_option maxRecDepth 100000 in
set_option maxHeartbeats 16000000 in
theorem slotsPlays_walk (nI : Int) (A : Option Addr) (k c : Nat) (l : List ActV) (W : World) (hw : (Lit.int .i64 nI).wf = true) (hA : Acts W W.heap.size A k l) :
    Calls Try.prog 9 #[.int .i64 nI, .slice A k c] W fun e W' => e = .returned (.bool true) ∧ Below W.heap.size W W' := by
  have HA := Lib.hid hA
  clear hA hw
  by_cases hn1 : nI < 1
  · go_enter Try.func9, Try.ntmps9
    go_wp2_with fail
    refine (slives_any W).mono ?_
    rintro e w1 ⟨rfl, hc1⟩
    go_wp2_with fail
    go_ret
    exact ⟨rfl, hc1.no⟩
  by_cases hn2 : 24 < nI
  · go_enter Try.func9, Try.ntmps9
    go_wp2_with fail
    refine (slives_any W).mono ?_
    rintro e w1 ⟨rfl, hc1⟩
    go_wp2_with fail
    go_ret
    exact ⟨rfl, hc1.no⟩
  obtain ⟨n, rfl⟩ : ∃ n : Nat, nI = (n : Int) := ⟨nI.toNat, by omega⟩
  have HN := Lib.hid (show 1 ≤ n ∧ n ≤ 24 from by omega)
  go_enter Try.func9, Try.ntmps9
  go_wp2_with fail
  refine (few_any A k c l W HA.out).mono ?_
  rintro e w0 ⟨bf, rfl, hfew, hww⟩
  obtain rfl : W = w0 := hww.symm
  clear hww
  cases bf with
  | false =>
    clear hfew
    go_wp2_with fail
    refine (slives_any W).mono ?_
    rintro e w1 ⟨rfl, hc1⟩
    go_wp2_with fail
    go_ret
    exact ⟨rfl, hc1.no⟩
  | true =>
    have HFEW := Lib.hid (hfew rfl)
    clear hfew hn1 hn2
    go_wp2_with fail
    refine (DI.new_ (n : Int) W (by have := HN.out; omega) (by have := HN.out; omega)).mono ?_
    rintro e w1 ⟨g, F1, rfl, hD1, hc1⟩
    have HD1 := Lib.hid hD1
    have HC1 := Lib.hid hc1
    clear hD1 hc1
    go_wp2_with fail
    refine (rnew_ok n w1 HN.out.1 (by have := HN.out; omega)).mono ?_
    rintro e w2 ⟨s2, p2, rfl, hr2, hrow2, hc2⟩
    obtain ⟨K2, hK2⟩ : ∃ K2, K2 = Dk.new (n : Int) := ⟨_, rfl⟩
    rw [← hK2] at hr2 ⊢
    obtain ⟨A2, c2, rfl⟩ := own_slice hr2.sure
    obtain ⟨A3, c3, hp3⟩ := own_slice hr2.loose
    obtain ⟨nl, hnl⟩ : ∃ nl, nl = K2.loose.length := ⟨_, rfl⟩
    rw [← hnl] at hp3
    subst hp3
    obtain ⟨fu, hfu⟩ : ∃ fu, fu = K2.fuse := ⟨_, rfl⟩
    obtain ⟨dk, hdk⟩ : ∃ dk, dk = K2.dark := ⟨_, rfl⟩
    have HRK2 := Lib.hid (show rdC (.slice A2 n c2) (.slice A3 nl c3) K2.fuse K2.dark = #[.slice A2 n c2, .slice A3 nl c3, .int .i64 fu, .bool dk] from by rw [hfu, hdk]; rfl)
    rw [show rkV (.slice A2 n c2) (.slice A3 nl c3) K2 = .agg #[.slice A2 n c2, .slice A3 nl c3, .int .i64 fu, .bool dk] from by rw [hfu, hdk]; rfl]
    have HBK2 := Lib.hid (show BK W.heap.size w2 g F1 (.slice A2 n c2) (.slice A3 nl c3) K2 n 0 from ⟨by rw [hK2]; exact HD1.out.no hc2, hr2, fun b hb hf => by have h1 := hrow2 b hb; have h2 := (HD1.out.rng b hf).2; omega, by rw [hK2]; exact KOk.new_ _ 0⟩)
    have HC2 := Lib.hid (HC1.out.trans hc2 (fun _ _ h => h))
    clear hr2 hrow2 hc2 hK2 hnl hfu hdk
    go_upto_region 5 with (first
      | (refine wpList_store_blk rfl 34 _ _ rfl w2.heap.size _ rfl rfl 34 _ (Blk.new w2 _ _) rfl rd_size (by simp [Value.oneCell']) ?_)
      | fail)
    have hbm := (Blk.new w2 34 #[.slice none 0 0, .slice none 0 0, .int .i64 0, .bool false]).row #[.slice A2 n c2, .slice A3 nl c3, .int .i64 fu, .bool dk]
    have hc3 : Chg NoB w2 ((w2.alloc (.cells #[.slice none 0 0, .slice none 0 0, .int .i64 0, .bool false] 34)).setRow w2.heap.size #[.slice A2 n c2, .slice A3 nl c3, .int .i64 fu, .bool dk]) := ((Chg.refl NoB w2).alloc _).setRow (.inr (Nat.le_refl _)) _
    generalize hw3 : (w2.alloc (.cells #[.slice none 0 0, .slice none 0 0, .int .i64 0, .bool false] 34)).setRow w2.heap.size #[.slice A2 n c2, .slice A3 nl c3, .int .i64 fu, .bool dk] = w3 at hbm hc3 ⊢
    obtain ⟨bm, hbme⟩ : ∃ bm, bm = w2.heap.size := ⟨_, rfl⟩
    rw [← hbme] at hbm ⊢
    have HBMO := Lib.hid (show W.heap.size ≤ bm from by rw [hbme]; exact HC2.out.size)
    have HJ3 := Lib.hid (show JB W w3 g bm n 0 F1 (.slice A2 n c2) (.slice A3 nl c3) K2 from ⟨HBK2.out.no hc3, by rw [HRK2.out]; exact hbm, fun h => by have := (HBK2.out.di.rng bm h).2; omega, fun h => by have := HBK2.out.rk.lt bm h; omega, HC2.out.trans hc3 (fun _ _ h => h)⟩)
    clear hw3 hbm hc3 hbme HBK2 HD1
    go_wp2_with fail
    go_loopw [9] (fun i wr => ∃ (q : Nat), q ≤ k ∧ i = .int .i64 (q : Int) ∧ RowKit.Hid (JS W wr g bm n (60 * q))) (fun i _ => k - (intOf i).toNat)
    case atStart => exact ⟨0, Nat.zero_le _, rfl, Lib.hid ⟨F1, _, _, K2, HJ3.out⟩⟩
    case round =>
      obtain ⟨q, hq, rfl, HJS⟩ := hrel
      obtain ⟨F, s, p, K, hj⟩ := HJS.out
      have HJ := Lib.hid hj
      have HC := Lib.hid hj.chg
      clear hj HJS
      by_cases hlt : q < k
      · have hltI : (q : Int) < (k : Int) := by omega
        have HLT := Lib.hid hlt
        obtain ⟨ad, x, rfl, hadb, hxj, hat, hok⟩ := (HA.out.no HC.out (Nat.le_refl _)).at_ hlt
        have HXB := Lib.hid (HFEW.out.2 x (List.mem_of_getElem? hxj))
        obtain ⟨xk, xa, xn, xc, xl, xi, xg, xb, ka, kn, kc, ks⟩ := x
        have HOK := Lib.hid hok
        have c0 := hat.c0
        have c1' := hat.c1
        have c2' := hat.c2
        have c3' := hat.c3
        have c4' := hat.c4
        have c5' := hat.c5
        dsimp only at c0 c1' c2' c3' c4' c5'
        clear hat hok hadb hxj hlt hq
        have HQ12 := Lib.hid (show q < 12 from by have h1 := HLT.out; have h2 := HFEW.out.1; omega)
        go_upto_region 11 with (first
          | (refine wpList_store_blk rfl 68 _ _ rfl wr.heap.size _ rfl rfl 68 _ (Blk.new wr _ _) rfl act_size (by simp [Value.oneCell']) ?_)
          | fail)
        have hat := (Blk.new wr 68 #[.int .i64 0, .slice none 0 0, .int .i64 0, .int .i64 0, .int .u8 0, .slice none 0 0]).row #[.int .i64 xk, .slice xa xn xc, .int .i64 xi, .int .i64 xg, .int .u8 (xb.toNat : Int), .slice ka kn kc]
        have hca : Chg NoB wr ((wr.alloc (.cells #[.int .i64 0, .slice none 0 0, .int .i64 0, .int .i64 0, .int .u8 0, .slice none 0 0] 68)).setRow wr.heap.size #[.int .i64 xk, .slice xa xn xc, .int .i64 xi, .int .i64 xg, .int .u8 (xb.toNat : Int), .slice ka kn kc]) := ((Chg.refl NoB wr).alloc _).setRow (.inr (Nat.le_refl _)) _
        generalize hwa : (wr.alloc (.cells #[.int .i64 0, .slice none 0 0, .int .i64 0, .int .i64 0, .int .u8 0, .slice none 0 0] 68)).setRow wr.heap.size #[.int .i64 xk, .slice xa xn xc, .int .i64 xi, .int .i64 xg, .int .u8 (xb.toNat : Int), .slice ka kn kc] = wa at hat hca ⊢
        obtain ⟨bt, hbt⟩ : ∃ bt, bt = wr.heap.size := ⟨_, rfl⟩
        rw [← hbt] at hat ⊢
        obtain ⟨A1, c1, rfl⟩ := own_slice HJ.out.bk.rk.sure
        obtain ⟨A9, c9, hp9⟩ := own_slice HJ.out.bk.rk.loose
        obtain ⟨n9, hn9⟩ : ∃ n9, n9 = K.loose.length := ⟨_, rfl⟩
        rw [← hn9] at hp9
        subst hp9
        obtain ⟨f9, hf9⟩ : ∃ f9, f9 = K.fuse := ⟨_, rfl⟩
        obtain ⟨d9, hd9⟩ : ∃ d9, d9 = K.dark := ⟨_, rfl⟩
        have HRC := Lib.hid (show rdC (.slice A1 n c1) (.slice A9 n9 c9) K.fuse K.dark = #[.slice A1 n c1, .slice A9 n9 c9, .int .i64 f9, .bool d9] from by rw [hf9, hd9]; rfl)
        have HRK := Lib.hid (show rkV (.slice A1 n c1) (.slice A9 n9 c9) K = .agg #[.slice A1 n c1, .slice A9 n9 c9, .int .i64 f9, .bool d9] from by rw [hf9, hd9]; rfl)
        have HAT := Lib.hid hat
        have HJA := Lib.hid (HJ.out.no hca)
        have HBA := Lib.hid (show Blk wa bm 34 #[.slice A1 n c1, .slice A9 n9 c9, .int .i64 f9, .bool d9] from by rw [← HRC.out]; exact HJA.out.box)
        have HCA := Lib.hid HJA.out.chg
        have HCWA := Lib.hid hca
        have HBT := Lib.hid (show bt < wa.heap.size ∧ (∀ i, F i → i < bt) ∧ bt ≠ bm ∧ W.heap.size ≤ bt from ⟨hat.lt, fun i hi => by rw [hbt]; exact (HJ.out.bk.di.rng i hi).2, fun e => by have := HJ.out.box.lt; omega, by rw [hbt]; exact HC.out.size⟩)
        have HLO := Lib.hid (show K.loose.length ≤ 660 ∧ K.n = (n : Int) from ⟨by have h1 := HJ.out.bk.ok.loose; have h2 := HQ12.out; omega, HJ.out.bk.rk.num⟩)
        have a0 := hat.cell 0
        clear hwa hat hca hbt hn9 hf9 hd9 c0 c1' c2' c3' c4' c5'
        dsimp only [Act.put]
        go_cut [58] from 57 to 58 (fun v wx => v = .int .i64 xk ∧ wa = wx)
        case first =>
          go_wp2_with fail
          go_meet
          case rel => exact ⟨rfl, rfl⟩
        case rest =>
          obtain ⟨rfl, rfl⟩ := hcut
          clear a0
          rename_i Kc hKc
          refine hKc _ _ ?_
          go_cut [] from 59 to 116 (fun wx => RowKit.Hid (JS W wx g bm n (60 * (q + 1))))
          case first =>
            by_cases h1 : xk = 1
            · subst h1
              have a1 := HAT.out.cell 1
              have a3 := HAT.out.cell 3
              have HRX := Lib.hid (show RB wa wa.heap.size xa xl from Reads.more (RBkeep HOK.out.b.rb (fun i hi => HCWA.out.block i (by have := HC.out.size; omega) (fun h => h))) HCA.out.size)
              go_wp2_with fail
              refine (many_any xa xn xc xl xg wa HOK.out.b.len HXB.out HRX.out).mono ?_
              clear a1 a3
              rintro e wb ⟨A4, n4, c4, l4, rfl, hl4, hc4, hn4, hr4, hcb, hab⟩
              have HAB := Lib.hid hab
              have HL4 := Lib.hid hl4
              have HC4 := Lib.hid hc4
              have HN4 := Lib.hid hn4
              have HR4 := Lib.hid hr4
              have HCb := Lib.hid hcb
              have HBb := Lib.hid (HBA.out.chg hcb (fun h => h))
              have hst := hr4.toStr (n := n4) hl4 c4 Try.underlying25 Try.underlying5 Try.underlying9
              clear hl4 hc4 hn4 hr4 hcb hab
              go_wp2_with (first
                | (refine wpList_load_row rfl 34 _ rfl bm rfl 34 _ (0, 0) _ HBb.out Try.underlying34 rfl rd_size ?_)
                | fail)
              have hcall := rcommit_any K n (60 * q) wb (HJA.out.bk.rk.no HCb.out) HJA.out.bk.ok (by have := HQ12.out; omega) (by have := HN.out; omega) l4 (by rw [HL4.out]; have := HN4.out; omega)
              rw [HRK.out] at hcall
              refine hcall.mono ?_
              clear hcall hst
              rintro e wd ⟨s6, p6, rfl, hr6, hrow6, hc6⟩
              obtain ⟨K6, hK6⟩ : ∃ K6, K6 = (commitK K l4).1 := ⟨_, rfl⟩
              obtain ⟨e6, he6⟩ : ∃ e6, e6 = (commitK K l4).2 := ⟨_, rfl⟩
              have HK6 := Lib.hid hK6
              have HE6 := Lib.hid he6
              rw [← hK6] at hr6 ⊢
              rw [← he6]
              obtain ⟨A6, c6, rfl⟩ := own_slice hr6.sure
              obtain ⟨A7, c7, hp7⟩ := own_slice hr6.loose
              obtain ⟨n7, hn7⟩ : ∃ n7, n7 = K6.loose.length := ⟨_, rfl⟩
              rw [← hn7] at hp7
              subst hp7
              obtain ⟨f6, hf6⟩ : ∃ f6, f6 = K6.fuse := ⟨_, rfl⟩
              obtain ⟨d6, hd6⟩ : ∃ d6, d6 = K6.dark := ⟨_, rfl⟩
              have HC6r := Lib.hid (show rdC (.slice A6 n c6) (.slice A7 n7 c7) K6.fuse K6.dark = #[.slice A6 n c6, .slice A7 n7 c7, .int .i64 f6, .bool d6] from by rw [hf6, hd6]; rfl)
              rw [show rkV (.slice A6 n c6) (.slice A7 n7 c7) K6 = .agg #[.slice A6 n c6, .slice A7 n7 c7, .int .i64 f6, .bool d6] from by rw [hf6, hd6]; rfl]
              have HR6 := Lib.hid hr6
              have HROW6 := Lib.hid hrow6
              have HC6 := Lib.hid hc6
              have HBd := Lib.hid (HBb.out.chg hc6 (fun h => h))
              clear hK6 he6 hf6 hd6 hr6 hc6 hn7 hrow6
              go_upto_region 15 with (first
                | (refine wpList_store_blk rfl 34 _ _ rfl wd.heap.size _ rfl rfl 34 _ (Blk.new wd _ _) rfl rd_size (by simp [Value.oneCell']) ?_)
                | fail)
              have hbn := (Blk.new wd 34 #[.slice none 0 0, .slice none 0 0, .int .i64 0, .bool false]).row #[.slice A6 n c6, .slice A7 n7 c7, .int .i64 f6, .bool d6]
              have hcn : Chg NoB wd ((wd.alloc (.cells #[.slice none 0 0, .slice none 0 0, .int .i64 0, .bool false] 34)).setRow wd.heap.size #[.slice A6 n c6, .slice A7 n7 c7, .int .i64 f6, .bool d6]) := ((Chg.refl NoB wd).alloc _).setRow (.inr (Nat.le_refl _)) _
              generalize hwn : (wd.alloc (.cells #[.slice none 0 0, .slice none 0 0, .int .i64 0, .bool false] 34)).setRow wd.heap.size #[.slice A6 n c6, .slice A7 n7 c7, .int .i64 f6, .bool d6] = wn at hbn hcn ⊢
              obtain ⟨bn, hbne⟩ : ∃ bn, bn = wd.heap.size := ⟨_, rfl⟩
              rw [← hbne] at hbn ⊢
              have HBN := Lib.hid hbn
              have HBd2 := Lib.hid (HBd.out.chg hcn (fun h => h))
              have HCn := Lib.hid (HC6.out.trans hcn (fun _ _ h => h))
              have HR7 := Lib.hid (HR6.out.no hcn)
              clear hwn hbn hcn hbne
              go_upto_region 16 with (first
                | (refine wpList_load_row rfl 34 _ rfl bn rfl 34 _ (0, 0) _ HBN.out Try.underlying34 rfl rd_size ?_)
                | (refine wpList_store_blk rfl 34 _ _ rfl bm _ rfl rfl 34 _ HBd2.out rfl rd_size (by simp [Value.oneCell']) ?_)
                | fail)
              have hb8 := HBd2.out.row #[.slice A6 n c6, .slice A7 n7 c7, .int .i64 f6, .bool d6]
              have hc8 : Chg (fun b => b = bm) wn (wn.setRow bm #[.slice A6 n c6, .slice A7 n7 c7, .int .i64 f6, .bool d6]) := Chg.setRow (S := fun b => b = bm) (Chg.refl _ _) (g := bm) (.inl rfl) _
              generalize hw8 : wn.setRow bm #[.slice A6 n c6, .slice A7 n7 c7, .int .i64 f6, .bool d6] = w8 at hb8 hc8 ⊢
              have HCB := Lib.hid (show Chg (fun b => b = bm) wa w8 from (Chg.mono (S := NoB) (T := fun b => b = bm) (HCb.out.trans HCn.out (fun _ _ h => h)) (fun _ _ h => h.elim)).trans hc8 (fun _ _ h => h))
              have HSZA := Lib.hid (show wa.heap.size ≤ wb.heap.size ∧ bm < wa.heap.size from ⟨HCb.out.size, HJA.out.box.lt⟩)
              have HROW8 := Lib.hid (show ∀ b, RowsOf (.slice A6 n c6) (.slice A7 n7 c7) b → RowsOf (.slice A1 n c1) (.slice A9 n9 c9) b ∨ wa.heap.size ≤ b from fun b hb => (HROW6.out b hb).imp id (fun h => by have := HSZA.out; omega))
              have HR8 := Lib.hid (HR7.out.chg hc8 (fun b hb e => by
                have e2 : b = bm := e
                subst e2
                exact (HROW8.out _ hb).elim HJA.out.nr (fun h => by have := HSZA.out; omega)))
              have HB8 := Lib.hid hb8
              have HR48 := Lib.hid (show RB w8 w8.heap.size A4 l4 from Reads.more (RB.chgA (RBchg HR4.out HCn.out) hc8 (fun ad e h => by have h1 := HAB.out ad e; have h2 : ad.block = bm := h; have := HJA.out.box.lt; omega)) hc8.size)
              clear hw8 hb8 hc8
              go_wp2_with fail
              refine (commit_any (HJA.out.diC HCB.out) (Nat.le_trans HCA.out.size HCB.out.size) (by have := HLO.out.1; omega) (by rw [HLO.out.2]; have := HN.out; omega) A4 n4 c4 l4 HL4.out (by have := HN4.out; omega) HC4.out HR48.out).mono ?_
              rintro e w9 ⟨rfl, hp9⟩
              rw [← HE6.out]
              rw [← HK6.out] at hp9
              have HP9 := Lib.hid hp9
              clear hp9
              go_wp2_with fail
              obtain ⟨F6, hj6⟩ := HJA.out.fin HBMO.out HCB.out HR8.out HROW8.out (by rw [HC6r.out]; exact HB8.out) HP9.out (show KOk K6 (60 * (q + 1)) from by rw [HK6.out]; exact HJA.out.bk.ok.commit_ (by rw [HLO.out.2]; have := HN.out; omega) l4)
              go_meet
              case rel => exact Lib.hid ⟨F6, _, _, K6, hj6⟩
            by_cases h2 : xk = 2
            · subst h2
              go_wp2_with (first
                | (refine wpList_load_row rfl 34 _ rfl bm rfl 34 _ (0, 0) _ HBA.out Try.underlying34 rfl rd_size ?_)
                | fail)
              have hcall := rformat_any K n wa HJA.out.bk.rk (by have := HLO.out.1; omega)
              rw [HRK.out] at hcall
              refine hcall.mono ?_
              clear hcall
              rintro e wd ⟨s6, p6, rfl, hr6, hrow6, hc6⟩
              obtain ⟨K6, hK6⟩ : ∃ K6, K6 = (formatK K).1 := ⟨_, rfl⟩
              obtain ⟨e6, he6⟩ : ∃ e6, e6 = (formatK K).2 := ⟨_, rfl⟩
              have HK6 := Lib.hid hK6
              have HE6 := Lib.hid he6
              rw [← hK6] at hr6 ⊢
              rw [← he6]
              obtain ⟨A6, c6, rfl⟩ := own_slice hr6.sure
              obtain ⟨A7, c7, hp7⟩ := own_slice hr6.loose
              obtain ⟨n7, hn7⟩ : ∃ n7, n7 = K6.loose.length := ⟨_, rfl⟩
              rw [← hn7] at hp7
              subst hp7
              obtain ⟨f6, hf6⟩ : ∃ f6, f6 = K6.fuse := ⟨_, rfl⟩
              obtain ⟨d6, hd6⟩ : ∃ d6, d6 = K6.dark := ⟨_, rfl⟩
              have HC6r := Lib.hid (show rdC (.slice A6 n c6) (.slice A7 n7 c7) K6.fuse K6.dark = #[.slice A6 n c6, .slice A7 n7 c7, .int .i64 f6, .bool d6] from by rw [hf6, hd6]; rfl)
              rw [show rkV (.slice A6 n c6) (.slice A7 n7 c7) K6 = .agg #[.slice A6 n c6, .slice A7 n7 c7, .int .i64 f6, .bool d6] from by rw [hf6, hd6]; rfl]
              have HR6 := Lib.hid hr6
              have HROW6 := Lib.hid hrow6
              have HC6 := Lib.hid hc6
              have HBd := Lib.hid (HBA.out.chg hc6 (fun h => h))
              clear hK6 he6 hf6 hd6 hr6 hc6 hn7 hrow6
              go_upto_region 20 with (first
                | (refine wpList_store_blk rfl 34 _ _ rfl wd.heap.size _ rfl rfl 34 _ (Blk.new wd _ _) rfl rd_size (by simp [Value.oneCell']) ?_)
                | fail)
              have hbn := (Blk.new wd 34 #[.slice none 0 0, .slice none 0 0, .int .i64 0, .bool false]).row #[.slice A6 n c6, .slice A7 n7 c7, .int .i64 f6, .bool d6]
              have hcn : Chg NoB wd ((wd.alloc (.cells #[.slice none 0 0, .slice none 0 0, .int .i64 0, .bool false] 34)).setRow wd.heap.size #[.slice A6 n c6, .slice A7 n7 c7, .int .i64 f6, .bool d6]) := ((Chg.refl NoB wd).alloc _).setRow (.inr (Nat.le_refl _)) _
              generalize hwn : (wd.alloc (.cells #[.slice none 0 0, .slice none 0 0, .int .i64 0, .bool false] 34)).setRow wd.heap.size #[.slice A6 n c6, .slice A7 n7 c7, .int .i64 f6, .bool d6] = wn at hbn hcn ⊢
              obtain ⟨bn, hbne⟩ : ∃ bn, bn = wd.heap.size := ⟨_, rfl⟩
              rw [← hbne] at hbn ⊢
              have HBN := Lib.hid hbn
              have HBd2 := Lib.hid (HBd.out.chg hcn (fun h => h))
              have HCn := Lib.hid (HC6.out.trans hcn (fun _ _ h => h))
              have HR7 := Lib.hid (HR6.out.no hcn)
              clear hwn hbn hcn hbne
              go_upto_region 21 with (first
                | (refine wpList_load_row rfl 34 _ rfl bn rfl 34 _ (0, 0) _ HBN.out Try.underlying34 rfl rd_size ?_)
                | (refine wpList_store_blk rfl 34 _ _ rfl bm _ rfl rfl 34 _ HBd2.out rfl rd_size (by simp [Value.oneCell']) ?_)
                | fail)
              have hb8 := HBd2.out.row #[.slice A6 n c6, .slice A7 n7 c7, .int .i64 f6, .bool d6]
              have hc8 : Chg (fun b => b = bm) wn (wn.setRow bm #[.slice A6 n c6, .slice A7 n7 c7, .int .i64 f6, .bool d6]) := Chg.setRow (S := fun b => b = bm) (Chg.refl _ _) (g := bm) (.inl rfl) _
              generalize hw8 : wn.setRow bm #[.slice A6 n c6, .slice A7 n7 c7, .int .i64 f6, .bool d6] = w8 at hb8 hc8 ⊢
              have HCB := Lib.hid (show Chg (fun b => b = bm) wa w8 from (Chg.mono (S := NoB) (T := fun b => b = bm) (HCn.out) (fun _ _ h => h.elim)).trans hc8 (fun _ _ h => h))
              have HSZA := Lib.hid (show wa.heap.size ≤ wa.heap.size ∧ bm < wa.heap.size from ⟨Nat.le_refl _, HJA.out.box.lt⟩)
              have HROW8 := Lib.hid (show ∀ b, RowsOf (.slice A6 n c6) (.slice A7 n7 c7) b → RowsOf (.slice A1 n c1) (.slice A9 n9 c9) b ∨ wa.heap.size ≤ b from fun b hb => (HROW6.out b hb).imp id (fun h => by have := HSZA.out; omega))
              have HR8 := Lib.hid (HR7.out.chg hc8 (fun b hb e => by
                have e2 : b = bm := e
                subst e2
                exact (HROW8.out _ hb).elim HJA.out.nr (fun h => by have := HSZA.out; omega)))
              have HB8 := Lib.hid hb8
              clear hw8 hb8 hc8
              go_wp2_with fail
              refine (format_any (HJA.out.diC HCB.out) (Nat.le_trans HCA.out.size HCB.out.size) (by have := HLO.out.1; omega)).mono ?_
              rintro e w9 ⟨rfl, hp9⟩
              rw [← HE6.out]
              rw [← HK6.out] at hp9
              have HP9 := Lib.hid hp9
              clear hp9
              go_wp2_with fail
              obtain ⟨F6, hj6⟩ := HJA.out.fin HBMO.out HCB.out HR8.out HROW8.out (by rw [HC6r.out]; exact HB8.out) HP9.out (show KOk K6 (60 * (q + 1)) from by rw [HK6.out]; exact HJA.out.bk.ok.format_.more (by omega))
              go_meet
              case rel => exact Lib.hid ⟨F6, _, _, K6, hj6⟩
            by_cases h3 : xk = 3
            · subst h3
              have a2 := HAT.out.cell 2
              go_wp2_with fail
              refine (HJA.out.bk.di.fuse_ HCA.out.size xi HOK.out.hi.2).mono ?_
              rintro e wb ⟨⟨vf, rfl⟩, hpost⟩
              have HP := Lib.hid hpost
              obtain ⟨F3, hdi3, hc3, hF3⟩ := hpost
              have HC3 := Lib.hid hc3
              have HBb := Lib.hid (HBA.out.chg hc3 HJA.out.nf)
              have a2b := (HAT.out.chg hc3 (fun hf => by have := HBT.out.2.1 _ hf; omega)).cell 2
              clear hdi3 hc3 hF3 a2
              go_wp2_with (first
                | (refine wpList_load_row rfl 34 _ rfl bm rfl 34 _ (0, 0) _ HBb.out Try.underlying34 rfl rd_size ?_)
                | fail)
              have hcall := rarm_K K n wb (HJA.out.bk.rk2 HC3.out (K' := K)) xi HOK.out.hi.2
              rw [HRK.out] at hcall
              refine hcall.mono ?_
              clear hcall a2b
              rintro e wd ⟨rfl, hr6, hc6⟩
              obtain ⟨K6, hK6⟩ : ∃ K6, K6 = K.armed xi := ⟨_, rfl⟩
              have HK6 := Lib.hid hK6
              rw [← hK6] at hr6 HP ⊢
              obtain ⟨f6, hf6⟩ : ∃ f6, f6 = K6.fuse := ⟨_, rfl⟩
              obtain ⟨d6, hd6⟩ : ∃ d6, d6 = K6.dark := ⟨_, rfl⟩
              have HC6r := Lib.hid (show rdC (.slice A1 n c1) (.slice A9 n9 c9) K6.fuse K6.dark = #[.slice A1 n c1, .slice A9 n9 c9, .int .i64 f6, .bool d6] from by rw [hf6, hd6]; rfl)
              rw [show rkV (.slice A1 n c1) (.slice A9 n9 c9) K6 = .agg #[.slice A1 n c1, .slice A9 n9 c9, .int .i64 f6, .bool d6] from by rw [hf6, hd6]; rfl]
              have HR6 := Lib.hid hr6
              have HC6 := Lib.hid hc6
              have HBd := Lib.hid (HBb.out.chg hc6 (fun h => h))
              clear hK6 hf6 hd6 hr6 hc6
              go_wp2_with (first
                | (refine wpList_store_blk rfl 34 _ _ rfl bm _ rfl rfl 34 _ HBd.out rfl rd_size (by simp [Value.oneCell']) ?_)
                | fail)
              obtain ⟨F6, hbk6, hcf6, hF6⟩ := HJA.out.bk.next2 HP.out HR6.out (fun b h => .inl h) HC6.out (show KOk K6 (60 * (q + 1)) from by rw [HK6.out]; exact (HJA.out.bk.ok.armed_ xi).more (by omega))
              go_meet
              case rel => exact Lib.hid ⟨F6, _, _, K6, HJA.out.store HBMO.out (hcf6.trans HC6.out (fun _ _ h => h.elim)) hbk6 (fun b h => .inl h) hF6 _ HC6r.out.symm⟩
            by_cases h4 : xk = 4
            · subst h4
              have a5 := HAT.out.cell 5
              have hks : IB wa W.heap.size ka ks := (show IB wr W.heap.size ka ks from HOK.out.row).keepB (fun i hi => HCWA.out.block i (by have := HC.out.size; omega) (fun h => h))
              have HKS := Lib.hid hks
              clear hks
              go_wp2_with fail
              refine (HJA.out.bk.di.crash_ HCA.out.size (by have := HLO.out.1; omega) kc HOK.out.len (Reads.more HKS.out HCA.out.size) HOK.out.nil (fun hp ad3 he hf => by obtain ⟨ad4, e4, hb4, _⟩ := HKS.out.2 hp; rw [he] at e4; cases e4; have := (HJA.out.bk.di.rng _ hf).1; omega) (fun k hk => HOK.out.rng k hk)).mono ?_
              rintro e wb ⟨rfl, hpost⟩
              have HP := Lib.hid hpost
              obtain ⟨F3, hdi3, hc3, hF3⟩ := hpost
              have HC3 := Lib.hid hc3
              have HBb := Lib.hid (HBA.out.chg hc3 HJA.out.nf)
              have HKSb := Lib.hid (HKS.out.keepB (fun i hi => hc3.block i (by have := HCA.out.size; omega) (fun hf => by have := (HJA.out.bk.di.rng i hf).1; omega)))
              have a5b := (HAT.out.chg hc3 (fun hf => by have := HBT.out.2.1 _ hf; omega)).cell 5
              clear hdi3 hc3 hF3 a5
              go_wp2_with (first
                | (refine wpList_load_row rfl 34 _ rfl bm rfl 34 _ (0, 0) _ HBb.out Try.underlying34 rfl rd_size ?_)
                | fail)
              have hcall := rcrash_any K n wb (HJA.out.bk.rk2 HC3.out (K' := K)) (by have := HLO.out.1; omega) HJA.out.bk.ok.s5 ka kn kc ks HOK.out.len (Reads.more HKSb.out (Nat.le_trans HCA.out.size HC3.out.size)) HOK.out.rng
              rw [HRK.out] at hcall
              refine hcall.mono ?_
              clear hcall a5b
              rintro e wd ⟨s6, p6, rfl, hr6, hrow6, hc6⟩
              obtain ⟨K6, hK6⟩ : ∃ K6, K6 = K.crash ks := ⟨_, rfl⟩
              have HK6 := Lib.hid hK6
              rw [← hK6] at hr6 HP ⊢
              obtain ⟨A6, c6, rfl⟩ := own_slice hr6.sure
              obtain ⟨A7, c7, hp7⟩ := own_slice hr6.loose
              obtain ⟨n7, hn7⟩ : ∃ n7, n7 = K6.loose.length := ⟨_, rfl⟩
              rw [← hn7] at hp7
              subst hp7
              obtain ⟨f6, hf6⟩ : ∃ f6, f6 = K6.fuse := ⟨_, rfl⟩
              obtain ⟨d6, hd6⟩ : ∃ d6, d6 = K6.dark := ⟨_, rfl⟩
              have HC6r := Lib.hid (show rdC (.slice A6 n c6) (.slice A7 n7 c7) K6.fuse K6.dark = #[.slice A6 n c6, .slice A7 n7 c7, .int .i64 f6, .bool d6] from by rw [hf6, hd6]; rfl)
              rw [show rkV (.slice A6 n c6) (.slice A7 n7 c7) K6 = .agg #[.slice A6 n c6, .slice A7 n7 c7, .int .i64 f6, .bool d6] from by rw [hf6, hd6]; rfl]
              have HR6 := Lib.hid hr6
              have HROW6 := Lib.hid hrow6
              have HC6 := Lib.hid hc6
              have HBd := Lib.hid (HBb.out.chg hc6 (fun h => h))
              clear hK6 hf6 hd6 hr6 hc6 hn7 hrow6
              go_wp2_with (first
                | (refine wpList_store_blk rfl 34 _ _ rfl bm _ rfl rfl 34 _ HBd.out rfl rd_size (by simp [Value.oneCell']) ?_)
                | fail)
              obtain ⟨F6, hbk6, hcf6, hF6⟩ := HJA.out.bk.next2 HP.out HR6.out HROW6.out HC6.out (show KOk K6 (60 * (q + 1)) from by rw [HK6.out]; exact HJA.out.bk.ok.crash_ ks _)
              go_meet
              case rel => exact Lib.hid ⟨F6, _, _, K6, HJA.out.store HBMO.out (hcf6.trans HC6.out (fun _ _ h => h.elim)) hbk6 (fun b h => (HROW6.out b h).imp id (fun h => Nat.le_trans HC3.out.size h)) hF6 _ HC6r.out.symm⟩
            by_cases h5 : xk = 5
            · subst h5
              have hcall := lwrite_any HCA.out.size HJA.out.bk (by have := HQ12.out; omega) (by have := HN.out; omega) ⟨5, xa, xn, xc, xl, xi, xg, xb, ka, kn, kc, ks⟩ HOK.out.hi HOK.out.hl
              rw [HRK.out] at hcall
              unfold actV at hcall
              dsimp only at hcall
              have HCALL := Lib.hid hcall
              clear hcall
              go_wp2_with (first
                | (refine wpList_load_row rfl 34 _ rfl bm rfl 34 _ (0, 0) _ HBA.out Try.underlying34 rfl rd_size ?_)
                | (refine wpList_load_row rfl 68 _ rfl bt rfl 68 _ (0, 0) _ HAT.out Try.underlying68 rfl act_size ?_)
                | fail)
              refine HCALL.out.mono ?_
              rintro e wd ⟨F6, s6, p6, K6, rfl, hbk6, hrow6, hc6, hF6⟩
              obtain ⟨A6, c6, rfl⟩ := own_slice hbk6.rk.sure
              obtain ⟨A7, c7, hp7⟩ := own_slice hbk6.rk.loose
              obtain ⟨n7, hn7⟩ : ∃ n7, n7 = K6.loose.length := ⟨_, rfl⟩
              rw [← hn7] at hp7
              subst hp7
              obtain ⟨f6, hf6⟩ : ∃ f6, f6 = K6.fuse := ⟨_, rfl⟩
              obtain ⟨d6, hd6⟩ : ∃ d6, d6 = K6.dark := ⟨_, rfl⟩
              have HC6r := Lib.hid (show rdC (.slice A6 n c6) (.slice A7 n7 c7) K6.fuse K6.dark = #[.slice A6 n c6, .slice A7 n7 c7, .int .i64 f6, .bool d6] from by rw [hf6, hd6]; rfl)
              rw [show rkV (.slice A6 n c6) (.slice A7 n7 c7) K6 = .agg #[.slice A6 n c6, .slice A7 n7 c7, .int .i64 f6, .bool d6] from by rw [hf6, hd6]; rfl]
              have HBK6 := Lib.hid hbk6
              have HROW6 := Lib.hid hrow6
              have HC6 := Lib.hid hc6
              have HF6 := Lib.hid hF6
              have HBd := Lib.hid (HBA.out.chg hc6 HJA.out.nf)
              clear hf6 hd6 hbk6 hc6 hn7 hrow6 hF6
              go_wp2_with (first
                | (refine wpList_store_blk rfl 34 _ _ rfl bm _ rfl rfl 34 _ HBd.out rfl rd_size (by simp [Value.oneCell']) ?_)
                | fail)
              go_meet
              case rel => exact Lib.hid ⟨F6, _, _, K6, (HJA.out.store HBMO.out HC6.out HBK6.out HROW6.out HF6.out _ HC6r.out.symm).more (by omega)⟩
            go_wp2_with fail
            go_meet
            case rel => exact Lib.hid ⟨F, _, _, K, HJA.out.more (by omega)⟩
          case rest =>
            obtain ⟨F8, s8, p8, K8, hj8⟩ := hcut.out
            clear hcut
            have HJ8 := Lib.hid hj8
            obtain ⟨w8, hw8⟩ : ∃ w8, w8 = wc := ⟨_, rfl⟩
            rw [← hw8] at HJ8 ⊢
            clear hj8 hw8
            obtain ⟨B1, e1, rfl⟩ := own_slice HJ8.out.bk.rk.sure
            obtain ⟨B9, e9, hp8⟩ := own_slice HJ8.out.bk.rk.loose
            obtain ⟨m9, hm9⟩ : ∃ m9, m9 = K8.loose.length := ⟨_, rfl⟩
            rw [← hm9] at hp8
            subst hp8
            obtain ⟨f8, hf8⟩ : ∃ f8, f8 = K8.fuse := ⟨_, rfl⟩
            obtain ⟨d8, hd8⟩ : ∃ d8, d8 = K8.dark := ⟨_, rfl⟩
            have HRK8 := Lib.hid (show rkV (.slice B1 n e1) (.slice B9 m9 e9) K8 = .agg #[.slice B1 n e1, .slice B9 m9 e9, .int .i64 f8, .bool d8] from by rw [hf8, hd8]; rfl)
            have HB8 := Lib.hid (show Blk w8 bm 34 #[.slice B1 n e1, .slice B9 m9 e9, .int .i64 f8, .bool d8] from by rw [hf8, hd8]; exact HJ8.out.box)
            obtain ⟨lb, hlb⟩ : ∃ lb, lb = ldB K8 := ⟨_, rfl⟩
            obtain ⟨lg, hlg⟩ : ∃ lg : Int, lg = (ldH K8 0 : Int) := ⟨_, rfl⟩
            obtain ⟨ls, hls⟩ : ∃ ls : Int, ls = (ldH K8 1 : Int) := ⟨_, rfl⟩
            obtain ⟨le, hle⟩ : ∃ le : Int, le = ldE K8 := ⟨_, rfl⟩
            have HLV := Lib.hid (And.intro hlb (And.intro hlg (And.intro hls hle)))
            clear hlb hlg hls hle hm9 hf8 hd8
            rename_i Kd hKd
            refine hKd _ _ ?_
            go_wp2_with fail
            refine (sload_any HJ8.out.bk.di).mono ?_
            rintro e w9 ⟨v9, rfl, ho9, _, hc9⟩
            rw [← HLV.out.2.1, ← HLV.out.2.2.2]
            rw [← HLV.out.1] at ho9
            obtain ⟨A7, n7, c7, rfl, hn7, hr7, _⟩ := ho9.val
            have HBM9 := Lib.hid (HB8.out.chg hc9 (fun h => h))
            have HJ9 := Lib.hid (HJ8.out.no hc9)
            have HR7 := Lib.hid hr7
            have HN7 := Lib.hid hn7
            clear hc9 ho9 hr7 hn7
            go_wp2_with (first
              | (refine wpList_load_row rfl 34 _ rfl bm rfl 34 _ (0, 0) _ HBM9.out Try.underlying34 rfl rd_size ?_)
              | fail)
            have hrl := rload_any K8 n (60 * (q + 1)) w9 HJ9.out.bk.rk HJ9.out.bk.ok (by have := HQ12.out; omega)
            rw [HRK8.out] at hrl
            refine hrl.mono ?_
            clear hrl
            rintro e w10 ⟨rfl, hc10⟩
            rw [← HLV.out.1, ← HLV.out.2.1, ← HLV.out.2.2.1, ← HLV.out.2.2.2]
            have HJ10 := Lib.hid (HJ9.out.no hc10)
            have HBM10 := Lib.hid (HBM9.out.chg hc10 (fun h => h))
            have hr10 := RBchg HR7.out hc10
            have hst := hr10.toStr (n := n7) HN7.out c7 Try.underlying25 Try.underlying5 Try.underlying9
            clear hc10 hr10
            unfold strV
            have b0 := HBM10.out.cell 0
            have b1 := HBM10.out.cell 1
            have b2 := HBM10.out.cell 2
            have b3 := HBM10.out.cell 3
            go_wp2_with fail
            have hal := alike_any HJ10.out.bk (by have := HQ12.out; omega)
            rw [HRK8.out] at hal
            refine hal.mono ?_
            clear hal b0 b1 b2 b3 hst
            rintro e w11 ⟨rfl, hc11⟩
            have HJ11 := Lib.hid (HJ10.out.no hc11)
            clear hc11
            have hq12 := HQ12.out
            have hwq : RowKit.wrap64 ((q : Int) + 1) = (q : Int) + 1 := IntWalk.wrap64_in _ (by omega)
            go_wp2_with fail
            go_roundw
            case rel => exact ⟨q + 1, by have := HLT.out; omega, by go_num, Lib.hid ⟨F8, _, _, K8, HJ11.out⟩⟩
            case measure => have h1 := HLT.out; simp [intOf]; omega
      · have h5 : q = k := by omega
        have hltI : ¬ (q : Int) < (k : Int) := by omega
        clear hlt
        go_wp2_with fail
        refine (slives_any wr).mono ?_
        rintro e w11 ⟨rfl, hc11⟩
        have HC11 := Lib.hid (HC.out.trans hc11 (fun _ _ h => h))
        clear hc11
        go_wp2_with fail
        go_ret
        exact ⟨rfl, HC11.out.no⟩
end Go.Proofs.Ytlhfhhbafhnbkaa
