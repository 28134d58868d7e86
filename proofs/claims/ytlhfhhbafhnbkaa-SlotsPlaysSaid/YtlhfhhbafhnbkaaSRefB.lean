/-
  THE REFERENCE'S slot (ref12): so many bytes of a slot.
-/
import Derived.Test.YtlhfhhbafhnbkaaSRefA
import Derived.Test.YtlhfhhbafhnbkaaSlt4
namespace Go.Proofs.Ytlhfhhbafhnbkaa
open Go.RowKit FieldM CrcM
set_option linter.unusedSimpArgs false
set_option linter.unusedVariables false
theorem ext_str (l : List UInt8) (k : Nat) : (⟨l.toArray⟩ : ByteArray).extract 0 k = ⟨(l.take k).toArray⟩ := by
  rw [ByteArray.extract_mk]; simp
theorem Dk.now_len {K : Dk} {m : Nat} (h : KOk K m) : ∀ i, (K.now i).length = 512 := by rw [← h.now]; exact settle_len (f := K.sure) _ _ h.s5 h.l5
set_option maxRecDepth 100000 in
set_option maxHeartbeats 8000000 in
theorem rslot_any {s p : Value} (K : Dk) (n m : Nat) (w : World) (hR : RK w s p K n) (hk : KOk K m) (hm : m ≤ 1000) (hd : K.dark = false) (wh size : Nat) (hs : wh ≤ 1) (hz : (size : Int) ≤ roomZ K.n) :
    Calls Try.prog 46 #[rkV s p K, .int .i64 (wh : Int), .int .i64 (size : Int)] w fun e w' => e = .returned (.tuple #[strV (contentL K.now (1 + (wh : Int) * halfZ K.n) size), .bool true]) ∧ Chg NoB w w' := by
  have hlen := Dk.now_len hk
  obtain ⟨A1, c1, rfl⟩ := own_slice hR.sure
  obtain ⟨A2, c2, rfl⟩ := own_slice hR.loose
  have HR := Lib.hid hR
  have HK := Lib.hid (show K.loose.length ≤ 1000 ∧ settle K.sure K.loose = K.now from ⟨Nat.le_trans hk.loose hm, hk.now⟩)
  have HL := Lib.hid hlen
  have HD := Lib.hid hd
  have HS := Lib.hid hs
  obtain ⟨hh, hhe⟩ : ∃ hh, hh = halfZ K.n := ⟨_, rfl⟩
  have hn0 := hR.n0
  have hn1 := hR.n1
  have hb : 0 ≤ hh ∧ hh ≤ 4095 ∧ 1 + 2 * hh ≤ (n : Int) ∧ hh = ((n : Int) - 1) / 2 := by rw [hhe, hR.num]; unfold halfZ; omega
  have hsz : (size : Int) ≤ hh * 512 ∧ (size : Int) ≤ 1048576 := by
    unfold roomZ at hz
    rw [← hhe] at hz
    split at hz
    · omega
    · omega
  have hnn : K.n = (n : Int) := hR.num
  have HNN := Lib.hid hnn
  have hq : Int.tdiv ((n : Int) - 1) 2 = hh := by rw [Int.tdiv_eq_ediv_of_nonneg (by omega)]; exact hb.2.2.2.symm
  obtain ⟨b0, b1, b2, b3⟩ := hb
  obtain ⟨z0, z1⟩ := hsz
  have hmul : RowKit.wrap64 ((wh : Int) * hh) = (wh : Int) * hh := IntWalk.wrap64_in _ (by
    rcases (by omega : wh = 0 ∨ wh = 1) with rfl | rfl <;> simp <;> omega)
  obtain ⟨fr, hfr⟩ : ∃ fr : Int, fr = 1 + (wh : Int) * hh := ⟨_, rfl⟩
  have hfb : 1 ≤ fr ∧ fr ≤ 1 + hh := by rw [hfr]; rcases (by omega : wh = 0 ∨ wh = 1) with rfl | rfl <;> simp <;> omega
  have hadd : RowKit.wrap64 (1 + (wh : Int) * hh) = fr := by rw [hfr]; exact IntWalk.wrap64_in _ (by omega)
  obtain ⟨hf0, hf1⟩ := hfb
  rw [← hhe, ← hfr]
  obtain ⟨fu, hfu⟩ : ∃ fu, fu = K.fuse := ⟨_, rfl⟩
  have HFU := Lib.hid hfu
  have HKV := Lib.hid (show Value.agg #[.slice A1 n c1, .slice A2 K.loose.length c2, .int .i64 fu, .bool false] = rkV (.slice A1 n c1) (.slice A2 K.loose.length c2) K from by rw [hfu]; unfold rkV rdC; rw [hd])
  rw [← HKV.out]
  obtain ⟨nl, hnl⟩ : ∃ nl, nl = K.loose.length := ⟨_, rfl⟩
  rw [← hnl] at HR HKV ⊢
  obtain ⟨w1, hw1⟩ : ∃ w1, w1 = w.alloc (.cells #[.slice A1 n c1, .slice A2 nl c2, .int .i64 fu, .bool false] 34) := ⟨_, rfl⟩
  have HC1 := Lib.hid (show Chg NoB w w1 from by rw [hw1]; exact (Chg.refl _ _).alloc _)
  have HB1 := Lib.hid (show Blk w1 w.heap.size 34 #[.slice A1 n c1, .slice A2 nl c2, .int .i64 fu, .bool false] from by rw [hw1]; exact Blk.new w _ _)
  obtain ⟨bx, hbx⟩ : ∃ bx, bx = w.heap.size := ⟨_, rfl⟩
  rw [← hbx] at HB1
  have k0 := HB1.out.cell 0
  clear hR hk hm hd hs hz hlen hhe hfr hfu hnl hnn b3
  go_enter Try.func46, Try.ntmps46
  go_upto_region 1 with fail
  rw [← hw1, ← hbx]
  clear hw1 hbx
  go_wp2_with fail
  go_loopw [9, 10] (fun o i wr => ∃ (q : Nat) (l : List UInt8), 512 * q ≤ size + 511 ∧ i = .int .i64 q ∧ o = .string ⟨l.toArray⟩ ∧ Hid (l = catL K.now fr q) ∧ Chg NoB w1 wr) (fun _ i _ => size - (intOf i).toNat)
  case atStart => exact ⟨0, [], by omega, rfl, rfl, rfl, Chg.refl _ _⟩
  case round =>
    obtain ⟨q, l, hq2, rfl, rfl, HLL, hch⟩ := hrel
    have HCH := Lib.hid hch
    have k0 := (HB1.out.chg hch (fun h => h)).cell 0
    have HBQ := Lib.hid (HB1.out.chg hch (fun h => h))
    have hll : l.length = 512 * q := by rw [HLL.out]; exact catL_len HL.out _ _
    have HLN := Lib.hid hll
    clear hch hll
    by_cases hlt : q * 512 < size
    · have hlt2 : (q : Int) * 512 < (size : Int) := by omega
      have hqb : fr + (q : Int) < (n : Int) ∧ fr + (q : Int) ≤ 9000 := by
        have h1 := HS.out
        omega
      have hfq : RowKit.wrap64 (fr + (q : Int)) = fr + (q : Int) := IntWalk.wrap64_in _ (by omega)
      have HQB := Lib.hid hqb
      clear hqb
      go_wp2_with (first
        | (refine wpList_load_row rfl 34 _ rfl bx rfl 34 _ (0, 0) _ HBQ.out Try.underlying34 rfl rd_size ?_)
        | fail)
      have hrk := rread_K K n _ (HR.out.no (HC1.out.trans HCH.out (fun _ _ h => h))) HK.out.1 HK.out.2 (fr + (q : Int))
      rw [← HKV.out] at hrk
      refine hrk.mono ?_
      clear hrk
      rw [show readE K (fr + (q : Int)) = 0 from by unfold readE; rw [if_neg (by rw [HNN.out]; have := HQB.out.1; omega), if_neg (by rw [HD.out]; decide)], if_pos rfl]
      rintro e w3 ⟨rfl, hc3⟩
      obtain ⟨y, hy⟩ : ∃ y, y = K.now (fr + (q : Int)) := ⟨_, rfl⟩
      rw [← hy]
      have hyl : y.length = 512 := by rw [hy]; exact HL.out _
      have hadd2 := run_add_lists Try.prog l y (by rw [HLN.out, hyl]; omega) w3
      have HY := Lib.hid (show l ++ y = catL K.now fr (q + 1) from by rw [catL_succ, HLL.out, hy])
      have HC3 := Lib.hid (HCH.out.trans hc3 (fun _ _ h => h))
      clear hy hyl hc3
      unfold strV
      go_wp2_with fail
      go_roundw
      case rel => exact ⟨q + 1, l ++ y, by omega, by go_num, rfl, HY.out, HC3.out⟩
      case measure => simp [intOf]; omega
    · have hsz1 : (⟨l.toArray⟩ : ByteArray).size = 512 * q := by simpa [ByteArray.size] using HLN.out
      have hext := ext_str l size
      have HF := Lib.hid (show l.take size = contentL K.now fr size from by rw [HLL.out]; exact catL_take HL.out _ _ _ (by omega))
      have hlt2 : ¬ (q : Int) * 512 < (size : Int) := by omega
      go_wp2_with fail
      go_ret2
      refine ⟨?_, HC1.out.trans HCH.out (fun _ _ h => h)⟩
      rw [← HF.out]
      first | rfl | (rw [hext]; rfl)
end Go.Proofs.Ytlhfhhbafhnbkaa
