/-
  THE REFERENCE's Read.
-/
import Derived.Test.YtlhfhhbafhnbkaaSRef1
namespace Go.Proofs.Ytlhfhhbafhnbkaa
open Go.RowKit
set_option linter.unusedSimpArgs false
set_option linter.unusedVariables false
theorem own_cellN {w : World} {base n c size : Nat} {t : TypeId} {A : Option Addr} {xs : List Value} (h : w.ownsRow base t size (.slice A n c) n xs) (hn : 0 < n) : ∃ g, A = some ⟨g, 0, none⟩ ∧ ∀ q, q < n * size → w.cell? ⟨g, q, none⟩ = xs[q]? := by
  rcases h.2 with ⟨_, h0⟩ | ⟨g, cap, cur, hv, hb, hg, hnc, hm, hs, ht⟩
  · omega
  · injection hv with h1 h2 h3
    refine ⟨g, h1, fun q hq => ?_⟩
    rw [(show Blk w g t cur from hg).cell q, ← ht, List.getElem?_take, if_pos hq]; simp
theorem rput_at : ∀ (ps : List (Int × List UInt8)) (j : Nat) (h : j < ps.length), (ps.flatMap rputL)[j * 2]? = some (.int .i64 ps[j].1) ∧ (ps.flatMap rputL)[j * 2 + 1]? = some (strV ps[j].2) := by
  intro ps
  induction ps with
  | nil => intro j h; simp at h
  | cons p r ih =>
    intro j h
    rw [List.flatMap_cons]
    cases j with
    | zero => exact ⟨rfl, rfl⟩
    | succ j =>
      have h1 := ih j (by simpa using h)
      have hl : (rputL p).length = 2 := rfl
      rw [List.getElem?_append_right (by omega), List.getElem?_append_right (by omega), hl, show (j + 1) * 2 - 2 = j * 2 from by omega, show (j + 1) * 2 + 1 - 2 = j * 2 + 1 from by omega]
      simpa using h1
def rnow (b : List UInt8) (i : Int) (ps : List (Int × List UInt8)) : List UInt8 := ps.foldl (fun b p => if p.1 = i then p.2 else b) b
theorem rnow_snoc (b : List UInt8) (i : Int) (ps : List (Int × List UInt8)) (p : Int × List UInt8) : rnow b i (ps ++ [p]) = if p.1 = i then p.2 else rnow b i ps := by simp [rnow]
def rreadE (n : Nat) (dark : Bool) (i : Int) : Int := if i < 0 ∨ (n : Int) ≤ i then 2 else if dark = true then 6 else 0
set_option maxRecDepth 100000 in
set_option maxHeartbeats 4000000 in
theorem rread_any {s p : Value} {sure : List (List UInt8)} {loose : List (Int × List UInt8)} {w : World} (hR : RD w s p sure loose) (hl : loose.length ≤ 1000) (hsl : sure.length ≤ 8192) (fuse : Int) (dark : Bool) (i : Int) :
    Calls Try.prog 44 #[.agg (rdC s p fuse dark), .int .i64 i] w fun e w' =>
      e = .returned (.tuple #[strV (if rreadE sure.length dark i = 0 then rnow (sure.getD i.toNat []) i loose else []), .int .i64 (rreadE sure.length dark i)]) ∧ Chg NoB w w' := by
  obtain ⟨A1, c1, rfl⟩ := own_slice hR.sure
  obtain ⟨A2, c2, rfl⟩ := own_slice hR.loose
  obtain ⟨ns, hns⟩ : ∃ ns, ns = sure.length := ⟨_, rfl⟩
  obtain ⟨nl, hnl⟩ : ∃ nl, nl = loose.length := ⟨_, rfl⟩
  rw [← hns] at hsl
  rw [← hnl] at hl
  have hS := hR.sure
  have hL := hR.loose
  rw [← hns] at hS ⊢
  rw [← hnl] at hL ⊢
  have HS := Lib.hid hS
  have HL := Lib.hid hL
  have HNS := Lib.hid hns
  have HNL := Lib.hid hnl
  unfold rdC
  obtain ⟨w1, hw1⟩ : ∃ w1, w1 = w.alloc (.cells #[.slice A1 ns c1, .slice A2 nl c2, .int .i64 fuse, .bool dark] 34) := ⟨_, rfl⟩
  have HC1 := Lib.hid (show Chg NoB w w1 from by rw [hw1]; exact (Chg.refl _ _).alloc _)
  have HB1 := Lib.hid (show Blk w1 w.heap.size 34 #[.slice A1 ns c1, .slice A2 nl c2, .int .i64 fuse, .bool dark] from by rw [hw1]; exact Blk.new w _ _)
  obtain ⟨bx, hbx⟩ : ∃ bx, bx = w.heap.size := ⟨_, rfl⟩
  rw [← hbx] at HB1
  have k0 := HB1.out.cell 0
  have k1 := HB1.out.cell 1
  have k3 := HB1.out.cell 3
  clear hR hns hnl hS hL
  have hcase : i < 0 ∨ (0 ≤ i ∧ (ns : Int) ≤ i) ∨ (0 ≤ i ∧ i < (ns : Int)) := by omega
  rcases hcase with h | ⟨h, h2⟩ | ⟨h, h2⟩
  iterate 2
    · rw [show rreadE ns dark i = 2 from if_pos (by omega), if_neg (by decide)]
      go_enter Try.func44, Try.ntmps44
      go_upto_region 1 with fail
      rw [← hw1, ← hbx]
      clear hw1 hbx
      go_wp2_with fail
      go_ret2
      exact ⟨rfl, HC1.out⟩
  · cases dark with
    | true =>
      rw [show rreadE ns true i = 6 from by unfold rreadE; rw [if_neg (by omega), if_pos rfl], if_neg (by decide)]
      go_enter Try.func44, Try.ntmps44
      go_upto_region 1 with fail
      rw [← hw1, ← hbx]
      clear hw1 hbx
      go_wp2_with fail
      go_ret2
      exact ⟨rfl, HC1.out⟩
    | false =>
      rw [show rreadE ns false i = 0 from by unfold rreadE; rw [if_neg (by omega), if_neg (by decide)], if_pos rfl]
      obtain ⟨ii, rfl⟩ : ∃ ii : Nat, i = (ii : Int) := ⟨i.toNat, by omega⟩
      have hii : ii < ns := by omega
      obtain ⟨gs, rfl, cs⟩ := own_cell (ownsRow_chg HS.out HC1.out (fun _ _ h => h)) hii
      have hii2 : ii < sure.length := by rw [← HNS.out]; exact hii
      obtain ⟨y, hy⟩ : ∃ y, y = sure[ii] := ⟨_, rfl⟩
      obtain ⟨ary, hary⟩ : ∃ ary, ary = y.toArray := ⟨_, rfl⟩
      rw [List.getElem?_map, List.getElem?_eq_getElem hii2, ← hy, Option.map_some, show strV y = Value.string ⟨ary⟩ from by rw [hary]; rfl] at cs
      have HY := Lib.hid (show sure.getD ((ii : Int).toNat) [] = y from by rw [Int.toNat_natCast, List.getD_eq_getElem?_getD, List.getElem?_eq_getElem hii2, hy]; rfl)
      have HAY := Lib.hid hary
      clear hy hary hii2
      rw [HY.out]
      go_enter Try.func44, Try.ntmps44
      go_upto_region 1 with fail
      rw [← hw1, ← hbx]
      clear hw1 hbx
      go_wp2_with fail
      go_loopw [6, 7] (fun b q wr => ∃ (j : Nat) (ar : Array UInt8), j ≤ nl ∧ q = .int .i64 j ∧ b = .string ⟨ar⟩ ∧ Hid (ar = (rnow y (ii : Int) (loose.take j)).toArray) ∧ Chg NoB w1 wr) (fun _ q _ => nl - (intOf q).toNat)
      case atStart => exact ⟨0, ary, Nat.zero_le _, rfl, rfl, HAY.out, Chg.refl _ _⟩
      case round =>
        obtain ⟨j, ar, hj, rfl, rfl, HAR, hch⟩ := hrel
        have HCH := Lib.hid hch
        have k1 := (HB1.out.chg hch (fun h => h)).cell 1
        have k0 := (HB1.out.chg hch (fun h => h)).cell 0
        by_cases hlt : j < nl
        · obtain ⟨gp, rfl, cp⟩ := own_cellN (ownsRow_chg HL.out (HC1.out.trans hch (fun _ _ h => h)) (fun _ _ h => h)) (by omega)
          have hj2 : j < loose.length := by rw [← HNL.out]; exact hlt
          obtain ⟨z, hz⟩ : ∃ z, z = loose[j] := ⟨_, rfl⟩
          have hp := rput_at loose j hj2
          rw [← hz] at hp
          have cp0 := cp (j * 2) (by omega)
          have cp1 := cp (j * 2 + 1) (by omega)
          rw [hp.1] at cp0
          obtain ⟨arz, harz⟩ : ∃ arz, arz = z.2.toArray := ⟨_, rfl⟩
          rw [hp.2, show strV z.2 = Value.string ⟨arz⟩ from by rw [harz]; rfl] at cp1
          have HTK := Lib.hid (show loose.take (j + 1) = loose.take j ++ [z] from by rw [hz, List.take_succ_eq_append_getElem])
          have HARZ := Lib.hid harz
          clear hz hp cp hj2 hch harz
          by_cases hzi : z.1 = (ii : Int)
          · have HZI := Lib.hid hzi
            go_wp2_with fail
            go_roundw
            case rel => exact ⟨j + 1, arz, by omega, by simp, rfl, by show arz = _; rw [HTK.out, rnow_snoc, if_pos HZI.out, HARZ.out], HCH.out⟩
            case measure => simp [intOf]; omega
          · have HZI := Lib.hid hzi
            go_wp2_with fail
            go_roundw
            case rel => exact ⟨j + 1, ar, by omega, by simp, rfl, by show ar = _; rw [HTK.out, rnow_snoc, if_neg HZI.out, HAR.out], HCH.out⟩
            case measure => simp [intOf]; omega
        · obtain rfl : j = nl := by omega
          have HF := Lib.hid (show Value.string ⟨ar⟩ = strV (rnow y (ii : Int) loose) from by rw [HAR.out, List.take_of_length_le (by rw [HNL.out]; exact Nat.le_refl _)]; rfl)
          clear hch
          go_wp2_with fail
          go_ret2
          rw [← HF.out]
          exact ⟨rfl, HC1.out.trans HCH.out (fun _ _ h => h)⟩
end Go.Proofs.Ytlhfhhbafhnbkaa
