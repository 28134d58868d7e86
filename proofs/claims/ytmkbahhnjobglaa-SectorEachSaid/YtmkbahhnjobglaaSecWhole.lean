/-
  THE WALK of SectorWhole.
-/
import Derived.Test.YtmkbahhnjobglaaSecRefuses
namespace Go.Proofs.Ytmkbahhnjobglaa
open Go.RowKit
set_option linter.unusedSimpArgs false
set_option linter.unusedVariables false
theorem torn_one (f : Int → List UInt8) (p : Int × List UInt8) (hf : (f p.1).length = 512) (hp : p.2.length = 512) : torn f p 1 = upd f p.1 p.2 := by
  have hc : cutN p.1 1 = 512 := by unfold cutN; rw [if_neg (by omega), if_neg (by omega)]
  unfold torn
  rw [hc, List.take_of_length_le (by omega), List.drop_of_length_le (by omega), List.append_nil]
theorem crash_ones (ks : List Int) : ∀ (ps : List (Int × List UInt8)) (f : Int → List UInt8) (k : Nat), (∀ i, (f i).length = 512) → (∀ p ∈ ps, p.2.length = 512) → (∀ j, j < ps.length → cOf true ks (k + j) = 1) →
    (ps.zipIdx k).foldl (fun f x => torn f x.1 (cOf true ks x.2)) f = settle f ps := by
  intro ps
  induction ps with
  | nil => intro f k _ _ _; rfl
  | cons p r ih =>
    intro f k hf hp hk
    have h0 := hk 0 (by simp)
    rw [Nat.add_zero] at h0
    simp only [List.zipIdx_cons, List.foldl_cons, settle, h0]
    rw [torn_one f p (hf _) (hp p (by simp))]
    refine ih (upd f p.1 p.2) (k + 1) (fun i => ?_) (fun q hq => hp q (by simp [hq])) (fun j hj => ?_)
    · unfold upd; split
      · exact hp p (by simp)
      · exact hf i
    · have := hk (j + 1) (by simpa using hj)
      rw [← this]; congr 1; omega
theorem ones_range (m : Nat) : ∀ k ∈ List.replicate m (1 : Int), -9223372036854775808 ≤ k ∧ k ≤ 9223372036854775807 := fun k hk => by
  have := List.eq_of_mem_replicate hk; subst this; omega
theorem crashF_ones {f : Int → List UInt8} {ps : List (Int × List UInt8)} (hf : ∀ i, (f i).length = 512) (hp : ∀ p ∈ ps, p.2.length = 512) : crashF f (List.replicate ps.length 1) ps = settle f ps :=
  crash_ones _ ps f 0 hf hp (fun j hj => by rw [Nat.zero_add]; unfold cOf; rw [List.getElem?_replicate, if_pos hj]; rfl)
theorem own_IB {w : World} {base n c : Nat} {A : Option Addr} {l : List Int} (hl : l.length = n) (h : w.ownsRow base 3 1 (.slice A n c) n (l.map (Value.int .i64))) : IB w w.heap.size A l := by
  have := own_reads h; rw [← hl] at this; exact this
theorem own_nil {w : World} {base n c size : Nat} {t : TypeId} {xs : List Value} (h : w.ownsRow base t size (.slice none n c) n xs) : n = 0 ∧ c = 0 := by
  rcases h.2 with ⟨hv, h0⟩ | ⟨g, cap, cur, hv, _⟩
  · injection hv with _ _ h3; exact ⟨h0, h3⟩
  · cases hv
theorem int_info : (Try.prog.info? 3).map (fun i => (i.zero, i.size, i.bytes)) = some (some (.int .i64 0), 1, 8) := by kernel_rfl
theorem int_full : ∃ i, Try.prog.info? 3 = some i ∧ i.zero = some (.int .i64 0) ∧ i.size = 1 ∧ i.bytes = 8 := by
  have h := int_info
  cases hi : Try.prog.info? 3 with
  | none => rw [hi] at h; cases h
  | some i => rw [hi] at h; simp at h; exact ⟨i, rfl, h.1, h.2.1, h.2.2⟩
set_option maxRecDepth 100000 in
set_option maxHeartbeats 8000000 in
theorem sectorWhole_walk (n : Int) (A : Option Addr) (k c : Nat) (l : List ActV) (W : World) (_ : (Lit.int .i64 n).wf = true) (hA : Acts W W.heap.size A k l) :
    Calls Try.prog 8 #[.int .i64 n, .slice A k c] W fun e W' => e = .returned (.bool true) ∧ Below W.heap.size W W' := by
  have HA := Lib.hid hA
  clear hA
  have hcase : (n < 1) ∨ (1 ≤ n ∧ 40 < n) ∨ (1 ≤ n ∧ n ≤ 40 ∧ 40 < k) ∨ (1 ≤ n ∧ n ≤ 40 ∧ k ≤ 40) := by omega
  rcases hcase with h1 | ⟨h1, h2⟩ | ⟨h1, h2, h3⟩ | ⟨h1, h2, h3⟩
  iterate 3
    · go_enter Try.func8, Try.ntmps8
      go_wp2_with fail
      refine (lives_any W).mono ?_
      rintro e w1 ⟨rfl, hc1⟩
      go_wp2_with fail
      go_ret
      exact ⟨rfl, hc1.no⟩
  obtain ⟨nn, rfl⟩ : ∃ nn : Nat, n = (nn : Int) := ⟨n.toNat, by omega⟩
  have HN := Lib.hid (show 1 ≤ nn ∧ nn ≤ 40 from by omega)
  have HDK := Lib.hid ((DOk.done_ (nn : Int) l).more (show l.length ≤ 40 from by rw [HA.out.1]; exact h3))
  obtain ⟨K, hK⟩ : ∃ K, K = doneK (nn : Int) l := ⟨_, rfl⟩
  have hdn := done_any (nn : Int) A k c l W HA.out h1 (by omega) h3
  rw [← hK] at hdn HDK
  have HDN := Lib.hid hdn
  clear hdn hK
  go_enter Try.func8, Try.ntmps8
  go_wp2_with fail
  refine HDN.out.mono ?_
  rintro e w1 ⟨g, F1, rfl, hD1, hc1⟩
  have HD1 := Lib.hid hD1
  have HC1 := Lib.hid hc1
  clear hD1 hc1 HDN
  -- was
  go_wp2_with fail
  refine (all_any _ g K F1 w1 HD1.out HDK.out.dark nn HDK.out.n (by have := HN.out; omega)).mono ?_
  rintro e w2 ⟨v6, rfl, ho2, hc2⟩
  obtain ⟨A6, c6, rfl⟩ := own_slice ho2
  have HO2 := Lib.hid (show w2.ownsRow w1.heap.size 9 1 (.slice A6 nn c6) nn (secs K.now nn) ∧ ∀ j, (Value.slice A6 nn c6).ownBlock = some j → ¬ F1 j from ⟨ho2, fun j e h => by have := (ho2.lt j e).1; have := (HD1.out.rng _ h).2; omega⟩)
  have HD2 := Lib.hid (HD1.out.no hc2)
  have HC2 := Lib.hid (HC1.out.trans hc2 (fun _ _ h => h))
  clear ho2 hc2 HD1 HC1
  -- Copy
  go_wp2_with fail
  refine (HD2.out.copy_ (Nat.le_trans HDK.out.loose (by decide))).mono ?_
  rintro e w3 ⟨cc, F2, rfl, hD3, hc3⟩
  have HDc3 := Lib.hid hD3
  have HD3 := Lib.hid (HD2.out.no hc3)
  have HC3 := Lib.hid (HC2.out.trans hc3 (fun _ _ h => h))
  have HO3 := Lib.hid (keepRowNo hc3 HO2.out)
  have HF1 := Lib.hid (show ∀ i, F1 i → i < w2.heap.size from fun i h => (HD2.out.rng i h).2)
  have HOL := Lib.hid (show ∀ j, (Value.slice A6 nn c6).ownBlock = some j → j < w2.heap.size from fun j e => (HO2.out.1.lt j e).2)
  have HSW := Lib.hid (show W.heap.size ≤ w2.heap.size from HC2.out.size)
  have HS23 := Lib.hid (show w2.heap.size ≤ w3.heap.size from hc3.size)
  clear hD3 hc3 HD2 HC2 HO2
  -- Sync of the copy
  go_wp2_with fail
  refine (HDc3.out.sync_ HS23.out (Nat.le_trans HDK.out.loose (by decide))).mono ?_
  rintro e w4 ⟨rfl, F3, hD4, hc4, hg4⟩
  rw [HDK.out.synced.1]
  have HDc4 := Lib.hid hD4
  have HD4 := Lib.hid (HD3.out.chg hc4 (fun i hi h => by have := HF1.out i hi; have := (HDc3.out.rng i h).1; omega))
  have HC4 := Lib.hid (show Chg NoB W w4 from HC3.out.trans hc4 (fun i hi h => by have h1 := (HDc3.out.rng i h).1; have h4 := HSW.out; omega))
  have HO4 := Lib.hid (show w4.ownsRow w1.heap.size 9 1 (.slice A6 nn c6) nn (secs K.now nn) ∧ ∀ j, (Value.slice A6 nn c6).ownBlock = some j → ¬ F1 j from ⟨ownsRow_chg HO3.out.1 hc4 (fun j e h => by have := HOL.out j e; have := (HDc3.out.rng j h).1; omega), HO3.out.2⟩)
  have HS34 := Lib.hid (show w3.heap.size ≤ w4.heap.size from hc4.size)
  clear hD4 hc4 hg4 HD3 HC3 HO3 HDc3
  go_wp2_with fail
  refine HDc4.out.disk.loose_.mono ?_
  rintro e w5 ⟨rfl, rfl⟩
  rw [HDK.out.synced.2.1]
  go_wp2_with fail
  -- keep
  obtain ⟨m, hm⟩ : ∃ m, m = K.loose.length := ⟨_, rfl⟩
  have HM := Lib.hid (show K.loose.length = m ∧ m ≤ 40 from ⟨hm.symm, by rw [hm]; exact HDK.out.loose⟩)
  clear hm
  go_loopw [8, 9] (fun v i wr => ∃ j : Nat, j ≤ m ∧ i = .int .i64 j ∧ wr.ownsRow w5.heap.size 3 1 v j ((List.replicate j (1 : Int)).map (Value.int .i64)) ∧ Chg NoB w5 wr) (fun _ i _ => m - (intOf i).toNat)
  case atStart => exact ⟨0, Nat.zero_le _, rfl, World.ownsRow_nil _ _ _ _, Chg.refl _ _⟩
  case round =>
    obtain ⟨j, hj, rfl, ho, hch⟩ := hrel
    obtain ⟨A8, c8, rfl⟩ := own_slice ho
    have HO := Lib.hid ho
    have HCH := Lib.hid hch
    have HDr := Lib.hid (HD4.out.no hch)
    clear ho hch
    go_wp2_with fail
    refine HDr.out.disk.loose_.mono ?_
    rintro e w6 ⟨rfl, rfl⟩
    rw [HM.out.1]
    have hm40 := HM.out.2
    by_cases hlt : j < m
    · obtain ⟨it, hit, hz, hs1, hs2⟩ := int_full
      have HIT := Lib.hid (show Try.prog.info? 3 = some it ∧ it.zero = some (.int .i64 0) ∧ it.size = 1 ∧ it.bytes = 8 from ⟨hit, hz, hs1, hs2⟩)
      have hc7 : Chg NoB w6 (w6.alloc (.cells #[.int .i64 1] 3)) := (Chg.refl _ _).alloc _
      have HN7 := Lib.hid (Blk.new w6 3 #[.int .i64 1])
      have HO7 := Lib.hid (ownsRow_chg HO.out hc7 (fun _ _ h => h))
      have HC7 := Lib.hid hc7
      have HMB := Lib.hid (show j + 1 ≤ 40 from by have := HM.out.2; omega)
      clear hc7 hit hz hs1 hs2
      go_wp2_with (at_builtin; refine wpList_append_one _ rfl _ _ _ _ rfl Try.underlying23 it _ 8 w5.heap.size HIT.out.1 HIT.out.2.1 HIT.out.2.2.1 HIT.out.2.2.2 rfl _ j _ rfl HO7.out w6.heap.size (.int .i64 1) rfl HN7.out rfl (by have := HMB.out; omega) (by have := HMB.out; unfold maxLen; omega) (by have h1 := HCH.out.size; have h2 := HC7.out.size; omega) ?_; intro v9 w9 ho9 hg9 hv9)
      go_roundw
      case rel =>
        refine ⟨j + 1, by omega, by simp, by rw [List.replicate_succ', List.map_append]; exact ho9, ?_⟩
        exact (HCH.out.trans HC7.out (fun _ _ h => h)).grown hg9 (fun q e => .inr (HO.out.lt q e).1)
      case measure => simp [intOf]; omega
    · obtain rfl : j = m := by omega
      go_wp2_with fail
      -- Crash
      refine (HDr.out.crash_ (Nat.le_trans HC4.out.size HCH.out.size) (Nat.le_trans HDK.out.loose (by decide)) c8 (List.length_replicate) (own_IB List.length_replicate HO.out) (fun e => by subst e; exact own_nil HO.out) (fun _ ad e h => by
        have h1 := (HO.out.lt ad.block (by rw [e]; rfl)).1
        have h2 := HF1.out _ h
        have h3 := HS23.out
        have h4 := HS34.out
        omega) (ones_range j)).mono ?_
      rintro e w7 ⟨rfl, F7, hD7, hc7, hg7⟩
      have HD7 := Lib.hid hD7
      have HDc7 := Lib.hid ((HDc4.out.no HCH.out).chg hc7 (fun i hi h => by have := HF1.out i h; have := (HDc4.out.rng i hi).1; omega))
      have HO7 := Lib.hid (keepRow hc7 hg7 (keepRowNo HCH.out HO4.out)).1
      have HC7 := Lib.hid (HDr.out.base (HC4.out.trans HCH.out (fun _ _ h => h)) hc7)
      have hnow : (K.crash (List.replicate j 1)).now = K.now := by
        obtain ⟨bs, bn, v, hd, _⟩ := HD4.out.disk
        show crashF K.sure (List.replicate j 1) K.loose = K.now
        rw [← HM.out.1, crashF_ones hd.sure.len (fun p hp => (hd.rng p hp).2.2), HDK.out.now]
      have HNOW := Lib.hid hnow
      clear hD7 hc7 hg7 hnow HDr HD4 HDc4 HO4 HO HC4
      go_wp2_with fail
      refine (all_any _ g _ F7 w7 HD7.out rfl nn HDK.out.n (by have := HN.out; omega)).mono ?_
      rintro e w8 ⟨v10, rfl, ho8, hc8⟩
      obtain ⟨A10, c10, rfl⟩ := own_slice ho8
      rw [HNOW.out] at ho8
      have HO8 := Lib.hid ho8
      have HDc8 := Lib.hid (HDc7.out.no hc8)
      have HW8 := Lib.hid (ownsRow_chg HO7.out hc8 (fun _ _ h => h))
      have HC8 := Lib.hid (HC7.out.trans hc8 (fun _ _ h => h))
      clear ho8 hc8 HD7 HDc7 HO7 HC7
      go_wp2_with fail
      refine (all_any _ cc K.sync F3 w8 HDc8.out HDK.out.sync_.dark nn HDK.out.sync_.n (by have := HN.out; omega)).mono ?_
      rintro e w9 ⟨v11, rfl, ho9, hc9⟩
      obtain ⟨A11, c11, rfl⟩ := own_slice ho9
      rw [HDK.out.synced.2.2.2] at ho9
      have HO9 := Lib.hid ho9
      have HP9 := Lib.hid (ownsRow_chg HO8.out hc9 (fun _ _ h => h))
      have HW9 := Lib.hid (ownsRow_chg HW8.out hc9 (fun _ _ h => h))
      have HC9 := Lib.hid (HC8.out.trans hc9 (fun _ _ h => h))
      clear ho9 hc9 HO8 HW8 HC8 HDc8
      go_wp2_with fail
      go_loopw [12] (fun i wr => ∃ j : Nat, j ≤ nn ∧ i = .int .i64 j ∧ Chg NoB w9 wr) (fun i _ => nn - (intOf i).toNat)
      case atStart => exact ⟨0, by omega, rfl, Chg.refl _ _⟩
      case round =>
        obtain ⟨j2, hj2, rfl, hch2⟩ := hrel
        have HCH2 := Lib.hid hch2
        clear hch2
        by_cases hlt2 : j2 < nn
        · obtain ⟨ga, rfl, ca⟩ := own_cell (ownsRow_chg HO9.out HCH2.out (fun _ _ h => h)) hlt2
          obtain ⟨gb, rfl, cb⟩ := own_cell (ownsRow_chg HP9.out HCH2.out (fun _ _ h => h)) hlt2
          obtain ⟨gd, rfl, cd⟩ := own_cell (ownsRow_chg HW9.out HCH2.out (fun _ _ h => h)) hlt2
          rw [secs_at K.now hlt2] at ca cb cd
          obtain ⟨arr, harr⟩ : ∃ arr, arr = (K.now (j2 : Int)).toArray := ⟨_, rfl⟩
          rw [← harr] at ca cb cd
          clear harr
          go_wp2_with fail
          go_quiet (fail)
          go_wp2_with fail
          go_roundw
          case rel => exact ⟨j2 + 1, by omega, by simp, HCH2.out.drewN nq⟩
          case measure => simp [intOf]; omega
        · obtain rfl : j2 = nn := by omega
          go_wp2_with fail
          refine (lives_any _).mono ?_
          rintro e w11 ⟨rfl, hc11⟩
          go_wp2_with fail
          go_ret
          exact ⟨rfl, ((HC9.out.trans HCH2.out (fun _ _ h => h)).trans hc11 (fun _ _ h => h)).no⟩
end Go.Proofs.Ytmkbahhnjobglaa
