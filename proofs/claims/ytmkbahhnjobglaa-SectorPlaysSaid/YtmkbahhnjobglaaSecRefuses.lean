/-
  THE WALK of SectorRefuses.
-/
import Derived.Test.YtmkbahhnjobglaaSecDone
import Derived.Deep.QuietTactic
namespace Go.Proofs.Ytmkbahhnjobglaa
open Go.RowKit
set_option linter.unusedSimpArgs false
set_option linter.unusedVariables false
theorem own_cell {w : World} {base n c : Nat} {t : TypeId} {A : Option Addr} {xs : List Value} (h : w.ownsRow base t 1 (.slice A n c) n xs) {j : Nat} (hj : j < n) : ∃ g, A = some ⟨g, 0, none⟩ ∧ w.cell? ⟨g, j, none⟩ = xs[j]? := by
  rcases h.2 with ⟨_, h0⟩ | ⟨g, cap, cur, hv, hb, hg, hnc, hm, hs, ht⟩
  · omega
  · injection hv with h1 h2 h3
    refine ⟨g, h1, ?_⟩
    rw [(show Blk w g t cur from hg).cell j, ← ht, List.getElem?_take, if_pos (by omega)]; simp
theorem secs_at (f : Int → List UInt8) {n j : Nat} (hj : j < n) : (secs f n)[j]? = some (.string ⟨(f (j : Int)).toArray⟩) := by
  simp [secs, hj, strV]
theorem keepRow {F F' : Nat → Prop} {w w' : World} {base n size : Nat} {t : TypeId} {v : Value} {xs : List Value} (hc : Chg F w w') (hg : ∀ i, F' i → F i ∨ w.heap.size ≤ i) (h : w.ownsRow base t size v n xs ∧ ∀ j, v.ownBlock = some j → ¬ F j) : w'.ownsRow base t size v n xs ∧ ∀ j, v.ownBlock = some j → ¬ F' j :=
  ⟨ownsRow_chg h.1 hc h.2, fun j e hf => (hg j hf).elim (h.2 j e) (fun h2 => by have := (h.1.lt j e).2; omega)⟩
theorem keepRowNo {F : Nat → Prop} {w w' : World} {base n size : Nat} {t : TypeId} {v : Value} {xs : List Value} (hc : Chg NoB w w') (h : w.ownsRow base t size v n xs ∧ ∀ j, v.ownBlock = some j → ¬ F j) : w'.ownsRow base t size v n xs ∧ ∀ j, v.ownBlock = some j → ¬ F j :=
  ⟨ownsRow_chg h.1 hc (fun _ _ h => h), h.2⟩
theorem armed_sync {K : Dk} (hd : K.dark = false) : syncE (K.armed 1) = 0 ∧ syncE (K.armed 1).sync = 6 ∧ (K.armed 1).sync.loose = [] := by
  have h1 : ¬ (K.armed 1).dark = true := by show ¬ K.dark = true; rw [hd]; decide
  have h2 : ¬ (K.armed 1).fuse = 0 := by show ¬ max (0 : Int) 1 = 0; decide
  refine ⟨if_neg (fun h => h.elim h1 h2), if_pos (.inr ?_), ?_⟩
  all_goals
    unfold Dk.sync
    rw [if_neg h1, if_neg h2]
  rfl
set_option maxRecDepth 100000 in
set_option maxHeartbeats 8000000 in
theorem sectorRefuses_walk (A : Option Addr) (k c : Nat) (l : List ActV) (i long : Int) (W : World) (hA : Acts W W.heap.size A k l) (_ : (Lit.int .i64 i).wf = true) (hlw : (Lit.int .i64 long).wf = true) :
    Calls Try.prog 6 #[.slice A k c, .int .i64 i, .int .i64 long] W fun e W' => e = .returned (.bool true) ∧ Below W.heap.size W W' := by
  have HA := Lib.hid hA
  clear hA
  by_cases hk : k ≤ 40
  rotate_left
  · go_enter Try.func6, Try.ntmps6
    go_wp2_with fail
    refine (lives_any W).mono ?_
    rintro e w1 ⟨rfl, hc1⟩
    go_wp2_with fail
    go_ret
    exact ⟨rfl, hc1.no⟩
  have HDK := Lib.hid ((DOk.done_ 7 l).more (show l.length ≤ 40 from by rw [HA.out.1]; exact hk))
  obtain ⟨K, hK⟩ : ∃ K, K = doneK 7 l := ⟨_, rfl⟩
  have hdn := done_any 7 A k c l W HA.out (by decide) (by decide) hk
  rw [← hK] at hdn HDK
  have HDN := Lib.hid hdn
  clear hdn hK
  go_enter Try.func6, Try.ntmps6
  go_wp2_with fail
  refine HDN.out.mono ?_
  rintro e w1 ⟨g, F1, rfl, hD1, hc1⟩
  have HD1 := Lib.hid hD1
  have HC1 := Lib.hid hc1
  clear hD1 hc1 HDN
  -- was
  go_wp2_with fail
  refine (all_any _ g K F1 w1 HD1.out HDK.out.dark 7 HDK.out.n (by decide)).mono ?_
  rintro e w2 ⟨v8, rfl, ho2, hc2⟩
  obtain ⟨A8, c8, rfl⟩ := own_slice ho2
  have HO2 := Lib.hid (show w2.ownsRow w1.heap.size 9 1 (.slice A8 7 c8) 7 (secs K.now 7) ∧ ∀ j, (Value.slice A8 7 c8).ownBlock = some j → ¬ F1 j from ⟨ho2, fun j e h => by have := (ho2.lt j e).1; have := (HD1.out.rng _ h).2; omega⟩)
  have HD2 := Lib.hid (HD1.out.no hc2)
  have HC2 := Lib.hid (HC1.out.trans hc2 (fun _ _ h => h))
  clear ho2 hc2 HD1 HC1
  go_wp2_with fail
  refine HD2.out.disk.loose_.mono ?_
  rintro e w3 ⟨rfl, rfl⟩
  go_wp2_with fail
  -- Fuse
  refine (HD2.out.fuse_ HC2.out.size 1 (by decide)).mono ?_
  rintro e w4 ⟨⟨v4, rfl⟩, F4, hD4, hc4, hg4⟩
  have HD4 := Lib.hid hD4
  have HC4 := Lib.hid (HD2.out.base HC2.out hc4)
  have HO4 := Lib.hid (keepRow hc4 hg4 HO2.out)
  clear hD4 hc4 hg4 HD2 HC2 HO2
  -- filled
  have hf4 := filled_any 1 long w4
  obtain ⟨NN, hNN⟩ : ∃ NN, NN = fillN long := ⟨_, rfl⟩
  rw [← hNN] at hf4
  have HF4 := Lib.hid hf4
  clear hf4 hNN
  go_wp2_with fail
  refine HF4.out.mono ?_
  rintro e w5 ⟨b5, rfl, _, hb5, hc5⟩
  have HR5 := Lib.hid (blk_RB hb5)
  have HD5 := Lib.hid (HD4.out.no hc5)
  have HC5 := Lib.hid (HC4.out.trans hc5 (fun _ _ h => h))
  have HO5 := Lib.hid (keepRowNo hc5 HO4.out)
  clear hb5 hc5 HD4 HC4 HO4 HF4
  by_cases hok : 0 ≤ i ∧ i < 7 ∧ NN = 512
  · obtain ⟨hi0, hi1, hN⟩ := hok
    have hN2 : (NN : Int) = 512 := by omega
    go_wp2_with fail
    refine (lives_any w5).mono ?_
    rintro e w6 ⟨rfl, hc6⟩
    go_wp2_with fail
    go_ret
    exact ⟨rfl, (HC5.out.trans hc6 (fun _ _ h => h)).no⟩
  have hwb : wBad (K.armed 1) i (fillL 1 NN) := by
    unfold wBad
    rw [fillL_len, show (K.armed 1).n = 7 from HDK.out.n]
    omega
  have hwe : writeE (K.armed 1) i (fillL 1 NN) = 2 ∧ (K.armed 1).write i (fillL 1 NN) = K.armed 1 := ⟨if_pos hwb, if_pos (.inl hwb)⟩
  have HWE := Lib.hid hwe
  clear hwb hwe
  have hcase : (¬ 0 ≤ i) ∨ (0 ≤ i ∧ ¬ i < 7) ∨ (0 ≤ i ∧ i < 7 ∧ ¬ (NN : Int) = 512) := by omega
  clear hok
  rcases hcase with h1 | ⟨h1, h2⟩ | ⟨h1, h2, h3⟩
  all_goals
    go_wp2_with fail
    refine (HD5.out.write_ HC5.out.size i NN (fillL_len 1 NN) HR5.out (fun ad e => by cases e; rfl) (Nat.le_trans HDK.out.loose (by decide))).mono ?_
    rintro e w6 ⟨rfl, F6, hD6, hc6, hg6⟩
    rw [HWE.out.2] at hD6
    rw [HWE.out.1]
    have HD6 := Lib.hid hD6
    have HC6 := Lib.hid (HD5.out.base HC5.out hc6)
    have HO6 := Lib.hid (keepRow hc6 hg6 HO5.out)
    clear hD6 hc6 hg6 HD5 HC5 HO5
    go_wp2_with fail
    refine HD6.out.disk.loose_.mono ?_
    rintro e w7 ⟨rfl, rfl⟩
    rw [show (K.armed 1).loose = K.loose from rfl]
    go_wp2_with fail
    refine HD6.out.disk.dark_.mono ?_
    rintro e w7 ⟨rfl, rfl⟩
    rw [show (K.armed 1).dark = K.dark from rfl, HDK.out.dark]
    go_wp2_with fail
    refine (all_any _ g (K.armed 1) F6 w7 HD6.out HDK.out.dark 7 HDK.out.n (by decide)).mono ?_
    rintro e w8 ⟨v11, rfl, ho8, hc8⟩
    obtain ⟨A11, c11, rfl⟩ := own_slice ho8
    have HO8 := Lib.hid (show w8.ownsRow w7.heap.size 9 1 (.slice A11 7 c11) 7 (secs K.now 7) from ho8)
    have HW8 := Lib.hid (keepRowNo hc8 HO6.out).1
    have HD8 := Lib.hid (HD6.out.no hc8)
    have HC8 := Lib.hid (HC6.out.trans hc8 (fun _ _ h => h))
    clear ho8 hc8 HD6 HC6 HO6
    go_wp2_with fail
    go_loopw [12] (fun i wr => ∃ j : Nat, j ≤ 7 ∧ i = .int .i64 j ∧ Chg NoB w8 wr) (fun i _ => 7 - (intOf i).toNat)
    case atStart => exact ⟨0, by omega, rfl, Chg.refl _ _⟩
    case round =>
      obtain ⟨j, hj, rfl, hch⟩ := hrel
      have HCH := Lib.hid hch
      clear hch
      by_cases hlt : j < 7
      · obtain ⟨ga, rfl, ca⟩ := own_cell (ownsRow_chg HO8.out HCH.out (fun _ _ h => h)) hlt
        obtain ⟨gb, rfl, cb⟩ := own_cell (ownsRow_chg HW8.out HCH.out (fun _ _ h => h)) hlt
        rw [secs_at K.now hlt] at ca cb
        obtain ⟨arr, harr⟩ : ∃ arr, arr = (K.now (j : Int)).toArray := ⟨_, rfl⟩
        rw [← harr] at ca cb
        clear harr
        go_wp2_with fail
        go_quiet (fail)
        go_wp2_with fail
        go_roundw
        case rel => exact ⟨j + 1, by omega, by simp, HCH.out.drewN nq⟩
        case measure => simp [intOf]; omega
      · obtain rfl : j = 7 := by omega
        go_wp2_with fail
        have HDr := Lib.hid (HD8.out.no HCH.out)
        have HCr := Lib.hid (HC8.out.trans HCH.out (fun _ _ h => h))
        clear HD8 HC8 HCH
        refine (HDr.out.sync_ HCr.out.size (Nat.le_trans HDK.out.loose (by decide))).mono ?_
        rintro e w9 ⟨rfl, F9, hD9, hc9, _⟩
        rw [(armed_sync HDK.out.dark).1]
        have HD9 := Lib.hid hD9
        have HC9 := Lib.hid (HDr.out.base HCr.out hc9)
        clear hD9 hc9 HDr HCr
        go_wp2_with fail
        refine (HD9.out.sync_ HC9.out.size (by rw [(armed_sync HDK.out.dark).2.2]; exact Nat.zero_le _)).mono ?_
        rintro e w10 ⟨rfl, F10, hD10, hc10, _⟩
        rw [(armed_sync HDK.out.dark).2.1]
        have HC10 := Lib.hid (HD9.out.base HC9.out hc10)
        clear hD10 hc10 HD9 HC9
        go_wp2_with fail
        refine (lives_any w10).mono ?_
        rintro e w11 ⟨rfl, hc11⟩
        go_wp2_with fail
        go_ret
        exact ⟨rfl, (HC10.out.trans hc11 (fun _ _ h => h)).no⟩
end Go.Proofs.Ytmkbahhnjobglaa
