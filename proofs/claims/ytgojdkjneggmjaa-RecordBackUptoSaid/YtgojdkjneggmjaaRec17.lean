/-
  THE WALKS of the reference's get2, get4, begin and zero.
-/
import Derived.Test.YtgojdkjneggmjaaRec16
namespace Go.Proofs.Ytgojdkjneggmjaa
open Go.RowKit FieldM
set_option linter.unusedSimpArgs false
set_option maxRecDepth 100000 in
set_option maxHeartbeats 1000000 in
theorem rg2_any (A : Option Addr) (x : List UInt8) (n c : Nat) (p : Int) (hn : x.length = n) (B : Nat) (w : World) (hr : RB w B A x) (hc : n ≤ c) (hb : n ≤ 140737488355328) :
    Calls Try.prog 43 #[.slice A n c, .int .i64 p] w fun e w' => e = .returned (.int .i64 (getL x p 2)) ∧ Chg NoB w w' := by
  have HN := Lib.hid hn
  clear hn
  go_enter Try.func43, Try.ntmps43
  go_wp2_with fail
  refine (rget2_any A x n c p HN.out B _ hr hc hb).mono ?_
  rintro e w1 ⟨rfl, hc1⟩
  go_wp2_with fail
  go_ret
  exact ⟨rfl, hc1⟩
set_option maxRecDepth 100000 in
set_option maxHeartbeats 1000000 in
theorem rg4_any (A : Option Addr) (x : List UInt8) (n c : Nat) (p : Int) (hn : x.length = n) (B : Nat) (w : World) (hr : RB w B A x) (hc : n ≤ c) (hb : n ≤ 140737488355328) :
    Calls Try.prog 44 #[.slice A n c, .int .i64 p] w fun e w' => e = .returned (.int .i64 (getL x p 4)) ∧ Chg NoB w w' := by
  have HN := Lib.hid hn
  clear hn
  go_enter Try.func44, Try.ntmps44
  go_wp2_with fail
  refine (rget4_any A x n c p HN.out B _ hr hc hb).mono ?_
  rintro e w1 ⟨rfl, hc1⟩
  go_wp2_with fail
  go_ret
  exact ⟨rfl, hc1⟩
def BegPost (w : World) (B : Nat) (l : List UInt8) (p : Int) (long : Nat) (e : Ending) (w' : World) : Prop :=
  (∃ A' c', e = .returned (.tuple #[.slice A' (lookX l p long).length c', .int .i64 (cutErr l.length p long)]) ∧ RB w B A' (lookX l p long) ∧ (lookX l p long).length ≤ c') ∧ w' = w
set_option maxRecDepth 100000 in
set_option maxHeartbeats 2000000 in
theorem begin_any (A : Option Addr) (l : List UInt8) (n c : Nat) (p : Int) (long : Nat) (hn : l.length = n) (B : Nat) (w : World) (hr : RB w B A l) (hc : n ≤ c) (hb : n ≤ 140737488355328) (hl5 : long ≤ 100) :
    Calls Try.prog 41 #[.slice A n c, .int .i64 p, .int .i64 long] w (BegPost w B l p long) := by
  have HN := Lib.hid hn
  by_cases h0 : p < 0 ∨ (n : Int) < p
  · have he : cutErr l.length p long = 2 := cutErr_arg (by rw [hn]; omega)
    have HE := Lib.hid he
    clear he hn
    go_enter Try.func41, Try.ntmps41
    go_wp2_with fail
    all_goals first
      | (go_ret2
         have hX : lookX l p long = [] := by unfold lookX; rw [if_neg (by rw [HE.out]; decide)]
         exact ⟨⟨none, 0, by rw [hX, HE.out]; rfl, by rw [hX]; exact RB.none_, by rw [hX]; simp⟩, rfl⟩)
      | (exfalso; omega)
      | go_goals
  · by_cases h1 : (n : Int) - p < long
    · have he : cutErr l.length p long = 4 := cutErr_short (by rw [hn]; omega) (by rw [hn]; exact h1)
      have HE := Lib.hid he
      clear he hn
      go_enter Try.func41, Try.ntmps41
      go_wp2_with fail
      all_goals first
        | (go_ret2
           have hX : lookX l p long = [] := by unfold lookX; rw [if_neg (by rw [HE.out]; decide)]
           exact ⟨⟨none, 0, by rw [hX, HE.out]; rfl, by rw [hX]; exact RB.none_, by rw [hX]; simp⟩, rfl⟩)
        | (exfalso; omega)
        | go_goals
    · obtain ⟨p', rfl⟩ := Int.eq_ofNat_of_zero_le (show 0 ≤ p by omega)
      have he : cutErr l.length p' long = 0 := cutErr_ok (by rw [hn]; omega) (by rw [hn]; exact h1)
      have HE := Lib.hid he
      obtain ⟨m, hm⟩ : ∃ m, p' + m = n := ⟨n - p', by omega⟩
      obtain ⟨A1, c1, hs1, hr1, hc1⟩ := run_slice1 hr n c p' m hn hc hm
      have hn1 : (l.drop p').length = m := by rw [List.length_drop]; omega
      have HN1 := Lib.hid hn1
      clear he hn hn1
      go_enter Try.func41, Try.ntmps41
      go_wp2_with fail
      all_goals first
        | (go_ret2
           have hX : lookX l p' long = l.drop p' := by unfold lookX; rw [if_pos HE.out]; rfl
           exact ⟨⟨A1, c1, by rw [hX, HE.out, HN1.out]; rfl, by rw [hX]; exact hr1, by rw [hX, HN1.out]; exact hc1⟩, rfl⟩)
        | (exfalso; omega)
        | go_goals
def allZ (x : List UInt8) (zs : List Int) : Bool := zs.all fun z => getL x z 2 == 0
theorem allZ_take (x : List UInt8) (zs : List Int) (j : Nat) (hj : j < zs.length) : allZ x (zs.take (j + 1)) = (allZ x (zs.take j) && (getL x zs[j] 2 == 0)) := by
  unfold allZ; rw [List.take_succ_eq_append_getElem hj, List.all_append, List.all_cons, List.all_nil, Bool.and_true]
theorem allZ_bad (x : List UInt8) (zs : List Int) (j : Nat) (hj : j < zs.length) (h : (getL x zs[j] 2 == 0) = false) : allZ x zs = false := by
  unfold allZ
  rw [List.all_eq_false]
  exact ⟨zs[j], List.getElem_mem hj, by simpa using h⟩
set_option maxRecDepth 100000 in
set_option maxHeartbeats 2000000 in
theorem zero_any (A : Option Addr) (x : List UInt8) (n c : Nat) (zs : List Int) (k : Nat) (s : Nat) (hn : x.length = n) (hk : zs.length = k) (hk2 : k ≤ 1000) (B : Nat) (w : World) (hr : RB w B A x) (hc : n ≤ c) (hb : n ≤ 140737488355328)
    (hs : Blk w s 3 (zs.map (Value.int .i64)).toArray) :
    Calls Try.prog 42 #[.slice A n c, .slice (some ⟨s, 0, none⟩) k k] w fun e w' => e = .returned (.bool (allZ x zs)) ∧ Chg NoB w w' := by
  have HN := Lib.hid hn
  have HK := Lib.hid hk
  have HS := Lib.hid hs
  have HR := Lib.hid hr
  clear hn hk hs hr
  go_enter Try.func42, Try.ntmps42
  go_wp2_with fail
  go_loopw [5] (fun i wr => ∃ j : Nat, j ≤ k ∧ i = .int .i64 j ∧ allZ x (zs.take j) = true ∧ Chg NoB w wr) (fun i _ => k - (intOf i).toNat)
  case atStart => exact ⟨0, Nat.zero_le _, rfl, rfl, Chg.refl _ _⟩
  case round =>
    obtain ⟨j, hj, rfl, hz, hch⟩ := hrel
    by_cases hlt : j < k
    · obtain ⟨z, hzz⟩ : ∃ z, z = zs[j]'(by rw [HK.out]; exact hlt) := ⟨_, rfl⟩
      have hcx : wr.cell? ⟨s, j, none⟩ = some (.int .i64 z) := by
        have h1 := (HS.out.chg hch (fun h => h)).cell j
        rw [h1, hzz]; simp [HK.out, hlt]
      have hr1 := HR.out.no hch
      have hat := allZ_take x zs j (by rw [HK.out]; exact hlt)
      have hab := allZ_bad x zs j (by rw [HK.out]; exact hlt)
      rw [← hzz] at hat hab
      obtain ⟨v, hv⟩ : ∃ v, getL x z 2 = v := ⟨_, rfl⟩
      rw [hz, hv] at hat
      rw [hv] at hab
      have HAT := Lib.hid hat
      have HAB := Lib.hid hab
      have HV := Lib.hid hv
      clear hzz hz hat hab hv
      by_cases h0 : v = 0
      · subst h0
        go_wp2_with fail
        refine (rg2_any A x n c z HN.out B _ hr1 hc hb).mono ?_
        rw [HV.out]
        rintro e w1 ⟨rfl, hc1⟩
        go_wp2_with fail
        go_roundw
        case rel => exact ⟨j + 1, by omega, by simp, by rw [HAT.out]; rfl, hch.trans hc1 (fun _ _ h => h)⟩
        case measure => simp [intOf]; omega
      · have h1 : (v != 0) = true := by simpa using h0
        have h2 : (v == 0) = false := by simpa using h0
        have H2 := Lib.hid h2
        clear h0
        go_wp2_with fail
        refine (rg2_any A x n c z HN.out B _ hr1 hc hb).mono ?_
        rw [HV.out]
        rintro e w1 ⟨rfl, hc1⟩
        go_wp2_with fail
        go_ret
        exact ⟨by rw [HAB.out H2.out]; rfl, hch.trans hc1 (fun _ _ h => h)⟩
    · obtain rfl : j = k := by omega
      have HZ := Lib.hid hz
      clear hz
      go_wp2_with fail
      go_ret
      have h1 := HZ.out
      rw [List.take_of_length_le (by rw [HK.out]; omega)] at h1
      exact ⟨by rw [h1]; rfl, hch⟩
end Go.Proofs.Ytgojdkjneggmjaa
