/-
  THE LAW RecordEndBack, walked.
-/
import Derived.Test.YtgojdkjneggmjaaRecBackMath
import Derived.Test.YtgojdkjneggmjaaRecReadEnds
namespace Go.Proofs.Ytgojdkjneggmjaa
open Go.RowKit FieldM
set_option linter.unusedSimpArgs false
set_option maxRecDepth 100000 in
set_option maxHeartbeats 8000000 in
theorem recordEndBack_walk (a0 : Option Addr) (len0 cap0 : Nat) (z0 : List Int) (c s a : Int) (a4 : Option Addr) (len4 cap4 : Nat) (z4 : List Int) (W : World) (h0 : IsRow .u8 W a0 len0 cap0 z0) (_ : (Lit.int .i64 c).wf = true) (_ : (Lit.int .i64 s).wf = true) (_ : (Lit.int .i64 a).wf = true) (h4 : IsRow .u8 W a4 len4 cap4 z4) (hsum : len0 + len4 ≤ 100000000) :
    Calls Try.prog 6 #[.slice a0 len0 cap0, .int .i64 c, .int .i64 s, .int .i64 a, .slice a4 len4 cap4] W fun e W' => e = .returned (.bool true) ∧ Below W.heap.size W W' := by
  obtain ⟨l, hl, _, hr, _⟩ := h0.rb
  obtain ⟨m, hm, _, hrm, _⟩ := h4.rb
  have HN := Lib.hid hl.symm
  have HM := Lib.hid hm.symm
  have hs0 : len0 ≤ 100000000 := by omega
  have hs4 : len4 ≤ 100000000 := by omega
  have HSUM := Lib.hid hsum
  clear h0 h4 hl hm hsum
  go_enter Try.func6, Try.ntmps6
  go_wp2_with fail
  refine (end_any c s a W).mono ?_
  rintro e w1 ⟨hcase, hc1⟩
  rcases hcase with ⟨hok, v1, rfl, ho1⟩ | ⟨hok, rfl⟩
  · have HOK := Lib.hid hok
    obtain ⟨A1, n1, c1, rfl, hn1, hr1, hnc1, _⟩ := ho1.val
    have hn1' : n1 = 22 := by rw [← hn1, endL_len]
    subst hn1'
    have HN1 := Lib.hid hn1
    have hX := end_read (more := m) hok l
    rw [HN.out, ← List.append_assoc] at hX
    have HX := Lib.hid hX
    have HB1 := Lib.hid hc1.size
    have hcc1 := hc1
    clear hX
    have hr := hr.no hc1
    have hrm := hrm.no hc1
    clear hok ho1 hn1
    go_wp2_with fail
    refine (own_any a0 l len0 cap0 HN.out _ w1 hr (by omega)).mono ?_
    rintro e w2 ⟨⟨v2, rfl, ho2⟩, hc2⟩
    have hr12 := hr1.no hc2
    have hrm2 := hrm.no hc2
    have hcc2 := hc1.trans hc2 (fun _ _ h => h)
    have HB2 := Lib.hid hc2.size
    clear hr hrm hr1 hc1
    go_wp2_with (first
      | (at_builtin; refine wpList_appendB rfl (.tmp 45) (.tmp 46) rfl w1.heap.size v2 l rfl ho2 w1.heap.size A1 22 c1 (endL c s a) HN1.out rfl hr12 (by have h1 := HN.out; have h2 := HN1.out; omega) HB2.out ?_; intro v3 w3 ho3 hg3 _; have hc3 : Chg NoB w1 w3 := hc2.own ho2 hg3 (Nat.le_refl _); have hr13 : RB w3 w1.heap.size A1 (endL c s a) := hr12.grown hg3 HB2.out (fun g h => (ho2.lt g h).1); have hrm3 : RB w3 W.heap.size a4 m := hrm2.grown hg3 (by have := hcc2.size; omega) (fun g h => by have := (ho2.lt g h).1; have := HB1.out; omega); clear hc2 hr12 hrm2 hg3 ho2)
      | (at_builtin; refine wpList_appendB rfl (.tmp 47) (.tmp 48) rfl w1.heap.size v3 (l ++ endL c s a) rfl ho3 W.heap.size a4 len4 cap4 m HM.out rfl hrm3 (by rw [List.length_append]; have h1 := HN.out; have h2 := HN1.out; have h3 := HM.out; omega) hc3.size ?_; intro v4 w4 ho4 hg4 _; have hc4 : Chg NoB w1 w4 := hc3.own ho3 hg4 (Nat.le_refl _); have hr14 : RB w4 w1.heap.size A1 (endL c s a) := hr13.grown hg4 hc3.size (fun g h => (ho3.lt g h).1); obtain ⟨A4, n4, d4, rfl, hn4, hrr4, hmc4, _⟩ := ho4.val; have HN4 := Lib.hid hn4; clear hc3 hr13 hrm3 hg4 ho3 ho4 hn4)
      | fail)
    refine (readend_any A4 _ n4 d4 (len0 : Int) HN4.out _ w4 hrr4 hmc4 (by rw [← HN4.out, List.length_append, List.length_append]; have h1 := HN.out; have h2 := HN1.out; have h3 := HM.out; omega) (Nat.le_refl _)).mono ?_
    rintro e w5 ⟨rfl, hc5⟩
    rw [show readE (l ++ endL c s a ++ m) (len0 : Int) 8 2 = c from HX.out.2.1, show readE (l ++ endL c s a ++ m) (len0 : Int) 12 4 = s from HX.out.2.2.1, show readE (l ++ endL c s a ++ m) (len0 : Int) 16 4 = a from HX.out.2.2.2, show readEF (l ++ endL c s a ++ m) (len0 : Int) = 0 from HX.out.1]
    have hr15 := (hr14.no hc5).take 21
    have hcc5 := hcc1.trans (hc4.trans hc5 (fun _ _ h => h)) (fun _ _ h => h)
    have HB5 := Lib.hid (hc4.trans hc5 (fun _ _ h => h)).size
    clear hc5 hc4 hr14 hrr4
    go_wp2_with fail
    refine (readend_any A1 ((endL c s a).take 21) 21 c1 0 (by rw [List.length_take, HN1.out]; rfl) _ w5 hr15 (by omega) (by decide) HB5.out).mono ?_
    rintro e w6 ⟨rfl, hc6⟩
    obtain ⟨r1, hr1'⟩ : ∃ r, r = readE ((endL c s a).take 21) 0 8 2 := ⟨_, rfl⟩
    obtain ⟨r2, hr2'⟩ : ∃ r, r = readE ((endL c s a).take 21) 0 12 4 := ⟨_, rfl⟩
    obtain ⟨r3, hr3'⟩ : ∃ r, r = readE ((endL c s a).take 21) 0 16 4 := ⟨_, rfl⟩
    rw [end_short ((endL c s a).take 21) (by rw [List.length_take, HN1.out]; rfl), ← hr1', ← hr2', ← hr3']
    clear hr1' hr2' hr3' hr15
    have hcc6 := hcc5.trans hc6 (fun _ _ h => h)
    clear hcc5 hc6
    go_wp2_with ((refine (lives_any _).mono ?_); rintro e w7 ⟨rfl, hc7⟩)
    go_ret
    exact ⟨rfl, (hcc6.trans hc7 (fun _ _ h => h)).no⟩
  · have HOK := Lib.hid hok
    clear hok
    go_wp2_with ((refine (lives_any _).mono ?_); rintro e w3 ⟨rfl, hc3⟩)
    go_ret
    exact ⟨rfl, (hc1.trans hc3 (fun _ _ h => h)).no⟩
end Go.Proofs.Ytgojdkjneggmjaa
