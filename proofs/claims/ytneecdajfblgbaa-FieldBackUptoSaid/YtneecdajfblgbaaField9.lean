/-
  THE WALK of the law FieldBack, where the two slices together are small.
-/
import Derived.Test.YtneecdajfblgbaaField8
namespace Go.Proofs.Ytneecdajfblgbaa
open Go.RowKit FieldM
theorem put_yes {l : List UInt8} {x : Int} {k : Nat} (h : 0 ≤ x ∧ x < (256 : Int) ^ k) : putErr x k = 0 ∧ putL l x k = l ++ leB x.toNat k := by
  have e : putErr x k = 0 := by unfold putErr; rw [if_pos h]
  exact ⟨e, by unfold putL; rw [e]; rfl⟩
theorem put_not {l : List UInt8} {x : Int} {k : Nat} (h : ¬ (0 ≤ x ∧ x < (256 : Int) ^ k)) : putErr x k = 2 ∧ putL l x k = [] := by
  have e : putErr x k = 2 := by unfold putErr; rw [if_neg h]
  exact ⟨e, by unfold putL; rw [e]; rfl⟩
theorem back_get {l m : List UInt8} {x : Int} {k n : Nat} (K : Int) (hK : (k : Int) = K) (hn : l.length = n) (h : 0 ≤ x ∧ x < (256 : Int) ^ k) :
    getL (l ++ leB x.toNat k ++ m) n K = x ∧ cutErr ((l ++ leB x.toNat k ++ m).length : Nat) n K = 0 := by
  subst hK
  have hl := leB_len x.toNat k
  have hp := pieceL_ok (l := l ++ leB x.toNat k ++ m) (p := n) (m := k) (by simp [hl]; omega)
  refine ⟨?_, hp.2⟩
  unfold getL
  rw [hp.1, List.append_assoc, ← hn, List.drop_left, List.take_left' hl, le_leB]
  have : x.toNat % 256 ^ k = x.toNat := Nat.mod_eq_of_lt (by
    have h2 : (x.toNat : Int) < ((256 ^ k : Nat) : Int) := by rw [Int.toNat_of_nonneg h.1]; simpa using h.2
    exact Int.ofNat_lt.1 h2)
  rw [this, Int.toNat_of_nonneg h.1]
set_option maxRecDepth 100000 in
set_option maxHeartbeats 8000000 in
theorem fieldBack_walk (a0 : Option Addr) (len0 cap0 : Nat) (z0 : List Int) (x : Int) (a2 : Option Addr) (len2 cap2 : Nat) (z2 : List Int) (w : World) (w0 : IsRow .u8 w a0 len0 cap0 z0) (wx : (Lit.int .i64 x).wf = true) (w2 : IsRow .u8 w a2 len2 cap2 z2) (hsum : len0 + len2 ≤ 100000000) :
    Calls Try.prog 4 #[.slice a0 len0 cap0, .int .i64 x, .slice a2 len2 cap2] w fun e w' => e = .returned (.bool true) ∧ Below w.heap.size w w' := by
  obtain ⟨l, hln, _, hr, _⟩ := w0.rb
  obtain ⟨m, hmn, _, hrm, _⟩ := w2.rb
  have HLN := Lib.hid hln.symm
  have HM := Lib.hid hmn.symm
  have hx : -9223372036854775808 ≤ x ∧ x ≤ 9223372036854775807 := by
    simpa [Lit.wf, IntKind.min, IntKind.max, IntKind.bits, IntKind.signed] using wx
  have HX := Lib.hid hx
  clear hx wx w0 w2 hln hmn
  by_cases h0 : x < 0
  · have P4 := Lib.hid (put_not (l := l) (k := 4) (x := x) (by omega))
    have P2 := Lib.hid (put_not (l := l) (k := 2) (x := x) (by omega))
    have d0 : decide (0 ≤ x) = false := by simpa using h0
    go_enter Try.func4, Try.ntmps4
    go_wp2_with fail
    refine (put4_any a0 l len0 cap0 x HLN.out _ _ hr (by omega) HX.out).mono ?_
    rintro e w1 ⟨⟨v4, rfl, ho4⟩, hcc⟩
    rw [P4.out.1]
    rw [P4.out.2] at ho4
    go_wp2_with fail
    refine (put2_any a0 l len0 cap0 x HLN.out _ _ (hr.no hcc) (by omega) HX.out).mono ?_
    rintro e w2 ⟨⟨v2, rfl, ho2⟩, hc2⟩
    rw [P2.out.1]
    rw [P2.out.2] at ho2
    have ho4 := ho4.chg hc2 (fun _ _ h => h)
    have hcc := hcc.trans hc2 (fun _ _ h => h)
    clear hc2
    clear ho4
    clear ho2
    go_wp2_with fail
    refine (fieldLives_any _).mono ?_
    rintro e w9 ⟨rfl, hc9⟩
    go_wp2_with fail
    go_ret
    exact ⟨rfl, (hcc.trans hc9 (fun _ _ h => h)).no⟩
  have d0 : decide (0 ≤ x) = true := by simp; omega
  by_cases h2 : 4294967295 < x
  · have P4 := Lib.hid (put_not (l := l) (k := 4) (x := x) (by omega))
    have P2 := Lib.hid (put_not (l := l) (k := 2) (x := x) (by omega))
    have d4 : decide (x ≤ 4294967295) = false := by simpa using h2
    have d2 : decide (x ≤ 65535) = false := by simp; omega
    go_enter Try.func4, Try.ntmps4
    go_wp2_with fail
    refine (put4_any a0 l len0 cap0 x HLN.out _ _ hr (by omega) HX.out).mono ?_
    rintro e w1 ⟨⟨v4, rfl, ho4⟩, hcc⟩
    rw [P4.out.1]
    rw [P4.out.2] at ho4
    go_wp2_with fail
    refine (put2_any a0 l len0 cap0 x HLN.out _ _ (hr.no hcc) (by omega) HX.out).mono ?_
    rintro e w2 ⟨⟨v2, rfl, ho2⟩, hc2⟩
    rw [P2.out.1]
    rw [P2.out.2] at ho2
    have ho4 := ho4.chg hc2 (fun _ _ h => h)
    have hcc := hcc.trans hc2 (fun _ _ h => h)
    clear hc2
    clear ho4
    clear ho2
    go_wp2_with fail
    refine (fieldLives_any _).mono ?_
    rintro e w9 ⟨rfl, hc9⟩
    go_wp2_with fail
    go_ret
    exact ⟨rfl, (hcc.trans hc9 (fun _ _ h => h)).no⟩
  have d4 : decide (x ≤ 4294967295) = true := by simp; omega
  have P4 := Lib.hid (put_yes (l := l) (k := 4) (x := x) (by omega))
  have G4 := Lib.hid (back_get (m := m) (k := 4) (x := x) 4 rfl HLN.out (by omega))
  by_cases h1 : 65535 < x
  · have P2 := Lib.hid (put_not (l := l) (k := 2) (x := x) (by omega))
    have d2 : decide (x ≤ 65535) = false := by simpa using h1
    go_enter Try.func4, Try.ntmps4
    go_wp2_with fail
    refine (put4_any a0 l len0 cap0 x HLN.out _ _ hr (by omega) HX.out).mono ?_
    rintro e w1 ⟨⟨v4, rfl, ho4⟩, hcc⟩
    rw [P4.out.1]
    rw [P4.out.2] at ho4
    go_wp2_with fail
    refine (put2_any a0 l len0 cap0 x HLN.out _ _ (hr.no hcc) (by omega) HX.out).mono ?_
    rintro e w2 ⟨⟨v2, rfl, ho2⟩, hc2⟩
    rw [P2.out.1]
    rw [P2.out.2] at ho2
    have ho4 := ho4.chg hc2 (fun _ _ h => h)
    have hcc := hcc.trans hc2 (fun _ _ h => h)
    clear hc2
    obtain ⟨A4, n4, c4, rfl, hn4, hr4, hnc4, _⟩ := ho4.val
    have hne4 : ((n4 : Int) != (len0 : Int) + 4) = false := by
      have : n4 = len0 + 4 := by rw [← hn4, List.length_append, leB_len, HLN.out]
      rw [this]; simp
    have hbn4 : n4 ≤ len0 + 4 := by rw [← hn4, List.length_append, leB_len, HLN.out]; exact Nat.le_refl _
    have HN4 := Lib.hid hn4
    clear ho4 hn4
    clear ho2
    have hz4 := hcc.size
    have hrs4 := hr4
    have ho0 : OwnB (w2.alloc (.cells #[] 5)) w2.heap.size (.slice (some ⟨w2.heap.size, 0, none⟩) 0 0) [] := OwnB.made w2 #[] (Nat.le_refl _) (by simp)
    go_wp2_with (first
      | (at_builtin; refine wpList_appendB rfl (.tmp 30) (.tmp 31) rfl w2.heap.size _ [] rfl ho0 w2.heap.size A4 n4 c4 _ HN4.out rfl (hrs4.here.alloc (Nat.le_refl _) _) (by rw [HN4.out]; simp; omega) (by simp) ?_; intro x1 y1 hx1 hg1 he1; have hy1 : Chg NoB w2 y1 := ((Chg.refl NoB w2).alloc _).own ho0 hg1 (Nat.le_refl _); clear ho0 hg1 he1; rw [List.nil_append] at hx1)
      | (at_builtin; refine wpList_appendB rfl (.tmp 32) (.tmp 33) rfl w2.heap.size x1 _ rfl hx1 _ a2 len2 cap2 m HM.out rfl ((hrm.no hcc).no hy1) (by rw [HN4.out, HM.out]; omega) hy1.size ?_; intro x2 y2 hx2 hg2 he2; have hy2 : Chg NoB w2 y2 := hy1.own hx1 hg2 (Nat.le_refl _); clear hx1 hg2 he2 hy1; obtain ⟨B4, m4, d4, rfl, hm4, hrr4, hmc4, _⟩ := hx2.val; have HMM4 := Lib.hid hm4; clear hx2 hm4)
      | fail)
    refine (get4_any B4 _ m4 d4 len0 HMM4.out _ _ hrr4 (by omega) (by rw [← HMM4.out]; rw [List.length_append, HN4.out, HM.out]; omega)).mono ?_
    rintro e z4 ⟨rfl, hcz⟩
    rw [G4.out.1, ← HMM4.out, G4.out.2]
    have hcb := hy2.trans hcz (fun _ _ h => h)
    have hcc := hcc.trans hcb (fun _ _ h => h)
    go_wp2_with fail
    refine (fieldLives_any _).mono ?_
    rintro e w9 ⟨rfl, hc9⟩
    go_wp2_with fail
    go_ret
    exact ⟨rfl, (hcc.trans hc9 (fun _ _ h => h)).no⟩
  · have P2 := Lib.hid (put_yes (l := l) (k := 2) (x := x) (by omega))
    have G2 := Lib.hid (back_get (m := m) (k := 2) (x := x) 2 rfl HLN.out (by omega))
    have d2 : decide (x ≤ 65535) = true := by simp; omega
    go_enter Try.func4, Try.ntmps4
    go_wp2_with fail
    refine (put4_any a0 l len0 cap0 x HLN.out _ _ hr (by omega) HX.out).mono ?_
    rintro e w1 ⟨⟨v4, rfl, ho4⟩, hcc⟩
    rw [P4.out.1]
    rw [P4.out.2] at ho4
    go_wp2_with fail
    refine (put2_any a0 l len0 cap0 x HLN.out _ _ (hr.no hcc) (by omega) HX.out).mono ?_
    rintro e w2 ⟨⟨v2, rfl, ho2⟩, hc2⟩
    rw [P2.out.1]
    rw [P2.out.2] at ho2
    have ho4 := ho4.chg hc2 (fun _ _ h => h)
    have hcc := hcc.trans hc2 (fun _ _ h => h)
    clear hc2
    obtain ⟨A4, n4, c4, rfl, hn4, hr4, hnc4, _⟩ := ho4.val
    have hne4 : ((n4 : Int) != (len0 : Int) + 4) = false := by
      have : n4 = len0 + 4 := by rw [← hn4, List.length_append, leB_len, HLN.out]
      rw [this]; simp
    have hbn4 : n4 ≤ len0 + 4 := by rw [← hn4, List.length_append, leB_len, HLN.out]; exact Nat.le_refl _
    have HN4 := Lib.hid hn4
    clear ho4 hn4
    obtain ⟨A2, n2, c2, rfl, hn2, hr2, hnc2, _⟩ := ho2.val
    have hne2 : ((n2 : Int) != (len0 : Int) + 2) = false := by
      have : n2 = len0 + 2 := by rw [← hn2, List.length_append, leB_len, HLN.out]
      rw [this]; simp
    have hbn2 : n2 ≤ len0 + 2 := by rw [← hn2, List.length_append, leB_len, HLN.out]; exact Nat.le_refl _
    have HN2 := Lib.hid hn2
    clear ho2 hn2
    have hz4 := hcc.size
    have hrs4 := hr4
    have ho0 : OwnB (w2.alloc (.cells #[] 5)) w2.heap.size (.slice (some ⟨w2.heap.size, 0, none⟩) 0 0) [] := OwnB.made w2 #[] (Nat.le_refl _) (by simp)
    go_wp2_with (first
      | (at_builtin; refine wpList_appendB rfl (.tmp 30) (.tmp 31) rfl w2.heap.size _ [] rfl ho0 w2.heap.size A4 n4 c4 _ HN4.out rfl (hrs4.here.alloc (Nat.le_refl _) _) (by rw [HN4.out]; simp; omega) (by simp) ?_; intro x1 y1 hx1 hg1 he1; have hy1 : Chg NoB w2 y1 := ((Chg.refl NoB w2).alloc _).own ho0 hg1 (Nat.le_refl _); clear ho0 hg1 he1; rw [List.nil_append] at hx1)
      | (at_builtin; refine wpList_appendB rfl (.tmp 32) (.tmp 33) rfl w2.heap.size x1 _ rfl hx1 _ a2 len2 cap2 m HM.out rfl ((hrm.no hcc).no hy1) (by rw [HN4.out, HM.out]; omega) hy1.size ?_; intro x2 y2 hx2 hg2 he2; have hy2 : Chg NoB w2 y2 := hy1.own hx1 hg2 (Nat.le_refl _); clear hx1 hg2 he2 hy1; obtain ⟨B4, m4, d4, rfl, hm4, hrr4, hmc4, _⟩ := hx2.val; have HMM4 := Lib.hid hm4; clear hx2 hm4)
      | fail)
    refine (get4_any B4 _ m4 d4 len0 HMM4.out _ _ hrr4 (by omega) (by rw [← HMM4.out]; rw [List.length_append, HN4.out, HM.out]; omega)).mono ?_
    rintro e z4 ⟨rfl, hcz⟩
    rw [G4.out.1, ← HMM4.out, G4.out.2]
    have hcb := hy2.trans hcz (fun _ _ h => h)
    have hcc := hcc.trans hcb (fun _ _ h => h)
    clear hrr4
    have hz2 := hcc.size
    have hrs2 := hr2.no hcb
    have ho0 : OwnB (z4.alloc (.cells #[] 5)) z4.heap.size (.slice (some ⟨z4.heap.size, 0, none⟩) 0 0) [] := OwnB.made z4 #[] (Nat.le_refl _) (by simp)
    go_wp2_with (first
      | (at_builtin; refine wpList_appendB rfl (.tmp 58) (.tmp 59) rfl z4.heap.size _ [] rfl ho0 z4.heap.size A2 n2 c2 _ HN2.out rfl (hrs2.here.alloc (Nat.le_refl _) _) (by rw [HN2.out]; simp; omega) (by simp) ?_; intro x1 y1 hx1 hg1 he1; have hy1 : Chg NoB z4 y1 := ((Chg.refl NoB z4).alloc _).own ho0 hg1 (Nat.le_refl _); clear ho0 hg1 he1; rw [List.nil_append] at hx1)
      | (at_builtin; refine wpList_appendB rfl (.tmp 60) (.tmp 61) rfl z4.heap.size x1 _ rfl hx1 _ a2 len2 cap2 m HM.out rfl ((hrm.no hcc).no hy1) (by rw [HN2.out, HM.out]; omega) hy1.size ?_; intro x2 y2 hx2 hg2 he2; have hy2 : Chg NoB z4 y2 := hy1.own hx1 hg2 (Nat.le_refl _); clear hx1 hg2 he2 hy1; obtain ⟨B2, m2, d2, rfl, hm2, hrr2, hmc2, _⟩ := hx2.val; have HMM2 := Lib.hid hm2; clear hx2 hm2)
      | fail)
    refine (get2_any B2 _ m2 d2 len0 HMM2.out _ _ hrr2 (by omega) (by rw [← HMM2.out]; rw [List.length_append, HN2.out, HM.out]; omega)).mono ?_
    rintro e z2 ⟨rfl, hcz⟩
    rw [G2.out.1, ← HMM2.out, G2.out.2]
    have hcb := hy2.trans hcz (fun _ _ h => h)
    have hcc := hcc.trans hcb (fun _ _ h => h)
    go_wp2_with fail
    refine (fieldLives_any _).mono ?_
    rintro e w9 ⟨rfl, hc9⟩
    go_wp2_with fail
    go_ret
    exact ⟨rfl, (hcc.trans hc9 (fun _ _ h => h)).no⟩
end Go.Proofs.Ytneecdajfblgbaa
