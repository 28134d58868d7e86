/-
  own; THE LAW RecordReadEnds, walked.
-/
import Derived.Test.YtgojdkjneggmjaaRec22
namespace Go.Proofs.Ytgojdkjneggmjaa
open Go.RowKit FieldM
set_option linter.unusedSimpArgs false
set_option maxRecDepth 100000 in
set_option maxHeartbeats 1000000 in
theorem own_any (A : Option Addr) (l : List UInt8) (n c : Nat) (hn : l.length = n) (B : Nat) (w : World) (hr : RB w B A l) (hb : n ≤ 140737488355320) :
    Calls Try.prog 20 #[.slice A n c] w fun e w' => (∃ v, e = .returned v ∧ OwnB w' w.heap.size v l) ∧ Chg NoB w w' := by
  have ho0 : OwnB (w.alloc (.cells #[] 5)) w.heap.size (.slice (some ⟨w.heap.size, 0, none⟩) 0 0) [] := OwnB.made w #[] (Nat.le_refl _) (by simp)
  go_enter Try.func20, Try.ntmps20
  go_wp2_with (first
    | (at_builtin; refine wpList_appendB rfl (.tmp 3) (.tmp 4) rfl w.heap.size _ [] rfl ho0 w.heap.size A n c l hn rfl (hr.here.alloc (Nat.le_refl _) _) (by simp; omega) (by simp) ?_; intro v1 w1 ho1 hg1 he1; have hc1 : Chg NoB w w1 := ((Chg.refl NoB w).alloc _).own ho0 hg1 (Nat.le_refl _); clear ho0 hg1 he1; rw [List.nil_append] at ho1)
    | fail)
  go_ret
  exact ⟨⟨_, rfl, ho1⟩, hc1⟩
set_option maxRecDepth 100000 in
set_option maxHeartbeats 4000000 in
theorem recordReadEnds_walk (a0 : Option Addr) (len0 cap0 : Nat) (z0 : List Int) (p : Int) (W : World) (h0 : IsRow .u8 W a0 len0 cap0 z0) (hcap : cap0 ≤ 140737488351232) (_ : (Lit.int .i64 p).wf = true) :
    Calls Try.prog 5 #[.slice a0 len0 cap0, .int .i64 p] W fun e W' => e = .returned (.bool true) ∧ Below W.heap.size W W' := by
  obtain ⟨l, hl, hm, hr, hlc⟩ := h0.rb
  have HN := Lib.hid hl.symm
  have hle : len0 ≤ cap0 := by omega
  clear h0 hl hm hlc
  go_enter Try.func5, Try.ntmps5
  go_wp2_with fail
  refine (own_any a0 l len0 cap0 HN.out _ W hr (by omega)).mono ?_
  rintro e w1 ⟨⟨v1, rfl, ho1⟩, hc1⟩
  obtain ⟨A1, n1, c1, rfl, hn1, hr1, hnc1, _⟩ := ho1.val
  have hn1' : n1 = len0 := by rw [← hn1, HN.out]
  subst hn1'
  clear ho1 hn1
  go_wp2_with fail
  refine (readend_any A1 l n1 c1 p HN.out _ w1 hr1 hnc1 (by omega) (Nat.le_refl _)).mono ?_
  rintro e w2 ⟨rfl, hc2⟩
  have hr2 := (hr.no hc1).no hc2
  have hcc := hc1.trans hc2 (fun _ _ h => h)
  obtain ⟨r1, hr1'⟩ : ∃ r, r = readE l p 8 2 := ⟨_, rfl⟩
  obtain ⟨r2, hr2'⟩ : ∃ r, r = readE l p 12 4 := ⟨_, rfl⟩
  obtain ⟨r3, hr3'⟩ : ∃ r, r = readE l p 16 4 := ⟨_, rfl⟩
  obtain ⟨r4, hr4'⟩ : ∃ r, r = readEF l p := ⟨_, rfl⟩
  rw [← hr1', ← hr2', ← hr3', ← hr4']
  have HRR := Lib.hid (show r1 = readE l p 8 2 ∧ r2 = readE l p 12 4 ∧ r3 = readE l p 16 4 ∧ r4 = readEF l p from ⟨hr1', hr2', hr3', hr4'⟩)
  have HB := Lib.hid hcc.size
  clear hr1' hr2' hr3' hr4' hr hr1 hc1 hc2
  go_wp2_with fail
  refine (rreadend_any a0 l n1 cap0 p HN.out _ w2 hr2 hle (by omega) HB.out).mono ?_
  rintro e w3 ⟨rfl, hc3⟩
  rw [← HRR.out.1, ← HRR.out.2.1, ← HRR.out.2.2.1, ← HRR.out.2.2.2]
  have HC := Lib.hid (hcc.trans hc3 (fun _ _ h => h))
  clear hcc hr2 hc3
  go_wp2_with ((refine (lives_any w3).mono ?_); rintro e w4 ⟨rfl, hc4⟩)
  go_ret
  exact ⟨rfl, (HC.out.trans hc4 (fun _ _ h => h)).no⟩
end Go.Proofs.Ytgojdkjneggmjaa
