/-
  THE WALKS of the laws on CRC-32 (valiselaw02): each returns true and writes nothing that was there.
-/
import Derived.Test.YtjihoghkmkdghaaCrcLives
import Derived.Test.YtjihoghkmkdghaaBytes
import Derived.Deep.DeepMust
namespace Go.Proofs.Ytjihoghkmkdghaa
open Go.RowKit CrcM
theorem u32_U (n : Int) (h : (Lit.int .u32 n).wf = true) : ∃ x : W, n = U x := by
  refine ⟨BitVec.ofInt 32 n, (U_ofInt n ?_ ?_).symm⟩ <;> (simp [Lit.wf, IntKind.min, IntKind.max, IntKind.bits, IntKind.signed] at h; omega)
set_option maxRecDepth 100000 in
set_option maxHeartbeats 1000000 in
theorem crcSums_walk (a0 : Int) (a1 : Option Addr) (len1 cap1 : Nat) (z1 : List Int) (w : World) (w0 : (Lit.int .u32 a0).wf = true) (w1 : IsRow .u8 w a1 len1 cap1 z1) :
    Calls Try.prog 3 #[.int .u32 a0, .slice a1 len1 cap1] w fun e w' => e = .returned (.bool true) ∧ Below w.heap.size w w' := by
  obtain ⟨s, rfl⟩ := u32_U a0 w0
  obtain ⟨l, rfl, hm, hr, _⟩ := w1.rb
  unfold maxLen at hm
  clear w0 w1
  by_cases hl : l.length ≤ 16384
  · go_enter Try.func3, Try.ntmps3
    go_wp2_with (first
      | (go_at_call 10; refine (sum_any a1 l _ cap1 rfl _ _ hr (by omega)).mono ?_; rintro e w' ⟨rfl, rfl⟩)
      | (go_at_call 11; refine (rsum_any a1 l _ cap1 rfl _ _ hr (by omega)).mono ?_; rintro e w' ⟨rfl, rfl⟩)
      | (go_at_call 12; refine (more_any s a1 l _ cap1 rfl _ _ hr (by omega)).mono ?_; rintro e w' ⟨rfl, rfl⟩)
      | (go_at_call 13; refine (rmore_any s a1 l _ cap1 rfl _ _ hr (by omega)).mono ?_; rintro e w' ⟨rfl, rfl⟩)
      | (go_at_call 9; refine (crcLives_any _).mono ?_; rintro e w' ⟨rfl, hch⟩))
    go_ret
    exact ⟨rfl, hch.no⟩
  · go_enter Try.func3, Try.ntmps3
    go_wp2_with (go_at_call 9; refine (crcLives_any _).mono ?_; rintro e w' ⟨rfl, hch⟩)
    go_ret
    exact ⟨rfl, hch.no⟩
theorem moreL_append (s : W) (a b : List UInt8) : moreL s (a ++ b) = moreL (moreL s a) b := by
  unfold moreL; rw [List.map_append, sumMore_append]
theorem moreL_join (a b : List UInt8) : iter step8 b.length (moreL 0#32 a) ^^^ moreL 0#32 b = moreL 0#32 (a ++ b) := by
  unfold moreL; rw [List.map_append, join_sum]; simp
set_option maxRecDepth 100000 in
set_option maxHeartbeats 1000000 in
theorem crcParts_walk (a0 : Option Addr) (len0 cap0 : Nat) (z0 : List Int) (a1 : Option Addr) (len1 cap1 : Nat) (z1 : List Int) (w : World) (w0 : IsRow .u8 w a0 len0 cap0 z0) (w1 : IsRow .u8 w a1 len1 cap1 z1) :
    Calls Try.prog 5 #[.slice a0 len0 cap0, .slice a1 len1 cap1] w fun e w' => e = .returned (.bool true) ∧ Below w.heap.size w w' := by
  obtain ⟨l, rfl, hm, hr, _⟩ := w0.rb
  obtain ⟨m, rfl, hm1, hr1, _⟩ := w1.rb
  unfold maxLen at hm hm1
  clear w0 w1
  by_cases hl : l.length ≤ 16384
  · by_cases hl1 : m.length ≤ 16384
    · have e1 : (U (moreL (moreL 0#32 l) m) == U (moreL 0#32 (l ++ m))) = true := by rw [moreL_append]; simp
      have e2 : (U (iter step8 m.length (moreL 0#32 l) ^^^ moreL 0#32 m) == U (moreL 0#32 (l ++ m))) = true := by rw [moreL_join]; simp
      go_enter Try.func5, Try.ntmps5
      have ho0 : OwnB (w.alloc (.cells #[] 5)) w.heap.size (.slice (some ⟨w.heap.size, 0, none⟩) 0 0) [] := OwnB.made w #[] (Nat.le_refl _) (by simp)
      go_wp2_with (first
        | (at_builtin; refine wpList_appendB rfl (.tmp 17) (.tmp 18) rfl w.heap.size _ [] rfl ho0 w.heap.size a0 _ cap0 l rfl rfl (hr.alloc (Nat.le_refl _) _) (by simp; omega) (by simp) ?_; intro v1 w1 ho1 hg1 he1; have hc1 : Chg NoB w w1 := ((Chg.refl NoB w).alloc _).own ho0 hg1 (Nat.le_refl _); clear ho0 hg1 he1)
        | (at_builtin; refine wpList_appendB rfl (.tmp 19) (.tmp 20) rfl w.heap.size v1 l rfl ho1 w.heap.size a1 _ cap1 m rfl rfl (hr1.below hc1.no) (by omega) hc1.size ?_; intro v2 w2 ho2 hg2 he2; have hc2 : Chg NoB w w2 := hc1.own ho1 hg2 (Nat.le_refl _); obtain ⟨A2, n2, c2, rfl, hn2, hr2, _⟩ := ho2.val; have HN2 := Lib.hid hn2; clear hn2; clear ho1 hg2 he2 hc1)
        | fail)
      refine (sum_any A2 (l ++ m) _ c2 HN2.out _ _ hr2 (by rw [← HN2.out]; simp; omega)).mono ?_
      rintro e w3 ⟨rfl, rfl⟩
      have hra := hr.below hc2.no
      have hrb := hr1.below hc2.no
      go_wp2_with fail
      refine (sum_any a0 l _ cap0 rfl _ _ hra (by omega)).mono ?_
      rintro e w3 ⟨rfl, rfl⟩
      go_wp2_with fail
      refine (sum_any a1 m _ cap1 rfl _ _ hrb (by omega)).mono ?_
      rintro e w3 ⟨rfl, rfl⟩
      go_wp2_with fail
      refine (join_yes _ _ m.length _ (by omega)).mono ?_
      rintro e w4 ⟨rfl, hc4⟩
      have hc := hc2.trans hc4 (fun _ _ h => h)
      have hra := hr.below hc.no
      have hrb := hr1.below hc.no
      go_wp2_with fail
      refine (sum_any a0 l _ cap0 rfl _ _ hra (by omega)).mono ?_
      rintro e w3 ⟨rfl, rfl⟩
      go_wp2_with fail
      refine (more_any _ a1 m _ cap1 rfl _ _ hrb (by omega)).mono ?_
      rintro e w3 ⟨rfl, rfl⟩
      go_wp2_with fail
      refine (crcLives_any _).mono ?_
      rintro e w5 ⟨rfl, hc5⟩
      go_wp2_with fail
      go_ret
      exact ⟨rfl, (hc.trans hc5 (fun _ _ h => h)).no⟩
    · go_enter Try.func5, Try.ntmps5
      go_wp2_with (go_at_call 9; refine (crcLives_any _).mono ?_; rintro e w' ⟨rfl, hch⟩)
      go_ret
      exact ⟨rfl, hch.no⟩
  · go_enter Try.func5, Try.ntmps5
    go_wp2_with (go_at_call 9; refine (crcLives_any _).mono ?_; rintro e w' ⟨rfl, hch⟩)
    go_ret
    exact ⟨rfl, hch.no⟩
end Go.Proofs.Ytjihoghkmkdghaa
