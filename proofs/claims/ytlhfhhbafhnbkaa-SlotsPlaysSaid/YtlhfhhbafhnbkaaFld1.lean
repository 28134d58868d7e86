/-
  THE WALKS of slices.Clone (at bytes), field.cut, field.Piece: at any bytes that read as a list.
-/
import Derived.Test.YtlhfhhbafhnbkaaFieldMath
import Derived.Test.YtlhfhhbafhnbkaaBytes
import Derived.Lib.SliceRun
import Derived.WalkKit
import Derived.Lib.Hide
import Derived.Deep.DeepMust
import Derived.Outline
namespace Go.Proofs.Ytlhfhhbafhnbkaa
open Go.RowKit FieldM
set_option maxHeartbeats 400000 in
theorem fclone_any (A : Option Addr) (l : List UInt8) (n c : Nat) (hn : l.length = n) (B : Nat) (w : World) (hr : RB w B A l) (hl : n ≤ 140737488355328) :
    Calls Try.prog 73 #[.slice A n c] w fun e w' => ∃ v, e = .returned v ∧ OwnB w' w.heap.size v l ∧ Chg NoB w w' := by
  have hq := fun (w : World) (a : Option Addr) (l c : Nat) => Lib.run_eql_slice_nil (P := Try.prog) w 25 5 a l c 0 0 Try.underlying25
  cases A with
  | none =>
    have := hr.nilOf
    subst this
    go_enter Try.func73, Try.ntmps73
    go_wp2_with fail
    go_ret
    exact ⟨_, rfl, OwnB.nil_ _ _, Chg.refl _ _⟩
  | some ad =>
    have ho0 : OwnB (w.alloc (.cells #[] 5)) w.heap.size (.slice (some ⟨w.heap.size, 0, none⟩) 0 0) [] := OwnB.made w #[] (Nat.le_refl _) (by simp)
    go_enter Try.func73, Try.ntmps73
    go_wp2_with (first
      | (at_builtin; refine wpList_appendB rfl (.tmp 5) (.tmp 6) rfl w.heap.size _ [] rfl ho0 w.heap.size (some ad) n c l hn rfl (hr.here.alloc (Nat.le_refl _) _) (by rw [hn]; simpa using hl) (by simp) ?_; intro v1 w1 ho1 hg1 he1; have hc1 : Chg NoB w w1 := ((Chg.refl NoB w).alloc _).own ho0 hg1 (Nat.le_refl _); clear ho0 hg1 he1)
      | fail)
    go_ret
    exact ⟨_, rfl, by simpa using ho1, hc1⟩
/-- what cut tells: the error's number -/
def cutErr (n at_ m : Int) : Int := if at_ < 0 ∨ n < at_ ∨ m < 0 then 2 else if n - at_ < m then 4 else 0
theorem cutErr_arg {n p m : Int} (h : p < 0 ∨ n < p ∨ m < 0) : cutErr n p m = 2 := if_pos h
theorem cutErr_short {n p m : Int} (h : ¬ (p < 0 ∨ n < p ∨ m < 0)) (h2 : n - p < m) : cutErr n p m = 4 := by unfold cutErr; rw [if_neg h, if_pos h2]
theorem cutErr_ok {n p m : Int} (h : ¬ (p < 0 ∨ n < p ∨ m < 0)) (h2 : ¬ n - p < m) : cutErr n p m = 0 := by unfold cutErr; rw [if_neg h, if_neg h2]
theorem cutErr_zero {n p m : Int} (h : cutErr n p m = 0) : 0 ≤ p ∧ 0 ≤ m ∧ p + m ≤ n := by
  unfold cutErr at h
  split at h
  · cases h
  · split at h
    · cases h
    · omega
set_option maxHeartbeats 400000 in
theorem cut_no (A : Option Addr) (n c : Nat) (p m er : Int) (w : World) (hb : n ≤ 9223372036854775807) (he : Hid (cutErr n p m = er)) (h0 : er ≠ 0) :
    Calls Try.prog 71 #[.slice A n c, .int .i64 p, .int .i64 m] w fun e w' => e = .returned (.tuple #[.slice none 0 0, .int .i64 er]) ∧ w' = w := by
  have h9 := Lib.hid h0
  clear h0
  by_cases h0 : p < 0
  · go_enter Try.func71, Try.ntmps71
    go_wp2_with fail
    go_ret2
    exact ⟨by rw [← he.out, cutErr_arg (.inl h0)]; rfl, rfl⟩
  by_cases h1 : (n : Int) < p
  · go_enter Try.func71, Try.ntmps71
    go_wp2_with fail
    go_ret2
    exact ⟨by rw [← he.out, cutErr_arg (.inr (.inl h1))]; rfl, rfl⟩
  by_cases h2 : m < 0
  · go_enter Try.func71, Try.ntmps71
    go_wp2_with fail
    go_ret2
    exact ⟨by rw [← he.out, cutErr_arg (.inr (.inr h2))]; rfl, rfl⟩
  by_cases h3 : (n : Int) - p < m
  · go_enter Try.func71, Try.ntmps71
    go_wp2_with fail
    go_ret2
    exact ⟨by rw [← he.out, cutErr_short (by omega) h3]; rfl, rfl⟩
  · exact absurd (he.out.symm.trans (cutErr_ok (by omega) h3)) h9.out
theorem run_slice3 {w : World} {B : Nat} {A : Option Addr} {l : List UInt8} (hr : RB w B A l) (n c p m : Nat) (hn : l.length = n) (hc : n ≤ c) (hp : p + m ≤ n) :
    ∃ A', (∀ w' : World, (Instr.slice 25 (.slice A n c) (some (.int .i64 (p : Int))) (some (.int .i64 ((p : Int) + (m : Int)))) (some (.int .i64 ((p : Int) + (m : Int))))).run Try.prog w' = .ok (.slice A' m m) w') ∧
      RB w B A' ((l.drop p).take m) := by
  obtain ⟨i0, hi, hz0, hz1, hz2⟩ := info_parts u8_info
  refine ⟨if p + m = p then A else A.map (·.add p), fun w' => ?_, ?_⟩
  · have e2 : ((p : Int) + (m : Int)).toNat = p + m := by omega
    have h1 : 0 ≤ (p : Int) + (m : Int) := by omega
    have h2 : (p : Int) + (m : Int) ≤ (c : Int) := by omega
    have h3 : (p : Int) ≤ ((p + m : Nat) : Int) := by omega
    have h4 : (p : Int) + (m : Int) ≤ ((p + m : Nat) : Int) := by omega
    have b1 : ∀ code, (Instr.sliceBound (.int .i64 ((p : Int) + (m : Int))) c code).run Try.prog w' = .ok (p + m) w' := fun code => by
      rw [run_sliceBound_if, if_pos ⟨h1, h2⟩, e2]
    have b2 : ∀ code, (Instr.sliceBound (.int .i64 ((p : Int) + (m : Int))) (p + m) code).run Try.prog w' = .ok (p + m) w' := fun code => by
      rw [run_sliceBound_if, if_pos ⟨h1, h4⟩, e2]
    have b3 : ∀ code, (Instr.sliceBound (.int .i64 (p : Int)) (p + m) code).run Try.prog w' = .ok p w' := fun code => by
      rw [run_sliceBound_if, if_pos ⟨by omega, h3⟩]; simp
    have e5 : p + m - p = m := by omega
    simp only [Instr.slice, Instr.sliceBounds, Sem.run_bind, run_underlying Try.underlying25, Result.andThen_ok, b1, b2, b3, Sem.run_pure, Option.isSome_some, if_true]
    simp [sizeOf, typeInfo, hi, hz1, e5]
  · by_cases h : m = 0
    · subst h
      simp only [List.take_zero]; exact ⟨rfl, fun h => absurd h (by simp)⟩
    · have := (hr.drop (k := p) (cap := n + 1) (by omega) (by omega))
      rw [if_neg (by omega)] at this ⊢
      exact this.take m
set_option maxHeartbeats 400000 in
theorem cut_yes (A : Option Addr) (l : List UInt8) (n c : Nat) (p m : Nat) (M : Int) (hM : (m : Int) = M) (hn : l.length = n) (B : Nat) (w : World) (hr : RB w B A l) (hc : n ≤ c) (hb : n ≤ 9223372036854775807) (hpm : p + m ≤ n) :
    Calls Try.prog 71 #[.slice A n c, .int .i64 (p : Int), .int .i64 M] w fun e w' => (∃ A', e = .returned (.tuple #[.slice A' m m, .int .i64 0]) ∧ RB w B A' ((l.drop p).take m)) ∧ w' = w := by
  subst hM
  obtain ⟨A', hs, hr'⟩ := run_slice3 hr n c p m hn hc hpm
  clear hn
  go_enter Try.func71, Try.ntmps71
  go_wp2_with fail
  go_ret2
  exact ⟨⟨_, rfl, hr'⟩, rfl⟩
end Go.Proofs.Ytlhfhhbafhnbkaa
