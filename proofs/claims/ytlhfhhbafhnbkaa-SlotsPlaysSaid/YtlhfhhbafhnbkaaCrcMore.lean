/-
  THE WALKS of crc.More, crc.Sum and of the reference's: at any bytes that read as a list they tell the document's sum.
-/
import Derived.Test.YtlhfhhbafhnbkaaCrcStep
import Derived.Test.YtlhfhhbafhnbkaaWords
namespace Go.Proofs.Ytlhfhhbafhnbkaa
open Go.RowKit CrcM
/-- a byte as a word -/
def wd (b : UInt8) : W := BitVec.ofNat 32 b.toNat
theorem wd_U (b : UInt8) : (b.toNat : Int) = U (wd b) := by
  unfold wd; exact U_lit _ (by have := b.toNat_lt; omega)
theorem fold_snoc (c x : W) (b : List W) : fold c (b ++ [x]) = step8 (fold c b ^^^ x) := by simp [fold]
theorem take_snoc_map (l : List UInt8) (k : Nat) (h : k < l.length) : (l.map wd).take (k + 1) = (l.map wd).take k ++ [wd l[k]] := by
  rw [List.take_succ_eq_append_getElem (by simpa using h)]; simp
def moreL (s : W) (l : List UInt8) : W := sumMore s (l.map wd)
theorem max_xor (x : W) : bits .xor .u32 IntKind.u32.max (U x) = U (~~~x) := by
  have h : IntKind.u32.max = U (BitVec.allOnes 32) := by decide
  rw [h, bits_xor_U, BitVec.allOnes_xor]
theorem more_round (s : W) (l : List UInt8) (k : Nat) (h : k < l.length) :
    step8 (fold (~~~s) ((l.map wd).take k) ^^^ wd l[k]) = fold (~~~s) ((l.map wd).take (k + 1)) := by rw [take_snoc_map l k h, fold_snoc]
set_option maxHeartbeats 400000 in
theorem more_any (s : W) (A : Option Addr) (l : List UInt8) (n c : Nat) (hn : l.length = n) (B : Nat) (w : World) (hr : RB w B A l) (hl : n ≤ 9223372036854775807) :
    Calls Try.prog 64 #[.int .u32 (U s), .slice A n c] w fun e w' => e = .returned (.int .u32 (U (moreL s l))) ∧ w' = w := by
  subst hn
  go_enter Try.func64, Try.ntmps64
  go_wp2
  go_loop [5, 12] (fun s' i => ∃ k : Nat, k ≤ l.length ∧ i = .int .i64 k ∧ s' = .int .u32 (U (fold (~~~s) ((l.map wd).take k)))) (fun _ i => l.length - (intOf i).toNat)
  case atStart => exact ⟨0, by omega, rfl, by rw [max_xor]; rfl⟩
  case round =>
    obtain ⟨k, hk, rfl, rfl⟩ := hrel
    by_cases hlt : k < l.length
    · obtain ⟨ad, rfl, _, hc⟩ := hr.at_ hlt
      have b0 := u8_lo l[k]
      have b1 := u8_hi l[k]
      go_wp2_with fail
      rw [wd_U l[k], bits_xor_U]
      refine (step_any _ _).mono ?_
      rintro e w' ⟨rfl, rfl⟩
      rw [more_round s l k hlt]
      go_wp2
      go_round
      case rel => exact ⟨k + 1, by omega, by go_num, rfl⟩
      case measure => simp [intOf]; omega
    · go_wp2
      go_ret
      obtain rfl : k = l.length := by omega
      refine ⟨?_, rfl⟩
      show Ending.returned (Value.int .u32 (bits .xor .u32 IntKind.u32.max (U (fold (~~~s) ((l.map wd).take l.length))))) = _
      rw [max_xor, List.take_of_length_le (by simp)]; rfl
set_option maxHeartbeats 400000 in
theorem rmore_any (s : W) (A : Option Addr) (l : List UInt8) (n c : Nat) (hn : l.length = n) (B : Nat) (w : World) (hr : RB w B A l) (hl : n ≤ 9223372036854775807) :
    Calls Try.prog 58 #[.int .u32 (U s), .slice A n c] w fun e w' => e = .returned (.int .u32 (U (moreL s l))) ∧ w' = w := by
  subst hn
  go_enter Try.func58, Try.ntmps58
  go_wp2
  go_loop [5, 6] (fun s' i => ∃ k : Nat, k ≤ l.length ∧ i = .int .i64 k ∧ s' = .int .u32 (U (fold (~~~s) ((l.map wd).take k)))) (fun _ i => l.length - (intOf i).toNat)
  case atStart => exact ⟨0, by omega, rfl, by rw [max_xor]; rfl⟩
  case round =>
    obtain ⟨k, hk, rfl, rfl⟩ := hrel
    by_cases hlt : k < l.length
    · obtain ⟨ad, rfl, _, hc⟩ := hr.at_ hlt
      have b0 := u8_lo l[k]
      have b1 := u8_hi l[k]
      go_wp2_with fail
      rw [wd_U l[k], bits_xor_U]
      refine (rstep_any _ _).mono ?_
      rintro e w' ⟨rfl, rfl⟩
      rw [more_round s l k hlt]
      go_wp2
      go_round
      case rel => exact ⟨k + 1, by omega, by go_num, rfl⟩
      case measure => simp [intOf]; omega
    · go_wp2
      go_ret
      obtain rfl : k = l.length := by omega
      refine ⟨?_, rfl⟩
      show Ending.returned (Value.int .u32 (bits .xor .u32 IntKind.u32.max (U (fold (~~~s) ((l.map wd).take l.length))))) = _
      rw [max_xor, List.take_of_length_le (by simp)]; rfl
theorem sum_any (A : Option Addr) (l : List UInt8) (n c : Nat) (hn : l.length = n) (B : Nat) (w : World) (hr : RB w B A l) (hl : n ≤ 9223372036854775807) :
    Calls Try.prog 52 #[.slice A n c] w fun e w' => e = .returned (.int .u32 (U (moreL 0#32 l))) ∧ w' = w := by
  subst hn
  go_enter Try.func52, Try.ntmps52
  go_wp2_with (go_at_call 64; refine (more_any 0#32 A l _ c rfl B w hr hl).mono ?_; rintro e w' ⟨rfl, rfl⟩)
  go_ret
  exact ⟨rfl, rfl⟩
theorem rsum_any (A : Option Addr) (l : List UInt8) (n c : Nat) (hn : l.length = n) (B : Nat) (w : World) (hr : RB w B A l) (hl : n ≤ 9223372036854775807) :
    Calls Try.prog 38 #[.slice A n c] w fun e w' => e = .returned (.int .u32 (U (moreL 0#32 l))) ∧ w' = w := by
  subst hn
  go_enter Try.func38, Try.ntmps38
  go_wp2_with (go_at_call 58; refine (rmore_any 0#32 A l _ c rfl B w hr hl).mono ?_; rintro e w' ⟨rfl, rfl⟩)
  go_ret
  exact ⟨rfl, rfl⟩
end Go.Proofs.Ytlhfhhbafhnbkaa
