/-
  THE WALKS of crc.Join's closure, of crc.Join and of the reference's Join.
-/
import Derived.Test.YtjihoghkmkdghaaCrcTimes
import Derived.Laws.Tables
namespace Go.Proofs.Ytjihoghkmkdghaa
open Go.RowKit CrcM
/-- 32 words as the cells of an array -/
def arr (f : Nat → W) : Array Value := Array.ofFn (n := 32) fun k => .int .u32 (U (f k.val))
theorem arr_size (f : Nat → W) : (arr f).size = 32 := by simp [arr]
theorem arr_at (f : Nat → W) (k : Nat) (h : k < 32) : (arr f)[k]? = some (.int .u32 (U (f k))) := by simp [arr, h]
theorem arr_all (f : Nat → W) : (arr f).all (·.oneCell') = true := by
  rw [Array.all_eq_true]; intro i h; simp [arr, Value.oneCell']
theorem arr_zero : arr (fun _ => 0#32) = (List.replicate 32 (Value.int .u32 0)).toArray := by rfl
theorem arr_set (f : Nat → W) (k : Nat) (x : W) : (arr f).setIfInBounds k (.int .u32 (U x)) = arr (fun j => if j = k then x else f j) := by
  apply Array.ext
  · simp [arr]
  · intro i h1 h2
    rw [Array.getElem_setIfInBounds (by simpa using h1)]
    simp only [arr, Array.getElem_ofFn]
    by_cases h : k = i
    · subst h; simp
    · rw [if_neg h, if_neg (by omega)]
theorem Blk.mat {w : World} {g t : Nat} {f : Nat → W} (h : Blk w g t (arr f)) : Mat w g f := fun k hk => ⟨(h.cell k).trans (arr_at f k hk), h.frozen k⟩
theorem arr_ext (f h : Nat → W) (e : ∀ k, k < 32 → f k = h k) : arr f = arr h := by
  apply Array.ext
  · simp [arr]
  · intro i h1 h2; simp only [arr, Array.getElem_ofFn]; rw [e i (by simpa [arr] using h1)]
/-- the array behind k rounds of the closure -/
def sqTo (f : Nat → W) (k : Nat) : Nat → W := fun j => if j < k then xorTo f (f j) 32 else 0#32
theorem sqTo_succ (f : Nat → W) (k : Nat) : (fun j => if j = k then xorTo f (f k) 32 else sqTo f k j) = sqTo f (k + 1) := by
  funext j
  unfold sqTo
  by_cases h : j = k
  · subst h; simp
  · rw [if_neg h]; by_cases h2 : j < k
    · rw [if_pos h2, if_pos (by omega)]
    · rw [if_neg h2, if_neg (by omega)]
theorem arr_info : (Try.prog.info? 40).map (·.size) = some 32 := by kernel_rfl
set_option maxHeartbeats 400000 in
theorem twice_any (g : Nat) (f : Nat → W) (w : World) (hm : Blk w g 40 (arr f)) :
    Calls Try.prog 18 #[.pointer (some ⟨g, 0, none⟩)] w fun e w' => e = .returned (.tuple #[]) ∧ Blk w' g 40 (arr fun j => xorTo f (f j) 32) ∧ Chg (OneB g) w w' := by
  have hglt := hm.lt
  go_enter Try.func18, Try.ntmps18
  go_wp2
  go_loopw [3] (fun i wr => ∃ k : Nat, k ≤ 32 ∧ i = .int .i64 k ∧ Blk wr w.heap.size 40 (arr (sqTo f k)) ∧ Chg NoB w wr) (fun i _ => 32 - (intOf i).toNat)
  case atStart =>
    refine ⟨0, by omega, rfl, ?_, (Chg.refl _ _).alloc _⟩
    rw [show sqTo f 0 = fun _ => 0#32 from by funext j; simp [sqTo], arr_zero]
    exact Blk.new _ _ _
  case round =>
    obtain ⟨k, hk, rfl, hb, hch⟩ := hrel
    have hm' := hm.chg hch (fun h => h)
    have hmm := hm'.mat
    by_cases hlt : k < 32
    · have c1 := (hmm k hlt).1
      have c2 : wr.cell? ⟨w.heap.size, k, none⟩ = some (.int .u32 (U (sqTo f k k))) := (hb.mat k hlt).1
      have c3 : wr.frozen? ⟨w.heap.size, k, none⟩ = false := (hb.mat k hlt).2
      go_wp2_with (go_at_call 19; refine (times_any g f _ _ hmm).mono ?_; rintro e w' ⟨rfl, n, rfl⟩)
      go_roundw
      case rel =>
        refine ⟨k + 1, by omega, by go_num, ?_, (hch.drewN n).setCell (.inr (Nat.le_refl _)) _⟩
        rw [← sqTo_succ, ← arr_set]
        exact (hb.drewN n).set_ k _
      case measure => simp [intOf]; omega
    · obtain rfl : k = 32 := by omega
      go_wp2_with (first
        | (refine wpList_load_row rfl 40 _ rfl w.heap.size rfl 40 _ (0, 0) _ hb Try.underlying40 rfl (by rw [arr_size]; exact arr_info) ?_)
        | (refine wpList_store_row rfl 40 _ _ rfl g _ rfl rfl 40 _ hm' (by rw [arr_size]; exact arr_info) (by rw [arr_size, arr_size]) (arr_all _) ?_))
      go_end0
      refine ⟨rfl, ?_, (hch.mono (fun _ _ h => h.elim)).setRow (.inl (show OneB g g from rfl)) _⟩
      have e : arr (sqTo f 32) = arr fun j => xorTo f (f j) 32 := arr_ext _ _ fun j hj => by simp [sqTo, hj]
      rw [e]
      exact hm'.row _
theorem and_bit (m c : W) (k : Nat) : m &&& -((c >>> k) &&& 1#32) = if c.getLsbD k then m else 0#32 := by
  have h : (c >>> k) &&& 1#32 = if c.getLsbD k then 1#32 else 0#32 := by
    apply BitVec.eq_of_getLsbD_eq
    intro i hi
    rw [BitVec.getLsbD_and, BitVec.getLsbD_ushiftRight]
    cases i with
    | zero => cases c.getLsbD k <;> simp
    | succ i =>
      have : (1#32).getLsbD (i + 1) = false := by simp
      rw [this]
      cases c.getLsbD k <;> simp
  rw [h]
  cases c.getLsbD k
  · simp
  · have : -(1#32) = BitVec.allOnes 32 := by decide
    rw [if_pos rfl, if_pos rfl, this, BitVec.and_allOnes]
/-- the low bits of a number -/
def part (c : W) : Nat → W
  | 0 => 0#32
  | k + 1 => part c k ^^^ (if c.getLsbD k then 1#32 <<< k else 0#32)
theorem part_bit (c : W) (k i : Nat) (hi : i < 32) : (part c k).getLsbD i = (decide (i < k) && c.getLsbD i) := by
  induction k with
  | zero => simp [part]
  | succ k ih =>
    rw [part, BitVec.getLsbD_xor, ih]
    by_cases h : i = k
    · subst h
      cases c.getLsbD i <;> simp [hi]
    · have e : (if c.getLsbD k then 1#32 <<< k else 0#32).getLsbD i = false := by
        cases c.getLsbD k
        · simp
        · rw [if_pos rfl, BitVec.getLsbD_shiftLeft]
          by_cases hk : i < k
          · simp [hk]
          · have h1 : (1#32).getLsbD (i - k) = false := by
              cases hd : i - k with
              | zero => omega
              | succ d => simp
            simp [h1]
      rw [e]
      by_cases hk : i < k
      · simp [hk, show i < k + 1 by omega]
      · simp [hk, show ¬ i < k + 1 by omega]
theorem part_all (c : W) : part c 32 = c := by
  apply BitVec.eq_of_getLsbD_eq
  intro i hi
  rw [part_bit c 32 i hi]; simp [hi]
theorem xorTo_lin (T : W → W) (hT : ∀ a b, T (a ^^^ b) = T a ^^^ T b) (c : W) (k : Nat) : xorTo (fun j => T (1#32 <<< j)) c k = T (part c k) := by
  have h0 : T 0#32 = 0#32 := by
    have := hT 0#32 0#32
    simp at this; exact this
  induction k with
  | zero => simp [xorTo, part, h0]
  | succ k ih =>
    rw [xorTo, part, hT, ih, and_bit]
    cases c.getLsbD k
    · simp [h0]
    · simp
theorem xorTo_all (T : W → W) (hT : ∀ a b, T (a ^^^ b) = T a ^^^ T b) (c : W) : xorTo (fun j => T (1#32 <<< j)) c 32 = T c := by
  rw [xorTo_lin T hT, part_all]
/-- the powers of the step, as an array's words -/
def pw (p : Nat) : Nat → W := fun j => iter step8 p (1#32 <<< j)
theorem pw_times (p : Nat) (c : W) : xorTo (pw p) c 32 = iter step8 p c := xorTo_all _ (iter_xor step_xor p) c
theorem pw_twice (p : Nat) : (fun j => xorTo (pw p) (pw p j) 32) = pw (2 * p) := by
  funext j
  rw [pw_times, pw, pw, ← iter_add]; congr 1; omega
def fillTo (k : Nat) : Nat → W := fun j => if j < k then step8 (1#32 <<< j) else 0#32
theorem fillTo_succ (k : Nat) : (fun j => if j = k then step8 (1#32 <<< k) else fillTo k j) = fillTo (k + 1) := by
  funext j
  unfold fillTo
  by_cases h : j = k
  · subst h; simp
  · rw [if_neg h]; by_cases h2 : j < k
    · rw [if_pos h2, if_pos (by omega)]
    · rw [if_neg h2, if_neg (by omega)]
theorem fillTo_all : arr (fillTo 32) = arr (pw 1) := arr_ext _ _ fun j hj => by simp [fillTo, hj, pw, iter]
end Go.Proofs.Ytjihoghkmkdghaa
