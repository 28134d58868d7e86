/-
  THE PLAIN LAW of done: what a disk is behind calls without a fuse.
-/
import Derived.Test.YtmkbahhnjobglaaSecAll
namespace Go.Proofs.Ytmkbahhnjobglaa
open Go.RowKit
set_option linter.unusedSimpArgs false
def Dk.act (K : Dk) (a : ActV) : Dk := if a.kind = 1 then K.write a.i (fillL a.c (fillN a.long)) else if a.kind = 2 then K.sync else if a.kind = 4 then K.crash a.ks else K
def doneK (n : Int) (l : List ActV) : Dk := l.foldl Dk.act (Dk.new n)
theorem doneK_snoc (n : Int) (l : List ActV) (a : ActV) : doneK n (l ++ [a]) = (doneK n l).act a := by simp [doneK]
/-- a disk without a fuse: what is read is what is sure, and the loose writes done in order -/
structure DOk (K : Dk) (n : Int) (m : Nat) : Prop where
  n : K.n = n
  fuse : K.fuse = -1
  dark : K.dark = false
  loose : K.loose.length ≤ m
  now : settle K.sure K.loose = K.now
theorem DOk.new_ (n : Int) (m : Nat) : DOk (Dk.new n) n m := ⟨rfl, rfl, rfl, Nat.zero_le _, rfl⟩
theorem DOk.more {K : Dk} {n : Int} {m m' : Nat} (h : DOk K n m) (hm : m ≤ m') : DOk K n m' := { h with loose := Nat.le_trans h.loose hm }
theorem DOk.write_ {K : Dk} {n : Int} {m : Nat} (h : DOk K n m) (i : Int) (l : List UInt8) : DOk (K.write i l) n (m + 1) := by
  unfold Dk.write
  split
  · exact h.more (by omega)
  · refine ⟨h.n, ?_, ?_, ?_, ?_⟩
    · show (if 0 < K.fuse then K.fuse - 1 else K.fuse) = -1
      rw [h.fuse]; rfl
    · show (K.dark || K.fuse == 0) = false
      rw [h.fuse, h.dark]; rfl
    · show (K.loose ++ [(i, l)]).length ≤ m + 1
      have := h.loose
      simp; omega
    · show settle K.sure (K.loose ++ [(i, l)]) = upd K.now i l
      rw [settle_snoc, h.now]
theorem DOk.synced {K : Dk} {n : Int} {m : Nat} (h : DOk K n m) : syncE K = 0 ∧ K.sync.loose = [] ∧ K.sync.sure = K.now ∧ K.sync.now = K.now := by
  have hd : ¬ K.dark = true := by rw [h.dark]; decide
  have hf : ¬ K.fuse = 0 := by rw [h.fuse]; decide
  refine ⟨if_neg (fun h => h.elim hd hf), ?_, ?_, ?_⟩
  all_goals
    unfold Dk.sync
    rw [if_neg hd, if_neg hf]
  · exact h.now
  · rfl
theorem DOk.sync_ {K : Dk} {n : Int} {m : Nat} (h : DOk K n m) : DOk K.sync n m := by
  have hd : ¬ K.dark = true := by rw [h.dark]; decide
  have hf : ¬ K.fuse = 0 := by rw [h.fuse]; decide
  have hs := h.synced
  refine ⟨?_, ?_, ?_, by rw [hs.2.1]; exact Nat.zero_le _, by rw [hs.2.1, hs.2.2.1, hs.2.2.2]; rfl⟩
  all_goals
    unfold Dk.sync
    rw [if_neg hd, if_neg hf]
  · exact h.n
  · show (if 0 < K.fuse then K.fuse - 1 else K.fuse) = -1
    rw [h.fuse]; rfl
  · show (K.dark || K.fuse == 0) = false
    rw [h.fuse, h.dark]; rfl
theorem DOk.crash_ {K : Dk} {n : Int} (hn : K.n = n) (ks : List Int) (m : Nat) : DOk (K.crash ks) n m := ⟨hn, rfl, rfl, Nat.zero_le _, rfl⟩
theorem DOk.act_ {K : Dk} {n : Int} {m : Nat} (h : DOk K n m) (a : ActV) : DOk (K.act a) n (m + 1) := by
  unfold Dk.act
  split
  · exact h.write_ _ _
  · split
    · exact h.sync_.more (by omega)
    · split
      · exact DOk.crash_ h.n _ _
      · exact h.more (by omega)
theorem DOk.done_ (n : Int) (l : List ActV) : DOk (doneK n l) n l.length := by
  have key : ∀ (l : List ActV) (K : Dk) (m : Nat), DOk K n m → DOk (l.foldl Dk.act K) n (m + l.length) := by
    intro l
    induction l with
    | nil => intro K m h; exact h
    | cons a r ih => intro K m h; have := ih _ _ (h.act_ a); simp only [List.foldl_cons, List.length_cons]; exact this.more (by omega)
  have := key l _ 0 (DOk.new_ n 0)
  simpa [doneK] using this
end Go.Proofs.Ytmkbahhnjobglaa
