/-
  A DISK; New; Read.
-/
import Derived.Test.YtlhfhhbafhnbkaaSec4
namespace Go.Proofs.Ytlhfhhbafhnbkaa
open Go.RowKit Go.Maps
set_option linter.unusedSimpArgs false
theorem run_alloc_blk (w : World) : (Instr.alloc 84 true (.tuple #[])).run Try.prog w = .ok (.pointer (some ⟨w.heap.size, 0, none⟩)) (w.alloc (.cells (blkC zeros) 84)) := by
  have hz : (blkV zeros).cells = blkC zeros := rfl
  have h := run_zero_blk w
  unfold Instr.alloc
  simp only [Sem.run_bind, h, Result.andThen_ok]
  simp [newVar, newRow, hz, go_sem]
theorem wpList_alloc_blk (w : World) {ops : Array Oper} {rest : List Oper} {o : Oper} {a : Act} {Q : Exit → Act → World → Prop} (hg : o.guard = none) (hop : o.op = Op.alloc 84)
    (hK : wpList Try.prog ops Q rest (a.put o.dst (.pointer (some ⟨w.heap.size, 0, none⟩))) (w.alloc (.cells (blkC zeros) 84))) : wpList Try.prog ops Q (o :: rest) a w := by
  refine wpList_plain hg fun K' hK' => ?_
  unfold Oper.wp
  simp only [execOp, hop, Sem.run_bind, run_alloc_blk, Result.andThen_ok, Sem.run_pure]
  exact hK' _ _ hK
/-- what a disk is -/
structure Dk where
  n : Int
  sure : Int → List UInt8
  loose : List (Int × List UInt8)
  now : Int → List UInt8
  fuse : Int
  dark : Bool
/-- a loose write's cells -/
def putL (p : Int × List UInt8) : List Value := .int .i64 p.1 :: p.2.map bv
structure DiskB (w : World) (g bs bn : Nat) (v : Value) (K : Dk) : Prop where
  blk : Blk w g 48 (dkC K.n (.map (some bs)) v (.map (some bn)) K.fuse K.dark)
  sure : SMap w bs K.sure
  now : SMap w bn K.now
  row : w.ownsRow 0 86 513 v K.loose.length (K.loose.flatMap putL)
  ne : bs ≠ bn
  n0 : 1 ≤ K.n
  n1 : K.n ≤ 8192
  rng : ∀ p ∈ K.loose, 0 ≤ p.1 ∧ p.1 < 8192 ∧ p.2.length = 512
  fuse0 : -1 ≤ K.fuse
  fuse1 : K.fuse ≤ 9223372036854775807
/-- block g holds a disk that is K; all that it has lies in blocks of F -/
def Disk (w : World) (F : Nat → Prop) (g : Nat) (K : Dk) : Prop :=
  ∃ bs bn v, DiskB w g bs bn v K ∧ F g ∧ F bs ∧ F bn ∧ ∀ i, v.ownBlock = some i → F i
/-- what was there, or is new -/
def FN (F : Nat → Prop) (w w' : World) : Nat → Prop := fun i => F i ∨ (w.heap.size ≤ i ∧ i < w'.heap.size)
theorem Disk.mono {w : World} {F G : Nat → Prop} {g : Nat} {K : Dk} (h : Disk w F g K) (hF : ∀ i, i < w.heap.size → F i → G i) : Disk w G g K := by
  obtain ⟨bs, bn, v, hd, h1, h2, h3, h4⟩ := h
  exact ⟨bs, bn, v, hd, hF _ hd.blk.lt h1, hF _ hd.sure.lt h2, hF _ hd.now.lt h3, fun i e => hF i (hd.row.lt i e).2 (h4 i e)⟩
theorem ownsRow_chg {S : Nat → Prop} {w w' : World} {base n : Nat} {t : TypeId} {size : Nat} {v : Value} {xs : List Value} (h : w.ownsRow base t size v n xs) (hc : Chg S w w') (hS : ∀ i, v.ownBlock = some i → ¬ S i) : w'.ownsRow base t size v n xs := by
  obtain ⟨h0, h1⟩ := h
  refine ⟨h0, ?_⟩
  rcases h1 with h1 | ⟨g, cap, cur, rfl, hb, hg, rest⟩
  · exact .inl h1
  · exact .inr ⟨g, cap, cur, rfl, hb, (hc.block g (Array.getElem?_eq_some_iff.1 hg).1 (hS g rfl)).trans hg, rest⟩
theorem DiskB.chg {S : Nat → Prop} {w w' : World} {g bs bn : Nat} {v : Value} {K : Dk} (h : DiskB w g bs bn v K) (hc : Chg S w w') (h1 : ¬ S g) (h2 : ¬ S bs) (h3 : ¬ S bn) (h4 : ∀ i, v.ownBlock = some i → ¬ S i) : DiskB w' g bs bn v K :=
  { h with blk := h.blk.chg hc h1, sure := h.sure.chg hc h2, now := h.now.chg hc h3, row := ownsRow_chg h.row hc h4 }
theorem Disk.chg {S F : Nat → Prop} {w w' : World} {g : Nat} {K : Dk} (h : Disk w F g K) (hc : Chg S w w') (hS : ∀ i, F i → ¬ S i) : Disk w' F g K := by
  obtain ⟨bs, bn, v, hd, h1, h2, h3, h4⟩ := h
  exact ⟨bs, bn, v, hd.chg hc (hS _ h1) (hS _ h2) (hS _ h3) (fun i e => hS i (h4 i e)), h1, h2, h3, h4⟩
theorem Disk.no {F : Nat → Prop} {w w' : World} {g : Nat} {K : Dk} (h : Disk w F g K) (hc : Chg NoB w w') : Disk w' F g K := h.chg hc (fun _ _ h => h)
def zF : Int → List UInt8 := fun _ => zeros
/-- a disk that was just made -/
def Dk.new (n : Int) : Dk := ⟨n, zF, [], zF, -1, false⟩
set_option maxRecDepth 100000 in
set_option maxHeartbeats 2000000 in
theorem new_bad (n : Int) (w : World) (h : n < 1 ∨ 8192 < n) : Calls Try.prog 13 #[.int .i64 n] w fun e w' => e = .returned (.tuple #[.pointer none, .int .i64 2]) ∧ w' = w := by
  go_enter Try.func13, Try.ntmps13
  go_wp2_with fail
  all_goals first
    | (go_ret2; exact ⟨rfl, rfl⟩)
    | (exfalso; omega)
set_option maxRecDepth 100000 in
set_option maxHeartbeats 2000000 in
theorem new_ok (n : Int) (w : World) (h0 : 1 ≤ n) (h1 : n ≤ 8192) : Calls Try.prog 13 #[.int .i64 n] w fun e w' => ∃ g, e = .returned (.tuple #[.pointer (some ⟨g, 0, none⟩), .int .i64 0]) ∧ w.heap.size ≤ g ∧ Disk w' (fun i => w.heap.size ≤ i ∧ i < w'.heap.size) g (Dk.new n) ∧ Chg NoB w w' := by
  have hmm := @run_makeMap Try.prog
  go_enter Try.func13, Try.ntmps13
  go_wp2_with fail
  all_goals first | (exfalso; omega) | skip
  go_ret2
  obtain ⟨w1, hw1⟩ : ∃ w1, w1 = w.alloc (.map #[] 0) := ⟨_, rfl⟩
  obtain ⟨w2, hw2⟩ : ∃ w2, w2 = w1.alloc (.map #[] 0) := ⟨_, rfl⟩
  have s1 : w1.heap.size = w.heap.size + 1 := by rw [hw1]; simp
  have s2 : w2.heap.size = w.heap.size + 1 + 1 := by rw [hw2]; simp; omega
  have hm1 : SMap w1 w.heap.size zF := by rw [hw1]; exact SMap.made w
  have hm2 : SMap w2 w1.heap.size zF := by rw [hw2]; exact SMap.made w1
  rw [s1] at hm2
  have hm1' : SMap w2 w.heap.size zF := by rw [hw2]; exact hm1.alloc _
  have hc : Chg NoB w w2 := by rw [hw2, hw1]; exact ((Chg.refl _ _).alloc _).alloc _
  rw [← hw1, ← hw2]
  have c3 : Chg NoB w2 (w2.alloc (.cells (dkC n (.map (some w.heap.size)) (.slice none 0 0) (.map (some (w.heap.size + 1))) (-1) false) 48)) := (Chg.refl _ _).alloc _
  have hB := Blk.new w2 48 (dkC n (.map (some w.heap.size)) (.slice none 0 0) (.map (some (w.heap.size + 1))) (-1) false)
  rw [s2] at hB
  refine ⟨w.heap.size + 1 + 1, rfl, by omega, ⟨w.heap.size, w.heap.size + 1, .slice none 0 0, ⟨hB, hm1'.chg c3 (fun h => h), hm2.chg c3 (fun h => h), World.ownsRow_nil _ _ _ _, by omega, h0, h1, fun p hp => absurd hp (by simp [Dk.new]), by simp [Dk.new], by simp [Dk.new]⟩, ⟨by omega, by simp; omega⟩, ⟨Nat.le_refl _, by simp; omega⟩, ⟨by omega, by simp; omega⟩, fun i e => absurd e (by simp [Value.ownBlock])⟩, hc.trans c3 (fun _ _ h => h)⟩
set_option maxRecDepth 100000 in
set_option maxHeartbeats 2000000 in
theorem read_nil (i : Int) (w : World) : Calls Try.prog 22 #[.pointer none, .int .i64 i] w fun e w' => e = .returned (.tuple #[.slice none 0 0, .int .i64 1]) ∧ w' = w := by
  go_enter Try.func22, Try.ntmps22
  go_wp2_with fail
  refine (made_nil w).mono ?_
  rintro e w1 ⟨rfl, rfl⟩
  go_wp2_with fail
  go_ret2
  exact ⟨rfl, rfl⟩
set_option maxRecDepth 100000 in
set_option maxHeartbeats 2000000 in
theorem read_zero {g : Nat} {fuse : Int} {ms v mn : Value} {dark : Bool} (i : Int) (w : World) (hb : Blk w g 48 (dkC 0 ms v mn fuse dark)) : Calls Try.prog 22 #[.pointer (some ⟨g, 0, none⟩), .int .i64 i] w fun e w' => e = .returned (.tuple #[.slice none 0 0, .int .i64 1]) ∧ w' = w := by
  have HB := Lib.hid hb
  clear hb
  go_enter Try.func22, Try.ntmps22
  go_wp2_with fail
  refine (made_ptr HB.out false rfl).mono ?_
  rintro e w1 ⟨rfl, rfl⟩
  go_wp2_with fail
  go_ret2
  exact ⟨rfl, rfl⟩
/-- what Read answers -/
def readE (K : Dk) (i : Int) : Int := if i < 0 ∨ K.n ≤ i then 2 else if K.dark = true then 6 else 0
def ReadPost (w : World) (K : Dk) (i : Int) (e : Ending) (w' : World) : Prop :=
  ((readE K i ≠ 0 ∧ e = .returned (.tuple #[.slice none 0 0, .int .i64 (readE K i)]) ∧ w' = w) ∨
   (readE K i = 0 ∧ (∃ b, e = .returned (.tuple #[.slice (some ⟨b, 0, none⟩) 512 512, .int .i64 0]) ∧ w.heap.size ≤ b ∧ Blk w' b 84 (blkC (K.now i))) ∧ Chg NoB w w'))
set_option maxRecDepth 100000 in
set_option maxHeartbeats 4000000 in
theorem read_any {g bs bn : Nat} {v : Value} {K : Dk} (i : Int) (w : World) (hd : DiskB w g bs bn v K) : Calls Try.prog 22 #[.pointer (some ⟨g, 0, none⟩), .int .i64 i] w (ReadPost w K i) := by
  have HD := Lib.hid hd
  obtain ⟨n, sure, loose, now, fuse, dark⟩ := K
  have hb := hd.blk
  have hn : 0 < n := hd.n0
  have HN1 := Lib.hid hd.n1
  have c0 := hb.cell 0
  have c3 := hb.cell 3
  have c5 := hb.cell 5
  have HB := Lib.hid hb
  have HM := Lib.hid hd.now
  simp only [dkC] at c0 c3 c5
  clear hb hd
  go_enter Try.func22, Try.ntmps22
  go_wp2_with fail
  refine (made_ptr HB.out true (by simpa using hn)).mono ?_
  rintro e w1 ⟨rfl, rfl⟩
  clear hn
  rcases (by omega : i < 0 ∨ (0 ≤ i ∧ n ≤ i) ∨ (0 ≤ i ∧ i < n)) with hi | hi | hi
  · have hE : readE ⟨n, sure, loose, now, fuse, dark⟩ i = 2 := if_pos (.inl hi)
    go_wp2_with fail
    go_ret2
    exact .inl ⟨by rw [hE]; decide, by rw [hE]; rfl, rfl⟩
  · have hE : readE ⟨n, sure, loose, now, fuse, dark⟩ i = 2 := if_pos (.inr hi.2)
    go_wp2_with fail
    go_ret2
    exact .inl ⟨by rw [hE]; decide, by rw [hE]; rfl, rfl⟩
  · have hE : readE ⟨n, sure, loose, now, fuse, dark⟩ i = if dark = true then 6 else 0 := if_neg (show ¬ (i < 0 ∨ n ≤ i) by omega)
    cases dark
    · have hL := HM.out.len i
      have HL := Lib.hid hL
      have HE := Lib.hid (hE.trans (if_neg (by simp)))
      clear hL hE
      go_wp2_with (first
        | (at_lookup; refine wpList_lookup_blk _ rfl _ _ rfl bn now rfl HM.out i rfl hi.1 (by have := HN1.out; omega) ?_)
        | (refine wpList_alloc_blk _ rfl rfl ?_)
        | (refine wpList_store_blk rfl 84 _ _ rfl w1.heap.size (blkC (now i)) rfl rfl 84 _ (Blk.new w1 _ _) (by rw [blkC_size, blkC_size, HL.out, zeros_len]) (blk_infoS HL.out) (blk_one _) ?_)
        | fail)
      go_ret2
      exact .inr ⟨HE.out, ⟨w1.heap.size, rfl, Nat.le_refl _, (Blk.new w1 _ _).row _⟩, ((Chg.refl NoB w1).alloc _).setRow (.inr (Nat.le_refl _)) _⟩
    · have hE2 := hE.trans (if_pos rfl)
      clear hE
      go_wp2_with fail
      go_ret2
      exact .inl ⟨by rw [hE2]; decide, by rw [hE2]; rfl, rfl⟩
end Go.Proofs.Ytlhfhhbafhnbkaa
