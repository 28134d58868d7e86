/-
  THE REFERENCE's Write.
-/
import Derived.Test.YtlhfhhbafhnbkaaSRef2
namespace Go.Proofs.Ytlhfhhbafhnbkaa
open Go.RowKit
set_option linter.unusedSimpArgs false
set_option linter.unusedVariables false
theorem rp_info : (Try.prog.info? 82).map (fun i => (i.zero, i.size, i.bytes)) = some (some (.agg #[.int .i64 0, .string ⟨#[]⟩]), 2, 24) := by kernel_rfl
theorem rp_full : ∃ i, Try.prog.info? 82 = some i ∧ i.zero = some (.agg #[.int .i64 0, .string ⟨#[]⟩]) ∧ i.size = 2 ∧ i.bytes = 24 := by
  have h := rp_info
  cases hi : Try.prog.info? 82 with
  | none => rw [hi] at h; cases h
  | some i => rw [hi] at h; simp at h; exact ⟨i, rfl, h.1, h.2.1, h.2.2⟩
theorem rput_one (ps : List (Int × List UInt8)) : ∀ u ∈ ps.flatMap rputL, u.oneCell' = true := fun u hu => by
  obtain ⟨p, _, hp⟩ := List.mem_flatMap.1 hu
  simp [rputL] at hp
  rcases hp with rfl | rfl <;> rfl
/-- what the reference's Write tells -/
def rwBad (n : Nat) (i : Int) (l : List UInt8) : Prop := i < 0 ∨ (n : Int) ≤ i ∨ l.length ≠ 512
instance (n : Nat) (i : Int) (l : List UInt8) : Decidable (rwBad n i l) := by unfold rwBad; exact inferInstance
def rwriteE (n : Nat) (fuse : Int) (dark : Bool) (i : Int) (l : List UInt8) : Int := if rwBad n i l then 2 else if dark = true then 6 else if fuse = 0 then 6 else 0
set_option maxRecDepth 100000 in
set_option maxHeartbeats 4000000 in
theorem rwrite_bad {s p : Value} {sure : List (List UInt8)} {loose : List (Int × List UInt8)} {w : World} (hR : RD w s p sure loose) (hsl : sure.length ≤ 8192) (fuse : Int) (dark : Bool) (i : Int) (l : List UInt8) (hll : l.length ≤ 100000) (hb : rwBad sure.length i l ∨ dark = true) :
    Calls Try.prog 16 #[.agg (rdC s p fuse dark), .int .i64 i, strV l] w fun e w' => e = .returned (.tuple #[.agg (rdC s p fuse dark), .int .i64 (rwriteE sure.length fuse dark i l)]) ∧ Chg NoB w w' := by
  obtain ⟨A1, c1, rfl⟩ := own_slice hR.sure
  obtain ⟨A2, c2, rfl⟩ := own_slice hR.loose
  obtain ⟨ns, hns⟩ : ∃ ns, ns = sure.length := ⟨_, rfl⟩
  obtain ⟨nl, hnl⟩ : ∃ nl, nl = loose.length := ⟨_, rfl⟩
  rw [← hns] at hsl hb ⊢
  rw [← hnl]
  obtain ⟨ar, har⟩ : ∃ ar, ar = l.toArray := ⟨_, rfl⟩
  have hsz : (⟨ar⟩ : ByteArray).size = l.length := by rw [har]; simp [ByteArray.size]
  rw [show strV l = Value.string ⟨ar⟩ from by rw [har]; rfl]
  clear hR hns hnl har
  unfold rdC
  have hcase : i < 0 ∨ (0 ≤ i ∧ (ns : Int) ≤ i) ∨ (0 ≤ i ∧ i < (ns : Int) ∧ ¬ (l.length : Int) = 512) ∨ (0 ≤ i ∧ i < (ns : Int) ∧ (l.length : Int) = 512) := by omega
  rcases hcase with h | ⟨h, h2⟩ | ⟨h, h2, h3⟩ | ⟨h, h2, h3⟩
  iterate 3
    · rw [show rwriteE ns fuse dark i l = 2 from if_pos (by unfold rwBad; omega)]
      clear hb
      try have h6 : ((l.length : Int) != 512) = true := bne_iff_ne.2 (by omega)
      go_enter Try.func16, Try.ntmps16
      go_wp2_with fail
      try simp only [Exit.inBlock, Exit.then]
      refine bodyPost_ret (rd_ret2 rfl _ _ (w.heap.size + 1) 34 _ _ _ _ rfl (by simpa using Blk.new (w.alloc _) _ _)) rfl ⟨rfl, ((Chg.refl NoB w).alloc _).alloc _⟩
  · have hnb : ¬ rwBad ns i l := by unfold rwBad; omega
    have hd : dark = true := hb.resolve_left hnb
    subst hd
    rw [show rwriteE ns fuse true i l = 6 from by unfold rwriteE; rw [if_neg hnb, if_pos rfl]]
    clear hb hnb
    go_enter Try.func16, Try.ntmps16
    go_wp2_with fail
    try simp only [Exit.inBlock, Exit.then]
    refine bodyPost_ret (rd_ret2 rfl _ _ (w.heap.size + 1) 34 _ _ _ _ rfl (by simpa using Blk.new (w.alloc _) _ _)) rfl ⟨rfl, ((Chg.refl NoB w).alloc _).alloc _⟩
end Go.Proofs.Ytlhfhhbafhnbkaa
