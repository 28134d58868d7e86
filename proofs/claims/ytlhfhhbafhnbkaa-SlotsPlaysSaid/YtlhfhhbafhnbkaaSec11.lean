/-
  puts; Sync: begun.
-/
import Derived.Test.YtlhfhhbafhnbkaaSec10
namespace Go.Proofs.Ytlhfhhbafhnbkaa
open Go.RowKit Go.Maps Go.Shelf
set_option linter.unusedSimpArgs false
set_option maxRecDepth 100000 in
set_option maxHeartbeats 1000000 in
theorem puts_any (g : Nat) (A : Option Addr) (n c : Nat) (w : World) : Calls Try.prog 56 #[.pointer (some ⟨g, 0, none⟩), .slice A n c] w fun e w' =>
    ∃ b1 b2, e = .returned (.func (.func 65) #[] #[.pointer (some ⟨b1, 0, none⟩), .pointer (some ⟨b2, 0, none⟩)]) ∧ Blk w' b1 27 #[.pointer (some ⟨g, 0, none⟩)] ∧ Blk w' b2 63 #[.slice A n c] ∧ w.heap.size ≤ b1 ∧ w.heap.size ≤ b2 ∧ Chg NoB w w' := by
  go_enter Try.func56, Try.ntmps56
  go_wp2_with fail
  go_ret
  refine ⟨w.heap.size, w.heap.size + 1, rfl, ?_, ?_, Nat.le_refl _, by omega, ((Chg.refl _ _).alloc _).alloc _⟩
  · exact (Blk.new w _ _).chg ((Chg.refl NoB _).alloc _) (fun h => h)
  · have := Blk.new (w.alloc (.cells #[.pointer (some ⟨g, 0, none⟩)] 27)) 63 #[.slice A n c]
    simpa using this
/-- the writes done in order -/
def settle (f : Int → List UInt8) (ps : List (Int × List UInt8)) : Int → List UInt8 := ps.foldl (fun f p => upd f p.1 p.2) f
theorem settle_snoc (f : Int → List UInt8) (ps : List (Int × List UInt8)) (p : Int × List UInt8) : settle f (ps ++ [p]) = upd (settle f ps) p.1 p.2 := by simp [settle]
def Dk.spent (K : Dk) : Dk := { K with fuse := if 0 < K.fuse then K.fuse - 1 else K.fuse, dark := K.dark || K.fuse == 0 }
theorem spent_disk {w w' : World} {g bs bn : Nat} {v : Value} {K : Dk} (hD : DiskB w g bs bn v K) (hb : Blk w' g 48 (dkC K.n (.map (some bs)) v (.map (some bn)) (if 0 < K.fuse then K.fuse - 1 else K.fuse) (K.dark || K.fuse == 0))) (hc : Chg (OneB g) w w') : DiskB w' g bs bn v K.spent :=
  { blk := hb, sure := hD.sure.chg hc (fun e => hD.sure.blk_ne hD.blk e), now := hD.now.chg hc (fun e => hD.now.blk_ne hD.blk e), row := ownsRow_chg hD.row hc (fun j e h => own_ne hD.row hD.blk (by decide) (h ▸ e)), ne := hD.ne, n0 := hD.n0, n1 := hD.n1, rng := hD.rng,
    fuse0 := by have h1 := hD.fuse0; show -1 ≤ (if 0 < K.fuse then K.fuse - 1 else K.fuse); split <;> omega
    fuse1 := by have h1 := hD.fuse1; show (if 0 < K.fuse then K.fuse - 1 else K.fuse) ≤ 9223372036854775807; split <;> omega }
/-- Sync: what the disk is then -/
def Dk.sync (K : Dk) : Dk := if K.dark = true then K else if K.fuse = 0 then K.spent else { K.spent with sure := settle K.sure K.loose, loose := [] }
theorem Chg.keepsFrom {S : Nat → Prop} {W W' : World} {B : Nat} (h : Chg S W W') (hS : ∀ i, S i → i < B) : KeepsFrom B W W' :=
  ⟨h.size, fun k o hk ho _ => (h.block k (lt_of_heap ho) (fun hs => by have := hS k hs; omega)).trans ho⟩
theorem withC (ps : List (Int × List UInt8)) (hp : ∀ p ∈ ps, 0 ≤ p.1 ∧ p.1 < 8192 ∧ p.2.length = 512) (f : Nat → Int) (hf : ∀ j, -9223372036854775808 ≤ f j ∧ f j ≤ 9223372036854775807) : ∃ xs : List (PutT × I64), xs.map (·.1.1) = ps ∧ ∀ j (h : j < xs.length), xs[j].2.1 = f j :=
  ⟨List.ofFn fun j : Fin ps.length => (⟨ps[j], hp _ (List.getElem_mem _)⟩, ⟨f j, hf j⟩), by rw [List.map_ofFn]; exact List.ofFn_getElem, fun j h => by rw [List.getElem_ofFn]⟩
theorem cOf_range (nn : Bool) (ks : List Int) (h : ∀ k ∈ ks, -9223372036854775808 ≤ k ∧ k ≤ 9223372036854775807) (j : Nat) : -9223372036854775808 ≤ cOf nn ks j ∧ cOf nn ks j ≤ 9223372036854775807 := by
  unfold cOf
  cases hj : ks[j]? with
  | none => simp only [Option.getD_none]; split <;> omega
  | some k => exact h k (List.mem_of_getElem? hj)
def syncE (K : Dk) : Int := if K.dark = true ∨ K.fuse = 0 then 6 else 0
end Go.Proofs.Ytlhfhhbafhnbkaa
