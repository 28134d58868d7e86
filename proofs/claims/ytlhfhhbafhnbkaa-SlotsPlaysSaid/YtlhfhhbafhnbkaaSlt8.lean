/-
  SLOTS: written, Format.
-/
import Derived.Test.YtlhfhhbafhnbkaaSlt7
namespace Go.Proofs.Ytlhfhhbafhnbkaa
open Go.RowKit FieldM CrcM
set_option linter.unusedSimpArgs false
set_option linter.unusedVariables false
set_option maxRecDepth 100000 in
set_option maxHeartbeats 4000000 in
theorem written_any (g a0 a1 a2 a3 : Nat) (h : a0 < 4294967296 ∧ a1 < 4294967296 ∧ a2 < 4294967296 ∧ a3 < 4294967296) (W : World) :
    Calls Try.prog 49 #[.pointer (some ⟨g, 0, none⟩), .agg #[.int .i64 (a0 : Int), .int .i64 (a1 : Int), .int .i64 (a2 : Int), .int .i64 (a3 : Int)]] W fun e w' =>
      ∃ v, e = .returned v ∧ (∃ b1 b2 : Nat, v = .func (.func 63) #[] #[.pointer (some ⟨b1, 0, none⟩), .pointer (some ⟨b2, 0, none⟩)]) ∧ (∀ F : Nat → Prop, (∀ i, F i → i < W.heap.size) → StepV w' F g v (.wr 0 (hdr a0 a1 a2 a3))) ∧ Chg NoB W w' := by
  have hmf : ∀ (fn : Fn) (first cap : Array Value) (w : World), (Instr.makeFunc fn first cap).run Try.prog w = .ok (.func fn first cap) w := fun _ _ _ _ => rfl
  have HH := Lib.hid h
  clear h
  go_enter Try.func49, Try.ntmps49
  go_wp2_with fail
  go_ret
  have hb1 : Blk ((W.alloc (.cells #[.pointer (some ⟨g, 0, none⟩)] 27)).alloc (.cells #[.int .i64 (a0 : Int), .int .i64 (a1 : Int), .int .i64 (a2 : Int), .int .i64 (a3 : Int)] 89)) W.heap.size 27 #[.pointer (some ⟨g, 0, none⟩)] := (Blk.new W _ _).alloc _
  have hb2 := Blk.new (W.alloc (.cells #[.pointer (some ⟨g, 0, none⟩)] 27)) 89 #[.int .i64 (a0 : Int), .int .i64 (a1 : Int), .int .i64 (a2 : Int), .int .i64 (a3 : Int)]
  rw [show (W.alloc (.cells #[.pointer (some ⟨g, 0, none⟩)] 27)).heap.size = W.heap.size + 1 from by simp] at hb2
  refine ⟨_, rfl, ⟨W.heap.size + 1, W.heap.size, rfl⟩, fun F hF => .inl ⟨W.heap.size + 1, W.heap.size, a0, a1, a2, a3, rfl, rfl, rfl, HH.out, hb2, fun hf => by have := hF _ hf; omega, hb1, fun hf => by have := hF _ hf; omega⟩, ((Chg.refl _ _).alloc _).alloc _⟩
/-- what Format does -/
def formatK (K : Dk) : Dk × Int := if K.n < 3 then (K, 7) else runOps K [.wr 0 (hdr 0 0 0 0), .sync]
set_option maxRecDepth 100000 in
set_option maxHeartbeats 4000000 in
theorem format_any {B : Nat} {F : Nat → Prop} {g : Nat} {K : Dk} {W : World} (hI : DI B W g K F) (hB : B ≤ W.heap.size) (HK : K.loose.length ≤ 900) :
    Calls Try.prog 20 #[.pointer (some ⟨g, 0, none⟩)] W fun e w' => e = .returned (.int .i64 (formatK K).2) ∧ DPost B W g (formatK K).1 F w' := by
  have hmf : ∀ (fn : Fn) (first cap : Array Value) (w : World), (Instr.makeFunc fn first cap).run Try.prog w = .ok (.func fn first cap) w := fun _ _ _ _ => rfl
  have HI := Lib.hid hI
  have HB := Lib.hid hB
  have HKL := Lib.hid HK
  clear hI hB HK
  go_enter Try.func20, Try.ntmps20
  go_wp2_with fail
  refine (sready_any HI.out.disk).mono ?_
  rintro e w1 ⟨rfl, rfl⟩
  by_cases h3 : K.n < 3
  · rw [show readyE K = 7 from if_pos h3]
    have HF := Lib.hid (show formatK K = (K, 7) from if_pos h3)
    clear h3
    go_wp2_with fail
    go_ret
    rw [HF.out]
    exact ⟨rfl, F, HI.out, Chg.refl _ _, fun i hi => .inl hi⟩
  · rw [show readyE K = 0 from if_neg h3]
    have HF := Lib.hid (show formatK K = runOps K [.wr 0 (hdr 0 0 0 0), .sync] from if_neg h3)
    clear h3
    go_wp2_with fail
    refine (written_any g 0 0 0 0 (by decide) w1).mono ?_
    rintro e w2 ⟨v, rfl, ⟨b1, b2, rfl⟩, hst, hc2⟩
    have HST := Lib.hid (hst F (fun i hi => (HI.out.rng i hi).2))
    have HC2 := Lib.hid hc2
    clear hst hc2
    go_wp2_with fail
    have hnb := Blk.new w2 99 #[.func (.func 63) #[] #[.pointer (some ⟨b1, 0, none⟩), .pointer (some ⟨b2, 0, none⟩)], .func (.func 50) #[.pointer (some ⟨g, 0, none⟩)] #[]]
    have hc3 := HC2.out.alloc (.cells #[.func (.func 63) #[] #[.pointer (some ⟨b1, 0, none⟩), .pointer (some ⟨b2, 0, none⟩)], .func (.func 50) #[.pointer (some ⟨g, 0, none⟩)] #[]] 99)
    have hc23 : Chg NoB w2 (w2.alloc (.cells #[.func (.func 63) #[] #[.pointer (some ⟨b1, 0, none⟩), .pointer (some ⟨b2, 0, none⟩)], .func (.func 50) #[.pointer (some ⟨g, 0, none⟩)] #[]] 99)) := (Chg.refl _ _).alloc _
    refine (steps_any (HI.out.no hc3) (Nat.le_trans HB.out hc3.size) [.wr 0 (hdr 0 0 0 0), .sync] [.func (.func 63) #[] #[.pointer (some ⟨b1, 0, none⟩), .pointer (some ⟨b2, 0, none⟩)], .func (.func 50) #[.pointer (some ⟨g, 0, none⟩)] #[]] 2 (by decide) rfl rfl (by have := HKL.out; omega) (some ⟨w2.heap.size, 0, none⟩) 2
      ⟨rfl, .inr ⟨w2.heap.size, 2, _, rfl, Nat.zero_le _, hnb, Nat.le_refl _, by decide, rfl, rfl⟩⟩
      (fun b e hf => by cases e; have h1 : w2.heap.size < w1.heap.size := (HI.out.rng _ hf).2; have h2 := HC2.out.size; omega)
      (fun j v o hv ho => by
        match j, hv, ho with
        | 0, hv, ho => cases hv; cases ho; exact HST.out.no hc23
        | 1, hv, ho => cases hv; cases ho; rfl)).mono ?_
    rintro e w4 ⟨rfl, hp⟩
    have HP := Lib.hid (DPost.left hc3 hp)
    rw [← HF.out] at HP ⊢
    clear hp hnb hc3 hc23
    go_wp2_with fail
    go_ret
    exact ⟨rfl, HP.out⟩
end Go.Proofs.Ytlhfhhbafhnbkaa
