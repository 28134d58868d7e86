/-
  THE REFERENCE's Write, Read and Arm, of a disk as a whole; both disks side by side.
-/
import Derived.Test.YtlhfhhbafhnbkaaSRef7
namespace Go.Proofs.Ytlhfhhbafhnbkaa
open Go.RowKit
set_option linter.unusedSimpArgs false
set_option linter.unusedVariables false
theorem rwBad_iff {K : Dk} {n : Nat} (h : K.n = (n : Int)) (i : Int) (l : List UInt8) : rwBad n i l ↔ wBad K i l := by
  unfold rwBad wBad; rw [h]
theorem rwriteE_eq {K : Dk} {n : Nat} (h : K.n = (n : Int)) (i : Int) (l : List UInt8) : rwriteE n K.fuse K.dark i l = writeE K i l := by
  unfold rwriteE writeE
  simp only [rwBad_iff h]
theorem rwrite_any {s p : Value} (K : Dk) (n : Nat) (w : World) (hR : RK w s p K n) (hl : K.loose.length ≤ 1000) (i : Int) (l : List UInt8) (hll : l.length ≤ 100000) :
    Calls Try.prog 16 #[rkV s p K, .int .i64 i, strV l] w fun e w' => ∃ p', e = .returned (.tuple #[rkV s p' (K.write i l), .int .i64 (writeE K i l)]) ∧ RK w' s p' (K.write i l) n ∧ (∀ b, RowsOf s p' b → RowsOf s p b ∨ w.heap.size ≤ b) ∧ Chg NoB w w' := by
  have hn1 := hR.n1
  by_cases hb : wBad K i l ∨ K.dark = true
  · rw [show K.write i l = K from if_pos hb]
    refine (rwrite_bad hR.rd (by rw [sF_len]; exact hn1) K.fuse K.dark i l hll (by rw [sF_len, rwBad_iff hR.num]; exact hb)).mono ?_
    rintro e w' ⟨rfl, hc⟩
    exact ⟨p, by rw [sF_len, rwriteE_eq hR.num]; rfl, hR.no hc, fun b h => .inl h, hc⟩
  · have h1 : ¬ wBad K i l := fun h => hb (.inl h)
    have h2 : K.dark = false := by have h := fun h => hb (.inr h); simpa using h
    rw [show K.write i l = K.wrote i l from if_neg hb]
    have h := rwrite_ok hR.rd (by rw [sF_len]; exact hn1) hl K.fuse hR.fuse i l (by rw [sF_len, rwBad_iff hR.num]; exact h1)
    have e1 : rkV s p K = .agg (rdC s p K.fuse false) := by unfold rkV; rw [h2]
    rw [e1]
    refine h.mono ?_
    rintro e w' ⟨p', rfl, hrd, hp, hc⟩
    have e2 : rwriteE (sF K.sure n).length K.fuse false i l = writeE K i l := by rw [sF_len, ← h2, rwriteE_eq hR.num]
    refine ⟨p', ?_, ?_, fun b hb => hb.elim (fun h => .inl (.inl h)) (fun h => .inr (hp b h)), hc⟩
    · rw [e2]
      have e3 : (K.wrote i l).dark = (K.fuse == 0) := by unfold Dk.wrote; rw [h2]; simp
      unfold rkV
      rw [e3]; rfl
    · have hw : 0 ≤ i ∧ i < (n : Int) ∧ l.length = 512 := by
        unfold wBad at h1; rw [hR.num] at h1; omega
      refine { sure := ownsRow_chg hR.sure hc (fun _ _ h => h), loose := hrd.loose, num := hR.num, n0 := hR.n0, n1 := hn1, rng := fun q hq => ?_, fuse := ?_ }
      · have hq2 : q ∈ K.loose ++ [(i, l)] := hq
        rcases List.mem_append.1 hq2 with h | h
        · exact hR.rng q h
        · obtain rfl := List.mem_singleton.1 h; exact hw
      · show -1 ≤ (if 0 < K.fuse then K.fuse - 1 else K.fuse) ∧ (if 0 < K.fuse then K.fuse - 1 else K.fuse) ≤ 9223372036854775807
        have := hR.fuse
        split <;> omega
theorem rnow_settle : ∀ (ps : List (Int × List UInt8)) (f : Int → List UInt8) (i : Int), rnow (f i) i ps = settle f ps i := by
  intro ps
  induction ps with
  | nil => intro f i; rfl
  | cons p r ih =>
    intro f i
    have h := ih (upd f p.1 p.2) i
    have e : (upd f p.1 p.2) i = if p.1 = i then p.2 else f i := by
      unfold upd
      by_cases h : p.1 = i
      · rw [if_pos h, if_pos h.symm]
      · rw [if_neg h, if_neg (fun e => h e.symm)]
    rw [e] at h
    exact h
theorem sF_getD (f : Int → List UInt8) (n : Nat) (i : Int) (h0 : 0 ≤ i) (h1 : i < (n : Int)) : (sF f n).getD i.toNat [] = f i := by
  have h2 : i.toNat < n := by omega
  simp [sF, List.getD, h2, Int.toNat_of_nonneg h0]
theorem rread_K {s p : Value} (K : Dk) (n : Nat) (w : World) (hR : RK w s p K n) (hl : K.loose.length ≤ 1000) (hnow : settle K.sure K.loose = K.now) (i : Int) :
    Calls Try.prog 44 #[rkV s p K, .int .i64 i] w fun e w' => e = .returned (.tuple #[strV (if readE K i = 0 then K.now i else []), .int .i64 (readE K i)]) ∧ Chg NoB w w' := by
  have h := rread_any hR.rd hl (by rw [sF_len]; exact hR.n1) K.fuse K.dark i
  have e1 : rreadE (sF K.sure n).length K.dark i = readE K i := by unfold rreadE readE; rw [sF_len, hR.num]
  rw [e1] at h
  refine h.mono ?_
  rintro e w' ⟨rfl, hc⟩
  refine ⟨?_, hc⟩
  by_cases hz : readE K i = 0
  · have hi : 0 ≤ i ∧ i < (n : Int) := by
      unfold readE at hz
      rw [hR.num] at hz
      split at hz
      · cases hz
      · omega
    rw [if_pos hz, if_pos hz, sF_getD _ _ _ hi.1 hi.2, rnow_settle, hnow]
  · rw [if_neg hz, if_neg hz]
theorem rarm_K {s p : Value} (K : Dk) (n : Nat) (w : World) (hR : RK w s p K n) (x : Int) (hx : x ≤ 9223372036854775807) :
    Calls Try.prog 32 #[rkV s p K, .int .i64 x] w fun e w' => e = .returned (rkV s p (K.armed x)) ∧ RK w' s p (K.armed x) n ∧ Chg NoB w w' := by
  refine (arm_any s p hR.sl.1 hR.sl.2 K.fuse K.dark x w).mono ?_
  rintro e w' ⟨rfl, hc⟩
  have h := hR.no hc
  refine ⟨rfl, { sure := h.sure, loose := h.loose, num := h.num, n0 := h.n0, n1 := h.n1, rng := h.rng, fuse := ?_ }, hc⟩
  show -1 ≤ max 0 x ∧ max 0 x ≤ 9223372036854775807
  omega
/-- what the plain disk keeps -/
structure KOk (K : Dk) (m : Nat) : Prop where
  now : settle K.sure K.loose = K.now
  s5 : ∀ i, (K.sure i).length = 512
  l5 : ∀ q ∈ K.loose, q.2.length = 512
  loose : K.loose.length ≤ m
theorem KOk.more {K : Dk} {m m' : Nat} (h : KOk K m) (hm : m ≤ m') : KOk K m' := { h with loose := Nat.le_trans h.loose hm }
theorem KOk.new_ (n : Int) (m : Nat) : KOk (Dk.new n) m := ⟨rfl, fun _ => zeros_len, fun q hq => (by cases hq), Nat.zero_le _⟩
theorem KOk.write_ {K : Dk} {m : Nat} (h : KOk K m) (i : Int) (l : List UInt8) : KOk (K.write i l) (m + 1) := by
  unfold Dk.write
  split
  · exact h.more (by omega)
  · rename_i hb
    have h1 : ¬ wBad K i l := fun h => hb (.inl h)
    refine ⟨?_, h.s5, fun q hq => ?_, ?_⟩
    · show settle K.sure (K.loose ++ [(i, l)]) = upd K.now i l
      rw [settle_snoc, h.now]
    · have hq2 : q ∈ K.loose ++ [(i, l)] := hq
      rcases List.mem_append.1 hq2 with h2 | h2
      · exact h.l5 q h2
      · obtain rfl := List.mem_singleton.1 h2
        unfold wBad at h1
        show l.length = 512
        omega
    · show (K.loose ++ [(i, l)]).length ≤ m + 1
      have := h.loose
      simp; omega
theorem settle_len {f : Int → List UInt8} : ∀ (ps : List (Int × List UInt8)) (f : Int → List UInt8), (∀ i, (f i).length = 512) → (∀ q ∈ ps, q.2.length = 512) → ∀ i, (settle f ps i).length = 512 := by
  intro ps
  induction ps with
  | nil => intro f hf _; exact hf
  | cons p r ih =>
    intro f hf hp
    refine ih (upd f p.1 p.2) (fun i => ?_) (fun q hq => hp q (by simp [hq]))
    unfold upd
    split
    · exact hp p (by simp)
    · exact hf i
theorem KOk.sync_ {K : Dk} {m : Nat} (h : KOk K m) : KOk K.sync m := by
  unfold Dk.sync
  split
  · exact h
  · split
    · exact { h with }
    · exact ⟨h.now, settle_len (f := K.sure) _ _ h.s5 h.l5, fun q hq => (by cases hq), Nat.zero_le _⟩
theorem KOk.crash_ {K : Dk} {m : Nat} (h : KOk K m) (ks : List Int) (m' : Nat) : KOk (K.crash ks) m' := ⟨rfl, crashF_len h.s5 ks _ h.l5, fun q hq => (by cases hq), Nat.zero_le _⟩
theorem KOk.armed_ {K : Dk} {m : Nat} (h : KOk K m) (x : Int) : KOk (K.armed x) m := { h with }
/-- both disks -/
structure BK (B : Nat) (w : World) (g : Nat) (F : Nat → Prop) (s p : Value) (K : Dk) (n m : Nat) : Prop where
  di : DI B w g K F
  rk : RK w s p K n
  apart : ∀ b, RowsOf s p b → ¬ F b
  ok : KOk K m
/-- one is turned by its method, the other by its own -/
theorem BK.next {B : Nat} {w w' w'' : World} {g : Nat} {F : Nat → Prop} {s p s' p' : Value} {K K' : Dk} {n m m' : Nat} (h : BK B w g F s p K n m) (hr : RK w' s' p' K' n) (hrow : ∀ b, RowsOf s' p' b → RowsOf s p b ∨ (w.heap.size ≤ b)) (hsz : w.heap.size ≤ w'.heap.size) (hd : DPost B w' g K' F w'') (hk : KOk K' m') : ∃ F', BK B w'' g F' s' p' K' n m' ∧ Chg F w' w'' ∧ ∀ i, F' i → F i ∨ w'.heap.size ≤ i := by
  obtain ⟨F', hdi, hc, hF⟩ := hd
  have ha : ∀ b, RowsOf s' p' b → ¬ F b := fun b hb hf => (hrow b hb).elim (fun h1 => h.apart b h1 hf) (fun h1 => by have := (h.di.rng b hf).2; omega)
  refine ⟨F', ⟨hdi, hr.chg hc ha, fun b hb hf => ?_, hk⟩, hc, hF⟩
  rcases hF b hf with h1 | h1
  · exact ha b hb h1
  · have := hr.lt b hb
    omega
theorem BK.chg {S : Nat → Prop} {B : Nat} {w w' : World} {g : Nat} {F : Nat → Prop} {s p : Value} {K : Dk} {n m : Nat} (h : BK B w g F s p K n m) (hc : Chg S w w') (h1 : ∀ i, F i → ¬ S i) (h2 : ∀ i, RowsOf s p i → ¬ S i) : BK B w' g F s p K n m := ⟨h.di.chg hc h1, h.rk.chg hc h2, h.apart, h.ok⟩
theorem BK.no {B : Nat} {w w' : World} {g : Nat} {F : Nat → Prop} {s p : Value} {K : Dk} {n m : Nat} (h : BK B w g F s p K n m) (hc : Chg NoB w w') : BK B w' g F s p K n m := ⟨h.di.no hc, h.rk.no hc, h.apart, h.ok⟩
end Go.Proofs.Ytlhfhhbafhnbkaa
