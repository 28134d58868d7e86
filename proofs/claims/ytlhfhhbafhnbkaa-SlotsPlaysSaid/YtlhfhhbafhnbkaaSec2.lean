/-
  A DISK's MAP AS A FUNCTION: the laws of look-up, store and delete.
-/
import Derived.Test.YtlhfhhbafhnbkaaSec1
namespace Go.Proofs.Ytlhfhhbafhnbkaa
open Go.RowKit Go.Maps
set_option linter.unusedSimpArgs false
theorem int_kd : Keyed Try.prog 3 := int_keyed Try.underlying3
def KL (i : Int) : Lit := .int .i64 i
def BL (l : List UInt8) : DataW Unit := .lit (.string l)
theorem KL_inj {i j : Int} (h : KL i = KL j) : i = j := by unfold KL at h; injection h
theorem KL_key (i : Int) : WideAt.IsKeyLit (KL i) := trivial
theorem BL_inj {l m : List UInt8} (h : BL l = BL m) : l = m := by
  unfold BL at h
  injection h with h; injection h
theorem key_int {i : Int} (h0 : 0 ≤ i) (h1 : i < 8192) : keyOf Try.prog 3 (.int .i64 i) = some (KL i) := by
  have hw : (Lit.int .i64 i).wf = true := by
    have hm : IntKind.i64.min = -9223372036854775808 := rfl
    simp [Lit.wf, hm]
    omega
  unfold keyOf
  rw [Try.underlying3]
  simp [mapKey, Try.underlying3, hw, KL]
def upd (f : Int → List UInt8) (i : Int) (l : List UInt8) : Int → List UInt8 := fun j => if j = i then l else f j
/-- keys of a disk's map -/
def InRange (es : List (Lit × DataW Unit)) : Prop := ∀ p ∈ es, ∃ i : Int, p.1 = KL i ∧ 0 ≤ i ∧ i < 8192
/-- block b is a map that reads as f -/
def SMap (w : World) (b : Nat) (f : Int → List UInt8) : Prop :=
  ∃ es : List (Lit × DataW Unit), w.ownsMap Try.prog 3 rdBlk b 8192 (.map es) ∧ InRange es ∧ ∀ i, (DataW.map es).atKey (KL i) (BL zeros) = BL (f i)
theorem nodup_le : ∀ (m : Nat) (l : List Nat), l.Nodup → (∀ x ∈ l, x < m) → l.length ≤ m
  | 0, l, _, h => by
    cases l with
    | nil => simp
    | cons x r => exact absurd (h x (by simp)) (by omega)
  | m + 1, l, hn, h => by
    have h1 := nodup_le m (l.erase m) (hn.erase m) (fun x hx => by
      have h2 := h x (List.mem_of_mem_erase hx)
      have h3 : x ≠ m := fun e => by rw [e] at hx; exact (List.Nodup.not_mem_erase hn) hx
      omega)
    by_cases hm : m ∈ l
    · rw [List.length_erase_of_mem hm] at h1; omega
    · rw [List.erase_of_not_mem hm] at h1; omega
theorem range_le {es : List (Lit × DataW Unit)} (h : InRange es) (hp : es.Pairwise (fun p q => p.1 ≠ q.1)) : es.length ≤ 8192 := by
  have h1 : (es.map fun p => match p.1 with | .int _ i => i.toNat | _ => 0).length ≤ 8192 := by
    refine nodup_le 8192 _ ?_ ?_
    · unfold List.Nodup
      rw [List.pairwise_map]
      refine List.Pairwise.imp_of_mem ?_ hp
      intro p q hp1 hq1 hne e
      obtain ⟨i, hi, i0, i1⟩ := h p hp1
      obtain ⟨j, hj, j0, j1⟩ := h q hq1
      rw [hi, hj] at e
      have e' : i.toNat = j.toNat := e
      apply hne
      rw [hi, hj]
      have : i = j := by omega
      rw [this]
    · intro x hx
      obtain ⟨p, hp1, rfl⟩ := List.mem_map.1 hx
      obtain ⟨i, hi, i0, i1⟩ := h p hp1
      rw [hi]
      show i.toNat < 8192
      omega
  simpa using h1
theorem SMap.made (w : World) : SMap (w.alloc (.map #[] 0)) w.heap.size (fun _ => zeros) :=
  ⟨[], (World.ownsMap_made w _ _ _).mono (by omega), fun p hp => absurd hp (by simp), fun i => rfl⟩
theorem SMap.owns {w : World} {b : Nat} {f : Int → List UInt8} (h : SMap w b f) : ∃ n D, w.ownsMap (H := Unit) Try.prog 3 rdBlk b n D := by
  obtain ⟨es, h1, _⟩ := h; exact ⟨_, _, h1⟩
theorem SMap.lt {w : World} {b : Nat} {f : Int → List UInt8} (h : SMap w b f) : b < w.heap.size := by
  obtain ⟨es, h1, _⟩ := h; exact h1.lt
theorem SMap.chg {S : Nat → Prop} {w w' : World} {b : Nat} {f : Int → List UInt8} (h : SMap w b f) (hc : Chg S w w') (hS : ¬ S b) : SMap w' b f := by
  obtain ⟨es, ⟨ms, clock, hb, r⟩, h2, h3⟩ := h
  exact ⟨es, ⟨ms, clock, (hc.block b (Array.getElem?_eq_some_iff.1 hb).1 hS).trans hb, r⟩, h2, h3⟩
theorem SMap.alloc {w : World} {b : Nat} {f : Int → List UInt8} (h : SMap w b f) (o : Obj) : SMap (w.alloc o) b f := h.chg ((Chg.refl NoB w).alloc o) (fun h => h)
theorem SMap.blk_ne {w : World} {b g : Nat} {t : TypeId} {cs : Array Value} {f : Int → List UInt8} (h : SMap w b f) (hg : Blk w g t cs) : b ≠ g := by
  obtain ⟨es, ⟨ms, clock, hb, r⟩, h2, h3⟩ := h
  intro e
  subst e
  unfold Blk at hg
  rw [hg] at hb; cases hb
theorem SMap.look {w : World} {b : Nat} {f : Int → List UInt8} (h : SMap w b f) {i : Int} (h0 : 0 ≤ i) (h1 : i < 8192) :
    (Instr.lookup 45 (.map (some b)) (.int .i64 i) false).run Try.prog w = .ok (blkV (f i)) w ∧ (f i).length = 512 := by
  obtain ⟨es, ⟨ms, clock, hb, F, hs, hD⟩, h2, h3⟩ := h
  have h4 := h3 i
  rw [hD] at h4
  rcases Maps.fit_look false int_kd Try.underlying45 (run_zero_blk w) hb F (key_int h0 h1) with ⟨hrun, _, hat⟩ | ⟨e0, y, _, _, hrun, hRv, hat, _⟩
  · rw [hat] at h4
    have h5 := BL_inj h4
    rw [← h5]
    exact ⟨by simpa using hrun, zeros_len⟩
  · rw [hat] at h4
    obtain ⟨l, hl, hv, hy⟩ := rdBlk_inv hRv
    rw [hy] at h4
    have h5 : l = f i := BL_inj h4
    rw [← h5]
    refine ⟨?_, hl⟩
    rw [← hv]
    simpa using hrun
theorem SMap.len {w : World} {b : Nat} {f : Int → List UInt8} (h : SMap w b f) (i : Int) : (f i).length = 512 := by
  obtain ⟨es, ho, h2, h3⟩ := h
  by_cases hi : 0 ≤ i ∧ i < 8192
  · exact (SMap.look ⟨es, ho, h2, h3⟩ hi.1 hi.2).2
  · have h4 : Maps.has (DataW.map es) (KL i) = false := by
      rw [Maps.has_eq, List.any_eq_false]
      intro p hp
      obtain ⟨j, hj, j0, j1⟩ := h2 p hp
      have hne : p.1 ≠ KL i := fun e => by rw [hj] at e; have := KL_inj e; omega
      rw [Maps.sameKey_ne hne]; simp
    have h5 := h3 i
    rw [Maps.atKey_of_not_has h4] at h5
    rw [← BL_inj h5]; exact zeros_len
theorem ownsMap_tight {w : World} {b n m : Nat} {es : List (Lit × DataW Unit)} (h : w.ownsMap Try.prog 3 rdBlk b n (.map es)) (hm : es.length ≤ m) : w.ownsMap Try.prog 3 rdBlk b m (.map es) := by
  obtain ⟨ms, clock, hb, F, hs, hD⟩ := h
  refine ⟨ms, clock, hb, F, ?_, hD⟩
  have h1 : es = (ms.toList.map (WideElems.rg Try.prog 3 rdBlk)).foldr DataW.insert [] := by injection hD
  have h2 : es.length = ms.size := by rw [h1, length_sorted]; simp
  omega
theorem SMap.put {w : World} {b : Nat} {f : Int → List UInt8} (h : SMap w b f) {i : Int} (h0 : 0 ≤ i) (h1 : i < 8192) {l : List UInt8} (hl : l.length = 512) :
    ∃ w', (Instr.mapUpdate 45 (.map (some b)) (.int .i64 i) (blkV l)).run Try.prog w = .ok () w' ∧ SMap w' b (upd f i l) ∧ w.mapTurned w' b := by
  obtain ⟨es, ho, h2, h3⟩ := h
  obtain ⟨w', hrun, hown, ht⟩ := ho.store int_kd Try.underlying45 (by unfold maxLen; omega) (key_int h0 h1) (rdBlk_mk hl)
  have hes : (DataW.map es).put (KL i) (.lit (.string l)) = .map (DataW.insert (KL i, .lit (.string l)) (es.filter fun p => !p.1.sameKey (KL i))) := rfl
  have hr : InRange (DataW.insert (KL i, .lit (.string l)) (es.filter fun p => !p.1.sameKey (KL i))) := by
    intro p hp
    rcases ChangeMaps.mem_insert_iff.1 hp with rfl | hp
    · exact ⟨i, rfl, h0, h1⟩
    · exact h2 p (List.mem_filter.1 hp).1
  have hpw : (DataW.insert (KL i, .lit (.string l)) (es.filter fun p => !p.1.sameKey (KL i)) : List (Lit × DataW Unit)).Pairwise (fun p q => p.1 ≠ q.1) := by
    rw [hes] at hown
    obtain ⟨es', e1, e2⟩ := hown.tidy int_kd
    injection e1 with e1
    rw [e1]; exact e2
  rw [hes] at hown
  refine ⟨w', hrun, ⟨_, ownsMap_tight hown (range_le hr hpw), hr, fun j => ?_⟩, ht⟩
  rw [← hes]
  unfold upd
  by_cases hj : j = i
  · subst hj
    rw [if_pos rfl]
    exact Maps.atKey_put_same ⟨es, rfl⟩ (KL_key j) _ _
  · rw [if_neg hj, Maps.atKey_put_other (fun e => hj (KL_inj e))]
    exact h3 j
theorem SMap.del {w : World} {b : Nat} {f : Int → List UInt8} (h : SMap w b f) {i : Int} (h0 : 0 ≤ i) (h1 : i < 8192) (ty : TypeId) :
    ∃ w', (Builtin.delete_ #[45, 3] ty #[.map (some b), .int .i64 i]).run Try.prog w = .ok (.tuple #[]) w' ∧ SMap w' b (upd f i zeros) ∧ w.mapTurned w' b := by
  obtain ⟨es, ho, h2, h3⟩ := h
  obtain ⟨w', hrun, hown, ht⟩ := ho.drop int_kd Try.underlying45 (key_int h0 h1) ty
  have hes : (DataW.map es).del (KL i) = .map (es.filter fun p => !p.1.sameKey (KL i)) := rfl
  rw [hes] at hown
  refine ⟨w', hrun, ⟨_, hown, fun p hp => h2 p (List.mem_filter.1 hp).1, fun j => ?_⟩, ht⟩
  rw [← hes]
  unfold upd
  by_cases hj : j = i
  · subst hj
    rw [if_pos rfl, Maps.atKey_del_same]
  · rw [if_neg hj, Maps.atKey_del_other (fun e => hj (KL_inj e))]
    exact h3 j
end Go.Proofs.Ytlhfhhbafhnbkaa
