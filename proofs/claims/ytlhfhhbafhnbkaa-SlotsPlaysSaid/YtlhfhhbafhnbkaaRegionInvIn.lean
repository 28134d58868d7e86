/-
  A REGION THAT DRAWS ITS ORDER, BY AN INVARIANT over what has been done, INSIDE A FENCE. True of any program.
-/
import Derived.Test.YtlhfhhbafhnbkaaRegionInv
import Derived.OrdersIn
import Derived.TacticsIn
import Derived.TacticsInMore
namespace Go.Proofs.Ytlhfhhbafhnbkaa
open Go.RowKit
section
variable {F : Fence} {n : Nat} {P : Program} {l : List Oper} {Q : Exit → Act → World → Prop}
theorem uponIn_atEnd {o : Oper} {a : Act} {next K : Act → World → Prop} {r : Result Next} (h : o.uponIn F n P a next (AtEnd Q K) r) : o.uponIn F n P a next Q r := by
  cases r with
  | ok x w' =>
    cases x <;> simp only [Oper.uponIn] at h ⊢ <;>
      first
        | exact h
        | exact ⟨h.1, CallsIn.mono h.2 (fun e w'' he => by cases e <;> first | exact he | exact letsOut_atEnd he)⟩
        | exact ⟨h.1, RowsIn.mono h.2 (fun _ _ he => he)⟩
        | exact ⟨h.1, RoundIn.mono h.2 (fun e w'' he => by cases e <;> first | exact he | exact letsOut_atEnd he)⟩
  | halt x w' => cases x <;> simp only [Oper.uponIn] at h ⊢ <;> exact h
theorem wpOpIn_of_list {i : Nat} {o : Oper} (ho : l[i]? = some o) {K : Act → World → Prop} {a : Act} {w : World} (h : wpListIn F n P l.toArray (AtEnd Q K) [o] a w) : wpOpIn F n P l.toArray Q i K a w := by
  have hi : (l.toArray)[i]? = some o := by simpa using ho
  unfold wpOpIn
  simp only [hi]
  unfold wpListIn at h
  split
  · rename_i hw
    rw [if_pos hw] at h
    have h3 : o.wpIn F n P a w K (AtEnd Q K) := h
    exact ⟨h3.1, uponIn_atEnd h3.2⟩
  · rename_i hw
    rw [if_neg hw] at h
    exact h
theorem wpAnyIn_inv_cl (Inv : (Nat → Bool) → Act → World → Prop) (he : earlier l = true)
    (step : ∀ (D : Nat → Bool) (a : Act) (w : World) (i : Nat) (o : Oper), l[i]? = some o → D i = false → Closed l D → (∀ e ∈ o.after, Region.binds .any e = true → D e.on = true) → Inv D a w →
      wpListIn F n P l.toArray (AtEnd Q (Inv (more D i))) [o] a w)
    (fin : ∀ (D : Nat → Bool) (a : Act) (w : World), (∀ i, i < l.length → D i = true) → Inv D a w → Q .normal a w) :
    ∀ (fuel : Nat) (listed : Array Bool) (a : Act) (w : World), listed.size = l.length → todo listed ≤ fuel → Closed l (doneOf listed) → Inv (doneOf listed) a w → wpAnyIn F n P .any l.toArray Q fuel listed a w := by
  intro fuel
  induction fuel with
  | zero =>
    intro listed a w hs ht hcl hI
    have hall : ∀ i, i < l.length → doneOf listed i = true := by
      intro i hi
      cases hd : doneOf listed i
      · have hsz : i < listed.size := by omega
        have h0 : listed[i]? = some false := by
          unfold doneOf at hd; simp [hsz] at hd; simp [hsz, hd]
        have := todo_set h0
        omega
      · rfl
    refine ⟨?_, fin _ a w hall hI⟩
    cases hr : Region.ready .any l.toArray listed with
    | nil => rfl
    | cons i r =>
      have hm : i ∈ Region.ready .any l.toArray listed := by rw [hr]; simp
      obtain ⟨h1, o, ho, _⟩ := mem_ready.1 hm
      have hi : i < l.length := by
        have := (Array.getElem?_eq_some_iff.1 ho).1; simpa using this
      have h2 := hall i hi
      have hsz : i < listed.size := by omega
      unfold doneOf at h2; simp [hsz] at h1 h2; rw [h1] at h2; cases h2
  | succ fuel ih =>
    intro listed a w hs ht hcl hI
    refine ⟨fun hr => fin _ a w (ready_nil he hs hr) hI, fun i hm => ?_⟩
    obtain ⟨h1, o, ho, hpre⟩ := mem_ready.1 hm
    have ho' : l[i]? = some o := by simpa using ho
    have hi : i < l.length := by
      have := (Array.getElem?_eq_some_iff.1 ho).1; simpa using this
    have hsz : i < listed.size := by omega
    have hf : listed[i]? = some false := by
      simp [hsz] at h1; simp [hsz, h1]
    have hd : doneOf listed i = false := by unfold doneOf; simp [hsz] at h1 ⊢; exact h1
    have hpre' : ∀ e ∈ o.after, Region.binds .any e = true → doneOf listed e.on = true := fun e hem hb => hpre e hem hb
    have h2 := wpOpIn_of_list ho' (step (doneOf listed) a w i o ho' hd hcl hpre' hI)
    refine wpOpIn_mono (fun a' w' hI' => ih _ a' w' (by simpa using hs) ?_ ?_ ?_) h2
    · have := todo_set hf; omega
    · rw [doneOf_set hsz]; exact hcl.more_ ho' hpre'
    · rw [doneOf_set hsz]; exact hI'
/-- A REGION THAT DRAWS ITS ORDER, BY AN INVARIANT, INSIDE A FENCE; what is done has all done that it waits for. -/
theorem wpIn_region_cl {id : Nat} {a : Act} {w : World} (hm : P.follows .mixedOrders = true) (he : earlier l = true) (Inv : (Nat → Bool) → Act → World → Prop)
    (h0 : Inv (fun _ => false) a w.drew)
    (step : ∀ (D : Nat → Bool) (a : Act) (w : World) (i : Nat) (o : Oper), l[i]? = some o → D i = false → Closed l D → (∀ e ∈ o.after, Region.binds .any e = true → D e.on = true) → Inv D a w →
      wpListIn F n P l.toArray (AtEnd Q (Inv (more D i))) [o] a w)
    (fin : ∀ (D : Nat → Bool) (a : Act) (w : World), (∀ i, i < l.length → D i = true) → Inv D a w → Q .normal a w) : (Code.region id l.toArray true).wpIn F n P Q a w := by
  have e0 : doneOf (Array.replicate l.toArray.size false) = fun _ => false := by
    funext k; unfold doneOf; simp [Array.getElem?_replicate]; split <;> rfl
  refine wpIn_region_any hm (wpAnyIn_inv_cl Inv he step fin _ _ a _ (by simp) ?_ ?_ ?_)
  · unfold todo
    exact Nat.le_trans List.countP_le_length (by simp)
  · rw [e0]; intro i o _ hd; cases hd
  · rw [e0]; exact h0
end
end Go.Proofs.Ytlhfhhbafhnbkaa
