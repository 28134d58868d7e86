/-
  A REGION THAT DRAWS ITS ORDER, BY AN INVARIANT over what has been done: each operation that may come next keeps it; when all is done the walk goes on. True of any program.
-/
import Derived.Orders
import Derived.RegionTactic
import Derived.WalkKit
namespace Go.Proofs.Ytlhfhhbafhnbkaa
open Go.RowKit
/-- at the end K, at every other exit as Q says -/
def AtEnd (Q : Exit → Act → World → Prop) (K : Act → World → Prop) : Exit → Act → World → Prop
  | .normal, a, w => K a w
  | e, a, w => Q e a w
/-- one more is done -/
def more (D : Nat → Bool) (i : Nat) : Nat → Bool := fun k => if k = i then true else D k
/-- every operation waits for earlier ones of the text alone -/
def earlier (l : List Oper) : Bool := l.zipIdx.all fun (o, i) => o.after.all fun e => !Region.binds .any e || decide (e.on < i)
theorem earlier_spec {l : List Oper} (h : earlier l = true) {i : Nat} {o : Oper} (ho : l[i]? = some o) (e : Edge) (he : e ∈ o.after) (hb : Region.binds .any e = true) : e.on < i := by
  have hm : (o, i) ∈ l.zipIdx := by
    rw [List.mem_zipIdx_iff_getElem?]; exact ho
  have h1 := List.all_eq_true.1 h _ hm
  have h2 := Array.all_eq_true_iff_forall_mem.1 h1 e he
  simpa [hb] using h2
section
variable {P : Program} {l : List Oper} {Q : Exit → Act → World → Prop}
theorem letsOut_atEnd {K : Act → World → Prop} (h : LetsOut (AtEnd Q K)) : LetsOut Q := by
  obtain ⟨a, w, h⟩ := h; exact ⟨a, w, h⟩
theorem upon_atEnd {o : Oper} {a : Act} {next K : Act → World → Prop} {r : Result Next} (h : o.upon P a next (AtEnd Q K) r) : o.upon P a next Q r := by
  cases r with
  | ok n w' =>
    cases n <;> simp only [Oper.upon] at h ⊢ <;> exact h
  | halt x w' => cases x <;> simp only [Oper.upon] at h ⊢ <;> exact h
theorem wpOp_of_list {i : Nat} {o : Oper} (ho : l[i]? = some o) {K : Act → World → Prop} {a : Act} {w : World} (h : wpList P l.toArray (AtEnd Q K) [o] a w) : wpOp P l.toArray Q i K a w := by
  have hi : (l.toArray)[i]? = some o := by simpa using ho
  unfold wpOp
  simp only [hi]
  unfold wpList at h
  split
  · rename_i hw
    rw [if_pos hw] at h
    rcases h with h | ⟨h1, h2⟩
    · refine .inl ?_
      have h3 : o.wp P a w K (AtEnd Q K) := h
      exact upon_atEnd h3
    · exact .inr ⟨h1, letsOut_atEnd h2⟩
  · rename_i hw
    rw [if_neg hw] at h
    exact h
/-- what is listed, as a function -/
def doneOf (listed : Array Bool) : Nat → Bool := fun k => listed.getD k false
theorem doneOf_set {listed : Array Bool} {i : Nat} (hi : i < listed.size) : doneOf (listed.setIfInBounds i true) = more (doneOf listed) i := by
  funext k
  unfold doneOf more
  by_cases h : k = i
  · subst h; rw [if_pos rfl]; simp [hi]
  · rw [if_neg h, getD_set_ne _ (fun e => h e.symm)]
/-- how many are not listed yet -/
def todo (listed : Array Bool) : Nat := listed.toList.countP (fun b => !b)
theorem todo_set {listed : Array Bool} {i : Nat} (hi : listed[i]? = some false) : todo listed = todo (listed.setIfInBounds i true) + 1 := by
  unfold todo
  have hlt : i < listed.toList.length := by
    have := (Array.getElem?_eq_some_iff.1 hi).1; simpa using this
  have hv : listed.toList[i] = false := by
    have := (Array.getElem?_eq_some_iff.1 hi).2; simpa using this
  rw [Array.toList_setIfInBounds, List.set_eq_take_append_cons_drop, if_pos hlt]
  conv => lhs; rw [← List.take_append_drop i listed.toList, List.drop_eq_getElem_cons hlt, hv]
  rw [List.countP_append, List.countP_append, List.countP_cons, List.countP_cons]
  simp; omega
theorem ready_nil {listed : Array Bool} (he : earlier l = true) (hs : listed.size = l.length) (hr : Region.ready .any l.toArray listed = []) : ∀ i, i < l.length → doneOf listed i = true := by
  intro i
  induction i using Nat.strongRecOn with
  | _ i ih =>
    intro hi
    cases hd : doneOf listed i
    · exfalso
      have ho : l[i]? = some l[i] := List.getElem?_eq_getElem hi
      have hm : i ∈ Region.ready .any l.toArray listed := by
        rw [mem_ready]
        refine ⟨?_, l[i], by simp [hi], fun e hem hb => ?_⟩
        · unfold doneOf at hd
          have hsz : i < listed.size := by omega
          simp [hsz] at hd ⊢; exact hd
        · have := earlier_spec he ho e hem hb
          exact ih _ this (by omega)
      rw [hr] at hm; cases hm
    · rfl
theorem wpAny_inv (Inv : (Nat → Bool) → Act → World → Prop) (he : earlier l = true)
    (step : ∀ (D : Nat → Bool) (a : Act) (w : World) (i : Nat) (o : Oper), l[i]? = some o → D i = false → (∀ e ∈ o.after, Region.binds .any e = true → D e.on = true) → Inv D a w →
      wpList P l.toArray (AtEnd Q (Inv (more D i))) [o] a w)
    (fin : ∀ (D : Nat → Bool) (a : Act) (w : World), (∀ i, i < l.length → D i = true) → Inv D a w → Q .normal a w) :
    ∀ (fuel : Nat) (listed : Array Bool) (a : Act) (w : World), listed.size = l.length → todo listed ≤ fuel → Inv (doneOf listed) a w → wpAny P .any l.toArray Q fuel listed a w := by
  intro fuel
  induction fuel with
  | zero =>
    intro listed a w hs ht hI
    have hall : ∀ i, i < l.length → doneOf listed i = true := by
      intro i hi
      cases hd : doneOf listed i
      · have hsz : i < listed.size := by omega
        have h0 : listed[i]? = some false := by
          unfold doneOf at hd; simp [hsz] at hd; simp [hsz, hd]
        have := todo_set h0
        omega
      · rfl
    refine ⟨?_, fin _ a w hall hI⟩
    cases hr : Region.ready .any l.toArray listed with
    | nil => rfl
    | cons i r =>
      have hm : i ∈ Region.ready .any l.toArray listed := by rw [hr]; simp
      obtain ⟨h1, o, ho, _⟩ := mem_ready.1 hm
      have hi : i < l.length := by
        have := (Array.getElem?_eq_some_iff.1 ho).1; simpa using this
      have h2 := hall i hi
      have hsz : i < listed.size := by omega
      unfold doneOf at h2; simp [hsz] at h1 h2; rw [h1] at h2; cases h2
  | succ fuel ih =>
    intro listed a w hs ht hI
    refine ⟨fun hr => fin _ a w (ready_nil he hs hr) hI, fun i hm => ?_⟩
    obtain ⟨h1, o, ho, hpre⟩ := mem_ready.1 hm
    have ho' : l[i]? = some o := by simpa using ho
    have hi : i < l.length := by
      have := (Array.getElem?_eq_some_iff.1 ho).1; simpa using this
    have hsz : i < listed.size := by omega
    have hf : listed[i]? = some false := by
      simp [hsz] at h1; simp [hsz, h1]
    have hd : doneOf listed i = false := by unfold doneOf; simp [hsz] at h1 ⊢; exact h1
    have h2 := wpOp_of_list ho' (step (doneOf listed) a w i o ho' hd (fun e hem hb => hpre e hem hb) hI)
    refine wpOp_mono (fun a' w' hI' => ih _ a' w' (by simpa using hs) ?_ ?_) h2
    · have := todo_set hf; omega
    · rw [doneOf_set hsz]; exact hI'
/-- A REGION THAT DRAWS ITS ORDER, BY AN INVARIANT. -/
theorem wp_region_inv {id : Nat} {a : Act} {w : World} (hm : P.follows .mixedOrders = true) (he : earlier l = true) (Inv : (Nat → Bool) → Act → World → Prop)
    (h0 : Inv (fun _ => false) a w.drew)
    (step : ∀ (D : Nat → Bool) (a : Act) (w : World) (i : Nat) (o : Oper), l[i]? = some o → D i = false → (∀ e ∈ o.after, Region.binds .any e = true → D e.on = true) → Inv D a w →
      wpList P l.toArray (AtEnd Q (Inv (more D i))) [o] a w)
    (fin : ∀ (D : Nat → Bool) (a : Act) (w : World), (∀ i, i < l.length → D i = true) → Inv D a w → Q .normal a w) : (Code.region id l.toArray true).wp P Q a w := by
  refine wp_region_any hm (wpAny_inv Inv he step fin _ _ a _ (by simp) ?_ ?_)
  · unfold todo
    exact Nat.le_trans List.countP_le_length (by simp)
  · have : doneOf (Array.replicate l.toArray.size false) = fun _ => false := by
      funext k; unfold doneOf; simp [Array.getElem?_replicate]; split <;> rfl
    rw [this]; exact h0
/-- what is done has all done that it waits for -/
def Closed (l : List Oper) (D : Nat → Bool) : Prop := ∀ (i : Nat) (o : Oper), l[i]? = some o → D i = true → ∀ e ∈ o.after, Region.binds .any e = true → D e.on = true
theorem Closed.at_ {l : List Oper} {D : Nat → Bool} (h : Closed l D) (i : Nat) (o : Oper) (ho : l[i]? = some o) (hd : D i = true) (j : Nat) (e : Edge) (he : o.after[j]? = some e) (hb : Region.binds .any e = true) : D e.on = true :=
  h i o ho hd e (Array.mem_of_getElem? he) hb
theorem Closed.not_ {l : List Oper} {D : Nat → Bool} (h : Closed l D) (i : Nat) (o : Oper) (ho : l[i]? = some o) (j : Nat) (e : Edge) (he : o.after[j]? = some e) (hb : Region.binds .any e = true) (hd : D e.on = false) : D i = false := by
  cases h1 : D i
  · rfl
  · have := h.at_ i o ho h1 j e he hb; rw [hd] at this; cases this
theorem Closed.more_ {l : List Oper} {D : Nat → Bool} (h : Closed l D) {i : Nat} {o : Oper} (ho : l[i]? = some o) (hpre : ∀ e ∈ o.after, Region.binds .any e = true → D e.on = true) : Closed l (more D i) := by
  intro k o' ho' hd e he hb
  have hk : D e.on = true := by
    by_cases hki : k = i
    · subst hki; rw [ho] at ho'; injection ho' with ho'; subst ho'; exact hpre e he hb
    · unfold more at hd; rw [if_neg hki] at hd; exact h k o' ho' hd e he hb
  unfold more
  split
  · rfl
  · exact hk
theorem wpAny_inv_cl (Inv : (Nat → Bool) → Act → World → Prop) (he : earlier l = true)
    (step : ∀ (D : Nat → Bool) (a : Act) (w : World) (i : Nat) (o : Oper), l[i]? = some o → D i = false → Closed l D → (∀ e ∈ o.after, Region.binds .any e = true → D e.on = true) → Inv D a w →
      wpList P l.toArray (AtEnd Q (Inv (more D i))) [o] a w)
    (fin : ∀ (D : Nat → Bool) (a : Act) (w : World), (∀ i, i < l.length → D i = true) → Inv D a w → Q .normal a w) :
    ∀ (fuel : Nat) (listed : Array Bool) (a : Act) (w : World), listed.size = l.length → todo listed ≤ fuel → Closed l (doneOf listed) → Inv (doneOf listed) a w → wpAny P .any l.toArray Q fuel listed a w := by
  intro fuel
  induction fuel with
  | zero =>
    intro listed a w hs ht hcl hI
    have hall : ∀ i, i < l.length → doneOf listed i = true := by
      intro i hi
      cases hd : doneOf listed i
      · have hsz : i < listed.size := by omega
        have h0 : listed[i]? = some false := by
          unfold doneOf at hd; simp [hsz] at hd; simp [hsz, hd]
        have := todo_set h0
        omega
      · rfl
    refine ⟨?_, fin _ a w hall hI⟩
    cases hr : Region.ready .any l.toArray listed with
    | nil => rfl
    | cons i r =>
      have hm : i ∈ Region.ready .any l.toArray listed := by rw [hr]; simp
      obtain ⟨h1, o, ho, _⟩ := mem_ready.1 hm
      have hi : i < l.length := by
        have := (Array.getElem?_eq_some_iff.1 ho).1; simpa using this
      have h2 := hall i hi
      have hsz : i < listed.size := by omega
      unfold doneOf at h2; simp [hsz] at h1 h2; rw [h1] at h2; cases h2
  | succ fuel ih =>
    intro listed a w hs ht hcl hI
    refine ⟨fun hr => fin _ a w (ready_nil he hs hr) hI, fun i hm => ?_⟩
    obtain ⟨h1, o, ho, hpre⟩ := mem_ready.1 hm
    have ho' : l[i]? = some o := by simpa using ho
    have hi : i < l.length := by
      have := (Array.getElem?_eq_some_iff.1 ho).1; simpa using this
    have hsz : i < listed.size := by omega
    have hf : listed[i]? = some false := by
      simp [hsz] at h1; simp [hsz, h1]
    have hd : doneOf listed i = false := by unfold doneOf; simp [hsz] at h1 ⊢; exact h1
    have hpre' : ∀ e ∈ o.after, Region.binds .any e = true → doneOf listed e.on = true := fun e hem hb => hpre e hem hb
    have h2 := wpOp_of_list ho' (step (doneOf listed) a w i o ho' hd hcl hpre' hI)
    refine wpOp_mono (fun a' w' hI' => ih _ a' w' (by simpa using hs) ?_ ?_ ?_) h2
    · have := todo_set hf; omega
    · rw [doneOf_set hsz]; exact hcl.more_ ho' hpre'
    · rw [doneOf_set hsz]; exact hI'
/-- A REGION THAT DRAWS ITS ORDER, BY AN INVARIANT; what is done has all done that it waits for. -/
theorem wp_region_cl {id : Nat} {a : Act} {w : World} (hm : P.follows .mixedOrders = true) (he : earlier l = true) (Inv : (Nat → Bool) → Act → World → Prop)
    (h0 : Inv (fun _ => false) a w.drew)
    (step : ∀ (D : Nat → Bool) (a : Act) (w : World) (i : Nat) (o : Oper), l[i]? = some o → D i = false → Closed l D → (∀ e ∈ o.after, Region.binds .any e = true → D e.on = true) → Inv D a w →
      wpList P l.toArray (AtEnd Q (Inv (more D i))) [o] a w)
    (fin : ∀ (D : Nat → Bool) (a : Act) (w : World), (∀ i, i < l.length → D i = true) → Inv D a w → Q .normal a w) : (Code.region id l.toArray true).wp P Q a w := by
  have e0 : doneOf (Array.replicate l.toArray.size false) = fun _ => false := by
    funext k; unfold doneOf; simp [Array.getElem?_replicate]; split <;> rfl
  refine wp_region_any hm (wpAny_inv_cl Inv he step fin _ _ a _ (by simp) ?_ ?_ ?_)
  · unfold todo
    exact Nat.le_trans List.countP_le_length (by simp)
  · rw [e0]; intro i o _ hd; cases hd
  · rw [e0]; exact h0
end
end Go.Proofs.Ytlhfhhbafhnbkaa
