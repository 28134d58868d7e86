/-
  THE WALKS of ReadLocal and ReadCentral.
-/
import Derived.Test.YtgojdkjneggmjaaRec13
namespace Go.Proofs.Ytgojdkjneggmjaa
open Go.RowKit FieldM
set_option linter.unusedSimpArgs false
theorem head_info : (Try.prog.info? 61).map (·.size) = some (#[undef, undef] : Array Value).size := by kernel_rfl
def readF (l : List UInt8) (p : Int) (mk : List UInt8) (long from_ : Nat) (zs : List Int) : Int := recF (lookX l p long) (noneF (lookF l p mk long) (lookX l p long) zs) long from_
def readR (l : List UInt8) (p : Int) (mk : List UInt8) (long from_ : Nat) (zs : List Int) : Rec := recR (lookX l p long) (noneF (lookF l p mk long) (lookX l p long) zs) long from_
theorem readF_look {l : List UInt8} {p : Int} {mk : List UInt8} {long from_ : Nat} {zs : List Int} (h : readF l p mk long from_ zs = 0) : cutErr l.length p long = 0 := by
  have h0 : ∀ f : Int, recF (lookX l p long) f long from_ = 0 → f = 0 := by
    intro f h
    by_cases hf : f = 0
    · exact hf
    · unfold recF at h; rw [if_pos hf] at h; exact absurd h hf
  have h1 : ∀ (ps : List Int) (f : Int) (x : List UInt8), noneF f x ps = 0 → f = 0 := by
    intro ps
    induction ps with
    | nil => intro f x h; exact h
    | cons q r ih =>
      intro f x h
      have h2 : askF f (getL x q 2 == 0) 15 = 0 := ih _ x h
      unfold askF at h2
      split at h2
      · cases h2
      · exact h2
  have h2 := h1 _ _ _ (h0 _ h)
  unfold lookF at h2
  by_cases h3 : cutErr l.length p long = 0
  · exact h3
  · rw [if_neg h3] at h2; exact absurd h2 h3
theorem recR_len (x : List UInt8) (f : Int) (long from_ : Nat) : (recR x f long from_).name.length ≤ x.length := by
  unfold recR
  split
  · simp; omega
  · simp [Rec.zero]
theorem readR_len (l : List UInt8) (p : Int) (mk : List UInt8) (long from_ : Nat) (zs : List Int) : (readR l p mk long from_ zs).name.length ≤ l.length := by
  refine Nat.le_trans (recR_len _ _ _ _) ?_
  unfold lookX
  split
  · simp
  · simp
def InvRL2 (g h r4 B nn n c : Nat) (A : Option Addr) (p f : Int) (x : List UInt8) (w0 : World) (D : Nat → Bool) (a : Act) (w : World) : Prop :=
  ∃ (s1 : Nat) (z1 : Nat) (v3 : Value), a = { tmps := #[.slice A n c, .int .i64 p, undef, undef, .pointer (some ⟨r4, 0, none⟩), .int .i64 0, .int .i64 0, .pointer (some ⟨h, 0, none⟩), undef, .slice A n c, .int .i64 p, .agg #[.pointer (some ⟨g, 0, none⟩), .int .i64 30], (slot (D 0) (.agg #[.pointer (some ⟨g, 0, none⟩), .int .i64 30]) (undef)), (slot (D 1) (.slice (some ⟨s1, 0, none⟩) 1 1) (undef)), (slot (D 2) (.func (.func 51) #[] #[.pointer (some ⟨z1, 0, none⟩)]) (undef)), (slot (D 3) (v3) (undef)), undef, undef, undef, undef, undef, undef, undef, undef, undef, undef, undef, undef, undef, undef, undef, undef, undef, undef, undef, undef, undef], defers := [] } ∧
    (D 3 = false → Eye w B g nn x f) ∧
    (D 3 = true → Eye w B g nn x (noneF f x [28])) ∧
    (D 1 = true → Blk w s1 3 #[.int .i64 28]) ∧
    (D 2 = true → Blk w z1 78 #[.slice (some ⟨s1, 0, none⟩) 1 1]) ∧
    (Blk w h 61 #[.pointer (some ⟨g, 0, none⟩), .int .i64 30]) ∧
    (Blk w r4 23 #[.string ⟨#[]⟩, .int .i64 0, .int .i64 0, .int .i64 0, .int .i64 0, .int .i64 0]) ∧
    (Chg (OneB g) w0 w)
def InvRL5 (g h r4 r8 s1 z1 B nn n c : Nat) (A : Option Addr) (p F : Int) (x : List UInt8) (rr : Rec) (v3 : Value) (w0 : World) (D : Nat → Bool) (a : Act) (w : World) : Prop :=
  a = { tmps := #[.slice A n c, .int .i64 p, undef, undef, .pointer (some ⟨r4, 0, none⟩), (slot (D 7) (.int .i64 0) (.int .i64 0)), (slot (D 8) (.int .i64 F) (.int .i64 0)), .pointer (some ⟨h, 0, none⟩), .pointer (some ⟨r8, 0, none⟩), .slice A n c, .int .i64 p, .agg #[.pointer (some ⟨g, 0, none⟩), .int .i64 30], .agg #[.pointer (some ⟨g, 0, none⟩), .int .i64 30], .slice (some ⟨s1, 0, none⟩) 1 1, .func (.func 51) #[] #[.pointer (some ⟨z1, 0, none⟩)], v3, .agg #[.pointer (some ⟨g, 0, none⟩), .int .i64 30], .agg rr.cells, .pointer (some ⟨h, 0, none⟩), .pointer (some ⟨g, 0, none⟩), .pointer (some ⟨g, 0, none⟩), .pointer (some ⟨g, 1, none⟩), .int .i64 F, .bool true, (slot (D 0) (.agg #[.string ⟨#[]⟩, .int .i64 0, .int .i64 0, .int .i64 0, .int .i64 0, .int .i64 0]) (undef)), (slot (D 1) (.pointer (some ⟨h, 0, none⟩)) (undef)), (slot (D 2) (.pointer (some ⟨g, 0, none⟩)) (undef)), (slot (D 3) (.pointer (some ⟨g, 0, none⟩)) (undef)), (slot (D 4) (.pointer (some ⟨g, 1, none⟩)) (undef)), (slot (D 5) (.int .i64 F) (undef)), undef, undef, undef, undef, undef, undef, undef], defers := [] } ∧
    (Blk w h 61 #[.pointer (some ⟨g, 0, none⟩), .int .i64 30]) ∧
    (Blk w r4 23 #[.string ⟨#[]⟩, .int .i64 0, .int .i64 0, .int .i64 0, .int .i64 0, .int .i64 0]) ∧
    (Eye w B g nn x F) ∧
    (Chg (OneB r4) w0 w)
def InvRL6 (g h r4 r8 s1 z1 n c : Nat) (A : Option Addr) (p : Int) (rr : Rec) (v3 : Value) (w0 : World) (D : Nat → Bool) (a : Act) (w : World) : Prop :=
  a = { tmps := #[.slice A n c, .int .i64 p, undef, undef, .pointer (some ⟨r4, 0, none⟩), (slot (D 8) (.int .i64 (p + 30 + (rr.name.length : Int))) (.int .i64 0)), (slot (D 9) (.int .i64 0) (.int .i64 0)), .pointer (some ⟨h, 0, none⟩), .pointer (some ⟨r8, 0, none⟩), .slice A n c, .int .i64 p, .agg #[.pointer (some ⟨g, 0, none⟩), .int .i64 30], .agg #[.pointer (some ⟨g, 0, none⟩), .int .i64 30], .slice (some ⟨s1, 0, none⟩) 1 1, .func (.func 51) #[] #[.pointer (some ⟨z1, 0, none⟩)], v3, .agg #[.pointer (some ⟨g, 0, none⟩), .int .i64 30], .agg rr.cells, .pointer (some ⟨h, 0, none⟩), .pointer (some ⟨g, 0, none⟩), .pointer (some ⟨g, 0, none⟩), .pointer (some ⟨g, 1, none⟩), .int .i64 0, .bool false, undef, undef, undef, undef, undef, undef, (slot (D 0) (.agg rr.cells) (undef)), (slot (D 1) (.int .i64 p) (undef)), (slot (D 2) (.int .i64 (p + 30)) (undef)), (slot (D 3) (.pointer (some ⟨r8, 0, none⟩)) (undef)), (slot (D 4) (.string ⟨rr.name.toArray⟩) (undef)), (slot (D 5) (.int .i64 (rr.name.length : Int)) (undef)), (slot (D 6) (.int .i64 (p + 30 + (rr.name.length : Int))) (undef))], defers := [] } ∧
    (Blk w r8 23 rr.cells) ∧
    (D 7 = false → Blk w r4 23 #[.string ⟨#[]⟩, .int .i64 0, .int .i64 0, .int .i64 0, .int .i64 0, .int .i64 0]) ∧
    (D 7 = true → Blk w r4 23 rr.cells) ∧
    (Chg (OneB r4) w0 w)
def RLPost (w : World) (l : List UInt8) (p : Int) (e : Ending) (w' : World) : Prop :=
  e = .returned (.tuple #[.agg (readR l p [80, 75, 3, 4] 30 4 [28]).cells, .int .i64 (if readF l p [80, 75, 3, 4] 30 4 [28] = 0 then p + 30 + (readR l p [80, 75, 3, 4] 30 4 [28]).name.length else 0), .int .i64 (readF l p [80, 75, 3, 4] 30 4 [28])]) ∧ Chg NoB w w'
set_option maxRecDepth 100000 in
set_option maxHeartbeats 8000000 in
theorem readlocal_any (A : Option Addr) (l : List UInt8) (n c : Nat) (p : Int) (hn : l.length = n) (B : Nat) (w : World) (hr : RB w B A l) (hc : n ≤ c) (hb : n ≤ 140737488355328) (hB : B ≤ w.heap.size) :
    Calls Try.prog 22 #[.slice A n c, .int .i64 p] w (RLPost w l p) := by
  have HN := Lib.hid hn
  clear hn
  have hr' := hr.alloc hB (.cells #[.string ⟨#[]⟩, .int .i64 0, .int .i64 0, .int .i64 0, .int .i64 0, .int .i64 0] 23)
  have hb4 := Blk.new w 23 #[.string ⟨#[]⟩, .int .i64 0, .int .i64 0, .int .i64 0, .int .i64 0, .int .i64 0]
  have hcc : Chg NoB w (w.alloc (.cells #[.string ⟨#[]⟩, .int .i64 0, .int .i64 0, .int .i64 0, .int .i64 0, .int .i64 0] 23)) := (Chg.refl _ _).alloc _
  go_enter Try.func22, Try.ntmps22
  go_wp2_with fail
  refine (look_any A l n c p [80, 75, 3, 4] 30 HN.out B _ hr' hc hb (by simp; omega) rfl (by decide) (by decide)).mono ?_
  rintro e w1 ⟨g, rfl, hg, hE, hc1⟩
  obtain ⟨r4, hr4⟩ : ∃ r, r = w.heap.size := ⟨_, rfl⟩
  rw [← hr4] at hb4
  rw [← hr4]
  have hb41 := hb4.chg hc1 (fun h => h)
  have hcc1 := hcc.trans hc1 (fun _ _ h => h)
  have HX := Lib.hid (show w.heap.size < g ∧ r4 = w.heap.size ∧ w.heap.size < w1.heap.size from ⟨by simp at hg; omega, hr4, by have h1 := hb41.lt; omega⟩)
  clear hb4 hc1 hcc hr' hg hr4
  go_wp2_with fail
  obtain ⟨h, hh⟩ : ∃ h, h = w1.heap.size := ⟨_, rfl⟩
  obtain ⟨w2, hw2⟩ : ∃ w2, w2 = w1.alloc (.cells #[.pointer (some ⟨g, 0, none⟩), .int .i64 30] 61) := ⟨_, rfl⟩
  have hbx : Blk w2 h 61 #[.pointer (some ⟨g, 0, none⟩), .int .i64 30] := by rw [hw2, hh]; exact Blk.new w1 _ _
  have hwc : Chg NoB w1 w2 := by rw [hw2]; exact (Chg.refl _ _).alloc _
  rw [← hw2, ← hh]
  have hb42 := hb41.chg hwc (fun h => h)
  have hE2 := hE.no hwc
  have HC2 := Lib.hid (hcc1.trans hwc (fun _ _ h => h))
  have HH := Lib.hid hh
  clear hh hw2 hb41 hE hwc hcc1
  obtain ⟨x, hx⟩ : ∃ x, x = lookX l p 30 := ⟨_, rfl⟩
  obtain ⟨nn, hnn⟩ : ∃ nn, nn = (lookX l p 30).length := ⟨_, rfl⟩
  obtain ⟨f, hf⟩ : ∃ f, f = lookF l p [80, 75, 3, 4] 30 := ⟨_, rfl⟩
  have hE3 : Eye w2 B g nn x f := by rw [hx, hnn, hf]; exact hE2
  have HXF := Lib.hid (show x = lookX l p 30 ∧ nn = (lookX l p 30).length ∧ f = lookF l p [80, 75, 3, 4] 30 from ⟨hx, hnn, hf⟩)
  clear hx hnn hf hE2
  have i1 : false = false → Eye w2.drew B g nn x f := fun _ => hE3.no (Chg.refl NoB w2).drew
  have i2 := hbx.drew
  have i3 := hb42.drew
  have i4 : Chg (OneB g) w2 w2.drew := (Chg.refl _ w2).drew
  refine wp_region_cl rfl (by kernel_rfl) (InvRL2 g h r4 B nn n c A p f x w2) ?_ ?_ ?_
  · exact ⟨0, 0, undef, rfl, i1, (fun h => nomatch h), (fun h => nomatch h), (fun h => nomatch h), i2, i3, i4⟩
  · clear i1 i2 i3 i4 hE3 hbx hb42
    intro D a w i o ho hD hcl hpre hI
    obtain ⟨s1, z1, v3, rfl, hE0, hE1, hs, hz, hbx, hb4, hch⟩ := hI
    have hi : i < 4 := by have := (List.getElem?_eq_some_iff.1 ho).1; simpa using this
    rcases (by omega : i = 0 ∨ i = 1 ∨ i = 2 ∨ i = 3) with rfl | rfl | rfl | rfl
    · obtain rfl := Option.some.inj ho
      clear ho hpre hi hcl
      go_wp2_with (refine wpList_load_row rfl 61 _ rfl h rfl 61 _ (0, 0) _ hbx Try.underlying61 rfl head_info ?_)
      unfold AtEnd
      exact ⟨s1, z1, v3, rfl, hE0, hE1, hs, hz, hbx, hb4, hch⟩
    · obtain rfl := Option.some.inj ho
      have d2 : D 2 = false := (hcl.not_ 2 _ rfl 0 _ rfl rfl hD)
      have d3 : D 3 = false := (hcl.not_ 3 _ rfl 1 _ rfl rfl (hcl.not_ 2 _ rfl 0 _ rfl rfl hD))
      clear ho hpre hi hcl
      go_wp2_with fail
      unfold AtEnd
      exact ⟨w.heap.size, z1, v3, by simp only [more, slot_true, slot_false, Nat.reduceEqDiff, ↓reduceIte, d2, d3], fun h => (hE0 h).no ((Chg.refl NoB w).alloc _), fun h => (hE1 h).no ((Chg.refl NoB w).alloc _), fun _ => Blk.new w _ _, fun h => by simp [more, d2] at h, hbx.alloc _, hb4.alloc _, hch.alloc _⟩
    · obtain rfl := Option.some.inj ho
      have p1 := hpre ⟨1, .data⟩ (by simp) rfl
      have d3 : D 3 = false := (hcl.not_ 3 _ rfl 1 _ rfl rfl hD)
      clear ho hpre hi hcl
      go_wp2_with fail
      refine (zeros_any (some ⟨s1, 0, none⟩) 1 1 w).mono ?_
      rintro e w1 ⟨rfl, rfl⟩
      go_wp2_with fail
      unfold AtEnd
      exact ⟨s1, w.heap.size, v3, by simp only [more, slot_true, slot_false, Nat.reduceEqDiff, ↓reduceIte, p1, d3], fun h => (hE0 h).no ((Chg.refl NoB w).alloc _), fun h => (hE1 h).no ((Chg.refl NoB w).alloc _), fun h => (hs h).alloc _, fun _ => Blk.new w _ _, hbx.alloc _, hb4.alloc _, hch.alloc _⟩
    · obtain rfl := Option.some.inj ho
      have p0 := hpre ⟨0, .data⟩ (by simp) rfl
      have p2 := hpre ⟨2, .data⟩ (by simp) rfl
      have p1 : D 1 = true := (hcl.at_ 2 _ rfl p2 0 _ rfl rfl)
      clear ho hpre hi hcl
      have hE := hE0 hD
      have hs2 := hs p1
      have hz2 := hz p2
      clear hE0 hE1
      go_wp2_with fail
      refine (none_any B g nn x f w hE 30 z1 s1 [28] 1 rfl (by decide) hz2 hs2).mono ?_
      rintro e w1 ⟨⟨v9, rfl⟩, hE9, hc1⟩
      obtain ⟨A9, c9, hb9, _⟩ := hE.ex
      clear hs2 hz2 hE
      go_wp2_with fail
      unfold AtEnd
      exact ⟨s1, z1, v9, by simp only [more, slot_true, slot_false, Nat.reduceEqDiff, ↓reduceIte, p0, p2, p1], fun h => by simp [more] at h, fun _ => hE9, fun h => (hs h).chg hc1 (fun e => (hs h).ne_ hb9 (by decide) e), fun h => (hz h).chg hc1 (fun e => (hz h).ne_ hb9 (by decide) e), hbx.chg hc1 (fun e => hbx.ne_ hb9 (by decide) e), hb4.chg hc1 (fun e => hb4.ne_ hb9 (by decide) e), hch.trans hc1 (fun _ _ h => h)⟩
  · intro D a w hall hI
    obtain ⟨s1, z1, v3, rfl, hE0, hE1, hs, hz, hbx, hb4, hch⟩ := hI
    have e3 := hall 3 (by decide)
    have e0 := hall 0 (by decide)
    have e1 := hall 1 (by decide)
    have e2 := hall 2 (by decide)
    have hE := hE1 e3
    rw [e0, e1, e2, e3]
    simp only [slot_true]
    clear hE0 hE1 hs hz hall e0 e1 e2 e3 i1 i2 i3 i4
    have HHE := Lib.hid hE
    go_wp2_with (refine wpList_load_row rfl 61 _ rfl h rfl 61 _ (0, 0) _ hbx Try.underlying61 rfl head_info ?_)
    refine (record_any B g nn x _ w hE 30 4 (by decide) (by decide)).mono ?_
    rintro e w3 ⟨rfl, hE3, hc3⟩
    obtain ⟨rr, hrr⟩ : ∃ rr, rr = recR x (noneF f x [28]) 30 4 := ⟨_, rfl⟩
    obtain ⟨F, hF⟩ : ∃ F, F = recF x (noneF f x [28]) 30 4 := ⟨_, rfl⟩
    rw [← hrr]
    rw [← hF] at hE3
    have HRF := Lib.hid (show rr = readR l p [80, 75, 3, 4] 30 4 [28] ∧ F = readF l p [80, 75, 3, 4] 30 4 [28] from ⟨by unfold readR; rw [hrr, HXF.out.1, HXF.out.2.2]; rfl, by unfold readF; rw [hF, HXF.out.1, HXF.out.2.2]; rfl⟩)
    clear hrr hF
    obtain ⟨A9, c9, hb9, _⟩ := hE.ex
    have hbx3 := hbx.chg hc3 (fun e => hbx.ne_ hb9 (by decide) e)
    have hb43 := hb4.chg hc3 (fun e => hb4.ne_ hb9 (by decide) e)
    have HC3 := Lib.hid (hch.trans hc3 (fun _ _ h => h))
    have hb8 := Blk.new w3 23 #[.string ⟨#[]⟩, .int .i64 0, .int .i64 0, .int .i64 0, .int .i64 0, .int .i64 0]
    obtain ⟨r8, hr8⟩ : ∃ r, r = w3.heap.size := ⟨_, rfl⟩
    obtain ⟨w5, hw5⟩ : ∃ w5, w5 = (w3.alloc (.cells #[.string ⟨#[]⟩, .int .i64 0, .int .i64 0, .int .i64 0, .int .i64 0, .int .i64 0] 23)).setRow w3.heap.size rr.cells := ⟨_, rfl⟩
    have hb85 : Blk w5 r8 23 rr.cells := by rw [hw5, hr8]; exact hb8.row _
    have hbx5 : Blk w5 h 61 #[.pointer (some ⟨g, 0, none⟩), .int .i64 30] := by rw [hw5]; exact (hbx3.alloc _).farRow (Nat.ne_of_lt hbx3.lt) _
    have hb45 : Blk w5 r4 23 #[.string ⟨#[]⟩, .int .i64 0, .int .i64 0, .int .i64 0, .int .i64 0, .int .i64 0] := by rw [hw5]; exact (hb43.alloc _).farRow (Nat.ne_of_lt hb43.lt) _
    have hE5 : Eye w5 B g nn x F := by
      rw [hw5]
      exact (hE3.no ((Chg.refl NoB w3).alloc _)).chg (Chg.setRow (S := OneB w3.heap.size) (Chg.refl _ _) (.inl (by unfold OneB; rfl)) _) (fun i hi e => by have h1 := hE3.far; have h2 := hE3.lt; unfold OneB at e; omega) (fun e => by have h2 := hE3.lt; unfold OneB at e; omega)
    have HC5 : Hid (Chg (OneB g) w2 w5) := Lib.hid (by rw [hw5]; exact (HC3.out.alloc _).setRow (.inr (by rw [← hr8]; have h1 := HC3.out.size; omega)) _)
    have HW5 := Lib.hid hw5
    have HR8 := Lib.hid (show r8 = w3.heap.size ∧ r4 ≠ r8 from ⟨hr8, by rw [hr8]; exact Nat.ne_of_lt hb43.lt⟩)
    obtain ⟨A7, k7, hb7, _, _⟩ := hE5.ex
    have cf : w5.cell? ⟨g, 1, none⟩ = some (.int .i64 F) := hb7.cell 1
    have cx : w5.cell? ⟨h, 0, none⟩ = some (.pointer (some ⟨g, 0, none⟩)) := hbx5.cell 0
    have HFR := Lib.hid (show h ≠ g ∧ r4 ≠ g ∧ r8 ≠ g ∧ B ≤ g ∧ r4 ≠ h from ⟨hbx5.ne_ hb7 (by decide), hb45.ne_ hb7 (by decide), hb85.ne_ hb7 (by decide), hE5.far, hb45.ne_ hbx5 (by decide)⟩)
    have HE5 := Lib.hid hE5
    clear hb9 hE hbx hb4 hc3 hch HHE hr8 hw5 hbx3 hb43 hE3 hb7
    by_cases h0 : F = 0
    · subst h0
      have hpb : 0 ≤ p ∧ p + 30 ≤ n ∧ (rr.name.length : Int) ≤ n := by
        have h1 := readF_look (l := l) (p := p) (mk := [80, 75, 3, 4]) (long := 30) (from_ := 4) (zs := [28]) HRF.out.2.symm
        have h2 := cutErr_zero h1
        rw [HN.out] at h2
        refine ⟨h2.1, h2.2.2, ?_⟩
        rw [HRF.out.1]
        have h3 := readR_len l p [80, 75, 3, 4] 30 4 [28]
        rw [HN.out] at h3; omega
      obtain ⟨hp1, hp2, hp3⟩ := hpb
      have hss : (ByteArray.mk rr.name.toArray).size = rr.name.length := by simp [ByteArray.size]
      go_wp2_with (first
        | (refine wpList_store_blk rfl 23 _ _ rfl w3.heap.size rr.cells rfl rfl 23 _ hb8 rfl rec_info (by simp [Value.oneCell', Rec.cells]) ?_; rw [← HW5.out, ← HR8.out.1])
        | fail)
      have i1 := hb85.drew
      have i2 : false = false → Blk w5.drew r4 23 #[.string ⟨#[]⟩, .int .i64 0, .int .i64 0, .int .i64 0, .int .i64 0, .int .i64 0] := fun _ => hb45.drew
      have i4 : Chg (OneB r4) w5 w5.drew := (Chg.refl _ w5).drew
      refine wp_region_cl rfl (by kernel_rfl) (InvRL6 g h r4 r8 s1 z1 n c A p rr v3 w5) ?_ ?_ ?_
      · exact ⟨rfl, i1, i2, (fun h => nomatch h), i4⟩
      · clear i1 i2 i4 cf cx hb8 hb85 hbx5 hb45 hE5
        intro D a w i o ho hD hcl hpre hI
        obtain ⟨rfl, hb8, hb4, hb5, hch⟩ := hI
        have hi : i < 10 := by have := (List.getElem?_eq_some_iff.1 ho).1; simpa using this
        rcases (by omega : i = 0 ∨ i = 1 ∨ i = 2 ∨ i = 3 ∨ i = 4 ∨ i = 5 ∨ i = 6 ∨ i = 7 ∨ i = 8 ∨ i = 9) with rfl | rfl | rfl | rfl | rfl | rfl | rfl | rfl | rfl | rfl
        · obtain rfl := Option.some.inj ho
          clear ho hpre hi hcl
          go_wp2_with (refine wpList_load_row rfl 23 _ rfl r8 rfl 23 _ (0, 0) _ hb8 Try.underlying23 rfl rec_info ?_)
          unfold AtEnd
          exact ⟨rfl, hb8, hb4, hb5, hch⟩
        · obtain rfl := Option.some.inj ho
          clear ho hpre hi hcl
          go_wp2_with fail
          unfold AtEnd
          exact ⟨rfl, hb8, hb4, hb5, hch⟩
        · obtain rfl := Option.some.inj ho
          have p1 := hpre ⟨1, .data⟩ (by simp) rfl
          clear ho hpre hi hcl
          go_wp2_with fail
          unfold AtEnd
          exact ⟨by simp only [more, slot_true, slot_false, Nat.reduceEqDiff, ↓reduceIte, p1], hb8, hb4, hb5, hch⟩
        · obtain rfl := Option.some.inj ho
          clear ho hpre hi hcl
          go_wp2_with fail
          unfold AtEnd
          exact ⟨rfl, hb8, hb4, hb5, hch⟩
        · obtain rfl := Option.some.inj ho
          have p3 := hpre ⟨3, .data⟩ (by simp) rfl
          clear ho hpre hi hcl
          have c1 := hb8.cell 0
          simp only [Rec.cells] at c1
          go_wp2_with fail
          unfold AtEnd
          exact ⟨by simp only [more, slot_true, slot_false, Nat.reduceEqDiff, ↓reduceIte, p3], hb8, hb4, hb5, hch⟩
        · obtain rfl := Option.some.inj ho
          have p4 := hpre ⟨4, .data⟩ (by simp) rfl
          clear ho hpre hi hcl
          go_wp2_with fail
          unfold AtEnd
          exact ⟨by simp only [more, slot_true, slot_false, Nat.reduceEqDiff, ↓reduceIte, p4], hb8, hb4, hb5, hch⟩
        · obtain rfl := Option.some.inj ho
          have p2 := hpre ⟨2, .data⟩ (by simp) rfl
          have p5 := hpre ⟨5, .data⟩ (by simp) rfl
          clear ho hpre hi hcl
          go_wp2_with fail
          unfold AtEnd
          exact ⟨by simp only [more, slot_true, slot_false, Nat.reduceEqDiff, ↓reduceIte, p2, p5], hb8, hb4, hb5, hch⟩
        · obtain rfl := Option.some.inj ho
          have p0 := hpre ⟨0, .data⟩ (by simp) rfl
          clear ho hpre hi hcl
          have hq := hb4 hD
          rw [p0]
          simp only [slot_true]
          refine wpList_store_blk rfl 23 _ _ rfl r4 rr.cells rfl rfl 23 _ hq rfl rec_info (by simp [Value.oneCell', Rec.cells]) ?_
          go_wp2_with fail
          unfold AtEnd
          exact ⟨by simp only [more, slot_true, slot_false, Nat.reduceEqDiff, ↓reduceIte, p0], hb8.farRow (fun e => HR8.out.2 e.symm) _, fun h => by simp [more] at h, fun _ => hq.row _, hch.setRow (.inl (by unfold OneB; rfl)) _⟩
        · obtain rfl := Option.some.inj ho
          have p6 := hpre ⟨6, .data⟩ (by simp) rfl
          have p7 := hpre ⟨7, .chain⟩ (by simp) rfl
          clear ho hpre hi hcl
          go_wp2_with fail
          unfold AtEnd
          exact ⟨by simp only [more, slot_true, slot_false, Nat.reduceEqDiff, ↓reduceIte, p6, p7], hb8, hb4, hb5, hch⟩
        · obtain rfl := Option.some.inj ho
          have p8 := hpre ⟨8, .chain⟩ (by simp) rfl
          clear ho hpre hi hcl
          go_wp2_with fail
          unfold AtEnd
          exact ⟨by simp only [more, slot_true, slot_false, Nat.reduceEqDiff, ↓reduceIte, p8], hb8, hb4, hb5, hch⟩
      · intro D a w hall hI
        obtain ⟨rfl, hb8, hb4, hb5, hch⟩ := hI
        have e7 := hall 7 (by decide)
        have e8 := hall 8 (by decide)
        have e9 := hall 9 (by decide)
        have hb6 := hb5 e7
        rw [e8, e9]
        simp only [slot_true]
        clear hall e7 e8 e9 hb5 hb4
        go_wp2_with fail
        have k0 := hb6.cell 0
        have k1 := hb6.cell 1
        have k2 := hb6.cell 2
        have k3 := hb6.cell 3
        have k4 := hb6.cell 4
        have k5 := hb6.cell 5
        simp only [Rec.cells] at k0 k1 k2 k3 k4 k5
        refine bodyPost_ret (v := .tuple #[.agg rr.cells, .int .i64 (p + 30 + (rr.name.length : Int)), .int .i64 0]) (by simp [results, Try.results22, go_sem, k0, k1, k2, k3, k4, k5, Rec.cells]) rfl ?_
        refine ⟨?_, (show Chg NoB _ _ from HC2.out.trans ((HC5.out.mono (T := fun i => i = g ∨ i = r4) (fun _ _ e => .inl e)).trans hch (fun _ _ e => .inr e)) (fun i hi e => by have h1 := HX.out; rcases e with e | e <;> omega))⟩
        rw [← HRF.out.2, ← HRF.out.1, if_pos rfl]
    · have hfb : (F != 0) = true := by simpa using h0
      have hfe : (F == 0) = false := by simpa using h0
      have HF0 := Lib.hid h0
      clear h0
      go_wp2_with (first
        | (refine wpList_store_blk rfl 23 _ _ rfl w3.heap.size rr.cells rfl rfl 23 _ hb8 rfl rec_info (by simp [Value.oneCell', Rec.cells]) ?_; rw [← HW5.out, ← HR8.out.1])
        | fail)
      have i1 := hbx5.drew
      have i2 := hb45.drew
      have i3 := hE5.no (Chg.refl NoB w5).drew
      have i4 : Chg (OneB r4) w5 w5.drew := (Chg.refl _ w5).drew
      refine wp_region_cl rfl (by kernel_rfl) (InvRL5 g h r4 r8 s1 z1 B nn n c A p F x rr v3 w5) ?_ ?_ ?_
      · exact ⟨rfl, i1, i2, i3, i4⟩
      · clear i1 i2 i3 i4 cf cx hb8 hb85 hbx5 hb45 hE5
        intro D a w i o ho hD hcl hpre hI
        obtain ⟨rfl, hbx, hb4, hE, hch⟩ := hI
        have hi : i < 9 := by have := (List.getElem?_eq_some_iff.1 ho).1; simpa using this
        rcases (by omega : i = 0 ∨ i = 1 ∨ i = 2 ∨ i = 3 ∨ i = 4 ∨ i = 5 ∨ i = 6 ∨ i = 7 ∨ i = 8) with rfl | rfl | rfl | rfl | rfl | rfl | rfl | rfl | rfl
        · obtain rfl := Option.some.inj ho
          clear ho hpre hi hcl
          go_wp2_with fail
          unfold AtEnd
          exact ⟨rfl, hbx, hb4, hE, hch⟩
        · obtain rfl := Option.some.inj ho
          clear ho hpre hi hcl
          go_wp2_with fail
          unfold AtEnd
          exact ⟨rfl, hbx, hb4, hE, hch⟩
        · obtain rfl := Option.some.inj ho
          have p1 := hpre ⟨1, .data⟩ (by simp) rfl
          clear ho hpre hi hcl
          have c1x : w.cell? ⟨h, 0, none⟩ = some (.pointer (some ⟨g, 0, none⟩)) := hbx.cell 0
          go_wp2_with fail
          unfold AtEnd
          exact ⟨by simp only [more, slot_true, slot_false, Nat.reduceEqDiff, ↓reduceIte, p1], hbx, hb4, hE, hch⟩
        · obtain rfl := Option.some.inj ho
          have p2 := hpre ⟨2, .data⟩ (by simp) rfl
          clear ho hpre hi hcl
          go_wp2_with fail
          unfold AtEnd
          exact ⟨by simp only [more, slot_true, slot_false, Nat.reduceEqDiff, ↓reduceIte, p2], hbx, hb4, hE, hch⟩
        · obtain rfl := Option.some.inj ho
          have p3 := hpre ⟨3, .data⟩ (by simp) rfl
          clear ho hpre hi hcl
          go_wp2_with fail
          unfold AtEnd
          exact ⟨by simp only [more, slot_true, slot_false, Nat.reduceEqDiff, ↓reduceIte, p3], hbx, hb4, hE, hch⟩
        · obtain rfl := Option.some.inj ho
          have p4 := hpre ⟨4, .data⟩ (by simp) rfl
          clear ho hpre hi hcl
          obtain ⟨A7, k7, hb7, _, _⟩ := hE.ex
          have c1x : w.cell? ⟨g, 1, none⟩ = some (.int .i64 F) := hb7.cell 1
          clear hb7
          go_wp2_with fail
          unfold AtEnd
          exact ⟨by simp only [more, slot_true, slot_false, Nat.reduceEqDiff, ↓reduceIte, p4], hbx, hb4, hE, hch⟩
        · obtain rfl := Option.some.inj ho
          have p0 := hpre ⟨0, .data⟩ (by simp) rfl
          clear ho hpre hi hcl
          rw [p0]
          simp only [slot_true]
          refine wpList_store_blk rfl 23 _ _ rfl r4 #[.string ⟨#[]⟩, .int .i64 0, .int .i64 0, .int .i64 0, .int .i64 0, .int .i64 0] rfl rfl 23 _ hb4 rfl rec_info (by simp [Value.oneCell']) ?_
          go_wp2_with fail
          unfold AtEnd
          exact ⟨by simp only [more, slot_true, slot_false, Nat.reduceEqDiff, ↓reduceIte, p0], hbx.farRow (fun e => HFR.out.2.2.2.2 e.symm) _, hb4.row _, hE.chg (Chg.setRow (S := OneB r4) (Chg.refl _ _) (.inl (by unfold OneB; rfl)) _) (fun i hi e => by have h1 := HFR.out; have h2 := HX.out; unfold OneB at e; omega) (fun e => HFR.out.2.1 e.symm), hch.setRow (.inl (by unfold OneB; rfl)) _⟩
        · obtain rfl := Option.some.inj ho
          have p6 := hpre ⟨6, .chain⟩ (by simp) rfl
          clear ho hpre hi hcl
          go_wp2_with fail
          unfold AtEnd
          exact ⟨by simp only [more, slot_true, slot_false, Nat.reduceEqDiff, ↓reduceIte, p6], hbx, hb4, hE, hch⟩
        · obtain rfl := Option.some.inj ho
          have p5 := hpre ⟨5, .data⟩ (by simp) rfl
          have p7 := hpre ⟨7, .chain⟩ (by simp) rfl
          clear ho hpre hi hcl
          go_wp2_with fail
          unfold AtEnd
          exact ⟨by simp only [more, slot_true, slot_false, Nat.reduceEqDiff, ↓reduceIte, p5, p7], hbx, hb4, hE, hch⟩
      · intro D a w hall hI
        obtain ⟨rfl, hbx, hb4, hE, hch⟩ := hI
        have e7 := hall 7 (by decide)
        have e8 := hall 8 (by decide)
        rw [e7, e8]
        simp only [slot_true]
        clear hall e7 e8
        go_wp2_with fail
        have k0 := hb4.cell 0
        have k1 := hb4.cell 1
        have k2 := hb4.cell 2
        have k3 := hb4.cell 3
        have k4 := hb4.cell 4
        have k5 := hb4.cell 5
        refine bodyPost_ret (v := .tuple #[.agg #[.string ⟨#[]⟩, .int .i64 0, .int .i64 0, .int .i64 0, .int .i64 0, .int .i64 0], .int .i64 0, .int .i64 F]) (by simp [results, Try.results22, go_sem, k0, k1, k2, k3, k4, k5]) rfl ?_
        refine ⟨?_, (show Chg NoB _ _ from HC2.out.trans ((HC5.out.mono (T := fun i => i = g ∨ i = r4) (fun _ _ e => .inl e)).trans hch (fun _ _ e => .inr e)) (fun i hi e => by have h1 := HX.out; rcases e with e | e <;> omega))⟩
        rw [← HRF.out.2, if_neg HF0.out, show (readR l p [80, 75, 3, 4] 30 4 [28]) = Rec.zero from by unfold readR recR; rw [if_neg (by have h1 := HF0.out; rw [HRF.out.2] at h1; exact h1)]]
        rfl
end Go.Proofs.Ytgojdkjneggmjaa
