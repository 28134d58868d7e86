/-
  THE WALK of ReadEnd.
-/
import Derived.Test.YtgojdkjneggmjaaRec15
namespace Go.Proofs.Ytgojdkjneggmjaa
open Go.RowKit FieldM
set_option linter.unusedSimpArgs false
def readEF (l : List UInt8) (p : Int) : Int := askF (noneF (lookF l p [80, 75, 5, 6] 22) (lookX l p 22) [4, 6, 20]) (getL (lookX l p 22) 8 2 == getL (lookX l p 22) 10 2) 15
def readE (l : List UInt8) (p : Int) (q k : Int) : Int := if readEF l p = 0 then getL (lookX l p 22) q k else 0
def InvRE2 (g h B nn n c : Nat) (A : Option Addr) (p f : Int) (x : List UInt8) (w0 : World) (D : Nat → Bool) (a : Act) (w : World) : Prop :=
  ∃ (s1 : Nat) (z1 : Nat) (v3 : Value), a = { tmps := #[.slice A n c, .int .i64 p, undef, undef, .int .i64 0, .int .i64 0, .int .i64 0, .int .i64 0, .pointer (some ⟨h, 0, none⟩), .slice A n c, .int .i64 p, .agg #[.pointer (some ⟨g, 0, none⟩), .int .i64 22], (slot (D 0) (.agg #[.pointer (some ⟨g, 0, none⟩), .int .i64 22]) (undef)), (slot (D 1) (.slice (some ⟨s1, 0, none⟩) 3 3) (undef)), (slot (D 2) (.func (.func 51) #[] #[.pointer (some ⟨z1, 0, none⟩)]) (undef)), (slot (D 3) (v3) (undef)), undef, undef, undef, undef, undef, undef, undef, undef, undef, undef, undef, undef, undef, undef, undef, undef, undef, undef, undef, undef, undef, undef, undef, undef, undef, undef, undef, undef, undef, undef], defers := [] } ∧
    (D 3 = false → Eye w B g nn x f) ∧
    (D 3 = true → Eye w B g nn x (noneF f x [4, 6, 20])) ∧
    (D 1 = true → Blk w s1 3 #[.int .i64 4, .int .i64 6, .int .i64 20]) ∧
    (D 2 = true → Blk w z1 78 #[.slice (some ⟨s1, 0, none⟩) 3 3]) ∧
    (Blk w h 61 #[.pointer (some ⟨g, 0, none⟩), .int .i64 22]) ∧
    (Chg (OneB g) w0 w)
def InvRE3 (g h s1 z1 B nn n c : Nat) (A : Option Addr) (p : Int) (x : List UInt8) (v3 : Value) (a8 a10 f : Int) (eq : Bool) (w0 : World) (D : Nat → Bool) (a : Act) (w : World) : Prop :=
  ∃ (v9 : Value), a = { tmps := #[.slice A n c, .int .i64 p, undef, undef, .int .i64 0, .int .i64 0, .int .i64 0, .int .i64 0, .pointer (some ⟨h, 0, none⟩), .slice A n c, .int .i64 p, .agg #[.pointer (some ⟨g, 0, none⟩), .int .i64 22], .agg #[.pointer (some ⟨g, 0, none⟩), .int .i64 22], .slice (some ⟨s1, 0, none⟩) 3 3, .func (.func 51) #[] #[.pointer (some ⟨z1, 0, none⟩)], v3, (slot (D 0) (.pointer (some ⟨h, 0, none⟩)) (undef)), (slot (D 1) (.pointer (some ⟨g, 0, none⟩)) (undef)), (slot (D 2) (.pointer (some ⟨h, 0, none⟩)) (undef)), (slot (D 3) (.pointer (some ⟨g, 0, none⟩)) (undef)), (slot (D 4) (.int .i64 a8) (undef)), (slot (D 5) (.pointer (some ⟨h, 0, none⟩)) (undef)), (slot (D 6) (.pointer (some ⟨g, 0, none⟩)) (undef)), (slot (D 7) (.int .i64 a10) (undef)), (slot (D 8) (.bool eq) (undef)), (slot (D 9) (v9) (undef)), undef, undef, undef, undef, undef, undef, undef, undef, undef, undef, undef, undef, undef, undef, undef, undef, undef, undef, undef, undef], defers := [] } ∧
    (D 9 = false → Eye w B g nn x f) ∧
    (D 9 = true → Eye w B g nn x (askF f eq 15)) ∧
    (Blk w h 61 #[.pointer (some ⟨g, 0, none⟩), .int .i64 22]) ∧
    (Chg (OneB g) w0 w)
def InvRE5 (g h s1 z1 B nn n c : Nat) (A : Option Addr) (p : Int) (x : List UInt8) (v3 : Value) (a8 a10 F : Int) (eq : Bool) (v9 : Value) (w0 : World) (D : Nat → Bool) (a : Act) (w : World) : Prop :=
  a = { tmps := #[.slice A n c, .int .i64 p, undef, undef, (slot (D 5) (.int .i64 0) (.int .i64 0)), (slot (D 6) (.int .i64 0) (.int .i64 0)), (slot (D 7) (.int .i64 0) (.int .i64 0)), (slot (D 8) (.int .i64 F) (.int .i64 0)), .pointer (some ⟨h, 0, none⟩), .slice A n c, .int .i64 p, .agg #[.pointer (some ⟨g, 0, none⟩), .int .i64 22], .agg #[.pointer (some ⟨g, 0, none⟩), .int .i64 22], .slice (some ⟨s1, 0, none⟩) 3 3, .func (.func 51) #[] #[.pointer (some ⟨z1, 0, none⟩)], v3, .pointer (some ⟨h, 0, none⟩), .pointer (some ⟨g, 0, none⟩), .pointer (some ⟨h, 0, none⟩), .pointer (some ⟨g, 0, none⟩), .int .i64 a8, .pointer (some ⟨h, 0, none⟩), .pointer (some ⟨g, 0, none⟩), .int .i64 a10, .bool eq, v9, .pointer (some ⟨h, 0, none⟩), .pointer (some ⟨g, 0, none⟩), .pointer (some ⟨g, 0, none⟩), .pointer (some ⟨g, 1, none⟩), .int .i64 F, .bool true, (slot (D 0) (.pointer (some ⟨h, 0, none⟩)) (undef)), (slot (D 1) (.pointer (some ⟨g, 0, none⟩)) (undef)), (slot (D 2) (.pointer (some ⟨g, 0, none⟩)) (undef)), (slot (D 3) (.pointer (some ⟨g, 1, none⟩)) (undef)), (slot (D 4) (.int .i64 F) (undef)), undef, undef, undef, undef, undef, undef, undef, undef, undef], defers := [] } ∧
    (Eye w B g nn x F) ∧
    (Blk w h 61 #[.pointer (some ⟨g, 0, none⟩), .int .i64 22]) ∧
    (Chg NoB w0 w)
def InvRE6 (g h s1 z1 B nn n c : Nat) (A : Option Addr) (p : Int) (x : List UInt8) (v3 : Value) (a8 a10 b12 b16 : Int) (eq : Bool) (v9 : Value) (w0 : World) (D : Nat → Bool) (a : Act) (w : World) : Prop :=
  a = { tmps := #[.slice A n c, .int .i64 p, undef, undef, (slot (D 9) (.int .i64 a8) (.int .i64 0)), (slot (D 10) (.int .i64 b12) (.int .i64 0)), (slot (D 11) (.int .i64 b16) (.int .i64 0)), (slot (D 12) (.int .i64 0) (.int .i64 0)), .pointer (some ⟨h, 0, none⟩), .slice A n c, .int .i64 p, .agg #[.pointer (some ⟨g, 0, none⟩), .int .i64 22], .agg #[.pointer (some ⟨g, 0, none⟩), .int .i64 22], .slice (some ⟨s1, 0, none⟩) 3 3, .func (.func 51) #[] #[.pointer (some ⟨z1, 0, none⟩)], v3, .pointer (some ⟨h, 0, none⟩), .pointer (some ⟨g, 0, none⟩), .pointer (some ⟨h, 0, none⟩), .pointer (some ⟨g, 0, none⟩), .int .i64 a8, .pointer (some ⟨h, 0, none⟩), .pointer (some ⟨g, 0, none⟩), .int .i64 a10, .bool eq, v9, .pointer (some ⟨h, 0, none⟩), .pointer (some ⟨g, 0, none⟩), .pointer (some ⟨g, 0, none⟩), .pointer (some ⟨g, 1, none⟩), .int .i64 0, .bool false, undef, undef, undef, undef, undef, (slot (D 0) (.pointer (some ⟨h, 0, none⟩)) (undef)), (slot (D 1) (.pointer (some ⟨g, 0, none⟩)) (undef)), (slot (D 2) (.int .i64 a8) (undef)), (slot (D 3) (.pointer (some ⟨h, 0, none⟩)) (undef)), (slot (D 4) (.pointer (some ⟨g, 0, none⟩)) (undef)), (slot (D 5) (.int .i64 b12) (undef)), (slot (D 6) (.pointer (some ⟨h, 0, none⟩)) (undef)), (slot (D 7) (.pointer (some ⟨g, 0, none⟩)) (undef)), (slot (D 8) (.int .i64 b16) (undef))], defers := [] } ∧
    (Eye w B g nn x 0) ∧
    (Blk w h 61 #[.pointer (some ⟨g, 0, none⟩), .int .i64 22]) ∧
    (Chg NoB w0 w)
def REPost (w : World) (l : List UInt8) (p : Int) (e : Ending) (w' : World) : Prop :=
  e = .returned (.tuple #[.int .i64 (readE l p 8 2), .int .i64 (readE l p 12 4), .int .i64 (readE l p 16 4), .int .i64 (readEF l p)]) ∧ Chg NoB w w'
set_option maxRecDepth 100000 in
set_option maxHeartbeats 8000000 in
theorem readend_any (A : Option Addr) (l : List UInt8) (n c : Nat) (p : Int) (hn : l.length = n) (B : Nat) (w : World) (hr : RB w B A l) (hc : n ≤ c) (hb : n ≤ 140737488355328) (hB : B ≤ w.heap.size) :
    Calls Try.prog 19 #[.slice A n c, .int .i64 p] w (REPost w l p) := by
  have HN := Lib.hid hn
  clear hn
  go_enter Try.func19, Try.ntmps19
  go_wp2_with fail
  refine (look_any A l n c p [80, 75, 5, 6] 22 HN.out B _ hr hc hb hB rfl (by decide) (by decide)).mono ?_
  rintro e w1 ⟨g, rfl, hg, hE, hc1⟩
  have HX := Lib.hid hg
  clear hr hg
  go_wp2_with fail
  obtain ⟨h, hh⟩ : ∃ h, h = w1.heap.size := ⟨_, rfl⟩
  obtain ⟨w2, hw2⟩ : ∃ w2, w2 = w1.alloc (.cells #[.pointer (some ⟨g, 0, none⟩), .int .i64 22] 61) := ⟨_, rfl⟩
  have hbx : Blk w2 h 61 #[.pointer (some ⟨g, 0, none⟩), .int .i64 22] := by rw [hw2, hh]; exact Blk.new w1 _ _
  have hwc : Chg NoB w1 w2 := by rw [hw2]; exact (Chg.refl _ _).alloc _
  rw [← hw2, ← hh]
  have hE2 := hE.no hwc
  have HC2 := Lib.hid (hc1.trans hwc (fun _ _ h => h))
  clear hh hw2 hE hwc hc1
  obtain ⟨x, hx⟩ : ∃ x, x = lookX l p 22 := ⟨_, rfl⟩
  obtain ⟨nn, hnn⟩ : ∃ nn, nn = (lookX l p 22).length := ⟨_, rfl⟩
  obtain ⟨f, hf⟩ : ∃ f, f = lookF l p [80, 75, 5, 6] 22 := ⟨_, rfl⟩
  have hE3 : Eye w2 B g nn x f := by rw [hx, hnn, hf]; exact hE2
  have HXF := Lib.hid (show x = lookX l p 22 ∧ f = lookF l p [80, 75, 5, 6] 22 from ⟨hx, hf⟩)
  clear hx hnn hf hE2
  have i1 : false = false → Eye w2.drew B g nn x f := fun _ => hE3.no (Chg.refl NoB w2).drew
  have i2 := hbx.drew
  have i4 : Chg (OneB g) w2 w2.drew := (Chg.refl _ w2).drew
  refine wp_region_cl rfl (by kernel_rfl) (InvRE2 g h B nn n c A p f x w2) ?_ ?_ ?_
  · exact ⟨0, 0, undef, rfl, i1, (fun h => nomatch h), (fun h => nomatch h), (fun h => nomatch h), i2, i4⟩
  · clear i1 i2 i4 hE3 hbx
    intro D a w i o ho hD hcl hpre hI
    obtain ⟨s1, z1, v3, rfl, hE0, hE1, hs, hz, hbx, hch⟩ := hI
    have hi : i < 4 := by have := (List.getElem?_eq_some_iff.1 ho).1; simpa using this
    rcases (by omega : i = 0 ∨ i = 1 ∨ i = 2 ∨ i = 3) with rfl | rfl | rfl | rfl
    · obtain rfl := Option.some.inj ho
      clear ho hpre hi hcl
      go_wp2_with (refine wpList_load_row rfl 61 _ rfl h rfl 61 _ (0, 0) _ hbx Try.underlying61 rfl head_info ?_)
      unfold AtEnd
      exact ⟨s1, z1, v3, rfl, hE0, hE1, hs, hz, hbx, hch⟩
    · obtain rfl := Option.some.inj ho
      have d2 : D 2 = false := (hcl.not_ 2 _ rfl 0 _ rfl rfl hD)
      have d3 : D 3 = false := (hcl.not_ 3 _ rfl 1 _ rfl rfl (hcl.not_ 2 _ rfl 0 _ rfl rfl hD))
      clear ho hpre hi hcl
      go_wp2_with fail
      unfold AtEnd
      exact ⟨w.heap.size, z1, v3, by simp only [more, slot_true, slot_false, Nat.reduceEqDiff, ↓reduceIte, d2, d3], fun h => (hE0 h).no ((Chg.refl NoB w).alloc _), fun h => (hE1 h).no ((Chg.refl NoB w).alloc _), fun _ => Blk.new w _ _, fun h => by simp [more, d2] at h, hbx.alloc _, hch.alloc _⟩
    · obtain rfl := Option.some.inj ho
      have p1 := hpre ⟨1, .data⟩ (by simp) rfl
      have d3 : D 3 = false := (hcl.not_ 3 _ rfl 1 _ rfl rfl hD)
      clear ho hpre hi hcl
      go_wp2_with fail
      refine (zeros_any (some ⟨s1, 0, none⟩) 3 3 w).mono ?_
      rintro e w1 ⟨rfl, rfl⟩
      go_wp2_with fail
      unfold AtEnd
      exact ⟨s1, w.heap.size, v3, by simp only [more, slot_true, slot_false, Nat.reduceEqDiff, ↓reduceIte, p1, d3], fun h => (hE0 h).no ((Chg.refl NoB w).alloc _), fun h => (hE1 h).no ((Chg.refl NoB w).alloc _), fun h => (hs h).alloc _, fun _ => Blk.new w _ _, hbx.alloc _, hch.alloc _⟩
    · obtain rfl := Option.some.inj ho
      have p0 := hpre ⟨0, .data⟩ (by simp) rfl
      have p2 := hpre ⟨2, .data⟩ (by simp) rfl
      have p1 : D 1 = true := (hcl.at_ 2 _ rfl p2 0 _ rfl rfl)
      clear ho hpre hi hcl
      have hE := hE0 hD
      have hs2 := hs p1
      have hz2 := hz p2
      clear hE0 hE1
      go_wp2_with fail
      refine (none_any B g nn x f w hE 22 z1 s1 [4, 6, 20] 3 rfl (by decide) hz2 hs2).mono ?_
      rintro e w1 ⟨⟨v9, rfl⟩, hE9, hc1⟩
      obtain ⟨A9, c9, hb9, _⟩ := hE.ex
      clear hs2 hz2 hE
      go_wp2_with fail
      unfold AtEnd
      exact ⟨s1, z1, v9, by simp only [more, slot_true, slot_false, Nat.reduceEqDiff, ↓reduceIte, p0, p2, p1], fun h => by simp [more] at h, fun _ => hE9, fun h => (hs h).chg hc1 (fun e => (hs h).ne_ hb9 (by decide) e), fun h => (hz h).chg hc1 (fun e => (hz h).ne_ hb9 (by decide) e), hbx.chg hc1 (fun e => hbx.ne_ hb9 (by decide) e), hch.trans hc1 (fun _ _ h => h)⟩
  · intro D a w hall hI
    obtain ⟨s1, z1, v3, rfl, hE0, hE1, hs, hz, hbx, hch⟩ := hI
    have e3 := hall 3 (by decide)
    have e0 := hall 0 (by decide)
    have e1 := hall 1 (by decide)
    have e2 := hall 2 (by decide)
    have hE := hE1 e3
    rw [e0, e1, e2, e3]
    simp only [slot_true]
    clear hE0 hE1 hs hz hall e0 e1 e2 e3 i1 i2 i4
    obtain ⟨w3, hw3⟩ : ∃ w3, w3 = w := ⟨_, rfl⟩
    subst hw3
    obtain ⟨f1, hf1⟩ : ∃ f1, f1 = noneF f x [4, 6, 20] := ⟨_, rfl⟩
    rw [← hf1] at hE
    obtain ⟨a8, ha8⟩ : ∃ v, getL x 8 2 = v := ⟨_, rfl⟩
    obtain ⟨a10, ha10⟩ : ∃ v, getL x 10 2 = v := ⟨_, rfl⟩
    obtain ⟨b12, hb12⟩ : ∃ v, getL x 12 4 = v := ⟨_, rfl⟩
    obtain ⟨b16, hb16⟩ : ∃ v, getL x 16 4 = v := ⟨_, rfl⟩
    obtain ⟨eq, heq⟩ : ∃ b, (a8 == a10) = b := ⟨_, rfl⟩
    obtain ⟨F, hF⟩ : ∃ F, F = askF f1 eq 15 := ⟨_, rfl⟩
    have HF := Lib.hid (show F = readEF l p from by unfold readEF; rw [← HXF.out.1, ← HXF.out.2, ← hf1, ha8, ha10, heq, hF])
    have Ha8 := Lib.hid ha8
    have Ha10 := Lib.hid ha10
    have Hb12 := Lib.hid hb12
    have Hb16 := Lib.hid hb16
    have Heq := Lib.hid heq
    have HFF := Lib.hid hF
    have HC3 := Lib.hid hch
    clear hf1 ha8 ha10 hb12 hb16 heq hF hch
    have i1 : false = false → Eye w3.drew B g nn x f1 := fun _ => hE.no (Chg.refl NoB w3).drew
    have i2 := hbx.drew
    have i4 : Chg (OneB g) w3 w3.drew := (Chg.refl _ w3).drew
    clear hE hbx
    go_wp2_with fail
    refine wp_region_cl rfl (by kernel_rfl) (InvRE3 g h s1 z1 B nn n c A p x v3 a8 a10 f1 eq w3) ?_ ?_ ?_
    · exact ⟨undef, rfl, (fun _ => i1 trivial), (fun h => nomatch h), i2, i4⟩
    · clear i1 i2 i4
      intro D a w i o ho hD hcl hpre hI
      obtain ⟨v9, rfl, hE0, hE1, hbx, hch⟩ := hI
      have hi : i < 10 := by have := (List.getElem?_eq_some_iff.1 ho).1; simpa using this
      rcases (by omega : i = 0 ∨ i = 1 ∨ i = 2 ∨ i = 3 ∨ i = 4 ∨ i = 5 ∨ i = 6 ∨ i = 7 ∨ i = 8 ∨ i = 9) with rfl | rfl | rfl | rfl | rfl | rfl | rfl | rfl | rfl | rfl
      · obtain rfl := Option.some.inj ho
        clear ho hpre hi hcl
        go_wp2_with fail
        unfold AtEnd
        exact ⟨v9, rfl, hE0, hE1, hbx, hch⟩
      · obtain rfl := Option.some.inj ho
        have p0 := hpre ⟨0, .data⟩ (by simp) rfl
        clear ho hpre hi hcl
        have c1x : w.cell? ⟨h, 0, none⟩ = some (.pointer (some ⟨g, 0, none⟩)) := hbx.cell 0
        go_wp2_with fail
        unfold AtEnd
        exact ⟨v9, by simp only [more, slot_true, slot_false, Nat.reduceEqDiff, ↓reduceIte, p0], hE0, hE1, hbx, hch⟩
      · obtain rfl := Option.some.inj ho
        clear ho hpre hi hcl
        go_wp2_with fail
        unfold AtEnd
        exact ⟨v9, rfl, hE0, hE1, hbx, hch⟩
      · obtain rfl := Option.some.inj ho
        have p2 := hpre ⟨2, .data⟩ (by simp) rfl
        clear ho hpre hi hcl
        have c1x : w.cell? ⟨h, 0, none⟩ = some (.pointer (some ⟨g, 0, none⟩)) := hbx.cell 0
        go_wp2_with fail
        unfold AtEnd
        exact ⟨v9, by simp only [more, slot_true, slot_false, Nat.reduceEqDiff, ↓reduceIte, p2], hE0, hE1, hbx, hch⟩
      · obtain rfl := Option.some.inj ho
        have p3 := hpre ⟨3, .data⟩ (by simp) rfl
        have d9 : D 9 = false := (hcl.not_ 9 _ rfl 2 _ rfl rfl (hcl.not_ 7 _ rfl 1 _ rfl rfl hD))
        clear ho hpre hi hcl
        have hE := hE0 d9
        go_wp2_with fail
        refine (etwo_any hE _).mono ?_
        rw [Ha8.out]
        rintro e w1 ⟨rfl, hc1⟩
        go_wp2_with fail
        unfold AtEnd
        exact ⟨v9, by simp only [more, slot_true, slot_false, Nat.reduceEqDiff, ↓reduceIte, p3, d9], fun _ => hE.no hc1, fun h => by simp [more, d9] at h, hbx.chg hc1 (fun h => h), hch.trans hc1 (fun _ _ h => h.elim)⟩
      · obtain rfl := Option.some.inj ho
        clear ho hpre hi hcl
        go_wp2_with fail
        unfold AtEnd
        exact ⟨v9, rfl, hE0, hE1, hbx, hch⟩
      · obtain rfl := Option.some.inj ho
        have p5 := hpre ⟨5, .data⟩ (by simp) rfl
        clear ho hpre hi hcl
        have c1x : w.cell? ⟨h, 0, none⟩ = some (.pointer (some ⟨g, 0, none⟩)) := hbx.cell 0
        go_wp2_with fail
        unfold AtEnd
        exact ⟨v9, by simp only [more, slot_true, slot_false, Nat.reduceEqDiff, ↓reduceIte, p5], hE0, hE1, hbx, hch⟩
      · obtain rfl := Option.some.inj ho
        have p6 := hpre ⟨6, .data⟩ (by simp) rfl
        have p4 := hpre ⟨4, .chain⟩ (by simp) rfl
        have d9 : D 9 = false := (hcl.not_ 9 _ rfl 2 _ rfl rfl hD)
        clear ho hpre hi hcl
        have hE := hE0 d9
        go_wp2_with fail
        refine (etwo_any hE _).mono ?_
        rw [Ha10.out]
        rintro e w1 ⟨rfl, hc1⟩
        go_wp2_with fail
        unfold AtEnd
        exact ⟨v9, by simp only [more, slot_true, slot_false, Nat.reduceEqDiff, ↓reduceIte, p6, p4, d9], fun _ => hE.no hc1, fun h => by simp [more, d9] at h, hbx.chg hc1 (fun h => h), hch.trans hc1 (fun _ _ h => h.elim)⟩
      · obtain rfl := Option.some.inj ho
        have p4 := hpre ⟨4, .data⟩ (by simp) rfl
        have p7 := hpre ⟨7, .data⟩ (by simp) rfl
        clear ho hpre hi hcl
        have h0 := Heq.out
        go_wp2_with fail
        unfold AtEnd
        exact ⟨v9, by simp only [more, slot_true, slot_false, Nat.reduceEqDiff, ↓reduceIte, p4, p7], hE0, hE1, hbx, hch⟩
      · obtain rfl := Option.some.inj ho
        have p1 := hpre ⟨1, .data⟩ (by simp) rfl
        have p8 := hpre ⟨8, .data⟩ (by simp) rfl
        have p7 := hpre ⟨7, .chain⟩ (by simp) rfl
        clear ho hpre hi hcl
        have hE := hE0 hD
        clear hE0 hE1
        go_wp2_with fail
        refine (ask_any hE _ 15).mono ?_
        rintro e w1 ⟨⟨u9, rfl⟩, hE9, hc1⟩
        obtain ⟨A9, c9, hb9, _⟩ := hE.ex
        clear hE
        go_wp2_with fail
        unfold AtEnd
        exact ⟨u9, by simp only [more, slot_true, slot_false, Nat.reduceEqDiff, ↓reduceIte, p1, p8, p7], fun h => by simp [more] at h, fun _ => hE9, hbx.chg hc1 (fun e => hbx.ne_ hb9 (by decide) e), hch.trans hc1 (fun _ _ h => h)⟩
    · intro D a w hall hI
      obtain ⟨v9, rfl, hE0, hE1, hbx, hch⟩ := hI
      have e0 := hall 0 (by decide)
      have e1 := hall 1 (by decide)
      have e2 := hall 2 (by decide)
      have e3 := hall 3 (by decide)
      have e4 := hall 4 (by decide)
      have e5 := hall 5 (by decide)
      have e6 := hall 6 (by decide)
      have e7 := hall 7 (by decide)
      have e8 := hall 8 (by decide)
      have e9 := hall 9 (by decide)
      have hE := hE1 e9
      rw [e0, e1, e2, e3, e4, e5, e6, e7, e8, e9]
      simp only [slot_true]
      clear hE0 hE1 hall e0 e1 e2 e3 e4 e5 e6 e7 e8 e9 i1 i2 i4
      rw [← HFF.out] at hE
      obtain ⟨w4, hw4⟩ : ∃ w4, w4 = w := ⟨_, rfl⟩
      subst hw4
      obtain ⟨A7, k7, hb7, _, _⟩ := hE.ex
      have cf : w4.cell? ⟨g, 1, none⟩ = some (.int .i64 F) := hb7.cell 1
      have cx : w4.cell? ⟨h, 0, none⟩ = some (.pointer (some ⟨g, 0, none⟩)) := hbx.cell 0
      have HC4 := Lib.hid (show Chg NoB _ w4 from HC2.out.trans (HC3.out.trans hch (fun _ _ h => h)) (fun i hi e => by have h1 := HX.out; unfold OneB at e; omega))
      clear hb7 hch
      by_cases h0 : F = 0
      · subst h0
        go_wp2_with fail
        have i1 := hE.no (Chg.refl NoB w4).drew
        have i2 := hbx.drew
        have i4 : Chg NoB w4 w4.drew := (Chg.refl _ w4).drew
        refine wp_region_cl rfl (by kernel_rfl) (InvRE6 g h s1 z1 B nn n c A p x v3 a8 a10 b12 b16 eq v9 w4) ?_ ?_ ?_
        · exact ⟨rfl, i1, i2, i4⟩
        · clear i1 i2 i4 cf cx hE hbx
          intro D a w i o ho hD hcl hpre hI
          obtain ⟨rfl, hE, hbx, hch⟩ := hI
          have hi : i < 13 := by have := (List.getElem?_eq_some_iff.1 ho).1; simpa using this
          rcases (by omega : i = 0 ∨ i = 1 ∨ i = 2 ∨ i = 3 ∨ i = 4 ∨ i = 5 ∨ i = 6 ∨ i = 7 ∨ i = 8 ∨ i = 9 ∨ i = 10 ∨ i = 11 ∨ i = 12) with rfl | rfl | rfl | rfl | rfl | rfl | rfl | rfl | rfl | rfl | rfl | rfl | rfl
          · obtain rfl := Option.some.inj ho
            clear ho hpre hi hcl
            go_wp2_with fail
            unfold AtEnd
            exact ⟨rfl, hE, hbx, hch⟩
          · obtain rfl := Option.some.inj ho
            have p0 := hpre ⟨0, .data⟩ (by simp) rfl
            clear ho hpre hi hcl
            have c1x : w.cell? ⟨h, 0, none⟩ = some (.pointer (some ⟨g, 0, none⟩)) := hbx.cell 0
            go_wp2_with fail
            unfold AtEnd
            exact ⟨by simp only [more, slot_true, slot_false, Nat.reduceEqDiff, ↓reduceIte, p0], hE, hbx, hch⟩
          · obtain rfl := Option.some.inj ho
            have p1 := hpre ⟨1, .data⟩ (by simp) rfl
            clear ho hpre hi hcl
            have hE := hE
            go_wp2_with fail
            refine (etwo_any hE _).mono ?_
            rw [Ha8.out]
            rintro e w1 ⟨rfl, hc1⟩
            go_wp2_with fail
            unfold AtEnd
            exact ⟨by simp only [more, slot_true, slot_false, Nat.reduceEqDiff, ↓reduceIte, p1], hE.no hc1, hbx.chg hc1 (fun h => h), hch.trans hc1 (fun _ _ h => h.elim)⟩
          · obtain rfl := Option.some.inj ho
            clear ho hpre hi hcl
            go_wp2_with fail
            unfold AtEnd
            exact ⟨rfl, hE, hbx, hch⟩
          · obtain rfl := Option.some.inj ho
            have p3 := hpre ⟨3, .data⟩ (by simp) rfl
            clear ho hpre hi hcl
            have c1x : w.cell? ⟨h, 0, none⟩ = some (.pointer (some ⟨g, 0, none⟩)) := hbx.cell 0
            go_wp2_with fail
            unfold AtEnd
            exact ⟨by simp only [more, slot_true, slot_false, Nat.reduceEqDiff, ↓reduceIte, p3], hE, hbx, hch⟩
          · obtain rfl := Option.some.inj ho
            have p4 := hpre ⟨4, .data⟩ (by simp) rfl
            have p2 := hpre ⟨2, .chain⟩ (by simp) rfl
            clear ho hpre hi hcl
            have hE := hE
            go_wp2_with fail
            refine (efour_any hE _).mono ?_
            rw [Hb12.out]
            rintro e w1 ⟨rfl, hc1⟩
            go_wp2_with fail
            unfold AtEnd
            exact ⟨by simp only [more, slot_true, slot_false, Nat.reduceEqDiff, ↓reduceIte, p4, p2], hE.no hc1, hbx.chg hc1 (fun h => h), hch.trans hc1 (fun _ _ h => h.elim)⟩
          · obtain rfl := Option.some.inj ho
            clear ho hpre hi hcl
            go_wp2_with fail
            unfold AtEnd
            exact ⟨rfl, hE, hbx, hch⟩
          · obtain rfl := Option.some.inj ho
            have p6 := hpre ⟨6, .data⟩ (by simp) rfl
            clear ho hpre hi hcl
            have c1x : w.cell? ⟨h, 0, none⟩ = some (.pointer (some ⟨g, 0, none⟩)) := hbx.cell 0
            go_wp2_with fail
            unfold AtEnd
            exact ⟨by simp only [more, slot_true, slot_false, Nat.reduceEqDiff, ↓reduceIte, p6], hE, hbx, hch⟩
          · obtain rfl := Option.some.inj ho
            have p7 := hpre ⟨7, .data⟩ (by simp) rfl
            have p5 := hpre ⟨5, .chain⟩ (by simp) rfl
            clear ho hpre hi hcl
            have hE := hE
            go_wp2_with fail
            refine (efour_any hE _).mono ?_
            rw [Hb16.out]
            rintro e w1 ⟨rfl, hc1⟩
            go_wp2_with fail
            unfold AtEnd
            exact ⟨by simp only [more, slot_true, slot_false, Nat.reduceEqDiff, ↓reduceIte, p7, p5], hE.no hc1, hbx.chg hc1 (fun h => h), hch.trans hc1 (fun _ _ h => h.elim)⟩
          · obtain rfl := Option.some.inj ho
            have p2 := hpre ⟨2, .data⟩ (by simp) rfl
            have p8 := hpre ⟨8, .chain⟩ (by simp) rfl
            clear ho hpre hi hcl
            go_wp2_with fail
            unfold AtEnd
            exact ⟨by simp only [more, slot_true, slot_false, Nat.reduceEqDiff, ↓reduceIte, p2, p8], hE, hbx, hch⟩
          · obtain rfl := Option.some.inj ho
            have p5 := hpre ⟨5, .data⟩ (by simp) rfl
            have p9 := hpre ⟨9, .chain⟩ (by simp) rfl
            clear ho hpre hi hcl
            go_wp2_with fail
            unfold AtEnd
            exact ⟨by simp only [more, slot_true, slot_false, Nat.reduceEqDiff, ↓reduceIte, p5, p9], hE, hbx, hch⟩
          · obtain rfl := Option.some.inj ho
            have p8 := hpre ⟨8, .data⟩ (by simp) rfl
            have p10 := hpre ⟨10, .chain⟩ (by simp) rfl
            clear ho hpre hi hcl
            go_wp2_with fail
            unfold AtEnd
            exact ⟨by simp only [more, slot_true, slot_false, Nat.reduceEqDiff, ↓reduceIte, p8, p10], hE, hbx, hch⟩
          · obtain rfl := Option.some.inj ho
            have p11 := hpre ⟨11, .chain⟩ (by simp) rfl
            clear ho hpre hi hcl
            go_wp2_with fail
            unfold AtEnd
            exact ⟨by simp only [more, slot_true, slot_false, Nat.reduceEqDiff, ↓reduceIte, p11], hE, hbx, hch⟩
        · intro D a w hall hI
          obtain ⟨rfl, hE, hbx, hch⟩ := hI
          have e9 := hall 9 (by decide)
          have e10 := hall 10 (by decide)
          have e11 := hall 11 (by decide)
          have e12 := hall 12 (by decide)
          rw [e9, e10, e11, e12]
          simp only [slot_true]
          clear hall e9 e10 e11 e12
          go_wp2_with fail
          refine bodyPost_ret (v := .tuple #[.int .i64 a8, .int .i64 b12, .int .i64 b16, .int .i64 0]) (by simp [results, Try.results19, go_sem]) rfl ?_
          refine ⟨?_, HC4.out.trans hch (fun _ _ h => h)⟩
          unfold readE
          rw [← HF.out, if_pos rfl, if_pos rfl, if_pos rfl, ← HXF.out.1, Ha8.out, Hb12.out, Hb16.out]
      · have hfb : (F != 0) = true := by simpa using h0
        have hfe : (F == 0) = false := by simpa using h0
        have HF0 := Lib.hid h0
        clear h0
        go_wp2_with fail
        have i1 := hE.no (Chg.refl NoB w4).drew
        have i2 := hbx.drew
        have i4 : Chg NoB w4 w4.drew := (Chg.refl _ w4).drew
        refine wp_region_cl rfl (by kernel_rfl) (InvRE5 g h s1 z1 B nn n c A p x v3 a8 a10 F eq v9 w4) ?_ ?_ ?_
        · exact ⟨rfl, i1, i2, i4⟩
        · clear i1 i2 i4 cf cx hE hbx
          intro D a w i o ho hD hcl hpre hI
          obtain ⟨rfl, hE, hbx, hch⟩ := hI
          have hi : i < 9 := by have := (List.getElem?_eq_some_iff.1 ho).1; simpa using this
          rcases (by omega : i = 0 ∨ i = 1 ∨ i = 2 ∨ i = 3 ∨ i = 4 ∨ i = 5 ∨ i = 6 ∨ i = 7 ∨ i = 8) with rfl | rfl | rfl | rfl | rfl | rfl | rfl | rfl | rfl
          · obtain rfl := Option.some.inj ho
            clear ho hpre hi hcl
            go_wp2_with fail
            unfold AtEnd
            exact ⟨rfl, hE, hbx, hch⟩
          · obtain rfl := Option.some.inj ho
            have p0 := hpre ⟨0, .data⟩ (by simp) rfl
            clear ho hpre hi hcl
            have c1x : w.cell? ⟨h, 0, none⟩ = some (.pointer (some ⟨g, 0, none⟩)) := hbx.cell 0
            go_wp2_with fail
            unfold AtEnd
            exact ⟨by simp only [more, slot_true, slot_false, Nat.reduceEqDiff, ↓reduceIte, p0], hE, hbx, hch⟩
          · obtain rfl := Option.some.inj ho
            have p1 := hpre ⟨1, .data⟩ (by simp) rfl
            clear ho hpre hi hcl
            go_wp2_with fail
            unfold AtEnd
            exact ⟨by simp only [more, slot_true, slot_false, Nat.reduceEqDiff, ↓reduceIte, p1], hE, hbx, hch⟩
          · obtain rfl := Option.some.inj ho
            have p2 := hpre ⟨2, .data⟩ (by simp) rfl
            clear ho hpre hi hcl
            go_wp2_with fail
            unfold AtEnd
            exact ⟨by simp only [more, slot_true, slot_false, Nat.reduceEqDiff, ↓reduceIte, p2], hE, hbx, hch⟩
          · obtain rfl := Option.some.inj ho
            have p3 := hpre ⟨3, .data⟩ (by simp) rfl
            clear ho hpre hi hcl
            obtain ⟨A7, k7, hb7, _, _⟩ := hE.ex
            have c1x : w.cell? ⟨g, 1, none⟩ = some (.int .i64 F) := hb7.cell 1
            clear hb7
            go_wp2_with fail
            unfold AtEnd
            exact ⟨by simp only [more, slot_true, slot_false, Nat.reduceEqDiff, ↓reduceIte, p3], hE, hbx, hch⟩
          · obtain rfl := Option.some.inj ho
            clear ho hpre hi hcl
            go_wp2_with fail
            unfold AtEnd
            exact ⟨rfl, hE, hbx, hch⟩
          · obtain rfl := Option.some.inj ho
            have p5 := hpre ⟨5, .chain⟩ (by simp) rfl
            clear ho hpre hi hcl
            go_wp2_with fail
            unfold AtEnd
            exact ⟨by simp only [more, slot_true, slot_false, Nat.reduceEqDiff, ↓reduceIte, p5], hE, hbx, hch⟩
          · obtain rfl := Option.some.inj ho
            have p6 := hpre ⟨6, .chain⟩ (by simp) rfl
            clear ho hpre hi hcl
            go_wp2_with fail
            unfold AtEnd
            exact ⟨by simp only [more, slot_true, slot_false, Nat.reduceEqDiff, ↓reduceIte, p6], hE, hbx, hch⟩
          · obtain rfl := Option.some.inj ho
            have p4 := hpre ⟨4, .data⟩ (by simp) rfl
            have p7 := hpre ⟨7, .chain⟩ (by simp) rfl
            clear ho hpre hi hcl
            go_wp2_with fail
            unfold AtEnd
            exact ⟨by simp only [more, slot_true, slot_false, Nat.reduceEqDiff, ↓reduceIte, p4, p7], hE, hbx, hch⟩
        · intro D a w hall hI
          obtain ⟨rfl, hE, hbx, hch⟩ := hI
          have e5 := hall 5 (by decide)
          have e6 := hall 6 (by decide)
          have e7 := hall 7 (by decide)
          have e8 := hall 8 (by decide)
          rw [e5, e6, e7, e8]
          simp only [slot_true]
          clear hall e5 e6 e7 e8
          go_wp2_with fail
          refine bodyPost_ret (v := .tuple #[.int .i64 0, .int .i64 0, .int .i64 0, .int .i64 F]) (by simp [results, Try.results19, go_sem]) rfl ?_
          refine ⟨?_, HC4.out.trans hch (fun _ _ h => h)⟩
          unfold readE
          rw [← HF.out, if_neg HF0.out, if_neg HF0.out, if_neg HF0.out]
end Go.Proofs.Ytgojdkjneggmjaa
