/-
  THE WALK of the reference's ReadLocal.
-/
import Derived.Test.YtgojdkjneggmjaaRec18
namespace Go.Proofs.Ytgojdkjneggmjaa
open Go.RowKit FieldM
set_option linter.unusedSimpArgs false
theorem noneF_ne {f : Int} (x : List UInt8) (ps : List Int) (h : f ≠ 0) : noneF f x ps = f := by
  induction ps with
  | nil => rfl
  | cons q r ih =>
    show noneF (askF f (getL x q 2 == 0) 15) x r = f
    have h1 : askF f (getL x q 2 == 0) 15 = f := by unfold askF; rw [if_neg (fun e => h e.1)]
    rw [h1]; exact ih
theorem noneF_ok {x : List UInt8} {ps : List Int} (h : allZ x ps = true) : noneF 0 x ps = 0 := by
  induction ps with
  | nil => rfl
  | cons q r ih =>
    simp only [allZ, List.all_cons, Bool.and_eq_true] at h
    show noneF (askF 0 (getL x q 2 == 0) 15) x r = 0
    have h1 : askF 0 (getL x q 2 == 0) 15 = 0 := by rw [h.1]; rfl
    rw [h1]; exact ih h.2
theorem noneF_bad {x : List UInt8} {ps : List Int} (h : allZ x ps = false) : noneF 0 x ps = 15 := by
  induction ps with
  | nil => cases h
  | cons q r ih =>
    show noneF (askF 0 (getL x q 2 == 0) 15) x r = 15
    cases hq : (getL x q 2 == 0)
    · exact noneF_ne x r (by decide)
    · simp only [allZ, List.all_cons, hq, Bool.true_and] at h
      exact ih h
theorem recF_ne {x : List UInt8} {f : Int} {long from_ : Nat} (h : f ≠ 0) : recF x f long from_ = f := by unfold recF; rw [if_pos h]
section
variable {l : List UInt8} {p : Int} {mk : List UInt8} {long from_ : Nat} {zs : List Int}
theorem readF_err (h : cutErr l.length p long ≠ 0) : readF l p mk long from_ zs = cutErr l.length p long := by
  have h1 : lookF l p mk long = cutErr l.length p long := by unfold lookF; rw [if_neg h]
  unfold readF
  rw [h1, noneF_ne _ _ h, recF_ne h]
theorem readF_bad (h : cutErr l.length p long = 0) (hb : (lookX l p long).take 4 ≠ mk ∨ allZ (lookX l p long) zs = false) : readF l p mk long from_ zs = 15 := by
  have hx : lookX l p long = l.drop p.toNat := by unfold lookX; rw [if_pos h]
  unfold readF
  by_cases hm : (lookX l p long).take 4 = mk
  · have h1 : lookF l p mk long = 0 := by unfold lookF; rw [if_pos h, ← hx, if_pos hm]
    rcases hb with hb | hb
    · exact absurd hm hb
    · rw [h1, noneF_bad hb, recF_ne (by decide)]
  · have h1 : lookF l p mk long = 15 := by unfold lookF; rw [if_pos h, ← hx, if_neg hm]
    rw [h1, noneF_ne _ _ (by decide), recF_ne (by decide)]
theorem readF_ok (h : cutErr l.length p long = 0) (hm : (lookX l p long).take 4 = mk) (hz : allZ (lookX l p long) zs = true) :
    readF l p mk long from_ zs = recF (lookX l p long) 0 long from_ ∧ readR l p mk long from_ zs = recR (lookX l p long) 0 long from_ := by
  have hx : lookX l p long = l.drop p.toNat := by unfold lookX; rw [if_pos h]
  have h1 : lookF l p mk long = 0 := by unfold lookF; rw [if_pos h, ← hx, if_pos hm]
  unfold readF readR
  rw [h1, noneF_ok hz]
  exact ⟨rfl, rfl⟩
theorem readR_zero (h : readF l p mk long from_ zs ≠ 0) : readR l p mk long from_ zs = Rec.zero := by
  unfold readF at h
  unfold readR recR
  rw [if_neg h]
end
theorem begin_lit (A : Option Addr) (l : List UInt8) (n c : Nat) (p : Int) (long : Nat) (L : Int) (hL : (long : Int) = L) (hn : l.length = n) (B : Nat) (w : World) (hr : RB w B A l) (hc : n ≤ c) (hb : n ≤ 140737488355328) (hl5 : long ≤ 100) :
    Calls Try.prog 41 #[.slice A n c, .int .i64 p, .int .i64 L] w fun e w' => (∃ A' c', e = .returned (.tuple #[.slice A' (lookX l p L).length c', .int .i64 (cutErr l.length p L)]) ∧ RB w B A' (lookX l p L) ∧ (lookX l p L).length ≤ c') ∧ w' = w := by
  subst hL
  exact begin_any A l n c p long hn B w hr hc hb hl5
def InvQL (r4 r9 s5 n c nn c1 : Nat) (A A1 : Option Addr) (p : Int) (tk : List UInt8) (rr : Rec) (rq : Array Value) (w0 : World) (D : Nat → Bool) (a : Act) (w : World) : Prop :=
  a = { tmps := #[.slice A n c, .int .i64 p, undef, undef, .pointer (some ⟨r4, 0, none⟩), (slot (D 8) (.int .i64 (p + 30 + (rr.name.length : Int))) (.int .i64 0)), (slot (D 9) (.int .i64 0) (.int .i64 0)), .slice A1 nn c1, .int .i64 0, .pointer (some ⟨r9, 0, none⟩), .tuple #[.slice A1 nn c1, .int .i64 0], .slice A n c, .int .i64 p, .tuple #[.slice A1 nn c1, .int .i64 0], .slice A1 nn c1, .int .i64 0, .int .i64 0, .bool false, undef, undef, .slice A1 nn c1, .slice A1 4 c1, .string ⟨tk.toArray⟩, .bool false, .bool false, .slice A1 nn c1, .slice (some ⟨s5, 0, none⟩) 1 1, .bool true, .bool false, .bool false, undef, .tuple #[.agg rq, .int .i64 0], .slice A1 nn c1, .tuple #[.agg rq, .int .i64 0], .agg rq, .int .i64 0, .int .i64 0, .bool false, undef, undef, (slot (D 0) (.agg rr.cells) (undef)), (slot (D 1) (.int .i64 p) (undef)), (slot (D 2) (.int .i64 (p + 30)) (undef)), (slot (D 3) (.pointer (some ⟨r9, 0, none⟩)) (undef)), (slot (D 4) (.string ⟨rr.name.toArray⟩) (undef)), (slot (D 5) (.int .i64 (rr.name.length : Int)) (undef)), (slot (D 6) (.int .i64 (p + 30 + (rr.name.length : Int))) (undef))], defers := [] } ∧
    (Blk w r9 23 rr.cells) ∧
    (D 7 = false → Blk w r4 23 #[.string ⟨#[]⟩, .int .i64 0, .int .i64 0, .int .i64 0, .int .i64 0, .int .i64 0]) ∧
    (D 7 = true → Blk w r4 23 rr.cells) ∧
    (Chg (OneB r4) w0 w)
set_option maxRecDepth 100000 in
set_option maxHeartbeats 8000000 in
theorem rreadlocal_any (A : Option Addr) (l : List UInt8) (n c : Nat) (p : Int) (hn : l.length = n) (B : Nat) (w : World) (hr : RB w B A l) (hc : n ≤ c) (hb : n ≤ 140737488355328) (hB : B ≤ w.heap.size) :
    Calls Try.prog 23 #[.slice A n c, .int .i64 p] w (RLPost w l p) := by
  have HN := Lib.hid hn
  clear hn
  have hr' := hr.alloc hB (.cells #[.string ⟨#[]⟩, .int .i64 0, .int .i64 0, .int .i64 0, .int .i64 0, .int .i64 0] 23)
  have hb4 := Blk.new w 23 #[.string ⟨#[]⟩, .int .i64 0, .int .i64 0, .int .i64 0, .int .i64 0, .int .i64 0]
  have hcc : Chg NoB w (w.alloc (.cells #[.string ⟨#[]⟩, .int .i64 0, .int .i64 0, .int .i64 0, .int .i64 0, .int .i64 0] 23)) := (Chg.refl _ _).alloc _
  go_enter Try.func23, Try.ntmps23
  go_wp2_with fail
  refine (begin_lit A l n c p 30 30 rfl HN.out B _ hr' hc hb (by decide)).mono ?_
  rintro e w1 ⟨⟨A1, c1, rfl, hr1, hc1⟩, rfl⟩
  obtain ⟨w1, hw1⟩ : ∃ w1, w1 = w.alloc (.cells #[.string ⟨#[]⟩, .int .i64 0, .int .i64 0, .int .i64 0, .int .i64 0, .int .i64 0] 23) := ⟨_, rfl⟩
  obtain ⟨r4, hr4⟩ : ∃ r, r = w.heap.size := ⟨_, rfl⟩
  rw [← hw1] at hb4 hcc hr1 ⊢
  rw [← hr4] at hb4
  rw [← hr4]
  have HR4 := Lib.hid hr4
  have HB1 := Lib.hid (show B ≤ w1.heap.size ∧ r4 < w1.heap.size from ⟨Nat.le_trans hB hcc.size, hb4.lt⟩)
  clear hw1 hr' hr4
  obtain ⟨x, hx⟩ : ∃ x, x = lookX l p 30 := ⟨_, rfl⟩
  obtain ⟨nn, hnn⟩ : ∃ nn, nn = x.length := ⟨_, rfl⟩
  rw [← hx] at hr1 hc1 ⊢
  rw [← hnn] at hc1 ⊢
  have HX := Lib.hid hx
  have HNN := Lib.hid hnn
  clear hx hnn
  by_cases hE : cutErr l.length p 30 = 0
  · rw [hE]
    have HE := Lib.hid hE
    have hcz := cutErr_zero hE
    rw [HN.out] at hcz
    have hnn2 : nn + p.toNat = n := by
      rw [HNN.out, HX.out]; unfold lookX; rw [if_pos HE.out, List.length_drop, HN.out]; omega
    have hp1 : 0 ≤ p := hcz.1
    have hp2 : p + 30 ≤ n := hcz.2.2
    have h30 : 30 ≤ nn := by omega
    have hnb : nn ≤ 140737488355328 := by omega
    obtain ⟨tk, htk⟩ : ∃ tk, tk = x.take 4 := ⟨_, rfl⟩
    have htl : tk.length = 4 := by rw [htk, List.length_take, ← HNN.out]; omega
    have hr4' := hr1.take 4
    rw [← htk] at hr4'
    have hs3 := hr4'.toStr (n := 4) htl c1 Try.underlying24 Try.underlying5 Try.underlying9
    have HTK := Lib.hid htk
    have HP := Lib.hid (show 0 ≤ p ∧ p + 30 ≤ n ∧ nn ≤ n from ⟨hp1, hp2, by omega⟩)
    clear hE hcz hnn2 htk htl hr4'
    by_cases hM : tk = [80, 75, 3, 4]
    · have hm1 : (tk != [80, 75, 3, 4]) = false := by rw [hM]; rfl
      have hm2 : (tk == [80, 75, 3, 4]) = true := by rw [hM]; rfl
      have HM := Lib.hid hM
      clear hM
      go_wp2_with fail
      have hs5 := Blk.new w1 3 #[.int .i64 28]
      refine (zero_any A1 x nn c1 [28] 1 w1.heap.size HNN.out.symm rfl (by decide) B _ (hr1.alloc HB1.out.1 _) hc1 hnb hs5).mono ?_
      rintro e w2 ⟨rfl, hcw⟩
      have hcw2 : Chg NoB w1 w2 := ((Chg.refl NoB w1).alloc _).trans hcw (fun _ _ h => h)
      have hb4 := hb4.chg hcw2 (fun h => h)
      have hr1 := hr1.no hcw2
      have hcc := hcc.trans hcw2 (fun _ _ h => h)
      have HB2 := Lib.hid (Nat.le_trans HB1.out.1 hcw2.size)
      obtain ⟨s5, hs5'⟩ : ∃ s, s = w1.heap.size := ⟨_, rfl⟩
      rw [← hs5']
      clear hs5 hcw hcw2 hs3 hs5'
      cases hZ : allZ x [28]
      · have HZ := Lib.hid hZ
        clear hZ
        go_wp2_with (refine wpList_store_blk rfl 23 _ _ rfl r4 #[.string ⟨#[]⟩, .int .i64 0, .int .i64 0, .int .i64 0, .int .i64 0, .int .i64 0] rfl rfl 23 _ hb4 rfl rec_info (by simp [Value.oneCell']) ?_)
        have hb10 := hb4.row #[.string ⟨#[]⟩, .int .i64 0, .int .i64 0, .int .i64 0, .int .i64 0, .int .i64 0]
        have k0 := hb10.cell 0
        have k1 := hb10.cell 1
        have k2 := hb10.cell 2
        have k3 := hb10.cell 3
        have k4 := hb10.cell 4
        have k5 := hb10.cell 5
        refine bodyPost_ret (v := .tuple #[.agg #[.string ⟨#[]⟩, .int .i64 0, .int .i64 0, .int .i64 0, .int .i64 0, .int .i64 0], .int .i64 0, .int .i64 15]) (by simp [results, Try.results23, go_sem, k0, k1, k2, k3, k4, k5]) rfl ?_
        have hF : readF l p [80, 75, 3, 4] 30 4 [28] = 15 := readF_bad HE.out (.inr (by have h1 := HZ.out; rw [HX.out] at h1; exact h1))
        refine ⟨?_, hcc.setRow (.inr (by have h1 := HR4.out; omega)) _⟩
        have hC : readR l p [80, 75, 3, 4] 30 4 [28] = Rec.zero := readR_zero (by rw [hF]; exact (by decide))
        rw [hF, if_neg (by decide), hC]
        rfl

      · have HZ := Lib.hid hZ
        clear hZ
        go_wp2_with fail
        refine (body_any A1 x nn c1 4 30 HNN.out.symm B _ hr1 hc1 hnb HB2.out (by decide) (by decide)).mono ?_
        rintro e w3 ⟨rfl, hc3⟩
        obtain ⟨rr, hrr⟩ : ∃ rr, rr = recR x 0 30 4 := ⟨_, rfl⟩
        obtain ⟨Fr, hFr⟩ : ∃ F, F = recF x 0 30 4 := ⟨_, rfl⟩
        have HOKF : readF l p [80, 75, 3, 4] 30 4 [28] = Fr ∧ readR l p [80, 75, 3, 4] 30 4 [28] = rr := by
          have h1 := HM.out
          have h2 := HZ.out
          rw [HTK.out, HX.out] at h1
          rw [HX.out] at h2
          rw [hrr, hFr, HX.out]
          exact readF_ok (long := 30) (from_ := 4) HE.out h1 h2
        have HRF := Lib.hid HOKF
        rw [← hrr, ← hFr]
        have hb4 := hb4.chg hc3 (fun h => h)
        have hcc := hcc.trans hc3 (fun _ _ h => h)
        have hr1 := hr1.no hc3
        have HX0 := Lib.hid (show rr.name.length ≤ x.length from by rw [hrr]; exact recR_len _ _ _ _)
        clear hrr hFr HOKF hc3
        have hb8 := Blk.new w3 23 #[.string ⟨#[]⟩, .int .i64 0, .int .i64 0, .int .i64 0, .int .i64 0, .int .i64 0]
        obtain ⟨r9, hr9⟩ : ∃ r, r = w3.heap.size := ⟨_, rfl⟩
        obtain ⟨w5, hw5⟩ : ∃ w5, w5 = (w3.alloc (.cells #[.string ⟨#[]⟩, .int .i64 0, .int .i64 0, .int .i64 0, .int .i64 0, .int .i64 0] 23)).setRow w3.heap.size rr.cells := ⟨_, rfl⟩
        have hb9 : Blk w5 r9 23 rr.cells := by rw [hw5, hr9]; exact hb8.row _
        have hb4' : Blk w5 r4 23 #[.string ⟨#[]⟩, .int .i64 0, .int .i64 0, .int .i64 0, .int .i64 0, .int .i64 0] := by rw [hw5]; exact (hb4.alloc _).farRow (Nat.ne_of_lt hb4.lt) _
        have hcc5 : Chg NoB w w5 := by rw [hw5]; exact (hcc.alloc _).setRow (.inr hcc.size) _
        have hr5 : RB w5 B A1 x := by
          rw [hw5]
          exact (hr1.no ((Chg.refl NoB w3).alloc _)).chg (Chg.setRow (S := OneB w3.heap.size) (Chg.refl _ _) (.inl (by unfold OneB; rfl)) _) (fun i hi e => by have h1 : B ≤ w3.heap.size := Nat.le_trans hB hcc.size; unfold OneB at e; omega)
        have HW5 := Lib.hid hw5
        have HR9 := Lib.hid (show r4 ≠ r9 ∧ r9 = w3.heap.size ∧ w.heap.size ≤ r9 from ⟨by rw [hr9]; exact Nat.ne_of_lt hb4.lt, hr9, by rw [hr9]; exact hcc.size⟩)
        clear hw5 hr9 hcc hb4 hr1
        have hb4 := hb4'
        have hcc := hcc5
        clear hb4' hcc5
        by_cases h0 : Fr = 0
        · subst h0
          have hp3 : (rr.name.length : Int) ≤ n := by have h1 := HX0.out; have h2 := HNN.out; have h3 := HP.out; omega
          have hss : (ByteArray.mk rr.name.toArray).size = rr.name.length := by simp [ByteArray.size]
          go_wp2_with (first
            | (refine wpList_store_blk rfl 23 _ _ rfl w3.heap.size rr.cells rfl rfl 23 _ hb8 rfl rec_info (by simp [Value.oneCell', Rec.cells]) ?_; rw [← HW5.out, ← HR9.out.2.1])
            | fail)
          have HCF := Lib.hid hcc
          have i1 := hb9.drew
          have i2 : false = false → Blk w5.drew r4 23 #[.string ⟨#[]⟩, .int .i64 0, .int .i64 0, .int .i64 0, .int .i64 0, .int .i64 0] := fun _ => hb4.drew
          have i4 : Chg (OneB r4) w5 w5.drew := (Chg.refl _ w5).drew
          refine wp_region_cl rfl (by kernel_rfl) (InvQL r4 r9 s5 n c nn c1 A A1 p tk rr rr.cells w5) ?_ ?_ ?_
          · exact ⟨rfl, i1, i2, (fun h => nomatch h), i4⟩
          · clear i1 i2 i4 hb9 hb4
            intro D a w i o ho hD hcl hpre hI
            obtain ⟨rfl, hb9, hb4, hb5, hch⟩ := hI
            have hi : i < 10 := by have := (List.getElem?_eq_some_iff.1 ho).1; simpa using this
            rcases (by omega : i = 0 ∨ i = 1 ∨ i = 2 ∨ i = 3 ∨ i = 4 ∨ i = 5 ∨ i = 6 ∨ i = 7 ∨ i = 8 ∨ i = 9) with rfl | rfl | rfl | rfl | rfl | rfl | rfl | rfl | rfl | rfl
            · obtain rfl := Option.some.inj ho
              clear ho hpre hi hcl
              go_wp2_with (refine wpList_load_row rfl 23 _ rfl r9 rfl 23 _ (0, 0) _ hb9 Try.underlying23 rfl rec_info ?_)
              unfold AtEnd
              exact ⟨rfl, hb9, hb4, hb5, hch⟩
            · obtain rfl := Option.some.inj ho
              clear ho hpre hi hcl
              go_wp2_with fail
              unfold AtEnd
              exact ⟨rfl, hb9, hb4, hb5, hch⟩
            · obtain rfl := Option.some.inj ho
              have p1 := hpre ⟨1, .data⟩ (by simp) rfl
              clear ho hpre hi hcl
              go_wp2_with fail
              unfold AtEnd
              exact ⟨by simp only [more, slot_true, slot_false, Nat.reduceEqDiff, ↓reduceIte, p1], hb9, hb4, hb5, hch⟩
            · obtain rfl := Option.some.inj ho
              clear ho hpre hi hcl
              go_wp2_with fail
              unfold AtEnd
              exact ⟨rfl, hb9, hb4, hb5, hch⟩
            · obtain rfl := Option.some.inj ho
              have p3 := hpre ⟨3, .data⟩ (by simp) rfl
              clear ho hpre hi hcl
              have c1 := hb9.cell 0
              simp only [Rec.cells] at c1
              go_wp2_with fail
              unfold AtEnd
              exact ⟨by simp only [more, slot_true, slot_false, Nat.reduceEqDiff, ↓reduceIte, p3], hb9, hb4, hb5, hch⟩
            · obtain rfl := Option.some.inj ho
              have p4 := hpre ⟨4, .data⟩ (by simp) rfl
              clear ho hpre hi hcl
              go_wp2_with fail
              unfold AtEnd
              exact ⟨by simp only [more, slot_true, slot_false, Nat.reduceEqDiff, ↓reduceIte, p4], hb9, hb4, hb5, hch⟩
            · obtain rfl := Option.some.inj ho
              have p2 := hpre ⟨2, .data⟩ (by simp) rfl
              have p5 := hpre ⟨5, .data⟩ (by simp) rfl
              clear ho hpre hi hcl
              go_wp2_with fail
              unfold AtEnd
              exact ⟨by simp only [more, slot_true, slot_false, Nat.reduceEqDiff, ↓reduceIte, p2, p5], hb9, hb4, hb5, hch⟩
            · obtain rfl := Option.some.inj ho
              have p0 := hpre ⟨0, .data⟩ (by simp) rfl
              clear ho hpre hi hcl
              have hq := hb4 hD
              rw [p0]
              simp only [slot_true]
              refine wpList_store_blk rfl 23 _ _ rfl r4 rr.cells rfl rfl 23 _ hq rfl rec_info (by simp [Value.oneCell', Rec.cells]) ?_
              go_wp2_with fail
              unfold AtEnd
              exact ⟨by simp only [more, slot_true, slot_false, Nat.reduceEqDiff, ↓reduceIte, p0], hb9.farRow (fun e => HR9.out.1 e.symm) _, fun h => by simp [more] at h, fun _ => hq.row _, hch.setRow (.inl (by unfold OneB; rfl)) _⟩
            · obtain rfl := Option.some.inj ho
              have p6 := hpre ⟨6, .data⟩ (by simp) rfl
              have p7 := hpre ⟨7, .chain⟩ (by simp) rfl
              clear ho hpre hi hcl
              go_wp2_with fail
              unfold AtEnd
              exact ⟨by simp only [more, slot_true, slot_false, Nat.reduceEqDiff, ↓reduceIte, p6, p7], hb9, hb4, hb5, hch⟩
            · obtain rfl := Option.some.inj ho
              have p8 := hpre ⟨8, .chain⟩ (by simp) rfl
              clear ho hpre hi hcl
              go_wp2_with fail
              unfold AtEnd
              exact ⟨by simp only [more, slot_true, slot_false, Nat.reduceEqDiff, ↓reduceIte, p8], hb9, hb4, hb5, hch⟩
          · intro D a w hall hI
            obtain ⟨rfl, hb9, hb4, hb5, hch⟩ := hI
            have e7 := hall 7 (by decide)
            have e8 := hall 8 (by decide)
            have e9 := hall 9 (by decide)
            have hb6 := hb5 e7
            rw [e8, e9]
            simp only [slot_true]
            clear hall e7 e8 e9 hb5 hb4
            go_wp2_with fail
            have k0 := hb6.cell 0
            have k1 := hb6.cell 1
            have k2 := hb6.cell 2
            have k3 := hb6.cell 3
            have k4 := hb6.cell 4
            have k5 := hb6.cell 5
            simp only [Rec.cells] at k0 k1 k2 k3 k4 k5
            refine bodyPost_ret (v := .tuple #[.agg rr.cells, .int .i64 (p + 30 + (rr.name.length : Int)), .int .i64 0]) (by simp [results, Try.results23, go_sem, k0, k1, k2, k3, k4, k5, Rec.cells]) rfl ?_
            refine ⟨?_, HCF.out.trans hch (fun i hi e => by have h1 := HR4.out; unfold OneB at e; omega)⟩
            have hF : readF l p [80, 75, 3, 4] 30 4 [28] = 0 := HRF.out.1
            rw [hF, HRF.out.2, if_pos rfl]
        · have hfb : (Fr != 0) = true := by simpa using h0
          have hfe : (Fr == 0) = false := by simpa using h0
          have HF0 := Lib.hid h0
          clear h0
          go_wp2_with (first
            | (refine wpList_store_blk rfl 23 _ _ rfl w3.heap.size rr.cells rfl rfl 23 _ hb8 rfl rec_info (by simp [Value.oneCell', Rec.cells]) ?_; rw [← HW5.out, ← HR9.out.2.1])
            | (refine wpList_store_blk rfl 23 _ _ rfl r4 #[.string ⟨#[]⟩, .int .i64 0, .int .i64 0, .int .i64 0, .int .i64 0, .int .i64 0] rfl rfl 23 _ hb4 rfl rec_info (by simp [Value.oneCell']) ?_))
          have hb10 := hb4.row #[.string ⟨#[]⟩, .int .i64 0, .int .i64 0, .int .i64 0, .int .i64 0, .int .i64 0]
          have k0 := hb10.cell 0
          have k1 := hb10.cell 1
          have k2 := hb10.cell 2
          have k3 := hb10.cell 3
          have k4 := hb10.cell 4
          have k5 := hb10.cell 5
          refine bodyPost_ret (v := .tuple #[.agg #[.string ⟨#[]⟩, .int .i64 0, .int .i64 0, .int .i64 0, .int .i64 0, .int .i64 0], .int .i64 0, .int .i64 Fr]) (by simp [results, Try.results23, go_sem, k0, k1, k2, k3, k4, k5]) rfl ?_
          have hF : readF l p [80, 75, 3, 4] 30 4 [28] = Fr := HRF.out.1
          refine ⟨?_, hcc.setRow (.inr (by have h1 := HR4.out; omega)) _⟩
          have hC : readR l p [80, 75, 3, 4] 30 4 [28] = Rec.zero := readR_zero (by rw [hF]; exact HF0.out)
          rw [hF, if_neg HF0.out, hC]
          rfl
    · have hm1 : (tk != [80, 75, 3, 4]) = true := by simpa using hM
      have hm2 : (tk == [80, 75, 3, 4]) = false := by simpa using hM
      have HM := Lib.hid hM
      clear hM
      go_wp2_with (refine wpList_store_blk rfl 23 _ _ rfl r4 #[.string ⟨#[]⟩, .int .i64 0, .int .i64 0, .int .i64 0, .int .i64 0, .int .i64 0] rfl rfl 23 _ hb4 rfl rec_info (by simp [Value.oneCell']) ?_)
      have hb10 := hb4.row #[.string ⟨#[]⟩, .int .i64 0, .int .i64 0, .int .i64 0, .int .i64 0, .int .i64 0]
      have k0 := hb10.cell 0
      have k1 := hb10.cell 1
      have k2 := hb10.cell 2
      have k3 := hb10.cell 3
      have k4 := hb10.cell 4
      have k5 := hb10.cell 5
      refine bodyPost_ret (v := .tuple #[.agg #[.string ⟨#[]⟩, .int .i64 0, .int .i64 0, .int .i64 0, .int .i64 0, .int .i64 0], .int .i64 0, .int .i64 15]) (by simp [results, Try.results23, go_sem, k0, k1, k2, k3, k4, k5]) rfl ?_
      have hF : readF l p [80, 75, 3, 4] 30 4 [28] = 15 := readF_bad HE.out (.inl (by have h1 := HM.out; rw [HTK.out, HX.out] at h1; exact h1))
      refine ⟨?_, hcc.setRow (.inr (by have h1 := HR4.out; omega)) _⟩
      have hC : readR l p [80, 75, 3, 4] 30 4 [28] = Rec.zero := readR_zero (by rw [hF]; exact (by decide))
      rw [hF, if_neg (by decide), hC]
      rfl

  · have hE1 : (cutErr l.length p 30 != 0) = true := by simpa using hE
    have hE2 : (cutErr l.length p 30 == 0) = false := by simpa using hE
    have HE := Lib.hid hE
    clear hE
    go_wp2_with (refine wpList_store_blk rfl 23 _ _ rfl r4 #[.string ⟨#[]⟩, .int .i64 0, .int .i64 0, .int .i64 0, .int .i64 0, .int .i64 0] rfl rfl 23 _ hb4 rfl rec_info (by simp [Value.oneCell']) ?_)
    have hb10 := hb4.row #[.string ⟨#[]⟩, .int .i64 0, .int .i64 0, .int .i64 0, .int .i64 0, .int .i64 0]
    have k0 := hb10.cell 0
    have k1 := hb10.cell 1
    have k2 := hb10.cell 2
    have k3 := hb10.cell 3
    have k4 := hb10.cell 4
    have k5 := hb10.cell 5
    refine bodyPost_ret (v := .tuple #[.agg #[.string ⟨#[]⟩, .int .i64 0, .int .i64 0, .int .i64 0, .int .i64 0, .int .i64 0], .int .i64 0, .int .i64 (cutErr l.length p 30)]) (by simp [results, Try.results23, go_sem, k0, k1, k2, k3, k4, k5]) rfl ?_
    have hF : readF l p [80, 75, 3, 4] 30 4 [28] = (cutErr l.length p 30) := readF_err HE.out
    refine ⟨?_, hcc.setRow (.inr (by have h1 := HR4.out; omega)) _⟩
    have hC : readR l p [80, 75, 3, 4] 30 4 [28] = Rec.zero := readR_zero (by rw [hF]; exact HE.out)
    rw [hF, if_neg HE.out, hC]
    rfl

end Go.Proofs.Ytgojdkjneggmjaa
