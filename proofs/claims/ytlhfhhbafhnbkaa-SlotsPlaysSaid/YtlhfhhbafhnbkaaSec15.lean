/-
  THE WALK of slices.Clone (of loose writes) and of Copy.
-/
import Derived.Test.YtlhfhhbafhnbkaaSec14
namespace Go.Proofs.Ytlhfhhbafhnbkaa
open Go.RowKit Go.Maps
set_option linter.unusedSimpArgs false
theorem equalIn_slice_nilP (w : World) (d : Nat) (A : Option Addr) (n c : Nat) : (Op.equalIn (d + 1) 46 (.slice A n c) (.slice none 0 0)).run Try.prog w = .ok A.isNone w := by
  cases A <;> simp [Op.equalIn, run_underlying Try.underlying46]
theorem eql_slice_nilP (w : World) (A : Option Addr) (n c : Nat) : (binOp .eql 46 (.slice A n c) (.slice none 0 0)).run Try.prog w = .ok (.bool A.isNone) w := by
  simp only [binOp]
  simp [Op.equal, Op.maxDepth, equalIn_slice_nilP w 9999 A n c]
theorem own_reads {w : World} {base n c size : Nat} {t : TypeId} {A : Option Addr} {xs : List Value} (h : w.ownsRow base t size (.slice A n c) n xs) : Reads w w.heap.size size A n xs := by
  refine ⟨h.1, fun hn => ?_⟩
  rcases h.2 with ⟨_, h0⟩ | ⟨g, cap, cur, hv, hb, hg, hnc, hm, hs, ht⟩
  · omega
  · injection hv with h1 h2 h3
    subst h1
    refine ⟨_, rfl, lt_of_heap hg, fun j u hu => ?_⟩
    have ha : (⟨g, 0, none⟩ : Addr).add j = ⟨g, j, none⟩ := by unfold Addr.add; split <;> simp_all
    rw [ha, (show Blk w g t cur from hg).cell j]
    rw [← ht, List.getElem?_take] at hu
    split at hu
    · rw [← hu]; simp
    · cases hu
theorem puts_one (ps : List (Int × List UInt8)) : ∀ u ∈ ps.flatMap putL, u.oneCell' = true := fun u hu => by
  obtain ⟨p, _, hp⟩ := List.mem_flatMap.1 hu
  exact put_one p.1 p.2 u hp
theorem wpList_append_res (w : World) {ops : Array Oper} {rest : List Oper} {o : Oper} {a : Act} {Q : Exit → Act → World → Prop} (hg : o.guard = none) (s x : Operand)
    (hop : o.op = .call { callee := .builtin .append, args := #[s, x], argTypes := #[46, 46] }) (v' : Value) (w' : World)
    (hrun : (Builtin.append_ #[46, 46] o.type #[a.eval s, a.eval x]).run Try.prog w = .ok v' w') (hK : wpList Try.prog ops Q rest (a.put o.dst v') w') : wpList Try.prog ops Q (o :: rest) a w := by
  refine wpList_plain hg fun K hK' => ?_
  unfold Oper.wp execOp
  simp only [hop, resolve, invoke, builtin, Sem.run_bind, Sem.run_pure, Result.andThen_ok, List.map_toArray, List.map_cons, List.map_nil, hrun]
  exact hK' _ _ hK
set_option maxRecDepth 100000 in
set_option maxHeartbeats 2000000 in
theorem clone_any (w : World) (v : Value) (k : Nat) (ps : List (Int × List UInt8)) (hown : w.ownsRow 0 86 513 v k (ps.flatMap putL)) (hk : k ≤ 1000) :
    Calls Try.prog 55 #[v] w fun e w' => ∃ v', e = .returned v' ∧ w'.ownsRow 0 86 513 v' k (ps.flatMap putL) ∧ (∀ j, v'.ownBlock = some j → w.heap.size ≤ j) ∧ Chg NoB w w' := by
  obtain ⟨A, c, rfl⟩ := own_slice hown
  have hks := fun w => eql_slice_nilP w A k c
  cases A with
  | none =>
    have HO := Lib.hid hown
    clear hown
    go_enter Try.func55, Try.ntmps55
    go_wp2_with fail
    go_ret
    rcases HO.out.2 with ⟨hv, h0⟩ | ⟨g, cap, cur, hv, _⟩
    · have h1 := HO.out.1
      rw [h0, Nat.zero_mul] at h1
      rw [List.eq_nil_of_length_eq_zero h1, h0]
      exact ⟨_, rfl, World.ownsRow_nil _ _ _ _, fun j e => (by cases e), Chg.refl _ _⟩
    · cases hv
  | some ad =>
    obtain ⟨it, hit, hs1, hs2, hz⟩ := put_infoE
    have HR := Lib.hid (show (w.alloc (.cells #[] 86)).ownsRow w.heap.size 86 513 (.slice (some ⟨w.heap.size, 0, none⟩) 0 0) 0 [] from ⟨rfl, .inr ⟨w.heap.size, 0, #[], rfl, Nat.le_refl _, heap_alloc_new w _, Nat.le_refl _, Nat.zero_le _, rfl, rfl⟩⟩)
    have HRD := Lib.hid (own_reads (ownsRow_chg hown ((Chg.refl NoB w).alloc (.cells #[] 86)) (fun _ _ h => h)))
    have HKK := Lib.hid hk
    clear hown hk
    obtain ⟨v', w', hrun, h2, h3, h4⟩ := run_append_any (P := Try.prog) (w.alloc (.cells #[] 86)) w.heap.size 46 46 86 it _ 513 520 Try.underlying46 hit hz hs1 hs2 (putC_size 0 zeros_len) (by decide) _ 0 [] HR.out _ (some ad) k c (ps.flatMap putL) HRD.out (puts_one ps) (by have := HKK.out; unfold maxLen; omega) (by have := HKK.out; omega) (by simp)
    have H2 := Lib.hid h2
    have H3 := Lib.hid h3
    have H4 := Lib.hid h4
    have HRUN := Lib.hid hrun
    clear h2 h3 h4 hrun hit hs1 hs2 hz
    go_enter Try.func55, Try.ntmps55
    go_wp2_with (at_builtin; refine wpList_append_res _ rfl _ _ rfl v' w' HRUN.out ?_)
    go_ret
    have ho := H2.out
    rw [Nat.zero_add, List.nil_append] at ho
    refine ⟨_, rfl, ⟨ho.1, ho.2.imp id (fun ⟨g, cap, cur, r⟩ => ⟨g, cap, cur, r.1, Nat.zero_le _, r.2.2⟩)⟩, fun j e => (ho.lt j e).1, ?_⟩
    exact ((Chg.refl NoB w).alloc _).grown H3.out (fun j e => by simp [Value.ownBlock] at e; exact .inr (by omega))
def InvY4 (g y3 bs bn k cc : Nat) (A : Option Addr) (q9 : Value) (n fuse : Int) (dark : Bool) (sure now : Int → List UInt8) (loose : List (Int × List UInt8)) (W0 : World) (D : Nat → Bool) (a : Act) (w : World) : Prop :=
  ∃ (b4 : Nat) (b9 : Nat) (v14 : Value), a = { tmps := #[.pointer (some ⟨g, 0, none⟩), undef, .pointer none, .pointer (some ⟨y3, 0, none⟩), .pointer (some ⟨g, 0, none⟩), .bool true, .bool false, .pointer (some ⟨g, 0, none⟩), .pointer (some ⟨g, 0, none⟩), q9, (slot (D 0) (.pointer (some ⟨g, 0, none⟩)) (undef)), (slot (D 1) (.pointer (some ⟨g, 0, none⟩)) (undef)), (slot (D 2) (.pointer (some ⟨g, 1, none⟩)) (undef)), (slot (D 3) (.map (some bs)) (undef)), (slot (D 4) (.map (some b4)) (undef)), (slot (D 5) (.pointer (some ⟨g, 0, none⟩)) (undef)), (slot (D 6) (.pointer (some ⟨g, 0, none⟩)) (undef)), (slot (D 7) (.pointer (some ⟨g, 3, none⟩)) (undef)), (slot (D 8) (.map (some bn)) (undef)), (slot (D 9) (.map (some b9)) (undef)), (slot (D 10) (.pointer (some ⟨g, 0, none⟩)) (undef)), (slot (D 11) (.pointer (some ⟨g, 0, none⟩)) (undef)), (slot (D 12) (.pointer (some ⟨g, 2, none⟩)) (undef)), (slot (D 13) (.slice A k cc) (undef)), (slot (D 14) (v14) (undef)), (slot (D 15) (.pointer (some ⟨y3, 1, none⟩)) (undef)), (slot (D 17) (.pointer (some ⟨y3, 3, none⟩)) (undef)), (slot (D 19) (.pointer (some ⟨y3, 2, none⟩)) (undef))], defers := [] } ∧
    (Blk w y3 48 #[.int .i64 n, slot (D 16) (.map (some b4)) (.map (some bs)), slot (D 20) v14 (.slice A k cc), slot (D 18) (.map (some b9)) (.map (some bn)), .int .i64 fuse, .bool dark]) ∧
    (D 4 = true → SMap w b4 sure ∧ y3 < b4) ∧
    (D 9 = true → SMap w b9 now ∧ b4 < b9) ∧
    (D 14 = true → w.ownsRow 0 86 513 v14 k (loose.flatMap putL) ∧ ∀ j, v14.ownBlock = some j → y3 < j) ∧
    (Chg NoB W0 w)
set_option maxRecDepth 100000 in
set_option maxHeartbeats 8000000 in
theorem copy_any (F : Nat → Prop) (g : Nat) (K : Dk) (w : World) (hD : Disk w F g K) (HK : K.loose.length ≤ 1000) :
    Calls Try.prog 23 #[.pointer (some ⟨g, 0, none⟩)] w fun e w' => ∃ c, e = .returned (.pointer (some ⟨c, 0, none⟩)) ∧ Disk w' (fun i => w.heap.size ≤ i ∧ i < w'.heap.size) c K ∧ Chg NoB w w' := by
  obtain ⟨bs, bn, v, hd, _⟩ := hD
  have HKK := Lib.hid HK
  obtain ⟨n, sure, loose, now, fuse, dark⟩ := K
  have hn0 : 0 < n := hd.n0
  have HMADE := Lib.hid (made_ptr hd.blk true (by simpa using hn0))
  have HD := Lib.hid hd
  have hbl := hd.blk
  obtain ⟨A, cc, hv⟩ := own_slice hd.row
  clear hd HK hn0
  go_enter Try.func23, Try.ntmps23
  have c0 := hbl.cell 0
  have c1 := hbl.cell 1
  have c2 := hbl.cell 2
  have c3 := hbl.cell 3
  have c4 := hbl.cell 4
  have c5 := hbl.cell 5
  simp only [dkC] at c0 c1 c2 c3 c4 c5
  go_upto_region 4 with (first
    | (refine HMADE.out.mono ?_; rintro e w1 ⟨rfl, rfl⟩)
    | fail)
  obtain ⟨q9, hq9⟩ : ∃ q9, q9 = Value.agg #[.int .i64 n, .map (some bs), .slice A loose.length cc, .map (some bn), .int .i64 fuse, .bool dark] := ⟨_, rfl⟩
  have hnew := Blk.new w1 48 #[.int .i64 n, .map (some bs), .slice A loose.length cc, .map (some bn), .int .i64 fuse, .bool dark]
  have hc2 : Chg NoB w1 (w1.alloc (.cells #[.int .i64 n, .map (some bs), .slice A loose.length cc, .map (some bn), .int .i64 fuse, .bool dark] 48)) := (Chg.refl _ _).alloc _
  rw [← hq9]
  obtain ⟨y3, hy3⟩ : ∃ y3, y3 = w1.heap.size := ⟨_, rfl⟩
  obtain ⟨w2, hw2⟩ : ∃ w2, w2 = w1.alloc (.cells #[.int .i64 n, .map (some bs), .slice A loose.length cc, .map (some bn), .int .i64 fuse, .bool dark] 48) := ⟨_, rfl⟩
  rw [← hw2, ← hy3] at hnew ⊢
  rw [← hw2] at hc2
  have HY3 := Lib.hid hy3
  have HVV := Lib.hid hv
  clear hq9 hw2 c0 c1 c2 c3 c4 c5 hbl HMADE hv hy3
  have HW2 := Lib.hid hc2
  have hnew0 := hnew.drew
  refine wp_region_cl rfl (by kernel_rfl) (InvY4 g y3 bs bn loose.length cc A q9 n fuse dark sure now loose w1) ?_ ?_ ?_
  · exact ⟨0, 0, undef, rfl, by simpa using hnew0, (fun h => by cases h), (fun h => by cases h), (fun h => by cases h), HW2.out.drew⟩
  ·
    intro D a w i o ho hD hcl hpre hI
    obtain ⟨b4, b9, v14, rfl, hc, hm4, hm9, h14, hch⟩ := hI
    have hi : i < 21 := by have := (List.getElem?_eq_some_iff.1 ho).1; simpa using this
    rcases (by omega : i = 0 ∨ i = 1 ∨ i = 2 ∨ i = 3 ∨ i = 4 ∨ i = 5 ∨ i = 6 ∨ i = 7 ∨ i = 8 ∨ i = 9 ∨ i = 10 ∨ i = 11 ∨ i = 12 ∨ i = 13 ∨ i = 14 ∨ i = 15 ∨ i = 16 ∨ i = 17 ∨ i = 18 ∨ i = 19 ∨ i = 20) with rfl | rfl | rfl | rfl | rfl | rfl | rfl | rfl | rfl | rfl | rfl | rfl | rfl | rfl | rfl | rfl | rfl | rfl | rfl | rfl | rfl
    · obtain rfl := Option.some.inj ho
      clear ho hpre hi hcl
      go_wp2_with fail
      unfold AtEnd
      exact ⟨b4, b9, v14, rfl, by simpa [more] using hc, fun h => hm4 (by simpa [more] using h), fun h => hm9 (by simpa [more] using h), fun h => h14 (by simpa [more] using h), hch⟩
    · obtain rfl := Option.some.inj ho
      have p0 := hpre ⟨0, .data⟩ (by simp) rfl
      clear ho hpre hi hcl
      go_wp2_with fail
      unfold AtEnd
      exact ⟨b4, b9, v14, by simp only [more, slot_true, slot_false, Nat.reduceEqDiff, ↓reduceIte, p0], by simpa [more] using hc, fun h => hm4 (by simpa [more] using h), fun h => hm9 (by simpa [more] using h), fun h => h14 (by simpa [more] using h), hch⟩
    · obtain rfl := Option.some.inj ho
      have p1 := hpre ⟨1, .data⟩ (by simp) rfl
      clear ho hpre hi hcl
      go_wp2_with fail
      unfold AtEnd
      exact ⟨b4, b9, v14, by simp only [more, slot_true, slot_false, Nat.reduceEqDiff, ↓reduceIte, p1], by simpa [more] using hc, fun h => hm4 (by simpa [more] using h), fun h => hm9 (by simpa [more] using h), fun h => h14 (by simpa [more] using h), hch⟩
    · obtain rfl := Option.some.inj ho
      have p2 := hpre ⟨2, .data⟩ (by simp) rfl
      clear ho hpre hi hcl
      have cx := (HD.out.blk.chg hch (fun h => h)).cell 1
      simp only [dkC] at cx
      go_wp2_with fail
      unfold AtEnd
      exact ⟨b4, b9, v14, by simp only [more, slot_true, slot_false, Nat.reduceEqDiff, ↓reduceIte, p2], by simpa [more] using hc, fun h => hm4 (by simpa [more] using h), fun h => hm9 (by simpa [more] using h), fun h => h14 (by simpa [more] using h), hch⟩
    · obtain rfl := Option.some.inj ho
      have p3 := hpre ⟨3, .data⟩ (by simp) rfl
      have d9 : D 9 = false := (hcl.not_ 9 _ rfl 1 _ rfl rfl hD)
      have d14 : D 14 = false := (hcl.not_ 14 _ rfl 1 _ rfl rfl (hcl.not_ 9 _ rfl 1 _ rfl rfl hD))
      have d16 : D 16 = false := (hcl.not_ 16 _ rfl 1 _ rfl rfl hD)
      clear ho hpre hi hcl
      have hs := HD.out.sure.chg hch (fun h => h)
      have hyl := hc.lt
      simp only [p3, slot_true]
      go_wp2_with fail
      refine (copied_any bs _ _ hs).mono ?_
      rintro e w5 ⟨b5, rfl, hbl, hm5, hc5⟩
      go_wp2_with fail
      unfold AtEnd
      exact ⟨b5, b9, v14, by simp only [more, slot_true, slot_false, Nat.reduceEqDiff, ↓reduceIte, p3, d9, d14, d16], by have h := hc.chg hc5 (fun h => h); simp only [d16, slot_false] at h; simpa [more, d16] using h, fun _ => ⟨hm5, by omega⟩, fun h => by simp [more, d9] at h, fun h => by simp [more, d14] at h, hch.trans hc5 (fun _ _ h => h)⟩
    · obtain rfl := Option.some.inj ho
      clear ho hpre hi hcl
      go_wp2_with fail
      unfold AtEnd
      exact ⟨b4, b9, v14, rfl, by simpa [more] using hc, fun h => hm4 (by simpa [more] using h), fun h => hm9 (by simpa [more] using h), fun h => h14 (by simpa [more] using h), hch⟩
    · obtain rfl := Option.some.inj ho
      have p5 := hpre ⟨5, .data⟩ (by simp) rfl
      clear ho hpre hi hcl
      go_wp2_with fail
      unfold AtEnd
      exact ⟨b4, b9, v14, by simp only [more, slot_true, slot_false, Nat.reduceEqDiff, ↓reduceIte, p5], by simpa [more] using hc, fun h => hm4 (by simpa [more] using h), fun h => hm9 (by simpa [more] using h), fun h => h14 (by simpa [more] using h), hch⟩
    · obtain rfl := Option.some.inj ho
      have p6 := hpre ⟨6, .data⟩ (by simp) rfl
      clear ho hpre hi hcl
      go_wp2_with fail
      unfold AtEnd
      exact ⟨b4, b9, v14, by simp only [more, slot_true, slot_false, Nat.reduceEqDiff, ↓reduceIte, p6], by simpa [more] using hc, fun h => hm4 (by simpa [more] using h), fun h => hm9 (by simpa [more] using h), fun h => h14 (by simpa [more] using h), hch⟩
    · obtain rfl := Option.some.inj ho
      have p7 := hpre ⟨7, .data⟩ (by simp) rfl
      clear ho hpre hi hcl
      have cx := (HD.out.blk.chg hch (fun h => h)).cell 3
      simp only [dkC] at cx
      go_wp2_with fail
      unfold AtEnd
      exact ⟨b4, b9, v14, by simp only [more, slot_true, slot_false, Nat.reduceEqDiff, ↓reduceIte, p7], by simpa [more] using hc, fun h => hm4 (by simpa [more] using h), fun h => hm9 (by simpa [more] using h), fun h => h14 (by simpa [more] using h), hch⟩
    · obtain rfl := Option.some.inj ho
      have p8 := hpre ⟨8, .data⟩ (by simp) rfl
      have p4 := hpre ⟨4, .chain⟩ (by simp) rfl
      have d14 : D 14 = false := (hcl.not_ 14 _ rfl 1 _ rfl rfl hD)
      have d18 : D 18 = false := (hcl.not_ 18 _ rfl 1 _ rfl rfl hD)
      clear ho hpre hi hcl
      have hs := HD.out.now.chg hch (fun h => h)
      have hA := hm4 p4
      have hbx := hA.1.lt
      simp only [p8, slot_true]
      go_wp2_with fail
      refine (copied_any bn _ _ hs).mono ?_
      rintro e w5 ⟨b5, rfl, hbl, hm5, hc5⟩
      go_wp2_with fail
      unfold AtEnd
      exact ⟨b4, b5, v14, by simp only [more, slot_true, slot_false, Nat.reduceEqDiff, ↓reduceIte, p8, p4, d14, d18], by have h := hc.chg hc5 (fun h => h); simp only [d18, slot_false] at h; simpa [more, d18] using h, fun _ => ⟨hA.1.chg hc5 (fun h => h), hA.2⟩, fun _ => ⟨hm5, by omega⟩, fun h => by simp [more, d14] at h, hch.trans hc5 (fun _ _ h => h)⟩
    · obtain rfl := Option.some.inj ho
      clear ho hpre hi hcl
      go_wp2_with fail
      unfold AtEnd
      exact ⟨b4, b9, v14, rfl, by simpa [more] using hc, fun h => hm4 (by simpa [more] using h), fun h => hm9 (by simpa [more] using h), fun h => h14 (by simpa [more] using h), hch⟩
    · obtain rfl := Option.some.inj ho
      have p10 := hpre ⟨10, .data⟩ (by simp) rfl
      clear ho hpre hi hcl
      go_wp2_with fail
      unfold AtEnd
      exact ⟨b4, b9, v14, by simp only [more, slot_true, slot_false, Nat.reduceEqDiff, ↓reduceIte, p10], by simpa [more] using hc, fun h => hm4 (by simpa [more] using h), fun h => hm9 (by simpa [more] using h), fun h => h14 (by simpa [more] using h), hch⟩
    · obtain rfl := Option.some.inj ho
      have p11 := hpre ⟨11, .data⟩ (by simp) rfl
      clear ho hpre hi hcl
      go_wp2_with fail
      unfold AtEnd
      exact ⟨b4, b9, v14, by simp only [more, slot_true, slot_false, Nat.reduceEqDiff, ↓reduceIte, p11], by simpa [more] using hc, fun h => hm4 (by simpa [more] using h), fun h => hm9 (by simpa [more] using h), fun h => h14 (by simpa [more] using h), hch⟩
    · obtain rfl := Option.some.inj ho
      have p12 := hpre ⟨12, .data⟩ (by simp) rfl
      clear ho hpre hi hcl
      have cx := (HD.out.blk.chg hch (fun h => h)).cell 2
      simp only [dkC] at cx
      rw [HVV.out] at cx
      go_wp2_with fail
      unfold AtEnd
      exact ⟨b4, b9, v14, by simp only [more, slot_true, slot_false, Nat.reduceEqDiff, ↓reduceIte, p12], by simpa [more] using hc, fun h => hm4 (by simpa [more] using h), fun h => hm9 (by simpa [more] using h), fun h => h14 (by simpa [more] using h), hch⟩
    · obtain rfl := Option.some.inj ho
      have p13 := hpre ⟨13, .data⟩ (by simp) rfl
      have p9 := hpre ⟨9, .chain⟩ (by simp) rfl
      have p4 : D 4 = true := (hcl.at_ 9 _ rfl p9 1 _ rfl rfl)
      have d20 : D 20 = false := (hcl.not_ 20 _ rfl 1 _ rfl rfl hD)
      clear ho hpre hi hcl
      have hr := ownsRow_chg HD.out.row hch (fun _ _ h => h)
      rw [HVV.out] at hr
      have hA := hm4 p4
      have hB := hm9 p9
      have hyl := hc.lt
      have HHR := Lib.hid hr
      clear hr
      simp only [p13, slot_true]
      go_wp2_with fail
      refine (clone_any _ _ _ _ HHR.out HKK.out).mono ?_
      rintro e w5 ⟨v15, rfl, hr5, hb5, hc5⟩
      go_wp2_with fail
      unfold AtEnd
      exact ⟨b4, b9, v15, by simp only [more, slot_true, slot_false, Nat.reduceEqDiff, ↓reduceIte, p13, p9, p4, d20], by have h := hc.chg hc5 (fun h => h); simp only [d20, slot_false] at h; simpa [more, d20] using h, fun _ => ⟨hA.1.chg hc5 (fun h => h), hA.2⟩, fun _ => ⟨hB.1.chg hc5 (fun h => h), hB.2⟩, fun _ => ⟨hr5, fun j e => by have := hb5 j e; omega⟩, hch.trans hc5 (fun _ _ h => h)⟩
    · obtain rfl := Option.some.inj ho
      clear ho hpre hi hcl
      go_wp2_with fail
      unfold AtEnd
      exact ⟨b4, b9, v14, rfl, by simpa [more] using hc, fun h => hm4 (by simpa [more] using h), fun h => hm9 (by simpa [more] using h), fun h => h14 (by simpa [more] using h), hch⟩
    · obtain rfl := Option.some.inj ho
      have p15 := hpre ⟨15, .data⟩ (by simp) rfl
      have p4 := hpre ⟨4, .data⟩ (by simp) rfl
      have p14 := hpre ⟨14, .chain⟩ (by simp) rfl
      have p9 : D 9 = true := (hpre ⟨9, .phase⟩ (by simp) rfl)
      clear ho hpre hi hcl
      have hA := hm4 p4
      have hB := hm9 p9
      have hC := h14 p14
      have c2 := hc.cell 1
      have f2 := hc.frozen 1
      have hsx : Chg (OneB y3) w (w.setCell ⟨y3, 1, none⟩ (.map (some b4))) := (Chg.refl (OneB y3) w).setCell (p := ⟨y3, 1, none⟩) (.inl rfl) _
      have hy1 : w1.heap.size ≤ y3 := by rw [HY3.out]; exact Nat.le_refl _
      have hcn := hc.set_ 1 (.map (some b4))
      have hsy := hch.trans (hsx.mono (T := fun i => w1.heap.size ≤ i) (fun i _ h => (show i = y3 from h) ▸ hy1)) (fun i hi h => by have h1 : w1.heap.size ≤ i := h; omega)
      have HA2 := Lib.hid (hA.1.chg hsx (fun e => by have h1 : b4 = y3 := e; have := hA.2; omega))
      have HB2 := Lib.hid (hB.1.chg hsx (fun e => by have h1 : b9 = y3 := e; have := hA.2; have := hB.2; omega))
      have HC2 := Lib.hid (ownsRow_chg hC.1 hsx (fun j e h => by have h1 : j = y3 := h; have := hC.2 j e; omega))
      have HCN := Lib.hid hcn
      have HA1 := Lib.hid hA.2
      have HB1 := Lib.hid hB.2
      have HC1 := Lib.hid hC.2
      clear hcn hA hB hC hc
      simp only [p15, p4, slot_true]
      go_wp2_with fail
      unfold AtEnd
      exact ⟨b4, b9, v14, by simp only [more, slot_true, slot_false, Nat.reduceEqDiff, ↓reduceIte, p15, p4, p14, p9], by simpa [more] using HCN.out, fun _ => ⟨HA2.out, HA1.out⟩, fun _ => ⟨HB2.out, HB1.out⟩, fun _ => ⟨HC2.out, HC1.out⟩, hsy⟩
    · obtain rfl := Option.some.inj ho
      clear ho hpre hi hcl
      go_wp2_with fail
      unfold AtEnd
      exact ⟨b4, b9, v14, rfl, by simpa [more] using hc, fun h => hm4 (by simpa [more] using h), fun h => hm9 (by simpa [more] using h), fun h => h14 (by simpa [more] using h), hch⟩
    · obtain rfl := Option.some.inj ho
      have p17 := hpre ⟨17, .data⟩ (by simp) rfl
      have p9 := hpre ⟨9, .data⟩ (by simp) rfl
      have p16 := hpre ⟨16, .chain⟩ (by simp) rfl
      have p4 : D 4 = true := (hpre ⟨4, .phase⟩ (by simp) rfl)
      have p14 : D 14 = true := (hpre ⟨14, .phase⟩ (by simp) rfl)
      clear ho hpre hi hcl
      have hA := hm4 p4
      have hB := hm9 p9
      have hC := h14 p14
      have c2 := hc.cell 3
      have f2 := hc.frozen 3
      have hsx : Chg (OneB y3) w (w.setCell ⟨y3, 3, none⟩ (.map (some b9))) := (Chg.refl (OneB y3) w).setCell (p := ⟨y3, 3, none⟩) (.inl rfl) _
      have hy1 : w1.heap.size ≤ y3 := by rw [HY3.out]; exact Nat.le_refl _
      have hcn := hc.set_ 3 (.map (some b9))
      have hsy := hch.trans (hsx.mono (T := fun i => w1.heap.size ≤ i) (fun i _ h => (show i = y3 from h) ▸ hy1)) (fun i hi h => by have h1 : w1.heap.size ≤ i := h; omega)
      have HA2 := Lib.hid (hA.1.chg hsx (fun e => by have h1 : b4 = y3 := e; have := hA.2; omega))
      have HB2 := Lib.hid (hB.1.chg hsx (fun e => by have h1 : b9 = y3 := e; have := hA.2; have := hB.2; omega))
      have HC2 := Lib.hid (ownsRow_chg hC.1 hsx (fun j e h => by have h1 : j = y3 := h; have := hC.2 j e; omega))
      have HCN := Lib.hid hcn
      have HA1 := Lib.hid hA.2
      have HB1 := Lib.hid hB.2
      have HC1 := Lib.hid hC.2
      clear hcn hA hB hC hc
      simp only [p17, p9, slot_true]
      go_wp2_with fail
      unfold AtEnd
      exact ⟨b4, b9, v14, by simp only [more, slot_true, slot_false, Nat.reduceEqDiff, ↓reduceIte, p17, p9, p16, p4, p14], by simpa [more] using HCN.out, fun _ => ⟨HA2.out, HA1.out⟩, fun _ => ⟨HB2.out, HB1.out⟩, fun _ => ⟨HC2.out, HC1.out⟩, hsy⟩
    · obtain rfl := Option.some.inj ho
      clear ho hpre hi hcl
      go_wp2_with fail
      unfold AtEnd
      exact ⟨b4, b9, v14, rfl, by simpa [more] using hc, fun h => hm4 (by simpa [more] using h), fun h => hm9 (by simpa [more] using h), fun h => h14 (by simpa [more] using h), hch⟩
    · obtain rfl := Option.some.inj ho
      have p19 := hpre ⟨19, .data⟩ (by simp) rfl
      have p14 := hpre ⟨14, .data⟩ (by simp) rfl
      have p18 := hpre ⟨18, .chain⟩ (by simp) rfl
      have p4 : D 4 = true := (hpre ⟨4, .phase⟩ (by simp) rfl)
      have p9 : D 9 = true := (hpre ⟨9, .phase⟩ (by simp) rfl)
      clear ho hpre hi hcl
      have hA := hm4 p4
      have hB := hm9 p9
      have hC := h14 p14
      obtain ⟨A9, d9, rfl⟩ := own_slice hC.1
      have c2 := hc.cell 2
      have f2 := hc.frozen 2
      have hsx : Chg (OneB y3) w (w.setCell ⟨y3, 2, none⟩ (.slice A9 loose.length d9)) := (Chg.refl (OneB y3) w).setCell (p := ⟨y3, 2, none⟩) (.inl rfl) _
      have hy1 : w1.heap.size ≤ y3 := by rw [HY3.out]; exact Nat.le_refl _
      have hcn := hc.set_ 2 (.slice A9 loose.length d9)
      have hsy := hch.trans (hsx.mono (T := fun i => w1.heap.size ≤ i) (fun i _ h => (show i = y3 from h) ▸ hy1)) (fun i hi h => by have h1 : w1.heap.size ≤ i := h; omega)
      have HA2 := Lib.hid (hA.1.chg hsx (fun e => by have h1 : b4 = y3 := e; have := hA.2; omega))
      have HB2 := Lib.hid (hB.1.chg hsx (fun e => by have h1 : b9 = y3 := e; have := hA.2; have := hB.2; omega))
      have HC2 := Lib.hid (ownsRow_chg hC.1 hsx (fun j e h => by have h1 : j = y3 := h; have := hC.2 j e; omega))
      have HCN := Lib.hid hcn
      have HA1 := Lib.hid hA.2
      have HB1 := Lib.hid hB.2
      have HC1 := Lib.hid hC.2
      clear hcn hA hB hC hc
      simp only [p19, p14, slot_true]
      go_wp2_with fail
      unfold AtEnd
      exact ⟨b4, b9, (.slice A9 loose.length d9), by simp only [more, slot_true, slot_false, Nat.reduceEqDiff, ↓reduceIte, p19, p14, p18, p4, p9], by simpa [more] using HCN.out, fun _ => ⟨HA2.out, HA1.out⟩, fun _ => ⟨HB2.out, HB1.out⟩, fun _ => ⟨HC2.out, HC1.out⟩, hsy⟩
  · intro D a w hall hI
    obtain ⟨b4, b9, v14, rfl, hc, hm4, hm9, h14, hch⟩ := hI
    have e20 := hall 20 (by decide)
    have hA := hm4 (hall 4 (by decide))
    have hB := hm9 (hall 9 (by decide))
    have hC := h14 (hall 14 (by decide))
    have hc' := hc
    simp only [hall 16 (by decide), hall 18 (by decide), hall 20 (by decide), slot_true] at hc'
    have HFIN := Lib.hid (show Disk w (fun i => w1.heap.size ≤ i ∧ i < w.heap.size) y3 ⟨n, sure, loose, now, fuse, dark⟩ from
      ⟨b4, b9, v14, { blk := hc', sure := hA.1, now := hB.1, row := hC.1, ne := by have := hB.2; omega, n0 := HD.out.n0, n1 := HD.out.n1, rng := HD.out.rng, fuse0 := HD.out.fuse0, fuse1 := HD.out.fuse1 },
        ⟨by rw [HY3.out]; exact Nat.le_refl _, hc'.lt⟩, ⟨by have := hA.2; have := HY3.out; omega, hA.1.lt⟩, ⟨by have := hA.2; have := hB.2; have := HY3.out; omega, hB.1.lt⟩, fun i e => ⟨by have := hC.2 i e; have := HY3.out; omega, (hC.1.lt i e).2⟩⟩)
    have HCH := Lib.hid hch
    clear hc hc' hm4 hm9 h14 hch hA hB hC hall
    go_wp2_with fail
    go_ret
    exact ⟨y3, rfl, HFIN.out, HCH.out⟩

end Go.Proofs.Ytlhfhhbafhnbkaa
