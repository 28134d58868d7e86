/-
  A STEP: Crash.
-/
import Derived.Test.YtmkbahhnjobglaaSecStep
namespace Go.Proofs.Ytmkbahhnjobglaa
open Go.RowKit
set_option linter.unusedSimpArgs false
set_option linter.unusedVariables false
theorem int_info : (Try.prog.info? 3).map (fun i => (i.zero, i.size, i.bytes)) = some (some (.int .i64 0), 1, 8) := by kernel_rfl
theorem int_full : ∃ i, Try.prog.info? 3 = some i ∧ i.zero = some (.int .i64 0) ∧ i.size = 1 ∧ i.bytes = 8 := by
  have h := int_info
  cases hi : Try.prog.info? 3 with
  | none => rw [hi] at h; cases h
  | some i => rw [hi] at h; simp at h; exact ⟨i, rfl, h.1, h.2.1, h.2.2⟩
theorem ints_one (ks : List Int) : ∀ u ∈ ks.map (Value.int .i64), u.oneCell' = true := by
  intro u hu
  obtain ⟨k, _, rfl⟩ := List.mem_map.1 hu
  rfl
theorem own_nil {w : World} {base n size c : Nat} {t : TypeId} {xs : List Value} (h : w.ownsRow base t size (.slice none n c) n xs) : n = 0 ∧ c = 0 := by
  rcases h.2 with ⟨hv, h0⟩ | ⟨g, cap, cur, hv, _⟩
  · injection hv with _ _ h3
    exact ⟨h0, h3⟩
  · injection hv with hv _ _
    cases hv
theorem own_addr {w : World} {base n size c : Nat} {t : TypeId} {xs : List Value} {ad : Addr} (h : w.ownsRow base t size (.slice (some ad) n c) n xs) : base ≤ ad.block := (h.lt ad.block rfl).1
theorem own_IB {w : World} {base kn c : Nat} {A : Option Addr} {ks : List Int} (hl : ks.length = kn) (h : w.ownsRow base 3 1 (.slice A kn c) kn (ks.map (Value.int .i64))) : IB w w.heap.size A ks := by
  subst hl
  exact own_reads h
def InvS18 (B g n m nl c1 c2 kn kc : Nat) (A1 A2 ka : Option Addr) (fu xi xl : Int) (da : Bool) (xc : UInt8) (W w0 : World) (F : Nat → Prop) (K : Dk) (ks : List Int) (D : Nat → Bool) (a : Act) (w : World) : Prop :=
  ∃ (s4 : Value) (p4 : Value) (s6 : Nat) (A9 : Option Addr) (c9 : Nat), a = { tmps := #[.pointer (some ⟨g, 0, none⟩), .agg #[.slice A1 n c1, .slice A2 nl c2, .int .i64 fu, .bool da], .agg #[.int .i64 4, .int .i64 xi, .int .u8 (xc.toNat : Int), .int .i64 xl, .slice ka kn kc], undef, .pointer (some ⟨W.heap.size, 0, none⟩), .pointer (some ⟨W.heap.size + 1, 0, none⟩), (slot (D 12) (.pointer (some ⟨g, 0, none⟩)) (.pointer none)), .pointer (some ⟨W.heap.size + 1 + 1, 0, none⟩), (slot (D 14) (.bool true) (.bool false)), undef, undef, undef, undef, undef, undef, undef, undef, undef, undef, undef, undef, undef, undef, .pointer (some ⟨W.heap.size + 1, 0, none⟩), .int .i64 4, .bool false, .bool false, undef, undef, undef, undef, undef, undef, undef, undef, undef, undef, undef, undef, undef, undef, undef, undef, undef, undef, undef, undef, undef, undef, undef, undef, undef, undef, undef, undef, undef, undef, undef, undef, undef, .bool false, .bool false, undef, undef, undef, undef, undef, undef, undef, undef, undef, undef, undef, .bool false, .bool false, undef, undef, undef, undef, undef, undef, undef, undef, undef, .bool true, .bool true, (slot (D 0) (.pointer (some ⟨g, 0, none⟩)) (undef)), (slot (D 1) (.agg #[.slice A1 n c1, .slice A2 nl c2, .int .i64 fu, .bool da]) (undef)), (slot (D 2) (.pointer (some ⟨W.heap.size + 1, 4, none⟩)) (undef)), (slot (D 3) (.slice ka kn kc) (undef)), (slot (D 4) (.agg #[s4, p4, .int .i64 (-1), .bool false]) (undef)), (slot (D 5) (.pointer (some ⟨g, 0, none⟩)) (undef)), (slot (D 6) (.slice (some ⟨s6, 0, none⟩) 0 0) (undef)), (slot (D 7) (.pointer (some ⟨W.heap.size + 1, 4, none⟩)) (undef)), (slot (D 8) (.slice ka kn kc) (undef)), (slot (D 9) (.slice A9 kn c9) (undef)), (slot (D 10) (.int .i64 0) (undef)), (slot (D 11) (.bool true) (undef)), undef, undef, undef, undef, undef, undef, undef, undef, undef, undef, undef, undef, undef, undef, undef, undef, undef, undef, undef, undef, undef, undef, undef, undef, undef, undef, undef, undef, undef, undef, undef, undef, undef, undef, undef, undef, undef, undef, undef, undef, undef, undef, undef, undef, undef, undef, undef, undef, undef], defers := [] } ∧
    (D 10 = false → Chg NoB w0 w) ∧
    (D 4 = true → D 10 = false → RK w s4 p4 (K.crash ks) n ∧ (∀ b, RowsOf s4 p4 b → RowsOf (.slice A1 n c1) (.slice A2 nl c2) b ∨ w0.heap.size ≤ b)) ∧
    (D 6 = true → D 9 = false → Blk w s6 3 #[] ∧ w0.heap.size ≤ s6) ∧
    (D 9 = true → D 10 = false → w.ownsRow w0.heap.size 3 1 (.slice A9 kn c9) kn (ks.map (Value.int .i64))) ∧
    (D 10 = true → D 13 = false → ∃ F7, BK B w g F7 s4 p4 (K.crash ks) n (m + 1) ∧ Chg F w0 w ∧ (∀ i, F7 i → F i ∨ w0.heap.size ≤ i) ∧ (∀ b, RowsOf s4 p4 b → RowsOf (.slice A1 n c1) (.slice A2 nl c2) b ∨ w0.heap.size ≤ b)) ∧
    (D 13 = true → ∃ F7, BK B w g F7 s4 p4 (K.crash ks) n (m + 1) ∧ Chg F W w ∧ (∀ i, F7 i → F i ∨ W.heap.size ≤ i) ∧ Blk w (W.heap.size + 2) 52 #[s4, p4, .int .i64 (-1), .bool false])
set_option maxRecDepth 100000 in
set_option maxHeartbeats 8000000 in
theorem step_crash {B : Nat} {W : World} {g : Nat} {F : Nat → Prop} {s p : Value} {K : Dk} {n m : Nat} (hB : B ≤ W.heap.size) (hJ : BK B W g F s p K n m) (hm : m ≤ 100) (x : ActV) (hkd : x.kind = 4) (hx : ActOk W B x) (hkn : x.kn ≤ 17592186043904) :
    Calls Try.prog 24 #[.pointer (some ⟨g, 0, none⟩), rkV s p K, actV x] W (StepPost B W F n m) := by
  obtain ⟨A1, c1, hs⟩ := own_slice hJ.rk.sure
  obtain ⟨nl, hnl⟩ : ∃ nl, nl = K.loose.length := ⟨_, rfl⟩
  obtain ⟨A2, c2, hp⟩ := own_slice hJ.rk.loose
  rw [← hnl] at hp
  subst hs hp
  obtain ⟨kd, xi, xc, xl, ka, kn, kc, ks⟩ := x
  obtain rfl : kd = 4 := hkd
  have HB := Lib.hid hB
  have HM := Lib.hid hm
  obtain ⟨fu, hfu⟩ : ∃ fu, fu = K.fuse := ⟨_, rfl⟩
  obtain ⟨da, hda⟩ : ∃ da, da = K.dark := ⟨_, rfl⟩
  have HRK := Lib.hid (show rkV (.slice A1 n c1) (.slice A2 nl c2) K = .agg #[.slice A1 n c1, .slice A2 nl c2, .int .i64 fu, .bool da] from by rw [hfu, hda]; rfl)
  rw [HRK.out]
  unfold actV
  simp only
  obtain ⟨wA, hwA⟩ : ∃ wA, wA = ((W.alloc (.cells #[.slice A1 n c1, .slice A2 nl c2, .int .i64 fu, .bool da] 52)).alloc (.cells #[.int .i64 4, .int .i64 xi, .int .u8 (xc.toNat : Int), .int .i64 xl, .slice ka kn kc] 33)).alloc (.cells #[.slice none 0 0, .slice none 0 0, .int .i64 0, .bool false] 52) := ⟨_, rfl⟩
  have hcA : Chg NoB W wA := by rw [hwA]; exact (((Chg.refl _ _).alloc _).alloc _).alloc _
  have hmA : Blk wA W.heap.size 52 #[.slice A1 n c1, .slice A2 nl c2, .int .i64 fu, .bool da] := by rw [hwA]; exact ((Blk.new W _ _).alloc _).alloc _
  have haA : Blk wA (W.heap.size + 1) 33 #[.int .i64 4, .int .i64 xi, .int .u8 (xc.toNat : Int), .int .i64 xl, .slice ka kn kc] := by
    rw [hwA]
    have h := Blk.new (W.alloc (.cells #[.slice A1 n c1, .slice A2 nl c2, .int .i64 fu, .bool da] 52)) 33 #[.int .i64 4, .int .i64 xi, .int .u8 (xc.toNat : Int), .int .i64 xl, .slice ka kn kc]
    exact Blk.alloc (by simpa using h) _
  have hrA : Blk wA (W.heap.size + 2) 52 #[.slice none 0 0, .slice none 0 0, .int .i64 0, .bool false] := by
    rw [hwA]
    have h := Blk.new ((W.alloc (.cells #[.slice A1 n c1, .slice A2 nl c2, .int .i64 fu, .bool da] 52)).alloc (.cells #[.int .i64 4, .int .i64 xi, .int .u8 (xc.toNat : Int), .int .i64 xl, .slice ka kn kc] 33)) 52 #[.slice none 0 0, .slice none 0 0, .int .i64 0, .bool false]
    simpa using h
  have hsA : wA.heap.size = W.heap.size + 3 := by rw [hwA]; simp
  have HCA := Lib.hid hcA
  have HMA := Lib.hid hmA
  have HAA := Lib.hid haA
  have HRA := Lib.hid hrA
  have HSA := Lib.hid hsA
  have HJ := Lib.hid hJ
  have HNL := Lib.hid hnl
  clear hB hm hfu hda hcA hmA haA hrA hsA hJ hnl
  go_enter Try.func24, Try.ntmps24
  go_upto_region 18 with (fail)
  rw [← hwA]
  clear hwA
  have HKN := Lib.hid (show kn ≤ 17592186043904 from hkn)
  have HKL := Lib.hid (show ks.length = kn from hx.len)
  have HKR := Lib.hid (show ∀ k ∈ ks, I64r k from hx.rng)
  have HKI := Lib.hid (show IB wA wA.heap.size ka ks from ((show IB W B ka ks from hx.row).chg HB.out HCA.out (fun _ _ h => h)).more (Nat.le_trans HB.out HCA.out.size))
  have HWA := Lib.hid (show W.heap.size + 2 < wA.heap.size from by have := HSA.out; omega)
  have HJA := Lib.hid (HJ.out.no HCA.out)
  have HOK := Lib.hid (show KOk (K.crash ks) (m + 1) from HJ.out.ok.crash_ ks _)
  have HLO := Lib.hid (show K.loose.length ≤ 1000 from Nat.le_trans HJ.out.ok.loose (by have := HM.out; omega))
  obtain ⟨it, hit, hz, hs1, hs2⟩ := int_full
  have HIT := Lib.hid (show Try.prog.info? 3 = some it ∧ it.zero = some (.int .i64 0) ∧ it.size = 1 ∧ it.bytes = 8 from ⟨hit, hz, hs1, hs2⟩)
  clear hkn hx hit hz hs1 hs2
  refine wp_region_cl rfl (by kernel_rfl) (InvS18 B g n m nl c1 c2 kn kc A1 A2 ka fu xi xl da xc W wA F K ks) ?_ ?_ ?_
  · exact ⟨.slice none 0 0, .slice none 0 0, 0, none, 0, rfl, fun _ => (Chg.refl _ _).drew, (fun h _ => by cases h), (fun h _ => by cases h), (fun h _ => by cases h), (fun h _ => by cases h), (fun h => by cases h)⟩
  ·
    intro D a w i o ho hD hcl hpre hI
    obtain ⟨s4, p4, s6, A9, c9, rfl, h0, h4, h6, h9, h10, h13⟩ := hI
    have hi : i < 15 := by have := (List.getElem?_eq_some_iff.1 ho).1; simpa using this
    rcases (by omega : i = 0 ∨ i = 1 ∨ i = 2 ∨ i = 3 ∨ i = 4 ∨ i = 5 ∨ i = 6 ∨ i = 7 ∨ i = 8 ∨ i = 9 ∨ i = 10 ∨ i = 11 ∨ i = 12 ∨ i = 13 ∨ i = 14) with rfl | rfl | rfl | rfl | rfl | rfl | rfl | rfl | rfl | rfl | rfl | rfl | rfl | rfl | rfl
    · obtain rfl := Option.some.inj ho
      clear ho hpre hi hcl
      go_wp2_with fail
      unfold AtEnd
      exact ⟨s4, p4, s6, A9, c9, rfl, fun h => h0 (by simpa [more] using h), fun a1 a2 => h4 (by simpa [more] using a1) (by simpa [more] using a2), fun a1 a2 => h6 (by simpa [more] using a1) (by simpa [more] using a2), fun a1 a2 => h9 (by simpa [more] using a1) (by simpa [more] using a2), fun a1 a2 => h10 (by simpa [more] using a1) (by simpa [more] using a2), fun h => h13 (by simpa [more] using h)⟩
    · obtain rfl := Option.some.inj ho
      have d10 : D 10 = false := (hcl.not_ 10 _ rfl 1 _ rfl rfl (hcl.not_ 9 _ rfl 2 _ rfl rfl (hcl.not_ 4 _ rfl 0 _ rfl rfl hD)))
      clear ho hpre hi hcl
      have hb := HMA.out.chg (h0 d10) (fun h => h)
      go_wp2_with (first
        | (refine wpList_load_row rfl 52 _ rfl W.heap.size rfl 52 _ (0, 0) _ hb Try.underlying52 rfl rd_size ?_)
        | fail)
      unfold AtEnd
      exact ⟨s4, p4, s6, A9, c9, by simp only [more, slot_true, slot_false, Nat.reduceEqDiff, ↓reduceIte, d10], fun h => h0 (by simpa [more] using h), fun a1 a2 => h4 (by simpa [more] using a1) (by simpa [more] using a2), fun a1 a2 => h6 (by simpa [more] using a1) (by simpa [more] using a2), fun a1 a2 => h9 (by simpa [more] using a1) (by simpa [more] using a2), fun a1 a2 => h10 (by simpa [more] using a1) (by simpa [more] using a2), fun h => h13 (by simpa [more] using h)⟩
    · obtain rfl := Option.some.inj ho
      clear ho hpre hi hcl
      go_wp2_with fail
      unfold AtEnd
      exact ⟨s4, p4, s6, A9, c9, rfl, fun h => h0 (by simpa [more] using h), fun a1 a2 => h4 (by simpa [more] using a1) (by simpa [more] using a2), fun a1 a2 => h6 (by simpa [more] using a1) (by simpa [more] using a2), fun a1 a2 => h9 (by simpa [more] using a1) (by simpa [more] using a2), fun a1 a2 => h10 (by simpa [more] using a1) (by simpa [more] using a2), fun h => h13 (by simpa [more] using h)⟩
    · obtain rfl := Option.some.inj ho
      have z2 := hpre ⟨2, .data⟩ (by simp) rfl
      have d10 : D 10 = false := (hcl.not_ 10 _ rfl 1 _ rfl rfl (hcl.not_ 9 _ rfl 2 _ rfl rfl (hcl.not_ 4 _ rfl 1 _ rfl rfl hD)))
      clear ho hpre hi hcl
      have k4 := (HAA.out.chg (h0 d10) (fun h => h)).cell 4
      go_wp2_with fail
      unfold AtEnd
      exact ⟨s4, p4, s6, A9, c9, by simp only [more, slot_true, slot_false, Nat.reduceEqDiff, ↓reduceIte, z2, d10], fun h => h0 (by simpa [more] using h), fun a1 a2 => h4 (by simpa [more] using a1) (by simpa [more] using a2), fun a1 a2 => h6 (by simpa [more] using a1) (by simpa [more] using a2), fun a1 a2 => h9 (by simpa [more] using a1) (by simpa [more] using a2), fun a1 a2 => h10 (by simpa [more] using a1) (by simpa [more] using a2), fun h => h13 (by simpa [more] using h)⟩
    · obtain rfl := Option.some.inj ho
      have z1 := hpre ⟨1, .data⟩ (by simp) rfl
      have z3 := hpre ⟨3, .data⟩ (by simp) rfl
      have d9 : D 9 = false := (hcl.not_ 9 _ rfl 2 _ rfl rfl hD)
      have d10 : D 10 = false := (hcl.not_ 10 _ rfl 1 _ rfl rfl (hcl.not_ 9 _ rfl 2 _ rfl rfl hD))
      have d13 : D 13 = false := (hcl.not_ 13 _ rfl 0 _ rfl rfl hD)
      clear ho hpre hi hcl
      have hcw := h0 d10
      have hcall := rcrash_any K n w (HJA.out.rk.no hcw) HLO.out HJ.out.ok.s5 ka kn kc ks HKL.out ((HKI.out.chg (Nat.le_refl _) hcw (fun _ _ h => h)).more hcw.size) HKR.out
      rw [HRK.out] at hcall
      have HCALL := Lib.hid hcall
      have HCW := Lib.hid hcw
      have H6 := Lib.hid h6
      clear h0 h4 h6 h9 h10 h13 hcw hcall
      simp only [z1, z3, slot_true]
      go_wp2_with fail
      refine HCALL.out.mono ?_
      rintro e w7 ⟨s7, p7, rfl, hr7, hw7, hc7⟩
      rw [show rkV s7 p7 (K.crash ks) = .agg #[s7, p7, .int .i64 (-1), .bool false] from rfl]
      have HR7 := Lib.hid hr7
      have HW7 := Lib.hid hw7
      have HC7 := Lib.hid hc7
      clear hr7 hw7 hc7
      go_wp2_with fail
      unfold AtEnd
      exact ⟨s7, p7, s6, A9, c9, by simp only [more, slot_true, slot_false, Nat.reduceEqDiff, ↓reduceIte, z1, z3, d9, d10, d13], fun _ => HCW.out.trans HC7.out (fun _ _ h => h), fun _ _ => ⟨HR7.out, fun b hb => (HW7.out b hb).imp id (fun h => Nat.le_trans HCW.out.size h)⟩, fun h1 h2 => ⟨(H6.out (by simpa [more] using h1) d9).1.chg HC7.out (fun h => h), (H6.out (by simpa [more] using h1) d9).2⟩, fun h => by simp [more, d9] at h, fun h => by simp [more, d10] at h, fun h => by simp [more, d13] at h⟩
    · obtain rfl := Option.some.inj ho
      clear ho hpre hi hcl
      go_wp2_with fail
      unfold AtEnd
      exact ⟨s4, p4, s6, A9, c9, rfl, fun h => h0 (by simpa [more] using h), fun a1 a2 => h4 (by simpa [more] using a1) (by simpa [more] using a2), fun a1 a2 => h6 (by simpa [more] using a1) (by simpa [more] using a2), fun a1 a2 => h9 (by simpa [more] using a1) (by simpa [more] using a2), fun a1 a2 => h10 (by simpa [more] using a1) (by simpa [more] using a2), fun h => h13 (by simpa [more] using h)⟩
    · obtain rfl := Option.some.inj ho
      have d9 : D 9 = false := (hcl.not_ 9 _ rfl 0 _ rfl rfl hD)
      have d10 : D 10 = false := (hcl.not_ 10 _ rfl 1 _ rfl rfl (hcl.not_ 9 _ rfl 0 _ rfl rfl hD))
      have d13 : D 13 = false := (hcl.not_ 13 _ rfl 1 _ rfl rfl (hcl.not_ 12 _ rfl 1 _ rfl rfl (hcl.not_ 10 _ rfl 1 _ rfl rfl (hcl.not_ 9 _ rfl 0 _ rfl rfl hD))))
      clear ho hpre hi hcl
      have hcl : Chg NoB w (w.alloc (.cells #[] 3)) := (Chg.refl _ _).alloc _
      have hnw := Blk.new w 3 #[]
      have HNW := Lib.hid hnw
      clear hnw
      go_wp2_with fail
      unfold AtEnd
      exact ⟨s4, p4, w.heap.size, A9, c9, by simp only [more, slot_true, slot_false, Nat.reduceEqDiff, ↓reduceIte, d9, d10, d13], fun _ => (h0 d10).trans hcl (fun _ _ h => h), fun h1 _ => ⟨(h4 (by simpa [more] using h1) d10).1.no hcl, (h4 (by simpa [more] using h1) d10).2⟩, fun _ _ => ⟨HNW.out, (h0 d10).size⟩, fun h => by simp [more, d9] at h, fun h => by simp [more, d10] at h, fun h => by simp [more, d13] at h⟩
    · obtain rfl := Option.some.inj ho
      clear ho hpre hi hcl
      go_wp2_with fail
      unfold AtEnd
      exact ⟨s4, p4, s6, A9, c9, rfl, fun h => h0 (by simpa [more] using h), fun a1 a2 => h4 (by simpa [more] using a1) (by simpa [more] using a2), fun a1 a2 => h6 (by simpa [more] using a1) (by simpa [more] using a2), fun a1 a2 => h9 (by simpa [more] using a1) (by simpa [more] using a2), fun a1 a2 => h10 (by simpa [more] using a1) (by simpa [more] using a2), fun h => h13 (by simpa [more] using h)⟩
    · obtain rfl := Option.some.inj ho
      have z7 := hpre ⟨7, .data⟩ (by simp) rfl
      have d10 : D 10 = false := (hcl.not_ 10 _ rfl 1 _ rfl rfl (hcl.not_ 9 _ rfl 1 _ rfl rfl hD))
      clear ho hpre hi hcl
      have k4 := (HAA.out.chg (h0 d10) (fun h => h)).cell 4
      go_wp2_with fail
      unfold AtEnd
      exact ⟨s4, p4, s6, A9, c9, by simp only [more, slot_true, slot_false, Nat.reduceEqDiff, ↓reduceIte, z7, d10], fun h => h0 (by simpa [more] using h), fun a1 a2 => h4 (by simpa [more] using a1) (by simpa [more] using a2), fun a1 a2 => h6 (by simpa [more] using a1) (by simpa [more] using a2), fun a1 a2 => h9 (by simpa [more] using a1) (by simpa [more] using a2), fun a1 a2 => h10 (by simpa [more] using a1) (by simpa [more] using a2), fun h => h13 (by simpa [more] using h)⟩
    · obtain rfl := Option.some.inj ho
      have z6 := hpre ⟨6, .data⟩ (by simp) rfl
      have z8 := hpre ⟨8, .data⟩ (by simp) rfl
      have z4 := hpre ⟨4, .chain⟩ (by simp) rfl
      have d10 : D 10 = false := (hcl.not_ 10 _ rfl 1 _ rfl rfl hD)
      have d13 : D 13 = false := (hcl.not_ 13 _ rfl 1 _ rfl rfl (hcl.not_ 12 _ rfl 1 _ rfl rfl (hcl.not_ 10 _ rfl 1 _ rfl rfl hD)))
      clear ho hpre hi hcl
      have hcw := h0 d10
      have H6 := Lib.hid (h6 z6 hD)
      have H4 := Lib.hid (h4 z4 d10)
      have hown : w.ownsRow wA.heap.size 3 1 (.slice (some ⟨s6, 0, none⟩) 0 0) 0 [] := ⟨rfl, .inr ⟨s6, 0, #[], rfl, H6.out.2, H6.out.1, Nat.le_refl _, Nat.zero_le _, rfl, rfl⟩⟩
      have hrd : Reads w w.heap.size 1 ka kn (ks.map (Value.int .i64)) := HKL.out ▸ ((HKI.out.chg (Nat.le_refl _) hcw (fun _ _ h => h)).more hcw.size)
      have HOWN := Lib.hid hown
      have HRD := Lib.hid hrd
      have HCW := Lib.hid hcw
      clear h0 h4 h6 h9 h10 h13 hcw hown hrd
      simp only [z6, z8, slot_true]
      go_wp2_with (at_builtin; refine wpList_append_gen _ rfl _ _ _ _ rfl Try.underlying23 it _ 1 8 wA.heap.size HIT.out.1 HIT.out.2.1 HIT.out.2.2.1 HIT.out.2.2.2 rfl (by decide) (.slice (some ⟨s6, 0, none⟩) 0 0) 0 [] rfl HOWN.out _ ka kn kc (ks.map (Value.int .i64)) rfl HRD.out (ints_one ks) (by have := HKN.out; omega) (by have := HKN.out; unfold maxLen; omega) HCW.out.size ?_; intro v9 w9 ho9 hg9 hv9; rw [Nat.zero_add, List.nil_append] at ho9; obtain ⟨A7, c7, rfl⟩ := own_slice ho9)
      unfold AtEnd
      exact ⟨s4, p4, s6, A7, c7, by simp only [more, slot_true, slot_false, Nat.reduceEqDiff, ↓reduceIte, z6, z8, z4, d10, d13], fun _ => HCW.out.grown hg9 (fun r e => .inr (by have h8 := H6.out.2; injection e with e; have h7 : s6 = r := e; omega)), fun _ _ => ⟨H4.out.1.chg ((Chg.refl (fun b => b = s6) w).grown hg9 (fun r e => .inl (by injection e with e; exact e.symm))) (fun b hb e => hb.elim (fun h => own_ne H4.out.1.sure H6.out.1 (by decide) (e ▸ h)) (fun h => own_ne H4.out.1.loose H6.out.1 (by decide) (e ▸ h))), H4.out.2⟩, fun _ h => by simp [more] at h, fun _ _ => ho9, fun h => by simp [more, d10] at h, fun h => by simp [more, d13] at h⟩
    · obtain rfl := Option.some.inj ho
      have z5 := hpre ⟨5, .data⟩ (by simp) rfl
      have z9 := hpre ⟨9, .data⟩ (by simp) rfl
      have z4 : D 4 = true := (hcl.at_ 9 _ rfl z9 2 _ rfl rfl)
      have d13 : D 13 = false := (hcl.not_ 13 _ rfl 1 _ rfl rfl (hcl.not_ 12 _ rfl 1 _ rfl rfl hD))
      clear ho hpre hi hcl
      have hcw := h0 hD
      have H9 := Lib.hid (h9 z9 hD)
      have H4 := Lib.hid (h4 z4 hD)
      have HCW := Lib.hid hcw
      clear h0 h4 h6 h9 h10 h13 hcw
      simp only [z5, z9, slot_true]
      go_wp2_with fail
      refine ((HJA.out.no HCW.out).di.crash_ (Nat.le_trans HB.out (Nat.le_trans HCA.out.size HCW.out.size)) HLO.out c9 HKL.out (own_IB HKL.out H9.out) (fun h => by subst h; exact own_nil H9.out) (fun _ ad e hf => by subst e; have h8 := own_addr H9.out; have h9 := (HJ.out.di.rng _ hf).2; have h7 := HWA.out; omega) HKR.out).mono ?_
      rintro e w7 ⟨rfl, hp7⟩
      have HN := Lib.hid (HJ.out.next H4.out.1 (fun b hb => (H4.out.2 b hb).imp id (fun h => Nat.le_trans HCA.out.size h)) (Nat.le_trans HCA.out.size HCW.out.size) hp7 HOK.out)
      clear hp7
      go_wp2_with fail
      obtain ⟨F7, hn1, hn2, hn3⟩ := HN.out
      unfold AtEnd
      exact ⟨s4, p4, s6, A9, c9, by simp only [more, slot_true, slot_false, Nat.reduceEqDiff, ↓reduceIte, z5, z9, z4, d13], fun h => by simp [more] at h, fun _ h => by simp [more] at h, fun _ h => by simp [more, z9] at h, fun _ h => by simp [more] at h, fun _ _ => ⟨F7, hn1, Chg.trans (S := F) (HCW.out.mono (fun _ _ h => h.elim)) hn2 (fun _ _ h => h), fun i hi => (hn3 i hi).imp id (fun h => Nat.le_trans HCW.out.size h), H4.out.2⟩, fun h => by simp [more, d13] at h⟩
    · obtain rfl := Option.some.inj ho
      have z10 := hpre ⟨10, .data⟩ (by simp) rfl
      clear ho hpre hi hcl
      go_wp2_with fail
      unfold AtEnd
      exact ⟨s4, p4, s6, A9, c9, by simp only [more, slot_true, slot_false, Nat.reduceEqDiff, ↓reduceIte, z10], fun h => h0 (by simpa [more] using h), fun a1 a2 => h4 (by simpa [more] using a1) (by simpa [more] using a2), fun a1 a2 => h6 (by simpa [more] using a1) (by simpa [more] using a2), fun a1 a2 => h9 (by simpa [more] using a1) (by simpa [more] using a2), fun a1 a2 => h10 (by simpa [more] using a1) (by simpa [more] using a2), fun h => h13 (by simpa [more] using h)⟩
    · obtain rfl := Option.some.inj ho
      have z0 := hpre ⟨0, .data⟩ (by simp) rfl
      have z10 := hpre ⟨10, .chain⟩ (by simp) rfl
      clear ho hpre hi hcl
      go_wp2_with fail
      unfold AtEnd
      exact ⟨s4, p4, s6, A9, c9, by simp only [more, slot_true, slot_false, Nat.reduceEqDiff, ↓reduceIte, z0, z10], fun h => h0 (by simpa [more] using h), fun a1 a2 => h4 (by simpa [more] using a1) (by simpa [more] using a2), fun a1 a2 => h6 (by simpa [more] using a1) (by simpa [more] using a2), fun a1 a2 => h9 (by simpa [more] using a1) (by simpa [more] using a2), fun a1 a2 => h10 (by simpa [more] using a1) (by simpa [more] using a2), fun h => h13 (by simpa [more] using h)⟩
    · obtain rfl := Option.some.inj ho
      have z4 := hpre ⟨4, .data⟩ (by simp) rfl
      have z12 := hpre ⟨12, .chain⟩ (by simp) rfl
      have z9 : D 9 = true := (hcl.at_ 10 _ rfl (hcl.at_ 12 _ rfl z12 1 _ rfl rfl) 1 _ rfl rfl)
      have z10 : D 10 = true := (hcl.at_ 12 _ rfl z12 1 _ rfl rfl)
      clear ho hpre hi hcl
      obtain ⟨F7, hbk, hcf, hF, hRW⟩ := h10 z10 hD
      obtain ⟨A4, c4, rfl⟩ := own_slice hbk.rk.sure
      obtain ⟨A44, c44, rfl⟩ := own_slice hbk.rk.loose
      have hbr := HRA.out.chg hcf (fun hf => by have h8 := (HJ.out.di.rng _ hf).2; omega)
      have HBR := Lib.hid hbr
      have HBK := Lib.hid hbk
      have HCF := Lib.hid hcf
      have HF := Lib.hid hF
      have HRW := Lib.hid hRW
      clear h0 h4 h6 h9 h10 h13 hbk hcf hF hbr hRW
      simp only [z4, slot_true]
      go_wp2_with (first
        | (refine wpList_store_blk rfl 52 _ _ rfl (W.heap.size + 2) _ rfl rfl 52 _ HBR.out rfl rd_size (by simp [Value.oneCell']) ?_)
        | fail)
      have hcs : Chg (fun b => b = W.heap.size + 2) w (w.setRow (W.heap.size + 2) #[.slice A4 n c4, .slice A44 (K.crash ks).loose.length c44, .int .i64 (-1), .bool false]) := (Chg.refl (fun b => b = W.heap.size + 2) w).setRow (g := W.heap.size + 2) (.inl rfl) _
      have hbk2 := HBK.out.chg hcs (fun i hi h => by have h9 := HWA.out; exact (HF.out i hi).elim (fun hf => by have h8 := (HJ.out.di.rng _ hf).2; have h7 : i = W.heap.size + 2 := h; omega) (fun h8 => by have h7 : i = W.heap.size + 2 := h; omega)) (fun i hi h => by have h7 : i = W.heap.size + 2 := h; exact (HRW.out i hi).elim (fun hr => by have h8 := HJ.out.rk.lt i hr; omega) (fun h8 => by have h9 := HWA.out; omega))
      unfold AtEnd
      exact ⟨(.slice A4 n c4), (.slice A44 _ c44), s6, A9, c9, by simp only [more, slot_true, slot_false, Nat.reduceEqDiff, ↓reduceIte, z4, z12, z9, z10], fun h => by simp [more, z10] at h, fun _ h => by simp [more, z10] at h, fun _ h => by simp [more, z9] at h, fun _ h => by simp [more, z10] at h, fun _ h => by simp [more] at h, fun _ => ⟨F7, hbk2, (Chg.trans (S := F) (T := F) (HCA.out.mono (fun _ _ h => h.elim)) HCF.out (fun _ _ h => h)).setRow (.inr (by omega)) _, fun i hi => (HF.out i hi).imp id (fun h => Nat.le_trans HCA.out.size h), HBR.out.row _⟩⟩
    · obtain rfl := Option.some.inj ho
      have z11 := hpre ⟨11, .data⟩ (by simp) rfl
      have z13 := hpre ⟨13, .chain⟩ (by simp) rfl
      clear ho hpre hi hcl
      go_wp2_with fail
      unfold AtEnd
      exact ⟨s4, p4, s6, A9, c9, by simp only [more, slot_true, slot_false, Nat.reduceEqDiff, ↓reduceIte, z11, z13], fun h => h0 (by simpa [more] using h), fun a1 a2 => h4 (by simpa [more] using a1) (by simpa [more] using a2), fun a1 a2 => h6 (by simpa [more] using a1) (by simpa [more] using a2), fun a1 a2 => h9 (by simpa [more] using a1) (by simpa [more] using a2), fun a1 a2 => h10 (by simpa [more] using a1) (by simpa [more] using a2), fun h => h13 (by simpa [more] using h)⟩
  · intro D a w hall hI
    obtain ⟨s4, p4, s6, A9, c9, rfl, h0, h4, h6, h9, h10, h13⟩ := hI
    obtain ⟨F7, hbk, hcF, hff, hbr⟩ := h13 (hall 13 (by decide))
    obtain ⟨A4, c4, rfl⟩ := own_slice hbk.rk.sure
    obtain ⟨A44, c44, rfl⟩ := own_slice hbk.rk.loose
    have HBK := Lib.hid hbk
    have HCF := Lib.hid hcF
    have HBR := Lib.hid hbr
    have HFF := Lib.hid hff
    have z12 := hall 12 (by decide)
    have z14 := hall 14 (by decide)
    clear h0 h4 h6 h9 h10 h13 hbk hcF hff hbr hall
    simp only [z12, z14, slot_true]
    go_wp2_with fail
    try simp only [Exit.inBlock, Exit.then]
    refine bodyPost_ret (rd_ret3 rfl _ _ (W.heap.size + 2) 52 _ _ _ _ rfl HBR.out) rfl ⟨g, F7, _, _, K.crash ks, rfl, HBK.out, HCF.out, HFF.out⟩
end Go.Proofs.Ytmkbahhnjobglaa
