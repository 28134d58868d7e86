/-
  A STEP: Read.
-/
import Derived.Test.YtmkbahhnjobglaaSecStep
namespace Go.Proofs.Ytmkbahhnjobglaa
open Go.RowKit
set_option linter.unusedSimpArgs false
set_option linter.unusedVariables false
theorem BK.more1 {B : Nat} {w : World} {g : Nat} {F : Nat → Prop} {s p : Value} {K : Dk} {n m : Nat} (h : BK B w g F s p K n m) : BK B w g F s p K n (m + 1) := ⟨h.di, h.rk, h.apart, h.ok.more (by omega)⟩
def InvS31 (g n nl c1 c2 kn kc : Nat) (A1 A2 ka : Option Addr) (fu xi xl kd : Int) (da : Bool) (xc : UInt8) (sb st ev jv lv u139 u140 u141 u142 u143 : Value) (W w0 : World) (D : Nat → Bool) (a : Act) (w : World) : Prop :=
  a = { tmps := #[.pointer (some ⟨g, 0, none⟩), .agg #[.slice A1 n c1, .slice A2 nl c2, .int .i64 fu, .bool da], .agg #[.int .i64 kd, .int .i64 xi, .int .u8 (xc.toNat : Int), .int .i64 xl, .slice ka kn kc], undef, .pointer (some ⟨W.heap.size, 0, none⟩), .pointer (some ⟨W.heap.size + 1, 0, none⟩), (slot (D 3) (.pointer (some ⟨g, 0, none⟩)) (.pointer none)), .pointer (some ⟨W.heap.size + 1 + 1, 0, none⟩), (slot (D 5) (.bool true) (.bool false)), undef, undef, undef, undef, undef, undef, undef, undef, sb, ev, st, ev, .bool true, jv, .pointer (some ⟨W.heap.size + 1, 0, none⟩), .int .i64 kd, .bool false, .bool false, undef, undef, undef, undef, undef, undef, undef, undef, undef, undef, undef, undef, undef, undef, undef, undef, undef, undef, undef, undef, undef, undef, undef, undef, undef, undef, undef, undef, undef, undef, undef, undef, undef, .bool false, .bool false, undef, undef, undef, undef, undef, undef, undef, undef, undef, undef, undef, .bool false, .bool false, undef, undef, undef, undef, undef, undef, undef, undef, undef, .bool false, .bool false, undef, undef, undef, undef, undef, undef, undef, undef, undef, undef, undef, undef, .bool false, .bool false, undef, undef, undef, undef, undef, undef, undef, undef, undef, undef, undef, undef, .tuple #[sb, ev], .pointer (some ⟨g, 0, none⟩), .pointer (some ⟨W.heap.size + 1, 1, none⟩), .int .i64 xi, .tuple #[sb, ev], sb, ev, .tuple #[st, ev], .agg #[.slice A1 n c1, .slice A2 nl c2, .int .i64 fu, .bool da], .pointer (some ⟨W.heap.size + 1, 1, none⟩), .int .i64 xi, .tuple #[st, ev], st, ev, sb, st, st, .bool true, .bool true, ev, ev, .bool true, .bool true, jv, sb, lv, .bool false, u139, u140, u141, u142, u143, (slot (D 0) (.pointer (some ⟨g, 0, none⟩)) (undef)), (slot (D 1) (.agg #[.slice A1 n c1, .slice A2 nl c2, .int .i64 fu, .bool da]) (undef)), (slot (D 2) (.bool true) (undef))], defers := [] } ∧
    (D 4 = false → Chg NoB w0 w) ∧
    (D 4 = true → Chg (fun b => b = W.heap.size + 2) w0 w ∧ Blk w (W.heap.size + 2) 52 #[.slice A1 n c1, .slice A2 nl c2, .int .i64 fu, .bool da])
set_option maxRecDepth 100000 in
set_option maxHeartbeats 8000000 in
theorem step_read {B : Nat} {W : World} {g : Nat} {F : Nat → Prop} {s p : Value} {K : Dk} {n m : Nat} (hB : B ≤ W.heap.size) (hJ : BK B W g F s p K n m) (hm : m ≤ 100) (x : ActV) (hkd : ¬ x.kind = 1 ∧ ¬ x.kind = 2 ∧ ¬ x.kind = 3 ∧ ¬ x.kind = 4 ∧ ¬ x.kind = 5) :
    Calls Try.prog 24 #[.pointer (some ⟨g, 0, none⟩), rkV s p K, actV x] W (StepPost B W F n m) := by
  obtain ⟨A1, c1, hs⟩ := own_slice hJ.rk.sure
  obtain ⟨nl, hnl⟩ : ∃ nl, nl = K.loose.length := ⟨_, rfl⟩
  obtain ⟨A2, c2, hp⟩ := own_slice hJ.rk.loose
  rw [← hnl] at hp
  subst hs hp
  obtain ⟨kd, xi, xc, xl, ka, kn, kc, ks⟩ := x
  obtain ⟨q1, q2, q3, q4, q5⟩ : ¬ kd = 1 ∧ ¬ kd = 2 ∧ ¬ kd = 3 ∧ ¬ kd = 4 ∧ ¬ kd = 5 := hkd
  have HB := Lib.hid hB
  have HM := Lib.hid hm
  obtain ⟨fu, hfu⟩ : ∃ fu, fu = K.fuse := ⟨_, rfl⟩
  obtain ⟨da, hda⟩ : ∃ da, da = K.dark := ⟨_, rfl⟩
  have HRK := Lib.hid (show rkV (.slice A1 n c1) (.slice A2 nl c2) K = .agg #[.slice A1 n c1, .slice A2 nl c2, .int .i64 fu, .bool da] from by rw [hfu, hda]; rfl)
  rw [HRK.out]
  unfold actV
  simp only
  obtain ⟨wA, hwA⟩ : ∃ wA, wA = ((W.alloc (.cells #[.slice A1 n c1, .slice A2 nl c2, .int .i64 fu, .bool da] 52)).alloc (.cells #[.int .i64 kd, .int .i64 xi, .int .u8 (xc.toNat : Int), .int .i64 xl, .slice ka kn kc] 33)).alloc (.cells #[.slice none 0 0, .slice none 0 0, .int .i64 0, .bool false] 52) := ⟨_, rfl⟩
  have hcA : Chg NoB W wA := by rw [hwA]; exact (((Chg.refl _ _).alloc _).alloc _).alloc _
  have hmA : Blk wA W.heap.size 52 #[.slice A1 n c1, .slice A2 nl c2, .int .i64 fu, .bool da] := by rw [hwA]; exact ((Blk.new W _ _).alloc _).alloc _
  have haA : Blk wA (W.heap.size + 1) 33 #[.int .i64 kd, .int .i64 xi, .int .u8 (xc.toNat : Int), .int .i64 xl, .slice ka kn kc] := by
    rw [hwA]
    have h := Blk.new (W.alloc (.cells #[.slice A1 n c1, .slice A2 nl c2, .int .i64 fu, .bool da] 52)) 33 #[.int .i64 kd, .int .i64 xi, .int .u8 (xc.toNat : Int), .int .i64 xl, .slice ka kn kc]
    exact Blk.alloc (by simpa using h) _
  have hrA : Blk wA (W.heap.size + 2) 52 #[.slice none 0 0, .slice none 0 0, .int .i64 0, .bool false] := by
    rw [hwA]
    have h := Blk.new ((W.alloc (.cells #[.slice A1 n c1, .slice A2 nl c2, .int .i64 fu, .bool da] 52)).alloc (.cells #[.int .i64 kd, .int .i64 xi, .int .u8 (xc.toNat : Int), .int .i64 xl, .slice ka kn kc] 33)) 52 #[.slice none 0 0, .slice none 0 0, .int .i64 0, .bool false]
    simpa using h
  have hsA : wA.heap.size = W.heap.size + 3 := by rw [hwA]; simp
  have HCA := Lib.hid hcA
  have HMA := Lib.hid hmA
  have HAA := Lib.hid haA
  have HRA := Lib.hid hrA
  have HSA := Lib.hid hsA
  have HJ := Lib.hid hJ
  have HNL := Lib.hid hnl
  clear hB hm hfu hda hcA hmA haA hrA hsA hJ hnl
  go_enter Try.func24, Try.ntmps24
  go_upto_region 24 with (fail)
  rw [← hwA]
  clear hwA
  have HLO := Lib.hid (show K.loose.length ≤ 100 from Nat.le_trans HJ.out.ok.loose HM.out)
  have k1 := HAA.out.cell 1
  clear q1 q2 q3 q4 q5
  go_wp2_with fail
  refine ((HJ.out.no HCA.out).di.disk.read xi).mono ?_
  clear k1
  rintro e w5 (⟨hne, rfl, rfl⟩ | ⟨heq, ⟨gb, rfl, hgb, hb5⟩, hc5⟩)
  · have HNE := Lib.hid hne
    have k1 := HAA.out.cell 1
    obtain ⟨e0, he0⟩ : ∃ e0, e0 = readE K xi := ⟨_, rfl⟩
    have HE0 := Lib.hid he0
    rw [← he0]
    clear hne he0
    go_wp2_with (first
      | (refine wpList_load_row rfl 52 _ rfl W.heap.size rfl 52 _ (0, 0) _ HMA.out Try.underlying52 rfl rd_size ?_)
      | fail)
    have hcall := rread_K K n w5 (HJ.out.rk.no HCA.out) (Nat.le_trans HLO.out (by omega)) HJ.out.ok.now xi
    rw [HRK.out, ← HE0.out, if_neg (by rw [HE0.out]; exact HNE.out)] at hcall
    refine hcall.mono ?_
    clear hcall k1
    rintro e w6 ⟨rfl, hc6⟩
    have hst := (RB.none_ (w := w6) (B := w6.heap.size) (A := none)).toStr (n := 0) rfl 0 Try.underlying30 Try.underlying5 Try.underlying9
    rw [show strV [] = .string ⟨#[]⟩ from rfl]
    have HC6 := Lib.hid (HCA.out.trans hc6 (fun _ _ h => h))
    have HBK6 := Lib.hid ((HJ.out.no HC6.out).more1)
    have HMR := Lib.hid (HMA.out.chg hc6 (fun h => h))
    have HRR := Lib.hid (HRA.out.chg hc6 (fun h => h))
    clear hc6
    go_wp2_with fail
    clear hst
    go_loopw [22] (fun i wr => i = .int .i64 0 ∧ wr = w6) (fun i _ => 0)
    case atStart => exact ⟨rfl, rfl⟩
    case round =>
      obtain ⟨rfl, rfl⟩ := hrel
      go_wp2_with fail
      refine wp_region_cl rfl (by kernel_rfl) (InvS31 g n nl c1 c2 kn kc A1 A2 ka fu xi xl kd da xc (.slice none 0 0) (.string ⟨#[]⟩) (.int .i64 e0) (.int .i64 0) (.int .i64 0) u139 u140 u141 u142 u143 W wr) ?_ ?_ ?_
      · exact ⟨rfl, fun _ => (Chg.refl _ _).drew, (fun h => by cases h)⟩
      ·
        intro D a w i o ho hD hcl hpre hI
        obtain ⟨rfl, h0, h4⟩ := hI
        have hi : i < 6 := by have := (List.getElem?_eq_some_iff.1 ho).1; simpa using this
        rcases (by omega : i = 0 ∨ i = 1 ∨ i = 2 ∨ i = 3 ∨ i = 4 ∨ i = 5) with rfl | rfl | rfl | rfl | rfl | rfl
        · obtain rfl := Option.some.inj ho
          clear ho hpre hi hcl
          go_wp2_with fail
          unfold AtEnd
          exact ⟨rfl, fun h => h0 (by simpa [more] using h), fun h => h4 (by simpa [more] using h)⟩
        · obtain rfl := Option.some.inj ho
          have d4 : D 4 = false := (hcl.not_ 4 _ rfl 0 _ rfl rfl hD)
          clear ho hpre hi hcl
          have hb := HMR.out.chg (h0 d4) (fun h => h)
          go_wp2_with (first
            | (refine wpList_load_row rfl 52 _ rfl W.heap.size rfl 52 _ (0, 0) _ hb Try.underlying52 rfl rd_size ?_)
            | fail)
          unfold AtEnd
          exact ⟨by simp only [more, slot_true, slot_false, Nat.reduceEqDiff, ↓reduceIte, d4], fun h => h0 (by simpa [more] using h), fun h => h4 (by simpa [more] using h)⟩
        · obtain rfl := Option.some.inj ho
          clear ho hpre hi hcl
          go_wp2_with fail
          unfold AtEnd
          exact ⟨rfl, fun h => h0 (by simpa [more] using h), fun h => h4 (by simpa [more] using h)⟩
        · obtain rfl := Option.some.inj ho
          have z0 := hpre ⟨0, .data⟩ (by simp) rfl
          clear ho hpre hi hcl
          go_wp2_with fail
          unfold AtEnd
          exact ⟨by simp only [more, slot_true, slot_false, Nat.reduceEqDiff, ↓reduceIte, z0], fun h => h0 (by simpa [more] using h), fun h => h4 (by simpa [more] using h)⟩
        · obtain rfl := Option.some.inj ho
          have z1 := hpre ⟨1, .data⟩ (by simp) rfl
          have z3 := hpre ⟨3, .chain⟩ (by simp) rfl
          clear ho hpre hi hcl
          have hcw := h0 hD
          have HBR := Lib.hid (HRR.out.chg hcw (fun h => h))
          have HCW := Lib.hid hcw
          clear h0 h4 hcw
          simp only [z1, slot_true]
          go_wp2_with (first
            | (refine wpList_store_blk rfl 52 _ _ rfl (W.heap.size + 2) _ rfl rfl 52 _ HBR.out rfl rd_size (by simp [Value.oneCell']) ?_)
            | fail)
          unfold AtEnd
          exact ⟨by simp only [more, slot_true, slot_false, Nat.reduceEqDiff, ↓reduceIte, z1, z3], fun h => by simp [more] at h, fun _ => ⟨(Chg.mono (S := NoB) (T := fun b => b = W.heap.size + 2) HCW.out (fun _ _ h => h.elim)).setRow (g := W.heap.size + 2) (.inl rfl) _, HBR.out.row _⟩⟩
        · obtain rfl := Option.some.inj ho
          have z2 := hpre ⟨2, .data⟩ (by simp) rfl
          have z4 := hpre ⟨4, .chain⟩ (by simp) rfl
          clear ho hpre hi hcl
          go_wp2_with fail
          unfold AtEnd
          exact ⟨by simp only [more, slot_true, slot_false, Nat.reduceEqDiff, ↓reduceIte, z2, z4], fun h => h0 (by simpa [more] using h), fun h => h4 (by simpa [more] using h)⟩
      · intro D a w hall hI
        obtain ⟨rfl, h0, h4⟩ := hI
        obtain ⟨hcF, hbr⟩ := h4 (hall 4 (by decide))
        have HCF := Lib.hid hcF
        have HBR := Lib.hid hbr
        have z3 := hall 3 (by decide)
        have z5 := hall 5 (by decide)
        clear h0 h4 hcF hbr hall
        simp only [z3, z5, slot_true]
        go_wp2_with fail
        try simp only [Exit.inBlock, Exit.then]
        refine bodyPost_ret (rd_ret3 rfl _ _ (W.heap.size + 2) 52 _ _ _ _ rfl HBR.out) rfl ⟨g, F, _, _, K, ?_, (HBK6.out.chg HCF.out (fun i hi h => ?_) (fun i hi h => ?_)), Chg.trans (S := F) (T := fun b => b = W.heap.size + 2) (HC6.out.mono (fun _ _ h => h.elim)) HCF.out (fun i hi h => by have h1 : i = W.heap.size + 2 := h; omega), fun i hi => .inl hi⟩
        · rw [HRK.out]; rfl
        · have h1 : i = W.heap.size + 2 := h
          have h2 := (HJ.out.di.rng i hi).2
          omega
        · have h1 : i = W.heap.size + 2 := h
          have h2 := HJ.out.rk.lt i hi
          omega
  · have HEQ := Lib.hid heq
    have hnl : (K.now xi).length = 512 := by
      rw [← HJ.out.ok.now]; exact settle_len (f := K.sure) _ _ HJ.out.ok.s5 HJ.out.ok.l5 xi
    have HNL5 := Lib.hid hnl
    have k1 := (HAA.out.chg hc5 (fun h => h)).cell 1
    have HM5 := Lib.hid (HMA.out.chg hc5 (fun h => h))
    have HR5 := Lib.hid (HRA.out.chg hc5 (fun h => h))
    have HC5 := Lib.hid (HCA.out.trans hc5 (fun _ _ h => h))
    have HB5 := Lib.hid (show Blk w5 gb 65 (((K.now xi).map bv).toArray) from hb5)
    have HGB := Lib.hid (show W.heap.size + 3 ≤ gb from by have := HSA.out; omega)
    obtain ⟨arr, harr⟩ : ∃ arr, arr = (K.now xi).toArray := ⟨_, rfl⟩
    have HARR := Lib.hid harr
    clear heq hnl hgb hb5 hc5 harr
    go_wp2_with (first
      | (refine wpList_load_row rfl 52 _ rfl W.heap.size rfl 52 _ (0, 0) _ HM5.out Try.underlying52 rfl rd_size ?_)
      | fail)
    have hcall := rread_K K n w5 (HJ.out.rk.no HC5.out) (Nat.le_trans HLO.out (by omega)) HJ.out.ok.now xi
    rw [HRK.out, if_pos HEQ.out, HEQ.out, show strV (K.now xi) = .string ⟨arr⟩ from by rw [HARR.out]; rfl] at hcall
    refine hcall.mono ?_
    clear hcall k1
    rintro e w6 ⟨rfl, hc6⟩
    have hb6 := HB5.out.chg hc6 (fun h => h)
    have hst := (blk_RB hb6).toStr (n := 512) HNL5.out 512 Try.underlying30 Try.underlying5 Try.underlying9
    rw [← HARR.out] at hst
    have HB6 := Lib.hid hb6
    have HC6 := Lib.hid (HC5.out.trans hc6 (fun _ _ h => h))
    have HM6 := Lib.hid (HM5.out.chg hc6 (fun h => h))
    have HR6 := Lib.hid (HR5.out.chg hc6 (fun h => h))
    have HBS := Lib.hid (show (((K.now xi).map bv).toArray).size = 512 from by simpa using HNL5.out)
    have HBK6 := Lib.hid ((HJ.out.no HC6.out).more1)
    clear hc6 hb6
    go_wp2_with fail
    clear hst
    go_loopw [22] (fun i wr => ∃ j : Nat, j ≤ 512 ∧ i = .int .i64 j ∧ (∃ cs, Blk wr gb 65 cs ∧ cs.size = 512) ∧ Chg (fun b => b = gb) w6 wr) (fun i _ => 512 - (intOf i).toNat)
    case atStart => exact ⟨0, Nat.zero_le _, rfl, ⟨_, HB6.out, HBS.out⟩, Chg.refl _ _⟩
    case round =>
      obtain ⟨j, hj, rfl, ⟨cs, hb, hsz⟩, hch⟩ := hrel
      have HCH := Lib.hid hch
      by_cases hlt : j < 512
      · have k0 := hb.cell j
        rw [Array.getElem?_eq_getElem (by omega)] at k0
        have kf := hb.frozen j
        have HBB := Lib.hid hb
        clear hb hch
        go_wp2_with fail
        go_roundw
        case rel => exact ⟨j + 1, by omega, by go_num, ⟨_, HBB.out.set_ j _, by simpa using hsz⟩, HCH.out.setCell (.inl rfl) _⟩
        case measure => simp [intOf]; omega
      · have HJ5 := Lib.hid (show j = 512 from by omega)
        have hge : ¬ ((j : Int) < 512) := by omega
        clear hb hsz hch hlt hj
        have HMR := Lib.hid (HM6.out.chg HCH.out (fun h => by have h1 := HGB.out; omega))
        have HRR := Lib.hid (HR6.out.chg HCH.out (fun h => by have h1 := HGB.out; omega))
        go_wp2_with fail
        clear hge
        refine wp_region_cl rfl (by kernel_rfl) (InvS31 g n nl c1 c2 kn kc A1 A2 ka fu xi xl kd da xc (.slice (some ⟨gb, 0, none⟩) 512 512) (.string ⟨arr⟩) (.int .i64 0) (.int .i64 (j : Int)) (.int .i64 512) u139 u140 u141 u142 u143 W wr) ?_ ?_ ?_
        · exact ⟨rfl, fun _ => (Chg.refl _ _).drew, (fun h => by cases h)⟩
        ·
          intro D a w i o ho hD hcl hpre hI
          obtain ⟨rfl, h0, h4⟩ := hI
          have hi : i < 6 := by have := (List.getElem?_eq_some_iff.1 ho).1; simpa using this
          rcases (by omega : i = 0 ∨ i = 1 ∨ i = 2 ∨ i = 3 ∨ i = 4 ∨ i = 5) with rfl | rfl | rfl | rfl | rfl | rfl
          · obtain rfl := Option.some.inj ho
            clear ho hpre hi hcl
            go_wp2_with fail
            unfold AtEnd
            exact ⟨rfl, fun h => h0 (by simpa [more] using h), fun h => h4 (by simpa [more] using h)⟩
          · obtain rfl := Option.some.inj ho
            have d4 : D 4 = false := (hcl.not_ 4 _ rfl 0 _ rfl rfl hD)
            clear ho hpre hi hcl
            have hb := HMR.out.chg (h0 d4) (fun h => h)
            go_wp2_with (first
              | (refine wpList_load_row rfl 52 _ rfl W.heap.size rfl 52 _ (0, 0) _ hb Try.underlying52 rfl rd_size ?_)
              | fail)
            unfold AtEnd
            exact ⟨by simp only [more, slot_true, slot_false, Nat.reduceEqDiff, ↓reduceIte, d4], fun h => h0 (by simpa [more] using h), fun h => h4 (by simpa [more] using h)⟩
          · obtain rfl := Option.some.inj ho
            clear ho hpre hi hcl
            go_wp2_with fail
            unfold AtEnd
            exact ⟨rfl, fun h => h0 (by simpa [more] using h), fun h => h4 (by simpa [more] using h)⟩
          · obtain rfl := Option.some.inj ho
            have z0 := hpre ⟨0, .data⟩ (by simp) rfl
            clear ho hpre hi hcl
            go_wp2_with fail
            unfold AtEnd
            exact ⟨by simp only [more, slot_true, slot_false, Nat.reduceEqDiff, ↓reduceIte, z0], fun h => h0 (by simpa [more] using h), fun h => h4 (by simpa [more] using h)⟩
          · obtain rfl := Option.some.inj ho
            have z1 := hpre ⟨1, .data⟩ (by simp) rfl
            have z3 := hpre ⟨3, .chain⟩ (by simp) rfl
            clear ho hpre hi hcl
            have hcw := h0 hD
            have HBR := Lib.hid (HRR.out.chg hcw (fun h => h))
            have HCW := Lib.hid hcw
            clear h0 h4 hcw
            simp only [z1, slot_true]
            go_wp2_with (first
              | (refine wpList_store_blk rfl 52 _ _ rfl (W.heap.size + 2) _ rfl rfl 52 _ HBR.out rfl rd_size (by simp [Value.oneCell']) ?_)
              | fail)
            unfold AtEnd
            exact ⟨by simp only [more, slot_true, slot_false, Nat.reduceEqDiff, ↓reduceIte, z1, z3], fun h => by simp [more] at h, fun _ => ⟨(Chg.mono (S := NoB) (T := fun b => b = W.heap.size + 2) HCW.out (fun _ _ h => h.elim)).setRow (g := W.heap.size + 2) (.inl rfl) _, HBR.out.row _⟩⟩
          · obtain rfl := Option.some.inj ho
            have z2 := hpre ⟨2, .data⟩ (by simp) rfl
            have z4 := hpre ⟨4, .chain⟩ (by simp) rfl
            clear ho hpre hi hcl
            go_wp2_with fail
            unfold AtEnd
            exact ⟨by simp only [more, slot_true, slot_false, Nat.reduceEqDiff, ↓reduceIte, z2, z4], fun h => h0 (by simpa [more] using h), fun h => h4 (by simpa [more] using h)⟩
        · intro D a w hall hI
          obtain ⟨rfl, h0, h4⟩ := hI
          obtain ⟨hcF, hbr⟩ := h4 (hall 4 (by decide))
          have HCF := Lib.hid hcF
          have HBR := Lib.hid hbr
          have z3 := hall 3 (by decide)
          have z5 := hall 5 (by decide)
          clear h0 h4 hcF hbr hall
          simp only [z3, z5, slot_true]
          go_wp2_with fail
          try simp only [Exit.inBlock, Exit.then]
          refine bodyPost_ret (rd_ret3 rfl _ _ (W.heap.size + 2) 52 _ _ _ _ rfl HBR.out) rfl ⟨g, F, _, _, K, ?_, (HBK6.out.chg HCH.out (fun i hi h => ?_) (fun i hi h => ?_)).chg HCF.out (fun i hi h => ?_) (fun i hi h => ?_), Chg.trans (S := F) (T := fun b => b = W.heap.size + 2) (Chg.trans (S := F) (T := fun b => b = gb) (HC6.out.mono (fun _ _ h => h.elim)) HCH.out (fun i hi h => by have h1 : i = gb := h; have := HGB.out; omega)) HCF.out (fun i hi h => by have h1 : i = W.heap.size + 2 := h; omega), fun i hi => .inl hi⟩
          · rw [HRK.out]; rfl
          all_goals have h3 := HGB.out
          · have h1 : i = gb := h
            have h2 := (HJ.out.di.rng i hi).2
            omega
          · have h1 : i = gb := h
            have h2 := HJ.out.rk.lt i hi
            omega
          · have h1 : i = W.heap.size + 2 := h
            have h2 := (HJ.out.di.rng i hi).2
            omega
          · have h1 : i = W.heap.size + 2 := h
            have h2 := HJ.out.rk.lt i hi
            omega
end Go.Proofs.Ytmkbahhnjobglaa
