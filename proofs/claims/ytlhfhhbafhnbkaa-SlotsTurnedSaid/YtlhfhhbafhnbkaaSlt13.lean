/-
  SLOTS: the walk of SlotsTurned.
-/
import Derived.Test.YtlhfhhbafhnbkaaSltT
namespace Go.Proofs.Ytlhfhhbafhnbkaa
open Go.RowKit FieldM CrcM
set_option linter.unusedSimpArgs false
set_option linter.unusedVariables false
theorem sbits_xor_u8 (x y : UInt8) : bits .xor .u8 (x.toNat : Int) (y.toNat : Int) = ((x ^^^ y).toNat : Int) := by
  have e : ∀ z : UInt8, BitVec.ofInt 8 (z.toNat : Int) = z.toBitVec := fun z => by
    apply BitVec.eq_of_toNat_eq; rw [BitVec.toNat_ofInt]; have := z.toNat_lt; simp; omega
  show IntKind.u8.wrap (((BitVec.ofInt 8 (x.toNat : Int)) ^^^ (BitVec.ofInt 8 (y.toNat : Int))).toNat : Int) = _
  rw [e, e, IntKind.wrap_u8]
  have : (x ^^^ y).toNat = (x.toBitVec ^^^ y.toBitVec).toNat := rfl
  have h := (x.toBitVec ^^^ y.toBitVec).isLt
  rw [this]; omega
theorem xor_ne {x y : UInt8} (h : y ≠ 0) : x ^^^ y ≠ x := by
  intro e
  apply h
  have h1 : x ^^^ (x ^^^ y) = x ^^^ x := by rw [e]
  rw [← UInt8.xor_assoc, UInt8.xor_self, UInt8.zero_xor] at h1
  exact h1
set_option maxRecDepth 100000 in
set_option maxHeartbeats 8000000 in
theorem slotsTurned_walk (a : Option Addr) (n c : Nat) (z : List Int) (p0 : Int) (y0 : Int) (W : World) (hrw : IsRow .u8 W a n c z) (hpw : (Lit.int .i64 p0).wf = true) (hyw : (Lit.int .u8 y0).wf = true) :
    Calls Try.prog 6 #[.slice a n c, .int .i64 p0, .int .u8 y0] W fun e W' => e = .returned (.bool true) ∧ Below W.heap.size W W' := by
  obtain ⟨l, hln, hlm, hrb, hlc⟩ := hrw.rb
  have HRB := Lib.hid hrb
  have HLN := Lib.hid hln
  have HLC := Lib.hid (show n ≤ c from by omega)
  have hnm : (n : Int) ≤ 9223372036854775807 := by unfold maxLen at hlm; omega
  obtain ⟨bt, hbt⟩ : ∃ bt : UInt8, y0 = (bt.toNat : Int) := ⟨_, (byte_of y0 hyw).symm⟩
  have hp64 : p0 ≤ 9223372036854775807 := by simp [Lit.wf, IntKind.min, IntKind.max, IntKind.bits, IntKind.signed] at hpw; omega
  clear hrw hpw hyw hlm hrb hlc hln
  by_cases hbig : 2048 < n
  · have hb2 : (2048 : Int) < (n : Int) := by omega
    clear hbig hbt
    go_enter Try.func6, Try.ntmps6
    go_wp2_with fail
    refine (slives_any W).mono ?_
    rintro e w1 ⟨rfl, hc1⟩
    go_wp2_with fail
    go_ret
    exact ⟨rfl, hc1.no⟩
  have hb2 : (n : Int) ≤ 2048 := by omega
  have HNB := Lib.hid (show n ≤ 2048 from by omega)
  clear hbig
  by_cases hy0 : y0 = 0
  · subst hy0
    clear hbt
    go_enter Try.func6, Try.ntmps6
    go_wp2_with fail
    refine (slives_any W).mono ?_
    rintro e w1 ⟨rfl, hc1⟩
    go_wp2_with fail
    go_ret
    exact ⟨rfl, hc1.no⟩
  have HBT := Lib.hid (show y0 = (bt.toNat : Int) ∧ bt ≠ 0 from ⟨hbt, fun h => by subst h; simp at hbt; exact hy0 hbt⟩)
  have hyb : (y0 == 0) = false := by simpa using hy0
  clear hbt
  by_cases hp0 : p0 < 0
  · go_enter Try.func6, Try.ntmps6
    go_wp2_with fail
    refine (slives_any W).mono ?_
    rintro e w1 ⟨rfl, hc1⟩
    go_wp2_with fail
    go_ret
    exact ⟨rfl, hc1.no⟩
  have hp1 : 0 ≤ p0 := by omega
  clear hp0
  have HP := Lib.hid (And.intro hp1 hp64)
  have hs9 := Sl9.new_
  obtain ⟨K0, hK0⟩ : ∃ K0, K0 = (formatK (Dk.new 9)).1 := ⟨_, rfl⟩
  have hf9 : formatK (Dk.new 9) = (K0, 0) := Prod.ext hK0.symm hs9.1
  rw [← hK0] at hs9
  have HF9 := Lib.hid hf9
  have HS9 := Lib.hid hs9.2
  clear hf9 hs9 hK0
  go_enter Try.func6, Try.ntmps6
  go_wp2_with fail
  refine (DI.new_ 9 W (by decide) (by decide)).mono ?_
  rintro e w1 ⟨g, F1, rfl, hD1, hc1⟩
  have HD1 := Lib.hid hD1
  have HC1 := Lib.hid hc1
  clear hD1 hc1
  go_wp2_with fail
  refine (format_any HD1.out HC1.out.size (by decide)).mono ?_
  rw [HF9.out]
  rintro e w2 ⟨rfl, F2, hD2, hc2, hf2⟩
  have HD2 := Lib.hid hD2
  have HC2 := Lib.hid (HD1.out.base HC1.out hc2)
  clear hD2 hc2 hf2 HD1 HC1
  go_wp2_with fail
  refine (commit_any HD2.out HC2.out.size (by rw [HS9.out.loose]; decide) (by rw [HS9.out.nf.n]; decide) a n c l HLN.out.symm (by omega) HLC.out (RBchg HRB.out HC2.out)).mono ?_
  have hcm := HS9.out.commit (b' := l) HD2.out.disk.now_len (by decide) (by rw [← HLN.out]; exact HNB.out)
  obtain ⟨K2, hK2⟩ : ∃ K2, K2 = (commitK K0 l).1 := ⟨_, rfl⟩
  rw [hcm.1, ← hK2]
  have HS2 := Lib.hid (show Sl9 K2 1 1 l from by rw [hK2]; exact hcm.2)
  rintro e w3 ⟨rfl, F3, hD3, hc3, hf3⟩
  have HD3 := Lib.hid hD3
  have HC3 := Lib.hid (HD2.out.base HC2.out hc3)
  clear hcm hK2 hD3 hc3 hf3 HD2 HC2
  go_wp2_with fail
  have hr0 : ∀ i : Int, 0 ≤ i → i < 9 → readE K2 i = 0 := fun i h0 h1 => by
    unfold readE
    rw [if_neg (by rw [HS2.out.nf.n]; omega), if_neg (by rw [HS2.out.nf.dark]; decide)]
  have HR0 := Lib.hid hr0
  clear hr0
  refine (HD3.out.disk.read 0).mono ?_
  rintro e w4 (⟨hne, _⟩ | ⟨_, ⟨b5, rfl, hgb, hb5⟩, hc4⟩)
  · exact absurd (HR0.out 0 (by omega) (by omega)) hne
  obtain ⟨h0, hh0⟩ : ∃ h0, h0 = K2.now 0 := ⟨_, rfl⟩
  rw [← hh0] at hb5
  have HH0 := Lib.hid (show h0 = hdr 1 1 l.length (crcN l) from by rw [hh0]; exact HS2.out.hold.hd)
  have HHL := Lib.hid (show h0.length = 512 from by rw [HH0.out]; exact hdr_len _ _ _ _)
  have HB5 := Lib.hid (show Blk w4 b5 84 ((h0.map bv).toArray) from hb5)
  have HD4 := Lib.hid (HD3.out.no hc4)
  have HC4 := Lib.hid (HC3.out.trans hc4 (fun _ _ h => h))
  have HG5 := Lib.hid (show w3.heap.size ≤ b5 from hgb)
  have HF3 := Lib.hid (fun i (hi : F3 i) => (HD3.out.rng i hi).2)
  have HS3 := Lib.hid HC3.out.size
  clear hgb hb5 hc4 hh0 HD3 HC3
  obtain ⟨p, hp⟩ : ∃ p : Nat, Int.tmod p0 512 = (p : Int) := ⟨(Int.tmod p0 512).toNat, by have := Int.tmod_nonneg 512 HP.out.1; omega⟩
  have hpl : p < 512 := by
    have h1 : Int.tmod p0 512 < 512 := Int.tmod_lt_of_pos p0 (by decide)
    omega
  have k0 := HB5.out.cell p
  rw [blk_at (l := h0) (i := p) (by rw [HHL.out]; exact hpl)] at k0
  obtain ⟨x5, hx5⟩ : ∃ x5, h0[p]? = some x5 := ⟨_, List.getElem?_eq_getElem (by rw [HHL.out]; exact hpl)⟩
  rw [(List.getElem?_eq_some_iff.1 hx5).2] at k0
  obtain ⟨y5, hy5⟩ : ∃ y5, y5 = x5 ^^^ bt := ⟨_, rfl⟩
  have hxr : bits .xor .u8 (x5.toNat : Int) y0 = (y5.toNat : Int) := by rw [HBT.out.1, hy5]; exact sbits_xor_u8 _ _
  have HY5 := Lib.hid (show y5 ≠ x5 from by rw [hy5]; exact xor_ne HBT.out.2)
  clear hy5
  have hfz := HB5.out.frozen p
  have HPL := Lib.hid hpl
  have HX5 := Lib.hid hx5
  have hplI : (p : Int) < 512 := by omega
  clear hx5 hpl
  go_upto_region 10 with fail
  have hb6 := HB5.out.set_ p (.int .u8 (y5.toNat : Int))
  have hc6 : Chg (fun b => b = b5) w4 (w4.setCell ⟨b5, p, none⟩ (.int .u8 (y5.toNat : Int))) := (Chg.refl (fun b => b = b5) w4).setCell (p := ⟨b5, p, none⟩) (.inl rfl) _
  generalize hw6 : w4.setCell ⟨b5, p, none⟩ (.int .u8 (y5.toNat : Int)) = w6 at hb6 hc6 ⊢
  obtain ⟨h6, hh6⟩ : ∃ h6, h6 = h0.set p y5 := ⟨_, rfl⟩
  have HB6 := Lib.hid (show Blk w6 b5 84 ((h6.map bv).toArray) from by
    have e : ((h0.map bv).toArray).setIfInBounds p (.int .u8 (y5.toNat : Int)) = (h6.map bv).toArray := by
      rw [hh6, List.map_set]
      simp [bv]
    rw [← e]; exact hb6)
  have HH6 := Lib.hid (show h6.length = 512 ∧ hdOk h6 = false from ⟨by rw [hh6, List.length_set]; exact HHL.out, by
    rw [hh6]
    have h1 := HX5.out
    rw [HH0.out] at h1 ⊢
    exact hd_turn HPL.out (by rw [(List.getElem?_eq_some_iff.1 h1).2]; exact HY5.out)⟩)
  have HD6 := Lib.hid (HD4.out.chg hc6 (fun i hi h => by have h1 : i = b5 := h; have h2 := HF3.out i hi; have h3 := HG5.out; omega))
  have HC6 := Lib.hid (HC4.out.trans hc6 (fun i hi h => by have h1 : i = b5 := h; have h3 := HG5.out; have h4 := HS3.out; omega))
  clear hw6 hb6 hc6 hh6 k0 hfz hxr hplI
  go_wp2_with fail
  refine (HD6.out.copy_ (by rw [HS2.out.loose]; decide)).mono ?_
  rintro e w7 ⟨cg, F7, rfl, hD7, hc7⟩
  have HD7 := Lib.hid hD7
  have HB7 := Lib.hid (blk_RB (HB6.out.chg hc7 (fun h => h)))
  have HDD7 := Lib.hid (HD6.out.no hc7)
  have HC7 := Lib.hid (HC6.out.trans hc7 (fun _ _ h => h))
  have HS67 := Lib.hid hc7.size
  clear hD7 hc7
  go_wp2_with fail
  refine (HD7.out.write_ HS67.out 0 512 HH6.out.1 HB7.out (fun ad e => by cases e; rfl) (by rw [HS2.out.loose]; decide)).mono ?_
  have hw0 := HS2.out.nf.write (i := 0) (l := h6) (by decide) (by decide) HH6.out.1
  rw [hw0.1]
  obtain ⟨K3, hK3⟩ : ∃ K3, K3 = K2.write 0 h6 := ⟨_, rfl⟩
  rw [← hK3] at hw0 ⊢
  have HE3 := Lib.hid (show ldE K3 = 15 from hd_turn_ld (by rw [hw0.2.1.n]; decide) hw0.2.1.dark (by rw [hw0.2.2.1]; unfold upd; rw [if_pos rfl]; exact HH6.out.2))
  rintro e w8 ⟨rfl, F8, hD8, hc8, hf8⟩
  have HD8 := Lib.hid hD8
  have h36 : w3.heap.size ≤ w6.heap.size := by have h1 := HB6.out.lt; have h2 := HG5.out; omega
  have HDD8 := Lib.hid (HDD7.out.chg hc8 (fun i hi hf => by have h1 := HF3.out i hi; have h2 := (HD7.out.rng i hf).1; omega))
  have HC8 := Lib.hid (HC7.out.trans hc8 (fun i hi hf => by have h1 := (HD7.out.rng i hf).1; have h2 := HC6.out.size; omega))
  clear hw0 hK3 hD8 hc8 hf8 h36
  go_wp2_with fail
  refine (sload_any HD8.out).mono ?_
  rintro e w9 ⟨v9, rfl, _, hv9, hc9⟩
  obtain rfl : v9 = .slice none 0 0 := hv9 (by rw [HE3.out]; decide)
  rw [HE3.out, show ldH K3 0 = 0 from if_neg (by rw [HE3.out]; decide)]
  have HDD9 := Lib.hid (HDD8.out.no hc9)
  have HC9 := Lib.hid (HC8.out.trans hc9 (fun _ _ h => h))
  clear hv9 hc9
  by_cases hn0 : n = 0
  · subst hn0
    go_wp2_with fail
    refine (slives_any w9).mono ?_
    rintro e w10 ⟨rfl, hc10⟩
    go_wp2_with fail
    go_ret
    exact ⟨rfl, (HC9.out.trans hc10 (fun _ _ h => h)).no⟩
  have hn1 : (0 : Int) < (n : Int) := by omega
  obtain ⟨k, hk⟩ : ∃ k : Nat, Int.tmod p0 (n : Int) = (k : Int) := ⟨(Int.tmod p0 (n : Int)).toNat, by have := Int.tmod_nonneg (n : Int) HP.out.1; omega⟩
  have hkn : (k : Int) < (n : Int) := by rw [← hk]; exact Int.tmod_lt_of_pos p0 hn1
  obtain ⟨q, hq⟩ : ∃ q : Nat, q = k / 512 := ⟨_, rfl⟩
  obtain ⟨m, hm⟩ : ∃ m : Nat, m = k % 512 := ⟨_, rfl⟩
  have hkq : Int.tdiv (k : Int) 512 = (q : Int) := by rw [Int.tdiv_eq_ediv_of_nonneg (by omega)]; omega
  have hkm : Int.tmod (k : Int) 512 = (m : Int) := by rw [Int.tmod_eq_emod_of_nonneg (by omega)]; omega
  have HQM := Lib.hid (And.intro hq hm)
  have hqb : (q : Int) ≤ 3 := by have := HNB.out; omega
  have hmb : (m : Int) < 512 := by omega
  have HMB := Lib.hid (show m < 512 ∧ q ≤ 3 from by omega)
  have HKN := Lib.hid (show k < n from by omega)
  have hn2 : ((n : Int) == 0) = false := by simp; omega
  clear hq hm
  go_wp2_with fail
  refine (HDD9.out.disk.read (5 + (q : Int))).mono ?_
  rintro e w10 (⟨hne, _⟩ | ⟨_, ⟨b6, rfl, hgb6, hb6⟩, hc10⟩)
  · exact absurd (HR0.out (5 + (q : Int)) (by omega) (by omega)) hne
  obtain ⟨s0, hs0⟩ : ∃ s0, s0 = K2.now (5 + (q : Int)) := ⟨_, rfl⟩
  rw [← hs0] at hb6
  have HS0 := Lib.hid hs0
  have HSL := Lib.hid (show s0.length = 512 from by rw [hs0]; exact HDD9.out.disk.now_len _)
  have HBS := Lib.hid (show Blk w10 b6 84 ((s0.map bv).toArray) from hb6)
  have HD10 := Lib.hid (HDD9.out.no hc10)
  have HC10 := Lib.hid (HC9.out.trans hc10 (fun _ _ h => h))
  have HG6 := Lib.hid (show w9.heap.size ≤ b6 from hgb6)
  have HF9' := Lib.hid (fun i (hi : F3 i) => (HDD9.out.rng i hi).2)
  have HS9' := Lib.hid HC9.out.size
  clear hgb6 hb6 hc10 hs0
  have k1 := HBS.out.cell m
  rw [blk_at (l := s0) (i := m) (by rw [HSL.out]; exact HMB.out.1)] at k1
  obtain ⟨x7, hx7⟩ : ∃ x7, s0[m]? = some x7 := ⟨_, List.getElem?_eq_getElem (by rw [HSL.out]; exact HMB.out.1)⟩
  rw [(List.getElem?_eq_some_iff.1 hx7).2] at k1
  obtain ⟨y7, hy7⟩ : ∃ y7, y7 = x7 ^^^ bt := ⟨_, rfl⟩
  have hxr7 : bits .xor .u8 (x7.toNat : Int) y0 = (y7.toNat : Int) := by rw [HBT.out.1, hy7]; exact sbits_xor_u8 _ _
  have HY7 := Lib.hid (show y7 ≠ x7 from by rw [hy7]; exact xor_ne HBT.out.2)
  have hfz7 := HBS.out.frozen m
  have HX7 := Lib.hid hx7
  clear hx7 hy7
  go_upto_region 21 with fail
  have hb11 := HBS.out.set_ m (.int .u8 (y7.toNat : Int))
  have hc11 : Chg (fun b => b = b6) w10 (w10.setCell ⟨b6, m, none⟩ (.int .u8 (y7.toNat : Int))) := (Chg.refl (fun b => b = b6) w10).setCell (p := ⟨b6, m, none⟩) (.inl rfl) _
  generalize hw11 : w10.setCell ⟨b6, m, none⟩ (.int .u8 (y7.toNat : Int)) = w11 at hb11 hc11 ⊢
  obtain ⟨s7, hs7⟩ : ∃ s7, s7 = s0.set m y7 := ⟨_, rfl⟩
  have HB11 := Lib.hid (show Blk w11 b6 84 ((s7.map bv).toArray) from by
    have e : ((s0.map bv).toArray).setIfInBounds m (.int .u8 (y7.toNat : Int)) = (s7.map bv).toArray := by
      rw [hs7, List.map_set]
      simp [bv]
    rw [← e]; exact hb11)
  have HS7 := Lib.hid (show s7 = s0.set m y7 ∧ s7.length = 512 from ⟨hs7, by rw [hs7, List.length_set]; exact HSL.out⟩)
  have HD11 := Lib.hid (HD10.out.chg hc11 (fun i hi h => by have h1 : i = b6 := h; have h2 := HF9'.out i hi; have h3 := HG6.out; omega))
  have HC11 := Lib.hid (HC10.out.trans hc11 (fun i hi h => by have h1 : i = b6 := h; have h3 := HG6.out; have h4 := HS9'.out; omega))
  clear hw11 hb11 hc11 hs7 k1 hfz7 hxr7 hmb
  go_wp2_with fail
  refine (HD11.out.write_ HC11.out.size (5 + (q : Int)) 512 HS7.out.2 (blk_RB HB11.out) (fun ad e => by cases e; rfl) (by rw [HS2.out.loose]; decide)).mono ?_
  have hw1 := HS2.out.nf.write (i := 5 + (q : Int)) (l := s7) (by omega) (by omega) HS7.out.2
  rw [hw1.1]
  obtain ⟨K4, hK4⟩ : ∃ K4, K4 = K2.write (5 + (q : Int)) s7 := ⟨_, rfl⟩
  rw [← hK4] at hw1 ⊢
  have HE4 := Lib.hid (show ldE K4 = 15 from by
    have hh4 : (1 : Int) + ((1 : Nat) : Int) * halfZ K4.n = 5 := by rw [hw1.2.1.n]; decide
    have hkl : k < l.length := by rw [← HLN.out]; exact HKN.out
    have hct := contentL_get HDD9.out.disk.now_len (1 + ((1 : Nat) : Int) * halfZ 9) l.length k hkl
    rw [HS2.out.hold.ct] at hct
    have hh9 : (1 : Int) + ((1 : Nat) : Int) * halfZ 9 = 5 := by decide
    rw [hh9, ← HQM.out.1, ← HQM.out.2, ← HS0.out, HX7.out] at hct
    refine Holds.turned (f := K2.now) (b := l) (gen := 1) (slot := 1) HDD9.out.disk.now_len (by rw [hw1.2.1.n]; exact HS2.out.hold) (by rw [hw1.2.1.n]; decide) hw1.2.1.dark k hkl y7 ?_ ?_
    · rw [(List.getElem?_eq_some_iff.1 hct).2]; exact HY7.out
    · rw [hh4, hw1.2.2.1, ← HQM.out.1, ← HQM.out.2, HS7.out.1, HS0.out])
  rintro e w12 ⟨rfl, F12, hD12, hc12, hf12⟩
  have HD12 := Lib.hid hD12
  have HC12 := Lib.hid (HD11.out.base HC11.out hc12)
  clear hw1 hK4 hD12 hc12 hf12
  go_wp2_with fail
  refine (sload_any HD12.out).mono ?_
  rintro e w13 ⟨v13, rfl, _, hv13, hc13⟩
  obtain rfl : v13 = .slice none 0 0 := hv13 (by rw [HE4.out]; decide)
  rw [HE4.out]
  have HC13 := Lib.hid (HC12.out.trans hc13 (fun _ _ h => h))
  clear hv13 hc13
  go_wp2_with fail
  refine (slives_any w13).mono ?_
  rintro e w14 ⟨rfl, hc14⟩
  go_wp2_with fail
  go_ret
  exact ⟨rfl, (HC13.out.trans hc14 (fun _ _ h => h)).no⟩
end Go.Proofs.Ytlhfhhbafhnbkaa
