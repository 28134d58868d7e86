/-
  SLOTS: the walk of SlotsPower.
-/
import Derived.Test.YtlhfhhbafhnbkaaSltP
import Derived.Test.YtlhfhhbafhnbkaaSltArg
import Derived.Deep.QuietTactic
import Derived.BigQuiet
import Derived.IntWalk
import Derived.Deep.CutRange
namespace Go.Proofs.Ytlhfhhbafhnbkaa
open Go.RowKit FieldM CrcM
set_option linter.unusedSimpArgs false
set_option linter.unusedVariables false
/-- at rest, whatever the fuse -/
structure Pw9 (K : Dk) (gen slot : Nat) (b : List UInt8) : Prop where
  hold : Holds K.now 9 gen slot b
  n : K.n = 9
  dark : K.dark = false
  sure : K.sure = K.now
  loose : K.loose = []
theorem Sl9.pw {K : Dk} {gen slot : Nat} {b : List UInt8} (h : Sl9 K gen slot b) : Pw9 K gen slot b := ⟨h.hold, h.nf.n, h.nf.dark, h.sure, h.loose⟩
theorem Pw9.arm {K : Dk} {gen slot : Nat} {b : List UInt8} (h : Pw9 K gen slot b) (x : Int) : Pw9 (K.armed x) gen slot b := ⟨h.hold, h.n, h.dark, h.sure, h.loose⟩
theorem Pw9.armD {K : Dk} {gen slot : Nat} {b : List UInt8} {B g : Nat} {w : World} {F : Nat → Prop} {x : Int} (h : Pw9 K gen slot b) (_ : DI B w g (K.armed x) F) : Pw9 (K.armed x) gen slot b := h.arm x
theorem RBdrew {w : World} {B : Nat} {A : Option Addr} {l : List UInt8} (h : RB w B A l) (m : Nat) : RB (w.drewN m) B A l := Reads.drewN h m
theorem beq_arr {a b : Array UInt8} (h : ¬ a = b) : (ByteArray.toList ⟨a⟩ == ByteArray.toList ⟨b⟩) = false := by
  rw [ByteArray.toList_eq, ByteArray.toList_eq, beq_eq_false_iff_ne]
  intro e
  exact h (Array.toList_inj.1 e)
set_option maxRecDepth 100000 in
set_option maxHeartbeats 8000000 in
theorem slotsPower_walk (A : Option Addr) (k c : Nat) (l : List RowB) (a2 : Option Addr) (n2 c2 : Nat) (z2 : List Int) (A3 : Option Addr) (k3 c3 : Nat) (l3 : List RowI) (W : World) (hA : RowsB W W.heap.size A k l) (hrw : IsRow .u8 W a2 n2 c2 z2) (hA3 : RowsI W W.heap.size A3 k3 l3) :
    Calls Try.prog 8 #[.slice A k c, .slice a2 n2 c2, .slice A3 k3 c3] W fun e W' => e = .returned (.bool true) ∧ Below W.heap.size W W' := by
  obtain ⟨fz, hln, hlm, hrb, hlc⟩ := hrw.rb
  have HRB := Lib.hid hrb
  have HLN := Lib.hid hln
  clear hrw hlm hrb hlc hln
  have hs9 := Sl9.new_
  obtain ⟨K0, hK0⟩ : ∃ K0, K0 = (formatK (Dk.new 9)).1 := ⟨_, rfl⟩
  have hf9 : formatK (Dk.new 9) = (K0, 0) := Prod.ext hK0.symm hs9.1
  rw [← hK0] at hs9
  have HF9 := Lib.hid hf9
  have HS9 := Lib.hid hs9.2
  have HA := Lib.hid hA
  have HA3 := Lib.hid hA3
  clear hA hA3 hf9 hs9 hK0
  go_enter Try.func8, Try.ntmps8
  go_wp2_with fail
  refine (DI.new_ 9 W (by decide) (by decide)).mono ?_
  rintro e w1 ⟨g, F1, rfl, hD1, hc1⟩
  have HD1 := Lib.hid hD1
  have HC1 := Lib.hid hc1
  clear hD1 hc1
  go_wp2_with fail
  refine (format_any HD1.out HC1.out.size (by decide)).mono ?_
  rw [HF9.out]
  rintro e w2 ⟨rfl, F2, hD2, hc2, hf2⟩
  have HD2 := Lib.hid hD2
  have HC2 := Lib.hid (HD1.out.base HC1.out hc2)
  clear hD2 hc2 hf2 HD1 HC1
  by_cases hk : 12 < k
  · have hk2 : (12 : Int) < k := by omega
    go_wp2_with fail
    refine (slives_any w2).mono ?_
    rintro e w3 ⟨rfl, hc3⟩
    go_wp2_with fail
    go_ret
    exact ⟨rfl, (HC2.out.trans hc3 (fun _ _ h => h)).no⟩
  have hk3 : (k : Int) ≤ 12 := by omega
  have HK := Lib.hid (show k ≤ 12 from by omega)
  clear hk
  go_wp2_with fail
  generalize decide ((12 : Int) < (k : Int)) = d12
  go_loopw [9, 10, 11] (fun s gv i wr => ∃ (q : Nat) (K : Dk) (F : Nat → Prop) (gen slot : Nat) (b : List UInt8), q ≤ k ∧ i = .int .i64 q ∧ s = .string ⟨b.toArray⟩ ∧ gv = .int .i64 (gen : Int) ∧ gen ≤ q ∧ DI W.heap.size wr g K F ∧ Sl9 K gen slot b ∧ Chg NoB W wr) (fun _ _ i _ => k - (intOf i).toNat)
  case atStart => exact ⟨0, K0, F2, 0, 0, [], by omega, rfl, rfl, rfl, Nat.le_refl _, HD2.out, HS9.out, HC2.out⟩
  case round =>
    obtain ⟨q, K, F, gen, slot, b, hq, rfl, rfl, rfl, hgq, hD, hS, hch⟩ := hrel
    by_cases hlt : q < k
    · obtain ⟨ad, x, rfl, hadb, hxj, c0, hok⟩ := (HA.out.no hch (Nat.le_refl _)).at_ hlt
      obtain ⟨xa, xn, xc, xl⟩ := x
      have HCH := Lib.hid hch
      have HD := Lib.hid hD
      have HS := Lib.hid hS
      have HOK := Lib.hid hok
      have HGQ := Lib.hid (show gen ≤ 12 ∧ gen ≤ q from ⟨by have := HK.out; omega, hgq⟩)
      have HLT := Lib.hid hlt
      have HXJ := Lib.hid hxj
      clear hch hD hS hok hgq hlt hxj
      by_cases hbig : 2048 < xn
      · have hbig2 : (2048 : Int) < (xn : Int) := by omega
        go_wp2_with fail
        refine (slives_any _).mono ?_
        rintro e w4 ⟨rfl, hc4⟩
        go_wp2_with fail
        go_ret
        exact ⟨rfl, (HCH.out.trans hc4 (fun _ _ h => h)).no⟩
      have hbig2 : (xn : Int) ≤ 2048 := by omega
      have HXN := Lib.hid (show xn ≤ 2048 from by omega)
      clear hbig
      have hlt4 : q < k := HLT.out
      go_upto_if 56 with (fail)
      go_cut [] from 53 to 64 (fun wx => ∃ (KA : Dk) (FA : Nat → Prop), RowKit.Hid (Pw9 KA gen slot b) ∧ RowKit.Hid (DI W.heap.size wx g KA FA) ∧ RowKit.Hid (Chg NoB W wx))
      case first =>
        by_cases hfs : q < n2
        · have hfs2 : (q : Int) < (n2 : Int) := by omega
          obtain ⟨adf, rfl, hadf, cf⟩ := (RBchg HRB.out HCH.out).at_ (k := q) (by rw [← HLN.out]; exact hfs)
          obtain ⟨fx, hfx⟩ : ∃ fx : UInt8, fx = fz[q]'(by rw [← HLN.out]; exact hfs) := ⟨_, rfl⟩
          rw [← hfx] at cf
          have hfr := fx.toNat_lt
          clear hfx
          go_wp2_with fail
          refine (HD.out.fuse_ HCH.out.size _ (by first | omega | (have := fx.toNat_lt; omega))).mono ?_
          rintro e wA ⟨⟨v5, rfl⟩, FA, hDA, hcA, hfA⟩
          have HPA := Lib.hid (HS.out.pw.armD hDA)
          have HDA := Lib.hid hDA
          have HCA := Lib.hid (HD.out.base HCH.out hcA)
          clear hDA hcA hfA cf hfr hfs hfs2
          go_wp2_with fail
          go_meet
          case rel => exact ⟨_, _, HPA, HDA, HCA⟩
        · have hfs2 : ¬ (q : Int) < (n2 : Int) := by omega
          go_wp2_with fail
          go_meet
          case rel => exact ⟨_, _, Lib.hid HS.out.pw, HD, HCH⟩
      case rest =>
        clear hlt4
        obtain ⟨KA, FA, HPA, HDA, HCA⟩ := hcut
        obtain ⟨ad2, x2, e2, _, hx2, c0, hokA⟩ := (HA.out.no HCA.out (Nat.le_refl _)).at_ HLT.out
        obtain rfl : ad = ad2 := by injection e2
        obtain rfl : (⟨xa, xn, xc, xl⟩ : RowB) = x2 := by rw [HXJ.out] at hx2; injection hx2
        have HOKR := Lib.hid (show RB wc W.heap.size xa xl from hokA.rb)
        clear e2 hx2 hokA
        go_wp2_with fail
        clear c0
        obtain ⟨K1, hK1⟩ : ∃ K1, K1 = (commitK KA xl).1 := ⟨_, rfl⟩
        obtain ⟨e1, he1⟩ : ∃ e1, e1 = (commitK KA xl).2 := ⟨_, rfl⟩
        have hpw := power (b' := xl) HPA.out.n HPA.out.dark HPA.out.sure HPA.out.loose HPA.out.hold HDA.out.disk.now_len (by have := HGQ.out; omega) (by have := HOK.out.len; have := HXN.out; simp only at *; omega)
        refine (commit_any HDA.out HCA.out.size (by rw [HPA.out.loose]; decide) (by rw [HPA.out.n]; decide) xa xn xc xl HOK.out.len (by have := HXN.out; omega) HOK.out.cap (HOKR.out.more HCA.out.size)).mono ?_
        rw [← hK1, ← he1]
        obtain ⟨R, hR⟩ : ∃ R, R = commitK KA xl := ⟨_, rfl⟩
        rw [← hR] at hpw hK1 he1
        have HPW := Lib.hid (show PW (K1, e1) gen slot b xl from by rw [hK1, he1]; exact hpw)
        clear hpw hR hK1 he1
        rintro e w5 ⟨rfl, F5, hD5, hc5, hf5⟩
        have HD5 := Lib.hid hD5
        have HC5 := Lib.hid (HDA.out.base HCA.out hc5)
        clear hD5 hc5 hf5
        rcases HPW.out.1 with h | ⟨h, hdk⟩
        · obtain rfl : e1 = 0 := h
          go_upto_if 85 with (fail)
          go_cut [13] from 82 to 89 (fun v wx => ∃ ki : RowI, v = .slice ki.a ki.n ki.c ∧ RowKit.Hid (RowIOk w5 W.heap.size ki) ∧ w5 = wx)
          case first =>
            by_cases hkp : q < k3
            · obtain ⟨ad3, ki, rfl, _, _, ck, hki⟩ := (HA3.out.no HC5.out (Nat.le_refl _)).at_ hkp
              have hkp2 : (q : Int) < (k3 : Int) := by omega
              have HKI := Lib.hid hki
              clear hki
              go_wp2_with fail
              go_meet
              case rel => exact ⟨ki, rfl, HKI, rfl⟩
            · have hkp2 : ¬ (q : Int) < (k3 : Int) := by omega
              go_wp2_with fail
              go_meet
              case rel => exact ⟨⟨none, 0, 0, []⟩, rfl, Lib.hid ⟨rfl, IB.none_, fun _ => ⟨rfl, rfl⟩, fun k hk => by cases hk⟩, rfl⟩
          case rest =>
            obtain ⟨ki, rfl, HKI, rfl⟩ := hcut
            go_wp2_with fail
            refine (HD5.out.crash_ (ks := ki.ks) HC5.out.size (by have h3 : K1.loose.length ≤ 100 := HPW.out.2.2.1; omega) ki.c HKI.out.len (Reads.more HKI.out.row HC5.out.size) HKI.out.nil (fun hp ad3 he hf => by obtain ⟨ad4, e4, hb4, _⟩ := HKI.out.row.2 hp; rw [he] at e4; cases e4; have := (HD5.out.rng _ hf).1; omega) HKI.out.rng).mono ?_
            rintro e w6 ⟨rfl, F6, hD6, hc6, hf6⟩
            have HD6 := Lib.hid hD6
            have HC6 := Lib.hid (HD5.out.base HC5.out hc6)
            clear hD6 hc6 hf6
            go_wp2_with fail
            have HS6 := Lib.hid (Sl9.of_crash ki.ks HPW.out.2.1 ((HPW.out.2.2.2 ki.ks).elim id (fun h => absurd rfl h.1)))
            refine (sload_any HD6.out).mono ?_
            rintro e w7 ⟨v7, rfl, ho7, _, hc7⟩
            rw [HS6.out.load.2.1] at ho7
            rw [HS6.out.load.1, HS6.out.load.2.2.1]
            rw [show (((gen + 1) : Nat) : Int) = ((gen : Int) + 1) from by push_cast; rfl]
            obtain ⟨A7, n7, c7, rfl, hn7, hr7, _⟩ := ho7.val
            have HD7 := Lib.hid (HD6.out.no hc7)
            have HC7 := Lib.hid (HC6.out.trans hc7 (fun _ _ h => h))
            obtain ⟨ad2, x2, e2, _, hx2, c0, hok7⟩ := (HA.out.no HC7.out (Nat.le_refl _)).at_ HLT.out
            obtain rfl : ad = ad2 := by injection e2
            obtain rfl : (⟨xa, xn, xc, xl⟩ : RowB) = x2 := by rw [HXJ.out] at hx2; injection hx2
            have hst7 := fun m : Nat => (RBdrew hr7 m).toStr (n := n7) hn7 c7 Try.underlying25 Try.underlying5 Try.underlying9
            have hst8 := fun m : Nat => (RBdrew (show RB w7 W.heap.size xa xl from hok7.rb) m).toStr (n := xn) HOK.out.len xc Try.underlying25 Try.underlying5 Try.underlying9
            have hgw : IntKind.i64.wrap ((gen : Int) + 1) = (gen : Int) + 1 := IntWalk.i64_in _ (by have := HGQ.out; omega)
            have hg1 : (((gen : Int) + 1) == (gen : Int)) = false := beq_eq_false_iff_ne.2 (by omega)
            have hg2 : ((gen : Int) == ((gen : Int) + 1)) = false := beq_eq_false_iff_ne.2 (by omega)
            clear e2 hx2 hok7 ho7 hn7 hr7 hc7
            by_cases hxb : xl = b
            · obtain rfl := hxb
              go_wp2_with fail
              go_quiet (fail)
              go_wp2_with fail
              go_roundw
              case rel => exact ⟨q + 1, _, _, gen + 1, 1 - slot, xl, by have := HLT.out; omega, by go_num, by first | rfl | rw [HXA.out.1] | rw [HXA.out.2], by first | rfl | (push_cast; rfl), by have := HGQ.out; omega, HD7.out.no ((Chg.refl NoB w7).drewN nq), HS6.out, HC7.out.drewN nq⟩
              case measure => simp [intOf]; have := HLT.out; omega
            · obtain ⟨ax, hax⟩ : ∃ ax, ax = xl.toArray := ⟨_, rfl⟩
              obtain ⟨ab, hab⟩ : ∃ ab, ab = b.toArray := ⟨_, rfl⟩
              have hne1 : (ByteArray.toList ⟨ax⟩ == ByteArray.toList ⟨ab⟩) = false := beq_arr (fun h => hxb (by rw [hax, hab] at h; exact Array.mk.inj h))
              have hne2 : (ByteArray.toList ⟨ab⟩ == ByteArray.toList ⟨ax⟩) = false := beq_arr (fun h => hxb (by rw [hax, hab] at h; exact (Array.mk.inj h).symm))
              rw [← hax] at hst8 hst7
              rw [← hab]
              have HXA := Lib.hid (And.intro hax hab)
              clear hxb hax hab
              go_wp2_with fail
              go_quiet (fail)
              go_wp2_with fail
              go_roundw
              case rel => exact ⟨q + 1, _, _, gen + 1, 1 - slot, xl, by have := HLT.out; omega, by go_num, by first | rfl | rw [HXA.out.1] | rw [HXA.out.2], by first | rfl | (push_cast; rfl), by have := HGQ.out; omega, HD7.out.no ((Chg.refl NoB w7).drewN nq), HS6.out, HC7.out.drewN nq⟩
              case measure => simp [intOf]; have := HLT.out; omega
        · obtain rfl : e1 = 6 := h
          go_wp2_with fail
          refine HD5.out.disk.dark_.mono ?_
          rintro e w5' ⟨rfl, hw5⟩
          obtain rfl : w5 = w5' := hw5.symm
          rw [show K1.dark = true from hdk]
          clear hdk
          go_upto_if 85 with (fail)
          go_cut [13] from 82 to 89 (fun v wx => ∃ ki : RowI, v = .slice ki.a ki.n ki.c ∧ RowKit.Hid (RowIOk w5 W.heap.size ki) ∧ w5 = wx)
          case first =>
            by_cases hkp : q < k3
            · obtain ⟨ad3, ki, rfl, _, _, ck, hki⟩ := (HA3.out.no HC5.out (Nat.le_refl _)).at_ hkp
              have hkp2 : (q : Int) < (k3 : Int) := by omega
              have HKI := Lib.hid hki
              clear hki
              go_wp2_with fail
              go_meet
              case rel => exact ⟨ki, rfl, HKI, rfl⟩
            · have hkp2 : ¬ (q : Int) < (k3 : Int) := by omega
              go_wp2_with fail
              go_meet
              case rel => exact ⟨⟨none, 0, 0, []⟩, rfl, Lib.hid ⟨rfl, IB.none_, fun _ => ⟨rfl, rfl⟩, fun k hk => by cases hk⟩, rfl⟩
          case rest =>
            obtain ⟨ki, rfl, HKI, rfl⟩ := hcut
            go_wp2_with fail
            refine (HD5.out.crash_ (ks := ki.ks) HC5.out.size (by have h3 : K1.loose.length ≤ 100 := HPW.out.2.2.1; omega) ki.c HKI.out.len (Reads.more HKI.out.row HC5.out.size) HKI.out.nil (fun hp ad3 he hf => by obtain ⟨ad4, e4, hb4, _⟩ := HKI.out.row.2 hp; rw [he] at e4; cases e4; have := (HD5.out.rng _ hf).1; omega) HKI.out.rng).mono ?_
            rintro e w6 ⟨rfl, F6, hD6, hc6, hf6⟩
            have HD6 := Lib.hid hD6
            have HC6 := Lib.hid (HD5.out.base HC5.out hc6)
            clear hD6 hc6 hf6
            go_wp2_with fail
            rcases HPW.out.2.2.2 ki.ks with hnew | ⟨_, hold⟩
            · have HS6 := Lib.hid (Sl9.of_crash ki.ks HPW.out.2.1 hnew)
              clear hnew
              refine (sload_any HD6.out).mono ?_
              rintro e w7 ⟨v7, rfl, ho7, _, hc7⟩
              rw [HS6.out.load.2.1] at ho7
              rw [HS6.out.load.1, HS6.out.load.2.2.1]
              rw [show (((gen + 1) : Nat) : Int) = ((gen : Int) + 1) from by push_cast; rfl]
              obtain ⟨A7, n7, c7, rfl, hn7, hr7, _⟩ := ho7.val
              have HD7 := Lib.hid (HD6.out.no hc7)
              have HC7 := Lib.hid (HC6.out.trans hc7 (fun _ _ h => h))
              obtain ⟨ad2, x2, e2, _, hx2, c0, hok7⟩ := (HA.out.no HC7.out (Nat.le_refl _)).at_ HLT.out
              obtain rfl : ad = ad2 := by injection e2
              obtain rfl : (⟨xa, xn, xc, xl⟩ : RowB) = x2 := by rw [HXJ.out] at hx2; injection hx2
              have hst7 := fun m : Nat => (RBdrew hr7 m).toStr (n := n7) hn7 c7 Try.underlying25 Try.underlying5 Try.underlying9
              have hst8 := fun m : Nat => (RBdrew (show RB w7 W.heap.size xa xl from hok7.rb) m).toStr (n := xn) HOK.out.len xc Try.underlying25 Try.underlying5 Try.underlying9
              have hgw : IntKind.i64.wrap ((gen : Int) + 1) = (gen : Int) + 1 := IntWalk.i64_in _ (by have := HGQ.out; omega)
              have hg1 : (((gen : Int) + 1) == (gen : Int)) = false := beq_eq_false_iff_ne.2 (by omega)
              have hg2 : ((gen : Int) == ((gen : Int) + 1)) = false := beq_eq_false_iff_ne.2 (by omega)
              clear e2 hx2 hok7 ho7 hn7 hr7 hc7
              by_cases hxb : xl = b
              · obtain rfl := hxb
                go_wp2_with fail
                go_quiet (fail)
                go_wp2_with fail
                go_roundw
                case rel => exact ⟨q + 1, _, _, gen + 1, 1 - slot, xl, by have := HLT.out; omega, by go_num, by first | rfl | rw [HXA.out.1] | rw [HXA.out.2], by first | rfl | (push_cast; rfl), by have := HGQ.out; omega, HD7.out.no ((Chg.refl NoB w7).drewN nq), HS6.out, HC7.out.drewN nq⟩
                case measure => simp [intOf]; have := HLT.out; omega
              · obtain ⟨ax, hax⟩ : ∃ ax, ax = xl.toArray := ⟨_, rfl⟩
                obtain ⟨ab, hab⟩ : ∃ ab, ab = b.toArray := ⟨_, rfl⟩
                have hne1 : (ByteArray.toList ⟨ax⟩ == ByteArray.toList ⟨ab⟩) = false := beq_arr (fun h => hxb (by rw [hax, hab] at h; exact Array.mk.inj h))
                have hne2 : (ByteArray.toList ⟨ab⟩ == ByteArray.toList ⟨ax⟩) = false := beq_arr (fun h => hxb (by rw [hax, hab] at h; exact (Array.mk.inj h).symm))
                rw [← hax] at hst8 hst7
                rw [← hab]
                have HXA := Lib.hid (And.intro hax hab)
                clear hxb hax hab
                go_wp2_with fail
                go_quiet (fail)
                go_wp2_with fail
                go_roundw
                case rel => exact ⟨q + 1, _, _, gen + 1, 1 - slot, xl, by have := HLT.out; omega, by go_num, by first | rfl | rw [HXA.out.1] | rw [HXA.out.2], by first | rfl | (push_cast; rfl), by have := HGQ.out; omega, HD7.out.no ((Chg.refl NoB w7).drewN nq), HS6.out, HC7.out.drewN nq⟩
                case measure => simp [intOf]; have := HLT.out; omega
            · have HS6 := Lib.hid (Sl9.of_crash ki.ks HPW.out.2.1 hold)
              clear hold
              refine (sload_any HD6.out).mono ?_
              rintro e w7 ⟨v7, rfl, ho7, _, hc7⟩
              rw [HS6.out.load.2.1] at ho7
              rw [HS6.out.load.1, HS6.out.load.2.2.1]
              obtain ⟨A7, n7, c7, rfl, hn7, hr7, _⟩ := ho7.val
              have HD7 := Lib.hid (HD6.out.no hc7)
              have HC7 := Lib.hid (HC6.out.trans hc7 (fun _ _ h => h))
              obtain ⟨ad2, x2, e2, _, hx2, c0, hok7⟩ := (HA.out.no HC7.out (Nat.le_refl _)).at_ HLT.out
              obtain rfl : ad = ad2 := by injection e2
              obtain rfl : (⟨xa, xn, xc, xl⟩ : RowB) = x2 := by rw [HXJ.out] at hx2; injection hx2
              have hst7 := fun m : Nat => (RBdrew hr7 m).toStr (n := n7) hn7 c7 Try.underlying25 Try.underlying5 Try.underlying9
              have hst8 := fun m : Nat => (RBdrew (show RB w7 W.heap.size xa xl from hok7.rb) m).toStr (n := xn) HOK.out.len xc Try.underlying25 Try.underlying5 Try.underlying9
              have hgw : IntKind.i64.wrap ((gen : Int) + 1) = (gen : Int) + 1 := IntWalk.i64_in _ (by have := HGQ.out; omega)
              have hg1 : (((gen : Int) + 1) == (gen : Int)) = false := beq_eq_false_iff_ne.2 (by omega)
              have hg2 : ((gen : Int) == ((gen : Int) + 1)) = false := beq_eq_false_iff_ne.2 (by omega)
              clear e2 hx2 hok7 ho7 hn7 hr7 hc7
              by_cases hxb : xl = b
              · obtain rfl := hxb
                go_wp2_with fail
                go_quiet (fail)
                go_wp2_with fail
                go_roundw
                case rel => exact ⟨q + 1, _, _, gen, slot, xl, by have := HLT.out; omega, by go_num, by first | rfl | rw [HXA.out.1] | rw [HXA.out.2], by first | rfl | (push_cast; rfl), by have := HGQ.out; omega, HD7.out.no ((Chg.refl NoB w7).drewN nq), HS6.out, HC7.out.drewN nq⟩
                case measure => simp [intOf]; have := HLT.out; omega
              · obtain ⟨ax, hax⟩ : ∃ ax, ax = xl.toArray := ⟨_, rfl⟩
                obtain ⟨ab, hab⟩ : ∃ ab, ab = b.toArray := ⟨_, rfl⟩
                have hne1 : (ByteArray.toList ⟨ax⟩ == ByteArray.toList ⟨ab⟩) = false := beq_arr (fun h => hxb (by rw [hax, hab] at h; exact Array.mk.inj h))
                have hne2 : (ByteArray.toList ⟨ab⟩ == ByteArray.toList ⟨ax⟩) = false := beq_arr (fun h => hxb (by rw [hax, hab] at h; exact (Array.mk.inj h).symm))
                rw [← hax] at hst8
                rw [← hab] at hst7
                rw [← hab]
                have HXA := Lib.hid (And.intro hax hab)
                clear hxb hax hab
                go_wp2_with fail
                go_quiet (fail)
                go_wp2_with fail
                go_roundw
                case rel => exact ⟨q + 1, _, _, gen, slot, b, by have := HLT.out; omega, by go_num, by first | rfl | rw [HXA.out.1] | rw [HXA.out.2], by first | rfl | (push_cast; rfl), by have := HGQ.out; omega, HD7.out.no ((Chg.refl NoB w7).drewN nq), HS6.out, HC7.out.drewN nq⟩
                case measure => simp [intOf]; have := HLT.out; omega
    · obtain rfl : q = k := by omega
      go_wp2_with fail
      refine (slives_any _).mono ?_
      rintro e w4 ⟨rfl, hc4⟩
      go_wp2_with fail
      go_ret
      exact ⟨rfl, (hch.trans hc4 (fun _ _ h => h)).no⟩
end Go.Proofs.Ytlhfhhbafhnbkaa
