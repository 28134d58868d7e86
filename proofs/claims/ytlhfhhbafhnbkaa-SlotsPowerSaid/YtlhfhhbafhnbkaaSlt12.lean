/-
  SLOTS: the walk of SlotsBack.
-/
import Derived.Test.YtlhfhhbafhnbkaaSlt11
import Derived.Test.YtlhfhhbafhnbkaaSltArg
namespace Go.Proofs.Ytlhfhhbafhnbkaa
open Go.RowKit FieldM CrcM
set_option linter.unusedSimpArgs false
set_option linter.unusedVariables false
/-- a disk of nine sectors, at rest -/
structure Sl9 (K : Dk) (gen slot : Nat) (b : List UInt8) : Prop where
  hold : Holds K.now 9 gen slot b
  nf : NF K 9
  sure : K.sure = K.now
  loose : K.loose = []
theorem room9 : roomZ 9 = 2048 := by decide
theorem Sl9.new_ : (formatK (Dk.new 9)).2 = 0 ∧ Sl9 (formatK (Dk.new 9)).1 0 0 [] := by
  obtain ⟨h1, h2, h3, h4, h5, _⟩ := format_new 9 (by decide) (by decide)
  exact ⟨h1, h2, h3, h4, h5⟩
theorem Sl9.load {K : Dk} {gen slot : Nat} {b : List UInt8} (h : Sl9 K gen slot b) : ldE K = 0 ∧ ldB K = b ∧ ldH K 0 = gen ∧ ldH K 1 = slot :=
  Holds.load (K := K) (by rw [h.nf.n]; exact h.hold) (by rw [h.nf.n]; decide) h.nf.dark
theorem Sl9.commit {K : Dk} {gen slot : Nat} {b b' : List UInt8} (h : Sl9 K gen slot b) (hl : ∀ i, (K.now i).length = 512) (hg : gen + 1 < 4294967296) (hb : b'.length ≤ 2048) : (commitK K b').2 = 0 ∧ Sl9 (commitK K b').1 (gen + 1) (1 - slot) b' := by
  obtain ⟨c1, c2, c3, c4, c5, _⟩ := Holds.commit (b' := b') (by rw [h.nf.n]; exact h.hold) h.nf (by decide) hl hg (by rw [room9]; omega)
  exact ⟨c1, c2, c3, c4, c5⟩
theorem Sl9.full {K : Dk} {gen slot : Nat} {b b' : List UInt8} (h : Sl9 K gen slot b) (hg : gen + 1 < 4294967296) (hb : 2048 < b'.length) : commitK K b' = (K, 7) := by
  obtain ⟨l0, _, l2, _⟩ := h.load
  unfold commitK
  rw [if_neg (by rw [l0]; simp), if_neg (by rw [l2]; omega), h.nf.n, room9, if_pos (by omega)]
theorem Sl9.crash {K : Dk} {gen slot : Nat} {b : List UInt8} (h : Sl9 K gen slot b) : Sl9 (K.crash []) gen slot b := by
  have e : crashF K.sure [] K.loose = K.now := by rw [h.loose, ← h.sure]; rfl
  have hn : (K.crash []).now = K.now := e
  refine ⟨by rw [hn]; exact h.hold, ⟨h.nf.n, rfl, rfl, rfl⟩, rfl, rfl⟩
set_option maxRecDepth 100000 in
set_option maxHeartbeats 8000000 in
theorem slotsBack_walk (A : Option Addr) (k c : Nat) (l : List RowB) (A2 : Option Addr) (k2 c2 : Nat) (l2 : List Bool) (W : World) (hA : RowsB W W.heap.size A k l) (hA2 : Bools W W.heap.size A2 k2 l2) :
    Calls Try.prog 7 #[.slice A k c, .slice A2 k2 c2] W fun e W' => e = .returned (.bool true) ∧ Below W.heap.size W W' := by
  have hs9 := Sl9.new_
  obtain ⟨K0, hK0⟩ : ∃ K0, K0 = (formatK (Dk.new 9)).1 := ⟨_, rfl⟩
  have hf9 : formatK (Dk.new 9) = (K0, 0) := Prod.ext hK0.symm hs9.1
  rw [← hK0] at hs9
  have HF9 := Lib.hid hf9
  have HS9 := Lib.hid hs9.2
  have HA := Lib.hid hA
  have HA2 := Lib.hid hA2
  clear hA hA2 hf9 hs9 hK0
  go_enter Try.func7, Try.ntmps7
  go_wp2_with fail
  refine (DI.new_ 9 W (by decide) (by decide)).mono ?_
  rintro e w1 ⟨g, F1, rfl, hD1, hc1⟩
  have HD1 := Lib.hid hD1
  have HC1 := Lib.hid hc1
  clear hD1 hc1
  go_wp2_with fail
  refine (format_any HD1.out HC1.out.size (by decide)).mono ?_
  rw [HF9.out]
  rintro e w2 ⟨rfl, F2, hD2, hc2, hf2⟩
  have HD2 := Lib.hid hD2
  have HC2 := Lib.hid (HD1.out.base HC1.out hc2)
  clear hD2 hc2 hf2 HD1 HC1
  by_cases hk : 12 < k
  · have hk2 : (12 : Int) < k := by omega
    go_wp2_with fail
    refine (slives_any w2).mono ?_
    rintro e w3 ⟨rfl, hc3⟩
    go_wp2_with fail
    go_ret
    exact ⟨rfl, (HC2.out.trans hc3 (fun _ _ h => h)).no⟩
  have hk3 : (k : Int) ≤ 12 := by omega
  have HK := Lib.hid (show k ≤ 12 from by omega)
  clear hk
  go_wp2_with fail
  generalize decide ((12 : Int) < (k : Int)) = d12
  go_loopw [7, 8, 9] (fun s gv i wr => ∃ (q : Nat) (K : Dk) (F : Nat → Prop) (gen slot : Nat) (b : List UInt8), q ≤ k ∧ i = .int .i64 q ∧ s = .string ⟨b.toArray⟩ ∧ gv = .int .i64 (gen : Int) ∧ gen ≤ q ∧ DI W.heap.size wr g K F ∧ Sl9 K gen slot b ∧ Chg NoB W wr) (fun _ _ i _ => k - (intOf i).toNat)
  case atStart => exact ⟨0, K0, F2, 0, 0, [], by omega, rfl, rfl, rfl, Nat.le_refl _, HD2.out, HS9.out, HC2.out⟩
  case round =>
    obtain ⟨q, K, F, gen, slot, b, hq, rfl, rfl, rfl, hgq, hD, hS, hch⟩ := hrel
    by_cases hlt : q < k
    · obtain ⟨ad, x, rfl, hadb, hxj, c0, hok⟩ := (HA.out.no hch (Nat.le_refl _)).at_ hlt
      obtain ⟨xa, xn, xc, xl⟩ := x
      have HCH := Lib.hid hch
      have HD := Lib.hid hD
      have HS := Lib.hid hS
      have HOK := Lib.hid hok
      have HGQ := Lib.hid (show gen ≤ 12 ∧ gen ≤ q from ⟨by have := HK.out; omega, hgq⟩)
      have HLT := Lib.hid hlt
      have HXJ := Lib.hid hxj
      clear hch hD hS hok hgq hlt hxj
      go_wp2_with fail
      clear c0
      obtain ⟨K1, hK1⟩ : ∃ K1, K1 = (commitK K xl).1 := ⟨_, rfl⟩
      obtain ⟨e1, he1⟩ : ∃ e1, e1 = (commitK K xl).2 := ⟨_, rfl⟩
      refine (commit_any HD.out HCH.out.size (by rw [HS.out.loose]; decide) (by rw [HS.out.nf.n]; decide) xa xn xc xl HOK.out.len (by have := HOK.out.max; unfold maxLen at this; omega) HOK.out.cap (HOK.out.rb.more HCH.out.size)).mono ?_
      rw [← hK1, ← he1]
      rintro e w5 ⟨rfl, F5, hD5, hc5, hf5⟩
      have HD5 := Lib.hid hD5
      have HC5 := Lib.hid (HD.out.base HCH.out hc5)
      clear hD5 hc5 hf5
      obtain ⟨ad2, x2, e2, _, hx2, c0, hok5⟩ := (HA.out.no HC5.out (Nat.le_refl _)).at_ HLT.out
      obtain rfl : ad = ad2 := by injection e2
      obtain rfl : (⟨xa, xn, xc, xl⟩ : RowB) = x2 := by rw [HXJ.out] at hx2; injection hx2
      have HC0 := Lib.hid c0
      have hst := (show RB w5 W.heap.size xa xl from hok5.rb).toStr (n := xn) HOK.out.len xc Try.underlying25 Try.underlying5 Try.underlying9
      clear e2 hx2 hok5
      by_cases hbig : 2048 < xn
      · have hfu := HS.out.full (b' := xl) (by have := HGQ.out; omega) (by have := HOK.out.len; simp only at this; omega)
        obtain rfl : e1 = 7 := by rw [he1, hfu]
        obtain rfl : K1 = K := by rw [hK1, hfu]
        have hbig2 : (2048 : Int) < (xn : Int) := by omega
        have HS1 := Lib.hid HS.out
        have HG1 := Lib.hid (show gen ≤ q + 1 from by have := HGQ.out; omega)
        clear hfu he1 hK1 hst
        by_cases hcr : q < k2
        · obtain ⟨ad3, cb, rfl, _, _, c1⟩ := (HA2.out.no HC5.out (Nat.le_refl _)).at_ hcr
          have hcr2 : (q : Int) < (k2 : Int) := by omega
          cases cb with
          | true =>
            go_wp2_with fail
            refine (HD5.out.crash_ (ks := []) HC5.out.size (by rw [HS1.out.loose]; decide) 0 rfl IB.none_ (fun _ => ⟨rfl, rfl⟩) (fun h => absurd h (by simp)) (fun k hk => by cases hk)).mono ?_
            rintro e w6 ⟨rfl, F6, hD6, hc6, hf6⟩
            have HD6 := Lib.hid hD6
            have HC6 := Lib.hid (HD5.out.base HC5.out hc6)
            have HS6 := Lib.hid HS1.out.crash
            clear hD6 hc6 hf6
            go_wp2_with fail
            refine (sload_any HD6.out).mono ?_
            rintro e w7 ⟨v7, rfl, ho7, _, hc7⟩
            rw [HS6.out.load.2.1] at ho7
            rw [HS6.out.load.1, HS6.out.load.2.2.1]
            obtain ⟨A7, n7, c7, rfl, hn7, hr7, _⟩ := ho7.val
            have hst7 := hr7.toStr (n := n7) hn7 c7 Try.underlying25 Try.underlying5 Try.underlying9
            have HD7 := Lib.hid (HD6.out.no hc7)
            have HC7 := Lib.hid (HC6.out.trans hc7 (fun _ _ h => h))
            clear ho7 hn7 hr7 hc7
            go_wp2_with fail
            refine HD7.out.disk.loose_.mono ?_
            rintro e w8 ⟨rfl, rfl⟩
            rw [HS6.out.loose]
            clear hst7
            go_wp2_with fail
            go_roundw
            case rel => exact ⟨q + 1, _, _, gen, slot, b, by have := HLT.out; omega, by go_num, rfl, by first | rfl | (push_cast; rfl), HG1.out, HD7.out, HS6.out, HC7.out⟩
            case measure => simp [intOf]; have := HLT.out; omega
          | false =>
            go_wp2_with fail
            have HD6 := HD5
            have HC6 := HC5
            have HS6 := HS1
            refine (sload_any HD6.out).mono ?_
            rintro e w7 ⟨v7, rfl, ho7, _, hc7⟩
            rw [HS6.out.load.2.1] at ho7
            rw [HS6.out.load.1, HS6.out.load.2.2.1]
            obtain ⟨A7, n7, c7, rfl, hn7, hr7, _⟩ := ho7.val
            have hst7 := hr7.toStr (n := n7) hn7 c7 Try.underlying25 Try.underlying5 Try.underlying9
            have HD7 := Lib.hid (HD6.out.no hc7)
            have HC7 := Lib.hid (HC6.out.trans hc7 (fun _ _ h => h))
            clear ho7 hn7 hr7 hc7
            go_wp2_with fail
            refine HD7.out.disk.loose_.mono ?_
            rintro e w8 ⟨rfl, rfl⟩
            rw [HS6.out.loose]
            clear hst7
            go_wp2_with fail
            go_roundw
            case rel => exact ⟨q + 1, _, _, gen, slot, b, by have := HLT.out; omega, by go_num, rfl, by first | rfl | (push_cast; rfl), HG1.out, HD7.out, HS6.out, HC7.out⟩
            case measure => simp [intOf]; have := HLT.out; omega
        · have hcr2 : ¬ (q : Int) < (k2 : Int) := by omega
          go_wp2_with fail
          have HD6 := HD5
          have HC6 := HC5
          have HS6 := HS1
          refine (sload_any HD6.out).mono ?_
          rintro e w7 ⟨v7, rfl, ho7, _, hc7⟩
          rw [HS6.out.load.2.1] at ho7
          rw [HS6.out.load.1, HS6.out.load.2.2.1]
          obtain ⟨A7, n7, c7, rfl, hn7, hr7, _⟩ := ho7.val
          have hst7 := hr7.toStr (n := n7) hn7 c7 Try.underlying25 Try.underlying5 Try.underlying9
          have HD7 := Lib.hid (HD6.out.no hc7)
          have HC7 := Lib.hid (HC6.out.trans hc7 (fun _ _ h => h))
          clear ho7 hn7 hr7 hc7
          go_wp2_with fail
          refine HD7.out.disk.loose_.mono ?_
          rintro e w8 ⟨rfl, rfl⟩
          rw [HS6.out.loose]
          clear hst7
          go_wp2_with fail
          go_roundw
          case rel => exact ⟨q + 1, _, _, gen, slot, b, by have := HLT.out; omega, by go_num, rfl, by first | rfl | (push_cast; rfl), HG1.out, HD7.out, HS6.out, HC7.out⟩
          case measure => simp [intOf]; have := HLT.out; omega
      · have hcm := HS.out.commit (b' := xl) HD.out.disk.now_len (by have := HGQ.out; omega) (by have := HOK.out.len; simp only at this; omega)
        obtain rfl : e1 = 0 := by rw [he1, hcm.1]
        have hbig2 : (xn : Int) ≤ 2048 := by omega
        have HS1 := Lib.hid (show Sl9 K1 (gen + 1) (1 - slot) xl from by rw [hK1]; exact hcm.2)
        have HG1 := Lib.hid (show gen + 1 ≤ q + 1 from by have := HGQ.out; omega)
        have hgb : (gen : Int) ≤ 12 := by have := HGQ.out; omega
        clear hcm he1 hK1
        by_cases hcr : q < k2
        · obtain ⟨ad3, cb, rfl, _, _, c1⟩ := (HA2.out.no HC5.out (Nat.le_refl _)).at_ hcr
          have hcr2 : (q : Int) < (k2 : Int) := by omega
          cases cb with
          | true =>
            go_wp2_with fail
            refine (HD5.out.crash_ (ks := []) HC5.out.size (by rw [HS1.out.loose]; decide) 0 rfl IB.none_ (fun _ => ⟨rfl, rfl⟩) (fun h => absurd h (by simp)) (fun k hk => by cases hk)).mono ?_
            rintro e w6 ⟨rfl, F6, hD6, hc6, hf6⟩
            have HD6 := Lib.hid hD6
            have HC6 := Lib.hid (HD5.out.base HC5.out hc6)
            have HS6 := Lib.hid HS1.out.crash
            clear hD6 hc6 hf6
            go_wp2_with fail
            refine (sload_any HD6.out).mono ?_
            rintro e w7 ⟨v7, rfl, ho7, _, hc7⟩
            rw [HS6.out.load.2.1] at ho7
            rw [HS6.out.load.1, HS6.out.load.2.2.1]
            rw [show (((gen + 1) : Nat) : Int) = ((gen : Int) + 1) from by push_cast; rfl]
            obtain ⟨A7, n7, c7, rfl, hn7, hr7, _⟩ := ho7.val
            have hst7 := hr7.toStr (n := n7) hn7 c7 Try.underlying25 Try.underlying5 Try.underlying9
            have HD7 := Lib.hid (HD6.out.no hc7)
            have HC7 := Lib.hid (HC6.out.trans hc7 (fun _ _ h => h))
            clear ho7 hn7 hr7 hc7
            go_wp2_with fail
            refine HD7.out.disk.loose_.mono ?_
            rintro e w8 ⟨rfl, rfl⟩
            rw [HS6.out.loose]
            clear hst7
            go_wp2_with fail
            go_roundw
            case rel => exact ⟨q + 1, _, _, (gen + 1), (1 - slot), xl, by have := HLT.out; omega, by go_num, rfl, by first | rfl | (push_cast; rfl), HG1.out, HD7.out, HS6.out, HC7.out⟩
            case measure => simp [intOf]; have := HLT.out; omega
          | false =>
            go_wp2_with fail
            have HD6 := HD5
            have HC6 := HC5
            have HS6 := HS1
            refine (sload_any HD6.out).mono ?_
            rintro e w7 ⟨v7, rfl, ho7, _, hc7⟩
            rw [HS6.out.load.2.1] at ho7
            rw [HS6.out.load.1, HS6.out.load.2.2.1]
            rw [show (((gen + 1) : Nat) : Int) = ((gen : Int) + 1) from by push_cast; rfl]
            obtain ⟨A7, n7, c7, rfl, hn7, hr7, _⟩ := ho7.val
            have hst7 := hr7.toStr (n := n7) hn7 c7 Try.underlying25 Try.underlying5 Try.underlying9
            have HD7 := Lib.hid (HD6.out.no hc7)
            have HC7 := Lib.hid (HC6.out.trans hc7 (fun _ _ h => h))
            clear ho7 hn7 hr7 hc7
            go_wp2_with fail
            refine HD7.out.disk.loose_.mono ?_
            rintro e w8 ⟨rfl, rfl⟩
            rw [HS6.out.loose]
            clear hst7
            go_wp2_with fail
            go_roundw
            case rel => exact ⟨q + 1, _, _, (gen + 1), (1 - slot), xl, by have := HLT.out; omega, by go_num, rfl, by first | rfl | (push_cast; rfl), HG1.out, HD7.out, HS6.out, HC7.out⟩
            case measure => simp [intOf]; have := HLT.out; omega
        · have hcr2 : ¬ (q : Int) < (k2 : Int) := by omega
          go_wp2_with fail
          have HD6 := HD5
          have HC6 := HC5
          have HS6 := HS1
          refine (sload_any HD6.out).mono ?_
          rintro e w7 ⟨v7, rfl, ho7, _, hc7⟩
          rw [HS6.out.load.2.1] at ho7
          rw [HS6.out.load.1, HS6.out.load.2.2.1]
          rw [show (((gen + 1) : Nat) : Int) = ((gen : Int) + 1) from by push_cast; rfl]
          obtain ⟨A7, n7, c7, rfl, hn7, hr7, _⟩ := ho7.val
          have hst7 := hr7.toStr (n := n7) hn7 c7 Try.underlying25 Try.underlying5 Try.underlying9
          have HD7 := Lib.hid (HD6.out.no hc7)
          have HC7 := Lib.hid (HC6.out.trans hc7 (fun _ _ h => h))
          clear ho7 hn7 hr7 hc7
          go_wp2_with fail
          refine HD7.out.disk.loose_.mono ?_
          rintro e w8 ⟨rfl, rfl⟩
          rw [HS6.out.loose]
          clear hst7
          go_wp2_with fail
          go_roundw
          case rel => exact ⟨q + 1, _, _, (gen + 1), (1 - slot), xl, by have := HLT.out; omega, by go_num, rfl, by first | rfl | (push_cast; rfl), HG1.out, HD7.out, HS6.out, HC7.out⟩
          case measure => simp [intOf]; have := HLT.out; omega
    · obtain rfl : q = k := by omega
      go_wp2_with fail
      refine (slives_any _).mono ?_
      rintro e w4 ⟨rfl, hc4⟩
      go_wp2_with fail
      go_ret
      exact ⟨rfl, (hch.trans hc4 (fun _ _ h => h)).no⟩
end Go.Proofs.Ytlhfhhbafhnbkaa
