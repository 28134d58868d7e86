/-
  THE REFERENCE'S Header (ref12), and strings turned to bytes.
-/
import Derived.Test.YtlhfhhbafhnbkaaSRef9
import Derived.Test.YtlhfhhbafhnbkaaFldRef
import Derived.Test.YtlhfhhbafhnbkaaRegionInv
import Derived.Lib.ConvBytes
import Derived.Laws.AppendOwn
namespace Go.Proofs.Ytlhfhhbafhnbkaa
open Go.RowKit FieldM CrcM
set_option linter.unusedSimpArgs false
set_option linter.unusedVariables false
/-- a string's bytes, in a row of their own -/
theorem str_rb (w : World) (l : List UInt8) : ∃ c w', (convert 9 25 (.string ⟨l.toArray⟩)).run Try.prog w = .ok (.slice (some ⟨w.heap.size, 0, none⟩) l.length c) w' ∧ RB w' w'.heap.size (some ⟨w.heap.size, 0, none⟩) l ∧ l.length ≤ c ∧ Chg NoB w w' ∧ w'.heap.size = w.heap.size + 1 ∧ (∀ q, q < l.length → w'.frozen? ⟨w.heap.size, q, none⟩ = false) := by
  refine ⟨_, _, Lib.run_convert_string_bytes w 9 25 5 ⟨l.toArray⟩ Try.underlying9 Try.underlying25 Try.underlying5, ?_, grownCap_ge _ _ _ _, ⟨rfl, rfl, rfl, ?_, fun k hk _ => Lib.bytesWorld_at_old _ _ _ _ hk⟩, Lib.bytesWorld_size _ _ _, ?_⟩
  · refine ⟨by simp, fun _ => ⟨_, rfl, by rw [Lib.bytesWorld_size]; exact Nat.lt_succ_self _, fun j u hu => ?_⟩⟩
    have ha : (⟨w.heap.size, 0, none⟩ : Addr).add j = ⟨w.heap.size, j, none⟩ := by unfold Addr.add; split <;> simp_all
    have hj : j < l.length := by
      rcases Nat.lt_or_ge j l.length with h | h
      · exact h
      · rw [List.getElem?_eq_none (by simpa using h)] at hu; cases hu
    rw [ha, Lib.bytesWorld_cell w _ ⟨l.toArray⟩ j (by simpa [ByteArray.size] using hj), ← hu]
    simp [bv, hj, List.getD]
  · rw [Lib.bytesWorld_size]; omega
  · intro q hq
    simp [World.frozen?, Lib.bytesWorld_at_new, Lib.bytesCells]
    omega
theorem make_zN (N : Nat) (hN : N ≤ 100000) (z : Int) (hz : z = (N : Int)) (w : World) : (Instr.makeSlice 25 (.int .i64 z) (.int .i64 z)).run Try.prog w = .ok (.slice (some ⟨w.heap.size, 0, none⟩) N N) (w.alloc (.cells ((List.replicate N (0 : UInt8)).map bv).toArray 5)) := by
  subst hz
  obtain ⟨i, hi, hz, hs, hb⟩ := byte_full
  rw [run_makeSlice w 25 5 i _ Try.underlying25 hi hz .i64 .i64 (N : Int) (N : Int) (by omega) (by omega) (by rw [hs]; omega) (by rw [hb]; omega) (by omega), hs]
  have h3 : ((List.replicate N (0 : UInt8)).map bv).toArray = Array.replicate N (.int .u8 0) := by
    rw [List.map_replicate]; exact List.toArray_replicate _ _
  simp only [Int.toNat_natCast, made_u8', h3]
def InvRH1 (gen sl cs : Nat) (b mk g4 s4 n4 q4 : List UInt8) (w0 : World) (D : Nat → Bool) (a : Act) (w : World) : Prop :=
  ∃ (A1 : Option Addr) (c1 : Nat) (A5 : Option Addr) (c5 : Nat) (A10 : Option Addr) (c10 : Nat) (A17 : Option Addr) (c17 : Nat) (s14 : Nat) (c14 : Nat), a = { tmps := #[.int .i64 (gen : Int), .int .i64 (sl : Int), .string ⟨b.toArray⟩, undef, undef, undef, .string ⟨#[]⟩, (slot (D 20) (.string ⟨(mk ++ (g4 ++ (s4 ++ (n4 ++ q4)))).toArray⟩) (undef)), (slot (D 0) (.int .i64 (gen : Int)) (undef)), (slot (D 1) (.slice A1 4 c1) (undef)), (slot (D 2) (.string ⟨(g4).toArray⟩) (undef)), (slot (D 3) (.string ⟨(mk ++ g4).toArray⟩) (undef)), (slot (D 4) (.int .i64 (sl : Int)) (undef)), (slot (D 5) (.slice A5 4 c5) (undef)), (slot (D 6) (.string ⟨(s4).toArray⟩) (undef)), (slot (D 7) (.string ⟨(mk ++ (g4 ++ s4)).toArray⟩) (undef)), (slot (D 8) (.string ⟨b.toArray⟩) (undef)), (slot (D 9) (.int .i64 (b.length : Int)) (undef)), (slot (D 10) (.slice A10 4 c10) (undef)), (slot (D 11) (.string ⟨(n4).toArray⟩) (undef)), (slot (D 12) (.string ⟨(mk ++ (g4 ++ (s4 ++ n4))).toArray⟩) (undef)), (slot (D 13) (.string ⟨b.toArray⟩) (undef)), (slot (D 14) (.slice (some ⟨s14, 0, none⟩) b.length c14) (undef)), (slot (D 15) (.int .u32 (cs : Int)) (undef)), (slot (D 16) (.int .i64 (cs : Int)) (undef)), (slot (D 17) (.slice A17 4 c17) (undef)), (slot (D 18) (.string ⟨(q4).toArray⟩) (undef)), (slot (D 19) (.string ⟨(mk ++ (g4 ++ (s4 ++ (n4 ++ q4)))).toArray⟩) (undef)), undef, undef, undef, undef, undef, undef, undef, undef, undef, undef, undef, undef, undef, undef, undef], defers := [] } ∧
    (Chg NoB w0 w) ∧
    (D 1 = true → RB w w.heap.size A1 g4) ∧
    (D 5 = true → RB w w.heap.size A5 s4) ∧
    (D 10 = true → RB w w.heap.size A10 n4) ∧
    (D 17 = true → RB w w.heap.size A17 q4) ∧
    (D 14 = true → RB w w.heap.size (some ⟨s14, 0, none⟩) b)
set_option maxRecDepth 100000 in
set_option maxHeartbeats 8000000 in
theorem rheader_any (gen sl : Nat) (b : List UInt8) (hg : gen < 4294967296) (hs : sl < 4294967296) (hb : b.length < 4294967296) (W : World) :
    Calls Try.prog 15 #[.int .i64 (gen : Int), .int .i64 (sl : Int), .string ⟨b.toArray⟩] W fun e w' => e = .returned (.string ⟨(hdr gen sl b.length (crcN b)).toArray⟩) ∧ Chg NoB W w' := by
  obtain ⟨g4, hg4⟩ : ∃ g4, g4 = leB gen 4 := ⟨_, rfl⟩
  obtain ⟨s4, hs4⟩ : ∃ s4, s4 = leB sl 4 := ⟨_, rfl⟩
  obtain ⟨n4, hn4⟩ : ∃ n4, n4 = leB b.length 4 := ⟨_, rfl⟩
  obtain ⟨cs, hcs⟩ : ∃ cs, cs = crcN b := ⟨_, rfl⟩
  obtain ⟨q4, hq4⟩ : ∃ q4, q4 = leB cs 4 := ⟨_, rfl⟩
  obtain ⟨mk, hmk⟩ : ∃ mk : List UInt8, mk = [86, 65, 76, 83] := ⟨_, rfl⟩
  have HG4 := Lib.hid (show g4 = leB gen 4 ∧ g4.length = 4 from ⟨hg4, by rw [hg4, leB_len]⟩)
  have HS4 := Lib.hid (show s4 = leB sl 4 ∧ s4.length = 4 from ⟨hs4, by rw [hs4, leB_len]⟩)
  have HN4 := Lib.hid (show n4 = leB b.length 4 ∧ n4.length = 4 from ⟨hn4, by rw [hn4, leB_len]⟩)
  have HQ4 := Lib.hid (show q4 = leB cs 4 ∧ q4.length = 4 from ⟨hq4, by rw [hq4, leB_len]⟩)
  have HCS := Lib.hid (show cs = crcN b ∧ cs < 4294967296 from ⟨hcs, by rw [hcs]; exact crcN_lt _⟩)
  have HMK := Lib.hid (show mk = [86, 65, 76, 83] ∧ mk.length = 4 from ⟨hmk, by rw [hmk]; rfl⟩)
  have HGB := Lib.hid (And.intro hg (And.intro hs hb))
  have a0 : ∀ (x : List UInt8) (w : World), x.length ≤ 1000 → (Op.stringOp .add ⟨#[86, 65, 76, 83]⟩ ⟨x.toArray⟩).run Try.prog w = .ok (.string ⟨(mk ++ x).toArray⟩) w := by
    intro x w hx; rw [hmk]; exact run_add_lists Try.prog [86, 65, 76, 83] x (by simp; omega) w
  have A0 := Lib.hid a0
  clear hg4 hs4 hn4 hcs hq4 hmk hg hs hb a0
  go_enter Try.func15, Try.ntmps15
  go_wp2_with fail
  refine wp_region_cl rfl (by kernel_rfl) (InvRH1 gen sl cs b mk g4 s4 n4 q4 W) ?_ ?_ ?_
  · exact ⟨none, 0, none, 0, none, 0, none, 0, 0, 0, rfl, (Chg.refl _ _).drew, (fun h => by cases h), (fun h => by cases h), (fun h => by cases h), (fun h => by cases h), (fun h => by cases h)⟩
  ·
    intro D a w i o ho hD hcl hpre hI
    obtain ⟨A1, c1, A5, c5, A10, c10, A17, c17, s14, c14, rfl, h0, h1, h5, h10, h17, h14⟩ := hI
    have hi : i < 21 := by have := (List.getElem?_eq_some_iff.1 ho).1; simpa using this
    rcases (by omega : i = 0 ∨ i = 1 ∨ i = 2 ∨ i = 3 ∨ i = 4 ∨ i = 5 ∨ i = 6 ∨ i = 7 ∨ i = 8 ∨ i = 9 ∨ i = 10 ∨ i = 11 ∨ i = 12 ∨ i = 13 ∨ i = 14 ∨ i = 15 ∨ i = 16 ∨ i = 17 ∨ i = 18 ∨ i = 19 ∨ i = 20) with rfl | rfl | rfl | rfl | rfl | rfl | rfl | rfl | rfl | rfl | rfl | rfl | rfl | rfl | rfl | rfl | rfl | rfl | rfl | rfl | rfl
    · obtain rfl := Option.some.inj ho
      clear ho hpre hi hcl
      go_wp2_with fail
      unfold AtEnd
      exact ⟨A1, c1, A5, c5, A10, c10, A17, c17, s14, c14, rfl, h0, fun h => h1 (by simpa [more] using h), fun h => h5 (by simpa [more] using h), fun h => h10 (by simpa [more] using h), fun h => h17 (by simpa [more] using h), fun h => h14 (by simpa [more] using h)⟩
    · obtain rfl := Option.some.inj ho
      have z0 := hpre ⟨0, .data⟩ (by simp) rfl
      clear ho hpre hi hcl
      have H0 := Lib.hid h0
      have K1 := Lib.hid h1
      have K5 := Lib.hid h5
      have K10 := Lib.hid h10
      have K17 := Lib.hid h17
      have K14 := Lib.hid h14
      clear h0 h1 h5 h10 h17 h14
      simp only [z0, slot_true]
      go_wp2_with fail
      refine (rbytes_any gen 4 (by decide) (by have := HGB.out.1; omega) _).mono ?_
      rw [← HG4.out.1]
      rintro e w1 ⟨⟨v, rfl, ho⟩, hc1⟩
      obtain ⟨A, n, c, rfl, hn, hr, _, _⟩ := ho.val
      obtain rfl : n = 4 := by rw [← hn, HG4.out.2]
      clear ho hn
      go_wp2_with fail
      unfold AtEnd
      exact ⟨A, c, A5, c5, A10, c10, A17, c17, s14, c14, by simp only [more, slot_true, slot_false, Nat.reduceEqDiff, ↓reduceIte, z0], H0.out.trans hc1 (fun _ _ h => h), fun _ => hr, fun h => RBchg (K5.out (by simpa [more] using h)) hc1, fun h => RBchg (K10.out (by simpa [more] using h)) hc1, fun h => RBchg (K17.out (by simpa [more] using h)) hc1, fun h => RBchg (K14.out (by simpa [more] using h)) hc1⟩
    · obtain rfl := Option.some.inj ho
      have z1 := hpre ⟨1, .data⟩ (by simp) rfl
      clear ho hpre hi hcl
      have hst := (h1 z1).toStr (n := 4) HG4.out.2 c1 Try.underlying25 Try.underlying5 Try.underlying9
      simp only [z1, slot_true]
      go_wp2_with fail
      unfold AtEnd
      exact ⟨A1, c1, A5, c5, A10, c10, A17, c17, s14, c14, by simp only [more, slot_true, slot_false, Nat.reduceEqDiff, ↓reduceIte, z1], h0, fun h => h1 (by simpa [more] using h), fun h => h5 (by simpa [more] using h), fun h => h10 (by simpa [more] using h), fun h => h17 (by simpa [more] using h), fun h => h14 (by simpa [more] using h)⟩
    · obtain rfl := Option.some.inj ho
      have z2 := hpre ⟨2, .data⟩ (by simp) rfl
      clear ho hpre hi hcl
      have ha := A0.out g4 w (by have := HG4.out.2; omega)
      simp only [z2, slot_true]
      go_wp2_with fail
      unfold AtEnd
      exact ⟨A1, c1, A5, c5, A10, c10, A17, c17, s14, c14, by simp only [more, slot_true, slot_false, Nat.reduceEqDiff, ↓reduceIte, z2], h0, fun h => h1 (by simpa [more] using h), fun h => h5 (by simpa [more] using h), fun h => h10 (by simpa [more] using h), fun h => h17 (by simpa [more] using h), fun h => h14 (by simpa [more] using h)⟩
    · obtain rfl := Option.some.inj ho
      clear ho hpre hi hcl
      go_wp2_with fail
      unfold AtEnd
      exact ⟨A1, c1, A5, c5, A10, c10, A17, c17, s14, c14, rfl, h0, fun h => h1 (by simpa [more] using h), fun h => h5 (by simpa [more] using h), fun h => h10 (by simpa [more] using h), fun h => h17 (by simpa [more] using h), fun h => h14 (by simpa [more] using h)⟩
    · obtain rfl := Option.some.inj ho
      have z4 := hpre ⟨4, .data⟩ (by simp) rfl
      have z1 := hpre ⟨1, .chain⟩ (by simp) rfl
      clear ho hpre hi hcl
      have H0 := Lib.hid h0
      have K1 := Lib.hid h1
      have K5 := Lib.hid h5
      have K10 := Lib.hid h10
      have K17 := Lib.hid h17
      have K14 := Lib.hid h14
      clear h0 h1 h5 h10 h17 h14
      simp only [z4, slot_true]
      go_wp2_with fail
      refine (rbytes_any sl 4 (by decide) (by have := HGB.out.2.1; omega) _).mono ?_
      rw [← HS4.out.1]
      rintro e w1 ⟨⟨v, rfl, ho⟩, hc1⟩
      obtain ⟨A, n, c, rfl, hn, hr, _, _⟩ := ho.val
      obtain rfl : n = 4 := by rw [← hn, HS4.out.2]
      clear ho hn
      go_wp2_with fail
      unfold AtEnd
      exact ⟨A1, c1, A, c, A10, c10, A17, c17, s14, c14, by simp only [more, slot_true, slot_false, Nat.reduceEqDiff, ↓reduceIte, z4, z1], H0.out.trans hc1 (fun _ _ h => h), fun h => RBchg (K1.out (by simpa [more] using h)) hc1, fun _ => hr, fun h => RBchg (K10.out (by simpa [more] using h)) hc1, fun h => RBchg (K17.out (by simpa [more] using h)) hc1, fun h => RBchg (K14.out (by simpa [more] using h)) hc1⟩
    · obtain rfl := Option.some.inj ho
      have z5 := hpre ⟨5, .data⟩ (by simp) rfl
      clear ho hpre hi hcl
      have hst := (h5 z5).toStr (n := 4) HS4.out.2 c5 Try.underlying25 Try.underlying5 Try.underlying9
      simp only [z5, slot_true]
      go_wp2_with fail
      unfold AtEnd
      exact ⟨A1, c1, A5, c5, A10, c10, A17, c17, s14, c14, by simp only [more, slot_true, slot_false, Nat.reduceEqDiff, ↓reduceIte, z5], h0, fun h => h1 (by simpa [more] using h), fun h => h5 (by simpa [more] using h), fun h => h10 (by simpa [more] using h), fun h => h17 (by simpa [more] using h), fun h => h14 (by simpa [more] using h)⟩
    · obtain rfl := Option.some.inj ho
      have z3 := hpre ⟨3, .data⟩ (by simp) rfl
      have z6 := hpre ⟨6, .data⟩ (by simp) rfl
      clear ho hpre hi hcl
      have ha := run_add_lists Try.prog (mk ++ g4) (s4) (by have h1 := HMK.out.2; have h2 := HG4.out.2; have h3 := HS4.out.2; have h4 := HN4.out.2; have h5 := HQ4.out.2; simp only [List.length_append]; omega) w
      simp only [List.append_assoc] at ha
      simp only [z3, z6, slot_true]
      go_wp2_with fail
      unfold AtEnd
      exact ⟨A1, c1, A5, c5, A10, c10, A17, c17, s14, c14, by simp only [more, slot_true, slot_false, Nat.reduceEqDiff, ↓reduceIte, z3, z6], h0, fun h => h1 (by simpa [more] using h), fun h => h5 (by simpa [more] using h), fun h => h10 (by simpa [more] using h), fun h => h17 (by simpa [more] using h), fun h => h14 (by simpa [more] using h)⟩
    · obtain rfl := Option.some.inj ho
      clear ho hpre hi hcl
      go_wp2_with fail
      unfold AtEnd
      exact ⟨A1, c1, A5, c5, A10, c10, A17, c17, s14, c14, rfl, h0, fun h => h1 (by simpa [more] using h), fun h => h5 (by simpa [more] using h), fun h => h10 (by simpa [more] using h), fun h => h17 (by simpa [more] using h), fun h => h14 (by simpa [more] using h)⟩
    · obtain rfl := Option.some.inj ho
      have z8 := hpre ⟨8, .data⟩ (by simp) rfl
      clear ho hpre hi hcl
      go_wp2_with fail
      unfold AtEnd
      exact ⟨A1, c1, A5, c5, A10, c10, A17, c17, s14, c14, by simp only [more, slot_true, slot_false, Nat.reduceEqDiff, ↓reduceIte, z8], h0, fun h => h1 (by simpa [more] using h), fun h => h5 (by simpa [more] using h), fun h => h10 (by simpa [more] using h), fun h => h17 (by simpa [more] using h), fun h => h14 (by simpa [more] using h)⟩
    · obtain rfl := Option.some.inj ho
      have z9 := hpre ⟨9, .data⟩ (by simp) rfl
      have z5 := hpre ⟨5, .chain⟩ (by simp) rfl
      clear ho hpre hi hcl
      have H0 := Lib.hid h0
      have K1 := Lib.hid h1
      have K5 := Lib.hid h5
      have K10 := Lib.hid h10
      have K17 := Lib.hid h17
      have K14 := Lib.hid h14
      clear h0 h1 h5 h10 h17 h14
      simp only [z9, slot_true]
      go_wp2_with fail
      refine (rbytes_any b.length 4 (by decide) (by have := HGB.out.2.2; omega) _).mono ?_
      rw [← HN4.out.1]
      rintro e w1 ⟨⟨v, rfl, ho⟩, hc1⟩
      obtain ⟨A, n, c, rfl, hn, hr, _, _⟩ := ho.val
      obtain rfl : n = 4 := by rw [← hn, HN4.out.2]
      clear ho hn
      go_wp2_with fail
      unfold AtEnd
      exact ⟨A1, c1, A5, c5, A, c, A17, c17, s14, c14, by simp only [more, slot_true, slot_false, Nat.reduceEqDiff, ↓reduceIte, z9, z5], H0.out.trans hc1 (fun _ _ h => h), fun h => RBchg (K1.out (by simpa [more] using h)) hc1, fun h => RBchg (K5.out (by simpa [more] using h)) hc1, fun _ => hr, fun h => RBchg (K17.out (by simpa [more] using h)) hc1, fun h => RBchg (K14.out (by simpa [more] using h)) hc1⟩
    · obtain rfl := Option.some.inj ho
      have z10 := hpre ⟨10, .data⟩ (by simp) rfl
      clear ho hpre hi hcl
      have hst := (h10 z10).toStr (n := 4) HN4.out.2 c10 Try.underlying25 Try.underlying5 Try.underlying9
      simp only [z10, slot_true]
      go_wp2_with fail
      unfold AtEnd
      exact ⟨A1, c1, A5, c5, A10, c10, A17, c17, s14, c14, by simp only [more, slot_true, slot_false, Nat.reduceEqDiff, ↓reduceIte, z10], h0, fun h => h1 (by simpa [more] using h), fun h => h5 (by simpa [more] using h), fun h => h10 (by simpa [more] using h), fun h => h17 (by simpa [more] using h), fun h => h14 (by simpa [more] using h)⟩
    · obtain rfl := Option.some.inj ho
      have z7 := hpre ⟨7, .data⟩ (by simp) rfl
      have z11 := hpre ⟨11, .data⟩ (by simp) rfl
      clear ho hpre hi hcl
      have ha := run_add_lists Try.prog (mk ++ (g4 ++ s4)) (n4) (by have h1 := HMK.out.2; have h2 := HG4.out.2; have h3 := HS4.out.2; have h4 := HN4.out.2; have h5 := HQ4.out.2; simp only [List.length_append]; omega) w
      simp only [List.append_assoc] at ha
      simp only [z7, z11, slot_true]
      go_wp2_with fail
      unfold AtEnd
      exact ⟨A1, c1, A5, c5, A10, c10, A17, c17, s14, c14, by simp only [more, slot_true, slot_false, Nat.reduceEqDiff, ↓reduceIte, z7, z11], h0, fun h => h1 (by simpa [more] using h), fun h => h5 (by simpa [more] using h), fun h => h10 (by simpa [more] using h), fun h => h17 (by simpa [more] using h), fun h => h14 (by simpa [more] using h)⟩
    · obtain rfl := Option.some.inj ho
      clear ho hpre hi hcl
      go_wp2_with fail
      unfold AtEnd
      exact ⟨A1, c1, A5, c5, A10, c10, A17, c17, s14, c14, rfl, h0, fun h => h1 (by simpa [more] using h), fun h => h5 (by simpa [more] using h), fun h => h10 (by simpa [more] using h), fun h => h17 (by simpa [more] using h), fun h => h14 (by simpa [more] using h)⟩
    · obtain rfl := Option.some.inj ho
      have z13 := hpre ⟨13, .data⟩ (by simp) rfl
      clear ho hpre hi hcl
      obtain ⟨c, w1, hcv, hr, _, hc1, _, _⟩ := str_rb w b
      have H0 := Lib.hid h0
      have K1 := Lib.hid h1
      have K5 := Lib.hid h5
      have K10 := Lib.hid h10
      have K17 := Lib.hid h17
      have K14 := Lib.hid h14
      clear h0 h1 h5 h10 h17 h14
      simp only [z13, slot_true]
      go_wp2_with fail
      unfold AtEnd
      exact ⟨A1, c1, A5, c5, A10, c10, A17, c17, w.heap.size, c, by simp only [more, slot_true, slot_false, Nat.reduceEqDiff, ↓reduceIte, z13], H0.out.trans hc1 (fun _ _ h => h), fun h => RBchg (K1.out (by simpa [more] using h)) hc1, fun h => RBchg (K5.out (by simpa [more] using h)) hc1, fun h => RBchg (K10.out (by simpa [more] using h)) hc1, fun h => RBchg (K17.out (by simpa [more] using h)) hc1, fun _ => hr⟩
    · obtain rfl := Option.some.inj ho
      have z14 := hpre ⟨14, .data⟩ (by simp) rfl
      have z10 := hpre ⟨10, .chain⟩ (by simp) rfl
      clear ho hpre hi hcl
      have hrb := h14 z14
      have HRW := Lib.hid hrb
      clear hrb
      simp only [z14, slot_true]
      go_wp2_with fail
      refine (rsum_any _ b b.length c14 rfl _ _ HRW.out (by have := HGB.out.2.2; omega)).mono ?_
      rintro e w7 ⟨rfl, rfl⟩
      rw [crcN_U, ← HCS.out.1]
      go_wp2_with fail
      unfold AtEnd
      exact ⟨A1, c1, A5, c5, A10, c10, A17, c17, s14, c14, by simp only [more, slot_true, slot_false, Nat.reduceEqDiff, ↓reduceIte, z14, z10], h0, fun h => h1 (by simpa [more] using h), fun h => h5 (by simpa [more] using h), fun h => h10 (by simpa [more] using h), fun h => h17 (by simpa [more] using h), fun h => h14 (by simpa [more] using h)⟩
    · obtain rfl := Option.some.inj ho
      have z15 := hpre ⟨15, .data⟩ (by simp) rfl
      clear ho hpre hi hcl
      have hcb := HCS.out.2
      go_wp2_with fail
      unfold AtEnd
      exact ⟨A1, c1, A5, c5, A10, c10, A17, c17, s14, c14, by simp only [more, slot_true, slot_false, Nat.reduceEqDiff, ↓reduceIte, z15], h0, fun h => h1 (by simpa [more] using h), fun h => h5 (by simpa [more] using h), fun h => h10 (by simpa [more] using h), fun h => h17 (by simpa [more] using h), fun h => h14 (by simpa [more] using h)⟩
    · obtain rfl := Option.some.inj ho
      have z16 := hpre ⟨16, .data⟩ (by simp) rfl
      have z15 := hpre ⟨15, .chain⟩ (by simp) rfl
      clear ho hpre hi hcl
      have H0 := Lib.hid h0
      have K1 := Lib.hid h1
      have K5 := Lib.hid h5
      have K10 := Lib.hid h10
      have K17 := Lib.hid h17
      have K14 := Lib.hid h14
      clear h0 h1 h5 h10 h17 h14
      simp only [z16, slot_true]
      go_wp2_with fail
      refine (rbytes_any cs 4 (by decide) (by have := HCS.out.2; omega) _).mono ?_
      rw [← HQ4.out.1]
      rintro e w1 ⟨⟨v, rfl, ho⟩, hc1⟩
      obtain ⟨A, n, c, rfl, hn, hr, _, _⟩ := ho.val
      obtain rfl : n = 4 := by rw [← hn, HQ4.out.2]
      clear ho hn
      go_wp2_with fail
      unfold AtEnd
      exact ⟨A1, c1, A5, c5, A10, c10, A, c, s14, c14, by simp only [more, slot_true, slot_false, Nat.reduceEqDiff, ↓reduceIte, z16, z15], H0.out.trans hc1 (fun _ _ h => h), fun h => RBchg (K1.out (by simpa [more] using h)) hc1, fun h => RBchg (K5.out (by simpa [more] using h)) hc1, fun h => RBchg (K10.out (by simpa [more] using h)) hc1, fun _ => hr, fun h => RBchg (K14.out (by simpa [more] using h)) hc1⟩
    · obtain rfl := Option.some.inj ho
      have z17 := hpre ⟨17, .data⟩ (by simp) rfl
      clear ho hpre hi hcl
      have hst := (h17 z17).toStr (n := 4) HQ4.out.2 c17 Try.underlying25 Try.underlying5 Try.underlying9
      simp only [z17, slot_true]
      go_wp2_with fail
      unfold AtEnd
      exact ⟨A1, c1, A5, c5, A10, c10, A17, c17, s14, c14, by simp only [more, slot_true, slot_false, Nat.reduceEqDiff, ↓reduceIte, z17], h0, fun h => h1 (by simpa [more] using h), fun h => h5 (by simpa [more] using h), fun h => h10 (by simpa [more] using h), fun h => h17 (by simpa [more] using h), fun h => h14 (by simpa [more] using h)⟩
    · obtain rfl := Option.some.inj ho
      have z12 := hpre ⟨12, .data⟩ (by simp) rfl
      have z18 := hpre ⟨18, .data⟩ (by simp) rfl
      clear ho hpre hi hcl
      have ha := run_add_lists Try.prog (mk ++ (g4 ++ (s4 ++ n4))) (q4) (by have h1 := HMK.out.2; have h2 := HG4.out.2; have h3 := HS4.out.2; have h4 := HN4.out.2; have h5 := HQ4.out.2; simp only [List.length_append]; omega) w
      simp only [List.append_assoc] at ha
      simp only [z12, z18, slot_true]
      go_wp2_with fail
      unfold AtEnd
      exact ⟨A1, c1, A5, c5, A10, c10, A17, c17, s14, c14, by simp only [more, slot_true, slot_false, Nat.reduceEqDiff, ↓reduceIte, z12, z18], h0, fun h => h1 (by simpa [more] using h), fun h => h5 (by simpa [more] using h), fun h => h10 (by simpa [more] using h), fun h => h17 (by simpa [more] using h), fun h => h14 (by simpa [more] using h)⟩
    · obtain rfl := Option.some.inj ho
      have z19 := hpre ⟨19, .data⟩ (by simp) rfl
      have z17 := hpre ⟨17, .chain⟩ (by simp) rfl
      clear ho hpre hi hcl
      go_wp2_with fail
      unfold AtEnd
      exact ⟨A1, c1, A5, c5, A10, c10, A17, c17, s14, c14, by simp only [more, slot_true, slot_false, Nat.reduceEqDiff, ↓reduceIte, z19, z17], h0, fun h => h1 (by simpa [more] using h), fun h => h5 (by simpa [more] using h), fun h => h10 (by simpa [more] using h), fun h => h17 (by simpa [more] using h), fun h => h14 (by simpa [more] using h)⟩
  · intro D a w hall hI
    obtain ⟨A1, c1, A5, c5, A10, c10, A17, c17, s14, c14, rfl, h0, h1, h5, h10, h17, h14⟩ := hI
    have z0 := hall 0 (by decide)
    have z1 := hall 1 (by decide)
    have z2 := hall 2 (by decide)
    have z3 := hall 3 (by decide)
    have z4 := hall 4 (by decide)
    have z5 := hall 5 (by decide)
    have z6 := hall 6 (by decide)
    have z7 := hall 7 (by decide)
    have z8 := hall 8 (by decide)
    have z9 := hall 9 (by decide)
    have z10 := hall 10 (by decide)
    have z11 := hall 11 (by decide)
    have z12 := hall 12 (by decide)
    have z13 := hall 13 (by decide)
    have z14 := hall 14 (by decide)
    have z15 := hall 15 (by decide)
    have z16 := hall 16 (by decide)
    have z17 := hall 17 (by decide)
    have z18 := hall 18 (by decide)
    have z19 := hall 19 (by decide)
    have z20 := hall 20 (by decide)
    clear hall h1 h5 h10 h17 h14
    simp only [z0, z1, z2, z3, z4, z5, z6, z7, z8, z9, z10, z11, z12, z13, z14, z15, z16, z17, z18, z19, z20, slot_true]
    clear z0 z1 z2 z3 z4 z5 z6 z7 z8 z9 z10 z11 z12 z13 z14 z15 z16 z17 z18 z19 z20
    obtain ⟨X, hX⟩ : ∃ X, X = mk ++ (g4 ++ (s4 ++ (n4 ++ q4))) := ⟨_, rfl⟩
    rw [← hX]
    have hxl : X.length = 20 := by rw [hX]; simp only [List.length_append, HMK.out.2, HG4.out.2, HS4.out.2, HN4.out.2, HQ4.out.2]
    have HX := Lib.hid (show X = mk ++ (g4 ++ (s4 ++ (n4 ++ q4))) ∧ X.length = 20 from ⟨hX, hxl⟩)
    obtain ⟨c2, w2, hcv, hr2, _, hch2, _, _⟩ := str_rb w X
    rw [hxl] at hcv
    obtain ⟨t, ht⟩ : ∃ t, t = crcN X := ⟨_, rfl⟩
    obtain ⟨t4, ht4⟩ : ∃ t4, t4 = leB t 4 := ⟨_, rfl⟩
    have HT := Lib.hid (show t = crcN X ∧ t < 4294967296 from ⟨ht, by rw [ht]; exact crcN_lt _⟩)
    have HT4 := Lib.hid (show t4 = leB t 4 ∧ t4.length = 4 from ⟨ht4, by rw [ht4, leB_len]⟩)
    have HC2 := Lib.hid (h0.trans hch2 (fun _ _ h => h))
    have HR2 := Lib.hid hr2
    clear ht ht4 hX hxl hr2 hch2 h0
    go_wp2_with fail
    refine (rsum_any _ X 20 c2 HX.out.2 _ w2 HR2.out (by decide)).mono ?_
    rintro e w3 ⟨rfl, rfl⟩
    rw [crcN_U, ← HT.out.1]
    clear hcv
    have htb := HT.out.2
    go_wp2_with fail
    refine (rbytes_any t 4 (by decide) (by omega) _).mono ?_
    rw [← HT4.out.1]
    rintro e w3 ⟨⟨v, rfl, ho⟩, hc3⟩
    obtain ⟨A3, n3, c3, rfl, hn3, hr3, _, _⟩ := ho.val
    obtain rfl : n3 = 4 := by rw [← hn3, HT4.out.2]
    have hst := hr3.toStr (n := 4) hn3 c3 Try.underlying25 Try.underlying5 Try.underlying9
    have hadd := run_add_lists Try.prog X t4 (by rw [HX.out.2, HT4.out.2]; decide) w3
    obtain ⟨Y, hY⟩ : ∃ Y, Y = X ++ t4 := ⟨_, rfl⟩
    rw [← hY] at hadd
    have hyl : Y.length = 24 := by rw [hY, List.length_append, HX.out.2, HT4.out.2]
    have HY := Lib.hid (show Y = X ++ t4 ∧ Y.length = 24 from ⟨hY, hyl⟩)
    have HC3 := Lib.hid (HC2.out.trans hc3 (fun _ _ h => h))
    obtain ⟨Z, hZ⟩ : ∃ Z : List UInt8, Z = List.replicate 488 0 := ⟨_, rfl⟩
    have HZ := Lib.hid (show Z = List.replicate 488 0 ∧ Z.length = 488 from ⟨hZ, by rw [hZ, List.length_replicate]⟩)
    have hmz := make_zN 488 (by decide) 488 rfl w3
    rw [← hZ] at hmz
    obtain ⟨w4, hw4⟩ : ∃ w4, w4 = w3.alloc (.cells (Z.map bv).toArray 5) := ⟨_, rfl⟩
    have hrz : RB w4 (w3.heap.size + 1) (some ⟨w3.heap.size, 0, none⟩) Z := by rw [hw4]; exact RB.of_row (heap_alloc_new _ _) _ (by simp) (by omega)
    rw [← hw4] at hmz
    have HC4 := Lib.hid (show Chg NoB W w4 from by rw [hw4]; exact HC3.out.alloc _)
    have hsz := hrz.toStr (n := 488) HZ.out.2 488 Try.underlying25 Try.underlying5 Try.underlying9
    have hadz := run_add_lists Try.prog Y Z (by rw [hyl, HZ.out.2]; decide) w4
    clear hZ hw4
    clear ho hn3 hr3 hc3 hY hrz
    go_wp2_with fail
    go_ret
    refine ⟨?_, HC4.out⟩
    rw [HZ.out.1, HY.out.1, HT4.out.1, HT.out.1, HX.out.1, HMK.out.1, HG4.out.1, HS4.out.1, HN4.out.1, HQ4.out.1, HCS.out.1]
    simp [hdr, hd24, hd20, magic]
end Go.Proofs.Ytlhfhhbafhnbkaa
