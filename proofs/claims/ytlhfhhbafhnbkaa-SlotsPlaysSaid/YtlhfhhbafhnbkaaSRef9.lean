/-
  THE REFERENCE's New.
-/
import Derived.Test.YtlhfhhbafhnbkaaSRef8
namespace Go.Proofs.Ytlhfhhbafhnbkaa
open Go.RowKit
set_option linter.unusedSimpArgs false
set_option linter.unusedVariables false
set_option maxRecDepth 100000 in
set_option maxHeartbeats 4000000 in
theorem rnew_bad (n : Int) (w : World) (h : n < 1 ∨ 8192 < n) : Calls Try.prog 14 #[.int .i64 n] w fun e w' => e = .returned (.tuple #[.agg #[.slice none 0 0, .slice none 0 0, .int .i64 0, .bool false], .int .i64 2]) ∧ Chg NoB w w' := by
  have hbr := Blk.new w 34 #[.slice none 0 0, .slice none 0 0, .int .i64 0, .bool false]
  have HBR := Lib.hid hbr
  clear hbr
  go_enter Try.func14, Try.ntmps14
  go_wp2_with (first
    | (refine wpList_store_blk rfl 34 _ _ rfl w.heap.size _ rfl rfl 34 _ HBR.out rfl rd_size (by simp [Value.oneCell']) ?_)
    | fail)
  all_goals first | (exfalso; omega) | skip
  all_goals
    try simp only [Exit.inBlock, Exit.then]
    refine bodyPost_ret (rd_ret2 rfl _ _ w.heap.size 34 _ _ _ _ rfl (HBR.out.row _)) rfl ⟨rfl, ((Chg.refl NoB w).alloc _).setRow (.inr (Nat.le_refl _)) _⟩
theorem make_z512 (w : World) : (Instr.makeSlice 25 (.int .i64 512) (.int .i64 512)).run Try.prog w = .ok (.slice (some ⟨w.heap.size, 0, none⟩) 512 512) (w.alloc (.cells (blkC zeros) 5)) := by
  obtain ⟨i, hi, hz, hs, hb⟩ := byte_full
  have h := run_makeSlice w 25 5 i _ Try.underlying25 hi hz .i64 .i64 512 512 (by omega) (by omega) (by rw [hs]; omega) (by rw [hb]; omega) (by omega)
  rw [h, hs]
  have hv : (Value.int .u8 0).cells = #[.int .u8 0] := rfl
  have h1 : ∀ N, madeCells #[.int .u8 0] (N * 1) = Array.replicate N (.int .u8 0) := by
    intro N
    apply Array.ext <;> simp [madeCells, Nat.mod_one]
  have h2 : blkC zeros = Array.replicate 512 (.int .u8 0) := by
    have h3 : ((List.replicate 512 (0 : UInt8)).map bv).toArray = Array.replicate 512 (.int .u8 0) := by
      rw [List.map_replicate]; exact List.toArray_replicate _ _
    exact h3
  rw [hv, h1, h2]
  rfl
def InvRN (W j c0 : Nat) (A0 : Option Addr) (ni : Int) (d1 d2 : Bool) (u17 u18 u19 u20 u21 u22 u23 u24 u25 : Value) (arr : Array UInt8) (xs : List Value) (w0 : World) (D : Nat → Bool) (a : Act) (w : World) : Prop :=
  ∃ (s2 : Nat) (s4 : Nat) (v5 : Value), a = { tmps := #[.int .i64 ni, undef, .pointer (some ⟨W, 0, none⟩), .int .i64 0, .pointer (some ⟨W + 1, 0, none⟩), .int .i64 (j : Int), .int .i64 ni, .bool d1, .bool d1, .int .i64 ni, .bool d2, .bool (d1 || d2), undef, .agg #[.slice none 0 0, .slice none 0 0, .int .i64 (-1), .bool false], .int .i64 (j : Int), .int .i64 ni, .bool true, u17, u18, (slot (D 0) (.pointer (some ⟨W + 1, 0, none⟩)) (u19)), (slot (D 1) (.slice A0 j c0) (u20)), (slot (D 2) (.slice (some ⟨s2, 0, none⟩) 512 512) (u21)), (slot (D 3) (.string ⟨arr⟩) (u22)), (slot (D 4) (.slice (some ⟨s4, 0, none⟩) 1 1) (u23)), (slot (D 5) (v5) (u24)), (slot (D 6) (.pointer (some ⟨W + 1, 0, none⟩)) (u25)), undef], defers := [] } ∧
    (D 5 = false → Chg NoB w0 w) ∧
    (D 2 = true → D 5 = false → Blk w s2 5 (blkC zeros)) ∧
    (D 4 = true → D 5 = false → Blk w s4 9 #[.string ⟨arr⟩]) ∧
    (D 5 = true → D 7 = false → ∃ wa, Chg NoB w0 wa ∧ wa.grownBy w (Value.slice A0 j c0).ownBlock ∧ w.ownsRow (W + 2) 9 1 v5 (j + 1) (xs ++ [.string ⟨arr⟩]) ∧ (v5.ownBlock = (Value.slice A0 j c0).ownBlock ∨ v5.ownBlock = some wa.heap.size)) ∧
    (D 7 = true → ∃ wa wb, Chg NoB w0 wa ∧ wa.grownBy wb (Value.slice A0 j c0).ownBlock ∧ wb.ownsRow (W + 2) 9 1 v5 (j + 1) (xs ++ [.string ⟨arr⟩]) ∧ (v5.ownBlock = (Value.slice A0 j c0).ownBlock ∨ v5.ownBlock = some wa.heap.size) ∧ w = wb.setCell ⟨W + 1, 0, none⟩ v5)
set_option maxRecDepth 100000 in
set_option maxHeartbeats 8000000 in
theorem rnew_ok (n : Nat) (W0 : World) (h0 : 1 ≤ n) (h1 : n ≤ 8192) : Calls Try.prog 14 #[.int .i64 n] W0 fun e w' => ∃ s p, e = .returned (.tuple #[rkV s p (Dk.new n), .int .i64 0]) ∧ RK w' s p (Dk.new n) n ∧ (∀ b, RowsOf s p b → W0.heap.size ≤ b) ∧ Chg NoB W0 w' := by
  have HN := Lib.hid (show 1 ≤ n ∧ n ≤ 8192 from ⟨h0, h1⟩)
  obtain ⟨ni, hni⟩ : ∃ ni : Int, ni = (n : Int) := ⟨_, rfl⟩
  have HNI := Lib.hid hni
  have g0 : 1 ≤ ni := by omega
  have g1 : ni ≤ 8192 := by omega
  rw [← hni]
  clear h0 h1 hni
  have hbr : Blk ((W0.alloc (.cells #[.slice none 0 0, .slice none 0 0, .int .i64 0, .bool false] 34)).alloc (.cells #[.slice none 0 0, .slice none 0 0, .int .i64 0, .bool false] 34)) W0.heap.size 34 #[.slice none 0 0, .slice none 0 0, .int .i64 0, .bool false] := (Blk.new W0 _ _).alloc _
  have hbd : Blk ((W0.alloc (.cells #[.slice none 0 0, .slice none 0 0, .int .i64 0, .bool false] 34)).alloc (.cells #[.slice none 0 0, .slice none 0 0, .int .i64 0, .bool false] 34)) (W0.heap.size + 1) 34 #[.slice none 0 0, .slice none 0 0, .int .i64 0, .bool false] := by simpa using Blk.new (W0.alloc (.cells #[.slice none 0 0, .slice none 0 0, .int .i64 0, .bool false] 34)) 34 #[.slice none 0 0, .slice none 0 0, .int .i64 0, .bool false]
  have HBR := Lib.hid hbr
  have HBD := Lib.hid hbd
  clear hbr hbd
  go_enter Try.func14, Try.ntmps14
  go_wp2_with (first
    | (refine wpList_store_blk rfl 34 _ _ rfl (W0.heap.size + 1) _ rfl rfl 34 _ HBD.out rfl rd_size (by simp [Value.oneCell']) ?_)
    | fail)
  all_goals first | (exfalso; omega) | skip
  have hcA : Chg NoB W0 (((W0.alloc (.cells #[.slice none 0 0, .slice none 0 0, .int .i64 0, .bool false] 34)).alloc (.cells #[.slice none 0 0, .slice none 0 0, .int .i64 0, .bool false] 34)).setRow (W0.heap.size + 1) #[.slice none 0 0, .slice none 0 0, .int .i64 (-1), .bool false]) := (((Chg.refl _ _).alloc _).alloc _).setRow (.inr (by omega)) _
  have hbA := HBD.out.row #[.slice none 0 0, .slice none 0 0, .int .i64 (-1), .bool false]
  have hrA := HBR.out.farRow (k := W0.heap.size + 1) (by omega) #[.slice none 0 0, .slice none 0 0, .int .i64 (-1), .bool false]
  generalize hwA : ((W0.alloc (.cells #[.slice none 0 0, .slice none 0 0, .int .i64 0, .bool false] 34)).alloc (.cells #[.slice none 0 0, .slice none 0 0, .int .i64 0, .bool false] 34)).setRow (W0.heap.size + 1) #[.slice none 0 0, .slice none 0 0, .int .i64 (-1), .bool false] = wA at hcA hbA hrA ⊢
  have HCA := Lib.hid hcA
  have HBA := Lib.hid hbA
  have HRA := Lib.hid hrA
  clear hwA hcA hbA hrA HBR HBD
  generalize decide (ni < 1) = d1
  generalize decide (8192 < ni) = d2
  go_loopw [5] (fun i wr => ∃ (j : Nat) (v : Value), j ≤ n ∧ i = .int .i64 j ∧ Blk wr (W0.heap.size + 1) 34 #[v, .slice none 0 0, .int .i64 (-1), .bool false] ∧ Blk wr W0.heap.size 34 #[.slice none 0 0, .slice none 0 0, .int .i64 0, .bool false] ∧ wr.ownsRow (W0.heap.size + 2) 9 1 v j (secs zF j) ∧ Chg NoB W0 wr) (fun i _ => n - (intOf i).toNat)
  case atStart => exact ⟨0, _, Nat.zero_le _, rfl, HBA.out, HRA.out, World.ownsRow_nil _ _ _ _, HCA.out⟩
  case round =>
    obtain ⟨j, v, hj, rfl, hb, hr, ho, hch⟩ := hrel
    obtain ⟨A0, c0, rfl⟩ := own_slice ho
    have HB := Lib.hid hb
    have HR := Lib.hid hr
    have HO := Lib.hid ho
    have HCH := Lib.hid hch
    have hni := HNI.out
    clear hb hr ho hch
    by_cases hlt : j < n
    · have hlt2 : (j : Int) < ni := by omega
      have HB0 := Lib.hid (show W0.heap.size + 2 ≤ wr.heap.size from by have h1 := HB.out.lt; omega)
      obtain ⟨arr, harr⟩ : ∃ arr, arr = zeros.toArray := ⟨_, rfl⟩
      have HARR := Lib.hid harr
      obtain ⟨it, hit, hz, hs1, hs2⟩ := str_full
      have HIT := Lib.hid (show Try.prog.info? 9 = some it ∧ it.zero = some (.string ⟨#[]⟩) ∧ it.size = 1 ∧ it.bytes = 16 from ⟨hit, hz, hs1, hs2⟩)
      have hmk := make_z512
      have HJN := Lib.hid (show j < n ∧ n ≤ 8192 from ⟨hlt, HN.out.2⟩)
      clear harr hit hz hs1 hs2 hlt hni
      go_wp2_with fail
      refine wp_region_cl rfl (by kernel_rfl) (InvRN W0.heap.size j c0 A0 ni d1 d2 u17 u18 u19 u20 u21 u22 u23 u24 u25 arr (secs zF j) wr) ?_ ?_ ?_
      · exact ⟨0, 0, undef, rfl, fun _ => (Chg.refl _ _).drew, (fun h _ => by cases h), (fun h _ => by cases h), (fun h _ => by cases h), (fun h => by cases h)⟩
      ·
        intro D a w i o ho hD hcl hpre hI
        obtain ⟨s2, s4, v5, rfl, h0, hb2, hr, h1, h2⟩ := hI
        have hi : i < 8 := by have := (List.getElem?_eq_some_iff.1 ho).1; simpa using this
        rcases (by omega : i = 0 ∨ i = 1 ∨ i = 2 ∨ i = 3 ∨ i = 4 ∨ i = 5 ∨ i = 6 ∨ i = 7) with rfl | rfl | rfl | rfl | rfl | rfl | rfl | rfl
        · obtain rfl := Option.some.inj ho
          clear ho hpre hi hcl
          go_wp2_with fail
          unfold AtEnd
          exact ⟨s2, s4, v5, rfl, fun h => h0 (by simpa [more] using h), fun h1 h2 => hb2 (by simpa [more] using h1) (by simpa [more] using h2), fun h1 h2 => hr (by simpa [more] using h1) (by simpa [more] using h2), fun a1 a2 => h1 (by simpa [more] using a1) (by simpa [more] using a2), fun h => h2 (by simpa [more] using h)⟩
        · obtain rfl := Option.some.inj ho
          have z0 := hpre ⟨0, .data⟩ (by simp) rfl
          have d5 : D 5 = false := (hcl.not_ 5 _ rfl 0 _ rfl rfl hD)
          clear ho hpre hi hcl
          have cq := ((HB.out.chg (h0 d5) (fun h => h)).cell 0)
          go_wp2_with fail
          unfold AtEnd
          exact ⟨s2, s4, v5, by simp only [more, slot_true, slot_false, Nat.reduceEqDiff, ↓reduceIte, z0, d5], fun h => h0 (by simpa [more] using h), fun h1 h2 => hb2 (by simpa [more] using h1) (by simpa [more] using h2), fun h1 h2 => hr (by simpa [more] using h1) (by simpa [more] using h2), fun a1 a2 => h1 (by simpa [more] using a1) (by simpa [more] using a2), fun h => h2 (by simpa [more] using h)⟩
        · obtain rfl := Option.some.inj ho
          have d3 : D 3 = false := (hcl.not_ 3 _ rfl 0 _ rfl rfl hD)
          have d5 : D 5 = false := (hcl.not_ 5 _ rfl 1 _ rfl rfl (hcl.not_ 4 _ rfl 0 _ rfl rfl (hcl.not_ 3 _ rfl 0 _ rfl rfl hD)))
          have d7 : D 7 = false := (hcl.not_ 7 _ rfl 5 _ rfl rfl hD)
          clear ho hpre hi hcl
          have hcl : Chg NoB w (w.alloc (.cells (blkC zeros) 5)) := (Chg.refl _ _).alloc _
          have hnw := Blk.new w 5 (blkC zeros)
          have HNW := Lib.hid hnw
          clear hnw
          go_wp2_with fail
          unfold AtEnd
          exact ⟨w.heap.size, s4, v5, by simp only [more, slot_true, slot_false, Nat.reduceEqDiff, ↓reduceIte, d3, d5, d7], fun _ => (h0 d5).trans hcl (fun _ _ h => h), fun _ _ => HNW.out, fun h1 _ => (hr (by simpa [more] using h1) d5).chg hcl (fun h => h), fun h => by simp [more, d5] at h, fun h => by simp [more, d7] at h⟩
        · obtain rfl := Option.some.inj ho
          have z2 := hpre ⟨2, .data⟩ (by simp) rfl
          have d5 : D 5 = false := (hcl.not_ 5 _ rfl 1 _ rfl rfl (hcl.not_ 4 _ rfl 0 _ rfl rfl hD))
          clear ho hpre hi hcl
          have hst := (blk_RB (l := zeros) (hb2 z2 d5)).toStr (n := 512) zeros_len 512 Try.underlying25 Try.underlying5 Try.underlying9
          rw [← HARR.out] at hst
          go_wp2_with fail
          unfold AtEnd
          exact ⟨s2, s4, v5, by simp only [more, slot_true, slot_false, Nat.reduceEqDiff, ↓reduceIte, z2, d5], fun h => h0 (by simpa [more] using h), fun h1 h2 => hb2 (by simpa [more] using h1) (by simpa [more] using h2), fun h1 h2 => hr (by simpa [more] using h1) (by simpa [more] using h2), fun a1 a2 => h1 (by simpa [more] using a1) (by simpa [more] using a2), fun h => h2 (by simpa [more] using h)⟩
        · obtain rfl := Option.some.inj ho
          have z3 := hpre ⟨3, .data⟩ (by simp) rfl
          have d5 : D 5 = false := (hcl.not_ 5 _ rfl 1 _ rfl rfl hD)
          have d7 : D 7 = false := (hcl.not_ 7 _ rfl 7 _ rfl rfl hD)
          clear ho hpre hi hcl
          have hcl : Chg NoB w (w.alloc (.cells #[.string ⟨arr⟩] 9)) := (Chg.refl _ _).alloc _
          have hnw := Blk.new w 9 #[.string ⟨arr⟩]
          have HNW := Lib.hid hnw
          clear hnw
          simp only [z3, slot_true]
          go_wp2_with fail
          unfold AtEnd
          exact ⟨s2, w.heap.size, v5, by simp only [more, slot_true, slot_false, Nat.reduceEqDiff, ↓reduceIte, z3, d5, d7], fun _ => (h0 d5).trans hcl (fun _ _ h => h), fun h1 _ => (hb2 (by simpa [more] using h1) d5).chg hcl (fun h => h), fun _ _ => HNW.out, fun h => by simp [more, d5] at h, fun h => by simp [more, d7] at h⟩
        · obtain rfl := Option.some.inj ho
          have z1 := hpre ⟨1, .data⟩ (by simp) rfl
          have z4 := hpre ⟨4, .data⟩ (by simp) rfl
          have d7 : D 7 = false := (hcl.not_ 7 _ rfl 1 _ rfl rfl hD)
          clear ho hpre hi hcl
          have hbs := hr z4 hD
          have hov := ownsRow_chg HO.out (h0 hD) (fun _ _ h => h)
          have h00 := h0 hD
          have HBS := Lib.hid hbs
          have HOV := Lib.hid hov
          have HH0 := Lib.hid h00
          clear h0 hr h1 h2 hb2 hbs hov h00
          simp only [z1, z4, slot_true]
          go_wp2_with (at_builtin; refine wpList_append_one _ rfl _ _ _ _ rfl Try.underlying31 it _ 16 (W0.heap.size + 2) HIT.out.1 HIT.out.2.1 HIT.out.2.2.1 HIT.out.2.2.2 rfl _ j _ rfl HOV.out s4 (.string ⟨arr⟩) rfl HBS.out rfl (by have := HJN.out; omega) (by have := HJN.out; unfold maxLen; omega) (Nat.le_trans HB0.out HH0.out.size) ?_; intro v9 w9 ho9 hg9 hv9)
          unfold AtEnd
          exact ⟨s2, s4, v9, by simp only [more, slot_true, slot_false, Nat.reduceEqDiff, ↓reduceIte, z1, z4, d7], fun h => by simp [more] at h, fun _ h => by simp [more] at h, fun _ h => by simp [more] at h, fun _ _ => ⟨w, HH0.out, hg9, ho9, hv9⟩, fun h => by simp [more, d7] at h⟩
        · obtain rfl := Option.some.inj ho
          clear ho hpre hi hcl
          go_wp2_with fail
          unfold AtEnd
          exact ⟨s2, s4, v5, rfl, fun h => h0 (by simpa [more] using h), fun h1 h2 => hb2 (by simpa [more] using h1) (by simpa [more] using h2), fun h1 h2 => hr (by simpa [more] using h1) (by simpa [more] using h2), fun a1 a2 => h1 (by simpa [more] using a1) (by simpa [more] using a2), fun h => h2 (by simpa [more] using h)⟩
        · obtain rfl := Option.some.inj ho
          have z6 := hpre ⟨6, .data⟩ (by simp) rfl
          have z5 := hpre ⟨5, .data⟩ (by simp) rfl
          clear ho hpre hi hcl
          obtain ⟨wa, ha, hgb, hob, hvb⟩ := h1 z5 hD
          obtain ⟨A7, c7, rfl⟩ := own_slice hob
          have hbk := (HB.out.chg ha (fun h => h)).grown hgb (fun e => by have h7 := (HO.out.lt _ e.symm).1; omega)
          have cq := hbk.cell 0
          have fq := hbk.frozen 0
          have HP := Lib.hid (And.intro ha (And.intro hgb (And.intro hob hvb)))
          clear h0 hr h1 h2 hb2 ha hgb hob hvb hbk
          simp only [z5, z6, slot_true]
          go_wp2_with fail
          unfold AtEnd
          exact ⟨s2, s4, (.slice A7 (j + 1) c7), by simp only [more, slot_true, slot_false, Nat.reduceEqDiff, ↓reduceIte, z6, z5], fun h => by simp [more, z5] at h, fun _ h => by simp [more, z5] at h, fun _ h => by simp [more, z5] at h, fun _ h => by simp [more] at h, fun _ => ⟨wa, w, HP.out.1, HP.out.2.1, HP.out.2.2.1, HP.out.2.2.2, rfl⟩⟩
      · intro D a w hall hI
        obtain ⟨s2, s4, v5, rfl, h0, hb2, hr, h1, h2⟩ := hI
        obtain ⟨wa, wb, ha, hgb, hob, hvb, rfl⟩ := h2 (hall 7 (by decide))
        obtain ⟨A5, c5, rfl⟩ := own_slice hob
        have hcb : Chg (fun b => (Value.slice A0 j c0).ownBlock = some b) wa wb := (Chg.refl _ _).grown hgb (fun r e => .inl e)
        have hlow : ∀ b, (Value.slice A0 j c0).ownBlock = some b → W0.heap.size + 2 ≤ b := fun b e => (HO.out.lt b e).1
        have hwb : Chg NoB wr wa := ha
        have hB2 := ((HB.out.chg ha (fun h => h)).chg hcb (fun e => by have := hlow _ e; omega)).set_ 0 (.slice A5 (j + 1) c5)
        have hR2 := ((HR.out.chg ha (fun h => h)).chg hcb (fun e => by have := hlow _ e; omega)).far (p := ⟨W0.heap.size + 1, 0, none⟩) (by simp) (.slice A5 (j + 1) c5)
        have hO2 := ownsRow_chg hob ((Chg.refl (fun b => b = W0.heap.size + 1) wb).setCell (p := ⟨W0.heap.size + 1, 0, none⟩) (.inl rfl) (.slice A5 (j + 1) c5)) (fun i e h => by have h1 := (hob.lt i e).1; have h2 : i = W0.heap.size + 1 := h; omega)
        have hC2 : Chg NoB W0 (wb.setCell ⟨W0.heap.size + 1, 0, none⟩ (.slice A5 (j + 1) c5)) := ((HCH.out.trans ha (fun _ _ h => h)).trans hcb (fun i hi e => by have := hlow _ e; omega)).setCell (.inr (by show W0.heap.size ≤ W0.heap.size + 1; omega)) _
        have HFIN := Lib.hid (And.intro hB2 (And.intro hR2 (And.intro hO2 hC2)))
        clear hall h0 hb2 hr h1 h2 ha hgb hob hvb hcb hlow hwb hB2 hR2 hO2 hC2 hmk
        go_wp2_with fail
        go_roundw
        case rel => exact ⟨j + 1, _, by have := HJN.out.1; omega, by go_num, HFIN.out.1, HFIN.out.2.1, by rw [secs_succ]; have h := HFIN.out.2.2.1; rw [HARR.out] at h; exact h, HFIN.out.2.2.2⟩
        case measure => simp [intOf]; have := HJN.out.1; omega
    · obtain rfl : j = n := by omega
      have k0 := HB.out.cell 0
      have k1 := HB.out.cell 1
      have k2 := HB.out.cell 2
      have k3 := HB.out.cell 3
      go_wp2_with (first
        | (refine wpList_load_row rfl 34 _ rfl (W0.heap.size + 1) rfl 34 _ (0, 0) _ HB.out Try.underlying34 rfl rd_size ?_)
        | (refine wpList_store_blk rfl 34 _ _ rfl W0.heap.size _ rfl rfl 34 _ HR.out rfl rd_size (by simp [Value.oneCell']) ?_)
        | fail)
      try simp only [Exit.inBlock, Exit.then]
      refine bodyPost_ret (rd_ret2 rfl _ _ W0.heap.size 34 _ _ _ _ rfl (HR.out.row _)) rfl ⟨_, _, rfl, ?_, ?_, HCH.out.setRow (.inr (Nat.le_refl _)) _⟩
      · have ho2 := ownsRow_chg HO.out ((Chg.refl (fun b => b = W0.heap.size) wr).setRow (g := W0.heap.size) (.inl rfl) #[.slice A0 j c0, .slice none 0 0, .int .i64 (-1), .bool false]) (fun i e h => by have h1 := (HO.out.lt i e).1; have h2 : i = W0.heap.size := h; omega)
        exact { sure := own_base ho2, loose := World.ownsRow_nil _ _ _ _, num := HNI.out, n0 := HN.out.1, n1 := HN.out.2, rng := fun q hq => (by cases hq), fuse := by show (-1 : Int) ≤ -1 ∧ (-1 : Int) ≤ 9223372036854775807; omega }
      · intro b hb
        rcases hb with hb | hb
        · have h1 := (HO.out.lt b hb).1; omega
        · cases hb
end Go.Proofs.Ytlhfhhbafhnbkaa
