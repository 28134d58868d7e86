/-
  SLOTS: content, the bytes of a slot.
-/
import Derived.Test.YtlhfhhbafhnbkaaSlt3
namespace Go.Proofs.Ytlhfhhbafhnbkaa
open Go.RowKit FieldM CrcM
set_option linter.unusedSimpArgs false
set_option linter.unusedVariables false
/-- so many sectors, one behind the other -/
def catL (f : Int → List UInt8) (from_ : Int) (q : Nat) : List UInt8 := (List.range q).flatMap fun (i : Nat) => f (from_ + (i : Int))
theorem catL_succ (f : Int → List UInt8) (from_ : Int) (q : Nat) : catL f from_ (q + 1) = catL f from_ q ++ f (from_ + (q : Int)) := by
  unfold catL; rw [List.range_succ]; simp
theorem catL_len {f : Int → List UInt8} (hf : ∀ i, (f i).length = 512) (from_ : Int) : ∀ q, (catL f from_ q).length = 512 * q := by
  intro q
  induction q with
  | zero => rfl
  | succ q ih => rw [catL_succ, List.length_append, ih, hf]; omega
/-- the first so many bytes of the sectors from one on -/
def contentL (f : Int → List UInt8) (from_ : Int) (size : Nat) : List UInt8 := (catL f from_ (size / 512 + 1)).take size
theorem catL_take {f : Int → List UInt8} (hf : ∀ i, (f i).length = 512) (from_ : Int) (size : Nat) : ∀ q, size ≤ 512 * q → (catL f from_ q).take size = contentL f from_ size := by
  have up : ∀ d q, size ≤ 512 * q → (catL f from_ (q + d)).take size = (catL f from_ q).take size := by
    intro d
    induction d with
    | zero => intro q _; rfl
    | succ d ih =>
      intro q hq
      rw [← Nat.add_assoc, catL_succ, List.take_append_of_le_length (by rw [catL_len hf]; omega)]
      exact ih q hq
  intro q hq
  unfold contentL
  rcases Nat.le_total q (size / 512 + 1) with h | h
  · obtain ⟨d, hd⟩ := Nat.le.dest h
    rw [← hd]; exact (up d q hq).symm
  · obtain ⟨d, hd⟩ := Nat.le.dest h
    rw [← hd]; exact up d _ (by omega)
theorem contentL_len {f : Int → List UInt8} (hf : ∀ i, (f i).length = 512) (from_ : Int) (size : Nat) : (contentL f from_ size).length = size := by
  unfold contentL
  rw [List.length_take, catL_len hf]; omega
theorem catL_step {f : Int → List UInt8} (hf : ∀ i, (f i).length = 512) (from_ : Int) (size q : Nat) (h : 512 * q < size) :
    (catL f from_ q).take size ++ (f (from_ + (q : Int))).take (min 512 (size - 512 * q)) = (catL f from_ (q + 1)).take size := by
  have h1 : (catL f from_ q).take size = catL f from_ q := List.take_of_length_le (by rw [catL_len hf]; omega)
  rw [h1, catL_succ, List.take_append, h1, catL_len hf]
  congr 1
  rw [Nat.min_def]
  split
  · rw [List.take_of_length_le (by rw [hf]; omega), List.take_of_length_le (by rw [hf]; omega)]
  · rfl
theorem Disk.now_len {F : Nat → Prop} {g : Nat} {K : Dk} {w : World} (h : Disk w F g K) : ∀ i, (K.now i).length = 512 := by
  obtain ⟨bs, bn, v, hd, _⟩ := h
  exact hd.now.len
theorem Disk.sure_len {F : Nat → Prop} {g : Nat} {K : Dk} {w : World} (h : Disk w F g K) : ∀ i, (K.sure i).length = 512 := by
  obtain ⟨bs, bn, v, hd, _⟩ := h
  exact hd.sure.len
theorem Disk.num {F : Nat → Prop} {g : Nat} {K : Dk} {w : World} (h : Disk w F g K) : 1 ≤ K.n ∧ K.n ≤ 8192 := by
  obtain ⟨bs, bn, v, hd, _⟩ := h
  exact ⟨hd.n0, hd.n1⟩
theorem byte_full : ∃ i, Try.prog.info? 5 = some i ∧ i.zero = some (.int .u8 0) ∧ i.size = 1 ∧ i.bytes = 1 := by
  have h := u8_info
  cases hi : Try.prog.info? 5 with
  | none => rw [hi] at h; cases h
  | some i => rw [hi] at h; simp at h; exact ⟨i, rfl, h.1, h.2.1, h.2.2⟩
theorem made_u8' (N : Nat) : madeCells (Value.int .u8 0).cells (N * 1) = Array.replicate N (.int .u8 0) := by
  have hv : (Value.int .u8 0).cells = #[.int .u8 0] := rfl
  rw [hv]
  apply Array.ext <;> simp [madeCells, Nat.mod_one]
set_option maxRecDepth 100000 in
set_option maxHeartbeats 4000000 in
theorem content_any {F : Nat → Prop} {g : Nat} {K : Dk} {W : World} (hD : Disk W F g K) (slot size : Nat) (hs : slot ≤ 1) (hz : (size : Int) ≤ roomZ K.n) (hd : K.dark = false) :
    Calls Try.prog 61 #[.pointer (some ⟨g, 0, none⟩), .int .i64 (slot : Int), .int .i64 (size : Int)] W fun e w' => (∃ v, e = .returned v ∧ OwnB w' W.heap.size v (contentL K.now (1 + slot * halfZ K.n) size)) ∧ Chg NoB W w' := by
  have HD := Lib.hid hD
  have HDA := Lib.hid hd
  obtain ⟨hh, hhe⟩ : ∃ hh, hh = halfZ K.n := ⟨_, rfl⟩
  have hn := hD.num
  have hb : 0 ≤ hh ∧ hh ≤ 4095 ∧ 1 + 2 * hh ≤ K.n := by rw [hhe]; unfold halfZ; omega
  have hsz : (size : Int) ≤ hh * 512 ∧ (size : Int) ≤ 1048576 := by
    unfold roomZ at hz
    rw [← hhe] at hz
    split at hz
    · omega
    · omega
  have HSL := Lib.hid hs
  have HH := Lib.hid hhe
  have HN := Lib.hid hn
  have HB := Lib.hid hb
  rw [← hhe]
  have hmk : ∀ (w : World), (Instr.makeSlice 25 (.int .i64 0) (.int .i64 (size : Int))).run Try.prog w = .ok (.slice (some ⟨w.heap.size, 0, none⟩) 0 size) (w.alloc (.cells (Array.replicate size (.int .u8 0)) 5)) := by
    intro w
    obtain ⟨i, hi, hz, hs, hb⟩ := byte_full
    rw [run_makeSlice w 25 5 i _ Try.underlying25 hi hz .i64 .i64 0 (size : Int) (by omega) (by omega) (by rw [hs]; omega) (by rw [hb]; omega) (by omega), hs]
    simp only [Int.toNat_natCast, Int.toNat_zero, made_u8']
  obtain ⟨b0, b1, b2⟩ := hb
  obtain ⟨z0, z1⟩ := hsz
  clear hz hd hhe hn hD
  go_enter Try.func61, Try.ntmps61
  go_wp2_with fail
  have hwA : Disk (W.alloc (.cells (Array.replicate size (.int .u8 0)) 5)) F g K := HD.out.no ((Chg.refl _ _).alloc _)
  refine hwA.len_.mono ?_
  rintro e w1 ⟨rfl, rfl⟩
  go_wp2_with fail
  refine (half_any K.n HN.out.1 (by have := HN.out.2; omega) _).mono ?_
  rintro e w1 ⟨rfl, rfl⟩
  rw [← HH.out]
  have hmul : RowKit.wrap64 ((slot : Int) * hh) = (slot : Int) * hh := IntWalk.wrap64_in _ (by
    rcases (by omega : slot = 0 ∨ slot = 1) with rfl | rfl <;> simp <;> omega)
  obtain ⟨fr, hfr⟩ : ∃ fr : Int, fr = 1 + (slot : Int) * hh := ⟨_, rfl⟩
  have hfb : 1 ≤ fr ∧ fr ≤ 1 + hh := by rw [hfr]; rcases (by omega : slot = 0 ∨ slot = 1) with rfl | rfl <;> simp <;> omega
  have hadd : RowKit.wrap64 (1 + (slot : Int) * hh) = fr := by rw [hfr]; exact IntWalk.wrap64_in _ (by omega)
  have HFR := Lib.hid hfr
  clear hfr hwA
  go_wp2_with fail
  simp only [hadd]
  have hoA : OwnB (W.alloc (.cells (Array.replicate size (.int .u8 0)) 5)) W.heap.size (.slice (some ⟨W.heap.size, 0, none⟩) 0 size) [] := by
    have h := OwnB.made W (Array.replicate size (.int .u8 0)) (Nat.le_refl _) (by simp; unfold maxLen; omega)
    simpa using h
  have HOA := Lib.hid hoA
  have HDN := Lib.hid HD.out.now_len
  have HFB := Lib.hid hfb
  have HZ := Lib.hid (And.intro z0 z1)
  clear hoA hmul hadd hmk
  go_loopw [7, 8] (fun v i wr => ∃ q : Nat, 512 * q < size + 512 ∧ i = .int .i64 (fr + (q : Int)) ∧ OwnB wr W.heap.size v ((catL K.now fr q).take size) ∧ Chg NoB W wr) (fun _ i _ => (fr + 8192 - intOf i).toNat)
  case atStart => exact ⟨0, by omega, by simp, by simpa [catL] using HOA.out, (Chg.refl _ _).alloc _⟩
  case round =>
    obtain ⟨q, hq, rfl, ho, hch⟩ := hrel
    have HCH := Lib.hid hch
    have HO := Lib.hid ho
    have hql : (q : Int) ≤ hh := by omega
    obtain ⟨A, n, c, rfl, hn, hr, hc, _⟩ := ho.val
    have hnl : n = min size (512 * q) := by rw [← hn, List.length_take, catL_len HDN.out]
    by_cases hlt : 512 * q < size
    · have hnq : n = 512 * q := by omega
      have HNQ := Lib.hid hnq
      have HLT := Lib.hid hlt
      have hlt2 : (n : Int) < size := by omega
      have h0 : readE K (fr + (q : Int)) = 0 := by
        unfold readE
        rw [if_neg (by have := HB.out; omega), if_neg (by rw [HDA.out]; decide)]
      have H0 := Lib.hid h0
      obtain ⟨M, hM⟩ : ∃ M, M = min 512 (size - 512 * q) := ⟨_, rfl⟩
      have HM := Lib.hid hM
      have HQL := Lib.hid hql
      clear ho hch hn hr hc hnl hlt h0 hM hql hnq
      go_wp2_with fail
      refine ((HD.out.no HCH.out).read (fr + (q : Int))).mono ?_
      rintro e w5 (⟨hne, _⟩ | ⟨_, ⟨gb, rfl, hgb, hb5⟩, hc5⟩)
      · exact absurd H0.out hne
      have HO5 := Lib.hid (HO.out.chg hc5 (fun _ _ h => h))
      have HR5 := Lib.hid ((blk_RB (l := K.now (fr + (q : Int))) hb5).take M)
      have HC5 := Lib.hid (HCH.out.trans hc5 (fun _ _ h => h))
      have HML := Lib.hid (show ((K.now (fr + (q : Int))).take M).length = M from by rw [List.length_take, HDN.out, HM.out]; omega)
      have HST := Lib.hid (catL_step HDN.out fr size q HLT.out)
      clear hgb hb5 hc5
      by_cases hm : 512 ≤ size - n
      · obtain rfl : M = 512 := by rw [HM.out, ← HNQ.out]; omega
        have hm2 : (512 : Int) ≤ (size : Int) - (n : Int) := by omega
        clear hm
        go_wp2_with (first
          | (at_builtin; refine wpList_appendB rfl _ _ rfl W.heap.size _ ((catL K.now fr q).take size) rfl HO5.out w5.heap.size _ _ _ _ HML.out rfl HR5.out (by rw [List.length_take, HML.out]; omega) HC5.out.size ?_; intro v9 w9 ho9 hg9 hv9)
          | fail)
        refine ⟨⟨q + 1, by have := HLT.out; omega, by congr 1; push_cast; omega, ?_, HC5.out.grown hg9 (fun r e => .inr (HO5.out.lt r e).1)⟩, by simp [intOf]; omega⟩
        have h := HST.out
        rw [← HM.out] at h
        rw [← h]; exact ho9
      · obtain rfl : M = size - n := by rw [HM.out, ← HNQ.out]; omega
        have hm2 : (size : Int) - (n : Int) < 512 := by omega
        clear hm
        go_wp2_with (first
          | (at_builtin; refine wpList_appendB rfl _ _ rfl W.heap.size _ ((catL K.now fr q).take size) rfl HO5.out w5.heap.size _ _ _ _ HML.out rfl HR5.out (by rw [List.length_take, HML.out]; omega) HC5.out.size ?_; intro v9 w9 ho9 hg9 hv9)
          | fail)
        refine ⟨⟨q + 1, by have := HLT.out; omega, by congr 1; push_cast; omega, ?_, HC5.out.grown hg9 (fun r e => .inr (HO5.out.lt r e).1)⟩, by simp [intOf]; omega⟩
        have h := HST.out
        rw [← HM.out] at h
        rw [← h]; exact ho9
    · have hfin : n = size := by omega
      rw [catL_take HDN.out fr size q (by omega)] at ho hn
      have hnl2 : ¬ ((n : Int) < (size : Int)) := by omega
      rw [← hfin] at hnl2 ⊢
      have HO2 := Lib.hid ho
      clear ho hch hn hr hc hnl
      go_wp2_with fail
      go_ret
      refine ⟨⟨_, rfl, ?_⟩, HCH.out⟩
      rw [← HFR.out]
      have h := HO2.out
      rw [hfin] at h
      exact h
end Go.Proofs.Ytlhfhhbafhnbkaa
