/-
  SLOTS: Load; the steps of Format and Commit.
-/
import Derived.Test.YtlhfhhbafhnbkaaSlt5
import Derived.OwnWalk
namespace Go.Proofs.Ytlhfhhbafhnbkaa
open Go.RowKit FieldM CrcM
set_option linter.unusedSimpArgs false
set_option linter.unusedVariables false
def SLoadPost (K : Dk) (W : World) (e : Ending) (w' : World) : Prop :=
  ∃ v, e = .returned (.tuple #[v, .int .i64 (ldH K 0 : Int), .int .i64 (ldE K)]) ∧ OwnB w' W.heap.size v (ldB K) ∧ (ldE K ≠ 0 → v = .slice none 0 0) ∧ Chg NoB W w'
set_option maxRecDepth 100000 in
set_option maxHeartbeats 4000000 in
theorem sload_any {B : Nat} {F : Nat → Prop} {g : Nat} {K : Dk} {W : World} (hI : DI B W g K F) :
    Calls Try.prog 18 #[.pointer (some ⟨g, 0, none⟩)] W (SLoadPost K W) := by
  have HL := Lib.hid (load_any hI)
  clear hI
  go_enter Try.func18, Try.ntmps18
  go_wp2_with fail
  refine HL.out.mono ?_
  rintro e w1 ⟨v, rfl, ho, hv, hc⟩
  obtain ⟨er, her⟩ : ∃ er, er = ldE K := ⟨_, rfl⟩
  obtain ⟨a0, h0⟩ : ∃ a0 : Int, a0 = (ldH K 0 : Int) := ⟨_, rfl⟩
  obtain ⟨a1, h1⟩ : ∃ a1 : Int, a1 = (ldH K 1 : Int) := ⟨_, rfl⟩
  obtain ⟨a2, h2⟩ : ∃ a2 : Int, a2 = (ldH K 2 : Int) := ⟨_, rfl⟩
  obtain ⟨a3, h3⟩ : ∃ a3 : Int, a3 = (ldH K 3 : Int) := ⟨_, rfl⟩
  unfold hdV
  rw [← her, ← h0, ← h1, ← h2, ← h3]
  have HE := Lib.hid (And.intro her h0)
  have HO := Lib.hid ho
  have HV := Lib.hid hv
  have HC := Lib.hid hc
  clear her h0 h1 h2 h3 ho hv hc
  have hnb := Blk.new w1 89 #[.int .i64 0, .int .i64 0, .int .i64 0, .int .i64 0]
  have k0 := (hnb.row #[.int .i64 a0, .int .i64 a1, .int .i64 a2, .int .i64 a3]).cell 0
  have HNB := Lib.hid hnb
  clear hnb
  go_wp2_with (first
    | (refine wpList_store_blk rfl 89 _ _ rfl w1.heap.size _ rfl rfl 89 _ HNB.out rfl head_size (by simp [Value.oneCell']) ?_)
    | fail)
  go_quiet (fail)
  go_wp2_with fail
  go_ret3
  refine ⟨v, ?_, HO.out.chg ((((Chg.refl NoB _).alloc _).setRow (.inr (Nat.le_refl _)) _).drewN _) (fun _ _ h => h), HV.out, (((HC.out.alloc _).setRow (.inr HC.out.size) _)).drewN _⟩
  rw [← HE.out.1, ← HE.out.2]; rfl
inductive Op1 where
  | sync : Op1
  | wr (i : Int) (l : List UInt8) : Op1
def Op1.run (K : Dk) : Op1 → Dk
  | .sync => K.sync
  | .wr i l => K.write i l
def Op1.err (K : Dk) : Op1 → Int
  | .sync => syncE K
  | .wr i l => writeE K i l
/-- one step behind the other, up to the first that fails -/
def runOps (K : Dk) : List Op1 → Dk × Int
  | [] => (K, 0)
  | o :: r => if o.err K = 0 then runOps (o.run K) r else (o.run K, o.err K)
def diskB (w : World) (F : Nat → Prop) (b g : Nat) : Prop := Blk w b 27 #[.pointer (some ⟨g, 0, none⟩)] ∧ ¬ F b
theorem DPost.left {B : Nat} {W w w' : World} {g : Nat} {K' : Dk} {F : Nat → Prop} (hc : Chg NoB W w) (h : DPost B w g K' F w') : DPost B W g K' F w' := by
  obtain ⟨F', h1, h2, h3⟩ := h
  exact ⟨F', h1, Chg.trans (S := F) (T := F) (hc.mono (fun _ _ h => h.elim)) h2 (fun _ _ h => h), fun i hi => (h3 i hi).imp id (fun h => Nat.le_trans hc.size h)⟩
def InvW63 (B g bh bd s3 a0 a1 a2 a3 : Nat) (er : Int) (l : List UInt8) (K : Dk) (F : Nat → Prop) (W w0 : World) (D : Nat → Bool) (a : Act) (w : World) : Prop :=
  a = { tmps := #[.pointer (some ⟨bh, 0, none⟩), .pointer (some ⟨bd, 0, none⟩), (slot (D 3) (.int .i64 er) (.int .i64 0)), .pointer (some ⟨s3, 0, none⟩), .agg #[.int .i64 (a0 : Int), .int .i64 (a1 : Int), .int .i64 (a2 : Int), .int .i64 (a3 : Int)], .agg (blkC l), (slot (D 0) (.pointer (some ⟨g, 0, none⟩)) (undef)), (slot (D 1) (.slice (some ⟨s3, 0, none⟩) 512 512) (undef)), (slot (D 2) (.int .i64 er) (undef))], defers := [] } ∧
    (D 2 = false → Chg NoB w0 w) ∧
    (D 2 = true → DPost B W g K F w)
def InvW53 (B g bd bi bs : Nat) (er i : Int) (K : Dk) (F : Nat → Prop) (W w0 : World) (D : Nat → Bool) (a : Act) (w : World) : Prop :=
  a = { tmps := #[.pointer (some ⟨bd, 0, none⟩), .pointer (some ⟨bi, 0, none⟩), .pointer (some ⟨bs, 0, none⟩), (slot (D 4) (.int .i64 er) (.int .i64 0)), (slot (D 0) (.pointer (some ⟨g, 0, none⟩)) (undef)), (slot (D 1) (.int .i64 i) (undef)), (slot (D 2) (.slice (some ⟨bs, 0, none⟩) 512 512) (undef)), (slot (D 3) (.int .i64 er) (undef))], defers := [] } ∧
    (D 3 = false → Chg NoB w0 w) ∧
    (D 3 = true → DPost B W g K F w)
set_option maxRecDepth 100000 in
set_option maxHeartbeats 4000000 in
theorem written1_any {B : Nat} {F : Nat → Prop} {g : Nat} {K : Dk} {W : World} (hI : DI B W g K F) (hB : B ≤ W.heap.size) (HK : K.loose.length ≤ 100000) (bh bd a0 a1 a2 a3 : Nat) (hd : diskB W F bd g) (hh : Blk W bh 89 #[.int .i64 (a0 : Int), .int .i64 (a1 : Int), .int .i64 (a2 : Int), .int .i64 (a3 : Int)]) (h0 : a0 < 4294967296) (h1 : a1 < 4294967296) (h2 : a2 < 4294967296) (h3 : a3 < 4294967296) :
    Calls Try.prog 63 #[.pointer (some ⟨bh, 0, none⟩), .pointer (some ⟨bd, 0, none⟩)] W fun e w' => e = .returned (.int .i64 (writeE K 0 (hdr a0 a1 a2 a3))) ∧ DPost B W g (K.write 0 (hdr a0 a1 a2 a3)) F w' := by
  have HI := Lib.hid hI
  have HD := Lib.hid hd
  have HH := Lib.hid hh
  have HB := Lib.hid hB
  have HKL := Lib.hid HK
  have HBY := Lib.hid (bytes_any a0 a1 a2 a3 h0 h1 h2 h3 W)
  obtain ⟨l, hl⟩ : ∃ l, l = hdr a0 a1 a2 a3 := ⟨_, rfl⟩
  rw [← hl] at HBY ⊢
  have HL := Lib.hid (show l.length = 512 from by rw [hl]; exact hdr_len _ _ _ _)
  obtain ⟨er, her⟩ : ∃ er, er = writeE K 0 l := ⟨_, rfl⟩
  have HER := Lib.hid her
  rw [← her]
  clear hI hd hh hB HK h0 h1 h2 h3 hl her
  go_enter Try.func63, Try.ntmps63
  go_wp2_with (first
    | (refine wpList_load_row rfl 89 _ rfl bh rfl 89 _ (0, 0) _ HH.out Try.underlying89 rfl head_size ?_)
    | fail)
  refine HBY.out.mono ?_
  rintro e w1 ⟨rfl, hc1⟩
  have HC1 := Lib.hid hc1
  have HNB := Lib.hid (Blk.new w1 113 (blkC zeros))
  clear hc1
  go_wp2_with (first
    | (refine wpList_alloc_any hdr_zero _ rfl rfl ?_)
    | (refine wpList_store_blk rfl 113 _ _ rfl w1.heap.size _ rfl rfl 113 _ HNB.out (by rw [blkC_size, blkC_size, HL.out, zeros_len]) (by rw [hdr_size, blkC_size, HL.out]) (blk_one _) ?_)
    | fail)
  have hb3 := HNB.out.row (blkC l)
  have hc3 : Chg NoB w1 ((w1.alloc (.cells (blkC zeros) 113)).setRow w1.heap.size (blkC l)) := ((Chg.refl NoB w1).alloc _).setRow (.inr (Nat.le_refl _)) _
  generalize hw3 : (w1.alloc (.cells (blkC zeros) 113)).setRow w1.heap.size (blkC l) = w3 at hb3 hc3 ⊢
  have HB3 := Lib.hid (show Blk w3 w1.heap.size 113 ((l.map bv).toArray) from hb3)
  have HC3 := Lib.hid (HC1.out.trans hc3 (fun _ _ h => h))
  clear hw3 hb3 hc3
  refine wp_region_cl rfl (by kernel_rfl) (InvW63 B g bh bd w1.heap.size a0 a1 a2 a3 er l (K.write 0 l) F W w3) ?_ ?_ ?_
  · exact ⟨rfl, fun _ => (Chg.refl _ _).drew, (fun h => by cases h)⟩
  ·
    intro D a w i o ho hD hcl hpre hI
    obtain ⟨rfl, h0, h2⟩ := hI
    have hi : i < 4 := by have := (List.getElem?_eq_some_iff.1 ho).1; simpa using this
    rcases (by omega : i = 0 ∨ i = 1 ∨ i = 2 ∨ i = 3) with rfl | rfl | rfl | rfl
    · obtain rfl := Option.some.inj ho
      have d2 : D 2 = false := (hcl.not_ 2 _ rfl 0 _ rfl rfl hD)
      clear ho hpre hi hcl
      have k0 := ((HD.out.1.chg HC3.out (fun h => h)).chg (h0 d2) (fun h => h)).cell 0
      go_wp2_with fail
      unfold AtEnd
      exact ⟨by simp only [more, slot_true, slot_false, Nat.reduceEqDiff, ↓reduceIte, d2], fun h => h0 (by simpa [more] using h), fun h => h2 (by simpa [more] using h)⟩
    · obtain rfl := Option.some.inj ho
      clear ho hpre hi hcl
      go_wp2_with fail
      unfold AtEnd
      exact ⟨rfl, fun h => h0 (by simpa [more] using h), fun h => h2 (by simpa [more] using h)⟩
    · obtain rfl := Option.some.inj ho
      have z0 := hpre ⟨0, .data⟩ (by simp) rfl
      have z1 := hpre ⟨1, .data⟩ (by simp) rfl
      clear ho hpre hi hcl
      have hcw := h0 hD
      have HCW := Lib.hid hcw
      have HRB := Lib.hid (blk_RB (HB3.out.chg hcw (fun h => h)))
      clear h0 h2 hcw
      simp only [z0, z1, slot_true]
      go_wp2_with fail
      refine ((HI.out.no (HC3.out.trans HCW.out (fun _ _ h => h))).write_ (Nat.le_trans HB.out (Nat.le_trans HC3.out.size HCW.out.size)) 0 512 HL.out HRB.out (fun ad e => by cases e; rfl) HKL.out).mono ?_
      rintro e w7 ⟨rfl, hp7⟩
      rw [← HER.out]
      have HP7 := Lib.hid (DPost.left (HC3.out.trans HCW.out (fun _ _ h => h)) hp7)
      clear hp7
      go_wp2_with fail
      unfold AtEnd
      exact ⟨by simp only [more, slot_true, slot_false, Nat.reduceEqDiff, ↓reduceIte, z0, z1], fun h => by simp [more] at h, fun _ => HP7.out⟩
    · obtain rfl := Option.some.inj ho
      have z2 := hpre ⟨2, .data⟩ (by simp) rfl
      clear ho hpre hi hcl
      go_wp2_with fail
      unfold AtEnd
      exact ⟨by simp only [more, slot_true, slot_false, Nat.reduceEqDiff, ↓reduceIte, z2], fun h => h0 (by simpa [more] using h), fun h => h2 (by simpa [more] using h)⟩
  · intro D a w hall hI
    obtain ⟨rfl, h0, h2⟩ := hI
    have hfin := h2 (hall 2 (by decide))
    have z3 := hall 3 (by decide)
    have HF := Lib.hid hfin
    clear h0 h2 hall hfin
    simp only [z3, slot_true]
    go_wp2_with fail
    go_ret
    exact ⟨rfl, HF.out⟩
set_option maxRecDepth 100000 in
set_option maxHeartbeats 4000000 in
theorem commit1_any {B : Nat} {F : Nat → Prop} {g : Nat} {K : Dk} {W : World} (hI : DI B W g K F) (hB : B ≤ W.heap.size) (HK : K.loose.length ≤ 100000) (bd bi bs : Nat) (i : Int) (l : List UInt8) (hl : l.length = 512) (hd : diskB W F bd g) (hi : Blk W bi 3 #[.int .i64 i]) (hs : Blk W bs 83 (blkC l)) :
    Calls Try.prog 53 #[.pointer (some ⟨bd, 0, none⟩), .pointer (some ⟨bi, 0, none⟩), .pointer (some ⟨bs, 0, none⟩)] W fun e w' => e = .returned (.int .i64 (writeE K i l)) ∧ DPost B W g (K.write i l) F w' := by
  have HI := Lib.hid hI
  have HD := Lib.hid hd
  have HBI := Lib.hid hi
  have HBS := Lib.hid (show Blk W bs 83 ((l.map bv).toArray) from hs)
  have HB := Lib.hid hB
  have HKL := Lib.hid HK
  have HL := Lib.hid hl
  obtain ⟨er, her⟩ : ∃ er, er = writeE K i l := ⟨_, rfl⟩
  have HER := Lib.hid her
  rw [← her]
  clear hI hd hi hs hB HK hl her
  go_enter Try.func53, Try.ntmps53
  go_wp2_with fail
  refine wp_region_cl rfl (by kernel_rfl) (InvW53 B g bd bi bs er i (K.write i l) F W W) ?_ ?_ ?_
  · exact ⟨rfl, fun _ => (Chg.refl _ _).drew, (fun h => by cases h)⟩
  ·
    intro D a w i o ho hD hcl hpre hI
    obtain ⟨rfl, h0, h2⟩ := hI
    have hi : i < 5 := by have := (List.getElem?_eq_some_iff.1 ho).1; simpa using this
    rcases (by omega : i = 0 ∨ i = 1 ∨ i = 2 ∨ i = 3 ∨ i = 4) with rfl | rfl | rfl | rfl | rfl
    · obtain rfl := Option.some.inj ho
      have d3 : D 3 = false := (hcl.not_ 3 _ rfl 0 _ rfl rfl hD)
      clear ho hpre hi hcl
      have k0 := (HD.out.1.chg (h0 d3) (fun h => h)).cell 0
      go_wp2_with fail
      unfold AtEnd
      exact ⟨by simp only [more, slot_true, slot_false, Nat.reduceEqDiff, ↓reduceIte, d3], fun h => h0 (by simpa [more] using h), fun h => h2 (by simpa [more] using h)⟩
    · obtain rfl := Option.some.inj ho
      have d3 : D 3 = false := (hcl.not_ 3 _ rfl 1 _ rfl rfl hD)
      clear ho hpre hi hcl
      have k0 := (HBI.out.chg (h0 d3) (fun h => h)).cell 0
      go_wp2_with fail
      unfold AtEnd
      exact ⟨by simp only [more, slot_true, slot_false, Nat.reduceEqDiff, ↓reduceIte, d3], fun h => h0 (by simpa [more] using h), fun h => h2 (by simpa [more] using h)⟩
    · obtain rfl := Option.some.inj ho
      clear ho hpre hi hcl
      go_wp2_with fail
      unfold AtEnd
      exact ⟨rfl, fun h => h0 (by simpa [more] using h), fun h => h2 (by simpa [more] using h)⟩
    · obtain rfl := Option.some.inj ho
      have z0 := hpre ⟨0, .data⟩ (by simp) rfl
      have z1 := hpre ⟨1, .data⟩ (by simp) rfl
      have z2 := hpre ⟨2, .data⟩ (by simp) rfl
      clear ho hpre hi hcl
      have hcw := h0 hD
      have HCW := Lib.hid hcw
      have HRB := Lib.hid (blk_RB (HBS.out.chg hcw (fun h => h)))
      clear h0 h2 hcw
      simp only [z0, z1, z2, slot_true]
      go_wp2_with fail
      refine ((HI.out.no HCW.out).write_ (Nat.le_trans HB.out HCW.out.size) i 512 HL.out HRB.out (fun ad e => by cases e; rfl) HKL.out).mono ?_
      rintro e w7 ⟨rfl, hp7⟩
      rw [← HER.out]
      have HP7 := Lib.hid (DPost.left HCW.out hp7)
      clear hp7
      go_wp2_with fail
      unfold AtEnd
      exact ⟨by simp only [more, slot_true, slot_false, Nat.reduceEqDiff, ↓reduceIte, z0, z1, z2], fun h => by simp [more] at h, fun _ => HP7.out⟩
    · obtain rfl := Option.some.inj ho
      have z3 := hpre ⟨3, .data⟩ (by simp) rfl
      clear ho hpre hi hcl
      go_wp2_with fail
      unfold AtEnd
      exact ⟨by simp only [more, slot_true, slot_false, Nat.reduceEqDiff, ↓reduceIte, z3], fun h => h0 (by simpa [more] using h), fun h => h2 (by simpa [more] using h)⟩
  · intro D a w hall hI
    obtain ⟨rfl, h0, h2⟩ := hI
    have hfin := h2 (hall 3 (by decide))
    have z4 := hall 4 (by decide)
    have HF := Lib.hid hfin
    clear h0 h2 hall hfin
    simp only [z4, slot_true]
    go_wp2_with fail
    go_ret
    exact ⟨rfl, HF.out⟩
end Go.Proofs.Ytlhfhhbafhnbkaa
