/-
  THE WALKS of the eye's two, four and ask; of look and zeros.
-/
import Derived.Test.YtgojdkjneggmjaaRec10
namespace Go.Proofs.Ytgojdkjneggmjaa
open Go.RowKit FieldM
set_option linter.unusedSimpArgs false
/-- the eye at block g: it looks at bytes x, with a fault -/
structure Eye (w : World) (B g n : Nat) (x : List UInt8) (f : Int) : Prop where
  ex : ∃ A c, Blk w g 69 #[.slice A n c, .int .i64 f] ∧ RB w B A x ∧ n ≤ c
  len : x.length = n
  big : n ≤ 140737488355328
  far : B ≤ g
theorem Eye.lt {w : World} {B g n : Nat} {x : List UInt8} {f : Int} (h : Eye w B g n x f) : g < w.heap.size := by
  obtain ⟨A, c, hb, _⟩ := h.ex; exact hb.lt
theorem Eye.chg {w w' : World} {B g n : Nat} {x : List UInt8} {f : Int} {S : Nat → Prop} (h : Eye w B g n x f) (hc : Chg S w w') (hS : ∀ i, i < B → ¬ S i) (hg : ¬ S g) : Eye w' B g n x f := by
  obtain ⟨A, c, hb, hr, hn⟩ := h.ex
  exact ⟨⟨A, c, hb.chg hc hg, hr.chg hc hS, hn⟩, h.len, h.big, h.far⟩
theorem Eye.no {w w' : World} {B g n : Nat} {x : List UInt8} {f : Int} (h : Eye w B g n x f) (hc : Chg NoB w w') : Eye w' B g n x f := h.chg hc (fun _ _ h => h) (fun h => h)
def askF (f : Int) (ok : Bool) (e : Int) : Int := if f = 0 ∧ ok = false then e else f
section
variable {B g n : Nat} {x : List UInt8} {f : Int} {w : World}
set_option maxRecDepth 100000 in
set_option maxHeartbeats 1000000 in
theorem etwo_any (h : Eye w B g n x f) (p : Int) :
    Calls Try.prog 39 #[.pointer (some ⟨g, 0, none⟩), .int .i64 p] w fun e w' => e = .returned (.int .i64 (getL x p 2)) ∧ Chg NoB w w' := by
  obtain ⟨A, c, hb, hr, hnc⟩ := h.ex
  have hn := Lib.hid h.len
  have hbig := h.big
  have c0 := hb.cell 0
  clear hb
  go_enter Try.func39, Try.ntmps39
  go_wp2_with fail
  refine (get2_any A x n c p hn.out B _ hr hnc (by omega)).mono ?_
  rintro e w1 ⟨rfl, hc1⟩
  go_wp2_with fail
  go_ret
  exact ⟨rfl, hc1⟩
set_option maxRecDepth 100000 in
set_option maxHeartbeats 1000000 in
theorem efour_any (h : Eye w B g n x f) (p : Int) :
    Calls Try.prog 40 #[.pointer (some ⟨g, 0, none⟩), .int .i64 p] w fun e w' => e = .returned (.int .i64 (getL x p 4)) ∧ Chg NoB w w' := by
  obtain ⟨A, c, hb, hr, hnc⟩ := h.ex
  have hn := Lib.hid h.len
  have hbig := h.big
  have c0 := hb.cell 0
  clear hb
  go_enter Try.func40, Try.ntmps40
  go_wp2_with fail
  refine (get4_any A x n c p hn.out B _ hr hnc (by omega)).mono ?_
  rintro e w1 ⟨rfl, hc1⟩
  go_wp2_with fail
  go_ret
  exact ⟨rfl, hc1⟩
set_option maxRecDepth 100000 in
set_option maxHeartbeats 1000000 in
theorem ask_any (h : Eye w B g n x f) (ok : Bool) (er : Int) :
    Calls Try.prog 38 #[.pointer (some ⟨g, 0, none⟩), .bool ok, .int .i64 er] w fun e w' => (∃ v, e = .returned v) ∧ Eye w' B g n x (askF f ok er) ∧ Chg (OneB g) w w' := by
  obtain ⟨A, c, hb, hr, hnc⟩ := h.ex
  have hn := Lib.hid h.len
  have HB := Lib.hid h.big
  have HF := Lib.hid h.far
  have c1 := hb.cell 1
  have f1 := hb.frozen 1
  have HH := Lib.hid h
  clear h
  by_cases h0 : f = 0
  · subst h0
    cases ok
    · go_enter Try.func38, Try.ntmps38
      go_wp2_with fail
      go_end0
      have hc : Chg (OneB g) w (w.setCell ⟨g, 1, none⟩ (.int .i64 er)) := Chg.setCell (S := OneB g) (p := ⟨g, 1, none⟩) (Chg.refl _ _) (.inl (by unfold OneB; rfl)) _
      exact ⟨⟨_, rfl⟩, ⟨⟨A, c, by simpa [askF] using hb.set_ 1 (.int .i64 er), hr.chg hc (fun i hi e => by have h1 := HF.out; unfold OneB at e; omega), hnc⟩, hn.out, HB.out, HF.out⟩, hc⟩
    · go_enter Try.func38, Try.ntmps38
      go_wp2_with fail
      go_end0
      exact ⟨⟨_, rfl⟩, HH.out, Chg.refl _ _⟩
  · have hf : (f == 0) = false := by simpa using h0
    have HF0 := Lib.hid h0
    clear h0
    go_enter Try.func38, Try.ntmps38
    go_wp2_with fail
    go_end0
    exact ⟨⟨_, rfl⟩, by unfold askF; rw [if_neg (fun h => HF0.out h.1)]; exact HH.out, Chg.refl _ _⟩
end
set_option maxRecDepth 100000 in
set_option maxHeartbeats 1000000 in
theorem zeros_any (A : Option Addr) (n c : Nat) (w : World) :
    Calls Try.prog 37 #[.slice A n c] w fun e w' => e = .returned (.func (.func 51) #[] #[.pointer (some ⟨w.heap.size, 0, none⟩)]) ∧ w' = w.alloc (.cells #[.slice A n c] 78) := by
  go_enter Try.func37, Try.ntmps37
  go_wp2_with fail
  go_ret
  exact ⟨rfl, rfl⟩
theorem run_slice1 {w : World} {B : Nat} {A : Option Addr} {l : List UInt8} (hr : RB w B A l) (n c p m : Nat) (hn : l.length = n) (hc : n ≤ c) (hp : p + m = n) :
    ∃ A' c', (∀ w' : World, (Instr.slice 24 (.slice A n c) (some (.int .i64 (p : Int))) none none).run Try.prog w' = .ok (.slice A' m c') w') ∧
      RB w B A' (l.drop p) ∧ m ≤ c' := by
  obtain ⟨i0, hi, hz0, hz1, hz2⟩ := info_parts u8_info
  refine ⟨if c = p then A else A.map (·.add p), c - p, fun w' => ?_, ?_, by omega⟩
  · have h3 : (p : Int) ≤ (n : Int) := by omega
    have b3 : ∀ code, (Instr.sliceBound (.int .i64 (p : Int)) n code).run Try.prog w' = .ok p w' := fun code => by
      rw [run_sliceBound_if, if_pos ⟨by omega, h3⟩]; simp
    have e5 : n - p = m := by omega
    simp only [Instr.slice, Instr.sliceBounds, Sem.run_bind, run_underlying Try.underlying24, Result.andThen_ok, b3, Sem.run_pure]
    simp [sizeOf, typeInfo, hi, hz1, e5]
  · exact (hr.drop (k := p) (cap := c) (by omega) (by omega))
/-- the bytes that are looked at -/
def lookX (l : List UInt8) (p long : Int) : List UInt8 := if cutErr l.length p long = 0 then l.drop p.toNat else []
def lookF (l : List UInt8) (p : Int) (mk : List UInt8) (long : Int) : Int := if cutErr l.length p long = 0 then (if (l.drop p.toNat).take 4 = mk then 0 else 15) else cutErr l.length p long
def LookPost (w : World) (B : Nat) (l mk : List UInt8) (p : Int) (long : Nat) (e : Ending) (w' : World) : Prop :=
  ∃ g, e = .returned (.agg #[.pointer (some ⟨g, 0, none⟩), .int .i64 long]) ∧ w.heap.size ≤ g ∧ Eye w' B g (lookX l p long).length (lookX l p long) (lookF l p mk long) ∧ Chg NoB w w'
set_option maxRecDepth 100000 in
set_option maxHeartbeats 2000000 in
theorem look_any (A : Option Addr) (l : List UInt8) (n c : Nat) (p : Int) (mk : List UInt8) (long : Nat) (hn : l.length = n) (B : Nat) (w : World) (hr : RB w B A l) (hc : n ≤ c) (hb : n ≤ 140737488355328) (hB : B ≤ w.heap.size)
    (hmk : mk.length = 4) (hl4 : 4 ≤ long) (hl5 : long ≤ 100) :
    Calls Try.prog 35 #[.slice A n c, .int .i64 p, .string ⟨mk.toArray⟩, .int .i64 long] w (LookPost w B l mk p long) := by
  have hss : (ByteArray.mk mk.toArray).size = 4 := by simp [ByteArray.size, hmk]
  have HMK := Lib.hid hmk
  clear hmk
  have HN := Lib.hid hn
  have HBB := Lib.hid hB
  by_cases h0 : p < 0 ∨ (n : Int) < p
  · have he : cutErr l.length p long = 2 := cutErr_arg (by rw [hn]; omega)
    have HE := Lib.hid he
    clear he hn hB
    go_enter Try.func35, Try.ntmps35
    go_wp2_with fail
    all_goals first
      | (refine bodyPost_ret (v := .agg #[.pointer (some ⟨w.heap.size + 1, 0, none⟩), .int .i64 long]) (by simp [results, Try.results35, go_sem]) rfl ?_
         have hX : lookX l p long = [] := by unfold lookX; rw [if_neg (by rw [HE.out]; decide)]
         have hF : lookF l p mk long = 2 := by unfold lookF; rw [if_neg (by rw [HE.out]; decide), HE.out]
         refine ⟨w.heap.size + 1, rfl, by omega, ?_, ((Chg.refl _ _).alloc _).alloc _⟩
         rw [hX, hF]
         exact ⟨⟨none, 0, by simpa using Blk.new (w.alloc (.cells #[.pointer (some ⟨w.heap.size + 1, 0, none⟩), .int .i64 long] 61)) 69 #[.slice none 0 0, .int .i64 2], RB.none_, by simp⟩, rfl, by simp, by have h1 := HBB.out; omega⟩)
      | (exfalso; omega)
      | go_goals
  · by_cases h1 : (n : Int) - p < long
    · have he : cutErr l.length p long = 4 := cutErr_short (by rw [hn]; omega) (by rw [hn]; exact h1)
      have HE := Lib.hid he
      clear he hn hB
      go_enter Try.func35, Try.ntmps35
      go_wp2_with fail
      all_goals first
        | (refine bodyPost_ret (v := .agg #[.pointer (some ⟨w.heap.size + 1, 0, none⟩), .int .i64 long]) (by simp [results, Try.results35, go_sem]) rfl ?_
           have hX : lookX l p long = [] := by unfold lookX; rw [if_neg (by rw [HE.out]; decide)]
           have hF : lookF l p mk long = 4 := by unfold lookF; rw [if_neg (by rw [HE.out]; decide), HE.out]
           refine ⟨w.heap.size + 1, rfl, by omega, ?_, ((Chg.refl _ _).alloc _).alloc _⟩
           rw [hX, hF]
           exact ⟨⟨none, 0, by simpa using Blk.new (w.alloc (.cells #[.pointer (some ⟨w.heap.size + 1, 0, none⟩), .int .i64 long] 61)) 69 #[.slice none 0 0, .int .i64 4], RB.none_, by simp⟩, rfl, by simp, by have h1 := HBB.out; omega⟩)
        | (exfalso; omega)
        | go_goals
    · obtain ⟨p', rfl⟩ := Int.eq_ofNat_of_zero_le (show 0 ≤ p by omega)
      have he : cutErr l.length p' long = 0 := cutErr_ok (by rw [hn]; omega) (by rw [hn]; exact h1)
      have HE := Lib.hid he
      obtain ⟨m, hm⟩ : ∃ m, p' + m = n := ⟨n - p', by omega⟩
      obtain ⟨A1, c1, hs1, hr1, hc1⟩ := run_slice1 hr n c p' m hn hc hm
      have hn1 : (l.drop p').length = m := by rw [List.length_drop]; omega
      have hW : Chg NoB w ((w.alloc (.cells #[.pointer none, .int .i64 0] 61)).alloc (.cells #[.slice A1 m c1, .int .i64 0] 69)) := ((Chg.refl _ _).alloc _).alloc _
      have hs3 := ((hr1.take 4).no hW).toStr (n := 4) (by rw [List.length_take]; omega) c1 Try.underlying24 Try.underlying5 Try.underlying9
      clear he hn hB hn1
      go_enter Try.func35, Try.ntmps35
      go_wp2_with fail
      have heye : Eye ((w.alloc (.cells #[.pointer none, .int .i64 0] 61)).alloc (.cells #[.slice A1 m c1, .int .i64 0] 69)) B (w.heap.size + 1) m (l.drop p') 0 :=
        ⟨⟨A1, c1, by simpa using Blk.new (w.alloc (.cells #[.pointer none, .int .i64 0] 61)) 69 #[.slice A1 m c1, .int .i64 0], hr1.no hW, hc1⟩, by rw [List.length_drop, HN.out]; omega, by omega, by have h1 := HBB.out; omega⟩
      have hbh : Blk ((w.alloc (.cells #[.pointer none, .int .i64 0] 61)).alloc (.cells #[.slice A1 m c1, .int .i64 0] 69)) w.heap.size 61 #[.pointer none, .int .i64 0] := (Blk.new w _ _).alloc _
      refine (ask_any heye _ 15).mono ?_
      rintro e w1 ⟨⟨v, rfl⟩, hE1, hc1'⟩
      have hbh1 := hbh.chg hc1' (fun h => by unfold OneB at h; omega)
      have hcN : Chg NoB w w1 := hW.trans hc1' (fun i hi h => by unfold OneB at h; omega)
      have hfin := Chg.setCell (S := NoB) (p := ⟨w.heap.size, 0, none⟩) hcN (.inr (Nat.le_refl _)) (.pointer (some ⟨w.heap.size + 1, 0, none⟩))
      have hfin2 := Chg.setCell (S := NoB) (p := ⟨w.heap.size, 1, none⟩) hfin (.inr (Nat.le_refl _)) (.int .i64 long)
      have hlt1 := hbh1.lt
      have k0 := hbh1.cell 0
      have k1 := hbh1.cell 1
      have g0 := hbh1.frozen 0
      have g1 := hbh1.frozen 1
      have HE1 := Lib.hid hE1
      have HFC := Lib.hid hfin2
      clear hs1 hs3 hW heye hbh hE1 hr1 hfin hfin2 hcN hc1' hr
      go_wp2_with fail
      refine bodyPost_ret (v := .agg #[.pointer (some ⟨w.heap.size + 1, 0, none⟩), .int .i64 long]) (by simp [results, Try.results35, go_sem, k0, k1, g0, g1]) rfl ?_
      have hX : lookX l p' long = l.drop p' := by unfold lookX; rw [if_pos HE.out]; rfl
      have hF : lookF l p' mk long = askF 0 (List.take 4 (List.drop p' l) == mk) 15 := by
        unfold lookF askF; rw [if_pos HE.out]; simp
      have hc2 : Chg (OneB w.heap.size) w1 ((w1.setCell ⟨w.heap.size, 0, none⟩ (.pointer (some ⟨w.heap.size + 1, 0, none⟩))).setCell ⟨w.heap.size, 1, none⟩ (.int .i64 long)) :=
        Chg.setCell (S := OneB w.heap.size) (p := ⟨w.heap.size, 1, none⟩) (Chg.setCell (S := OneB w.heap.size) (p := ⟨w.heap.size, 0, none⟩) (Chg.refl _ _) (.inl (by unfold OneB; rfl)) _) (.inl (by unfold OneB; rfl)) _
      refine ⟨w.heap.size + 1, rfl, by omega, ?_, HFC.out⟩
      have hL : (l.drop p').length = m := by rw [List.length_drop, HN.out]; omega
      rw [hX, hF, hL]
      exact HE1.out.chg hc2 (fun i hi h => by have h1 := HBB.out; unfold OneB at h; omega) (fun h => by unfold OneB at h; omega)
end Go.Proofs.Ytgojdkjneggmjaa
