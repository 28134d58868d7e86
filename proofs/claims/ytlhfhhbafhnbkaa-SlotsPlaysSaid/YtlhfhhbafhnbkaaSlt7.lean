/-
  SLOTS: steps, written, Format.
-/
import Derived.Test.YtlhfhhbafhnbkaaSlt6
namespace Go.Proofs.Ytlhfhhbafhnbkaa
open Go.RowKit FieldM CrcM
set_option linter.unusedSimpArgs false
set_option linter.unusedVariables false
/-- a closure that does a step -/
def StepV (w : World) (F : Nat → Prop) (g : Nat) (v : Value) : Op1 → Prop
  | .sync => v = .func (.func 50) #[.pointer (some ⟨g, 0, none⟩)] #[]
  | .wr i l => (∃ bh bd a0 a1 a2 a3 : Nat, v = .func (.func 63) #[] #[.pointer (some ⟨bh, 0, none⟩), .pointer (some ⟨bd, 0, none⟩)] ∧ i = 0 ∧ l = hdr a0 a1 a2 a3 ∧ (a0 < 4294967296 ∧ a1 < 4294967296 ∧ a2 < 4294967296 ∧ a3 < 4294967296) ∧
        Blk w bh 89 #[.int .i64 (a0 : Int), .int .i64 (a1 : Int), .int .i64 (a2 : Int), .int .i64 (a3 : Int)] ∧ ¬ F bh ∧ diskB w F bd g) ∨
      (∃ bd bi bs : Nat, v = .func (.func 53) #[] #[.pointer (some ⟨bd, 0, none⟩), .pointer (some ⟨bi, 0, none⟩), .pointer (some ⟨bs, 0, none⟩)] ∧ l.length = 512 ∧ diskB w F bd g ∧ Blk w bi 3 #[.int .i64 i] ∧ ¬ F bi ∧ Blk w bs 83 (blkC l) ∧ ¬ F bs)
theorem keepB {F F' : Nat → Prop} {w w' : World} {b : Nat} {t : TypeId} {cs : Array Value} (hc : Chg F w w') (hF : ∀ i, F' i → F i ∨ w.heap.size ≤ i) (h : Blk w b t cs ∧ ¬ F b) : Blk w' b t cs ∧ ¬ F' b :=
  ⟨h.1.chg hc h.2, fun hf => (hF b hf).elim h.2 (fun h2 => by have := h.1.lt; omega)⟩
theorem StepV.keep {F F' : Nat → Prop} {w w' : World} {g : Nat} {v : Value} {o : Op1} (h : StepV w F g v o) (hc : Chg F w w') (hF : ∀ i, F' i → F i ∨ w.heap.size ≤ i) : StepV w' F' g v o := by
  cases o with
  | sync => exact h
  | wr i l =>
    rcases h with ⟨bh, bd, a0, a1, a2, a3, e1, e2, e3, e4, hb, hf, hd⟩ | ⟨bd, bi, bs, e1, e2, hd, hi, hfi, hs, hfs⟩
    · have k1 := keepB hc hF ⟨hb, hf⟩
      exact .inl ⟨bh, bd, a0, a1, a2, a3, e1, e2, e3, e4, k1.1, k1.2, keepB hc hF hd⟩
    · have k1 := keepB hc hF ⟨hi, hfi⟩
      have k2 := keepB hc hF ⟨hs, hfs⟩
      exact .inr ⟨bd, bi, bs, e1, e2, keepB hc hF hd, k1.1, k1.2, k2.1, k2.2⟩
theorem StepV.no {F : Nat → Prop} {w w' : World} {g : Nat} {v : Value} {o : Op1} (h : StepV w F g v o) (hc : Chg NoB w w') : StepV w' F g v o :=
  h.keep (hc.mono (fun _ _ h => h.elim)) (fun i hi => .inl hi)
def StepPost1 (B : Nat) (w : World) (g : Nat) (F : Nat → Prop) (K : Dk) (o : Op1) (e : Ending) (w' : World) : Prop := e = .returned (.int .i64 (o.err K)) ∧ DPost B w g (o.run K) F w'
theorem StepV.call {B : Nat} {F : Nat → Prop} {w : World} {g : Nat} {K : Dk} {v : Value} {o : Op1} (h : StepV w F g v o) (hI : DI B w g K F) (hB : B ≤ w.heap.size) (HK : K.loose.length ≤ 1000) :
    (v = .func (.func 50) #[.pointer (some ⟨g, 0, none⟩)] #[] ∧ Calls Try.prog 50 #[.pointer (some ⟨g, 0, none⟩)] w (StepPost1 B w g F K o)) ∨
    (∃ bh bd : Nat, v = .func (.func 63) #[] #[.pointer (some ⟨bh, 0, none⟩), .pointer (some ⟨bd, 0, none⟩)] ∧ Calls Try.prog 63 #[.pointer (some ⟨bh, 0, none⟩), .pointer (some ⟨bd, 0, none⟩)] w (StepPost1 B w g F K o)) ∨
    (∃ bd bi bs : Nat, v = .func (.func 53) #[] #[.pointer (some ⟨bd, 0, none⟩), .pointer (some ⟨bi, 0, none⟩), .pointer (some ⟨bs, 0, none⟩)] ∧ Calls Try.prog 53 #[.pointer (some ⟨bd, 0, none⟩), .pointer (some ⟨bi, 0, none⟩), .pointer (some ⟨bs, 0, none⟩)] w (StepPost1 B w g F K o)) := by
  cases o with
  | sync => exact .inl ⟨h, hI.sync_ hB HK⟩
  | wr i l =>
    rcases h with ⟨bh, bd, a0, a1, a2, a3, e1, rfl, rfl, e4, hb, hf, hd⟩ | ⟨bd, bi, bs, e1, e2, hd, hi, hfi, hs, hfs⟩
    · exact .inr (.inl ⟨bh, bd, e1, written1_any hI hB (by omega) bh bd a0 a1 a2 a3 hd hb e4.1 e4.2.1 e4.2.2.1 e4.2.2.2⟩)
    · exact .inr (.inr ⟨bd, bi, bs, e1, commit1_any hI hB (by omega) bd bi bs i l e2 hd hi hs⟩)
theorem own_cellN' {w : World} {base n c size : Nat} {t : TypeId} {A : Option Addr} {xs : List Value} (h : w.ownsRow base t size (.slice A n c) n xs) (hn : 0 < n) : ∃ g, A = some ⟨g, 0, none⟩ ∧ ∀ q, q < n * size → w.cell? ⟨g, q, none⟩ = xs[q]? := by
  rcases h.2 with ⟨hv, h0⟩ | ⟨g, cap, cur, hv, hb, hg, hnc, hm, hs, ht⟩
  · omega
  · injection hv with h1 h2 h3
    refine ⟨g, h1, fun q hq => ?_⟩
    have hbk : Blk w g t cur := hg
    rw [hbk.cell q, ← ht, List.getElem?_take, if_pos hq]
    simp
theorem run_loose (K : Dk) (o : Op1) : (o.run K).loose.length ≤ K.loose.length + 1 := by
  cases o with
  | sync =>
    show (K.sync).loose.length ≤ _
    unfold Dk.sync
    split
    · omega
    · split
      · show K.loose.length ≤ _; omega
      · simp
  | wr i l =>
    show (K.write i l).loose.length ≤ _
    unfold Dk.write
    split
    · omega
    · show (K.loose ++ [(i, l)]).length ≤ _; simp
theorem runOps_drop {K : Dk} {ops : List Op1} {q : Nat} {o : Op1} (h : ops[q]? = some o) : runOps K (ops.drop q) = if o.err K = 0 then runOps (o.run K) (ops.drop (q + 1)) else (o.run K, o.err K) := by
  obtain ⟨hq, e⟩ := List.getElem?_eq_some_iff.1 h
  rw [List.drop_eq_getElem_cons hq, e]; rfl
set_option maxRecDepth 100000 in
set_option maxHeartbeats 4000000 in
theorem steps_any {B : Nat} {F : Nat → Prop} {g : Nat} {K : Dk} {W : World} (hI : DI B W g K F) (hB : B ≤ W.heap.size) (ops : List Op1) (vs : List Value) (n : Nat) (hn : 0 < n) (hop : ops.length = n) (hvs : vs.length = n) (HK : K.loose.length + n ≤ 1000) (A : Option Addr) (c : Nat)
    (hrow : W.ownsRow 0 99 1 (.slice A n c) n vs) (hrf : ∀ b, (Value.slice A n c).ownBlock = some b → ¬ F b) (hst : ∀ (j : Nat) (v : Value) (o : Op1), vs[j]? = some v → ops[j]? = some o → StepV W F g v o) :
    Calls Try.prog 48 #[.slice A n c] W fun e w' => e = .returned (.int .i64 (runOps K ops).2) ∧ DPost B W g (runOps K ops).1 F w' := by
  obtain ⟨gr, rfl, _⟩ := own_cellN' hrow hn
  have HI := Lib.hid hI
  have HB := Lib.hid hB
  have HN := Lib.hid (show 0 < n ∧ ops.length = n ∧ vs.length = n ∧ K.loose.length + n ≤ 1000 from ⟨hn, hop, hvs, HK⟩)
  have HROW := Lib.hid hrow
  have HRF := Lib.hid (show ¬ F gr from hrf gr rfl)
  have HST := Lib.hid hst
  have hnk : n ≤ 1000 := by omega
  clear hI hB hn hop hvs HK hrow hrf hst
  go_enter Try.func48, Try.ntmps48
  go_wp2_with fail
  go_loopw [8] (fun i wr => ∃ (q : Nat) (Kq : Dk) (F' : Nat → Prop), q ≤ n ∧ i = .int .i64 q ∧ runOps K ops = runOps Kq (ops.drop q) ∧ DI B wr g Kq F' ∧ (∀ (j : Nat) (v : Value) (o : Op1), vs[j]? = some v → ops[j]? = some o → StepV wr F' g v o) ∧
      (wr.ownsRow 0 99 1 (.slice (some ⟨gr, 0, none⟩) n c) n vs ∧ ¬ F' gr) ∧ (∀ i, F' i → F i ∨ W.heap.size ≤ i) ∧ Chg F W wr ∧ Kq.loose.length ≤ K.loose.length + q) (fun i _ => n - (intOf i).toNat)
  case atStart => exact ⟨0, K, F, by omega, rfl, rfl, HI.out, HST.out, ⟨HROW.out, HRF.out⟩, fun i hi => .inl hi, Chg.refl _ _, by omega⟩
  case round =>
    obtain ⟨q, Kq, F', hq, rfl, hrun, hdi, hsv, ⟨hrw, hgf⟩, hF, hch, hlo⟩ := hrel
    have HCH := Lib.hid hch
    have HF := Lib.hid hF
    have HRUN := Lib.hid hrun
    by_cases hlt : q < n
    · obtain ⟨gr2, e2, cp⟩ := own_cellN' hrw (by have := HN.out; omega)
      obtain rfl : gr = gr2 := by injection e2 with e2; injection e2
      have k0 := cp q (by omega)
      obtain ⟨v, hv1⟩ : ∃ v, vs[q]? = some v := ⟨_, List.getElem?_eq_getElem (by have := HN.out; omega)⟩
      obtain ⟨o, ho1⟩ : ∃ o, ops[q]? = some o := ⟨_, List.getElem?_eq_getElem (by have := HN.out; omega)⟩
      rw [hv1] at k0
      have hcase := (hsv q v o hv1 ho1).call hdi (Nat.le_trans HB.out HCH.out.size) (by have := HN.out; omega)
      have HDI := Lib.hid hdi
      have HSV := Lib.hid hsv
      have HRW := Lib.hid (And.intro hrw hgf)
      have HLO := Lib.hid hlo
      have HLT := Lib.hid hlt
      have HO1 := Lib.hid ho1
      obtain ⟨er, her⟩ : ∃ er, er = o.err Kq := ⟨_, rfl⟩
      have HER := Lib.hid her
      clear hdi hsv hrw hgf hlo hch hF hrun cp e2 ho1 hv1 her
      rcases hcase with ⟨rfl, hcall⟩ | ⟨bh, bd, rfl, hcall⟩ | ⟨bd, bi, bs, rfl, hcall⟩
      all_goals
        have HCALL := Lib.hid hcall
        clear hcall
        go_wp2_with fail
        refine HCALL.out.mono ?_
        rintro e w5 ⟨rfl, F5, hd5, hc5, hf5⟩
        rw [← HER.out]
        have HD5 := Lib.hid hd5
        have HC5 := Lib.hid hc5
        have HF5 := Lib.hid hf5
        have HC05 := Lib.hid (HCH.out.trans hc5 (fun i hi h => (HF.out i h).elim id (fun h2 => by omega)))
        have HFF := Lib.hid (show ∀ i, F5 i → F i ∨ W.heap.size ≤ i from fun i hi => (hf5 i hi).elim (HF.out i) (fun h => .inr (Nat.le_trans HCH.out.size h)))
        clear hd5 hc5 hf5
        by_cases he : er = 0
        · have HE := Lib.hid he
          go_wp2_with fail
          go_roundw
          case rel =>
            refine ⟨q + 1, o.run Kq, F5, by have := HLT.out; omega, by go_num, ?_, HD5.out, fun j v o hv ho => (HSV.out j v o hv ho).keep HC5.out HF5.out, ⟨ownsRow_chg HRW.out.1 HC5.out (fun b hb hf => by cases hb; exact HRW.out.2 hf), fun hf => (HF5.out _ hf).elim HRW.out.2 (fun h2 => by have := (HRW.out.1.lt gr rfl).2; omega)⟩, HFF.out, HC05.out, Nat.le_trans (run_loose Kq o) (by have := HLO.out; omega)⟩
            rw [HRUN.out, runOps_drop HO1.out, if_pos (by rw [← HER.out]; exact HE.out)]
          case measure => simp [intOf]; have := HLT.out; omega
        · have HE := Lib.hid he
          go_wp2_with fail
          go_ret
          rw [HRUN.out, runOps_drop HO1.out, if_neg (by rw [← HER.out]; exact HE.out)]
          exact ⟨by rw [← HER.out]; rfl, F5, HD5.out, HC05.out, HFF.out⟩
    · obtain rfl : q = n := by omega
      have HDI := Lib.hid hdi
      clear hdi hsv hrw hgf hlo hch hF hrun
      go_wp2_with fail
      go_ret
      have h0 : ops.drop q = [] := List.drop_of_length_le (by have := HN.out; omega)
      rw [HRUN.out, h0]
      exact ⟨rfl, F', HDI.out, HCH.out, HF.out⟩
end Go.Proofs.Ytlhfhhbafhnbkaa
