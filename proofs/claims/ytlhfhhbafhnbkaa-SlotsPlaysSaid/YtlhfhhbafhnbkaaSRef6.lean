/-
  THE REFERENCE's Sync, of a disk as a whole.
-/
import Derived.Test.YtlhfhhbafhnbkaaSRef5
namespace Go.Proofs.Ytlhfhhbafhnbkaa
open Go.RowKit
set_option linter.unusedSimpArgs false
set_option linter.unusedVariables false
/-- the sectors as a list -/
def sF (f : Int → List UInt8) (n : Nat) : List (List UInt8) := (List.range n).map fun (i : Nat) => f (i : Int)
theorem sF_len (f : Int → List UInt8) (n : Nat) : (sF f n).length = n := by simp [sF]
theorem sF_map (f : Int → List UInt8) (n : Nat) : (sF f n).map strV = secs f n := by simp [sF, secs]
/-- the reference's disk: its rows hold what the plain disk K says -/
structure RK (w : World) (s p : Value) (K : Dk) (n : Nat) : Prop where
  sure : w.ownsRow 0 9 1 s n (secs K.sure n)
  loose : w.ownsRow 0 82 2 p K.loose.length (K.loose.flatMap rputL)
  num : K.n = (n : Int)
  n0 : 1 ≤ n
  n1 : n ≤ 8192
  rng : ∀ q ∈ K.loose, 0 ≤ q.1 ∧ q.1 < (n : Int) ∧ q.2.length = 512
  fuse : -1 ≤ K.fuse ∧ K.fuse ≤ 9223372036854775807
theorem RK.rd {w : World} {s p : Value} {K : Dk} {n : Nat} (h : RK w s p K n) : RD w s p (sF K.sure n) K.loose := ⟨by rw [sF_len, sF_map]; exact h.sure, h.loose⟩
theorem RK.sl {w : World} {s p : Value} {K : Dk} {n : Nat} (h : RK w s p K n) : IsSl s ∧ IsSl p := h.rd.sl
def rkV (s p : Value) (K : Dk) : Value := .agg (rdC s p K.fuse K.dark)
/-- the blocks of its rows -/
def RowsOf (s p : Value) (b : Nat) : Prop := s.ownBlock = some b ∨ p.ownBlock = some b
theorem RK.chg {S : Nat → Prop} {w w' : World} {s p : Value} {K : Dk} {n : Nat} (h : RK w s p K n) (hc : Chg S w w') (hS : ∀ b, RowsOf s p b → ¬ S b) : RK w' s p K n :=
  { h with sure := ownsRow_chg h.sure hc (fun b e => hS b (.inl e)), loose := ownsRow_chg h.loose hc (fun b e => hS b (.inr e)) }
theorem RK.no {w w' : World} {s p : Value} {K : Dk} {n : Nat} (h : RK w s p K n) (hc : Chg NoB w w') : RK w' s p K n := h.chg hc (fun _ _ h => h)
theorem RK.lt {w : World} {s p : Value} {K : Dk} {n : Nat} (h : RK w s p K n) : ∀ b, RowsOf s p b → b < w.heap.size := fun b e => e.elim (fun e => (h.sure.lt b e).2) (fun e => (h.loose.lt b e).2)
set_option maxRecDepth 100000 in
set_option maxHeartbeats 4000000 in
theorem rsync_any {s p : Value} (K : Dk) (n : Nat) (w : World) (hR : RK w s p K n) (hl : K.loose.length ≤ 1000) :
    Calls Try.prog 57 #[rkV s p K] w fun e w' => ∃ s' p', e = .returned (.tuple #[rkV s' p' K.sync, .int .i64 (syncE K)]) ∧ RK w' s' p' K.sync n ∧ (∀ b, RowsOf s' p' b → RowsOf s p b ∨ w.heap.size ≤ b) ∧ Chg NoB w w' := by
  obtain ⟨A1, c1, rfl⟩ := own_slice hR.sure
  obtain ⟨A2, c2, rfl⟩ := own_slice hR.loose
  have HR := Lib.hid hR
  obtain ⟨nl, hnl⟩ : ∃ nl, nl = K.loose.length := ⟨_, rfl⟩
  have HNL := Lib.hid hnl
  have HL := Lib.hid hl
  have HSP := Lib.hid (fun w => rspend_any _ _ hR.sl.1 hR.sl.2 K.fuse hR.fuse K.dark w)
  have HK := Lib.hid (rfl : K = K)
  unfold rkV rdC at *
  rw [← hnl] at HSP
  by_cases hd : K.dark = true
  · rw [show K.sync = K from if_pos hd, show syncE K = 6 from if_pos (.inl hd)]
    obtain ⟨fu, hfu⟩ : ∃ fu, fu = K.fuse := ⟨_, rfl⟩
    rw [← hnl, hd, ← hfu]
    clear hR hnl hl hfu hd HSP HK
    go_enter Try.func57, Try.ntmps57
    go_wp2_with fail
    try simp only [Exit.inBlock, Exit.then]
    refine bodyPost_ret (rd_ret2 rfl _ _ (w.heap.size + 1) 34 _ _ _ _ rfl (by simpa using Blk.new (w.alloc _) _ _)) rfl ⟨_, _, rfl, ?_, fun b h => .inl h, ((Chg.refl NoB w).alloc _).alloc _⟩
    rw [HNL.out]; exact HR.out.no (((Chg.refl NoB w).alloc _).alloc _)
  · have hd : K.dark = false := by simpa using hd
    have hbx : Blk ((w.alloc (.cells #[.slice A1 n c1, .slice A2 nl c2, .int .i64 K.fuse, .bool false] 34)).alloc (.cells #[.slice none 0 0, .slice none 0 0, .int .i64 0, .bool false] 34)) w.heap.size 34 #[.slice A1 n c1, .slice A2 nl c2, .int .i64 K.fuse, .bool false] := (Blk.new w _ _).alloc _
    have hbr : Blk ((w.alloc (.cells #[.slice A1 n c1, .slice A2 nl c2, .int .i64 K.fuse, .bool false] 34)).alloc (.cells #[.slice none 0 0, .slice none 0 0, .int .i64 0, .bool false] 34)) (w.heap.size + 1) 34 #[.slice none 0 0, .slice none 0 0, .int .i64 0, .bool false] := by simpa using Blk.new (w.alloc (.cells #[.slice A1 n c1, .slice A2 nl c2, .int .i64 K.fuse, .bool false] 34)) 34 #[.slice none 0 0, .slice none 0 0, .int .i64 0, .bool false]
    have hcx : Chg NoB w ((w.alloc (.cells #[.slice A1 n c1, .slice A2 nl c2, .int .i64 K.fuse, .bool false] 34)).alloc (.cells #[.slice none 0 0, .slice none 0 0, .int .i64 0, .bool false] 34)) := ((Chg.refl _ _).alloc _).alloc _
    have HBX := Lib.hid hbx
    have HBR := Lib.hid hbr
    have HCX := Lib.hid hcx
    have hsy : K.sync = if K.fuse = 0 then K.spent else { K.spent with sure := settle K.sure K.loose, loose := [] } := if_neg (by rw [hd]; decide)
    by_cases hf : K.fuse = 0
    · rw [show syncE K = 6 from if_pos (.inr hf), hsy, if_pos hf]
      have h1 : K.spent.fuse = K.fuse := by unfold Dk.spent; simp [hf]
      have h2 : K.spent.dark = true := by unfold Dk.spent; simp [hf]
      have HS := Lib.hid (show K.spent.n = K.n ∧ K.spent.sure = K.sure ∧ K.spent.loose = K.loose ∧ K.spent.fuse = K.fuse from ⟨rfl, rfl, rfl, h1⟩)
      rw [h1, h2]
      simp only [hd, hf, Bool.false_or] at HSP HBX HBR HCX ⊢
      rw [← hnl]
      clear hR hnl hl hd hf hbx hbr hcx hsy h1 h2 HK
      go_enter Try.func57, Try.ntmps57
      go_wp2_with fail
      refine (HSP.out _).mono ?_
      rintro e w5 ⟨rfl, hc5⟩
      have HC5 := Lib.hid (HCX.out.trans hc5 (fun _ _ h => h))
      have HB5 := Lib.hid ((HBR.out.chg hc5 (fun h => h)).alloc (.cells #[.slice A1 n c1, .slice A2 nl c2, .int .i64 0, .bool true] 34))
      have HB8 := Lib.hid (Blk.new w5 34 #[.slice A1 n c1, .slice A2 nl c2, .int .i64 0, .bool true])
      clear hc5 HSP HBX HBR HCX
      go_wp2_with (first
        | (refine wpList_store_blk rfl 34 _ _ rfl (w.heap.size + 1) _ rfl rfl 34 _ HB5.out rfl rd_size (by simp [Value.oneCell']) ?_)
        | fail)
      try simp only [Exit.inBlock, Exit.then]
      refine bodyPost_ret (rd_ret2 rfl _ _ (w.heap.size + 1) 34 _ _ _ _ rfl (HB5.out.row _)) rfl ?_
      have hcf : Chg NoB w ((w5.alloc (.cells #[.slice A1 n c1, .slice A2 nl c2, .int .i64 0, .bool true] 34)).setRow (w.heap.size + 1) #[.slice A1 n c1, .slice A2 nl c2, .int .i64 0, .bool true]) := (HC5.out.alloc _).setRow (.inr (by omega)) _
      refine ⟨_, _, rfl, ?_, fun b h => .inl h, hcf⟩
      have h9 := HR.out.no hcf
      rw [← HNL.out] at h9
      exact { sure := h9.sure, loose := by have h8 := h9.loose; exact HNL.out ▸ h8, num := h9.num, n0 := h9.n0, n1 := h9.n1, rng := h9.rng, fuse := by rw [HS.out.2.2.2]; exact h9.fuse }
    · rw [show syncE K = 0 from if_neg (by rw [hd]; simp [hf]), hsy, if_neg hf]
      have hf2 : (K.fuse == 0) = false := by simpa using hf
      obtain ⟨fu, hfu⟩ : ∃ fu, fu = (if 0 < K.fuse then K.fuse - 1 else K.fuse) := ⟨_, rfl⟩
      have h1 : K.spent.fuse = fu := by rw [hfu]; rfl
      have h2 : K.spent.dark = false := by unfold Dk.spent; simp [hd, hf2]
      have HFU := Lib.hid (show -1 ≤ fu ∧ fu ≤ 9223372036854775807 from by have := hR.fuse; rw [hfu]; split <;> omega)
      have HS := Lib.hid (show K.spent.n = K.n ∧ K.spent.fuse = fu from ⟨rfl, h1⟩)
      simp only [h1, h2]
      simp only [hd, hf2, ← hfu, Bool.false_or, Bool.not_false] at HSP HBX HBR HCX ⊢
      rw [← hnl]
      obtain ⟨f0, hf0⟩ : ∃ f0, f0 = K.fuse := ⟨_, rfl⟩
      rw [← hf0] at HSP HBX HBR HCX ⊢
      clear hR hnl hl hd hf hbx hbr hcx hsy h1 h2 HK hf0 hf2 hfu
      go_enter Try.func57, Try.ntmps57
      go_wp2_with fail
      refine (HSP.out _).mono ?_
      rintro e w5 ⟨rfl, hc5⟩
      have hk := (HBX.out.chg hc5 (fun h => h)).alloc (.cells #[.slice A1 n c1, .slice A2 nl c2, .int .i64 fu, .bool false] 34)
      have k0 := hk.cell 0
      have k1 := hk.cell 1
      have HC5 := Lib.hid ((HCX.out.trans hc5 (fun _ _ h => h)).alloc (.cells #[.slice A1 n c1, .slice A2 nl c2, .int .i64 fu, .bool false] 34))
      have HB5 := Lib.hid ((HBR.out.chg hc5 (fun h => h)).alloc (.cells #[.slice A1 n c1, .slice A2 nl c2, .int .i64 fu, .bool false] 34))
      have HB8 := Lib.hid (Blk.new w5 34 #[.slice A1 n c1, .slice A2 nl c2, .int .i64 fu, .bool false])
      have H51 := Lib.hid (show w.heap.size + 2 ≤ w5.heap.size from by have h1 := (HBR.out.chg hc5 (fun h => h)).lt; omega)
      clear hc5 HSP HBX HBR HCX hk
      go_wp2_with fail
      have h9 := HR.out.no HC5.out
      have hcall := rsettled_any K.sure n K.loose _ h9.sure h9.loose h9.n0 h9.n1 HL.out (fun q hq => ⟨(h9.rng q hq).1, (h9.rng q hq).2.1⟩)
      rw [← HNL.out] at hcall
      refine hcall.mono ?_
      rintro e w6 ⟨v6, rfl, ho6, hc6⟩
      clear hcall h9 k0 k1
      obtain ⟨A6, c6, rfl⟩ := own_slice ho6
      have hb8 := HB8.out.chg hc6 (fun h => h)
      have k0 := hb8.cell 0
      have k1 := hb8.cell 1
      have k2 := hb8.cell 2
      have k3 := hb8.cell 3
      have kf := hb8.frozen 0
      have kf1 := hb8.frozen 1
      have HB58 := Lib.hid (HB5.out.chg hc6 (fun h => h))
      have HB88 := Lib.hid hb8
      have HC6 := Lib.hid (HC5.out.trans hc6 (fun _ _ h => h))
      have HO6 := Lib.hid ho6
      have HSZ := Lib.hid (show w.heap.size ≤ w5.heap.size + 1 from by have := H51.out; omega)
      clear ho6 hc6 hb8
      go_wp2_with (first
        | (refine wpList_store_blk rfl 34 _ _ rfl (w.heap.size + 1) _ rfl rfl 34 _ ((HB58.out.far (by have := H51.out; simp; omega) _).far (by have := H51.out; simp; omega) _) rfl rd_size (by simp [Value.oneCell']) ?_)
        | fail)
      try simp only [Exit.inBlock, Exit.then]
      have hbf := ((HB58.out.far (p := ⟨w5.heap.size, 0, none⟩) (by have := H51.out; simp; omega) (.slice A6 n c6)).far (p := ⟨w5.heap.size, 1, none⟩) (by have := H51.out; simp; omega) (.slice none 0 0))
      refine bodyPost_ret (rd_ret2 rfl _ _ (w.heap.size + 1) 34 _ _ _ _ rfl (hbf.row _)) rfl ?_
      have h1 : w.heap.size ≤ w5.heap.size := by have := H51.out; omega
      have hcf : Chg NoB w (((w6.setCell ⟨w5.heap.size, 0, none⟩ (.slice A6 n c6)).setCell ⟨w5.heap.size, 1, none⟩ (.slice none 0 0)).setRow (w.heap.size + 1) #[.slice A6 n c6, .slice none 0 0, .int .i64 fu, .bool false]) := ((HC6.out.setCell (.inr h1) _).setCell (.inr h1) _).setRow (.inr (by omega)) _
      have hq := fun cs => ownsRow_chg (own_base HO6.out) ((((Chg.refl (fun g => g = w5.heap.size ∨ g = w.heap.size + 1) w6).setCell (p := ⟨w5.heap.size, 0, none⟩) (.inl (.inl rfl)) (.slice A6 n c6)).setCell (p := ⟨w5.heap.size, 1, none⟩) (.inl (.inl rfl)) (.slice none 0 0)).setRow (.inl (.inr rfl)) cs) (fun g hg h => by
          rcases h with rfl | rfl
          · exact own_ne HO6.out HB88.out (by decide) hg
          · exact own_ne HO6.out HB58.out (by decide) hg)
      refine ⟨_, _, rfl, ?_, ?_, hcf⟩
      · exact { sure := hq _, loose := World.ownsRow_nil _ _ _ _, num := HR.out.num, n0 := HR.out.n0, n1 := HR.out.n1, rng := fun q hq => (by cases hq), fuse := HFU.out }
      · intro b hb
        rcases hb with hb | hb
        · have h2 := (HO6.out.lt b hb).1
          right
          simp at h2; omega
        · cases hb
end Go.Proofs.Ytlhfhhbafhnbkaa
