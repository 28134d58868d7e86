/-
  THE REFERENCE's Write, where it writes.
-/
import Derived.Test.YtlhfhhbafhnbkaaSRef3
namespace Go.Proofs.Ytlhfhhbafhnbkaa
open Go.RowKit
set_option linter.unusedSimpArgs false
set_option linter.unusedVariables false
theorem rput_reads {w : World} {b : Nat} {x : Value} {y : Value} (hb : Blk w b 82 #[x, y]) : Reads w (b + 1) 2 (some ⟨b, 0, none⟩) 1 [x, y] := by
  refine ⟨rfl, fun _ => ⟨_, rfl, by simp, fun j u hu => ?_⟩⟩
  have ha : (⟨b, 0, none⟩ : Addr).add j = ⟨b, j, none⟩ := by unfold Addr.add; split <;> simp_all
  rw [ha, hb.cell j, ← hu]
  simp
theorem own_base {w : World} {base n size : Nat} {t : TypeId} {v : Value} {xs : List Value} (h : w.ownsRow base t size v n xs) : w.ownsRow 0 t size v n xs := by
  refine ⟨h.1, ?_⟩
  rcases h.2 with h0 | ⟨g, cap, cur, hv, hb, hr⟩
  · exact .inl h0
  · exact .inr ⟨g, cap, cur, hv, Nat.zero_le _, hr⟩
theorem own_ge {w : World} {base n size : Nat} {t : TypeId} {v : Value} {xs : List Value} (h : w.ownsRow base t size v n xs) : ∀ b, v.ownBlock = some b → base ≤ b := by
  intro b hb
  rcases h.2 with ⟨rfl, _⟩ | ⟨g, cap, cur, rfl, hg, _⟩
  · cases hb
  · have : g = b := by simpa [Value.ownBlock] using hb
    omega
set_option maxRecDepth 100000 in
set_option maxHeartbeats 4000000 in
theorem rwrite_ok {s p : Value} {sure : List (List UInt8)} {loose : List (Int × List UInt8)} {w : World} (hR : RD w s p sure loose) (hsl : sure.length ≤ 8192) (hll : loose.length ≤ 1000) (fuse : Int) (hf : -1 ≤ fuse ∧ fuse ≤ 9223372036854775807) (i : Int) (l : List UInt8) (hb : ¬ rwBad sure.length i l) :
    Calls Try.prog 16 #[.agg (rdC s p fuse false), .int .i64 i, strV l] w fun e w' => ∃ p', e = .returned (.tuple #[.agg (rdC s p' (if 0 < fuse then fuse - 1 else fuse) (fuse == 0)), .int .i64 (rwriteE sure.length fuse false i l)]) ∧ RD w' s p' sure (loose ++ [(i, l)]) ∧ (∀ b, p'.ownBlock = some b → w.heap.size ≤ b) ∧ Chg NoB w w' := by
  obtain ⟨A1, c1, rfl⟩ := own_slice hR.sure
  obtain ⟨A2, c2, rfl⟩ := own_slice hR.loose
  have HR := Lib.hid hR
  have HSP := Lib.hid (fun w => rspend_any _ _ hR.sl.1 hR.sl.2 fuse hf false w)
  obtain ⟨ns, hns⟩ : ∃ ns, ns = sure.length := ⟨_, rfl⟩
  obtain ⟨nl, hnl⟩ : ∃ nl, nl = loose.length := ⟨_, rfl⟩
  rw [← hns, ← hnl] at HSP
  rw [← hns] at hsl hb ⊢
  rw [← hnl] at hll ⊢
  have HNS := Lib.hid hns
  have HNL := Lib.hid hnl
  obtain ⟨ar, har⟩ : ∃ ar, ar = l.toArray := ⟨_, rfl⟩
  have hsz : (⟨ar⟩ : ByteArray).size = l.length := by rw [har]; simp [ByteArray.size]
  have HAR := Lib.hid har
  rw [show strV l = Value.string ⟨ar⟩ from by rw [har]; rfl]
  have hrange : 0 ≤ i ∧ i < (ns : Int) ∧ (l.length : Int) = 512 := by unfold rwBad at hb; omega
  have hwe : rwriteE ns fuse false i l = if fuse = 0 then 6 else 0 := by unfold rwriteE; rw [if_neg hb, if_neg (by decide)]
  rw [hwe]
  obtain ⟨h1, h2, h3⟩ := hrange
  obtain ⟨dk, hdk⟩ : ∃ dk, dk = (fuse == 0) := ⟨_, rfl⟩
  obtain ⟨fu, hfu⟩ : ∃ fu, fu = (if 0 < fuse then fuse - 1 else fuse) := ⟨_, rfl⟩
  have hww : (if fuse = 0 then (6 : Int) else 0) = if dk = true then 6 else 0 := by rw [hdk]; simp
  rw [hww, ← hdk, ← hfu]
  simp only [← hdk, ← hfu, Bool.false_or] at HSP
  have hbx : Blk ((w.alloc (.cells #[.slice A1 ns c1, .slice A2 nl c2, .int .i64 fuse, .bool false] 34)).alloc (.cells #[.slice none 0 0, .slice none 0 0, .int .i64 0, .bool false] 34)) w.heap.size 34 #[.slice A1 ns c1, .slice A2 nl c2, .int .i64 fuse, .bool false] := (Blk.new w _ _).alloc _
  have hbr : Blk ((w.alloc (.cells #[.slice A1 ns c1, .slice A2 nl c2, .int .i64 fuse, .bool false] 34)).alloc (.cells #[.slice none 0 0, .slice none 0 0, .int .i64 0, .bool false] 34)) (w.heap.size + 1) 34 #[.slice none 0 0, .slice none 0 0, .int .i64 0, .bool false] := by simpa using Blk.new (w.alloc (.cells #[.slice A1 ns c1, .slice A2 nl c2, .int .i64 fuse, .bool false] 34)) 34 #[.slice none 0 0, .slice none 0 0, .int .i64 0, .bool false]
  have hcx : Chg NoB w ((w.alloc (.cells #[.slice A1 ns c1, .slice A2 nl c2, .int .i64 fuse, .bool false] 34)).alloc (.cells #[.slice none 0 0, .slice none 0 0, .int .i64 0, .bool false] 34)) := ((Chg.refl _ _).alloc _).alloc _
  have HBX := Lib.hid hbx
  have HBR := Lib.hid hbr
  have HCX := Lib.hid hcx
  clear hbx hbr hcx hb hns hnl har hdk hfu hww hwe hR hf
  unfold rdC
  go_enter Try.func16, Try.ntmps16
  go_wp2_with fail
  refine (HSP.out _).mono ?_
  rintro e w5 ⟨rfl, hc5⟩
  have hk := HBX.out.chg hc5 (fun h => h)
  have k0 := hk.cell 0
  have k1 := hk.cell 1
  have k2 := hk.cell 2
  have k3 := hk.cell 3
  have HC5 := Lib.hid (HCX.out.trans hc5 (fun _ _ h => h))
  have HBR5 := Lib.hid (HBR.out.chg hc5 (fun h => h))
  have HK5 := Lib.hid hk
  have k8 := ((hk.alloc (.cells #[.slice A1 ns c1, .slice A2 nl c2, .int .i64 fu, .bool dk] 34)).alloc (.cells #[] 82)).cell 1
  obtain ⟨wA, hwA⟩ : ∃ wA, wA = (w5.alloc (.cells #[.slice A1 ns c1, .slice A2 nl c2, .int .i64 fu, .bool dk] 34)).alloc (.cells #[] 82) := ⟨_, rfl⟩
  have hcA : Chg NoB w5 wA := by rw [hwA]; exact ((Chg.refl _ _).alloc _).alloc _
  have hown : wA.ownsRow w.heap.size 82 2 (.slice (some ⟨w5.heap.size + 1, 0, none⟩) 0 0) 0 [] := by
    have hb : Blk wA (w5.heap.size + 1) 82 #[] := by rw [hwA]; simpa using Blk.new (w5.alloc _) 82 #[]
    exact ⟨rfl, .inr ⟨w5.heap.size + 1, 0, #[], rfl, by have := HC5.out.size; omega, hb, Nat.le_refl _, Nat.zero_le _, rfl, rfl⟩⟩
  have hrd := own_reads (A := A2) (c := c2) (by have h := ownsRow_chg HR.out.loose (HC5.out.trans hcA (fun _ _ h => h)) (fun _ _ h => h); exact h)
  rw [← HNL.out] at hrd
  obtain ⟨it, hit, hz, hs1, hs2⟩ := rp_full
  have HIT := Lib.hid (show Try.prog.info? 82 = some it ∧ it.zero = some (.agg #[.int .i64 0, .string ⟨#[]⟩]) ∧ it.size = 2 ∧ it.bytes = 24 from ⟨hit, hz, hs1, hs2⟩)
  have HSA := Lib.hid (show w.heap.size ≤ wA.heap.size from Nat.le_trans HC5.out.size hcA.size)
  have hb8 : Blk wA w5.heap.size 34 #[.slice A1 ns c1, .slice A2 nl c2, .int .i64 fu, .bool dk] := by rw [hwA]; exact (Blk.new w5 _ _).alloc _
  have hb5 : Blk wA (w.heap.size + 1) 34 #[.slice none 0 0, .slice none 0 0, .int .i64 0, .bool false] := HBR5.out.chg hcA (fun h => h)
  have hca : Chg NoB w wA := HC5.out.trans hcA (fun _ _ h => h)
  have hsA : wA.heap.size = w5.heap.size + 2 := by rw [hwA]; simp
  have h51 : w.heap.size + 2 ≤ w5.heap.size := by have h1 := HBR5.out.lt; omega
  rw [hwA] at hown hrd HSA hb8 hb5 hca hsA
  have HOWN := Lib.hid hown
  have HRD := Lib.hid hrd
  have HB8 := Lib.hid hb8
  have HB5 := Lib.hid hb5
  have HCA := Lib.hid hca
  have HWA := Lib.hid hsA
  have H51 := Lib.hid h51
  clear hk hc5 HSP HBX HBR HCX hwA hcA hown hrd hit hz hs1 hs2 hb8 hb5 hca hsA h51
  unfold rdC
  go_wp2_with (first
    | (at_builtin
       refine wpList_append_gen _ rfl _ _ _ _ rfl Try.underlying32 it _ 2 24 w.heap.size HIT.out.1 HIT.out.2.1 HIT.out.2.2.1 HIT.out.2.2.2 rfl (by decide) (.slice (some ⟨w5.heap.size + 1, 0, none⟩) 0 0) 0 [] rfl HOWN.out _ A2 nl c2 (loose.flatMap rputL) rfl HRD.out (rput_one loose) (by omega) (by unfold maxLen; omega) HSA.out ?_
       intro v9 w9 ho9 hg9 hv9
       obtain ⟨A9, c9, rfl⟩ := own_slice ho9
       rw [Nat.zero_add, List.nil_append] at ho9
       have HO9 := Lib.hid (show (w9.alloc (.cells #[.int .i64 i, .string ⟨ar⟩] 82)).ownsRow w.heap.size 82 2 (.slice A9 nl c9) nl (loose.flatMap rputL) from ownsRow_chg ho9 ((Chg.refl NoB w9).alloc _) (fun _ _ h => h))
       have HV9 := Lib.hid (show ∀ b, (Value.slice A9 nl c9).ownBlock = some b → w5.heap.size + 1 ≤ b from fun b hb => by
         have hs := HWA.out
         rw [Nat.zero_add] at hv9
         rcases hv9 with e | e
         · rw [e] at hb; simp [Value.ownBlock] at hb; omega
         · rw [e] at hb; injection hb with hb; omega)
       have HS9 := Lib.hid (show w5.heap.size + 2 ≤ w9.heap.size from by have := hg9.size; have := HWA.out; omega)
       have HB89 := Lib.hid ((HB8.out.grown hg9 (by simp [Value.ownBlock])).alloc (.cells #[.int .i64 i, .string ⟨ar⟩] 82))
       have HB59 := Lib.hid ((HB5.out.grown hg9 (by have := H51.out; simp [Value.ownBlock]; omega)).alloc (.cells #[.int .i64 i, .string ⟨ar⟩] 82))
       have HC9 := Lib.hid ((HCA.out.grown hg9 (fun g hg => .inr (by have := H51.out; simp [Value.ownBlock] at hg; omega))).alloc (.cells #[.int .i64 i, .string ⟨ar⟩] 82))
       clear ho9 hg9 hv9)
    | (at_builtin
       refine wpList_append_gen _ rfl _ _ _ _ rfl Try.underlying32 it _ 2 24 w.heap.size HIT.out.1 HIT.out.2.1 HIT.out.2.2.1 HIT.out.2.2.2 rfl (by decide) (.slice A9 nl c9) nl _ rfl HO9.out _ (some ⟨w9.heap.size, 0, none⟩) 1 1 [.int .i64 i, .string ⟨ar⟩] rfl (rput_reads (Blk.new w9 _ _)) (by intro u hu; simp at hu; rcases hu with rfl | rfl <;> rfl) (by omega) (by unfold maxLen; omega) (by have := HS9.out; have := H51.out; simp; omega) ?_
       intro v7 w7 ho7 hg7 hv7
       obtain ⟨A7, c7, rfl⟩ := own_slice ho7
       have HO7 := Lib.hid ho7
       have hb87 := HB89.out.grown hg7 (fun e => by have := HV9.out _ e.symm; omega)
       have hb57 := HB59.out.grown hg7 (fun e => by have := HV9.out _ e.symm; have := H51.out; omega)
       have hc7 := HC9.out.grown hg7 (fun g hg => .inr (by have := HV9.out _ hg; have := H51.out; omega))
       have HB87 := Lib.hid hb87
       have HB57 := Lib.hid hb57
       have HC7 := Lib.hid hc7
       have k0 := hb87.cell 0
       have k1 := hb87.cell 1
       have k2 := hb87.cell 2
       have k3 := hb87.cell 3
       have kf := hb87.frozen 1
       clear ho7 hg7 hv7 hb87 hb57 hc7)
    | (refine wpList_store_blk rfl 34 _ _ rfl (w.heap.size + 1) _ rfl rfl 34 _ (HB57.out.far (by have := H51.out; simp; omega) _) rfl rd_size (by simp [Value.oneCell']) ?_)
    | fail)
  all_goals
    try simp only [Exit.inBlock, Exit.then]
    have hF := HB57.out.far (p := ⟨w5.heap.size, 1, none⟩) (by have := H51.out; simp; omega) (.slice A7 (nl + 1) c7)
    refine bodyPost_ret (rd_ret2 rfl _ _ (w.heap.size + 1) 34 _ _ _ _ rfl (hF.row _)) rfl ⟨_, rfl, ?_, own_ge HO7.out, ?_⟩
    · refine ⟨?_, ?_⟩
      · rw [HNS.out]
        refine ownsRow_chg HR.out.sure ((HC7.out.setCell (.inr (by have := H51.out; simp; omega)) _).setRow (.inr (by omega)) _) (fun _ _ h => h)
      · have hq := fun cs => ownsRow_chg (own_base HO7.out) (((Chg.refl (fun g => g = w5.heap.size ∨ g = w.heap.size + 1) w7).setCell (p := ⟨w5.heap.size, 1, none⟩) (.inl (.inl rfl)) (.slice A7 (nl + 1) c7)).setRow (.inl (.inr rfl)) cs) (fun g hg h => by
          rcases h with rfl | rfl
          · exact own_ne HO7.out HB87.out (by decide) hg
          · exact own_ne HO7.out HB57.out (by decide) hg)
        rw [show (loose ++ [(i, l)]).length = nl + 1 from by rw [List.length_append, ← HNL.out]; rfl, show (loose ++ [(i, l)]).flatMap rputL = loose.flatMap rputL ++ [Value.int .i64 i, .string ⟨ar⟩] from by rw [HAR.out]; simp [rputL, strV]]
        exact hq _
    · exact (HC7.out.setCell (.inr (by have := H51.out; simp; omega)) _).setRow (.inr (by omega)) _
end Go.Proofs.Ytlhfhhbafhnbkaa
