/-
  THE REFERENCE's Crash, of a disk as a whole.
-/
import Derived.Test.YtlhfhhbafhnbkaaSRef6
import Derived.Deep.CutRange
namespace Go.Proofs.Ytlhfhhbafhnbkaa
open Go.RowKit
set_option linter.unusedSimpArgs false
set_option linter.unusedVariables false
theorem crashF_snoc (f : Int → List UInt8) (ks : List Int) (ps : List (Int × List UInt8)) (p : Int × List UInt8) : crashF f ks (ps ++ [p]) = torn (crashF f ks ps) p (cOf true ks ps.length) := by
  unfold crashF
  rw [List.zipIdx_append, List.foldl_append]
  simp
theorem rp_size : (Try.prog.info? 82).map (·.size) = some 2 := by kernel_rfl
theorem cutN_case (zi zc : Int) : cutN zi zc = if zc ≤ 0 then 0 else if 1 < zc ∧ zi ≠ 0 then ((zc - 2) % 512).toNat else 512 := rfl
theorem torn_len {f : Int → List UInt8} (hf : ∀ i, (f i).length = 512) {p : Int × List UInt8} (hp : p.2.length = 512) (c : Int) : ∀ i, (torn f p c i).length = 512 := by
  intro i
  unfold torn upd
  have h := cutN_le p.1 c
  split
  · rw [List.length_append, List.length_take, List.length_drop, hp, hf]; omega
  · exact hf i
theorem crashF_len {f : Int → List UInt8} (hf : ∀ i, (f i).length = 512) (ks : List Int) : ∀ (ps : List (Int × List UInt8)), (∀ p ∈ ps, p.2.length = 512) → ∀ i, (crashF f ks ps i).length = 512 := by
  intro ps hp
  have key : ∀ (l : List ((Int × List UInt8) × Nat)) (f : Int → List UInt8), (∀ i, (f i).length = 512) → (∀ x ∈ l, x.1.2.length = 512) → ∀ i, (l.foldl (fun f x => torn f x.1 (cOf true ks x.2)) f i).length = 512 := by
    intro l
    induction l with
    | nil => intro f hf _; exact hf
    | cons x r ih => intro f hf hx; exact ih _ (torn_len hf (hx x (by simp)) _) (fun y hy => hx y (by simp [hy]))
  exact key _ f hf (fun x hx => hp _ (by
    obtain ⟨q, k⟩ := x
    exact (List.mem_zipIdx' hx).2 ▸ List.getElem_mem _))
set_option maxRecDepth 100000 in
set_option maxHeartbeats 4000000 in
theorem rcrash_any {s p : Value} (K : Dk) (n : Nat) (w : World) (hR : RK w s p K n) (hl : K.loose.length ≤ 1000) (hs5 : ∀ i, (K.sure i).length = 512) (Ak : Option Addr) (nk ck : Nat) (ks : List Int) (hnk : ks.length = nk) (hks : IB w w.heap.size Ak ks) (hkr : ∀ k ∈ ks, I64r k) :
    Calls Try.prog 33 #[rkV s p K, .slice Ak nk ck] w fun e w' => ∃ s' p', e = .returned (rkV s' p' (K.crash ks)) ∧ RK w' s' p' (K.crash ks) n ∧ (∀ b, RowsOf s' p' b → RowsOf s p b ∨ w.heap.size ≤ b) ∧ Chg NoB w w' := by
  obtain ⟨A1, c1, rfl⟩ := own_slice hR.sure
  obtain ⟨A2, c2, rfl⟩ := own_slice hR.loose
  obtain ⟨nl, hnl⟩ : ∃ nl, nl = K.loose.length := ⟨_, rfl⟩
  have HR := Lib.hid hR
  have HNL := Lib.hid hnl
  have hn0 := hR.n0
  have hn1 := hR.n1
  rw [← hnl] at hl ⊢
  have HKS := Lib.hid hks
  have HNK := Lib.hid hnk
  have HKR := Lib.hid hkr
  have HS5 := Lib.hid hs5
  unfold rkV rdC
  obtain ⟨f0, hf0⟩ : ∃ f0, f0 = K.fuse := ⟨_, rfl⟩
  obtain ⟨d0, hd0⟩ : ∃ d0, d0 = K.dark := ⟨_, rfl⟩
  rw [← hf0, ← hd0]
  simp only [show (K.crash ks).fuse = -1 from rfl, show (K.crash ks).dark = false from rfl]
  have hcx : Chg NoB w (((w.alloc (.cells #[.slice A1 n c1, .slice A2 nl c2, .int .i64 f0, .bool d0] 34)).alloc (.cells #[.slice none 0 0, .slice none 0 0, .int .i64 0, .bool false] 34)).alloc (.cells #[] 9)) := (((Chg.refl _ _).alloc _).alloc _).alloc _
  obtain ⟨wA, hwA⟩ : ∃ wA, wA = ((w.alloc (.cells #[.slice A1 n c1, .slice A2 nl c2, .int .i64 f0, .bool d0] 34)).alloc (.cells #[.slice none 0 0, .slice none 0 0, .int .i64 0, .bool false] 34)).alloc (.cells #[] 9) := ⟨_, rfl⟩
  have hown : wA.ownsRow w.heap.size 9 1 (.slice (some ⟨w.heap.size + 2, 0, none⟩) 0 0) 0 [] := by
    have h := World.ownsRow_made (base := w.heap.size) (e := 9) (size := 1) ((w.alloc (.cells #[.slice A1 n c1, .slice A2 nl c2, .int .i64 f0, .bool d0] 34)).alloc (.cells #[.slice none 0 0, .slice none 0 0, .int .i64 0, .bool false] 34)) #[] 0 (by simp; omega) (Nat.zero_le _) rfl
    rw [hwA]; simpa using h
  have hbx : Blk wA w.heap.size 34 #[.slice A1 n c1, .slice A2 nl c2, .int .i64 f0, .bool d0] := by rw [hwA]; exact ((Blk.new w _ _).alloc _).alloc _
  have hbr : Blk wA (w.heap.size + 1) 34 #[.slice none 0 0, .slice none 0 0, .int .i64 0, .bool false] := by
    rw [hwA]
    have h := Blk.new (w.alloc (.cells #[.slice A1 n c1, .slice A2 nl c2, .int .i64 f0, .bool d0] 34)) 34 #[.slice none 0 0, .slice none 0 0, .int .i64 0, .bool false]
    exact Blk.alloc (by simpa using h) _
  have hrd := own_reads (A := A1) (c := c1) (ownsRow_chg hR.sure (hwA ▸ hcx) (fun _ _ h => h))
  rw [hwA] at hown hbx hbr hrd
  obtain ⟨it, hit, hz, hs1, hs2⟩ := str_full
  have HIT := Lib.hid (show Try.prog.info? 9 = some it ∧ it.zero = some (.string ⟨#[]⟩) ∧ it.size = 1 ∧ it.bytes = 16 from ⟨hit, hz, hs1, hs2⟩)
  have HOWN := Lib.hid hown
  have HRD := Lib.hid hrd
  have HC0 := Lib.hid hcx
  have HBX := Lib.hid hbx
  have HBR := Lib.hid hbr
  clear hR hnl hks hnk hkr hs5 hf0 hd0 hcx hwA hown hrd hbx hbr hit hz hs1 hs2
  go_enter Try.func33, Try.ntmps33
  go_wp2_with (first
    | (at_builtin
       refine wpList_append_gen _ rfl _ _ _ _ rfl Try.underlying31 it _ 1 16 w.heap.size HIT.out.1 HIT.out.2.1 HIT.out.2.2.1 HIT.out.2.2.2 rfl (by decide) (.slice (some ⟨w.heap.size + 2, 0, none⟩) 0 0) 0 [] rfl HOWN.out _ A1 n c1 (secs K.sure n) rfl HRD.out (secs_one _ n) (by omega) (by unfold maxLen; omega) (by simp; omega) ?_
       intro v5 w5 ho5 hg5 hv5
       rw [Nat.zero_add, List.nil_append] at ho5
       have HC5 := Lib.hid (HC0.out.grown hg5 (fun g hg => .inr (by simp [Value.ownBlock] at hg; omega)))
       have HBX5 := Lib.hid (HBX.out.grown hg5 (by simp [Value.ownBlock]))
       have HBR5 := Lib.hid (HBR.out.grown hg5 (by simp [Value.ownBlock]))
       obtain ⟨g5, cap5, cur5, rfl, hg5b, hb5, hnc5, hm5, hsz5, htk5⟩ := own_open ho5 hn0
       have HG5 := Lib.hid (show w.heap.size ≤ g5 ∧ Blk w5 g5 9 cur5 ∧ n ≤ cap5 ∧ cap5 ≤ maxLen ∧ cur5.size = cap5 * 1 ∧ cur5.toList.take (n * 1) = secs K.sure n from ⟨hg5b, hb5, hnc5, hm5, hsz5, htk5⟩)
       clear ho5 hg5 hv5 hg5b hb5 hnc5 hm5 hsz5 htk5)
    | fail)
  have HGX := Lib.hid (show w.heap.size ≠ g5 ∧ w.heap.size + 1 ≠ g5 from ⟨fun h => (HBX5.out.ne_ HG5.out.2.1 (by decide)) h, fun h => (HBR5.out.ne_ HG5.out.2.1 (by decide)) h⟩)
  go_loopw [6] (fun i wr => ∃ j : Nat, j ≤ nl ∧ i = .int .i64 j ∧ (∃ cur, Blk wr g5 9 cur ∧ cur.size = cap5 * 1 ∧ cur.toList.take (n * 1) = secs (crashF K.sure ks (K.loose.take j)) n) ∧ Chg (fun b => b = g5) w5 wr) (fun i _ => nl - (intOf i).toNat)
  case atStart => exact ⟨0, Nat.zero_le _, rfl, ⟨cur5, HG5.out.2.1, HG5.out.2.2.2.2.1, HG5.out.2.2.2.2.2⟩, Chg.refl _ _⟩
  case round =>
    obtain ⟨j, hj, rfl, ⟨cur, hb, hsz, htk⟩, hch⟩ := hrel
    have HCH := Lib.hid hch
    have HCW := Lib.hid (show Chg NoB w wr from HC5.out.trans hch (fun g hg e => by have h1 : g = g5 := e; have h2 := HG5.out.1; omega))
    have HBXR := Lib.hid (HBX5.out.chg hch (fun e => HGX.out.1 e))
    have HBRR := Lib.hid (HBR5.out.chg hch (fun e => HGX.out.2 e))
    have k1 := HBXR.out.cell 1
    by_cases hlt : j < nl
    · have HOP := Lib.hid (ownsRow_chg HR.out.loose HCW.out (fun _ _ h => h))
      obtain ⟨gp, rfl, cp⟩ := own_cellN (by have h := HOP.out; rw [← HNL.out] at h; exact h) (by omega)
      have hj2 : j < K.loose.length := by rw [← HNL.out]; exact hlt
      obtain ⟨z, hz⟩ : ∃ z, z = K.loose[j] := ⟨_, rfl⟩
      have hp := rput_at K.loose j hj2
      rw [← hz] at hp
      have cp0 := cp (j * 2) (by omega)
      have cp1 := cp (j * 2 + 1) (by omega)
      have hzr := HR.out.rng z (by rw [hz]; exact List.getElem_mem hj2)
      obtain ⟨zi, hzi⟩ : ∃ zi : Nat, z.1 = (zi : Int) := ⟨z.1.toNat, by omega⟩
      have hzn : zi < n := by omega
      rw [hp.1, hzi] at cp0
      obtain ⟨arz, harz⟩ : ∃ arz, arz = z.2.toArray := ⟨_, rfl⟩
      rw [hp.2, show strV z.2 = Value.string ⟨arz⟩ from by rw [harz]; rfl] at cp1
      obtain ⟨ff, hff⟩ : ∃ ff, ff = crashF K.sure ks (K.loose.take j) := ⟨_, rfl⟩
      rw [← hff] at htk
      have hcz : cur[zi]? = some (.string ⟨(ff (zi : Int)).toArray⟩) := by
        rw [← secs_at ff hzn, ← htk]
        simp [List.getElem?_take, hzn]
      obtain ⟨zc, hzc⟩ : ∃ zc, zc = cOf true ks j := ⟨_, rfl⟩
      have HZC := Lib.hid hzc
      have HFL := Lib.hid (show (ff (zi : Int)).length = 512 ∧ z.2.length = 512 from ⟨by rw [hff]; exact crashF_len HS5.out ks _ (fun q hq => (HR.out.rng q (List.mem_of_mem_take hq)).2.2) _, hzr.2.2⟩)
      have HTK := Lib.hid (show crashF K.sure ks (K.loose.take (j + 1)) = torn ff z zc from by
        rw [show K.loose.take (j + 1) = K.loose.take j ++ [z] from by rw [hz, List.take_succ_eq_append_getElem], crashF_snoc, ← hff, List.length_take, Nat.min_eq_left (by omega), ← hzc])
      have HARZ := Lib.hid harz
      have HZI := Lib.hid hzi
      have HCZ := Lib.hid hcz
      have HZN := Lib.hid hzn
      have HB := Lib.hid (show Blk wr g5 9 cur ∧ cur.size = cap5 * 1 ∧ cur.toList.take (n * 1) = secs ff n from ⟨hb, hsz, htk⟩)
      have HCAP := Lib.hid HG5.out.2.2.1
      have HP0 := Lib.hid cp0
      have HP1 := Lib.hid cp1
      have HZR := Lib.hid (show I64r zc from by
        rw [hzc]; unfold cOf
        cases hq : ks[j]? with
        | none => simp; unfold I64r; omega
        | some k => exact HKR.out k (List.mem_of_getElem? hq))
      clear hp cp harz hzr hzi hcz hz hb hsz htk hch hff hzc cp0 cp1
      go_upto_if 24 with (fail)
      go_cut [7] from 21 to 61 (fun c w => c = .int .i64 zc ∧ wr = w)
      case first =>
        by_cases hjk : j < nk
        · obtain ⟨ad, rfl, hadb, hca⟩ := HKS.out.at_ (k := j) (by rw [HNK.out]; exact hjk)
          have hca2 : wr.cell? (ad.add j) = some (.int .i64 zc) := by
            rw [cell_of_heap (w := w) (w' := wr) (HCW.out.block _ (by rw [block_of_add]; exact hadb) (fun h => h)), hca, HZC.out]
            unfold cOf
            rw [List.getElem?_eq_getElem]; rfl
          clear hca
          go_wp2_with fail
          go_meet
          case rel => exact ⟨rfl, rfl⟩
        · have h0 : zc = 0 := by
            rw [HZC.out]; unfold cOf
            rw [List.getElem?_eq_none (by rw [HNK.out]; omega)]; rfl
          go_wp2_with fail
          go_meet
          case rel => exact ⟨by rw [h0], rfl⟩
      case rest =>
        obtain ⟨rfl, rfl⟩ := hcut
        have cp0 := HP0.out
        have cp1 := HP1.out
        go_upto_region 10 with (first
          | (refine wpList_store_blk rfl 82 _ _ rfl wr.heap.size _ rfl rfl 82 _ (Blk.new wr _ _) rfl rp_size (by simp [Value.oneCell']) ?_)
          | fail)
        have hb8 := (Blk.new wr 82 #[.int .i64 0, .string ⟨#[]⟩]).row #[.int .i64 (zi : Int), .string ⟨arz⟩]
        have hc8 : Chg NoB wr ((wr.alloc (.cells #[.int .i64 0, .string ⟨#[]⟩] 82)).setRow wr.heap.size #[.int .i64 (zi : Int), .string ⟨arz⟩]) := ((Chg.refl NoB wr).alloc _).setRow (.inr (Nat.le_refl _)) _
        generalize hw8 : (wr.alloc (.cells #[.int .i64 0, .string ⟨#[]⟩] 82)).setRow wr.heap.size #[.int .i64 (zi : Int), .string ⟨arz⟩] = w8 at hb8 hc8 ⊢
        have HB8 := Lib.hid hb8
        have HC8 := Lib.hid hc8
        clear hw8 hc8 cp0 cp1 k1
        have q0 : w8.cell? ⟨wr.heap.size, 0, none⟩ = some (.int .i64 (zi : Int)) := hb8.cell 0
        have q1 : w8.cell? ⟨wr.heap.size, 1, none⟩ = some (.string ⟨arz⟩) := hb8.cell 1
        clear hb8
        obtain ⟨bb, hbb⟩ : ∃ bb, bb = decide (1 < zc ∧ ¬ zi = 0) := ⟨_, rfl⟩
        have HBB := Lib.hid hbb
        go_cut [40] from 21 to 61 (fun b w => b = .bool bb ∧ w8 = w)
        case first =>
          by_cases h1 : 1 < zc
          · by_cases h2 : zi = 0
            · have hv : bb = false := by rw [hbb]; simp [h2]
              clear hbb HBB
              subst h2
              have HV := Lib.hid hv
              clear hv
              go_wp2_with fail
              go_meet
              case rel => exact ⟨by first | (rw [HV.out]; done) | (rw [HV.out]; rfl) | (rw [HV.out]; simp; omega), rfl⟩
            · have hv : bb = true := by rw [hbb]; simp [h1, h2]
              clear hbb HBB
              have h3 : (0 : Int) < (zi : Int) := by omega
              have HV := Lib.hid hv
              clear hv
              go_wp2_with fail
              go_meet
              case rel => exact ⟨by first | (rw [HV.out]; done) | (rw [HV.out]; rfl) | (rw [HV.out]; simp; omega), rfl⟩
          · have hv : bb = false := by rw [hbb]; simp [h1]
            clear hbb HBB
            have HV := Lib.hid hv
            clear hv
            go_wp2_with fail
            go_meet
            case rel => exact ⟨by first | (rw [HV.out]; done) | (rw [HV.out]; rfl) | (rw [HV.out]; simp; omega), rfl⟩
        case rest =>
          obtain ⟨rfl, rfl⟩ := hcut
          clear hbb
          go_upto_if 40 with (fail)
          obtain ⟨n1, hn1⟩ : ∃ n1 : Int, n1 = if bb = true then (zc - 2) % 512 else 512 := ⟨_, rfl⟩
          have HN1 := Lib.hid hn1
          go_cut [9] from 21 to 61 (fun b w => b = .int .i64 n1 ∧ w8 = w)
          case first =>
            cases hq : bb
            · rw [hq] at hn1
              have hv : n1 = 512 := hn1
              have HV := Lib.hid hv
              clear hv
              go_wp2_with fail
              go_meet
              case rel => exact ⟨by first | (rw [HV.out]; done) | (rw [HV.out]; rfl) | (rw [HV.out]; simp; omega), rfl⟩
            · rw [hq] at hn1
              have hgt : 1 < zc := by have h := HBB.out; rw [hq] at h; exact (of_decide_eq_true h.symm).1
              have hwr : RowKit.wrap64 (zc - 2) = zc - 2 := IntWalk.wrap64_in _ ⟨by omega, by have := HZR.out.2; omega⟩
              have hv : n1 = (zc - 2) % 512 := hn1
              have HV := Lib.hid hv
              clear hv
              go_wp2_with fail
              go_meet
              case rel => exact ⟨by first | (rw [HV.out]; done) | (rw [HV.out]; rfl) | (rw [HV.out]; simp; omega), rfl⟩
          case rest =>
            obtain ⟨rfl, rfl⟩ := hcut
            clear hn1
            go_upto_if 45 with (fail)
            obtain ⟨NN, hNN⟩ : ∃ NN, NN = cutN z.1 zc := ⟨_, rfl⟩
            have HNN := Lib.hid hNN
            go_cut [9] from 21 to 61 (fun b w => b = .int .i64 (NN : Int) ∧ w8 = w)
            case first =>
              by_cases h1 : zc ≤ 0
              · have hv : NN = 0 := by rw [hNN]; exact if_pos h1
                have HV := Lib.hid hv
                clear hv
                go_wp2_with fail
                go_meet
                case rel => exact ⟨by first | (rw [HV.out]; done) | (rw [HV.out]; rfl) | (rw [HV.out]; simp; omega), rfl⟩
              · have hv : (NN : Int) = n1 := by
                  rw [hNN, HN1.out, HBB.out, HZI.out, cutN, if_neg h1]
                  by_cases h3 : 1 < zc ∧ ¬ (zi : Int) = 0
                  · rw [if_pos h3, if_pos (by simp; omega)]; omega
                  · rw [if_neg h3, if_neg (by simp; omega)]; rfl
                clear hNN
                have HV := Lib.hid hv
                clear hv
                go_wp2_with fail
                go_meet
                case rel => exact ⟨by first | (rw [HV.out]; done) | (rw [HV.out]; rfl) | (rw [HV.out]; simp; omega), rfl⟩
            case rest =>
              obtain ⟨rfl, rfl⟩ := hcut
              have hN : NN ≤ 512 := by rw [hNN]; exact cutN_le _ _
              clear hNN
              have hb9 := HB.out.1.chg HC8.out (fun h => h)
              obtain ⟨arf, harf⟩ : ∃ arf, arf = (ff (zi : Int)).toArray := ⟨_, rfl⟩
              have HARF := Lib.hid harf
              have hc5 := hb9.cell zi
              rw [HCZ.out, ← harf] at hc5
              have hf5 := hb9.frozen zi
              have HB9 := Lib.hid hb9
              have hsz1 : (⟨arz⟩ : ByteArray).size = 512 := by rw [HARZ.out]; simpa [ByteArray.size] using HFL.out.2
              have hsz2 : (⟨arf⟩ : ByteArray).size = 512 := by rw [harf]; simpa [ByteArray.size] using HFL.out.1
              have hcap := HCAP.out
              clear harf hb9
              have hN2 : (NN : Int) ≤ 512 := by omega
              have hadd : ∀ w, (Op.stringOp .add ((⟨arz⟩ : ByteArray).extract 0 NN) ((⟨arf⟩ : ByteArray).extract NN 512)).run Try.prog w = .ok (.string ((⟨arz⟩ : ByteArray).extract 0 NN ++ (⟨arf⟩ : ByteArray).extract NN 512)) w := fun w => run_string_add_sum w _ _ (by rw [ByteArray.size_extract, ByteArray.size_extract, hsz1, hsz2]; omega)
              go_upto_region 14 with (fail)
              go_still_tail 16, (by kernel_rfl)
              change wpList _ _ _ _ _ w8.drew
              generalize hwd : w8.drew = wd
              have hbd : Blk wd g5 9 cur := by rw [← hwd]; exact HB9.out.drew
              have hcd : Chg (fun b => b = g5) w5 wd := by rw [← hwd]; exact (HCH.out.trans HC8.out (fun _ _ h => h.elim)).drew
              have HBD := Lib.hid hbd
              have HCD := Lib.hid hcd
              clear hwd hc5 hf5 q0 q1 hadd
              have hc5 := hbd.cell zi
              have hf5 := hbd.frozen zi
              rw [HCZ.out] at hc5
              clear hbd hcd
              go_wp2_with fail
              go_roundw
              case rel =>
                refine ⟨j + 1, by omega, by go_num, ⟨_, HBD.out.set_ zi _, by simpa using HB.out.2.1, ?_⟩, HCD.out.setCell (.inl rfl) _⟩
                have h7 := HB.out.2.2
                rw [Nat.mul_one] at h7 ⊢
                rw [take_set cur n zi _ _ h7, HTK.out, torn, HZI.out, ← secs_set _ _ _ HZN.out, ← HZI.out, ← HNN.out]
                congr 1
                rw [HARZ.out, HARF.out, ByteArray.extract_mk, ByteArray.extract_mk, ByteArray.mk_append_mk, strV, HZI.out]
                have e1 : ((ff (zi : Int)).drop NN).take (512 - NN) = (ff (zi : Int)).drop NN := List.take_of_length_le (by rw [List.length_drop, HFL.out.1]; exact Nat.le_refl _)
                simp [e1]
              case measure => simp [intOf]; omega
    · obtain rfl : j = nl := by omega
      have HBE := Lib.hid (show Blk wr g5 9 cur ∧ cur.size = cap5 * 1 ∧ cur.toList.take (n * 1) = secs (crashF K.sure ks K.loose) n from ⟨hb, hsz, by rw [HNL.out, List.take_length] at htk; exact htk⟩)
      clear hb hsz htk
      go_wp2_with (first
        | (refine wpList_store_blk rfl 34 _ _ rfl (w.heap.size + 1) _ rfl rfl 34 _ HBRR.out rfl rd_size (by simp [Value.oneCell']) ?_)
        | fail)
      try simp only [Exit.inBlock, Exit.then]
      refine bodyPost_ret (rd_ret1 rfl _ _ (w.heap.size + 1) 34 _ _ _ _ rfl (HBRR.out.row _)) rfl ⟨_, _, rfl, ?_, ?_, HCW.out.setRow (.inr (by omega)) _⟩
      · have hbe := HBE.out.1.farRow (k := w.heap.size + 1) (fun h => HGX.out.2 h.symm) #[.slice (some ⟨g5, 0, none⟩) n cap5, .slice none 0 0, .int .i64 (-1), .bool false]
        exact { sure := ⟨by rw [secs_len, Nat.mul_one], .inr ⟨g5, cap5, cur, rfl, Nat.zero_le _, hbe, HG5.out.2.2.1, HG5.out.2.2.2.1, HBE.out.2.1, HBE.out.2.2⟩⟩, loose := World.ownsRow_nil _ _ _ _, num := HR.out.num, n0 := HR.out.n0, n1 := HR.out.n1, rng := fun q hq => (by cases hq), fuse := by show (-1 : Int) ≤ -1 ∧ (-1 : Int) ≤ 9223372036854775807; omega }
      · intro b hb
        rcases hb with hb | hb
        · have h2 := HG5.out.1
          right
          cases hb
          exact h2
        · cases hb
end Go.Proofs.Ytlhfhhbafhnbkaa
