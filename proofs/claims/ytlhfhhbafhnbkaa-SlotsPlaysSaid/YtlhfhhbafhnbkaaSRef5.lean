/-
  THE REFERENCE's settled: the sectors with the writes done, in order.
-/
import Derived.Test.YtlhfhhbafhnbkaaSRef4
import Derived.StillTailTactics
namespace Go.Proofs.Ytlhfhhbafhnbkaa
open Go.RowKit
set_option linter.unusedSimpArgs false
set_option linter.unusedVariables false
theorem secs_len (f : Int → List UInt8) (n : Nat) : (secs f n).length = n := by simp [secs]
theorem secs_set (f : Int → List UInt8) (n i : Nat) (hi : i < n) (l : List UInt8) : (secs f n).set i (strV l) = secs (upd f (i : Int) l) n := by
  apply List.ext_getElem?
  intro j
  rw [List.getElem?_set, secs_len]
  simp only [secs, List.getElem?_map]
  by_cases hj : j < n
  · rw [List.getElem?_range hj]
    by_cases h : i = j
    · subst h; simp [upd, hi]
    · have h2 : ¬ ((j : Int) = (i : Int)) := by omega
      simp [upd, h, h2]
  · have h0 : (List.range n)[j]? = none := by rw [List.getElem?_eq_none]; simp; omega
    rw [h0]
    by_cases h : i = j
    · omega
    · simp [h]
theorem secs_one (f : Int → List UInt8) (n : Nat) : ∀ u ∈ secs f n, u.oneCell' = true := by
  intro u hu; simp only [secs, List.mem_map] at hu; obtain ⟨i, _, rfl⟩ := hu; rfl
/-- an own row of strings, its block -/
theorem own_open {w : World} {base n size : Nat} {t : TypeId} {v : Value} {xs : List Value} (h : w.ownsRow base t size v n xs) (hn : 0 < n) : ∃ g cap cur, v = .slice (some ⟨g, 0, none⟩) n cap ∧ base ≤ g ∧ Blk w g t cur ∧ n ≤ cap ∧ cap ≤ maxLen ∧ cur.size = cap * size ∧ cur.toList.take (n * size) = xs := by
  rcases h.2 with ⟨_, h0⟩ | ⟨g, cap, cur, hv, hb, hg, hnc, hm, hs, ht⟩
  · omega
  · exact ⟨g, cap, cur, hv, hb, hg, hnc, hm, hs, ht⟩
theorem take_set (cur : Array Value) (n i : Nat) (v : Value) (xs : List Value) (h : cur.toList.take n = xs) : (cur.setIfInBounds i v).toList.take n = xs.set i v := by
  rw [Array.toList_setIfInBounds, List.take_set, h]
set_option maxRecDepth 100000 in
set_option maxHeartbeats 4000000 in
theorem rsettled_any {s p : Value} (f : Int → List UInt8) (n : Nat) (loose : List (Int × List UInt8)) (w : World) (hs : w.ownsRow 0 9 1 s n (secs f n)) (hp : w.ownsRow 0 82 2 p loose.length (loose.flatMap rputL)) (hn0 : 1 ≤ n) (hn : n ≤ 8192) (hl : loose.length ≤ 1000) (hr : ∀ q ∈ loose, 0 ≤ q.1 ∧ q.1 < (n : Int)) :
    Calls Try.prog 66 #[s, p] w fun e w' => ∃ v, e = .returned v ∧ w'.ownsRow w.heap.size 9 1 v n (secs (settle f loose) n) ∧ Chg NoB w w' := by
  obtain ⟨A1, c1, rfl⟩ := own_slice hs
  obtain ⟨A2, c2, rfl⟩ := own_slice hp
  obtain ⟨nl, hnl⟩ : ∃ nl, nl = loose.length := ⟨_, rfl⟩
  have HP := Lib.hid hp
  rw [← hnl] at hl ⊢
  have HNL := Lib.hid hnl
  have HR := Lib.hid hr
  have hown : (w.alloc (.cells #[] 9)).ownsRow w.heap.size 9 1 (.slice (some ⟨w.heap.size, 0, none⟩) 0 0) 0 [] :=
    World.ownsRow_made w #[] 0 (Nat.le_refl _) (Nat.zero_le _) rfl
  have hrd := own_reads (A := A1) (c := c1) (ownsRow_chg hs ((Chg.refl NoB w).alloc (.cells #[] 9)) (fun _ _ h => h))
  obtain ⟨it, hit, hz, hs1, hs2⟩ := str_full
  have HIT := Lib.hid (show Try.prog.info? 9 = some it ∧ it.zero = some (.string ⟨#[]⟩) ∧ it.size = 1 ∧ it.bytes = 16 from ⟨hit, hz, hs1, hs2⟩)
  have HOWN := Lib.hid hown
  have HRD := Lib.hid hrd
  have HC0 := Lib.hid ((Chg.refl NoB w).alloc (.cells #[] 9))
  clear hs hp hnl hr hown hrd hit hz hs1 hs2
  go_enter Try.func66, Try.ntmps66
  go_wp2_with (first
    | (at_builtin
       refine wpList_append_gen _ rfl _ _ _ _ rfl Try.underlying31 it _ 1 16 w.heap.size HIT.out.1 HIT.out.2.1 HIT.out.2.2.1 HIT.out.2.2.2 rfl (by decide) (.slice (some ⟨w.heap.size, 0, none⟩) 0 0) 0 [] rfl HOWN.out _ A1 n c1 (secs f n) rfl HRD.out (secs_one f n) (by omega) (by unfold maxLen; omega) (by simp) ?_
       intro v5 w5 ho5 hg5 hv5
       rw [Nat.zero_add, List.nil_append] at ho5
       have HC5 := Lib.hid (HC0.out.grown hg5 (fun g hg => .inr (by simp [Value.ownBlock] at hg; omega)))
       obtain ⟨g5, cap5, cur5, rfl, hg5b, hb5, hnc5, hm5, hsz5, htk5⟩ := own_open ho5 hn0
       have HG5 := Lib.hid (show w.heap.size ≤ g5 ∧ Blk w5 g5 9 cur5 ∧ n ≤ cap5 ∧ cap5 ≤ maxLen ∧ cur5.size = cap5 * 1 ∧ cur5.toList.take (n * 1) = secs f n from ⟨hg5b, hb5, hnc5, hm5, hsz5, htk5⟩)
       clear ho5 hg5 hv5 hg5b hb5 hnc5 hm5 hsz5 htk5)
    | fail)
  go_loopw [6] (fun i wr => ∃ j : Nat, j ≤ nl ∧ i = .int .i64 j ∧ (∃ cur, Blk wr g5 9 cur ∧ cur.size = cap5 * 1 ∧ cur.toList.take (n * 1) = secs (settle f (loose.take j)) n) ∧ Chg NoB w wr) (fun i _ => nl - (intOf i).toNat)
  case atStart => exact ⟨0, Nat.zero_le _, rfl, ⟨cur5, HG5.out.2.1, HG5.out.2.2.2.2.1, HG5.out.2.2.2.2.2⟩, HC5.out⟩
  case round =>
    obtain ⟨j, hj, rfl, ⟨cur, hb, hsz, htk⟩, hch⟩ := hrel
    have HCH := Lib.hid hch
    by_cases hlt : j < nl
    · have HOP := Lib.hid (ownsRow_chg HP.out hch (fun _ _ h => h))
      obtain ⟨gp, rfl, cp⟩ := own_cellN (by have h := HOP.out; exact h) (by have := HNL.out; omega)
      have hj2 : j < loose.length := by rw [← HNL.out]; exact hlt
      obtain ⟨z, hz⟩ : ∃ z, z = loose[j] := ⟨_, rfl⟩
      have hp := rput_at loose j hj2
      rw [← hz] at hp
      have cp0 := cp (j * 2) (by omega)
      have cp1 := cp (j * 2 + 1) (by omega)
      have hzr := HR.out z (by rw [hz]; exact List.getElem_mem hj2)
      obtain ⟨zi, hzi⟩ : ∃ zi : Nat, z.1 = (zi : Int) := ⟨z.1.toNat, by omega⟩
      have hzn : zi < n := by omega
      rw [hp.1, hzi] at cp0
      obtain ⟨arz, harz⟩ : ∃ arz, arz = z.2.toArray := ⟨_, rfl⟩
      rw [hp.2, show strV z.2 = Value.string ⟨arz⟩ from by rw [harz]; rfl] at cp1
      have hc5 := hb.cell zi
      have hf5 := hb.frozen zi
      have hcz : cur[zi]? = some (strV (settle f (loose.take j) (zi : Int))) := by
        rw [show strV (settle f (loose.take j) (zi : Int)) = .string ⟨(settle f (loose.take j) (zi : Int)).toArray⟩ from rfl, ← secs_at (settle f (loose.take j)) hzn, ← htk]
        simp [List.getElem?_take, hzn]
      rw [hcz] at hc5
      have HCZ := Lib.hid hcz
      have HZN := Lib.hid hzn
      have HTK := Lib.hid (show loose.take (j + 1) = loose.take j ++ [z] from by rw [hz, List.take_succ_eq_append_getElem])
      have HARZ := Lib.hid harz
      have HZI := Lib.hid hzi
      have HB := Lib.hid (show Blk wr g5 9 cur ∧ cur.size = cap5 * 1 ∧ cur.toList.take (n * 1) = secs (settle f (loose.take j)) n from ⟨hb, hsz, htk⟩)
      have HCAP := Lib.hid HG5.out.2.2.1
      clear hp cp harz hzr hzi hcz hz hb hsz htk hch
      go_wp2_with fail
      go_still_tail 12, (by kernel_rfl)
      change wpList _ _ _ _ _ wr.drew
      generalize hwd : wr.drew = wd
      have hbd : Blk wd g5 9 cur := by rw [← hwd]; exact HB.out.1.drew
      have hcd : Chg NoB w wd := by rw [← hwd]; exact HCH.out.drew
      have HBD := Lib.hid hbd
      have HCD := Lib.hid hcd
      clear hwd cp0 cp1 hc5 hf5
      have hc5 := hbd.cell zi
      have hf5 := hbd.frozen zi
      rw [HCZ.out] at hc5
      clear hbd hcd
      go_wp2_with fail
      go_roundw
      case rel =>
        refine ⟨j + 1, by omega, by go_num, ⟨_, HBD.out.set_ zi _, by simpa using HB.out.2.1, ?_⟩, HCD.out.setCell (.inr (by have := HG5.out.1; exact this)) _⟩
        have h7 := HB.out.2.2
        rw [Nat.mul_one] at h7 ⊢
        rw [take_set cur n zi _ _ h7, HTK.out, settle_snoc, HZI.out, ← secs_set _ _ _ HZN.out, HARZ.out]
        rfl
      case measure => simp [intOf]; omega
    · obtain rfl : j = nl := by omega
      go_wp2_with fail
      go_ret
      refine ⟨_, rfl, ?_, hch⟩
      have h1 := HG5.out
      rw [HNL.out, List.take_length] at htk
      exact ⟨by rw [secs_len]; omega, .inr ⟨g5, cap5, cur, rfl, h1.1, hb, h1.2.2.1, h1.2.2.2.1, hsz, htk⟩⟩
end Go.Proofs.Ytlhfhhbafhnbkaa
