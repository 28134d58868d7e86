/-
  THE WALK of the head's none: a range over a function.
-/
import Derived.Test.YtgojdkjneggmjaaRec11
import Derived.RangeFuncNested
import Derived.RangeFuncBound
import Derived.RangeFuncCalls
import Derived.RangeFuncLeaves
import Derived.RangeFuncWrites
import Derived.Shelf.Abstract
import Derived.Shelf.RegionOpen
import Derived.WalkKit
import Derived.OwnWalkIn
import Derived.TacticsInMore
import Derived.LoopNIn
import Derived.LoopIn
namespace Go.Proofs.Ytgojdkjneggmjaa
open Go.RowKit FieldM Go.Shelf
set_option linter.unusedSimpArgs false
attribute [local go_sem] Oper.semAt_some
theorem Chg.keepsFrom {S : Nat → Prop} {W W' : World} {B : Nat} (h : Chg S W W') (hS : ∀ i, S i → i < B) : KeepsFrom B W W' :=
  ⟨h.size, fun k o hk ho _ => (h.block k (lt_of_heap ho) (fun hs => by have := hS k hs; omega)).trans ho⟩
def noneF (f : Int) (x : List UInt8) (ps : List Int) : Int := ps.foldl (fun f p => askF f (getL x p 2 == 0) 15) f
theorem noneF_snoc (f : Int) (x : List UInt8) (ps : List Int) (p : Int) : noneF f x (ps ++ [p]) = askF (noneF f x ps) (getL x p 2 == 0) 15 := by simp [noneF]
/-- between two rounds: what may have turned -/
def KpN (g T : Nat) (W W' : World) : Prop := Chg (fun i => i = g ∨ T ≤ i) W W'
set_option maxRecDepth 100000 in
set_option maxHeartbeats 2000000 in
theorem zeros1_stops (F : Fence) (n : Nat) (h7 : F.fn 51) (hro : F.round = none) (hn : 1 ≤ n) (zb s g T : Nat) (zs : List Int) (k : Nat) (hk : zs.length = k) (hk2 : k ≤ 1000) (w : World) (hT : w.heap.size ≤ T)
    (hzb : Blk w zb 78 #[.slice (some ⟨s, 0, none⟩) k k]) (hs : Blk w s 3 (zs.map (Value.int .i64)).toArray) (hg2 : s ≠ g) :
    SeqStopsK F n Try.prog 51 #[.pointer (some ⟨zb, 0, none⟩)] (fun x : Int => #[Value.int .i64 x]) (KpN g T) (fun ys => ys = zs) (fun _ => True) k w := fun l J Jx W hW _ _ hY h0 => by
  have hzl := hzb.lt
  have hsl := hs.lt
  have hzb' := (hzb.below hW hzl).cell 0
  have hs' := hs.below hW hsl
  have hHK := Lib.hid hk
  have hHS := Lib.hid hs'
  clear hzb hs hs' hk
  refine callsIn_of_wp Try.func51 rfl h7 ?_ hro
  simp only [Try.ntmps51, List.size_toArray, List.length_cons, List.length_nil, Nat.reduceAdd, Nat.reduceSub, Array.replicate_succ, Array.replicate_zero, List.push_toArray, List.append_toArray, List.nil_append, List.cons_append]
  gi_wp2
  gi_loopw [7] (fun i wr => ∃ j : Nat, j ≤ k ∧ i = .int .i64 j ∧ J (zs.take j) wr ∧ KpN g T W wr) (fun i _ => k - (intOf i).toNat)
  case atStart => exact ⟨0, Nat.zero_le _, rfl, h0, Chg.refl _ _⟩
  case round =>
    obtain ⟨j, hj, rfl, hJs, hnx⟩ := hrel
    by_cases hlt : j < k
    · obtain ⟨z, hz⟩ : ∃ z, z = zs[j]'(by rw [hHK.out]; exact hlt) := ⟨_, rfl⟩
      have hcx : wr.cell? ⟨s, j, none⟩ = some (.int .i64 z) := by
        have h1 := (hHS.out.chg hnx (fun e => by have := hW.size; omega)).cell j
        rw [h1, hz]; simp [hHK.out, hlt]
      have htk : zs.take (j + 1) = zs.take j ++ [z] := by rw [hz, List.take_succ_eq_append_getElem]
      have HTK := Lib.hid htk
      clear hz htk
      obtain ⟨fn, tmps, assign, body, hy, hR⟩ := hY _ z wr hJs (by rw [List.length_take]; omega)
      gi_wp2
      refine hR.mono ?_
      rintro e W3 (⟨rfl, hJ3, hk3⟩ | ⟨rfl, hJx3⟩)
      · gi_wp2
        go_roundw
        case rel => exact ⟨j + 1, by omega, by simp, by rw [HTK.out]; exact hJ3, Chg.trans hnx hk3 (fun _ _ h => h)⟩
        case measure => simp [intOf]; omega
      · gi_wp2
        refine bodyPost_ret (results_none rfl _ _ _) rfl ?_
        exact ⟨⟨_, rfl⟩, .inr ⟨_, trivial, hJx3⟩⟩
    · obtain rfl : j = k := by omega
      gi_wp2
      go_end0
      exact ⟨⟨_, rfl⟩, .inl ⟨_, by rw [List.take_of_length_le (by rw [hHK.out]; omega)], hJs⟩⟩
set_option maxRecDepth 100000 in
set_option maxHeartbeats 4000000 in
theorem none_any (B g nn : Nat) (x : List UInt8) (f : Int) (w : World) (hE : Eye w B g nn x f) (long : Int) (zb s : Nat) (zs : List Int) (k : Nat) (hk : zs.length = k) (hk2 : k ≤ 1000)
    (hzb : Blk w zb 78 #[.slice (some ⟨s, 0, none⟩) k k]) (hs : Blk w s 3 (zs.map (Value.int .i64)).toArray) :
    Calls Try.prog 36 #[.agg #[.pointer (some ⟨g, 0, none⟩), .int .i64 long], .func (.func 51) #[] #[.pointer (some ⟨zb, 0, none⟩)]] w fun e w' =>
      (∃ v, e = .returned v) ∧ Eye w' B g nn x (noneF f x zs) ∧ Chg (OneB g) w w' := by
  obtain ⟨A0, c0, hEb, _, _⟩ := hE.ex
  have hg2 : s ≠ g := hs.ne_ hEb (by decide)
  have hgl := hE.lt
  clear hEb
  obtain ⟨w1, hw1⟩ : ∃ w1, w1 = w.alloc (.cells #[.pointer (some ⟨g, 0, none⟩), .int .i64 long] 61) := ⟨_, rfl⟩
  have hwc : Chg NoB w w1 := by rw [hw1]; exact (Chg.refl _ _).alloc _
  have hst := zeros1_stops Fence.wide 3 trivial rfl (by decide) zb s g w1.heap.size zs k hk hk2 w1 (Nat.le_refl _) (hzb.chg hwc (fun h => h)) (hs.chg hwc (fun h => h)) hg2
  have hE1 := hE.no hwc
  have hgl1 : g < w1.heap.size := Nat.lt_of_lt_of_le hgl hwc.size
  have hbx : Blk w1 w.heap.size 61 #[.pointer (some ⟨g, 0, none⟩), .int .i64 long] := by rw [hw1]; exact Blk.new w _ _
  have hbg : w.heap.size ≠ g := by omega
  have HST := Lib.hid hst
  have HE1 := Lib.hid hE1
  have HFAR := Lib.hid hE.far
  have HWC := Lib.hid hwc
  clear hst hE hE1 hzb hs hk hwc
  refine (callsIn_wide (n := 4)).1 ?_
  refine callsIn_of_wp_marks Try.func36 rfl trivial ?_ rfl
  simp only [Try.ntmps36, List.size_toArray, List.length_cons, List.length_nil, Nat.reduceAdd, Nat.reduceSub, Array.replicate_succ, Array.replicate_zero, List.push_toArray, List.append_toArray, List.nil_append, List.cons_append]
  gi_wp2
  rw [← hw1]
  clear hw1
  refine wpIn_rangeFunc_ownG rfl (by decide) (gf := 51) (lb := #[.pointer (some ⟨zb, 0, none⟩)]) rfl trivial (enters_of Try.func51 (by kernel_rfl) rfl)
    HST.out (fun h1 h2 => Chg.trans h1 h2 (fun _ _ h => h)) (fun W l o o' hl hW _ _ => ?kb) (Below.refl _ _) (fun _ => rfl)
    (fun pre W => Chg (OneB g) w1 W ∧ Eye W B g nn x (noneF f x pre)) (fun _ _ _ => False)
    ?own (fun _ _ _ _ _ hs _ _ => hs) ⟨Chg.refl _ _, by simpa [noneF] using HE1.out⟩
    (fun z => { tmps := #[.agg #[.pointer (some ⟨g, 0, none⟩), .int .i64 long], .func (.func 51) #[] #[.pointer (some ⟨zb, 0, none⟩)], .pointer (some ⟨w.heap.size, 0, none⟩), undef, .int .i64 z, .func (.func 51) #[] #[.pointer (some ⟨zb, 0, none⟩)], .int .i64 z, undef, undef, undef, undef, undef, undef, undef, undef], defers := [] }) ?assign ?body ?done ?stop
  case kb => exact Chg.grown (Chg.refl _ W) (grownBy_putObj' W l o') (fun r e => by cases e; exact .inl (.inr hl))
  case own =>
    intro pre A B' row hs hg hr
    refine ⟨hs.1.grown hg (fun r e => .inr (hr r e).1), hs.2.chg ((Chg.refl (fun i => row = some i) A).grown hg (fun r e => .inl e)) (fun i hi e => ?_) (fun e => ?_)⟩
    · have h1 := (hr i e).1; have h2 := HFAR.out; omega
    · have h1 := (hr g e).1; omega
  case assign =>
    intro l x W K hK
    gi_wp2
    exact hK
  case body =>
    rintro l pre z W ⟨hch, hE2⟩ _
    have hmx : Try.prog.follows .mixedOrders = true := by kernel_rfl
    have hbB := (hbx.chg hch hbg).drew
    have hb2 := hbB.cell 0
    have hE3 := hE2.no ((Chg.refl NoB _).drew)
    have hd : 1 ≤ 4 - 1 - 1 := by decide
    gi_wp2
    gi_region_with_o (first
      | (refine ⟨trivial, ?_⟩; gi_at_call 39; refine (CallsIn.inRound l (callsIn_wide.2 (etwo_any hE3 z))).mono ?_; rintro e w' ⟨rfl, hc3⟩; have hb3 := (hbB.chg hc3 (fun h => h)).cell 0)
      | (refine ⟨trivial, ?_⟩; gi_at_call 38; refine (CallsIn.inRound l (callsIn_wide.2 (ask_any (hE3.no hc3) _ 15))).mono ?_; rintro e w' ⟨⟨v, rfl⟩, hE4, hc4⟩))
    all_goals
      (have hc5 : Chg (OneB g) W w' := (((Chg.refl (OneB g) W).drew).trans hc3 (fun _ _ h => h.elim)).trans hc4 (fun _ _ h => h)
       exact ⟨hc5.keepsFrom (fun i hi => by unfold OneB at hi; omega), hc5.mono (fun i _ h => .inl h), hch.trans hc5 (fun _ _ h => h), by rw [noneF_snoc]; exact hE4⟩)
  case done =>
    rintro D ys W hD rfl ⟨hch, hE2⟩ hK
    gi_wp2
    refine ⟨by simp, .inl ⟨_, _, rfl, run_takeDeferred hK, ?_⟩⟩
    refine ⟨_, results_none rfl _ _ _, ?_⟩
    have hg5 := grownBy_putObj' W D (.deferred none)
    have hc5 : Chg (fun i => some D = some i) W (W.putObj D (.deferred none)) := (Chg.refl _ W).grown hg5 (fun r e => .inl e)
    refine ⟨⟨_, rfl⟩, hE2.chg hc5 (fun i hi e => ?_) (fun e => ?_), (HWC.out.mono (T := OneB g) (fun _ _ h => h.elim)).trans (hch.trans hc5 (fun i hi e => ?_)) (fun _ _ h => h)⟩
    · injection e with e; have h2 := HFAR.out; omega
    · injection e with e; omega
    · injection e with e; omega
  case stop =>
    rintro D c pre W _ _ h _
    exact h.elim
end Go.Proofs.Ytgojdkjneggmjaa
