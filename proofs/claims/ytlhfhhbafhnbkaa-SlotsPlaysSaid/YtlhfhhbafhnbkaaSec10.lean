/-
  THE GENERATOR of puts, with nothing said.
-/
import Derived.Test.YtlhfhhbafhnbkaaSec8
import Derived.RangeFuncNested
import Derived.RangeFuncBound
import Derived.RangeFuncCalls
import Derived.RangeFuncLeaves
import Derived.RangeFuncWrites
import Derived.Shelf.Abstract
import Derived.Shelf.RegionOpen
import Derived.WalkKit
import Derived.LoopNIn
import Derived.LoopIn
import Derived.Laws.Cover3
namespace Go.Proofs.Ytlhfhhbafhnbkaa
open Go.RowKit Go.Maps Go.Shelf
set_option linter.unusedSimpArgs false
attribute [local go_sem] Oper.semAt_some
/-- between two rounds: what may have turned -/
def KpN (g T : Nat) (W W' : World) : Prop := Chg (fun i => i = g ∨ T ≤ i) W W'
theorem put_sizeS : (Try.prog.info? 86).map (·.size) = some 513 := by kernel_rfl
/-- a loose write that is in range -/
def PutT : Type := { p : Int × List UInt8 // 0 ≤ p.1 ∧ p.1 < 8192 ∧ p.2.length = 512 }
/-- a number of 64 bits -/
def I64 : Type := { c : Int // -9223372036854775808 ≤ c ∧ c ≤ 9223372036854775807 }
/-- a slice of ints that reads as a list, below block B -/
def IB (w : World) (B : Nat) (A : Option Addr) (l : List Int) : Prop := Reads w B 1 A l.length (l.map (Value.int .i64))
theorem IB.at_ {w : World} {B : Nat} {A : Option Addr} {l : List Int} (h : IB w B A l) {k : Nat} (hk : k < l.length) : ∃ ad, A = some ad ∧ ad.block < B ∧ w.cell? (ad.add k) = some (.int .i64 (l[k]'hk)) := by
  obtain ⟨ad, u, hA, hb, hx, hc⟩ := Reads.at_ h hk
  refine ⟨ad, hA, hb, ?_⟩
  rw [hc, ← hx]; simp [hk]
theorem IB.below {w w' : World} {B : Nat} {A : Option Addr} {l : List Int} (h : IB w B A l) (hb : Below B w w') : IB w' B A l := Reads.below h hb
theorem cell_of_heap {w w' : World} {p : Addr} (h : w'.heap[p.block]? = w.heap[p.block]?) : w'.cell? p = w.cell? p := by unfold World.cell?; rw [h]
theorem IB.chg {S : Nat → Prop} {w w' : World} {B : Nat} {A : Option Addr} {l : List Int} (h : IB w B A l) (hB : B ≤ w.heap.size) (hc : Chg S w w') (hS : ∀ ad, A = some ad → ¬ S ad.block) : IB w' B A l :=
  ⟨h.1, fun hn => by
    obtain ⟨ad, e, hb, hx⟩ := h.2 hn
    exact ⟨ad, e, hb, fun j u hu => (cell_of_heap (by rw [block_of_add]; exact hc.block _ (by omega) (hS ad e))).trans (hx j u hu)⟩⟩
theorem IB.more {w : World} {B B' : Nat} {A : Option Addr} {l : List Int} (h : IB w B A l) (hB : B ≤ B') : IB w B' A l := Reads.more h hB
theorem IB.none_ {w : World} {B : Nat} {A : Option Addr} : IB w B A [] := Reads.none_
/-- what is said of the j-th loose write -/
def cOf (nn : Bool) (ks : List Int) (j : Nat) : Int := (ks[j]?).getD (if nn then 0 else 1)
set_option maxRecDepth 100000 in
set_option maxHeartbeats 4000000 in
theorem puts1_any (F : Fence) (n : Nat) (h7 : F.fn 65) (hro : F.round = none) (hn : 1 ≤ n) (b1 b2 g bs T : Nat) (dn fuse : Int) (ms mn : Value) (dark : Bool) (A : Option Addr) (k c : Nat) (xs : List (PutT × I64)) (hk : xs.length = k) (hk2 : k ≤ 1000) (w : World) (hT : w.heap.size ≤ T)
    (Ak : Option Addr) (nk ck : Nat) (ks : List Int) (hnk : ks.length = nk) (hks : IB w w.heap.size Ak ks) (hkb : 0 < ks.length → ∀ ad, Ak = some ad → ad.block ≠ bs) (hkv : Ak = none → nk = 0 ∧ ck = 0) (hxs : ∀ j (h : j < xs.length), xs[j].2.1 = cOf Ak.isSome ks j)
    (hb1 : Blk w b1 27 #[.pointer (some ⟨g, 0, none⟩)]) (hb2 : Blk w b2 63 #[.slice Ak nk ck]) (hg : Blk w g 48 (dkC dn ms (.slice A k c) mn fuse dark)) (hrow : w.ownsRow 0 86 513 (.slice A k c) (xs.map (·.1.1)).length ((xs.map (·.1.1)).flatMap putL)) (hs : b2 ≠ bs) (hs2 : (Value.slice A k c).ownBlock ≠ some bs) :
    SeqStopsK F n Try.prog 65 #[.pointer (some ⟨b1, 0, none⟩), .pointer (some ⟨b2, 0, none⟩)] (fun x : (PutT × I64) => #[.agg (putC x.1.1.1 x.1.1.2), Value.int .i64 x.2.1]) (KpN bs T) (fun ys => ys = xs) (fun _ => True) k w := fun l J Jx W hW _ _ hY h0 => by
  have hl2 := hb2.lt
  have hb1' := (hb1.below hW hb1.lt).cell 0
  have hb2' := hb2.below hW hb2.lt
  have hg' := (hg.below hW hg.lt).cell 2
  have hks' : IB W w.heap.size Ak ks := hks.below hW
  have HKB := Lib.hid hkb
  simp only [dkC] at hg'
  have HHK := Lib.hid hk
  have HB2 := Lib.hid hb2'
  have HXS := Lib.hid hxs
  have HKS := Lib.hid hks'
  have HNK := Lib.hid hnk
  have HKV := Lib.hid hkv
  have HBS := Lib.hid hW.size
  clear hkb hb1 hb2 hg hb2' hk hxs hks hks' hnk hkv
  refine callsIn_of_wp Try.func65 rfl h7 ?_ hro
  simp only [Try.ntmps65, List.size_toArray, List.length_cons, List.length_nil, Nat.reduceAdd, Nat.reduceSub, Array.replicate_succ, Array.replicate_zero, List.push_toArray, List.append_toArray, List.nil_append, List.cons_append]
  gi_wp2
  gi_loopw [12] (fun i wr => ∃ j : Nat, j ≤ k ∧ i = .int .i64 j ∧ J (xs.take j) wr ∧ KpN bs T W wr) (fun i _ => k - (intOf i).toNat)
  case atStart => exact ⟨0, Nat.zero_le _, rfl, h0, Chg.refl _ _⟩
  case round =>
    obtain ⟨j, hj, rfl, hJs, hnx⟩ := hrel
    have hrw : wr.ownsRow 0 86 513 (.slice A k c) (xs.map (·.1.1)).length ((xs.map (·.1.1)).flatMap putL) := ownsRow_chg (ownsRow_chg hrow (Chg.of_below hW) (fun i e => by have := (hrow.lt i e).2; omega)) hnx (fun i e h => h.elim (fun h => hs2 (h ▸ e)) (fun h => by have := (hrow.lt i e).2; omega))
    have c2 := (HB2.out.chg hnx (fun h => h.elim hs (fun h => by omega))).cell 0
    by_cases hlt : j < k
    · obtain ⟨z, hz⟩ : ∃ z, z = xs[j]'(by rw [HHK.out]; exact hlt) := ⟨_, rfl⟩
      have hz2 : z.2.1 = cOf Ak.isSome ks j := by rw [hz]; exact HXS.out j _
      obtain ⟨⟨⟨zi, zl⟩, hzp⟩, ⟨zc, hzc⟩⟩ := z
      have hzl : zl.length = 512 := hzp.2.2
      have htk : xs.take (j + 1) = xs.take j ++ [(⟨(zi, zl), hzp⟩, ⟨zc, hzc⟩)] := by rw [hz, List.take_succ_eq_append_getElem]
      obtain ⟨rg, rfl⟩ : ∃ rg, A = some ⟨rg, 0, none⟩ := by
        rcases hrw.2 with ⟨h1, h2⟩ | ⟨g', cap, cur, h1, _⟩
        · injection h1 with _ h3; omega
        · injection h1 with h1; exact ⟨g', h1⟩
      have hmid := row_mid hrw (fun p hp => by obtain ⟨x, _, rfl⟩ := List.mem_map.1 hp; exact x.1.2.2.2) (j := j) (by rw [List.length_map, HHK.out]; exact hlt)
      rw [List.getElem_map, ← hz] at hmid
      replace hmid : wr.rangeAt rg (j * 513) (putL (zi, zl)) := hmid
      have HMID := Lib.hid hmid
      have HTK := Lib.hid htk
      have HZL := Lib.hid hzl
      replace hz2 : zc = cOf Ak.isSome ks j := hz2
      clear hmid hz htk hzl
      obtain ⟨w4, hw4⟩ : ∃ w4, w4 = (wr.alloc (.cells (putC 0 zeros) 86)).setRow wr.heap.size (putC zi zl) := ⟨_, rfl⟩
      have hb4 : Blk w4 wr.heap.size 86 (putC zi zl) := by rw [hw4]; exact (Blk.new wr _ _).row _
      have hc4 : Chg NoB wr w4 := by rw [hw4]; exact ((Chg.refl NoB wr).alloc _).setRow (.inr (Nat.le_refl _)) _
      have c3 := ((HB2.out.chg hnx (fun h => h.elim hs (fun h => by omega))).chg hc4 (fun h => h)).cell 0
      have hks4 : IB w4 w.heap.size Ak ks := by
        by_cases hk0 : 0 < ks.length
        · obtain ⟨ad, hade, hadb, _⟩ := HKS.out.2 hk0
          have h1 := HKS.out.chg HBS.out hnx (fun ad' e h => by
            have h2 : ad' = ad := by rw [hade] at e; injection e with e; exact e.symm
            subst h2
            rcases h with h | h
            · exact HKB.out hk0 _ e h
            · omega)
          exact h1.chg (Nat.le_trans HBS.out hnx.size) hc4 (fun _ _ h => h)
        · have hk1 : ks = [] := List.length_eq_zero_iff.1 (by omega)
          rw [hk1]; exact IB.none_
      have hJ4 : J (xs.take j) w4 := by
        refine (show AbidesFrom W.heap.size J from by assumption) _ wr w4 none hJs ⟨hc4.os, hc4.tape, hc4.output, hc4.size, fun i hi _ => hc4.block i hi (fun h => h)⟩ (fun r e => by cases e)
      have HMID2 := Lib.hid (show w4.rangeAt wr.heap.size 0 (putL (zi, zl)) from fun q v hv => by rw [Nat.zero_add, hb4.cell q, ← hv]; simp [putC])
      have HW4 := Lib.hid hw4
      have HC4 := Lib.hid hc4
      have HNX := Lib.hid hnx
      obtain ⟨fn, tmps, assign, body, hy, hR⟩ := hY _ (⟨(zi, zl), hzp⟩, ⟨zc, hzc⟩) w4 hJ4 (by rw [List.length_take, HHK.out]; omega)
      have hy2 : Sem.run Try.prog (Instr.yield l #[.agg (putL (zi, zl)).toArray, .int .i64 zc]) w4 = _ := hy
      clear hy
      have hcase : (Ak = none ∧ nk = 0 ∧ ck = 0 ∧ zc = 1) ∨ (∃ ad, Ak = some ad ∧ nk ≤ j ∧ zc = 0) ∨ (∃ ad, Ak = some ad ∧ j < nk ∧ w4.cell? (ad.add j) = some (.int .i64 zc)) := by
        by_cases hjn : j < ks.length
        · obtain ⟨ad, rfl, _, h4⟩ := hks4.at_ hjn
          refine .inr (.inr ⟨ad, rfl, by have := HNK.out; omega, ?_⟩)
          rw [h4, hz2]; simp [cOf, hjn]
        · cases Ak with
          | none => exact .inl ⟨rfl, (HKV.out rfl).1, (HKV.out rfl).2, by rw [hz2]; unfold cOf; rw [List.getElem?_eq_none (by omega)]; rfl⟩
          | some ad => exact .inr (.inl ⟨ad, rfl, by have := HNK.out; omega, by rw [hz2]; unfold cOf; rw [List.getElem?_eq_none (by omega)]; rfl⟩)
      have kn := fun (w : World) => run_neq_slice_nil (P := Try.prog) w 63 3 Ak nk ck Try.underlying63
      clear hb4 hc4 hw4 c2 hnx hJ4 hJs hz2 hks4 HKV HXS
      rcases hcase with ⟨rfl, rfl, rfl, rfl⟩ | ⟨ad, rfl, hge, rfl⟩ | ⟨ad, rfl, hltk, hcc⟩
      all_goals
        gi_wp2_with (first
          | (refine wpListIn_load_mid _ rfl 86 _ rfl rg (j * 513) rfl (putL (zi, zl)) _ HMID.out Try.underlying86 rfl (by rw [putL_len zi HZL.out]; exact put_sizeS) ?_)
          | (refine wpListIn_load_mid _ rfl 86 _ rfl wr.heap.size 0 rfl (putL (zi, zl)) _ HMID2.out Try.underlying86 rfl (by rw [putL_len zi HZL.out]; exact put_sizeS) ?_)
          | (refine wpListIn_alloc_put _ rfl rfl ?_)
          | (refine wpListIn_store_blk _ rfl 86 _ _ rfl wr.heap.size (putC zi zl) rfl rfl 86 _ (Blk.new wr _ _) (by rw [putC_size zi HZL.out, putC_size 0 zeros_len]) (put_infoS zi HZL.out) (putC_one _ _) ?_; rw [← HW4.out])
          | fail)
        gi_wp2
        refine hR.mono ?_
        rintro e W3 (⟨rfl, hJ3, hk3⟩ | ⟨rfl, hJx3⟩)
        · gi_wp2
          go_roundw
          case rel => exact ⟨j + 1, by omega, by simp, by rw [HTK.out]; exact hJ3, (HNX.out.trans HC4.out (fun _ _ h => h.elim)).trans hk3 (fun _ _ h => h)⟩
          case measure => simp [intOf]; omega
        · gi_wp2
          refine bodyPost_ret (results_none rfl _ _ _) rfl ?_
          exact ⟨⟨_, rfl⟩, .inr ⟨_, trivial, hJx3⟩⟩
    · obtain rfl : j = k := by omega
      gi_wp2
      go_end0
      rw [List.take_of_length_le (by rw [HHK.out]; omega)] at hJs
      exact ⟨⟨_, rfl⟩, .inl hJs⟩
end Go.Proofs.Ytlhfhhbafhnbkaa
