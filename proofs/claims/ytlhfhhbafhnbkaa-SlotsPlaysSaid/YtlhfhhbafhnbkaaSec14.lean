/-
  THE WALK of Crash.
-/
import Derived.Test.YtlhfhhbafhnbkaaSec13
import Derived.Test.YtlhfhhbafhnbkaaSec9
namespace Go.Proofs.Ytlhfhhbafhnbkaa
open Go.RowKit Go.Maps Go.Shelf
set_option linter.unusedSimpArgs false
attribute [local go_sem] Oper.semAt_some
def OkMid (Mid : Act → World → Prop) (e : Exit) (a : Act) (w : World) : Prop := e = .normal ∧ Mid a w
theorem cutIn {F : Fence} {n : Nat} {P : Program} {Q : Exit → Act → World → Prop} {x y : Code} {a : Act} {w : World} (Mid : Act → World → Prop) (hx : ∀ M : Act → World → Prop, RowKit.Hid (∀ a w, Mid a w → M a w) → x.wpIn F n P (OkMid M) a w) (hy : ∀ a w, Mid a w → y.wpIn F n P Q a w) : (Code.seq x y).wpIn F n P Q a w :=
  wpIn_seq (wpIn_mono (hx Mid (Lib.hid fun _ _ h => h)) (fun e a w ⟨he, h⟩ => by subst he; exact hy a w h))
def InvC13 (g x1 b b1 b2 bs NN : Nat) (q1 q12 q13 q14 v1 q20 q21 q22 q23 q24 q25 q26 q27 q28 q29 q30 q31 q32 q33 : Value) (zi zc : Int) (ff : Int → List UInt8) (W0 : World) (D : Nat → Bool) (a : Act) (w : World) : Prop :=
  ∃ (y8 : Nat), a = { tmps := #[.pointer (some ⟨g, 0, none⟩), q1, .pointer (some ⟨x1, 0, none⟩), undef, .int .i64 0, .pointer (some ⟨b, 0, none⟩), .int .i64 zc, .int .i64 (NN : Int), (slot (D 7) (.pointer (some ⟨y8, 0, none⟩)) (undef)), .pointer (some ⟨g, 0, none⟩), .bool true, .bool false, q12, q13, q14, .pointer (some ⟨g, 0, none⟩), q1, .func (.func 65) #[] #[.pointer (some ⟨b1, 0, none⟩), .pointer (some ⟨b2, 0, none⟩)], v1, .int .i64 zc, q20, q21, q22, q23, q24, q25, q26, q27, q28, q29, q30, q31, q32, q33, (slot (D 0) (.pointer (some ⟨g, 0, none⟩)) (undef)), (slot (D 1) (.pointer (some ⟨g, 0, none⟩)) (undef)), (slot (D 2) (.pointer (some ⟨g, 1, none⟩)) (undef)), (slot (D 3) (.map (some bs)) (undef)), (slot (D 4) (.pointer (some ⟨b, 0, none⟩)) (undef)), (slot (D 5) (.int .i64 zi) (undef)), (slot (D 6) (blkV (ff zi)) (undef)), undef, undef, undef, undef, undef, undef, undef, undef, undef, undef, undef, undef, undef, undef, undef, undef, undef, undef, undef, undef, undef, undef, undef, undef, undef, undef, undef, undef, undef, undef, undef], defers := [] } ∧
    (D 7 = true → D 8 = false → Blk w y8 84 (blkC zeros)) ∧
    (D 8 = true → Blk w y8 84 (blkC (ff zi))) ∧
    (D 7 = true → W0.heap.size ≤ y8) ∧
    (Chg NoB W0 w)
def InvC14 (g x1 b b1 b2 y8 NN : Nat) (q1 q12 q13 q14 v1 q20 q21 q22 q23 q24 q25 q26 q27 q28 q29 q30 q31 q32 q33 : Value) (q34 q35 q36 q37 q38 q39 q40 : Value) (zc : Int) (old zl : List UInt8) (W0 : World) (D : Nat → Bool) (a : Act) (w : World) : Prop :=
  a = { tmps := #[.pointer (some ⟨g, 0, none⟩), q1, .pointer (some ⟨x1, 0, none⟩), undef, .int .i64 0, .pointer (some ⟨b, 0, none⟩), .int .i64 zc, .int .i64 (NN : Int), .pointer (some ⟨y8, 0, none⟩), .pointer (some ⟨g, 0, none⟩), .bool true, .bool false, q12, q13, q14, .pointer (some ⟨g, 0, none⟩), q1, .func (.func 65) #[] #[.pointer (some ⟨b1, 0, none⟩), .pointer (some ⟨b2, 0, none⟩)], v1, .int .i64 zc, q20, q21, q22, q23, q24, q25, q26, q27, q28, q29, q30, q31, q32, q33, q34, q35, q36, q37, q38, q39, q40, (slot (D 0) (.int .i64 (NN : Int)) (undef)), (slot (D 1) (.slice (some ⟨y8, 0, none⟩) NN 512) (undef)), (slot (D 2) (.pointer (some ⟨b, 1, none⟩)) (undef)), (slot (D 3) (.int .i64 (NN : Int)) (undef)), (slot (D 4) (.slice (some ⟨b, 1, none⟩) NN 512) (undef)), (slot (D 5) (.int .i64 (NN : Int)) (undef)), undef, undef, undef, undef, undef, undef, undef, undef, undef, undef, undef, undef, undef, undef, undef, undef, undef, undef, undef, undef, undef, undef, undef, undef, undef], defers := [] } ∧
    (D 5 = false → Blk w y8 84 (blkC old)) ∧
    (D 5 = true → Blk w y8 84 (blkC (zl.take NN ++ old.drop NN))) ∧
    (Chg NoB W0 w)
def InvC15 (g x1 b b1 b2 bs y8 NN : Nat) (q1 q12 q13 q14 v1 q20 q21 q22 q23 q24 q25 q26 q27 q28 q29 q30 q31 q32 q33 : Value) (q34 q35 q36 q37 q38 q39 q40 q41 q42 q43 q44 q45 q46 : Value) (n fuse zi zc : Int) (dark : Bool) (zl nw : List UInt8) (ff : Int → List UInt8) (vv mn : Value) (W0 : World) (D : Nat → Bool) (a : Act) (w : World) : Prop :=
  ∃ (u7 : Value), a = { tmps := #[.pointer (some ⟨g, 0, none⟩), q1, .pointer (some ⟨x1, 0, none⟩), undef, .int .i64 0, .pointer (some ⟨b, 0, none⟩), .int .i64 zc, .int .i64 (NN : Int), .pointer (some ⟨y8, 0, none⟩), .pointer (some ⟨g, 0, none⟩), .bool true, .bool false, q12, q13, q14, .pointer (some ⟨g, 0, none⟩), q1, .func (.func 65) #[] #[.pointer (some ⟨b1, 0, none⟩), .pointer (some ⟨b2, 0, none⟩)], v1, .int .i64 zc, q20, q21, q22, q23, q24, q25, q26, q27, q28, q29, q30, q31, q32, q33, q34, q35, q36, q37, q38, q39, q40, q41, q42, q43, q44, q45, q46, (slot (D 0) (.pointer (some ⟨g, 0, none⟩)) (undef)), (slot (D 1) (.pointer (some ⟨g, 0, none⟩)) (undef)), (slot (D 2) (.pointer (some ⟨g, 1, none⟩)) (undef)), (slot (D 3) (.map (some bs)) (undef)), (slot (D 4) (.pointer (some ⟨b, 0, none⟩)) (undef)), (slot (D 5) (.int .i64 zi) (undef)), (slot (D 6) (.agg (nw.map bv).toArray) (undef)), (slot (D 7) (u7) (undef)), undef, undef, undef, undef, undef, undef, undef, undef, undef, undef, undef, undef, undef, undef, undef, undef, undef], defers := [] } ∧
    (Blk w x1 27 #[.pointer (some ⟨g, 0, none⟩)]) ∧
    (Blk w g 48 (dkC n (.map (some bs)) vv mn fuse dark)) ∧
    (Blk w b 86 (putC zi zl)) ∧
    (Blk w y8 84 (blkC nw)) ∧
    (D 7 = false → SMap w bs ff) ∧
    (D 7 = true → SMap w bs (upd ff zi nw)) ∧
    (Chg (OneB bs) W0 w)
def InvC16 (g x1 b1 b2 D0 : Nat) (q1 q12 q13 q14 : Value) (n fuse : Int) (dark : Bool) (ms v mn : Value) (W0 : World) (D : Nat → Bool) (a : Act) (w : World) : Prop :=
  a = { tmps := #[.pointer (some ⟨g, 0, none⟩), q1, .pointer (some ⟨x1, 0, none⟩), undef, .int .i64 0, undef, undef, undef, undef, .pointer (some ⟨g, 0, none⟩), .bool true, .bool false, q12, q13, q14, .pointer (some ⟨g, 0, none⟩), q1, .func (.func 65) #[] #[.pointer (some ⟨b1, 0, none⟩), .pointer (some ⟨b2, 0, none⟩)], undef, undef, undef, undef, undef, undef, undef, undef, undef, undef, undef, undef, undef, undef, undef, undef, undef, undef, undef, undef, undef, undef, undef, undef, undef, undef, undef, undef, undef, undef, undef, undef, undef, undef, undef, undef, undef, (slot (D 0) (.pointer (some ⟨g, 0, none⟩)) (undef)), (slot (D 1) (.pointer (some ⟨g, 0, none⟩)) (undef)), (slot (D 2) (.pointer (some ⟨g, 0, none⟩)) (undef)), (slot (D 3) (.pointer (some ⟨g, 0, none⟩)) (undef)), (slot (D 4) (.pointer (some ⟨g, 2, none⟩)) (undef)), (slot (D 6) (.pointer (some ⟨g, 0, none⟩)) (undef)), (slot (D 7) (.pointer (some ⟨g, 4, none⟩)) (undef)), (slot (D 9) (.pointer (some ⟨g, 0, none⟩)) (undef)), (slot (D 10) (.pointer (some ⟨g, 5, none⟩)) (undef)), undef, undef, undef, undef, undef, undef, undef, undef], defers := [{ target := .collected D0, args := #[] }] } ∧
    (Blk w x1 27 #[.pointer (some ⟨g, 0, none⟩)]) ∧
    (Blk w g 48 #[.int .i64 n, ms, slot (D 5) (.slice none 0 0) v, mn, slot (D 8) (.int .i64 (-1)) (.int .i64 fuse), slot (D 11) (.bool false) (.bool dark)]) ∧
    (Chg (OneB g) W0 w)
def InvC17 (g x1 b1 b2 bs D0 : Nat) (q1 q12 q13 q14 : Value) (q55 q56 q57 q58 q59 q60 q61 q62 q63 : Value) (n : Int) (mn : Value) (ff : Int → List UInt8) (W0 : World) (D : Nat → Bool) (a : Act) (w : World) : Prop :=
  ∃ (bc : Nat), a = { tmps := #[.pointer (some ⟨g, 0, none⟩), q1, .pointer (some ⟨x1, 0, none⟩), undef, .int .i64 0, undef, undef, undef, undef, .pointer (some ⟨g, 0, none⟩), .bool true, .bool false, q12, q13, q14, .pointer (some ⟨g, 0, none⟩), q1, .func (.func 65) #[] #[.pointer (some ⟨b1, 0, none⟩), .pointer (some ⟨b2, 0, none⟩)], undef, undef, undef, undef, undef, undef, undef, undef, undef, undef, undef, undef, undef, undef, undef, undef, undef, undef, undef, undef, undef, undef, undef, undef, undef, undef, undef, undef, undef, undef, undef, undef, undef, undef, undef, undef, undef, q55, q56, q57, q58, q59, q60, q61, q62, q63, (slot (D 0) (.pointer (some ⟨g, 0, none⟩)) (undef)), (slot (D 1) (.pointer (some ⟨g, 0, none⟩)) (undef)), (slot (D 2) (.pointer (some ⟨g, 0, none⟩)) (undef)), (slot (D 3) (.pointer (some ⟨g, 1, none⟩)) (undef)), (slot (D 4) (.map (some bs)) (undef)), (slot (D 5) (.map (some bc)) (undef)), (slot (D 6) (.pointer (some ⟨g, 0, none⟩)) (undef)), (slot (D 7) (.pointer (some ⟨g, 3, none⟩)) (undef))], defers := [{ target := .collected D0, args := #[] }] } ∧
    (Blk w x1 27 #[.pointer (some ⟨g, 0, none⟩)]) ∧
    (D 8 = false → Blk w g 48 (dkC n (.map (some bs)) (.slice none 0 0) mn (-1) false)) ∧
    (D 8 = true → Blk w g 48 (dkC n (.map (some bs)) (.slice none 0 0) (.map (some bc)) (-1) false)) ∧
    (SMap w bs ff) ∧
    (D 5 = true → SMap w bc ff ∧ W0.heap.size ≤ bc) ∧
    (Chg (OneB g) W0 w)
set_option maxRecDepth 100000 in
set_option maxHeartbeats 8000000 in
theorem crash_any (F : Nat → Prop) (g : Nat) (K : Dk) (w : World) (hD : Disk w F g K) (HK : K.loose.length ≤ 1000) (Ak : Option Addr) (nk ck : Nat) (ks : List Int) (hnk : ks.length = nk) (hks : IB w w.heap.size Ak ks) (hkv : Ak = none → nk = 0 ∧ ck = 0) (hkf : 0 < ks.length → ∀ ad, Ak = some ad → ¬ F ad.block) (hkr : ∀ k ∈ ks, -9223372036854775808 ≤ k ∧ k ≤ 9223372036854775807) :
    Calls Try.prog 24 #[.pointer (some ⟨g, 0, none⟩), .slice Ak nk ck] w fun e w' => e = .returned (.int .i64 0) ∧ Disk w' (FN F w w') g (K.crash ks) ∧ Chg F w w' := by
  obtain ⟨bs, bn, v, hd, f1, f2, f3, f4⟩ := hD
  have HF := Lib.hid (show F g ∧ F bs ∧ F bn ∧ ∀ i, v.ownBlock = some i → F i from ⟨f1, f2, f3, f4⟩)
  have HKK := Lib.hid HK
  obtain ⟨n, sure, loose, now, fuse, dark⟩ := K
  obtain ⟨w1, hw1⟩ : ∃ w1, w1 = w.alloc (.cells #[.pointer (some ⟨g, 0, none⟩)] 27) := ⟨_, rfl⟩
  obtain ⟨x1, hx1⟩ : ∃ x1, x1 = w.heap.size := ⟨_, rfl⟩
  have hc1 : Chg NoB w w1 := by rw [hw1]; exact (Chg.refl _ _).alloc _
  have hbx : Blk w1 x1 27 #[.pointer (some ⟨g, 0, none⟩)] := by rw [hw1, hx1]; exact Blk.new w _ _
  have hd1 := hd.chg hc1 (fun h => h) (fun h => h) (fun h => h) (fun _ _ h => h)
  have hn0 : 0 < n := hd.n0
  have HMADE := Lib.hid (callsIn_wide.2 (made_ptr (hd1.blk) true (by simpa using hn0)) : CallsIn Fence.wide 3 _ _ _ _ _)
  have cx := hbx.cell 0
  have HD1 := Lib.hid hd1
  have HBX := Lib.hid hbx
  have HC1 := Lib.hid hc1
  have HKS := Lib.hid (show ks.length = nk ∧ IB w1 w1.heap.size Ak ks ∧ (0 < ks.length → ∀ ad, Ak = some ad → ad.block ≠ bs) from ⟨hnk, (hks.chg (Nat.le_refl _) hc1 (fun _ _ h => h)).more hc1.size, fun h0 ad e h => hkf h0 ad e (h ▸ f2)⟩)
  have HKV := Lib.hid hkv
  have HKR := Lib.hid hkr
  clear hd f1 f2 f3 f4 HK hd1 hbx hc1 hn0 hnk hks hkf hkv hkr
  have hd3 : 1 ≤ 4 - 1 := by decide
  refine (callsIn_wide (n := 4)).1 ?_
  refine callsIn_of_wp_marks Try.func24 rfl trivial ?_ rfl
  simp only [Try.ntmps24, List.size_toArray, List.length_cons, List.length_nil, Nat.reduceAdd, Nat.reduceSub, Array.replicate_succ, Array.replicate_zero, List.push_toArray, List.append_toArray, List.nil_append, List.cons_append]
  -- the box
  refine cutIn (fun a w' => a = ({ tmps := #[.pointer (some ⟨g, 0, none⟩), .slice Ak nk ck, .pointer (some ⟨x1, 0, none⟩), undef, .int .i64 0, undef, undef, undef, undef, undef, undef, undef, undef, undef, undef, undef, undef, undef, undef, undef, undef, undef, undef, undef, undef, undef, undef, undef, undef, undef, undef, undef, undef, undef, undef, undef, undef, undef, undef, undef, undef, undef, undef, undef, undef, undef, undef, undef, undef, undef, undef, undef, undef, undef, undef, undef, undef, undef, undef, undef, undef, undef, undef, undef, undef, undef, undef, undef, undef, undef, undef, undef], defers := [] } : Act) ∧ w1 = w') ?_ ?_
  · intro M hM
    gi_wp2
    rw [← hw1, ← hx1]
    exact ⟨rfl, hM.out _ _ ⟨rfl, rfl⟩⟩
  clear hw1 hx1
  rintro _ _ ⟨rfl, rfl⟩
  -- made
  refine cutIn (fun a w' => a = ({ tmps := #[.pointer (some ⟨g, 0, none⟩), .slice Ak nk ck, .pointer (some ⟨x1, 0, none⟩), undef, .int .i64 0, undef, undef, undef, undef, .pointer (some ⟨g, 0, none⟩), .bool true, .bool false, undef, undef, undef, undef, undef, undef, undef, undef, undef, undef, undef, undef, undef, undef, undef, undef, undef, undef, undef, undef, undef, undef, undef, undef, undef, undef, undef, undef, undef, undef, undef, undef, undef, undef, undef, undef, undef, undef, undef, undef, undef, undef, undef, undef, undef, undef, undef, undef, undef, undef, undef, undef, undef, undef, undef, undef, undef, undef, undef, undef], defers := [] } : Act) ∧ w1 = w') ?_ ?_
  · intro M hM
    gi_wp2_with fail
    refine ⟨trivial, HMADE.out.mono ?_⟩
    rintro e w2 ⟨rfl, rfl⟩
    gi_wp2
    exact ⟨rfl, hM.out _ _ ⟨rfl, rfl⟩⟩
  clear HMADE
  rintro _ _ ⟨rfl, rfl⟩
  -- keep
  refine cutIn (fun a w' => ∃ (ad : Addr) (n' c' : Nat) (q1 q12 q13 q14 : Value), a = ({ tmps := #[.pointer (some ⟨g, 0, none⟩), q1, .pointer (some ⟨x1, 0, none⟩), undef, .int .i64 0, undef, undef, undef, undef, .pointer (some ⟨g, 0, none⟩), .bool true, .bool false, q12, q13, q14, undef, undef, undef, undef, undef, undef, undef, undef, undef, undef, undef, undef, undef, undef, undef, undef, undef, undef, undef, undef, undef, undef, undef, undef, undef, undef, undef, undef, undef, undef, undef, undef, undef, undef, undef, undef, undef, undef, undef, undef, undef, undef, undef, undef, undef, undef, undef, undef, undef, undef, undef, undef, undef, undef, undef, undef, undef], defers := [] } : Act) ∧ q1 = .slice (some ad) n' c' ∧ Chg NoB w1 w' ∧ ks.length = n' ∧ IB w' w'.heap.size (some ad) ks ∧ (0 < ks.length → ad.block ≠ bs)) ?_ ?_
  · intro M hM
    have kn := fun (w : World) => eql_slice_nil w Ak nk ck
    cases Ak with
    | none =>
      obtain ⟨rfl, rfl⟩ := HKV.out rfl
      gi_wp2
      have hk0 : ks = [] := List.length_eq_zero_iff.1 HKS.out.1
      exact ⟨rfl, hM.out _ _ ⟨⟨w1.heap.size, 0, none⟩, 0, 0, _, _, _, _, rfl, rfl, (Chg.refl _ _).alloc _, HKS.out.1, by rw [hk0]; exact IB.none_, fun _ e => by have h1 := HD1.out.sure.lt; have h2 : w1.heap.size = bs := e; omega⟩⟩
    | some ad =>
      gi_wp2
      exact ⟨rfl, hM.out _ _ ⟨ad, nk, ck, _, _, _, _, rfl, rfl, Chg.refl _ _, HKS.out.1, HKS.out.2.1, fun h => HKS.out.2.2 h ad rfl⟩⟩
  clear HKS HKV cx
  rintro _ w2 ⟨ad, n', c', q1, q12, q13, q14, rfl, hq1, hc2, hnk, hks, hkb⟩
  have HKS := Lib.hid (show ks.length = n' ∧ IB w2 w2.heap.size (some ad) ks ∧ (0 < ks.length → ad.block ≠ bs) from ⟨hnk, hks, hkb⟩)
  have HQ1 := Lib.hid hq1
  have HBX2 := Lib.hid (HBX.out.chg hc2 (fun h => h))
  have HD2 := Lib.hid (HD1.out.chg hc2 (fun h => h) (fun h => h) (fun h => h) (fun _ _ h => h))
  have HC2 := Lib.hid (HC1.out.trans hc2 (fun _ _ h => h))
  have cx2 := HBX2.out.cell 0
  clear hnk hks hkb hq1 hc2 HBX HD1 HC1
  -- the range
  obtain ⟨A, c, hvv⟩ := own_slice HD2.out.row
  obtain ⟨xs, hxa, hx2⟩ := withC loose HD2.out.rng (cOf true ks) (cOf_range true ks HKR.out)
  have HXS := Lib.hid hx2
  have HVV := Lib.hid hvv
  clear hvv hx2
  subst hxa
  refine cutIn (fun a w' => ∃ (D b1 b2 : Nat), a = ({ tmps := #[.pointer (some ⟨g, 0, none⟩), q1, .pointer (some ⟨x1, 0, none⟩), undef, .int .i64 0, undef, undef, undef, undef, .pointer (some ⟨g, 0, none⟩), .bool true, .bool false, q12, q13, q14, .pointer (some ⟨g, 0, none⟩), q1, .func (.func 65) #[] #[.pointer (some ⟨b1, 0, none⟩), .pointer (some ⟨b2, 0, none⟩)], undef, undef, undef, undef, undef, undef, undef, undef, undef, undef, undef, undef, undef, undef, undef, undef, undef, undef, undef, undef, undef, undef, undef, undef, undef, undef, undef, undef, undef, undef, undef, undef, undef, undef, undef, undef, undef, undef, undef, undef, undef, undef, undef, undef, undef, undef, undef, undef, undef, undef, undef, undef, undef, undef], defers := [{ target := .collected D, args := #[] }] } : Act) ∧ w2.heap.size ≤ D ∧ D < w'.heap.size ∧ w'.heap[D]? = some (.deferred (some [])) ∧ Chg (fun i => i = bs) w2 w' ∧ SMap w' bs (tear sure xs)) ?_ ?_
  · intro M hM
    refine cutIn (fun a w' => ∃ (b1 b2 : Nat), a = ({ tmps := #[.pointer (some ⟨g, 0, none⟩), q1, .pointer (some ⟨x1, 0, none⟩), undef, .int .i64 0, undef, undef, undef, undef, .pointer (some ⟨g, 0, none⟩), .bool true, .bool false, q12, q13, q14, .pointer (some ⟨g, 0, none⟩), q1, .func (.func 65) #[] #[.pointer (some ⟨b1, 0, none⟩), .pointer (some ⟨b2, 0, none⟩)], undef, undef, undef, undef, undef, undef, undef, undef, undef, undef, undef, undef, undef, undef, undef, undef, undef, undef, undef, undef, undef, undef, undef, undef, undef, undef, undef, undef, undef, undef, undef, undef, undef, undef, undef, undef, undef, undef, undef, undef, undef, undef, undef, undef, undef, undef, undef, undef, undef, undef, undef, undef, undef, undef], defers := [] } : Act) ∧ Blk w' b1 27 #[.pointer (some ⟨g, 0, none⟩)] ∧ Blk w' b2 63 #[q1] ∧ w2.heap.size ≤ b1 ∧ w2.heap.size ≤ b2 ∧ Chg NoB w2 w') ?_ ?_
    · intro M hM
      have hpu := puts_any g (some ad) n' c' w2
      rw [← HQ1.out] at hpu
      have HPU := Lib.hid hpu
      clear hpu
      gi_wp2_with fail
      refine ⟨trivial, (callsIn_wide.2 HPU.out).mono ?_⟩
      rintro e w3 ⟨b1, b2, rfl, hb1, hb2, hl1, hl2, hc3⟩
      gi_wp2
      exact ⟨rfl, hM.out _ _ ⟨b1, b2, rfl, hb1, hb2, hl1, hl2, hc3⟩⟩
    clear cx2
    rintro _ w3 ⟨b1, b2, rfl, hb1, hb2, hl1, hl2, hc3⟩
    have hvv := HVV.out
    subst hvv
    rw [HQ1.out] at hb2
    have hd3 := HD2.out.chg hc3 (fun h => h) (fun h => h) (fun h => h) (fun _ _ h => h)
    have hxl : xs.length = (xs.map (fun x => x.1.1)).length := by simp
    have hst := puts1_any Fence.wide 3 trivial rfl (by decide) b1 b2 g bs w3.heap.size _ _ _ _ _ A _ c xs hxl HKK.out w3 (Nat.le_refl _) (some ad) n' c' ks HKS.out.1 ((HKS.out.2.1.chg (Nat.le_refl _) hc3 (fun _ _ h => h)).more hc3.size) (fun h ad' e => by cases e; exact HKS.out.2.2 h) (fun h => by cases h) (fun j h => HXS.out j h) hb1 hb2 hd3.blk hd3.row (fun e => hd3.sure.blk_ne hb2 e.symm) (map_own_ne hd3.row hd3.sure)
    have HST := Lib.hid hst
    have HD3 := Lib.hid hd3
    have HC3 := Lib.hid hc3
    have HBX3 := Lib.hid (HBX2.out.chg hc3 (fun h => h))
    clear hst hd3 hxl hb1 hb2 hc3
    refine wpIn_block ?_
    refine wpIn_rangeFunc_ownH rfl (by decide) (gf := 65) (lb := #[.pointer (some ⟨b1, 0, none⟩), .pointer (some ⟨b2, 0, none⟩)]) rfl trivial (enters_of Try.func65 (by kernel_rfl) rfl)
      HST.out (fun h1 h2 => Chg.trans h1 h2 (fun _ _ h => h)) (fun W l o o' hl hW _ _ => ?kb) (Below.refl _ _) (fun _ => rfl)
      (fun pre W => Chg (fun i => i = bs ∨ w3.heap.size ≤ i) w3 W ∧ SMap W bs (tear sure pre)) (fun _ _ _ => False)
      ?own (fun _ _ _ _ _ hs _ _ => hs) ⟨Chg.refl _ _, HD3.out.sure⟩
      (fun x a' W => ∃ (b : Nat) (v1 : Value), w3.heap.size ≤ b ∧ a' = ({ tmps := #[.pointer (some ⟨g, 0, none⟩), q1, .pointer (some ⟨x1, 0, none⟩), undef, .int .i64 0, .pointer (some ⟨b, 0, none⟩), .int .i64 x.2.1, undef, undef, .pointer (some ⟨g, 0, none⟩), .bool true, .bool false, q12, q13, q14, .pointer (some ⟨g, 0, none⟩), q1, .func (.func 65) #[] #[.pointer (some ⟨b1, 0, none⟩), .pointer (some ⟨b2, 0, none⟩)], v1, .int .i64 x.2.1, undef, undef, undef, undef, undef, undef, undef, undef, undef, undef, undef, undef, undef, undef, undef, undef, undef, undef, undef, undef, undef, undef, undef, undef, undef, undef, undef, undef, undef, undef, undef, undef, undef, undef, undef, undef, undef, undef, undef, undef, undef, undef, undef, undef, undef, undef, undef, undef, undef, undef, undef, undef], defers := [] } : Act) ∧ Blk W b 86 (putC x.1.1.1 x.1.1.2)) ?ownA ?assign ?body ?done ?stop
    case kb => exact Chg.grown (Chg.refl _ W) (grownBy_putObj' W l o') (fun r e => by cases e; exact .inl (.inr hl))
    case own =>
      intro pre A B row hs hg hr
      refine ⟨hs.1.grown hg (fun r e => .inr (hr r e).1), hs.2.chg ((Chg.refl (fun i => row = some i) A).grown hg (fun r e => .inl e)) (fun e => ?_)⟩
      have h1 := (hr bs e).1; have h2 := HD3.out.sure.lt; omega
    case ownA =>
      rintro x a' _ A B row ⟨b, v1, hb, ha, hk⟩ hg hr
      refine ⟨b, v1, hb, ha, hk.chg ((Chg.refl (fun i => row = some i) A).grown hg (fun r e => .inl e)) (fun e => ?_)⟩
      obtain ⟨_, o, ho, hc⟩ := hr b e
      rw [show A.heap[b]? = _ from hk] at ho; cases ho; cases hc
    case assign =>
      intro l pre x W K hI hK
      obtain ⟨⟨⟨zi, zl⟩, hzp⟩, ⟨zc, hzc⟩⟩ := x
      have hzl : zl.length = 512 := hzp.2.2
      have HZL := Lib.hid hzl
      have hWs : w3.heap.size ≤ W.heap.size := hI.1.size
      have HI := Lib.hid hI
      have HK := Lib.hid hK
      clear hzl hI hK
      simp only [List.zip_toArray, List.zip_cons_cons, List.zip_nil_right, List.foldl_toArray, List.foldl_cons, List.foldl_nil, List.setIfInBounds_toArray, List.set_cons_succ, List.set_cons_zero]
      gi_wp2_with (first
          | (refine wpListIn_alloc_put _ rfl rfl ?_)
          | (refine wpListIn_store_blk _ rfl 86 _ _ rfl W.heap.size (putC zi zl) rfl rfl 86 _ (Blk.new W _ _) (by rw [putC_size zi HZL.out, putC_size 0 zeros_len]) (put_infoS zi HZL.out) (putC_one _ _) ?_)
          | fail)
      have hc4 : Chg NoB W ((W.alloc (.cells (putC 0 zeros) 86)).setRow W.heap.size (putC zi zl)) := ((Chg.refl NoB W).alloc _).setRow (.inr (Nat.le_refl _)) _
      refine HK.out _ _ (hc4.keepsFrom (fun i h => h.elim)) (hc4.mono (fun _ _ h => h.elim)) ⟨HI.out.1.trans hc4 (fun _ _ h => h.elim), HI.out.2.chg hc4 (fun h => h)⟩ ⟨W.heap.size, _, hWs, rfl, (Blk.new W _ _).row _⟩
    case body =>
      rintro l pre x a' W hlW _ ⟨hch, hS⟩ ⟨b, v1, hbT, rfl, hb⟩ _
      obtain ⟨⟨⟨zi, zl⟩, hzp⟩, ⟨zc, hzc⟩⟩ := x
      have hlx := HBX3.out.lt
      have hlg := HD3.out.blk.lt
      have HX := Lib.hid (HBX3.out.chg hch (fun h => h.elim (fun e => HD3.out.sure.blk_ne HBX3.out e.symm) (fun h => by omega)))
      have HG := Lib.hid (HD3.out.blk.chg hch (fun h => h.elim (fun e => HD3.out.sure.blk_ne HD3.out.blk e.symm) (fun h => by omega)))
      have HB := Lib.hid hb
      have HZ := Lib.hid (show 0 ≤ zi ∧ zi < 8192 ∧ zl.length = 512 from hzp)
      have HCH := Lib.hid hch
      have HS := Lib.hid hS
      have hbi : W.cell? ⟨b, 0, none⟩ = some (.int .i64 zi) := hb.cell 0
      have hd : 1 ≤ 4 - 1 - 1 := by decide
      clear hch hS hb
      refine wpIn_block ?_
      refine cutIn (fun a w' => a = ({ tmps := #[.pointer (some ⟨g, 0, none⟩), q1, .pointer (some ⟨x1, 0, none⟩), undef, .int .i64 0, .pointer (some ⟨b, 0, none⟩), .int .i64 zc, .int .i64 512, undef, .pointer (some ⟨g, 0, none⟩), .bool true, .bool false, q12, q13, q14, .pointer (some ⟨g, 0, none⟩), q1, .func (.func 65) #[] #[.pointer (some ⟨b1, 0, none⟩), .pointer (some ⟨b2, 0, none⟩)], v1, .int .i64 zc, undef, undef, undef, undef, undef, undef, undef, undef, undef, undef, undef, undef, undef, undef, undef, undef, undef, undef, undef, undef, undef, undef, undef, undef, undef, undef, undef, undef, undef, undef, undef, undef, undef, undef, undef, undef, undef, undef, undef, undef, undef, undef, undef, undef, undef, undef, undef, undef, undef, undef, undef, undef], defers := [] } : Act) ∧ W = w') ?_ ?_
      · intro M hM
        gi_wp2
        exact ⟨rfl, hM.out _ _ ⟨rfl, rfl⟩⟩
      rintro _ _ ⟨rfl, rfl⟩
      refine cutIn (fun a w' => ∃ (NN : Nat) (q20 q21 q22 q23 q24 q25 q26 q27 q28 q29 q30 q31 q32 q33 : Value), NN = cutN zi zc ∧ a = ({ tmps := #[.pointer (some ⟨g, 0, none⟩), q1, .pointer (some ⟨x1, 0, none⟩), undef, .int .i64 0, .pointer (some ⟨b, 0, none⟩), .int .i64 zc, .int .i64 (NN : Int), undef, .pointer (some ⟨g, 0, none⟩), .bool true, .bool false, q12, q13, q14, .pointer (some ⟨g, 0, none⟩), q1, .func (.func 65) #[] #[.pointer (some ⟨b1, 0, none⟩), .pointer (some ⟨b2, 0, none⟩)], v1, .int .i64 zc, q20, q21, q22, q23, q24, q25, q26, q27, q28, q29, q30, q31, q32, q33, undef, undef, undef, undef, undef, undef, undef, undef, undef, undef, undef, undef, undef, undef, undef, undef, undef, undef, undef, undef, undef, undef, undef, undef, undef, undef, undef, undef, undef, undef, undef, undef, undef, undef, undef, undef, undef, undef], defers := [] } : Act) ∧ W = w') ?_ ?_
      · intro M hM
        have hcase : (zc ≤ 0 ∧ cutN zi zc = 0) ∨ (0 < zc ∧ ¬ 1 < zc ∧ cutN zi zc = 512) ∨ (0 < zc ∧ 1 < zc ∧ zi = 0 ∧ cutN zi zc = 512) ∨ (0 < zc ∧ 1 < zc ∧ ¬ zi = 0 ∧ cutN zi zc = ((zc - 2) % 512).toNat) := by
          unfold cutN
          by_cases h1 : zc ≤ 0
          · exact .inl ⟨h1, if_pos h1⟩
          · rw [if_neg h1]
            by_cases h2 : 1 < zc
            · by_cases h3 : zi = 0
              · exact .inr (.inr (.inl ⟨by omega, h2, h3, if_neg (fun h => h.2 h3)⟩))
              · exact .inr (.inr (.inr ⟨by omega, h2, h3, if_pos ⟨h2, h3⟩⟩))
            · exact .inr (.inl ⟨by omega, h2, if_neg (fun h => h2 h.1)⟩)
        rcases hcase with ⟨h1, h2⟩ | ⟨h1, h3, h2⟩ | ⟨h1, h3, h4, h2⟩ | ⟨h1, h3, h4, h2⟩
        all_goals have HCUT := Lib.hid h2
        all_goals clear h2
        · gi_wp2
          exact ⟨rfl, hM.out _ _ ⟨0, _, _, _, _, _, _, _, _, _, _, _, _, _, _, HCUT.out.symm, rfl, rfl⟩⟩
        · gi_wp2
          exact ⟨rfl, hM.out _ _ ⟨512, _, _, _, _, _, _, _, _, _, _, _, _, _, _, HCUT.out.symm, rfl, rfl⟩⟩
        · gi_wp2
          exact ⟨rfl, hM.out _ _ ⟨512, _, _, _, _, _, _, _, _, _, _, _, _, _, _, HCUT.out.symm, rfl, rfl⟩⟩
        · have hwr : RowKit.wrap64 (zc - 2) = zc - 2 := IntWalk.wrap64_in _ ⟨by omega, by omega⟩
          gi_wp2
          have he : (zc - 2) % 512 = ((((zc - 2) % 512).toNat : Nat) : Int) := by omega
          rw [he]
          exact ⟨rfl, hM.out _ _ ⟨((zc - 2) % 512).toNat, _, _, _, _, _, _, _, _, _, _, _, _, _, _, HCUT.out.symm, rfl, rfl⟩⟩
      rintro _ _ ⟨NN, q20, q21, q22, q23, q24, q25, q26, q27, q28, q29, q30, q31, q32, q33, hNN, rfl, rfl⟩
      have hN : NN ≤ 512 := by rw [hNN]; exact cutN_le _ _
      have HNN := Lib.hid hNN
      obtain ⟨ff, hff⟩ : ∃ ff, ff = tear sure pre := ⟨_, rfl⟩
      have HS2 := Lib.hid (show SMap W bs ff from by rw [hff]; exact HS.out)
      have HFF := Lib.hid hff
      have HL := Lib.hid (HS2.out.len zi)
      clear hNN hff HS hbi
      refine cutIn (fun a w' => ∃ (y8 : Nat) (q34 q35 q36 q37 q38 q39 q40 : Value), a = ({ tmps := #[.pointer (some ⟨g, 0, none⟩), q1, .pointer (some ⟨x1, 0, none⟩), undef, .int .i64 0, .pointer (some ⟨b, 0, none⟩), .int .i64 zc, .int .i64 (NN : Int), .pointer (some ⟨y8, 0, none⟩), .pointer (some ⟨g, 0, none⟩), .bool true, .bool false, q12, q13, q14, .pointer (some ⟨g, 0, none⟩), q1, .func (.func 65) #[] #[.pointer (some ⟨b1, 0, none⟩), .pointer (some ⟨b2, 0, none⟩)], v1, .int .i64 zc, q20, q21, q22, q23, q24, q25, q26, q27, q28, q29, q30, q31, q32, q33, q34, q35, q36, q37, q38, q39, q40, undef, undef, undef, undef, undef, undef, undef, undef, undef, undef, undef, undef, undef, undef, undef, undef, undef, undef, undef, undef, undef, undef, undef, undef, undef, undef, undef, undef, undef, undef, undef], defers := [] } : Act) ∧ W.heap.size ≤ y8 ∧ Blk w' y8 84 (blkC (ff zi)) ∧ Chg NoB W w') ?_ ?_
      · intro M hM
        refine wpIn_region_cl rfl (by kernel_rfl) (InvC13 g x1 b b1 b2 bs NN q1 q12 q13 q14 v1 q20 q21 q22 q23 q24 q25 q26 q27 q28 q29 q30 q31 q32 q33 zi zc ff W) ?_ ?_ ?_
        · exact ⟨0, rfl, (fun h => by cases h), (fun h => by cases h), (fun h => by cases h), (Chg.refl _ _).drew⟩
        ·
          intro D a w i o ho hD hcl hpre hI
          obtain ⟨y8, rfl, hy0, hy1, hyn, hch⟩ := hI
          have hi : i < 9 := by have := (List.getElem?_eq_some_iff.1 ho).1; simpa using this
          rcases (by omega : i = 0 ∨ i = 1 ∨ i = 2 ∨ i = 3 ∨ i = 4 ∨ i = 5 ∨ i = 6 ∨ i = 7 ∨ i = 8) with rfl | rfl | rfl | rfl | rfl | rfl | rfl | rfl | rfl
          · obtain rfl := Option.some.inj ho
            clear ho hpre hi hcl
            have c0 := (HX.out.chg hch (fun h => h)).cell 0
            gi_wp2_with fail
            unfold AtEnd
            exact ⟨y8, rfl, fun h1 h2 => hy0 (by simpa [more] using h1) (by simpa [more] using h2), fun h => hy1 (by simpa [more] using h), fun h => hyn (by simpa [more] using h), hch⟩
          · obtain rfl := Option.some.inj ho
            have p0 := hpre ⟨0, .data⟩ (by simp) rfl
            clear ho hpre hi hcl
            gi_wp2_with fail
            unfold AtEnd
            exact ⟨y8, by simp only [more, slot_true, slot_false, Nat.reduceEqDiff, ↓reduceIte, p0], fun h1 h2 => hy0 (by simpa [more] using h1) (by simpa [more] using h2), fun h => hy1 (by simpa [more] using h), fun h => hyn (by simpa [more] using h), hch⟩
          · obtain rfl := Option.some.inj ho
            have p1 := hpre ⟨1, .data⟩ (by simp) rfl
            clear ho hpre hi hcl
            gi_wp2_with fail
            unfold AtEnd
            exact ⟨y8, by simp only [more, slot_true, slot_false, Nat.reduceEqDiff, ↓reduceIte, p1], fun h1 h2 => hy0 (by simpa [more] using h1) (by simpa [more] using h2), fun h => hy1 (by simpa [more] using h), fun h => hyn (by simpa [more] using h), hch⟩
          · obtain rfl := Option.some.inj ho
            have p2 := hpre ⟨2, .data⟩ (by simp) rfl
            clear ho hpre hi hcl
            have c1 := (HG.out.chg hch (fun h => h)).cell 1
            simp only [dkC] at c1
            gi_wp2_with fail
            unfold AtEnd
            exact ⟨y8, by simp only [more, slot_true, slot_false, Nat.reduceEqDiff, ↓reduceIte, p2], fun h1 h2 => hy0 (by simpa [more] using h1) (by simpa [more] using h2), fun h => hy1 (by simpa [more] using h), fun h => hyn (by simpa [more] using h), hch⟩
          · obtain rfl := Option.some.inj ho
            clear ho hpre hi hcl
            gi_wp2_with fail
            unfold AtEnd
            exact ⟨y8, rfl, fun h1 h2 => hy0 (by simpa [more] using h1) (by simpa [more] using h2), fun h => hy1 (by simpa [more] using h), fun h => hyn (by simpa [more] using h), hch⟩
          · obtain rfl := Option.some.inj ho
            have p4 := hpre ⟨4, .data⟩ (by simp) rfl
            clear ho hpre hi hcl
            have c0 : w.cell? ⟨b, 0, none⟩ = some (.int .i64 zi) := (HB.out.chg hch (fun h => h)).cell 0
            gi_wp2_with fail
            unfold AtEnd
            exact ⟨y8, by simp only [more, slot_true, slot_false, Nat.reduceEqDiff, ↓reduceIte, p4], fun h1 h2 => hy0 (by simpa [more] using h1) (by simpa [more] using h2), fun h => hy1 (by simpa [more] using h), fun h => hyn (by simpa [more] using h), hch⟩
          · obtain rfl := Option.some.inj ho
            have p3 := hpre ⟨3, .data⟩ (by simp) rfl
            have p5 := hpre ⟨5, .data⟩ (by simp) rfl
            clear ho hpre hi hcl
            have hs := HS2.out.chg hch (fun h => h)
            simp only [p3, p5, slot_true]
            gi_wp2_with (refine wpListIn_lookup_blk _ rfl _ _ rfl bs _ rfl hs zi rfl HZ.out.1 HZ.out.2.1 ?_)
            unfold AtEnd
            exact ⟨y8, by simp only [more, slot_true, slot_false, Nat.reduceEqDiff, ↓reduceIte, p3, p5], fun h1 h2 => hy0 (by simpa [more] using h1) (by simpa [more] using h2), fun h => hy1 (by simpa [more] using h), fun h => hyn (by simpa [more] using h), hch⟩
          · obtain rfl := Option.some.inj ho
            have d8 : D 8 = false := (hcl.not_ 8 _ rfl 0 _ rfl rfl hD)
            clear ho hpre hi hcl
            gi_wp2_with (refine wpListIn_alloc_blk _ rfl rfl ?_)
            unfold AtEnd
            exact ⟨w.heap.size, by simp only [more, slot_true, slot_false, Nat.reduceEqDiff, ↓reduceIte, d8], fun _ _ => Blk.new w _ _, fun h => by simp [more, d8] at h, fun _ => hch.size, hch.alloc _⟩
          · obtain rfl := Option.some.inj ho
            have p7 := hpre ⟨7, .data⟩ (by simp) rfl
            have p6 := hpre ⟨6, .data⟩ (by simp) rfl
            clear ho hpre hi hcl
            have hb := hy0 p7 hD
            simp only [p6, p7, slot_true]
            gi_wp2_with (refine wpListIn_store_blk _ rfl 84 _ _ rfl y8 (blkC (ff zi)) rfl rfl 84 _ hb (by rw [blkC_size, blkC_size, zeros_len, HL.out]) (blk_infoS HL.out) (blk_one _) ?_)
            unfold AtEnd
            exact ⟨y8, by simp only [more, slot_true, slot_false, Nat.reduceEqDiff, ↓reduceIte, p7, p6], fun _ h => by simp [more] at h, fun _ => hb.row _, fun _ => hyn p7, hch.setRow (.inr (hyn p7)) _⟩
        · intro D a w hall hI
          obtain ⟨y8, rfl, hy0, hy1, hyn, hch⟩ := hI
          simp only [hall 7 (by decide), slot_true]
          exact ⟨rfl, hM.out _ _ ⟨y8, _, _, _, _, _, _, _, rfl, hyn (hall 7 (by decide)), hy1 (hall 8 (by decide)), hch⟩⟩
      rintro _ V13 ⟨y8, q34, q35, q36, q37, q38, q39, q40, rfl, hyn, hy8, hch13⟩
      have HYN := Lib.hid hyn
      clear hyn
      refine cutIn (fun a w' => ∃ (q41 q42 q43 q44 q45 q46 : Value), a = ({ tmps := #[.pointer (some ⟨g, 0, none⟩), q1, .pointer (some ⟨x1, 0, none⟩), undef, .int .i64 0, .pointer (some ⟨b, 0, none⟩), .int .i64 zc, .int .i64 (NN : Int), .pointer (some ⟨y8, 0, none⟩), .pointer (some ⟨g, 0, none⟩), .bool true, .bool false, q12, q13, q14, .pointer (some ⟨g, 0, none⟩), q1, .func (.func 65) #[] #[.pointer (some ⟨b1, 0, none⟩), .pointer (some ⟨b2, 0, none⟩)], v1, .int .i64 zc, q20, q21, q22, q23, q24, q25, q26, q27, q28, q29, q30, q31, q32, q33, q34, q35, q36, q37, q38, q39, q40, q41, q42, q43, q44, q45, q46, undef, undef, undef, undef, undef, undef, undef, undef, undef, undef, undef, undef, undef, undef, undef, undef, undef, undef, undef, undef, undef, undef, undef, undef, undef], defers := [] } : Act) ∧ Blk w' y8 84 (blkC (zl.take NN ++ (ff zi).drop NN)) ∧ Chg NoB W w') ?_ ?_
      · intro M hM
        refine wpIn_region_cl rfl (by kernel_rfl) (InvC14 g x1 b b1 b2 y8 NN q1 q12 q13 q14 v1 q20 q21 q22 q23 q24 q25 q26 q27 q28 q29 q30 q31 q32 q33 q34 q35 q36 q37 q38 q39 q40 zc (ff zi) zl W) ?_ ?_ ?_
        · exact ⟨rfl, fun _ => hy8, (fun h => by cases h), hch13.drew⟩
        ·
          intro D a w i o ho hD hcl hpre hI
          obtain ⟨rfl, hy0, hy1, hch⟩ := hI
          have hi : i < 6 := by have := (List.getElem?_eq_some_iff.1 ho).1; simpa using this
          rcases (by omega : i = 0 ∨ i = 1 ∨ i = 2 ∨ i = 3 ∨ i = 4 ∨ i = 5) with rfl | rfl | rfl | rfl | rfl | rfl
          · obtain rfl := Option.some.inj ho
            clear ho hpre hi hcl
            gi_wp2_with fail
            unfold AtEnd
            exact ⟨rfl, fun h => hy0 (by simpa [more] using h), fun h => hy1 (by simpa [more] using h), hch⟩
          · obtain rfl := Option.some.inj ho
            have p0 := hpre ⟨0, .data⟩ (by simp) rfl
            clear ho hpre hi hcl
            have hsl := fun w => run_sliceAt_blk w y8 0 NN hN
            gi_wp2_with fail
            unfold AtEnd
            exact ⟨by simp only [more, slot_true, slot_false, Nat.reduceEqDiff, ↓reduceIte, p0], fun h => hy0 (by simpa [more] using h), fun h => hy1 (by simpa [more] using h), hch⟩
          · obtain rfl := Option.some.inj ho
            clear ho hpre hi hcl
            gi_wp2_with fail
            unfold AtEnd
            exact ⟨rfl, fun h => hy0 (by simpa [more] using h), fun h => hy1 (by simpa [more] using h), hch⟩
          · obtain rfl := Option.some.inj ho
            clear ho hpre hi hcl
            gi_wp2_with fail
            unfold AtEnd
            exact ⟨rfl, fun h => hy0 (by simpa [more] using h), fun h => hy1 (by simpa [more] using h), hch⟩
          · obtain rfl := Option.some.inj ho
            have p2 := hpre ⟨2, .data⟩ (by simp) rfl
            have p3 := hpre ⟨3, .data⟩ (by simp) rfl
            clear ho hpre hi hcl
            have hsl := fun w => run_sliceAt_blk w b 1 NN hN
            gi_wp2_with fail
            unfold AtEnd
            exact ⟨by simp only [more, slot_true, slot_false, Nat.reduceEqDiff, ↓reduceIte, p2, p3], fun h => hy0 (by simpa [more] using h), fun h => hy1 (by simpa [more] using h), hch⟩
          · obtain rfl := Option.some.inj ho
            have p1 := hpre ⟨1, .data⟩ (by simp) rfl
            have p4 := hpre ⟨4, .data⟩ (by simp) rfl
            clear ho hpre hi hcl
            have hb := hy0 hD
            have hbb := HB.out.chg hch (fun h => h)
            simp only [p1, p4, slot_true]
            gi_wp2_with (refine wpListIn_copy_blk _ rfl _ _ rfl y8 b 512 512 NN (ff zi) zl rfl rfl hb HL.out hN HZ.out.2.2 (fun q v hv => by rw [hbb.cell (1 + q), ← hv, Nat.add_comm]; simp [putC, putL]) ?_)
            unfold AtEnd
            exact ⟨by simp only [more, slot_true, slot_false, Nat.reduceEqDiff, ↓reduceIte, p1, p4], fun h => by simp [more] at h, fun _ => hb.row _, hch.setRow (.inr HYN.out) _⟩
        · intro D a w hall hI
          obtain ⟨rfl, hy0, hy1, hch⟩ := hI
          exact ⟨rfl, hM.out _ _ ⟨_, _, _, _, _, _, rfl, hy1 (hall 5 (by decide)), hch⟩⟩
      clear hy8 hch13
      rintro _ V14 ⟨q41, q42, q43, q44, q45, q46, rfl, hy8, hch14⟩
      obtain ⟨nw, hnw⟩ : ∃ nw, nw = zl.take NN ++ (ff zi).drop NN := ⟨_, rfl⟩
      rw [← hnw] at hy8
      have HNW := Lib.hid hnw
      have HNL := Lib.hid (show nw.length = 512 from by rw [hnw, List.length_append, List.length_take, List.length_drop, HZ.out.2.2, HL.out]; omega)
      have hx4 := HX.out.chg hch14 (fun h => h)
      obtain ⟨vv, hvv⟩ : ∃ vv, vv = Value.slice A (xs.map (fun x => x.1.1)).length c := ⟨_, rfl⟩
      have hg4 : Blk V14 g 48 (dkC n (.map (some bs)) vv (.map (some bn)) fuse dark) := by rw [hvv]; exact HG.out.chg hch14 (fun h => h)
      have hb4 := HB.out.chg hch14 (fun h => h)
      have hs4 := HS2.out.chg hch14 (fun h => h)
      have HCH14 := Lib.hid hch14
      clear hch14 hnw hvv
      refine wpIn_region_cl rfl (by kernel_rfl) (InvC15 g x1 b b1 b2 bs y8 NN q1 q12 q13 q14 v1 q20 q21 q22 q23 q24 q25 q26 q27 q28 q29 q30 q31 q32 q33 q34 q35 q36 q37 q38 q39 q40 q41 q42 q43 q44 q45 q46 n fuse zi zc dark zl nw ff vv (.map (some bn)) V14) ?_ ?_ ?_
      · exact ⟨undef, rfl, hx4, hg4, hb4, hy8, fun _ => hs4, (fun h => by cases h), (Chg.refl _ _).drew⟩
      ·
        intro D a w i o ho hD hcl hpre hI
        obtain ⟨u7, rfl, hx, hg, hb, hy, hs0, hs1, hch⟩ := hI
        have hi : i < 8 := by have := (List.getElem?_eq_some_iff.1 ho).1; simpa using this
        rcases (by omega : i = 0 ∨ i = 1 ∨ i = 2 ∨ i = 3 ∨ i = 4 ∨ i = 5 ∨ i = 6 ∨ i = 7) with rfl | rfl | rfl | rfl | rfl | rfl | rfl | rfl
        · obtain rfl := Option.some.inj ho
          clear ho hpre hi hcl
          have c0 := hx.cell 0
          gi_wp2_with fail
          unfold AtEnd
          exact ⟨u7, rfl, hx, hg, hb, hy, fun h => hs0 (by simpa [more] using h), fun h => hs1 (by simpa [more] using h), hch⟩
        · obtain rfl := Option.some.inj ho
          have p0 := hpre ⟨0, .data⟩ (by simp) rfl
          clear ho hpre hi hcl
          gi_wp2_with fail
          unfold AtEnd
          exact ⟨u7, by simp only [more, slot_true, slot_false, Nat.reduceEqDiff, ↓reduceIte, p0], hx, hg, hb, hy, fun h => hs0 (by simpa [more] using h), fun h => hs1 (by simpa [more] using h), hch⟩
        · obtain rfl := Option.some.inj ho
          have p1 := hpre ⟨1, .data⟩ (by simp) rfl
          clear ho hpre hi hcl
          gi_wp2_with fail
          unfold AtEnd
          exact ⟨u7, by simp only [more, slot_true, slot_false, Nat.reduceEqDiff, ↓reduceIte, p1], hx, hg, hb, hy, fun h => hs0 (by simpa [more] using h), fun h => hs1 (by simpa [more] using h), hch⟩
        · obtain rfl := Option.some.inj ho
          have p2 := hpre ⟨2, .data⟩ (by simp) rfl
          clear ho hpre hi hcl
          have c1 := hg.cell 1
          simp only [dkC] at c1
          gi_wp2_with fail
          unfold AtEnd
          exact ⟨u7, by simp only [more, slot_true, slot_false, Nat.reduceEqDiff, ↓reduceIte, p2], hx, hg, hb, hy, fun h => hs0 (by simpa [more] using h), fun h => hs1 (by simpa [more] using h), hch⟩
        · obtain rfl := Option.some.inj ho
          clear ho hpre hi hcl
          gi_wp2_with fail
          unfold AtEnd
          exact ⟨u7, rfl, hx, hg, hb, hy, fun h => hs0 (by simpa [more] using h), fun h => hs1 (by simpa [more] using h), hch⟩
        · obtain rfl := Option.some.inj ho
          have p4 := hpre ⟨4, .data⟩ (by simp) rfl
          clear ho hpre hi hcl
          have c0 : w.cell? ⟨b, 0, none⟩ = some (.int .i64 zi) := hb.cell 0
          gi_wp2_with fail
          unfold AtEnd
          exact ⟨u7, by simp only [more, slot_true, slot_false, Nat.reduceEqDiff, ↓reduceIte, p4], hx, hg, hb, hy, fun h => hs0 (by simpa [more] using h), fun h => hs1 (by simpa [more] using h), hch⟩
        · obtain rfl := Option.some.inj ho
          clear ho hpre hi hcl
          gi_wp2_with (refine wpListIn_load_mid _ rfl 84 _ rfl y8 0 rfl (nw.map bv) _ (blk_mid hy) Try.underlying84 rfl (by rw [List.length_map, HNL.out]; exact blk_size) ?_)
          unfold AtEnd
          exact ⟨u7, rfl, hx, hg, hb, hy, fun h => hs0 (by simpa [more] using h), fun h => hs1 (by simpa [more] using h), hch⟩
        · obtain rfl := Option.some.inj ho
          have p3 := hpre ⟨3, .data⟩ (by simp) rfl
          have p5 := hpre ⟨5, .data⟩ (by simp) rfl
          have p6 := hpre ⟨6, .data⟩ (by simp) rfl
          clear ho hpre hi hcl
          have hs := hs0 hD
          simp only [p3, p5, p6, slot_true]
          gi_wp2_with fail
          refine ⟨trivial, (CallsIn.inRound l (callsIn_wide.2 (set_any bs _ zi nw _ hs HZ.out.1 HZ.out.2.1 HNL.out))).mono ?_⟩
          rintro e w5 ⟨⟨vv7, rfl⟩, hS5, hc5⟩
          gi_wp2_with fail
          unfold AtEnd
          exact ⟨vv7, by simp only [more, slot_true, slot_false, Nat.reduceEqDiff, ↓reduceIte, p3, p5, p6], hx.chg hc5 (fun e => hs.blk_ne hx e.symm), hg.chg hc5 (fun e => hs.blk_ne hg e.symm), hb.chg hc5 (fun e => hs.blk_ne hb e.symm), hy.chg hc5 (fun e => hs.blk_ne hy e.symm), fun h => by simp [more] at h, fun _ => hS5, hch.trans hc5 (fun _ _ h => h)⟩
      · intro D a w hall hI
        obtain ⟨u7, rfl, hx, hg, hb, hy, hs0, hs1, hch⟩ := hI
        have hcc : Chg (OneB bs) W w := ((Chg.refl (OneB bs) W).trans HCH14.out (fun _ _ h => h.elim)).trans hch (fun _ _ h => h)
        exact ⟨hcc.keepsFrom (fun i hi => by have h1 : i = bs := hi; have h2 := HD3.out.sure.lt; omega), hcc.mono (fun i _ h => .inl h), HCH.out.trans hcc (fun i _ h => .inl h), by rw [tear_snoc, ← HFF.out]; unfold torn; rw [← HNN.out, ← HNW.out]; exact hs1 (hall 7 (by decide))⟩
    case done =>
      rintro D ys W hD rfl ⟨hch, hS⟩ hK
      refine ⟨rfl, hM.out _ _ ⟨D, b1, b2, rfl, Nat.le_trans HC3.out.size hD, lt_of_heap hK, hK, ?_, hS⟩⟩
      exact ((Chg.refl (fun i => i = bs) w2).trans HC3.out (fun _ _ h => h.elim)).trans hch (fun i hi h => h.elim id (fun h => by have := HC3.out.size; omega))
    case stop =>
      rintro D c pre W _ _ h _
      exact h.elim
  rintro _ w3 ⟨D, b1, b2, rfl, hD2, hDl, hK, hc3, hs3⟩
  have HX3 := Lib.hid (HBX2.out.chg hc3 (fun e => HD2.out.sure.blk_ne HBX2.out (show x1 = bs from e).symm))
  have HN3 := Lib.hid (HD2.out.now.chg hc3 (fun e => HD2.out.ne (show bn = bs from e).symm))
  have hg3 := HD2.out.blk.chg hc3 (fun e => HD2.out.sure.blk_ne HD2.out.blk (show g = bs from e).symm)
  obtain ⟨ff, hff⟩ : ∃ ff, ff = tear sure xs := ⟨_, rfl⟩
  rw [← hff] at hs3
  have HS3 := Lib.hid hs3
  have HFF := Lib.hid hff
  have HK3 := Lib.hid hK
  have HC3 := Lib.hid hc3
  have hDg : D ≠ g := fun e => by
    have h1 : w3.heap[g]? = _ := hg3
    rw [e, h1] at hK; cases hK
  have hDb : D ≠ bs := fun e => by have := HD2.out.sure.lt; omega
  clear hff hK hc3 hs3 cx2
  simp only [dkC] at hg3
  refine cutIn (fun a w' => ∃ (q55 q56 q57 q58 q59 q60 q61 q62 q63 : Value), a = ({ tmps := #[.pointer (some ⟨g, 0, none⟩), q1, .pointer (some ⟨x1, 0, none⟩), undef, .int .i64 0, undef, undef, undef, undef, .pointer (some ⟨g, 0, none⟩), .bool true, .bool false, q12, q13, q14, .pointer (some ⟨g, 0, none⟩), q1, .func (.func 65) #[] #[.pointer (some ⟨b1, 0, none⟩), .pointer (some ⟨b2, 0, none⟩)], undef, undef, undef, undef, undef, undef, undef, undef, undef, undef, undef, undef, undef, undef, undef, undef, undef, undef, undef, undef, undef, undef, undef, undef, undef, undef, undef, undef, undef, undef, undef, undef, undef, undef, undef, undef, undef, q55, q56, q57, q58, q59, q60, q61, q62, q63, undef, undef, undef, undef, undef, undef, undef, undef], defers := [{ target := .collected D, args := #[] }] } : Act) ∧ Blk w' g 48 (dkC n (.map (some bs)) (.slice none 0 0) (.map (some bn)) (-1) false) ∧ Chg (OneB g) w3 w') ?_ ?_
  · intro M hM
    refine wpIn_region_cl rfl (by kernel_rfl) (InvC16 g x1 b1 b2 D q1 q12 q13 q14 n fuse dark (.map (some bs)) v (.map (some bn)) w3) ?_ ?_ ?_
    · exact ⟨rfl, HX3.out, hg3, (Chg.refl _ _).drew⟩
    ·
      intro D a w i o ho hD hcl hpre hI
      obtain ⟨rfl, hx, hg, hch⟩ := hI
      have hi : i < 12 := by have := (List.getElem?_eq_some_iff.1 ho).1; simpa using this
      rcases (by omega : i = 0 ∨ i = 1 ∨ i = 2 ∨ i = 3 ∨ i = 4 ∨ i = 5 ∨ i = 6 ∨ i = 7 ∨ i = 8 ∨ i = 9 ∨ i = 10 ∨ i = 11) with rfl | rfl | rfl | rfl | rfl | rfl | rfl | rfl | rfl | rfl | rfl | rfl
      · obtain rfl := Option.some.inj ho
        clear ho hpre hi hcl
        have c0 := hx.cell 0
        gi_wp2_with fail
        unfold AtEnd
        exact ⟨rfl, hx, by simpa [more] using hg, hch⟩
      · obtain rfl := Option.some.inj ho
        clear ho hpre hi hcl
        have c0 := hx.cell 0
        gi_wp2_with fail
        unfold AtEnd
        exact ⟨rfl, hx, by simpa [more] using hg, hch⟩
      · obtain rfl := Option.some.inj ho
        clear ho hpre hi hcl
        have c0 := hx.cell 0
        gi_wp2_with fail
        unfold AtEnd
        exact ⟨rfl, hx, by simpa [more] using hg, hch⟩
      · obtain rfl := Option.some.inj ho
        have p0 := hpre ⟨0, .data⟩ (by simp) rfl
        clear ho hpre hi hcl
        gi_wp2_with fail
        unfold AtEnd
        exact ⟨by simp only [more, slot_true, slot_false, Nat.reduceEqDiff, ↓reduceIte, p0], hx, by simpa [more] using hg, hch⟩
      · obtain rfl := Option.some.inj ho
        have p3 := hpre ⟨3, .data⟩ (by simp) rfl
        clear ho hpre hi hcl
        gi_wp2_with fail
        unfold AtEnd
        exact ⟨by simp only [more, slot_true, slot_false, Nat.reduceEqDiff, ↓reduceIte, p3], hx, by simpa [more] using hg, hch⟩
      · obtain rfl := Option.some.inj ho
        have p4 := hpre ⟨4, .data⟩ (by simp) rfl
        clear ho hpre hi hcl
        have c2 := hg.cell 2
        have f2 := hg.frozen 2
        have hsx : Chg (OneB g) w (w.setCell ⟨g, 2, none⟩ (.slice none 0 0)) := (Chg.refl (OneB g) w).setCell (p := ⟨g, 2, none⟩) (.inl rfl) _
        have hgn := hg.set_ 2 (.slice none 0 0)
        have hxn := hx.chg hsx (fun e => hx.ne_ hg (by decide) e)
        have HGN := Lib.hid hgn
        clear hgn
        gi_wp2_with fail
        unfold AtEnd
        exact ⟨by simp only [more, slot_true, slot_false, Nat.reduceEqDiff, ↓reduceIte, p4], hxn, by simpa [more] using HGN.out, hch.trans hsx (fun _ _ h => h)⟩
      · obtain rfl := Option.some.inj ho
        have p1 := hpre ⟨1, .data⟩ (by simp) rfl
        clear ho hpre hi hcl
        gi_wp2_with fail
        unfold AtEnd
        exact ⟨by simp only [more, slot_true, slot_false, Nat.reduceEqDiff, ↓reduceIte, p1], hx, by simpa [more] using hg, hch⟩
      · obtain rfl := Option.some.inj ho
        have p6 := hpre ⟨6, .data⟩ (by simp) rfl
        clear ho hpre hi hcl
        gi_wp2_with fail
        unfold AtEnd
        exact ⟨by simp only [more, slot_true, slot_false, Nat.reduceEqDiff, ↓reduceIte, p6], hx, by simpa [more] using hg, hch⟩
      · obtain rfl := Option.some.inj ho
        have p7 := hpre ⟨7, .data⟩ (by simp) rfl
        have p5 := hpre ⟨5, .chain⟩ (by simp) rfl
        clear ho hpre hi hcl
        have c2 := hg.cell 4
        have f2 := hg.frozen 4
        have hsx : Chg (OneB g) w (w.setCell ⟨g, 4, none⟩ (.int .i64 (-1))) := (Chg.refl (OneB g) w).setCell (p := ⟨g, 4, none⟩) (.inl rfl) _
        have hgn := hg.set_ 4 (.int .i64 (-1))
        have hxn := hx.chg hsx (fun e => hx.ne_ hg (by decide) e)
        have HGN := Lib.hid hgn
        clear hgn
        gi_wp2_with fail
        unfold AtEnd
        exact ⟨by simp only [more, slot_true, slot_false, Nat.reduceEqDiff, ↓reduceIte, p7, p5], hxn, by simpa [more] using HGN.out, hch.trans hsx (fun _ _ h => h)⟩
      · obtain rfl := Option.some.inj ho
        have p2 := hpre ⟨2, .data⟩ (by simp) rfl
        clear ho hpre hi hcl
        gi_wp2_with fail
        unfold AtEnd
        exact ⟨by simp only [more, slot_true, slot_false, Nat.reduceEqDiff, ↓reduceIte, p2], hx, by simpa [more] using hg, hch⟩
      · obtain rfl := Option.some.inj ho
        have p9 := hpre ⟨9, .data⟩ (by simp) rfl
        clear ho hpre hi hcl
        gi_wp2_with fail
        unfold AtEnd
        exact ⟨by simp only [more, slot_true, slot_false, Nat.reduceEqDiff, ↓reduceIte, p9], hx, by simpa [more] using hg, hch⟩
      · obtain rfl := Option.some.inj ho
        have p10 := hpre ⟨10, .data⟩ (by simp) rfl
        have p8 := hpre ⟨8, .chain⟩ (by simp) rfl
        clear ho hpre hi hcl
        have c2 := hg.cell 5
        have f2 := hg.frozen 5
        have hsx : Chg (OneB g) w (w.setCell ⟨g, 5, none⟩ (.bool false)) := (Chg.refl (OneB g) w).setCell (p := ⟨g, 5, none⟩) (.inl rfl) _
        have hgn := hg.set_ 5 (.bool false)
        have hxn := hx.chg hsx (fun e => hx.ne_ hg (by decide) e)
        have HGN := Lib.hid hgn
        clear hgn
        gi_wp2_with fail
        unfold AtEnd
        exact ⟨by simp only [more, slot_true, slot_false, Nat.reduceEqDiff, ↓reduceIte, p10, p8], hxn, by simpa [more] using HGN.out, hch.trans hsx (fun _ _ h => h)⟩
    · intro D a w hall hI
      obtain ⟨rfl, hx, hg, hch⟩ := hI
      have hg' := hg
      simp only [hall 5 (by decide), hall 8 (by decide), hall 11 (by decide), slot_true] at hg'
      exact ⟨rfl, hM.out _ _ ⟨_, _, _, _, _, _, _, _, _, rfl, hg', hch⟩⟩
  clear hg3
  rintro _ w4 ⟨q55, q56, q57, q58, q59, q60, q61, q62, q63, rfl, hg4, hc4⟩
  have hs4 := HS3.out.chg hc4 (fun e => HS3.out.blk_ne (show Blk w3 g 48 _ from HD2.out.blk.chg HC3.out (fun e => HD2.out.sure.blk_ne HD2.out.blk (show g = bs from e).symm)) (show bs = g from e))
  have hx4 := HX3.out.chg hc4 (fun e => HX3.out.ne_ (HD2.out.blk.chg HC3.out (fun e => HD2.out.sure.blk_ne HD2.out.blk (show g = bs from e).symm)) (by decide) (show x1 = g from e))
  have HC4 := Lib.hid hc4
  clear hc4
  refine cutIn (fun a w' => ∃ (bc : Nat) (q64 q65 q66 q67 q68 q69 q70 q71 : Value), a = ({ tmps := #[.pointer (some ⟨g, 0, none⟩), q1, .pointer (some ⟨x1, 0, none⟩), undef, .int .i64 0, undef, undef, undef, undef, .pointer (some ⟨g, 0, none⟩), .bool true, .bool false, q12, q13, q14, .pointer (some ⟨g, 0, none⟩), q1, .func (.func 65) #[] #[.pointer (some ⟨b1, 0, none⟩), .pointer (some ⟨b2, 0, none⟩)], undef, undef, undef, undef, undef, undef, undef, undef, undef, undef, undef, undef, undef, undef, undef, undef, undef, undef, undef, undef, undef, undef, undef, undef, undef, undef, undef, undef, undef, undef, undef, undef, undef, undef, undef, undef, undef, q55, q56, q57, q58, q59, q60, q61, q62, q63, q64, q65, q66, q67, q68, q69, q70, q71], defers := [{ target := .collected D, args := #[] }] } : Act) ∧ Blk w' g 48 (dkC n (.map (some bs)) (.slice none 0 0) (.map (some bc)) (-1) false) ∧ SMap w' bs ff ∧ SMap w' bc ff ∧ w4.heap.size ≤ bc ∧ Chg (OneB g) w4 w') ?_ ?_
  · intro M hM
    refine wpIn_region_cl rfl (by kernel_rfl) (InvC17 g x1 b1 b2 bs D q1 q12 q13 q14 q55 q56 q57 q58 q59 q60 q61 q62 q63 n (.map (some bn)) ff w4) ?_ ?_ ?_
    · exact ⟨0, rfl, hx4, fun _ => hg4, (fun h => by cases h), hs4, (fun h => by cases h), (Chg.refl _ _).drew⟩
    ·
      intro D a w i o ho hD hcl hpre hI
      obtain ⟨bc, rfl, hx, hg0, hg1, hs, hm, hch⟩ := hI
      have hi : i < 9 := by have := (List.getElem?_eq_some_iff.1 ho).1; simpa using this
      rcases (by omega : i = 0 ∨ i = 1 ∨ i = 2 ∨ i = 3 ∨ i = 4 ∨ i = 5 ∨ i = 6 ∨ i = 7 ∨ i = 8) with rfl | rfl | rfl | rfl | rfl | rfl | rfl | rfl | rfl
      · obtain rfl := Option.some.inj ho
        clear ho hpre hi hcl
        have c0 := hx.cell 0
        gi_wp2_with fail
        unfold AtEnd
        exact ⟨bc, rfl, hx, fun h => hg0 (by simpa [more] using h), fun h => hg1 (by simpa [more] using h), hs, fun h => hm (by simpa [more] using h), hch⟩
      · obtain rfl := Option.some.inj ho
        clear ho hpre hi hcl
        have c0 := hx.cell 0
        gi_wp2_with fail
        unfold AtEnd
        exact ⟨bc, rfl, hx, fun h => hg0 (by simpa [more] using h), fun h => hg1 (by simpa [more] using h), hs, fun h => hm (by simpa [more] using h), hch⟩
      · obtain rfl := Option.some.inj ho
        have p1 := hpre ⟨1, .data⟩ (by simp) rfl
        clear ho hpre hi hcl
        gi_wp2_with fail
        unfold AtEnd
        exact ⟨bc, by simp only [more, slot_true, slot_false, Nat.reduceEqDiff, ↓reduceIte, p1], hx, fun h => hg0 (by simpa [more] using h), fun h => hg1 (by simpa [more] using h), hs, fun h => hm (by simpa [more] using h), hch⟩
      · obtain rfl := Option.some.inj ho
        have p2 := hpre ⟨2, .data⟩ (by simp) rfl
        clear ho hpre hi hcl
        gi_wp2_with fail
        unfold AtEnd
        exact ⟨bc, by simp only [more, slot_true, slot_false, Nat.reduceEqDiff, ↓reduceIte, p2], hx, fun h => hg0 (by simpa [more] using h), fun h => hg1 (by simpa [more] using h), hs, fun h => hm (by simpa [more] using h), hch⟩
      · obtain rfl := Option.some.inj ho
        have p3 := hpre ⟨3, .data⟩ (by simp) rfl
        have d8 : D 8 = false := (hcl.not_ 8 _ rfl 7 _ rfl rfl hD)
        clear ho hpre hi hcl
        have c1 := (hg0 d8).cell 1
        simp only [dkC] at c1
        gi_wp2_with fail
        unfold AtEnd
        exact ⟨bc, by simp only [more, slot_true, slot_false, Nat.reduceEqDiff, ↓reduceIte, p3, d8], hx, fun h => hg0 (by simpa [more] using h), fun h => hg1 (by simpa [more] using h), hs, fun h => hm (by simpa [more] using h), hch⟩
      · obtain rfl := Option.some.inj ho
        have p4 := hpre ⟨4, .data⟩ (by simp) rfl
        have d8 : D 8 = false := (hcl.not_ 8 _ rfl 1 _ rfl rfl hD)
        clear ho hpre hi hcl
        have hb := hg0 d8
        simp only [p4, slot_true]
        gi_wp2_with fail
        refine ⟨trivial, (callsIn_wide.2 (copied_any bs _ _ hs)).mono ?_⟩
        rintro e w5 ⟨bc2, rfl, hbl, hm5, hc5⟩
        gi_wp2_with fail
        unfold AtEnd
        exact ⟨bc2, by simp only [more, slot_true, slot_false, Nat.reduceEqDiff, ↓reduceIte, p4, d8], hx.chg hc5 (fun h => h), fun _ => hb.chg hc5 (fun h => h), fun h => by simp [more, d8] at h, hs.chg hc5 (fun h => h), fun _ => ⟨hm5, Nat.le_trans hch.size hbl⟩, hch.trans hc5 (fun _ _ h => h.elim)⟩
      · obtain rfl := Option.some.inj ho
        have p0 := hpre ⟨0, .data⟩ (by simp) rfl
        clear ho hpre hi hcl
        gi_wp2_with fail
        unfold AtEnd
        exact ⟨bc, by simp only [more, slot_true, slot_false, Nat.reduceEqDiff, ↓reduceIte, p0], hx, fun h => hg0 (by simpa [more] using h), fun h => hg1 (by simpa [more] using h), hs, fun h => hm (by simpa [more] using h), hch⟩
      · obtain rfl := Option.some.inj ho
        have p6 := hpre ⟨6, .data⟩ (by simp) rfl
        clear ho hpre hi hcl
        gi_wp2_with fail
        unfold AtEnd
        exact ⟨bc, by simp only [more, slot_true, slot_false, Nat.reduceEqDiff, ↓reduceIte, p6], hx, fun h => hg0 (by simpa [more] using h), fun h => hg1 (by simpa [more] using h), hs, fun h => hm (by simpa [more] using h), hch⟩
      · obtain rfl := Option.some.inj ho
        have p7 := hpre ⟨7, .data⟩ (by simp) rfl
        have p5 := hpre ⟨5, .data⟩ (by simp) rfl
        clear ho hpre hi hcl
        have hb := hg0 hD
        have c2 := hb.cell 3
        have f2 := hb.frozen 3
        simp only [dkC] at c2
        have hsx : Chg (OneB g) w (w.setCell ⟨g, 3, none⟩ (.map (some bc))) := (Chg.refl (OneB g) w).setCell (p := ⟨g, 3, none⟩) (.inl rfl) _
        have hgn := hb.set_ 3 (.map (some bc))
        have hxn := hx.chg hsx (fun e => hx.ne_ hb (by decide) e)
        have hsn := hs.chg hsx (fun e => hs.blk_ne hb e)
        have hmm := hm p5
        have hmn := hmm.1.chg hsx (fun e => hmm.1.blk_ne hb e)
        have HGN := Lib.hid hgn
        clear hgn hb
        simp only [p5, p7, slot_true]
        gi_wp2_with fail
        unfold AtEnd
        exact ⟨bc, by simp only [more, slot_true, slot_false, Nat.reduceEqDiff, ↓reduceIte, p7, p5], hxn, fun h => by simp [more] at h, fun _ => HGN.out, hsn, fun _ => ⟨hmn, hmm.2⟩, hch.trans hsx (fun _ _ h => h)⟩
    · intro D a w hall hI
      obtain ⟨bc, rfl, hx, hg0, hg1, hs, hm, hch⟩ := hI
      exact ⟨rfl, hM.out _ _ ⟨bc, _, _, _, _, _, _, _, _, rfl, hg1 (hall 8 (by decide)), hs, (hm (hall 5 (by decide))).1, (hm (hall 5 (by decide))).2, hch⟩⟩
  clear hg4 hs4 hx4
  rintro _ w5 ⟨bc, q64, q65, q66, q67, q68, q69, q70, q71, rfl, hg5, hs5, hm5, hbc, hc5⟩
  have hc35 := HC4.out.trans hc5 (fun _ _ h => h)
  have hK5 : w5.heap[D]? = some (.deferred (some [])) := (hc35.block D hDl (fun e => hDg e)).trans HK3.out
  have HG5 := Lib.hid hg5
  have HS5 := Lib.hid hs5
  have HM5 := Lib.hid hm5
  have HC35 := Lib.hid hc35
  have HK5 := Lib.hid hK5
  have HBC := Lib.hid hbc
  clear hg5 hs5 hm5 hc5 hc35 hK5 hbc
  gi_wp2
  refine ⟨by simp, .inl ⟨_, _, rfl, run_takeDeferred HK5.out, ?_⟩⟩
  refine ⟨_, results_tmp rfl _ _ _, ?_⟩
  have hc7 : Chg (fun i => i = D) w5 (w5.putObj D (.deferred none)) := (Chg.refl _ _).grown (grownBy_putObj' _ D (.deferred none)) (fun r e => by cases e; exact .inl rfl)
  have hsz2 := HC2.out.size
  have hsz3 := HC3.out.size
  have hsz35 := HC35.out.size
  have hcc : Chg F w (w5.putObj D (.deferred none)) :=
    ((((Chg.refl F w).trans HC2.out (fun _ _ h => h.elim)).trans HC3.out (fun i _ h => (show i = bs from h) ▸ HF.out.2.1)).trans HC35.out (fun i _ h => (show i = g from h) ▸ HF.out.1)).trans hc7 (fun i hi h => by have h1 : i = D := h; omega)
  have hcr : crashF sure ks (xs.map (fun x => x.1.1)) = ff := by rw [HFF.out]; exact (tear_crashF sure ks xs HXS.out).symm
  have hC : Dk.crash ⟨n, sure, xs.map (fun x => x.1.1), now, fuse, dark⟩ ks = ⟨n, ff, [], ff, -1, false⟩ := by unfold Dk.crash; rw [hcr]
  have hgl := HG5.out.lt
  have hbcD : bc ≠ D := by have := HC4.out.size; have := HBC.out; omega
  have hbcs : bs ≠ bc := by have := HC4.out.size; have := HBC.out; have := HS3.out.lt; omega
  refine ⟨rfl, ?_, hcc⟩
  rw [hC]
  refine ⟨bs, bc, .slice none 0 0, { blk := HG5.out.chg hc7 (fun e => hDg (show g = D from e).symm), sure := HS5.out.chg hc7 (fun e => hDb (show bs = D from e).symm), now := HM5.out.chg hc7 (fun e => hbcD e), row := World.ownsRow_nil _ _ _ _, ne := hbcs, n0 := HD2.out.n0, n1 := HD2.out.n1, rng := (fun p hp => by cases hp), fuse0 := by show (-1 : Int) ≤ -1; omega, fuse1 := by show (-1 : Int) ≤ 9223372036854775807; omega }, .inl HF.out.1, .inl HF.out.2.1, .inr ⟨?_, ?_⟩, fun i e => by cases e⟩
  · have := HC4.out.size; have := HBC.out; omega
  · have h1 := HM5.out.lt; have h2 := hc7.size; omega
end Go.Proofs.Ytlhfhhbafhnbkaa
