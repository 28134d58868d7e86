/-
  THE WALK of Sync (under way).
-/
import Derived.Test.YtlhfhhbafhnbkaaSec11
import Derived.Test.YtlhfhhbafhnbkaaRegionInvIn
namespace Go.Proofs.Ytlhfhhbafhnbkaa
open Go.RowKit Go.Maps Go.Shelf
set_option linter.unusedSimpArgs false
attribute [local go_sem] Oper.semAt_some
def InvS7 (g x1 b b1 b2 bs : Nat) (n fuse zi : Int) (zl : List UInt8) (v mn v1 v2 : Value) (dark : Bool) (f : Int → List UInt8) (w0 : World) (D : Nat → Bool) (a : Act) (w : World) : Prop :=
  ∃ (u8 : Value), a = { tmps := #[.pointer (some ⟨g, 0, none⟩), .pointer (some ⟨x1, 0, none⟩), .int .i64 0, .pointer (some ⟨b, 0, none⟩), .bool false, .pointer (some ⟨g, 0, none⟩), .bool true, .bool false, .bool false, .pointer (some ⟨g, 0, none⟩), .pointer (some ⟨g, 0, none⟩), .pointer (some ⟨g, 5, none⟩), .bool false, .bool false, .pointer (some ⟨g, 0, none⟩), .bool true, .bool false, .bool false, .pointer (some ⟨g, 0, none⟩), .func (.func 65) #[] #[.pointer (some ⟨b1, 0, none⟩), .pointer (some ⟨b2, 0, none⟩)], v1, v2, (slot (D 0) (.pointer (some ⟨g, 0, none⟩)) (undef)), (slot (D 1) (.pointer (some ⟨g, 0, none⟩)) (undef)), (slot (D 2) (.pointer (some ⟨g, 1, none⟩)) (undef)), (slot (D 3) (.map (some bs)) (undef)), (slot (D 4) (.pointer (some ⟨b, 0, none⟩)) (undef)), (slot (D 5) (.int .i64 zi) (undef)), (slot (D 6) (.pointer (some ⟨b, 1, none⟩)) (undef)), (slot (D 7) (.agg (zl.map bv).toArray) (undef)), (slot (D 8) (u8) (undef)), undef, undef, undef], defers := [] } ∧
    (Blk w x1 27 #[.pointer (some ⟨g, 0, none⟩)]) ∧
    (Blk w g 48 (dkC n (.map (some bs)) v mn fuse dark)) ∧
    (Blk w b 86 (putC zi zl)) ∧
    (D 8 = false → SMap w bs f) ∧
    (D 8 = true → SMap w bs (upd f zi zl)) ∧
    (Chg (OneB bs) w0 w)
set_option maxRecDepth 100000 in
set_option maxHeartbeats 4000000 in
theorem sync_any (F : Nat → Prop) (g : Nat) (K : Dk) (w : World) (hD : Disk w F g K) (HK : K.loose.length ≤ 1000) :
    Calls Try.prog 50 #[.pointer (some ⟨g, 0, none⟩)] w fun e w' => e = .returned (.int .i64 (syncE K)) ∧ Disk w' (FN F w w') g K.sync ∧ Chg F w w' := by
  have HD := Lib.hid hD
  obtain ⟨bs, bn, v, hd, f1, f2, f3, f4⟩ := hD
  have HF := Lib.hid (show F g ∧ F bs ∧ F bn ∧ ∀ i, v.ownBlock = some i → F i from ⟨f1, f2, f3, f4⟩)
  have HKK := Lib.hid HK
  obtain ⟨n, sure, loose, now, fuse, dark⟩ := K
  obtain ⟨w1, hw1⟩ : ∃ w1, w1 = w.alloc (.cells #[.pointer (some ⟨g, 0, none⟩)] 27) := ⟨_, rfl⟩
  obtain ⟨x1, hx1⟩ : ∃ x1, x1 = w.heap.size := ⟨_, rfl⟩
  have hc1 : Chg NoB w w1 := by rw [hw1]; exact (Chg.refl _ _).alloc _
  have hbx : Blk w1 x1 27 #[.pointer (some ⟨g, 0, none⟩)] := by rw [hw1, hx1]; exact Blk.new w _ _
  have hd1 := hd.chg hc1 (fun h => h) (fun h => h) (fun h => h) (fun _ _ h => h)
  have HB := Lib.hid hd1.blk
  have hn0 : 0 < n := hd.n0
  have HMADE := Lib.hid (callsIn_wide.2 (made_ptr (hd1.blk) true (by simpa using hn0)) : CallsIn Fence.wide 3 _ _ _ _ _)
  have c5 := hd1.blk.cell 5
  have cx := hbx.cell 0
  simp only [dkC] at c5
  have HD1 := Lib.hid hd1
  have HBX := Lib.hid hbx
  have HC1 := Lib.hid hc1
  clear hd f1 f2 f3 f4 HK hd1 hbx hc1 hn0
  have hd3 : 1 ≤ 4 - 1 := by decide
  refine (callsIn_wide (n := 4)).1 ?_
  refine callsIn_of_wp_marks Try.func50 rfl trivial ?_ rfl
  simp only [Try.ntmps50, List.size_toArray, List.length_cons, List.length_nil, Nat.reduceAdd, Nat.reduceSub, Array.replicate_succ, Array.replicate_zero, List.push_toArray, List.append_toArray, List.nil_append, List.cons_append]
  gi_wp2_with fail
  rw [← hw1, ← hx1]
  clear hw1 hx1
  refine ⟨trivial, HMADE.out.mono ?_⟩
  rintro e w2 ⟨rfl, rfl⟩
  clear HMADE
  cases dark
  rotate_left
  · have HE := Lib.hid (show syncE ⟨n, sure, loose, now, fuse, true⟩ = 6 ∧ Dk.sync ⟨n, sure, loose, now, fuse, true⟩ = ⟨n, sure, loose, now, fuse, true⟩ from ⟨if_pos (.inl rfl), if_pos rfl⟩)
    gi_wp2
    refine ⟨trivial, ?_⟩
    gi_wp2
    refine ⟨_, results_tmp rfl _ _ _, ?_⟩
    exact ⟨by rw [HE.out.1]; rfl, by rw [HE.out.2]; exact (HD.out.no HC1.out).mono (fun _ _ h => .inl h), HC1.out.mono (fun _ _ h => h.elim)⟩
  gi_wp2_with fail
  refine ⟨trivial, (callsIn_wide.2 (spend_any HB.out ⟨HD1.out.fuse0, HD1.out.fuse1⟩)).mono ?_⟩
  rintro e w2 ⟨rfl, hb2, hc2⟩
  have HD2 := Lib.hid (spent_disk HD1.out hb2 hc2)
  have hcF : Chg F w w2 := ((Chg.refl F w).trans HC1.out (fun _ _ h => h.elim)).trans hc2 (fun j _ h => by have h2 : j = g := h; rw [h2]; exact HF.out.1)
  have HCF := Lib.hid hcF
  have HBX2 := Lib.hid (HBX.out.chg hc2 (fun e => HBX.out.ne_ HB.out (by decide) e))
  have cx2 := HBX2.out.cell 0
  clear hcF cx c5
  by_cases hf : fuse = 0
  · have hq : (fuse == 0) = true := by simpa using hf
    have HE := Lib.hid (show syncE ⟨n, sure, loose, now, fuse, false⟩ = 6 ∧ Dk.sync ⟨n, sure, loose, now, fuse, false⟩ = Dk.spent ⟨n, sure, loose, now, fuse, false⟩ from ⟨if_pos (.inr hf), by unfold Dk.sync; rw [if_neg (by simp), if_pos hf]⟩)
    rw [hq]
    gi_wp2
    refine ⟨_, results_tmp rfl _ _ _, ?_⟩
    refine ⟨by rw [HE.out.1]; rfl, ?_, HCF.out⟩
    rw [HE.out.2]
    exact ⟨bs, bn, v, HD2.out, .inl HF.out.1, .inl HF.out.2.1, .inl HF.out.2.2.1, fun i e => .inl (HF.out.2.2.2 i e)⟩
  · have hq : (fuse == 0) = false := by simpa using hf
    rw [hq]
    gi_wp2_with fail
    refine ⟨trivial, (callsIn_wide.2 (puts_any g none 0 0 w2)).mono ?_⟩
    rintro e w3 ⟨b1, b2, rfl, hb1, hb2k, hl1, hl2, hc3⟩
    obtain ⟨A, c, hvv⟩ := own_slice HD2.out.row
    subst hvv
    have hd3 := HD2.out.chg hc3 (fun h => h) (fun h => h) (fun h => h) (fun _ _ h => h)
    obtain ⟨xs, hx1, hx2⟩ := withC loose HD2.out.rng (fun _ => 1) (fun _ => by omega)
    subst hx1
    obtain ⟨fu, dk, hKS⟩ : ∃ fu dk, Dk.spent ⟨n, sure, xs.map (fun x => x.1.1), now, fuse, false⟩ = ⟨n, sure, xs.map (fun x => x.1.1), now, fu, dk⟩ := ⟨_, _, rfl⟩
    rw [hKS] at hd3
    have HKS := Lib.hid hKS
    clear hKS
    have hxl : xs.length = (xs.map (fun x => x.1.1)).length := by simp
    have hbx3 := hb1.cell 0
    have hst := puts1_any Fence.wide 3 trivial rfl (by decide) b1 b2 g bs w3.heap.size _ _ _ _ _ A _ c xs hxl HKK.out w3 (Nat.le_refl _) none 0 0 [] rfl IB.none_ (fun h => by simp at h) (fun _ => ⟨rfl, rfl⟩) (fun j h => by rw [hx2 j h]; rfl) hb1 hb2k hd3.blk hd3.row (fun e => hd3.sure.blk_ne hb2k e.symm) (map_own_ne hd3.row hd3.sure)
    have HST := Lib.hid hst
    have HD3 := Lib.hid hd3
    have HC3 := Lib.hid hc3
    have HBX3 := Lib.hid (HBX2.out.chg HC3.out (fun h => h))
    clear hst hd3 hxl hx2 hb1 hb2k
    gi_wp2
    refine wpIn_rangeFunc_ownH rfl (by decide) (gf := 65) (lb := #[.pointer (some ⟨b1, 0, none⟩), .pointer (some ⟨b2, 0, none⟩)]) rfl trivial (enters_of Try.func65 (by kernel_rfl) rfl)
      HST.out (fun h1 h2 => Chg.trans h1 h2 (fun _ _ h => h)) (fun W l o o' hl hW _ _ => ?kb) (Below.refl _ _) (fun _ => rfl)
      (fun pre W => Chg (fun i => i = bs ∨ w3.heap.size ≤ i) w3 W ∧ SMap W bs (settle sure (pre.map (·.1.1)))) (fun _ _ _ => False)
      ?own (fun _ _ _ _ _ hs _ _ => hs) ⟨Chg.refl _ _, HD3.out.sure⟩
      (fun x a' W => ∃ b v1 v2, w3.heap.size ≤ b ∧ a' = { tmps := #[.pointer (some ⟨g, 0, none⟩), .pointer (some ⟨x1, 0, none⟩), .int .i64 0, .pointer (some ⟨b, 0, none⟩), .bool false, .pointer (some ⟨g, 0, none⟩), .bool true, .bool false, .bool false, .pointer (some ⟨g, 0, none⟩), .pointer (some ⟨g, 0, none⟩), .pointer (some ⟨g, 5, none⟩), .bool false, .bool false, .pointer (some ⟨g, 0, none⟩), .bool true, .bool false, .bool false, .pointer (some ⟨g, 0, none⟩), .func (.func 65) #[] #[.pointer (some ⟨b1, 0, none⟩), .pointer (some ⟨b2, 0, none⟩)], v1, v2, undef, undef, undef, undef, undef, undef, undef, undef, undef, undef, undef, undef], defers := [] } ∧ Blk W b 86 (putC x.1.1.1 x.1.1.2)) ?ownA ?assign ?body ?done ?stop
    case kb => exact Chg.grown (Chg.refl _ W) (grownBy_putObj' W l o') (fun r e => by cases e; exact .inl (.inr hl))
    case own =>
      intro pre A B row hs hg hr
      refine ⟨hs.1.grown hg (fun r e => .inr (hr r e).1), hs.2.chg ((Chg.refl (fun i => row = some i) A).grown hg (fun r e => .inl e)) (fun e => ?_)⟩
      have h1 := (hr bs e).1; have h2 := HD3.out.sure.lt; omega
    case ownA =>
      rintro x a' _ A B row ⟨b, v1, v2, hb, ha, hk⟩ hg hr
      refine ⟨b, v1, v2, hb, ha, hk.chg ((Chg.refl (fun i => row = some i) A).grown hg (fun r e => .inl e)) (fun e => ?_)⟩
      obtain ⟨_, o, ho, hc⟩ := hr b e
      rw [show A.heap[b]? = _ from hk] at ho; cases ho; cases hc
    case assign =>
      intro l pre x W K hI hK
      obtain ⟨⟨⟨zi, zl⟩, hzp⟩, ⟨zc, hzc⟩⟩ := x
      have hzl : zl.length = 512 := hzp.2.2
      have HZL := Lib.hid hzl
      have hWs : w3.heap.size ≤ W.heap.size := hI.1.size
      have HI := Lib.hid hI
      have HK := Lib.hid hK
      clear hzl hI hK
      simp only [List.zip_toArray, List.zip_cons_cons, List.zip_nil_right, List.foldl_toArray, List.foldl_cons, List.foldl_nil, List.setIfInBounds_toArray, List.set_cons_succ, List.set_cons_zero]
      gi_wp2_with (first
          | (refine wpListIn_alloc_put _ rfl rfl ?_)
          | (refine wpListIn_store_blk _ rfl 86 _ _ rfl W.heap.size (putC zi zl) rfl rfl 86 _ (Blk.new W _ _) (by rw [putC_size zi HZL.out, putC_size 0 zeros_len]) (put_infoS zi HZL.out) (putC_one _ _) ?_)
          | fail)
      have hc4 : Chg NoB W ((W.alloc (.cells (putC 0 zeros) 86)).setRow W.heap.size (putC zi zl)) := ((Chg.refl NoB W).alloc _).setRow (.inr (Nat.le_refl _)) _
      refine HK.out _ _ (hc4.keepsFrom (fun i h => h.elim)) (hc4.mono (fun _ _ h => h.elim)) ⟨HI.out.1.trans hc4 (fun _ _ h => h.elim), HI.out.2.chg hc4 (fun h => h)⟩ ⟨W.heap.size, _, _, hWs, rfl, (Blk.new W _ _).row _⟩
    case body =>
      rintro l pre x a' W hlW _ ⟨hch, hS⟩ ⟨b, v1, v2, hbT, rfl, hb⟩ _
      obtain ⟨⟨⟨zi, zl⟩, hzp⟩, ⟨zc, hzc⟩⟩ := x
      have hmx : Try.prog.follows .mixedOrders = true := by kernel_rfl
      have hlx := HBX3.out.lt
      have hlg := HD3.out.blk.lt
      have hx4 := HBX3.out.chg hch (fun h => h.elim (fun e => HD3.out.sure.blk_ne HBX3.out e.symm) (fun h => by omega))
      have hg4 := HD3.out.blk.chg hch (fun h => h.elim (fun e => HD3.out.sure.blk_ne HD3.out.blk e.symm) (fun h => by omega))
      have HZ := Lib.hid (show 0 ≤ zi ∧ zi < 8192 ∧ zl.length = 512 from hzp)
      have HCH := Lib.hid hch
      have hd : 1 ≤ 4 - 1 - 1 := by decide
      obtain ⟨vv, hvv⟩ : ∃ vv, vv = Value.slice A (xs.map (fun x => x.1.1)).length c := ⟨_, rfl⟩
      obtain ⟨ff, hff⟩ : ∃ ff, ff = settle sure (pre.map (fun x => x.1.1)) := ⟨_, rfl⟩
      rw [← hff] at hS
      replace hg4 : Blk W g 48 (dkC n (.map (some bs)) vv (.map (some bn)) fu dk) := by rw [hvv]; exact hg4
      have HFF := Lib.hid hff
      clear hch hff hvv
      refine wpIn_block ?_
      refine wpIn_region_cl rfl (by kernel_rfl) (InvS7 g x1 b b1 b2 bs n fu zi zl vv (.map (some bn)) v1 v2 dk ff W) ?_ ?_ ?_
      · exact ⟨undef, rfl, hx4, hg4, hb, fun _ => hS, (fun h => by cases h), (Chg.refl _ _).drew⟩
      ·
        intro D a w i o ho hD hcl hpre hI
        obtain ⟨u8, rfl, hx, hg, hb, hs0, hs1, hch⟩ := hI
        have hi : i < 9 := by have := (List.getElem?_eq_some_iff.1 ho).1; simpa using this
        rcases (by omega : i = 0 ∨ i = 1 ∨ i = 2 ∨ i = 3 ∨ i = 4 ∨ i = 5 ∨ i = 6 ∨ i = 7 ∨ i = 8) with rfl | rfl | rfl | rfl | rfl | rfl | rfl | rfl | rfl
        · obtain rfl := Option.some.inj ho
          clear ho hpre hi hcl
          have c0 := hx.cell 0
          gi_wp2_with fail
          unfold AtEnd
          exact ⟨u8, rfl, hx, hg, hb, fun h => hs0 (by simpa [more] using h), fun h => hs1 (by simpa [more] using h), hch⟩
        · obtain rfl := Option.some.inj ho
          have p0 := hpre ⟨0, .data⟩ (by simp) rfl
          clear ho hpre hi hcl
          gi_wp2_with fail
          unfold AtEnd
          exact ⟨u8, by simp only [more, slot_true, slot_false, Nat.reduceEqDiff, ↓reduceIte, p0], hx, hg, hb, fun h => hs0 (by simpa [more] using h), fun h => hs1 (by simpa [more] using h), hch⟩
        · obtain rfl := Option.some.inj ho
          have p1 := hpre ⟨1, .data⟩ (by simp) rfl
          clear ho hpre hi hcl
          gi_wp2_with fail
          unfold AtEnd
          exact ⟨u8, by simp only [more, slot_true, slot_false, Nat.reduceEqDiff, ↓reduceIte, p1], hx, hg, hb, fun h => hs0 (by simpa [more] using h), fun h => hs1 (by simpa [more] using h), hch⟩
        · obtain rfl := Option.some.inj ho
          have p2 := hpre ⟨2, .data⟩ (by simp) rfl
          clear ho hpre hi hcl
          have c1 := hg.cell 1
          simp only [dkC] at c1
          gi_wp2_with fail
          unfold AtEnd
          exact ⟨u8, by simp only [more, slot_true, slot_false, Nat.reduceEqDiff, ↓reduceIte, p2], hx, hg, hb, fun h => hs0 (by simpa [more] using h), fun h => hs1 (by simpa [more] using h), hch⟩
        · obtain rfl := Option.some.inj ho
          clear ho hpre hi hcl
          gi_wp2_with fail
          unfold AtEnd
          exact ⟨u8, rfl, hx, hg, hb, fun h => hs0 (by simpa [more] using h), fun h => hs1 (by simpa [more] using h), hch⟩
        · obtain rfl := Option.some.inj ho
          have p4 := hpre ⟨4, .data⟩ (by simp) rfl
          clear ho hpre hi hcl
          have c0 : w.cell? ⟨b, 0, none⟩ = some (.int .i64 zi) := hb.cell 0
          gi_wp2_with fail
          unfold AtEnd
          exact ⟨u8, by simp only [more, slot_true, slot_false, Nat.reduceEqDiff, ↓reduceIte, p4], hx, hg, hb, fun h => hs0 (by simpa [more] using h), fun h => hs1 (by simpa [more] using h), hch⟩
        · obtain rfl := Option.some.inj ho
          clear ho hpre hi hcl
          gi_wp2_with fail
          unfold AtEnd
          exact ⟨u8, rfl, hx, hg, hb, fun h => hs0 (by simpa [more] using h), fun h => hs1 (by simpa [more] using h), hch⟩
        · obtain rfl := Option.some.inj ho
          have p6 := hpre ⟨6, .data⟩ (by simp) rfl
          clear ho hpre hi hcl
          simp only [p6, slot_true]
          gi_wp2_with (refine wpListIn_load_mid _ rfl 84 _ rfl b 1 rfl (zl.map bv) _ (fun q v hv => by rw [hb.cell (1 + q), ← hv, Nat.add_comm]; simp [putC, putL]) Try.underlying84 rfl (by rw [List.length_map, HZ.out.2.2]; exact blk_size) ?_)
          unfold AtEnd
          exact ⟨u8, by simp only [more, slot_true, slot_false, Nat.reduceEqDiff, ↓reduceIte, p6], hx, hg, hb, fun h => hs0 (by simpa [more] using h), fun h => hs1 (by simpa [more] using h), hch⟩
        · obtain rfl := Option.some.inj ho
          have p3 := hpre ⟨3, .data⟩ (by simp) rfl
          have p5 := hpre ⟨5, .data⟩ (by simp) rfl
          have p7 := hpre ⟨7, .data⟩ (by simp) rfl
          clear ho hpre hi hcl
          have hs := hs0 hD
          simp only [p3, p5, p7, slot_true]
          gi_wp2_with fail
          refine ⟨trivial, (CallsIn.inRound l (callsIn_wide.2 (set_any bs _ zi zl _ hs HZ.out.1 HZ.out.2.1 HZ.out.2.2))).mono ?_⟩
          rintro e w5 ⟨⟨vv, rfl⟩, hS5, hc5⟩
          gi_wp2_with fail
          unfold AtEnd
          exact ⟨vv, by simp only [more, slot_true, slot_false, Nat.reduceEqDiff, ↓reduceIte, p3, p5, p7], hx.chg hc5 (fun e => hs.blk_ne hx e.symm), hg.chg hc5 (fun e => hs.blk_ne hg e.symm), hb.chg hc5 (fun e => hs.blk_ne hb e.symm), fun h => by simp [more] at h, fun _ => hS5, hch.trans hc5 (fun _ _ h => h)⟩
      · intro D a w hall hI
        obtain ⟨u8, rfl, hx, hg, hb, hs0, hs1, hch⟩ := hI
        have hcc : Chg (OneB bs) W w := hch
        exact ⟨hcc.keepsFrom (fun i hi => by have h1 : i = bs := hi; have h2 := HD3.out.sure.lt; omega), hcc.mono (fun i _ h => .inl h), HCH.out.trans hcc (fun i _ h => .inl h), by rw [List.map_append, List.map_cons, List.map_nil, settle_snoc, ← HFF.out]; exact hs1 (hall 8 (by decide))⟩
    case done =>
      rintro D ys W hD rfl ⟨hch, hS⟩ hK
      have hlx := HBX3.out.lt
      have hlg := HD3.out.blk.lt
      have cx4 := (HBX3.out.chg hch (fun h => h.elim (fun e => HD3.out.sure.blk_ne HBX3.out e.symm) (fun h => by omega))).cell 0
      have HG4 := Lib.hid (HD3.out.blk.chg hch (fun h => h.elim (fun e => HD3.out.sure.blk_ne HD3.out.blk e.symm) (fun h => by omega)))
      have cg4 := HG4.out.cell 2
      have fg4 := HG4.out.frozen 2
      simp only [dkC] at cg4
      have HCH := Lib.hid hch
      have HS4 := Lib.hid hS
      clear hS hch
      gi_wp2
      have hne : D ≠ g := fun e => by
        have h1 : W.heap[g]? = _ := HG4.out
        rw [e, h1] at hK; cases hK
      have hK2 : (W.setCell ⟨g, 2, none⟩ (.slice none 0 0)).heap[D]? = some (.deferred (some [])) := (Below.heap_setCell _ _ _ _ hne).trans hK
      refine ⟨by simp, .inl ⟨_, _, rfl, run_takeDeferred hK2, ?_⟩⟩
      refine ⟨_, results_tmp rfl _ _ _, ?_⟩
      have hc6 : Chg (OneB g) W (W.setCell ⟨g, 2, none⟩ (.slice none 0 0)) := (Chg.refl (OneB g) W).setCell (p := ⟨g, 2, none⟩) (.inl rfl) _
      have hc7 : Chg (fun i => i = D) (W.setCell ⟨g, 2, none⟩ (.slice none 0 0)) ((W.setCell ⟨g, 2, none⟩ (.slice none 0 0)).putObj D (.deferred none)) := (Chg.refl _ _).grown (grownBy_putObj' _ D (.deferred none)) (fun r e => by cases e; exact .inl rfl)
      have hb7 := (HG4.out.set_ 2 (.slice none 0 0)).chg hc7 (fun e => hne e.symm)
      have hsl := HD3.out.sure.lt
      have hnl := HD3.out.now.lt
      have hs7 := (HS4.out.chg hc6 (fun e => HS4.out.blk_ne HG4.out e)).chg hc7 (fun e => by have h1 : bs = D := e; omega)
      have hnW : SMap W bn _ := HD3.out.now.chg HCH.out (fun h => h.elim (fun e => HD3.out.ne e.symm) (fun h => by omega))
      have hn7 := (hnW.chg hc6 (fun e => hnW.blk_ne HG4.out e)).chg hc7 (fun e => by have h1 : bn = D := e; omega)
      have hE : syncE ⟨n, sure, ys.map (fun x => x.1.1), now, fuse, false⟩ = 0 := if_neg (by simp [hf])
      have hS : Dk.sync ⟨n, sure, ys.map (fun x => x.1.1), now, fuse, false⟩ = ⟨n, settle sure (ys.map (fun x => x.1.1)), [], now, fu, dk⟩ := by
        have h1 : Dk.sync ⟨n, sure, ys.map (fun x => x.1.1), now, fuse, false⟩ = { Dk.spent ⟨n, sure, ys.map (fun x => x.1.1), now, fuse, false⟩ with sure := settle sure (ys.map (fun x => x.1.1)), loose := [] } := by
          unfold Dk.sync; rw [if_neg (by simp), if_neg hf]
        rw [h1, HKS.out]
      have hcc : Chg F w2 ((W.setCell ⟨g, 2, none⟩ (.slice none 0 0)).putObj D (.deferred none)) :=
        ((((Chg.refl F w2).trans HC3.out (fun _ _ h => h.elim)).trans HCH.out (fun i hi h => h.elim (fun e => e ▸ HF.out.2.1) (fun h => by have := HC3.out.size; omega))).trans hc6 (fun i _ h => by have h1 : i = g := h; rw [h1]; exact HF.out.1)).trans hc7 (fun i hi h => by have h1 : i = D := h; have := HC3.out.size; omega)
      refine ⟨by rw [hE]; rfl, ?_, HCF.out.trans hcc (fun _ _ h => h)⟩
      rw [hS]
      refine ⟨bs, bn, .slice none 0 0, { blk := hb7, sure := hs7, now := hn7, row := World.ownsRow_nil _ _ _ _, ne := HD3.out.ne, n0 := HD3.out.n0, n1 := HD3.out.n1, rng := (fun p hp => by cases hp), fuse0 := HD3.out.fuse0, fuse1 := HD3.out.fuse1 }, .inl HF.out.1, .inl HF.out.2.1, .inl HF.out.2.2.1, fun i e => by cases e⟩
    case stop =>
      rintro D c pre W _ _ h _
      exact h.elim
end Go.Proofs.Ytlhfhhbafhnbkaa
