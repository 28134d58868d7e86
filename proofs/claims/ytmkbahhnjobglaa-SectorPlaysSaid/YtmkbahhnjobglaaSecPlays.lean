/-
  THE WALK of SectorPlays.
-/
import Derived.Test.YtmkbahhnjobglaaSecStepA
import Derived.Test.YtmkbahhnjobglaaSecAlike
import Derived.Test.YtmkbahhnjobglaaSecActS
namespace Go.Proofs.Ytmkbahhnjobglaa
open Go.RowKit
set_option linter.unusedSimpArgs false
set_option linter.unusedVariables false
def InvP10 (g g2 j k c q b7 c2 c3 c5 c6 n6 kn kc : Nat) (A2 A3 A5 A6 ka : Option Addr) (ad : Addr) (fu xk xi xl : Int) (da : Bool) (xc : UInt8) (u4 u10 u11 u12 u69 u70 u71 u72 u73 u74 u75 u76 u77 u78 u79 u80 u81 u82 u83 u84 u85 u86 u87 u88 u89 u90 u91 : Value) (W w0 : World) (F : Nat → Prop) (D : Nat → Bool) (a : Act) (w : World) : Prop :=
  ∃ (g7 : Nat) (A7 : Option Addr) (c7 : Nat) (A8 : Option Addr) (n8 : Nat) (c8 : Nat) (f7 : Int) (d7 : Bool) (s11 : Nat), a = { tmps := #[.int .i64 (j : Int), .slice (some ad) k c, undef, undef, u4, .pointer (some ⟨g2, 0, none⟩), .int .i64 0, .pointer (some ⟨b7, 0, none⟩), .int .i64 0, .int .i64 (q : Int), (slot (D 12) (.pointer (some ⟨g7, 0, none⟩)) (u10)), (slot (D 11) (.pointer (some ⟨s11, 0, none⟩)) (u11)), (slot (D 14) (.bool true) (u12)), .tuple #[.pointer (some ⟨g, 0, none⟩), .int .i64 0], .int .i64 (j : Int), .tuple #[.pointer (some ⟨g, 0, none⟩), .int .i64 0], .pointer (some ⟨g, 0, none⟩), .int .i64 0, .tuple #[.agg #[.slice A2 j c2, .slice A3 0 c3, .int .i64 (-1), .bool false], .int .i64 0], .int .i64 (j : Int), .tuple #[.agg #[.slice A2 j c2, .slice A3 0 c3, .int .i64 (-1), .bool false], .int .i64 0], .agg #[.slice A2 j c2, .slice A3 0 c3, .int .i64 (-1), .bool false], .int .i64 0, .int .i64 0, .bool false, undef, undef, undef, undef, undef, undef, undef, undef, undef, undef, .int .i64 (j : Int), .bool false, .bool false, .slice (some ad) k c, .int .i64 (k : Int), .bool false, .bool false, .bool false, .int .i64 0, .bool false, .bool false, .bool false, .pointer (some ⟨g, 0, none⟩), .bool false, .bool false, undef, undef, undef, undef, undef, undef, undef, undef, undef, undef, undef, undef, undef, undef, undef, .int .i64 (q : Int), .slice (some ad) k c, .int .i64 (k : Int), .bool true, u69, u70, (slot (D 7) (.tuple #[.pointer (some ⟨g7, 0, none⟩), .agg #[.slice A7 j c7, .slice A8 n8 c8, .int .i64 f7, .bool d7], .bool true]) (u71)), (slot (D 0) (.pointer (some ⟨g2, 0, none⟩)) (u72)), (slot (D 1) (.agg #[.slice A5 j c5, .slice A6 n6 c6, .int .i64 fu, .bool da]) (u73)), (slot (D 2) (.slice (some ad) k c) (u74)), (slot (D 3) (.int .i64 (q : Int)) (u75)), (slot (D 4) (.pointer (some (ad.add (q * 5)))) (u76)), (slot (D 5) (.agg #[.int .i64 xk, .int .i64 xi, .int .u8 (xc.toNat : Int), .int .i64 xl, .slice ka kn kc]) (u77)), (slot (D 6) (.tuple #[.pointer (some ⟨g7, 0, none⟩), .agg #[.slice A7 j c7, .slice A8 n8 c8, .int .i64 f7, .bool d7], .bool true]) (u78)), (slot (D 8) (.pointer (some ⟨g7, 0, none⟩)) (u79)), (slot (D 9) (.agg #[.slice A7 j c7, .slice A8 n8 c8, .int .i64 f7, .bool d7]) (u80)), (slot (D 10) (.bool true) (u81)), u82, u83, u84, u85, u86, u87, u88, u89, u90, u91, undef], defers := [] } ∧
    (D 6 = false → Chg NoB w0 w) ∧
    (D 6 = true → ∃ F7 K7, f7 = K7.fuse ∧ d7 = K7.dark ∧ BK W.heap.size w g7 F7 (.slice A7 j c7) (.slice A8 n8 c8) K7 j (q + 1) ∧ Chg F w0 w ∧ (∀ i, F7 i → F i ∨ w0.heap.size ≤ i) ∧ (D 11 = true → ¬ F7 s11)) ∧
    (D 11 = true → w0.heap.size ≤ s11 ∧ (D 13 = false → Blk w s11 52 #[.slice none 0 0, .slice none 0 0, .int .i64 0, .bool false]) ∧ (D 13 = true → Blk w s11 52 #[.slice A7 j c7, .slice A8 n8 c8, .int .i64 f7, .bool d7]))
def InvP13 (g g2 j k c q b7 c2 c3 c5 c6 n6 kn kc g7 c7 n8 c8 s11 : Nat) (A2 A3 A5 A6 A7 A8 ka : Option Addr) (ad : Addr) (fu xk xi xl f7 : Int) (da d7 : Bool) (xc : UInt8) (u4 u69 u70 u90 u91 : Value) (w0 : World) (D : Nat → Bool) (a : Act) (w : World) : Prop :=
  a = { tmps := #[.int .i64 (j : Int), .slice (some ad) k c, undef, undef, u4, (slot (D 2) (.pointer (some ⟨g7, 0, none⟩)) (.pointer (some ⟨g2, 0, none⟩))), .int .i64 0, .pointer (some ⟨b7, 0, none⟩), .int .i64 0, .int .i64 (q : Int), .pointer (some ⟨g7, 0, none⟩), .pointer (some ⟨s11, 0, none⟩), .bool true, .tuple #[.pointer (some ⟨g, 0, none⟩), .int .i64 0], .int .i64 (j : Int), .tuple #[.pointer (some ⟨g, 0, none⟩), .int .i64 0], .pointer (some ⟨g, 0, none⟩), .int .i64 0, .tuple #[.agg #[.slice A2 j c2, .slice A3 0 c3, .int .i64 (-1), .bool false], .int .i64 0], .int .i64 (j : Int), .tuple #[.agg #[.slice A2 j c2, .slice A3 0 c3, .int .i64 (-1), .bool false], .int .i64 0], .agg #[.slice A2 j c2, .slice A3 0 c3, .int .i64 (-1), .bool false], .int .i64 0, .int .i64 0, .bool false, undef, undef, undef, undef, undef, undef, undef, undef, undef, undef, .int .i64 (j : Int), .bool false, .bool false, .slice (some ad) k c, .int .i64 (k : Int), .bool false, .bool false, .bool false, .int .i64 0, .bool false, .bool false, .bool false, .pointer (some ⟨g, 0, none⟩), .bool false, .bool false, undef, undef, undef, undef, undef, undef, undef, undef, undef, undef, undef, undef, undef, undef, undef, .int .i64 (q : Int), .slice (some ad) k c, .int .i64 (k : Int), .bool true, u69, u70, .tuple #[.pointer (some ⟨g7, 0, none⟩), .agg #[.slice A7 j c7, .slice A8 n8 c8, .int .i64 f7, .bool d7], .bool true], .pointer (some ⟨g2, 0, none⟩), .agg #[.slice A5 j c5, .slice A6 n6 c6, .int .i64 fu, .bool da], .slice (some ad) k c, .int .i64 (q : Int), .pointer (some (ad.add (q * 5))), .agg #[.int .i64 xk, .int .i64 xi, .int .u8 (xc.toNat : Int), .int .i64 xl, .slice ka kn kc], .tuple #[.pointer (some ⟨g7, 0, none⟩), .agg #[.slice A7 j c7, .slice A8 n8 c8, .int .i64 f7, .bool d7], .bool true], .pointer (some ⟨g7, 0, none⟩), .agg #[.slice A7 j c7, .slice A8 n8 c8, .int .i64 f7, .bool d7], .bool true, .bool true, .bool false, .bool false, .pointer (some ⟨g7, 0, none⟩), .agg #[.slice A7 j c7, .slice A8 n8 c8, .int .i64 f7, .bool d7], .bool true, .bool false, .bool false, (slot (D 0) (.pointer (some ⟨g7, 0, none⟩)) (u90)), (slot (D 1) (.agg #[.slice A7 j c7, .slice A8 n8 c8, .int .i64 f7, .bool d7]) (u91)), undef], defers := [] } ∧
    (D 3 = false → Chg NoB w0 w) ∧
    (D 3 = true → Chg (fun b => b = b7) w0 w ∧ Blk w b7 52 #[.slice A7 j c7, .slice A8 n8 c8, .int .i64 f7, .bool d7])
set_option maxRecDepth 100000 in
set_option maxHeartbeats 8000000 in
theorem sectorPlays_walk (n : Int) (A : Option Addr) (k c : Nat) (l : List ActV) (W : World) (_ : (Lit.int .i64 n).wf = true) (hA : Acts W W.heap.size A k l) (hS : ∀ x ∈ l, x.kn ≤ 17592186043904) :
    Calls Try.prog 7 #[.int .i64 n, .slice A k c] W fun e W' => e = .returned (.bool true) ∧ Below W.heap.size W W' := by
  have HA := Lib.hid hA
  have HS := Lib.hid hS
  clear hA hS
  go_enter Try.func7, Try.ntmps7
  by_cases hn : n < 1 ∨ 8192 < n
  · go_wp2_with fail
    refine (new_bad n W hn).mono ?_
    rintro e w1 ⟨rfl, rfl⟩
    go_wp2_with fail
    refine (rnew_bad n w1 hn).mono ?_
    rintro e w2 ⟨rfl, hc2⟩
    have HC2 := Lib.hid hc2
    clear hc2 hn
    go_wp2_with (first
      | (refine wpList_store_blk rfl 52 _ _ rfl w2.heap.size _ rfl rfl 52 _ (Blk.new w2 _ _) rfl rd_size (by simp [Value.oneCell']) ?_)
      | fail)
    have hc3 : Chg NoB w1 ((w2.alloc (.cells #[.slice none 0 0, .slice none 0 0, .int .i64 0, .bool false] 52)).setRow w2.heap.size #[.slice none 0 0, .slice none 0 0, .int .i64 0, .bool false]) := (HC2.out.alloc _).setRow (.inr HC2.out.size) _
    have HC3 := Lib.hid hc3
    clear hc3
    refine (lives_any _).mono ?_
    rintro e w4 ⟨rfl, hc4⟩
    go_wp2_with fail
    go_ret
    exact ⟨rfl, (HC3.out.trans hc4 (fun _ _ h => h)).no⟩
  obtain ⟨j, rfl⟩ : ∃ j : Nat, n = (j : Int) := ⟨n.toNat, by omega⟩
  have HN := Lib.hid (show 1 ≤ j ∧ j ≤ 8192 from by omega)
  clear hn
  go_wp2_with fail
  refine (DI.new_ (j : Int) W (by have := HN.out; omega) (by have := HN.out; omega)).mono ?_
  rintro e w1 ⟨g, F1, rfl, hD1, hc1⟩
  have HD1 := Lib.hid hD1
  have HC1 := Lib.hid hc1
  clear hD1 hc1
  go_wp2_with fail
  refine (rnew_ok j w1 HN.out.1 HN.out.2).mono ?_
  rintro e w2 ⟨s2, p2, rfl, hr2, hrow2, hc2⟩
  obtain ⟨A2, c2, rfl⟩ := own_slice hr2.sure
  obtain ⟨A3, c3, rfl⟩ := own_slice hr2.loose
  rw [show rkV (.slice A2 j c2) (.slice A3 (Dk.new (j : Int)).loose.length c3) (Dk.new (j : Int)) = .agg #[.slice A2 j c2, .slice A3 0 c3, .int .i64 (-1), .bool false] from rfl]
  have HC2 := Lib.hid (HC1.out.trans hc2 (fun _ _ h => h))
  have HBK2 := Lib.hid (show BK W.heap.size w2 g F1 (.slice A2 j c2) (.slice A3 0 c3) (Dk.new (j : Int)) j 0 from ⟨HD1.out.no hc2, hr2, fun b hb hf => by have h1 := hrow2 b hb; have h2 := (HD1.out.rng b hf).2; omega, KOk.new_ _ _⟩)
  have HF1 := Lib.hid (show ∀ i, F1 i → i < w2.heap.size from fun i hi => by have h1 := (HD1.out.rng i hi).2; have h2 := hc2.size; omega)
  clear hr2 hrow2 hc2 HD1
  go_upto_region 3 with (first
    | (refine wpList_store_blk rfl 52 _ _ rfl w2.heap.size _ rfl rfl 52 _ (Blk.new w2 _ _) rfl rd_size (by simp [Value.oneCell']) ?_)
    | fail)
  have hb7 := (Blk.new w2 52 #[.slice none 0 0, .slice none 0 0, .int .i64 0, .bool false]).row #[.slice A2 j c2, .slice A3 0 c3, .int .i64 (-1), .bool false]
  have hc3 : Chg NoB w2 ((w2.alloc (.cells #[.slice none 0 0, .slice none 0 0, .int .i64 0, .bool false] 52)).setRow w2.heap.size #[.slice A2 j c2, .slice A3 0 c3, .int .i64 (-1), .bool false]) := ((Chg.refl NoB w2).alloc _).setRow (.inr (Nat.le_refl _)) _
  generalize hw3 : (w2.alloc (.cells #[.slice none 0 0, .slice none 0 0, .int .i64 0, .bool false] 52)).setRow w2.heap.size #[.slice A2 j c2, .slice A3 0 c3, .int .i64 (-1), .bool false] = w3 at hb7 hc3 ⊢
  have HB7 := Lib.hid hb7
  have HC3 := Lib.hid (HC2.out.trans hc3 (fun _ _ h => h))
  have HBK3 := Lib.hid (HBK2.out.no hc3)
  obtain ⟨b7, hb7e⟩ : ∃ b7, b7 = w2.heap.size := ⟨_, rfl⟩
  rw [← hb7e] at HB7 HF1 ⊢
  have HG7 := Lib.hid (show W.heap.size ≤ b7 from by rw [hb7e]; exact HC2.out.size)
  clear hw3 hb7 hc3 hb7e HBK2 HC2 HC1
  by_cases hbig : 40 < j ∨ 40 < k
  · have hend : ∀ (P : Prop), P → P := fun _ h => h
    by_cases hj4 : 40 < j
    · have hj5 : (40 : Int) < j := by omega
      go_wp2_with fail
      refine HBK3.out.di.disk.len_.mono ?_
      rintro e w5 ⟨rfl, rfl⟩
      rw [show (Dk.new (j : Int)).n = (j : Int) from rfl]
      go_wp2_with fail
      refine (lives_any _).mono ?_
      rintro e w4 ⟨rfl, hc4⟩
      go_wp2_with fail
      go_ret
      exact ⟨rfl, (HC3.out.trans hc4 (fun _ _ h => h)).no⟩
    · have hj5 : ¬ (40 : Int) < j := by omega
      have hk5 : (40 : Int) < k := by omega
      go_wp2_with fail
      refine HBK3.out.di.disk.len_.mono ?_
      rintro e w5 ⟨rfl, rfl⟩
      rw [show (Dk.new (j : Int)).n = (j : Int) from rfl]
      go_wp2_with fail
      refine (lives_any _).mono ?_
      rintro e w4 ⟨rfl, hc4⟩
      go_wp2_with fail
      go_ret
      exact ⟨rfl, (HC3.out.trans hc4 (fun _ _ h => h)).no⟩
  have hj5 : ¬ (40 : Int) < j := by omega
  have hk5 : ¬ (40 : Int) < k := by omega
  have HJK := Lib.hid (show j ≤ 40 ∧ k ≤ 40 from by omega)
  clear hbig
  go_wp2_with fail
  go_loopw [5, 9] (fun dv i wr => ∃ (q g2 : Nat) (F : Nat → Prop) (s p : Value) (K : Dk), q ≤ k ∧ i = .int .i64 q ∧ dv = .pointer (some ⟨g2, 0, none⟩) ∧ BK W.heap.size wr g2 F s p K j q ∧ ¬ F b7 ∧ Blk wr b7 52 #[s, p, .int .i64 K.fuse, .bool K.dark] ∧ Chg NoB W wr) (fun _ i _ => k - (intOf i).toNat)
  case atStart => exact ⟨0, g, F1, _, _, _, Nat.zero_le _, rfl, rfl, HBK3.out, fun h => by have := HF1.out _ h; omega, HB7.out, HC3.out⟩
  case round =>
    obtain ⟨q, g2, F, s, p, K, hq, rfl, rfl, hbk, hfb, hb, hch⟩ := hrel
    by_cases hlt : q < k
    · obtain ⟨A5, c5, rfl⟩ := own_slice hbk.rk.sure
      obtain ⟨n6, hn6⟩ : ∃ n6, n6 = K.loose.length := ⟨_, rfl⟩
      obtain ⟨A6, c6, hp6⟩ := own_slice hbk.rk.loose
      rw [← hn6] at hp6
      subst hp6
      obtain ⟨fu, hfu⟩ : ∃ fu, fu = K.fuse := ⟨_, rfl⟩
      obtain ⟨da, hda⟩ : ∃ da, da = K.dark := ⟨_, rfl⟩
      have HRK := Lib.hid (show rkV (.slice A5 j c5) (.slice A6 n6 c6) K = .agg #[.slice A5 j c5, .slice A6 n6 c6, .int .i64 fu, .bool da] from by rw [hfu, hda]; rfl)
      rw [← hfu, ← hda] at hb
      obtain ⟨ad, x, rfl, hadb, hxj, hat, hok⟩ := (HA.out.no hch (Nat.le_refl _)).at_ hlt
      have HSK := Lib.hid (HS.out x (List.mem_of_getElem? hxj))
      obtain ⟨xk, xi, xc, xl, ka, kn, kc, ks⟩ := x
      have HAT := Lib.hid hat
      have HOK := Lib.hid hok
      have HADB := Lib.hid (show (ad.add (q * 5)).block < W.heap.size from by rw [block_of_add]; exact hadb)
      have HBK := Lib.hid hbk
      have HFB := Lib.hid hfb
      have HB := Lib.hid hb
      have HCH := Lib.hid hch
      have HLT := Lib.hid hlt
      have HF0 := Lib.hid (show ∀ i, F i → W.heap.size ≤ i ∧ i < wr.heap.size from hbk.di.rng)
      clear hn6 hfu hda hbk hfb hb hch hxj hat hok hadb
      go_upto_region 10 with (fail)
      refine wp_region_cl rfl (by kernel_rfl) (InvP10 g g2 j k c q b7 c2 c3 c5 c6 n6 kn kc A2 A3 A5 A6 ka ad fu xk xi xl da xc u4 u10 u11 u12 u69 u70 u71 u72 u73 u74 u75 u76 u77 u78 u79 u80 u81 u82 u83 u84 u85 u86 u87 u88 u89 u90 u91 W wr F) ?_ ?_ ?_
      · exact ⟨0, none, 0, none, 0, 0, 0, false, 0, rfl, fun _ => (Chg.refl _ _).drew, (fun h => by cases h), (fun h => by cases h)⟩
      ·
        intro D a w i o ho hD hcl hpre hI
        obtain ⟨g7, A7, c7, A8, n8, c8, f7, d7, s11, rfl, h0, h6, h11⟩ := hI
        have hi : i < 15 := by have := (List.getElem?_eq_some_iff.1 ho).1; simpa using this
        rcases (by omega : i = 0 ∨ i = 1 ∨ i = 2 ∨ i = 3 ∨ i = 4 ∨ i = 5 ∨ i = 6 ∨ i = 7 ∨ i = 8 ∨ i = 9 ∨ i = 10 ∨ i = 11 ∨ i = 12 ∨ i = 13 ∨ i = 14) with rfl | rfl | rfl | rfl | rfl | rfl | rfl | rfl | rfl | rfl | rfl | rfl | rfl | rfl | rfl
        · obtain rfl := Option.some.inj ho
          clear ho hpre hi hcl
          go_wp2_with fail
          unfold AtEnd
          exact ⟨g7, A7, c7, A8, n8, c8, f7, d7, s11, rfl, fun h => h0 (by simpa [more] using h), fun h => by simpa [more] using h6 (by simpa [more] using h), fun h => by simpa [more] using h11 (by simpa [more] using h)⟩
        · obtain rfl := Option.some.inj ho
          have d6 : D 6 = false := (hcl.not_ 6 _ rfl 1 _ rfl rfl hD)
          clear ho hpre hi hcl
          have hb := HB.out.chg (h0 d6) (fun h => h)
          go_wp2_with (first
            | (refine wpList_load_row rfl 52 _ rfl b7 rfl 52 _ (0, 0) _ hb Try.underlying52 rfl rd_size ?_)
            | fail)
          unfold AtEnd
          exact ⟨g7, A7, c7, A8, n8, c8, f7, d7, s11, by simp only [more, slot_true, slot_false, Nat.reduceEqDiff, ↓reduceIte, d6], fun h => h0 (by simpa [more] using h), fun h => by simpa [more] using h6 (by simpa [more] using h), fun h => by simpa [more] using h11 (by simpa [more] using h)⟩
        · obtain rfl := Option.some.inj ho
          clear ho hpre hi hcl
          go_wp2_with fail
          unfold AtEnd
          exact ⟨g7, A7, c7, A8, n8, c8, f7, d7, s11, rfl, fun h => h0 (by simpa [more] using h), fun h => by simpa [more] using h6 (by simpa [more] using h), fun h => by simpa [more] using h11 (by simpa [more] using h)⟩
        · obtain rfl := Option.some.inj ho
          clear ho hpre hi hcl
          go_wp2_with fail
          unfold AtEnd
          exact ⟨g7, A7, c7, A8, n8, c8, f7, d7, s11, rfl, fun h => h0 (by simpa [more] using h), fun h => by simpa [more] using h6 (by simpa [more] using h), fun h => by simpa [more] using h11 (by simpa [more] using h)⟩
        · obtain rfl := Option.some.inj ho
          have z2 := hpre ⟨2, .data⟩ (by simp) rfl
          have z3 := hpre ⟨3, .data⟩ (by simp) rfl
          clear ho hpre hi hcl
          go_wp2_with fail
          unfold AtEnd
          exact ⟨g7, A7, c7, A8, n8, c8, f7, d7, s11, by simp only [more, slot_true, slot_false, Nat.reduceEqDiff, ↓reduceIte, z2, z3], fun h => h0 (by simpa [more] using h), fun h => by simpa [more] using h6 (by simpa [more] using h), fun h => by simpa [more] using h11 (by simpa [more] using h)⟩
        · obtain rfl := Option.some.inj ho
          have z4 := hpre ⟨4, .data⟩ (by simp) rfl
          have d6 : D 6 = false := (hcl.not_ 6 _ rfl 2 _ rfl rfl hD)
          clear ho hpre hi hcl
          have hq := fun (p : Addr) (hp : p.block = (ad.add (q * 5)).block) => cell_of_heap (w := wr) (w' := w) (p := p) ((h0 d6).block p.block (by rw [hp]; exact Nat.lt_of_lt_of_le HADB.out HCH.out.size) (fun h => h))
          have c0 := (hq (ad.add (q * 5)) rfl).trans HAT.out.c0
          have c1 := (hq ⟨(ad.add (q * 5)).block, (ad.add (q * 5)).off + 1, none⟩ rfl).trans HAT.out.c1
          have c2 := (hq ⟨(ad.add (q * 5)).block, (ad.add (q * 5)).off + 2, none⟩ rfl).trans HAT.out.c2
          have c3 := (hq ⟨(ad.add (q * 5)).block, (ad.add (q * 5)).off + 3, none⟩ rfl).trans HAT.out.c3
          have c4 := (hq ⟨(ad.add (q * 5)).block, (ad.add (q * 5)).off + 4, none⟩ rfl).trans HAT.out.c4
          simp only [z4, slot_true]
          clear hq
          go_wp2_with fail
          unfold AtEnd
          exact ⟨g7, A7, c7, A8, n8, c8, f7, d7, s11, by simp only [more, slot_true, slot_false, Nat.reduceEqDiff, ↓reduceIte, z4, d6], fun h => h0 (by simpa [more] using h), fun h => by simpa [more] using h6 (by simpa [more] using h), fun h => by simpa [more] using h11 (by simpa [more] using h)⟩
        · obtain rfl := Option.some.inj ho
          have z0 := hpre ⟨0, .data⟩ (by simp) rfl
          have z1 := hpre ⟨1, .data⟩ (by simp) rfl
          have z5 := hpre ⟨5, .data⟩ (by simp) rfl
          have d7 : D 7 = false := (hcl.not_ 7 _ rfl 0 _ rfl rfl hD)
          have d8 : D 8 = false := (hcl.not_ 8 _ rfl 0 _ rfl rfl (hcl.not_ 7 _ rfl 0 _ rfl rfl hD))
          have d9 : D 9 = false := (hcl.not_ 9 _ rfl 0 _ rfl rfl (hcl.not_ 7 _ rfl 0 _ rfl rfl hD))
          have d12 : D 12 = false := (hcl.not_ 12 _ rfl 1 _ rfl rfl hD)
          have d13 : D 13 = false := (hcl.not_ 13 _ rfl 9 _ rfl rfl hD)
          clear ho hpre hi hcl
          have hcw := h0 hD
          have hx : ActOk w W.heap.size ⟨xk, xi, xc, xl, ka, kn, kc, ks⟩ := { HOK.out with row := (show IB wr W.heap.size ka ks from HOK.out.row).chg HCH.out.size hcw (fun _ _ h => h) }
          have hcall := step_any (Nat.le_trans HCH.out.size hcw.size) (HBK.out.no hcw) (by have := HJK.out; have := HLT.out; omega) _ hx HSK.out
          rw [HRK.out] at hcall
          have HCALL := Lib.hid hcall
          have HCW := Lib.hid hcw
          have H11 := Lib.hid h11
          clear h0 h6 h11 hcw hx hcall
          simp only [z0, z1, z5, slot_true]
          go_wp2_with fail
          refine HCALL.out.mono ?_
          rintro e w7 ⟨y7, F7, s7, p7, K7, rfl, hbk7, hc7, hff7⟩
          obtain ⟨B7, e7, rfl⟩ := own_slice hbk7.rk.sure
          obtain ⟨m8, hm8⟩ : ∃ m8, m8 = K7.loose.length := ⟨_, rfl⟩
          obtain ⟨B8, e8, hp8⟩ := own_slice hbk7.rk.loose
          rw [← hm8] at hp8
          subst hp8
          obtain ⟨y8, hy8⟩ : ∃ y8, y8 = K7.fuse := ⟨_, rfl⟩
          obtain ⟨y9, hy9⟩ : ∃ y9, y9 = K7.dark := ⟨_, rfl⟩
          rw [show rkV (.slice B7 j e7) (.slice B8 m8 e8) K7 = .agg #[.slice B7 j e7, .slice B8 m8 e8, .int .i64 y8, .bool y9] from by rw [hy8, hy9]; rfl]
          have HBK7 := Lib.hid hbk7
          have HC7 := Lib.hid hc7
          have HFF7 := Lib.hid hff7
          have HY := Lib.hid (And.intro hy8 hy9)
          clear hm8 hbk7 hc7 hff7 hy8 hy9
          go_wp2_with fail
          unfold AtEnd
          exact ⟨y7, B7, e7, B8, m8, e8, y8, y9, s11, by simp only [more, slot_true, slot_false, Nat.reduceEqDiff, ↓reduceIte, z0, z1, z5, d7, d8, d9, d12, d13], fun h => by simp [more] at h, fun _ => ⟨F7, K7, HY.out.1, HY.out.2, HBK7.out, Chg.trans (S := F) (T := F) (HCW.out.mono (fun _ _ h => h.elim)) HC7.out (fun _ _ h => h), fun i hi => (HFF7.out i hi).imp id (fun h => Nat.le_trans HCW.out.size h), fun h hf => by have h8 := H11.out (by simpa [more] using h); have h9 := (h8.2.1 d13).lt; exact (HFF7.out _ hf).elim (fun hf => by have := (HF0.out _ hf).2; have := h8.1; omega) (fun h7 => by omega)⟩, fun h => by have h8 := H11.out (by simpa [more] using h); exact ⟨h8.1, fun _ => (h8.2.1 d13).chg HC7.out (fun hf => by have := (HF0.out _ hf).2; have := h8.1; omega), fun h13 => by simp [more, d13] at h13⟩⟩
        · obtain rfl := Option.some.inj ho
          have z6 := hpre ⟨6, .data⟩ (by simp) rfl
          clear ho hpre hi hcl
          go_wp2_with fail
          unfold AtEnd
          exact ⟨g7, A7, c7, A8, n8, c8, f7, d7, s11, by simp only [more, slot_true, slot_false, Nat.reduceEqDiff, ↓reduceIte, z6], fun h => h0 (by simpa [more] using h), fun h => by simpa [more] using h6 (by simpa [more] using h), fun h => by simpa [more] using h11 (by simpa [more] using h)⟩
        · obtain rfl := Option.some.inj ho
          have z7 := hpre ⟨7, .data⟩ (by simp) rfl
          clear ho hpre hi hcl
          go_wp2_with fail
          unfold AtEnd
          exact ⟨g7, A7, c7, A8, n8, c8, f7, d7, s11, by simp only [more, slot_true, slot_false, Nat.reduceEqDiff, ↓reduceIte, z7], fun h => h0 (by simpa [more] using h), fun h => by simpa [more] using h6 (by simpa [more] using h), fun h => by simpa [more] using h11 (by simpa [more] using h)⟩
        · obtain rfl := Option.some.inj ho
          have z7 := hpre ⟨7, .data⟩ (by simp) rfl
          clear ho hpre hi hcl
          go_wp2_with fail
          unfold AtEnd
          exact ⟨g7, A7, c7, A8, n8, c8, f7, d7, s11, by simp only [more, slot_true, slot_false, Nat.reduceEqDiff, ↓reduceIte, z7], fun h => h0 (by simpa [more] using h), fun h => by simpa [more] using h6 (by simpa [more] using h), fun h => by simpa [more] using h11 (by simpa [more] using h)⟩
        · obtain rfl := Option.some.inj ho
          have z7 := hpre ⟨7, .data⟩ (by simp) rfl
          clear ho hpre hi hcl
          go_wp2_with fail
          unfold AtEnd
          exact ⟨g7, A7, c7, A8, n8, c8, f7, d7, s11, by simp only [more, slot_true, slot_false, Nat.reduceEqDiff, ↓reduceIte, z7], fun h => h0 (by simpa [more] using h), fun h => by simpa [more] using h6 (by simpa [more] using h), fun h => by simpa [more] using h11 (by simpa [more] using h)⟩
        · obtain rfl := Option.some.inj ho
          have d13 : D 13 = false := (hcl.not_ 13 _ rfl 0 _ rfl rfl hD)
          clear ho hpre hi hcl
          have hcl : Chg NoB w (w.alloc (.cells #[.slice none 0 0, .slice none 0 0, .int .i64 0, .bool false] 52)) := (Chg.refl _ _).alloc _
          have hnw := Blk.new w 52 #[.slice none 0 0, .slice none 0 0, .int .i64 0, .bool false]
          have HNW := Lib.hid hnw
          have HW0 := Lib.hid (show wr.heap.size ≤ w.heap.size from by cases h6d : D 6; exact (h0 h6d).size; obtain ⟨_, _, _, _, _, hc, _⟩ := h6 h6d; exact hc.size)
          clear hnw
          go_wp2_with fail
          unfold AtEnd
          exact ⟨g7, A7, c7, A8, n8, c8, f7, d7, w.heap.size, by simp only [more, slot_true, slot_false, Nat.reduceEqDiff, ↓reduceIte, d13], fun h => (h0 (by simpa [more] using h)).trans hcl (fun _ _ h => h), fun h => by obtain ⟨F7, K7, e1, e2, e3, e4, e5, e6⟩ := h6 (by simpa [more] using h); exact ⟨F7, K7, e1, e2, e3.no hcl, e4.trans hcl (fun _ _ h => h.elim), e5, fun _ hf => by have h9 := (e3.di.rng _ hf).2; omega⟩, fun _ => ⟨HW0.out, fun _ => HNW.out, fun h => by simp [more, d13] at h⟩⟩
        · obtain rfl := Option.some.inj ho
          have z8 := hpre ⟨8, .data⟩ (by simp) rfl
          have z6 := hpre ⟨6, .chain⟩ (by simp) rfl
          clear ho hpre hi hcl
          go_wp2_with fail
          unfold AtEnd
          exact ⟨g7, A7, c7, A8, n8, c8, f7, d7, s11, by simp only [more, slot_true, slot_false, Nat.reduceEqDiff, ↓reduceIte, z8, z6], fun h => h0 (by simpa [more] using h), fun h => by simpa [more] using h6 (by simpa [more] using h), fun h => by simpa [more] using h11 (by simpa [more] using h)⟩
        · obtain rfl := Option.some.inj ho
          have z11 := hpre ⟨11, .data⟩ (by simp) rfl
          have z9 := hpre ⟨9, .data⟩ (by simp) rfl
          have z12 := hpre ⟨12, .chain⟩ (by simp) rfl
          have z6 : D 6 = true := (hpre ⟨6, .phase⟩ (by simp) rfl)
          clear ho hpre hi hcl
          have h8 := h11 z11
          have hbs := h8.2.1 hD
          obtain ⟨F7, K7, e1, e2, e3, e4, e5, e6⟩ := h6 z6
          have HBS := Lib.hid hbs
          have HE := Lib.hid (And.intro e1 (And.intro e2 (And.intro e3 (And.intro e4 (And.intro e5 (e6 z11))))))
          have HS8 := Lib.hid h8.1
          clear h0 h6 h11 h8 hbs e1 e2 e3 e4 e5 e6
          simp only [z9, z11, slot_true]
          go_wp2_with (first
            | (refine wpList_store_blk rfl 52 _ _ rfl s11 _ rfl rfl 52 _ HBS.out rfl rd_size (by simp [Value.oneCell']) ?_)
            | fail)
          have hcs : Chg (fun b => b = s11) w (w.setRow s11 #[.slice A7 j c7, .slice A8 n8 c8, .int .i64 f7, .bool d7]) := (Chg.refl (fun b => b = s11) w).setRow (g := s11) (.inl rfl) _
          unfold AtEnd
          exact ⟨g7, A7, c7, A8, n8, c8, f7, d7, s11, by simp only [more, slot_true, slot_false, Nat.reduceEqDiff, ↓reduceIte, z11, z9, z12, z6], fun h => by simp [more, z6] at h, fun _ => ⟨F7, K7, HE.out.1, HE.out.2.1, HE.out.2.2.1.chg hcs (fun i hi h => HE.out.2.2.2.2.2 ((show i = s11 from h) ▸ hi)) (fun i hi h => by have h1 : i = s11 := h; subst h1; exact hi.elim (fun e => own_ne HE.out.2.2.1.rk.sure HBS.out (by decide) e) (fun e => own_ne HE.out.2.2.1.rk.loose HBS.out (by decide) e)), HE.out.2.2.2.1.setRow (.inr HS8.out) _, HE.out.2.2.2.2.1, fun _ => HE.out.2.2.2.2.2⟩, fun _ => ⟨HS8.out, fun h => by simp [more] at h, fun _ => HBS.out.row _⟩⟩
        · obtain rfl := Option.some.inj ho
          have z10 := hpre ⟨10, .data⟩ (by simp) rfl
          have z13 := hpre ⟨13, .chain⟩ (by simp) rfl
          clear ho hpre hi hcl
          go_wp2_with fail
          unfold AtEnd
          exact ⟨g7, A7, c7, A8, n8, c8, f7, d7, s11, by simp only [more, slot_true, slot_false, Nat.reduceEqDiff, ↓reduceIte, z10, z13], fun h => h0 (by simpa [more] using h), fun h => by simpa [more] using h6 (by simpa [more] using h), fun h => by simpa [more] using h11 (by simpa [more] using h)⟩
      · intro D a w hall hI
        obtain ⟨g7, A7, c7, A8, n8, c8, f7, d7, s11, rfl, h0, h6, h11⟩ := hI
        have h06 := h6 (hall 6 (by decide))
        have h011 := h11 (hall 11 (by decide))
        obtain ⟨F7, K7, hf7, hd7, hbk7, hc7, hff7, hs7⟩ := h06
        have hs11 := hs7 (hall 11 (by decide))
        have HB11 := Lib.hid (h011.2.2 (hall 13 (by decide)))
        have HS11 := Lib.hid h011.1
        have HRK7 := Lib.hid (show rkV (.slice A7 j c7) (.slice A8 n8 c8) K7 = .agg #[.slice A7 j c7, .slice A8 n8 c8, .int .i64 f7, .bool d7] from by rw [hf7, hd7]; rfl)
        have HBK7 := Lib.hid hbk7
        have HC7 := Lib.hid hc7
        have HFF7 := Lib.hid hff7
        have HE7 := Lib.hid (And.intro hf7 hd7)
        have z0 := hall 0 (by decide)
        have z1 := hall 1 (by decide)
        have z2 := hall 2 (by decide)
        have z3 := hall 3 (by decide)
        have z4 := hall 4 (by decide)
        have z5 := hall 5 (by decide)
        have z6 := hall 6 (by decide)
        have z7 := hall 7 (by decide)
        have z8 := hall 8 (by decide)
        have z9 := hall 9 (by decide)
        have z10 := hall 10 (by decide)
        have z11 := hall 11 (by decide)
        have z12 := hall 12 (by decide)
        have z14 := hall 14 (by decide)
        clear hall
        simp only [z0, z1, z2, z3, z4, z5, z6, z7, z8, z9, z10, z11, z12, z14, slot_true]
        clear z0 z1 z2 z3 z4 z5 z6 z7 z8 z9 z10 z11 z12 z14
        obtain ⟨w1, hw1⟩ : ∃ w1, w1 = w := ⟨_, rfl⟩
        rw [← hw1] at HB11 HBK7 HC7 ⊢
        have k0 := HB11.out.cell 0
        have k1 := HB11.out.cell 1
        have k2 := HB11.out.cell 2
        have k3 := HB11.out.cell 3
        clear h0 h6 h11 h011 hf7 hd7 hbk7 hc7 hff7 hs7 hs11 hw1
        go_wp2_with fail
        have hcall := alike_any HBK7.out (by have := HJK.out; have := HLT.out; omega)
        rw [HRK7.out] at hcall
        refine hcall.mono ?_
        clear hcall k0 k1 k2 k3
        rintro e w8 ⟨rfl, hc8⟩
        have HC8 := Lib.hid hc8
        have HB11R := Lib.hid (HB11.out.chg hc8 (fun h => h))
        have HB7R := Lib.hid ((HB.out.chg HC7.out HFB.out).chg hc8 (fun h => h))
        clear hc8
        go_wp2_with fail
        refine wp_region_cl rfl (by kernel_rfl) (InvP13 g g2 j k c q b7 c2 c3 c5 c6 n6 kn kc g7 c7 n8 c8 s11 A2 A3 A5 A6 A7 A8 ka ad fu xk xi xl f7 da d7 xc u4 u69 u70 u90 u91 w8) ?_ ?_ ?_
        · exact ⟨rfl, fun _ => (Chg.refl _ _).drew, (fun h => by cases h)⟩
        ·
          intro D a w i o ho hD hcl hpre hI
          obtain ⟨rfl, h0, h3⟩ := hI
          have hi : i < 4 := by have := (List.getElem?_eq_some_iff.1 ho).1; simpa using this
          rcases (by omega : i = 0 ∨ i = 1 ∨ i = 2 ∨ i = 3) with rfl | rfl | rfl | rfl
          · obtain rfl := Option.some.inj ho
            clear ho hpre hi hcl
            go_wp2_with fail
            unfold AtEnd
            exact ⟨rfl, fun h => h0 (by simpa [more] using h), fun h => h3 (by simpa [more] using h)⟩
          · obtain rfl := Option.some.inj ho
            have d3 : D 3 = false := (hcl.not_ 3 _ rfl 0 _ rfl rfl hD)
            clear ho hpre hi hcl
            have hb := HB11R.out.chg (h0 d3) (fun h => h)
            go_wp2_with (first
              | (refine wpList_load_row rfl 52 _ rfl s11 rfl 52 _ (0, 0) _ hb Try.underlying52 rfl rd_size ?_)
              | fail)
            unfold AtEnd
            exact ⟨by simp only [more, slot_true, slot_false, Nat.reduceEqDiff, ↓reduceIte, d3], fun h => h0 (by simpa [more] using h), fun h => h3 (by simpa [more] using h)⟩
          · obtain rfl := Option.some.inj ho
            have z0 := hpre ⟨0, .data⟩ (by simp) rfl
            clear ho hpre hi hcl
            go_wp2_with fail
            unfold AtEnd
            exact ⟨by simp only [more, slot_true, slot_false, Nat.reduceEqDiff, ↓reduceIte, z0], fun h => h0 (by simpa [more] using h), fun h => h3 (by simpa [more] using h)⟩
          · obtain rfl := Option.some.inj ho
            have z1 := hpre ⟨1, .data⟩ (by simp) rfl
            have z2 := hpre ⟨2, .chain⟩ (by simp) rfl
            clear ho hpre hi hcl
            have hcw := h0 hD
            have HBR := Lib.hid (HB7R.out.chg hcw (fun h => h))
            have HCW := Lib.hid hcw
            clear h0 h3 hcw
            simp only [z1, slot_true]
            go_wp2_with (first
              | (refine wpList_store_blk rfl 52 _ _ rfl b7 _ rfl rfl 52 _ HBR.out rfl rd_size (by simp [Value.oneCell']) ?_)
              | fail)
            unfold AtEnd
            exact ⟨by simp only [more, slot_true, slot_false, Nat.reduceEqDiff, ↓reduceIte, z1, z2], fun h => by simp [more] at h, fun _ => ⟨(Chg.mono (S := NoB) (T := fun b => b = b7) HCW.out (fun _ _ h => h.elim)).setRow (g := b7) (.inl rfl) _, HBR.out.row _⟩⟩
        · intro D a w hall hI
          obtain ⟨rfl, h0, h3⟩ := hI
          obtain ⟨hcF, hbr⟩ := h3 (hall 3 (by decide))
          have HCF := Lib.hid hcF
          have HBR := Lib.hid hbr
          have z2 := hall 2 (by decide)
          clear h0 h3 hcF hbr hall
          simp only [z2, slot_true]
          go_wp2_with fail
          go_roundw
          case rel =>
            have hb7w : b7 < wr.heap.size := HB.out.lt
            refine ⟨q + 1, g7, F7, _, _, K7, by have := HLT.out; omega, by go_num, rfl, (HBK7.out.no HC8.out).chg HCF.out (fun i hi h => ?_) (fun i hi h => ?_), fun h => ?_, by rw [← HE7.out.1, ← HE7.out.2]; exact HBR.out, (((HCH.out.trans HC7.out (fun i hi h => by have := (HF0.out i h).1; omega)).trans HC8.out (fun _ _ h => h)).trans HCF.out (fun i hi h => by have h1 : i = b7 := h; have := HG7.out; omega))⟩
            · have h1 : i = b7 := h
              exact (HFF7.out i hi).elim (fun hf => HFB.out (h1 ▸ hf)) (fun h2 => by omega)
            · have h1 : i = b7 := h
              subst h1
              exact hi.elim (fun e => own_ne (HBK7.out.no HC8.out).rk.sure HB7R.out (by decide) e) (fun e => own_ne (HBK7.out.no HC8.out).rk.loose HB7R.out (by decide) e)
            · exact (HFF7.out _ h).elim HFB.out (fun h2 => by omega)
          case measure => simp [intOf]; have := HLT.out; omega
    · obtain rfl : q = k := by omega
      go_wp2_with fail
      refine (lives_any _).mono ?_
      rintro e w4 ⟨rfl, hc4⟩
      go_wp2_with fail
      go_ret
      exact ⟨rfl, (hch.trans hc4 (fun _ _ h => h)).no⟩
end Go.Proofs.Ytmkbahhnjobglaa
