/-
  SLOTS: the walk of SlotsHeaders.
-/
import Derived.Test.YtlhfhhbafhnbkaaSRefC
import Derived.Test.YtlhfhhbafhnbkaaSlt11
import Derived.Deep.Cut
import Derived.Deep.CutRange
import Derived.StillTailTactics
import Derived.Deep.QuietTactic
import Derived.BigQuiet
namespace Go.Proofs.Ytlhfhhbafhnbkaa
open Go.RowKit FieldM CrcM
set_option linter.unusedSimpArgs false
set_option linter.unusedVariables false
theorem ext_from (l : List UInt8) (k : Nat) (n : Nat) (h : l.length = n) : (⟨l.toArray⟩ : ByteArray).extract k (⟨l.toArray⟩ : ByteArray).size = ⟨(l.drop k).toArray⟩ := by
  have e : (⟨l.toArray⟩ : ByteArray).size = l.length := by simp [ByteArray.size]
  rw [ByteArray.extract_mk, e]; simp [List.take_of_length_le]
theorem cut_lo (l : List UInt8) (h : l.length = 1024) (w : World) : (Instr.slice 9 (.string ⟨l.toArray⟩) none (some (.int .i64 512)) none).run Try.prog w = .ok (.string ⟨(l.take 512).toArray⟩) w := by
  rw [run_slice_string_to_if _ _ _ _ _ Try.underlying9, if_pos (by simp [ByteArray.size, h])]
  rw [show (512 : Int).toNat = 512 from rfl, ext_str]
theorem cut_hi (l : List UInt8) (h : l.length = 1024) (w : World) : (Instr.slice 9 (.string ⟨l.toArray⟩) (some (.int .i64 512)) none none).run Try.prog w = .ok (.string ⟨(l.drop 512).toArray⟩) w := by
  rw [run_slice_string_from_if _ _ _ _ _ Try.underlying9, if_pos (by simp [ByteArray.size, h])]
  rw [show (512 : Int).toNat = 512 from rfl, ext_from _ _ _ h]
def InvSH7 (g bm n0 n1 c0 c1 gn wn M : Nat) (m : Int) (a0 a1 : Option Addr) (rt e30 e34 e35 : Bool) (q1 q2 q3 : Value) (hl Z : List UInt8) (w0 : World) (D : Nat → Bool) (a : Act) (w : World) : Prop :=
  ∃ (s5 : Nat), a = { tmps := #[.slice a0 n0 c0, .slice a1 n1 c1, .int .u32 (gn : Int), .int .u8 (wn : Int), .bool rt, undef, undef, undef, undef, undef, .bool false, .pointer (some ⟨g, 0, none⟩), .int .i64 0, .pointer (some ⟨bm, 0, none⟩), .int .i64 0, (slot (D 8) (.string ⟨(hl ++ Z).toArray⟩) (undef)), undef, undef, undef, undef, undef, undef, undef, undef, undef, undef, undef, undef, .slice a1 n1 c1, .int .i64 (n1 : Int), .bool e30, .bool e30, .slice a0 n0 c0, .int .i64 (n0 : Int), .bool e34, .bool e35, undef, q1, q1, .pointer (some ⟨g, 0, none⟩), .int .i64 0, q2, q2, q3, .int .i64 0, .pointer (some ⟨g, 0, none⟩), .bool false, (slot (D 0) (.slice a0 n0 c0) (undef)), (slot (D 1) (.string ⟨(hl).toArray⟩) (undef)), (slot (D 2) (.slice a0 n0 c0) (undef)), (slot (D 3) (.int .i64 (n0 : Int)) (undef)), (slot (D 4) (.int .i64 m) (undef)), (slot (D 5) (.slice (some ⟨s5, 0, none⟩) M M) (undef)), (slot (D 6) (.string ⟨(Z).toArray⟩) (undef)), (slot (D 7) (.string ⟨(hl ++ Z).toArray⟩) (undef)), undef, undef, undef, undef, undef, undef, undef, undef, undef, undef, undef, undef, undef, undef, undef, undef, undef, undef, undef, undef, undef, undef, undef, undef, undef, undef, undef, undef, undef, undef, undef, undef, undef, undef, undef, undef, undef, undef, undef, undef, undef, undef, undef, undef, undef, undef, undef, undef, undef, undef, undef, undef, undef, undef, undef, undef, undef, undef, undef, undef, undef, undef, undef, undef, undef, undef, undef, undef, undef, undef, undef, undef, undef, undef, undef, undef, undef, undef, undef, undef], defers := [] } ∧
    (Chg NoB w0 w) ∧
    (D 5 = true → RB w w.heap.size (some ⟨s5, 0, none⟩) Z)
def InvSH10 (g bm n0 n1 c0 c1 gn wn M : Nat) (m : Int) (a0 a1 : Option Addr) (rt e30 e34 e35 : Bool) (q1 q2 q3 : Value) (u47 u48 u49 u50 u51 u52 u53 u54 u55 u56 u57 u58 u59 u60 u61 u62 u63 : Value) (f1 hl Z : List UInt8) (w0 : World) (D : Nat → Bool) (a : Act) (w : World) : Prop :=
  ∃ (s5 : Nat), a = { tmps := #[.slice a0 n0 c0, .slice a1 n1 c1, .int .u32 (gn : Int), .int .u8 (wn : Int), .bool rt, undef, undef, undef, undef, undef, .bool false, .pointer (some ⟨g, 0, none⟩), .int .i64 0, .pointer (some ⟨bm, 0, none⟩), .int .i64 0, .string ⟨(f1).toArray⟩, (slot (D 8) (.string ⟨(hl ++ Z).toArray⟩) (undef)), undef, undef, undef, undef, undef, undef, undef, undef, undef, undef, undef, .slice a1 n1 c1, .int .i64 (n1 : Int), .bool e30, .bool e30, .slice a0 n0 c0, .int .i64 (n0 : Int), .bool e34, .bool e35, undef, q1, q1, .pointer (some ⟨g, 0, none⟩), .int .i64 0, q2, q2, q3, .int .i64 0, .pointer (some ⟨g, 0, none⟩), .bool false, u47, u48, u49, u50, u51, u52, u53, u54, u55, u56, u57, u58, u59, u60, u61, u62, u63, (slot (D 0) (.slice a1 n1 c1) (undef)), (slot (D 1) (.string ⟨(hl).toArray⟩) (undef)), (slot (D 2) (.slice a1 n1 c1) (undef)), (slot (D 3) (.int .i64 (n1 : Int)) (undef)), (slot (D 4) (.int .i64 m) (undef)), (slot (D 5) (.slice (some ⟨s5, 0, none⟩) M M) (undef)), (slot (D 6) (.string ⟨(Z).toArray⟩) (undef)), (slot (D 7) (.string ⟨(hl ++ Z).toArray⟩) (undef)), undef, undef, undef, undef, undef, undef, undef, undef, undef, undef, undef, undef, undef, undef, undef, undef, undef, undef, undef, undef, undef, undef, undef, undef, undef, undef, undef, undef, undef, undef, undef, undef, undef, undef, undef, undef, undef, undef, undef, undef, undef, undef, undef, undef, undef, undef, undef, undef, undef, undef, undef, undef, undef, undef, undef, undef, undef, undef, undef, undef, undef, undef, undef], defers := [] } ∧
    (Chg NoB w0 w) ∧
    (D 5 = true → RB w w.heap.size (some ⟨s5, 0, none⟩) Z)
def InvSH15 (gp q n9 c9 c1z n6 s5 g bm n0 n1 M1 c0 c1 gn wn : Nat) (m1 f9 f6 e0 : Int) (A1 A9 a0 a1 : Option Addr) (d9 d6 rt e30 e34 e35 : Bool) (q1 q2 q3 : Value) (u47 u48 u49 u50 u51 u52 u53 u54 u55 u56 u57 u58 u59 u60 u61 u62 u63 u19 u20 u84 u85 u86 u87 u88 u89 u90 u91 u92 u93 u94 u95 u96 u97 u98 u99 u100 u101 u102 u103 u104 : Value) (K6 : Dk) (f1 al p1 p2 bl Z1 y : List UInt8) (w0 : World) (D : Nat → Bool) (a : Act) (w : World) : Prop :=
  ∃ (s10 : Nat) (A6 : Option Addr) (c6 : Nat), a = { tmps := #[.slice a0 n0 c0, .slice a1 n1 c1, .int .u32 (gn : Int), .int .u8 (wn : Int), .bool rt, undef, undef, undef, undef, undef, .bool false, .pointer (some ⟨g, 0, none⟩), .int .i64 0, .pointer (some ⟨bm, 0, none⟩), .int .i64 0, .string ⟨(f1).toArray⟩, .string ⟨(al).toArray⟩, .slice (some ⟨gp, 0, none⟩) 5 5, .int .i64 (q : Int), (slot (D 10) (.pointer (some ⟨s10, 0, none⟩)) (u19)), (slot (D 12) (.int .i64 e0) (u20)), undef, undef, undef, undef, undef, undef, undef, .slice a1 n1 c1, .int .i64 (n1 : Int), .bool e30, .bool e30, .slice a0 n0 c0, .int .i64 (n0 : Int), .bool e34, .bool e35, undef, q1, q1, .pointer (some ⟨g, 0, none⟩), .int .i64 0, q2, q2, q3, .int .i64 0, .pointer (some ⟨g, 0, none⟩), .bool false, u47, u48, u49, u50, u51, u52, u53, u54, u55, u56, u57, u58, u59, u60, u61, u62, u63, .slice a1 n1 c1, .string ⟨(bl).toArray⟩, .slice a1 n1 c1, .int .i64 (n1 : Int), .int .i64 m1, .slice (some ⟨s5, 0, none⟩) M1 M1, .string ⟨(Z1).toArray⟩, .string ⟨(al).toArray⟩, .string ⟨(f1).toArray⟩, .string ⟨(al).toArray⟩, .string ⟨(p1).toArray⟩, .string ⟨(al).toArray⟩, .string ⟨(p2).toArray⟩, .string ⟨(al).toArray⟩, .string ⟨(p1).toArray⟩, .string ⟨(al).toArray⟩, .string ⟨(p2).toArray⟩, .slice (some ⟨gp, 0, none⟩) 5 5, .int .i64 (q : Int), .bool true, u84, u85, (slot (D 7) (.tuple #[.agg #[.slice A1 5 c1z, .slice A6 n6 c6, .int .i64 f6, .bool d6], .int .i64 e0]) (u86)), (slot (D 0) (.agg #[.slice A1 5 c1z, .slice A9 n9 c9, .int .i64 f9, .bool d9]) (u87)), (slot (D 1) (.int .i64 (q : Int)) (u88)), (slot (D 2) (.slice (some ⟨gp, 0, none⟩) 5 5) (u89)), (slot (D 3) (.int .i64 (q : Int)) (u90)), (slot (D 4) (.pointer (some ⟨gp, q, none⟩)) (u91)), (slot (D 5) (.string ⟨(y).toArray⟩) (u92)), (slot (D 6) (.tuple #[.agg #[.slice A1 5 c1z, .slice A6 n6 c6, .int .i64 f6, .bool d6], .int .i64 e0]) (u93)), (slot (D 8) (.agg #[.slice A1 5 c1z, .slice A6 n6 c6, .int .i64 f6, .bool d6]) (u94)), (slot (D 9) (.int .i64 e0) (u95)), u96, u97, u98, u99, u100, u101, u102, u103, u104, undef, undef, undef, undef, undef, undef, undef, undef, undef, undef, undef, undef, undef, undef, undef, undef, undef, undef, undef, undef, undef, undef, undef, undef, undef, undef, undef, undef, undef, undef], defers := [] } ∧
    (Chg NoB w0 w) ∧
    (D 6 = true → RK w (.slice A1 5 c1z) (.slice A6 n6 c6) K6 5 ∧ (∀ b, RowsOf (.slice A1 5 c1z) (.slice A6 n6 c6) b → RowsOf (.slice A1 5 c1z) (.slice A9 n9 c9) b ∨ w0.heap.size ≤ b)) ∧
    (D 10 = true → w0.heap.size ≤ s10 ∧ (D 6 = true → ¬ RowsOf (.slice A1 5 c1z) (.slice A6 n6 c6) s10)) ∧
    (D 10 = true → D 11 = false → Blk w s10 34 #[.slice none 0 0, .slice none 0 0, .int .i64 0, .bool false]) ∧
    (D 11 = true → Blk w s10 34 #[.slice A1 5 c1z, .slice A6 n6 c6, .int .i64 f6, .bool d6])
set_option maxRecDepth 100000 in
set_option maxHeartbeats 8000000 in
theorem slotsHeaders_walk (a0 : Option Addr) (n0 c0 : Nat) (z0 : List Int) (a1 : Option Addr) (n1 c1 : Nat) (z1 : List Int) (gi wi : Int) (rt : Bool) (W : World) (hr0 : IsRow .u8 W a0 n0 c0 z0) (hr1 : IsRow .u8 W a1 n1 c1 z1) (hgw : (Lit.int .u32 gi).wf = true) (hww : (Lit.int .u8 wi).wf = true) :
    Calls Try.prog 4 #[.slice a0 n0 c0, .slice a1 n1 c1, .int .u32 gi, .int .u8 wi, .bool rt] W fun e W' => e = .returned (.bool true) ∧ Below W.heap.size W W' := by
  obtain ⟨hl, hln, _, hrb, hlc⟩ := hr0.rb
  obtain ⟨bl, bln, _, brb, blc⟩ := hr1.rb
  have HRH := Lib.hid hrb
  have HRBB := Lib.hid brb
  have HLH := Lib.hid hln.symm
  have HLB := Lib.hid bln.symm
  have HCH0 := Lib.hid (show n0 ≤ c0 from by omega)
  have HCB0 := Lib.hid (show n1 ≤ c1 from by omega)
  obtain ⟨gn, rfl⟩ : ∃ gn : Nat, gi = (gn : Int) := ⟨gi.toNat, by simp [Lit.wf, IntKind.min, IntKind.max, IntKind.bits, IntKind.signed] at hgw; omega⟩
  obtain ⟨wn, rfl⟩ : ∃ wn : Nat, wi = (wn : Int) := ⟨wi.toNat, by simp [Lit.wf, IntKind.min, IntKind.max, IntKind.bits, IntKind.signed] at hww; omega⟩
  have hgb : gn < 4294967296 := by simp [Lit.wf, IntKind.min, IntKind.max, IntKind.bits, IntKind.signed] at hgw; omega
  have hwb : wn < 256 := by simp [Lit.wf, IntKind.min, IntKind.max, IntKind.bits, IntKind.signed] at hww; omega
  have HGW := Lib.hid (And.intro hgb hwb)
  clear hr0 hr1 hgw hww hln bln hlc blc hrb brb hgb hwb
  by_cases hb1 : 1024 < n1
  · have hb1i : (1024 : Int) < (n1 : Int) := by omega
    go_enter Try.func4, Try.ntmps4
    go_wp2_with fail
    refine (slives_any W).mono ?_
    rintro e w1 ⟨rfl, hc1⟩
    go_wp2_with fail
    go_ret
    exact ⟨rfl, hc1.no⟩
  have hb1i : (n1 : Int) ≤ 1024 := by omega
  have HB1 := Lib.hid (show n1 ≤ 1024 from by omega)
  clear hb1
  by_cases hb0 : 512 < n0
  · have hb0i : (512 : Int) < (n0 : Int) := by omega
    go_enter Try.func4, Try.ntmps4
    go_wp2_with fail
    refine (slives_any W).mono ?_
    rintro e w1 ⟨rfl, hc1⟩
    go_wp2_with fail
    go_ret
    exact ⟨rfl, hc1.no⟩
  have hb0i : (n0 : Int) ≤ 512 := by omega
  have HB0 := Lib.hid (show n0 ≤ 512 from by omega)
  clear hb0
  go_enter Try.func4, Try.ntmps4
  go_wp2_with fail
  refine (DI.new_ 5 W (by decide) (by decide)).mono ?_
  rintro e w1 ⟨g, F1, rfl, hD1, hc1⟩
  have HD1 := Lib.hid hD1
  have HC1 := Lib.hid hc1
  clear hD1 hc1
  go_wp2_with fail
  have hnew := rnew_ok 5 w1 (by decide) (by decide)
  obtain ⟨K2, hK2⟩ : ∃ K2, K2 = Dk.new ((5 : Nat) : Int) := ⟨_, rfl⟩
  rw [← hK2] at hnew
  refine hnew.mono ?_
  clear hnew
  rintro e w2 ⟨s2, p2, rfl, hr2, hw2, hc2⟩
  obtain ⟨A2, c2, rfl⟩ := own_slice hr2.sure
  obtain ⟨nl, hnl⟩ : ∃ nl, nl = K2.loose.length := ⟨_, rfl⟩
  obtain ⟨A3, c3, hp2⟩ := own_slice hr2.loose
  rw [← hnl] at hp2
  subst hp2
  obtain ⟨fu, hfu⟩ : ∃ fu, fu = K2.fuse := ⟨_, rfl⟩
  obtain ⟨dk, hdk⟩ : ∃ dk, dk = K2.dark := ⟨_, rfl⟩
  have HRK2 := Lib.hid (show rkV (.slice A2 5 c2) (.slice A3 nl c3) K2 = .agg #[.slice A2 5 c2, .slice A3 nl c3, .int .i64 fu, .bool dk] from by rw [hfu, hdk]; rfl)
  rw [HRK2.out]
  have HBK2 := Lib.hid (show BK W.heap.size w2 g F1 (.slice A2 5 c2) (.slice A3 nl c3) K2 5 0 from ⟨by rw [hK2]; exact HD1.out.no hc2, hr2, fun b hb hf => by have h1 := hw2 b hb; have h2 := (HD1.out.rng b hf).2; omega, by rw [hK2]; exact KOk.new_ 5 0⟩)
  have HC2 := Lib.hid (HC1.out.trans hc2 (fun _ _ h => h))
  clear hr2 hw2 hc2 hK2 hnl hfu hdk
  go_upto_region 7 with (first
    | (refine wpList_store_blk rfl 34 _ _ rfl w2.heap.size _ rfl rfl 34 _ (Blk.new w2 _ _) rfl rd_size (by simp [Value.oneCell']) ?_)
    | fail)
  have hbm := (Blk.new w2 34 #[.slice none 0 0, .slice none 0 0, .int .i64 0, .bool false]).row #[.slice A2 5 c2, .slice A3 nl c3, .int .i64 fu, .bool dk]
  have hc3 : Chg NoB w2 ((w2.alloc (.cells #[.slice none 0 0, .slice none 0 0, .int .i64 0, .bool false] 34)).setRow w2.heap.size #[.slice A2 5 c2, .slice A3 nl c3, .int .i64 fu, .bool dk]) := ((Chg.refl NoB w2).alloc _).setRow (.inr (Nat.le_refl _)) _
  generalize hw3 : (w2.alloc (.cells #[.slice none 0 0, .slice none 0 0, .int .i64 0, .bool false] 34)).setRow w2.heap.size #[.slice A2 5 c2, .slice A3 nl c3, .int .i64 fu, .bool dk] = w3 at hbm hc3 ⊢
  obtain ⟨bm, hbme⟩ : ∃ bm, bm = w2.heap.size := ⟨_, rfl⟩
  rw [← hbme] at hbm ⊢
  have HBM3 := Lib.hid hbm
  have HBK3 := Lib.hid (HBK2.out.no hc3)
  have HC3 := Lib.hid (HC2.out.trans hc3 (fun _ _ h => h))
  have HBMO := Lib.hid (show W.heap.size ≤ bm ∧ (¬ F1 bm) ∧ ¬ RowsOf (.slice A2 5 c2) (.slice A3 nl c3) bm from ⟨by rw [hbme]; exact HC2.out.size, fun h => by have := (HBK2.out.di.rng bm h).2; omega, fun h => by have := HBK2.out.rk.lt bm h; omega⟩)
  clear hw3 hbm hc3 hbme HBK2 HD1
  have hrh := RBchg HRH.out HC3.out
  have hrb3 := RBchg HRBB.out HC3.out
  have HRH3 := Lib.hid hrh
  have HRB3 := Lib.hid hrb3
  clear hrh hrb3 HRH HRBB
  obtain ⟨M0, hM0⟩ : ∃ M0, M0 = 512 - n0 := ⟨_, rfl⟩
  obtain ⟨M1, hM1⟩ : ∃ M1, M1 = 1024 - n1 := ⟨_, rfl⟩
  obtain ⟨Z0, hZ0⟩ : ∃ Z0 : List UInt8, Z0 = List.replicate M0 0 := ⟨_, rfl⟩
  obtain ⟨Z1, hZ1⟩ : ∃ Z1 : List UInt8, Z1 = List.replicate M1 0 := ⟨_, rfl⟩
  obtain ⟨m0, hm0⟩ : ∃ m0 : Int, m0 = 512 - (n0 : Int) := ⟨_, rfl⟩
  obtain ⟨m1, hm1⟩ : ∃ m1 : Int, m1 = 1024 - (n1 : Int) := ⟨_, rfl⟩
  have HZ0 := Lib.hid (show Z0 = List.replicate M0 0 ∧ Z0.length = M0 ∧ m0 = (M0 : Int) ∧ M0 + n0 = 512 from ⟨hZ0, by rw [hZ0, List.length_replicate], by have := HB0.out; omega, by have := HB0.out; omega⟩)
  have HZ1 := Lib.hid (show Z1 = List.replicate M1 0 ∧ Z1.length = M1 ∧ m1 = (M1 : Int) ∧ M1 + n1 = 1024 from ⟨hZ1, by rw [hZ1, List.length_replicate], by have := HB1.out; omega, by have := HB1.out; omega⟩)
  have HM0 := Lib.hid hm0
  have HM1 := Lib.hid hm1
  have HW0 := Lib.hid (show RowKit.wrap64 (512 - (n0 : Int)) = m0 from by rw [← hm0]; exact IntWalk.wrap64_in _ (by have := HB0.out; omega))
  have HW1 := Lib.hid (show RowKit.wrap64 (1024 - (n1 : Int)) = m1 from by rw [← hm1]; exact IntWalk.wrap64_in _ (by have := HB1.out; omega))
  clear hM0 hM1 hZ0 hZ1 hm0 hm1
  generalize decide ((1024 : Int) < (n1 : Int)) = e30
  generalize decide ((512 : Int) < (n0 : Int)) = e34
  generalize (e30 || e34) = e35
  generalize (Value.agg #[.slice A2 5 c2, .slice A3 nl c3, .int .i64 fu, .bool dk]) = q3
  generalize (Value.tuple #[.pointer (some ⟨g, 0, none⟩), .int .i64 0]) = q1
  generalize (Value.tuple #[q3, .int .i64 0]) = q2
  refine wp_region_cl rfl (by kernel_rfl) (InvSH7 g bm n0 n1 c0 c1 gn wn M0 m0 a0 a1 rt e30 e34 e35 q1 q2 q3 hl Z0 w3) ?_ ?_ ?_
  · exact ⟨0, rfl, (Chg.refl _ _).drew, (fun h => by cases h)⟩
  ·
    intro D a w i o ho hD hcl hpre hI
    obtain ⟨s5, rfl, h0, h5⟩ := hI
    have hi : i < 9 := by have := (List.getElem?_eq_some_iff.1 ho).1; simpa using this
    rcases (by omega : i = 0 ∨ i = 1 ∨ i = 2 ∨ i = 3 ∨ i = 4 ∨ i = 5 ∨ i = 6 ∨ i = 7 ∨ i = 8) with rfl | rfl | rfl | rfl | rfl | rfl | rfl | rfl | rfl
    · obtain rfl := Option.some.inj ho
      clear ho hpre hi hcl
      go_wp2_with fail
      unfold AtEnd
      exact ⟨s5, rfl, h0, fun h => h5 (by simpa [more] using h)⟩
    · obtain rfl := Option.some.inj ho
      have z0 := hpre ⟨0, .data⟩ (by simp) rfl
      clear ho hpre hi hcl
      have hst := (RBchg HRH3.out h0).toStr (n := n0) HLH.out c0 Try.underlying25 Try.underlying5 Try.underlying9
      simp only [z0, slot_true]
      go_wp2_with fail
      unfold AtEnd
      exact ⟨s5, by simp only [more, slot_true, slot_false, Nat.reduceEqDiff, ↓reduceIte, z0], h0, fun h => h5 (by simpa [more] using h)⟩
    · obtain rfl := Option.some.inj ho
      clear ho hpre hi hcl
      go_wp2_with fail
      unfold AtEnd
      exact ⟨s5, rfl, h0, fun h => h5 (by simpa [more] using h)⟩
    · obtain rfl := Option.some.inj ho
      have z2 := hpre ⟨2, .data⟩ (by simp) rfl
      clear ho hpre hi hcl
      go_wp2_with fail
      unfold AtEnd
      exact ⟨s5, by simp only [more, slot_true, slot_false, Nat.reduceEqDiff, ↓reduceIte, z2], h0, fun h => h5 (by simpa [more] using h)⟩
    · obtain rfl := Option.some.inj ho
      have z3 := hpre ⟨3, .data⟩ (by simp) rfl
      clear ho hpre hi hcl
      have hw := HW0.out
      simp only [z3, slot_true]
      go_wp2_with fail
      rw [← HM0.out]
      unfold AtEnd
      exact ⟨s5, by simp only [more, slot_true, slot_false, Nat.reduceEqDiff, ↓reduceIte, z3], h0, fun h => h5 (by simpa [more] using h)⟩
    · obtain rfl := Option.some.inj ho
      have z4 := hpre ⟨4, .data⟩ (by simp) rfl
      clear ho hpre hi hcl
      have hmz := make_zN M0 (by have := HZ0.out.2.2.2; omega) m0 HZ0.out.2.2.1 w
      rw [← HZ0.out.1] at hmz
      simp only [z4, slot_true]
      go_wp2_with fail
      unfold AtEnd
      exact ⟨w.heap.size, by simp only [more, slot_true, slot_false, Nat.reduceEqDiff, ↓reduceIte, z4], h0.alloc _, fun _ => RB.of_row (heap_alloc_new _ _) _ (by simp) (by show _ < (Array.push _ _).size; rw [Array.size_push]; omega)⟩
    · obtain rfl := Option.some.inj ho
      have z5 := hpre ⟨5, .data⟩ (by simp) rfl
      clear ho hpre hi hcl
      have hst := (h5 z5).toStr (n := M0) HZ0.out.2.1 M0 Try.underlying25 Try.underlying5 Try.underlying9
      simp only [z5, slot_true]
      go_wp2_with fail
      unfold AtEnd
      exact ⟨s5, by simp only [more, slot_true, slot_false, Nat.reduceEqDiff, ↓reduceIte, z5], h0, fun h => h5 (by simpa [more] using h)⟩
    · obtain rfl := Option.some.inj ho
      have z1 := hpre ⟨1, .data⟩ (by simp) rfl
      have z6 := hpre ⟨6, .data⟩ (by simp) rfl
      clear ho hpre hi hcl
      have ha := run_add_lists Try.prog hl Z0 (by have h1 := HLH.out; have h2 := HZ0.out.2.1; have h3 := HZ0.out.2.2.2; omega) w
      simp only [z1, z6, slot_true]
      go_wp2_with fail
      unfold AtEnd
      exact ⟨s5, by simp only [more, slot_true, slot_false, Nat.reduceEqDiff, ↓reduceIte, z1, z6], h0, fun h => h5 (by simpa [more] using h)⟩
    · obtain rfl := Option.some.inj ho
      have z7 := hpre ⟨7, .data⟩ (by simp) rfl
      clear ho hpre hi hcl
      go_wp2_with fail
      unfold AtEnd
      exact ⟨s5, by simp only [more, slot_true, slot_false, Nat.reduceEqDiff, ↓reduceIte, z7], h0, fun h => h5 (by simpa [more] using h)⟩
  · intro D a w hall hI
    obtain ⟨s5, rfl, h0, h5⟩ := hI
    have z0 := hall 0 (by decide)
    have z1 := hall 1 (by decide)
    have z2 := hall 2 (by decide)
    have z3 := hall 3 (by decide)
    have z4 := hall 4 (by decide)
    have z5 := hall 5 (by decide)
    have z6 := hall 6 (by decide)
    have z7 := hall 7 (by decide)
    have z8 := hall 8 (by decide)
    clear hall h5
    simp only [z0, z1, z2, z3, z4, z5, z6, z7, z8, slot_true]
    clear z0 z1 z2 z3 z4 z5 z6 z7 z8
    obtain ⟨f0, hf0⟩ : ∃ f0, f0 = hl ++ Z0 := ⟨_, rfl⟩
    rw [← hf0]
    have HF0 := Lib.hid (show f0.length = 512 from by rw [hf0, List.length_append, HZ0.out.2.1, HLH.out]; have := HZ0.out.2.2.2; omega)
    have HC4 := Lib.hid (HC3.out.trans h0 (fun _ _ h => h))
    have HC34 := Lib.hid h0
    clear h0 hf0
    obtain ⟨w4, hw4⟩ : ∃ w4, w4 = w := ⟨_, rfl⟩
    rw [← hw4] at HC4 HC34 ⊢
    clear hw4
    go_upto_if 55 with (fail)
    go_cut [15] from 47 to 63 (fun v wx => ∃ f1 : List UInt8, v = .string ⟨f1.toArray⟩ ∧ RowKit.Hid (f1.length = 512) ∧ RowKit.Hid (Chg NoB w3 wx))
    case first =>
      cases rt with
      | false =>
        go_wp2_with fail
        go_meet
        case rel => exact ⟨f0, rfl, HF0, HC34⟩
      | true =>
        have hst := (RBchg HRB3.out HC34.out).toStr (n := n1) HLB.out c1 Try.underlying25 Try.underlying5 Try.underlying9
        go_wp2_with fail
        have hwg : RowKit.wrap64 (gn : Int) = (gn : Int) := IntWalk.wrap64_in _ (by have := HGW.out.1; omega)
        rw [hwg, show ((wn : Int) % 3) = ((wn % 3 : Nat) : Int) from by omega]
        refine (rheader_any gn (wn % 3) bl HGW.out.1 (by omega) (by have h1 := HLB.out; have h2 := HB1.out; omega) w4).mono ?_
        rintro e w5 ⟨rfl, hc5⟩
        have HC5 := Lib.hid (HC34.out.trans hc5 (fun _ _ h => h))
        clear hc5
        go_wp2_with fail
        go_meet
        case rel => exact ⟨_, rfl, Lib.hid (hdr_len _ _ _ _), HC5⟩
    case rest =>
      obtain ⟨f1, rfl, HF1, HC5⟩ := hcut
      obtain ⟨w5, hw5⟩ : ∃ w5, w5 = wc := ⟨_, rfl⟩
      rw [← hw5] at HC5 ⊢
      clear hw5
      have hrb5 := RBchg HRB3.out HC5.out
      have HRB5 := Lib.hid hrb5
      clear hrb5 HC34 HC4
      go_upto_region 10 with (fail)
      refine wp_region_cl rfl (by kernel_rfl) (InvSH10 g bm n0 n1 c0 c1 gn wn M1 m1 a0 a1 rt e30 e34 e35 q1 q2 q3 u47 u48 u49 u50 u51 u52 u53 u54 u55 u56 u57 u58 u59 u60 u61 u62 u63 f1 bl Z1 w5) ?_ ?_ ?_
      · exact ⟨0, rfl, (Chg.refl _ _).drew, (fun h => by cases h)⟩
      ·
        intro D a w i o ho hD hcl hpre hI
        obtain ⟨s5, rfl, h0, h5⟩ := hI
        have hi : i < 9 := by have := (List.getElem?_eq_some_iff.1 ho).1; simpa using this
        rcases (by omega : i = 0 ∨ i = 1 ∨ i = 2 ∨ i = 3 ∨ i = 4 ∨ i = 5 ∨ i = 6 ∨ i = 7 ∨ i = 8) with rfl | rfl | rfl | rfl | rfl | rfl | rfl | rfl | rfl
        · obtain rfl := Option.some.inj ho
          clear ho hpre hi hcl
          go_wp2_with fail
          unfold AtEnd
          exact ⟨s5, rfl, h0, fun h => h5 (by simpa [more] using h)⟩
        · obtain rfl := Option.some.inj ho
          have z0 := hpre ⟨0, .data⟩ (by simp) rfl
          clear ho hpre hi hcl
          have hst := (RBchg HRB5.out h0).toStr (n := n1) HLB.out c1 Try.underlying25 Try.underlying5 Try.underlying9
          simp only [z0, slot_true]
          go_wp2_with fail
          unfold AtEnd
          exact ⟨s5, by simp only [more, slot_true, slot_false, Nat.reduceEqDiff, ↓reduceIte, z0], h0, fun h => h5 (by simpa [more] using h)⟩
        · obtain rfl := Option.some.inj ho
          clear ho hpre hi hcl
          go_wp2_with fail
          unfold AtEnd
          exact ⟨s5, rfl, h0, fun h => h5 (by simpa [more] using h)⟩
        · obtain rfl := Option.some.inj ho
          have z2 := hpre ⟨2, .data⟩ (by simp) rfl
          clear ho hpre hi hcl
          go_wp2_with fail
          unfold AtEnd
          exact ⟨s5, by simp only [more, slot_true, slot_false, Nat.reduceEqDiff, ↓reduceIte, z2], h0, fun h => h5 (by simpa [more] using h)⟩
        · obtain rfl := Option.some.inj ho
          have z3 := hpre ⟨3, .data⟩ (by simp) rfl
          clear ho hpre hi hcl
          have hw := HW1.out
          simp only [z3, slot_true]
          go_wp2_with fail
          rw [← HM1.out]
          unfold AtEnd
          exact ⟨s5, by simp only [more, slot_true, slot_false, Nat.reduceEqDiff, ↓reduceIte, z3], h0, fun h => h5 (by simpa [more] using h)⟩
        · obtain rfl := Option.some.inj ho
          have z4 := hpre ⟨4, .data⟩ (by simp) rfl
          clear ho hpre hi hcl
          have hmz := make_zN M1 (by have := HZ1.out.2.2.2; omega) m1 HZ1.out.2.2.1 w
          rw [← HZ1.out.1] at hmz
          simp only [z4, slot_true]
          go_wp2_with fail
          unfold AtEnd
          exact ⟨w.heap.size, by simp only [more, slot_true, slot_false, Nat.reduceEqDiff, ↓reduceIte, z4], h0.alloc _, fun _ => RB.of_row (heap_alloc_new _ _) _ (by simp) (by show _ < (Array.push _ _).size; rw [Array.size_push]; omega)⟩
        · obtain rfl := Option.some.inj ho
          have z5 := hpre ⟨5, .data⟩ (by simp) rfl
          clear ho hpre hi hcl
          have hst := (h5 z5).toStr (n := M1) HZ1.out.2.1 M1 Try.underlying25 Try.underlying5 Try.underlying9
          simp only [z5, slot_true]
          go_wp2_with fail
          unfold AtEnd
          exact ⟨s5, by simp only [more, slot_true, slot_false, Nat.reduceEqDiff, ↓reduceIte, z5], h0, fun h => h5 (by simpa [more] using h)⟩
        · obtain rfl := Option.some.inj ho
          have z1 := hpre ⟨1, .data⟩ (by simp) rfl
          have z6 := hpre ⟨6, .data⟩ (by simp) rfl
          clear ho hpre hi hcl
          have ha := run_add_lists Try.prog bl Z1 (by have h1 := HLB.out; have h2 := HZ1.out.2.1; have h3 := HZ1.out.2.2.2; omega) w
          simp only [z1, z6, slot_true]
          go_wp2_with fail
          unfold AtEnd
          exact ⟨s5, by simp only [more, slot_true, slot_false, Nat.reduceEqDiff, ↓reduceIte, z1, z6], h0, fun h => h5 (by simpa [more] using h)⟩
        · obtain rfl := Option.some.inj ho
          have z7 := hpre ⟨7, .data⟩ (by simp) rfl
          clear ho hpre hi hcl
          go_wp2_with fail
          unfold AtEnd
          exact ⟨s5, by simp only [more, slot_true, slot_false, Nat.reduceEqDiff, ↓reduceIte, z7], h0, fun h => h5 (by simpa [more] using h)⟩
      · intro D a w hall hI
        obtain ⟨s5, rfl, h0, h5⟩ := hI
        have z0 := hall 0 (by decide)
        have z1 := hall 1 (by decide)
        have z2 := hall 2 (by decide)
        have z3 := hall 3 (by decide)
        have z4 := hall 4 (by decide)
        have z5 := hall 5 (by decide)
        have z6 := hall 6 (by decide)
        have z7 := hall 7 (by decide)
        have z8 := hall 8 (by decide)
        clear hall h5
        simp only [z0, z1, z2, z3, z4, z5, z6, z7, z8, slot_true]
        clear z0 z1 z2 z3 z4 z5 z6 z7 z8
        obtain ⟨al, hal⟩ : ∃ al, al = bl ++ Z1 := ⟨_, rfl⟩
        rw [← hal]
        have HAL := Lib.hid (show al.length = 1024 from by rw [hal, List.length_append, HZ1.out.2.1, HLB.out]; have := HZ1.out.2.2.2; omega)
        have HC6 := Lib.hid (HC5.out.trans h0 (fun _ _ h => h))
        clear h0 hal
        obtain ⟨w6, hw6⟩ : ∃ w6, w6 = w := ⟨_, rfl⟩
        rw [← hw6] at HC6 ⊢
        clear hw6
        go_upto_region 11 with (fail)
        obtain ⟨p1, hp1⟩ : ∃ p1, p1 = al.take 512 := ⟨_, rfl⟩
        obtain ⟨p2, hp2⟩ : ∃ p2, p2 = al.drop 512 := ⟨_, rfl⟩
        have hlo : ∀ w, (Instr.slice 9 (.string ⟨al.toArray⟩) none (some (.int .i64 512)) none).run Try.prog w = .ok (.string ⟨p1.toArray⟩) w := by rw [hp1]; exact cut_lo al HAL.out
        have hhi : ∀ w, (Instr.slice 9 (.string ⟨al.toArray⟩) (some (.int .i64 512)) none none).run Try.prog w = .ok (.string ⟨p2.toArray⟩) w := by rw [hp2]; exact cut_hi al HAL.out
        have HP1 := Lib.hid (show p1.length = 512 from by rw [hp1, List.length_take, HAL.out]; rfl)
        have HP2 := Lib.hid (show p2.length = 512 from by rw [hp2, List.length_drop, HAL.out])
        clear hp1 hp2
        go_still_tail 9, (by kernel_rfl)
        change wpList _ _ _ _ _ w6.drew
        have HC7 := Lib.hid (HC6.out.drew)
        generalize hwd : w6.drew = w7 at HC7 ⊢
        clear hwd hlo hhi
        go_wp2_with fail
        have hbs := Blk.new w7 9 #[.string ⟨f1.toArray⟩, .string ⟨p1.toArray⟩, .string ⟨p2.toArray⟩, .string ⟨p1.toArray⟩, .string ⟨p2.toArray⟩]
        have hc8 := (Chg.refl NoB w7).alloc (.cells #[.string ⟨f1.toArray⟩, .string ⟨p1.toArray⟩, .string ⟨p2.toArray⟩, .string ⟨p1.toArray⟩, .string ⟨p2.toArray⟩] 9)
        obtain ⟨PZ, hPZ⟩ : ∃ PZ : Array Value, PZ = #[.string ⟨f1.toArray⟩, .string ⟨p1.toArray⟩, .string ⟨p2.toArray⟩, .string ⟨p1.toArray⟩, .string ⟨p2.toArray⟩] := ⟨_, rfl⟩
        rw [← hPZ] at hbs hc8 ⊢
        generalize hw8 : w7.alloc (.cells PZ 9) = w8 at hbs hc8 ⊢
        obtain ⟨gp, hgp⟩ : ∃ gp, gp = w7.heap.size := ⟨_, rfl⟩
        rw [← hgp] at hbs ⊢
        have HPZ := Lib.hid (show ∀ q, q < 5 → ∃ y : List UInt8, PZ[q]? = some (.string ⟨y.toArray⟩) ∧ y.length = 512 from by
          intro q hq
          rw [hPZ]
          rcases (by omega : q = 0 ∨ q = 1 ∨ q = 2 ∨ q = 3 ∨ q = 4) with rfl | rfl | rfl | rfl | rfl
          · exact ⟨f1, rfl, HF1.out⟩
          · exact ⟨p1, rfl, HP1.out⟩
          · exact ⟨p2, rfl, HP2.out⟩
          · exact ⟨p1, rfl, HP1.out⟩
          · exact ⟨p2, rfl, HP2.out⟩)
        have HC38 := Lib.hid (HC7.out.trans hc8 (fun _ _ h => h))
        have HBP := Lib.hid hbs
        have HBK8 := Lib.hid (HBK3.out.no HC38.out)
        have HGP := Lib.hid (show W.heap.size ≤ gp ∧ (¬ F1 gp) ∧ ¬ RowsOf (.slice A2 5 c2) (.slice A3 nl c3) gp from ⟨by rw [hgp]; have := (HC3.out.trans HC7.out (fun _ _ h => h)).size; exact this, fun h => by have := (HBK3.out.di.rng gp h).2; have h2 := HC7.out.size; omega, fun h => by have := HBK3.out.rk.lt gp h; have h2 := HC7.out.size; omega⟩)
        have HBM8 := Lib.hid (HBM3.out.chg HC38.out (fun h => h))
        have HC8 := Lib.hid (HC3.out.trans HC38.out (fun _ _ h => h))
        have HNE := Lib.hid (show gp ≠ bm from fun e => by have h1 := HBM3.out.lt; have h2 := HC7.out.size; omega)
        clear hw8 hgp hPZ hbs hc8 HC7 HBK3 HBM3
        go_loopw [18] (fun i wr => ∃ (q : Nat) (K : Dk) (F : Nat → Prop) (s p : Value), q ≤ 5 ∧ i = .int .i64 (q : Int) ∧ RowKit.Hid (BK W.heap.size wr g F s p K 5 q) ∧ RowKit.Hid (Blk wr bm 34 (rdC s p K.fuse K.dark)) ∧ RowKit.Hid ((¬ F bm) ∧ (¬ RowsOf s p bm) ∧ (¬ F gp) ∧ ¬ RowsOf s p gp) ∧ RowKit.Hid (Blk wr gp 9 PZ) ∧ RowKit.Hid (Chg NoB W wr)) (fun i _ => 5 - (intOf i).toNat)
        case atStart => exact ⟨0, K2, F1, _, _, by decide, rfl, HBK8, Lib.hid (by rw [show rdC (.slice A2 5 c2) (.slice A3 nl c3) K2.fuse K2.dark = #[.slice A2 5 c2, .slice A3 nl c3, .int .i64 fu, .bool dk] from by have h := HRK2.out; unfold rkV at h; injection h]; exact HBM8.out), Lib.hid ⟨HBMO.out.2.1, HBMO.out.2.2, HGP.out.2.1, HGP.out.2.2⟩, HBP, HC8⟩
        case round =>
          obtain ⟨q, K, F, s, p, hq, rfl, HBK, HBM, HAP, HGPB, HCW⟩ := hrel
          by_cases hlt : q < 5
          · obtain ⟨A1, c1', rfl⟩ := own_slice HBK.out.rk.sure
            obtain ⟨A9, c9, hp9⟩ := own_slice HBK.out.rk.loose
            obtain ⟨n9, hn9⟩ : ∃ n9, n9 = K.loose.length := ⟨_, rfl⟩
            rw [← hn9] at hp9
            subst hp9
            obtain ⟨f9, hf9⟩ : ∃ f9, f9 = K.fuse := ⟨_, rfl⟩
            obtain ⟨d9, hd9⟩ : ∃ d9, d9 = K.dark := ⟨_, rfl⟩
            have HRK := Lib.hid (show rkV (.slice A1 5 c1') (.slice A9 n9 c9) K = .agg #[.slice A1 5 c1', .slice A9 n9 c9, .int .i64 f9, .bool d9] from by rw [hf9, hd9]; rfl)
            have HBM2 := Lib.hid (show Blk wr bm 34 #[.slice A1 5 c1', .slice A9 n9 c9, .int .i64 f9, .bool d9] from by rw [hf9, hd9]; exact HBM.out)
            obtain ⟨y, hy, hyl⟩ := HPZ.out q hlt
            have HY := Lib.hid hy
            have HYL := Lib.hid hyl
            obtain ⟨K6, hK6⟩ : ∃ K6, K6 = K.write (q : Int) y := ⟨_, rfl⟩
            obtain ⟨e0, he0⟩ : ∃ e0, e0 = writeE K (q : Int) y := ⟨_, rfl⟩
            obtain ⟨n6, hn6⟩ : ∃ n6, n6 = K6.loose.length := ⟨_, rfl⟩
            obtain ⟨f6, hf6⟩ : ∃ f6, f6 = K6.fuse := ⟨_, rfl⟩
            obtain ⟨d6, hd6⟩ : ∃ d6, d6 = K6.dark := ⟨_, rfl⟩
            have HK6 := Lib.hid hK6
            have HE0 := Lib.hid he0
            have HN6 := Lib.hid hn6
            have HFD6 := Lib.hid (And.intro hf6 hd6)
            have hlti : (q : Int) < 5 := by omega
            have HQ := Lib.hid hlt
            clear hn9 hf9 hd9 hK6 he0 hn6 hf6 hd6 hy hyl HBM hq hlt
            go_upto_region 15 with (fail)
            refine wp_region_cl rfl (by kernel_rfl) (InvSH15 gp q n9 c9 c1' n6 s5 g bm n0 n1 M1 c0 c1 gn wn m1 f9 f6 e0 A1 A9 a0 a1 d9 d6 rt e30 e34 e35 q1 q2 q3 u47 u48 u49 u50 u51 u52 u53 u54 u55 u56 u57 u58 u59 u60 u61 u62 u63 u19 u20 u84 u85 u86 u87 u88 u89 u90 u91 u92 u93 u94 u95 u96 u97 u98 u99 u100 u101 u102 u103 u104 K6 f1 al p1 p2 bl Z1 y wr) ?_ ?_ ?_
            · exact ⟨0, none, 0, rfl, (Chg.refl _ _).drew, (fun h => by cases h), (fun h => by cases h), (fun h => by cases h), (fun h => by cases h)⟩
            ·
              intro D a w i o ho hD hcl hpre hI
              obtain ⟨s10, A6, c6, rfl, h0, h6, h10, h11, h12⟩ := hI
              have hi : i < 13 := by have := (List.getElem?_eq_some_iff.1 ho).1; simpa using this
              rcases (by omega : i = 0 ∨ i = 1 ∨ i = 2 ∨ i = 3 ∨ i = 4 ∨ i = 5 ∨ i = 6 ∨ i = 7 ∨ i = 8 ∨ i = 9 ∨ i = 10 ∨ i = 11 ∨ i = 12) with rfl | rfl | rfl | rfl | rfl | rfl | rfl | rfl | rfl | rfl | rfl | rfl | rfl
              · obtain rfl := Option.some.inj ho
                clear ho hpre hi hcl
                have hb := HBM2.out.chg h0 (fun h => h)
                go_wp2_with (first
                  | (refine wpList_load_row rfl 34 _ rfl bm rfl 34 _ (0, 0) _ hb Try.underlying34 rfl rd_size ?_)
                  | fail)
                unfold AtEnd
                exact ⟨s10, A6, c6, rfl, h0, fun h => h6 (by simpa [more] using h), fun h => ⟨(h10 (by simpa [more] using h)).1, fun h2 => (h10 (by simpa [more] using h)).2 (by simpa [more] using h2)⟩, fun h h2 => h11 (by simpa [more] using h) (by simpa [more] using h2), fun h => h12 (by simpa [more] using h)⟩
              · obtain rfl := Option.some.inj ho
                clear ho hpre hi hcl
                go_wp2_with fail
                unfold AtEnd
                exact ⟨s10, A6, c6, rfl, h0, fun h => h6 (by simpa [more] using h), fun h => ⟨(h10 (by simpa [more] using h)).1, fun h2 => (h10 (by simpa [more] using h)).2 (by simpa [more] using h2)⟩, fun h h2 => h11 (by simpa [more] using h) (by simpa [more] using h2), fun h => h12 (by simpa [more] using h)⟩
              · obtain rfl := Option.some.inj ho
                clear ho hpre hi hcl
                go_wp2_with fail
                unfold AtEnd
                exact ⟨s10, A6, c6, rfl, h0, fun h => h6 (by simpa [more] using h), fun h => ⟨(h10 (by simpa [more] using h)).1, fun h2 => (h10 (by simpa [more] using h)).2 (by simpa [more] using h2)⟩, fun h h2 => h11 (by simpa [more] using h) (by simpa [more] using h2), fun h => h12 (by simpa [more] using h)⟩
              · obtain rfl := Option.some.inj ho
                clear ho hpre hi hcl
                go_wp2_with fail
                unfold AtEnd
                exact ⟨s10, A6, c6, rfl, h0, fun h => h6 (by simpa [more] using h), fun h => ⟨(h10 (by simpa [more] using h)).1, fun h2 => (h10 (by simpa [more] using h)).2 (by simpa [more] using h2)⟩, fun h h2 => h11 (by simpa [more] using h) (by simpa [more] using h2), fun h => h12 (by simpa [more] using h)⟩
              · obtain rfl := Option.some.inj ho
                have z2 := hpre ⟨2, .data⟩ (by simp) rfl
                have z3 := hpre ⟨3, .data⟩ (by simp) rfl
                clear ho hpre hi hcl
                simp only [z2, z3, slot_true]
                have hqi := HQ.out
                have hqi2 : (q : Int) < 5 := by omega
                go_wp2_with fail
                unfold AtEnd
                exact ⟨s10, A6, c6, by simp only [more, slot_true, slot_false, Nat.reduceEqDiff, ↓reduceIte, z2, z3], h0, fun h => h6 (by simpa [more] using h), fun h => ⟨(h10 (by simpa [more] using h)).1, fun h2 => (h10 (by simpa [more] using h)).2 (by simpa [more] using h2)⟩, fun h h2 => h11 (by simpa [more] using h) (by simpa [more] using h2), fun h => h12 (by simpa [more] using h)⟩
              · obtain rfl := Option.some.inj ho
                have z4 := hpre ⟨4, .data⟩ (by simp) rfl
                clear ho hpre hi hcl
                have hcc := (HGPB.out.chg h0 (fun h => h)).cell q
                rw [HY.out] at hcc
                simp only [z4, slot_true]
                go_wp2_with fail
                unfold AtEnd
                exact ⟨s10, A6, c6, by simp only [more, slot_true, slot_false, Nat.reduceEqDiff, ↓reduceIte, z4], h0, fun h => h6 (by simpa [more] using h), fun h => ⟨(h10 (by simpa [more] using h)).1, fun h2 => (h10 (by simpa [more] using h)).2 (by simpa [more] using h2)⟩, fun h h2 => h11 (by simpa [more] using h) (by simpa [more] using h2), fun h => h12 (by simpa [more] using h)⟩
              · obtain rfl := Option.some.inj ho
                have z0 := hpre ⟨0, .data⟩ (by simp) rfl
                have z1 := hpre ⟨1, .data⟩ (by simp) rfl
                have z5 := hpre ⟨5, .data⟩ (by simp) rfl
                have d7 : D 7 = false := (hcl.not_ 7 _ rfl 0 _ rfl rfl hD)
                have d8 : D 8 = false := (hcl.not_ 8 _ rfl 0 _ rfl rfl (hcl.not_ 7 _ rfl 0 _ rfl rfl hD))
                have d11 : D 11 = false := (hcl.not_ 11 _ rfl 2 _ rfl rfl hD)
                clear ho hpre hi hcl
                have H0 := Lib.hid h0
                have H10 := Lib.hid h10
                have H11 := Lib.hid h11
                have H12 := Lib.hid h12
                have D6 := Lib.hid hD
                clear h0 h6 h10 h11 h12 hD
                simp only [z0, z1, z5, slot_true]
                go_wp2_with fail
                have hcall := rwrite_any K 5 w (HBK.out.rk.no H0.out) (by have h1 := HBK.out.ok.loose; have h2 := HQ.out; omega) (q : Int) y (by rw [HYL.out]; decide)
                rw [HRK.out, show strV y = .string ⟨y.toArray⟩ from rfl, ← HK6.out, ← HE0.out] at hcall
                refine hcall.mono ?_
                clear hcall
                rintro e w7 ⟨p6, rfl, hr6, hrow, hc7⟩
                obtain ⟨B6, k6, hp6⟩ := own_slice hr6.loose
                rw [← HN6.out] at hp6
                subst hp6
                rw [show rkV (.slice A1 5 c1') (.slice B6 n6 k6) K6 = .agg #[.slice A1 5 c1', .slice B6 n6 k6, .int .i64 f6, .bool d6] from by rw [HFD6.out.1, HFD6.out.2]; rfl]
                have HR6 := Lib.hid hr6
                have HROW := Lib.hid hrow
                have HCC7 := Lib.hid hc7
                clear hr6 hrow hc7
                go_wp2_with fail
                have hsz0 := H0.out.size
                have hsz7 := HCC7.out.size
                unfold AtEnd
                exact ⟨s10, B6, k6, by simp only [more, slot_true, slot_false, Nat.reduceEqDiff, ↓reduceIte, z0, z1, z5, d7, d8, d11], H0.out.trans HCC7.out (fun _ _ h => h), fun _ => ⟨HR6.out, fun b hb => (HROW.out b hb).imp id (fun h => by omega)⟩, fun h => ⟨(H10.out (by simpa [more] using h)).1, fun _ hr => (HROW.out _ hr).elim (fun h1 => by have h2 := HBK.out.rk.lt _ h1; have h3 := (H10.out (by simpa [more] using h)).1; omega) (fun h1 => by have h2 := (H11.out (by simpa [more] using h) d11).lt; omega)⟩, fun h h2 => (H11.out (by simpa [more] using h) (by simpa [more] using h2)).chg HCC7.out (fun h => h), fun h => by simp [more, d11] at h⟩
              · obtain rfl := Option.some.inj ho
                have z6 := hpre ⟨6, .data⟩ (by simp) rfl
                clear ho hpre hi hcl
                go_wp2_with fail
                unfold AtEnd
                exact ⟨s10, A6, c6, by simp only [more, slot_true, slot_false, Nat.reduceEqDiff, ↓reduceIte, z6], h0, fun h => h6 (by simpa [more] using h), fun h => ⟨(h10 (by simpa [more] using h)).1, fun h2 => (h10 (by simpa [more] using h)).2 (by simpa [more] using h2)⟩, fun h h2 => h11 (by simpa [more] using h) (by simpa [more] using h2), fun h => h12 (by simpa [more] using h)⟩
              · obtain rfl := Option.some.inj ho
                have z7 := hpre ⟨7, .data⟩ (by simp) rfl
                clear ho hpre hi hcl
                simp only [z7, slot_true]
                go_wp2_with fail
                unfold AtEnd
                exact ⟨s10, A6, c6, by simp only [more, slot_true, slot_false, Nat.reduceEqDiff, ↓reduceIte, z7], h0, fun h => h6 (by simpa [more] using h), fun h => ⟨(h10 (by simpa [more] using h)).1, fun h2 => (h10 (by simpa [more] using h)).2 (by simpa [more] using h2)⟩, fun h h2 => h11 (by simpa [more] using h) (by simpa [more] using h2), fun h => h12 (by simpa [more] using h)⟩
              · obtain rfl := Option.some.inj ho
                have z7 := hpre ⟨7, .data⟩ (by simp) rfl
                clear ho hpre hi hcl
                simp only [z7, slot_true]
                go_wp2_with fail
                unfold AtEnd
                exact ⟨s10, A6, c6, by simp only [more, slot_true, slot_false, Nat.reduceEqDiff, ↓reduceIte, z7], h0, fun h => h6 (by simpa [more] using h), fun h => ⟨(h10 (by simpa [more] using h)).1, fun h2 => (h10 (by simpa [more] using h)).2 (by simpa [more] using h2)⟩, fun h h2 => h11 (by simpa [more] using h) (by simpa [more] using h2), fun h => h12 (by simpa [more] using h)⟩
              · obtain rfl := Option.some.inj ho
                have d11 : D 11 = false := (hcl.not_ 11 _ rfl 0 _ rfl rfl hD)
                clear ho hpre hi hcl
                have H0 := Lib.hid h0
                have H6 := Lib.hid h6
                have D10 := Lib.hid hD
                clear h0 h6 h10 h11 h12 hD
                go_wp2_with fail
                have hsz0 := H0.out.size
                unfold AtEnd
                exact ⟨w.heap.size, A6, c6, by simp only [more, slot_true, slot_false, Nat.reduceEqDiff, ↓reduceIte, d11], H0.out.alloc _, fun h => ⟨(H6.out (by simpa [more] using h)).1.no ((Chg.refl _ _).alloc _), (H6.out (by simpa [more] using h)).2⟩, fun _ => ⟨hsz0, fun h2 hr => by have h3 := (H6.out (by simpa [more] using h2)).1.lt _ hr; omega⟩, fun _ _ => Blk.new _ _ _, fun h => by simp [more, d11] at h⟩
              · obtain rfl := Option.some.inj ho
                have z10 := hpre ⟨10, .data⟩ (by simp) rfl
                have z8 := hpre ⟨8, .data⟩ (by simp) rfl
                have z6 := hpre ⟨6, .chain⟩ (by simp) rfl
                clear ho hpre hi hcl
                have H0 := Lib.hid h0
                have H6 := Lib.hid (h6 z6)
                have H10 := Lib.hid (h10 z10)
                have H11 := Lib.hid (h11 z10 hD)
                clear h0 h6 h10 h11 h12
                simp only [z8, z10, slot_true]
                go_wp2_with (first
                  | (refine wpList_store_blk rfl 34 _ _ rfl s10 _ rfl rfl 34 _ H11.out rfl rd_size (by simp [Value.oneCell']) ?_)
                  | fail)
                unfold AtEnd
                exact ⟨s10, A6, c6, by simp only [more, slot_true, slot_false, Nat.reduceEqDiff, ↓reduceIte, z10, z8, z6], H0.out.setRow (.inr H10.out.1) _, fun _ => ⟨H6.out.1.chg (S := fun b => b = s10) (Chg.setRow (S := fun b => b = s10) (Chg.refl _ _) (g := s10) (.inl rfl) _) (fun b hb e => by subst e; exact H10.out.2 z6 hb), H6.out.2⟩, fun _ => H10.out, fun _ h => by simp [more] at h, fun _ => H11.out.row _⟩
              · obtain rfl := Option.some.inj ho
                have z9 := hpre ⟨9, .data⟩ (by simp) rfl
                have z11 := hpre ⟨11, .chain⟩ (by simp) rfl
                clear ho hpre hi hcl
                simp only [z9, slot_true]
                go_wp2_with fail
                unfold AtEnd
                exact ⟨s10, A6, c6, by simp only [more, slot_true, slot_false, Nat.reduceEqDiff, ↓reduceIte, z9, z11], h0, fun h => h6 (by simpa [more] using h), fun h => ⟨(h10 (by simpa [more] using h)).1, fun h2 => (h10 (by simpa [more] using h)).2 (by simpa [more] using h2)⟩, fun h h2 => h11 (by simpa [more] using h) (by simpa [more] using h2), fun h => h12 (by simpa [more] using h)⟩
            · intro D a w hall hI
              obtain ⟨s10, A6, c6, rfl, h0, h6, h10, h11, h12⟩ := hI
              have z0 := hall 0 (by decide)
              have z1 := hall 1 (by decide)
              have z2 := hall 2 (by decide)
              have z3 := hall 3 (by decide)
              have z4 := hall 4 (by decide)
              have z5 := hall 5 (by decide)
              have z6 := hall 6 (by decide)
              have z7 := hall 7 (by decide)
              have z8 := hall 8 (by decide)
              have z9 := hall 9 (by decide)
              have z10 := hall 10 (by decide)
              have z11 := hall 11 (by decide)
              have z12 := hall 12 (by decide)
              simp only [z0, z1, z2, z3, z4, z5, z6, z7, z8, z9, z10, z11, z12, slot_true]
              have HR6 := Lib.hid (h6 (hall 6 (by decide)))
              have HB12 := Lib.hid (h12 (hall 11 (by decide)))
              have HC6 := Lib.hid h0
              have HS10 := Lib.hid (h10 (hall 10 (by decide))).1
              clear hall h0 h6 h10 h11 h12 z0 z1 z2 z3 z4 z5 z6 z7 z8 z9 z10 z11 z12
              obtain ⟨wa, hwa⟩ : ∃ wa, wa = w := ⟨_, rfl⟩
              rw [← hwa] at HR6 HB12 HC6 ⊢
              clear hwa
              go_upto_region 16 with (fail)
              have HBMa := Lib.hid (HBM2.out.chg HC6.out (fun h => h))
              go_upto_region 17 with (first
                | (refine wpList_load_row rfl 34 _ rfl s10 rfl 34 _ (0, 0) _ HB12.out Try.underlying34 rfl rd_size ?_)
                | (refine wpList_store_blk rfl 34 _ _ rfl bm _ rfl rfl 34 _ HBMa.out rfl rd_size (by simp [Value.oneCell']) ?_)
                | fail)
              have hbn := HBMa.out.row #[.slice A1 5 c1', .slice A6 n6 c6, .int .i64 f6, .bool d6]
              have hc9 : Chg (fun b => b = bm) wa (wa.setRow bm #[.slice A1 5 c1', .slice A6 n6 c6, .int .i64 f6, .bool d6]) := Chg.setRow (S := fun b => b = bm) (Chg.refl _ _) (g := bm) (.inl rfl) _
              generalize hwb : wa.setRow bm #[.slice A1 5 c1', .slice A6 n6 c6, .int .i64 f6, .bool d6] = wb at hbn hc9 ⊢
              have HBN := Lib.hid hbn
              have HC9 := Lib.hid hc9
              clear hwb hbn hc9
              have hnr : ¬ RowsOf (.slice A1 5 c1') (.slice A6 n6 c6) bm := fun h => (HR6.out.2 _ h).elim (fun h1 => HAP.out.2.1 h1) (fun h1 => by have := HBM2.out.lt; omega)
              have HRb := Lib.hid (HR6.out.1.chg HC9.out (fun b hb e => by have e2 : b = bm := e; subst e2; exact hnr hb))
              have HGb := Lib.hid ((HGPB.out.chg HC6.out (fun h => h)).chg HC9.out (fun h => HNE.out h))
              have HCb := Lib.hid (show Chg (fun b => b = bm) wr wb from (Chg.mono (S := NoB) (T := fun b => b = bm) HC6.out (fun _ _ h => h.elim)).trans HC9.out (fun _ _ h => h))
              have HDb := Lib.hid (HBK.out.di.chg HCb.out (fun i hi e => by have e2 : i = bm := e; subst e2; exact HAP.out.1 hi))
              have HNR := Lib.hid hnr
              clear hnr HB12 HBMa
              obtain ⟨cy, wc2, hcv, hry, _, hcy, _, _⟩ := str_rb wb y
              have hcc := HGb.out.cell q
              rw [HY.out] at hcc
              have hqi := HQ.out
              have hqi2 : (q : Int) < 5 := by omega
              have HRY := Lib.hid hry
              have HCY := Lib.hid hcy
              clear hry hcy
              go_wp2_with fail
              have HSZ := Lib.hid (show W.heap.size ≤ wr.heap.size ∧ wr.heap.size ≤ wb.heap.size ∧ wb.heap.size ≤ wc2.heap.size from ⟨HCW.out.size, HCb.out.size, HCY.out.size⟩)
              refine ((HDb.out.no HCY.out).write_ (by have h := HSZ.out; omega) (q : Int) cy rfl HRY.out (fun ad e => by cases e; rfl) (by have h1 := HBK.out.ok.loose; have h2 := HQ.out; omega)).mono ?_
              rintro e w8 ⟨rfl, hp8⟩
              rw [← HK6.out] at hp8
              obtain ⟨F8, hbk8, hc8, hF8⟩ := HBK.out.next (HRb.out.no HCY.out) HR6.out.2 (by have h := HSZ.out; omega) hp8 (show KOk K6 (q + 1) from by rw [HK6.out]; exact HBK.out.ok.write_ _ _)
              have HBK8' := Lib.hid hbk8
              have HF8 := Lib.hid hF8
              have HBNlt := Lib.hid (show bm < wr.heap.size ∧ gp < wr.heap.size from ⟨HBM2.out.lt, HGPB.out.lt⟩)
              have HCF := Lib.hid (show Chg F wb w8 from Chg.trans (S := F) (T := F) (HCY.out.mono (fun _ _ h => h.elim)) hc8 (fun _ _ h => h))
              clear hp8 hbk8 hc8 hF8 hcv hcc hqi hqi2
              go_wp2_with fail
              go_roundw
              case rel => exact ⟨q + 1, K6, F8, _, _, by have := HQ.out; omega, by go_num, HBK8', Lib.hid (by rw [show rdC (.slice A1 5 c1') (.slice A6 n6 c6) K6.fuse K6.dark = #[.slice A1 5 c1', .slice A6 n6 c6, .int .i64 f6, .bool d6] from by rw [HFD6.out.1, HFD6.out.2]; rfl]; exact HBN.out.chg HCF.out (fun h => HAP.out.1 h)),
                Lib.hid ⟨fun h => (HF8.out _ h).elim HAP.out.1 (fun h1 => by have h2 := HBNlt.out; have h3 := HSZ.out; omega), HNR.out, fun h => (HF8.out _ h).elim HAP.out.2.2.1 (fun h1 => by have h2 := HBNlt.out; have h3 := HSZ.out; omega), fun h => (HR6.out.2 _ h).elim HAP.out.2.2.2 (fun h1 => by have h2 := HBNlt.out; omega)⟩,
                Lib.hid (HGb.out.chg HCF.out (fun h => HAP.out.2.2.1 h)), Lib.hid (show Chg NoB W w8 from (HCW.out.trans HCb.out (fun i hi e => by have e2 : i = bm := e; have := HBMO.out.1; omega)).trans HCF.out (fun i hi hf => by have := (HBK.out.di.rng i hf).1; omega))⟩
              case measure => have hq5 := HQ.out; simp [intOf]; omega
          · have h5 : q = 5 := by omega
            subst h5
            obtain ⟨A1, c1', rfl⟩ := own_slice HBK.out.rk.sure
            obtain ⟨A9, c9, hp9⟩ := own_slice HBK.out.rk.loose
            obtain ⟨n9, hn9⟩ : ∃ n9, n9 = K.loose.length := ⟨_, rfl⟩
            rw [← hn9] at hp9
            subst hp9
            obtain ⟨f9, hf9⟩ : ∃ f9, f9 = K.fuse := ⟨_, rfl⟩
            obtain ⟨d9, hd9⟩ : ∃ d9, d9 = K.dark := ⟨_, rfl⟩
            have HRK := Lib.hid (show rkV (.slice A1 5 c1') (.slice A9 n9 c9) K = .agg #[.slice A1 5 c1', .slice A9 n9 c9, .int .i64 f9, .bool d9] from by rw [hf9, hd9]; rfl)
            have HBM2 := Lib.hid (show Blk wr bm 34 #[.slice A1 5 c1', .slice A9 n9 c9, .int .i64 f9, .bool d9] from by rw [hf9, hd9]; exact HBM.out)
            clear hn9 hf9 hd9 HBM
            obtain ⟨lb, hlb⟩ : ∃ lb, lb = ldB K := ⟨_, rfl⟩
            obtain ⟨lg, hlg⟩ : ∃ lg : Int, lg = (ldH K 0 : Int) := ⟨_, rfl⟩
            obtain ⟨ls, hls⟩ : ∃ ls : Int, ls = (ldH K 1 : Int) := ⟨_, rfl⟩
            obtain ⟨le, hle⟩ : ∃ le : Int, le = ldE K := ⟨_, rfl⟩
            have HLV := Lib.hid (And.intro hlb (And.intro hlg (And.intro hls hle)))
            clear hlb hlg hls hle
            go_wp2_with fail
            refine (sload_any HBK.out.di).mono ?_
            rintro e w9 ⟨v9, rfl, ho9, _, hc9⟩
            rw [← HLV.out.2.1, ← HLV.out.2.2.2]
            rw [← HLV.out.1] at ho9
            obtain ⟨A7, n7, c7, rfl, hn7, hr7, _⟩ := ho9.val
            have HBM9 := Lib.hid (HBM2.out.chg hc9 (fun h => h))
            have HR9 := Lib.hid (HBK.out.rk.no hc9)
            have HCW9 := Lib.hid (HCW.out.trans hc9 (fun _ _ h => h))
            have HR7 := Lib.hid hr7
            have HN7 := Lib.hid hn7
            clear hc9 ho9 hr7 hn7
            go_wp2_with (first
              | (refine wpList_load_row rfl 34 _ rfl bm rfl 34 _ (0, 0) _ HBM9.out Try.underlying34 rfl rd_size ?_)
              | fail)
            have hrl := rload_any K 5 5 w9 HR9.out HBK.out.ok (by decide)
            rw [HRK.out] at hrl
            refine hrl.mono ?_
            clear hrl
            rintro e w10 ⟨rfl, hc10⟩
            rw [← HLV.out.1, ← HLV.out.2.1, ← HLV.out.2.2.1, ← HLV.out.2.2.2]
            have HC10 := Lib.hid (HCW9.out.trans hc10 (fun _ _ h => h))
            have hr10 := RBchg HR7.out hc10
            have hst := hr10.toStr (n := n7) HN7.out c7 Try.underlying25 Try.underlying5 Try.underlying9
            clear hc10 hr10
            unfold strV
            go_wp2_with fail
            refine (slives_any w10).mono ?_
            rintro e w11 ⟨rfl, hc11⟩
            have HC11 := Lib.hid (HC10.out.trans hc11 (fun _ _ h => h))
            clear hc11
            go_wp2_with fail
            first
              | (go_ret; exact ⟨rfl, HC11.out.no⟩)
              | (go_ret2; exact ⟨rfl, HC11.out.no⟩)
              | done
end Go.Proofs.Ytlhfhhbafhnbkaa
