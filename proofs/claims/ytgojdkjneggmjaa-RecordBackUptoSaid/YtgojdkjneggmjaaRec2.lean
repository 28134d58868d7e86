/-
  THE WALK of the writer's common.
-/
import Derived.Test.YtgojdkjneggmjaaRec1
import Derived.Test.YtgojdkjneggmjaaRegionInv
import Derived.Outline
namespace Go.Proofs.Ytgojdkjneggmjaa
open Go.RowKit FieldM
/-- a record, as plain data -/
structure Rec where
  name : List UInt8
  method : Int
  sum : Int
  packed : Int
  size : Int
  at_ : Int
def Rec.cells (r : Rec) : Array Value := #[.string ⟨r.name.toArray⟩, .int .i64 r.method, .int .i64 r.sum, .int .i64 r.packed, .int .i64 r.size, .int .i64 r.at_]
/-- a record that may be laid down -/
structure Rec.Ok (r : Rec) : Prop where
  name1 : 1 ≤ r.name.length
  name2 : r.name.length ≤ 65535
  method : r.method = 0 ∨ r.method = 8
  sum : 0 ≤ r.sum ∧ r.sum ≤ 4294967295
  packed : 0 ≤ r.packed ∧ r.packed ≤ 4294967295
  size : 0 ≤ r.size ∧ r.size ≤ 4294967295
  at_ : 0 ≤ r.at_ ∧ r.at_ ≤ 4294967295
def Rec.mid1 (r : Rec) : List UInt8 := lay 2 [20, 0, r.method, 0, 33]
def Rec.mid2 (r : Rec) : List UInt8 := lay 4 [r.sum, r.packed, r.size]
def Rec.mid3 (r : Rec) : List UInt8 := lay 2 [(r.name.length : Int), 0]
/-- what both headers have -/
def Rec.mid (r : Rec) : List UInt8 := r.mid1 ++ r.mid2 ++ r.mid3
/-- a frame's slot: the new value when its operation is done -/
def slot (d : Bool) (v u : Value) : Value := match d with | true => v | false => u
@[simp, go_sem] theorem slot_true (v u : Value) : slot true v u = v := rfl
@[simp, go_sem] theorem slot_false (v u : Value) : slot false v u = u := rfl
def pick (b : Bool) (l : List UInt8) : List UInt8 := if b = true then l else []
theorem pick_len (b : Bool) (l : List UInt8) : (pick b l).length ≤ l.length := by unfold pick; split <;> simp
set_option linter.unusedSimpArgs false
def InvCommon (g base b : Nat) (l : List UInt8) (r : Rec) (w0 : World) (D : Nat → Bool) (a : Act) (w : World) : Prop :=
  ∃ (s3 : Nat) (s11 : Nat) (s16 : Nat), a = { tmps := #[.pointer (some ⟨g, 0, none⟩), .agg r.cells, undef, .pointer (some ⟨b, 0, none⟩), (slot (D 18) (.pointer (some ⟨g, 0, none⟩)) (.pointer none)), (slot (D 0) (.pointer (some ⟨g, 0, none⟩)) (undef)), (slot (D 1) (.pointer (some ⟨b, 1, none⟩)) (undef)), (slot (D 2) (.int .i64 r.method) (undef)), (slot (D 3) (.slice (some ⟨s3, 0, none⟩) 5 5) (undef)), (slot (D 4) (.pointer (some ⟨g, 0, none⟩)) (undef)), (slot (D 5) (.pointer (some ⟨b, 2, none⟩)) (undef)), (slot (D 6) (.int .i64 r.sum) (undef)), (slot (D 7) (.pointer (some ⟨b, 3, none⟩)) (undef)), (slot (D 8) (.int .i64 r.packed) (undef)), (slot (D 9) (.pointer (some ⟨b, 4, none⟩)) (undef)), (slot (D 10) (.int .i64 r.size) (undef)), (slot (D 11) (.slice (some ⟨s11, 0, none⟩) 3 3) (undef)), (slot (D 12) (.pointer (some ⟨g, 0, none⟩)) (undef)), (slot (D 13) (.pointer (some ⟨b, 0, none⟩)) (undef)), (slot (D 14) (.string ⟨r.name.toArray⟩) (undef)), (slot (D 15) (.int .i64 (r.name.length : Int)) (undef)), (slot (D 16) (.slice (some ⟨s16, 0, none⟩) 2 2) (undef)), (slot (D 17) (.pointer (some ⟨g, 0, none⟩)) (undef))], defers := [] } ∧
    (D 3 = true → Blk w s3 3 #[.int .i64 20, .int .i64 0, .int .i64 r.method, .int .i64 0, .int .i64 33]) ∧
    (D 11 = true → Blk w s11 3 #[.int .i64 r.sum, .int .i64 r.packed, .int .i64 r.size]) ∧
    (D 16 = true → Blk w s16 3 #[.int .i64 (r.name.length : Int), .int .i64 0]) ∧
    (Wr w base g (l ++ pick (D 4) r.mid1 ++ pick (D 12) r.mid2 ++ pick (D 17) r.mid3)) ∧
    (Chg (OneB g) w0 w) ∧
    (Blk w b 23 r.cells) ∧
    ((D 12 = true → D 4 = true) ∧ (D 17 = true → D 12 = true))
set_option maxRecDepth 100000 in
set_option maxHeartbeats 4000000 in
theorem common_any (g base : Nat) (l : List UInt8) (r : Rec) (w : World) (hok : Hid r.Ok) (hw : Wr w base g l) (hbase : base ≤ w.heap.size) (hl : l.length ≤ 1000) :
    Calls Try.prog 26 #[.pointer (some ⟨g, 0, none⟩), .agg r.cells] w fun e w' => e = .returned (.pointer (some ⟨g, 0, none⟩)) ∧ Wr w' base g (l ++ r.mid) ∧ Chg (OneB g) w w' := by
  have hglt := hw.lt
  obtain ⟨w0, hw0⟩ : ∃ w0, w0 = w := ⟨_, rfl⟩
  have hsz0 : base ≤ w0.heap.size := by rw [hw0]; exact hbase
  obtain ⟨b, hbd⟩ : ∃ b, b = w.heap.size := ⟨_, rfl⟩
  have hbg : b ≠ g := by omega
  have i1 : Wr (w.alloc (.cells r.cells 23)).drew base g l := (hw.no ((Chg.refl NoB w).alloc _)).no ((Chg.refl NoB _).drew)
  have i2 : Chg (OneB g) w0 (w.alloc (.cells r.cells 23)).drew := by rw [hw0]; exact ((Chg.refl _ _).alloc _).drew
  have i3 : Blk (w.alloc (.cells r.cells 23)).drew b 23 r.cells := by rw [hbd]; exact (Blk.new w _ _).drew
  go_enter Try.func26, Try.ntmps26
  go_wp2_with fail
  rw [← hbd]
  refine wp_region_inv rfl (by kernel_rfl) (InvCommon g base b l r w0) ?_ ?_ ?_
  · exact ⟨0, 0, 0, rfl, (fun h => nomatch h), (fun h => nomatch h), (fun h => nomatch h), by simpa [pick] using i1, i2, i3, ⟨(fun h => nomatch h), (fun h => nomatch h)⟩⟩
  · clear hbd i1 i2 i3 hw0 hw hbase hglt
    intro D a w i o ho hD hpre hI
    obtain ⟨s3, s11, s16, rfl, f3, f11, f16, hw, hch, hb, hk⟩ := hI
    have hi : i < 19 := by have := (List.getElem?_eq_some_iff.1 ho).1; simpa using this
    rcases (by omega : i = 0 ∨ i = 1 ∨ i = 2 ∨ i = 3 ∨ i = 4 ∨ i = 5 ∨ i = 6 ∨ i = 7 ∨ i = 8 ∨ i = 9 ∨ i = 10 ∨ i = 11 ∨ i = 12 ∨ i = 13 ∨ i = 14 ∨ i = 15 ∨ i = 16 ∨ i = 17 ∨ i = 18) with rfl | rfl | rfl | rfl | rfl | rfl | rfl | rfl | rfl | rfl | rfl | rfl | rfl | rfl | rfl | rfl | rfl | rfl | rfl
    · obtain rfl := Option.some.inj ho
      clear ho hpre hi
      go_wp2_with fail
      unfold AtEnd
      exact ⟨s3, s11, s16, rfl, f3, f11, f16, hw, hch, hb, hk⟩
    · obtain rfl := Option.some.inj ho
      clear ho hpre hi
      go_wp2_with fail
      unfold AtEnd
      exact ⟨s3, s11, s16, rfl, f3, f11, f16, hw, hch, hb, hk⟩
    · obtain rfl := Option.some.inj ho
      have p1 := hpre ⟨1, .data⟩ (by simp) rfl
      clear ho hpre hi
      have c1 := hb.cell 1
      simp only [Rec.cells] at c1
      go_wp2_with fail
      unfold AtEnd
      exact ⟨s3, s11, s16, by simp only [more, slot_true, slot_false, Nat.reduceEqDiff, ↓reduceIte, p1], f3, f11, f16, hw, hch, hb, hk⟩
    · obtain rfl := Option.some.inj ho
      have p2 := hpre ⟨2, .data⟩ (by simp) rfl
      clear ho hpre hi
      go_wp2_with fail
      unfold AtEnd
      exact ⟨w.heap.size, s11, s16, by simp only [more, slot_true, slot_false, Nat.reduceEqDiff, ↓reduceIte, p2], fun _ => Blk.new w _ _, fun h => (f11 h).alloc _, fun h => (f16 h).alloc _, hw.no ((Chg.refl NoB w).alloc _), hch.alloc _, hb.alloc _, hk⟩
    · obtain rfl := Option.some.inj ho
      have p0 := hpre ⟨0, .data⟩ (by simp) rfl
      have p3 := hpre ⟨3, .data⟩ (by simp) rfl
      clear ho hpre hi
      have d12 : D 12 = false := by cases h : D 12; rfl; have := hk.1 h; rw [hD] at this; cases this
      have d17 : D 17 = false := by cases h : D 17; rfl; have := hk.2 h; rw [d12] at this; cases this
      obtain ⟨A0, n0, c0, hbw, how⟩ := id hw
      have hsz := hch.size
      have hLen : (l ++ pick (D 4) r.mid1 ++ pick (D 12) r.mid2 ++ pick (D 17) r.mid3).length ≤ 2000 := by have h1 : r.mid1.length = 10 := lay_len 2 _; have h2 : r.mid2.length = 12 := lay_len 4 _; have h3 : r.mid3.length = 4 := lay_len 2 _; have q1 := pick_len (D 4) r.mid1; have q2 := pick_len (D 12) r.mid2; have q3 := pick_len (D 17) r.mid3; simp only [List.length_append]; omega
      obtain ⟨L, hL⟩ : ∃ L, L = l ++ pick (D 4) r.mid1 ++ pick (D 12) r.mid2 ++ pick (D 17) r.mid3 := ⟨_, rfl⟩
      rw [← hL] at hw hLen how
      go_wp2_with fail
      refine (twos_any g base L s3 [20, 0, r.method, 0, 33] 5 5 rfl _ rfl w hw (f3 p3) (by intro z hz; have hO : r.Ok := hok; have := hO.method; simp at hz; omega) (Nat.le_trans hsz0 hsz) (by omega)).mono ?_
      rintro e w1 ⟨rfl, hw1, hc1⟩
      rw [hL] at hw1
      clear hL
      go_wp2_with fail
      unfold AtEnd
      exact ⟨s3, s11, s16, by simp only [more, slot_true, slot_false, Nat.reduceEqDiff, ↓reduceIte, p0, p3, hD, d12, d17], fun h => (f3 h).chg hc1 (fun e => (f3 h).ne_ hbw (by decide) e), fun h => (f11 h).chg hc1 (fun e => (f11 h).ne_ hbw (by decide) e), fun h => (f16 h).chg hc1 (fun e => (f16 h).ne_ hbw (by decide) e), by simpa only [more, pick, Nat.reduceEqDiff, ↓reduceIte, List.append_nil, List.append_assoc, Rec.mid1, Rec.mid2, Rec.mid3, reduceCtorEq, Bool.false_eq_true, hD, d12, d17] using hw1, hch.trans hc1 (fun _ _ h => h), hb.chg hc1 hbg, by simp [more, d12, d17]⟩
    · obtain rfl := Option.some.inj ho
      clear ho hpre hi
      go_wp2_with fail
      unfold AtEnd
      exact ⟨s3, s11, s16, rfl, f3, f11, f16, hw, hch, hb, hk⟩
    · obtain rfl := Option.some.inj ho
      have p5 := hpre ⟨5, .data⟩ (by simp) rfl
      clear ho hpre hi
      have c1 := hb.cell 2
      simp only [Rec.cells] at c1
      go_wp2_with fail
      unfold AtEnd
      exact ⟨s3, s11, s16, by simp only [more, slot_true, slot_false, Nat.reduceEqDiff, ↓reduceIte, p5], f3, f11, f16, hw, hch, hb, hk⟩
    · obtain rfl := Option.some.inj ho
      clear ho hpre hi
      go_wp2_with fail
      unfold AtEnd
      exact ⟨s3, s11, s16, rfl, f3, f11, f16, hw, hch, hb, hk⟩
    · obtain rfl := Option.some.inj ho
      have p7 := hpre ⟨7, .data⟩ (by simp) rfl
      clear ho hpre hi
      have c1 := hb.cell 3
      simp only [Rec.cells] at c1
      go_wp2_with fail
      unfold AtEnd
      exact ⟨s3, s11, s16, by simp only [more, slot_true, slot_false, Nat.reduceEqDiff, ↓reduceIte, p7], f3, f11, f16, hw, hch, hb, hk⟩
    · obtain rfl := Option.some.inj ho
      clear ho hpre hi
      go_wp2_with fail
      unfold AtEnd
      exact ⟨s3, s11, s16, rfl, f3, f11, f16, hw, hch, hb, hk⟩
    · obtain rfl := Option.some.inj ho
      have p9 := hpre ⟨9, .data⟩ (by simp) rfl
      clear ho hpre hi
      have c1 := hb.cell 4
      simp only [Rec.cells] at c1
      go_wp2_with fail
      unfold AtEnd
      exact ⟨s3, s11, s16, by simp only [more, slot_true, slot_false, Nat.reduceEqDiff, ↓reduceIte, p9], f3, f11, f16, hw, hch, hb, hk⟩
    · obtain rfl := Option.some.inj ho
      have p6 := hpre ⟨6, .data⟩ (by simp) rfl
      have p8 := hpre ⟨8, .data⟩ (by simp) rfl
      have p10 := hpre ⟨10, .data⟩ (by simp) rfl
      clear ho hpre hi
      go_wp2_with fail
      unfold AtEnd
      exact ⟨s3, w.heap.size, s16, by simp only [more, slot_true, slot_false, Nat.reduceEqDiff, ↓reduceIte, p6, p8, p10], fun h => (f3 h).alloc _, fun _ => Blk.new w _ _, fun h => (f16 h).alloc _, hw.no ((Chg.refl NoB w).alloc _), hch.alloc _, hb.alloc _, hk⟩
    · obtain rfl := Option.some.inj ho
      have p4 := hpre ⟨4, .data⟩ (by simp) rfl
      have p11 := hpre ⟨11, .data⟩ (by simp) rfl
      clear ho hpre hi
      have d12 := hD
      have d17 : D 17 = false := by cases h : D 17; rfl; have := hk.2 h; rw [d12] at this; cases this
      obtain ⟨A0, n0, c0, hbw, how⟩ := id hw
      have hsz := hch.size
      have hLen : (l ++ pick (D 4) r.mid1 ++ pick (D 12) r.mid2 ++ pick (D 17) r.mid3).length ≤ 2000 := by have h1 : r.mid1.length = 10 := lay_len 2 _; have h2 : r.mid2.length = 12 := lay_len 4 _; have h3 : r.mid3.length = 4 := lay_len 2 _; have q1 := pick_len (D 4) r.mid1; have q2 := pick_len (D 12) r.mid2; have q3 := pick_len (D 17) r.mid3; simp only [List.length_append]; omega
      obtain ⟨L, hL⟩ : ∃ L, L = l ++ pick (D 4) r.mid1 ++ pick (D 12) r.mid2 ++ pick (D 17) r.mid3 := ⟨_, rfl⟩
      rw [← hL] at hw hLen how
      go_wp2_with fail
      refine (fours_any g base L s11 [r.sum, r.packed, r.size] 3 3 rfl _ rfl w hw (f11 p11) (by intro z hz; have hO : r.Ok := hok; have h1 := hO.sum; have h2 := hO.packed; have h3 := hO.size; simp at hz; omega) (Nat.le_trans hsz0 hsz) (by omega)).mono ?_
      rintro e w1 ⟨rfl, hw1, hc1⟩
      rw [hL] at hw1
      clear hL
      go_wp2_with fail
      unfold AtEnd
      exact ⟨s3, s11, s16, by simp only [more, slot_true, slot_false, Nat.reduceEqDiff, ↓reduceIte, p4, p11, d12, d17], fun h => (f3 h).chg hc1 (fun e => (f3 h).ne_ hbw (by decide) e), fun h => (f11 h).chg hc1 (fun e => (f11 h).ne_ hbw (by decide) e), fun h => (f16 h).chg hc1 (fun e => (f16 h).ne_ hbw (by decide) e), by simpa only [more, pick, Nat.reduceEqDiff, ↓reduceIte, List.append_nil, List.append_assoc, Rec.mid1, Rec.mid2, Rec.mid3, reduceCtorEq, Bool.false_eq_true, d12, d17] using hw1, hch.trans hc1 (fun _ _ h => h), hb.chg hc1 hbg, by simp [more, d17, p4]⟩
    · obtain rfl := Option.some.inj ho
      clear ho hpre hi
      go_wp2_with fail
      unfold AtEnd
      exact ⟨s3, s11, s16, rfl, f3, f11, f16, hw, hch, hb, hk⟩
    · obtain rfl := Option.some.inj ho
      have p13 := hpre ⟨13, .data⟩ (by simp) rfl
      clear ho hpre hi
      have c1 := hb.cell 0
      simp only [Rec.cells] at c1
      go_wp2_with fail
      unfold AtEnd
      exact ⟨s3, s11, s16, by simp only [more, slot_true, slot_false, Nat.reduceEqDiff, ↓reduceIte, p13], f3, f11, f16, hw, hch, hb, hk⟩
    · obtain rfl := Option.some.inj ho
      have p14 := hpre ⟨14, .data⟩ (by simp) rfl
      clear ho hpre hi
      go_wp2_with fail
      unfold AtEnd
      exact ⟨s3, s11, s16, by simp only [more, slot_true, slot_false, Nat.reduceEqDiff, ↓reduceIte, p14], f3, f11, f16, hw, hch, hb, hk⟩
    · obtain rfl := Option.some.inj ho
      have p15 := hpre ⟨15, .data⟩ (by simp) rfl
      clear ho hpre hi
      go_wp2_with fail
      unfold AtEnd
      exact ⟨s3, s11, w.heap.size, by simp only [more, slot_true, slot_false, Nat.reduceEqDiff, ↓reduceIte, p15], fun h => (f3 h).alloc _, fun h => (f11 h).alloc _, fun _ => Blk.new w _ _, hw.no ((Chg.refl NoB w).alloc _), hch.alloc _, hb.alloc _, hk⟩
    · obtain rfl := Option.some.inj ho
      have p12 := hpre ⟨12, .data⟩ (by simp) rfl
      have p16 := hpre ⟨16, .data⟩ (by simp) rfl
      clear ho hpre hi
      have p4 := hk.1 p12
      obtain ⟨A0, n0, c0, hbw, how⟩ := id hw
      have hsz := hch.size
      have hLen : (l ++ pick (D 4) r.mid1 ++ pick (D 12) r.mid2 ++ pick (D 17) r.mid3).length ≤ 2000 := by have h1 : r.mid1.length = 10 := lay_len 2 _; have h2 : r.mid2.length = 12 := lay_len 4 _; have h3 : r.mid3.length = 4 := lay_len 2 _; have q1 := pick_len (D 4) r.mid1; have q2 := pick_len (D 12) r.mid2; have q3 := pick_len (D 17) r.mid3; simp only [List.length_append]; omega
      obtain ⟨L, hL⟩ : ∃ L, L = l ++ pick (D 4) r.mid1 ++ pick (D 12) r.mid2 ++ pick (D 17) r.mid3 := ⟨_, rfl⟩
      rw [← hL] at hw hLen how
      go_wp2_with fail
      refine (twos_any g base L s16 [(r.name.length : Int), 0] 2 2 rfl _ rfl w hw (f16 p16) (by intro z hz; have hO : r.Ok := hok; have h1 := hO.name2; simp at hz; omega) (Nat.le_trans hsz0 hsz) (by omega)).mono ?_
      rintro e w1 ⟨rfl, hw1, hc1⟩
      rw [hL] at hw1
      clear hL
      go_wp2_with fail
      unfold AtEnd
      exact ⟨s3, s11, s16, by simp only [more, slot_true, slot_false, Nat.reduceEqDiff, ↓reduceIte, p12, p16, p4, hD], fun h => (f3 h).chg hc1 (fun e => (f3 h).ne_ hbw (by decide) e), fun h => (f11 h).chg hc1 (fun e => (f11 h).ne_ hbw (by decide) e), fun h => (f16 h).chg hc1 (fun e => (f16 h).ne_ hbw (by decide) e), by simpa only [more, pick, Nat.reduceEqDiff, ↓reduceIte, List.append_nil, List.append_assoc, Rec.mid1, Rec.mid2, Rec.mid3, reduceCtorEq, Bool.false_eq_true, p4, hD] using hw1, hch.trans hc1 (fun _ _ h => h), hb.chg hc1 hbg, by simp [more, p12, p4]⟩
    · obtain rfl := Option.some.inj ho
      have p17 := hpre ⟨17, .data⟩ (by simp) rfl
      clear ho hpre hi
      have p12 := hk.2 p17
      have p4 := hk.1 p12
      go_wp2_with fail
      unfold AtEnd
      exact ⟨s3, s11, s16, by simp only [more, slot_true, slot_false, Nat.reduceEqDiff, ↓reduceIte, p17, p12, p4], f3, f11, f16, hw, hch, hb, hk⟩
  · intro D a w hall hI
    obtain ⟨s3, s11, s16, rfl, f3, f11, f16, hw, hch, hb, hk⟩ := hI
    have e4 := hall 4 (by decide)
    have e12 := hall 12 (by decide)
    have e17 := hall 17 (by decide)
    have e18 := hall 18 (by decide)
    clear hall
    rw [e4, e12, e17] at hw
    rw [hw0] at hch
    clear hw0
    rw [e18]
    clear f3 f11 f16 hk hb e4 e12 e17 e18
    go_wp2_with fail
    exact ⟨rfl, _, results_tmp (t := 4) rfl _ _ _, rfl, by simpa only [pick, ↓reduceIte, List.append_assoc, Rec.mid] using hw, hch⟩
end Go.Proofs.Ytgojdkjneggmjaa
