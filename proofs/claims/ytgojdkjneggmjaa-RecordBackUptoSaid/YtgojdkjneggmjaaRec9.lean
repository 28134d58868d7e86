/-
  THE WALKS of HasSuffix (at one byte) and of the program's Central.
-/
import Derived.Test.YtgojdkjneggmjaaRec8
import Derived.Lib.Strings
namespace Go.Proofs.Ytgojdkjneggmjaa
open Go.RowKit FieldM
set_option linter.unusedSimpArgs false
def endsSlash (l : List UInt8) : Bool := l.getLast? == some 47
set_option maxRecDepth 100000 in
set_option maxHeartbeats 1000000 in
theorem suf1_any (l : List UInt8) (h0 : 0 < l.length) (h1 : l.length ≤ 65535) (w : World) :
    Calls Try.prog 48 #[.string ⟨l.toArray⟩, .string ⟨#[47]⟩] w fun e w' => e = .returned (.bool (endsSlash l)) ∧ w' = w := by
  have hs : (ByteArray.mk l.toArray).size = l.length := by simp [ByteArray.size]
  have he : (((ByteArray.mk l.toArray).extract (l.length - 1) l.length).toList == [47]) = endsSlash l := by
    rw [Lib.extract_toList]
    obtain ⟨p, c, rfl⟩ : ∃ p c, l = p ++ [c] := ⟨l.dropLast, l.getLast (by intro h; rw [h] at h0; exact absurd h0 (by simp)), (List.dropLast_concat_getLast _).symm⟩
    simp [endsSlash, List.getLast?_append]
  go_enter Try.func48, Try.ntmps48
  go_wp2_with fail
  go_ret
  exact ⟨rfl, rfl⟩
set_option maxRecDepth 100000 in
set_option maxHeartbeats 1000000 in
theorem suf_any (l : List UInt8) (h0 : 0 < l.length) (h1 : l.length ≤ 65535) (w : World) :
    Calls Try.prog 29 #[.string ⟨l.toArray⟩, .string ⟨#[47]⟩] w fun e w' => e = .returned (.bool (endsSlash l)) ∧ w' = w := by
  go_enter Try.func29, Try.ntmps29
  go_wp2_with ((refine (suf1_any l h0 h1 _).mono ?_); rintro e w1 ⟨rfl, rfl⟩)
  go_ret
  exact ⟨rfl, rfl⟩
def kindOf (r : Rec) : Int := if endsSlash r.name = true then 16 else 0
def centralL (r : Rec) : List UInt8 := [80, 75, 1, 2] ++ lay 2 [20] ++ r.mid ++ lay 2 [0, 0, 0] ++ lay 4 [kindOf r, r.at_] ++ r.name
def InvCen8 (g base b : Nat) (r : Rec) (kd : Int) (es : Bool) (w0 : World) (D : Nat → Bool) (a : Act) (w : World) : Prop :=
  ∃ (s1 : Nat) (s5 : Nat) (s10 : Nat), a = { tmps := #[.agg r.cells, .pointer (some ⟨b, 0, none⟩), .slice none 0 0, .int .i64 0, .int .i64 0, .int .i64 kd, .pointer (some ⟨g, 0, none⟩), .agg r.cells, .int .i64 0, .int .i64 0, .bool false, undef, .pointer (some ⟨b, 0, none⟩), .string ⟨r.name.toArray⟩, .bool es, .slice (some ⟨base, 0, none⟩) 4 4, .slice (some ⟨base, 0, none⟩) 4 4, .agg #[.slice (some ⟨base, 0, none⟩) 4 4], .pointer (some ⟨g, 0, none⟩), (slot (D 0) (.pointer (some ⟨g, 0, none⟩)) (undef)), (slot (D 1) (.slice (some ⟨s1, 0, none⟩) 1 1) (undef)), (slot (D 2) (.pointer (some ⟨g, 0, none⟩)) (undef)), (slot (D 3) (.agg r.cells) (undef)), (slot (D 4) (.pointer (some ⟨g, 0, none⟩)) (undef)), (slot (D 5) (.slice (some ⟨s5, 0, none⟩) 3 3) (undef)), (slot (D 6) (.pointer (some ⟨g, 0, none⟩)) (undef)), (slot (D 7) (.int .i64 kd) (undef)), (slot (D 8) (.pointer (some ⟨b, 5, none⟩)) (undef)), (slot (D 9) (.int .i64 r.at_) (undef)), (slot (D 10) (.slice (some ⟨s10, 0, none⟩) 2 2) (undef)), (slot (D 11) (.pointer (some ⟨g, 0, none⟩)) (undef)), undef, undef, undef, undef, undef, undef, undef], defers := [] } ∧
    (D 1 = true → Blk w s1 3 #[.int .i64 20]) ∧
    (D 5 = true → Blk w s5 3 #[.int .i64 0, .int .i64 0, .int .i64 0]) ∧
    (D 10 = true → Blk w s10 3 #[.int .i64 kd, .int .i64 r.at_]) ∧
    (Wr w base g ([80, 75, 1, 2] ++ pick (D 2) (lay 2 [20]) ++ pick (D 4) (r.mid) ++ pick (D 6) (lay 2 [0, 0, 0]) ++ pick (D 11) (lay 4 [kd, r.at_]))) ∧
    (Chg (fun i => base ≤ i) w0 w) ∧
    (Blk w b 23 r.cells)
def InvCen9 (g base b s1 s5 s10 : Nat) (r : Rec) (kd : Int) (es : Bool) (u : Value) (L : List UInt8) (w0 : World) (D : Nat → Bool) (a : Act) (w : World) : Prop :=
  ∃ (v : Value), a = { tmps := #[.agg r.cells, .pointer (some ⟨b, 0, none⟩), (slot (D 7) (v) (.slice none 0 0)), (slot (D 8) (.int .i64 0) (.int .i64 0)), .int .i64 0, .int .i64 kd, .pointer (some ⟨g, 0, none⟩), .agg r.cells, .int .i64 0, .int .i64 0, .bool false, undef, .pointer (some ⟨b, 0, none⟩), .string ⟨r.name.toArray⟩, .bool es, .slice (some ⟨base, 0, none⟩) 4 4, .slice (some ⟨base, 0, none⟩) 4 4, .agg #[.slice (some ⟨base, 0, none⟩) 4 4], .pointer (some ⟨g, 0, none⟩), .pointer (some ⟨g, 0, none⟩), .slice (some ⟨s1, 0, none⟩) 1 1, .pointer (some ⟨g, 0, none⟩), .agg r.cells, .pointer (some ⟨g, 0, none⟩), .slice (some ⟨s5, 0, none⟩) 3 3, .pointer (some ⟨g, 0, none⟩), .int .i64 kd, .pointer (some ⟨b, 5, none⟩), .int .i64 r.at_, .slice (some ⟨s10, 0, none⟩) 2 2, .pointer (some ⟨g, 0, none⟩), (slot (D 0) (.pointer (some ⟨g, 0, none⟩)) (undef)), (slot (D 1) (.pointer (some ⟨g, 0, none⟩)) (undef)), (slot (D 2) (.pointer (some ⟨g, 0, none⟩)) (undef)), (slot (D 3) (u) (undef)), (slot (D 4) (.pointer (some ⟨b, 0, none⟩)) (undef)), (slot (D 5) (.string ⟨r.name.toArray⟩) (undef)), (slot (D 6) (v) (undef))], defers := [] } ∧
    (D 6 = false → Blk w g 51 #[u] ∧ OwnB w base u L) ∧
    (D 6 = true → OwnB w base v (L ++ r.name)) ∧
    (Chg (fun i => base ≤ i) w0 w) ∧
    (Blk w b 23 r.cells)
set_option maxRecDepth 100000 in
set_option maxHeartbeats 4000000 in
theorem central_any (r : Rec) (w : World) :
    Calls Try.prog 12 #[.agg r.cells] w fun e w' => ((r.Ok ∧ ∃ v, e = .returned (.tuple #[v, .int .i64 0]) ∧ OwnB w' w.heap.size v (centralL r)) ∨ (¬ r.Ok ∧ e = .returned (.tuple #[.slice none 0 0, .int .i64 2]))) ∧ Chg NoB w w' := by
  have hcc : Chg NoB w w := Chg.refl _ _
  have kc := fun (w : World) (C : Array Value) (n c : Nat) => Lib.run_convert_bytes_const (P := Try.prog) w 24 5 C n c Try.underlying24 Try.underlying5
  go_enter Try.func12, Try.ntmps12
  have hbox := Blk.new w 23 r.cells
  have c5 : Chg NoB w (w.alloc (.cells r.cells 23)) := (Chg.refl _ _).alloc _
  go_wp2_with (first
    | (refine wpList_load_row rfl 23 _ rfl w.heap.size rfl 23 _ (0, 0) _ hbox Try.underlying23 rfl rec_info ?_)
    | fail)
  refine (check_any r _).mono ?_
  rintro e w1 ⟨hcase, hc1⟩
  have hb := hbox.chg hc1 (fun h => h)
  have hcc1 : Chg NoB w w1 := c5.trans hc1 (fun _ _ h => h)
  have hbox1 : w.heap.size < w1.heap.size := hb.lt
  clear hbox c5 hc1 hcc
  rcases hcase with ⟨hok, rfl⟩ | ⟨hok, rfl⟩
  · have HOK := Lib.hid hok
    have hn1 := hok.name1
    have hn2 := hok.name2
    have c1 := hb.cell 0
    simp only [Rec.cells] at c1
    clear hok
    cases hsl : endsSlash r.name
    · go_wp2_with ((refine (suf_any r.name (by omega) hn2 _).mono ?_); rw [hsl]; rintro e w1 ⟨rfl, rfl⟩)
      obtain ⟨hw0, hc0⟩ := mark_wr w1 [80, 75, 1, 2] #[.int .u8 80, .int .u8 75, .int .u8 1, .int .u8 2] 4 rfl rfl
      obtain ⟨w2, hw2⟩ : ∃ w2, w2 = ((w1.alloc (.cells #[.int .u8 80, .int .u8 75, .int .u8 1, .int .u8 2] 5 (4, 5))).alloc (.cells #[.slice (some ⟨w1.heap.size, 0, none⟩) 4 4] 51)) := ⟨_, rfl⟩
      rw [← hw2] at hw0 hc0 ⊢
      have i3 := (hb.chg hc0 (fun h => h)).drew
      have hcc2 : Chg NoB w w2 := hcc1.trans hc0 (fun _ _ h => h)
      obtain ⟨b, hbd⟩ : ∃ b, b = w.heap.size := ⟨_, rfl⟩
      obtain ⟨base, hbase⟩ : ∃ base, base = w1.heap.size := ⟨_, rfl⟩
      obtain ⟨g, hg⟩ : ∃ g, g = base + 1 := ⟨_, rfl⟩
      rw [← hbase, ← hg] at hw0
      rw [← hbd] at i3
      rw [← hbase, ← hbd, ← hg]
      have hle : Hid (w.heap.size ≤ base) := by have h1 := hcc1.size; rw [hbase]; exact h1
      have HG : Hid (g = base + 1) := hg
      have HB : Hid (b < base) := by have h1 := hbox1; rw [hbd, hbase]; exact h1
      have HS : Hid (base ≤ w2.heap.size) := by rw [hbase]; exact hc0.size
      have HC : Hid (Chg NoB w w2) := hcc2
      have HK : Hid (kindOf r = 0) := by rw [kindOf, hsl]; rfl
      clear hsl c1
      have i2 : Chg (fun i => base ≤ i) w2 w2.drew := (Chg.refl _ _).drew
      have i1 : Wr w2.drew base g ([80, 75, 1, 2] ++ pick false (lay 2 [20]) ++ pick false r.mid ++ pick false (lay 2 [0, 0, 0]) ++ pick false (lay 4 [0, r.at_])) := by simpa [pick] using hw0.no ((Chg.refl NoB _).drew)
      refine wp_region_cl rfl (by kernel_rfl) (InvCen8 g base b r 0 false w2) ?_ ?_ ?_
      · exact ⟨0, 0, 0, rfl, (fun h => nomatch h), (fun h => nomatch h), (fun h => nomatch h), i1, i2, i3⟩
      · clear i1 i2 i3 hw2 hbd hbase hg hw0 hc0 hcc2 hcc1 hb hbox1
        intro D a w i o ho hD hcl hpre hI
        obtain ⟨s1, s5, s10, rfl, f1, f5, f10, hw, hch, hb⟩ := hI
        have hi : i < 12 := by have := (List.getElem?_eq_some_iff.1 ho).1; simpa using this
        rcases (by omega : i = 0 ∨ i = 1 ∨ i = 2 ∨ i = 3 ∨ i = 4 ∨ i = 5 ∨ i = 6 ∨ i = 7 ∨ i = 8 ∨ i = 9 ∨ i = 10 ∨ i = 11) with rfl | rfl | rfl | rfl | rfl | rfl | rfl | rfl | rfl | rfl | rfl | rfl
        · obtain rfl := Option.some.inj ho
          clear ho hpre hi hcl
          go_wp2_with fail
          unfold AtEnd
          exact ⟨s1, s5, s10, rfl, f1, f5, f10, hw, hch, hb⟩
        · obtain rfl := Option.some.inj ho
          clear ho hpre hi hcl
          go_wp2_with fail
          unfold AtEnd
          exact ⟨w.heap.size, s5, s10, rfl, fun _ => Blk.new w _ _, fun h => (f5 h).alloc _, fun h => (f10 h).alloc _, hw.no ((Chg.refl NoB w).alloc _), hch.alloc _, hb.alloc _⟩
        · obtain rfl := Option.some.inj ho
          have p0 := hpre ⟨0, .data⟩ (by simp) rfl
          have p1 := hpre ⟨1, .data⟩ (by simp) rfl
          have d4 : D 4 = false := (hcl.not_ 4 _ rfl 0 _ rfl rfl hD)
          have d6 : D 6 = false := (hcl.not_ 6 _ rfl 0 _ rfl rfl (hcl.not_ 4 _ rfl 0 _ rfl rfl hD))
          have d11 : D 11 = false := (hcl.not_ 11 _ rfl 0 _ rfl rfl (hcl.not_ 6 _ rfl 0 _ rfl rfl (hcl.not_ 4 _ rfl 0 _ rfl rfl hD)))
          clear ho hpre hi hcl
          obtain ⟨A0, n0, c0, hbw, how⟩ := id hw
          have hsz := hch.size
          have hw' := hw
          simp only [hD, d4, d6, d11, pick, Bool.false_eq_true, ↓reduceIte, List.append_nil, List.append_assoc] at hw'
          clear hw
          go_wp2_with fail
          refine (twos_any g base _ s1 [20] 1 1 rfl _ rfl w hw' (f1 p1) (by intro z hz; have h1 := HOK.out.at_; simp at hz; omega) (Nat.le_trans HS hsz) (by simp only [List.length_append, lay_len, mid_len, List.length_cons, List.length_nil]; omega)).mono ?_
          rintro e w3 ⟨rfl, hw3, hc3⟩
          go_wp2_with fail
          unfold AtEnd
          exact ⟨s1, s5, s10, by simp only [more, slot_true, slot_false, Nat.reduceEqDiff, ↓reduceIte, p0, p1, d4, d6, d11, hD], fun h => (f1 h).chg hc3 (fun e => (f1 h).ne_ hbw (by decide) e), fun h => (f5 h).chg hc3 (fun e => (f5 h).ne_ hbw (by decide) e), fun h => (f10 h).chg hc3 (fun e => (f10 h).ne_ hbw (by decide) e), by simpa only [more, pick, Nat.reduceEqDiff, ↓reduceIte, List.append_nil, List.append_assoc, reduceCtorEq, Bool.false_eq_true, hD, d4, d6, d11] using hw3, hch.trans hc3 (fun i _ h => by have h1 : g = base + 1 := HG; unfold OneB at h; omega), hb.chg hc3 (fun h => by have h1 : g = base + 1 := HG; have h2 : b < base := HB; unfold OneB at h; omega)⟩
        · obtain rfl := Option.some.inj ho
          clear ho hpre hi hcl
          go_wp2_with (refine wpList_load_row rfl 23 _ rfl b rfl 23 _ (0, 0) _ hb Try.underlying23 rfl rec_info ?_)
          unfold AtEnd
          exact ⟨s1, s5, s10, rfl, f1, f5, f10, hw, hch, hb⟩
        · obtain rfl := Option.some.inj ho
          have p2 := hpre ⟨2, .data⟩ (by simp) rfl
          have p3 := hpre ⟨3, .data⟩ (by simp) rfl
          have d6 : D 6 = false := (hcl.not_ 6 _ rfl 0 _ rfl rfl hD)
          have d11 : D 11 = false := (hcl.not_ 11 _ rfl 0 _ rfl rfl (hcl.not_ 6 _ rfl 0 _ rfl rfl hD))
          clear ho hpre hi hcl
          obtain ⟨A0, n0, c0, hbw, how⟩ := id hw
          have hsz := hch.size
          have hw' := hw
          simp only [hD, d6, d11, p2, pick, Bool.false_eq_true, ↓reduceIte, List.append_nil, List.append_assoc] at hw'
          clear hw
          go_wp2_with fail
          refine (common_any g base _ r w HOK.out hw' (Nat.le_trans HS hsz) (by simp only [List.length_append, lay_len, mid_len, List.length_cons, List.length_nil]; omega)).mono ?_
          rintro e w3 ⟨rfl, hw3, hc3⟩
          go_wp2_with fail
          unfold AtEnd
          exact ⟨s1, s5, s10, by simp only [more, slot_true, slot_false, Nat.reduceEqDiff, ↓reduceIte, p2, p3, d6, d11, hD], fun h => (f1 h).chg hc3 (fun e => (f1 h).ne_ hbw (by decide) e), fun h => (f5 h).chg hc3 (fun e => (f5 h).ne_ hbw (by decide) e), fun h => (f10 h).chg hc3 (fun e => (f10 h).ne_ hbw (by decide) e), by simpa only [more, pick, Nat.reduceEqDiff, ↓reduceIte, List.append_nil, List.append_assoc, reduceCtorEq, Bool.false_eq_true, hD, d6, d11, p2] using hw3, hch.trans hc3 (fun i _ h => by have h1 : g = base + 1 := HG; unfold OneB at h; omega), hb.chg hc3 (fun h => by have h1 : g = base + 1 := HG; have h2 : b < base := HB; unfold OneB at h; omega)⟩
        · obtain rfl := Option.some.inj ho
          clear ho hpre hi hcl
          go_wp2_with fail
          unfold AtEnd
          exact ⟨s1, w.heap.size, s10, rfl, fun h => (f1 h).alloc _, fun _ => Blk.new w _ _, fun h => (f10 h).alloc _, hw.no ((Chg.refl NoB w).alloc _), hch.alloc _, hb.alloc _⟩
        · obtain rfl := Option.some.inj ho
          have p4 := hpre ⟨4, .data⟩ (by simp) rfl
          have p5 := hpre ⟨5, .data⟩ (by simp) rfl
          have p2 : D 2 = true := (hcl.at_ 4 _ rfl p4 0 _ rfl rfl)
          have d11 : D 11 = false := (hcl.not_ 11 _ rfl 0 _ rfl rfl hD)
          clear ho hpre hi hcl
          obtain ⟨A0, n0, c0, hbw, how⟩ := id hw
          have hsz := hch.size
          have hw' := hw
          simp only [hD, d11, p2, p4, pick, Bool.false_eq_true, ↓reduceIte, List.append_nil, List.append_assoc] at hw'
          clear hw
          go_wp2_with fail
          refine (twos_any g base _ s5 [0, 0, 0] 3 3 rfl _ rfl w hw' (f5 p5) (by intro z hz; have h1 := HOK.out.at_; simp at hz; omega) (Nat.le_trans HS hsz) (by simp only [List.length_append, lay_len, mid_len, List.length_cons, List.length_nil]; omega)).mono ?_
          rintro e w3 ⟨rfl, hw3, hc3⟩
          go_wp2_with fail
          unfold AtEnd
          exact ⟨s1, s5, s10, by simp only [more, slot_true, slot_false, Nat.reduceEqDiff, ↓reduceIte, p4, p5, p2, d11, hD], fun h => (f1 h).chg hc3 (fun e => (f1 h).ne_ hbw (by decide) e), fun h => (f5 h).chg hc3 (fun e => (f5 h).ne_ hbw (by decide) e), fun h => (f10 h).chg hc3 (fun e => (f10 h).ne_ hbw (by decide) e), by simpa only [more, pick, Nat.reduceEqDiff, ↓reduceIte, List.append_nil, List.append_assoc, reduceCtorEq, Bool.false_eq_true, hD, d11, p2, p4] using hw3, hch.trans hc3 (fun i _ h => by have h1 : g = base + 1 := HG; unfold OneB at h; omega), hb.chg hc3 (fun h => by have h1 : g = base + 1 := HG; have h2 : b < base := HB; unfold OneB at h; omega)⟩
        · obtain rfl := Option.some.inj ho
          clear ho hpre hi hcl
          go_wp2_with fail
          unfold AtEnd
          exact ⟨s1, s5, s10, rfl, f1, f5, f10, hw, hch, hb⟩
        · obtain rfl := Option.some.inj ho
          clear ho hpre hi hcl
          go_wp2_with fail
          unfold AtEnd
          exact ⟨s1, s5, s10, rfl, f1, f5, f10, hw, hch, hb⟩
        · obtain rfl := Option.some.inj ho
          have p8 := hpre ⟨8, .data⟩ (by simp) rfl
          clear ho hpre hi hcl
          have c1 := hb.cell 5
          simp only [Rec.cells] at c1
          go_wp2_with fail
          unfold AtEnd
          exact ⟨s1, s5, s10, by simp only [more, slot_true, slot_false, Nat.reduceEqDiff, ↓reduceIte, p8], f1, f5, f10, hw, hch, hb⟩
        · obtain rfl := Option.some.inj ho
          have p7 := hpre ⟨7, .data⟩ (by simp) rfl
          have p9 := hpre ⟨9, .data⟩ (by simp) rfl
          clear ho hpre hi hcl
          go_wp2_with fail
          unfold AtEnd
          exact ⟨s1, s5, w.heap.size, by simp only [more, slot_true, slot_false, Nat.reduceEqDiff, ↓reduceIte, p7, p9], fun h => (f1 h).alloc _, fun h => (f5 h).alloc _, fun _ => Blk.new w _ _, hw.no ((Chg.refl NoB w).alloc _), hch.alloc _, hb.alloc _⟩
        · obtain rfl := Option.some.inj ho
          have p6 := hpre ⟨6, .data⟩ (by simp) rfl
          have p10 := hpre ⟨10, .data⟩ (by simp) rfl
          have p2 : D 2 = true := (hcl.at_ 4 _ rfl (hcl.at_ 6 _ rfl p6 0 _ rfl rfl) 0 _ rfl rfl)
          have p4 : D 4 = true := (hcl.at_ 6 _ rfl p6 0 _ rfl rfl)
          clear ho hpre hi hcl
          obtain ⟨A0, n0, c0, hbw, how⟩ := id hw
          have hsz := hch.size
          have hw' := hw
          simp only [hD, p2, p4, p6, pick, Bool.false_eq_true, ↓reduceIte, List.append_nil, List.append_assoc] at hw'
          clear hw
          go_wp2_with fail
          refine (fours_any g base _ s10 [0, r.at_] 2 2 rfl _ rfl w hw' (f10 p10) (by intro z hz; have h1 := HOK.out.at_; simp at hz; omega) (Nat.le_trans HS hsz) (by simp only [List.length_append, lay_len, mid_len, List.length_cons, List.length_nil]; omega)).mono ?_
          rintro e w3 ⟨rfl, hw3, hc3⟩
          go_wp2_with fail
          unfold AtEnd
          exact ⟨s1, s5, s10, by simp only [more, slot_true, slot_false, Nat.reduceEqDiff, ↓reduceIte, p6, p10, p2, p4, hD], fun h => (f1 h).chg hc3 (fun e => (f1 h).ne_ hbw (by decide) e), fun h => (f5 h).chg hc3 (fun e => (f5 h).ne_ hbw (by decide) e), fun h => (f10 h).chg hc3 (fun e => (f10 h).ne_ hbw (by decide) e), by simpa only [more, pick, Nat.reduceEqDiff, ↓reduceIte, List.append_nil, List.append_assoc, reduceCtorEq, Bool.false_eq_true, hD, p2, p4, p6] using hw3, hch.trans hc3 (fun i _ h => by have h1 : g = base + 1 := HG; unfold OneB at h; omega), hb.chg hc3 (fun h => by have h1 : g = base + 1 := HG; have h2 : b < base := HB; unfold OneB at h; omega)⟩
      · intro D a w hall hI
        obtain ⟨s1, s5, s10, rfl, f1, f5, f10, hw, hch, hb⟩ := hI
        have e2 := hall 2 (by decide)
        have e4 := hall 4 (by decide)
        have e6 := hall 6 (by decide)
        have e11 := hall 11 (by decide)
        have e0 := hall 0 (by decide)
        have e1 := hall 1 (by decide)
        have e3 := hall 3 (by decide)
        have e5 := hall 5 (by decide)
        have e7 := hall 7 (by decide)
        have e8 := hall 8 (by decide)
        have e9 := hall 9 (by decide)
        have e10 := hall 10 (by decide)
        rw [e2, e4, e6, e11] at hw
        simp only [pick, ↓reduceIte] at hw
        rw [e0, e1, e2, e3, e4, e5, e6, e7, e8, e9, e10, e11]
        simp only [slot_true]
        clear hall f1 f5 f10 e0 e1 e2 e3 e4 e5 e6 e7 e8 e9 e10 e11 i1 i2 i3 hw0 hw2 hc0 hcc2 hcc1 hbase hg
        obtain ⟨A, n, c, hbw, how⟩ := hw
        obtain ⟨u, hu⟩ : ∃ u, u = Value.slice A n c := ⟨_, rfl⟩
        obtain ⟨L, hL⟩ : ∃ L, L = [80, 75, 1, 2] ++ lay 2 [20] ++ r.mid ++ lay 2 [0, 0, 0] ++ lay 4 [0, r.at_] := ⟨_, rfl⟩
        rw [← hu] at hbw how
        rw [← hL] at how
        have HLL := Lib.hid (show L.length ≤ 1000 by rw [hL]; exact (by simp only [List.length_append, lay_len, mid_len, List.length_cons, List.length_nil]; omega))
        have HLE := Lib.hid hL
        have HNL : Hid (0 < r.name.length ∧ r.name.length ≤ 65535) := by have h1 := HOK.out; exact ⟨h1.name1, h1.name2⟩
        obtain ⟨w3, hw3⟩ : ∃ w3, w3 = w := ⟨_, rfl⟩
        subst hw3
        have HS3 : Hid (base ≤ w3.heap.size) := Nat.le_trans HS hch.size
        have HCH := Lib.hid hch
        have j1 : false = false → Blk w3.drew g 51 #[u] ∧ OwnB w3.drew base u L := fun _ => ⟨hbw.drew, how.chg (Chg.refl NoB _).drew (fun _ _ h => h)⟩
        have j2 : Chg (fun i => base ≤ i) w3 w3.drew := (Chg.refl _ _).drew
        have j3 := hb.drew
        clear hbw how hb hch hL hu hbd
        go_wp2_with fail
        refine wp_region_cl rfl (by kernel_rfl) (InvCen9 g base b s1 s5 s10 r 0 false u L w3) ?_ ?_ ?_
        · exact ⟨undef, rfl, (fun _ => j1 trivial), (fun h => nomatch h), j2, j3⟩
        · clear j1 j2 j3
          intro D a w i o ho hD hcl hpre hI
          obtain ⟨v, rfl, hw, hv, hch, hb⟩ := hI
          have hi : i < 9 := by have := (List.getElem?_eq_some_iff.1 ho).1; simpa using this
          rcases (by omega : i = 0 ∨ i = 1 ∨ i = 2 ∨ i = 3 ∨ i = 4 ∨ i = 5 ∨ i = 6 ∨ i = 7 ∨ i = 8) with rfl | rfl | rfl | rfl | rfl | rfl | rfl | rfl | rfl
          · obtain rfl := Option.some.inj ho
            clear ho hpre hi hcl
            go_wp2_with fail
            unfold AtEnd
            exact ⟨v, rfl, hw, hv, hch, hb⟩
          · obtain rfl := Option.some.inj ho
            have p0 := hpre ⟨0, .data⟩ (by simp) rfl
            clear ho hpre hi hcl
            go_wp2_with fail
            unfold AtEnd
            exact ⟨v, by simp only [more, slot_true, slot_false, Nat.reduceEqDiff, ↓reduceIte, p0], hw, hv, hch, hb⟩
          · obtain rfl := Option.some.inj ho
            have p1 := hpre ⟨1, .data⟩ (by simp) rfl
            clear ho hpre hi hcl
            go_wp2_with fail
            unfold AtEnd
            exact ⟨v, by simp only [more, slot_true, slot_false, Nat.reduceEqDiff, ↓reduceIte, p1], hw, hv, hch, hb⟩
          · obtain rfl := Option.some.inj ho
            have p2 := hpre ⟨2, .data⟩ (by simp) rfl
            have d6 : D 6 = false := (hcl.not_ 6 _ rfl 0 _ rfl rfl hD)
            clear ho hpre hi hcl
            obtain ⟨hbw, how⟩ := hw d6
            have c1 := hbw.cell 0
            clear hw hv
            go_wp2_with fail
            unfold AtEnd
            exact ⟨v, by simp only [more, slot_true, slot_false, Nat.reduceEqDiff, ↓reduceIte, p2, d6], fun _ => ⟨hbw, how⟩, fun h => by simp [more, d6] at h, hch, hb⟩
          · obtain rfl := Option.some.inj ho
            clear ho hpre hi hcl
            go_wp2_with fail
            unfold AtEnd
            exact ⟨v, rfl, hw, hv, hch, hb⟩
          · obtain rfl := Option.some.inj ho
            have p4 := hpre ⟨4, .data⟩ (by simp) rfl
            clear ho hpre hi hcl
            have c1 := hb.cell 0
            simp only [Rec.cells] at c1
            go_wp2_with fail
            unfold AtEnd
            exact ⟨v, by simp only [more, slot_true, slot_false, Nat.reduceEqDiff, ↓reduceIte, p4], hw, hv, hch, hb⟩
          · obtain rfl := Option.some.inj ho
            have p3 := hpre ⟨3, .data⟩ (by simp) rfl
            have p5 := hpre ⟨5, .data⟩ (by simp) rfl
            have d7 : D 7 = false := (hcl.not_ 7 _ rfl 0 _ rfl rfl hD)
            clear ho hpre hi hcl
            have hu' := (hw hD).2
            have hsz := hch.size
            clear hw hv
            rw [p3, p5]
            simp only [slot_true]
            refine wpList_appendStrB rfl _ _ rfl base u _ (by rfl) hu' r.name (by rfl) HNL.out.1 (by have h1 := HNL.out.2; have h2 := HLL.out; omega) (Nat.le_trans HS3 hsz) ?_
            intro v' w' hv' hg'
            go_wp2_with fail
            unfold AtEnd
            exact ⟨v', by simp only [more, slot_true, slot_false, Nat.reduceEqDiff, ↓reduceIte, p3, p5, d7], fun h => by simp [more] at h, fun _ => hv', hch.grown hg' (fun i e => .inl (hu'.lt i e).1), hb.grown hg' (fun e => by have h1 := (hu'.lt b e.symm).1; have h2 : b < base := HB; omega)⟩
          · obtain rfl := Option.some.inj ho
            have p6 := hpre ⟨6, .data⟩ (by simp) rfl
            clear ho hpre hi hcl
            go_wp2_with fail
            unfold AtEnd
            exact ⟨v, by simp only [more, slot_true, slot_false, Nat.reduceEqDiff, ↓reduceIte, p6], hw, hv, hch, hb⟩
          · obtain rfl := Option.some.inj ho
            have p7 := hpre ⟨7, .chain⟩ (by simp) rfl
            clear ho hpre hi hcl
            go_wp2_with fail
            unfold AtEnd
            exact ⟨v, by simp only [more, slot_true, slot_false, Nat.reduceEqDiff, ↓reduceIte, p7], hw, hv, hch, hb⟩
        · intro D a w hall hI
          obtain ⟨v, rfl, hw, hv, hch, hb⟩ := hI
          have e6 := hall 6 (by decide)
          have e7 := hall 7 (by decide)
          have e8 := hall 8 (by decide)
          have hv' := hv e6
          clear hall hw hv
          rw [e7, e8]
          clear e6 e7 e8
          go_wp2_with fail
          go_ret2
          refine ⟨.inl ⟨HOK.out, v, rfl, ?_⟩, ?_⟩
          · have h1 := hv'.base_ hle.out
            rw [HLE.out] at h1
            unfold centralL; rw [HK.out]; exact h1
          · exact Chg.trans HC (HCH.out.trans hch (fun _ _ h => h)) (fun i hi h => absurd h (by have h1 := Hid.out hle; omega))
    · go_wp2_with ((refine (suf_any r.name (by omega) hn2 _).mono ?_); rw [hsl]; rintro e w1 ⟨rfl, rfl⟩)
      obtain ⟨hw0, hc0⟩ := mark_wr w1 [80, 75, 1, 2] #[.int .u8 80, .int .u8 75, .int .u8 1, .int .u8 2] 4 rfl rfl
      obtain ⟨w2, hw2⟩ : ∃ w2, w2 = ((w1.alloc (.cells #[.int .u8 80, .int .u8 75, .int .u8 1, .int .u8 2] 5 (4, 5))).alloc (.cells #[.slice (some ⟨w1.heap.size, 0, none⟩) 4 4] 51)) := ⟨_, rfl⟩
      rw [← hw2] at hw0 hc0 ⊢
      have i3 := (hb.chg hc0 (fun h => h)).drew
      have hcc2 : Chg NoB w w2 := hcc1.trans hc0 (fun _ _ h => h)
      obtain ⟨b, hbd⟩ : ∃ b, b = w.heap.size := ⟨_, rfl⟩
      obtain ⟨base, hbase⟩ : ∃ base, base = w1.heap.size := ⟨_, rfl⟩
      obtain ⟨g, hg⟩ : ∃ g, g = base + 1 := ⟨_, rfl⟩
      rw [← hbase, ← hg] at hw0
      rw [← hbd] at i3
      rw [← hbase, ← hbd, ← hg]
      have hle : Hid (w.heap.size ≤ base) := by have h1 := hcc1.size; rw [hbase]; exact h1
      have HG : Hid (g = base + 1) := hg
      have HB : Hid (b < base) := by have h1 := hbox1; rw [hbd, hbase]; exact h1
      have HS : Hid (base ≤ w2.heap.size) := by rw [hbase]; exact hc0.size
      have HC : Hid (Chg NoB w w2) := hcc2
      have HK : Hid (kindOf r = 16) := by rw [kindOf, hsl]; rfl
      clear hsl c1
      have i2 : Chg (fun i => base ≤ i) w2 w2.drew := (Chg.refl _ _).drew
      have i1 : Wr w2.drew base g ([80, 75, 1, 2] ++ pick false (lay 2 [20]) ++ pick false r.mid ++ pick false (lay 2 [0, 0, 0]) ++ pick false (lay 4 [16, r.at_])) := by simpa [pick] using hw0.no ((Chg.refl NoB _).drew)
      refine wp_region_cl rfl (by kernel_rfl) (InvCen8 g base b r 16 true w2) ?_ ?_ ?_
      · exact ⟨0, 0, 0, rfl, (fun h => nomatch h), (fun h => nomatch h), (fun h => nomatch h), i1, i2, i3⟩
      · clear i1 i2 i3 hw2 hbd hbase hg hw0 hc0 hcc2 hcc1 hb hbox1
        intro D a w i o ho hD hcl hpre hI
        obtain ⟨s1, s5, s10, rfl, f1, f5, f10, hw, hch, hb⟩ := hI
        have hi : i < 12 := by have := (List.getElem?_eq_some_iff.1 ho).1; simpa using this
        rcases (by omega : i = 0 ∨ i = 1 ∨ i = 2 ∨ i = 3 ∨ i = 4 ∨ i = 5 ∨ i = 6 ∨ i = 7 ∨ i = 8 ∨ i = 9 ∨ i = 10 ∨ i = 11) with rfl | rfl | rfl | rfl | rfl | rfl | rfl | rfl | rfl | rfl | rfl | rfl
        · obtain rfl := Option.some.inj ho
          clear ho hpre hi hcl
          go_wp2_with fail
          unfold AtEnd
          exact ⟨s1, s5, s10, rfl, f1, f5, f10, hw, hch, hb⟩
        · obtain rfl := Option.some.inj ho
          clear ho hpre hi hcl
          go_wp2_with fail
          unfold AtEnd
          exact ⟨w.heap.size, s5, s10, rfl, fun _ => Blk.new w _ _, fun h => (f5 h).alloc _, fun h => (f10 h).alloc _, hw.no ((Chg.refl NoB w).alloc _), hch.alloc _, hb.alloc _⟩
        · obtain rfl := Option.some.inj ho
          have p0 := hpre ⟨0, .data⟩ (by simp) rfl
          have p1 := hpre ⟨1, .data⟩ (by simp) rfl
          have d4 : D 4 = false := (hcl.not_ 4 _ rfl 0 _ rfl rfl hD)
          have d6 : D 6 = false := (hcl.not_ 6 _ rfl 0 _ rfl rfl (hcl.not_ 4 _ rfl 0 _ rfl rfl hD))
          have d11 : D 11 = false := (hcl.not_ 11 _ rfl 0 _ rfl rfl (hcl.not_ 6 _ rfl 0 _ rfl rfl (hcl.not_ 4 _ rfl 0 _ rfl rfl hD)))
          clear ho hpre hi hcl
          obtain ⟨A0, n0, c0, hbw, how⟩ := id hw
          have hsz := hch.size
          have hw' := hw
          simp only [hD, d4, d6, d11, pick, Bool.false_eq_true, ↓reduceIte, List.append_nil, List.append_assoc] at hw'
          clear hw
          go_wp2_with fail
          refine (twos_any g base _ s1 [20] 1 1 rfl _ rfl w hw' (f1 p1) (by intro z hz; have h1 := HOK.out.at_; simp at hz; omega) (Nat.le_trans HS hsz) (by simp only [List.length_append, lay_len, mid_len, List.length_cons, List.length_nil]; omega)).mono ?_
          rintro e w3 ⟨rfl, hw3, hc3⟩
          go_wp2_with fail
          unfold AtEnd
          exact ⟨s1, s5, s10, by simp only [more, slot_true, slot_false, Nat.reduceEqDiff, ↓reduceIte, p0, p1, d4, d6, d11, hD], fun h => (f1 h).chg hc3 (fun e => (f1 h).ne_ hbw (by decide) e), fun h => (f5 h).chg hc3 (fun e => (f5 h).ne_ hbw (by decide) e), fun h => (f10 h).chg hc3 (fun e => (f10 h).ne_ hbw (by decide) e), by simpa only [more, pick, Nat.reduceEqDiff, ↓reduceIte, List.append_nil, List.append_assoc, reduceCtorEq, Bool.false_eq_true, hD, d4, d6, d11] using hw3, hch.trans hc3 (fun i _ h => by have h1 : g = base + 1 := HG; unfold OneB at h; omega), hb.chg hc3 (fun h => by have h1 : g = base + 1 := HG; have h2 : b < base := HB; unfold OneB at h; omega)⟩
        · obtain rfl := Option.some.inj ho
          clear ho hpre hi hcl
          go_wp2_with (refine wpList_load_row rfl 23 _ rfl b rfl 23 _ (0, 0) _ hb Try.underlying23 rfl rec_info ?_)
          unfold AtEnd
          exact ⟨s1, s5, s10, rfl, f1, f5, f10, hw, hch, hb⟩
        · obtain rfl := Option.some.inj ho
          have p2 := hpre ⟨2, .data⟩ (by simp) rfl
          have p3 := hpre ⟨3, .data⟩ (by simp) rfl
          have d6 : D 6 = false := (hcl.not_ 6 _ rfl 0 _ rfl rfl hD)
          have d11 : D 11 = false := (hcl.not_ 11 _ rfl 0 _ rfl rfl (hcl.not_ 6 _ rfl 0 _ rfl rfl hD))
          clear ho hpre hi hcl
          obtain ⟨A0, n0, c0, hbw, how⟩ := id hw
          have hsz := hch.size
          have hw' := hw
          simp only [hD, d6, d11, p2, pick, Bool.false_eq_true, ↓reduceIte, List.append_nil, List.append_assoc] at hw'
          clear hw
          go_wp2_with fail
          refine (common_any g base _ r w HOK.out hw' (Nat.le_trans HS hsz) (by simp only [List.length_append, lay_len, mid_len, List.length_cons, List.length_nil]; omega)).mono ?_
          rintro e w3 ⟨rfl, hw3, hc3⟩
          go_wp2_with fail
          unfold AtEnd
          exact ⟨s1, s5, s10, by simp only [more, slot_true, slot_false, Nat.reduceEqDiff, ↓reduceIte, p2, p3, d6, d11, hD], fun h => (f1 h).chg hc3 (fun e => (f1 h).ne_ hbw (by decide) e), fun h => (f5 h).chg hc3 (fun e => (f5 h).ne_ hbw (by decide) e), fun h => (f10 h).chg hc3 (fun e => (f10 h).ne_ hbw (by decide) e), by simpa only [more, pick, Nat.reduceEqDiff, ↓reduceIte, List.append_nil, List.append_assoc, reduceCtorEq, Bool.false_eq_true, hD, d6, d11, p2] using hw3, hch.trans hc3 (fun i _ h => by have h1 : g = base + 1 := HG; unfold OneB at h; omega), hb.chg hc3 (fun h => by have h1 : g = base + 1 := HG; have h2 : b < base := HB; unfold OneB at h; omega)⟩
        · obtain rfl := Option.some.inj ho
          clear ho hpre hi hcl
          go_wp2_with fail
          unfold AtEnd
          exact ⟨s1, w.heap.size, s10, rfl, fun h => (f1 h).alloc _, fun _ => Blk.new w _ _, fun h => (f10 h).alloc _, hw.no ((Chg.refl NoB w).alloc _), hch.alloc _, hb.alloc _⟩
        · obtain rfl := Option.some.inj ho
          have p4 := hpre ⟨4, .data⟩ (by simp) rfl
          have p5 := hpre ⟨5, .data⟩ (by simp) rfl
          have p2 : D 2 = true := (hcl.at_ 4 _ rfl p4 0 _ rfl rfl)
          have d11 : D 11 = false := (hcl.not_ 11 _ rfl 0 _ rfl rfl hD)
          clear ho hpre hi hcl
          obtain ⟨A0, n0, c0, hbw, how⟩ := id hw
          have hsz := hch.size
          have hw' := hw
          simp only [hD, d11, p2, p4, pick, Bool.false_eq_true, ↓reduceIte, List.append_nil, List.append_assoc] at hw'
          clear hw
          go_wp2_with fail
          refine (twos_any g base _ s5 [0, 0, 0] 3 3 rfl _ rfl w hw' (f5 p5) (by intro z hz; have h1 := HOK.out.at_; simp at hz; omega) (Nat.le_trans HS hsz) (by simp only [List.length_append, lay_len, mid_len, List.length_cons, List.length_nil]; omega)).mono ?_
          rintro e w3 ⟨rfl, hw3, hc3⟩
          go_wp2_with fail
          unfold AtEnd
          exact ⟨s1, s5, s10, by simp only [more, slot_true, slot_false, Nat.reduceEqDiff, ↓reduceIte, p4, p5, p2, d11, hD], fun h => (f1 h).chg hc3 (fun e => (f1 h).ne_ hbw (by decide) e), fun h => (f5 h).chg hc3 (fun e => (f5 h).ne_ hbw (by decide) e), fun h => (f10 h).chg hc3 (fun e => (f10 h).ne_ hbw (by decide) e), by simpa only [more, pick, Nat.reduceEqDiff, ↓reduceIte, List.append_nil, List.append_assoc, reduceCtorEq, Bool.false_eq_true, hD, d11, p2, p4] using hw3, hch.trans hc3 (fun i _ h => by have h1 : g = base + 1 := HG; unfold OneB at h; omega), hb.chg hc3 (fun h => by have h1 : g = base + 1 := HG; have h2 : b < base := HB; unfold OneB at h; omega)⟩
        · obtain rfl := Option.some.inj ho
          clear ho hpre hi hcl
          go_wp2_with fail
          unfold AtEnd
          exact ⟨s1, s5, s10, rfl, f1, f5, f10, hw, hch, hb⟩
        · obtain rfl := Option.some.inj ho
          clear ho hpre hi hcl
          go_wp2_with fail
          unfold AtEnd
          exact ⟨s1, s5, s10, rfl, f1, f5, f10, hw, hch, hb⟩
        · obtain rfl := Option.some.inj ho
          have p8 := hpre ⟨8, .data⟩ (by simp) rfl
          clear ho hpre hi hcl
          have c1 := hb.cell 5
          simp only [Rec.cells] at c1
          go_wp2_with fail
          unfold AtEnd
          exact ⟨s1, s5, s10, by simp only [more, slot_true, slot_false, Nat.reduceEqDiff, ↓reduceIte, p8], f1, f5, f10, hw, hch, hb⟩
        · obtain rfl := Option.some.inj ho
          have p7 := hpre ⟨7, .data⟩ (by simp) rfl
          have p9 := hpre ⟨9, .data⟩ (by simp) rfl
          clear ho hpre hi hcl
          go_wp2_with fail
          unfold AtEnd
          exact ⟨s1, s5, w.heap.size, by simp only [more, slot_true, slot_false, Nat.reduceEqDiff, ↓reduceIte, p7, p9], fun h => (f1 h).alloc _, fun h => (f5 h).alloc _, fun _ => Blk.new w _ _, hw.no ((Chg.refl NoB w).alloc _), hch.alloc _, hb.alloc _⟩
        · obtain rfl := Option.some.inj ho
          have p6 := hpre ⟨6, .data⟩ (by simp) rfl
          have p10 := hpre ⟨10, .data⟩ (by simp) rfl
          have p2 : D 2 = true := (hcl.at_ 4 _ rfl (hcl.at_ 6 _ rfl p6 0 _ rfl rfl) 0 _ rfl rfl)
          have p4 : D 4 = true := (hcl.at_ 6 _ rfl p6 0 _ rfl rfl)
          clear ho hpre hi hcl
          obtain ⟨A0, n0, c0, hbw, how⟩ := id hw
          have hsz := hch.size
          have hw' := hw
          simp only [hD, p2, p4, p6, pick, Bool.false_eq_true, ↓reduceIte, List.append_nil, List.append_assoc] at hw'
          clear hw
          go_wp2_with fail
          refine (fours_any g base _ s10 [16, r.at_] 2 2 rfl _ rfl w hw' (f10 p10) (by intro z hz; have h1 := HOK.out.at_; simp at hz; omega) (Nat.le_trans HS hsz) (by simp only [List.length_append, lay_len, mid_len, List.length_cons, List.length_nil]; omega)).mono ?_
          rintro e w3 ⟨rfl, hw3, hc3⟩
          go_wp2_with fail
          unfold AtEnd
          exact ⟨s1, s5, s10, by simp only [more, slot_true, slot_false, Nat.reduceEqDiff, ↓reduceIte, p6, p10, p2, p4, hD], fun h => (f1 h).chg hc3 (fun e => (f1 h).ne_ hbw (by decide) e), fun h => (f5 h).chg hc3 (fun e => (f5 h).ne_ hbw (by decide) e), fun h => (f10 h).chg hc3 (fun e => (f10 h).ne_ hbw (by decide) e), by simpa only [more, pick, Nat.reduceEqDiff, ↓reduceIte, List.append_nil, List.append_assoc, reduceCtorEq, Bool.false_eq_true, hD, p2, p4, p6] using hw3, hch.trans hc3 (fun i _ h => by have h1 : g = base + 1 := HG; unfold OneB at h; omega), hb.chg hc3 (fun h => by have h1 : g = base + 1 := HG; have h2 : b < base := HB; unfold OneB at h; omega)⟩
      · intro D a w hall hI
        obtain ⟨s1, s5, s10, rfl, f1, f5, f10, hw, hch, hb⟩ := hI
        have e2 := hall 2 (by decide)
        have e4 := hall 4 (by decide)
        have e6 := hall 6 (by decide)
        have e11 := hall 11 (by decide)
        have e0 := hall 0 (by decide)
        have e1 := hall 1 (by decide)
        have e3 := hall 3 (by decide)
        have e5 := hall 5 (by decide)
        have e7 := hall 7 (by decide)
        have e8 := hall 8 (by decide)
        have e9 := hall 9 (by decide)
        have e10 := hall 10 (by decide)
        rw [e2, e4, e6, e11] at hw
        simp only [pick, ↓reduceIte] at hw
        rw [e0, e1, e2, e3, e4, e5, e6, e7, e8, e9, e10, e11]
        simp only [slot_true]
        clear hall f1 f5 f10 e0 e1 e2 e3 e4 e5 e6 e7 e8 e9 e10 e11 i1 i2 i3 hw0 hw2 hc0 hcc2 hcc1 hbase hg
        obtain ⟨A, n, c, hbw, how⟩ := hw
        obtain ⟨u, hu⟩ : ∃ u, u = Value.slice A n c := ⟨_, rfl⟩
        obtain ⟨L, hL⟩ : ∃ L, L = [80, 75, 1, 2] ++ lay 2 [20] ++ r.mid ++ lay 2 [0, 0, 0] ++ lay 4 [16, r.at_] := ⟨_, rfl⟩
        rw [← hu] at hbw how
        rw [← hL] at how
        have HLL := Lib.hid (show L.length ≤ 1000 by rw [hL]; exact (by simp only [List.length_append, lay_len, mid_len, List.length_cons, List.length_nil]; omega))
        have HLE := Lib.hid hL
        have HNL : Hid (0 < r.name.length ∧ r.name.length ≤ 65535) := by have h1 := HOK.out; exact ⟨h1.name1, h1.name2⟩
        obtain ⟨w3, hw3⟩ : ∃ w3, w3 = w := ⟨_, rfl⟩
        subst hw3
        have HS3 : Hid (base ≤ w3.heap.size) := Nat.le_trans HS hch.size
        have HCH := Lib.hid hch
        have j1 : false = false → Blk w3.drew g 51 #[u] ∧ OwnB w3.drew base u L := fun _ => ⟨hbw.drew, how.chg (Chg.refl NoB _).drew (fun _ _ h => h)⟩
        have j2 : Chg (fun i => base ≤ i) w3 w3.drew := (Chg.refl _ _).drew
        have j3 := hb.drew
        clear hbw how hb hch hL hu hbd
        go_wp2_with fail
        refine wp_region_cl rfl (by kernel_rfl) (InvCen9 g base b s1 s5 s10 r 16 true u L w3) ?_ ?_ ?_
        · exact ⟨undef, rfl, (fun _ => j1 trivial), (fun h => nomatch h), j2, j3⟩
        · clear j1 j2 j3
          intro D a w i o ho hD hcl hpre hI
          obtain ⟨v, rfl, hw, hv, hch, hb⟩ := hI
          have hi : i < 9 := by have := (List.getElem?_eq_some_iff.1 ho).1; simpa using this
          rcases (by omega : i = 0 ∨ i = 1 ∨ i = 2 ∨ i = 3 ∨ i = 4 ∨ i = 5 ∨ i = 6 ∨ i = 7 ∨ i = 8) with rfl | rfl | rfl | rfl | rfl | rfl | rfl | rfl | rfl
          · obtain rfl := Option.some.inj ho
            clear ho hpre hi hcl
            go_wp2_with fail
            unfold AtEnd
            exact ⟨v, rfl, hw, hv, hch, hb⟩
          · obtain rfl := Option.some.inj ho
            have p0 := hpre ⟨0, .data⟩ (by simp) rfl
            clear ho hpre hi hcl
            go_wp2_with fail
            unfold AtEnd
            exact ⟨v, by simp only [more, slot_true, slot_false, Nat.reduceEqDiff, ↓reduceIte, p0], hw, hv, hch, hb⟩
          · obtain rfl := Option.some.inj ho
            have p1 := hpre ⟨1, .data⟩ (by simp) rfl
            clear ho hpre hi hcl
            go_wp2_with fail
            unfold AtEnd
            exact ⟨v, by simp only [more, slot_true, slot_false, Nat.reduceEqDiff, ↓reduceIte, p1], hw, hv, hch, hb⟩
          · obtain rfl := Option.some.inj ho
            have p2 := hpre ⟨2, .data⟩ (by simp) rfl
            have d6 : D 6 = false := (hcl.not_ 6 _ rfl 0 _ rfl rfl hD)
            clear ho hpre hi hcl
            obtain ⟨hbw, how⟩ := hw d6
            have c1 := hbw.cell 0
            clear hw hv
            go_wp2_with fail
            unfold AtEnd
            exact ⟨v, by simp only [more, slot_true, slot_false, Nat.reduceEqDiff, ↓reduceIte, p2, d6], fun _ => ⟨hbw, how⟩, fun h => by simp [more, d6] at h, hch, hb⟩
          · obtain rfl := Option.some.inj ho
            clear ho hpre hi hcl
            go_wp2_with fail
            unfold AtEnd
            exact ⟨v, rfl, hw, hv, hch, hb⟩
          · obtain rfl := Option.some.inj ho
            have p4 := hpre ⟨4, .data⟩ (by simp) rfl
            clear ho hpre hi hcl
            have c1 := hb.cell 0
            simp only [Rec.cells] at c1
            go_wp2_with fail
            unfold AtEnd
            exact ⟨v, by simp only [more, slot_true, slot_false, Nat.reduceEqDiff, ↓reduceIte, p4], hw, hv, hch, hb⟩
          · obtain rfl := Option.some.inj ho
            have p3 := hpre ⟨3, .data⟩ (by simp) rfl
            have p5 := hpre ⟨5, .data⟩ (by simp) rfl
            have d7 : D 7 = false := (hcl.not_ 7 _ rfl 0 _ rfl rfl hD)
            clear ho hpre hi hcl
            have hu' := (hw hD).2
            have hsz := hch.size
            clear hw hv
            rw [p3, p5]
            simp only [slot_true]
            refine wpList_appendStrB rfl _ _ rfl base u _ (by rfl) hu' r.name (by rfl) HNL.out.1 (by have h1 := HNL.out.2; have h2 := HLL.out; omega) (Nat.le_trans HS3 hsz) ?_
            intro v' w' hv' hg'
            go_wp2_with fail
            unfold AtEnd
            exact ⟨v', by simp only [more, slot_true, slot_false, Nat.reduceEqDiff, ↓reduceIte, p3, p5, d7], fun h => by simp [more] at h, fun _ => hv', hch.grown hg' (fun i e => .inl (hu'.lt i e).1), hb.grown hg' (fun e => by have h1 := (hu'.lt b e.symm).1; have h2 : b < base := HB; omega)⟩
          · obtain rfl := Option.some.inj ho
            have p6 := hpre ⟨6, .data⟩ (by simp) rfl
            clear ho hpre hi hcl
            go_wp2_with fail
            unfold AtEnd
            exact ⟨v, by simp only [more, slot_true, slot_false, Nat.reduceEqDiff, ↓reduceIte, p6], hw, hv, hch, hb⟩
          · obtain rfl := Option.some.inj ho
            have p7 := hpre ⟨7, .chain⟩ (by simp) rfl
            clear ho hpre hi hcl
            go_wp2_with fail
            unfold AtEnd
            exact ⟨v, by simp only [more, slot_true, slot_false, Nat.reduceEqDiff, ↓reduceIte, p7], hw, hv, hch, hb⟩
        · intro D a w hall hI
          obtain ⟨v, rfl, hw, hv, hch, hb⟩ := hI
          have e6 := hall 6 (by decide)
          have e7 := hall 7 (by decide)
          have e8 := hall 8 (by decide)
          have hv' := hv e6
          clear hall hw hv
          rw [e7, e8]
          clear e6 e7 e8
          go_wp2_with fail
          go_ret2
          refine ⟨.inl ⟨HOK.out, v, rfl, ?_⟩, ?_⟩
          · have h1 := hv'.base_ hle.out
            rw [HLE.out] at h1
            unfold centralL; rw [HK.out]; exact h1
          · exact Chg.trans HC (HCH.out.trans hch (fun _ _ h => h)) (fun i hi h => absurd h (by have h1 := Hid.out hle; omega))
  · have HOK := Lib.hid hok
    clear hok
    go_wp2_with fail
    go_ret2
    exact ⟨.inr ⟨HOK.out, rfl⟩, hcc1⟩
end Go.Proofs.Ytgojdkjneggmjaa
