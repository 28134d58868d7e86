/-
  THE WALKS of the reference's Bytes, Piece, Get.
-/
import Derived.Test.YtlhfhhbafhnbkaaFld4
namespace Go.Proofs.Ytlhfhhbafhnbkaa
open Go.RowKit FieldM
theorem rbyte_walk (x : Nat) : ((x : Int) % 256) = ((UInt8.ofNat (x % 256)).toNat : Int) := by
  rw [ofNat_toNat _ (by omega)]; simp
set_option maxRecDepth 100000 in
set_option maxHeartbeats 1000000 in
theorem rbytes_any (x k : Nat) (hk : k ≤ 8) (hx : x ≤ 9223372036854775807) (w : World) :
    Calls Try.prog 37 #[.int .i64 (x : Int), .int .i64 (k : Int)] w fun e w' => (∃ v, e = .returned v ∧ OwnB w' w.heap.size v (leB x k)) ∧ Chg NoB w w' := by
  go_enter Try.func37, Try.ntmps37
  go_wp2_with fail
  go_loopw [0, 5, 6] (fun s v i wr => ∃ j y : Nat, j ≤ k ∧ i = .int .i64 j ∧ s = .int .i64 y ∧ Hid (y = x / 256 ^ j) ∧ y ≤ 9223372036854775807 ∧ OwnB wr w.heap.size v (leB x j) ∧ Chg NoB w wr) (fun _ _ i _ => k - (intOf i).toNat)
  case atStart => exact ⟨0, x, by omega, rfl, rfl, by simp [Hid], hx, OwnB.nil_ _ _, Chg.refl _ _⟩
  case round =>
    clear hx
    obtain ⟨j, y, hj, rfl, rfl, HY, hy, ho, hch⟩ := hrel
    have hsz := hch.size
    by_cases hlt : j < k
    · have hrow : RB (wr.alloc (.cells #[.int .u8 ((y : Int) % 256)] 5)) (wr.heap.size + 1) (some ⟨wr.heap.size, 0, none⟩) [UInt8.ofNat (y % 256)] :=
        RB.of_row (heap_alloc_new _ _) _ (by rw [rbyte_walk]; rfl) (by omega)
      go_wp2_with (at_builtin; refine wpList_appendB rfl (.tmp 12) (.tmp 16) rfl w.heap.size _ (leB x j) rfl (ho.chg ((Chg.refl NoB wr).alloc _) (fun _ _ h => h)) (wr.heap.size + 1) (some ⟨wr.heap.size, 0, none⟩) 1 1 [UInt8.ofNat (y % 256)] rfl rfl hrow (by simp [leB_len]; omega) (by simp; omega) ?_; intro v2 w2 ho2 hg2 he2; have hch2 : Chg NoB w w2 := (hch.alloc _).own (ho.chg ((Chg.refl NoB wr).alloc _) (fun _ _ h => h)) hg2 (Nat.le_refl _))
      go_roundw
      case rel =>
        have hyd : y / 256 ≤ y := Nat.div_le_self _ _
        refine ⟨j + 1, y / 256, by omega, by go_num, by go_num, ?_, by omega, ?_, hch2⟩
        · show y / 256 = x / 256 ^ (j + 1)
          rw [HY.out, Nat.div_div_eq_div_mul, Nat.pow_succ]
        · rw [leB_snoc, ← HY.out]; exact ho2
      case measure => simp [intOf]; omega
    · have hjk : j = k := by omega
      rw [hjk] at ho
      clear hjk
      go_wp2_with fail
      go_ret
      exact ⟨⟨_, rfl, ho⟩, hch⟩
theorem run_slice2 {w : World} {B : Nat} {A : Option Addr} {l : List UInt8} (hr : RB w B A l) (n c p m : Nat) (hn : l.length = n) (hc : n ≤ c) (hp : p + m ≤ n) :
    ∃ A' c', (∀ w' : World, (Instr.slice 25 (.slice A n c) (some (.int .i64 (p : Int))) (some (.int .i64 ((p : Int) + (m : Int)))) none).run Try.prog w' = .ok (.slice A' m c') w') ∧
      RB w B A' ((l.drop p).take m) ∧ m ≤ c' := by
  obtain ⟨i0, hi, hz0, hz1, hz2⟩ := info_parts u8_info
  refine ⟨if c = p then A else A.map (·.add p), c - p, fun w' => ?_, ?_, by omega⟩
  · have e2 : ((p : Int) + (m : Int)).toNat = p + m := by omega
    have h1 : 0 ≤ (p : Int) + (m : Int) := by omega
    have h2 : (p : Int) + (m : Int) ≤ (c : Int) := by omega
    have h3 : (p : Int) ≤ ((p + m : Nat) : Int) := by omega
    have b1 : ∀ code, (Instr.sliceBound (.int .i64 ((p : Int) + (m : Int))) c code).run Try.prog w' = .ok (p + m) w' := fun code => by
      rw [run_sliceBound_if, if_pos ⟨h1, h2⟩, e2]
    have b3 : ∀ code, (Instr.sliceBound (.int .i64 (p : Int)) (p + m) code).run Try.prog w' = .ok p w' := fun code => by
      rw [run_sliceBound_if, if_pos ⟨by omega, h3⟩]; simp
    have e5 : p + m - p = m := by omega
    simp only [Instr.slice, Instr.sliceBounds, Sem.run_bind, run_underlying Try.underlying25, Result.andThen_ok, b1, b3, Sem.run_pure]
    simp [sizeOf, typeInfo, hi, hz1, e5]
  · have := (hr.drop (k := p) (cap := c) (by omega) (by omega))
    exact this.take m
set_option maxRecDepth 100000 in
set_option maxHeartbeats 1000000 in
theorem rpiece_any (A : Option Addr) (l : List UInt8) (n c : Nat) (p m : Int) (hn : l.length = n) (B : Nat) (w : World) (hr : RB w B A l) (hc : n ≤ c) (hb : n ≤ 140737488355328) :
    Calls Try.prog 62 #[.slice A n c, .int .i64 p, .int .i64 m] w fun e w' => (∃ v, e = .returned (.tuple #[v, .int .i64 (cutErr n p m)]) ∧ OwnB w' w.heap.size v (pieceL l p m)) ∧ Chg NoB w w' := by
  by_cases h0 : p < 0
  · have hpe := cutErr_arg (n := (n : Int)) (p := p) (m := m) (.inl h0)
    have hpl : pieceL l p m = [] := by unfold pieceL; rw [hn, hpe]; rfl
    rw [hpl, hpe]
    clear hpe hpl
    go_enter Try.func62, Try.ntmps62
    go_wp2_with fail
    go_ret2
    exact ⟨⟨_, rfl, OwnB.nil_ _ _⟩, Chg.refl NoB w⟩
  by_cases h1 : (n : Int) < p
  · have hpe := cutErr_arg (n := (n : Int)) (p := p) (m := m) (.inr (.inl h1))
    have hpl : pieceL l p m = [] := by unfold pieceL; rw [hn, hpe]; rfl
    rw [hpl, hpe]
    clear hpe hpl
    go_enter Try.func62, Try.ntmps62
    go_wp2_with fail
    go_ret2
    exact ⟨⟨_, rfl, OwnB.nil_ _ _⟩, Chg.refl NoB w⟩
  by_cases h2 : m < 0
  · have hpe := cutErr_arg (n := (n : Int)) (p := p) (m := m) (.inr (.inr h2))
    have hpl : pieceL l p m = [] := by unfold pieceL; rw [hn, hpe]; rfl
    rw [hpl, hpe]
    clear hpe hpl
    go_enter Try.func62, Try.ntmps62
    go_wp2_with fail
    go_ret2
    exact ⟨⟨_, rfl, OwnB.nil_ _ _⟩, Chg.refl NoB w⟩
  by_cases h3 : (n : Int) - p < m
  · have hpe := cutErr_short (n := (n : Int)) (p := p) (m := m) (by omega) h3
    have hpl : pieceL l p m = [] := by unfold pieceL; rw [hn, hpe]; rfl
    rw [hpl, hpe]
    clear hpe hpl
    go_enter Try.func62, Try.ntmps62
    go_wp2_with fail
    go_ret2
    exact ⟨⟨_, rfl, OwnB.nil_ _ _⟩, Chg.refl NoB w⟩
  have he := cutErr_ok (n := (n : Int)) (p := p) (m := m) (by omega) h3
  obtain ⟨p, rfl⟩ : ∃ q : Nat, p = (q : Int) := ⟨p.toNat, by omega⟩
  obtain ⟨m, rfl⟩ : ∃ q : Nat, m = (q : Int) := ⟨m.toNat, by omega⟩
  have hpl : pieceL l p m = (l.drop p).take m := by unfold pieceL; rw [hn, if_pos he]; simp
  have hlen : ((l.drop p).take m).length = m := by simp; omega
  rw [he, hpl]
  clear he hpl
  obtain ⟨A', c', hs, hr', hc'⟩ := run_slice2 hr n c p m hn hc (by omega)
  have HL := Lib.hid hlen
  clear hlen hn
  have ho0 : OwnB (w.alloc (.cells #[] 5)) w.heap.size (.slice (some ⟨w.heap.size, 0, none⟩) 0 0) [] := OwnB.made w #[] (Nat.le_refl _) (by simp)
  go_enter Try.func62, Try.ntmps62
  go_wp2_with (at_builtin; refine wpList_appendB rfl (.tmp 26) (.tmp 32) rfl w.heap.size _ [] rfl ho0 w.heap.size A' m c' _ HL.out rfl (hr'.here.alloc (Nat.le_refl _) _) (by rw [HL.out]; simp; omega) (by simp) ?_; intro v1 w1 ho1 hg1 he1; have hc1 : Chg NoB w w1 := ((Chg.refl NoB w).alloc _).own ho0 hg1 (Nat.le_refl _); clear ho0 hg1 he1; rw [List.nil_append] at ho1)
  go_ret2
  exact ⟨⟨_, rfl, ho1⟩, hc1⟩
set_option maxRecDepth 100000 in
set_option maxHeartbeats 1000000 in
theorem rget2_any (A : Option Addr) (l : List UInt8) (n c : Nat) (p : Int) (hn : l.length = n) (B : Nat) (w : World) (hr : RB w B A l) (hc : n ≤ c) (hb : n ≤ 140737488355328) :
    Calls Try.prog 45 #[.slice A n c, .int .i64 p, .int .i64 2] w fun e w' => e = .returned (.tuple #[.int .i64 (getL l p 2), .int .i64 (cutErr n p 2)]) ∧ Chg NoB w w' := by
  by_cases he : cutErr n p 2 = 0
  · obtain ⟨h1, _, h3⟩ := cutErr_zero he
    have hlen : (pieceL l p 2).length = 2 := by unfold pieceL; rw [hn, if_pos he]; simp; omega
    obtain ⟨er, her⟩ : ∃ er, cutErr n p 2 = er := ⟨_, rfl⟩
    rw [her] at he ⊢
    obtain ⟨q, hq⟩ : ∃ q, pieceL l p 2 = q := ⟨_, rfl⟩
    have hg : getL l p 2 = (le q : Nat) := by unfold getL; rw [hq]
    rw [hq] at hlen
    rw [hg]
    subst he
    have HER := Lib.hid her
    have HQ := Lib.hid hq
    have HL := Lib.hid hlen
    clear her hq hg hlen
    go_enter Try.func45, Try.ntmps45
    go_wp2_with fail
    refine (rpiece_any A l n c p 2 hn _ _ hr hc hb).mono ?_
    rintro e w1 ⟨⟨v, rfl, ho⟩, hc1⟩
    rw [HQ.out] at ho
    rw [HER.out]
    obtain ⟨A1, n1, c1, rfl, hn1, hr1, _⟩ := ho.val
    have hn1' : n1 = 2 := by rw [← hn1]; exact HL.out
    rw [hn1']
    clear hn1 hn1' ho hn
    go_wp2_with fail
    go_loop [10, 11] (fun s i => ∃ (j : Nat) (e : Int), j ≤ 2 ∧ Hid (e = (j : Int) - 1) ∧ i = .int .i64 e ∧ -1 ≤ e ∧ e ≤ 3 ∧ s = .int .i64 (le (q.drop j) : Nat)) (fun _ i => (intOf i + 1).toNat)
    case atStart => exact ⟨2, 1, by omega, by simp [Hid], rfl, by omega, by omega, by rw [List.drop_of_length_le (by rw [HL.out]; exact Nat.le_refl _)]; rfl⟩
    case round =>
      obtain ⟨j, e, hj, HE, rfl, e0, e3, rfl⟩ := hrel
      by_cases hlt : 0 ≤ e
      · obtain ⟨i, rfl⟩ : ∃ i : Nat, e = (i : Int) := ⟨e.toNat, by omega⟩
        have hji : j = i + 1 := by have := HE.out; omega
        subst hji
        have hiq : i < q.length := by have := HL.out; omega
        obtain ⟨ad, rfl, _, hcell⟩ := hr1.at_ hiq
        have b0 := u8_lo q[i]
        have b1 := u8_hi q[i]
        have i2 : i < 2 := by omega
        have hle : le (q.drop (i + 1)) < 256 ^ 3 := by
          have h1 := le_lt (q.drop (i + 1))
          rw [List.length_drop, HL.out] at h1
          exact Nat.lt_of_lt_of_le h1 (Nat.pow_le_pow_right (by decide) (by omega))
        have hd := le_drop q i hiq
        have HD := Lib.hid hd
        have hle2 : le (q.drop (i + 1)) ≤ 16777216 := by omega
        clear hd hle HE
        go_wp2_with fail
        go_round
        case rel =>
          refine ⟨i, (i : Int) - 1, by omega, rfl, rfl, by omega, by omega, ?_⟩
          rw [HD.out]; go_num
        case measure => simp [intOf]
      · go_wp2_with fail
        go_ret2
        refine ⟨?_, hc1⟩
        have hj0 : j = 0 := by have := HE.out; omega
        subst hj0
        rfl
  · obtain ⟨er, her⟩ : ∃ er, cutErr n p 2 = er := ⟨_, rfl⟩
    have hg : getL l p 2 = 0 := by unfold getL pieceL; rw [hn, if_neg he]; rfl
    rw [hg]
    rw [her] at he ⊢
    have hb0 : (er != 0) = true := by simpa using he
    have HER := Lib.hid her
    clear her he hg
    go_enter Try.func45, Try.ntmps45
    go_wp2_with fail
    refine (rpiece_any A l n c p 2 hn _ _ hr hc hb).mono ?_
    rintro e w1 ⟨⟨v, rfl, ho⟩, hc1⟩
    rw [HER.out]
    go_wp2_with fail
    go_ret2
    exact ⟨rfl, hc1⟩
set_option maxRecDepth 100000 in
set_option maxHeartbeats 1000000 in
theorem rget4_any (A : Option Addr) (l : List UInt8) (n c : Nat) (p : Int) (hn : l.length = n) (B : Nat) (w : World) (hr : RB w B A l) (hc : n ≤ c) (hb : n ≤ 140737488355328) :
    Calls Try.prog 45 #[.slice A n c, .int .i64 p, .int .i64 4] w fun e w' => e = .returned (.tuple #[.int .i64 (getL l p 4), .int .i64 (cutErr n p 4)]) ∧ Chg NoB w w' := by
  by_cases he : cutErr n p 4 = 0
  · obtain ⟨h1, _, h3⟩ := cutErr_zero he
    have hlen : (pieceL l p 4).length = 4 := by unfold pieceL; rw [hn, if_pos he]; simp; omega
    obtain ⟨er, her⟩ : ∃ er, cutErr n p 4 = er := ⟨_, rfl⟩
    rw [her] at he ⊢
    obtain ⟨q, hq⟩ : ∃ q, pieceL l p 4 = q := ⟨_, rfl⟩
    have hg : getL l p 4 = (le q : Nat) := by unfold getL; rw [hq]
    rw [hq] at hlen
    rw [hg]
    subst he
    have HER := Lib.hid her
    have HQ := Lib.hid hq
    have HL := Lib.hid hlen
    clear her hq hg hlen
    go_enter Try.func45, Try.ntmps45
    go_wp2_with fail
    refine (rpiece_any A l n c p 4 hn _ _ hr hc hb).mono ?_
    rintro e w1 ⟨⟨v, rfl, ho⟩, hc1⟩
    rw [HQ.out] at ho
    rw [HER.out]
    obtain ⟨A1, n1, c1, rfl, hn1, hr1, _⟩ := ho.val
    have hn1' : n1 = 4 := by rw [← hn1]; exact HL.out
    rw [hn1']
    clear hn1 hn1' ho hn
    go_wp2_with fail
    go_loop [10, 11] (fun s i => ∃ (j : Nat) (e : Int), j ≤ 4 ∧ Hid (e = (j : Int) - 1) ∧ i = .int .i64 e ∧ -1 ≤ e ∧ e ≤ 3 ∧ s = .int .i64 (le (q.drop j) : Nat)) (fun _ i => (intOf i + 1).toNat)
    case atStart => exact ⟨4, 3, by omega, by simp [Hid], rfl, by omega, by omega, by rw [List.drop_of_length_le (by rw [HL.out]; exact Nat.le_refl _)]; rfl⟩
    case round =>
      obtain ⟨j, e, hj, HE, rfl, e0, e3, rfl⟩ := hrel
      by_cases hlt : 0 ≤ e
      · obtain ⟨i, rfl⟩ : ∃ i : Nat, e = (i : Int) := ⟨e.toNat, by omega⟩
        have hji : j = i + 1 := by have := HE.out; omega
        subst hji
        have hiq : i < q.length := by have := HL.out; omega
        obtain ⟨ad, rfl, _, hcell⟩ := hr1.at_ hiq
        have b0 := u8_lo q[i]
        have b1 := u8_hi q[i]
        have i4 : i < 4 := by omega
        have hle : le (q.drop (i + 1)) < 256 ^ 3 := by
          have h1 := le_lt (q.drop (i + 1))
          rw [List.length_drop, HL.out] at h1
          exact Nat.lt_of_lt_of_le h1 (Nat.pow_le_pow_right (by decide) (by omega))
        have hd := le_drop q i hiq
        have HD := Lib.hid hd
        have hle2 : le (q.drop (i + 1)) ≤ 16777216 := by omega
        clear hd hle HE
        go_wp2_with fail
        go_round
        case rel =>
          refine ⟨i, (i : Int) - 1, by omega, rfl, rfl, by omega, by omega, ?_⟩
          rw [HD.out]; go_num
        case measure => simp [intOf]
      · go_wp2_with fail
        go_ret2
        refine ⟨?_, hc1⟩
        have hj0 : j = 0 := by have := HE.out; omega
        subst hj0
        rfl
  · obtain ⟨er, her⟩ : ∃ er, cutErr n p 4 = er := ⟨_, rfl⟩
    have hg : getL l p 4 = 0 := by unfold getL pieceL; rw [hn, if_neg he]; rfl
    rw [hg]
    rw [her] at he ⊢
    have hb0 : (er != 0) = true := by simpa using he
    have HER := Lib.hid her
    clear her he hg
    go_enter Try.func45, Try.ntmps45
    go_wp2_with fail
    refine (rpiece_any A l n c p 4 hn _ _ hr hc hb).mono ?_
    rintro e w1 ⟨⟨v, rfl, ho⟩, hc1⟩
    rw [HER.out]
    go_wp2_with fail
    go_ret2
    exact ⟨rfl, hc1⟩
end Go.Proofs.Ytlhfhhbafhnbkaa
