/-
  THE WALKS of field.get, field.put and what stands on them, of four bytes.
-/
import Derived.Test.YtlhfhhbafhnbkaaFld1
namespace Go.Proofs.Ytlhfhhbafhnbkaa
open Go.RowKit FieldM
/-- the piece that is told (of none: no bytes) -/
def pieceL (l : List UInt8) (p m : Int) : List UInt8 := if cutErr l.length p m = 0 then (l.drop p.toNat).take m.toNat else []
/-- the number that is told -/
def getL (l : List UInt8) (p m : Int) : Int := (le (pieceL l p m) : Nat)
/-- what putting tells -/
def putErr (x : Int) (k : Nat) : Int := if 0 ≤ x ∧ x < (256 : Int) ^ k then 0 else 2
def fputL (l : List UInt8) (x : Int) (k : Nat) : List UInt8 := if putErr x k = 0 then l ++ leB x.toNat k else []
set_option maxRecDepth 100000 in
set_option maxHeartbeats 800000 in
theorem getw4_any (A : Option Addr) (l : List UInt8) (n c : Nat) (p : Int) (hn : l.length = n) (B : Nat) (w : World) (hr : RB w B A l) (hc : n ≤ c) (hb : n ≤ 9223372036854775807) :
    Calls Try.prog 68 #[.slice A n c, .int .i64 p] w fun e w' => e = .returned (.tuple #[.int .i64 (getL l p 4), .int .i64 (cutErr n p 4)]) ∧ Chg NoB w w' := by
  by_cases he : cutErr n p 4 = 0
  · obtain ⟨h1, _, h3⟩ := cutErr_zero he
    obtain ⟨p, rfl⟩ : ∃ q : Nat, p = (q : Int) := ⟨p.toNat, by omega⟩
    have hpl : pieceL l p 4 = (l.drop p).take 4 := by unfold pieceL; rw [hn, if_pos he]; simp
    have hlen : ((l.drop p).take 4).length = 4 := by simp; omega
    have hg : getL l p 4 = (le ((l.drop p).take 4) : Nat) := by unfold getL; rw [hpl]
    rw [hg, he]
    obtain ⟨q, hq⟩ : ∃ q, (l.drop p).take 4 = q := ⟨_, rfl⟩
    rw [hq] at hlen ⊢
    have HQ := Lib.hid hq
    clear he hpl hg hq
    go_enter Try.func68, Try.ntmps68
    go_wp2_with fail
    refine (cut_yes A l n c p 4 4 rfl hn _ _ (hr.here.alloc (Nat.le_refl _) _) hc hb (by omega)).mono ?_
    rintro e w1 ⟨⟨A', rfl, hr1⟩, hw1⟩
    rw [← hw1] at hr1
    have hc1 : Chg NoB w w1 := by rw [hw1]; exact (Chg.refl NoB w).alloc _
    clear hw1 hn
    rw [HQ.out] at hr1
    have HL := Lib.hid hlen
    clear hlen
    go_wp2_with fail
    go_loop [9, 25] (fun s i => ∃ j : Nat, j ≤ 4 ∧ i = .int .i64 j ∧ s = .int .i64 (le (q.take j) : Nat)) (fun _ i => 4 - (intOf i).toNat)
    case atStart => exact ⟨0, by omega, rfl, by simp [le]⟩
    case round =>
      obtain ⟨j, hj, rfl, rfl⟩ := hrel
      by_cases hlt : j < 4
      · have hjq : j < q.length := by have := HL.out; omega
        obtain ⟨ad, rfl, _, hcell⟩ := hr1.at_ hjq
        have b0 := u8_lo q[j]
        have b1 := u8_hi q[j]
        have hor := or_walk2 (le (q.take j)) q[j].toNat j (by omega) (by have := le_lt (q.take j); rwa [List.length_take, Nat.min_eq_left (by omega)] at this) q[j].toNat_lt
        have HOR := Lib.hid hor
        clear hor
        go_wp2_with fail
        go_round
        case rel =>
          refine ⟨j + 1, by omega, by go_num, ?_⟩
          rw [HOR.out, List.take_succ_eq_append_getElem hjq, le_snoc, List.length_take, Nat.min_eq_left (by omega)]
        case measure => simp [intOf]; omega
      · go_wp2_with fail
        go_ret2
        refine ⟨?_, hc1⟩
        have hjk : j = 4 := by omega
        have e : q.take j = q := List.take_of_length_le (by rw [HL.out]; omega)
        rw [e]; rfl
  · have hpl : pieceL l p 4 = [] := by unfold pieceL; rw [hn, if_neg he]
    have hg : getL l p 4 = 0 := by unfold getL; rw [hpl]; rfl
    rw [hg]
    obtain ⟨er, her⟩ : ∃ er, cutErr n p 4 = er := ⟨_, rfl⟩
    rw [her] at he ⊢
    have HER := Lib.hid her
    have HNE := Lib.hid he
    have hb0 : (er != 0) = true := by simpa using he
    clear her he hpl hg
    go_enter Try.func68, Try.ntmps68
    go_wp2_with fail
    refine (cut_no A n c p 4 er _ hb HER HNE.out).mono ?_
    rintro e w1 ⟨rfl, hw1⟩
    have hc1 : Chg NoB w w1 := by rw [hw1]; exact (Chg.refl NoB w).alloc _
    clear hw1
    go_wp2_with fail
    go_ret2
    exact ⟨rfl, hc1⟩
theorem get4_any (A : Option Addr) (l : List UInt8) (n c : Nat) (p : Int) (hn : l.length = n) (B : Nat) (w : World) (hr : RB w B A l) (hc : n ≤ c) (hb : n ≤ 9223372036854775807) :
    Calls Try.prog 59 #[.slice A n c, .int .i64 p] w fun e w' => e = .returned (.tuple #[.int .i64 (getL l p 4), .int .i64 (cutErr n p 4)]) ∧ Chg NoB w w' := by
  go_enter Try.func59, Try.ntmps59
  go_wp2_with fail
  refine (getw4_any A l n c p hn B _ hr hc hb).mono ?_
  rintro e w1 ⟨rfl, hc1⟩
  go_wp2_with fail
  go_ret2
  exact ⟨rfl, hc1⟩
theorem arr4_info : (Try.prog.info? 121).map (·.size) = some 4 := by kernel_rfl
set_option maxRecDepth 100000 in
set_option maxHeartbeats 800000 in
theorem putw4_any (A : Option Addr) (l : List UInt8) (n c : Nat) (x : Int) (hn : l.length = n) (B : Nat) (w : World) (hr : RB w B A l) (hb : n ≤ 140737488355320) (hx : -9223372036854775808 ≤ x ∧ x ≤ 9223372036854775807) :
    Calls Try.prog 72 #[.slice A n c, .int .i64 x] w fun e w' => (∃ v, e = .returned (.tuple #[v, .int .i64 (putErr x 4)]) ∧ OwnB w' w.heap.size v (fputL l x 4)) ∧ Chg NoB w w' := by
  by_cases he : 0 ≤ x ∧ x < 4294967296
  · obtain ⟨hx0, hx1⟩ := he
    obtain ⟨x, rfl⟩ : ∃ q : Nat, x = (q : Int) := ⟨x.toNat, by omega⟩
    have hpe : putErr x 4 = 0 := by unfold putErr; rw [if_pos ⟨hx0, hx1⟩]
    have hpl : fputL l x 4 = l ++ leB x 4 := by unfold fputL; rw [hpe]; simp
    rw [hpe, hpl]
    clear hpe hpl
    have hz : (((x : Int) / 4294967296) != 0) = false := by
      have : (x : Int) / 4294967296 = 0 := by omega
      rw [this]; rfl
    clear hx0 hx1 hx
    go_enter Try.func72, Try.ntmps72
    go_wp2_with fail
    refine (fclone_any A l n c hn _ _ (hr.here.alloc (Nat.le_refl _) _) (by omega)).mono ?_
    rintro e w1 ⟨v1, rfl, ho1, hc1⟩
    have hcw : Chg NoB w w1 := ((Chg.refl NoB w).alloc _).trans hc1 (fun _ _ h => h)
    have hsz : w.heap.size + 1 ≤ w1.heap.size := by have := hc1.size; simpa using this
    have hblk : Blk w1 w.heap.size 121 #[.int .u8 0, .int .u8 0, .int .u8 0, .int .u8 0] := (Blk.new w _ _).chg hc1 (fun h => h)
    clear hc1
    go_wp2_with (refine wpList_load_row rfl 121 _ rfl w.heap.size rfl 121 _ (0, 0) _ hblk Try.underlying121 rfl arr4_info ?_)
    clear hblk
    go_loopw [7, 23] (fun v i wr => ∃ j : Nat, j ≤ 4 ∧ i = .int .i64 j ∧ OwnB wr w.heap.size v (l ++ leB x j) ∧ Chg NoB w wr) (fun _ i _ => 4 - (intOf i).toNat)
    case atStart => exact ⟨0, by omega, rfl, by simpa [leB] using ho1.base_ (by simp), hcw⟩
    case round =>
      clear ho1 hcw hsz
      obtain ⟨j, hj, rfl, ho, hch⟩ := hrel
      have hsz := hch.size
      by_cases hlt : j < 4
      · have hrow : RB (wr.alloc (.cells #[.int .u8 ((x : Int) / 2 ^ (8 * j) % 256)] 5)) (wr.heap.size + 1) (some ⟨wr.heap.size, 0, none⟩) [UInt8.ofNat (x / 256 ^ j % 256)] :=
          RB.of_row (heap_alloc_new _ _) _ (by rw [byte_walk]; rfl) (by omega)
        go_wp2_with (at_builtin; refine wpList_appendB rfl (.tmp 26) (.tmp 32) rfl w.heap.size _ (l ++ leB x j) rfl (ho.chg ((Chg.refl NoB wr).alloc _) (fun _ _ h => h)) (wr.heap.size + 1) (some ⟨wr.heap.size, 0, none⟩) 1 1 [UInt8.ofNat (x / 256 ^ j % 256)] rfl rfl hrow (by simp [leB_len]; omega) (by simp; omega) ?_; intro v2 w2 ho2 hg2 he2; have hch2 : Chg NoB w w2 := (hch.alloc _).own (ho.chg ((Chg.refl NoB wr).alloc _) (fun _ _ h => h)) hg2 (Nat.le_refl _))
        go_roundw
        case rel => exact ⟨j + 1, by omega, by go_num, by rw [leB_snoc, ← List.append_assoc]; exact ho2, hch2⟩
        case measure => simp [intOf]; omega
      · have hjk : j = 4 := by omega
        rw [hjk] at ho
        clear hjk
        go_wp2_with fail
        go_ret2
        exact ⟨⟨_, rfl, ho⟩, hch⟩
  · have hpe : putErr x 4 = 2 := by
      unfold putErr; rw [if_neg]; simpa using he
    have hpl : fputL l x 4 = [] := by unfold fputL; rw [hpe]; rfl
    rw [hpe, hpl]
    clear hpe hpl
    by_cases h0 : x < 0
    · clear he
      go_enter Try.func72, Try.ntmps72
      go_wp2_with fail
      go_ret2
      exact ⟨⟨_, rfl, OwnB.nil_ _ _⟩, (Chg.refl NoB w).alloc _⟩
    · have hz : ((x / 4294967296) != 0) = true := by
        have : x / 4294967296 ≠ 0 := by omega
        simpa using this
      clear he hx
      go_enter Try.func72, Try.ntmps72
      go_wp2_with fail
      go_ret2
      exact ⟨⟨_, rfl, OwnB.nil_ _ _⟩, (Chg.refl NoB w).alloc _⟩
theorem put4_any (A : Option Addr) (l : List UInt8) (n c : Nat) (x : Int) (hn : l.length = n) (B : Nat) (w : World) (hr : RB w B A l) (hb : n ≤ 140737488355320) (hx : -9223372036854775808 ≤ x ∧ x ≤ 9223372036854775807) :
    Calls Try.prog 69 #[.slice A n c, .int .i64 x] w fun e w' => (∃ v, e = .returned (.tuple #[v, .int .i64 (putErr x 4)]) ∧ OwnB w' w.heap.size v (fputL l x 4)) ∧ Chg NoB w w' := by
  have HX := Lib.hid hx
  clear hx
  go_enter Try.func69, Try.ntmps69
  go_wp2_with fail
  refine (putw4_any A l n c x hn B _ hr hb HX.out).mono ?_
  rintro e w1 ⟨⟨v, rfl, ho⟩, hc1⟩
  go_wp2_with fail
  go_ret2
  exact ⟨⟨_, rfl, ho⟩, hc1⟩
end Go.Proofs.Ytlhfhhbafhnbkaa
