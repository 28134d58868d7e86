/-
  THE WALK of the law CrcMixed (valiselaw02): it returns true and writes nothing that was there.
-/
import Derived.Test.YtjihoghkmkdghaaCrcLaws
import Derived.Deep.DeepMust
import Derived.Deep.RegionLaw
import Derived.BigRegion
namespace Go.Proofs.Ytjihoghkmkdghaa
open Go.RowKit CrcM
/-- three rows, xor byte by byte -/
def xor3 (a b c : List UInt8) : List UInt8 := List.zipWith (· ^^^ ·) (List.zipWith (· ^^^ ·) a b) c
theorem bits_xor_u8 (x y : UInt8) : bits .xor .u8 (x.toNat : Int) (y.toNat : Int) = ((x ^^^ y).toNat : Int) := by
  have e : ∀ z : UInt8, BitVec.ofInt 8 (z.toNat : Int) = z.toBitVec := fun z => by
    apply BitVec.eq_of_toNat_eq; rw [BitVec.toNat_ofInt]; have := z.toNat_lt; simp; omega
  show IntKind.u8.wrap (((BitVec.ofInt 8 (x.toNat : Int)) ^^^ (BitVec.ofInt 8 (y.toNat : Int))).toNat : Int) = _
  rw [e, e, IntKind.wrap_u8]
  have : (x ^^^ y).toNat = (x.toBitVec ^^^ y.toBitVec).toNat := rfl
  have h := (x.toBitVec ^^^ y.toBitVec).isLt
  rw [this]; omega
theorem run_min4 (P : Program) (ts : Array TypeId) (t : TypeId) (x y z : Nat) : ∃ n : Nat, n ≤ x ∧ n ≤ y ∧ n ≤ z ∧ n ≤ 16384 ∧
    ∀ w, (Builtin.min_ ts t #[.int .i64 (x : Int), .int .i64 (y : Int), .int .i64 (z : Int), .int .i64 16384]).run P w = .ok (.int .i64 (n : Int)) w := by
  refine ⟨min (min (min x y) z) 16384, by omega, by omega, by omega, by omega, fun w => ?_⟩
  simp [Builtin.min_, Builtin.min2]
  repeat' split
  all_goals omega
theorem xor3_len (a b c : List UInt8) : (xor3 a b c).length = min (min a.length b.length) c.length := by simp [xor3]
theorem xor3_wd : ∀ (a b c : List UInt8), (xor3 a b c).map wd = zipx (zipx (a.map wd) (b.map wd)) (c.map wd)
  | [], _, _ => by simp [xor3, zipx]
  | _ :: _, [], _ => by simp [xor3, zipx]
  | _ :: _, _ :: _, [] => by simp [xor3, zipx]
  | x :: a, y :: b, z :: c => by
    have ih := xor3_wd a b c
    have e : ∀ u v : UInt8, wd (u ^^^ v) = wd u ^^^ wd v := fun u v => by
      unfold wd
      apply BitVec.eq_of_toNat_eq
      have h1 := u.toNat_lt
      have h2 := v.toNat_lt
      have h3 := (u ^^^ v).toNat_lt
      rw [BitVec.toNat_xor, BitVec.toNat_ofNat, BitVec.toNat_ofNat, BitVec.toNat_ofNat, UInt8.toNat_xor] at *
      rw [Nat.mod_eq_of_lt (by omega), Nat.mod_eq_of_lt (by omega), Nat.mod_eq_of_lt (by omega)]
    simp only [xor3, zipx, List.zipWith_cons_cons, List.map_cons, e] at ih ⊢
    rw [ih]
theorem mixL (l m q : List UInt8) (n : Nat) (h0 : n ≤ l.length) (h1 : n ≤ m.length) (h2 : n ≤ q.length) :
    moreL 0#32 ((xor3 l m q).take n) = moreL 0#32 (l.take n) ^^^ moreL 0#32 (m.take n) ^^^ moreL 0#32 (q.take n) := by
  have e : (xor3 l m q).take n = xor3 (l.take n) (m.take n) (q.take n) := by simp only [xor3, List.take_zipWith]
  rw [e]
  unfold moreL
  rw [xor3_wd, mixed _ _ _ (by simp; omega) (by simp; omega)]
set_option maxRecDepth 100000 in
set_option maxHeartbeats 1000000 in
theorem crcMixed_walk (a0 : Option Addr) (len0 cap0 : Nat) (z0 : List Int) (a1 : Option Addr) (len1 cap1 : Nat) (z1 : List Int) (a2 : Option Addr) (len2 cap2 : Nat) (z2 : List Int) (w : World)
    (w0 : IsRow .u8 w a0 len0 cap0 z0) (w1 : IsRow .u8 w a1 len1 cap1 z1) (w2 : IsRow .u8 w a2 len2 cap2 z2) :
    Calls Try.prog 7 #[.slice a0 len0 cap0, .slice a1 len1 cap1, .slice a2 len2 cap2] w fun e w' => e = .returned (.bool true) ∧ Below w.heap.size w w' := by
  obtain ⟨l, rfl, hm, hr, hp⟩ := w0.rb
  obtain ⟨m, rfl, hm1, hr1, hp1⟩ := w1.rb
  obtain ⟨q, rfl, hm2, hr2, hp2⟩ := w2.rb
  unfold maxLen at hm hm1 hm2
  clear w0 w1 w2
  obtain ⟨n, n0, n1, n2, n3, hmin⟩ := run_min4 Try.prog #[3, 3, 3, 3] 3 l.length m.length q.length
  go_enter Try.func7, Try.ntmps7
  go_wp2_with fail
  clear hmin
  go_loopw [8, 9] (fun v i wr => ∃ k : Nat, k ≤ n ∧ i = .int .i64 k ∧ OwnB wr w.heap.size v ((xor3 l m q).take k) ∧ Chg NoB w wr) (fun _ i _ => n - (intOf i).toNat)
  case atStart => exact ⟨0, by omega, rfl, OwnB.nil_ _ _, Chg.refl _ _⟩
  case round =>
    obtain ⟨k, hk, rfl, ho, hch⟩ := hrel
    by_cases hlt : k < n
    · obtain ⟨ad0, rfl, hb0, hc0⟩ := (hr.below hch.no).at_ (k := k) (by omega)
      obtain ⟨ad1, rfl, hb1, hc1⟩ := (hr1.below hch.no).at_ (k := k) (by omega)
      obtain ⟨ad2, rfl, hb2, hc2⟩ := (hr2.below hch.no).at_ (k := k) (by omega)
      go_wp2_with fail
      have hl3 : k < (xor3 l m q).length := by rw [xor3_len]; omega
      have ex : bits .xor .u8 (bits .xor .u8 (l[k].toNat : Int) (m[k].toNat : Int)) (q[k].toNat : Int) = ((xor3 l m q)[k].toNat : Int) := by
        rw [bits_xor_u8, bits_xor_u8]; simp [xor3]
      have EX := Lib.hid ex
      clear ex
      have k0 : k < l.length := by omega
      have k1 : k < m.length := by omega
      have k2 : k < q.length := by omega
      have hrow : RB (wr.alloc (.cells #[.int .u8 (bits .xor .u8 (bits .xor .u8 (l[k].toNat : Int) (m[k].toNat : Int)) (q[k].toNat : Int))] 5)) (wr.heap.size + 1) (some ⟨wr.heap.size, 0, none⟩) [(xor3 l m q)[k]] :=
        RB.of_row (heap_alloc_new _ _) _ (by rw [EX.out]; rfl) (by omega)
      go_region_law (refine step_appendB rfl (.tmp 22) (.tmp 37) rfl w.heap.size u8 ((xor3 l m q).take k) rfl (ho.chg (((Chg.refl NoB wr).alloc _).drew) (fun _ _ h => h)) (wr.heap.size + 1) (some ⟨wr.heap.size, 0, none⟩) 1 1 [(xor3 l m q)[k]] rfl rfl hrow.drew (by simp; omega) (by have := hch.size; simp; omega) ?_; intro v1 w1 ho1 hg1 he1)
      all_goals
        have hch1 : Chg NoB w w1 := ((hch.alloc _).drew).own (ho.chg (((Chg.refl NoB wr).alloc _).drew) (fun _ _ h => h)) hg1 (Nat.le_refl _)
        go_wp2_with fail
        go_roundw
        case rel => exact ⟨k + 1, by omega, by go_num, by rw [List.take_succ_eq_append_getElem hl3]; exact ho1, hch1⟩
        case measure => simp [intOf]; omega
    · go_wp2_with fail
      obtain ⟨A, nx, c, rfl, hnx, hrx, _⟩ := ho.val
      have HNX := Lib.hid hnx
      clear hnx
      have hq := (hr.below hch.no).take n
      have hq1 := (hr1.below hch.no).take n
      have hq2 := (hr2.below hch.no).take n
      go_still_tail 18, (by kernel_rfl)
      still_call (sum_any A _ nx c HNX.out _ _ hrx.drew (by rw [← HNX.out]; simp; omega))
      have e1 : (U (moreL 0#32 ((xor3 l m q).take k)) == bits .xor .u32 (bits .xor .u32 (U (moreL 0#32 (l.take n))) (U (moreL 0#32 (m.take n)))) (U (moreL 0#32 (q.take n)))) = true := by
        have hkn : k = n := by omega
        rw [hkn, bits_xor_U, bits_xor_U, mixL l m q n n0 n1 n2]; simp
      have cp0 : n ≤ cap0 := by omega
      have cp1 : n ≤ cap1 := by omega
      have cp2 : n ≤ cap2 := by omega
      repeat still_step
      still_call (sum_any a0 (l.take n) n cap0 (by simp; omega) _ _ hq.drew (by omega))
      repeat still_step
      still_call (sum_any a1 (m.take n) n cap1 (by simp; omega) _ _ hq1.drew (by omega))
      repeat still_step
      still_call (sum_any a2 (q.take n) n cap2 (by simp; omega) _ _ hq2.drew (by omega))
      repeat still_step
      try refine wpStill_nil ?_
      change wpList _ _ _ _ _ wr.drew
      generalize hw2 : wr.drew = w2
      have hc2 : Chg NoB w w2 := by rw [← hw2]; exact hch.drew
      clear hw2
      go_wp2_with fail
      refine (crcLives_any _).mono ?_
      rintro e w3 ⟨rfl, hc3⟩
      go_wp2_with fail
      go_ret
      exact ⟨rfl, (hc2.trans hc3 (fun _ _ h => h)).no⟩
end Go.Proofs.Ytjihoghkmkdghaa
