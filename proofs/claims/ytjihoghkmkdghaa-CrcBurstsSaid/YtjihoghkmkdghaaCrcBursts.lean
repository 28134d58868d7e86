/-
  THE WALK of the law CrcBursts (valiselaw02): it returns true and writes nothing that was there.
-/
import Derived.Test.YtjihoghkmkdghaaCrcMixed
namespace Go.Proofs.Ytjihoghkmkdghaa
open Go.RowKit CrcM
/-- one bit of a row turned, from the lowest one of the first byte on -/
def flip8 (x : List UInt8) (p : Nat) : List UInt8 := x.modify (p / 8) (· ^^^ UInt8.ofNat (2 ^ (p % 8)))
theorem wd_xor (u v : UInt8) : wd (u ^^^ v) = wd u ^^^ wd v := by
  unfold wd
  apply BitVec.eq_of_toNat_eq
  have h1 := u.toNat_lt
  have h2 := v.toNat_lt
  have h3 := (u ^^^ v).toNat_lt
  rw [BitVec.toNat_xor, BitVec.toNat_ofNat, BitVec.toNat_ofNat, BitVec.toNat_ofNat, UInt8.toNat_xor] at *
  rw [Nat.mod_eq_of_lt (by omega), Nat.mod_eq_of_lt (by omega), Nat.mod_eq_of_lt (by omega)]
theorem wd_pow (j : Nat) (h : j < 8) : wd (UInt8.ofNat (2 ^ j)) = 1#32 <<< j := by
  have : ∀ j : Fin 8, wd (UInt8.ofNat (2 ^ j.val)) = 1#32 <<< j.val := by decide
  exact this ⟨j, h⟩
theorem flip8_wd (x : List UInt8) (p : Nat) : (flip8 x p).map wd = CrcM.flip (x.map wd) p := by
  unfold flip8 CrcM.flip
  generalize p / 8 = i
  induction x generalizing i with
  | nil => simp
  | cons a x ih =>
    cases i with
    | zero => simp [wd_xor, wd_pow (p % 8) (by omega)]
    | succ i => simp [ih i]
theorem flip8_len (x : List UInt8) (p : Nat) : (flip8 x p).length = x.length := by simp [flip8]
theorem flip8_set (x : List UInt8) (p : Nat) (h : p / 8 < x.length) : flip8 x p = x.set (p / 8) (x[p / 8] ^^^ UInt8.ofNat (2 ^ (p % 8))) := by
  apply List.ext_getElem
  · simp [flip8]
  · intro i h1 h2
    have e : (flip8 x p)[i] = (x.modify (p / 8) (· ^^^ UInt8.ofNat (2 ^ (p % 8))))[i]'(by simpa [flip8] using h1) := rfl
    rw [e, List.getElem_modify, List.getElem_set]
    by_cases e : p / 8 = i
    · subst e; simp
    · rw [if_neg e, if_neg e]
/-- the row behind k rounds: its fold parts from the old one's by the turned bits, carried to the end -/
def Turned (l : List UInt8) (at_ : Nat) (t : W) (k : Nat) (x : List UInt8) : Prop :=
  x.length = l.length ∧ ∀ c, fold c (x.map wd) = fold c (l.map wd) ^^^ iter half (8 * l.length - at_) (part t k)
theorem iter_half_zero (n : Nat) : iter half n 0#32 = 0#32 := by
  induction n with
  | zero => rfl
  | succ n ih => rw [iter, half_zero, ih]
theorem Turned.start (l : List UInt8) (p : Nat) (t : W) : Turned l p t 0 l := ⟨rfl, fun c => by simp [part, iter_half_zero]⟩
theorem Turned.stay {l x : List UInt8} {p k : Nat} {t : W} (h : Turned l p t k x) (hb : t.getLsbD k = false) : Turned l p t (k + 1) x :=
  ⟨h.1, fun c => by rw [h.2 c, part, hb]; simp⟩
theorem Turned.flip {l x : List UInt8} {p k : Nat} {t : W} (h : Turned l p t k x) (hb : t.getLsbD k = true) (hk : k < 32) (hp : p + k < 8 * l.length) : Turned l p t (k + 1) (flip8 x (p + k)) := by
  refine ⟨by rw [flip8_len, h.1], fun c => ?_⟩
  rw [flip8_wd, fold_flip _ _ (by rw [List.length_map, h.1]; exact hp), h.2 c, part, hb, if_pos rfl, iter_xor half_xor, List.length_map, h.1, BitVec.xor_assoc]
  congr 2
  have e : 8 * l.length - p = k + (8 * l.length - (p + k)) := by omega
  rw [e, iter_add half k, iter_pow k hk]
theorem Turned.differ {l x : List UInt8} {p : Nat} {t : W} (h : Turned l p t 32 x) (ht : t ≠ 0#32) : (U (moreL 0#32 x) != U (moreL 0#32 l)) = true := by
  have hne := iter_ne (f := half) (fun _ h => half_ne h) (8 * l.length - p) t ht
  have he := h.2 (~~~0#32)
  rw [part_all] at he
  simp only [bne_iff_ne, ne_eq]
  intro e
  have e := U_inj e
  unfold moreL sumMore at e
  have e2 : fold (~~~0#32) (x.map wd) = fold (~~~0#32) (l.map wd) := by
    have := congrArg (fun z : W => ~~~z) e; simpa using this
  rw [e2] at he
  apply hne
  have := congrArg (fun z => fold (~~~0#32) (l.map wd) ^^^ z) he
  simp only [← BitVec.xor_assoc, BitVec.xor_self, BitVec.zero_xor] at this
  exact this.symm
theorem shl_u8 (b : UInt8) (j : Nat) (h : j < 8) : bits .xor .u8 (b.toNat : Int) (2 ^ j % 256) = ((b ^^^ UInt8.ofNat (2 ^ j)).toNat : Int) := by
  have e : ((2 : Int) ^ j % 256) = ((UInt8.ofNat (2 ^ j)).toNat : Int) := by
    have : ∀ j : Fin 8, ((2 : Int) ^ j.val % 256) = ((UInt8.ofNat (2 ^ j.val)).toNat : Int) := by decide
    exact this ⟨j, h⟩
  rw [e, bits_xor_u8]
theorem run_shl_u8 (P : Program) (m : Nat) (h : m < 8) (w : World) : (Op.shift .shl .u8 1 .i64 (m : Int)).run P w = .ok (.int .u8 (2 ^ m % 256)) w := by
  have e : min ((m : Int).toNat) IntKind.u8.bits = m := by
    show min ((m : Int).toNat) 8 = m
    omega
  unfold Op.shift
  rw [if_neg (by omega)]
  simp only [e, IntKind.wrap_u8, Int.one_mul]
  rfl
theorem bit_walk (t : W) (k : Nat) : (bits .and .u32 (U t / 2 ^ k) 1 == 1) = t.getLsbD k := by
  rw [U_shr, odd_walk, BitVec.getLsbD_ushiftRight]; simp
set_option maxRecDepth 100000 in
set_option maxHeartbeats 2000000 in
theorem crcBursts_walk (a0 : Option Addr) (len0 cap0 : Nat) (z0 : List Int) (p : Int) (t0 : Int) (w : World) (w0 : IsRow .u8 w a0 len0 cap0 z0) (_ : (Lit.int .i64 p).wf = true) (w2 : (Lit.int .u32 t0).wf = true) :
    Calls Try.prog 8 #[.slice a0 len0 cap0, .int .i64 p, .int .u32 t0] w fun e w' => e = .returned (.bool true) ∧ Below w.heap.size w w' := by
  obtain ⟨l, rfl, hm, hr, hcap⟩ := w0.rb
  obtain ⟨t, rfl⟩ := u32_U t0 w2
  unfold maxLen at hm
  clear w0 w2
  by_cases hl : 16384 < l.length
  · go_enter Try.func8, Try.ntmps8
    go_wp2_with (go_at_call 9; refine (crcLives_any _).mono ?_; rintro e w' ⟨rfl, hch⟩)
    go_ret
    exact ⟨rfl, hch.no⟩
  have hl' : decide (16384 < (l.length : Int)) = false := by simp; omega
  by_cases ht : t = 0#32
  · have h0 : (U t == 0) = true := by rw [ht]; decide
    go_enter Try.func8, Try.ntmps8
    go_wp2_with (go_at_call 9; refine (crcLives_any _).mono ?_; rintro e w' ⟨rfl, hch⟩)
    go_ret
    exact ⟨rfl, hch.no⟩
  have h0 : (U t == 0) = false := by
    have : U t ≠ U 0#32 := fun e => ht (U_inj e)
    have e0 : U 0#32 = 0 := by decide
    rw [e0] at this
    simpa using this
  by_cases hp : p < 0
  · go_enter Try.func8, Try.ntmps8
    go_wp2_with (go_at_call 9; refine (crcLives_any _).mono ?_; rintro e w' ⟨rfl, hch⟩)
    go_ret
    exact ⟨rfl, hch.no⟩
  by_cases hp2 : 131072 < p
  · go_enter Try.func8, Try.ntmps8
    go_wp2_with (go_at_call 9; refine (crcLives_any _).mono ?_; rintro e w' ⟨rfl, hch⟩)
    go_ret
    exact ⟨rfl, hch.no⟩
  obtain ⟨p, rfl⟩ : ∃ q : Nat, p = (q : Int) := ⟨p.toNat, by omega⟩
  have HT := Lib.hid ht
  clear ht
  have ho0 : OwnB (w.alloc (.cells #[] 5)) w.heap.size (.slice (some ⟨w.heap.size, 0, none⟩) 0 0) [] := OwnB.made w #[] (Nat.le_refl _) (by simp)
  go_enter Try.func8, Try.ntmps8
  go_wp2_with (first
    | (at_builtin; refine wpList_appendB rfl (.tmp 25) (.tmp 26) rfl w.heap.size _ [] rfl ho0 w.heap.size a0 _ cap0 l rfl rfl (hr.alloc (Nat.le_refl _) _) (by simp; omega) (by simp) ?_; intro v1 w1 ho1 hg1 he1; have hc1 : Chg NoB w w1 := ((Chg.refl NoB w).alloc _).own ho0 hg1 (Nat.le_refl _); clear ho0 hg1 he1; obtain ⟨A, nx, c, rfl, hnx, hrx, hncx, hA⟩ := ho1.val; have HNX := Lib.hid hnx; clear hnx hrx)
    | fail)
  go_loopw [8] (fun i wr => ∃ (k : Nat) (x : List UInt8), k ≤ 32 ∧ i = .int .i64 k ∧ OwnB wr w.heap.size (.slice A nx c) x ∧ Turned l p t k x ∧ Chg NoB w wr) (fun i _ => 32 - (intOf i).toNat)
  case atStart => exact ⟨0, l, by omega, rfl, ho1, Turned.start l p t, hc1⟩
  case round =>
    clear ho1 hc1
    obtain ⟨k, x, hk, rfl, ho, htu, hch⟩ := hrel
    have hbw := bit_walk t k
    by_cases hlt : k < 32
    · cases hb : t.getLsbD k
      · have htu2 := htu.stay hb
        rw [hb] at hbw
        clear hb
        go_wp2_with fail
        go_roundw
        case rel => exact ⟨k + 1, x, by omega, by go_num, ho, htu2, hch⟩
        case measure => simp [intOf]; omega
      · rw [hb] at hbw
        have HB := Lib.hid hb
        clear hb
        by_cases hin : p + k < 8 * l.length
        · have htu2 := htu.flip HB.out hlt hin
          obtain ⟨q, hq⟩ : ∃ q, q = p + k := ⟨_, rfl⟩
          obtain ⟨d, hd⟩ : ∃ d, d = q / 8 := ⟨_, rfl⟩
          obtain ⟨m, hm8⟩ : ∃ m, m = q % 8 := ⟨_, rfl⟩
          have hxl : d < x.length := by rw [htu.1]; omega
          obtain ⟨⟨g, rfl⟩, hnxx⟩ := ho.addr (by omega)
          have hnl : d < nx := by omega
          obtain ⟨c1, c2, c3, c4⟩ := ho.cell d hxl
          have hset := (ho.chg ((Chg.refl NoB wr).drew) (fun _ _ h => h)).set_ d (x[d] ^^^ UInt8.ofNat (2 ^ m))
          have hfl : flip8 x (p + k) = x.set d (x[d] ^^^ UInt8.ofNat (2 ^ m)) := by
            subst hd hm8 hq; exact flip8_set x (p + k) hxl
          rw [hfl] at htu2
          rw [← shl_u8 _ _ (by omega)] at hset
          have i1 : IntKind.i64.wrap ((p : Int) + (k : Int)) = (q : Int) := by rw [IntWalk.i64_in _ (by omega)]; omega
          have i2 : IntKind.i64.wrap ((q : Int) / 8) = (d : Int) := by rw [IntWalk.i64_in _ (by omega)]; omega
          have i3 : (q : Int).tmod 8 = (m : Int) := by rw [IntWalk.rem_in _ _ (by omega)]; omega
          have hm88 : m < 8 := by omega
          have hsh := run_shl_u8 Try.prog m hm88
          have hq8 : q < 8 * l.length := by omega
          clear hnxx hd hm8 hq hfl
          go_wp2_with fail
          go_still_tail 19, (by kernel_rfl)
          change wpList _ _ _ _ _ wr.drew
          go_wp2_with fail
          go_roundw
          case rel => exact ⟨k + 1, _, by omega, by go_num, hset, htu2, (hch.drew).setCell (.inr c3) _⟩
          case measure => simp [intOf]; omega
        · go_wp2_with fail
          refine (crcLives_any _).mono ?_
          rintro e w3 ⟨rfl, hc3⟩
          go_wp2_with fail
          go_ret
          exact ⟨rfl, (hch.trans hc3 (fun _ _ h => h)).no⟩
    · have hk32 : k = 32 := by omega
      have hrl := hr.below hch.no
      obtain ⟨A2, n2, c2, hv2, hn2, hrx, _⟩ := ho.val
      injection hv2 with e1 e2 e3
      subst e1 e2 e3
      have HN2 := Lib.hid hn2
      have e1 : (U (moreL 0#32 x) != U (moreL 0#32 l)) = true := by
        rw [hk32] at htu; exact htu.differ HT.out
      clear hn2 htu hk32
      go_wp2_with fail
      refine (sum_any A x nx c HN2.out _ _ hrx (by rw [← HNX.out]; simp; omega)).mono ?_
      rintro e w2 ⟨rfl, rfl⟩
      go_wp2_with fail
      refine (sum_any a0 l _ cap0 rfl _ _ hrl (by omega)).mono ?_
      rintro e w2 ⟨rfl, rfl⟩
      go_wp2_with fail
      refine (crcLives_any _).mono ?_
      rintro e w3 ⟨rfl, hc3⟩
      go_wp2_with fail
      go_ret
      exact ⟨rfl, (hch.trans hc3 (fun _ _ h => h)).no⟩
end Go.Proofs.Ytjihoghkmkdghaa
