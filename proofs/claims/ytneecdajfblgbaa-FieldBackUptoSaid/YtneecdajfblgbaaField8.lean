/-
  THE WALKS of the laws FieldPieces, FieldParts.
-/
import Derived.Test.YtneecdajfblgbaaField7
namespace Go.Proofs.Ytneecdajfblgbaa
open Go.RowKit FieldM
theorem run_add_lists (P : Program) (x y : List UInt8) (h : x.length + y.length ≤ 9223372036854775807) (w : World) : (Op.stringOp .add ⟨x.toArray⟩ ⟨y.toArray⟩).run P w = .ok (.string ⟨(x ++ y).toArray⟩) w := by
  rw [run_string_add_sum w _ _ (by simpa [ByteArray.size] using h), ByteArray.mk_append_mk]
theorem pieceL_len (l : List UInt8) (p m : Int) : (pieceL l p m).length ≤ l.length := by
  unfold pieceL; split
  · simp; omega
  · simp
theorem pieceL_no {l : List UInt8} {p m : Int} (h : cutErr l.length p m ≠ 0) : pieceL l p m = [] := by unfold pieceL; rw [if_neg h]
theorem pieceL_ok {l : List UInt8} {p m : Nat} (h : p + m ≤ l.length) : pieceL l p m = (l.drop p).take m ∧ cutErr l.length p m = 0 := by
  have he := cutErr_ok (n := (l.length : Int)) (p := p) (m := m) (by omega) (by omega)
  refine ⟨?_, he⟩
  unfold pieceL; rw [if_pos he]; simp
set_option maxRecDepth 100000 in
set_option maxHeartbeats 4000000 in
theorem fieldPieces_walk (a0 : Option Addr) (len0 cap0 : Nat) (z0 : List Int) (p n m : Int) (w : World) (w0 : IsRow .u8 w a0 len0 cap0 z0) (r0 : cap0 ≤ 140737488351232) (wp : (Lit.int .i64 p).wf = true) (wn : (Lit.int .i64 n).wf = true) (wm : (Lit.int .i64 m).wf = true) :
    Calls Try.prog 5 #[.slice a0 len0 cap0, .int .i64 p, .int .i64 n, .int .i64 m] w fun e w' => e = .returned (.bool true) ∧ Below w.heap.size w w' := by
  obtain ⟨l, hln, hm, hr, hcap⟩ := w0.rb
  have hb : len0 ≤ 140737488351232 := by omega
  have hcap : len0 ≤ cap0 := by omega
  have HLN := Lib.hid hln.symm
  by_cases he : cutErr len0 p n = 0
  · obtain ⟨h1, h2, h3⟩ := cutErr_zero he
    obtain ⟨p, rfl⟩ : ∃ q : Nat, p = (q : Int) := ⟨p.toNat, by omega⟩
    obtain ⟨n, rfl⟩ : ∃ q : Nat, n = (q : Int) := ⟨n.toNat, by omega⟩
    have hpn : p + n ≤ len0 := by omega
    have HE := Lib.hid he
    have hpx := (pieceL_ok (l := l) (p := p) (m := n) (by omega)).1
    have HPX := Lib.hid hpx
    clear he hpx h3
    by_cases he2 : cutErr len0 ((p : Int) + (n : Int)) m = 0
    · obtain ⟨_, h4, h5⟩ := cutErr_zero he2
      obtain ⟨m, rfl⟩ : ∃ q : Nat, m = (q : Int) := ⟨m.toNat, by omega⟩
      have hpnm : p + n + m ≤ len0 := by omega
      have h6 := pieceL_ok (l := l) (p := p) (m := n + m) (by omega)
      have h7 := pieceL_ok (l := l) (p := p + n) (m := m) (by omega)
      have hcat : pieceL l p ((n : Int) + (m : Int)) = pieceL l p n ++ pieceL l ((p : Int) + (n : Int)) m := by
        have e1 : ((n : Int) + (m : Int)) = ((n + m : Nat) : Int) := by omega
        have e2 : ((p : Int) + (n : Int)) = ((p + n : Nat) : Int) := by omega
        rw [e1, e2, h6.1, h7.1, HPX.out, List.take_add, List.drop_drop]
      have he3 : cutErr len0 p ((n : Int) + (m : Int)) = 0 := cutErr_ok (by omega) (by omega)
      have hlen : (pieceL l p n).length + (pieceL l ((p : Int) + (n : Int)) m).length ≤ 9223372036854775807 := by
        have a := pieceL_len l p n
        have b := pieceL_len l ((p : Int) + (n : Int)) m
        omega
      have hadd := run_add_lists Try.prog _ _ hlen
      rw [← hcat] at hadd
      have HCAT := Lib.hid hcat
      have HE2 := Lib.hid he2
      have HE3 := Lib.hid he3
      clear he2 he3 hcat h6 h7 h5 hlen hln w0 wp wn wm HPX
      go_enter Try.func5, Try.ntmps5
      go_wp2_with fail
      refine (piece_any a0 l len0 cap0 p n HLN.out _ _ hr (by omega) (by omega)).mono ?_
      rintro e w1 ⟨⟨v1, rfl, ho1⟩, hcc⟩
      rw [HE.out]
      go_wp2_with fail
      refine (piece_any a0 l len0 cap0 _ m HLN.out _ _ (hr.no hcc) (by omega) (by omega)).mono ?_
      rintro e w2 ⟨⟨v2, rfl, ho2⟩, hc2⟩
      rw [HE2.out]
      have hcc := hcc.trans hc2 (fun _ _ h => h)
      have ho1 := ho1.chg hc2 (fun _ _ h => h)
      clear hc2
      go_wp2_with fail
      refine (piece_any a0 l len0 cap0 p _ HLN.out _ _ (hr.no hcc) (by omega) (by omega)).mono ?_
      rintro e w3 ⟨⟨v3, rfl, ho3⟩, hc3⟩
      rw [HE3.out]
      have hcc := hcc.trans hc3 (fun _ _ h => h)
      have ho1 := ho1.chg hc3 (fun _ _ h => h)
      have ho2 := ho2.chg hc3 (fun _ _ h => h)
      clear hc3
      obtain ⟨A1, n1, c1, rfl, hn1, hr1, _⟩ := ho1.val
      have hs1 := hr1.toStr hn1 c1 Try.underlying22 Try.underlying5 Try.underlying9
      clear ho1 hr1 hn1
      obtain ⟨A2, n2, c2, rfl, hn2, hr2, _⟩ := ho2.val
      have hs2 := hr2.toStr hn2 c2 Try.underlying22 Try.underlying5 Try.underlying9
      clear ho2 hr2 hn2
      obtain ⟨A3, n3, c3, rfl, hn3, hr3, _⟩ := ho3.val
      have hs3 := hr3.toStr hn3 c3 Try.underlying22 Try.underlying5 Try.underlying9
      clear ho3 hr3 hn3
      go_wp2_with fail
      refine (fieldLives_any _).mono ?_
      rintro e w9 ⟨rfl, hc9⟩
      go_wp2_with fail
      go_ret
      exact ⟨rfl, (hcc.trans hc9 (fun _ _ h => h)).no⟩
    · have hmm : m < 0 ∨ (len0 : Int) - (p : Int) - (n : Int) < m := by
        by_cases h0 : m < 0
        · exact .inl h0
        · by_cases h1 : (len0 : Int) - (p : Int) - (n : Int) < m
          · exact .inr h1
          · exact absurd (cutErr_ok (by omega) (by omega)) he2
      obtain ⟨er, her⟩ : ∃ er, cutErr len0 ((p : Int) + (n : Int)) m = er := ⟨_, rfl⟩
      have hpl : pieceL l ((p : Int) + (n : Int)) m = [] := pieceL_no (by rw [HLN.out]; exact he2)
      rw [her] at he2
      have hne : (er != 0) = true := by simpa using he2
      have HER := Lib.hid her
      have HPL := Lib.hid hpl
      have HM := Lib.hid hmm
      have bm : -9223372036854775808 ≤ m ∧ m ≤ 9223372036854775807 := by
        simpa [Lit.wf, IntKind.min, IntKind.max, IntKind.bits, IntKind.signed] using wm
      clear her hpl he2 hmm hln w0 wp wn wm
      by_cases hm0 : m < 0
      · skip
        go_enter Try.func5, Try.ntmps5
        go_wp2_with fail
        refine (piece_any a0 l len0 cap0 p n HLN.out _ _ hr (by omega) (by omega)).mono ?_
        rintro e w1 ⟨⟨v1, rfl, ho1⟩, hcc⟩
        rw [HE.out]
        go_wp2_with fail
        refine (piece_any a0 l len0 cap0 _ m HLN.out _ _ (hr.no hcc) (by omega) (by omega)).mono ?_
        rintro e w2 ⟨⟨v2, rfl, ho2⟩, hc2⟩
        rw [HER.out]
        rw [HPL.out] at ho2
        have hcc := hcc.trans hc2 (fun _ _ h => h)
        clear hc2
        obtain ⟨A2, n2, c2, rfl, hn2, hr2, _⟩ := ho2.val
        have hz : ((n2 : Int) == 0) = true := by rw [← hn2]; rfl
        clear hn2 ho2
        go_wp2_with fail
        refine (fieldLives_any _).mono ?_
        rintro e w9 ⟨rfl, hc9⟩
        go_wp2_with fail
        go_ret
        exact ⟨rfl, (hcc.trans hc9 (fun _ _ h => h)).no⟩
      · have hd : (len0 : Int) - (p : Int) - (n : Int) < m := by
          rcases HM.out with h | h
          · exact absurd h hm0
          · exact h
        go_enter Try.func5, Try.ntmps5
        go_wp2_with fail
        refine (piece_any a0 l len0 cap0 p n HLN.out _ _ hr (by omega) (by omega)).mono ?_
        rintro e w1 ⟨⟨v1, rfl, ho1⟩, hcc⟩
        rw [HE.out]
        go_wp2_with fail
        refine (piece_any a0 l len0 cap0 _ m HLN.out _ _ (hr.no hcc) (by omega) (by omega)).mono ?_
        rintro e w2 ⟨⟨v2, rfl, ho2⟩, hc2⟩
        rw [HER.out]
        rw [HPL.out] at ho2
        have hcc := hcc.trans hc2 (fun _ _ h => h)
        clear hc2
        obtain ⟨A2, n2, c2, rfl, hn2, hr2, _⟩ := ho2.val
        have hz : ((n2 : Int) == 0) = true := by rw [← hn2]; rfl
        clear hn2 ho2
        go_wp2_with fail
        refine (fieldLives_any _).mono ?_
        rintro e w9 ⟨rfl, hc9⟩
        go_wp2_with fail
        go_ret
        exact ⟨rfl, (hcc.trans hc9 (fun _ _ h => h)).no⟩
  · obtain ⟨er, her⟩ : ∃ er, cutErr len0 p n = er := ⟨_, rfl⟩
    have hpl : pieceL l p n = [] := pieceL_no (by rw [HLN.out]; exact he)
    rw [her] at he
    have hne : (er != 0) = true := by simpa using he
    have HER := Lib.hid her
    have HPL := Lib.hid hpl
    clear her hpl he hln w0 wp wn wm
    go_enter Try.func5, Try.ntmps5
    go_wp2_with fail
    refine (piece_any a0 l len0 cap0 p n HLN.out _ _ hr (by omega) (by omega)).mono ?_
    rintro e w1 ⟨⟨v1, rfl, ho1⟩, hcc⟩
    rw [HER.out]
    rw [HPL.out] at ho1
    obtain ⟨A2, n2, c2, rfl, hn2, hr2, _⟩ := ho1.val
    have hz : ((n2 : Int) == 0) = true := by rw [← hn2]; rfl
    clear hn2 ho1
    go_wp2_with fail
    refine (fieldLives_any _).mono ?_
    rintro e w9 ⟨rfl, hc9⟩
    go_wp2_with fail
    go_ret
    exact ⟨rfl, (hcc.trans hc9 (fun _ _ h => h)).no⟩
theorem le_split (q : List UInt8) (h : q.length = 4) : le q = le (q.take 2) + 65536 * le (q.drop 2) := by
  match q, h with
  | [a, b, c, d], _ => simp [le]; omega
set_option maxRecDepth 100000 in
set_option maxHeartbeats 4000000 in
theorem fieldParts_walk (a0 : Option Addr) (len0 cap0 : Nat) (z0 : List Int) (p : Int) (w : World) (w0 : IsRow .u8 w a0 len0 cap0 z0) (r0 : cap0 ≤ 140737488351232) (_ : (Lit.int .i64 p).wf = true) :
    Calls Try.prog 7 #[.slice a0 len0 cap0, .int .i64 p] w fun e w' => e = .returned (.bool true) ∧ Below w.heap.size w w' := by
  obtain ⟨l, hln, hm, hr, hcap⟩ := w0.rb
  have hb : len0 ≤ 140737488351232 := by omega
  have hcap : len0 ≤ cap0 := by omega
  have HLN := Lib.hid hln.symm
  by_cases he : cutErr len0 p 4 = 0
  · obtain ⟨h1, _, h3⟩ := cutErr_zero he
    obtain ⟨p, rfl⟩ : ∃ q : Nat, p = (q : Int) := ⟨p.toNat, by omega⟩
    have hp4 : p + 4 ≤ len0 := by omega
    obtain ⟨q, hq⟩ : ∃ q, (l.drop p).take 4 = q := ⟨_, rfl⟩
    have hql : q.length = 4 := by rw [← hq]; simp; omega
    have g4 : getL l p 4 = (le q : Nat) := by
      have := (pieceL_ok (l := l) (p := p) (m := 4) (by omega)).1
      unfold getL; rw [show ((4 : Int)) = ((4 : Nat) : Int) from rfl, this, hq]
    have g2 : getL l p 2 = (le (q.take 2) : Nat) := by
      have := (pieceL_ok (l := l) (p := p) (m := 2) (by omega)).1
      unfold getL; rw [show ((2 : Int)) = ((2 : Nat) : Int) from rfl, this, ← hq, List.take_take]; rfl
    have g3 : getL l ((p : Int) + 2) 2 = (le (q.drop 2) : Nat) := by
      have := (pieceL_ok (l := l) (p := p + 2) (m := 2) (by omega)).1
      unfold getL; rw [show ((p : Int) + 2) = ((p + 2 : Nat) : Int) from by omega, show ((2 : Int)) = ((2 : Nat) : Int) from rfl, this, ← hq, List.drop_take, List.drop_drop]
    have e2 : cutErr len0 p 2 = 0 := cutErr_ok (by omega) (by omega)
    have e3 : cutErr len0 ((p : Int) + 2) 2 = 0 := cutErr_ok (by omega) (by omega)
    have hlt := le_lt q
    have hlt2 := le_lt (q.take 2)
    have hlt3 := le_lt (q.drop 2)
    rw [hql] at hlt
    rw [List.length_take, hql] at hlt2
    rw [List.length_drop, hql] at hlt3
    have hlt2 : le (q.take 2) < 65536 := hlt2
    have hlt3 : le (q.drop 2) < 65536 := hlt3
    have hlt : le q < 4294967296 := hlt
    have pe : putErr (le q : Nat) 4 = 0 := by unfold putErr; rw [if_pos ⟨by omega, by omega⟩]
    have pl : putL [] (le q : Nat) 4 = q := by
      unfold putL; rw [pe]; simp
      have := leB_le q; rwa [hql] at this
    have hpx : pieceL l p 4 = q := by
      have := (pieceL_ok (l := l) (p := p) (m := 4) (by omega)).1
      rw [show ((4 : Int)) = ((4 : Nat) : Int) from rfl, this, hq]
    have hsum : ((le q : Nat) == ((le (q.take 2) : Nat) : Int) + 65536 * ((le (q.drop 2) : Nat) : Int)) = true := by
      have := le_split q hql
      simp only [beq_iff_eq]; omega
    obtain ⟨A, hA⟩ : ∃ A, le q = A := ⟨_, rfl⟩
    obtain ⟨B, hB⟩ : ∃ B, le (q.take 2) = B := ⟨_, rfl⟩
    obtain ⟨C, hC⟩ : ∃ C, le (q.drop 2) = C := ⟨_, rfl⟩
    rw [hA] at g4 pe pl hsum hlt
    rw [hB] at g2 hsum hlt2
    rw [hC] at g3 hsum hlt3
    have HE := Lib.hid he
    have G4 := Lib.hid g4
    have G2 := Lib.hid g2
    have G3 := Lib.hid g3
    have E2 := Lib.hid e2
    have E3 := Lib.hid e3
    have PE := Lib.hid pe
    have PL := Lib.hid pl
    have HPX := Lib.hid hpx
    have hAb : A ≤ 4294967296 := by omega
    clear he h3 hq hql g4 g2 g3 e2 e3 pe pl hpx hA hB hC hln w0 hlt
    go_enter Try.func7, Try.ntmps7
    go_wp2_with fail
    refine (get4_any a0 l len0 cap0 p HLN.out _ _ hr (by omega) (by omega)).mono ?_
    rintro e w1 ⟨rfl, hcc⟩
    rw [HE.out, G4.out]
    go_wp2_with fail
    refine (get2_any a0 l len0 cap0 p HLN.out _ _ (hr.no hcc) (by omega) (by omega)).mono ?_
    rintro e w2 ⟨rfl, hc2⟩
    rw [E2.out, G2.out]
    have hcc := hcc.trans hc2 (fun _ _ h => h)
    clear hc2
    go_wp2_with fail
    refine (get2_any a0 l len0 cap0 _ HLN.out _ _ (hr.no hcc) (by omega) (by omega)).mono ?_
    rintro e w2 ⟨rfl, hc2⟩
    rw [E3.out, G3.out]
    have hcc := hcc.trans hc2 (fun _ _ h => h)
    clear hc2
    go_wp2_with fail
    refine (put4_any none [] 0 0 A rfl 0 _ RB.none_ (by omega) (by omega)).mono ?_
    rintro e w3 ⟨⟨v3, rfl, ho3⟩, hc3⟩
    rw [PE.out]
    rw [PL.out] at ho3
    have hcc := hcc.trans hc3 (fun _ _ h => h)
    clear hc3
    go_wp2_with fail
    refine (piece_any a0 l len0 cap0 p 4 HLN.out _ _ (hr.no hcc) (by omega) (by omega)).mono ?_
    rintro e w4 ⟨⟨v4, rfl, ho4⟩, hc4⟩
    rw [HE.out]
    rw [HPX.out] at ho4
    have hcc := hcc.trans hc4 (fun _ _ h => h)
    have ho3 := ho3.chg hc4 (fun _ _ h => h)
    clear hc4
    obtain ⟨A3, n3, c3, rfl, hn3, hr3, _⟩ := ho3.val
    have hs3 := hr3.toStr hn3 c3 Try.underlying22 Try.underlying5 Try.underlying9
    clear ho3 hr3 hn3
    obtain ⟨A4, n4, c4, rfl, hn4, hr4, _⟩ := ho4.val
    have hs4 := hr4.toStr hn4 c4 Try.underlying22 Try.underlying5 Try.underlying9
    clear ho4 hr4 hn4
    go_wp2_with fail
    refine (fieldLives_any _).mono ?_
    rintro e w9 ⟨rfl, hc9⟩
    go_wp2_with fail
    go_ret
    exact ⟨rfl, (hcc.trans hc9 (fun _ _ h => h)).no⟩
  · obtain ⟨er, her⟩ : ∃ er, cutErr len0 p 4 = er := ⟨_, rfl⟩
    have hg : getL l p 4 = 0 := by
      unfold getL; rw [pieceL_no (by rw [HLN.out]; exact he)]; rfl
    rw [her] at he
    have hne : (er != 0) = true := by simpa using he
    have HER := Lib.hid her
    have HG := Lib.hid hg
    clear her hg he hln w0
    go_enter Try.func7, Try.ntmps7
    go_wp2_with fail
    refine (get4_any a0 l len0 cap0 p HLN.out _ _ hr (by omega) (by omega)).mono ?_
    rintro e w1 ⟨rfl, hcc⟩
    rw [HER.out, HG.out]
    go_wp2_with fail
    refine (fieldLives_any _).mono ?_
    rintro e w9 ⟨rfl, hc9⟩
    go_wp2_with fail
    go_ret
    exact ⟨rfl, (hcc.trans hc9 (fun _ _ h => h)).no⟩
end Go.Proofs.Ytneecdajfblgbaa
