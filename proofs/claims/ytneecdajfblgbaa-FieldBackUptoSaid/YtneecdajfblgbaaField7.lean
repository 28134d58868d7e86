/-
  THE WALKS of the laws FieldPuts, FieldGets, FieldPieces.
-/
import Derived.Test.YtneecdajfblgbaaField6
namespace Go.Proofs.Ytneecdajfblgbaa
open Go.RowKit FieldM
set_option maxRecDepth 100000 in
set_option maxHeartbeats 4000000 in
theorem fieldPuts_walk (a0 : Option Addr) (len0 cap0 : Nat) (z0 : List Int) (x : Int) (w : World) (w0 : IsRow .u8 w a0 len0 cap0 z0) (r0 : cap0 ≤ 140737488351232) (wx : (Lit.int .i64 x).wf = true) :
    Calls Try.prog 3 #[.slice a0 len0 cap0, .int .i64 x] w fun e w' => e = .returned (.bool true) ∧ Below w.heap.size w w' := by
  obtain ⟨l, hln, hm, hr, hcap⟩ := w0.rb
  have hx : -9223372036854775808 ≤ x ∧ x ≤ 9223372036854775807 := by
    simpa [Lit.wf, IntKind.min, IntKind.max, IntKind.bits, IntKind.signed] using wx
  have HX := Lib.hid hx
  have HLN := Lib.hid hln.symm
  have hb : len0 ≤ 140737488351232 := by omega
  clear w0 wx hx hm hln hcap r0
  go_enter Try.func3, Try.ntmps3
  go_wp2_with fail
  refine (own_any a0 l len0 cap0 HLN.out _ _ hr (by omega)).mono ?_
  rintro e w1 ⟨⟨A1, c1, rfl, hc1n, hr1⟩, hc1⟩
  go_wp2_with fail
  refine (put2_any A1 l len0 c1 x HLN.out _ _ hr1.takeApp (by omega) HX.out).mono ?_
  rintro e w2 ⟨⟨v2, rfl, ho2⟩, hc2⟩
  have hr1 := hr1.no hc2
  have hcc := hc1.trans hc2 (fun _ _ h => h)
  clear hc1 hc2
  go_wp2_with fail
  refine (rput2_any a0 l len0 cap0 x HLN.out _ _ (hr.no hcc) (by omega)).mono ?_
  rintro e w3 ⟨⟨v3, rfl, ho3⟩, hc3⟩
  have hr1 := hr1.no hc3
  have ho2 := ho2.chg hc3 (fun _ _ h => h)
  have hcc := hcc.trans hc3 (fun _ _ h => h)
  clear hc3
  go_wp2_with fail
  refine (put4_any A1 l len0 c1 x HLN.out _ _ hr1.takeApp (by omega) HX.out).mono ?_
  rintro e w4 ⟨⟨v4, rfl, ho4⟩, hc4⟩
  have hr1 := hr1.no hc4
  have ho2 := ho2.chg hc4 (fun _ _ h => h)
  have ho3 := ho3.chg hc4 (fun _ _ h => h)
  have hcc := hcc.trans hc4 (fun _ _ h => h)
  clear hc4
  go_wp2_with fail
  refine (rput4_any a0 l len0 cap0 x HLN.out _ _ (hr.no hcc) (by omega)).mono ?_
  rintro e w5 ⟨⟨v5, rfl, ho5⟩, hc5⟩
  have hr1 := hr1.no hc5
  have ho2 := ho2.chg hc5 (fun _ _ h => h)
  have ho3 := ho3.chg hc5 (fun _ _ h => h)
  have ho4 := ho4.chg hc5 (fun _ _ h => h)
  have hcc := hcc.trans hc5 (fun _ _ h => h)
  clear hc5
  obtain ⟨A2, n2, c2, rfl, hn2, hr2, _⟩ := ho2.val
  have hs2 := hr2.toStr hn2 c2 Try.underlying22 Try.underlying5 Try.underlying9
  clear ho2 hr2 hn2
  obtain ⟨A3, n3, c3, rfl, hn3, hr3, _⟩ := ho3.val
  have hs3 := hr3.toStr hn3 c3 Try.underlying22 Try.underlying5 Try.underlying9
  clear ho3 hr3 hn3
  obtain ⟨A4, n4, c4, rfl, hn4, hr4, _⟩ := ho4.val
  have hs4 := hr4.toStr hn4 c4 Try.underlying22 Try.underlying5 Try.underlying9
  clear ho4 hr4 hn4
  obtain ⟨A5, n5, c5, rfl, hn5, hr5, _⟩ := ho5.val
  have hs5 := hr5.toStr hn5 c5 Try.underlying22 Try.underlying5 Try.underlying9
  clear ho5 hr5 hn5
  have hra := hr.no hcc
  go_wp2_with fail
  refine (kept_any A1 a0 l len0 c1 cap0 HLN.out _ _ _ hr1 hc1n (by omega) hra).mono ?_
  rintro e w6 ⟨rfl, rfl⟩
  go_wp2_with fail
  refine (fieldLives_any _).mono ?_
  rintro e w9 ⟨rfl, hc9⟩
  go_wp2_with fail
  go_ret
  exact ⟨rfl, (hcc.trans hc9 (fun _ _ h => h)).no⟩
set_option maxRecDepth 100000 in
set_option maxHeartbeats 4000000 in
theorem fieldGets_walk (a0 : Option Addr) (len0 cap0 : Nat) (z0 : List Int) (p m : Int) (w : World) (w0 : IsRow .u8 w a0 len0 cap0 z0) (r0 : cap0 ≤ 140737488351232) (_ : (Lit.int .i64 p).wf = true) (_ : (Lit.int .i64 m).wf = true) :
    Calls Try.prog 6 #[.slice a0 len0 cap0, .int .i64 p, .int .i64 m] w fun e w' => e = .returned (.bool true) ∧ Below w.heap.size w w' := by
  obtain ⟨l, hln, hm, hr, hcap⟩ := w0.rb
  have HLN := Lib.hid hln.symm
  have hb : len0 ≤ 140737488351232 := by omega
  have hcap : len0 ≤ cap0 := by omega
  clear w0 hm hln r0
  go_enter Try.func6, Try.ntmps6
  go_wp2_with fail
  refine (own_any a0 l len0 cap0 HLN.out _ _ hr (by omega)).mono ?_
  rintro e w1 ⟨⟨A1, c1, rfl, hc1n, hr1⟩, hc1⟩
  go_wp2_with fail
  refine (get2_any A1 l len0 c1 p HLN.out _ _ hr1.takeApp (by omega) (by omega)).mono ?_
  rintro e w2 ⟨rfl, hc2⟩
  have hr1 := hr1.no hc2
  have hcc := hc1.trans hc2 (fun _ _ h => h)
  have hz1 := hc2.size
  have hzw := hc1.size
  clear hc1 hc2
  go_wp2_with fail
  refine (rget2_any a0 l len0 cap0 p HLN.out _ _ (hr.no hcc) (by omega) (by omega)).mono ?_
  rintro e w3 ⟨rfl, hc3⟩
  have hr1 := hr1.no hc3
  have hcc := hcc.trans hc3 (fun _ _ h => h)
  have hz1 := Nat.le_trans hz1 hc3.size
  clear hc3
  go_wp2_with fail
  refine (get4_any A1 l len0 c1 p HLN.out _ _ hr1.takeApp (by omega) (by omega)).mono ?_
  rintro e w4 ⟨rfl, hc4⟩
  have hr1 := hr1.no hc4
  have hcc := hcc.trans hc4 (fun _ _ h => h)
  have hz1 := Nat.le_trans hz1 hc4.size
  clear hc4
  go_wp2_with fail
  refine (rget4_any a0 l len0 cap0 p HLN.out _ _ (hr.no hcc) (by omega) (by omega)).mono ?_
  rintro e w5 ⟨rfl, hc5⟩
  have hr1 := hr1.no hc5
  have hcc := hcc.trans hc5 (fun _ _ h => h)
  have hz1 := Nat.le_trans hz1 hc5.size
  clear hc5
  go_wp2_with fail
  refine (piece_any A1 l len0 c1 p m HLN.out _ _ hr1.takeApp (by omega) (by omega)).mono ?_
  rintro e w6 ⟨⟨v6, rfl, ho6⟩, hc6⟩
  have hr1 := hr1.no hc6
  have hcc := hcc.trans hc6 (fun _ _ h => h)
  have ho6 := ho6.base_ hz1
  have hz1 := Nat.le_trans hz1 hc6.size
  clear hc6
  go_wp2_with fail
  refine (rpiece_any a0 l len0 cap0 p m HLN.out _ _ (hr.no hcc) (by omega) (by omega)).mono ?_
  rintro e w7 ⟨⟨v7, rfl, ho7⟩, hc7⟩
  have hr1 := hr1.no hc7
  have hcc := hcc.trans hc7 (fun _ _ h => h)
  have hz1 := Nat.le_trans hz1 hc7.size
  have ho6 := ho6.chg hc7 (fun _ _ h => h)
  clear hc7
  obtain ⟨A6, n6, c6, hv6, hn6, hr6, hnc6, _⟩ := ho6.val
  obtain ⟨A7, n7, c7, rfl, hn7, hr7, _⟩ := ho7.val
  subst hv6
  have hs6 := hr6.toStr hn6 c6 Try.underlying22 Try.underlying5 Try.underlying9
  have hs7 := hr7.toStr hn7 c7 Try.underlying22 Try.underlying5 Try.underlying9
  have hlp : (pieceL l p m).length ≤ 140737488351232 := by
    have : (pieceL l p m).length ≤ l.length := by
      unfold pieceL; split
      · simp; omega
      · simp
    have := HLN.out
    omega
  have ho6a : OwnB (w7.alloc (.cells #[.int .u8 1] 5)) w1.heap.size (.slice A6 n6 c6) (pieceL l p m) := ho6.chg ((Chg.refl NoB w7).alloc _) (fun _ _ h => h)
  clear hn6 hn7 hr6 hr7 ho7 ho6
  go_wp2_with (at_builtin; refine wpList_appendB rfl (.tmp 90) (.tmp 91) rfl w1.heap.size _ (pieceL l p m) rfl ho6a (w7.heap.size + 1) (some ⟨w7.heap.size, 0, none⟩) 1 1 [1] rfl rfl (RB.of_row (heap_alloc_new _ _) _ rfl (by omega)) (by simp; omega) (by simp; omega) ?_; intro v8 w8 ho8 hg8 he8; have hc78 : Chg (fun i => w1.heap.size ≤ i) w7 w8 := ((Chg.refl _ w7).alloc _).grown hg8 (fun g e => .inl (World.ownsRow.lt ho6a g e).1); clear ho6a hg8 he8; obtain ⟨A8, n8, c8, hv8, _, _, _⟩ := ho8.val; subst hv8; obtain ⟨⟨g, rfl⟩, hn8⟩ := ho8.addr (by simp); have hp8 : 0 < n8 := (by rw [hn8]; simp); obtain ⟨d1, d2, d3, d4⟩ := ho8.cell 0 (by simp); have e1 := u8_hi ((pieceL l p m ++ [1])[0]'(by simp)); have e0 := u8_lo ((pieceL l p m ++ [1])[0]'(by simp)); clear hn8 ho8)
  have hS : ∀ i, i < w.heap.size → ¬ w1.heap.size ≤ i := fun i hi h => by omega
  have hS1 : ∀ i, i < w1.heap.size → ¬ w1.heap.size ≤ i := fun i hi h => by omega
  have hk1 := (hr1.chg hc78 hS1).setCell (p := ⟨g, 0, none⟩) d3 (.int .u8 ((((pieceL l p m ++ [1])[0]'(by simp)).toNat + 1) % 256))
  have hk0 := ((hr.no hcc).chg hc78 hS).setCell (p := ⟨g, 0, none⟩) (Nat.le_trans hzw d3) (.int .u8 ((((pieceL l p m ++ [1])[0]'(by simp)).toNat + 1) % 256))
  have hfin := ((hcc.mono (T := fun i => w1.heap.size ≤ i) (fun _ _ h => h.elim)).trans hc78 (fun _ _ h => h)).setCell (p := ⟨g, 0, none⟩) (.inl d3) (.int .u8 ((((pieceL l p m ++ [1])[0]'(by simp)).toNat + 1) % 256))
  refine (kept_any A1 a0 l len0 c1 cap0 HLN.out _ _ _ hk1 hc1n (by omega) hk0).mono ?_
  rintro e w9 ⟨rfl, hw9⟩
  rw [← hw9] at hfin
  clear hw9
  go_wp2_with fail
  refine (fieldLives_any _).mono ?_
  rintro e w10 ⟨rfl, hc10⟩
  go_wp2_with fail
  go_ret
  exact ⟨rfl, (hfin.trans hc10 (fun _ _ h => h.elim)).below (Nat.le_refl _) hS⟩
end Go.Proofs.Ytneecdajfblgbaa
