/-
  THE WALK of Write.
-/
import Derived.Test.YtlhfhhbafhnbkaaSec6
import Derived.Deep.Cut
namespace Go.Proofs.Ytlhfhhbafhnbkaa
open Go.RowKit Go.Maps
set_option linter.unusedSimpArgs false
def slot (d : Bool) (v u : Value) : Value := match d with | true => v | false => u
@[simp, go_sem] theorem slot_true (v u : Value) : slot true v u = v := rfl
@[simp, go_sem] theorem slot_false (v u : Value) : slot false v u = u := rfl
theorem blk_reads {w : World} {b : Nat} {i : Int} {l : List UInt8} (hb : Blk w b 86 (putC i l)) (hl : l.length = 512) : Reads w (b + 1) 513 (some ⟨b, 0, none⟩) 1 (putL (i, l)) := by
  refine ⟨by rw [putL_len i hl], fun _ => ⟨_, rfl, by simp, fun j u hu => ?_⟩⟩
  have ha : (⟨b, 0, none⟩ : Addr).add j = ⟨b, j, none⟩ := by unfold Addr.add; split <;> simp_all
  rw [ha, hb.cell j, ← hu]
  simp [putC]
theorem wpList_append_put (w : World) {ops : Array Oper} {rest : List Oper} {o : Oper} {a : Act} {Q : Exit → Act → World → Prop} (hg : o.guard = none) (s x : Operand)
    (hop : o.op = .call { callee := .builtin .append, args := #[s, x], argTypes := #[46, 46] })
    (v : Value) (k : Nat) (xs : List Value) (hs : a.eval s = v) (hown : w.ownsRow 0 86 513 v k xs) (b : Nat) (i : Int) (l : List UInt8) (hx : a.eval x = .slice (some ⟨b, 0, none⟩) 1 1) (hb : Blk w b 86 (putC i l)) (hl : l.length = 512) (hk : k ≤ 100000)
    (hK : ∀ v' w', w'.ownsRow 0 86 513 v' (k + 1) (xs ++ putL (i, l)) → w.grownBy w' v.ownBlock → (v'.ownBlock = v.ownBlock ∨ v'.ownBlock = some w.heap.size) → wpList Try.prog ops Q rest (a.put o.dst v') w') : wpList Try.prog ops Q (o :: rest) a w := by
  obtain ⟨it, hit, hs1, hs2, hz⟩ := put_infoE
  obtain ⟨v', w', hrun, h2, h3, h4⟩ := run_append_any (P := Try.prog) w 0 46 o.type 86 it _ 513 520 Try.underlying46 hit hz hs1 hs2 (putC_size 0 zeros_len) (by decide) v k xs hown (b + 1) (some ⟨b, 0, none⟩) 1 1 (putL (i, l)) (blk_reads hb hl) (put_one i l) (by unfold maxLen; omega) (by omega) (Nat.zero_le _)
  refine wpList_plain hg fun K hK' => ?_
  unfold Oper.wp execOp
  simp only [hop, resolve, invoke, builtin, Sem.run_bind, Sem.run_pure, Result.andThen_ok, List.map_toArray, List.map_cons, List.map_nil, hs, hx, hrun]
  exact hK' _ _ (hK v' w' h2 h3 h4)
theorem run_arrayAt (w : World) (g o c : Nat) : (Instr.arrayAt 84 (.slice (some ⟨g, o, none⟩) 512 c)).run Try.prog w = .ok (.pointer (some ⟨g, o, none⟩)) w := by
  unfold Instr.arrayAt
  simp [run_underlying Try.underlying84]
theorem blk_mid {w : World} {b : Nat} {l : List UInt8} (hb : Blk w b 84 (blkC l)) : w.rangeAt b 0 (l.map bv) := fun j v hv => by
  rw [Nat.zero_add, hb.cell j, ← hv]; simp [blkC]
theorem map_own_ne {w : World} {base n size b : Nat} {t : TypeId} {v : Value} {xs : List Value} {f : Int → List UInt8} (h : w.ownsRow base t size v n xs) (hm : SMap w b f) : v.ownBlock ≠ some b := by
  intro e
  rcases h.2 with ⟨rfl, _⟩ | ⟨g', cap, cur, rfl, hb, hh, _⟩
  · cases e
  · have e2 : g' = b := by simpa [Value.ownBlock] using e
    subst e2
    exact hm.blk_ne (show Blk w g' t cur from hh) rfl
theorem own_slice {w : World} {base n size : Nat} {t : TypeId} {v : Value} {xs : List Value} (h : w.ownsRow base t size v n xs) : ∃ A c, v = .slice A n c := by
  rcases h.2 with ⟨rfl, rfl⟩ | ⟨g, cap, cur, rfl, _⟩
  · exact ⟨_, _, rfl⟩
  · exact ⟨_, _, rfl⟩
theorem own_ne {w : World} {base n size g : Nat} {t t' : TypeId} {v : Value} {xs : List Value} {cs : Array Value} (h : w.ownsRow base t size v n xs) (hg : Blk w g t' cs) (hne : t ≠ t') : v.ownBlock ≠ some g := by
  intro e
  rcases h.2 with ⟨rfl, _⟩ | ⟨g', cap, cur, rfl, hb, hh, _⟩
  · cases e
  · have e2 : g' = g := by simpa [Value.ownBlock] using e
    subst e2
    unfold Blk at hg
    rw [hg] at hh
    injection hh with hh
    injection hh with h1 h2
    exact hne h2.symm
def InvW8 (g x7 k ga oa c : Nat) (i n fuse : Int) (l : List UInt8) (ms v mn : Value) (xs : List Value) (w0 : World) (D : Nat → Bool) (a : Act) (w : World) : Prop :=
  ∃ (s1 : Nat) (v9 : Value), a = { tmps := #[.pointer (some ⟨g, 0, none⟩), .int .i64 i, .slice (some ⟨ga, oa, none⟩) 512 c, undef, undef, undef, .int .i64 0, .pointer (some ⟨x7, 0, none⟩), .bool false, .pointer (some ⟨g, 0, none⟩), .bool true, .bool false, .bool false, .int .i64 i, .bool false, .bool false, .int .i64 i, .pointer (some ⟨g, 0, none⟩), .pointer (some ⟨g, 0, none⟩), .pointer (some ⟨g, 0, none⟩), .int .i64 n, .bool false, .bool false, .bool false, .slice (some ⟨ga, oa, none⟩) 512 c, .int .i64 512, .bool false, .bool false, .bool false, .pointer (some ⟨g, 0, none⟩), .pointer (some ⟨g, 0, none⟩), .pointer (some ⟨g, 5, none⟩), .bool false, .slice (some ⟨ga, oa, none⟩) 512 c, .pointer (some ⟨ga, oa, none⟩), .agg (blkC l), (slot (D 0) (.pointer (some ⟨g, 0, none⟩)) (undef)), (slot (D 1) (.pointer (some ⟨g, 0, none⟩)) (undef)), (slot (D 2) (.pointer (some ⟨g, 0, none⟩)) (undef)), (slot (D 3) (.pointer (some ⟨g, 2, none⟩)) (undef)), (slot (D 4) (v) (undef)), (slot (D 5) (.int .i64 i) (undef)), (slot (D 6) (.agg (blkC l)) (undef)), (slot (D 7) (.agg (putC i l)) (undef)), (slot (D 8) (.slice (some ⟨s1, 0, none⟩) 1 1) (undef)), (slot (D 9) (v9) (undef)), (slot (D 10) (.pointer (some ⟨g, 0, none⟩)) (undef)), (slot (D 11) (.pointer (some ⟨g, 2, none⟩)) (undef)), undef, undef, undef, undef, undef, undef, undef, undef, undef, undef], defers := [] } ∧
    (D 12 = false → Blk w g 48 (dkC n ms v mn fuse false)) ∧
    (D 12 = true → Blk w g 48 (dkC n ms v9 mn fuse false)) ∧
    (Blk w x7 84 (blkC l)) ∧
    (D 8 = true → Blk w s1 86 (putC i l)) ∧
    (D 8 = true → w0.heap.size ≤ s1) ∧
    (D 9 = false → w.ownsRow 0 86 513 v k xs) ∧
    (D 9 = true → w.ownsRow 0 86 513 v9 (k + 1) (xs ++ putL (i, l)) ∧ (v9.ownBlock = v.ownBlock ∨ ∀ j, v9.ownBlock = some j → w0.heap.size ≤ j)) ∧
    (Chg (fun j => j = g ∨ v.ownBlock = some j) w0 w)
def InvW9 (g x7 bn s1 ga oa c : Nat) (i n fuse : Int) (l : List UInt8) (ms v v9 : Value) (now : Int → List UInt8) (w0 : World) (D : Nat → Bool) (a : Act) (w : World) : Prop :=
  ∃ (u6 : Value), a = { tmps := #[.pointer (some ⟨g, 0, none⟩), .int .i64 i, .slice (some ⟨ga, oa, none⟩) 512 c, undef, undef, undef, .int .i64 0, .pointer (some ⟨x7, 0, none⟩), .bool false, .pointer (some ⟨g, 0, none⟩), .bool true, .bool false, .bool false, .int .i64 i, .bool false, .bool false, .int .i64 i, .pointer (some ⟨g, 0, none⟩), .pointer (some ⟨g, 0, none⟩), .pointer (some ⟨g, 0, none⟩), .int .i64 n, .bool false, .bool false, .bool false, .slice (some ⟨ga, oa, none⟩) 512 c, .int .i64 512, .bool false, .bool false, .bool false, .pointer (some ⟨g, 0, none⟩), .pointer (some ⟨g, 0, none⟩), .pointer (some ⟨g, 5, none⟩), .bool false, .slice (some ⟨ga, oa, none⟩) 512 c, .pointer (some ⟨ga, oa, none⟩), .agg (blkC l), .pointer (some ⟨g, 0, none⟩), .pointer (some ⟨g, 0, none⟩), .pointer (some ⟨g, 0, none⟩), .pointer (some ⟨g, 2, none⟩), v, .int .i64 i, .agg (blkC l), .agg (putC i l), .slice (some ⟨s1, 0, none⟩) 1 1, v9, .pointer (some ⟨g, 0, none⟩), .pointer (some ⟨g, 2, none⟩), (slot (D 0) (.pointer (some ⟨g, 0, none⟩)) (undef)), (slot (D 1) (.pointer (some ⟨g, 0, none⟩)) (undef)), (slot (D 2) (.pointer (some ⟨g, 3, none⟩)) (undef)), (slot (D 3) (.map (some bn)) (undef)), (slot (D 4) (.int .i64 i) (undef)), (slot (D 5) (.agg (blkC l)) (undef)), (slot (D 6) (u6) (undef)), undef, undef, undef], defers := [] } ∧
    (Blk w g 48 (dkC n ms v9 (.map (some bn)) fuse false)) ∧
    (Blk w x7 84 (blkC l)) ∧
    (D 6 = false → SMap w bn now) ∧
    (D 6 = true → SMap w bn (upd now i l)) ∧
    (Chg (OneB bn) w0 w)
/-- a write that is done -/
def Dk.wrote (K : Dk) (i : Int) (l : List UInt8) : Dk := { K with loose := K.loose ++ [(i, l)], now := upd K.now i l, fuse := if 0 < K.fuse then K.fuse - 1 else K.fuse, dark := K.dark || K.fuse == 0 }
def wBad (K : Dk) (i : Int) (l : List UInt8) : Prop := i < 0 ∨ K.n ≤ i ∨ l.length ≠ 512
instance (K : Dk) (i : Int) (l : List UInt8) : Decidable (wBad K i l) := by unfold wBad; exact inferInstance
def Dk.write (K : Dk) (i : Int) (l : List UInt8) : Dk := if wBad K i l ∨ K.dark = true then K else K.wrote i l
def writeE (K : Dk) (i : Int) (l : List UInt8) : Int := if wBad K i l then 2 else if K.dark = true then 6 else if K.fuse = 0 then 6 else 0
def WPost (w : World) (F : Nat → Prop) (g : Nat) (K : Dk) (i : Int) (l : List UInt8) (e : Ending) (w' : World) : Prop :=
  e = .returned (.int .i64 (writeE K i l)) ∧ Disk w' (FN F w w') g (K.write i l) ∧ Chg F w w'
theorem Disk.toFN {w w' : World} {F : Nat → Prop} {g : Nat} {K : Dk} (h : Disk w F g K) : Disk w (FN F w w') g K := h.mono (fun _ _ h => .inl h)
theorem wrote_disk {F : Nat → Prop} {w1 w2 w3 w4 w5 : World} {g bs bn : Nat} {v v9 : Value} {n fuse i : Int} {sure now : Int → List UInt8} {loose : List (Int × List UInt8)} {l : List UInt8} {ms : Value}
    (hD : DiskB w2 g bs bn v ⟨n, sure, loose, now, fuse, false⟩) (hc2 : Chg NoB w1 w2) (hc3 : Chg (fun j => j = g ∨ v.ownBlock = some j) w2 w3) (hc4 : Chg (OneB bn) w3 w4) (hc5 : Chg (OneB g) w4 w5)
    (hs : SMap w3 bs sure) (hm : SMap w4 bn (upd now i l)) (hb4 : Blk w4 g 48 (dkC n ms v9 (.map (some bn)) fuse false))
    (hb : Blk w5 g 48 (dkC n (.map (some bs)) v9 (.map (some bn)) (if 0 < fuse then fuse - 1 else fuse) (false || fuse == 0)))
    (ho : w3.ownsRow 0 86 513 v9 (loose.length + 1) (loose.flatMap putL ++ putL (i, l))) (hv : v9.ownBlock = v.ownBlock ∨ ∀ j, v9.ownBlock = some j → w2.heap.size ≤ j)
    (hF : F g ∧ F bs ∧ F bn ∧ ∀ i, v.ownBlock = some i → F i) (hi : 0 ≤ i ∧ i < 8192) (hl : l.length = 512) (hfu : -1 ≤ fuse ∧ fuse ≤ 9223372036854775807) :
    Disk w5 (FN F w1 w5) g (Dk.wrote ⟨n, sure, loose, now, fuse, false⟩ i l) ∧ Chg F w1 w5 := by
  have hs3 : SMap w4 bs sure := hs.chg hc4 (fun e => hD.ne e)
  have hmg : bn ≠ g := hm.blk_ne hb4
  have hsg : bs ≠ g := hs3.blk_ne hb4
  have ho4 : w4.ownsRow 0 86 513 v9 (loose.length + 1) (loose.flatMap putL ++ putL (i, l)) := ownsRow_chg ho hc4 (fun j e h => by
    have h2 : j = bn := h
    subst h2
    rcases hv with hv | hv
    · rw [hv] at e; exact map_own_ne hD.row hD.now e
    · have h3 := hv j e; have h4 := hD.now.lt; omega)
  have ho5 : w5.ownsRow 0 86 513 v9 (loose.length + 1) (loose.flatMap putL ++ putL (i, l)) := ownsRow_chg ho4 hc5 (fun j e h => own_ne ho4 hb4 (by decide) (h ▸ e))
  have h3 : Chg F w2 w3 := (Chg.refl F w2).trans hc3 (fun j _ h => h.elim (fun e => e ▸ hF.1) (hF.2.2.2 j))
  have h4 : Chg F w3 w4 := (Chg.refl F w3).trans hc4 (fun j _ h => by have h2 : j = bn := h; rw [h2]; exact hF.2.2.1)
  have h5 : Chg F w4 w5 := (Chg.refl F w4).trans hc5 (fun j _ h => by have h2 : j = g := h; rw [h2]; exact hF.1)
  have hcc : Chg F w1 w5 := ((((Chg.refl F w1).trans hc2 (fun _ _ h => h.elim)).trans h3 (fun _ _ h => h)).trans h4 (fun _ _ h => h)).trans h5 (fun _ _ h => h)
  refine ⟨⟨bs, bn, v9, ⟨hb, hs3.chg hc5 (fun e => hsg e), hm.chg hc5 (fun e => hmg e), ?_, hD.ne, hD.n0, hD.n1, ?_, ?_, ?_⟩, .inl hF.1, .inl hF.2.1, .inl hF.2.2.1, ?_⟩, hcc⟩
  · simp only [Dk.wrote, List.length_append, List.length_cons, List.length_nil, List.flatMap_append, List.flatMap_cons, List.flatMap_nil, List.append_nil]
    exact ho5
  · intro p hp
    rcases List.mem_append.1 hp with hp | hp
    · exact hD.rng p hp
    · rw [List.mem_singleton.1 hp]; exact ⟨hi.1, hi.2, hl⟩
  · show -1 ≤ (if 0 < fuse then fuse - 1 else fuse)
    split <;> omega
  · show (if 0 < fuse then fuse - 1 else fuse) ≤ 9223372036854775807
    split <;> omega
  · intro j e
    rcases hv with hv | hv
    · rw [hv] at e; exact .inl (hF.2.2.2 j e)
    · exact .inr ⟨Nat.le_trans hc2.size (hv j e), (ho5.lt j e).2⟩
set_option maxRecDepth 100000 in
set_option maxHeartbeats 8000000 in
theorem write_any (F : Nat → Prop) (g : Nat) (K : Dk) (i : Int) (A : Option Addr) (nn c : Nat) (l : List UInt8) (B : Nat) (w : World) (hD : Disk w F g K) (hn : l.length = nn) (hr : RB w B A l) (hsp : ∀ ad, A = some ad → ad.spot = none) (HK : K.loose.length ≤ 100000) :
    Calls Try.prog 17 #[.pointer (some ⟨g, 0, none⟩), .int .i64 i, .slice A nn c] w (WPost w F g K i l) := by
  have HD := Lib.hid hD
  obtain ⟨bs, bn, v, hd, f1, f2, f3, f4⟩ := hD
  have hb := hd.blk
  have hn0 : 0 < K.n := hd.n0
  have HN1 := Lib.hid hd.n1
  have HFU := Lib.hid (show -1 ≤ K.fuse ∧ K.fuse ≤ 9223372036854775807 from ⟨hd.fuse0, hd.fuse1⟩)
  have HDB := Lib.hid hd
  have HF := Lib.hid (show F g ∧ F bs ∧ F bn ∧ ∀ i, v.ownBlock = some i → F i from ⟨f1, f2, f3, f4⟩)
  have HR := Lib.hid (show RB w B A l ∧ (∀ ad, A = some ad → ad.spot = none) from ⟨hr, hsp⟩)
  have HL := Lib.hid hn
  have HKK := Lib.hid HK
  obtain ⟨n, sure, loose, now, fuse, dark⟩ := K
  have c0 := hb.cell 0
  have c5 := hb.cell 5
  have HB := Lib.hid hb
  simp only [dkC] at c0 c5
  clear hb hd f1 f2 f3 f4 hr hsp hn HK
  have hn0 : 0 < n := hn0
  go_enter Try.func17, Try.ntmps17
  go_wp2_with fail
  refine (made_ptr HB.out true (by simpa using hn0)).mono ?_
  rintro e w1 ⟨rfl, rfl⟩
  clear hn0
  by_cases hbad : wBad ⟨n, sure, loose, now, fuse, dark⟩ i l
  · have hE : writeE ⟨n, sure, loose, now, fuse, dark⟩ i l = 2 := if_pos hbad
    have hW : Dk.write ⟨n, sure, loose, now, fuse, dark⟩ i l = ⟨n, sure, loose, now, fuse, dark⟩ := if_pos (.inl hbad)
    have HX := Lib.hid (show Disk w1 (FN F w1 w1) g (Dk.write ⟨n, sure, loose, now, fuse, dark⟩ i l) from by rw [hW]; exact HD.out.toFN)
    have HE := Lib.hid hE
    clear hE hW
    rcases (show i < 0 ∨ (0 ≤ i ∧ n ≤ i) ∨ (0 ≤ i ∧ i < n ∧ nn ≠ 512) from by have h1 := HL.out; unfold wBad at hbad; simp only at hbad; omega) with hi | hi | hi
    · clear hbad
      go_wp2_with fail
      go_ret
      exact ⟨by rw [HE.out]; rfl, HX.out, Chg.refl _ _⟩
    · clear hbad
      go_wp2_with fail
      go_ret
      exact ⟨by rw [HE.out]; rfl, HX.out, Chg.refl _ _⟩
    · clear hbad
      have hq : ((nn : Int) != 512) = true := by simp; omega
      go_wp2_with fail
      all_goals first | (exfalso; rename_i hz _; simp [hq] at hz; done) | skip
      go_ret
      exact ⟨by rw [HE.out]; rfl, HX.out, Chg.refl _ _⟩
  · have hi : 0 ≤ i ∧ i < n ∧ nn = 512 := by have h1 := HL.out; unfold wBad at hbad; simp only at hbad; omega
    obtain ⟨h0, h1, rfl⟩ := hi
    cases dark
    rotate_left
    · have HE := Lib.hid (show writeE ⟨n, sure, loose, now, fuse, true⟩ i l = 6 from by unfold writeE; rw [if_neg hbad, if_pos rfl])
      have HX := Lib.hid (show Disk w1 (FN F w1 w1) g (Dk.write ⟨n, sure, loose, now, fuse, true⟩ i l) from by rw [show Dk.write ⟨n, sure, loose, now, fuse, true⟩ i l = _ from if_pos (.inr rfl)]; exact HD.out.toFN)
      clear hbad
      go_wp2_with fail
      go_ret
      exact ⟨by rw [HE.out]; rfl, HX.out, Chg.refl _ _⟩
    have HW := Lib.hid (show Dk.write ⟨n, sure, loose, now, fuse, false⟩ i l = Dk.wrote ⟨n, sure, loose, now, fuse, false⟩ i l from if_neg (fun h => by rcases h with h | h; exact hbad h; cases h))
    have HE := Lib.hid (show writeE ⟨n, sure, loose, now, fuse, false⟩ i l = if fuse = 0 then 6 else 0 from by unfold writeE; rw [if_neg hbad, if_neg (by simp)])
    clear hbad
    obtain ⟨ad, rfl⟩ := HR.out.1.addr (by rw [HL.out]; decide)
    obtain ⟨ga, oa, sp⟩ := ad
    obtain rfl : sp = none := HR.out.2 _ rfl
    have HRG := Lib.hid (show w1.rangeAt ga oa (l.map bv) from fun j u hu => by
      have hj : j < l.length := by have := (List.getElem?_eq_some_iff.1 hu).1; simpa using this
      obtain ⟨ad2, e2, _, hc2⟩ := HR.out.1.at_ hj
      injection e2 with e2
      subst e2
      rw [Addr.add_mid] at hc2
      rw [hc2, ← hu]; simp [bv, hj])
    have ka := run_arrayAt
    have q0 : decide (i < 0) = false := by simp; omega
    have q1 : decide (n ≤ i) = false := by simp; omega
    go_upto_region 7 with (fail)
    go_upto_region 8 with (first
      | (refine wpList_load_mid rfl 84 _ rfl ga oa rfl (l.map bv) _ HRG.out Try.underlying84 rfl (by rw [List.length_map, HL.out]; exact blk_size) ?_)
      | (refine wpList_alloc_blk _ rfl rfl ?_)
      | (refine wpList_store_blk rfl 84 _ _ rfl w1.heap.size (blkC l) rfl rfl 84 _ (Blk.new w1 _ _) (by rw [blkC_size, blkC_size, HL.out, zeros_len]) (blk_infoS HL.out) (blk_one _) ?_)
      | fail)
    obtain ⟨w2, hw2⟩ : ∃ w2, w2 = (w1.alloc (.cells (blkC zeros) 84)).setRow w1.heap.size (blkC l) := ⟨_, rfl⟩
    obtain ⟨x7, hx7⟩ : ∃ x7, x7 = w1.heap.size := ⟨_, rfl⟩
    have hx2 : Blk w2 x7 84 (blkC l) := by rw [hw2, hx7]; exact (Blk.new w1 _ _).row _
    have hc2 : Chg NoB w1 w2 := by rw [hw2]; exact ((Chg.refl NoB w1).alloc _).setRow (.inr (Nat.le_refl _)) _
    rw [← hw2, ← hx7]
    have hD2 := HDB.out.chg hc2 (fun h => h) (fun h => h) (fun h => h) (fun _ _ h => h)
    obtain ⟨k, hk⟩ : ∃ k, k = loose.length := ⟨_, rfl⟩
    obtain ⟨xs, hxs⟩ : ∃ xs, xs = loose.flatMap putL := ⟨_, rfl⟩
    have HKK := Lib.hid (show k ≤ 100000 from by rw [hk]; exact HKK.out)
    have HVL := Lib.hid (show ∀ j, v.ownBlock = some j → j < w2.heap.size from fun j e => (hD2.row.lt j e).2)
    have hb2 : Blk w2 g 48 (dkC n (.map (some bs)) v (.map (some bn)) fuse false) := hD2.blk
    have ho2 : w2.ownsRow 0 86 513 v k xs := by rw [hk, hxs]; exact hD2.row
    have HD2 := Lib.hid hD2
    have HXX := Lib.hid (show k = loose.length ∧ xs = loose.flatMap putL from ⟨hk, hxs⟩)
    have HC2 := Lib.hid hc2
    have HX7 := Lib.hid hx7
    clear hw2 hx7 hc2 hD2 hk hxs c0 c5 ka q0 q1
    go_wp2_with fail
    refine wp_region_cl rfl (by kernel_rfl) (InvW8 g x7 k ga oa c i n fuse l (.map (some bs)) v (.map (some bn)) xs w2) ?_ ?_ ?_
    · exact ⟨0, undef, rfl, fun _ => hb2, (fun h => by cases h), hx2, (fun h => by cases h), (fun h => by cases h), fun _ => ho2, (fun h => by cases h), (Chg.refl _ _).drew⟩
    · clear hb2 ho2 hx2
      intro D a w i o ho hD hcl hpre hI
      obtain ⟨s1, v9, rfl, hb0, hb1, hx, hr, hsn, ho0, ho1, hch⟩ := hI
      have hi : i < 13 := by have := (List.getElem?_eq_some_iff.1 ho).1; simpa using this
      rcases (by omega : i = 0 ∨ i = 1 ∨ i = 2 ∨ i = 3 ∨ i = 4 ∨ i = 5 ∨ i = 6 ∨ i = 7 ∨ i = 8 ∨ i = 9 ∨ i = 10 ∨ i = 11 ∨ i = 12) with rfl | rfl | rfl | rfl | rfl | rfl | rfl | rfl | rfl | rfl | rfl | rfl | rfl
      · obtain rfl := Option.some.inj ho
        clear ho hpre hi hcl
        go_wp2_with fail
        unfold AtEnd
        exact ⟨s1, v9, rfl, fun h => hb0 (by simpa [more] using h), fun h => hb1 (by simpa [more] using h), hx, fun h => hr (by simpa [more] using h), fun h => hsn (by simpa [more] using h), fun h => ho0 (by simpa [more] using h), fun h => ho1 (by simpa [more] using h), hch⟩
      · obtain rfl := Option.some.inj ho
        clear ho hpre hi hcl
        go_wp2_with fail
        unfold AtEnd
        exact ⟨s1, v9, rfl, fun h => hb0 (by simpa [more] using h), fun h => hb1 (by simpa [more] using h), hx, fun h => hr (by simpa [more] using h), fun h => hsn (by simpa [more] using h), fun h => ho0 (by simpa [more] using h), fun h => ho1 (by simpa [more] using h), hch⟩
      · obtain rfl := Option.some.inj ho
        have p1 := hpre ⟨1, .data⟩ (by simp) rfl
        clear ho hpre hi hcl
        go_wp2_with fail
        unfold AtEnd
        exact ⟨s1, v9, by simp only [more, slot_true, slot_false, Nat.reduceEqDiff, ↓reduceIte, p1], fun h => hb0 (by simpa [more] using h), fun h => hb1 (by simpa [more] using h), hx, fun h => hr (by simpa [more] using h), fun h => hsn (by simpa [more] using h), fun h => ho0 (by simpa [more] using h), fun h => ho1 (by simpa [more] using h), hch⟩
      · obtain rfl := Option.some.inj ho
        have p2 := hpre ⟨2, .data⟩ (by simp) rfl
        clear ho hpre hi hcl
        go_wp2_with fail
        unfold AtEnd
        exact ⟨s1, v9, by simp only [more, slot_true, slot_false, Nat.reduceEqDiff, ↓reduceIte, p2], fun h => hb0 (by simpa [more] using h), fun h => hb1 (by simpa [more] using h), hx, fun h => hr (by simpa [more] using h), fun h => hsn (by simpa [more] using h), fun h => ho0 (by simpa [more] using h), fun h => ho1 (by simpa [more] using h), hch⟩
      · obtain rfl := Option.some.inj ho
        have p3 := hpre ⟨3, .data⟩ (by simp) rfl
        have d12 : D 12 = false := (hcl.not_ 12 _ rfl 7 _ rfl rfl hD)
        clear ho hpre hi hcl
        have c2 := (hb0 d12).cell 2
        simp only [dkC] at c2
        go_wp2_with fail
        unfold AtEnd
        exact ⟨s1, v9, by simp only [more, slot_true, slot_false, Nat.reduceEqDiff, ↓reduceIte, p3, d12], fun h => hb0 (by simpa [more] using h), fun h => hb1 (by simpa [more] using h), hx, fun h => hr (by simpa [more] using h), fun h => hsn (by simpa [more] using h), fun h => ho0 (by simpa [more] using h), fun h => ho1 (by simpa [more] using h), hch⟩
      · obtain rfl := Option.some.inj ho
        clear ho hpre hi hcl
        go_wp2_with fail
        unfold AtEnd
        exact ⟨s1, v9, rfl, fun h => hb0 (by simpa [more] using h), fun h => hb1 (by simpa [more] using h), hx, fun h => hr (by simpa [more] using h), fun h => hsn (by simpa [more] using h), fun h => ho0 (by simpa [more] using h), fun h => ho1 (by simpa [more] using h), hch⟩
      · obtain rfl := Option.some.inj ho
        clear ho hpre hi hcl
        go_wp2_with (refine wpList_load_mid rfl 84 _ rfl x7 0 rfl (l.map bv) _ (blk_mid hx) Try.underlying84 rfl (by rw [List.length_map, HL.out]; exact blk_size) ?_)
        unfold AtEnd
        exact ⟨s1, v9, rfl, fun h => hb0 (by simpa [more] using h), fun h => hb1 (by simpa [more] using h), hx, fun h => hr (by simpa [more] using h), fun h => hsn (by simpa [more] using h), fun h => ho0 (by simpa [more] using h), fun h => ho1 (by simpa [more] using h), hch⟩
      · obtain rfl := Option.some.inj ho
        have p5 := hpre ⟨5, .data⟩ (by simp) rfl
        have p6 := hpre ⟨6, .data⟩ (by simp) rfl
        clear ho hpre hi hcl
        simp only [p5, p6, slot_true]
        go_wp2_with (refine wpList_build_put _ rfl _ _ rfl i l rfl rfl HL.out ?_)
        unfold AtEnd
        exact ⟨s1, v9, by simp only [more, slot_true, slot_false, Nat.reduceEqDiff, ↓reduceIte, p5, p6], fun h => hb0 (by simpa [more] using h), fun h => hb1 (by simpa [more] using h), hx, fun h => hr (by simpa [more] using h), fun h => hsn (by simpa [more] using h), fun h => ho0 (by simpa [more] using h), fun h => ho1 (by simpa [more] using h), hch⟩
      · obtain rfl := Option.some.inj ho
        have p7 := hpre ⟨7, .data⟩ (by simp) rfl
        have d9 : D 9 = false := (hcl.not_ 9 _ rfl 1 _ rfl rfl hD)
        have d12 : D 12 = false := (hcl.not_ 12 _ rfl 11 _ rfl rfl hD)
        clear ho hpre hi hcl
        have hc1 : Chg NoB w (w.alloc (.cells (putC i l) 86)) := (Chg.refl _ _).alloc _
        have hn1 := Blk.new w 86 (putC i l)
        simp only [p7, slot_true]
        go_wp2_with (refine wpList_row_put _ rfl _ rfl i l rfl HL.out ?_)
        unfold AtEnd
        exact ⟨w.heap.size, v9, by simp only [more, slot_true, slot_false, Nat.reduceEqDiff, ↓reduceIte, p7, d9, d12], fun _ => (hb0 d12).chg hc1 (fun h => h), fun h => by simp [more, d12] at h, hx.chg hc1 (fun h => h), fun _ => hn1, fun _ => hch.size, fun _ => ownsRow_chg (ho0 d9) hc1 (fun _ _ h => h), fun h => by simp [more, d9] at h, hch.trans hc1 (fun _ _ h => h.elim)⟩
      · obtain rfl := Option.some.inj ho
        have p4 := hpre ⟨4, .data⟩ (by simp) rfl
        have p8 := hpre ⟨8, .data⟩ (by simp) rfl
        have d12 : D 12 = false := (hcl.not_ 12 _ rfl 1 _ rfl rfl hD)
        clear ho hpre hi hcl
        have hb := hb0 d12
        have hrr := hr p8
        have hsz := hsn p8
        have hoo := ho0 hD
        clear hb0 hb1 hr hsn ho0 ho1
        simp only [p4, p8, slot_true]
        go_wp2_with (at_builtin; refine wpList_append_put _ rfl _ _ rfl v k xs rfl hoo s1 i l rfl hrr HL.out HKK.out ?_; intro u9 w9 ho9 hg9 hv9)
        have hc9 : Chg (fun j => v.ownBlock = some j) w w9 := (Chg.refl _ _).grown hg9 (fun j e => .inl e)
        unfold AtEnd
        exact ⟨s1, u9, by simp only [more, slot_true, slot_false, Nat.reduceEqDiff, ↓reduceIte, p4, p8, d12], fun _ => hb.chg hc9 (fun e => own_ne hoo hb (by decide) e), fun h => by simp [more, d12] at h, hx.chg hc9 (fun e => own_ne hoo hx (by decide) e), fun _ => hrr.chg hc9 (fun e => by have := HVL.out s1 e; omega), fun _ => hsz, fun h => by simp [more] at h, fun _ => ⟨ho9, hv9.imp id (fun e j hj => by rw [e] at hj; injection hj with hj; have := hch.size; omega)⟩, hch.trans hc9 (fun j _ e => .inr e)⟩
      · obtain rfl := Option.some.inj ho
        have p0 := hpre ⟨0, .data⟩ (by simp) rfl
        clear ho hpre hi hcl
        go_wp2_with fail
        unfold AtEnd
        exact ⟨s1, v9, by simp only [more, slot_true, slot_false, Nat.reduceEqDiff, ↓reduceIte, p0], fun h => hb0 (by simpa [more] using h), fun h => hb1 (by simpa [more] using h), hx, fun h => hr (by simpa [more] using h), fun h => hsn (by simpa [more] using h), fun h => ho0 (by simpa [more] using h), fun h => ho1 (by simpa [more] using h), hch⟩
      · obtain rfl := Option.some.inj ho
        have p10 := hpre ⟨10, .data⟩ (by simp) rfl
        clear ho hpre hi hcl
        go_wp2_with fail
        unfold AtEnd
        exact ⟨s1, v9, by simp only [more, slot_true, slot_false, Nat.reduceEqDiff, ↓reduceIte, p10], fun h => hb0 (by simpa [more] using h), fun h => hb1 (by simpa [more] using h), hx, fun h => hr (by simpa [more] using h), fun h => hsn (by simpa [more] using h), fun h => ho0 (by simpa [more] using h), fun h => ho1 (by simpa [more] using h), hch⟩
      · obtain rfl := Option.some.inj ho
        have p11 := hpre ⟨11, .data⟩ (by simp) rfl
        have p9 := hpre ⟨9, .data⟩ (by simp) rfl
        clear ho hpre hi hcl
        obtain ⟨A9, d9, rfl⟩ := own_slice (ho1 p9).1
        have hb := hb0 hD
        have c2 := hb.cell 2
        have fr2 := hb.frozen 2
        simp only [dkC] at c2
        have hc12 : Chg (fun j => j = g) w (w.setCell ⟨g, 2, none⟩ (.slice A9 (k + 1) d9)) := Chg.setCell (S := fun j => j = g) (p := ⟨g, 2, none⟩) (Chg.refl _ _) (.inl rfl) _
        simp only [p9, p11, slot_true]
        go_wp2_with fail
        unfold AtEnd
        exact ⟨s1, .slice A9 (k + 1) d9, by simp only [more, slot_true, slot_false, Nat.reduceEqDiff, ↓reduceIte, p11, p9], fun h => by simp [more] at h, fun _ => hb.set_ 2 _, hx.chg hc12 (fun e => hx.ne_ hb (by decide) e), fun h => (hr (by simpa [more] using h)).chg hc12 (fun e => (hr (by simpa [more] using h)).ne_ hb (by decide) e), fun h => hsn (by simpa [more] using h), fun h => by simp [more, p9] at h, fun _ => ⟨ownsRow_chg (ho1 p9).1 hc12 (fun j e h => own_ne (ho1 p9).1 hb (by decide) (h ▸ e)), (ho1 p9).2⟩, hch.trans hc12 (fun j _ e => .inl e)⟩
    · intro D a w hall hI
      obtain ⟨s1, v9, rfl, hb0, hb1, hx, hr, hsn, ho0, ho1, hch⟩ := hI
      have b12 := hb1 (hall 12 (by decide))
      have o9 := ho1 (hall 9 (by decide))
      have e0 := hall 0 (by decide)
      have e1 := hall 1 (by decide)
      have e2 := hall 2 (by decide)
      have e3 := hall 3 (by decide)
      have e4 := hall 4 (by decide)
      have e5 := hall 5 (by decide)
      have e6 := hall 6 (by decide)
      have e7 := hall 7 (by decide)
      have e8 := hall 8 (by decide)
      have e9 := hall 9 (by decide)
      have e10 := hall 10 (by decide)
      have e11 := hall 11 (by decide)
      rw [e0, e1, e2, e3, e4, e5, e6, e7, e8, e9, e10, e11]
      simp only [slot_true]
      clear hall e0 e1 e2 e3 e4 e5 e6 e7 e8 e9 e10 e11 hb0 hb1 hr hsn ho0 ho1
      obtain ⟨w3, hw3⟩ : ∃ w3, w3 = w := ⟨_, rfl⟩
      subst hw3
      have hs3 : SMap w3 bs sure := HD2.out.sure.chg hch (fun h => h.elim (fun e => HD2.out.sure.blk_ne HD2.out.blk e) (fun e => map_own_ne HD2.out.row HD2.out.sure e))
      have hm3 : SMap w3 bn now := HD2.out.now.chg hch (fun h => h.elim (fun e => HD2.out.now.blk_ne HD2.out.blk e) (fun e => map_own_ne HD2.out.row HD2.out.now e))
      have HS3 := Lib.hid hs3
      have HO9 := Lib.hid o9
      have HCH := Lib.hid hch
      have HR0 := Lib.hid (show 0 ≤ i ∧ i < 8192 from ⟨h0, by have := HN1.out; omega⟩)
      clear hs3 o9 hch
      go_wp2_with fail
      refine wp_region_cl rfl (by kernel_rfl) (InvW9 g x7 bn s1 ga oa c i n fuse l (.map (some bs)) v v9 now w3) ?_ ?_ ?_
      · exact ⟨undef, rfl, b12, hx, fun _ => hm3, (fun h => by cases h), (Chg.refl _ _).drew⟩
      · clear b12 hx hm3
        intro D a w i o ho hD hcl hpre hI
        obtain ⟨u6, rfl, hb, hx, hm0, hm1, hch⟩ := hI
        have hi : i < 7 := by have := (List.getElem?_eq_some_iff.1 ho).1; simpa using this
        rcases (by omega : i = 0 ∨ i = 1 ∨ i = 2 ∨ i = 3 ∨ i = 4 ∨ i = 5 ∨ i = 6) with rfl | rfl | rfl | rfl | rfl | rfl | rfl
        · obtain rfl := Option.some.inj ho
          clear ho hpre hi hcl
          go_wp2_with fail
          unfold AtEnd
          exact ⟨u6, rfl, hb, hx, fun h => hm0 (by simpa [more] using h), fun h => hm1 (by simpa [more] using h), hch⟩
        · obtain rfl := Option.some.inj ho
          have p0 := hpre ⟨0, .data⟩ (by simp) rfl
          clear ho hpre hi hcl
          go_wp2_with fail
          unfold AtEnd
          exact ⟨u6, by simp only [more, slot_true, slot_false, Nat.reduceEqDiff, ↓reduceIte, p0], hb, hx, fun h => hm0 (by simpa [more] using h), fun h => hm1 (by simpa [more] using h), hch⟩
        · obtain rfl := Option.some.inj ho
          have p1 := hpre ⟨1, .data⟩ (by simp) rfl
          clear ho hpre hi hcl
          go_wp2_with fail
          unfold AtEnd
          exact ⟨u6, by simp only [more, slot_true, slot_false, Nat.reduceEqDiff, ↓reduceIte, p1], hb, hx, fun h => hm0 (by simpa [more] using h), fun h => hm1 (by simpa [more] using h), hch⟩
        · obtain rfl := Option.some.inj ho
          have p2 := hpre ⟨2, .data⟩ (by simp) rfl
          clear ho hpre hi hcl
          have c3 := hb.cell 3
          simp only [dkC] at c3
          go_wp2_with fail
          unfold AtEnd
          exact ⟨u6, by simp only [more, slot_true, slot_false, Nat.reduceEqDiff, ↓reduceIte, p2], hb, hx, fun h => hm0 (by simpa [more] using h), fun h => hm1 (by simpa [more] using h), hch⟩
        · obtain rfl := Option.some.inj ho
          clear ho hpre hi hcl
          go_wp2_with fail
          unfold AtEnd
          exact ⟨u6, rfl, hb, hx, fun h => hm0 (by simpa [more] using h), fun h => hm1 (by simpa [more] using h), hch⟩
        · obtain rfl := Option.some.inj ho
          clear ho hpre hi hcl
          go_wp2_with (refine wpList_load_mid rfl 84 _ rfl x7 0 rfl (l.map bv) _ (blk_mid hx) Try.underlying84 rfl (by rw [List.length_map, HL.out]; exact blk_size) ?_)
          unfold AtEnd
          exact ⟨u6, rfl, hb, hx, fun h => hm0 (by simpa [more] using h), fun h => hm1 (by simpa [more] using h), hch⟩
        · obtain rfl := Option.some.inj ho
          have p3 := hpre ⟨3, .data⟩ (by simp) rfl
          have p4 := hpre ⟨4, .data⟩ (by simp) rfl
          have p5 := hpre ⟨5, .data⟩ (by simp) rfl
          clear ho hpre hi hcl
          have hm := hm0 hD
          have hn2 : bn ≠ g := hm.blk_ne hb
          have hn3 : bn ≠ x7 := hm.blk_ne hx
          clear hm0 hm1
          simp only [p3, p4, p5, slot_true]
          go_wp2_with fail
          refine (set_any bn now i l _ hm HR0.out.1 HR0.out.2 HL.out).mono ?_
          rintro e w6 ⟨⟨u7, rfl⟩, hm6, hc6⟩
          go_wp2_with fail
          unfold AtEnd
          exact ⟨u7, by simp only [more, slot_true, slot_false, Nat.reduceEqDiff, ↓reduceIte, p3, p4, p5], hb.chg hc6 (fun e => hn2 e.symm), hx.chg hc6 (fun e => hn3 e.symm), fun h => by simp [more] at h, fun _ => hm6, hch.trans hc6 (fun _ _ h => h)⟩
      · intro D a w hall hI
        obtain ⟨u6, rfl, hb, hx, hm0, hm1, hch⟩ := hI
        have hm4 := hm1 (hall 6 (by decide))
        have e0 := hall 0 (by decide)
        have e1 := hall 1 (by decide)
        have e2 := hall 2 (by decide)
        have e3 := hall 3 (by decide)
        have e4 := hall 4 (by decide)
        have e5 := hall 5 (by decide)
        have e6 := hall 6 (by decide)
        rw [e0, e1, e2, e3, e4, e5, e6]
        simp only [slot_true]
        clear hall e0 e1 e2 e3 e4 e5 e6 hm0 hm1 hx
        obtain ⟨w4, hw4⟩ : ∃ w4, w4 = w := ⟨_, rfl⟩
        subst hw4
        have HB4 := Lib.hid hb
        have HM4 := Lib.hid hm4
        have HC4 := Lib.hid hch
        clear hb hm4 hch
        go_wp2_with fail
        refine (spend_any HB4.out HFU.out).mono ?_
        rintro e w5 ⟨rfl, hb5, hc5⟩
        have HX5 := Lib.hid (wrote_disk HD2.out HC2.out HCH.out HC4.out hc5 HS3.out HM4.out HB4.out hb5 (by rw [← HXX.out.1, ← HXX.out.2]; exact HO9.out.1) HO9.out.2 HF.out HR0.out HL.out HFU.out)
        clear hb5 hc5
        by_cases hfz : fuse = 0
        · have hq : (fuse == 0) = true := by simpa using hfz
          have HE6 := Lib.hid (HE.out.trans (if_pos hfz))
          clear hfz
          rw [hq]
          go_wp2_with fail
          go_ret
          exact ⟨by rw [HE6.out]; rfl, by rw [HW.out]; exact HX5.out.1, HX5.out.2⟩
        · have hq : (fuse == 0) = false := by simpa using hfz
          have HE6 := Lib.hid (HE.out.trans (if_neg hfz))
          clear hfz
          rw [hq]
          go_wp2_with fail
          go_ret
          exact ⟨by rw [HE6.out]; rfl, by rw [HW.out]; exact HX5.out.1, HX5.out.2⟩
end Go.Proofs.Ytlhfhhbafhnbkaa
