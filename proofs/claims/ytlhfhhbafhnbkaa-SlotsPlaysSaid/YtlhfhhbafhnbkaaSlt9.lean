/-
  SLOTS: Commit.
-/
import Derived.Test.YtlhfhhbafhnbkaaSlt8
namespace Go.Proofs.Ytlhfhhbafhnbkaa
open Go.RowKit FieldM CrcM
set_option linter.unusedSimpArgs false
set_option linter.unusedVariables false
/-- bytes as a sector: the first 512, or padded with zeros -/
def padL (m : List UInt8) : List UInt8 := m.take 512 ++ zeros.drop (Nat.min m.length 512)
theorem padL_len (m : List UInt8) : (padL m).length = 512 := by
  unfold padL
  rw [List.length_append, List.length_take, List.length_drop, zeros_len]
  have : Nat.min m.length 512 = min 512 m.length := Nat.min_comm _ _
  rw [this]; omega
def pieceOps (from_ : Int) (b : List UInt8) (q : Nat) : List Op1 := (List.range q).map fun (i : Nat) => Op1.wr (from_ + (i : Int)) (padL (b.drop (512 * i)))
theorem pieceOps_succ (from_ : Int) (b : List UInt8) (q : Nat) : pieceOps from_ b (q + 1) = pieceOps from_ b q ++ [Op1.wr (from_ + (q : Int)) (padL (b.drop (512 * q)))] := by
  unfold pieceOps; rw [List.range_succ]; simp
theorem pieceOps_len (from_ : Int) (b : List UInt8) (q : Nat) : (pieceOps from_ b q).length = q := by simp [pieceOps]
def cntOf (n : Nat) : Nat := (n + 511) / 512
noncomputable def nextFrom (K : Dk) : Int := 1 + ((1 - ldH K 1 : Nat) : Int) * halfZ K.n
noncomputable def commitOps (K : Dk) (b : List UInt8) : List Op1 :=
  pieceOps (nextFrom K) b (cntOf b.length) ++ [.sync, .wr 0 (hdr (ldH K 0 + 1) (1 - ldH K 1) b.length (crcN b)), .sync]
/-- what Commit does -/
noncomputable def commitK (K : Dk) (b : List UInt8) : Dk × Int :=
  if ldE K ≠ 0 then (K, ldE K) else if ldH K 0 = 4294967295 then (K, 3) else if roomZ K.n < (b.length : Int) then (K, 7) else runOps K (commitOps K b)
theorem wpList_append_one (w : World) {P : Program} {ops : Array Oper} {rest : List Oper} {o : Oper} {a : Act} {Q : Exit → Act → World → Prop} (hg : o.guard = none) (s x : Operand) (T E : TypeId)
    (hop : o.op = .call { callee := .builtin .append, args := #[s, x], argTypes := #[T, T] }) (hT : P.underlying T = some (.slice E)) (it : TypeInfo) (z : Value) (bytes base : Nat) (hit : P.info? E = some it) (hz : it.zero = some z) (hs1 : it.size = 1) (hs2 : it.bytes = bytes) (hzz : z.cells.size = 1)
    (v : Value) (k : Nat) (xs : List Value) (hs : a.eval s = v) (hown : w.ownsRow base E 1 v k xs) (b : Nat) (u : Value) (hx : a.eval x = .slice (some ⟨b, 0, none⟩) 1 1) (hb : Blk w b E #[u]) (hu : u.oneCell' = true) (hk : (k + 1) * bytes ≤ 140737488355328) (hk1 : k + 1 ≤ maxLen) (hbase : base ≤ w.heap.size)
    (hK : ∀ v' w', w'.ownsRow base E 1 v' (k + 1) (xs ++ [u]) → w.grownBy w' v.ownBlock → (v'.ownBlock = v.ownBlock ∨ v'.ownBlock = some w.heap.size) → wpList P ops Q rest (a.put o.dst v') w') : wpList P ops Q (o :: rest) a w := by
  have hrd : Reads w (b + 1) 1 (some ⟨b, 0, none⟩) 1 [u] := ⟨rfl, fun _ => ⟨_, rfl, by simp, fun j w0 hw => by
    have ha : (⟨b, 0, none⟩ : Addr).add j = ⟨b, j, none⟩ := by unfold Addr.add; split <;> simp_all
    rw [ha, hb.cell j, ← hw]; simp⟩⟩
  obtain ⟨v', w', hrun, h2, h3, h4⟩ := run_append_any (P := P) w base T o.type E it z 1 bytes hT hit hz hs1 hs2 hzz (by decide) v k xs hown (b + 1) (some ⟨b, 0, none⟩) 1 1 [u] hrd (fun y hy => by simp at hy; subst hy; exact hu) hk1 hk hbase
  refine wpList_plain hg fun K hK' => ?_
  unfold Oper.wp execOp
  simp only [hop, resolve, invoke, builtin, Sem.run_bind, Sem.run_pure, Result.andThen_ok, List.map_toArray, List.map_cons, List.map_nil, hs, hx, hrun]
  exact hK' _ _ (hK v' w' h2 h3 h4)
theorem wpList_append_gen (w : World) {P : Program} {ops : Array Oper} {rest : List Oper} {o : Oper} {a : Act} {Q : Exit → Act → World → Prop} (hg : o.guard = none) (s x : Operand) (T E : TypeId)
    (hop : o.op = .call { callee := .builtin .append, args := #[s, x], argTypes := #[T, T] }) (hT : P.underlying T = some (.slice E)) (it : TypeInfo) (z : Value) (size bytes base : Nat) (hit : P.info? E = some it) (hz : it.zero = some z) (hs1 : it.size = size) (hs2 : it.bytes = bytes) (hzz : z.cells.size = size) (hsz : 0 < size)
    (v : Value) (k : Nat) (xs : List Value) (hs : a.eval s = v) (hown : w.ownsRow base E size v k xs) (B : Nat) (A : Option Addr) (m c : Nat) (news : List Value) (hx : a.eval x = .slice A m c) (hr : Reads w B size A m news) (hu : ∀ u ∈ news, u.oneCell' = true) (hk : (k + m) * bytes ≤ 140737488355328) (hk1 : k + m ≤ maxLen) (hbase : base ≤ w.heap.size)
    (hK : ∀ v' w', w'.ownsRow base E size v' (k + m) (xs ++ news) → w.grownBy w' v.ownBlock → (v'.ownBlock = v.ownBlock ∨ v'.ownBlock = some w.heap.size) → wpList P ops Q rest (a.put o.dst v') w') : wpList P ops Q (o :: rest) a w := by
  obtain ⟨v', w', hrun, h2, h3, h4⟩ := run_append_any (P := P) w base T o.type E it z size bytes hT hit hz hs1 hs2 hzz hsz v k xs hown B A m c news hr hu hk1 hk hbase
  refine wpList_plain hg fun K hK' => ?_
  unfold Oper.wp execOp
  simp only [hop, resolve, invoke, builtin, Sem.run_bind, Sem.run_pure, Result.andThen_ok, List.map_toArray, List.map_cons, List.map_nil, hs, hx, hrun]
  exact hK' _ _ (hK v' w' h2 h3 h4)
theorem reads_blk3 {w : World} {b : Nat} {t : TypeId} {x y z : Value} (hb : Blk w b t #[x, y, z]) : Reads w (b + 1) 1 (some ⟨b, 0, none⟩) 3 [x, y, z] := ⟨rfl, fun _ => ⟨_, rfl, by simp, fun j w0 hw => by
    have ha : (⟨b, 0, none⟩ : Addr).add j = ⟨b, j, none⟩ := by unfold Addr.add; split <;> simp_all
    rw [ha, hb.cell j, ← hw]; simp⟩⟩
theorem own_base' {w : World} {base n size : Nat} {t : TypeId} {v : Value} {xs : List Value} (h : w.ownsRow base t size v n xs) : w.ownsRow 0 t size v n xs := by
  refine ⟨h.1, ?_⟩
  rcases h.2 with h2 | ⟨g, cap, cur, hv, _, rest⟩
  · exact .inl h2
  · exact .inr ⟨g, cap, cur, hv, Nat.zero_le _, rest⟩
theorem fun_info : (Try.prog.info? 99).map (fun i => (i.zero, i.size, i.bytes)) = some (some .nilFunc, 1, 8) := by kernel_rfl
theorem fun_full : ∃ i, Try.prog.info? 99 = some i ∧ i.zero = some .nilFunc ∧ i.size = 1 ∧ i.bytes = 8 := by
  have h := fun_info
  cases hi : Try.prog.info? 99 with
  | none => rw [hi] at h; cases h
  | some i => rw [hi] at h; simp at h; exact ⟨i, rfl, h.1, h.2.1, h.2.2⟩
/-- a step's closure stands where a row of closures is turned -/
theorem StepV.row {F : Nat → Prop} {w w' : World} {g : Nat} {v : Value} {o : Op1} {base k : Nat} {vl : Value} {xs : List Value} (h : StepV w F g v o) (ho : w.ownsRow base 99 1 vl k xs) (hg : w.grownBy w' vl.ownBlock) : StepV w' F g v o := by
  cases o with
  | sync => exact h
  | wr i l =>
    rcases h with ⟨bh, bd, a0, a1, a2, a3, e1, e2, e3, e4, hb, hf, hd⟩ | ⟨bd, bi, bs, e1, e2, hd, hi, hfi, hs, hfs⟩
    · exact .inl ⟨bh, bd, a0, a1, a2, a3, e1, e2, e3, e4, hb.grown hg (fun e => own_ne ho hb (by decide) e.symm), hf, hd.1.grown hg (fun e => own_ne ho hd.1 (by decide) e.symm), hd.2⟩
    · exact .inr ⟨bd, bi, bs, e1, e2, ⟨hd.1.grown hg (fun e => own_ne ho hd.1 (by decide) e.symm), hd.2⟩, hi.grown hg (fun e => own_ne ho hi (by decide) e.symm), hfi, hs.grown hg (fun e => own_ne ho hs (by decide) e.symm), hfs⟩
theorem step_last {F : Nat → Prop} {w w' : World} {g base q : Nat} {vl : Value} {vs : List Value} {fr : Int} {l : List UInt8} {a0 a1 n cs b1 b2 : Nat} {ops : List Op1} (ho : w.ownsRow base 99 1 vl q vs) (hg : w.grownBy w' vl.ownBlock)
    (hs : ∀ (j : Nat) (v : Value) (o : Op1), vs[j]? = some v → (pieceOps fr l q)[j]? = some o → StepV w F g v o) (h5 : StepV w F g (.func (.func 63) #[] #[.pointer (some ⟨b1, 0, none⟩), .pointer (some ⟨b2, 0, none⟩)]) (.wr 0 (hdr (a0 + 1) (1 - a1) n cs)))
    (hops : ops = pieceOps fr l q ++ [.sync, .wr 0 (hdr (a0 + 1) (1 - a1) n cs), .sync]) :
    ∀ (j : Nat) (v : Value) (o : Op1), (vs ++ [.func (.func 50) #[.pointer (some ⟨g, 0, none⟩)] #[], .func (.func 63) #[] #[.pointer (some ⟨b1, 0, none⟩), .pointer (some ⟨b2, 0, none⟩)], .func (.func 50) #[.pointer (some ⟨g, 0, none⟩)] #[]])[j]? = some v → ops[j]? = some o → StepV w' F g v o := by
  intro j v o hv hop
  have hvl : vs.length = q := by have := ho.1; omega
  rw [hops] at hop
  by_cases hj : j < q
  · rw [List.getElem?_append_left (by omega)] at hv
    rw [List.getElem?_append_left (by rw [pieceOps_len]; exact hj)] at hop
    exact (hs j v o hv hop).row ho hg
  · rw [List.getElem?_append_right (by omega), hvl] at hv
    rw [List.getElem?_append_right (by rw [pieceOps_len]; omega), pieceOps_len] at hop
    have h3 : j - q = 0 ∨ j - q = 1 ∨ j - q = 2 := by
      have := (List.getElem?_eq_some_iff.1 hv).1
      simp at this; omega
    rcases h3 with h3 | h3 | h3
    all_goals
      rw [h3] at hv hop
      simp only [List.getElem?_cons_zero, List.getElem?_cons_succ, Option.some.injEq] at hv hop
      subst hv hop
    · rfl
    · exact h5.row ho hg
    · rfl
def InvQ8 (g W0 b6 n c a0 a1 a2 a3 cs : Nat) (A : Option Addr) (v5 : Value) (kn rz : Int) (w0 : World) (D : Nat → Bool) (a : Act) (w : World) : Prop :=
  ∃ (s8 : Nat), a = { tmps := #[.pointer (some ⟨g, 0, none⟩), .slice A n c, .pointer (some ⟨W0, 0, none⟩), undef, .int .i64 0, v5, .pointer (some ⟨b6, 0, none⟩), .int .i64 0, (slot (D 12) (.pointer (some ⟨s8, 0, none⟩)) (undef)), undef, undef, undef, undef, undef, .tuple #[v5, .agg #[.int .i64 (a0 : Int), .int .i64 (a1 : Int), .int .i64 (a2 : Int), .int .i64 (a3 : Int)], .int .i64 0], .pointer (some ⟨g, 0, none⟩), .tuple #[v5, .agg #[.int .i64 (a0 : Int), .int .i64 (a1 : Int), .int .i64 (a2 : Int), .int .i64 (a3 : Int)], .int .i64 0], v5, .agg #[.int .i64 (a0 : Int), .int .i64 (a1 : Int), .int .i64 (a2 : Int), .int .i64 (a3 : Int)], .int .i64 0, .bool false, .int .i64 0, .bool false, undef, .bool false, .pointer (some ⟨b6, 0, none⟩), .int .i64 (a0 : Int), .bool false, .bool (decide (rz < (n : Int))), .slice A n c, .int .i64 (n : Int), .pointer (some ⟨g, 0, none⟩), .int .i64 kn, .int .i64 rz, .bool (decide (rz < (n : Int))), (slot (D 0) (.pointer (some ⟨b6, 0, none⟩)) (undef)), (slot (D 1) (.int .i64 (a0 : Int)) (undef)), (slot (D 2) (.int .i64 ((a0 : Int) + 1)) (undef)), (slot (D 3) (.pointer (some ⟨b6, 1, none⟩)) (undef)), (slot (D 4) (.int .i64 (a1 : Int)) (undef)), (slot (D 5) (.int .i64 (1 - (a1 : Int))) (undef)), (slot (D 6) (.slice A n c) (undef)), (slot (D 7) (.int .i64 (n : Int)) (undef)), (slot (D 8) (.slice A n c) (undef)), (slot (D 9) (.int .u32 (cs : Int)) (undef)), (slot (D 10) (.int .i64 (cs : Int)) (undef)), (slot (D 11) (.agg #[.int .i64 ((a0 : Int) + 1), .int .i64 (1 - (a1 : Int)), .int .i64 (n : Int), .int .i64 (cs : Int)]) (undef)), undef, undef, undef, undef, undef, undef, undef, undef, undef, undef, undef, undef, undef, undef, undef, undef, undef, undef, undef, undef, undef, undef, undef, undef, undef, undef, undef, undef, undef, undef, undef, undef, undef, undef, undef, undef, undef], defers := [] } ∧
    (Chg NoB w0 w) ∧
    (D 12 = true → D 13 = false → Blk w s8 89 #[.int .i64 0, .int .i64 0, .int .i64 0, .int .i64 0]) ∧
    (D 13 = true → Blk w s8 89 #[.int .i64 ((a0 : Int) + 1), .int .i64 (1 - (a1 : Int)), .int .i64 (n : Int), .int .i64 (cs : Int)]) ∧
    (D 12 = true → w0.heap.size ≤ s8)
def InvQ10 (g W0 b6 n c a0 a1 a2 a3 cs : Nat) (A : Option Addr) (v5 : Value) (kn rz : Int) (s8 : Nat) (hh fr : Int) (w0 : World) (D : Nat → Bool) (a : Act) (w : World) : Prop :=
  a = { tmps := #[.pointer (some ⟨g, 0, none⟩), .slice A n c, .pointer (some ⟨W0, 0, none⟩), undef, .int .i64 0, v5, .pointer (some ⟨b6, 0, none⟩), .int .i64 0, .pointer (some ⟨s8, 0, none⟩), .slice none 0 0, (slot (D 7) (.int .i64 fr) (undef)), undef, undef, undef, .tuple #[v5, .agg #[.int .i64 (a0 : Int), .int .i64 (a1 : Int), .int .i64 (a2 : Int), .int .i64 (a3 : Int)], .int .i64 0], .pointer (some ⟨g, 0, none⟩), .tuple #[v5, .agg #[.int .i64 (a0 : Int), .int .i64 (a1 : Int), .int .i64 (a2 : Int), .int .i64 (a3 : Int)], .int .i64 0], v5, .agg #[.int .i64 (a0 : Int), .int .i64 (a1 : Int), .int .i64 (a2 : Int), .int .i64 (a3 : Int)], .int .i64 0, .bool false, .int .i64 0, .bool false, undef, .bool false, .pointer (some ⟨b6, 0, none⟩), .int .i64 (a0 : Int), .bool false, .bool (decide (rz < (n : Int))), .slice A n c, .int .i64 (n : Int), .pointer (some ⟨g, 0, none⟩), .int .i64 kn, .int .i64 rz, .bool (decide (rz < (n : Int))), .pointer (some ⟨b6, 0, none⟩), .int .i64 (a0 : Int), .int .i64 ((a0 : Int) + 1), .pointer (some ⟨b6, 1, none⟩), .int .i64 (a1 : Int), .int .i64 (1 - (a1 : Int)), .slice A n c, .int .i64 (n : Int), .slice A n c, .int .u32 (cs : Int), .int .i64 (cs : Int), .agg #[.int .i64 ((a0 : Int) + 1), .int .i64 (1 - (a1 : Int)), .int .i64 (n : Int), .int .i64 (cs : Int)], (slot (D 0) (.pointer (some ⟨s8, 1, none⟩)) (undef)), (slot (D 1) (.int .i64 (1 - (a1 : Int))) (undef)), (slot (D 2) (.pointer (some ⟨g, 0, none⟩)) (undef)), (slot (D 3) (.int .i64 kn) (undef)), (slot (D 4) (.int .i64 hh) (undef)), (slot (D 5) (.int .i64 ((1 - (a1 : Int)) * hh)) (undef)), (slot (D 6) (.int .i64 fr) (undef)), undef, undef, undef, undef, undef, undef, undef, undef, undef, undef, undef, undef, undef, undef, undef, undef, undef, undef, undef, undef, undef, undef, undef, undef, undef, undef, undef, undef, undef, undef], defers := [] } ∧
    (Chg NoB w0 w)
def InvQ15 (g W0 b6 n c a0 a1 a2 a3 cs s8 p s12 q c9 : Nat) (A9 : Option Addr) (ad : Addr) (v5 u13 u58 u59 u60 u61 u62 u63 u64 u65 u66 u67 u68 u69 u70 u71 u72 : Value) (kn rz hh fr : Int) (l : List UInt8) (w0 : World) (D : Nat → Bool) (a : Act) (w : World) : Prop :=
  a = { tmps := #[.pointer (some ⟨g, 0, none⟩), .slice (some ad) n c, .pointer (some ⟨W0, 0, none⟩), undef, .int .i64 0, v5, .pointer (some ⟨b6, 0, none⟩), .int .i64 0, .pointer (some ⟨s8, 0, none⟩), .slice A9 q c9, .int .i64 fr, .int .i64 (p : Int), .pointer (some ⟨s12, 0, none⟩), u13, .tuple #[v5, .agg #[.int .i64 (a0 : Int), .int .i64 (a1 : Int), .int .i64 (a2 : Int), .int .i64 (a3 : Int)], .int .i64 0], .pointer (some ⟨g, 0, none⟩), .tuple #[v5, .agg #[.int .i64 (a0 : Int), .int .i64 (a1 : Int), .int .i64 (a2 : Int), .int .i64 (a3 : Int)], .int .i64 0], v5, .agg #[.int .i64 (a0 : Int), .int .i64 (a1 : Int), .int .i64 (a2 : Int), .int .i64 (a3 : Int)], .int .i64 0, .bool false, .int .i64 0, .bool false, undef, .bool false, .pointer (some ⟨b6, 0, none⟩), .int .i64 (a0 : Int), .bool false, .bool (decide (rz < (n : Int))), .slice (some ad) n c, .int .i64 (n : Int), .pointer (some ⟨g, 0, none⟩), .int .i64 kn, .int .i64 rz, .bool (decide (rz < (n : Int))), .pointer (some ⟨b6, 0, none⟩), .int .i64 (a0 : Int), .int .i64 ((a0 : Int) + 1), .pointer (some ⟨b6, 1, none⟩), .int .i64 (a1 : Int), .int .i64 (1 - (a1 : Int)), .slice (some ad) n c, .int .i64 (n : Int), .slice (some ad) n c, .int .u32 (cs : Int), .int .i64 (cs : Int), .agg #[.int .i64 ((a0 : Int) + 1), .int .i64 (1 - (a1 : Int)), .int .i64 (n : Int), .int .i64 (cs : Int)], .pointer (some ⟨s8, 1, none⟩), .int .i64 (1 - (a1 : Int)), .pointer (some ⟨g, 0, none⟩), .int .i64 kn, .int .i64 hh, .int .i64 ((1 - (a1 : Int)) * hh), .int .i64 fr, .int .i64 (p : Int), .slice (some ad) n c, .int .i64 (n : Int), .bool true, u58, u59, (slot (D 0) (.slice (some ⟨s12, 0, none⟩) 512 512) (u60)), (slot (D 1) (.slice (some ad) n c) (u61)), (slot (D 2) (.int .i64 (p : Int)) (u62)), (slot (D 3) (.slice (some (ad.add p)) (n - p) (c - p)) (u63)), (slot (D 4) (.int .i64 ((Nat.min (n - p) 512 : Nat) : Int)) (u64)), u65, u66, u67, u68, u69, u70, u71, u72, undef, undef, undef, undef, undef, undef, undef, undef, undef, undef, undef], defers := [] } ∧
    (D 4 = false → Chg NoB w0 w) ∧
    (D 4 = true → Chg (fun b => b = s12) w0 w ∧ Blk w s12 83 (blkC (padL (l.drop p))))
def InvQ18 (B g W0 b6 n c a0 a1 a2 a3 cs s8 p q c9 B10 : Nat) (A A9 : Option Addr) (v5 u12 u13 u58 u59 u60 u61 u62 u63 u64 u65 u66 u67 u68 u69 u70 u71 u72 : Value) (kn rz hh fr er : Int) (vs : List Value) (ops : List Op1) (K2 : Dk) (F : Nat → Prop) (W w0 : World) (D : Nat → Bool) (a : Act) (w : World) : Prop :=
  ∃ (b1 : Nat) (b2 : Nat) (s81 : Nat) (A82 : Option Addr) (c82 : Nat), a = { tmps := #[.pointer (some ⟨g, 0, none⟩), .slice A n c, .pointer (some ⟨W0, 0, none⟩), undef, (slot (D 11) (.int .i64 er) (.int .i64 0)), v5, .pointer (some ⟨b6, 0, none⟩), .int .i64 0, .pointer (some ⟨s8, 0, none⟩), .slice A9 q c9, .int .i64 fr, .int .i64 (p : Int), u12, u13, .tuple #[v5, .agg #[.int .i64 (a0 : Int), .int .i64 (a1 : Int), .int .i64 (a2 : Int), .int .i64 (a3 : Int)], .int .i64 0], .pointer (some ⟨g, 0, none⟩), .tuple #[v5, .agg #[.int .i64 (a0 : Int), .int .i64 (a1 : Int), .int .i64 (a2 : Int), .int .i64 (a3 : Int)], .int .i64 0], v5, .agg #[.int .i64 (a0 : Int), .int .i64 (a1 : Int), .int .i64 (a2 : Int), .int .i64 (a3 : Int)], .int .i64 0, .bool false, .int .i64 0, .bool false, undef, .bool false, .pointer (some ⟨b6, 0, none⟩), .int .i64 (a0 : Int), .bool false, .bool (decide (rz < (n : Int))), .slice A n c, .int .i64 (n : Int), .pointer (some ⟨g, 0, none⟩), .int .i64 kn, .int .i64 rz, .bool (decide (rz < (n : Int))), .pointer (some ⟨b6, 0, none⟩), .int .i64 (a0 : Int), .int .i64 ((a0 : Int) + 1), .pointer (some ⟨b6, 1, none⟩), .int .i64 (a1 : Int), .int .i64 (1 - (a1 : Int)), .slice A n c, .int .i64 (n : Int), .slice A n c, .int .u32 (cs : Int), .int .i64 (cs : Int), .agg #[.int .i64 ((a0 : Int) + 1), .int .i64 (1 - (a1 : Int)), .int .i64 (n : Int), .int .i64 (cs : Int)], .pointer (some ⟨s8, 1, none⟩), .int .i64 (1 - (a1 : Int)), .pointer (some ⟨g, 0, none⟩), .int .i64 kn, .int .i64 hh, .int .i64 ((1 - (a1 : Int)) * hh), .int .i64 fr, .int .i64 (p : Int), .slice A n c, .int .i64 (n : Int), .bool false, u58, u59, u60, u61, u62, u63, u64, u65, u66, u67, u68, u69, u70, u71, u72, (slot (D 0) (.slice A9 q c9) (undef)), (slot (D 1) (.pointer (some ⟨g, 0, none⟩)) (undef)), (slot (D 2) (.func (.func 50) #[.pointer (some ⟨g, 0, none⟩)] #[]) (undef)), (slot (D 3) (.pointer (some ⟨g, 0, none⟩)) (undef)), (slot (D 4) (.agg #[.int .i64 ((a0 : Int) + 1), .int .i64 (1 - (a1 : Int)), .int .i64 (n : Int), .int .i64 (cs : Int)]) (undef)), (slot (D 5) (.func (.func 63) #[] #[.pointer (some ⟨b1, 0, none⟩), .pointer (some ⟨b2, 0, none⟩)]) (undef)), (slot (D 6) (.pointer (some ⟨g, 0, none⟩)) (undef)), (slot (D 7) (.func (.func 50) #[.pointer (some ⟨g, 0, none⟩)] #[]) (undef)), (slot (D 8) (.slice (some ⟨s81, 0, none⟩) 3 3) (undef)), (slot (D 9) (.slice A82 (q + 3) c82) (undef)), (slot (D 10) (.int .i64 er) (undef))], defers := [] } ∧
    (D 9 = false → Chg NoB w0 w) ∧
    (D 5 = true → D 9 = false → StepV w F g (.func (.func 63) #[] #[.pointer (some ⟨b1, 0, none⟩), .pointer (some ⟨b2, 0, none⟩)]) (.wr 0 (hdr (a0 + 1) (1 - a1) n cs))) ∧
    (D 8 = true → D 9 = false → Blk w s81 99 #[.func (.func 50) #[.pointer (some ⟨g, 0, none⟩)] #[], .func (.func 63) #[] #[.pointer (some ⟨b1, 0, none⟩), .pointer (some ⟨b2, 0, none⟩)], .func (.func 50) #[.pointer (some ⟨g, 0, none⟩)] #[]]) ∧
    (D 9 = true → D 10 = false → w.ownsRow B10 99 1 (.slice A82 (q + 3) c82) (q + 3) (vs ++ [.func (.func 50) #[.pointer (some ⟨g, 0, none⟩)] #[], .func (.func 63) #[] #[.pointer (some ⟨b1, 0, none⟩), .pointer (some ⟨b2, 0, none⟩)], .func (.func 50) #[.pointer (some ⟨g, 0, none⟩)] #[]]) ∧ (∀ (j : Nat) (v : Value) (o : Op1), (vs ++ [.func (.func 50) #[.pointer (some ⟨g, 0, none⟩)] #[], .func (.func 63) #[] #[.pointer (some ⟨b1, 0, none⟩), .pointer (some ⟨b2, 0, none⟩)], .func (.func 50) #[.pointer (some ⟨g, 0, none⟩)] #[]])[j]? = some v → ops[j]? = some o → StepV w F g v o) ∧ Chg NoB W w) ∧
    (D 10 = true → DPost B W g K2 F w)
set_option maxRecDepth 100000 in
set_option maxHeartbeats 8000000 in
theorem commit_any {B : Nat} {F : Nat → Prop} {g : Nat} {K : Dk} {W : World} (hI : DI B W g K F) (hB : B ≤ W.heap.size) (HK : K.loose.length ≤ 800) (hkn : K.n ≤ 100) (A : Option Addr) (n c : Nat) (l : List UInt8) (hn : l.length = n) (hnb : n ≤ 9223372036854775807) (hc : n ≤ c) (hr : RB W W.heap.size A l) :
    Calls Try.prog 21 #[.pointer (some ⟨g, 0, none⟩), .slice A n c] W fun e w' => e = .returned (.int .i64 (commitK K l).2) ∧ DPost B W g (commitK K l).1 F w' := by
  have hmf : ∀ (fn : Fn) (first cap : Array Value) (w : World), (Instr.makeFunc fn first cap).run Try.prog w = .ok (.func fn first cap) w := fun _ _ _ _ => rfl
  have HI := Lib.hid hI
  have HB := Lib.hid hB
  have HKL := Lib.hid HK
  have HKN := Lib.hid hkn
  have HNN := Lib.hid hn
  have HNB := Lib.hid hnb
  have HR := Lib.hid hr
  have HNC := Lib.hid hc
  have hcA : Chg NoB W (W.alloc (.cells #[.pointer (some ⟨g, 0, none⟩)] 27)) := (Chg.refl _ _).alloc _
  have HCA := Lib.hid hcA
  have HBD := Lib.hid (Blk.new W 27 #[.pointer (some ⟨g, 0, none⟩)])
  clear hI hB HK hkn hn hc hr hcA
  go_enter Try.func21, Try.ntmps21
  go_wp2_with fail
  refine (load_any (HI.out.no HCA.out)).mono ?_
  rintro e w1 ⟨v5, rfl, ho, hv, hc1⟩
  obtain ⟨er, her⟩ : ∃ er, er = ldE K := ⟨_, rfl⟩
  obtain ⟨a0, h0⟩ : ∃ a0 : Nat, a0 = ldH K 0 := ⟨_, rfl⟩
  obtain ⟨a1, h1⟩ : ∃ a1 : Nat, a1 = ldH K 1 := ⟨_, rfl⟩
  obtain ⟨a2, h2⟩ : ∃ a2 : Nat, a2 = ldH K 2 := ⟨_, rfl⟩
  obtain ⟨a3, h3⟩ : ∃ a3 : Nat, a3 = ldH K 3 := ⟨_, rfl⟩
  unfold hdV
  rw [← her, ← h0, ← h1, ← h2, ← h3]
  have HE := Lib.hid (And.intro her (And.intro h0 h1))
  have HC1 := Lib.hid (HCA.out.trans hc1 (fun _ _ h => h))
  have HBD1 := Lib.hid (HBD.out.chg hc1 (fun h => h))
  clear her h0 h1 h2 h3 ho hv hc1
  have hnb6 := Blk.new w1 89 #[.int .i64 0, .int .i64 0, .int .i64 0, .int .i64 0]
  have HN6 := Lib.hid hnb6
  clear hnb6
  go_upto_region 2 with (first
    | (refine wpList_store_blk rfl 89 _ _ rfl w1.heap.size _ rfl rfl 89 _ HN6.out rfl head_size (by simp [Value.oneCell']) ?_)
    | fail)
  have hb6 := HN6.out.row #[.int .i64 (a0 : Int), .int .i64 (a1 : Int), .int .i64 (a2 : Int), .int .i64 (a3 : Int)]
  have hc6 : Chg NoB w1 ((w1.alloc (.cells #[.int .i64 0, .int .i64 0, .int .i64 0, .int .i64 0] 89)).setRow w1.heap.size #[.int .i64 (a0 : Int), .int .i64 (a1 : Int), .int .i64 (a2 : Int), .int .i64 (a3 : Int)]) := ((Chg.refl NoB w1).alloc _).setRow (.inr (Nat.le_refl _)) _
  generalize hw6 : (w1.alloc (.cells #[.int .i64 0, .int .i64 0, .int .i64 0, .int .i64 0] 89)).setRow w1.heap.size #[.int .i64 (a0 : Int), .int .i64 (a1 : Int), .int .i64 (a2 : Int), .int .i64 (a3 : Int)] = w6 at hb6 hc6 ⊢
  have HB6 := Lib.hid hb6
  have HC6 := Lib.hid (HC1.out.trans hc6 (fun _ _ h => h))
  have HBD6 := Lib.hid (HBD1.out.chg hc6 (fun h => h))
  have HI6 := Lib.hid (HI.out.no HC6.out)
  obtain ⟨b6, hb6e⟩ : ∃ b6, b6 = w1.heap.size := ⟨_, rfl⟩
  rw [← hb6e] at HB6 ⊢
  have HB6W := Lib.hid (show W.heap.size < b6 from by rw [hb6e]; exact HBD1.out.lt)
  clear hw6 hb6 hc6 hb6e
  by_cases he : er = 0
  case neg =>
    have HF := Lib.hid (show commitK K l = (K, er) from by unfold commitK; rw [← HE.out.1, if_pos he])
    go_wp2_with fail
    go_ret
    rw [HF.out]
    exact ⟨rfl, F, HI6.out, HC6.out.mono (fun _ _ h => h.elim), fun i hi => .inl hi⟩
  subst he
  have k0 := HB6.out.cell 0
  by_cases hg : a0 = 4294967295
  · have HF := Lib.hid (show commitK K l = (K, 3) from by unfold commitK; rw [← HE.out.1, if_neg (by decide), ← HE.out.2.1, if_pos hg])
    subst hg
    go_wp2_with fail
    go_ret
    rw [HF.out]
    exact ⟨rfl, F, HI6.out, HC6.out.mono (fun _ _ h => h.elim), fun i hi => .inl hi⟩
  have HG := Lib.hid hg
  have hg2 : ((a0 : Int) == 4294967295) = false := by simp; omega
  have hg3 : ¬ ((a0 : Int) = 4294967295) := by omega
  have kd := HBD6.out.cell 0
  go_wp2_with fail
  clear k0 kd
  refine HI6.out.disk.len_.mono ?_
  rintro e w7 ⟨rfl, rfl⟩
  obtain ⟨kn, hkn⟩ : ∃ kn, kn = K.n := ⟨_, rfl⟩
  have HKN2 := Lib.hid hkn
  have HKB := Lib.hid (show 1 ≤ kn ∧ kn ≤ 100 from by rw [hkn]; exact ⟨HI.out.disk.num.1, HKN.out⟩)
  rw [← hkn]
  clear hkn
  go_wp2_with fail
  refine (room_any kn (by have := HKB.out; omega) (by have := HKB.out; omega) _).mono ?_
  rintro e w8 ⟨rfl, rfl⟩
  obtain ⟨rz, hrz⟩ : ∃ rz, rz = roomZ kn := ⟨_, rfl⟩
  have HRZ := Lib.hid hrz
  rw [← hrz]
  clear hrz
  by_cases hlz : rz < (n : Int)
  · have HF := Lib.hid (show commitK K l = (K, 7) from by unfold commitK; rw [← HE.out.1, if_neg (by decide), ← HE.out.2.1, if_neg HG.out, ← HKN2.out, ← HRZ.out, HNN.out, if_pos hlz])
    go_wp2_with fail
    go_ret
    rw [HF.out]
    exact ⟨rfl, F, HI6.out, HC6.out.mono (fun _ _ h => h.elim), fun i hi => .inl hi⟩
  have HF := Lib.hid (show commitK K l = runOps K (commitOps K l) from by unfold commitK; rw [← HE.out.1, if_neg (by decide), ← HE.out.2.1, if_neg HG.out, ← HKN2.out, ← HRZ.out, HNN.out, if_neg hlz])
  have HLZ := Lib.hid (show (n : Int) ≤ rz from by omega)
  have hnz : n ≤ 1048576 := by
    have h2 : rz ≤ 1048576 := by rw [HRZ.out]; unfold roomZ; split <;> omega
    omega
  have HNZ := Lib.hid hnz
  have hgood : ldGood K := by
    have h1 := HE.out.1
    unfold ldE at h1
    by_cases h2 : K.n < 3
    · rw [if_pos h2] at h1; cases h1
    · rw [if_neg h2] at h1
      by_cases h3 : K.dark = true
      · rw [if_pos h3] at h1; cases h1
      · rw [if_neg h3] at h1
        by_cases h4 : ldGood K
        · exact h4
        · rw [if_neg h4] at h1; cases h1
  have hal : a0 < 4294967296 ∧ a1 ≤ 1 := by
    have e0 := HE.out.2.1
    have e1 := HE.out.2.2
    unfold ldH at e0 e1
    rw [if_pos HE.out.1.symm] at e0 e1
    exact ⟨by rw [e0]; exact fld_lt 0, by rw [e1]; exact hgood.2.1⟩
  have HAL := Lib.hid hal
  have HR6 := Lib.hid (RBchg HR.out HC6.out)
  obtain ⟨cs, hcs⟩ : ∃ cs, cs = crcN l := ⟨_, rfl⟩
  have HCS := Lib.hid (show cs = crcN l ∧ cs < 4294967296 from ⟨hcs, by rw [hcs]; exact crcN_lt _⟩)
  obtain ⟨ha0, ha1⟩ := hal
  clear hcs hg hg2 hg3 hlz hgood
  have hlz2 : (n : Int) ≤ rz := HLZ.out
  go_wp2_with fail
  clear hlz2
  refine wp_region_cl rfl (by kernel_rfl) (InvQ8 g W.heap.size b6 n c a0 a1 a2 a3 cs A v5 kn rz w8) ?_ ?_ ?_
  · exact ⟨0, rfl, (Chg.refl _ _).drew, (fun h _ => by cases h), (fun h => by cases h), (fun h => by cases h)⟩
  ·
    intro D a w i o ho hD hcl hpre hI
    obtain ⟨s8, rfl, h0, hs, hs2, hs3⟩ := hI
    have hi : i < 14 := by have := (List.getElem?_eq_some_iff.1 ho).1; simpa using this
    rcases (by omega : i = 0 ∨ i = 1 ∨ i = 2 ∨ i = 3 ∨ i = 4 ∨ i = 5 ∨ i = 6 ∨ i = 7 ∨ i = 8 ∨ i = 9 ∨ i = 10 ∨ i = 11 ∨ i = 12 ∨ i = 13) with rfl | rfl | rfl | rfl | rfl | rfl | rfl | rfl | rfl | rfl | rfl | rfl | rfl | rfl
    · obtain rfl := Option.some.inj ho
      clear ho hpre hi hcl
      go_wp2_with fail
      unfold AtEnd
      exact ⟨s8, rfl, h0, fun h1 h2 => hs (by simpa [more] using h1) (by simpa [more] using h2), fun h => hs2 (by simpa [more] using h), fun h => hs3 (by simpa [more] using h)⟩
    · obtain rfl := Option.some.inj ho
      have z0 := hpre ⟨0, .data⟩ (by simp) rfl
      clear ho hpre hi hcl
      have k0 := (HB6.out.chg h0 (fun h => h)).cell 0
      go_wp2_with fail
      unfold AtEnd
      exact ⟨s8, by simp only [more, slot_true, slot_false, Nat.reduceEqDiff, ↓reduceIte, z0], h0, fun h1 h2 => hs (by simpa [more] using h1) (by simpa [more] using h2), fun h => hs2 (by simpa [more] using h), fun h => hs3 (by simpa [more] using h)⟩
    · obtain rfl := Option.some.inj ho
      have z1 := hpre ⟨1, .data⟩ (by simp) rfl
      clear ho hpre hi hcl
      go_wp2_with fail
      unfold AtEnd
      exact ⟨s8, by simp only [more, slot_true, slot_false, Nat.reduceEqDiff, ↓reduceIte, z1], h0, fun h1 h2 => hs (by simpa [more] using h1) (by simpa [more] using h2), fun h => hs2 (by simpa [more] using h), fun h => hs3 (by simpa [more] using h)⟩
    · obtain rfl := Option.some.inj ho
      clear ho hpre hi hcl
      go_wp2_with fail
      unfold AtEnd
      exact ⟨s8, rfl, h0, fun h1 h2 => hs (by simpa [more] using h1) (by simpa [more] using h2), fun h => hs2 (by simpa [more] using h), fun h => hs3 (by simpa [more] using h)⟩
    · obtain rfl := Option.some.inj ho
      have z3 := hpre ⟨3, .data⟩ (by simp) rfl
      clear ho hpre hi hcl
      have k0 := (HB6.out.chg h0 (fun h => h)).cell 1
      go_wp2_with fail
      unfold AtEnd
      exact ⟨s8, by simp only [more, slot_true, slot_false, Nat.reduceEqDiff, ↓reduceIte, z3], h0, fun h1 h2 => hs (by simpa [more] using h1) (by simpa [more] using h2), fun h => hs2 (by simpa [more] using h), fun h => hs3 (by simpa [more] using h)⟩
    · obtain rfl := Option.some.inj ho
      have z4 := hpre ⟨4, .data⟩ (by simp) rfl
      clear ho hpre hi hcl
      go_wp2_with fail
      unfold AtEnd
      exact ⟨s8, by simp only [more, slot_true, slot_false, Nat.reduceEqDiff, ↓reduceIte, z4], h0, fun h1 h2 => hs (by simpa [more] using h1) (by simpa [more] using h2), fun h => hs2 (by simpa [more] using h), fun h => hs3 (by simpa [more] using h)⟩
    · obtain rfl := Option.some.inj ho
      clear ho hpre hi hcl
      go_wp2_with fail
      unfold AtEnd
      exact ⟨s8, rfl, h0, fun h1 h2 => hs (by simpa [more] using h1) (by simpa [more] using h2), fun h => hs2 (by simpa [more] using h), fun h => hs3 (by simpa [more] using h)⟩
    · obtain rfl := Option.some.inj ho
      have z6 := hpre ⟨6, .data⟩ (by simp) rfl
      clear ho hpre hi hcl
      go_wp2_with fail
      unfold AtEnd
      exact ⟨s8, by simp only [more, slot_true, slot_false, Nat.reduceEqDiff, ↓reduceIte, z6], h0, fun h1 h2 => hs (by simpa [more] using h1) (by simpa [more] using h2), fun h => hs2 (by simpa [more] using h), fun h => hs3 (by simpa [more] using h)⟩
    · obtain rfl := Option.some.inj ho
      clear ho hpre hi hcl
      go_wp2_with fail
      unfold AtEnd
      exact ⟨s8, rfl, h0, fun h1 h2 => hs (by simpa [more] using h1) (by simpa [more] using h2), fun h => hs2 (by simpa [more] using h), fun h => hs3 (by simpa [more] using h)⟩
    · obtain rfl := Option.some.inj ho
      have z8 := hpre ⟨8, .data⟩ (by simp) rfl
      clear ho hpre hi hcl
      have hrb := RBchg HR6.out h0
      have HRW := Lib.hid hrb
      clear hrb
      simp only [z8, slot_true]
      go_wp2_with fail
      refine (sum_any A l n c HNN.out _ _ HRW.out (by have := HNZ.out; omega)).mono ?_
      rintro e w7 ⟨rfl, rfl⟩
      rw [crcN_U, ← HCS.out.1]
      go_wp2_with fail
      unfold AtEnd
      exact ⟨s8, by simp only [more, slot_true, slot_false, Nat.reduceEqDiff, ↓reduceIte, z8], h0, fun h1 h2 => hs (by simpa [more] using h1) (by simpa [more] using h2), fun h => hs2 (by simpa [more] using h), fun h => hs3 (by simpa [more] using h)⟩
    · obtain rfl := Option.some.inj ho
      have z9 := hpre ⟨9, .data⟩ (by simp) rfl
      clear ho hpre hi hcl
      have hcb := HCS.out.2
      go_wp2_with fail
      unfold AtEnd
      exact ⟨s8, by simp only [more, slot_true, slot_false, Nat.reduceEqDiff, ↓reduceIte, z9], h0, fun h1 h2 => hs (by simpa [more] using h1) (by simpa [more] using h2), fun h => hs2 (by simpa [more] using h), fun h => hs3 (by simpa [more] using h)⟩
    · obtain rfl := Option.some.inj ho
      have z2 := hpre ⟨2, .data⟩ (by simp) rfl
      have z5 := hpre ⟨5, .data⟩ (by simp) rfl
      have z7 := hpre ⟨7, .data⟩ (by simp) rfl
      have z10 := hpre ⟨10, .data⟩ (by simp) rfl
      clear ho hpre hi hcl
      go_wp2_with fail
      unfold AtEnd
      exact ⟨s8, by simp only [more, slot_true, slot_false, Nat.reduceEqDiff, ↓reduceIte, z2, z5, z7, z10], h0, fun h1 h2 => hs (by simpa [more] using h1) (by simpa [more] using h2), fun h => hs2 (by simpa [more] using h), fun h => hs3 (by simpa [more] using h)⟩
    · obtain rfl := Option.some.inj ho
      have d13 : D 13 = false := (hcl.not_ 13 _ rfl 0 _ rfl rfl hD)
      clear ho hpre hi hcl
      have hcl : Chg NoB w (w.alloc (.cells #[.int .i64 0, .int .i64 0, .int .i64 0, .int .i64 0] 89)) := (Chg.refl _ _).alloc _
      have hnw := Blk.new w 89 #[.int .i64 0, .int .i64 0, .int .i64 0, .int .i64 0]
      have HNW := Lib.hid hnw
      have HSZ := Lib.hid h0.size
      clear hnw
      go_wp2_with fail
      unfold AtEnd
      exact ⟨w.heap.size, by simp only [more, slot_true, slot_false, Nat.reduceEqDiff, ↓reduceIte, d13], h0.trans hcl (fun _ _ h => h), fun _ _ => HNW.out, fun h => by simp [more, d13] at h, fun _ => HSZ.out⟩
    · obtain rfl := Option.some.inj ho
      have z12 := hpre ⟨12, .data⟩ (by simp) rfl
      have z11 := hpre ⟨11, .data⟩ (by simp) rfl
      have z9 := hpre ⟨9, .chain⟩ (by simp) rfl
      clear ho hpre hi hcl
      have hbs := hs z12 hD
      have HBS := Lib.hid hbs
      have HS3 := Lib.hid (hs3 z12)
      have HCW := Lib.hid h0
      clear h0 hs hs2 hs3 hbs
      simp only [z11, z12, slot_true]
      go_wp2_with (first
        | (refine wpList_store_blk rfl 89 _ _ rfl s8 _ rfl rfl 89 _ HBS.out rfl head_size (by simp [Value.oneCell']) ?_)
        | fail)
      unfold AtEnd
      exact ⟨s8, by simp only [more, slot_true, slot_false, Nat.reduceEqDiff, ↓reduceIte, z12, z11, z9], HCW.out.setRow (.inr HS3.out) _, fun _ h => by simp [more] at h, fun _ => HBS.out.row _, fun _ => HS3.out⟩
  · intro D a w hall hI
    obtain ⟨s8, rfl, h0, hs, hs2, hs3⟩ := hI
    have HC8 := Lib.hid (HC6.out.trans h0 (fun _ _ h => h))
    have HB8 := Lib.hid (hs2 (hall 13 (by decide)))
    have HB68 := Lib.hid (HB6.out.chg h0 (fun h => h))
    have HBD8 := Lib.hid (HBD6.out.chg h0 (fun h => h))
    have HS8 := Lib.hid (hs3 (hall 12 (by decide)))
    have z0 := hall 0 (by decide)
    have z1 := hall 1 (by decide)
    have z2 := hall 2 (by decide)
    have z3 := hall 3 (by decide)
    have z4 := hall 4 (by decide)
    have z5 := hall 5 (by decide)
    have z6 := hall 6 (by decide)
    have z7 := hall 7 (by decide)
    have z8 := hall 8 (by decide)
    have z9 := hall 9 (by decide)
    have z10 := hall 10 (by decide)
    have z11 := hall 11 (by decide)
    have z12 := hall 12 (by decide)
    clear hall
    simp only [z0, z1, z2, z3, z4, z5, z6, z7, z8, z9, z10, z11, z12, slot_true]
    clear z0 z1 z2 z3 z4 z5 z6 z7 z8 z9 z10 z11 z12
    obtain ⟨w9, hw9⟩ : ∃ w9, w9 = w := ⟨_, rfl⟩
    rw [← hw9] at HC8 HB8 HB68 HBD8 ⊢
    clear h0 hs hs2 hs3 hw9
    obtain ⟨hh, hhh⟩ : ∃ hh, hh = halfZ kn := ⟨_, rfl⟩
    have HHH := Lib.hid hhh
    have hhb : 0 ≤ hh ∧ hh ≤ 49 := by have h1 := HKB.out; rw [hhh]; unfold halfZ; omega
    obtain ⟨fr, hfr⟩ : ∃ fr : Int, fr = 1 + (1 - (a1 : Int)) * hh := ⟨_, rfl⟩
    have hfb : 1 ≤ fr ∧ fr ≤ 50 := by rw [hfr]; rcases (by omega : a1 = 0 ∨ a1 = 1) with rfl | rfl <;> simp <;> omega
    have hmul : RowKit.wrap64 ((1 - (a1 : Int)) * hh) = (1 - (a1 : Int)) * hh := IntWalk.wrap64_in _ (by
      rcases (by omega : a1 = 0 ∨ a1 = 1) with rfl | rfl <;> simp <;> omega)
    have hadd : RowKit.wrap64 (1 + (1 - (a1 : Int)) * hh) = fr := by rw [hfr]; exact IntWalk.wrap64_in _ (by omega)
    have HFR := Lib.hid (show fr = nextFrom K from by
      unfold nextFrom
      rw [← HE.out.2.2, ← HKN2.out, ← HHH.out, hfr]
      congr 2
      omega)
    have HI8 := Lib.hid (HI.out.no HC8.out)
    have HFB := Lib.hid hfb
    have HHB := Lib.hid hhb
    have HSZ8 := Lib.hid (show s8 < w9.heap.size ∧ W.heap.size < s8 from ⟨HB8.out.lt, by have h1 := HS8.out; have h2 := HBD6.out.lt; omega⟩)
    clear hhh hfr
    go_wp2_with fail
    refine wp_region_cl rfl (by kernel_rfl) (InvQ10 g W.heap.size b6 n c a0 a1 a2 a3 cs A v5 kn rz s8 hh fr w9) ?_ ?_ ?_
    · exact ⟨rfl, (Chg.refl _ _).drew⟩
    ·
      intro D a w i o ho hD hcl hpre hI
      obtain ⟨rfl, h0⟩ := hI
      have hi : i < 8 := by have := (List.getElem?_eq_some_iff.1 ho).1; simpa using this
      rcases (by omega : i = 0 ∨ i = 1 ∨ i = 2 ∨ i = 3 ∨ i = 4 ∨ i = 5 ∨ i = 6 ∨ i = 7) with rfl | rfl | rfl | rfl | rfl | rfl | rfl | rfl
      · obtain rfl := Option.some.inj ho
        clear ho hpre hi hcl
        go_wp2_with fail
        unfold AtEnd
        exact ⟨rfl, h0⟩
      · obtain rfl := Option.some.inj ho
        have z0 := hpre ⟨0, .data⟩ (by simp) rfl
        clear ho hpre hi hcl
        have k0 := (HB8.out.chg h0 (fun h => h)).cell 1
        go_wp2_with fail
        unfold AtEnd
        exact ⟨by simp only [more, slot_true, slot_false, Nat.reduceEqDiff, ↓reduceIte, z0], h0⟩
      · obtain rfl := Option.some.inj ho
        clear ho hpre hi hcl
        have k0 := (HBD8.out.chg h0 (fun h => h)).cell 0
        go_wp2_with fail
        unfold AtEnd
        exact ⟨rfl, h0⟩
      · obtain rfl := Option.some.inj ho
        have z2 := hpre ⟨2, .data⟩ (by simp) rfl
        clear ho hpre hi hcl
        have hdd := (HI8.out.no h0).disk.len_
        have HDD := Lib.hid hdd
        clear hdd
        simp only [z2, slot_true]
        go_wp2_with fail
        refine HDD.out.mono ?_
        rintro e w7 ⟨rfl, rfl⟩
        rw [← HKN2.out]
        go_wp2_with fail
        unfold AtEnd
        exact ⟨by simp only [more, slot_true, slot_false, Nat.reduceEqDiff, ↓reduceIte, z2], h0⟩
      · obtain rfl := Option.some.inj ho
        have z3 := hpre ⟨3, .data⟩ (by simp) rfl
        clear ho hpre hi hcl
        simp only [z3, slot_true]
        go_wp2_with fail
        refine (half_any kn (by have := HKB.out; omega) (by have := HKB.out; omega) w).mono ?_
        rintro e w7 ⟨rfl, rfl⟩
        rw [← HHH.out]
        go_wp2_with fail
        unfold AtEnd
        exact ⟨by simp only [more, slot_true, slot_false, Nat.reduceEqDiff, ↓reduceIte, z3], h0⟩
      · obtain rfl := Option.some.inj ho
        have z1 := hpre ⟨1, .data⟩ (by simp) rfl
        have z4 := hpre ⟨4, .data⟩ (by simp) rfl
        clear ho hpre hi hcl
        go_wp2_with fail
        unfold AtEnd
        exact ⟨by simp only [more, slot_true, slot_false, Nat.reduceEqDiff, ↓reduceIte, z1, z4, hmul], h0⟩
      · obtain rfl := Option.some.inj ho
        have z5 := hpre ⟨5, .data⟩ (by simp) rfl
        clear ho hpre hi hcl
        go_wp2_with fail
        unfold AtEnd
        exact ⟨by simp only [more, slot_true, slot_false, Nat.reduceEqDiff, ↓reduceIte, z5, hadd], h0⟩
      · obtain rfl := Option.some.inj ho
        have z6 := hpre ⟨6, .data⟩ (by simp) rfl
        have z4 := hpre ⟨4, .chain⟩ (by simp) rfl
        clear ho hpre hi hcl
        go_wp2_with fail
        unfold AtEnd
        exact ⟨by simp only [more, slot_true, slot_false, Nat.reduceEqDiff, ↓reduceIte, z6, z4], h0⟩
    · intro D a w hall hI
      obtain ⟨rfl, h0⟩ := hI
      have HC10 := Lib.hid (HC8.out.trans h0 (fun _ _ h => h))
      have HB10 := Lib.hid (HB8.out.chg h0 (fun h => h))
      have HBD10 := Lib.hid (HBD8.out.chg h0 (fun h => h))
      have HS10 := Lib.hid (show s8 < w.heap.size from HB10.out.lt)
      have z0 := hall 0 (by decide)
      have z1 := hall 1 (by decide)
      have z2 := hall 2 (by decide)
      have z3 := hall 3 (by decide)
      have z4 := hall 4 (by decide)
      have z5 := hall 5 (by decide)
      have z6 := hall 6 (by decide)
      have z7 := hall 7 (by decide)
      clear hall
      simp only [z0, z1, z2, z3, z4, z5, z6, z7, slot_true]
      clear z0 z1 z2 z3 z4 z5 z6 z7
      obtain ⟨w10, hw10⟩ : ∃ w10, w10 = w := ⟨_, rfl⟩
      rw [← hw10] at HC10 HB10 HBD10 HS10 ⊢
      clear h0 hw10 hmul hadd hfb hhb
      go_wp2_with fail
      go_loopw [9, 11] (fun v i wr => ∃ (q p : Nat) (vs : List Value), p = 512 * q ∧ p < n + 512 ∧ i = .int .i64 (p : Int) ∧ wr.ownsRow (w10.heap.size) 99 1 v q vs ∧ (∀ (j : Nat) (v : Value) (o : Op1), vs[j]? = some v → (pieceOps fr l q)[j]? = some o → StepV wr F g v o) ∧
          Blk wr s8 89 #[.int .i64 ((a0 : Int) + 1), .int .i64 (1 - (a1 : Int)), .int .i64 (n : Int), .int .i64 (cs : Int)] ∧ Blk wr W.heap.size 27 #[.pointer (some ⟨g, 0, none⟩)] ∧ Chg NoB W wr ∧ w10.heap.size ≤ wr.heap.size) (fun _ i _ => n + 1024 - (intOf i).toNat)
      case atStart => exact ⟨0, 0, [], rfl, by omega, rfl, World.ownsRow_nil _ _ _ _, fun j v o hv => by simp at hv, HB10.out, HBD10.out, HC10.out, Nat.le_refl _⟩
      case round =>
        obtain ⟨q, p, vs, hpq, hpn, rfl, ho, hst, hb8, hbd, hch, hws⟩ := hrel
        by_cases hlt : p < n
        · have HPN := Lib.hid (show (p : Int) < (n : Int) ∧ p < n from ⟨by omega, hlt⟩)
          obtain ⟨ad, rfl, _, _⟩ := HR.out.2 (by rw [HNN.out]; omega)
          have HPQ := Lib.hid hpq
          have HO := Lib.hid ho
          have HST := Lib.hid hst
          have HB8R := Lib.hid hb8
          have HBDR := Lib.hid hbd
          have HCH := Lib.hid hch
          have HWS := Lib.hid hws
          obtain ⟨A9, c9, rfl⟩ := own_slice ho
          have hltI : (p : Int) < (n : Int) := by omega
          have hnb12 := Blk.new wr 83 (blkC zeros)
          have hc12 : Chg NoB wr (wr.alloc (.cells (blkC zeros) 83)) := (Chg.refl _ _).alloc _
          have HN12 := Lib.hid hnb12
          have HC12 := Lib.hid hc12
          clear hpq ho hst hb8 hbd hch hws hnb12 hc12 hlt
          go_upto_region 15 with (first
            | (refine wpList_alloc_any arr_zero _ rfl rfl ?_)
            | fail)
          obtain ⟨w14, hw14⟩ : ∃ w14, w14 = wr.alloc (.cells (blkC zeros) 83) := ⟨_, rfl⟩
          have HB12 := HN12
          have HC14 := HC12
          rw [← hw14] at HB12 HC14 ⊢
          have HRD := Lib.hid (show RB w14 w14.heap.size (some (ad.add p)) (l.drop p) from by
            have h1 := RBchg HR.out (HCH.out.trans HC14.out (fun _ _ h => h))
            have h2 := h1.cut (k := p) (cap := c) (by rw [HNN.out]; have := HPN.out; omega) (by rw [HNN.out]; exact HNC.out)
            rw [if_neg (by have := HPN.out; have := HNC.out; omega)] at h2
            have h3 : RB w14 w14.heap.size (some (ad.add p)) (l.drop p) := by
              unfold RB
              rw [List.length_drop, List.map_drop]
              simpa using h2
            exact h3)
          clear hw14 hltI
          refine wp_region_cl rfl (by kernel_rfl) (InvQ15 g W.heap.size b6 n c a0 a1 a2 a3 cs s8 p wr.heap.size q c9 A9 ad v5 u13 u58 u59 u60 u61 u62 u63 u64 u65 u66 u67 u68 u69 u70 u71 u72 kn rz hh fr l w14) ?_ ?_ ?_
          · exact ⟨rfl, fun _ => (Chg.refl _ _).drew, (fun h => by cases h)⟩
          ·
            intro D a w i o ho hD hcl hpre hI
            obtain ⟨rfl, h0, h4⟩ := hI
            have hi : i < 5 := by have := (List.getElem?_eq_some_iff.1 ho).1; simpa using this
            rcases (by omega : i = 0 ∨ i = 1 ∨ i = 2 ∨ i = 3 ∨ i = 4) with rfl | rfl | rfl | rfl | rfl
            · obtain rfl := Option.some.inj ho
              clear ho hpre hi hcl
              go_wp2_with fail
              unfold AtEnd
              exact ⟨rfl, fun h => h0 (by simpa [more] using h), fun h => h4 (by simpa [more] using h)⟩
            · obtain rfl := Option.some.inj ho
              clear ho hpre hi hcl
              go_wp2_with fail
              unfold AtEnd
              exact ⟨rfl, fun h => h0 (by simpa [more] using h), fun h => h4 (by simpa [more] using h)⟩
            · obtain rfl := Option.some.inj ho
              clear ho hpre hi hcl
              go_wp2_with fail
              unfold AtEnd
              exact ⟨rfl, fun h => h0 (by simpa [more] using h), fun h => h4 (by simpa [more] using h)⟩
            · obtain rfl := Option.some.inj ho
              have z1 := hpre ⟨1, .data⟩ (by simp) rfl
              have z2 := hpre ⟨2, .data⟩ (by simp) rfl
              clear ho hpre hi hcl
              simp only [z1, z2, slot_true]
              have hpn := HPN.out
              have hnc := HNC.out
              go_wp2_with fail
              unfold AtEnd
              exact ⟨by simp only [more, slot_true, slot_false, Nat.reduceEqDiff, ↓reduceIte, z1, z2], fun h => h0 (by simpa [more] using h), fun h => h4 (by simpa [more] using h)⟩
            · obtain rfl := Option.some.inj ho
              have z0 := hpre ⟨0, .data⟩ (by simp) rfl
              have z3 := hpre ⟨3, .data⟩ (by simp) rfl
              clear ho hpre hi hcl
              have hcw := h0 hD
              have HB12W := Lib.hid (HB12.out.chg hcw (fun h => h))
              have hcp := run_copyB w 3 wr.heap.size (n - p) (c - p) 83 zeros (l.drop p) (ad.add p) w.heap.size HB12W.out zeros_len (by rw [List.length_drop, HNN.out]) (RBchg HRD.out hcw)
              rw [show (l.drop p).take 512 ++ zeros.drop (Nat.min (n - p) 512) = padL (l.drop p) from by unfold padL; rw [List.length_drop, HNN.out]] at hcp
              have HCW := Lib.hid hcw
              clear h0 h4 hcw
              simp only [z0, z3, slot_true]
              go_wp2_with fail
              unfold AtEnd
              exact ⟨by simp only [more, slot_true, slot_false, Nat.reduceEqDiff, ↓reduceIte, z0, z3], fun h => by simp [more] at h, fun _ => ⟨(Chg.mono (S := NoB) (T := fun b => b = wr.heap.size) HCW.out (fun _ _ h => h.elim)).setRow (g := wr.heap.size) (.inl rfl) _, HB12W.out.row _⟩⟩
          · intro D a w hall hI
            obtain ⟨rfl, h0, h4⟩ := hI
            obtain ⟨hc15, hb15⟩ := h4 (hall 4 (by decide))
            have HC15 := Lib.hid (Chg.trans (S := NoB) (T := fun b => b = wr.heap.size) HC14.out hc15 (fun i hi h => by have h1 : i = wr.heap.size := h; omega))
            have HB15 := Lib.hid hb15
            have z0 := hall 0 (by decide)
            have z1 := hall 1 (by decide)
            have z2 := hall 2 (by decide)
            have z3 := hall 3 (by decide)
            have z4 := hall 4 (by decide)
            clear hall
            simp only [z0, z1, z2, z3, z4, slot_true]
            clear z0 z1 z2 z3 z4
            obtain ⟨w15, hw15⟩ : ∃ w15, w15 = w := ⟨_, rfl⟩
            rw [← hw15] at HC15 HB15 ⊢
            clear h0 h4 hc15 hb15 hw15
            have hdv : Int.tdiv (p : Int) 512 = (q : Int) := by rw [Int.tdiv_eq_ediv_of_nonneg (by omega)]; have := HPQ.out; omega
            have hqb : (q : Int) ≤ 4096 := by have := HPQ.out; have := HNZ.out; have := HPN.out; omega
            have hq0 : RowKit.wrap64 (q : Int) = (q : Int) := IntWalk.wrap64_in _ (by omega)
            have hfb := HFB.out
            have hfq : RowKit.wrap64 (fr + (q : Int)) = fr + (q : Int) := IntWalk.wrap64_in _ (by omega)
            go_upto_region 17 with (fail)
            have hb16 := Blk.new w15 3 #[.int .i64 (fr + (q : Int))]
            have hc16 : Chg NoB w15 (w15.alloc (.cells #[.int .i64 (fr + (q : Int))] 3)) := (Chg.refl _ _).alloc _
            generalize hw16 : w15.alloc (.cells #[.int .i64 (fr + (q : Int))] 3) = w16 at hb16 hc16 ⊢
            have HB16 := Lib.hid hb16
            have HB1516 := Lib.hid (HB15.out.chg hc16 (fun h => h))
            have HC16 := Lib.hid (HC15.out.trans hc16 (fun _ _ h => h))
            have HSI := Lib.hid (show wr.heap.size < w15.heap.size from HB15.out.lt)
            obtain ⟨fv, hfv⟩ : ∃ fv, fv = Value.func (.func 53) #[] #[.pointer (some ⟨W.heap.size, 0, none⟩), .pointer (some ⟨w15.heap.size, 0, none⟩), .pointer (some ⟨wr.heap.size, 0, none⟩)] := ⟨_, rfl⟩
            have HFV := Lib.hid hfv
            have hcv : Chg NoB w16 (w16.alloc (.cells #[Value.func (.func 53) #[] #[.pointer (some ⟨W.heap.size, 0, none⟩), .pointer (some ⟨w15.heap.size, 0, none⟩), .pointer (some ⟨wr.heap.size, 0, none⟩)]] 99)) := (Chg.refl _ _).alloc _
            have HBV := Lib.hid (Blk.new w16 99 #[Value.func (.func 53) #[] #[.pointer (some ⟨W.heap.size, 0, none⟩), .pointer (some ⟨w15.heap.size, 0, none⟩), .pointer (some ⟨wr.heap.size, 0, none⟩)]])
            have HOV := Lib.hid (ownsRow_chg HO.out (HC16.out.trans hcv (fun _ _ h => h)) (fun _ _ h => h))
            have HCV := Lib.hid (HC16.out.trans hcv (fun _ _ h => h))
            have HSV := Lib.hid (fun (j : Nat) (v : Value) (o : Op1) h1 h2 => (HST.out j v o h1 h2).no HCV.out)
            have HB16V := Lib.hid (HB16.out.chg hcv (fun h => h))
            have HB15V := Lib.hid (HB1516.out.chg hcv (fun h => h))
            have HQ := Lib.hid (show q ≤ 4096 from by omega)
            obtain ⟨it, hit, hz, hs1, hs2⟩ := fun_full
            have HIT := Lib.hid (show Try.prog.info? 99 = some it ∧ it.zero = some .nilFunc ∧ it.size = 1 ∧ it.bytes = 8 from ⟨hit, hz, hs1, hs2⟩)
            clear hw16 hb16 hc16 hfv hcv hdv hqb hq0 hfb hfq hit hz hs1 hs2
            go_wp2_with (first
              | (at_builtin; refine wpList_append_one _ rfl _ _ _ _ rfl Try.underlying101 it _ 8 w10.heap.size HIT.out.1 HIT.out.2.1 HIT.out.2.2.1 HIT.out.2.2.2 rfl _ q _ rfl HOV.out w16.heap.size _ rfl HBV.out rfl (by have := HQ.out; omega) (by have := HQ.out; unfold maxLen; omega) (Nat.le_trans HWS.out HCV.out.size) ?_; intro vn wn hon hgn hvn)
              | fail)
            have hro : ∀ b, (Value.slice A9 q c9).ownBlock = some b → w10.heap.size ≤ b := fun b e => (HOV.out.lt b e).1
            have HBN := Lib.hid (And.intro ((HB8R.out.chg HCV.out (fun h => h)).grown hgn (fun e => own_ne HOV.out (HB8R.out.chg HCV.out (fun h => h)) (by decide) e.symm)) ((HBDR.out.chg HCV.out (fun h => h)).grown hgn (fun e => own_ne HOV.out (HBDR.out.chg HCV.out (fun h => h)) (by decide) e.symm)))
            have HBN2 := Lib.hid (And.intro (HB16V.out.grown hgn (fun e => own_ne HOV.out HB16V.out (by decide) e.symm)) (HB15V.out.grown hgn (fun e => own_ne HOV.out HB15V.out (by decide) e.symm)))
            have HSN := Lib.hid (fun (j : Nat) (v : Value) (o : Op1) h1 h2 => (HSV.out j v o h1 h2).row HOV.out hgn)
            have HCN := Lib.hid ((HCH.out.trans HCV.out (fun _ _ h => h)).grown hgn (fun r e => .inr (by have h1 := hro r e; have h2 := HC10.out.size; omega)))
            have HON := Lib.hid hon
            have HWN := Lib.hid (show w10.heap.size ≤ wn.heap.size from Nat.le_trans HWS.out (Nat.le_trans HCV.out.size hgn.size))
            have hF0 := HI.out.rng
            go_wp2_with fail
            go_roundw
            case rel =>
              refine ⟨q + 1, p + 512, _, by have := HPQ.out; omega, by have := HPN.out; omega, by push_cast; rfl, HON.out, fun j v o hv ho => ?_, HBN.out.1, HBN.out.2, HCN.out, HWN.out⟩
              have hvl : vs.length = q := by have := HOV.out.1; omega
              by_cases hjq : j < q
              · rw [List.getElem?_append_left (by omega)] at hv
                rw [pieceOps_succ, List.getElem?_append_left (by rw [pieceOps_len]; exact hjq)] at ho
                exact HSN.out j v o hv ho
              · rw [List.getElem?_append_right (by omega), hvl] at hv
                rw [pieceOps_succ, List.getElem?_append_right (by rw [pieceOps_len]; omega), pieceOps_len] at ho
                have hj0 : j - q = 0 := by
                  have := (List.getElem?_eq_some_iff.1 hv).1
                  simp at this; omega
                rw [hj0] at hv ho
                simp only [List.getElem?_cons_zero, Option.some.injEq] at hv ho
                subst hv ho
                refine .inr ⟨W.heap.size, w15.heap.size, wr.heap.size, rfl, padL_len _, ⟨HBN.out.2, fun hf => by have := (HI.out.rng _ hf).2; omega⟩, HBN2.out.1, fun hf => ?_, ?_, fun hf => ?_⟩
                · have h1 := (HI.out.rng _ hf).2; have h2 := HSI.out; have h3 := HCH.out.size; omega
                · rw [← HPQ.out]; exact HBN2.out.2
                · have h1 := (HI.out.rng _ hf).2; have h3 := HCH.out.size; omega
            case measure => simp [intOf]; have := HPN.out; omega
        · have HO := Lib.hid ho
          have HST := Lib.hid hst
          have HB8R := Lib.hid hb8
          have HBDR := Lib.hid hbd
          have HCH := Lib.hid hch
          have HWS := Lib.hid hws
          obtain ⟨A9, c9, rfl⟩ := own_slice ho
          have hqc : q = cntOf n := by unfold cntOf; omega
          obtain ⟨ops, hops⟩ : ∃ ops, ops = commitOps K l := ⟨_, rfl⟩
          have HOPS := Lib.hid (show ops = pieceOps fr l q ++ [.sync, .wr 0 (hdr (a0 + 1) (1 - a1) n cs), .sync] from by
            rw [hops]
            unfold commitOps
            rw [← HFR.out, HNN.out, ← hqc, ← HE.out.2.1, ← HE.out.2.2, ← HCS.out.1])
          have HOPL := Lib.hid (show ops.length = q + 3 from by rw [HOPS.out, List.length_append, pieceOps_len]; rfl)
          obtain ⟨K2, hK2⟩ : ∃ K2, K2 = (runOps K ops).1 := ⟨_, rfl⟩
          obtain ⟨er, her⟩ : ∃ er, er = (runOps K ops).2 := ⟨_, rfl⟩
          have HRO := Lib.hid (And.intro hK2 her)
          have HFIN := Lib.hid (show (commitK K l).2 = er ∧ (commitK K l).1 = K2 from by rw [HF.out, ← hops, hK2, her]; exact ⟨rfl, rfl⟩)
          have HQ := Lib.hid (show q ≤ 51 from by
            have h1 := HLZ.out
            have h2 : rz ≤ 49 * 512 := by
              have h3 := HKB.out
              rw [HRZ.out]; unfold roomZ halfZ
              split <;> omega
            omega)
          obtain ⟨it, hit, hz, hs1, hs2⟩ := fun_full
          have HIT := Lib.hid (show Try.prog.info? 99 = some it ∧ it.zero = some .nilFunc ∧ it.size = 1 ∧ it.bytes = 8 from ⟨hit, hz, hs1, hs2⟩)
          have hge : (n : Int) ≤ (p : Int) := by omega
          clear ho hst hb8 hbd hch hws hqc hops hK2 her hit hz hs1 hs2 hpq hpn hlt
          go_wp2_with fail
          generalize hdq : decide (p < n) = dq
          obtain rfl : dq = false := by rw [← hdq]; simp; omega
          clear hge hdq
          refine wp_region_cl rfl (by kernel_rfl) (InvQ18 B g W.heap.size b6 n c a0 a1 a2 a3 cs s8 p q c9 w10.heap.size A A9 v5 u12 u13 u58 u59 u60 u61 u62 u63 u64 u65 u66 u67 u68 u69 u70 u71 u72 kn rz hh fr er vs ops K2 F W wr) ?_ ?_ ?_
          · exact ⟨0, 0, 0, none, 0, rfl, fun _ => (Chg.refl _ _).drew, (fun h _ => by cases h), (fun h _ => by cases h), (fun h _ => by cases h), (fun h => by cases h)⟩
          ·
            intro D a w i o ho hD hcl hpre hI
            obtain ⟨b1, b2, s81, A82, c82, rfl, h0, h5, h8, h9, h10⟩ := hI
            have hi : i < 12 := by have := (List.getElem?_eq_some_iff.1 ho).1; simpa using this
            rcases (by omega : i = 0 ∨ i = 1 ∨ i = 2 ∨ i = 3 ∨ i = 4 ∨ i = 5 ∨ i = 6 ∨ i = 7 ∨ i = 8 ∨ i = 9 ∨ i = 10 ∨ i = 11) with rfl | rfl | rfl | rfl | rfl | rfl | rfl | rfl | rfl | rfl | rfl | rfl
            · obtain rfl := Option.some.inj ho
              clear ho hpre hi hcl
              go_wp2_with fail
              unfold AtEnd
              exact ⟨b1, b2, s81, A82, c82, rfl, fun h => h0 (by simpa [more] using h), fun h1 h2 => h5 (by simpa [more] using h1) (by simpa [more] using h2), fun h1 h2 => h8 (by simpa [more] using h1) (by simpa [more] using h2), fun h1 h2 => h9 (by simpa [more] using h1) (by simpa [more] using h2), fun h => h10 (by simpa [more] using h)⟩
            · obtain rfl := Option.some.inj ho
              have d9 : D 9 = false := (hcl.not_ 9 _ rfl 1 _ rfl rfl (hcl.not_ 8 _ rfl 0 _ rfl rfl (hcl.not_ 2 _ rfl 0 _ rfl rfl hD)))
              clear ho hpre hi hcl
              have k0 := (HBDR.out.chg (h0 d9) (fun h => h)).cell 0
              go_wp2_with fail
              unfold AtEnd
              exact ⟨b1, b2, s81, A82, c82, by simp only [more, slot_true, slot_false, Nat.reduceEqDiff, ↓reduceIte, d9], fun h => h0 (by simpa [more] using h), fun h1 h2 => h5 (by simpa [more] using h1) (by simpa [more] using h2), fun h1 h2 => h8 (by simpa [more] using h1) (by simpa [more] using h2), fun h1 h2 => h9 (by simpa [more] using h1) (by simpa [more] using h2), fun h => h10 (by simpa [more] using h)⟩
            · obtain rfl := Option.some.inj ho
              have z1 := hpre ⟨1, .data⟩ (by simp) rfl
              clear ho hpre hi hcl
              go_wp2_with fail
              unfold AtEnd
              exact ⟨b1, b2, s81, A82, c82, by simp only [more, slot_true, slot_false, Nat.reduceEqDiff, ↓reduceIte, z1], fun h => h0 (by simpa [more] using h), fun h1 h2 => h5 (by simpa [more] using h1) (by simpa [more] using h2), fun h1 h2 => h8 (by simpa [more] using h1) (by simpa [more] using h2), fun h1 h2 => h9 (by simpa [more] using h1) (by simpa [more] using h2), fun h => h10 (by simpa [more] using h)⟩
            · obtain rfl := Option.some.inj ho
              have d9 : D 9 = false := (hcl.not_ 9 _ rfl 2 _ rfl rfl (hcl.not_ 5 _ rfl 0 _ rfl rfl hD))
              clear ho hpre hi hcl
              have k0 := (HBDR.out.chg (h0 d9) (fun h => h)).cell 0
              go_wp2_with fail
              unfold AtEnd
              exact ⟨b1, b2, s81, A82, c82, by simp only [more, slot_true, slot_false, Nat.reduceEqDiff, ↓reduceIte, d9], fun h => h0 (by simpa [more] using h), fun h1 h2 => h5 (by simpa [more] using h1) (by simpa [more] using h2), fun h1 h2 => h8 (by simpa [more] using h1) (by simpa [more] using h2), fun h1 h2 => h9 (by simpa [more] using h1) (by simpa [more] using h2), fun h => h10 (by simpa [more] using h)⟩
            · obtain rfl := Option.some.inj ho
              have d9 : D 9 = false := (hcl.not_ 9 _ rfl 2 _ rfl rfl (hcl.not_ 5 _ rfl 1 _ rfl rfl hD))
              clear ho hpre hi hcl
              have hb := HB8R.out.chg (h0 d9) (fun h => h)
              go_wp2_with (first
                | (refine wpList_load_row rfl 89 _ rfl s8 rfl 89 _ (0, 0) _ hb Try.underlying89 rfl (head_size) ?_)
                | fail)
              unfold AtEnd
              exact ⟨b1, b2, s81, A82, c82, by simp only [more, slot_true, slot_false, Nat.reduceEqDiff, ↓reduceIte, d9], fun h => h0 (by simpa [more] using h), fun h1 h2 => h5 (by simpa [more] using h1) (by simpa [more] using h2), fun h1 h2 => h8 (by simpa [more] using h1) (by simpa [more] using h2), fun h1 h2 => h9 (by simpa [more] using h1) (by simpa [more] using h2), fun h => h10 (by simpa [more] using h)⟩
            · obtain rfl := Option.some.inj ho
              have z3 := hpre ⟨3, .data⟩ (by simp) rfl
              have z4 := hpre ⟨4, .data⟩ (by simp) rfl
              have d8 : D 8 = false := (hcl.not_ 8 _ rfl 1 _ rfl rfl hD)
              have d9 : D 9 = false := (hcl.not_ 9 _ rfl 2 _ rfl rfl hD)
              have d10 : D 10 = false := (hcl.not_ 10 _ rfl 0 _ rfl rfl (hcl.not_ 9 _ rfl 2 _ rfl rfl hD))
              clear ho hpre hi hcl
              have hcw := h0 d9
              have hwr := written_any g (a0 + 1) (1 - a1) n cs ⟨by have := HG.out; have := HAL.out.1; omega, by omega, by have := HNZ.out; omega, HCS.out.2⟩ w
              rw [show ((a0 + 1 : Nat) : Int) = (a0 : Int) + 1 from by push_cast; rfl, show ((1 - a1 : Nat) : Int) = 1 - (a1 : Int) from by have := HAL.out.2; omega] at hwr
              have HWR := Lib.hid hwr
              have HCW := Lib.hid hcw
              clear h0 h5 h8 h9 h10 hcw hwr
              simp only [z3, z4, slot_true]
              go_wp2_with fail
              refine HWR.out.mono ?_
              rintro e w7 ⟨v, rfl, ⟨y1, y2, rfl⟩, hst7, hc7⟩
              have HS7 := Lib.hid (hst7 F (fun i hi => by have h1 := (HI.out.rng i hi).2; have h2 := HCH.out.size; have h3 := HCW.out.size; omega))
              have HC7 := Lib.hid hc7
              clear hst7 hc7
              go_wp2_with fail
              unfold AtEnd
              exact ⟨y1, y2, s81, A82, c82, by simp only [more, slot_true, slot_false, Nat.reduceEqDiff, ↓reduceIte, z3, z4, d8, d9, d10], fun _ => HCW.out.trans HC7.out (fun _ _ h => h), fun _ _ => HS7.out, fun h => by simp [more, d8] at h, fun h => by simp [more, d9] at h, fun h => by simp [more, d10] at h⟩
            · obtain rfl := Option.some.inj ho
              have d9 : D 9 = false := (hcl.not_ 9 _ rfl 1 _ rfl rfl (hcl.not_ 8 _ rfl 2 _ rfl rfl (hcl.not_ 7 _ rfl 0 _ rfl rfl hD)))
              clear ho hpre hi hcl
              have k0 := (HBDR.out.chg (h0 d9) (fun h => h)).cell 0
              go_wp2_with fail
              unfold AtEnd
              exact ⟨b1, b2, s81, A82, c82, by simp only [more, slot_true, slot_false, Nat.reduceEqDiff, ↓reduceIte, d9], fun h => h0 (by simpa [more] using h), fun h1 h2 => h5 (by simpa [more] using h1) (by simpa [more] using h2), fun h1 h2 => h8 (by simpa [more] using h1) (by simpa [more] using h2), fun h1 h2 => h9 (by simpa [more] using h1) (by simpa [more] using h2), fun h => h10 (by simpa [more] using h)⟩
            · obtain rfl := Option.some.inj ho
              have z6 := hpre ⟨6, .data⟩ (by simp) rfl
              clear ho hpre hi hcl
              go_wp2_with fail
              unfold AtEnd
              exact ⟨b1, b2, s81, A82, c82, by simp only [more, slot_true, slot_false, Nat.reduceEqDiff, ↓reduceIte, z6], fun h => h0 (by simpa [more] using h), fun h1 h2 => h5 (by simpa [more] using h1) (by simpa [more] using h2), fun h1 h2 => h8 (by simpa [more] using h1) (by simpa [more] using h2), fun h1 h2 => h9 (by simpa [more] using h1) (by simpa [more] using h2), fun h => h10 (by simpa [more] using h)⟩
            · obtain rfl := Option.some.inj ho
              have z2 := hpre ⟨2, .data⟩ (by simp) rfl
              have z5 := hpre ⟨5, .data⟩ (by simp) rfl
              have z7 := hpre ⟨7, .data⟩ (by simp) rfl
              have d9 : D 9 = false := (hcl.not_ 9 _ rfl 1 _ rfl rfl hD)
              have d10 : D 10 = false := (hcl.not_ 10 _ rfl 0 _ rfl rfl (hcl.not_ 9 _ rfl 1 _ rfl rfl hD))
              clear ho hpre hi hcl
              have hcl : Chg NoB w (w.alloc (.cells #[.func (.func 50) #[.pointer (some ⟨g, 0, none⟩)] #[], .func (.func 63) #[] #[.pointer (some ⟨b1, 0, none⟩), .pointer (some ⟨b2, 0, none⟩)], .func (.func 50) #[.pointer (some ⟨g, 0, none⟩)] #[]] 99)) := (Chg.refl _ _).alloc _
              have hnw := Blk.new w 99 #[.func (.func 50) #[.pointer (some ⟨g, 0, none⟩)] #[], .func (.func 63) #[] #[.pointer (some ⟨b1, 0, none⟩), .pointer (some ⟨b2, 0, none⟩)], .func (.func 50) #[.pointer (some ⟨g, 0, none⟩)] #[]]
              have HNW := Lib.hid hnw
              clear hnw
              simp only [z2, z5, z7, slot_true]
              go_wp2_with fail
              unfold AtEnd
              exact ⟨b1, b2, w.heap.size, A82, c82, by simp only [more, slot_true, slot_false, Nat.reduceEqDiff, ↓reduceIte, z2, z5, z7, d9, d10], fun _ => (h0 d9).trans hcl (fun _ _ h => h), fun h1 _ => (h5 (by simpa [more] using h1) d9).no hcl, fun _ _ => HNW.out, fun h => by simp [more, d9] at h, fun h => by simp [more, d10] at h⟩
            · obtain rfl := Option.some.inj ho
              have z0 := hpre ⟨0, .data⟩ (by simp) rfl
              have z8 := hpre ⟨8, .data⟩ (by simp) rfl
              have z5 := hpre ⟨5, .chain⟩ (by simp) rfl
              have d10 : D 10 = false := (hcl.not_ 10 _ rfl 0 _ rfl rfl hD)
              clear ho hpre hi hcl
              have hcw := h0 hD
              have H8 := Lib.hid (h8 z8 hD)
              have H5 := Lib.hid (h5 z5 hD)
              have HOW := Lib.hid (ownsRow_chg HO.out hcw (fun _ _ h => h))
              have HRD := Lib.hid (reads_blk3 H8.out)
              have HCW := Lib.hid hcw
              clear h0 h5 h8 h9 h10 hcw
              simp only [z0, z8, slot_true]
              go_wp2_with (at_builtin; refine wpList_append_gen _ rfl _ _ _ _ rfl Try.underlying101 it _ 1 8 w10.heap.size HIT.out.1 HIT.out.2.1 HIT.out.2.2.1 HIT.out.2.2.2 rfl (by decide) _ q _ rfl HOW.out _ _ 3 3 _ rfl HRD.out (by intro u hu; simp at hu; rcases hu with rfl | rfl | rfl <;> rfl) (by have := HQ.out; omega) (by have := HQ.out; unfold maxLen; omega) (Nat.le_trans HWS.out HCW.out.size) ?_; intro v9 w9n ho9 hg9 hv9; obtain ⟨A7, c7, rfl⟩ := own_slice ho9)
              unfold AtEnd
              exact ⟨b1, b2, s81, A7, c7, by simp only [more, slot_true, slot_false, Nat.reduceEqDiff, ↓reduceIte, z0, z8, z5, d10], fun h => by simp [more] at h, fun _ h => by simp [more] at h, fun _ h => by simp [more] at h, fun _ _ => ⟨ho9, step_last HOW.out hg9 (fun j v o h1 h2 => (HST.out j v o h1 h2).no HCW.out) H5.out HOPS.out, (HCH.out.trans HCW.out (fun _ _ h => h)).grown hg9 (fun r e => .inr (by have h1 := (HOW.out.lt r e).1; have h2 := HC10.out.size; omega))⟩, fun h => by simp [more, d10] at h⟩
            · obtain rfl := Option.some.inj ho
              have z9 := hpre ⟨9, .data⟩ (by simp) rfl
              clear ho hpre hi hcl
              obtain ⟨how, hsw, hcw⟩ := h9 z9 hD
              have HOW := Lib.hid how
              have HSW := Lib.hid hsw
              have HCW := Lib.hid hcw
              clear h0 h5 h8 h9 h10 how hsw hcw
              simp only [z9, slot_true]
              go_wp2_with fail
              refine (steps_any (HI.out.no HCW.out) (Nat.le_trans HB.out HCW.out.size) ops _ (q + 3) (by omega) HOPL.out (by have := HOW.out.1; omega) (by have := HKL.out; have := HQ.out; omega) A82 c82 (own_base' HOW.out) (fun b e hf => by have h1 := (HOW.out.lt b e).1; have h2 := (HI.out.rng b hf).2; have h3 := HC10.out.size; omega) HSW.out).mono ?_
              rintro e w7 ⟨rfl, hp⟩
              rw [← HRO.out.2]
              rw [← HRO.out.1] at hp
              have HP := Lib.hid (DPost.left HCW.out hp)
              clear hp
              go_wp2_with fail
              unfold AtEnd
              exact ⟨b1, b2, s81, A82, c82, by simp only [more, slot_true, slot_false, Nat.reduceEqDiff, ↓reduceIte, z9], fun h => by simp [more, z9] at h, fun _ h => by simp [more, z9] at h, fun _ h => by simp [more, z9] at h, fun _ h => by simp [more] at h, fun _ => HP.out⟩
            · obtain rfl := Option.some.inj ho
              have z10 := hpre ⟨10, .data⟩ (by simp) rfl
              clear ho hpre hi hcl
              go_wp2_with fail
              unfold AtEnd
              exact ⟨b1, b2, s81, A82, c82, by simp only [more, slot_true, slot_false, Nat.reduceEqDiff, ↓reduceIte, z10], fun h => h0 (by simpa [more] using h), fun h1 h2 => h5 (by simpa [more] using h1) (by simpa [more] using h2), fun h1 h2 => h8 (by simpa [more] using h1) (by simpa [more] using h2), fun h1 h2 => h9 (by simpa [more] using h1) (by simpa [more] using h2), fun h => h10 (by simpa [more] using h)⟩
          · intro D a w hall hI
            obtain ⟨b1, b2, s81, A82, c82, rfl, h0, h5, h8, h9, h10⟩ := hI
            have HP := Lib.hid (h10 (hall 10 (by decide)))
            have z11 := hall 11 (by decide)
            clear h0 h5 h8 h9 h10 hall
            simp only [z11, slot_true]
            go_wp2_with fail
            go_ret
            rw [HFIN.out.1, HFIN.out.2]
            exact ⟨rfl, HP.out⟩
end Go.Proofs.Ytlhfhhbafhnbkaa
