/-
  SLOTS: load.
-/
import Derived.Test.YtlhfhhbafhnbkaaSlt4
namespace Go.Proofs.Ytlhfhhbafhnbkaa
open Go.RowKit FieldM CrcM
set_option linter.unusedSimpArgs false
set_option linter.unusedVariables false
/-- a number of the header -/
def fld (b : List UInt8) (i : Nat) : Nat := le ((b.drop (4 + 4 * i)).take 4)
theorem fld_lt {b : List UInt8} (i : Nat) : fld b i < 4294967296 := by
  have h := le_lt ((b.drop (4 + 4 * i)).take 4)
  have h2 : 256 ^ ((b.drop (4 + 4 * i)).take 4).length ≤ 256 ^ 4 := Nat.pow_le_pow_right (by decide) (by simp; omega)
  unfold fld
  omega
theorem getL_fld {b : List UInt8} (hb : b.length = 512) (i : Nat) (hi : i ≤ 3) : getL b (4 + 4 * (i : Int)) 4 = (fld b i : Int) ∧ cutErr (512 : Nat) (4 + 4 * (i : Int)) 4 = 0 := by
  have h1 : cutErr (512 : Nat) (4 + 4 * (i : Int)) 4 = 0 := cutErr_ok (by omega) (by omega)
  refine ⟨?_, h1⟩
  unfold getL pieceL
  rw [hb, if_pos h1]
  have e : (4 + 4 * (i : Int)).toNat = 4 + 4 * i := by omega
  rw [e]; rfl
/-- is a header right? -/
def hdOk (b : List UInt8) : Bool := hdr (fld b 0) (fld b 1) (fld b 2) (fld b 3) == b
def ldFrom (K : Dk) : Int := 1 + (fld (K.now 0) 1 : Nat) * halfZ K.n
def ldGood (K : Dk) : Prop := hdOk (K.now 0) = true ∧ fld (K.now 0) 1 ≤ 1 ∧ (fld (K.now 0) 2 : Int) ≤ roomZ K.n ∧ crcN (contentL K.now (ldFrom K) (fld (K.now 0) 2)) = fld (K.now 0) 3
open Classical in
/-- what load tells -/
noncomputable def ldE (K : Dk) : Int := if K.n < 3 then 7 else if K.dark = true then 6 else if ldGood K then 0 else 15
noncomputable def ldB (K : Dk) : List UInt8 := if ldE K = 0 then contentL K.now (ldFrom K) (fld (K.now 0) 2) else []
noncomputable def ldH (K : Dk) (i : Nat) : Nat := if ldE K = 0 then fld (K.now 0) i else 0
def hdV (f : Nat → Nat) : Array Value := #[.int .i64 (f 0 : Int), .int .i64 (f 1 : Int), .int .i64 (f 2 : Int), .int .i64 (f 3 : Int)]
theorem head_size : (Try.prog.info? 89).map (·.size) = some 4 := by kernel_rfl
def LoadPost (K : Dk) (W : World) (e : Ending) (w' : World) : Prop :=
  ∃ v, e = .returned (.tuple #[v, .agg (hdV (ldH K)), .int .i64 (ldE K)]) ∧ OwnB w' W.heap.size v (ldB K) ∧ (ldE K ≠ 0 → v = .slice none 0 0) ∧ Chg NoB W w'
theorem LoadPost.bad {K : Dk} {W w' : World} {e : Ending} (er : Int) (h : ldE K = er) (h0 : er ≠ 0) (he : e = .returned (.tuple #[.slice none 0 0, .agg #[.int .i64 0, .int .i64 0, .int .i64 0, .int .i64 0], .int .i64 er])) (hc : Chg NoB W w') : LoadPost K W e w' := by
  have hb : ldB K = [] := if_neg (by rw [h]; exact h0)
  have hh : ∀ i, ldH K i = 0 := fun i => if_neg (by rw [h]; exact h0)
  refine ⟨.slice none 0 0, ?_, by rw [hb]; exact OwnB.nil_ _ _, fun _ => rfl, hc⟩
  rw [he, h]
  unfold hdV
  simp [hh]
theorem results_tct' {fn : Func} {x p u : Tmp} {ty : TypeId} (h : fn.results = #[.tmp x, .cell p ty, .tmp u]) (tmps : Array Value) (P : Program) (w : World) :
    (results fn tmps).run P w =
      ((asAddr (tmps.getD p undef)).run P w).andThen fun a w₁ => ((loadVar ty a).run P w₁).andThen fun v w₂ => .ok (.tuple #[tmps.getD x undef, v, tmps.getD u undef]) w₂ := by
  simp only [results, h]
  simp [Sem.run_bind, Result.andThen]
theorem ld_ret {fn : Func} {x q u : Tmp} (h : fn.results = #[.tmp x, .cell q 89, .tmp u]) (tmps : Array Value) (w : World) (g : Nat) (t : TypeId) (a b c d : Value) (hq : tmps.getD q undef = .pointer (some ⟨g, 0, none⟩)) (hb : Blk w g t #[a, b, c, d]) :
    (results fn tmps).run Try.prog w = .ok (.tuple #[tmps.getD x undef, .agg #[a, b, c, d], tmps.getD u undef]) w := by
  rw [results_tct' h, hq]
  simp [asAddr, run_loadVar_row w g t 89 #[a, b, c, d] (0, 0) _ hb Try.underlying89 rfl head_size]
def hC (f : Nat → Nat) (q : Nat) : Array Value := #[.int .i64 (if 0 < q then (f 0 : Int) else 0), .int .i64 (if 1 < q then (f 1 : Int) else 0), .int .i64 (if 2 < q then (f 2 : Int) else 0), .int .i64 (if 3 < q then (f 3 : Int) else 0)]
theorem hC_size (f : Nat → Nat) (q : Nat) : (hC f q).size = 4 := rfl
theorem hC_set (f : Nat → Nat) {q : Nat} (hq : q < 4) : (hC f q).setIfInBounds q (.int .i64 (f q : Int)) = hC f (q + 1) := by
  rcases (by omega : q = 0 ∨ q = 1 ∨ q = 2 ∨ q = 3) with rfl | rfl | rfl | rfl <;> simp [hC]
theorem RBchg {w w' : World} {A : Option Addr} {l : List UInt8} (h : RB w w.heap.size A l) (hc : Chg NoB w w') : RB w' w'.heap.size A l :=
  Reads.more (Reads.keep h (fun p hp => cell_of_heap (hc.block _ hp (fun h => h)))) hc.size
def InvLa (g gb bh W0 a0 a1 a2 a3 : Nat) (u9 u10 u34 u35 u36 u37 u38 u39 u40 u41 u42 u43 u44 u45 u46 : Value) (kn rz : Int) (hb0 l0 : List UInt8) (w0 : World) (D : Nat → Bool) (a : Act) (w : World) : Prop :=
  a = { tmps := #[.pointer (some ⟨g, 0, none⟩), undef, .slice none 0 0, .pointer (some ⟨W0, 0, none⟩), .int .i64 0, .int .i64 0, .slice (some ⟨gb, 0, none⟩) 512 512, .int .i64 0, .pointer (some ⟨bh, 0, none⟩), u9, u10, undef, .pointer (some ⟨g, 0, none⟩), .int .i64 0, .int .i64 0, .bool false, undef, undef, .tuple #[.slice (some ⟨gb, 0, none⟩) 512 512, .int .i64 0], .pointer (some ⟨g, 0, none⟩), .tuple #[.slice (some ⟨gb, 0, none⟩) 512 512, .int .i64 0], .slice (some ⟨gb, 0, none⟩) 512 512, .int .i64 0, .int .i64 0, .bool false, undef, undef, .pointer (some ⟨bh, 0, none⟩), .pointer (some ⟨bh, 1, none⟩), .pointer (some ⟨bh, 2, none⟩), .pointer (some ⟨bh, 3, none⟩), .agg #[.pointer (some ⟨bh, 0, none⟩), .pointer (some ⟨bh, 1, none⟩), .pointer (some ⟨bh, 2, none⟩), .pointer (some ⟨bh, 3, none⟩)], .int .i64 4, .bool false, u34, u35, u36, u37, u38, u39, u40, u41, u42, u43, u44, u45, u46, (slot (D 0) (.agg #[.int .i64 (a0 : Int), .int .i64 (a1 : Int), .int .i64 (a2 : Int), .int .i64 (a3 : Int)]) (undef)), (slot (D 1) (.agg (blkC hb0)) (undef)), (slot (D 2) (.slice (some ⟨gb, 0, none⟩) 512 512) (undef)), (slot (D 3) (.pointer (some ⟨gb, 0, none⟩)) (undef)), (slot (D 4) (.agg (blkC l0)) (undef)), (slot (D 5) (.bool true) (undef)), (slot (D 6) (.bool true) (undef)), undef, undef, undef, (slot (D 10) (.bool true) (undef)), (slot (D 11) (.bool true) (undef)), undef, undef, undef, undef, undef, undef, (slot (D 18) (.bool true) (undef)), undef, undef, undef, undef, undef, undef, undef, undef, undef, undef, undef, undef, undef, undef, undef, undef], defers := [] } ∧
    (Chg NoB w0 w)
def InvLb (g gb bh W0 a0 a1 a2 a3 : Nat) (u9 u10 u34 u35 u36 u37 u38 u39 u40 u41 u42 u43 u44 u45 u46 : Value) (kn rz : Int) (hb0 l0 : List UInt8) (w0 : World) (D : Nat → Bool) (a : Act) (w : World) : Prop :=
  a = { tmps := #[.pointer (some ⟨g, 0, none⟩), undef, .slice none 0 0, .pointer (some ⟨W0, 0, none⟩), .int .i64 0, .int .i64 0, .slice (some ⟨gb, 0, none⟩) 512 512, .int .i64 0, .pointer (some ⟨bh, 0, none⟩), u9, u10, undef, .pointer (some ⟨g, 0, none⟩), .int .i64 0, .int .i64 0, .bool false, undef, undef, .tuple #[.slice (some ⟨gb, 0, none⟩) 512 512, .int .i64 0], .pointer (some ⟨g, 0, none⟩), .tuple #[.slice (some ⟨gb, 0, none⟩) 512 512, .int .i64 0], .slice (some ⟨gb, 0, none⟩) 512 512, .int .i64 0, .int .i64 0, .bool false, undef, undef, .pointer (some ⟨bh, 0, none⟩), .pointer (some ⟨bh, 1, none⟩), .pointer (some ⟨bh, 2, none⟩), .pointer (some ⟨bh, 3, none⟩), .agg #[.pointer (some ⟨bh, 0, none⟩), .pointer (some ⟨bh, 1, none⟩), .pointer (some ⟨bh, 2, none⟩), .pointer (some ⟨bh, 3, none⟩)], .int .i64 4, .bool false, u34, u35, u36, u37, u38, u39, u40, u41, u42, u43, u44, u45, u46, (slot (D 0) (.agg #[.int .i64 (a0 : Int), .int .i64 (a1 : Int), .int .i64 (a2 : Int), .int .i64 (a3 : Int)]) (undef)), (slot (D 1) (.agg (blkC hb0)) (undef)), (slot (D 2) (.slice (some ⟨gb, 0, none⟩) 512 512) (undef)), (slot (D 3) (.pointer (some ⟨gb, 0, none⟩)) (undef)), (slot (D 4) (.agg (blkC l0)) (undef)), (slot (D 5) (.bool false) (undef)), (slot (D 6) (.bool false) (undef)), (slot (D 7) (.pointer (some ⟨bh, 1, none⟩)) (undef)), (slot (D 8) (.int .i64 (a1 : Int)) (undef)), (slot (D 9) (.bool true) (undef)), (slot (D 10) (.bool true) (undef)), (slot (D 11) (.bool true) (undef)), undef, undef, undef, undef, undef, undef, (slot (D 18) (.bool true) (undef)), undef, undef, undef, undef, undef, undef, undef, undef, undef, undef, undef, undef, undef, undef, undef, undef], defers := [] } ∧
    (Chg NoB w0 w)
def InvLc (g gb bh W0 a0 a1 a2 a3 : Nat) (u9 u10 u34 u35 u36 u37 u38 u39 u40 u41 u42 u43 u44 u45 u46 : Value) (kn rz : Int) (hb0 l0 : List UInt8) (w0 : World) (D : Nat → Bool) (a : Act) (w : World) : Prop :=
  a = { tmps := #[.pointer (some ⟨g, 0, none⟩), undef, .slice none 0 0, .pointer (some ⟨W0, 0, none⟩), .int .i64 0, .int .i64 0, .slice (some ⟨gb, 0, none⟩) 512 512, .int .i64 0, .pointer (some ⟨bh, 0, none⟩), u9, u10, undef, .pointer (some ⟨g, 0, none⟩), .int .i64 0, .int .i64 0, .bool false, undef, undef, .tuple #[.slice (some ⟨gb, 0, none⟩) 512 512, .int .i64 0], .pointer (some ⟨g, 0, none⟩), .tuple #[.slice (some ⟨gb, 0, none⟩) 512 512, .int .i64 0], .slice (some ⟨gb, 0, none⟩) 512 512, .int .i64 0, .int .i64 0, .bool false, undef, undef, .pointer (some ⟨bh, 0, none⟩), .pointer (some ⟨bh, 1, none⟩), .pointer (some ⟨bh, 2, none⟩), .pointer (some ⟨bh, 3, none⟩), .agg #[.pointer (some ⟨bh, 0, none⟩), .pointer (some ⟨bh, 1, none⟩), .pointer (some ⟨bh, 2, none⟩), .pointer (some ⟨bh, 3, none⟩)], .int .i64 4, .bool false, u34, u35, u36, u37, u38, u39, u40, u41, u42, u43, u44, u45, u46, (slot (D 0) (.agg #[.int .i64 (a0 : Int), .int .i64 (a1 : Int), .int .i64 (a2 : Int), .int .i64 (a3 : Int)]) (undef)), (slot (D 1) (.agg (blkC hb0)) (undef)), (slot (D 2) (.slice (some ⟨gb, 0, none⟩) 512 512) (undef)), (slot (D 3) (.pointer (some ⟨gb, 0, none⟩)) (undef)), (slot (D 4) (.agg (blkC l0)) (undef)), (slot (D 5) (.bool false) (undef)), (slot (D 6) (.bool false) (undef)), (slot (D 7) (.pointer (some ⟨bh, 1, none⟩)) (undef)), (slot (D 8) (.int .i64 (a1 : Int)) (undef)), (slot (D 9) (.bool false) (undef)), (slot (D 10) (.bool false) (undef)), (slot (D 11) (.bool false) (undef)), (slot (D 12) (.pointer (some ⟨bh, 2, none⟩)) (undef)), (slot (D 13) (.int .i64 (a2 : Int)) (undef)), (slot (D 14) (.pointer (some ⟨g, 0, none⟩)) (undef)), (slot (D 15) (.int .i64 kn) (undef)), (slot (D 16) (.int .i64 rz) (undef)), (slot (D 17) (.bool true) (undef)), (slot (D 18) (.bool true) (undef)), undef, undef, undef, undef, undef, undef, undef, undef, undef, undef, undef, undef, undef, undef, undef, undef], defers := [] } ∧
    (Chg NoB w0 w)
def InvLd (g gb bh W0 a0 a1 a2 a3 : Nat) (u9 u10 u34 u35 u36 u37 u38 u39 u40 u41 u42 u43 u44 u45 u46 : Value) (kn rz : Int) (hb0 l0 : List UInt8) (w0 : World) (D : Nat → Bool) (a : Act) (w : World) : Prop :=
  a = { tmps := #[.pointer (some ⟨g, 0, none⟩), undef, .slice none 0 0, .pointer (some ⟨W0, 0, none⟩), .int .i64 0, .int .i64 0, .slice (some ⟨gb, 0, none⟩) 512 512, .int .i64 0, .pointer (some ⟨bh, 0, none⟩), u9, u10, undef, .pointer (some ⟨g, 0, none⟩), .int .i64 0, .int .i64 0, .bool false, undef, undef, .tuple #[.slice (some ⟨gb, 0, none⟩) 512 512, .int .i64 0], .pointer (some ⟨g, 0, none⟩), .tuple #[.slice (some ⟨gb, 0, none⟩) 512 512, .int .i64 0], .slice (some ⟨gb, 0, none⟩) 512 512, .int .i64 0, .int .i64 0, .bool false, undef, undef, .pointer (some ⟨bh, 0, none⟩), .pointer (some ⟨bh, 1, none⟩), .pointer (some ⟨bh, 2, none⟩), .pointer (some ⟨bh, 3, none⟩), .agg #[.pointer (some ⟨bh, 0, none⟩), .pointer (some ⟨bh, 1, none⟩), .pointer (some ⟨bh, 2, none⟩), .pointer (some ⟨bh, 3, none⟩)], .int .i64 4, .bool false, u34, u35, u36, u37, u38, u39, u40, u41, u42, u43, u44, u45, u46, (slot (D 0) (.agg #[.int .i64 (a0 : Int), .int .i64 (a1 : Int), .int .i64 (a2 : Int), .int .i64 (a3 : Int)]) (undef)), (slot (D 1) (.agg (blkC hb0)) (undef)), (slot (D 2) (.slice (some ⟨gb, 0, none⟩) 512 512) (undef)), (slot (D 3) (.pointer (some ⟨gb, 0, none⟩)) (undef)), (slot (D 4) (.agg (blkC l0)) (undef)), (slot (D 5) (.bool false) (undef)), (slot (D 6) (.bool false) (undef)), (slot (D 7) (.pointer (some ⟨bh, 1, none⟩)) (undef)), (slot (D 8) (.int .i64 (a1 : Int)) (undef)), (slot (D 9) (.bool false) (undef)), (slot (D 10) (.bool false) (undef)), (slot (D 11) (.bool false) (undef)), (slot (D 12) (.pointer (some ⟨bh, 2, none⟩)) (undef)), (slot (D 13) (.int .i64 (a2 : Int)) (undef)), (slot (D 14) (.pointer (some ⟨g, 0, none⟩)) (undef)), (slot (D 15) (.int .i64 kn) (undef)), (slot (D 16) (.int .i64 rz) (undef)), (slot (D 17) (.bool false) (undef)), (slot (D 18) (.bool false) (undef)), undef, undef, undef, undef, undef, undef, undef, undef, undef, undef, undef, undef, undef, undef, undef, undef], defers := [] } ∧
    (Chg NoB w0 w)
def InvLe (g gb bh W0 a0 a1 a2 a3 : Nat) (u9 u10 u34 u35 u36 u37 u38 u39 u40 u41 u42 u43 u44 u45 u46 : Value) (kn rz : Int) (A : Option Addr) (n c cs : Nat) (hb0 l0 : List UInt8) (w0 : World) (D : Nat → Bool) (a : Act) (w : World) : Prop :=
  a = { tmps := #[.pointer (some ⟨g, 0, none⟩), undef, .slice none 0 0, .pointer (some ⟨W0, 0, none⟩), .int .i64 0, .int .i64 0, .slice (some ⟨gb, 0, none⟩) 512 512, .int .i64 0, .pointer (some ⟨bh, 0, none⟩), u9, u10, .slice A n c, .pointer (some ⟨g, 0, none⟩), .int .i64 0, .int .i64 0, .bool false, undef, undef, .tuple #[.slice (some ⟨gb, 0, none⟩) 512 512, .int .i64 0], .pointer (some ⟨g, 0, none⟩), .tuple #[.slice (some ⟨gb, 0, none⟩) 512 512, .int .i64 0], .slice (some ⟨gb, 0, none⟩) 512 512, .int .i64 0, .int .i64 0, .bool false, undef, undef, .pointer (some ⟨bh, 0, none⟩), .pointer (some ⟨bh, 1, none⟩), .pointer (some ⟨bh, 2, none⟩), .pointer (some ⟨bh, 3, none⟩), .agg #[.pointer (some ⟨bh, 0, none⟩), .pointer (some ⟨bh, 1, none⟩), .pointer (some ⟨bh, 2, none⟩), .pointer (some ⟨bh, 3, none⟩)], .int .i64 4, .bool false, u34, u35, u36, u37, u38, u39, u40, u41, u42, u43, u44, u45, u46, .agg #[.int .i64 (a0 : Int), .int .i64 (a1 : Int), .int .i64 (a2 : Int), .int .i64 (a3 : Int)], .agg (blkC hb0), .slice (some ⟨gb, 0, none⟩) 512 512, .pointer (some ⟨gb, 0, none⟩), .agg (blkC l0), .bool false, .bool false, .pointer (some ⟨bh, 1, none⟩), .int .i64 (a1 : Int), .bool false, .bool false, .bool false, .pointer (some ⟨bh, 2, none⟩), .int .i64 (a2 : Int), .pointer (some ⟨g, 0, none⟩), .int .i64 kn, .int .i64 rz, .bool false, .bool false, undef, .pointer (some ⟨g, 0, none⟩), .pointer (some ⟨bh, 1, none⟩), .int .i64 (a1 : Int), .pointer (some ⟨bh, 2, none⟩), .int .i64 (a2 : Int), .slice A n c, (slot (D 0) (.slice A n c) (undef)), (slot (D 1) (.int .u32 (cs : Int)) (undef)), (slot (D 2) (.int .i64 (cs : Int)) (undef)), (slot (D 3) (.pointer (some ⟨bh, 3, none⟩)) (undef)), (slot (D 4) (.int .i64 (a3 : Int)) (undef)), (slot (D 5) (.bool false) (undef)), undef, undef, undef], defers := [] } ∧
    (Chg NoB w0 w)
def InvLf (g gb bh W0 a0 a1 a2 a3 : Nat) (u9 u10 u34 u35 u36 u37 u38 u39 u40 u41 u42 u43 u44 u45 u46 : Value) (kn rz : Int) (A : Option Addr) (n c cs : Nat) (hb0 l0 : List UInt8) (w0 : World) (D : Nat → Bool) (a : Act) (w : World) : Prop :=
  a = { tmps := #[.pointer (some ⟨g, 0, none⟩), undef, .slice none 0 0, .pointer (some ⟨W0, 0, none⟩), .int .i64 0, .int .i64 0, .slice (some ⟨gb, 0, none⟩) 512 512, .int .i64 0, .pointer (some ⟨bh, 0, none⟩), u9, u10, .slice A n c, .pointer (some ⟨g, 0, none⟩), .int .i64 0, .int .i64 0, .bool false, undef, undef, .tuple #[.slice (some ⟨gb, 0, none⟩) 512 512, .int .i64 0], .pointer (some ⟨g, 0, none⟩), .tuple #[.slice (some ⟨gb, 0, none⟩) 512 512, .int .i64 0], .slice (some ⟨gb, 0, none⟩) 512 512, .int .i64 0, .int .i64 0, .bool false, undef, undef, .pointer (some ⟨bh, 0, none⟩), .pointer (some ⟨bh, 1, none⟩), .pointer (some ⟨bh, 2, none⟩), .pointer (some ⟨bh, 3, none⟩), .agg #[.pointer (some ⟨bh, 0, none⟩), .pointer (some ⟨bh, 1, none⟩), .pointer (some ⟨bh, 2, none⟩), .pointer (some ⟨bh, 3, none⟩)], .int .i64 4, .bool false, u34, u35, u36, u37, u38, u39, u40, u41, u42, u43, u44, u45, u46, .agg #[.int .i64 (a0 : Int), .int .i64 (a1 : Int), .int .i64 (a2 : Int), .int .i64 (a3 : Int)], .agg (blkC hb0), .slice (some ⟨gb, 0, none⟩) 512 512, .pointer (some ⟨gb, 0, none⟩), .agg (blkC l0), .bool false, .bool false, .pointer (some ⟨bh, 1, none⟩), .int .i64 (a1 : Int), .bool false, .bool false, .bool false, .pointer (some ⟨bh, 2, none⟩), .int .i64 (a2 : Int), .pointer (some ⟨g, 0, none⟩), .int .i64 kn, .int .i64 rz, .bool false, .bool false, undef, .pointer (some ⟨g, 0, none⟩), .pointer (some ⟨bh, 1, none⟩), .int .i64 (a1 : Int), .pointer (some ⟨bh, 2, none⟩), .int .i64 (a2 : Int), .slice A n c, (slot (D 0) (.slice A n c) (undef)), (slot (D 1) (.int .u32 (cs : Int)) (undef)), (slot (D 2) (.int .i64 (cs : Int)) (undef)), (slot (D 3) (.pointer (some ⟨bh, 3, none⟩)) (undef)), (slot (D 4) (.int .i64 (a3 : Int)) (undef)), (slot (D 5) (.bool true) (undef)), undef, undef, undef], defers := [] } ∧
    (Chg NoB w0 w)
def InvLg (g gb bh W0 a0 a1 a2 a3 : Nat) (u9 u10 u34 u35 u36 u37 u38 u39 u40 u41 u42 u43 u44 u45 u46 : Value) (kn rz : Int) (A : Option Addr) (n c cs : Nat) (hb0 l0 : List UInt8) (w0 : World) (D : Nat → Bool) (a : Act) (w : World) : Prop :=
  a = { tmps := #[.pointer (some ⟨g, 0, none⟩), undef, (slot (D 2) (.slice A n c) (.slice none 0 0)), .pointer (some ⟨W0, 0, none⟩), (slot (D 4) (.int .i64 0) (.int .i64 0)), .int .i64 0, .slice (some ⟨gb, 0, none⟩) 512 512, .int .i64 0, .pointer (some ⟨bh, 0, none⟩), u9, u10, .slice A n c, .pointer (some ⟨g, 0, none⟩), .int .i64 0, .int .i64 0, .bool false, undef, undef, .tuple #[.slice (some ⟨gb, 0, none⟩) 512 512, .int .i64 0], .pointer (some ⟨g, 0, none⟩), .tuple #[.slice (some ⟨gb, 0, none⟩) 512 512, .int .i64 0], .slice (some ⟨gb, 0, none⟩) 512 512, .int .i64 0, .int .i64 0, .bool false, undef, undef, .pointer (some ⟨bh, 0, none⟩), .pointer (some ⟨bh, 1, none⟩), .pointer (some ⟨bh, 2, none⟩), .pointer (some ⟨bh, 3, none⟩), .agg #[.pointer (some ⟨bh, 0, none⟩), .pointer (some ⟨bh, 1, none⟩), .pointer (some ⟨bh, 2, none⟩), .pointer (some ⟨bh, 3, none⟩)], .int .i64 4, .bool false, u34, u35, u36, u37, u38, u39, u40, u41, u42, u43, u44, u45, u46, .agg #[.int .i64 (a0 : Int), .int .i64 (a1 : Int), .int .i64 (a2 : Int), .int .i64 (a3 : Int)], .agg (blkC hb0), .slice (some ⟨gb, 0, none⟩) 512 512, .pointer (some ⟨gb, 0, none⟩), .agg (blkC l0), .bool false, .bool false, .pointer (some ⟨bh, 1, none⟩), .int .i64 (a1 : Int), .bool false, .bool false, .bool false, .pointer (some ⟨bh, 2, none⟩), .int .i64 (a2 : Int), .pointer (some ⟨g, 0, none⟩), .int .i64 kn, .int .i64 rz, .bool false, .bool false, undef, .pointer (some ⟨g, 0, none⟩), .pointer (some ⟨bh, 1, none⟩), .int .i64 (a1 : Int), .pointer (some ⟨bh, 2, none⟩), .int .i64 (a2 : Int), .slice A n c, .slice A n c, .int .u32 (cs : Int), .int .i64 (cs : Int), .pointer (some ⟨bh, 3, none⟩), .int .i64 (a3 : Int), .bool false, undef, (slot (D 0) (.slice A n c) (undef)), (slot (D 1) (.agg #[.int .i64 (a0 : Int), .int .i64 (a1 : Int), .int .i64 (a2 : Int), .int .i64 (a3 : Int)]) (undef))], defers := [] } ∧
    (D 3 = false → Chg NoB w0 w) ∧
    (D 3 = true → Chg (fun b => b = W0) w0 w ∧ Blk w W0 89 #[.int .i64 (a0 : Int), .int .i64 (a1 : Int), .int .i64 (a2 : Int), .int .i64 (a3 : Int)])
set_option maxRecDepth 100000 in
set_option maxHeartbeats 8000000 in
theorem load_any {B : Nat} {F : Nat → Prop} {g : Nat} {K : Dk} {W : World} (hI : DI B W g K F) :
    Calls Try.prog 43 #[.pointer (some ⟨g, 0, none⟩)] W (LoadPost K W) := by
  have hD := hI.disk
  have HFL := Lib.hid (fun i hi => (hI.rng i hi).2)
  have HD := Lib.hid hD
  have hn := hD.num
  have HN := Lib.hid hn
  have HL := Lib.hid hD.now_len
  have HRB := Lib.hid (Blk.new W 89 #[.int .i64 0, .int .i64 0, .int .i64 0, .int .i64 0])
  have HDA := Lib.hid (hD.no ((Chg.refl NoB W).alloc (.cells #[.int .i64 0, .int .i64 0, .int .i64 0, .int .i64 0] 89)))
  have HCA := Lib.hid ((Chg.refl NoB W).alloc (.cells #[.int .i64 0, .int .i64 0, .int .i64 0, .int .i64 0] 89))
  clear hD hI
  go_enter Try.func43, Try.ntmps43
  go_wp2_with fail
  refine (sready_any HDA.out).mono ?_
  rintro e w1 ⟨rfl, rfl⟩
  by_cases h3 : K.n < 3
  · have hE : ldE K = 7 := if_pos h3
    have HE := Lib.hid hE
    rw [show readyE K = 7 from if_pos h3]
    clear hE h3 hn
    go_wp2_with (first
      | (refine wpList_store_blk rfl 89 _ _ rfl W.heap.size _ rfl rfl 89 _ HRB.out rfl head_size (by simp [Value.oneCell']) ?_)
      | fail)
    try simp only [Exit.inBlock, Exit.then]
    refine bodyPost_ret (ld_ret rfl _ _ W.heap.size 89 _ _ _ _ rfl (HRB.out.row _)) rfl (LoadPost.bad 7 HE.out (by decide) rfl (HCA.out.setRow (.inr (Nat.le_refl _)) _))
  have h3' : ¬ K.n < 3 := h3
  rw [show readyE K = 0 from if_neg h3']
  have H3 := Lib.hid h3'
  clear h3'
  clear hn
  go_wp2_with fail
  refine (HDA.out.read 0).mono ?_
  rintro e w5 (⟨hne, rfl, rfl⟩ | ⟨heq, ⟨gb, rfl, hgb, hb5⟩, hc5⟩)
  · have hdk : K.dark = true ∧ readE K 0 = 6 := by
      unfold readE at hne ⊢
      rw [if_neg (by omega)] at hne ⊢
      by_cases hd : K.dark = true
      · exact ⟨hd, if_pos hd⟩
      · rw [if_neg hd] at hne; exact absurd rfl hne
    have hE : ldE K = 6 := by unfold ldE; rw [if_neg (by have := H3.out; omega), if_pos hdk.1]
    have HE := Lib.hid hE
    rw [hdk.2]
    clear hE h3 hne hdk
    go_wp2_with (first
      | (refine wpList_store_blk rfl 89 _ _ rfl W.heap.size _ rfl rfl 89 _ HRB.out rfl head_size (by simp [Value.oneCell']) ?_)
      | fail)
    try simp only [Exit.inBlock, Exit.then]
    refine bodyPost_ret (ld_ret rfl _ _ W.heap.size 89 _ _ _ _ rfl (HRB.out.row _)) rfl (LoadPost.bad 6 HE.out (by decide) rfl (HCA.out.setRow (.inr (Nat.le_refl _)) _))
  have hdk : K.dark = false := by
    unfold readE at heq
    rw [if_neg (by omega)] at heq
    by_cases hd : K.dark = true
    · rw [if_pos hd] at heq; cases heq
    · simpa using hd
  have HDK := Lib.hid hdk
  obtain ⟨l0, hl0⟩ : ∃ l0, l0 = K.now 0 := ⟨_, rfl⟩
  have HL0 := Lib.hid hl0
  have HLL := Lib.hid (show l0.length = 512 from by rw [hl0]; exact HL.out 0)
  rw [← hl0] at hb5
  have HB5 := Lib.hid (show Blk w5 gb 84 ((l0.map bv).toArray) from hb5)
  have HR5 := Lib.hid (HRB.out.chg hc5 (fun h => h))
  have HC5 := Lib.hid (HCA.out.trans hc5 (fun _ _ h => h))
  have HD5 := Lib.hid (HDA.out.no hc5)
  have HGB := Lib.hid (show W.heap.size < gb ∧ gb < w5.heap.size from ⟨by simp at hgb; omega, HB5.out.lt⟩)
  clear heq hdk hl0 hgb hb5 hc5 h3
  have hb6 : Blk (w5.alloc (.cells #[.int .i64 0, .int .i64 0, .int .i64 0, .int .i64 0] 89)) w5.heap.size 89 (hC (fld l0) 0) := Blk.new w5 _ _
  have HB6 := Lib.hid hb6
  clear hb6
  go_wp2_with fail
  generalize hw6 : w5.alloc (.cells #[.int .i64 0, .int .i64 0, .int .i64 0, .int .i64 0] 89) = w6 at HB6 ⊢
  have HC56 := Lib.hid (show Chg NoB w5 w6 from by rw [← hw6]; exact (Chg.refl _ _).alloc _)
  obtain ⟨bh, hbh⟩ : ∃ bh, bh = w5.heap.size := ⟨_, rfl⟩
  rw [← hbh] at HB6 ⊢
  have HBH := Lib.hid (show gb < bh ∧ W.heap.size < bh from by have := HGB.out; omega)
  clear hw6 hbh
  go_loopw [32] (fun i wr => ∃ q : Nat, q ≤ 4 ∧ i = .int .i64 q ∧ Blk wr bh 89 (hC (fld l0) q) ∧ Chg (fun b => b = bh) w6 wr) (fun i _ => 4 - (intOf i).toNat)
  case atStart => exact ⟨0, by omega, rfl, HB6.out, Chg.refl _ _⟩
  case round =>
    obtain ⟨q, hq, rfl, hb, hch⟩ := hrel
    have HCH := Lib.hid hch
    have HBQ := Lib.hid hb
    have HBR := Lib.hid ((HB5.out.chg HC56.out (fun h => h)).chg hch (fun h => by have := HBH.out; omega))
    by_cases hlt : q < 4
    · have hix : ∀ w : World, (Instr.index 110 (.agg #[.pointer (some ⟨bh, 0, none⟩), .pointer (some ⟨bh, 1, none⟩), .pointer (some ⟨bh, 2, none⟩), .pointer (some ⟨bh, 3, none⟩)]) (.int .i64 (q : Int))).run Try.prog w = .ok (.pointer (some ⟨bh, q, none⟩)) w := by
        rcases (by omega : q = 0 ∨ q = 1 ∨ q = 2 ∨ q = 3) with rfl | rfl | rfl | rfl
        all_goals exact fun _ => by kernel_rfl
      have hgf := getL_fld HLL.out q (by omega)
      have HGF := Lib.hid hgf
      have HLT := Lib.hid hlt
      clear hb hch hgf
      go_wp2_with fail
      refine (get4_any (some ⟨gb, 0, none⟩) l0 512 512 (4 + 4 * (q : Int)) HLL.out _ _ (blk_RB HBR.out) (by omega) (by omega)).mono ?_
      rintro e w7 ⟨rfl, hc7⟩
      rw [HGF.out.1, HGF.out.2]
      obtain ⟨x, hx⟩ : ∃ x : Int, x = (fld l0 q : Int) := ⟨_, rfl⟩
      rw [← hx]
      have HX := Lib.hid hx
      have hb7 := HBQ.out.chg hc7 (fun h => h)
      have k0 := hb7.cell q
      rw [Array.getElem?_eq_getElem (by rw [hC_size]; omega)] at k0
      have kf := hb7.frozen q
      have HB7 := Lib.hid hb7
      have HC7 := Lib.hid hc7
      clear hx hb7 hc7 hix
      go_wp2_with fail
      go_roundw
      case rel => exact ⟨q + 1, by omega, by go_num, by rw [← hC_set (fld l0) HLT.out, ← HX.out]; exact HB7.out.set_ q _, (Chg.trans (S := fun b => b = bh) HCH.out (HC7.out.mono (fun _ _ h => h.elim)) (fun _ _ h => h)).setCell (.inl rfl) _⟩
      case measure => simp [intOf]; omega
    · obtain rfl : q = 4 := by omega
      clear hb hch hlt hq
      have hb4 : Blk wr bh 89 (hdV (fld l0)) := HBQ.out
      have HB4 := Lib.hid hb4
      have HD8 := Lib.hid ((HD5.out.no HC56.out).chg HCH.out (fun i hi h => by have h1 : i = bh := h; have h2 := HBH.out; have h3 := HFL.out i hi; omega))
      have HC8 := Lib.hid ((HC5.out.trans HC56.out (fun _ _ h => h)).trans HCH.out (fun i hi h => by have h1 : i = bh := h; have h2 := HBH.out; omega))
      have HR8 := Lib.hid ((HR5.out.chg HC56.out (fun h => h)).chg HCH.out (fun h => by have := HBH.out; omega))
      obtain ⟨a0, ha0⟩ : ∃ a0, a0 = fld l0 0 := ⟨_, rfl⟩
      obtain ⟨a1, ha1⟩ : ∃ a1, a1 = fld l0 1 := ⟨_, rfl⟩
      obtain ⟨a2, ha2⟩ : ∃ a2, a2 = fld l0 2 := ⟨_, rfl⟩
      obtain ⟨a3, ha3⟩ : ∃ a3, a3 = fld l0 3 := ⟨_, rfl⟩
      have HA := Lib.hid (And.intro ha0 (And.intro ha1 (And.intro ha2 ha3)))
      have hlm : a0 < 4294967296 ∧ a1 < 4294967296 ∧ a2 < 4294967296 ∧ a3 < 4294967296 := ⟨ha0 ▸ fld_lt 0, ha1 ▸ fld_lt 1, ha2 ▸ fld_lt 2, ha3 ▸ fld_lt 3⟩
      have HLM := Lib.hid hlm
      unfold hdV at hb4
      rw [← ha0, ← ha1, ← ha2, ← ha3] at hb4
      have HB9 := Lib.hid hb4
      obtain ⟨hb0, hhb0⟩ : ∃ hb0, hb0 = hdr a0 a1 a2 a3 := ⟨_, rfl⟩
      have HHB := Lib.hid hhb0
      have HHL := Lib.hid (show hb0.length = 512 from by rw [hhb0]; exact hdr_len _ _ _ _)
      have hqe := fun w => run_eq_hdr (l := hb0) (m := l0) HHL.out HLL.out w
      obtain ⟨kn, hkn⟩ : ∃ kn, kn = K.n := ⟨_, rfl⟩
      have HKN := Lib.hid hkn
      obtain ⟨rz, hrz⟩ : ∃ rz, rz = roomZ kn := ⟨_, rfl⟩
      have HRZ := Lib.hid hrz
      have HOKB := Lib.hid (show hdOk l0 = (hb0 == l0) from by unfold hdOk; rw [← ha0, ← ha1, ← ha2, ← ha3, ← hhb0])
      have HGD := Lib.hid (show ldGood K ↔ (hb0 == l0) = true ∧ a1 ≤ 1 ∧ (a2 : Int) ≤ rz ∧ crcN (contentL K.now (1 + (a1 : Int) * halfZ kn) a2) = a3 from by
        unfold ldGood ldFrom
        rw [← HL0.out, HOKB.out, ← ha1, ← ha2, ← ha3, ← hkn, ← hrz])
      have HBAD := Lib.hid (show ¬ ldGood K → ldE K = 15 from fun h => by unfold ldE; rw [if_neg (by have := H3.out; omega), if_neg (by rw [HDK.out]; decide), if_neg h])
      have HGOOD := Lib.hid (show ldGood K → ldE K = 0 ∧ ldB K = contentL K.now (1 + (a1 : Int) * halfZ kn) a2 ∧ ldH K = fld l0 from fun h => by
        have h0 : ldE K = 0 := by unfold ldE; rw [if_neg (by have := H3.out; omega), if_neg (by rw [HDK.out]; decide), if_pos h]
        refine ⟨h0, ?_, ?_⟩
        · unfold ldB; rw [if_pos h0]; unfold ldFrom; rw [← HL0.out, ← ha1, ← ha2, ← hkn]
        · funext i; unfold ldH; rw [if_pos h0, ← HL0.out])
      have HKB := Lib.hid (show 3 ≤ kn ∧ kn ≤ 8192 from by have := HN.out; have := H3.out; omega)
      clear hb4 ha0 ha1 ha2 ha3 hlm hhb0 hkn hrz HB4 HBQ HOKB
      by_cases hq1 : (hb0 == l0) = false
      · have HNG := Lib.hid (HBAD.out (fun h => by have h1 := (HGD.out.1 h).1; rw [hq1] at h1; cases h1))
        go_wp2_with fail
        refine wp_region_cl rfl (by kernel_rfl) (InvLa g gb bh W.heap.size a0 a1 a2 a3 u9 u10 u34 u35 u36 u37 u38 u39 u40 u41 u42 u43 u44 u45 u46 kn rz hb0 l0 wr) ?_ ?_ ?_
        · exact ⟨rfl, (Chg.refl _ _).drew⟩
        ·
          intro D a w i o ho hD hcl hpre hI
          obtain ⟨rfl, h0⟩ := hI
          have hi : i < 19 := by have := (List.getElem?_eq_some_iff.1 ho).1; simpa using this
          rcases (by omega : i = 0 ∨ i = 1 ∨ i = 2 ∨ i = 3 ∨ i = 4 ∨ i = 5 ∨ i = 6 ∨ i = 7 ∨ i = 8 ∨ i = 9 ∨ i = 10 ∨ i = 11 ∨ i = 12 ∨ i = 13 ∨ i = 14 ∨ i = 15 ∨ i = 16 ∨ i = 17 ∨ i = 18) with rfl | rfl | rfl | rfl | rfl | rfl | rfl | rfl | rfl | rfl | rfl | rfl | rfl | rfl | rfl | rfl | rfl | rfl | rfl
          · obtain rfl := Option.some.inj ho
            clear ho hpre hi hcl
            have hb := HB9.out.chg h0 (fun h => h)
            go_wp2_with (first
              | (refine wpList_load_row rfl 89 _ rfl bh rfl 89 _ (0, 0) _ hb Try.underlying89 rfl (head_size) ?_)
              | fail)
            unfold AtEnd
            exact ⟨rfl, h0⟩
          · obtain rfl := Option.some.inj ho
            have z0 := hpre ⟨0, .data⟩ (by simp) rfl
            clear ho hpre hi hcl
            have hcw := h0
            have HCW := Lib.hid hcw
            clear h0 hcw
            simp only [z0, slot_true]
            go_wp2_with fail
            refine (bytes_any a0 a1 a2 a3 HLM.out.1 HLM.out.2.1 HLM.out.2.2.1 HLM.out.2.2.2 w).mono ?_
            rintro e w7 ⟨rfl, hc7⟩
            rw [← HHB.out]
            have HC7 := Lib.hid hc7
            clear hc7
            go_wp2_with fail
            unfold AtEnd
            exact ⟨by simp only [more, slot_true, slot_false, Nat.reduceEqDiff, ↓reduceIte, z0], HCW.out.trans HC7.out (fun _ _ h => h)⟩
          · obtain rfl := Option.some.inj ho
            clear ho hpre hi hcl
            go_wp2_with fail
            unfold AtEnd
            exact ⟨rfl, h0⟩
          · obtain rfl := Option.some.inj ho
            have z2 := hpre ⟨2, .data⟩ (by simp) rfl
            clear ho hpre hi hcl
            go_wp2_with fail
            rename_i hkk
            refine hkk _ _ ?_
            go_wp2_with fail
            unfold AtEnd
            exact ⟨by simp only [more, slot_true, slot_false, Nat.reduceEqDiff, ↓reduceIte, z2], h0⟩
          · obtain rfl := Option.some.inj ho
            have z3 := hpre ⟨3, .data⟩ (by simp) rfl
            clear ho hpre hi hcl
            have hb := HBR.out.chg h0 (fun h => h)
            simp only [z3, slot_true]
            go_wp2_with (first
              | (refine wpList_load_row rfl 113 _ rfl gb rfl 84 _ (0, 0) _ (show Blk w gb 84 (blkC l0) from hb) Try.underlying113 rfl (by rw [hdr_size, blkC_size, HLL.out]) ?_)
              | fail)
            unfold AtEnd
            exact ⟨by simp only [more, slot_true, slot_false, Nat.reduceEqDiff, ↓reduceIte, z3], h0⟩
          · obtain rfl := Option.some.inj ho
            have z1 := hpre ⟨1, .data⟩ (by simp) rfl
            have z4 := hpre ⟨4, .data⟩ (by simp) rfl
            clear ho hpre hi hcl
            go_wp2_with fail
            unfold AtEnd
            exact ⟨by simp only [more, slot_true, slot_false, Nat.reduceEqDiff, ↓reduceIte, z1, z4], h0⟩
          · obtain rfl := Option.some.inj ho
            have z5 := hpre ⟨5, .data⟩ (by simp) rfl
            have z1 := hpre ⟨1, .chain⟩ (by simp) rfl
            clear ho hpre hi hcl
            go_wp2_with fail
            unfold AtEnd
            exact ⟨by simp only [more, slot_true, slot_false, Nat.reduceEqDiff, ↓reduceIte, z5, z1], h0⟩
          · obtain rfl := Option.some.inj ho
            have z6 := hpre ⟨6, .guard⟩ (by simp) rfl
            clear ho hpre hi hcl
            go_wp2_with fail
            unfold AtEnd
            exact ⟨by simp only [more, slot_true, slot_false, Nat.reduceEqDiff, ↓reduceIte, z6], h0⟩
          · obtain rfl := Option.some.inj ho
            have z7 := hpre ⟨7, .data⟩ (by simp) rfl
            have z6 := hpre ⟨6, .guard⟩ (by simp) rfl
            clear ho hpre hi hcl
            go_wp2_with fail
            unfold AtEnd
            exact ⟨by simp only [more, slot_true, slot_false, Nat.reduceEqDiff, ↓reduceIte, z7, z6], h0⟩
          · obtain rfl := Option.some.inj ho
            have z8 := hpre ⟨8, .data⟩ (by simp) rfl
            have z6 := hpre ⟨6, .guard⟩ (by simp) rfl
            clear ho hpre hi hcl
            go_wp2_with fail
            unfold AtEnd
            exact ⟨by simp only [more, slot_true, slot_false, Nat.reduceEqDiff, ↓reduceIte, z8, z6], h0⟩
          · obtain rfl := Option.some.inj ho
            have z6 := hpre ⟨6, .data⟩ (by simp) rfl
            have z9 := hpre ⟨9, .data⟩ (by simp) rfl
            clear ho hpre hi hcl
            go_wp2_with fail
            unfold AtEnd
            exact ⟨by simp only [more, slot_true, slot_false, Nat.reduceEqDiff, ↓reduceIte, z6, z9], h0⟩
          · obtain rfl := Option.some.inj ho
            have z10 := hpre ⟨10, .data⟩ (by simp) rfl
            have z6 := hpre ⟨6, .chain⟩ (by simp) rfl
            clear ho hpre hi hcl
            go_wp2_with fail
            unfold AtEnd
            exact ⟨by simp only [more, slot_true, slot_false, Nat.reduceEqDiff, ↓reduceIte, z10, z6], h0⟩
          · obtain rfl := Option.some.inj ho
            have z11 := hpre ⟨11, .guard⟩ (by simp) rfl
            clear ho hpre hi hcl
            go_wp2_with fail
            unfold AtEnd
            exact ⟨by simp only [more, slot_true, slot_false, Nat.reduceEqDiff, ↓reduceIte, z11], h0⟩
          · obtain rfl := Option.some.inj ho
            have z12 := hpre ⟨12, .data⟩ (by simp) rfl
            have z11 := hpre ⟨11, .guard⟩ (by simp) rfl
            clear ho hpre hi hcl
            go_wp2_with fail
            unfold AtEnd
            exact ⟨by simp only [more, slot_true, slot_false, Nat.reduceEqDiff, ↓reduceIte, z12, z11], h0⟩
          · obtain rfl := Option.some.inj ho
            have z11 := hpre ⟨11, .guard⟩ (by simp) rfl
            clear ho hpre hi hcl
            go_wp2_with fail
            unfold AtEnd
            exact ⟨by simp only [more, slot_true, slot_false, Nat.reduceEqDiff, ↓reduceIte, z11], h0⟩
          · obtain rfl := Option.some.inj ho
            have z14 := hpre ⟨14, .data⟩ (by simp) rfl
            have z11 := hpre ⟨11, .chain⟩ (by simp) rfl
            clear ho hpre hi hcl
            go_wp2_with fail
            unfold AtEnd
            exact ⟨by simp only [more, slot_true, slot_false, Nat.reduceEqDiff, ↓reduceIte, z14, z11], h0⟩
          · obtain rfl := Option.some.inj ho
            have z15 := hpre ⟨15, .data⟩ (by simp) rfl
            have z11 := hpre ⟨11, .guard⟩ (by simp) rfl
            clear ho hpre hi hcl
            go_wp2_with fail
            unfold AtEnd
            exact ⟨by simp only [more, slot_true, slot_false, Nat.reduceEqDiff, ↓reduceIte, z15, z11], h0⟩
          · obtain rfl := Option.some.inj ho
            have z13 := hpre ⟨13, .data⟩ (by simp) rfl
            have z16 := hpre ⟨16, .data⟩ (by simp) rfl
            have z11 := hpre ⟨11, .guard⟩ (by simp) rfl
            clear ho hpre hi hcl
            go_wp2_with fail
            unfold AtEnd
            exact ⟨by simp only [more, slot_true, slot_false, Nat.reduceEqDiff, ↓reduceIte, z13, z16, z11], h0⟩
          · obtain rfl := Option.some.inj ho
            have z11 := hpre ⟨11, .data⟩ (by simp) rfl
            have z17 := hpre ⟨17, .data⟩ (by simp) rfl
            clear ho hpre hi hcl
            go_wp2_with fail
            unfold AtEnd
            exact ⟨by simp only [more, slot_true, slot_false, Nat.reduceEqDiff, ↓reduceIte, z11, z17], h0⟩
        · intro D a w hall hI
          obtain ⟨rfl, h0⟩ := hI
          have hc0 := h0
          have HC9 := Lib.hid (HC8.out.trans hc0 (fun _ _ h => h))
          have HR9 := Lib.hid (HR8.out.chg hc0 (fun h => h))
          have z18 := hall 18 (by decide)
          clear h0 hall hc0
          simp only [z18, slot_true]
          go_wp2_with (first
            | (refine wpList_store_blk rfl 89 _ _ rfl W.heap.size _ rfl rfl 89 _ HR9.out rfl head_size (by simp [Value.oneCell']) ?_)
            | fail)
          try simp only [Exit.inBlock, Exit.then]
          refine bodyPost_ret (ld_ret rfl _ _ W.heap.size 89 _ _ _ _ rfl (HR9.out.row _)) rfl (LoadPost.bad 15 HNG.out (by decide) rfl (HC9.out.setRow (.inr (Nat.le_refl _)) _))
      have hq2 : (hb0 == l0) = true := by simpa using hq1
      clear hq1
      by_cases hs1 : 1 < a1
      · have HNG := Lib.hid (HBAD.out (fun h => by have h1 := (HGD.out.1 h).2.1; omega))
        have hs2 : (1 : Int) < (a1 : Int) := by omega
        go_wp2_with fail
        refine wp_region_cl rfl (by kernel_rfl) (InvLb g gb bh W.heap.size a0 a1 a2 a3 u9 u10 u34 u35 u36 u37 u38 u39 u40 u41 u42 u43 u44 u45 u46 kn rz hb0 l0 wr) ?_ ?_ ?_
        · exact ⟨rfl, (Chg.refl _ _).drew⟩
        ·
          intro D a w i o ho hD hcl hpre hI
          obtain ⟨rfl, h0⟩ := hI
          have hi : i < 19 := by have := (List.getElem?_eq_some_iff.1 ho).1; simpa using this
          rcases (by omega : i = 0 ∨ i = 1 ∨ i = 2 ∨ i = 3 ∨ i = 4 ∨ i = 5 ∨ i = 6 ∨ i = 7 ∨ i = 8 ∨ i = 9 ∨ i = 10 ∨ i = 11 ∨ i = 12 ∨ i = 13 ∨ i = 14 ∨ i = 15 ∨ i = 16 ∨ i = 17 ∨ i = 18) with rfl | rfl | rfl | rfl | rfl | rfl | rfl | rfl | rfl | rfl | rfl | rfl | rfl | rfl | rfl | rfl | rfl | rfl | rfl
          · obtain rfl := Option.some.inj ho
            clear ho hpre hi hcl
            have hb := HB9.out.chg h0 (fun h => h)
            go_wp2_with (first
              | (refine wpList_load_row rfl 89 _ rfl bh rfl 89 _ (0, 0) _ hb Try.underlying89 rfl (head_size) ?_)
              | fail)
            unfold AtEnd
            exact ⟨rfl, h0⟩
          · obtain rfl := Option.some.inj ho
            have z0 := hpre ⟨0, .data⟩ (by simp) rfl
            clear ho hpre hi hcl
            have hcw := h0
            have HCW := Lib.hid hcw
            clear h0 hcw
            simp only [z0, slot_true]
            go_wp2_with fail
            refine (bytes_any a0 a1 a2 a3 HLM.out.1 HLM.out.2.1 HLM.out.2.2.1 HLM.out.2.2.2 w).mono ?_
            rintro e w7 ⟨rfl, hc7⟩
            rw [← HHB.out]
            have HC7 := Lib.hid hc7
            clear hc7
            go_wp2_with fail
            unfold AtEnd
            exact ⟨by simp only [more, slot_true, slot_false, Nat.reduceEqDiff, ↓reduceIte, z0], HCW.out.trans HC7.out (fun _ _ h => h)⟩
          · obtain rfl := Option.some.inj ho
            clear ho hpre hi hcl
            go_wp2_with fail
            unfold AtEnd
            exact ⟨rfl, h0⟩
          · obtain rfl := Option.some.inj ho
            have z2 := hpre ⟨2, .data⟩ (by simp) rfl
            clear ho hpre hi hcl
            go_wp2_with fail
            rename_i hkk
            refine hkk _ _ ?_
            go_wp2_with fail
            unfold AtEnd
            exact ⟨by simp only [more, slot_true, slot_false, Nat.reduceEqDiff, ↓reduceIte, z2], h0⟩
          · obtain rfl := Option.some.inj ho
            have z3 := hpre ⟨3, .data⟩ (by simp) rfl
            clear ho hpre hi hcl
            have hb := HBR.out.chg h0 (fun h => h)
            simp only [z3, slot_true]
            go_wp2_with (first
              | (refine wpList_load_row rfl 113 _ rfl gb rfl 84 _ (0, 0) _ (show Blk w gb 84 (blkC l0) from hb) Try.underlying113 rfl (by rw [hdr_size, blkC_size, HLL.out]) ?_)
              | fail)
            unfold AtEnd
            exact ⟨by simp only [more, slot_true, slot_false, Nat.reduceEqDiff, ↓reduceIte, z3], h0⟩
          · obtain rfl := Option.some.inj ho
            have z1 := hpre ⟨1, .data⟩ (by simp) rfl
            have z4 := hpre ⟨4, .data⟩ (by simp) rfl
            clear ho hpre hi hcl
            go_wp2_with fail
            unfold AtEnd
            exact ⟨by simp only [more, slot_true, slot_false, Nat.reduceEqDiff, ↓reduceIte, z1, z4], h0⟩
          · obtain rfl := Option.some.inj ho
            have z5 := hpre ⟨5, .data⟩ (by simp) rfl
            have z1 := hpre ⟨1, .chain⟩ (by simp) rfl
            clear ho hpre hi hcl
            go_wp2_with fail
            unfold AtEnd
            exact ⟨by simp only [more, slot_true, slot_false, Nat.reduceEqDiff, ↓reduceIte, z5, z1], h0⟩
          · obtain rfl := Option.some.inj ho
            have z6 := hpre ⟨6, .guard⟩ (by simp) rfl
            clear ho hpre hi hcl
            go_wp2_with fail
            unfold AtEnd
            exact ⟨by simp only [more, slot_true, slot_false, Nat.reduceEqDiff, ↓reduceIte, z6], h0⟩
          · obtain rfl := Option.some.inj ho
            have z7 := hpre ⟨7, .data⟩ (by simp) rfl
            have z6 := hpre ⟨6, .guard⟩ (by simp) rfl
            clear ho hpre hi hcl
            have k0 := (HB9.out.chg h0 (fun h => h)).cell 1
            go_wp2_with fail
            unfold AtEnd
            exact ⟨by simp only [more, slot_true, slot_false, Nat.reduceEqDiff, ↓reduceIte, z7, z6], h0⟩
          · obtain rfl := Option.some.inj ho
            have z8 := hpre ⟨8, .data⟩ (by simp) rfl
            have z6 := hpre ⟨6, .guard⟩ (by simp) rfl
            clear ho hpre hi hcl
            go_wp2_with fail
            unfold AtEnd
            exact ⟨by simp only [more, slot_true, slot_false, Nat.reduceEqDiff, ↓reduceIte, z8, z6], h0⟩
          · obtain rfl := Option.some.inj ho
            have z6 := hpre ⟨6, .data⟩ (by simp) rfl
            have z9 := hpre ⟨9, .data⟩ (by simp) rfl
            clear ho hpre hi hcl
            go_wp2_with fail
            unfold AtEnd
            exact ⟨by simp only [more, slot_true, slot_false, Nat.reduceEqDiff, ↓reduceIte, z6, z9], h0⟩
          · obtain rfl := Option.some.inj ho
            have z10 := hpre ⟨10, .data⟩ (by simp) rfl
            have z6 := hpre ⟨6, .chain⟩ (by simp) rfl
            clear ho hpre hi hcl
            go_wp2_with fail
            unfold AtEnd
            exact ⟨by simp only [more, slot_true, slot_false, Nat.reduceEqDiff, ↓reduceIte, z10, z6], h0⟩
          · obtain rfl := Option.some.inj ho
            have z11 := hpre ⟨11, .guard⟩ (by simp) rfl
            clear ho hpre hi hcl
            go_wp2_with fail
            unfold AtEnd
            exact ⟨by simp only [more, slot_true, slot_false, Nat.reduceEqDiff, ↓reduceIte, z11], h0⟩
          · obtain rfl := Option.some.inj ho
            have z12 := hpre ⟨12, .data⟩ (by simp) rfl
            have z11 := hpre ⟨11, .guard⟩ (by simp) rfl
            clear ho hpre hi hcl
            go_wp2_with fail
            unfold AtEnd
            exact ⟨by simp only [more, slot_true, slot_false, Nat.reduceEqDiff, ↓reduceIte, z12, z11], h0⟩
          · obtain rfl := Option.some.inj ho
            have z11 := hpre ⟨11, .guard⟩ (by simp) rfl
            clear ho hpre hi hcl
            go_wp2_with fail
            unfold AtEnd
            exact ⟨by simp only [more, slot_true, slot_false, Nat.reduceEqDiff, ↓reduceIte, z11], h0⟩
          · obtain rfl := Option.some.inj ho
            have z14 := hpre ⟨14, .data⟩ (by simp) rfl
            have z11 := hpre ⟨11, .chain⟩ (by simp) rfl
            clear ho hpre hi hcl
            go_wp2_with fail
            unfold AtEnd
            exact ⟨by simp only [more, slot_true, slot_false, Nat.reduceEqDiff, ↓reduceIte, z14, z11], h0⟩
          · obtain rfl := Option.some.inj ho
            have z15 := hpre ⟨15, .data⟩ (by simp) rfl
            have z11 := hpre ⟨11, .guard⟩ (by simp) rfl
            clear ho hpre hi hcl
            go_wp2_with fail
            unfold AtEnd
            exact ⟨by simp only [more, slot_true, slot_false, Nat.reduceEqDiff, ↓reduceIte, z15, z11], h0⟩
          · obtain rfl := Option.some.inj ho
            have z13 := hpre ⟨13, .data⟩ (by simp) rfl
            have z16 := hpre ⟨16, .data⟩ (by simp) rfl
            have z11 := hpre ⟨11, .guard⟩ (by simp) rfl
            clear ho hpre hi hcl
            go_wp2_with fail
            unfold AtEnd
            exact ⟨by simp only [more, slot_true, slot_false, Nat.reduceEqDiff, ↓reduceIte, z13, z16, z11], h0⟩
          · obtain rfl := Option.some.inj ho
            have z11 := hpre ⟨11, .data⟩ (by simp) rfl
            have z17 := hpre ⟨17, .data⟩ (by simp) rfl
            clear ho hpre hi hcl
            go_wp2_with fail
            unfold AtEnd
            exact ⟨by simp only [more, slot_true, slot_false, Nat.reduceEqDiff, ↓reduceIte, z11, z17], h0⟩
        · intro D a w hall hI
          obtain ⟨rfl, h0⟩ := hI
          have hc0 := h0
          have HC9 := Lib.hid (HC8.out.trans hc0 (fun _ _ h => h))
          have HR9 := Lib.hid (HR8.out.chg hc0 (fun h => h))
          have z18 := hall 18 (by decide)
          clear h0 hall hc0
          simp only [z18, slot_true]
          go_wp2_with (first
            | (refine wpList_store_blk rfl 89 _ _ rfl W.heap.size _ rfl rfl 89 _ HR9.out rfl head_size (by simp [Value.oneCell']) ?_)
            | fail)
          try simp only [Exit.inBlock, Exit.then]
          refine bodyPost_ret (ld_ret rfl _ _ W.heap.size 89 _ _ _ _ rfl (HR9.out.row _)) rfl (LoadPost.bad 15 HNG.out (by decide) rfl (HC9.out.setRow (.inr (Nat.le_refl _)) _))
      have hs2 : (a1 : Int) ≤ 1 := by omega
      have hs3 : decide ((1 : Int) < (a1 : Int)) = false := by simpa using hs2
      have HS1 := Lib.hid (show a1 ≤ 1 from by omega)
      clear hs1
      by_cases hz1 : rz < (a2 : Int)
      · have HNG := Lib.hid (HBAD.out (fun h => by have h1 := (HGD.out.1 h).2.2.1; omega))
        go_wp2_with fail
        refine wp_region_cl rfl (by kernel_rfl) (InvLc g gb bh W.heap.size a0 a1 a2 a3 u9 u10 u34 u35 u36 u37 u38 u39 u40 u41 u42 u43 u44 u45 u46 kn rz hb0 l0 wr) ?_ ?_ ?_
        · exact ⟨rfl, (Chg.refl _ _).drew⟩
        ·
          intro D a w i o ho hD hcl hpre hI
          obtain ⟨rfl, h0⟩ := hI
          have hi : i < 19 := by have := (List.getElem?_eq_some_iff.1 ho).1; simpa using this
          rcases (by omega : i = 0 ∨ i = 1 ∨ i = 2 ∨ i = 3 ∨ i = 4 ∨ i = 5 ∨ i = 6 ∨ i = 7 ∨ i = 8 ∨ i = 9 ∨ i = 10 ∨ i = 11 ∨ i = 12 ∨ i = 13 ∨ i = 14 ∨ i = 15 ∨ i = 16 ∨ i = 17 ∨ i = 18) with rfl | rfl | rfl | rfl | rfl | rfl | rfl | rfl | rfl | rfl | rfl | rfl | rfl | rfl | rfl | rfl | rfl | rfl | rfl
          · obtain rfl := Option.some.inj ho
            clear ho hpre hi hcl
            have hb := HB9.out.chg h0 (fun h => h)
            go_wp2_with (first
              | (refine wpList_load_row rfl 89 _ rfl bh rfl 89 _ (0, 0) _ hb Try.underlying89 rfl (head_size) ?_)
              | fail)
            unfold AtEnd
            exact ⟨rfl, h0⟩
          · obtain rfl := Option.some.inj ho
            have z0 := hpre ⟨0, .data⟩ (by simp) rfl
            clear ho hpre hi hcl
            have hcw := h0
            have HCW := Lib.hid hcw
            clear h0 hcw
            simp only [z0, slot_true]
            go_wp2_with fail
            refine (bytes_any a0 a1 a2 a3 HLM.out.1 HLM.out.2.1 HLM.out.2.2.1 HLM.out.2.2.2 w).mono ?_
            rintro e w7 ⟨rfl, hc7⟩
            rw [← HHB.out]
            have HC7 := Lib.hid hc7
            clear hc7
            go_wp2_with fail
            unfold AtEnd
            exact ⟨by simp only [more, slot_true, slot_false, Nat.reduceEqDiff, ↓reduceIte, z0], HCW.out.trans HC7.out (fun _ _ h => h)⟩
          · obtain rfl := Option.some.inj ho
            clear ho hpre hi hcl
            go_wp2_with fail
            unfold AtEnd
            exact ⟨rfl, h0⟩
          · obtain rfl := Option.some.inj ho
            have z2 := hpre ⟨2, .data⟩ (by simp) rfl
            clear ho hpre hi hcl
            go_wp2_with fail
            rename_i hkk
            refine hkk _ _ ?_
            go_wp2_with fail
            unfold AtEnd
            exact ⟨by simp only [more, slot_true, slot_false, Nat.reduceEqDiff, ↓reduceIte, z2], h0⟩
          · obtain rfl := Option.some.inj ho
            have z3 := hpre ⟨3, .data⟩ (by simp) rfl
            clear ho hpre hi hcl
            have hb := HBR.out.chg h0 (fun h => h)
            simp only [z3, slot_true]
            go_wp2_with (first
              | (refine wpList_load_row rfl 113 _ rfl gb rfl 84 _ (0, 0) _ (show Blk w gb 84 (blkC l0) from hb) Try.underlying113 rfl (by rw [hdr_size, blkC_size, HLL.out]) ?_)
              | fail)
            unfold AtEnd
            exact ⟨by simp only [more, slot_true, slot_false, Nat.reduceEqDiff, ↓reduceIte, z3], h0⟩
          · obtain rfl := Option.some.inj ho
            have z1 := hpre ⟨1, .data⟩ (by simp) rfl
            have z4 := hpre ⟨4, .data⟩ (by simp) rfl
            clear ho hpre hi hcl
            go_wp2_with fail
            unfold AtEnd
            exact ⟨by simp only [more, slot_true, slot_false, Nat.reduceEqDiff, ↓reduceIte, z1, z4], h0⟩
          · obtain rfl := Option.some.inj ho
            have z5 := hpre ⟨5, .data⟩ (by simp) rfl
            have z1 := hpre ⟨1, .chain⟩ (by simp) rfl
            clear ho hpre hi hcl
            go_wp2_with fail
            unfold AtEnd
            exact ⟨by simp only [more, slot_true, slot_false, Nat.reduceEqDiff, ↓reduceIte, z5, z1], h0⟩
          · obtain rfl := Option.some.inj ho
            have z6 := hpre ⟨6, .guard⟩ (by simp) rfl
            clear ho hpre hi hcl
            go_wp2_with fail
            unfold AtEnd
            exact ⟨by simp only [more, slot_true, slot_false, Nat.reduceEqDiff, ↓reduceIte, z6], h0⟩
          · obtain rfl := Option.some.inj ho
            have z7 := hpre ⟨7, .data⟩ (by simp) rfl
            have z6 := hpre ⟨6, .guard⟩ (by simp) rfl
            clear ho hpre hi hcl
            have k0 := (HB9.out.chg h0 (fun h => h)).cell 1
            go_wp2_with fail
            unfold AtEnd
            exact ⟨by simp only [more, slot_true, slot_false, Nat.reduceEqDiff, ↓reduceIte, z7, z6], h0⟩
          · obtain rfl := Option.some.inj ho
            have z8 := hpre ⟨8, .data⟩ (by simp) rfl
            have z6 := hpre ⟨6, .guard⟩ (by simp) rfl
            clear ho hpre hi hcl
            go_wp2_with fail
            unfold AtEnd
            exact ⟨by simp only [more, slot_true, slot_false, Nat.reduceEqDiff, ↓reduceIte, z8, z6, hs3], h0⟩
          · obtain rfl := Option.some.inj ho
            have z6 := hpre ⟨6, .data⟩ (by simp) rfl
            have z9 := hpre ⟨9, .data⟩ (by simp) rfl
            clear ho hpre hi hcl
            go_wp2_with fail
            unfold AtEnd
            exact ⟨by simp only [more, slot_true, slot_false, Nat.reduceEqDiff, ↓reduceIte, z6, z9], h0⟩
          · obtain rfl := Option.some.inj ho
            have z10 := hpre ⟨10, .data⟩ (by simp) rfl
            have z6 := hpre ⟨6, .chain⟩ (by simp) rfl
            clear ho hpre hi hcl
            go_wp2_with fail
            unfold AtEnd
            exact ⟨by simp only [more, slot_true, slot_false, Nat.reduceEqDiff, ↓reduceIte, z10, z6], h0⟩
          · obtain rfl := Option.some.inj ho
            have z11 := hpre ⟨11, .guard⟩ (by simp) rfl
            clear ho hpre hi hcl
            go_wp2_with fail
            unfold AtEnd
            exact ⟨by simp only [more, slot_true, slot_false, Nat.reduceEqDiff, ↓reduceIte, z11], h0⟩
          · obtain rfl := Option.some.inj ho
            have z12 := hpre ⟨12, .data⟩ (by simp) rfl
            have z11 := hpre ⟨11, .guard⟩ (by simp) rfl
            clear ho hpre hi hcl
            have k0 := (HB9.out.chg h0 (fun h => h)).cell 2
            go_wp2_with fail
            unfold AtEnd
            exact ⟨by simp only [more, slot_true, slot_false, Nat.reduceEqDiff, ↓reduceIte, z12, z11], h0⟩
          · obtain rfl := Option.some.inj ho
            have z11 := hpre ⟨11, .guard⟩ (by simp) rfl
            clear ho hpre hi hcl
            go_wp2_with fail
            unfold AtEnd
            exact ⟨by simp only [more, slot_true, slot_false, Nat.reduceEqDiff, ↓reduceIte, z11], h0⟩
          · obtain rfl := Option.some.inj ho
            have z14 := hpre ⟨14, .data⟩ (by simp) rfl
            have z11 := hpre ⟨11, .chain⟩ (by simp) rfl
            clear ho hpre hi hcl
            have hdd := (HD8.out.no h0).len_
            have HDD := Lib.hid hdd
            clear hdd
            go_wp2_with fail
            refine HDD.out.mono ?_
            rintro e w7 ⟨rfl, rfl⟩
            rw [← HKN.out]
            go_wp2_with fail
            unfold AtEnd
            exact ⟨by simp only [more, slot_true, slot_false, Nat.reduceEqDiff, ↓reduceIte, z14, z11], h0⟩
          · obtain rfl := Option.some.inj ho
            have z15 := hpre ⟨15, .data⟩ (by simp) rfl
            have z11 := hpre ⟨11, .guard⟩ (by simp) rfl
            clear ho hpre hi hcl
            simp only [z15, slot_true]
            go_wp2_with fail
            refine (room_any kn (by have := HKB.out; omega) (by have := HKB.out; omega) w).mono ?_
            rintro e w7 ⟨rfl, rfl⟩
            rw [← HRZ.out]
            go_wp2_with fail
            unfold AtEnd
            exact ⟨by simp only [more, slot_true, slot_false, Nat.reduceEqDiff, ↓reduceIte, z15, z11], h0⟩
          · obtain rfl := Option.some.inj ho
            have z13 := hpre ⟨13, .data⟩ (by simp) rfl
            have z16 := hpre ⟨16, .data⟩ (by simp) rfl
            have z11 := hpre ⟨11, .guard⟩ (by simp) rfl
            clear ho hpre hi hcl
            go_wp2_with fail
            unfold AtEnd
            exact ⟨by simp only [more, slot_true, slot_false, Nat.reduceEqDiff, ↓reduceIte, z13, z16, z11], h0⟩
          · obtain rfl := Option.some.inj ho
            have z11 := hpre ⟨11, .data⟩ (by simp) rfl
            have z17 := hpre ⟨17, .data⟩ (by simp) rfl
            clear ho hpre hi hcl
            go_wp2_with fail
            unfold AtEnd
            exact ⟨by simp only [more, slot_true, slot_false, Nat.reduceEqDiff, ↓reduceIte, z11, z17], h0⟩
        · intro D a w hall hI
          obtain ⟨rfl, h0⟩ := hI
          have hc0 := h0
          have HC9 := Lib.hid (HC8.out.trans hc0 (fun _ _ h => h))
          have HR9 := Lib.hid (HR8.out.chg hc0 (fun h => h))
          have z18 := hall 18 (by decide)
          clear h0 hall hc0
          simp only [z18, slot_true]
          go_wp2_with (first
            | (refine wpList_store_blk rfl 89 _ _ rfl W.heap.size _ rfl rfl 89 _ HR9.out rfl head_size (by simp [Value.oneCell']) ?_)
            | fail)
          try simp only [Exit.inBlock, Exit.then]
          refine bodyPost_ret (ld_ret rfl _ _ W.heap.size 89 _ _ _ _ rfl (HR9.out.row _)) rfl (LoadPost.bad 15 HNG.out (by decide) rfl (HC9.out.setRow (.inr (Nat.le_refl _)) _))
      have HZ1 := Lib.hid (show (a2 : Int) ≤ rz from by omega)
      have hz2 : ¬ rz < (a2 : Int) := hz1
      have hz3 : decide (rz < (a2 : Int)) = false := by simpa using hz2
      clear hz1
      go_wp2_with fail
      refine wp_region_cl rfl (by kernel_rfl) (InvLd g gb bh W.heap.size a0 a1 a2 a3 u9 u10 u34 u35 u36 u37 u38 u39 u40 u41 u42 u43 u44 u45 u46 kn rz hb0 l0 wr) ?_ ?_ ?_
      · exact ⟨rfl, (Chg.refl _ _).drew⟩
      ·
        intro D a w i o ho hD hcl hpre hI
        obtain ⟨rfl, h0⟩ := hI
        have hi : i < 19 := by have := (List.getElem?_eq_some_iff.1 ho).1; simpa using this
        rcases (by omega : i = 0 ∨ i = 1 ∨ i = 2 ∨ i = 3 ∨ i = 4 ∨ i = 5 ∨ i = 6 ∨ i = 7 ∨ i = 8 ∨ i = 9 ∨ i = 10 ∨ i = 11 ∨ i = 12 ∨ i = 13 ∨ i = 14 ∨ i = 15 ∨ i = 16 ∨ i = 17 ∨ i = 18) with rfl | rfl | rfl | rfl | rfl | rfl | rfl | rfl | rfl | rfl | rfl | rfl | rfl | rfl | rfl | rfl | rfl | rfl | rfl
        · obtain rfl := Option.some.inj ho
          clear ho hpre hi hcl
          have hb := HB9.out.chg h0 (fun h => h)
          go_wp2_with (first
            | (refine wpList_load_row rfl 89 _ rfl bh rfl 89 _ (0, 0) _ hb Try.underlying89 rfl (head_size) ?_)
            | fail)
          unfold AtEnd
          exact ⟨rfl, h0⟩
        · obtain rfl := Option.some.inj ho
          have z0 := hpre ⟨0, .data⟩ (by simp) rfl
          clear ho hpre hi hcl
          have hcw := h0
          have HCW := Lib.hid hcw
          clear h0 hcw
          simp only [z0, slot_true]
          go_wp2_with fail
          refine (bytes_any a0 a1 a2 a3 HLM.out.1 HLM.out.2.1 HLM.out.2.2.1 HLM.out.2.2.2 w).mono ?_
          rintro e w7 ⟨rfl, hc7⟩
          rw [← HHB.out]
          have HC7 := Lib.hid hc7
          clear hc7
          go_wp2_with fail
          unfold AtEnd
          exact ⟨by simp only [more, slot_true, slot_false, Nat.reduceEqDiff, ↓reduceIte, z0], HCW.out.trans HC7.out (fun _ _ h => h)⟩
        · obtain rfl := Option.some.inj ho
          clear ho hpre hi hcl
          go_wp2_with fail
          unfold AtEnd
          exact ⟨rfl, h0⟩
        · obtain rfl := Option.some.inj ho
          have z2 := hpre ⟨2, .data⟩ (by simp) rfl
          clear ho hpre hi hcl
          go_wp2_with fail
          rename_i hkk
          refine hkk _ _ ?_
          go_wp2_with fail
          unfold AtEnd
          exact ⟨by simp only [more, slot_true, slot_false, Nat.reduceEqDiff, ↓reduceIte, z2], h0⟩
        · obtain rfl := Option.some.inj ho
          have z3 := hpre ⟨3, .data⟩ (by simp) rfl
          clear ho hpre hi hcl
          have hb := HBR.out.chg h0 (fun h => h)
          simp only [z3, slot_true]
          go_wp2_with (first
            | (refine wpList_load_row rfl 113 _ rfl gb rfl 84 _ (0, 0) _ (show Blk w gb 84 (blkC l0) from hb) Try.underlying113 rfl (by rw [hdr_size, blkC_size, HLL.out]) ?_)
            | fail)
          unfold AtEnd
          exact ⟨by simp only [more, slot_true, slot_false, Nat.reduceEqDiff, ↓reduceIte, z3], h0⟩
        · obtain rfl := Option.some.inj ho
          have z1 := hpre ⟨1, .data⟩ (by simp) rfl
          have z4 := hpre ⟨4, .data⟩ (by simp) rfl
          clear ho hpre hi hcl
          go_wp2_with fail
          unfold AtEnd
          exact ⟨by simp only [more, slot_true, slot_false, Nat.reduceEqDiff, ↓reduceIte, z1, z4], h0⟩
        · obtain rfl := Option.some.inj ho
          have z5 := hpre ⟨5, .data⟩ (by simp) rfl
          have z1 := hpre ⟨1, .chain⟩ (by simp) rfl
          clear ho hpre hi hcl
          go_wp2_with fail
          unfold AtEnd
          exact ⟨by simp only [more, slot_true, slot_false, Nat.reduceEqDiff, ↓reduceIte, z5, z1], h0⟩
        · obtain rfl := Option.some.inj ho
          have z6 := hpre ⟨6, .guard⟩ (by simp) rfl
          clear ho hpre hi hcl
          go_wp2_with fail
          unfold AtEnd
          exact ⟨by simp only [more, slot_true, slot_false, Nat.reduceEqDiff, ↓reduceIte, z6], h0⟩
        · obtain rfl := Option.some.inj ho
          have z7 := hpre ⟨7, .data⟩ (by simp) rfl
          have z6 := hpre ⟨6, .guard⟩ (by simp) rfl
          clear ho hpre hi hcl
          have k0 := (HB9.out.chg h0 (fun h => h)).cell 1
          go_wp2_with fail
          unfold AtEnd
          exact ⟨by simp only [more, slot_true, slot_false, Nat.reduceEqDiff, ↓reduceIte, z7, z6], h0⟩
        · obtain rfl := Option.some.inj ho
          have z8 := hpre ⟨8, .data⟩ (by simp) rfl
          have z6 := hpre ⟨6, .guard⟩ (by simp) rfl
          clear ho hpre hi hcl
          go_wp2_with fail
          unfold AtEnd
          exact ⟨by simp only [more, slot_true, slot_false, Nat.reduceEqDiff, ↓reduceIte, z8, z6, hs3], h0⟩
        · obtain rfl := Option.some.inj ho
          have z6 := hpre ⟨6, .data⟩ (by simp) rfl
          have z9 := hpre ⟨9, .data⟩ (by simp) rfl
          clear ho hpre hi hcl
          go_wp2_with fail
          unfold AtEnd
          exact ⟨by simp only [more, slot_true, slot_false, Nat.reduceEqDiff, ↓reduceIte, z6, z9], h0⟩
        · obtain rfl := Option.some.inj ho
          have z10 := hpre ⟨10, .data⟩ (by simp) rfl
          have z6 := hpre ⟨6, .chain⟩ (by simp) rfl
          clear ho hpre hi hcl
          go_wp2_with fail
          unfold AtEnd
          exact ⟨by simp only [more, slot_true, slot_false, Nat.reduceEqDiff, ↓reduceIte, z10, z6], h0⟩
        · obtain rfl := Option.some.inj ho
          have z11 := hpre ⟨11, .guard⟩ (by simp) rfl
          clear ho hpre hi hcl
          go_wp2_with fail
          unfold AtEnd
          exact ⟨by simp only [more, slot_true, slot_false, Nat.reduceEqDiff, ↓reduceIte, z11], h0⟩
        · obtain rfl := Option.some.inj ho
          have z12 := hpre ⟨12, .data⟩ (by simp) rfl
          have z11 := hpre ⟨11, .guard⟩ (by simp) rfl
          clear ho hpre hi hcl
          have k0 := (HB9.out.chg h0 (fun h => h)).cell 2
          go_wp2_with fail
          unfold AtEnd
          exact ⟨by simp only [more, slot_true, slot_false, Nat.reduceEqDiff, ↓reduceIte, z12, z11], h0⟩
        · obtain rfl := Option.some.inj ho
          have z11 := hpre ⟨11, .guard⟩ (by simp) rfl
          clear ho hpre hi hcl
          go_wp2_with fail
          unfold AtEnd
          exact ⟨by simp only [more, slot_true, slot_false, Nat.reduceEqDiff, ↓reduceIte, z11], h0⟩
        · obtain rfl := Option.some.inj ho
          have z14 := hpre ⟨14, .data⟩ (by simp) rfl
          have z11 := hpre ⟨11, .chain⟩ (by simp) rfl
          clear ho hpre hi hcl
          have hdd := (HD8.out.no h0).len_
          have HDD := Lib.hid hdd
          clear hdd
          go_wp2_with fail
          refine HDD.out.mono ?_
          rintro e w7 ⟨rfl, rfl⟩
          rw [← HKN.out]
          go_wp2_with fail
          unfold AtEnd
          exact ⟨by simp only [more, slot_true, slot_false, Nat.reduceEqDiff, ↓reduceIte, z14, z11], h0⟩
        · obtain rfl := Option.some.inj ho
          have z15 := hpre ⟨15, .data⟩ (by simp) rfl
          have z11 := hpre ⟨11, .guard⟩ (by simp) rfl
          clear ho hpre hi hcl
          simp only [z15, slot_true]
          go_wp2_with fail
          refine (room_any kn (by have := HKB.out; omega) (by have := HKB.out; omega) w).mono ?_
          rintro e w7 ⟨rfl, rfl⟩
          rw [← HRZ.out]
          go_wp2_with fail
          unfold AtEnd
          exact ⟨by simp only [more, slot_true, slot_false, Nat.reduceEqDiff, ↓reduceIte, z15, z11], h0⟩
        · obtain rfl := Option.some.inj ho
          have z13 := hpre ⟨13, .data⟩ (by simp) rfl
          have z16 := hpre ⟨16, .data⟩ (by simp) rfl
          have z11 := hpre ⟨11, .guard⟩ (by simp) rfl
          clear ho hpre hi hcl
          go_wp2_with fail
          unfold AtEnd
          exact ⟨by simp only [more, slot_true, slot_false, Nat.reduceEqDiff, ↓reduceIte, z13, z16, z11, hz3], h0⟩
        · obtain rfl := Option.some.inj ho
          have z11 := hpre ⟨11, .data⟩ (by simp) rfl
          have z17 := hpre ⟨17, .data⟩ (by simp) rfl
          clear ho hpre hi hcl
          go_wp2_with fail
          unfold AtEnd
          exact ⟨by simp only [more, slot_true, slot_false, Nat.reduceEqDiff, ↓reduceIte, z11, z17], h0⟩
      · intro D a w hall hI
        obtain ⟨rfl, h0⟩ := hI
        have HC0 := Lib.hid h0
        have HB10 := Lib.hid (HB9.out.chg h0 (fun h => h))
        have HD10 := Lib.hid (HD8.out.no h0)
        have HC10 := Lib.hid (HC8.out.trans h0 (fun _ _ h => h))
        have HR10 := Lib.hid (HR8.out.chg h0 (fun h => h))
        have z0 := hall 0 (by decide)
        have z1 := hall 1 (by decide)
        have z2 := hall 2 (by decide)
        have z3 := hall 3 (by decide)
        have z4 := hall 4 (by decide)
        have z5 := hall 5 (by decide)
        have z6 := hall 6 (by decide)
        have z7 := hall 7 (by decide)
        have z8 := hall 8 (by decide)
        have z9 := hall 9 (by decide)
        have z10 := hall 10 (by decide)
        have z11 := hall 11 (by decide)
        have z12 := hall 12 (by decide)
        have z13 := hall 13 (by decide)
        have z14 := hall 14 (by decide)
        have z15 := hall 15 (by decide)
        have z16 := hall 16 (by decide)
        have z17 := hall 17 (by decide)
        have z18 := hall 18 (by decide)
        clear hall
        simp only [z0, z1, z2, z3, z4, z5, z6, z7, z8, z9, z10, z11, z12, z13, z14, z15, z16, z17, z18, slot_true]
        clear z0 z1 z2 z3 z4 z5 z6 z7 z8 z9 z10 z11 z12 z13 z14 z15 z16 z17 z18
        obtain ⟨w9, hw9⟩ : ∃ w9, w9 = w := ⟨_, rfl⟩
        rw [← hw9] at HB10 HD10 HC10 HR10 HC0 ⊢
        have k1 := HB10.out.cell 1
        have k2 := HB10.out.cell 2
        clear h0 hw9
        go_wp2_with fail
        refine (content_any HD10.out a1 a2 HS1.out (by rw [← HKN.out, ← HRZ.out]; exact HZ1.out) HDK.out).mono ?_
        rintro e w11 ⟨⟨v, rfl, ho⟩, hc11⟩
        rw [← HKN.out] at ho
        obtain ⟨cl, hcl⟩ : ∃ cl, cl = contentL K.now (1 + (a1 : Int) * halfZ kn) a2 := ⟨_, rfl⟩
        rw [← hcl] at ho
        have HCL := Lib.hid hcl
        have HO := Lib.hid (ho.base_ HC10.out.size)
        obtain ⟨A, n, c, rfl, hnn, hr, hcc, _⟩ := ho.val
        have HRB11 := Lib.hid hr
        have HNN := Lib.hid hnn
        have HNL := Lib.hid (show n ≤ 1048576 from by
          rw [← hnn, hcl, contentL_len HL.out]
          have h1 := HZ1.out
          have h2 : rz ≤ 1048576 := by rw [HRZ.out]; unfold roomZ; split <;> omega
          omega)
        have HB11 := Lib.hid (HB10.out.chg hc11 (fun h => h))
        have HC11 := Lib.hid (HC10.out.trans hc11 (fun _ _ h => h))
        have HR11 := Lib.hid (HR10.out.chg hc11 (fun h => h))
        obtain ⟨cs, hcs⟩ : ∃ cs, cs = crcN cl := ⟨_, rfl⟩
        have hcb : cs < 4294967296 := by rw [hcs]; exact crcN_lt _
        have HCS := Lib.hid hcs
        clear k1 k2 hcl ho hnn hr hcc hc11 hcs
        by_cases hse : cs = a3
        · have HG := Lib.hid (HGOOD.out (HGD.out.2 ⟨hq2, HS1.out, HZ1.out, by rw [← HCL.out, ← HCS.out]; exact hse⟩))
          have HSE := Lib.hid hse
          clear hse
          go_wp2_with fail
          refine wp_region_cl rfl (by kernel_rfl) (InvLe g gb bh W.heap.size a0 a1 a2 a3 u9 u10 u34 u35 u36 u37 u38 u39 u40 u41 u42 u43 u44 u45 u46 kn rz A n c cs hb0 l0 w11) ?_ ?_ ?_
          · exact ⟨rfl, (Chg.refl _ _).drew⟩
          ·
            intro D a w i o ho hD hcl hpre hI
            obtain ⟨rfl, h0⟩ := hI
            have hi : i < 6 := by have := (List.getElem?_eq_some_iff.1 ho).1; simpa using this
            rcases (by omega : i = 0 ∨ i = 1 ∨ i = 2 ∨ i = 3 ∨ i = 4 ∨ i = 5) with rfl | rfl | rfl | rfl | rfl | rfl
            · obtain rfl := Option.some.inj ho
              clear ho hpre hi hcl
              go_wp2_with fail
              unfold AtEnd
              exact ⟨rfl, h0⟩
            · obtain rfl := Option.some.inj ho
              have z0 := hpre ⟨0, .data⟩ (by simp) rfl
              clear ho hpre hi hcl
              have hrb := RBchg HRB11.out h0
              have HRW := Lib.hid hrb
              clear hrb
              simp only [z0, slot_true]
              go_wp2_with fail
              refine (sum_any A cl n c HNN.out _ _ HRW.out (by have := HNL.out; omega)).mono ?_
              rintro e w7 ⟨rfl, rfl⟩
              rw [crcN_U, ← HCS.out]
              go_wp2_with fail
              unfold AtEnd
              exact ⟨by simp only [more, slot_true, slot_false, Nat.reduceEqDiff, ↓reduceIte, z0], h0⟩
            · obtain rfl := Option.some.inj ho
              have z1 := hpre ⟨1, .data⟩ (by simp) rfl
              clear ho hpre hi hcl
              go_wp2_with fail
              unfold AtEnd
              exact ⟨by simp only [more, slot_true, slot_false, Nat.reduceEqDiff, ↓reduceIte, z1], h0⟩
            · obtain rfl := Option.some.inj ho
              clear ho hpre hi hcl
              go_wp2_with fail
              unfold AtEnd
              exact ⟨rfl, h0⟩
            · obtain rfl := Option.some.inj ho
              have z3 := hpre ⟨3, .data⟩ (by simp) rfl
              clear ho hpre hi hcl
              have k0 := (HB11.out.chg h0 (fun h => h)).cell 3
              go_wp2_with fail
              unfold AtEnd
              exact ⟨by simp only [more, slot_true, slot_false, Nat.reduceEqDiff, ↓reduceIte, z3], h0⟩
            · obtain rfl := Option.some.inj ho
              have z2 := hpre ⟨2, .data⟩ (by simp) rfl
              have z4 := hpre ⟨4, .data⟩ (by simp) rfl
              clear ho hpre hi hcl
              go_wp2_with fail
              have hse2 : ((cs : Int) == (a3 : Int)) = true := by have := HSE.out; simp; omega
              have hse3 : (cs == a3) = true := by have := HSE.out; simp; omega
              have hse4 : decide ((cs : Int) = (a3 : Int)) = true := by have := HSE.out; simp; omega
              have hse5 : decide (cs = a3) = true := by have := HSE.out; simp; omega
              unfold AtEnd
              exact ⟨by simp only [more, slot_true, slot_false, Nat.reduceEqDiff, ↓reduceIte, z2, z4, hse2, hse3, hse4, hse5, bne, Bool.not_true, Bool.not_false, decide_not], h0⟩
          · intro D a w hall hI
            obtain ⟨rfl, h0⟩ := hI
            have h016 := h0
            have HB12 := Lib.hid (HB11.out.chg h0 (fun h => h))
            have HC12 := Lib.hid (HC11.out.trans h0 (fun _ _ h => h))
            have HR12 := Lib.hid (HR11.out.chg h0 (fun h => h))
            have HO12 := Lib.hid (HO.out.chg h0 (fun _ _ h => h))
            have z0 := hall 0 (by decide)
            have z1 := hall 1 (by decide)
            have z2 := hall 2 (by decide)
            have z3 := hall 3 (by decide)
            have z4 := hall 4 (by decide)
            have z5 := hall 5 (by decide)
            clear hall
            simp only [z0, z1, z2, z3, z4, z5, slot_true]
            clear z0 z1 z2 z3 z4 z5
            obtain ⟨w12, hw12⟩ : ∃ w12, w12 = w := ⟨_, rfl⟩
            rw [← hw12] at HB12 HC12 HR12 HO12 ⊢
            clear h0 h016 hw12
            go_wp2_with fail
            refine wp_region_cl rfl (by kernel_rfl) (InvLg g gb bh W.heap.size a0 a1 a2 a3 u9 u10 u34 u35 u36 u37 u38 u39 u40 u41 u42 u43 u44 u45 u46 kn rz A n c cs hb0 l0 w12) ?_ ?_ ?_
            · exact ⟨rfl, fun _ => (Chg.refl _ _).drew, (fun h => by cases h)⟩
            ·
              intro D a w i o ho hD hcl hpre hI
              obtain ⟨rfl, h0, h3⟩ := hI
              have hi : i < 5 := by have := (List.getElem?_eq_some_iff.1 ho).1; simpa using this
              rcases (by omega : i = 0 ∨ i = 1 ∨ i = 2 ∨ i = 3 ∨ i = 4) with rfl | rfl | rfl | rfl | rfl
              · obtain rfl := Option.some.inj ho
                clear ho hpre hi hcl
                go_wp2_with fail
                unfold AtEnd
                exact ⟨rfl, fun h => h0 (by simpa [more] using h), fun h => h3 (by simpa [more] using h)⟩
              · obtain rfl := Option.some.inj ho
                have d3 : D 3 = false := (hcl.not_ 3 _ rfl 0 _ rfl rfl hD)
                clear ho hpre hi hcl
                have hb := HB12.out.chg (h0 d3) (fun h => h)
                go_wp2_with (first
                  | (refine wpList_load_row rfl 89 _ rfl bh rfl 89 _ (0, 0) _ hb Try.underlying89 rfl (head_size) ?_)
                  | fail)
                unfold AtEnd
                exact ⟨by simp only [more, slot_true, slot_false, Nat.reduceEqDiff, ↓reduceIte, d3], fun h => h0 (by simpa [more] using h), fun h => h3 (by simpa [more] using h)⟩
              · obtain rfl := Option.some.inj ho
                have z0 := hpre ⟨0, .data⟩ (by simp) rfl
                clear ho hpre hi hcl
                go_wp2_with fail
                unfold AtEnd
                exact ⟨by simp only [more, slot_true, slot_false, Nat.reduceEqDiff, ↓reduceIte, z0], fun h => h0 (by simpa [more] using h), fun h => h3 (by simpa [more] using h)⟩
              · obtain rfl := Option.some.inj ho
                have z1 := hpre ⟨1, .data⟩ (by simp) rfl
                have z2 := hpre ⟨2, .chain⟩ (by simp) rfl
                clear ho hpre hi hcl
                have hcw := h0 hD
                have HBF := Lib.hid (HR12.out.chg hcw (fun h => h))
                have HCW := Lib.hid hcw
                clear h0 h3 hcw
                simp only [z1, slot_true]
                go_wp2_with (first
                  | (refine wpList_store_blk rfl 89 _ _ rfl W.heap.size _ rfl rfl 89 _ HBF.out rfl head_size (by simp [Value.oneCell']) ?_)
                  | fail)
                unfold AtEnd
                exact ⟨by simp only [more, slot_true, slot_false, Nat.reduceEqDiff, ↓reduceIte, z1, z2], fun h => by simp [more] at h, fun _ => ⟨(Chg.mono (S := NoB) (T := fun b => b = W.heap.size) HCW.out (fun _ _ h => h.elim)).setRow (g := W.heap.size) (.inl rfl) _, HBF.out.row _⟩⟩
              · obtain rfl := Option.some.inj ho
                have z3 := hpre ⟨3, .chain⟩ (by simp) rfl
                clear ho hpre hi hcl
                go_wp2_with fail
                unfold AtEnd
                exact ⟨by simp only [more, slot_true, slot_false, Nat.reduceEqDiff, ↓reduceIte, z3], fun h => h0 (by simpa [more] using h), fun h => h3 (by simpa [more] using h)⟩
            · intro D a w hall hI
              obtain ⟨rfl, h0, h3⟩ := hI
              obtain ⟨hcF, hbr⟩ := h3 (hall 3 (by decide))
              have HCF := Lib.hid hcF
              have HBF := Lib.hid hbr
              have z2 := hall 2 (by decide)
              have z4 := hall 4 (by decide)
              clear h0 h3 hcF hbr hall
              simp only [z2, z4, slot_true]
              go_wp2_with fail
              try simp only [Exit.inBlock, Exit.then]
              refine bodyPost_ret (ld_ret rfl _ _ W.heap.size 89 _ _ _ _ rfl HBF.out) rfl ⟨.slice A n c, ?_, ?_, fun h => absurd HG.out.1 h, HC12.out.trans HCF.out (fun i hi h => by have h1 : i = W.heap.size := h; omega)⟩
              · rw [HG.out.1, HG.out.2.2]
                unfold hdV
                rw [← HA.out.1, ← HA.out.2.1, ← HA.out.2.2.1, ← HA.out.2.2.2]; rfl
              · rw [HG.out.2.1, ← HCL.out]
                exact HO12.out.chg HCF.out (fun r e h => by
                  have h1 : r = W.heap.size := h
                  subst h1
                  exact HO12.out.blk_ne HR12.out (by decide) e)
        · have HNG := Lib.hid (HBAD.out (fun h => by have h1 := (HGD.out.1 h).2.2.2; rw [← HCL.out, ← HCS.out] at h1; exact hse h1))
          have HSE := Lib.hid hse
          clear hse
          go_wp2_with fail
          refine wp_region_cl rfl (by kernel_rfl) (InvLf g gb bh W.heap.size a0 a1 a2 a3 u9 u10 u34 u35 u36 u37 u38 u39 u40 u41 u42 u43 u44 u45 u46 kn rz A n c cs hb0 l0 w11) ?_ ?_ ?_
          · exact ⟨rfl, (Chg.refl _ _).drew⟩
          ·
            intro D a w i o ho hD hcl hpre hI
            obtain ⟨rfl, h0⟩ := hI
            have hi : i < 6 := by have := (List.getElem?_eq_some_iff.1 ho).1; simpa using this
            rcases (by omega : i = 0 ∨ i = 1 ∨ i = 2 ∨ i = 3 ∨ i = 4 ∨ i = 5) with rfl | rfl | rfl | rfl | rfl | rfl
            · obtain rfl := Option.some.inj ho
              clear ho hpre hi hcl
              go_wp2_with fail
              unfold AtEnd
              exact ⟨rfl, h0⟩
            · obtain rfl := Option.some.inj ho
              have z0 := hpre ⟨0, .data⟩ (by simp) rfl
              clear ho hpre hi hcl
              have hrb := RBchg HRB11.out h0
              have HRW := Lib.hid hrb
              clear hrb
              simp only [z0, slot_true]
              go_wp2_with fail
              refine (sum_any A cl n c HNN.out _ _ HRW.out (by have := HNL.out; omega)).mono ?_
              rintro e w7 ⟨rfl, rfl⟩
              rw [crcN_U, ← HCS.out]
              go_wp2_with fail
              unfold AtEnd
              exact ⟨by simp only [more, slot_true, slot_false, Nat.reduceEqDiff, ↓reduceIte, z0], h0⟩
            · obtain rfl := Option.some.inj ho
              have z1 := hpre ⟨1, .data⟩ (by simp) rfl
              clear ho hpre hi hcl
              go_wp2_with fail
              unfold AtEnd
              exact ⟨by simp only [more, slot_true, slot_false, Nat.reduceEqDiff, ↓reduceIte, z1], h0⟩
            · obtain rfl := Option.some.inj ho
              clear ho hpre hi hcl
              go_wp2_with fail
              unfold AtEnd
              exact ⟨rfl, h0⟩
            · obtain rfl := Option.some.inj ho
              have z3 := hpre ⟨3, .data⟩ (by simp) rfl
              clear ho hpre hi hcl
              have k0 := (HB11.out.chg h0 (fun h => h)).cell 3
              go_wp2_with fail
              unfold AtEnd
              exact ⟨by simp only [more, slot_true, slot_false, Nat.reduceEqDiff, ↓reduceIte, z3], h0⟩
            · obtain rfl := Option.some.inj ho
              have z2 := hpre ⟨2, .data⟩ (by simp) rfl
              have z4 := hpre ⟨4, .data⟩ (by simp) rfl
              clear ho hpre hi hcl
              go_wp2_with fail
              have hse2 : ((cs : Int) == (a3 : Int)) = false := by have := HSE.out; simp; omega
              have hse3 : (cs == a3) = false := by have := HSE.out; simp; omega
              have hse4 : decide ((cs : Int) = (a3 : Int)) = false := by have := HSE.out; simp; omega
              have hse5 : decide (cs = a3) = false := by have := HSE.out; simp; omega
              unfold AtEnd
              exact ⟨by simp only [more, slot_true, slot_false, Nat.reduceEqDiff, ↓reduceIte, z2, z4, hse2, hse3, hse4, hse5, bne, Bool.not_true, Bool.not_false, decide_not], h0⟩
          · intro D a w hall hI
            obtain ⟨rfl, h0⟩ := hI
            have HC9 := Lib.hid (HC11.out.trans h0 (fun _ _ h => h))
            have HR9 := Lib.hid (HR11.out.chg h0 (fun h => h))
            have z5 := hall 5 (by decide)
            clear h0 hall
            simp only [z5, slot_true]
            go_wp2_with (first
              | (refine wpList_store_blk rfl 89 _ _ rfl W.heap.size _ rfl rfl 89 _ HR9.out rfl head_size (by simp [Value.oneCell']) ?_)
              | fail)
            try simp only [Exit.inBlock, Exit.then]
            refine bodyPost_ret (ld_ret rfl _ _ W.heap.size 89 _ _ _ _ rfl (HR9.out.row _)) rfl (LoadPost.bad 15 HNG.out (by decide) rfl (HC9.out.setRow (.inr (Nat.le_refl _)) _))
end Go.Proofs.Ytlhfhhbafhnbkaa
