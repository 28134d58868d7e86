/-
  A DISK's METHODS, of a disk as a whole.
-/
import Derived.Test.YtlhfhhbafhnbkaaSec15
namespace Go.Proofs.Ytlhfhhbafhnbkaa
open Go.RowKit
set_option linter.unusedSimpArgs false
set_option linter.unusedVariables false
section
variable {F : Nat → Prop} {g : Nat} {K : Dk} {w : World}
theorem Disk.read (hD : Disk w F g K) (i : Int) : Calls Try.prog 22 #[.pointer (some ⟨g, 0, none⟩), .int .i64 i] w (ReadPost w K i) := by
  obtain ⟨bs, bn, v, hd, _⟩ := hD
  exact read_any i w hd
theorem Disk.loose_ (hD : Disk w F g K) : Calls Try.prog 25 #[.pointer (some ⟨g, 0, none⟩)] w fun e w' => e = .returned (.int .i64 (K.loose.length : Int)) ∧ w' = w := by
  obtain ⟨bs, bn, v, hd, _⟩ := hD
  obtain ⟨A, c, rfl⟩ := own_slice hd.row
  exact loose_ptr hd.blk (by have := hd.n0; omega)
theorem Disk.dark_ (hD : Disk w F g K) : Calls Try.prog 27 #[.pointer (some ⟨g, 0, none⟩)] w fun e w' => e = .returned (.bool K.dark) ∧ w' = w := by
  obtain ⟨bs, bn, v, hd, _⟩ := hD
  have h := dark_ptr hd.blk true (by have := hd.n0; simp; omega)
  simpa using h
theorem Disk.len_ (hD : Disk w F g K) : Calls Try.prog 51 #[.pointer (some ⟨g, 0, none⟩)] w fun e w' => e = .returned (.int .i64 K.n) ∧ w' = w := by
  obtain ⟨bs, bn, v, hd, _⟩ := hD
  exact len_ptr hd.blk (by have := hd.n0; omega)
def Dk.armed (K : Dk) (x : Int) : Dk := { K with fuse := max 0 x }
theorem Disk.fuse_ (hD : Disk w F g K) (x : Int) (hx : x ≤ 9223372036854775807) : Calls Try.prog 26 #[.pointer (some ⟨g, 0, none⟩), .int .i64 x] w fun e w' => (∃ v, e = .returned v) ∧ Disk w' F g (K.armed x) ∧ Chg F w w' := by
  obtain ⟨bs, bn, v, hd, f1, f2, f3, f4⟩ := hD
  refine (fuse_ptr hd.blk (by have := hd.n0; omega) x).mono ?_
  rintro e w' ⟨he, hb, hc⟩
  refine ⟨he, ⟨bs, bn, v, { blk := hb, sure := hd.sure.chg hc (fun e => hd.sure.blk_ne hd.blk e), now := hd.now.chg hc (fun e => hd.now.blk_ne hd.blk e), row := ownsRow_chg hd.row hc (fun j e h => own_ne hd.row hd.blk (by decide) (h ▸ e)), ne := hd.ne, n0 := hd.n0, n1 := hd.n1, rng := hd.rng, fuse0 := ?_, fuse1 := ?_ }, f1, f2, f3, f4⟩, hc.mono (fun i _ h => (show i = g from h) ▸ f1)⟩
  · show -1 ≤ max 0 x; omega
  · show max 0 x ≤ 9223372036854775807; omega
theorem Disk.lt (hD : Disk w F g K) : g < w.heap.size ∧ F g := by
  obtain ⟨bs, bn, v, hd, f1, _⟩ := hD
  exact ⟨hd.blk.lt, f1⟩
end
theorem blk_RB {w : World} {g : Nat} {l : List UInt8} {t : TypeId} (h : Blk w g t ((l.map bv).toArray)) : RB w w.heap.size (some ⟨g, 0, none⟩) l := RB.of_row h l (by simp) h.lt
/-- a disk whose blocks F lie at or behind B -/
structure DI (B : Nat) (w : World) (g : Nat) (K : Dk) (F : Nat → Prop) : Prop where
  disk : Disk w F g K
  rng : ∀ i, F i → B ≤ i ∧ i < w.heap.size
/-- what a call leaves of a disk: the new one, its blocks old ones or new ones; nothing else is turned -/
def DPost (B : Nat) (w : World) (g : Nat) (K' : Dk) (F : Nat → Prop) (w' : World) : Prop := ∃ F', DI B w' g K' F' ∧ Chg F w w' ∧ ∀ i, F' i → F i ∨ w.heap.size ≤ i
section
variable {B : Nat} {w w' : World} {g : Nat} {K K' : Dk} {F : Nat → Prop}
theorem DI.no (h : DI B w g K F) (hc : Chg NoB w w') : DI B w' g K F := ⟨h.disk.no hc, fun i hi => ⟨(h.rng i hi).1, Nat.lt_of_lt_of_le (h.rng i hi).2 hc.size⟩⟩
theorem DI.chg {S : Nat → Prop} (h : DI B w g K F) (hc : Chg S w w') (hS : ∀ i, F i → ¬ S i) : DI B w' g K F := ⟨h.disk.chg hc hS, fun i hi => ⟨(h.rng i hi).1, Nat.lt_of_lt_of_le (h.rng i hi).2 hc.size⟩⟩
theorem DI.post (h : DI B w g K F) (hB : B ≤ w.heap.size) (hd : Disk w' (FN F w w') g K') (hc : Chg F w w') : DPost B w g K' F w' :=
  ⟨FN F w w', ⟨hd, fun i hi => hi.elim (fun hf => ⟨(h.rng i hf).1, Nat.lt_of_lt_of_le (h.rng i hf).2 hc.size⟩) (fun hn => ⟨Nat.le_trans hB hn.1, hn.2⟩)⟩, hc, fun i hi => hi.imp id (fun hn => hn.1)⟩
theorem DI.write_ (h : DI B w g K F) (hB : B ≤ w.heap.size) (i : Int) {A : Option Addr} {nn : Nat} (c : Nat) {l : List UInt8} {Bl : Nat} (hn : l.length = nn) (hr : RB w Bl A l) (hsp : ∀ ad, A = some ad → ad.spot = none) (HK : K.loose.length ≤ 100000) :
    Calls Try.prog 17 #[.pointer (some ⟨g, 0, none⟩), .int .i64 i, .slice A nn c] w fun e w' => e = .returned (.int .i64 (writeE K i l)) ∧ DPost B w g (K.write i l) F w' :=
  (write_any F g K i A nn c l Bl w h.disk hn hr hsp HK).mono (fun _ _ ⟨he, hd, hc⟩ => ⟨he, h.post hB hd hc⟩)
theorem DI.sync_ (h : DI B w g K F) (hB : B ≤ w.heap.size) (HK : K.loose.length ≤ 1000) :
    Calls Try.prog 50 #[.pointer (some ⟨g, 0, none⟩)] w fun e w' => e = .returned (.int .i64 (syncE K)) ∧ DPost B w g K.sync F w' :=
  (sync_any F g K w h.disk HK).mono (fun _ _ ⟨he, hd, hc⟩ => ⟨he, h.post hB hd hc⟩)
theorem DI.crash_ (h : DI B w g K F) (hB : B ≤ w.heap.size) (HK : K.loose.length ≤ 1000) {Ak : Option Addr} {nk : Nat} (ck : Nat) {ks : List Int} (hnk : ks.length = nk) (hks : IB w w.heap.size Ak ks) (hkv : Ak = none → nk = 0 ∧ ck = 0) (hkf : 0 < ks.length → ∀ ad, Ak = some ad → ¬ F ad.block) (hkr : ∀ k ∈ ks, -9223372036854775808 ≤ k ∧ k ≤ 9223372036854775807) :
    Calls Try.prog 24 #[.pointer (some ⟨g, 0, none⟩), .slice Ak nk ck] w fun e w' => e = .returned (.int .i64 0) ∧ DPost B w g (K.crash ks) F w' :=
  (crash_any F g K w h.disk HK Ak nk ck ks hnk hks hkv hkf hkr).mono (fun _ _ ⟨he, hd, hc⟩ => ⟨he, h.post hB hd hc⟩)
theorem DI.fuse_ (h : DI B w g K F) (hB : B ≤ w.heap.size) (x : Int) (hx : x ≤ 9223372036854775807) :
    Calls Try.prog 26 #[.pointer (some ⟨g, 0, none⟩), .int .i64 x] w fun e w' => (∃ v, e = .returned v) ∧ DPost B w g (K.armed x) F w' :=
  (h.disk.fuse_ x hx).mono (fun _ _ ⟨he, hd, hc⟩ => ⟨he, h.post hB (hd.mono (fun _ _ hf => .inl hf)) hc⟩)
theorem DI.copy_ (h : DI B w g K F) (HK : K.loose.length ≤ 1000) :
    Calls Try.prog 23 #[.pointer (some ⟨g, 0, none⟩)] w fun e w' => ∃ c F', e = .returned (.pointer (some ⟨c, 0, none⟩)) ∧ DI w.heap.size w' c K F' ∧ Chg NoB w w' :=
  (copy_any F g K w h.disk HK).mono (fun _ _ ⟨c, he, hd, hc⟩ => ⟨c, _, he, ⟨hd, fun i hi => hi⟩, hc⟩)
theorem DI.new_ (n : Int) (w : World) (h0 : 1 ≤ n) (h1 : n ≤ 8192) :
    Calls Try.prog 13 #[.int .i64 n] w fun e w' => ∃ g F', e = .returned (.tuple #[.pointer (some ⟨g, 0, none⟩), .int .i64 0]) ∧ DI w.heap.size w' g (Dk.new n) F' ∧ Chg NoB w w' :=
  (new_ok n w h0 h1).mono (fun _ _ ⟨g, he, _, hd, hc⟩ => ⟨g, _, he, ⟨hd, fun i hi => hi⟩, hc⟩)
theorem DI.base {w0 : World} (h : DI w0.heap.size w g K F) (h0 : Chg NoB w0 w) (hc : Chg F w w') : Chg NoB w0 w' := h0.trans hc (fun i hi hf => by have := (h.rng i hf).1; omega)
end
theorem run_add_lists (P : Program) (x y : List UInt8) (h : x.length + y.length ≤ 9223372036854775807) (w : World) : (Op.stringOp .add ⟨x.toArray⟩ ⟨y.toArray⟩).run P w = .ok (.string ⟨(x ++ y).toArray⟩) w := by
  rw [run_string_add_sum w _ _ (by simpa [ByteArray.size] using h), ByteArray.mk_append_mk]
end Go.Proofs.Ytlhfhhbafhnbkaa
