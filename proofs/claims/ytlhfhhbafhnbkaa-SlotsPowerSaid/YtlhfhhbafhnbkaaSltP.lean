/-
  PLAIN LAWS of slots: the power goes within a Commit (no program in sight).
-/
import Derived.Test.YtlhfhhbafhnbkaaSlt12
namespace Go.Proofs.Ytlhfhhbafhnbkaa
open Go.RowKit FieldM CrcM
set_option linter.unusedSimpArgs false
set_option linter.unusedVariables false
theorem wr_out {K : Dk} (hd : K.dark = false) {i : Int} {l : List UInt8} (h0 : 0 ≤ i) (h1 : i < K.n) (hl : l.length = 512) :
    (K.write i l).n = K.n ∧ (K.write i l).sure = K.sure ∧ (K.write i l).loose = K.loose ++ [(i, l)] ∧ ((writeE K i l = 0 ∧ (K.write i l).dark = false) ∨ (writeE K i l = 6 ∧ (K.write i l).dark = true)) := by
  have hb : ¬ wBad K i l := by unfold wBad; omega
  have hd' : ¬ K.dark = true := by rw [hd]; decide
  have hw : K.write i l = K.wrote i l := if_neg (fun e => e.elim hb hd')
  rw [hw]
  refine ⟨rfl, rfl, rfl, ?_⟩
  unfold writeE
  rw [if_neg hb, if_neg hd']
  by_cases hf : K.fuse = 0
  · right
    rw [if_pos hf]
    refine ⟨rfl, ?_⟩
    show (K.dark || K.fuse == 0) = true
    rw [hf]; simp
  · left
    rw [if_neg hf]
    refine ⟨rfl, ?_⟩
    show (K.dark || K.fuse == 0) = false
    rw [hd]; simp [hf]
theorem sync_out {K : Dk} (hd : K.dark = false) : K.sync.n = K.n ∧ ((syncE K = 0 ∧ K.sync.dark = false ∧ K.sync.sure = settle K.sure K.loose ∧ K.sync.loose = []) ∨ (syncE K = 6 ∧ K.sync.dark = true ∧ K.sync.sure = K.sure ∧ K.sync.loose = K.loose)) := by
  have hd' : ¬ K.dark = true := by rw [hd]; decide
  by_cases hf : K.fuse = 0
  · have hs : K.sync = K.spent := by unfold Dk.sync; rw [if_neg hd', if_pos hf]
    rw [hs]
    refine ⟨rfl, .inr ⟨if_pos (.inr hf), ?_, rfl, rfl⟩⟩
    show (K.dark || K.fuse == 0) = true
    rw [hf]; simp
  · have hs : K.sync = { K.spent with sure := settle K.sure K.loose, loose := [] } := by unfold Dk.sync; rw [if_neg hd', if_neg hf]
    rw [hs]
    refine ⟨rfl, .inl ⟨if_neg (fun e => e.elim hd' hf), ?_, rfl, rfl⟩⟩
    show (K.dark || K.fuse == 0) = false
    rw [hd]; simp [hf]
def plL (fr : Int) (b : List UInt8) (q : Nat) : List (Int × List UInt8) := (List.range q).map fun (i : Nat) => (fr + (i : Int), padL (b.drop (512 * i)))
theorem plL_succ (fr : Int) (b : List UInt8) (q : Nat) : plL fr b (q + 1) = plL fr b q ++ [(fr + (q : Int), padL (b.drop (512 * q)))] := by
  unfold plL; rw [List.range_succ]; simp
theorem plL_len (fr : Int) (b : List UInt8) (q : Nat) : (plL fr b q).length = q := by unfold plL; simp
theorem plL_mem {fr : Int} {b : List UInt8} {q : Nat} {p : Int × List UInt8} (h : p ∈ plL fr b q) : fr ≤ p.1 ∧ p.1 < fr + (q : Int) ∧ p.2.length = 512 := by
  obtain ⟨i, hi, rfl⟩ := List.mem_map.1 h
  have := List.mem_range.1 hi
  exact ⟨by show fr ≤ fr + (i : Int); omega, by show fr + (i : Int) < _; omega, padL_len _⟩
theorem settle_pl (f : Int → List UInt8) (fr : Int) (b : List UInt8) : ∀ q, settle f (plL fr b q) = putsF f fr b q := by
  intro q
  induction q with
  | zero => funext i; show f i = putsF f fr b 0 i; unfold putsF; rw [if_neg (by push_cast; omega)]
  | succ q ih => rw [plL_succ, settle_snoc, ih, putsF_succ]
theorem pieces_out {K : Dk} (hd : K.dark = false) (fr : Int) (b : List UInt8) (h0 : 0 ≤ fr) : ∀ q : Nat, fr + (q : Int) ≤ K.n →
    (runOps K (pieceOps fr b q)).1.n = K.n ∧ (runOps K (pieceOps fr b q)).1.sure = K.sure ∧ ∃ j ≤ q, (runOps K (pieceOps fr b q)).1.loose = K.loose ++ plL fr b j ∧
      (((runOps K (pieceOps fr b q)).2 = 0 ∧ (runOps K (pieceOps fr b q)).1.dark = false ∧ j = q) ∨ ((runOps K (pieceOps fr b q)).2 = 6 ∧ (runOps K (pieceOps fr b q)).1.dark = true)) := by
  intro q
  induction q with
  | zero => intro _; exact ⟨rfl, rfl, 0, Nat.le_refl _, by show K.loose = _; simp [plL], .inl ⟨rfl, hd, rfl⟩⟩
  | succ q ih =>
    intro hq
    obtain ⟨i1, i2, j, hj, i3, hc⟩ := ih (by push_cast at hq; omega)
    rw [pieceOps_succ, runOps_app]
    rcases hc with ⟨h1, h2, rfl⟩ | ⟨h1, h2⟩
    · rw [if_pos h1]
      obtain ⟨K1, hK1⟩ : ∃ K1, K1 = (runOps K (pieceOps fr b j)).1 := ⟨_, rfl⟩
      rw [← hK1] at i1 i2 i3 h2 ⊢
      have hw := wr_out h2 (i := fr + (j : Int)) (l := padL (b.drop (512 * j))) (by omega) (by rw [i1]; push_cast at hq; omega) (padL_len _)
      have e : (runOps K1 [Op1.wr (fr + (j : Int)) (padL (b.drop (512 * j)))]) = (K1.write (fr + (j : Int)) (padL (b.drop (512 * j))), writeE K1 (fr + (j : Int)) (padL (b.drop (512 * j)))) := by
        by_cases hz : writeE K1 (fr + (j : Int)) (padL (b.drop (512 * j))) = 0
        · rw [hz]; exact runOps_ok (o := .wr _ _) hz
        · exact runOps_no (o := .wr _ _) hz
      rw [e]
      refine ⟨by rw [hw.1, i1], by rw [hw.2.1, i2], j + 1, Nat.le_refl _, by rw [hw.2.2.1, i3, plL_succ, List.append_assoc], ?_⟩
      rcases hw.2.2.2 with ⟨a1, a2⟩ | ⟨a1, a2⟩
      · exact .inl ⟨a1, a2, rfl⟩
      · exact .inr ⟨a1, a2⟩
    · rw [if_neg (by rw [h1]; decide)]
      exact ⟨i1, i2, j, by omega, i3, .inr ⟨h1, h2⟩⟩
theorem scrash_len {f : Int → List UInt8} (hf : ∀ i, (f i).length = 512) (ks : List Int) (ps : List (Int × List UInt8)) (hp : ∀ p ∈ ps, p.2.length = 512) : ∀ i, (crashF f ks ps i).length = 512 := by
  have tl : ∀ (f : Int → List UInt8), (∀ i, (f i).length = 512) → ∀ (p : Int × List UInt8), p.2.length = 512 → ∀ c i, (torn f p c i).length = 512 := by
    intro f hf p hp c i
    unfold torn upd
    have h := cutN_le p.1 c
    split
    · rw [List.length_append, List.length_take, List.length_drop, hp, hf]; omega
    · exact hf i
  have key : ∀ (l : List ((Int × List UInt8) × Nat)) (f : Int → List UInt8), (∀ i, (f i).length = 512) → (∀ x ∈ l, x.1.2.length = 512) → ∀ i, (l.foldl (fun f x => torn f x.1 (cOf true ks x.2)) f i).length = 512 := by
    intro l
    induction l with
    | nil => intro f hf _; exact hf
    | cons x r ih => intro f hf hx; exact ih _ (tl f hf _ (hx x (by simp)) _) (fun y hy => hx y (by simp [hy]))
  exact key _ f hf (fun x hx => hp _ (by
    obtain ⟨q, k⟩ := x
    exact (List.mem_zipIdx' hx).2 ▸ List.getElem_mem _))
theorem scrash_out (f : Int → List UInt8) (ks : List Int) (ps : List (Int × List UInt8)) (i : Int) (hp : ∀ p ∈ ps, p.1 ≠ i) : crashF f ks ps i = f i := by
  have key : ∀ (l : List ((Int × List UInt8) × Nat)) (f : Int → List UInt8), (∀ x ∈ l, x.1.1 ≠ i) → l.foldl (fun f x => torn f x.1 (cOf true ks x.2)) f i = f i := by
    intro l
    induction l with
    | nil => intro f _; rfl
    | cons x r ih =>
      intro f hx
      rw [List.foldl_cons, ih _ (fun y hy => hx y (by simp [hy]))]
      unfold torn upd
      rw [if_neg (fun e => hx x (by simp) e.symm)]
  exact key _ f (fun x hx => hp _ (by
    obtain ⟨q, k⟩ := x
    exact (List.mem_zipIdx' hx).2 ▸ List.getElem_mem _))
/-- a crash with one loose write of the first sector: whole, or not at all -/
theorem scrash_one {f : Int → List UInt8} (hf : ∀ i, (f i).length = 512) (ks : List Int) (h : List UInt8) (hl : h.length = 512) : crashF f ks [(0, h)] = f ∨ crashF f ks [(0, h)] = upd f 0 h := by
  have e : crashF f ks [(0, h)] = torn f (0, h) (cOf true ks 0) := rfl
  rw [e]
  unfold torn
  by_cases hc : cOf true ks 0 ≤ 0
  · left
    have h1 : cutN 0 (cOf true ks 0) = 0 := by unfold cutN; rw [if_pos hc]
    funext i
    show upd f 0 (h.take (cutN 0 (cOf true ks 0)) ++ (f 0).drop (cutN 0 (cOf true ks 0))) i = f i
    rw [h1]
    unfold upd
    split
    · rename_i hi; subst hi; simp
    · rfl
  · right
    have h1 : cutN 0 (cOf true ks 0) = 512 := by unfold cutN; rw [if_neg hc, if_neg (fun e => e.2 rfl)]
    show upd f 0 (h.take (cutN 0 (cOf true ks 0)) ++ (f 0).drop (cutN 0 (cOf true ks 0))) = upd f 0 h
    rw [h1, List.take_of_length_le (by omega), List.drop_of_length_le (by rw [hf]; exact Nat.le_refl _), List.append_nil]
theorem Holds.keep {f g : Int → List UInt8} {n : Int} {gen slot : Nat} {b : List UInt8} (h : Holds f n gen slot b) (hf : ∀ i, (f i).length = 512) (hg : ∀ i, (g i).length = 512) (h0 : g 0 = f 0) (h1 : ∀ i : Int, 1 + (slot : Int) * halfZ n ≤ i → i < 1 + (slot : Int) * halfZ n + (cntOf b.length : Int) → g i = f i) : Holds g n gen slot b :=
  ⟨by rw [h0]; exact h.hd, h.gl, h.sl, h.rm, by rw [cont_congr hg hf h1]; exact h.ct⟩
theorem Holds.fresh {f : Int → List UInt8} {n : Int} {gen slot : Nat} {b' : List UInt8} (hl : ∀ i, (f i).length = 512) (hs : slot ≤ 1) (hg : gen < 4294967296) (h3 : 3 ≤ n) (hr : (b'.length : Int) ≤ roomZ n) :
    Holds (upd (putsF f (1 + (slot : Int) * halfZ n) b' (cntOf b'.length)) 0 (hdr gen slot b'.length (crcN b'))) n gen slot b' := by
  have hh0 : 0 ≤ halfZ n := by unfold halfZ; omega
  have hs0 : 0 ≤ (slot : Int) * halfZ n := Int.mul_nonneg (by omega) hh0
  have hl2 : ∀ i, (upd (putsF f (1 + (slot : Int) * halfZ n) b' (cntOf b'.length)) 0 (hdr gen slot b'.length (crcN b')) i).length = 512 := fun i => by
    unfold upd; split
    · exact hdr_len _ _ _ _
    · exact putsF_len hl _ _ _ i
  refine ⟨by unfold upd; rw [if_pos rfl], hg, hs, hr, ?_⟩
  rw [cont_congr hl2 (putsF_len hl (1 + (slot : Int) * halfZ n) b' (cntOf b'.length)) (fun i h1 h2 => by unfold upd; rw [if_neg (by omega)])]
  exact cont_puts hl _ b'
/-- what stands behind a crash of a Commit that may have been cut off -/
def PW (R : Dk × Int) (gen slot : Nat) (b b' : List UInt8) : Prop :=
  (R.2 = 0 ∨ (R.2 = 6 ∧ R.1.dark = true)) ∧ R.1.n = 9 ∧ R.1.loose.length ≤ 100 ∧ ∀ ks, Holds (crashF R.1.sure ks R.1.loose) 9 (gen + 1) (1 - slot) b' ∨ (R.2 ≠ 0 ∧ Holds (crashF R.1.sure ks R.1.loose) 9 gen slot b)
theorem half9 : halfZ 9 = 4 := by decide
theorem power {K : Dk} {gen slot : Nat} {b b' : List UInt8} (hn : K.n = 9) (hd : K.dark = false) (hs : K.sure = K.now) (hlo : K.loose = []) (h : Holds K.now 9 gen slot b) (hl : ∀ i, (K.now i).length = 512) (hg : gen + 1 < 4294967296) (hb : b'.length ≤ 2048) :
    PW (commitK K b') gen slot b b' := by
  obtain ⟨l0, lb, lg, ls⟩ := Holds.load (K := K) (by rw [hn]; exact h) (by rw [hn]; decide) hd
  have hsl := h.sl
  have hr : (b'.length : Int) ≤ roomZ 9 := by rw [room9]; omega
  have hq4 : cntOf b'.length ≤ 4 := by unfold cntOf; omega
  have hq4' : cntOf b.length ≤ 4 := by have h1 := h.rm; rw [room9] at h1; unfold cntOf; omega
  obtain ⟨q, hqe⟩ : ∃ q, q = cntOf b'.length := ⟨_, rfl⟩
  obtain ⟨fr, hfr⟩ : ∃ fr : Int, fr = 1 + ((1 - slot : Nat) : Int) * halfZ 9 := ⟨_, rfl⟩
  have hfs : (slot = 0 ∧ fr = 5) ∨ (slot = 1 ∧ fr = 1) := by
    rcases (by omega : slot = 0 ∨ slot = 1) with rfl | rfl
    · left; exact ⟨rfl, by rw [hfr, half9]; rfl⟩
    · right; exact ⟨rfl, by rw [hfr, half9]; rfl⟩
  obtain ⟨H, hH⟩ : ∃ H, H = hdr (gen + 1) (1 - slot) b'.length (crcN b') := ⟨_, rfl⟩
  have hHl : H.length = 512 := by rw [hH]; exact hdr_len _ _ _ _
  have e0 : commitK K b' = runOps K (pieceOps fr b' q ++ [.sync, .wr 0 H, .sync]) := by
    unfold commitK
    rw [if_neg (by rw [l0]; simp), if_neg (by rw [lg]; omega), if_neg (by rw [hn]; omega)]
    unfold commitOps nextFrom
    rw [lg, ls, hn, ← hfr, ← hqe, ← hH]
  -- old: what agrees with K.now at the first sector and in the old slot
  have old : ∀ f : Int → List UInt8, (∀ i, (f i).length = 512) → (∀ i : Int, ¬ (fr ≤ i ∧ i < fr + 4) → f i = K.now i) → Holds f 9 gen slot b := by
    intro f hfl hfa
    refine h.keep hl hfl (hfa 0 (by omega)) (fun i h1 h2 => hfa i ?_)
    rw [half9] at h1 h2
    rcases hfs with ⟨rfl, hf5⟩ | ⟨rfl, hf1⟩
    · push_cast at h1 h2; omega
    · push_cast at h1 h2; omega
  obtain ⟨p1, p2, j, hj, p3, pc⟩ := pieces_out hd fr b' (by omega) q (by rw [hn]; omega)
  rw [hlo, List.nil_append] at p3
  obtain ⟨R0, hR0⟩ : ∃ R0, R0 = runOps K (pieceOps fr b' q) := ⟨_, rfl⟩
  rw [← hR0] at p1 p2 p3 pc
  -- what a crash leaves of the pieces alone
  have oldp : ∀ (ks : List Int) (j : Nat), j ≤ q → Holds (crashF K.sure ks (plL fr b' j)) 9 gen slot b := fun ks j hj =>
    old _ (by rw [hs]; exact scrash_len hl ks _ (fun p hp => (plL_mem hp).2.2)) (fun i hi => by
      rw [scrash_out _ _ _ _ (fun p hp e => hi (by have := plL_mem hp; omega)), hs])
  have hpl : ∀ i, (putsF K.now fr b' q i).length = 512 := putsF_len hl _ _ _
  have hfresh : Holds (upd (putsF K.now fr b' q) 0 H) 9 (gen + 1) (1 - slot) b' := by
    rw [hH, hfr, hqe]; exact Holds.fresh hl (by omega) hg (by decide) hr
  have holdp : Holds (putsF K.now fr b' q) 9 gen slot b := old _ hpl (fun i hi => by unfold putsF; rw [if_neg (by omega)])
  rw [e0, runOps_app, ← hR0]
  rcases pc with ⟨c1, c2, rfl⟩ | ⟨c1, c2⟩
  · rw [if_pos c1]
    obtain ⟨K1, hK1⟩ : ∃ K1, K1 = R0.1 := ⟨_, rfl⟩
    rw [← hK1] at p1 p2 p3 c2 ⊢
    obtain ⟨s1, sc⟩ := sync_out c2
    rcases sc with ⟨s2, s3, s4, s5⟩ | ⟨s2, s3, s4, s5⟩
    · rw [runOps_ok (o := .sync) s2]
      show PW (runOps K1.sync [.wr 0 H, .sync]) gen slot b b'
      rw [p3, p2, hs, settle_pl] at s4
      obtain ⟨w1, w2, w3, wc⟩ := wr_out s3 (i := 0) (l := H) (by omega) (by rw [s1, p1, hn]; decide) hHl
      rw [s4] at w2
      rw [s5, List.nil_append] at w3
      have one : ∀ ks, Holds (crashF (putsF K.now fr b' j) ks [(0, H)]) 9 (gen + 1) (1 - slot) b' ∨ Holds (crashF (putsF K.now fr b' j) ks [(0, H)]) 9 gen slot b := fun ks => by
        rcases scrash_one hpl ks H hHl with e | e
        · rw [e]; exact .inr holdp
        · rw [e]; exact .inl hfresh
      rcases wc with ⟨w4, w5⟩ | ⟨w4, w5⟩
      · rw [runOps_ok (o := .wr 0 H) w4]
        show PW (runOps (K1.sync.write 0 H) [.sync]) gen slot b b'
        obtain ⟨t1, tc⟩ := sync_out w5
        rcases tc with ⟨t2, t3, t4, t5⟩ | ⟨t2, t3, t4, t5⟩
        · rw [runOps_ok (o := .sync) t2]
          rw [w2, w3] at t4
          refine ⟨.inl rfl, by show (K1.sync.write 0 H).sync.n = 9; rw [t1, w1, s1, p1, hn], by show (K1.sync.write 0 H).sync.loose.length ≤ 100; rw [t5]; decide, fun ks => .inl ?_⟩
          show Holds (crashF (K1.sync.write 0 H).sync.sure ks (K1.sync.write 0 H).sync.loose) 9 (gen + 1) (1 - slot) b'
          rw [t4, t5]
          exact hfresh
        · rw [runOps_no (o := .sync) (by show ¬ syncE _ = 0; rw [t2]; decide)]
          refine ⟨.inr ⟨t2, t3⟩, by show (K1.sync.write 0 H).sync.n = 9; rw [t1, w1, s1, p1, hn], by show (K1.sync.write 0 H).sync.loose.length ≤ 100; rw [t5, w3]; simp, fun ks => ?_⟩
          show Holds (crashF (K1.sync.write 0 H).sync.sure ks (K1.sync.write 0 H).sync.loose) 9 (gen + 1) (1 - slot) b' ∨ (syncE (K1.sync.write 0 H) ≠ 0 ∧ Holds (crashF (K1.sync.write 0 H).sync.sure ks (K1.sync.write 0 H).sync.loose) 9 gen slot b)
          rw [t4, t5, w2, w3, t2]
          exact (one ks).imp id (fun h => ⟨by decide, h⟩)
      · rw [runOps_no (o := .wr 0 H) (by show ¬ writeE _ _ _ = 0; rw [w4]; decide)]
        refine ⟨.inr ⟨w4, w5⟩, by show (K1.sync.write 0 H).n = 9; rw [w1, s1, p1, hn], by show (K1.sync.write 0 H).loose.length ≤ 100; rw [w3]; simp, fun ks => ?_⟩
        show Holds (crashF (K1.sync.write 0 H).sure ks (K1.sync.write 0 H).loose) 9 (gen + 1) (1 - slot) b' ∨ (writeE K1.sync 0 H ≠ 0 ∧ Holds (crashF (K1.sync.write 0 H).sure ks (K1.sync.write 0 H).loose) 9 gen slot b)
        rw [w2, w3, w4]
        exact (one ks).imp id (fun h => ⟨by decide, h⟩)
    · rw [runOps_no (o := .sync) (by show ¬ syncE _ = 0; rw [s2]; decide)]
      refine ⟨.inr ⟨s2, s3⟩, by show K1.sync.n = 9; rw [s1, p1, hn], by show K1.sync.loose.length ≤ 100; rw [s5, p3, plL_len]; omega, fun ks => .inr ⟨by show syncE K1 ≠ 0; rw [s2]; decide, ?_⟩⟩
      show Holds (crashF K1.sync.sure ks K1.sync.loose) 9 gen slot b
      rw [s4, s5, p2, p3]
      exact oldp ks _ (Nat.le_refl _)
  · rw [if_neg (by rw [c1]; decide)]
    refine ⟨.inr ⟨c1, c2⟩, by rw [p1, hn], by rw [p3, plL_len]; omega, fun ks => .inr ⟨by rw [c1]; decide, ?_⟩⟩
    rw [p2, p3]
    exact oldp ks j hj
theorem Sl9.of_crash {K : Dk} {gen slot : Nat} {b : List UInt8} (ks : List Int) (hn : K.n = 9) (h : Holds (crashF K.sure ks K.loose) 9 gen slot b) : Sl9 (K.crash ks) gen slot b :=
  ⟨h, ⟨hn, rfl, rfl, rfl⟩, rfl, rfl⟩
end Go.Proofs.Ytlhfhhbafhnbkaa
