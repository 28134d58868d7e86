/-
  SLOTS: the walk of head.bytes.
-/
import Derived.Test.YtlhfhhbafhnbkaaSlt1
import Derived.Lib.SlBytesConst
namespace Go.Proofs.Ytlhfhhbafhnbkaa
open Go.RowKit FieldM CrcM
set_option linter.unusedSimpArgs false
set_option linter.unusedVariables false
def hp (ns : List Nat) (q : Nat) : List UInt8 := (ns.take q).foldl (fun b x => b ++ leB x 4) magic
theorem hp_len (ns : List Nat) (q : Nat) (hq : q ≤ 4) : (hp ns q).length ≤ 20 := by
  have key : ∀ (l : List Nat) (b : List UInt8), (l.foldl (fun b x => b ++ leB x 4) b).length = b.length + 4 * l.length := by
    intro l
    induction l with
    | nil => intro b; simp
    | cons x r ih => intro b; rw [List.foldl_cons, ih, List.length_append, leB_len, List.length_cons]; omega
  unfold hp
  rw [key]
  simp [magic]
  omega
theorem hp_succ {ns : List Nat} {q : Nat} {x : Nat} (h : ns[q]? = some x) : hp ns (q + 1) = hp ns q ++ leB x 4 := by
  unfold hp
  rw [List.take_add_one, h]
  simp
set_option maxRecDepth 100000 in
set_option maxHeartbeats 4000000 in
theorem bytes_any (gen slot size sum : Nat) (h0 : gen < 4294967296) (h1 : slot < 4294967296) (h2 : size < 4294967296) (h3 : sum < 4294967296) (W : World) :
    Calls Try.prog 60 #[.agg #[.int .i64 (gen : Int), .int .i64 (slot : Int), .int .i64 (size : Int), .int .i64 (sum : Int)]] W fun e w' => e = .returned (blkV (hdr gen slot size sum)) ∧ Chg NoB W w' := by
  have HH := Lib.hid (And.intro h0 (And.intro h1 (And.intro h2 h3)))
  clear h0 h1 h2 h3
  have e2 : ((W.alloc (.cells #[.int .i64 (gen : Int), .int .i64 (slot : Int), .int .i64 (size : Int), .int .i64 (sum : Int)] 89)).alloc (.cells (blkC zeros) 113)).heap.size = W.heap.size + 1 + 1 := by simp
  have kc := Lib.run_convert_bytes_const (P := Try.prog) ((W.alloc (.cells #[.int .i64 (gen : Int), .int .i64 (slot : Int), .int .i64 (size : Int), .int .i64 (sum : Int)] 89)).alloc (.cells (blkC zeros) 113)) 25 5 #[.int .u8 86, .int .u8 65, .int .u8 76, .int .u8 83] 4 4 Try.underlying25 Try.underlying5
  rw [e2] at kc
  obtain ⟨wA, hwA⟩ : ∃ wA, wA = ((W.alloc (.cells #[.int .i64 (gen : Int), .int .i64 (slot : Int), .int .i64 (size : Int), .int .i64 (sum : Int)] 89)).alloc (.cells (blkC zeros) 113)).alloc (.cells #[.int .u8 86, .int .u8 65, .int .u8 76, .int .u8 83] 5 (4, 5)) := ⟨_, rfl⟩
  have hoA : OwnB wA (W.heap.size + 2) (.slice (some ⟨W.heap.size + 2, 0, none⟩) 4 4) magic := by
    rw [hwA]
    refine .inr ⟨W.heap.size + 2, rfl, Nat.le_refl _, ?_⟩
    have h := heap_alloc_new ((W.alloc (.cells #[.int .i64 (gen : Int), .int .i64 (slot : Int), .int .i64 (size : Int), .int .i64 (sum : Int)] 89)).alloc (.cells (blkC zeros) 113)) (.cells #[.int .u8 86, .int .u8 65, .int .u8 76, .int .u8 83] 5 (4, 5))
    rw [e2] at h
    exact h
  have hcA : Chg NoB W wA := by rw [hwA]; exact (((Chg.refl _ _).alloc _).alloc _).alloc _
  have hhA : Blk wA W.heap.size 89 #[.int .i64 (gen : Int), .int .i64 (slot : Int), .int .i64 (size : Int), .int .i64 (sum : Int)] := by rw [hwA]; exact ((Blk.new W _ _).alloc _).alloc _
  have hrA : Blk wA (W.heap.size + 1) 113 (blkC zeros) := by
    rw [hwA]
    have h := Blk.new (W.alloc (.cells #[.int .i64 (gen : Int), .int .i64 (slot : Int), .int .i64 (size : Int), .int .i64 (sum : Int)] 89)) 113 (blkC zeros)
    exact Blk.alloc (by simpa using h) _
  have HOA := Lib.hid hoA
  have HCA := Lib.hid hcA
  have HRA := Lib.hid hrA
  have k0 := hhA.cell 0
  have k1 := hhA.cell 1
  have k2 := hhA.cell 2
  have k3 := hhA.cell 3
  clear hoA hcA hhA hrA
  go_enter Try.func60, Try.ntmps60
  go_upto_region 2 with (first
    | (refine wpList_alloc_any hdr_zero _ rfl rfl ?_)
    | fail)
  rw [← hwA]
  clear hwA
  go_wp2_with fail
  go_loopw [3, 18] (fun b i wr => ∃ q : Nat, q ≤ 4 ∧ i = .int .i64 q ∧ OwnB wr (W.heap.size + 2) b (hp [gen, slot, size, sum] q) ∧ Chg NoB wA wr) (fun _ i _ => 4 - (intOf i).toNat)
  case atStart => exact ⟨0, by omega, rfl, HOA.out, Chg.refl _ _⟩
  case round =>
    obtain ⟨q, hq, rfl, ho, hch⟩ := hrel
    have HCH := Lib.hid hch
    have HO := Lib.hid ho
    have HBS := Lib.hid (show W.heap.size + 2 ≤ wr.heap.size from by have h1 := HRA.out.lt; have h2 := hch.size; omega)
    by_cases hlt : q < 4
    · have hx : ∃ x : Nat, [gen, slot, size, sum][q]? = some x ∧ x < 4294967296 ∧ ∀ w : World, (Instr.index 122 (.agg #[.int .i64 (gen : Int), .int .i64 (slot : Int), .int .i64 (size : Int), .int .i64 (sum : Int)]) (.int .i64 (q : Int))).run Try.prog w = .ok (.int .i64 (x : Int)) w := by
        have h := HH.out
        rcases (by omega : q = 0 ∨ q = 1 ∨ q = 2 ∨ q = 3) with rfl | rfl | rfl | rfl
        · exact ⟨gen, rfl, h.1, fun _ => by kernel_rfl⟩
        · exact ⟨slot, rfl, h.2.1, fun _ => by kernel_rfl⟩
        · exact ⟨size, rfl, h.2.2.1, fun _ => by kernel_rfl⟩
        · exact ⟨sum, rfl, h.2.2.2, fun _ => by kernel_rfl⟩
      obtain ⟨x, hx1, hx2, hx3⟩ := hx
      obtain ⟨A, n, c, rfl, hn, hr, hc, _⟩ := ho.val
      have HX1 := Lib.hid hx1
      have HX2 := Lib.hid hx2
      have HR := Lib.hid hr
      have HN := Lib.hid hn
      have HNL := Lib.hid (show n ≤ 20 from by rw [← hn]; exact hp_len _ _ hq)
      clear ho hch hx1 hx2 hr hn hc
      go_wp2_with fail
      refine (put4_any A (hp [gen, slot, size, sum] q) n c (x : Int) HN.out _ _ HR.out (by have := HNL.out; omega) (by have := HX2.out; omega)).mono ?_
      rintro e w1 ⟨⟨v, rfl, ho1⟩, hc1⟩
      rw [(fputL_ok HX2.out).1, ← hp_succ HX1.out] at ho1
      rw [(fputL_ok (l := []) HX2.out).2]
      have HO1 := Lib.hid (ho1.base_ HBS.out)
      have HC1 := Lib.hid hc1
      clear ho1 hc1
      go_wp2_with fail
      go_roundw
      case rel => exact ⟨q + 1, by omega, by go_num, HO1.out, HCH.out.trans HC1.out (fun _ _ h => h)⟩
      case measure => simp [intOf]; omega
    · obtain rfl : q = 4 := by omega
      have hp4 : hp [gen, slot, size, sum] 4 = hd20 gen slot size sum := rfl
      rw [hp4] at ho
      obtain ⟨A, n, c, rfl, hn, hr, hc, _⟩ := ho.val
      obtain rfl : n = 20 := by rw [← hn, hd20_len]
      have HR := Lib.hid hr
      clear ho hch hr hn hc HO hp4
      go_wp2_with fail
      refine (sum_any A (hd20 gen slot size sum) 20 c (hd20_len _ _ _ _) _ _ HR.out (by omega)).mono ?_
      rintro e w1 ⟨rfl, rfl⟩
      rw [crcN_U]
      obtain ⟨cs, hcs⟩ : ∃ cs, cs = crcN (hd20 gen slot size sum) := ⟨_, rfl⟩
      have hcl : cs < 4294967296 := by rw [hcs]; exact crcN_lt _
      rw [← hcs]
      have HCS := Lib.hid hcs
      have HCL := Lib.hid hcl
      clear hcs
      go_wp2_with fail
      refine (put4_any A (hd20 gen slot size sum) 20 c (cs : Int) (hd20_len _ _ _ _) _ _ HR.out (by omega) (by have := HCL.out; omega)).mono ?_
      rintro e w2 ⟨⟨v, rfl, ho2⟩, hc2⟩
      rw [(fputL_ok HCL.out).1, HCS.out] at ho2
      rw [(fputL_ok (l := []) HCL.out).2]
      obtain ⟨A2, n2, c2, rfl, hn2, hr2, hc2', hsp2⟩ := ho2.val
      have hn3 : (hd24 gen slot size sum).length = n2 := hn2
      obtain rfl : n2 = 24 := by rw [← hn3, hd24_len]
      obtain ⟨ad, rfl, _⟩ := hr2.2 (by rw [show (hd20 gen slot size sum ++ leB (crcN (hd20 gen slot size sum)) 4).length = 24 from hd24_len gen slot size sum]; omega)
      have HR2 := Lib.hid (show RB w2 w2.heap.size (some ad) (hd24 gen slot size sum) from hr2)
      have HC2 := Lib.hid ((HCA.out.trans HCH.out (fun _ _ h => h)).trans hc2 (fun _ _ h => h))
      have HRR := Lib.hid ((HRA.out.chg HCH.out (fun h => h)).chg hc2 (fun h => h))
      clear ho2 hn2 hr2 hc2' hsp2 hn3 hc2 hcl
      have hnb := (Blk.new w2 113 (blkC zeros))
      have hrb := HR2.out.alloc (Nat.le_refl _) (.cells (blkC zeros) 113)
      have HNB := Lib.hid hnb
      have HRB := Lib.hid hrb
      have HRR2 := Lib.hid (HRR.out.alloc (.cells (blkC zeros) 113))
      have HFI := Lib.hid (show blkC ((hd24 gen slot size sum).take 512 ++ zeros.drop (Nat.min 24 512)) = blkC (hdr gen slot size sum) from by
        rw [List.take_of_length_le (by rw [hd24_len]; omega)]
        unfold hdr zeros
        rw [List.drop_replicate]; rfl)
      clear hnb hrb
      have hcp := run_copyB (w2.alloc (.cells (blkC zeros) 113)) 3 w2.heap.size 24 c2 113 zeros (hd24 gen slot size sum) ad w2.heap.size HNB.out zeros_len (hd24_len _ _ _ _) HRB.out
      rw [HFI.out] at hcp
      go_wp2_with (first
        | (refine wpList_alloc_any hdr_zero _ rfl rfl ?_)
        | (refine wpList_load_row rfl 113 _ rfl w2.heap.size rfl 113 _ (0, 0) _ (HNB.out.row (blkC (hdr gen slot size sum))) Try.underlying113 rfl (by rw [hdr_size, blkC_size, hdr_len]) ?_)
        | (refine wpList_store_blk rfl 113 _ _ rfl (W.heap.size + 1) _ rfl rfl 113 _ (HRR2.out.farRow (k := w2.heap.size) (by have := HRR.out.lt; omega) _) (by rw [blkC_size, blkC_size, hdr_len, zeros_len]) (by rw [hdr_size, blkC_size, hdr_len]) (blk_one _) ?_)
        | fail)
      try simp only [Exit.inBlock, Exit.then]
      refine bodyPost_ret (results_cell_row rfl _ _ (W.heap.size + 1) 113 _ (0, 0) _ rfl ((HRR2.out.farRow (k := w2.heap.size) (by have := HRR.out.lt; omega) _).row _) Try.underlying113 rfl (by rw [hdr_size, blkC_size, hdr_len])) rfl ⟨rfl, ((HC2.out.alloc _).setRow (.inr (by have := HC2.out.size; omega)) _).setRow (.inr (by omega)) _⟩
end Go.Proofs.Ytlhfhhbafhnbkaa
