/-
  THE WALK of the laws' all: the sectors of a disk.
-/
import Derived.Test.YtmkbahhnjobglaaSecAct
namespace Go.Proofs.Ytmkbahhnjobglaa
open Go.RowKit
set_option linter.unusedSimpArgs false
theorem wpList_append_one (w : World) {P : Program} {ops : Array Oper} {rest : List Oper} {o : Oper} {a : Act} {Q : Exit → Act → World → Prop} (hg : o.guard = none) (s x : Operand) (T E : TypeId)
    (hop : o.op = .call { callee := .builtin .append, args := #[s, x], argTypes := #[T, T] }) (hT : P.underlying T = some (.slice E)) (it : TypeInfo) (z : Value) (bytes base : Nat) (hit : P.info? E = some it) (hz : it.zero = some z) (hs1 : it.size = 1) (hs2 : it.bytes = bytes) (hzz : z.cells.size = 1)
    (v : Value) (k : Nat) (xs : List Value) (hs : a.eval s = v) (hown : w.ownsRow base E 1 v k xs) (b : Nat) (u : Value) (hx : a.eval x = .slice (some ⟨b, 0, none⟩) 1 1) (hb : Blk w b E #[u]) (hu : u.oneCell' = true) (hk : (k + 1) * bytes ≤ 140737488355328) (hk1 : k + 1 ≤ maxLen) (hbase : base ≤ w.heap.size)
    (hK : ∀ v' w', w'.ownsRow base E 1 v' (k + 1) (xs ++ [u]) → w.grownBy w' v.ownBlock → (v'.ownBlock = v.ownBlock ∨ v'.ownBlock = some w.heap.size) → wpList P ops Q rest (a.put o.dst v') w') : wpList P ops Q (o :: rest) a w := by
  have hrd : Reads w (b + 1) 1 (some ⟨b, 0, none⟩) 1 [u] := ⟨rfl, fun _ => ⟨_, rfl, by simp, fun j w0 hw => by
    have ha : (⟨b, 0, none⟩ : Addr).add j = ⟨b, j, none⟩ := by unfold Addr.add; split <;> simp_all
    rw [ha, hb.cell j, ← hw]; simp⟩⟩
  obtain ⟨v', w', hrun, h2, h3, h4⟩ := run_append_any (P := P) w base T o.type E it z 1 bytes hT hit hz hs1 hs2 hzz (by decide) v k xs hown (b + 1) (some ⟨b, 0, none⟩) 1 1 [u] hrd (fun y hy => by simp at hy; subst hy; exact hu) hk1 hk hbase
  refine wpList_plain hg fun K hK' => ?_
  unfold Oper.wp execOp
  simp only [hop, resolve, invoke, builtin, Sem.run_bind, Sem.run_pure, Result.andThen_ok, List.map_toArray, List.map_cons, List.map_nil, hs, hx, hrun]
  exact hK' _ _ (hK v' w' h2 h3 h4)
theorem str_info : (Try.prog.info? 9).map (fun i => (i.zero, i.size, i.bytes)) = some (some (.string ⟨#[]⟩), 1, 16) := by kernel_rfl
theorem str_full : ∃ i, Try.prog.info? 9 = some i ∧ i.zero = some (.string ⟨#[]⟩) ∧ i.size = 1 ∧ i.bytes = 16 := by
  have h := str_info
  cases hi : Try.prog.info? 9 with
  | none => rw [hi] at h; cases h
  | some i => rw [hi] at h; simp at h; exact ⟨i, rfl, h.1, h.2.1, h.2.2⟩
/-- a string value of bytes -/
def strV (l : List UInt8) : Value := .string ⟨l.toArray⟩
/-- the sectors, as strings -/
def secs (f : Int → List UInt8) (n : Nat) : List Value := (List.range n).map fun (i : Nat) => strV (f (i : Int))
theorem secs_succ (f : Int → List UInt8) (n : Nat) : secs f (n + 1) = secs f n ++ [strV (f (n : Int))] := by simp [secs, List.range_succ]
set_option maxRecDepth 100000 in
set_option maxHeartbeats 4000000 in
theorem all_any (B g : Nat) (K : Dk) (F : Nat → Prop) (w : World) (hD : DI B w g K F) (hdk : K.dark = false) (n : Nat) (hn : K.n = (n : Int)) (hn2 : n ≤ 8192) :
    Calls Try.prog 20 #[.pointer (some ⟨g, 0, none⟩)] w fun e w' => ∃ v, e = .returned v ∧ w'.ownsRow w.heap.size 9 1 v n (secs K.now n) ∧ Chg NoB w w' := by
  have HD := Lib.hid hD
  have HK := Lib.hid (show K.dark = false ∧ K.n = (n : Int) from ⟨hdk, hn⟩)
  have hlen : ∀ i, (K.now i).length = 512 := by obtain ⟨bs, bn, v, hd, _⟩ := hD.disk; exact fun i => hd.now.len i
  have HL := Lib.hid hlen
  clear hD hdk hn hlen
  go_enter Try.func20, Try.ntmps20
  go_wp2_with fail
  go_loopw [3, 4] (fun v i wr => ∃ j : Nat, j ≤ n ∧ i = .int .i64 j ∧ wr.ownsRow w.heap.size 9 1 v j (secs K.now j) ∧ Chg NoB w wr) (fun _ i _ => n - (intOf i).toNat)
  case atStart => exact ⟨0, Nat.zero_le _, rfl, World.ownsRow_nil _ _ _ _, Chg.refl _ _⟩
  case round =>
    obtain ⟨j, hj, rfl, ho, hch⟩ := hrel
    obtain ⟨A, c, rfl⟩ := own_slice ho
    have HO := Lib.hid ho
    have HCH := Lib.hid hch
    clear ho hch
    go_wp2_with fail
    have HDr := Lib.hid (HD.out.no HCH.out)
    refine HDr.out.disk.len_.mono ?_
    rintro e w1 ⟨rfl, rfl⟩
    rw [HK.out.2]
    by_cases hlt : j < n
    · go_wp2_with fail
      refine (HDr.out.disk.read (j : Int)).mono ?_
      have hr0 : readE K (j : Int) = 0 := by
        unfold readE
        rw [if_neg (by rw [HK.out.2]; omega), if_neg (by rw [HK.out.1]; decide)]
      rintro e w2 (⟨h, _⟩ | ⟨_, ⟨b, rfl, hbl, hb⟩, hc2⟩)
      · exact absurd hr0 h
      clear hr0
      have hst := (blk_RB (show Blk w2 b 65 (((K.now (j : Int)).map bv).toArray) from hb)).toStr (n := 512) (HL.out _) 512 Try.underlying30 Try.underlying5 Try.underlying9
      have HC2 := Lib.hid hc2
      obtain ⟨it, hit, hz, hs1, hs2⟩ := str_full
      obtain ⟨arr, harr⟩ : ∃ arr, arr = (K.now (j : Int)).toArray := ⟨_, rfl⟩
      rw [← harr] at hst
      have HSV := Lib.hid (show Value.string ⟨arr⟩ = strV (K.now (j : Int)) from by rw [harr]; rfl)
      have HIT := Lib.hid (show Try.prog.info? 9 = some it ∧ it.zero = some (.string ⟨#[]⟩) ∧ it.size = 1 ∧ it.bytes = 16 from ⟨hit, hz, hs1, hs2⟩)
      have hc3 : Chg NoB w2 (w2.alloc (.cells #[.string ⟨arr⟩] 9)) := (Chg.refl _ _).alloc _
      have HN3 := Lib.hid (Blk.new w2 9 #[.string ⟨arr⟩])
      have HO3 := Lib.hid (ownsRow_chg (ownsRow_chg HO.out hc2 (fun _ _ h => h)) hc3 (fun _ _ h => h))
      have HC3 := Lib.hid hc3
      clear hb hbl hc2 hc3 hit hz hs1 hs2 harr
      go_wp2_with (at_builtin; (refine wpList_append_one _ rfl _ _ _ _ rfl Try.underlying31 it _ 16 w.heap.size HIT.out.1 HIT.out.2.1 HIT.out.2.2.1 HIT.out.2.2.2 rfl _ j _ rfl HO3.out w2.heap.size (.string ⟨arr⟩) rfl HN3.out rfl (by omega) (by unfold maxLen; omega) (by have h1 := HCH.out.size; have h2 := HC2.out.size; have h3 := HC3.out.size; omega) ?_); intro v9 w9 ho9 hg9 hv9)
      go_roundw
      case rel =>
        refine ⟨j + 1, by omega, by simp, by rw [secs_succ, ← HSV.out]; exact ho9, ?_⟩
        refine ((HCH.out.trans HC2.out (fun _ _ h => h)).trans HC3.out (fun _ _ h => h)).grown hg9 (fun q e => .inr ?_)
        exact (HO.out.lt q e).1
      case measure => simp [intOf]; omega
    · obtain rfl : j = n := by omega
      go_wp2_with fail
      go_ret
      exact ⟨_, rfl, HO.out, HCH.out⟩
end Go.Proofs.Ytmkbahhnjobglaa
