/-
  A STRING's BYTES appended to bytes of its own.
-/
import Derived.Test.YtgojdkjneggmjaaBytes
import Derived.Lib.AppendStr
namespace Go.Proofs.Ytgojdkjneggmjaa
open Go.RowKit Go.Lib
theorem strCells_list (s : List UInt8) : strCells ⟨s.toArray⟩ = s.map bv := by simp only [strCells]; rfl
theorem run_appendStrB {w : World} {v : Value} {l : List UInt8} (base : Nat) (ty : TypeId) (hown : OwnB w base v l) (s : List UInt8) (hpos : 0 < s.length) (hbytes : l.length + s.length ≤ 1000000) (hbase : base ≤ w.heap.size) :
    ∃ v' w', (Builtin.append_ #[24, 9] ty #[v, .string ⟨s.toArray⟩]).run Try.prog w = .ok v' w' ∧ OwnB w' base v' (l ++ s) ∧ w.grownBy w' v.ownBlock := by
  obtain ⟨i0, hi, hz0, hz1, hz2⟩ := info_parts u8_info
  have hss : (⟨s.toArray⟩ : ByteArray).size = s.length := by simp [ByteArray.size]
  rcases hown with hown | ⟨g, rfl, hb, hh⟩
  · obtain ⟨v', w', h1, h2, h3, _⟩ := run_append_own_string (P := Try.prog) w base 24 9 ty 5 i0 Try.underlying24 Try.underlying9 hi hz0 hz1 hz2 v l.length (l.map bv) hown ⟨s.toArray⟩ (by rw [hss]; unfold maxLen; omega) (by rw [hss]; omega) hbase
    refine ⟨v', w', h1, .inl ?_, h3⟩
    rw [hss, strCells_list] at h2
    unfold OwnR
    rw [List.length_append, List.map_append]; exact h2
  · have holds : ∀ j u, (l.map bv)[j]? = some u → w.cell? ((⟨g, 0, none⟩ : Addr).add j) = some u := by
      intro j u hu
      have ha : (⟨g, 0, none⟩ : Addr).add j = ⟨g, j, none⟩ := by (unfold Addr.add; split <;> simp_all)
      rw [ha, cell_of_row w g j _ _ _ hh, ← hu]; simp
    have hr := run_append_grow_string (P := Try.prog) w 24 9 ty 5 i0 (.int .u8 0) Try.underlying24 Try.underlying9 hi hz0 ⟨g, 0, none⟩ l.length l.length (l.map bv) (by rw [hz1]; simp) holds ⟨s.toArray⟩ (by rw [hss]; omega) (by rw [hss]; omega) (by rw [hz2]; exact growslice_fits (by rw [hss]; omega) (by rw [hss]; omega))
    have hge := grownCap_ge w (l.length + s.length) l.length 5
    have hcm : grownCap w (l.length + s.length) l.length 5 ≤ maxLen := grownCap_le_maxLen w _ _ _ (by unfold maxLen; omega)
    rw [hss, strCells_list] at hr
    refine ⟨_, _, hr, .inl ⟨by simp, .inr ⟨w.heap.size, _, _, by rw [List.length_append], hbase, heap_alloc_new w.drew _, by rw [List.length_append]; exact hge, hcm, ?_, ?_⟩⟩, ⟨rfl, rfl, rfl, by simp, fun k hk _ => heap_alloc_old w.drew _ k hk⟩⟩
    · have hz1 : (Value.int IntKind.u8 0).cells.size = 1 := rfl
      simp only [Array.size_append, List.size_toArray, size_zeroCells, hz1, List.length_map]
      omega
    · simp only [Array.toList_append, List.append_assoc, List.map_append]
      rw [← List.append_assoc]
      exact List.take_left' (by simp)
theorem wpList_appendStrB {w : World} {ops : Array Oper} {rest : List Oper} {o : Oper} {a : Act} {Q : Exit → Act → World → Prop} (hgd : o.guard = none) (s x : Operand)
    (ho : o.op = .call { callee := .builtin .append, args := #[s, x], argTypes := #[24, 9] })
    (base : Nat) (v : Value) (l : List UInt8) (hs : a.eval s = v) (hown : OwnB w base v l) (m : List UInt8) (hx : a.eval x = .string ⟨m.toArray⟩) (hpos : 0 < m.length) (hbytes : l.length + m.length ≤ 1000000) (hbase : base ≤ w.heap.size)
    (h : ∀ v' w', OwnB w' base v' (l ++ m) → w.grownBy w' v.ownBlock → wpList Try.prog ops Q rest (a.put o.dst v') w') : wpList Try.prog ops Q (o :: rest) a w := by
  obtain ⟨v', w', hrun, h2, h3⟩ := run_appendStrB base o.type hown m hpos hbytes hbase
  refine wpList_plain hgd fun K hK => ?_
  unfold Oper.wp execOp
  simp only [ho, resolve, invoke, builtin, Sem.run_bind, Sem.run_pure, Result.andThen_ok, List.map_toArray, List.map_cons, List.map_nil, hs, hx, hrun]
  exact hK _ _ (h v' w' h2 h3)
end Go.Proofs.Ytgojdkjneggmjaa
