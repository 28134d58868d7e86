/-
  THE PLAIN LAWS of a record that is laid down and read again.
-/
import Derived.Test.YtgojdkjneggmjaaRecBackMath
namespace Go.Proofs.Ytgojdkjneggmjaa
open Go.RowKit FieldM
set_option linter.unusedSimpArgs false
theorem mid_form (r : Rec) (y : List UInt8) : r.mid ++ y = leB 20 2 ++ (leB 0 2 ++ (leB r.method.toNat 2 ++ (leB 0 2 ++ (leB 33 2 ++ (leB r.sum.toNat 4 ++ (leB r.packed.toNat 4 ++ (leB r.size.toNat 4 ++ (leB r.name.length 2 ++ (leB 0 2 ++ y))))))))) := by
  simp [Rec.mid, Rec.mid1, Rec.mid2, Rec.mid3, lay]
theorem getL_mid' (pre post : List UInt8) (z k : Nat) (p : Int) (hp : (pre.length : Int) = p) : getL (pre ++ (leB z k ++ post)) p (k : Int) = ((z % 256 ^ k : Nat) : Int) := by
  subst hp; exact getL_mid pre post z k pre.length rfl
theorem mid_read {r : Rec} (h : r.Ok) (pre post : List UInt8) (f : Nat) (hp : pre.length = f) :
    getL (pre ++ (r.mid ++ post)) (f : Int) 2 = 20 ∧ getL (pre ++ (r.mid ++ post)) ((f : Int) + 2) 2 = 0 ∧ getL (pre ++ (r.mid ++ post)) ((f : Int) + 4) 2 = r.method ∧ getL (pre ++ (r.mid ++ post)) ((f : Int) + 10) 4 = r.sum ∧ getL (pre ++ (r.mid ++ post)) ((f : Int) + 14) 4 = r.packed ∧ getL (pre ++ (r.mid ++ post)) ((f : Int) + 18) 4 = r.size ∧ getL (pre ++ (r.mid ++ post)) ((f : Int) + 22) 2 = (r.name.length : Int) ∧ getL (pre ++ (r.mid ++ post)) ((f : Int) + 24) 2 = 0 := by
  rw [mid_form]
  have hm : 0 ≤ r.method ∧ r.method < (256 : Int) ^ 2 := by rcases h.method with e | e <;> rw [e] <;> omega
  have hs := h.sum
  have hpk := h.packed
  have hsz := h.size
  have hn := h.name2
  refine ⟨?_, ?_, ?_, ?_, ?_, ?_, ?_, ?_⟩
  · have := getL_mid' pre (leB 0 2 ++ (leB r.method.toNat 2 ++ (leB 0 2 ++ (leB 33 2 ++ (leB r.sum.toNat 4 ++ (leB r.packed.toNat 4 ++ (leB r.size.toNat 4 ++ (leB r.name.length 2 ++ (leB 0 2 ++ post))))))))) 20 2 (f : Int) (by rw [hp])
    exact this
  · have := getL_mid' (pre ++ leB 20 2) (leB r.method.toNat 2 ++ (leB 0 2 ++ (leB 33 2 ++ (leB r.sum.toNat 4 ++ (leB r.packed.toNat 4 ++ (leB r.size.toNat 4 ++ (leB r.name.length 2 ++ (leB 0 2 ++ post)))))))) 0 2 ((f : Int) + 2) (by simp only [List.length_append, leB_len]; omega)
    simp only [List.append_assoc] at this; exact this
  · have := getL_mid' (pre ++ (leB 20 2 ++ leB 0 2)) (leB 0 2 ++ (leB 33 2 ++ (leB r.sum.toNat 4 ++ (leB r.packed.toNat 4 ++ (leB r.size.toNat 4 ++ (leB r.name.length 2 ++ (leB 0 2 ++ post))))))) r.method.toNat 2 ((f : Int) + 4) (by simp only [List.length_append, leB_len]; omega)
    simp only [List.append_assoc] at this; rw [mod_small hm.1 hm.2] at this; exact this
  · have := getL_mid' (pre ++ (leB 20 2 ++ (leB 0 2 ++ (leB r.method.toNat 2 ++ (leB 0 2 ++ leB 33 2))))) (leB r.packed.toNat 4 ++ (leB r.size.toNat 4 ++ (leB r.name.length 2 ++ (leB 0 2 ++ post)))) r.sum.toNat 4 ((f : Int) + 10) (by simp only [List.length_append, leB_len]; omega)
    simp only [List.append_assoc] at this; rw [mod_small hs.1 (by omega)] at this; exact this
  · have := getL_mid' (pre ++ (leB 20 2 ++ (leB 0 2 ++ (leB r.method.toNat 2 ++ (leB 0 2 ++ (leB 33 2 ++ leB r.sum.toNat 4)))))) (leB r.size.toNat 4 ++ (leB r.name.length 2 ++ (leB 0 2 ++ post))) r.packed.toNat 4 ((f : Int) + 14) (by simp only [List.length_append, leB_len]; omega)
    simp only [List.append_assoc] at this; rw [mod_small hpk.1 (by omega)] at this; exact this
  · have := getL_mid' (pre ++ (leB 20 2 ++ (leB 0 2 ++ (leB r.method.toNat 2 ++ (leB 0 2 ++ (leB 33 2 ++ (leB r.sum.toNat 4 ++ leB r.packed.toNat 4))))))) (leB r.name.length 2 ++ (leB 0 2 ++ post)) r.size.toNat 4 ((f : Int) + 18) (by simp only [List.length_append, leB_len]; omega)
    simp only [List.append_assoc] at this; rw [mod_small hsz.1 (by omega)] at this; exact this
  · have := getL_mid' (pre ++ (leB 20 2 ++ (leB 0 2 ++ (leB r.method.toNat 2 ++ (leB 0 2 ++ (leB 33 2 ++ (leB r.sum.toNat 4 ++ (leB r.packed.toNat 4 ++ leB r.size.toNat 4)))))))) (leB 0 2 ++ post) r.name.length 2 ((f : Int) + 22) (by simp only [List.length_append, leB_len]; omega)
    simp only [List.append_assoc] at this; rw [Nat.mod_eq_of_lt (by omega)] at this; exact this
  · have := getL_mid' (pre ++ (leB 20 2 ++ (leB 0 2 ++ (leB r.method.toNat 2 ++ (leB 0 2 ++ (leB 33 2 ++ (leB r.sum.toNat 4 ++ (leB r.packed.toNat 4 ++ (leB r.size.toNat 4 ++ leB r.name.length 2))))))))) post 0 2 ((f : Int) + 24) (by simp only [List.length_append, leB_len]; omega)
    simp only [List.append_assoc] at this; exact this
theorem head_rec {r : Rec} (h : r.Ok) (pre post x : List UInt8) (f long : Nat) (hx : x = pre ++ (r.mid ++ post)) (hp : pre.length = f) (k : Nat) (hk : x.length = long + k) :
    recF x 0 long f = (if r.name.length ≤ k then 0 else 4) ∧ (r.name.length ≤ k → recR x 0 long f = ⟨(x.drop long).take r.name.length, r.method, r.sum, r.packed, r.size, 0⟩) := by
  obtain ⟨e0, e2, e4, e10, e14, e18, e22, _⟩ := mid_read h pre post f hp
  rw [← hx] at e0 e2 e4 e10 e14 e18 e22
  have hn1 := h.name1
  have hok : recOk x f = true := by
    unfold recOk recN
    rw [e0, e2, e4, e22]
    have : (0 : Int) < (r.name.length : Int) := by omega
    rcases h.method with e | e <;> simp [e] <;> omega
  have hF : recF x 0 long f = (if r.name.length ≤ k then 0 else 4) := by
    unfold recF
    rw [if_neg (by simp), hok]
    unfold recN
    rw [e22, hk]
    by_cases hc : r.name.length ≤ k
    · rw [if_pos hc, decide_eq_true (by omega)]; rfl
    · rw [if_neg hc, decide_eq_false (by omega)]; rfl
  refine ⟨hF, fun hc => ?_⟩
  unfold recR
  rw [hF, if_pos hc, if_pos rfl]
  unfold recN
  rw [e4, e10, e14, e18, e22, Int.toNat_natCast]
theorem local_form (r : Rec) : localL r = [80, 75, 3, 4] ++ (r.mid ++ r.name) := by simp [localL]
theorem local_len (r : Rec) : (localL r).length = 30 + r.name.length := by rw [local_form]; simp only [List.length_append, mid_len, List.length_cons, List.length_nil]; omega
theorem local_gen {r : Rec} (h : r.Ok) (ahead post : List UInt8) :
    readF (ahead ++ ([80, 75, 3, 4] ++ (r.mid ++ post))) (ahead.length : Int) [80, 75, 3, 4] 30 4 [28] = (if r.name.length ≤ post.length then 0 else 4) ∧ (r.name.length ≤ post.length → readR (ahead ++ ([80, 75, 3, 4] ++ (r.mid ++ post))) (ahead.length : Int) [80, 75, 3, 4] 30 4 [28] = ⟨post.take r.name.length, r.method, r.sum, r.packed, r.size, 0⟩) := by
  obtain ⟨x, hx⟩ : ∃ x, x = [80, 75, 3, 4] ++ (r.mid ++ post) := ⟨_, rfl⟩
  have hl : x.length = 30 + post.length := by rw [hx]; simp only [List.length_append, mid_len, List.length_cons, List.length_nil]; omega
  obtain ⟨hX, hc⟩ := look_ahead ahead x 30 (by omega)
  have hz : getL x 28 2 = 0 := by rw [hx]; exact (mid_read h [80, 75, 3, 4] post 4 rfl).2.2.2.2.2.2.2
  have hd : x.drop 30 = post := by
    rw [hx, ← List.append_assoc]
    exact List.drop_left' (by simp only [List.length_append, mid_len, List.length_cons, List.length_nil])
  have hf : lookF (ahead ++ x) (ahead.length : Int) [80, 75, 3, 4] ((30 : Nat) : Int) = 0 := by
    unfold lookF
    rw [if_pos hc, Int.toNat_natCast, List.drop_left, hx]
    rw [if_pos (by simp)]
  have hn : noneF 0 x [28] = 0 := by simp [noneF, askF, hz]
  obtain ⟨h1, h2⟩ := head_rec h [80, 75, 3, 4] post x 4 30 hx rfl post.length hl
  rw [← hx]
  unfold readF readR
  rw [hX, hf, hn]
  refine ⟨h1, fun hc => ?_⟩
  rw [h2 hc, hd]
theorem local_read {r : Rec} (h : r.Ok) (ahead more : List UInt8) :
    readF (ahead ++ (localL r ++ more)) (ahead.length : Int) [80, 75, 3, 4] 30 4 [28] = 0 ∧ readR (ahead ++ (localL r ++ more)) (ahead.length : Int) [80, 75, 3, 4] 30 4 [28] = { r with at_ := 0 } := by
  obtain ⟨h1, h2⟩ := local_gen h ahead (r.name ++ more)
  have e : localL r ++ more = [80, 75, 3, 4] ++ (r.mid ++ (r.name ++ more)) := by rw [local_form]; simp only [List.append_assoc]
  have hl : r.name.length ≤ (r.name ++ more).length := by rw [List.length_append]; omega
  rw [e]
  refine ⟨by rw [h1, if_pos hl], ?_⟩
  rw [h2 hl, List.take_left]
theorem local_short {r : Rec} (h : r.Ok) (n : Nat) (hn : n + 1 = (localL r).length) : readF ((localL r).take n) 0 [80, 75, 3, 4] 30 4 [28] = 4 := by
  have hl := local_len r
  have hn1 := h.name1
  have e : (localL r).take n = [80, 75, 3, 4] ++ (r.mid ++ r.name.take (n - 30)) := by
    rw [local_form, ← List.append_assoc, List.take_append, List.take_of_length_le (by simp only [List.length_append, mid_len, List.length_cons, List.length_nil]; omega)]
    simp only [List.length_append, mid_len, List.length_cons, List.length_nil, List.append_assoc]
  have h1 := (local_gen h [] (r.name.take (n - 30))).1
  rw [List.nil_append, ← e] at h1
  refine h1.trans ?_
  rw [if_neg (by rw [List.length_take]; omega)]
theorem central_form (r : Rec) (post : List UInt8) : centralL r ++ post = ([80, 75, 1, 2] ++ leB 20 2) ++ (r.mid ++ (leB 0 2 ++ (leB 0 2 ++ (leB 0 2 ++ (leB (kindOf r).toNat 4 ++ (leB r.at_.toNat 4 ++ (r.name ++ post))))))) := by
  simp [centralL, lay]
theorem central_len (r : Rec) : (centralL r).length = 46 + r.name.length := by
  have := congrArg List.length (central_form r [])
  rw [List.append_nil] at this
  rw [this]
  simp only [List.length_append, mid_len, leB_len, List.length_cons, List.length_nil]; omega
theorem central_gen {r : Rec} (h : r.Ok) (ahead post x : List UInt8) (hx : x = ([80, 75, 1, 2] ++ leB 20 2) ++ (r.mid ++ (leB 0 2 ++ (leB 0 2 ++ (leB 0 2 ++ (leB (kindOf r).toNat 4 ++ (leB r.at_.toNat 4 ++ post))))))) :
    readF (ahead ++ x) (ahead.length : Int) [80, 75, 1, 2] 46 6 [30, 32, 34] = (if r.name.length ≤ post.length then 0 else 4) ∧ (r.name.length ≤ post.length → readC (ahead ++ x) (ahead.length : Int) = ⟨post.take r.name.length, r.method, r.sum, r.packed, r.size, r.at_⟩) := by
  have hl : x.length = 46 + post.length := by rw [hx]; simp only [List.length_append, mid_len, leB_len, List.length_cons, List.length_nil]; omega
  obtain ⟨hX, hc⟩ := look_ahead ahead x 46 (by omega)
  have hcut : ([80, 75, 1, 2] ++ leB 20 2 ++ r.mid).length = 32 := by simp only [List.length_append, mid_len, leB_len, List.length_cons, List.length_nil]
  have z30 : getL x 30 2 = 0 := by rw [hx]; exact (mid_read h ([80, 75, 1, 2] ++ leB 20 2) _ 6 (by simp [leB_len])).2.2.2.2.2.2.2
  have z32 : getL x 32 2 = 0 := by
    have := getL_mid' ([80, 75, 1, 2] ++ leB 20 2 ++ r.mid) (leB 0 2 ++ (leB 0 2 ++ (leB (kindOf r).toNat 4 ++ (leB r.at_.toNat 4 ++ post)))) 0 2 32 (by rw [hcut]; rfl)
    rw [hx]; simp only [List.append_assoc] at this ⊢; exact this
  have z34 : getL x 34 2 = 0 := by
    have := getL_mid' ([80, 75, 1, 2] ++ leB 20 2 ++ r.mid ++ leB 0 2) (leB 0 2 ++ (leB (kindOf r).toNat 4 ++ (leB r.at_.toNat 4 ++ post))) 0 2 34 (by rw [List.length_append, hcut, leB_len]; rfl)
    rw [hx]; simp only [List.append_assoc] at this ⊢; exact this
  have z42 : getL x 42 4 = r.at_ := by
    have := getL_mid' ([80, 75, 1, 2] ++ leB 20 2 ++ r.mid ++ leB 0 2 ++ leB 0 2 ++ leB 0 2 ++ leB (kindOf r).toNat 4) post r.at_.toNat 4 42 (by simp only [List.length_append, leB_len, mid_len, List.length_cons, List.length_nil]; rfl)
    rw [mod_small h.at_.1 (by have := h.at_.2; omega)] at this
    rw [hx]; simp only [List.append_assoc] at this ⊢; exact this
  have hd : x.drop 46 = post := by
    have e : x = ([80, 75, 1, 2] ++ leB 20 2 ++ r.mid ++ leB 0 2 ++ leB 0 2 ++ leB 0 2 ++ leB (kindOf r).toNat 4 ++ leB r.at_.toNat 4) ++ post := by rw [hx]; simp only [List.append_assoc]
    rw [e]
    exact List.drop_left' (by simp only [List.length_append, mid_len, leB_len, List.length_cons, List.length_nil])
  have hf : lookF (ahead ++ x) (ahead.length : Int) [80, 75, 1, 2] ((46 : Nat) : Int) = 0 := by
    unfold lookF
    rw [if_pos hc, Int.toNat_natCast, List.drop_left, hx]
    rw [if_pos (by simp)]
  have hn : noneF 0 x [30, 32, 34] = 0 := by simp [noneF, askF, z30, z32, z34]
  obtain ⟨h1, h2⟩ := head_rec h ([80, 75, 1, 2] ++ leB 20 2) _ x 6 46 hx (by simp [leB_len]) post.length hl
  have hF : readF (ahead ++ x) (ahead.length : Int) [80, 75, 1, 2] 46 6 [30, 32, 34] = (if r.name.length ≤ post.length then 0 else 4) := by
    unfold readF
    rw [hX, hf, hn]
    exact h1
  refine ⟨hF, fun hc => ?_⟩
  unfold readC
  rw [hF, if_pos hc, if_pos rfl]
  have e42 : getL (lookX (ahead ++ x) (ahead.length : Int) 46) 42 4 = r.at_ := by
    rw [show lookX (ahead ++ x) (ahead.length : Int) 46 = x from hX]; exact z42
  rw [e42]
  unfold readR
  rw [hX, hf, hn, h2 hc, hd]
theorem central_read {r : Rec} (h : r.Ok) (ahead more : List UInt8) :
    readF (ahead ++ (centralL r ++ more)) (ahead.length : Int) [80, 75, 1, 2] 46 6 [30, 32, 34] = 0 ∧ readC (ahead ++ (centralL r ++ more)) (ahead.length : Int) = r := by
  obtain ⟨h1, h2⟩ := central_gen h ahead (r.name ++ more) _ (central_form r more)
  have hl : r.name.length ≤ (r.name ++ more).length := by rw [List.length_append]; omega
  refine ⟨by rw [h1, if_pos hl], ?_⟩
  rw [h2 hl, List.take_left]
theorem central_short {r : Rec} (h : r.Ok) (n : Nat) (hn : n + 1 = (centralL r).length) : readF ((centralL r).take n) 0 [80, 75, 1, 2] 46 6 [30, 32, 34] = 4 := by
  have hl := central_len r
  have hn1 := h.name1
  have ef := central_form r []
  rw [List.append_nil, List.append_nil] at ef
  have e : (centralL r).take n = ([80, 75, 1, 2] ++ leB 20 2) ++ (r.mid ++ (leB 0 2 ++ (leB 0 2 ++ (leB 0 2 ++ (leB (kindOf r).toNat 4 ++ (leB r.at_.toNat 4 ++ r.name.take (n - 46))))))) := by
    have e2 : centralL r = ([80, 75, 1, 2] ++ leB 20 2 ++ r.mid ++ leB 0 2 ++ leB 0 2 ++ leB 0 2 ++ leB (kindOf r).toNat 4 ++ leB r.at_.toNat 4) ++ r.name := by rw [ef]; simp only [List.append_assoc]
    have e3 : ([80, 75, 1, 2] ++ leB 20 2 ++ r.mid ++ leB 0 2 ++ leB 0 2 ++ leB 0 2 ++ leB (kindOf r).toNat 4 ++ leB r.at_.toNat 4).length = 46 := by simp only [List.length_append, mid_len, leB_len, List.length_cons, List.length_nil]
    rw [e2, List.take_append, List.take_of_length_le (by rw [e3]; omega), e3]
    simp only [List.append_assoc]
  have h1 := (central_gen h [] (r.name.take (n - 46)) _ e).1
  rw [List.nil_append] at h1
  refine h1.trans ?_
  rw [if_neg (by rw [List.length_take]; omega)]
end Go.Proofs.Ytgojdkjneggmjaa
