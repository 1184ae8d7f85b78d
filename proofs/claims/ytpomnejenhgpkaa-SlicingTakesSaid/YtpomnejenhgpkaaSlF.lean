/- Slices: what is put in and left out.  Conditions: those that each theorem names. -/
import Derived.Test.YtpomnejenhgpkaaSlE
set_option linter.unusedVariables false
set_option linter.unusedSimpArgs false
set_option maxHeartbeats 0
namespace Go.Pl
open Go Go.Ev Go.Sh
theorem Nums_l0 (k : Nat) : ∀ n, brindlewoodref3_Numbers.l0 k n = brindlewoodref3_SameLimbs.l0 k n := by
  intro n
  induction n with
  | zero => rfl
  | succ n ih => rw [brindlewoodref3_Numbers.l0, brindlewoodref3_SameLimbs.l0, ih]; rfl
theorem Nums_ok {k : Nat} {a b : List Int} (ha : (a.length : Int) ≤ 100000000000000) (hk : 100000000000001 < k) : brindlewoodref3_Numbers k a b = some (decide (a = b)) := by
  unfold brindlewoodref3_Numbers
  rw [Nums_l0]
  by_cases hl : a.length = b.length
  · have h := SameLimbs_l0 k hl (by omega) k 0 (by omega) (by omega)
    have h' : brindlewoodref3_SameLimbs.l0 k k a b 0 = some (if a.drop 0 = b.drop 0 then .inl () else .inr false) := h
    rw [bne_f (by omega), h', List.drop_zero, List.drop_zero]
    simp only [cond_false]
    by_cases he : a = b
    · rw [if_pos he, decide_eq_true he]; rfl
    · rw [if_neg he, decide_eq_false he]; rfl
  · rw [bne_t (by omega), decide_eq_false (fun e => hl (by rw [e]))]; rfl
theorem fits_less {n m b : Nat} (h : fitsB n b = true) (hm : m ≤ n) : fitsB m b = true := by
  unfold fitsB at h ⊢
  have h1 : (m + m / 4 + 192) * b ≤ (n + n / 4 + 192) * b := Nat.mul_le_mul_right b (by omega)
  simp only [Nat.ble_eq] at h ⊢
  exact Nat.le_trans h1 h
theorem nth3 (A B C : List Int) : nth (.list (.int .i64)) [A, B, C] 0 = A ∧ nth (.list (.int .i64)) [A, B, C] 1 = B ∧ nth (.list (.int .i64)) [A, B, C] 2 = C := ⟨rfl, rfl, rfl⟩
theorem in3 (A B C : List Int) : inR 0 (([A, B, C] : List (List Int)).length : Int) = true ∧ inR 1 (([A, B, C] : List (List Int)).length : Int) = true ∧ inR 2 (([A, B, C] : List (List Int)).length : Int) = true := ⟨rfl, rfl, rfl⟩
theorem Concat_ok {k : Nat} (hk : 10 < k) {A B C : List Int} (hf : fitsB (A.length + B.length + C.length) 8 = true) (hl : A.length + B.length + C.length ≤ 100000000000000) : slices_Concat_intint k [A, B, C] = some (A ++ B ++ C) := by
  obtain ⟨n1, n2, n3⟩ := nth3 A B C
  obtain ⟨i1, i2, i3⟩ := in3 A B C
  have hmono : ∀ m : Nat, m ≤ A.length + B.length + C.length → fitsB m 8 = true := by
    intro m hm
    exact fits_less hf hm
  have h0 : slices_Concat_intint.l0 k k [A, B, C] 0 [A, B, C] 3 0 = some (.inl ([A, B, C], ((A.length + B.length + C.length : Nat) : Int))) := by
    obtain ⟨n, hn⟩ : ∃ n, k = n + 1 + 1 + 1 + 1 := ⟨k - 4, by omega⟩
    have : ∀ m, m = n + 1 + 1 + 1 + 1 → slices_Concat_intint.l0 k m [A, B, C] 0 [A, B, C] 3 0 = some (.inl ([A, B, C], ((A.length + B.length + C.length : Nat) : Int))) := by
      intro m hm
      subst hm
      rw [slices_Concat_intint.l0, slices_Concat_intint.b0, n1]
      simp only
      rw [w64_id (n := 0 + (A.length : Int)) (by omega) (by omega), dlt_f (show (0 : Int) ≤ 0 + (A.length : Int) by omega), dlt_t (by decide), i1, show w64 (0 + 1) = 1 from rfl]
      simp only [cond_true, cond_false]
      rw [slices_Concat_intint.l0, slices_Concat_intint.b0, n2]
      simp only
      rw [w64_id (n := 0 + (A.length : Int) + (B.length : Int)) (by omega) (by omega), dlt_f (show (0 : Int) ≤ 0 + (A.length : Int) + (B.length : Int) by omega), dlt_t (by decide), i2, show w64 (1 + 1) = 2 from rfl]
      simp only [cond_true, cond_false]
      rw [slices_Concat_intint.l0, slices_Concat_intint.b0, n3]
      simp only
      rw [w64_id (n := 0 + (A.length : Int) + (B.length : Int) + (C.length : Int)) (by omega) (by omega), dlt_f (show (0 : Int) ≤ 0 + (A.length : Int) + (B.length : Int) + (C.length : Int) by omega), dlt_t (by decide), i3, show w64 (2 + 1) = 3 from rfl]
      simp only [cond_true, cond_false]
      rw [slices_Concat_intint.l0, slices_Concat_intint.b0, dlt_f (by decide)]
      simp only [cond_false]
      congr 3
      omega
    exact this k hn
  have hg : slices_Grow_intint_nd () ((A.length + B.length + C.length : Nat) : Int) = some [] := by
    unfold slices_Grow_intint_nd
    rw [dlt_f (show (0 : Int) ≤ ((A.length + B.length + C.length : Nat) : Int) by omega), w64_id (n := ((A.length + B.length + C.length : Nat) : Int) - 0) (by omega) (by omega)]
    by_cases hz : A.length + B.length + C.length = 0
    · rw [dlt_f (by omega)]; rfl
    · rw [dlt_t (by omega), dle_t (show (0 : Int) ≤ ((A.length + B.length + C.length : Nat) : Int) - 0 by omega), hmono _ (by rw [List.length_replicate]; omega), dle_t (show (0 : Int) ≤ ((List.replicate (Int.toNat (((A.length + B.length + C.length : Nat) : Int) - 0)) (0 : Int)).length : Int) by omega)]
      rfl
  have h1 : slices_Concat_intint.l1 k k [] [A, B, C] 3 0 = some (.inl (A ++ B ++ C)) := by
    obtain ⟨n, hn⟩ : ∃ n, k = n + 1 + 1 + 1 + 1 := ⟨k - 4, by omega⟩
    have : ∀ m, m = n + 1 + 1 + 1 + 1 → slices_Concat_intint.l1 k m [] [A, B, C] 3 0 = some (.inl (A ++ B ++ C)) := by
      intro m hm
      subst hm
      rw [slices_Concat_intint.l1, slices_Concat_intint.b1, n1, dlt_t (by decide), i1, hmono _ (by simp; omega), show w64 (0 + 1) = 1 from rfl]
      simp only [cond_true]
      rw [slices_Concat_intint.l1, slices_Concat_intint.b1, n2, dlt_t (by decide), i2, hmono _ (by simp), show w64 (1 + 1) = 2 from rfl]
      simp only [cond_true]
      rw [slices_Concat_intint.l1, slices_Concat_intint.b1, n3, dlt_t (by decide), i3, hmono _ (by simp), show w64 (2 + 1) = 3 from rfl]
      simp only [cond_true]
      rw [slices_Concat_intint.l1, slices_Concat_intint.b1, dlt_f (by decide)]
      rfl
    exact this k hn
  unfold slices_Concat_intint
  have h0' : slices_Concat_intint.l0 k k [A, B, C] 0 [A, B, C] (([A, B, C] : List (List Int)).length : Int) 0 = _ := h0
  rw [h0']
  simp only [joinB_inl]
  rw [hg]
  simp only [Option.bind_some]
  have h1' : slices_Concat_intint.l1 k k [] [A, B, C] (([A, B, C] : List (List Int)).length : Int) 0 = _ := h1
  rw [h1']
  rfl
def isP (f st : Int) (c : Nat) (j : Int) : Bool := (List.range c).any fun i => decide (f + (i : Int) * st = j)
theorem isP_iff {f st : Int} {c : Nat} {j : Int} : isP f st c j = true ↔ ∃ i : Nat, i < c ∧ f + (i : Int) * st = j := by
  unfold isP
  rw [List.any_eq_true]
  constructor
  · rintro ⟨i, hi, he⟩
    exact ⟨i, List.mem_range.1 hi, by simpa using he⟩
  · rintro ⟨i, hi, he⟩
    exact ⟨i, List.mem_range.2 hi, by simp [he]⟩
theorem isP_succ (f st : Int) (c : Nat) (j : Int) : isP f st (c + 1) j = (isP f st c j || decide (f + (c : Int) * st = j)) := by
  unfold isP
  rw [List.range_succ, List.any_append]
  simp
theorem hasK_add (K : List Int) (n j : Int) : hasK (addK K n) j = (hasK K j || decide (n = j)) := by
  unfold addK
  cases h : hasK K n
  · simp [hasK, List.any_append]
  · simp only [cond_true]
    by_cases e : n = j
    · subst e; simp [h]
    · simp [e]
def left (l : List Int) (f st : Int) (c m : Nat) : List Int := ((List.range m).filter fun j : Nat => !isP f st c (j : Int)).map fun j : Nat => l.getD j 0
theorem Drop_l0 (k : Nat) (l : List Int) {f st : Int} {c : Nat} (hc : c ≤ 4000) (hf : -1 ≤ f ∧ f ≤ 4000) (hp : ∀ i : Nat, i < c → 0 ≤ f + (i : Int) * st ∧ f + (i : Int) * st < 4000) : ∀ (m i : Nat) (K : List Int), i ≤ c → c - i < m → (∀ j, hasK K j = isP f st i j) →
    ∃ K', slicing_Drop_int.l0 k m l (0, 0) f st K c i = some (.inl (l, (0, 0), K')) ∧ ∀ j, hasK K' j = isP f st c j := by
  intro m
  induction m with
  | zero => intro i K _ h; omega
  | succ m ih =>
    intro i K h1 h2 hK
    simp only [slicing_Drop_int.l0, slicing_Drop_int.b0]
    by_cases h : i < c
    · obtain ⟨p1, p2⟩ := hp i h
      have e1 : w64 ((i : Int) * st) = (i : Int) * st := w64_id (by omega) (by omega)
      have e2 : w64 (f + (i : Int) * st) = f + (i : Int) * st := w64_id (by omega) (by omega)
      have e3 : w64 ((i : Int) + 1) = ((i + 1 : Nat) : Int) := by rw [w64_id (by omega) (by omega)]; omega
      rw [dlt_t (by omega), e1, e2, e3]
      simp only [cond_true]
      exact ih (i + 1) _ (by omega) (by omega) (fun j => by rw [hasK_add, hK, isP_succ])
    · have : i = c := by omega
      subst this
      rw [dlt_f (by omega)]
      exact ⟨K, rfl, hK⟩
theorem Drop_l1 (k : Nat) {l K : List Int} (hl : (l.length : Int) ≤ 4000) {f st : Int} {c : Nat} (hK : ∀ j, hasK K j = isP f st c j) : ∀ (m i : Nat), i ≤ l.length → l.length - i < m →
    slicing_Drop_int.l1 k m (0, 0) K (left l f st c i) l l.length i = some (.inl ((0, 0), left l f st c l.length)) := by
  intro m
  induction m with
  | zero => intro i _ h; omega
  | succ m ih =>
    intro i h1 h2
    simp only [slicing_Drop_int.l1, slicing_Drop_int.b1]
    by_cases h : i < l.length
    · have e3 : w64 ((i : Int) + 1) = ((i + 1 : Nat) : Int) := by rw [w64_id (by omega) (by omega)]; omega
      have hlen : (left l f st c i).length ≤ i := by
        unfold left
        rw [List.length_map]
        exact Nat.le_trans (List.length_filter_le _ _) (by rw [List.length_range]; omega)
      have hs : left l f st c (i + 1) = if isP f st c (i : Int) then left l f st c i else left l f st c i ++ [l.getD i 0] := by
        unfold left
        rw [List.range_succ, List.filter_append, List.map_append]
        cases hb : isP f st c (i : Int) <;> simp [hb]
      rw [dlt_t (by omega), inR_t (by omega) (by omega), hK, e3]
      simp only [cond_true]
      cases hb : isP f st c (i : Int)
      · rw [hb] at hs
        simp only [Bool.not_false, cond_true]
        rw [fits_t (by rw [List.length_singleton]; omega), rd_nat]
        simp only [cond_true]
        have := ih (i + 1) (by omega) (by omega)
        rw [hs] at this
        exact this
      · rw [hb] at hs
        simp only [Bool.not_true, cond_false]
        have := ih (i + 1) (by omega) (by omega)
        rw [hs] at this
        exact this
    · have : i = l.length := by omega
      subst this
      rw [dlt_f (by omega)]; rfl
theorem Drop_ok {k : Nat} (hk : 20000 < k) {l : List Int} (hl : (l.length : Int) ≤ 4000) {s : Sl} {f st : Int} {c : Nat} (hr : slicing_Resolve k s l.length = some (f, st, (c : Int), 0, 0)) (hc : c ≤ 4000) (hf : -1 ≤ f ∧ f ≤ 4000) (hp : ∀ i : Nat, i < c → 0 ≤ f + (i : Int) * st ∧ f + (i : Int) * st < l.length) :
    slicing_Drop_int k l s = some (left l f st c l.length, 0, 0) := by
  obtain ⟨K, h1, h2⟩ := Drop_l0 k l (st := st) hc hf (fun i hi => by have := hp i hi; omega) k 0 [] (by omega) (by omega) (fun j => rfl)
  have h1' : slicing_Drop_int.l0 k k l (0, 0) f st [] (c : Int) 0 = _ := h1
  have h3 := Drop_l1 k hl h2 k 0 (by omega) (by omega)
  have h3' : slicing_Drop_int.l1 k k (0, 0) K [] l l.length 0 = _ := h3
  unfold slicing_Drop_int
  rw [hr]
  simp only [Option.bind_some, bne_self_eq_false, cond_false]
  rw [h1']
  simp only [joinB_inl]
  rw [h3']; rfl
theorem Drop_no {k : Nat} {l : List Int} {s : Sl} {a b c : Int} {f : Int × Int} (hr : slicing_Resolve k s l.length = some (a, b, c, f)) (hf : f.1 ≠ 0) : slicing_Drop_int k l s = some ([], f) := by
  unfold slicing_Drop_int
  rw [hr]
  simp only [Option.bind_some]
  rw [bne_t hf]; rfl
theorem filter_or {p : Nat → Bool} {m : Nat} (hm : p m = false) : ∀ n : Nat, ((List.range n).filter fun j => p j || decide (m = j)).length = ((List.range n).filter p).length + (if m < n then 1 else 0) := by
  intro n
  induction n with
  | zero => rfl
  | succ n ih =>
    rw [List.range_succ, List.filter_append, List.filter_append, List.length_append, List.length_append, ih]
    by_cases h : m = n
    · subst h
      rw [if_neg (by omega), if_pos (by omega)]
      simp [hm]
    · by_cases h2 : m < n
      · rw [if_pos h2, if_pos (by omega)]
        cases hp : p n <;> simp [hp, h] <;> omega
      · rw [if_neg h2, if_neg (by omega)]
        cases hp : p n <;> simp [hp, h]
theorem isP_count {f st : Int} (hst : st ≠ 0) {n : Nat} : ∀ c : Nat, (∀ i : Nat, i < c → 0 ≤ f + (i : Int) * st ∧ f + (i : Int) * st < n) → ((List.range n).filter fun j : Nat => isP f st c (j : Int)).length = c := by
  intro c
  induction c with
  | zero =>
    intro _
    have : ((List.range n).filter fun j : Nat => isP f st 0 (j : Int)) = [] := List.filter_eq_nil_iff.2 fun j _ => by simp [isP]
    rw [this]; rfl
  | succ c ih =>
    intro h
    obtain ⟨p1, p2⟩ := h c (by omega)
    obtain ⟨m, hm⟩ : ∃ m : Nat, f + (c : Int) * st = m := ⟨_, (Int.toNat_of_nonneg p1).symm⟩
    rw [hm] at p1 p2
    have e : (fun j : Nat => isP f st (c + 1) (j : Int)) = fun j : Nat => (isP f st c (j : Int) || decide (m = j)) := by
      funext j
      rw [isP_succ, hm]
      congr 1
      exact decide_eq_decide.2 (by omega)
    have hno : isP f st c (m : Int) = false := by
      cases hb : isP f st c (m : Int) with
      | false => rfl
      | true =>
        obtain ⟨i, hi, he⟩ := isP_iff.1 hb
        rw [← hm] at he
        have h2 : (i : Int) * st = (c : Int) * st := by omega
        have := Int.eq_of_mul_eq_mul_right hst h2
        omega
    rw [e, filter_or (p := fun j : Nat => isP f st c (j : Int)) hno n, ih (fun i hi => h i (by omega)), if_pos (by omega)]
theorem filter_not_len (p : Nat → Bool) : ∀ n : Nat, ((List.range n).filter p).length + ((List.range n).filter fun j => !p j).length = n := by
  intro n
  induction n with
  | zero => rfl
  | succ n ih =>
    rw [List.range_succ, List.filter_append, List.filter_append, List.length_append, List.length_append]
    cases hp : p n <;> simp [hp] <;> omega
theorem left_length {l : List Int} {f st : Int} (hst : st ≠ 0) {c : Nat} (hp : ∀ i : Nat, i < c → 0 ≤ f + (i : Int) * st ∧ f + (i : Int) * st < l.length) : (left l f st c l.length).length + c = l.length := by
  unfold left
  rw [List.length_map]
  have h1 := filter_not_len (fun j : Nat => isP f st c (j : Int)) l.length
  have h2 := isP_count (n := l.length) hst c hp
  omega
theorem left_one {l : List Int} {f c : Nat} (h : f + c ≤ l.length) : ∀ m : Nat, m ≤ l.length → left l f 1 c m = if m ≤ f then l.take m else if m ≤ f + c then l.take f else l.take f ++ (l.take m).drop (f + c) := by
  intro m
  induction m with
  | zero => intro _; rw [if_pos (by omega)]; rfl
  | succ m ih =>
    intro hm
    have hs : left l f 1 c (m + 1) = if isP f 1 c (m : Int) then left l f 1 c m else left l f 1 c m ++ [l.getD m 0] := by
      unfold left
      rw [List.range_succ, List.filter_append, List.map_append]
      cases hb : isP f 1 c (m : Int) <;> simp [hb]
    have hP : isP f 1 c (m : Int) = decide (f ≤ m ∧ m < f + c) := by
      by_cases hb : f ≤ m ∧ m < f + c
      · rw [decide_eq_true hb]
        exact isP_iff.2 ⟨m - f, by omega, by omega⟩
      · rw [decide_eq_false hb]
        cases hc : isP f 1 c (m : Int) with
        | false => rfl
        | true =>
          obtain ⟨i, hi, he⟩ := isP_iff.1 hc
          exact absurd ⟨by omega, by omega⟩ hb
    rw [hs, hP, ih (by omega)]
    have ht : l.take (m + 1) = l.take m ++ [l.getD m 0] := take_succ' (by omega)
    by_cases h1 : m < f
    · rw [decide_eq_false (by omega), if_pos (show m ≤ f by omega), if_pos (show m + 1 ≤ f by omega), ht]; rfl
    · by_cases h2 : m < f + c
      · rw [decide_eq_true (by omega), if_neg (show ¬ m + 1 ≤ f by omega), if_pos (show m + 1 ≤ f + c by omega)]
        simp only [if_true]
        by_cases h3 : m ≤ f
        · rw [if_pos h3, show m = f by omega]
        · rw [if_neg h3, if_pos (by omega)]
      · rw [decide_eq_false (by omega), if_neg (show ¬ m + 1 ≤ f by omega), if_neg (show ¬ m + 1 ≤ f + c by omega)]
        simp only [Bool.false_eq_true, if_false]
        rw [ht, List.drop_append_of_le_length (by rw [List.length_take]; omega)]
        by_cases h3 : m ≤ f
        · have : c = 0 := by omega
          subst this
          have : m = f := by omega
          subst this
          rw [if_pos (by omega), Nat.add_zero, List.drop_take, Nat.sub_self, List.take_zero, List.nil_append]
        · by_cases h4 : m ≤ f + c
          · have : m = f + c := by omega
            rw [if_neg h3, if_pos h4, this, List.drop_take, Nat.sub_self, List.take_zero, List.nil_append]
          · rw [if_neg h3, if_neg h4, List.append_assoc]
theorem left_one' {l : List Int} {f c : Nat} (h : f + c ≤ l.length) : left l f 1 c l.length = l.take f ++ l.drop (f + c) := by
  rw [left_one h l.length (Nat.le_refl _), List.take_length]
  by_cases h1 : l.length ≤ f
  · rw [if_pos h1, List.take_of_length_le h1, List.drop_of_length_le (by omega), List.append_nil]
  · rw [if_neg h1]
    by_cases h2 : l.length ≤ f + c
    · rw [if_pos h2, List.drop_of_length_le h2, List.append_nil]
    · rw [if_neg h2]
theorem tk_one {l : List Int} {f c : Nat} (h : f + c ≤ l.length) : tk l f 1 c = (l.drop f).take c := by
  apply List.ext_getElem?
  intro i
  unfold tk
  rw [List.getElem?_map, List.getElem?_take, List.getElem?_drop]
  by_cases hi : i < c
  · rw [List.getElem?_range hi, if_pos hi]
    show some (l.getD (((f : Int) + (i : Int) * 1).toNat) 0) = _
    rw [show ((f : Int) + (i : Int) * 1).toNat = f + i by omega, List.getD_eq_getElem?_getD, List.getElem?_eq_getElem (by omega)]; rfl
  · rw [if_neg hi, List.getElem?_eq_none (by rw [List.length_range]; omega)]; rfl
theorem three_parts {l : List Int} {f c : Nat} (h : f + c ≤ l.length) : l.take f ++ (l.drop f).take c ++ l.drop (f + c) = l := by
  rw [List.append_assoc, ← List.drop_drop, List.take_append_drop, List.take_append_drop]
end Go.Pl
