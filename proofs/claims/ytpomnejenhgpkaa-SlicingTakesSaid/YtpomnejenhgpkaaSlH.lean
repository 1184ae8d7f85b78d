/- SlicingTakes: its plain function answers true.  Conditions: limbs within their kind, lists no longer than memory. -/
import Derived.Test.YtpomnejenhgpkaaSlG
set_option linter.unusedVariables false
set_option linter.unusedSimpArgs false
set_option maxHeartbeats 0
namespace Go.Pl
open Go Go.Ev Go.Sh
theorem places_rd {f st : Int} {c i : Nat} (h : i < c) : rd (places f st c) i = f + (i : Int) * st := by
  show (places f st c).getD (i : Int).toNat 0 = _
  rw [natCast_toNat, List.getD_eq_getElem?_getD]
  unfold places
  rw [List.getElem?_map, List.getElem?_range h]; rfl
theorem tk_succ (l : List Int) (f st : Int) (i : Nat) : tk l f st (i + 1) = tk l f st i ++ [rd l (f + (i : Int) * st)] := by
  unfold tk
  rw [List.range_succ, List.map_append]; rfl
theorem left_succ (l : List Int) (f st : Int) (c i : Nat) : left l f st c (i + 1) = if isP f st c (i : Int) then left l f st c i else left l f st c i ++ [l.getD i 0] := by
  unfold left
  rw [List.range_succ, List.filter_append, List.map_append]
  cases hb : isP f st c (i : Int) <;> simp [hb]
theorem left_le (l : List Int) (f st : Int) (c i : Nat) : (left l f st c i).length ≤ i := by
  unfold left
  rw [List.length_map]
  exact Nat.le_trans (List.length_filter_le _ _) (by rw [List.length_range]; omega)
theorem inc64 {i : Nat} (h : (i : Int) ≤ 100000000000000) : w64 ((i : Int) + 1) = ((i + 1 : Nat) : Int) := by rw [w64_id (by omega) (by omega)]; omega
theorem In_l0 (k : Nat) {f st : Int} {c : Nat} (hc : c ≤ 4000) (j : Int) : ∀ (m i : Nat), i ≤ c → c - i < m → (∀ t : Nat, t < i → f + (t : Int) * st ≠ j) →
    brindlewoodref3_In.l0 k m (places f st c) j i = some (if isP f st c j then .inr true else .inl ()) := by
  intro m
  induction m with
  | zero => intro i _ h; omega
  | succ m ih =>
    intro i h1 h2 h3
    simp only [brindlewoodref3_In.l0, brindlewoodref3_In.b0]
    rw [places_length]
    by_cases h : i < c
    · rw [dlt_t (by omega), inR_t (by omega) (by omega), places_rd h, inc64 (by omega)]
      simp only [cond_true]
      by_cases he : f + (i : Int) * st = j
      · rw [he, beq_self_eq_true, if_pos (isP_iff.2 ⟨i, h, he⟩)]; rfl
      · rw [beq_f he]
        simp only [cond_false]
        exact ih (i + 1) (by omega) (by omega) (fun t ht => by
          by_cases e : t = i
          · subst e; exact he
          · exact h3 t (by omega))
    · rw [dlt_f (by omega)]
      have hn : isP f st c j = false := by
        cases hb : isP f st c j with
        | false => rfl
        | true =>
          obtain ⟨t, ht, he⟩ := isP_iff.1 hb
          exact absurd he (h3 t (by omega))
      rw [hn]; rfl
theorem In_ok {k : Nat} (hk : 5000 < k) {f st : Int} {c : Nat} (hc : c ≤ 4000) (j : Int) : brindlewoodref3_In k (places f st c) j = some (isP f st c j) := by
  have h := In_l0 k (f := f) (st := st) hc j k 0 (by omega) (by omega) (fun t ht => by omega)
  have h' : brindlewoodref3_In.l0 k k (places f st c) j 0 = _ := h
  unfold brindlewoodref3_In
  rw [h']
  cases isP f st c j <;> rfl
section
variable (k : Nat) (l w : List Int) (most : Int) (a : List Int) (e1 : Int × Int) (b : List Int) (e2 : Int × Int) (d : List Int) (e3 : Int × Int) (f st : Int)
theorem Tk_l0 (hl : (l.length : Int) ≤ 4000) {c : Nat} (hc : c ≤ 4000) (hp : ∀ i : Nat, i < c → 0 ≤ f + (i : Int) * st ∧ f + (i : Int) * st < l.length) : ∀ (m i : Nat), i ≤ c → c - i < m →
    brindlewoodlaw3_SlicingTakes.l0 k m l w most a e1 b e2 d e3 f st (places f st c) (tk l f st i) [] i = some (.inl (l, w, most, a, e1, b, e2, d, e3, f, st, places f st c, tk l f st c, [])) := by
  intro m
  induction m with
  | zero => intro i _ h; omega
  | succ m ih =>
    intro i h1 h2
    simp only [brindlewoodlaw3_SlicingTakes.l0, brindlewoodlaw3_SlicingTakes.b0]
    rw [places_length]
    by_cases h : i < c
    · obtain ⟨p1, p2⟩ := hp i h
      rw [dlt_t (by omega), inR_t (by omega) (by omega), places_rd h, inR_t p1 p2, fits_t (by rw [tk_length, List.length_singleton]; omega), inc64 (by omega), ← tk_succ]
      simp only [cond_true]
      exact ih (i + 1) (by omega) (by omega)
    · have : i = c := by omega
      subst this
      rw [dlt_f (by omega)]; rfl
theorem Lf_l1 (hk : 5000 < k) (hl : (l.length : Int) ≤ 4000) {c : Nat} (hc : c ≤ 4000) (t : List Int) : ∀ (m i : Nat), i ≤ l.length → l.length - i < m →
    brindlewoodlaw3_SlicingTakes.l1 k m l w most a e1 b e2 d e3 f st (places f st c) t (left l f st c i) i = some (.inl (l, w, most, a, e1, b, e2, d, e3, f, st, places f st c, t, left l f st c l.length)) := by
  intro m
  induction m with
  | zero => intro i _ h; omega
  | succ m ih =>
    intro i h1 h2
    simp only [brindlewoodlaw3_SlicingTakes.l1, brindlewoodlaw3_SlicingTakes.b1]
    by_cases h : i < l.length
    · have hle := left_le l f st c i
      have hs := left_succ l f st c i
      have hi := ih (i + 1) (by omega) (by omega)
      rw [dlt_t (by omega), In_ok hk hc, inc64 (by omega)]
      simp only [cond_true, Option.bind_some]
      cases hb : isP f st c (i : Int)
      · rw [hb] at hs
        simp only [Bool.not_false, cond_true]
        rw [inR_t (by omega) (by omega), fits_t (by rw [List.length_singleton]; omega), rd_nat]
        simp only [cond_true]
        rw [hs] at hi
        exact hi
      · rw [hb] at hs
        simp only [Bool.not_true, cond_false]
        rw [hs] at hi
        exact hi
    · have : i = l.length := by omega
      subst this
      rw [dlt_f (by omega)]; rfl
theorem Pt_l2 (hl : (l.length : Int) ≤ 4000) (hw : (w.length : Int) ≤ 4000) (hp : ∀ i : Nat, i < w.length → 0 ≤ f + (i : Int) * st ∧ f + (i : Int) * st < l.length) : ∀ (m i : Nat), i ≤ w.length → w.length - i < m →
    brindlewoodlaw3_SlicingTakes.l2 k m w b e2 (places f st w.length) (putL l f st w i) i = some (.inl (b, e2, putL l f st w w.length)) := by
  intro m
  induction m with
  | zero => intro i _ h; omega
  | succ m ih =>
    intro i h1 h2
    simp only [brindlewoodlaw3_SlicingTakes.l2, brindlewoodlaw3_SlicingTakes.b2]
    rw [places_length]
    by_cases h : i < w.length
    · obtain ⟨p1, p2⟩ := hp i h
      rw [dlt_t (by omega), inR_t (by omega) (by omega), places_rd h, inR_t p1 (by rw [putL_length]; exact p2), inc64 (by omega), ← putL_succ]
      simp only [cond_true]
      exact ih (i + 1) (by omega) (by omega)
    · have : i = w.length := by omega
      subst this
      rw [dlt_f (by omega)]; rfl
end
def tkTail (k : Nat) (z18 : List Int × List Int × Int × List Int × (Int × Int) × Int × Int × List Int × List Int) : Option Bool :=
  joinB (α := List Int × List Int × Int × List Int × (Int × Int) × Int × Int × List Int × List Int × Bool) (bif (z18.2.2.2.2.2.2.1 != 1) then (let c19 := ((z18.2.1.length : Int) != (z18.2.2.2.2.2.2.2.1.length : Int)); some (.inl (z18.1, z18.2.1, z18.2.2.1, z18.2.2.2.1, z18.2.2.2.2.1, z18.2.2.2.2.2.1, z18.2.2.2.2.2.2.1, z18.2.2.2.2.2.2.2.1, z18.2.2.2.2.2.2.2.2, c19))) else (some (.inl (z18.1, z18.2.1, z18.2.2.1, z18.2.2.2.1, z18.2.2.2.2.1, z18.2.2.2.2.2.1, z18.2.2.2.2.2.2.1, z18.2.2.2.2.2.2.2.1, z18.2.2.2.2.2.2.2.2, false)))) (fun z20 => bif z20.2.2.2.2.2.2.2.2.2 then ((brindlewoodref3_At 9 (-3)).bind fun t21 => bif ((z20.2.2.2.2.1.1 == t21.1) && ((z20.2.2.2.2.1.2 == t21.2) && true)) then (let c22 := ((z20.2.2.2.1.length : Int) == 0); some c22) else (some false)) else (let c23 := decide (z20.2.2.1 < w64 ((z20.2.2.2.2.2.2.2.2.1.length : Int) + (z20.2.1.length : Int))); bif c23 then ((brindlewoodref3_At 14 (-1)).bind fun t24 => bif ((z20.2.2.2.2.1.1 == t24.1) && ((z20.2.2.2.2.1.2 == t24.2) && true)) then (let c25 := ((z20.2.2.2.1.length : Int) == 0); some c25) else (some false)) else (bif (z20.2.2.2.2.2.2.1 == 1) then (bif ((decide (0 ≤ 0) && decide (0 ≤ z20.2.2.2.2.2.1)) && decide (z20.2.2.2.2.2.1 ≤ (z20.1.length : Int))) then (bif fitsB (sub z20.1 0 (z20.2.2.2.2.2.1 - 0)).length 8 then (bif fitsB ((sub z20.1 0 (z20.2.2.2.2.2.1 - 0)).length + z20.2.1.length) 8 then (bif ((decide (0 ≤ z20.2.2.2.2.2.1) && decide (z20.2.2.2.2.2.1 ≤ (z20.2.2.2.2.2.2.2.2.1.length : Int))) && decide ((z20.2.2.2.2.2.2.2.2.1.length : Int) ≤ (z20.2.2.2.2.2.2.2.2.1.length : Int))) then (bif fitsB (((sub z20.1 0 (z20.2.2.2.2.2.1 - 0)) ++ z20.2.1).length + (sub z20.2.2.2.2.2.2.2.2.1 z20.2.2.2.2.2.1 ((z20.2.2.2.2.2.2.2.2.1.length : Int) - z20.2.2.2.2.2.1)).length) 8 then (bif (z20.2.2.2.2.1.1 == 0) then ((brindlewoodref3_Numbers k z20.2.2.2.1 (((sub z20.1 0 (z20.2.2.2.2.2.1 - 0)) ++ z20.2.1) ++ (sub z20.2.2.2.2.2.2.2.2.1 z20.2.2.2.2.2.1 ((z20.2.2.2.2.2.2.2.2.1.length : Int) - z20.2.2.2.2.2.1)))).bind fun t26 => some t26) else (some false)) else none) else none) else none) else none) else none) else (bif fitsB z20.1.length 8 then (joinB (α := List Int × (Int × Int) × List Int) (brindlewoodlaw3_SlicingTakes.l2 k k z20.2.1 z20.2.2.2.1 z20.2.2.2.2.1 z20.2.2.2.2.2.2.2.1 z20.1 0) (fun y27 => bif (y27.2.1.1 == 0) then ((brindlewoodref3_Numbers k y27.1 y27.2.2).bind fun t28 => some t28) else (some false)) some) else none)))) some
theorem sub_all (l : List Int) {F : Nat} (h : F ≤ l.length) : Ev.sub l 0 ((F : Int) - 0) = l.take F ∧ Ev.sub l F ((l.length : Int) - F) = l.drop F := by
  refine ⟨?_, ?_⟩
  · show (l.drop 0).take ((F : Int) - 0).toNat = _
    rw [List.drop_zero, show ((F : Int) - 0).toNat = F by omega]
  · show (l.drop ((F : Nat) : Int).toNat).take ((l.length : Int) - (F : Int)).toNat = _
    rw [natCast_toNat, List.take_of_length_le (by rw [List.length_drop]; omega)]
theorem tkTail_ok {k : Nat} (hk : 100000000000001 < k) {l w : List Int} {most : Int} (hl : (l.length : Int) ≤ 4000) (hw : w.length ≤ 17592186043904) {f st : Int} {c : Nat} (hc : c ≤ l.length) (hf : -1 ≤ f ∧ f ≤ 4000) (hst : st ≠ 0) (h1 : st = 1 → 0 ≤ f ∧ f + c ≤ l.length) (hp : ∀ i : Nat, i < c → 0 ≤ f + (i : Int) * st ∧ f + (i : Int) * st < l.length)
    {p : List Int × Int × Int} (hP : p = if st ≠ 1 ∧ (w.length : Int) ≠ c then ([], 9, -3) else if most < (l.length : Int) - c + w.length then ([], 14, -1) else if st = 1 then (l.take f.toNat ++ w ++ l.drop (f.toNat + c), 0, 0) else (putL l f st w w.length, 0, 0)) :
    tkTail k (l, w, most, p.1, p.2, f, st, places f st c, left l f st c l.length) = some true := by
  have hat : ∀ a b : Int, brindlewoodref3_At a b = some (a, b) := fun _ _ => rfl
  have hll := left_length hst hp
  unfold tkTail
  by_cases hs : st = 1
  · subst hs
    rw [if_neg (fun h => h.1 rfl)] at hP
    simp only [bne_self_eq_false, cond_false, joinB_inl]
    rw [w64_id (n := ((left l f 1 c l.length).length : Int) + w.length) (by omega) (by omega)]
    by_cases hm : most < (l.length : Int) - c + w.length
    · rw [if_pos hm] at hP
      subst hP
      rw [decide_eq_true (by omega)]; rfl
    · rw [if_neg hm, if_pos rfl] at hP
      subst hP
      obtain ⟨f0, fc⟩ := h1 rfl
      obtain ⟨F, rfl⟩ : ∃ F : Nat, f = F := ⟨f.toNat, by omega⟩
      rw [decide_eq_false (by omega)]
      have hlo := left_one' (l := l) (f := F) (c := c) (by omega)
      obtain ⟨s1, _⟩ := sub_all l (F := F) (by omega)
      have hL : F ≤ (left l F 1 c l.length).length := by omega
      obtain ⟨_, s2⟩ := sub_all (left l F 1 c l.length) hL
      have hd : (left l F 1 c l.length).drop F = l.drop (F + c) := by
        rw [hlo, List.drop_append_of_le_length (by rw [List.length_take]; omega), List.drop_of_length_le (by rw [List.length_take]; omega), List.nil_append]
      rw [s1, s2, hd]
      simp only [cond_false, beq_self_eq_true, cond_true, Int.le_refl, decide_true, Bool.and_true]
      rw [dle_t (show (0 : Int) ≤ F by omega), dle_t (show (F : Int) ≤ l.length by omega), dle_t (show (F : Int) ≤ ((left l F 1 c l.length).length : Int) by omega)]
      rw [fits_t (n := (l.take F).length) (by rw [List.length_take]; omega), fits_w (n := (l.take F).length + w.length) (by rw [List.length_take]; omega), fits_w (n := (l.take F ++ w).length + (l.drop (F + c)).length) (by rw [List.length_append, List.length_take, List.length_drop]; omega)]
      simp only [cond_true, Bool.and_self, natCast_toNat, Nat.le_refl, decide_true]
      rw [Nums_ok (by rw [List.length_append, List.length_append, List.length_take, List.length_drop]; omega) hk, decide_eq_true rfl]; rfl
  · have e1 : (st != 1) = true := bne_t hs
    have e0 : (st == 1) = false := beq_f hs
    simp only [e1, cond_true, joinB_inl]
    rw [places_length]
    by_cases hwl : (w.length : Int) = c
    · rw [if_neg (fun h => h.2 hwl)] at hP
      rw [bne_f hwl]
      simp only [cond_false]
      rw [w64_id (n := ((left l f st c l.length).length : Int) + w.length) (by omega) (by omega)]
      by_cases hm : most < (l.length : Int) - c + w.length
      · rw [if_pos hm] at hP
        subst hP
        rw [decide_eq_true (by omega)]; rfl
      · rw [if_neg hm, if_neg hs] at hP
        subst hP
        obtain rfl : c = w.length := by omega
        rw [decide_eq_false (by omega), e0, fits_t (n := l.length) (by omega)]
        simp only [cond_false, cond_true]
        have h2 := Pt_l2 k l w (putL l f st w w.length) (0, 0) f st hl (by omega) hp k 0 (by omega) (by omega)
        have h2' : brindlewoodlaw3_SlicingTakes.l2 k k w (putL l f st w w.length) (0, 0) (places f st w.length) l 0 = _ := h2
        rw [h2']
        simp only [joinB_inl, beq_self_eq_true, cond_true]
        rw [Nums_ok (by rw [putL_length]; omega) hk, decide_eq_true rfl]; rfl
    · rw [if_pos ⟨hs, hwl⟩] at hP
      subst hP
      rw [bne_t hwl]; rfl
def tkMid (k : Nat) (y15 : List Int × List Int × Int × List Int × (Int × Int) × List Int × (Int × Int) × List Int × (Int × Int) × Int × Int × List Int × List Int × List Int) : Option Bool :=
  joinB (α := List Int × List Int × Int × List Int × (Int × Int) × Int × Int × List Int × List Int) (bif (y15.2.2.2.2.1.1 != 0) then (some (.inr false)) else (bif (y15.2.2.2.2.2.2.2.2.1.1 != 0) then (some (.inr false)) else ((brindlewoodref3_Numbers k y15.2.2.2.1 y15.2.2.2.2.2.2.2.2.2.2.2.2.1).bind fun t16 => bif (!t16) then (some (.inr false)) else ((brindlewoodref3_Numbers k y15.2.2.2.2.2.2.2.1 y15.2.2.2.2.2.2.2.2.2.2.2.2.2).bind fun t17 => bif (!t17) then (some (.inr false)) else (some (.inl (y15.1, y15.2.1, y15.2.2.1, y15.2.2.2.2.2.1, y15.2.2.2.2.2.2.1, y15.2.2.2.2.2.2.2.2.2.1, y15.2.2.2.2.2.2.2.2.2.2.1, y15.2.2.2.2.2.2.2.2.2.2.2.1, y15.2.2.2.2.2.2.2.2.2.2.2.2.2))))))) (fun z18 => joinB (α := List Int × List Int × Int × List Int × (Int × Int) × Int × Int × List Int × List Int × Bool) (bif (z18.2.2.2.2.2.2.1 != 1) then (let c19 := ((z18.2.1.length : Int) != (z18.2.2.2.2.2.2.2.1.length : Int)); some (.inl (z18.1, z18.2.1, z18.2.2.1, z18.2.2.2.1, z18.2.2.2.2.1, z18.2.2.2.2.2.1, z18.2.2.2.2.2.2.1, z18.2.2.2.2.2.2.2.1, z18.2.2.2.2.2.2.2.2, c19))) else (some (.inl (z18.1, z18.2.1, z18.2.2.1, z18.2.2.2.1, z18.2.2.2.2.1, z18.2.2.2.2.2.1, z18.2.2.2.2.2.2.1, z18.2.2.2.2.2.2.2.1, z18.2.2.2.2.2.2.2.2, false)))) (fun z20 => bif z20.2.2.2.2.2.2.2.2.2 then ((brindlewoodref3_At 9 (-3)).bind fun t21 => bif ((z20.2.2.2.2.1.1 == t21.1) && ((z20.2.2.2.2.1.2 == t21.2) && true)) then (let c22 := ((z20.2.2.2.1.length : Int) == 0); some c22) else (some false)) else (let c23 := decide (z20.2.2.1 < w64 ((z20.2.2.2.2.2.2.2.2.1.length : Int) + (z20.2.1.length : Int))); bif c23 then ((brindlewoodref3_At 14 (-1)).bind fun t24 => bif ((z20.2.2.2.2.1.1 == t24.1) && ((z20.2.2.2.2.1.2 == t24.2) && true)) then (let c25 := ((z20.2.2.2.1.length : Int) == 0); some c25) else (some false)) else (bif (z20.2.2.2.2.2.2.1 == 1) then (bif ((decide (0 ≤ 0) && decide (0 ≤ z20.2.2.2.2.2.1)) && decide (z20.2.2.2.2.2.1 ≤ (z20.1.length : Int))) then (bif fitsB (sub z20.1 0 (z20.2.2.2.2.2.1 - 0)).length 8 then (bif fitsB ((sub z20.1 0 (z20.2.2.2.2.2.1 - 0)).length + z20.2.1.length) 8 then (bif ((decide (0 ≤ z20.2.2.2.2.2.1) && decide (z20.2.2.2.2.2.1 ≤ (z20.2.2.2.2.2.2.2.2.1.length : Int))) && decide ((z20.2.2.2.2.2.2.2.2.1.length : Int) ≤ (z20.2.2.2.2.2.2.2.2.1.length : Int))) then (bif fitsB (((sub z20.1 0 (z20.2.2.2.2.2.1 - 0)) ++ z20.2.1).length + (sub z20.2.2.2.2.2.2.2.2.1 z20.2.2.2.2.2.1 ((z20.2.2.2.2.2.2.2.2.1.length : Int) - z20.2.2.2.2.2.1)).length) 8 then (bif (z20.2.2.2.2.1.1 == 0) then ((brindlewoodref3_Numbers k z20.2.2.2.1 (((sub z20.1 0 (z20.2.2.2.2.2.1 - 0)) ++ z20.2.1) ++ (sub z20.2.2.2.2.2.2.2.2.1 z20.2.2.2.2.2.1 ((z20.2.2.2.2.2.2.2.2.1.length : Int) - z20.2.2.2.2.2.1)))).bind fun t26 => some t26) else (some false)) else none) else none) else none) else none) else none) else (bif fitsB z20.1.length 8 then (joinB (α := List Int × (Int × Int) × List Int) (brindlewoodlaw3_SlicingTakes.l2 k k z20.2.1 z20.2.2.2.1 z20.2.2.2.2.1 z20.2.2.2.2.2.2.2.1 z20.1 0) (fun y27 => bif (y27.2.1.1 == 0) then ((brindlewoodref3_Numbers k y27.1 y27.2.2).bind fun t28 => some t28) else (some false)) some) else none)))) some) some
theorem tkMid_ok {k : Nat} (hk : 100000000000001 < k) {l w : List Int} {most : Int} {A B C : List Int} {g : Int × Int} {f st : Int} {P : List Int} (hA : (A.length : Int) ≤ 4000) (hC : (C.length : Int) ≤ 4000) :
    tkMid k (l, w, most, A, (0, 0), B, g, C, (0, 0), f, st, P, A, C) = tkTail k (l, w, most, B, g, f, st, P, C) := by
  unfold tkMid
  simp only [bne_self_eq_false, cond_false]
  rw [Nums_ok (by omega) hk, Nums_ok (by omega) hk, decide_eq_true rfl, decide_eq_true rfl]
  simp only [Option.bind_some, Bool.not_true, cond_false, joinB_inl]
  rfl
def tkHead (k : Nat) (z10 : List Int × List Int × Int × Sl × List Int × (Int × Int) × List Int × (Int × Int) × List Int × (Int × Int) × (Int × Int)) : Option Bool :=
  bif (z10.2.2.2.2.2.2.2.2.2.2.1 != 0) then (bif ((z10.2.2.2.2.2.1.1 == z10.2.2.2.2.2.2.2.2.2.2.1) && ((z10.2.2.2.2.2.1.2 == z10.2.2.2.2.2.2.2.2.2.2.2) && true)) then (bif ((z10.2.2.2.2.2.2.2.1.1 == z10.2.2.2.2.2.2.2.2.2.2.1) && ((z10.2.2.2.2.2.2.2.1.2 == z10.2.2.2.2.2.2.2.2.2.2.2) && true)) then (bif ((z10.2.2.2.2.2.2.2.2.2.1.1 == z10.2.2.2.2.2.2.2.2.2.2.1) && ((z10.2.2.2.2.2.2.2.2.2.1.2 == z10.2.2.2.2.2.2.2.2.2.2.2) && true)) then (let c11 := ((w64 ((w64 ((z10.2.2.2.2.1.length : Int) + (z10.2.2.2.2.2.2.1.length : Int))) + (z10.2.2.2.2.2.2.2.2.1.length : Int))) == 0); some c11) else (some false)) else (some false)) else (some false)) else ((brindlewoodref3_Places k z10.2.2.2.1 (z10.1.length : Int)).bind fun t12 => joinB (α := List Int × List Int × Int × List Int × (Int × Int) × List Int × (Int × Int) × List Int × (Int × Int) × Int × Int × List Int × List Int × List Int) (brindlewoodlaw3_SlicingTakes.l0 k k z10.1 z10.2.1 z10.2.2.1 z10.2.2.2.2.1 z10.2.2.2.2.2.1 z10.2.2.2.2.2.2.1 z10.2.2.2.2.2.2.2.1 z10.2.2.2.2.2.2.2.2.1 z10.2.2.2.2.2.2.2.2.2.1 t12.1 t12.2.1 t12.2.2 [] [] 0) (fun y13 => joinB (α := List Int × List Int × Int × List Int × (Int × Int) × List Int × (Int × Int) × List Int × (Int × Int) × Int × Int × List Int × List Int × List Int) (brindlewoodlaw3_SlicingTakes.l1 k k y13.1 y13.2.1 y13.2.2.1 y13.2.2.2.1 y13.2.2.2.2.1 y13.2.2.2.2.2.1 y13.2.2.2.2.2.2.1 y13.2.2.2.2.2.2.2.1 y13.2.2.2.2.2.2.2.2.1 y13.2.2.2.2.2.2.2.2.2.1 y13.2.2.2.2.2.2.2.2.2.2.1 y13.2.2.2.2.2.2.2.2.2.2.2.1 y13.2.2.2.2.2.2.2.2.2.2.2.2.1 y13.2.2.2.2.2.2.2.2.2.2.2.2.2 0) (fun y15 => joinB (α := List Int × List Int × Int × List Int × (Int × Int) × Int × Int × List Int × List Int) (bif (y15.2.2.2.2.1.1 != 0) then (some (.inr false)) else (bif (y15.2.2.2.2.2.2.2.2.1.1 != 0) then (some (.inr false)) else ((brindlewoodref3_Numbers k y15.2.2.2.1 y15.2.2.2.2.2.2.2.2.2.2.2.2.1).bind fun t16 => bif (!t16) then (some (.inr false)) else ((brindlewoodref3_Numbers k y15.2.2.2.2.2.2.2.1 y15.2.2.2.2.2.2.2.2.2.2.2.2.2).bind fun t17 => bif (!t17) then (some (.inr false)) else (some (.inl (y15.1, y15.2.1, y15.2.2.1, y15.2.2.2.2.2.1, y15.2.2.2.2.2.2.1, y15.2.2.2.2.2.2.2.2.2.1, y15.2.2.2.2.2.2.2.2.2.2.1, y15.2.2.2.2.2.2.2.2.2.2.2.1, y15.2.2.2.2.2.2.2.2.2.2.2.2.2))))))) (fun z18 => joinB (α := List Int × List Int × Int × List Int × (Int × Int) × Int × Int × List Int × List Int × Bool) (bif (z18.2.2.2.2.2.2.1 != 1) then (let c19 := ((z18.2.1.length : Int) != (z18.2.2.2.2.2.2.2.1.length : Int)); some (.inl (z18.1, z18.2.1, z18.2.2.1, z18.2.2.2.1, z18.2.2.2.2.1, z18.2.2.2.2.2.1, z18.2.2.2.2.2.2.1, z18.2.2.2.2.2.2.2.1, z18.2.2.2.2.2.2.2.2, c19))) else (some (.inl (z18.1, z18.2.1, z18.2.2.1, z18.2.2.2.1, z18.2.2.2.2.1, z18.2.2.2.2.2.1, z18.2.2.2.2.2.2.1, z18.2.2.2.2.2.2.2.1, z18.2.2.2.2.2.2.2.2, false)))) (fun z20 => bif z20.2.2.2.2.2.2.2.2.2 then ((brindlewoodref3_At 9 (-3)).bind fun t21 => bif ((z20.2.2.2.2.1.1 == t21.1) && ((z20.2.2.2.2.1.2 == t21.2) && true)) then (let c22 := ((z20.2.2.2.1.length : Int) == 0); some c22) else (some false)) else (let c23 := decide (z20.2.2.1 < w64 ((z20.2.2.2.2.2.2.2.2.1.length : Int) + (z20.2.1.length : Int))); bif c23 then ((brindlewoodref3_At 14 (-1)).bind fun t24 => bif ((z20.2.2.2.2.1.1 == t24.1) && ((z20.2.2.2.2.1.2 == t24.2) && true)) then (let c25 := ((z20.2.2.2.1.length : Int) == 0); some c25) else (some false)) else (bif (z20.2.2.2.2.2.2.1 == 1) then (bif ((decide (0 ≤ 0) && decide (0 ≤ z20.2.2.2.2.2.1)) && decide (z20.2.2.2.2.2.1 ≤ (z20.1.length : Int))) then (bif fitsB (sub z20.1 0 (z20.2.2.2.2.2.1 - 0)).length 8 then (bif fitsB ((sub z20.1 0 (z20.2.2.2.2.2.1 - 0)).length + z20.2.1.length) 8 then (bif ((decide (0 ≤ z20.2.2.2.2.2.1) && decide (z20.2.2.2.2.2.1 ≤ (z20.2.2.2.2.2.2.2.2.1.length : Int))) && decide ((z20.2.2.2.2.2.2.2.2.1.length : Int) ≤ (z20.2.2.2.2.2.2.2.2.1.length : Int))) then (bif fitsB (((sub z20.1 0 (z20.2.2.2.2.2.1 - 0)) ++ z20.2.1).length + (sub z20.2.2.2.2.2.2.2.2.1 z20.2.2.2.2.2.1 ((z20.2.2.2.2.2.2.2.2.1.length : Int) - z20.2.2.2.2.2.1)).length) 8 then (bif (z20.2.2.2.2.1.1 == 0) then ((brindlewoodref3_Numbers k z20.2.2.2.1 (((sub z20.1 0 (z20.2.2.2.2.2.1 - 0)) ++ z20.2.1) ++ (sub z20.2.2.2.2.2.2.2.2.1 z20.2.2.2.2.2.1 ((z20.2.2.2.2.2.2.2.2.1.length : Int) - z20.2.2.2.2.2.1)))).bind fun t26 => some t26) else (some false)) else none) else none) else none) else none) else none) else (bif fitsB z20.1.length 8 then (joinB (α := List Int × (Int × Int) × List Int) (brindlewoodlaw3_SlicingTakes.l2 k k z20.2.1 z20.2.2.2.1 z20.2.2.2.2.1 z20.2.2.2.2.2.2.2.1 z20.1 0) (fun y27 => bif (y27.2.1.1 == 0) then ((brindlewoodref3_Numbers k y27.1 y27.2.2).bind fun t28 => some t28) else (some false)) some) else none)))) some) some) some) some)
theorem slicingTakes_ok {k : Nat} (hk : 100000000000001 < k) (hcuts : brindlewoodlaw3_cuts k = some true) {l w : List Int} {s : Sl} {most : Int} (hl : l.length ≤ 17592186043904) (hw : w.length ≤ 17592186043904) (hs : Wf SlT s) : brindlewoodlaw3_SlicingTakes k l s w most = some true := by
  have hat : ∀ a b : Int, brindlewoodref3_At a b = some (a, b) := fun _ _ => rfl
  obtain ⟨ha, hb, hc, hor⟩ := slice_cases hs
  have hck := slCheck_ok ha hb hc
  have hsf := SliceFault_ok (k := k) (by omega) ha hb hc
  have hnl : brindlewoodref3_Numbers k l l = some true := by rw [Nums_ok (by omega) hk, decide_eq_true rfl]
  have hnw : brindlewoodref3_Numbers k w w = some true := by rw [Nums_ok (by omega) hk, decide_eq_true rfl]
  -- with a fault
  have hno : ∀ v : Int × Int, v.1 ≠ 0 → tkHead k (l, w, most, s, [], v, [], v, [], v, v) = some true := by
    intro v hv
    unfold tkHead
    rw [bne_t hv]
    simp only [cond_true, beq_self_eq_true, Bool.and_self]
    rfl
  have hstart : ∀ {A B C : List Int} {e1 e2 e3 : Int × Int}, slicing_Take_int k l s = some (A, e1) → slicing_Put_int k l s w most = some (B, e2) → slicing_Drop_int k l s = some (C, e3) →
      brindlewoodlaw3_SlicingTakes k l s w most = tkHead k (l, w, most, s, A, e1, B, e2, C, e3, if (sfault s).1 = 0 then (if 4000 < (l.length : Int) then (4, -2) else sfault s) else sfault s) := by
    intro A B C e1 e2 e3 h1 h2 h3
    unfold brindlewoodlaw3_SlicingTakes
    rw [fits_t (by omega), fits_t (by omega), h1]
    simp only [cond_true, Option.bind_some]
    rw [h2, h3, hcuts, hnl, hnw]
    simp only [Option.bind_some, Bool.not_true, cond_false, joinB_inl]
    rw [hsf]
    simp only [Option.bind_some]
    by_cases hz : (sfault s).1 = 0
    · rw [if_pos hz, beq_t hz]
      by_cases hlen : 4000 < (l.length : Int)
      · rw [if_pos hlen, dlt_t hlen]; rfl
      · rw [if_neg hlen, dlt_f (by omega)]; rfl
    · rw [if_neg hz, beq_f hz]; rfl
  rcases hor with ⟨a, b, d, ga, gb, gd, va, vb, vd, rfl, h0, hd0⟩ | hne
  · have hck0 := hck
    rw [h0] at hck
    by_cases hlen : 4000 < (l.length : Int)
    · have hR := Resolve_range (k := k) (n := l.length) hck (.inr hlen)
      rw [hstart (Take_no hR (by decide)) (Put_no hR (by decide)) (Drop_no hR (by decide)), h0, if_pos rfl, if_pos hlen]
      exact hno (4, -2) (by decide)
    · obtain ⟨f, st, c, hR, hcn, f1, f2, s1, s2, hp, hst, h1, hfe, hse, hce⟩ := Resolve_ex2 (k := k) (by omega) va vb vd (n := l.length) (by omega) (by omega) hck hd0
      have hcn' : c ≤ l.length := by omega
      have hT := Take_ok (by omega) (by omega) hR (by omega) ⟨f1, f2⟩ hp
      have hD := Drop_ok (by omega) (by omega) hR (by omega) ⟨f1, f2⟩ hp
      have hP := Put_ok (k := k) (w := w) (most := most) (by omega) (by omega) (by omega) (fits_w (by omega)) hR hcn' ⟨f1, f2⟩ (fun e => h1 e) hp
      obtain ⟨Q, hP, hQ⟩ : ∃ Q, slicing_Put_int k l (sz a b d ga gb gd) w most = some Q ∧ Q = _ := ⟨_, hP, rfl⟩
      obtain ⟨L, p1, p2, c', p3⟩ := Places_ok (k := k) (by omega) (ha := ga) (hb := gb) va vb vd (n := l.length) (by omega) (by omega) hd0
      have hc' : c' = c := by
        rw [p3, places_length] at p2
        omega
      rw [← hfe, ← hse, hc'] at p3
      rw [← hfe, ← hse, p3] at p1
      rw [hstart hT (B := Q.1) (e2 := Q.2) hP hD, h0, if_pos rfl, if_neg hlen]
      unfold tkHead
      simp only [bne_self_eq_false, cond_false]
      rw [p1]
      simp only [Option.bind_some]
      have g0 := Tk_l0 k l w most (tk l f st c) (0, 0) Q.1 Q.2 (left l f st c l.length) (0, 0) f st (by omega) (by omega) hp k 0 (by omega) (by omega)
      have g0' : brindlewoodlaw3_SlicingTakes.l0 k k l w most (tk l f st c) (0, 0) Q.1 Q.2 (left l f st c l.length) (0, 0) f st (places f st c) [] [] 0 = _ := g0
      have g1 := Lf_l1 k l w most (tk l f st c) (0, 0) Q.1 Q.2 (left l f st c l.length) (0, 0) f st (by omega) (by omega) (c := c) (by omega) (tk l f st c) k 0 (by omega) (by omega)
      have g1' : brindlewoodlaw3_SlicingTakes.l1 k k l w most (tk l f st c) (0, 0) Q.1 Q.2 (left l f st c l.length) (0, 0) f st (places f st c) (tk l f st c) [] 0 = _ := g1
      rw [g0']
      simp only [joinB_inl]
      rw [g1']
      simp only [joinB_inl]
      have hle := left_le l f st c l.length
      have hM := tkMid_ok (k := k) hk (l := l) (w := w) (most := most) (A := tk l f st c) (B := Q.1) (C := left l f st c l.length) (g := Q.2) (f := f) (st := st) (P := places f st c) (by rw [tk_length]; omega) (by omega)
      rw [tkTail_ok hk (by omega) hw hcn' ⟨f1, f2⟩ hst (fun e => h1 e) hp hQ] at hM
      exact hM
  · have hR := Resolve_no (k := k) (n := l.length) hck hne
    rw [hstart (Take_no hR hne) (Put_no hR hne) (Drop_no hR hne), if_neg hne]
    exact hno _ hne
theorem slicingTakes_plain {l w : List Int} {s : Sl} {most : Int} (hl : Wf (.list (.int .i64)) l) (hs : Wf SlT s) (hw : Wf (.list (.int .i64)) w) : brindlewoodlaw3_SlicingTakes 1000000000000000000 l s w most = some true := by
  have h1 : l.length * 8 ≤ 140737488351232 := hl.1
  have h2 : w.length * 8 ≤ 140737488351232 := hw.1
  exact slicingTakes_ok (by decide) cuts_ok (by omega) (by omega) hs
end Go.Pl
