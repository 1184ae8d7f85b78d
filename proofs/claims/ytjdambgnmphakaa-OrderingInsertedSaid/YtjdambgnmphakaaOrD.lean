/- Plans of the program: settling, asking, telling, sorting.  Conditions: those that each theorem names. -/
import Derived.Test.YtjdambgnmphakaaOrC
set_option linter.unusedVariables false
set_option linter.unusedSimpArgs false
set_option maxHeartbeats 0
namespace Go.Pl
open Go Go.Ev Go.Sh
theorem nth3' (A B C : List Int) : nth (.list (.int .i64)) [A, B, C] 0 = A ∧ nth (.list (.int .i64)) [A, B, C] 1 = B ∧ nth (.list (.int .i64)) [A, B, C] 2 = C := ⟨rfl, rfl, rfl⟩
theorem in3' (A B C : List Int) : inR 0 (([A, B, C] : List (List Int)).length : Int) = true ∧ inR 1 (([A, B, C] : List (List Int)).length : Int) = true ∧ inR 2 (([A, B, C] : List (List Int)).length : Int) = true := ⟨rfl, rfl, rfl⟩
theorem Concat3 {k : Nat} (hk : 10 < k) {A B C : List Int} (hl : A.length + B.length + C.length ≤ 1000000000) : slices_Concat_intint k [A, B, C] = some (A ++ B ++ C) := by
  obtain ⟨n1, n2, n3⟩ := nth3' A B C
  obtain ⟨i1, i2, i3⟩ := in3' A B C
  have hmono : ∀ m : Nat, m ≤ A.length + B.length + C.length → fitsB m 8 = true := fun m hm => fits_t (by omega)
  have h0 : slices_Concat_intint.l0 k k [A, B, C] 0 [A, B, C] 3 0 = some (.inl ([A, B, C], ((A.length + B.length + C.length : Nat) : Int))) := by
    obtain ⟨n, hn⟩ : ∃ n, k = n + 1 + 1 + 1 + 1 := ⟨k - 4, by omega⟩
    have : ∀ m, m = n + 1 + 1 + 1 + 1 → slices_Concat_intint.l0 k m [A, B, C] 0 [A, B, C] 3 0 = some (.inl ([A, B, C], ((A.length + B.length + C.length : Nat) : Int))) := by
      intro m hm
      subst hm
      rw [slices_Concat_intint.l0, slices_Concat_intint.b0, n1]
      simp only
      rw [w64_id (n := 0 + (A.length : Int)) (by omega) (by omega), dlt_f (show (0 : Int) ≤ 0 + (A.length : Int) by omega), dlt_t (by decide), i1, show w64 (0 + 1) = 1 from rfl]
      simp only [cond_true, cond_false]
      rw [slices_Concat_intint.l0, slices_Concat_intint.b0, n2]
      simp only
      rw [w64_id (n := 0 + (A.length : Int) + (B.length : Int)) (by omega) (by omega), dlt_f (show (0 : Int) ≤ 0 + (A.length : Int) + (B.length : Int) by omega), dlt_t (by decide), i2, show w64 (1 + 1) = 2 from rfl]
      simp only [cond_true, cond_false]
      rw [slices_Concat_intint.l0, slices_Concat_intint.b0, n3]
      simp only
      rw [w64_id (n := 0 + (A.length : Int) + (B.length : Int) + (C.length : Int)) (by omega) (by omega), dlt_f (show (0 : Int) ≤ 0 + (A.length : Int) + (B.length : Int) + (C.length : Int) by omega), dlt_t (by decide), i3, show w64 (2 + 1) = 3 from rfl]
      simp only [cond_true, cond_false]
      rw [slices_Concat_intint.l0, slices_Concat_intint.b0, dlt_f (by decide)]
      simp only [cond_false]
      congr 3
      omega
    exact this k hn
  have hg : slices_Grow_intint_nd () ((A.length + B.length + C.length : Nat) : Int) = some [] := by
    unfold slices_Grow_intint_nd
    rw [dlt_f (show (0 : Int) ≤ ((A.length + B.length + C.length : Nat) : Int) by omega), w64_id (n := ((A.length + B.length + C.length : Nat) : Int) - 0) (by omega) (by omega)]
    by_cases hz : A.length + B.length + C.length = 0
    · rw [dlt_f (by omega)]; rfl
    · rw [dlt_t (by omega), dle_t (show (0 : Int) ≤ ((A.length + B.length + C.length : Nat) : Int) - 0 by omega), hmono _ (by rw [List.length_replicate]; omega), dle_t (show (0 : Int) ≤ ((List.replicate (Int.toNat (((A.length + B.length + C.length : Nat) : Int) - 0)) (0 : Int)).length : Int) by omega)]
      rfl
  have h1 : slices_Concat_intint.l1 k k [] [A, B, C] 3 0 = some (.inl (A ++ B ++ C)) := by
    obtain ⟨n, hn⟩ : ∃ n, k = n + 1 + 1 + 1 + 1 := ⟨k - 4, by omega⟩
    have : ∀ m, m = n + 1 + 1 + 1 + 1 → slices_Concat_intint.l1 k m [] [A, B, C] 3 0 = some (.inl (A ++ B ++ C)) := by
      intro m hm
      subst hm
      rw [slices_Concat_intint.l1, slices_Concat_intint.b1, n1, dlt_t (by decide), i1, hmono _ (by simp; omega), show w64 (0 + 1) = 1 from rfl]
      simp only [cond_true]
      rw [slices_Concat_intint.l1, slices_Concat_intint.b1, n2, dlt_t (by decide), i2, hmono _ (by simp), show w64 (1 + 1) = 2 from rfl]
      simp only [cond_true]
      rw [slices_Concat_intint.l1, slices_Concat_intint.b1, n3, dlt_t (by decide), i3, hmono _ (by simp), show w64 (2 + 1) = 3 from rfl]
      simp only [cond_true]
      rw [slices_Concat_intint.l1, slices_Concat_intint.b1, dlt_f (by decide)]
      rfl
    exact this k hn
  unfold slices_Concat_intint
  have h0' : slices_Concat_intint.l0 k k [A, B, C] 0 [A, B, C] (([A, B, C] : List (List Int)).length : Int) 0 = _ := h0
  rw [h0']
  simp only [joinB_inl]
  rw [hg]
  simp only [Option.bind_some]
  have h1' : slices_Concat_intint.l1 k k [] [A, B, C] (([A, B, C] : List (List Int)).length : Int) 0 = _ := h1
  rw [h1']
  rfl
abbrev PT := List Int × Int × Int × Int × Int × List Int
@[reducible] def pt (o : List Int) (W F a b : Nat) (g : List Int) : PT := (o, (W : Int), (F : Int), (a : Int), (b : Int), g)
theorem mnI_min {a b : Nat} : mnI (a : Int) (b : Int) = ((min a b : Nat) : Int) := by
  unfold mnI
  by_cases h : (b : Int) < (a : Int)
  · rw [if_pos h, Nat.min_eq_right (by omega)]
  · rw [if_neg h, Nat.min_eq_left (by omega)]
theorem runs_ok {o : List Int} {n W F a b : Nat} {g : List Int} (hl : o.length = n) (hW : W ≤ 1000000) (hF : F ≤ 1000000) : ordering_Plan_runs (pt o W F a b g) = some (((mid n F W : Nat) : Int), ((fin n F W : Nat) : Int)) := by
  unfold ordering_Plan_runs pt
  simp only
  rw [hl, w64_id (n := (F : Int) + (W : Int)) (by omega) (by omega), w64_id (n := 2 * (W : Int)) (by omega) (by omega), w64_id (n := (F : Int) + 2 * (W : Int)) (by omega) (by omega)]
  rw [show (F : Int) + (W : Int) = ((F + W : Nat) : Int) by omega, show (F : Int) + 2 * (W : Int) = ((F + 2 * W : Nat) : Int) by omega, mnI_min, mnI_min]
  rfl
theorem pow_small {e n : Nat} (hn : n ≤ 1000) (h : 2 ^ e < n) : e ≤ 9 := by
  refine Nat.le_of_not_lt fun h1 => ?_
  have := Nat.pow_le_pow_right (n := 2) (by omega) (show 10 ≤ e by omega)
  have h10 : (2 : Nat) ^ 10 = 1024 := by decide
  omega
theorem sub_seg {o : List Int} {s e : Nat} (h : s ≤ e) : Ev.sub o (s : Int) ((e : Int) - (s : Int)) = seg o s e := by
  show (o.drop ((s : Nat) : Int).toNat).take ((e : Int) - (s : Int)).toNat = _
  rw [toN, show ((e : Int) - (s : Int)).toNat = e - s by omega]; rfl
theorem splice_put3 {o G : List Int} {f e : Nat} (h : f ≤ e) (hG : G.length = e - f) : splice o (f : Int) G = put3 o G f e := by
  unfold splice put3
  rw [toN, hG, show f + (e - f) = e by omega]
section
variable {v : Int → Int} {n : Nat}
def Open (n W F a b : Nat) : Prop := W < n → F + a < mid n F W ∧ mid n F W + b < fin n F W
theorem settle_l0 (k : Nat) (hk : 20 < k) (hn : n ≤ 1000) (x2 : PT) : ∀ (m e : Nat) (o : List Int) (W F a b : Nat) (g : List Int), W = 2 ^ e → PI v n o W F a b g → 12 * (n + 1) - (e * (n + 1) + F) < m →
    ∃ (e' : Nat) (o' : List Int) (W' F' a' b' : Nat) (g' : List Int), W' = 2 ^ e' ∧ PI v n o' W' F' a' b' g' ∧ Open n W' F' a' b' ∧ e * n + F + a + b ≤ e' * n + F' + a' + b' ∧
      (ordering_Plan_settle.l0 k m (pt o W F a b g) x2 = some (.inr (pt o' W' F' a' b' g')) ∨ ordering_Plan_settle.l0 k m (pt o W F a b g) x2 = some (.inl (pt o' W' F' a' b' g', x2))) := by
  intro m
  induction m with
  | zero => intro e o W F a b g _ _ h; omega
  | succ m ih =>
    intro e o W F a b g hWe h hm
    have hl := h.len
    by_cases hW : W < n
    · have hF := h.Fn hW
      have he := pow_small hn (hWe ▸ hW)
      have hmf := mid_le n F W
      have ha := h.ha
      have hb := h.hb
      have hFE : F ≤ fin n F W := by unfold fin; omega
      by_cases hop : F + a < mid n F W ∧ mid n F W + b < fin n F W
      · refine ⟨e, o, W, F, a, b, g, hWe, h, fun _ => hop, Nat.le_refl _, .inl ?_⟩
        simp only [ordering_Plan_settle.l0, ordering_Plan_settle.b0]
        rw [runs_ok hl (by omega) (by omega)]
        simp only [pt, Option.bind_some]
        rw [dlt_t (show (W : Int) < (o.length : Int) by omega), w64_id (n := (F : Int) + (a : Int)) (by omega) (by omega), dlt_t (show (F : Int) + (a : Int) < ((mid n F W : Nat) : Int) by omega), w64_id (n := ((mid n F W : Nat) : Int) + (b : Int)) (by omega) (by omega), dlt_t (show ((mid n F W : Nat) : Int) + (b : Int) < ((fin n F W : Nat) : Int) by omega)]
        rfl
      · have hmg := h.merge hW hop
        have hrl := h.rest_length (by omega)
        have hgl := h.gp.length_eq
        rw [List.length_append, seg_length (by omega), seg_length (by omega)] at hgl
        have hstep : ordering_Plan_settle.l0 k (m + 1) (pt o W F a b g) x2 = if n ≤ fin n F W then ordering_Plan_settle.l0 k m (pt (put3 o (rest n o W F a b g) F (fin n F W)) (2 * W) 0 0 0 []) x2 else ordering_Plan_settle.l0 k m (pt (put3 o (rest n o W F a b g) F (fin n F W)) W (fin n F W) 0 0 []) x2 := by
          simp only [ordering_Plan_settle.l0, ordering_Plan_settle.b0]
          rw [runs_ok hl (by omega) (by omega)]
          simp only [pt, Option.bind_some]
          rw [dlt_t (show (W : Int) < (o.length : Int) by omega), w64_id (n := (F : Int) + (a : Int)) (by omega) (by omega), w64_id (n := ((mid n F W : Nat) : Int) + (b : Int)) (by omega) (by omega)]
          have hin : ∀ (α β : Type) (x : α) (y : β), (bif decide ((F : Int) + (a : Int) < ((mid n F W : Nat) : Int)) then (bif decide (((mid n F W : Nat) : Int) + (b : Int) < ((fin n F W : Nat) : Int)) then (some (.inr y)) else (some (.inl x))) else (some (.inl x)) : Option (α ⊕ β)) = some (.inl x) := by
            intro α β x y
            by_cases h1 : F + a < mid n F W
            · rw [dlt_t (show (F : Int) + (a : Int) < ((mid n F W : Nat) : Int) by omega), dlt_f (show ((fin n F W : Nat) : Int) ≤ ((mid n F W : Nat) : Int) + (b : Int) by omega)]; rfl
            · rw [dlt_f (show ((mid n F W : Nat) : Int) ≤ (F : Int) + (a : Int) by omega)]; rfl
          rw [hin]
          simp only [cond_true, joinB_inl]
          rw [w64_id (n := (F : Int) + (a : Int)) (by omega) (by omega), w64_id (n := ((mid n F W : Nat) : Int) + (b : Int)) (by omega) (by omega)]
          rw [show (F : Int) + (a : Int) = ((F + a : Nat) : Int) by omega, show ((mid n F W : Nat) : Int) + (b : Int) = ((mid n F W + b : Nat) : Int) by omega]
          rw [sub_seg ha, sub_seg hb, Concat3 (by omega) (by rw [seg_length (by omega), seg_length (by omega)]; omega)]
          rw [dle_t (show (0 : Int) ≤ ((F + a : Nat) : Int) by omega), dle_t (show ((F + a : Nat) : Int) ≤ ((mid n F W : Nat) : Int) by omega), dle_t (show ((mid n F W : Nat) : Int) ≤ (o.length : Int) by omega), dle_t (show (0 : Int) ≤ ((mid n F W + b : Nat) : Int) by omega), dle_t (show ((mid n F W + b : Nat) : Int) ≤ ((fin n F W : Nat) : Int) by omega), dle_t (show ((fin n F W : Nat) : Int) ≤ (o.length : Int) by omega), dle_t (show (0 : Int) ≤ (F : Int) by omega), dle_t (show (F : Int) ≤ ((fin n F W : Nat) : Int) by omega)]
          simp only [Bool.and_self, cond_true, Option.bind_some]
          have hG : g ++ seg o (F + a) (mid n F W) ++ seg o (mid n F W + b) (fin n F W) = rest n o W F a b g := rfl
          rw [hG, List.take_of_length_le (show (rest n o W F a b g).length ≤ Int.toNat (((fin n F W : Nat) : Int) - (F : Int)) by omega), splice_put3 hFE hrl, put3_length hFE (by omega) hrl, hl]
          by_cases hge : n ≤ fin n F W
          · rw [if_pos hge, dle_t (show (n : Int) ≤ ((fin n F W : Nat) : Int) by omega), w64_id (n := 2 * (W : Int)) (by omega) (by omega), show 2 * (W : Int) = ((2 * W : Nat) : Int) by omega]; rfl
          · rw [if_neg hge, decide_eq_false (show ¬ (n : Int) ≤ ((fin n F W : Nat) : Int) by omega)]; rfl
        rw [hstep]
        by_cases hge : n ≤ fin n F W
        · rw [if_pos hge]
          have e1 : (e + 1) * (n + 1) = e * (n + 1) + (n + 1) := Nat.succ_mul _ _
          have e2 : (e + 1) * n = e * n + n := Nat.succ_mul _ _
          have e3 : e * (n + 1) ≤ 9 * (n + 1) := Nat.mul_le_mul_right _ he
          obtain ⟨e', o', W', F', a', b', g', g1, g2, g3, g4, g5⟩ := ih (e + 1) _ (2 * W) 0 0 0 [] (by rw [hWe, Nat.pow_succ, Nat.mul_comm]) (hmg.2 hge) (by omega)
          exact ⟨e', o', W', F', a', b', g', g1, g2, g3, by omega, g5⟩
        · rw [if_neg hge]
          have e3 : e * (n + 1) ≤ 9 * (n + 1) := Nat.mul_le_mul_right _ he
          have hlt : F < fin n F W := by have := h.pos; unfold fin; omega
          obtain ⟨e', o', W', F', a', b', g', g1, g2, g3, g4, g5⟩ := ih e _ W (fin n F W) 0 0 [] hWe (hmg.1 (by omega)) (by omega)
          exact ⟨e', o', W', F', a', b', g', g1, g2, g3, by omega, g5⟩
    · refine ⟨e, o, W, F, a, b, g, hWe, h, fun hc => absurd hc hW, Nat.le_refl _, .inr ?_⟩
      simp only [ordering_Plan_settle.l0, ordering_Plan_settle.b0, pt]
      rw [dlt_f (show (o.length : Int) ≤ (W : Int) by omega)]; rfl
theorem settle_ok {k : Nat} (hk : 20000 < k) (hn : n ≤ 1000) {e : Nat} {o : List Int} {W F a b : Nat} {g : List Int} (hWe : W = 2 ^ e) (h : PI v n o W F a b g) :
    ∃ (e' : Nat) (o' : List Int) (W' F' a' b' : Nat) (g' : List Int), W' = 2 ^ e' ∧ PI v n o' W' F' a' b' g' ∧ Open n W' F' a' b' ∧ e * n + F + a + b ≤ e' * n + F' + a' + b' ∧ ordering_Plan_settle k (pt o W F a b g) = some (pt o' W' F' a' b' g') := by
  obtain ⟨e', o', W', F', a', b', g', g1, g2, g3, g4, g5⟩ := settle_l0 k (by omega) hn ([], 0, 0, 0, 0, []) k e o W F a b g hWe h (by omega)
  refine ⟨e', o', W', F', a', b', g', g1, g2, g3, g4, ?_⟩
  have hcl : slices_Clone_intint o = some o := by
    unfold slices_Clone_intint
    rw [fits_t (by rw [h.len]; omega)]; rfl
  unfold ordering_Plan_settle
  have e0 : (pt o W F a b g).1 = o := rfl
  rw [e0, hcl]
  simp only [Option.bind_some]
  have e1 : ((o, (pt o W F a b g).2) : PT) = pt o W F a b g := rfl
  rw [e1]
  rcases g5 with g5 | g5
  · rw [g5]; rfl
  · rw [g5]; rfl
theorem Ask_no {o : List Int} {W F a b : Nat} {g : List Int} (h : PI v n o W F a b g) (hW : n ≤ W) : ordering_Plan_Ask (pt o W F a b g) = some (0, 0, false) := by
  have hl := h.len
  unfold ordering_Plan_Ask
  simp only [pt]
  rw [dle_t (show (o.length : Int) ≤ (W : Int) by omega)]; rfl
theorem Ask_yes {o : List Int} {W F a b : Nat} {g : List Int} (hn : n ≤ 1000) (h : PI v n o W F a b g) (hW : W < n) (ho : Open n W F a b) : ordering_Plan_Ask (pt o W F a b g) = some (rd o ((mid n F W + b : Nat) : Int), rd o ((F + a : Nat) : Int), true) := by
  have hl := h.len
  have hF := h.Fn hW
  obtain ⟨h1, h2⟩ := ho hW
  have hm := mid_le n F W
  unfold ordering_Plan_Ask
  rw [runs_ok hl (by omega) (by omega)]
  simp only [pt, Option.bind_some]
  rw [decide_eq_false (show ¬ (o.length : Int) ≤ (W : Int) by omega), w64_id (n := ((mid n F W : Nat) : Int) + (b : Int)) (by omega) (by omega), w64_id (n := (F : Int) + (a : Int)) (by omega) (by omega), inR_t (by omega) (by omega), inR_t (by omega) (by omega)]
  rfl
theorem Tell_ok {k : Nat} (hk : 20000 < k) (hn : n ≤ 1000) {e : Nat} {o : List Int} {W F a b : Nat} {g : List Int} (hWe : W = 2 ^ e) (h : PI v n o W F a b g) (hW : W < n) (ho : Open n W F a b) :
    ∃ (e' : Nat) (o' : List Int) (W' F' a' b' : Nat) (g' : List Int), W' = 2 ^ e' ∧ PI v n o' W' F' a' b' g' ∧ Open n W' F' a' b' ∧ e * n + F + a + b + 1 ≤ e' * n + F' + a' + b' ∧
      ordering_Plan_Tell k (pt o W F a b g) (decide (v (rd o ((mid n F W + b : Nat) : Int)) < v (rd o ((F + a : Nat) : Int)))) = some (pt o' W' F' a' b' g') := by
  have hl := h.len
  have hF := h.Fn hW
  obtain ⟨h1, h2⟩ := ho hW
  have hm := mid_le n F W
  have hgl := h.gp.length_eq
  rw [List.length_append, seg_length (by omega), seg_length (by omega)] at hgl
  have hcl : slices_Clone_intint g = some g := by
    unfold slices_Clone_intint
    rw [fits_t (by omega)]; rfl
  have hfi : ∀ x : Int, fitsB (g.length + [x].length) 8 = true := fun x => fits_t (by rw [List.length_singleton]; omega)
  have ht := h.tell h1 h2
  unfold ordering_Plan_Tell
  rw [Ask_yes hn h hW ho]
  simp only [Option.bind_some, Bool.not_true, cond_false]
  by_cases hlt : v (rd o ((mid n F W + b : Nat) : Int)) < v (rd o ((F + a : Nat) : Int))
  · obtain ⟨e', o', W', F', a', b', g', g1, g2, g3, g4, g5⟩ := settle_ok hk hn hWe (ht.1 hlt)
    refine ⟨e', o', W', F', a', b', g', g1, g2, g3, by omega, ?_⟩
    rw [decide_eq_true hlt]
    simp only [cond_true, pt]
    rw [hcl]
    simp only [Option.bind_some]
    rw [hfi, w64_id (n := (b : Int) + 1) (by omega) (by omega), show (b : Int) + 1 = ((b + 1 : Nat) : Int) by omega]
    have g5' : ordering_Plan_settle k (o, (W : Int), (F : Int), (a : Int), ((b + 1 : Nat) : Int), g ++ [rd o ((mid n F W + b : Nat) : Int)]) = _ := g5
    rw [g5']; rfl
  · obtain ⟨e', o', W', F', a', b', g', g1, g2, g3, g4, g5⟩ := settle_ok hk hn hWe (ht.2 hlt)
    refine ⟨e', o', W', F', a', b', g', g1, g2, g3, by omega, ?_⟩
    rw [decide_eq_false hlt]
    simp only [cond_false, pt]
    rw [hcl]
    simp only [Option.bind_some]
    rw [hfi, w64_id (n := (a : Int) + 1) (by omega) (by omega), show (a : Int) + 1 = ((a + 1 : Nat) : Int) by omega]
    have g5' : ordering_Plan_settle k (o, (W : Int), (F : Int), ((a + 1 : Nat) : Int), (b : Int), g ++ [rd o ((F + a : Nat) : Int)]) = _ := g5
    rw [g5']; rfl
theorem srt_short {l : List Int} (h : l.length ≤ 1) : Srt v l := by
  match l, h with
  | [], _ => exact Srt.nil v
  | [x], _ => exact List.pairwise_singleton _ _
theorem PI.start (n : Nat) : PI v n (iota n) 1 0 0 0 [] :=
  PI.fresh (List.Perm.refl _) (Nat.dvd_zero _) (.inr rfl) (fun _ => rfl) (by omega) (fun s _ _ => srt_short (by unfold seg; rw [List.length_take]; omega)) (fun s hs _ => by omega)
theorem Start_l0 (k : Nat) (hn : n ≤ 1000) (x2 : PT) (x3 : Int × Int) : ∀ (m i : Nat), i ≤ n → n - i < m → ordering_Start.l0 k m x2 x3 (iota i, 1, 0, 0, 0, []) n i = some (.inl (x2, x3, iota n, 1, 0, 0, 0, [])) := by
  intro m
  induction m with
  | zero => intro i _ h; omega
  | succ m ih =>
    intro i h1 h2
    simp only [ordering_Start.l0, ordering_Start.b0]
    by_cases h : i < n
    · rw [dlt_t (by omega), fits_t (by rw [iota_length, List.length_singleton]; omega), incN (by omega), ← iota_succ]
      simp only [cond_true]
      exact ih (i + 1) (by omega) (by omega)
    · have : i = n := by omega
      subst this
      rw [dlt_f (by omega)]; rfl
theorem Start_ok {k : Nat} (hk : 20000 < k) (hn : n ≤ 1000) :
    ∃ (e' : Nat) (o' : List Int) (W' F' a' b' : Nat) (g' : List Int), W' = 2 ^ e' ∧ PI v n o' W' F' a' b' g' ∧ Open n W' F' a' b' ∧ ordering_Start k n = some (pt o' W' F' a' b' g', 0, 0) := by
  obtain ⟨e', o', W', F', a', b', g', g1, g2, g3, g4, g5⟩ := settle_ok (v := v) hk hn (e := 0) rfl (PI.start n)
  refine ⟨e', o', W', F', a', b', g', g1, g2, g3, ?_⟩
  have h0 := Start_l0 k hn ([], 0, 0, 0, 0, []) (0, 0) k 0 (by omega) (by omega)
  have h0' : ordering_Start.l0 k k ([], 0, 0, 0, 0, []) (0, 0) ([], 1, 0, 0, 0, []) n 0 = _ := h0
  unfold ordering_Start
  rw [dlt_f (show (0 : Int) ≤ (n : Int) by omega), dlt_f (show (n : Int) ≤ 1000 by omega)]
  simp only [cond_false, joinB_inl]
  rw [h0']
  simp only [joinB_inl]
  have g5' : ordering_Plan_settle k (iota n, 1, 0, 0, 0, []) = _ := g5
  rw [g5']; rfl
end
end Go.Pl
