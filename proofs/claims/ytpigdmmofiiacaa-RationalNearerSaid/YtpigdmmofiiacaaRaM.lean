/- Ratios: the nearest one with a small denominator, the program.  Conditions: those that each theorem names. -/
import Derived.Test.YtpigdmmofiiacaaRaG
set_option linter.unusedVariables false
set_option linter.unusedSimpArgs false
set_option maxHeartbeats 0
namespace Go.Pl
open Go Go.Ev Go.Sh
def best (X : Int) (D M : Nat) (P : Int) (Q : Nat) : Prop := ∀ (r : Int) (s : Nat), 1 ≤ s → s ≤ M → (X * Q - P * D).natAbs * s ≤ (X * s - r * D).natAbs * Q
theorem best_self {X : Int} {D M : Nat} : best X D M X D := by
  intro r s _ _
  rw [Int.sub_self]; simp
theorem best_two {X p1 P : Int} {D M q1 Q d e : Nat} {σ : Int} (hσ : σ = 1 ∨ σ = -1) (hdet : p1 * Q - P * q1 = σ) (h1 : X * q1 - p1 * D = -σ * d) (h2 : X * Q - P * D = σ * e) (q1p : 1 ≤ q1) (Qp : 1 ≤ Q) (hM : M < q1 + Q) :
    (d * Q ≤ e * q1 → best X D M p1 q1) ∧ (e * q1 ≤ d * Q → best X D M P Q) := by
  have key : ∀ (r : Int) (s : Nat), 1 ≤ s → s ≤ M → d * s ≤ (X * s - r * D).natAbs * q1 ∨ e * s ≤ (X * s - r * D).natAbs * Q := by
    intro r s hs hsM
    obtain ⟨a, ha⟩ : ∃ a : Int, a = σ * (r * Q - P * s) := ⟨_, rfl⟩
    obtain ⟨b, hb⟩ : ∃ b : Int, b = σ * (p1 * s - r * q1) := ⟨_, rfl⟩
    have hσ2 : σ * σ = 1 := by rcases hσ with h | h <;> rw [h] <;> rfl
    have es : (s : Int) = a * q1 + b * Q := by
      have : a * q1 + b * Q = σ * (p1 * Q - P * q1) * s := by rw [ha, hb]; grind
      rw [this, hdet, hσ2, Int.one_mul]
    have eu : X * s - r * D = σ * (b * e - a * d) := by
      have er : r = a * p1 + b * P := by
        have : a * p1 + b * P = σ * (p1 * Q - P * q1) * r := by rw [ha, hb]; grind
        rw [this, hdet, hσ2, Int.one_mul]
      have : X * s - r * D = a * (X * q1 - p1 * D) + b * (X * Q - P * D) := by
        rw [er, es]; grind
      rw [this, h1, h2]; grind
    have hu : (X * s - r * D).natAbs = (b * e - a * d).natAbs := by
      rw [eu, Int.natAbs_mul]
      rcases hσ with h | h <;> rw [h] <;> simp
    rw [hu]
    have hq1 : (1 : Int) ≤ q1 := by omega
    have hQ : (1 : Int) ≤ Q := by omega
    by_cases a1 : 1 ≤ a
    · by_cases b1 : 1 ≤ b
      · exfalso
        have m1 : 1 * (q1 : Int) ≤ a * q1 := Int.mul_le_mul_of_nonneg_right a1 (by omega)
        have m2 : 1 * (Q : Int) ≤ b * Q := Int.mul_le_mul_of_nonneg_right b1 (by omega)
        omega
      · left
        have hbQ : b * Q ≤ 0 := by have := Int.mul_le_mul_of_nonneg_right (show b ≤ 0 by omega) (show (0 : Int) ≤ Q by omega); omega
        have hbe : b * e ≤ 0 := by have := Int.mul_le_mul_of_nonneg_right (show b ≤ 0 by omega) (show (0 : Int) ≤ e by omega); omega
        have had : 0 ≤ a * d := Int.mul_nonneg (by omega) (by omega)
        have hn : ((b * e - a * d).natAbs : Int) = a * d - b * e := by omega
        have g1 : (d : Int) * s ≤ d * (a * q1) := Int.mul_le_mul_of_nonneg_left (by omega) (by omega)
        have g2 : a * d * q1 ≤ (a * d - b * e) * q1 := Int.mul_le_mul_of_nonneg_right (by omega) (by omega)
        have g3 : (d : Int) * (a * q1) = a * d * q1 := by grind
        have : ((d * s : Nat) : Int) ≤ (((b * e - a * d).natAbs * q1 : Nat) : Int) := by
          rw [Int.natCast_mul, Int.natCast_mul, hn]; omega
        omega
    · right
      have b1 : 1 ≤ b := by
        refine Int.not_lt.1 fun h => ?_
        have m1 : a * q1 ≤ 0 := by have := Int.mul_le_mul_of_nonneg_right (show a ≤ 0 by omega) (show (0 : Int) ≤ q1 by omega); omega
        have m2 : b * Q ≤ 0 := by have := Int.mul_le_mul_of_nonneg_right (show b ≤ 0 by omega) (show (0 : Int) ≤ Q by omega); omega
        omega
      have haq : a * q1 ≤ 0 := by have := Int.mul_le_mul_of_nonneg_right (show a ≤ 0 by omega) (show (0 : Int) ≤ q1 by omega); omega
      have had : a * d ≤ 0 := by have := Int.mul_le_mul_of_nonneg_right (show a ≤ 0 by omega) (show (0 : Int) ≤ d by omega); omega
      have hbe : 0 ≤ b * e := Int.mul_nonneg (by omega) (by omega)
      have hn : ((b * e - a * d).natAbs : Int) = b * e - a * d := by omega
      have g1 : (e : Int) * s ≤ e * (b * Q) := Int.mul_le_mul_of_nonneg_left (by omega) (by omega)
      have g2 : b * e * Q ≤ (b * e - a * d) * Q := Int.mul_le_mul_of_nonneg_right (by omega) (by omega)
      have g3 : (e : Int) * (b * Q) = b * e * Q := by grind
      have : ((e * s : Nat) : Int) ≤ (((b * e - a * d).natAbs * Q : Nat) : Int) := by
        rw [Int.natCast_mul, Int.natCast_mul, hn]; omega
      omega
  have n1 : (X * q1 - p1 * D).natAbs = d := by
    rw [h1]; rcases hσ with h | h <;> rw [h] <;> simp
  have n2 : (X * Q - P * D).natAbs = e := by
    rw [h2]; rcases hσ with h | h <;> rw [h] <;> simp
  constructor
  · intro hc r s hs hsM
    rw [n1]
    rcases key r s hs hsM with h | h
    · exact h
    · generalize (X * s - r * D).natAbs = u at *
      refine Nat.le_of_mul_le_mul_right (c := Q) ?_ (by omega)
      have g1 : d * s * Q = d * Q * s := by grind
      have g2 : e * q1 * s = e * s * q1 := by grind
      have g3 : u * q1 * Q = u * Q * q1 := by grind
      rw [g1, g3]
      exact Nat.le_trans (Nat.mul_le_mul_right _ hc) (by rw [g2]; exact Nat.mul_le_mul_right _ h)
  · intro hc r s hs hsM
    rw [n2]
    rcases key r s hs hsM with h | h
    · generalize (X * s - r * D).natAbs = u at *
      refine Nat.le_of_mul_le_mul_right (c := q1) ?_ (by omega)
      have g1 : e * s * q1 = e * q1 * s := by grind
      have g2 : d * Q * s = d * s * Q := by grind
      have g3 : u * Q * q1 = u * q1 * Q := by grind
      rw [g1, g3]
      exact Nat.le_trans (Nat.mul_le_mul_right _ hc) (by rw [g2]; exact Nat.mul_le_mul_right _ h)
    · exact h
theorem gap_ok {k : Nat} (hk : 20000000000 < k) {X yn : Int} {D yd : Nat} (hX : X.natAbs < ilim) (hD : D < ilim) (hn : yn.natAbs < ilim) (hd : yd < ilim) (u : Unit) :
    rational_closer_1 k (rq yn yd) ((iz X).1, (iz X).2, (iz (D : Int)).1, (iz (D : Int)).2, u) = some (dg 4294967296 (X * yd - yn * D).natAbs, dg 4294967296 yd) := by
  obtain ⟨l1, l1'⟩ := prod_lim hX hd
  obtain ⟨l2, l2'⟩ := prod_lim hn hD
  have hl := ilim_four
  have hx : (X * (yd : Int)).natAbs = X.natAbs * yd := by rw [Int.natAbs_mul, Int.natAbs_natCast]
  have hy : (-(yn * (D : Int))).natAbs = yn.natAbs * D := by rw [Int.natAbs_neg, Int.natAbs_mul, Int.natAbs_natCast]
  have sx : X * (yd : Int) ≠ 0 → decide (X < 0) = decide (X * (yd : Int) < 0) := mulq_sign
  have sy : -(yn * (D : Int)) ≠ 0 → (!decide (yn < 0)) = decide (-(yn * (D : Int)) < 0) := by
    intro h
    rw [mulq_sign (x := yn) (q := D) (by omega)]
    by_cases h1 : yn * (D : Int) < 0
    · rw [decide_eq_true h1, decide_eq_false (by omega)]; rfl
    · rw [decide_eq_false h1, decide_eq_true (by omega)]; rfl
  obtain ⟨k1, k2⟩ := sign_add hx hy sx sy
  have eS : X * (yd : Int) + -(yn * (D : Int)) = X * yd - yn * D := by omega
  rw [eS] at k1 k2
  unfold rational_closer_1 rq
  simp only [iz_nat, iz_abs, iz_neg]
  rw [nmul_ok (by omega) hX hd, nmul_ok (by omega) hn hD]
  simp only [Option.bind_some]
  generalize (X * (yd : Int) - yn * (D : Int)) = Z at *
  generalize X.natAbs * yd = x at *
  generalize yn.natAbs * D = y at *
  cases hs : (decide (X < 0) == decide (yn < 0)) with
  | false =>
    have hq : decide (X < 0) = (!decide (yn < 0)) := by cases h1 : decide (X < 0) <;> cases h2 : decide (yn < 0) <;> rw [h1, h2] at hs <;> simp at hs ⊢
    obtain ⟨m1, _⟩ := k1 hq
    simp only [Bool.not_false, cond_true]
    rw [Add_ok l1' l2' (by omega), if_pos (by omega), m1]; rfl
  | true =>
    have hq : decide (X < 0) ≠ (!decide (yn < 0)) := by cases h1 : decide (X < 0) <;> cases h2 : decide (yn < 0) <;> rw [h1, h2] at hs <;> simp at hs ⊢
    obtain ⟨m1, m2⟩ := k2 hq
    simp only [Bool.not_true, cond_false]
    rw [Cmp_ok l1' l2' (by omega)]
    simp only [Option.bind_some]
    by_cases hlt : x < y
    · obtain ⟨n1, _⟩ := m1 hlt
      have : sgn x y = -1 := by unfold sgn; rw [if_pos (by omega)]
      rw [this]
      simp only [show decide ((-1 : Int) < 0) = true from rfl, cond_true, joinB_inl]
      rw [Sub_ok l2' l1' (by omega), if_neg (by omega), n1]; rfl
    · obtain ⟨n1, _⟩ := m2 hlt
      have : decide (sgn x y < 0) = false := by unfold sgn; rw [if_neg (by omega)]; split <;> rfl
      rw [this]
      simp only [cond_false, joinB_inl]
      rw [Sub_ok l1' l2' (by omega), if_neg (by omega), n1]; rfl
theorem closer_ok {k : Nat} (hk : 20000000000 < k) {X a b : Int} {D q r : Nat} (hX : X.natAbs < ilim) (hD : D < ilim) (ha : RatV a q) (hb : RatV b r) (ga : (X * q - a * D).natAbs < ilim) (gb : (X * r - b * D).natAbs < ilim) :
    (rational_closer k (rq X D) (rq a q) (rq b r) = some (rq a q) ∧ (X * q - a * D).natAbs * r ≤ (X * r - b * D).natAbs * q) ∨
    (rational_closer k (rq X D) (rq a q) (rq b r) = some (rq b r) ∧ (X * r - b * D).natAbs * q ≤ (X * q - a * D).natAbs * r) := by
  have e1 := gap_ok hk hX hD ha.1 ha.2.1 ()
  have e2 := gap_ok hk hX hD hb.1 hb.2.1 ()
  unfold rational_closer
  have e1' : rational_closer_1 k (rq a q) (((rq X D).1.1, (rq X D).1.2, (rq X D).2.1, (rq X D).2.2, ()).1, (((rq X D).1.1, (rq X D).1.2, (rq X D).2.1, (rq X D).2.2, ()).2).1, ((((rq X D).1.1, (rq X D).1.2, (rq X D).2.1, (rq X D).2.2, ()).2).2).1, (((((rq X D).1.1, (rq X D).1.2, (rq X D).2.1, (rq X D).2.2, ()).2).2).2).1, ()) = _ := e1
  have e2' : rational_closer_1 k (rq b r) (((rq X D).1.1, (rq X D).1.2, (rq X D).2.1, (rq X D).2.2, ()).1, (((rq X D).1.1, (rq X D).1.2, (rq X D).2.1, (rq X D).2.2, ()).2).1, ((((rq X D).1.1, (rq X D).1.2, (rq X D).2.1, (rq X D).2.2, ()).2).2).1, (((((rq X D).1.1, (rq X D).1.2, (rq X D).2.1, (rq X D).2.2, ()).2).2).2).1, ()) = _ := e2
  rw [e1', e2']
  simp only [Option.bind_some]
  rw [nmul_ok (by omega) ga hb.2.1, nmul_ok (by omega) gb ha.2.1]
  simp only [Option.bind_some]
  rw [Cmp_ok (prod_lim ga hb.2.1).2 (prod_lim gb ha.2.1).2 (by omega), Cmp_ok (ilim_lim ha.2.1) (ilim_lim hb.2.1) (by omega)]
  simp only [Option.bind_some]
  generalize (X * (q : Int) - a * D).natAbs * r = u at *
  generalize (X * (r : Int) - b * D).natAbs * q = v at *
  by_cases c1 : u < v
  · have : sgn u v = -1 := by unfold sgn; rw [if_pos (by omega)]
    rw [this]
    exact .inl ⟨rfl, by omega⟩
  · by_cases c2 : v < u
    · have : sgn u v = 1 := by unfold sgn; rw [if_neg (by omega), if_pos (by omega)]
      rw [this]
      exact .inr ⟨rfl, by omega⟩
    · have : sgn u v = 0 := by unfold sgn; rw [if_neg (by omega), if_neg (by omega)]
      rw [this]
      simp only [beq_self_eq_true, cond_true]
      have fin : ∀ m : Int, (bif decide (m < 0) then some (rq a q) else some (rq b r)) = some (rq a q) ∨ (bif decide (m < 0) then some (rq a q) else some (rq b r)) = some (rq b r) := by
        intro m
        cases decide (m < 0)
        · exact .inr rfl
        · exact .inl rfl
      by_cases c3 : (q : Int) = r
      · have : sgn (q : Int) r = 0 := by unfold sgn; rw [if_neg (by omega), if_neg (by omega)]
        rw [this]
        simp only [beq_self_eq_true, cond_true]
        rw [qCmp_ok hk ha hb]
        simp only [Option.bind_some, joinB_inl, show decide ((0 : Int) < 0) = false from rfl, cond_false, beq_self_eq_true, cond_true]
        rcases fin (sgn (a * (r : Int)) (b * (q : Int))) with h | h
        · exact .inl ⟨h, by omega⟩
        · exact .inr ⟨h, by omega⟩
      · have hs : (sgn (q : Int) r == 0) = false := by
          unfold sgn
          by_cases c4 : (q : Int) < r
          · rw [if_pos c4]; rfl
          · rw [if_neg c4, if_pos (by omega)]; rfl
        rw [hs]
        simp only [cond_false, joinB_inl, show decide ((0 : Int) < 0) = false from rfl, beq_self_eq_true, cond_true]
        rcases fin (sgn (q : Int) r) with h | h
        · exact .inl ⟨h, by omega⟩
        · exact .inr ⟨h, by omega⟩
end Go.Pl
