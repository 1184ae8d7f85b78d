/- Slices: clamping and counting.  Conditions: those that each theorem names. -/
import Derived.Test.YtpomnejenhgpkaaPiH
set_option linter.unusedVariables false
set_option linter.unusedSimpArgs false
namespace Go.Pl
open Go Go.Ev Go.Sh
def clamp (v lo hi : Int) : Int := if v < lo then lo else if hi < v then hi else v
theorem clamp_rng {v lo hi : Int} (h : lo ≤ hi) : lo ≤ clamp v lo hi ∧ clamp v lo hi ≤ hi := by unfold clamp; split <;> (try split) <;> omega
theorem clamp_minmax {v lo hi : Int} (h : lo ≤ hi) : mnI (mxI v lo) hi = clamp v lo hi := by
  unfold clamp mnI mxI
  (repeat' split) <;> omega
def steps (x d : Int) : Int := if x ≤ 0 then 0 else (x + d - 1) / d
theorem steps_pos {x d : Int} (hx : 0 < x) (hd : 0 < d) : d * (steps x d - 1) < x ∧ x ≤ d * steps x d ∧ 1 ≤ steps x d := by
  unfold steps
  rw [if_neg (by omega)]
  have h1 := Int.mul_ediv_add_emod (x + d - 1) d
  have h2 := Int.emod_nonneg (x + d - 1) (show d ≠ 0 by omega)
  have h3 := Int.emod_lt_of_pos (x + d - 1) hd
  generalize (x + d - 1) % d = r at *
  generalize (x + d - 1) / d = q at *
  have h4 : d * (q - 1) = d * q - d := by rw [Int.mul_sub, Int.mul_one]
  refine ⟨by omega, by omega, ?_⟩
  refine Int.not_lt.1 fun h => ?_
  have : d * q ≤ d * 0 := Int.mul_le_mul_of_nonneg_left (by omega) (by omega)
  omega
theorem steps_uniq {x d c : Int} (hx : 0 < x) (hd : 0 < d) (h1 : d * (c - 1) < x) (h2 : x ≤ d * c) : steps x d = c := by
  obtain ⟨g1, g2, g3⟩ := steps_pos hx hd
  have a : steps x d - 1 < c := Int.lt_of_mul_lt_mul_left (a := d) (by omega) (by omega)
  have b : c - 1 < steps x d := Int.lt_of_mul_lt_mul_left (a := d) (by omega) (by omega)
  omega
theorem steps_step {x d : Int} (hx : 0 < x) (hd : 0 < d) : steps x d = steps (x - d) d + 1 := by
  by_cases h : x - d ≤ 0
  · have : steps (x - d) d = 0 := by unfold steps; rw [if_pos h]
    rw [this]
    exact steps_uniq hx hd (by simp; omega) (by simp; omega)
  · obtain ⟨g1, g2, g3⟩ := steps_pos (x := x - d) (by omega) hd
    refine steps_uniq hx hd ?_ ?_
    · have : d * (steps (x - d) d + 1 - 1) = d * (steps (x - d) d - 1) + d := by rw [Int.mul_sub, Int.mul_sub, Int.mul_add]; omega
      omega
    · have : d * (steps (x - d) d + 1) = d * steps (x - d) d + d := by rw [Int.mul_add, Int.mul_one]
      omega
theorem steps_nn {x d : Int} (hd : 0 < d) : 0 ≤ steps x d ∧ (0 ≤ x → steps x d ≤ x) := by
  by_cases h : x ≤ 0
  · have : steps x d = 0 := by unfold steps; rw [if_pos h]
    omega
  · obtain ⟨g1, g2, g3⟩ := steps_pos (x := x) (d := d) (by omega) hd
    refine ⟨by omega, fun _ => ?_⟩
    have : 1 * (steps x d - 1) ≤ d * (steps x d - 1) := Int.mul_le_mul_of_nonneg_right (by omega) (by omega)
    omega
theorem steps_tdiv {x d : Int} (hd : 0 < d) : mxI 0 (Int.tdiv (x + d - 1) d) = steps x d := by
  unfold mxI steps
  by_cases h : x ≤ 0
  · rw [if_pos h]
    have : Int.tdiv (x + d - 1) d ≤ 0 := by
      by_cases h2 : 0 ≤ x + d - 1
      · rw [Int.tdiv_eq_ediv_of_nonneg h2, Int.ediv_eq_zero_of_lt h2 (by omega)]; omega
      · have e : x + d - 1 = -(-(x + d - 1)) := by omega
        rw [e, Int.neg_tdiv, Int.tdiv_eq_ediv_of_nonneg (by omega)]
        have := Int.ediv_nonneg (a := -(x + d - 1)) (b := d) (by omega) (by omega)
        omega
    split <;> omega
  · rw [if_neg h, Int.tdiv_eq_ediv_of_nonneg (by omega)]
    have := (steps_pos (x := x) (by omega) hd).2.2
    unfold steps at this
    rw [if_neg h] at this
    split <;> omega
end Go.Pl
