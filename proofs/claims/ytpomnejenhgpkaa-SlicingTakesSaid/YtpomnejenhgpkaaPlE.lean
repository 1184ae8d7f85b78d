/- Sizes of numbers.  Conditions: those that each theorem names. -/
import Derived.Test.YtpomnejenhgpkaaPlD
import Derived.Test.YtpomnejenhgpkaaE4
import Derived.KernelRfl
set_option linter.unusedVariables false
set_option linter.unusedSimpArgs false
namespace Go.Pl
open Go Go.Ev Go.Sh
theorem lim16 : lim = 65536 ^ (2 * e600) := by
  have h := Nat.pow_mul 65536 2 e600
  rw [show 65536 ^ 2 = 4294967296 by decide] at h
  rw [lim_def, h]
theorem lim16_iff {z : Nat} : (dg 65536 z).length ≤ 1200 ↔ z < lim := by rw [lim16, ← dg_len_iff hB16, e600_eq]
theorem rAt (a b : Int) : brindlewoodref3_At a b = some (a, b) := rfl
theorem eq2 (x y : Int) : ((x == x) && ((y == y) && true)) = true := by simp
theorem len16 {x : Nat} (h : x < lim) : (dg 65536 x).length ≤ 1200 := lim16_iff.2 h
theorem lim_add {x y : Nat} (hx : x < lim) (hy : y < lim) : (dg 65536 (x + y)).length ≤ 2 * e600 + 1 := dg_len hB16 (by rw [lim16] at hx hy; rw [Nat.pow_succ]; omega)
theorem lim_mul {x y : Nat} (hx : x < lim) (hy : y < lim) : (dg 65536 (x * y)).length ≤ 2 * e600 + 2 * e600 := dg_len hB16 (by
  have : x * y < lim * lim := Nat.mul_lt_mul_of_lt_of_le hx (Nat.le_of_lt hy) (by rw [lim_def]; exact Nat.pow_pos (by decide))
  rw [lim16, ← Nat.pow_add] at this; exact this)
theorem u32_dig {a : List Int} (h : Wf (.list (.int .u32)) a) : Dig 4294967296 a ∧ (a.length : Int) ≤ 1000000000000000000 := by
  obtain ⟨h1, h2⟩ := h
  refine ⟨fun x hx => ?_, ?_⟩
  · have h3 : (0 : Int) ≤ x ∧ x ≤ 4294967295 := h2 x hx
    omega
  · have h4 : a.length * 4 ≤ 140737488351232 := h1
    omega
end Go.Pl
