/- NaturalArithmetic: its plain function answers true at all lists of limbs.  Conditions: limbs within their kind, lists no longer than memory. -/
import Derived.Test.YtoinfmcliglddaaPlD
import Derived.Test.YtoinfmcliglddaaE4
import Derived.KernelRfl
set_option linter.unusedVariables false
set_option linter.unusedSimpArgs false
namespace Go.Pl
open Go Go.Ev Go.Sh

theorem sums_ok : brindlewoodlaw3_sums 1000000000000000000 = some true := by kernel_rfl

theorem lim16 : lim = 65536 ^ (2 * e600) := by
  have h := Nat.pow_mul 65536 2 e600
  rw [show 65536 ^ 2 = 4294967296 by decide] at h
  rw [lim_def, h]
theorem lim16_iff {z : Nat} : (dg 65536 z).length ≤ 1200 ↔ z < lim := by rw [lim16, ← dg_len_iff hB16, e600_eq]

theorem pairFault_eq (a b : List Int) : brindlewoodlaw3_pairFault a b = natural_check a b := rfl
theorem rAt (a b : Int) : brindlewoodref3_At a b = some (a, b) := rfl

theorem eq2 (x y : Int) : ((x == x) && ((y == y) && true)) = true := by simp

theorem is_ok {k z : Nat} (hl : ((dg 65536 z).length : Int) ≤ 1000000000) (hk : 3000000000 < k) {r : List Int × Int × Int} (hr : r = if z < lim then (dg 4294967296 z, 0, 0) else ([], 14, -1)) : brindlewoodlaw3_is k r.1 r.2 (dg 65536 z) (0, 0) = some true := by
  subst hr
  unfold brindlewoodlaw3_is
  by_cases h : z < lim
  · have h1 := lim16_iff.2 h
    have h2 := len600 h
    simp only [h, if_true]
    rw [dlt_f (by omega)]
    simp only [beq_t rfl, cond_true, cond_false, joinB_inl, bne_f rfl, Bool.and_self]
    rw [Limbs_ok hl (by omega)]
    simp only [Option.bind_some]
    rw [SameLimbs_ok (by omega) (by omega) (by omega)]
    simp
  · have h1 : ¬ (dg 65536 z).length ≤ 1200 := fun h' => h (lim16_iff.1 h')
    simp only [h, if_false]
    rw [dlt_t (by omega)]
    rfl

theorem is_no {k : Nat} {w : Int × Int} (want : List Int) (hw : w.1 ≠ 0) : brindlewoodlaw3_is k [] w want w = some true := by
  unfold brindlewoodlaw3_is
  simp only [beq_f hw, cond_false, joinB_inl, bne_t hw, cond_true, eq2]
  rfl

theorem len16 {x : Nat} (h : x < lim) : (dg 65536 x).length ≤ 1200 := lim16_iff.2 h

theorem arith_err {a b : List Int} {f : Int × Int} (h : natural_check a b = some f) (hf : f.1 ≠ 0) (hva : natural_Valid a ≠ none) : brindlewoodlaw3_NaturalArithmetic 1000000000000000000 a b = some true := by
  unfold brindlewoodlaw3_NaturalArithmetic
  obtain ⟨v, hv⟩ := Option.ne_none_iff_exists'.1 hva
  rw [pairFault_eq, Add_no h hf, Sub_no h hf, Mul_no h hf, Cmp_no h hf, h, sums_ok, refOk, hv]
  simp only [Option.bind_some, Bool.not_true, cond_false, beq_self_eq_true, Bool.and_self, joinB_inl, bne_t hf, cond_true]
  rfl

theorem lim_add {x y : Nat} (hx : x < lim) (hy : y < lim) : (dg 65536 (x + y)).length ≤ 2 * e600 + 1 := dg_len hB16 (by rw [lim16] at hx hy; rw [Nat.pow_succ]; omega)
theorem lim_mul {x y : Nat} (hx : x < lim) (hy : y < lim) : (dg 65536 (x * y)).length ≤ 2 * e600 + 2 * e600 := dg_len hB16 (by
  have : x * y < lim * lim := Nat.mul_lt_mul_of_lt_of_le hx (Nat.le_of_lt hy) (by rw [lim_def]; exact Nat.pow_pos (by decide))
  rw [lim16, ← Nat.pow_add] at this; exact this)

theorem arith_ok {x y : Nat} (hx : x < lim) (hy : y < lim) : brindlewoodlaw3_NaturalArithmetic 1000000000000000000 (dg 4294967296 x) (dg 4294967296 y) = some true := by
  unfold brindlewoodlaw3_NaturalArithmetic
  have l1 := len600 hx
  have l2 := len600 hy
  have m1 := len16 hx
  have m2 := len16 hy
  have m3 := lim_add hx hy
  have m4 := lim_mul hx hy
  have m6 := e600_eq
  have m5 : (dg 65536 (x - y)).length ≤ (dg 65536 x).length := len_le_of_le hB16 (Nat.sub_le _ _)
  have hA := Add_ok hx hy (k := 1000000000000000000) (by omega)
  have hS := Sub_ok hx hy (k := 1000000000000000000) (by omega)
  have hM := Mul_ok hx hy (k := 1000000000000000000) (by omega)
  have hC := Cmp_ok hx hy (k := 1000000000000000000) (by omega)
  generalize hra : (if x + y < lim then (dg 4294967296 (x + y), (0 : Int), (0 : Int)) else ([], 14, -1)) = ra at hA
  generalize hrs : (if x < y then (([] : List Int), (4 : Int), (-2 : Int)) else (dg 4294967296 (x - y), 0, 0)) = rs at hS
  generalize hrm : (if x * y < lim then (dg 4294967296 (x * y), (0 : Int), (0 : Int)) else ([], 14, -1)) = rm at hM
  rw [pairFault_eq, check_ok hx hy, hA, hS, hM, hC, sums_ok, refOk, valid_dg' hx]
  simp only [Option.bind_some, Bool.not_true, cond_false, beq_self_eq_true]
  have hfault : (bif (!((ra.2.1 == 0) && ((ra.2.2 == 0) && true))) then ((brindlewoodref3_At 14 (-1)).bind fun t9 => bif (!((ra.2.1 == t9.1) && ((ra.2.2 == t9.2) && true))) then (some (.inr false)) else (some (.inl (dg 4294967296 x, dg 4294967296 y, ((0, 0) : Int × Int), ra.1, ra.2, rs.1, rs.2, rm.1, rm.2, sgn x y, ((0, 0) : Int × Int))))) else (some (.inl (dg 4294967296 x, dg 4294967296 y, ((0, 0) : Int × Int), ra.1, ra.2, rs.1, rs.2, rm.1, rm.2, sgn x y, ((0, 0) : Int × Int))))) =
      some (Sum.inl (β := Bool) (dg 4294967296 x, dg 4294967296 y, ((0, 0) : Int × Int), ra.1, ra.2, rs.1, rs.2, rm.1, rm.2, sgn x y, ((0, 0) : Int × Int))) := by
    subst hra
    split <;> rfl
  rw [hfault]
  simp only [joinB_inl, bne_self_eq_false, cond_false]
  rw [Of_ok (dd32 x) (de32 x) (by omega) (by omega), Of_ok (dd32 y) (de32 y) (by omega) (by omega)]
  simp only [Option.bind_some]
  rw [Compare_ok (by omega) (by omega) (by omega)]
  simp only [Option.bind_some]
  have hP := Plus_ok (k := 1000000000000000000) (x := x) (y := y) (by omega) (by omega) (by omega)
  have hT := Times_ok (k := 1000000000000000000) (x := x) (y := y) (by omega) (by omega) (by omega)
  have hiP := is_ok (k := 1000000000000000000) (z := x + y) (by omega) (by omega) hra.symm
  have hiT := is_ok (k := 1000000000000000000) (z := x * y) (by omega) (by omega) hrm.symm
  by_cases hlt : x < y
  · have e1 : sgn (x : Int) y = -1 := by unfold sgn; rw [if_pos (by omega)]
    simp only [e1, dlt_t (show (-1 : Int) < 0 by omega), cond_true, rAt, Option.bind_some, joinB_inl, bne_self_eq_false, cond_false, hP, hT, hiP, hiT, Bool.not_true]
    subst hrs
    simp only [hlt, if_true]
    rw [is_no [] (by decide)]
    rfl
  · have e1 : 0 ≤ sgn (x : Int) y := by unfold sgn; rw [if_neg (by omega)]; split <;> omega
    have hMi := Minus_ok (k := 1000000000000000000) (x := x) (y := y) (by omega) (by omega) (by omega)
    have hrs' : rs = if x - y < lim then (dg 4294967296 (x - y), 0, 0) else ([], 14, -1) := by
      rw [← hrs, if_neg hlt, if_pos (by omega)]
    have hiM := is_ok (k := 1000000000000000000) (z := x - y) (by omega) (by omega) hrs'
    simp only [dlt_f e1, cond_false, rAt, Option.bind_some, joinB_inl, bne_self_eq_false, hP, hT, hiP, hiT, Bool.not_true, hMi, hiM]

theorem u32_dig {a : List Int} (h : Wf (.list (.int .u32)) a) : Dig 4294967296 a ∧ (a.length : Int) ≤ 1000000000000000000 := by
  obtain ⟨h1, h2⟩ := h
  refine ⟨fun x hx => ?_, ?_⟩
  · have h3 : (0 : Int) ≤ x ∧ x ≤ 4294967295 := h2 x hx
    omega
  · have h4 : a.length * 4 ≤ 140737488351232 := h1
    omega

theorem naturalArithmetic_plain {a b : List Int} (ha : Wf (.list (.int .u32)) a) (hb : Wf (.list (.int .u32)) b) : brindlewoodlaw3_NaturalArithmetic 1000000000000000000 a b = some true := by
  obtain ⟨da, la⟩ := u32_dig ha
  obtain ⟨db, lb⟩ := u32_dig hb
  rcases natural_cases da la with ⟨x, hx, rfl⟩ | h1
  · rcases natural_cases db lb with ⟨y, hy, rfl⟩ | h2
    · exact arith_ok hx hy
    · exact arith_err (check_no2 (valid_dg' hx) h2) (by decide) (by rw [valid_dg' hx]; simp)
  · exact arith_err (check_no1 h1) (by decide) (by rw [h1]; simp)
end Go.Pl
