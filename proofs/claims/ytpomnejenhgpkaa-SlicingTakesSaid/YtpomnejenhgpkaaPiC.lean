/- More of package integer: division, comparison, signs, divisors.  Conditions: those that each theorem names. -/
import Derived.Test.YtpomnejenhgpkaaPiA
import Derived.Test.YtpomnejenhgpkaaPlL
set_option linter.unusedVariables false
set_option linter.unusedSimpArgs false
namespace Go.Pl
open Go Go.Ev Go.Sh
def iq (x y : Int) : Int := if decide (x < 0) = decide (y < 0) then ((x.natAbs / y.natAbs : Nat) : Int) else (if x.natAbs % y.natAbs = 0 then -((x.natAbs / y.natAbs : Nat) : Int) else -((x.natAbs / y.natAbs + 1 : Nat) : Int))
def irm (x y : Int) : Nat := if decide (x < 0) = decide (y < 0) then x.natAbs % y.natAbs else (if x.natAbs % y.natAbs = 0 then 0 else y.natAbs - x.natAbs % y.natAbs)
def ir (x y : Int) : Int := if y < 0 then -(irm x y : Int) else irm x y
theorem ir_abs (x y : Int) : (ir x y).natAbs = irm x y := by unfold ir; split <;> simp
theorem irm_lt {x y : Int} (hy : y ≠ 0) : irm x y < y.natAbs := by
  have := Nat.mod_lt x.natAbs (show 0 < y.natAbs by omega)
  unfold irm; split
  · exact this
  · split <;> omega
theorem floor_eq {x y : Int} (hy : y ≠ 0) : x = y * iq x y + ir x y := by
  have h := Nat.div_add_mod x.natAbs y.natAbs
  have hm := Nat.mod_lt x.natAbs (show 0 < y.natAbs by omega)
  unfold iq ir irm
  generalize x.natAbs / y.natAbs = q at *
  generalize x.natAbs % y.natAbs = r at *
  have h' : (x.natAbs : Int) = y.natAbs * q + r := by rw [← h]; simp
  by_cases h1 : x < 0 <;> by_cases h2 : y < 0
  · have e1 : (x.natAbs : Int) = -x := by omega
    have e2 : (y.natAbs : Int) = -y := by omega
    rw [e1, e2] at h'
    simp only [h1, h2, if_true]; grind
  · have e1 : (x.natAbs : Int) = -x := by omega
    have e2 : (y.natAbs : Int) = y := by omega
    rw [e1, e2] at h'
    simp only [h1, h2, decide_true, decide_false, Bool.true_eq_false, if_false]
    by_cases h3 : r = 0
    · subst h3; simp only [if_true]; grind
    · simp only [h3, if_false]
      have e3 : ((y.natAbs - r : Nat) : Int) = y - r := by omega
      rw [e3]; simp only [Int.natCast_add, Int.natCast_one]; grind
  · have e1 : (x.natAbs : Int) = x := by omega
    have e2 : (y.natAbs : Int) = -y := by omega
    rw [e1, e2] at h'
    simp only [h1, h2, decide_true, decide_false, Bool.false_eq_true, if_false, if_true]
    by_cases h3 : r = 0
    · subst h3; simp only [if_true]; grind
    · simp only [h3, if_false]
      have e3 : ((y.natAbs - r : Nat) : Int) = -y - r := by omega
      rw [e3]; simp only [Int.natCast_add, Int.natCast_one]; grind
  · have e1 : (x.natAbs : Int) = x := by omega
    have e2 : (y.natAbs : Int) = y := by omega
    rw [e1, e2] at h'
    simp only [h1, h2, if_true, if_false]; grind
theorem iq_abs {x y : Int} (hy : y ≠ 0) : (iq x y).natAbs = (if decide (x < 0) ≠ decide (y < 0) ∧ x.natAbs % y.natAbs ≠ 0 then x.natAbs / y.natAbs + 1 else x.natAbs / y.natAbs) := by
  unfold iq
  by_cases h : decide (x < 0) = decide (y < 0)
  · rw [if_pos h, if_neg (fun h' => h'.1 h), Int.natAbs_natCast]
  · rw [if_neg h]
    by_cases h2 : x.natAbs % y.natAbs = 0
    · rw [if_pos h2, if_neg (fun h' => h'.2 h2), Int.natAbs_neg, Int.natAbs_natCast]
    · rw [if_neg h2, if_pos ⟨h, h2⟩]
      generalize x.natAbs / y.natAbs + 1 = z
      simp
theorem iq_lt {x y : Int} (hy : y ≠ 0) (hx : x.natAbs < ilim) : (iq x y).natAbs < ilim := by
  rw [iq_abs hy]
  have h := Nat.div_le_self x.natAbs y.natAbs
  split
  · rename_i h2
    have hm := Nat.div_add_mod x.natAbs y.natAbs
    have h3 : 2 ≤ y.natAbs := by
      rcases Nat.lt_or_ge y.natAbs 2 with h4 | h4
      · have : y.natAbs = 1 := by omega
        rw [this, Nat.mod_one] at h2; exact absurd rfl h2.2
      · exact h4
    have h4 : x.natAbs / y.natAbs ≤ x.natAbs / 2 := Nat.div_le_div_left h3 (by omega)
    have h5 : x.natAbs ≠ 0 := fun h => by rw [h, Nat.zero_mod] at h2; exact absurd rfl h2.2
    generalize x.natAbs / y.natAbs = q at *
    omega
  · omega
theorem iq_sign {x y : Int} (h : iq x y ≠ 0) : (!(decide (x < 0) == decide (y < 0))) = decide (iq x y < 0) := by
  revert h
  unfold iq
  by_cases h : decide (x < 0) = decide (y < 0)
  · rw [if_pos h, h]
    generalize x.natAbs / y.natAbs = z
    intro _
    have : ¬ (z : Int) < 0 := by omega
    simp [this]
  · rw [if_neg h]
    have hh : (!(decide (x < 0) == decide (y < 0))) = true := by simpa using h
    rw [hh]
    by_cases h2 : x.natAbs % y.natAbs = 0
    · rw [if_pos h2]
      generalize x.natAbs / y.natAbs = z
      intro hz
      have : -(z : Int) < 0 := by omega
      simp; omega
    · rw [if_neg h2]
      generalize x.natAbs / y.natAbs = z
      intro _
      have : -((z + 1 : Nat) : Int) < 0 := by omega
      exact (decide_eq_true this).symm
theorem ir_sign {x y : Int} (h : ir x y ≠ 0) : decide (y < 0) = decide (ir x y < 0) := by
  revert h
  unfold ir
  by_cases hy : y < 0
  · rw [if_pos hy]; intro h
    have : -(irm x y : Int) < 0 := by omega
    rw [decide_eq_true hy, decide_eq_true this]
  · rw [if_neg hy]; intro h
    have : ¬ (irm x y : Int) < 0 := by omega
    rw [decide_eq_false hy, decide_eq_false this]
theorem iDivMod_ok {k : Nat} (hk : 20000000000 < k) {x y : Int} (hx : x.natAbs < ilim) (hy : y.natAbs < ilim) : integer_DivMod k (iz x) (iz y) = some (if y = 0 then ((false, []), (false, []), 22, -2) else (iz (iq x y), iz (ir x y), 0, 0)) := by
  unfold integer_DivMod
  rw [check2 (by omega) hx hy]
  simp only [Option.bind_some, bne_self_eq_false, cond_false, iz]
  have hx' := ilim_lim hx
  have hy' := ilim_lim hy
  rw [DivMod_ok hx' hy' hk]
  simp only [Option.bind_some]
  by_cases h0 : y = 0
  · subst h0; rfl
  · rw [if_neg (show ¬ y.natAbs = 0 by omega), if_neg h0]
    simp only [bne_self_eq_false, cond_false]
    have hmod := Nat.mod_lt x.natAbs (show 0 < y.natAbs by omega)
    have hdiv := Nat.div_le_self x.natAbs y.natAbs
    have hq := iq_lt h0 hx
    have hr : (ir x y).natAbs < ilim := by rw [ir_abs]; have := irm_lt (x := x) h0; omega
    have fin : (integer_signed (!(decide (x < 0) == decide (y < 0))) (dg 4294967296 (iq x y).natAbs)).bind (fun t7 => bif (t7.2.1 != 0) then (some (((false, []) : Bool × List Int), ((false, []) : Bool × List Int), t7.2)) else ((integer_signed (decide (y < 0)) (dg 4294967296 (ir x y).natAbs)).bind fun t8 => some (t7.1, t8.1, ((0, 0) : Int × Int)))) = some (iz (iq x y), iz (ir x y), 0, 0) := by
      rw [signed_ok iq_sign, signed_ok ir_sign]
      unfold ires
      rw [if_pos hq, if_pos hr]
      rfl
    have e1 : [(1 : Int)] = dg 4294967296 1 := by rw [dg_pos hB32 (by decide)]; rfl
    have h1lim : 1 < lim := lim_iff.1 (by rw [← e1]; decide)
    have h2lim := ilim_two
    by_cases hs : decide (x < 0) = decide (y < 0)
    · have hs' : (!(decide (x < 0) == decide (y < 0))) = false := by rw [hs]; simp
      rw [hs'] at fin ⊢
      simp only [cond_false, joinB_inl, hs']
      have e2 : (iq x y).natAbs = x.natAbs / y.natAbs := by rw [iq_abs h0, if_neg (fun h => h.1 hs)]
      have e3 : (ir x y).natAbs = x.natAbs % y.natAbs := by rw [ir_abs]; unfold irm; rw [if_pos hs]
      rw [e2, e3] at fin
      exact fin
    · have hs' : (!(decide (x < 0) == decide (y < 0))) = true := by simpa using hs
      rw [hs'] at fin ⊢
      simp only [cond_true, joinB_inl, hs']
      by_cases hz : x.natAbs % y.natAbs = 0
      · have e2 : (iq x y).natAbs = x.natAbs / y.natAbs := by rw [iq_abs h0, if_neg (fun h => h.2 hz)]
        have e3 : (ir x y).natAbs = x.natAbs % y.natAbs := by rw [ir_abs]; unfold irm; rw [if_neg hs, if_pos hz, hz]
        rw [e2, e3] at fin
        have hl : decide (0 < ((dg 4294967296 (x.natAbs % y.natAbs)).length : Int)) = false := by rw [hz]; rfl
        rw [hl]
        simp only [cond_false, joinB_inl, hs']
        exact fin
      · have hp := (dg_len_pos (n := x.natAbs % y.natAbs) hB32).2 (by omega)
        have hl : decide (0 < ((dg 4294967296 (x.natAbs % y.natAbs)).length : Int)) = true := dlt_t (by omega)
        have e2 : (iq x y).natAbs = x.natAbs / y.natAbs + 1 := by rw [iq_abs h0, if_pos ⟨hs, hz⟩]
        have e3 : (ir x y).natAbs = y.natAbs - x.natAbs % y.natAbs := by rw [ir_abs]; unfold irm; rw [if_neg hs, if_neg hz]
        rw [e2, e3] at fin
        rw [e2] at hq
        rw [hl, e1]
        simp only [cond_true]
        rw [Add_ok (Nat.lt_of_le_of_lt hdiv hx') h1lim (by omega), if_pos (by omega), Sub_ok hy' (by omega) (by omega), if_neg (by omega)]
        simp only [Option.bind_some, joinB_inl, hs']
        exact fin
theorem iCmp_ok {k : Nat} (hk : 20000000000 < k) {x y : Int} (hx : x.natAbs < ilim) (hy : y.natAbs < ilim) : integer_Cmp k (iz x) (iz y) = some (sgn x y, 0, 0) := by
  unfold integer_Cmp
  rw [check2 (by omega) hx hy]
  simp only [Option.bind_some, bne_self_eq_false, cond_false, iz]
  rw [Cmp_ok (ilim_lim hx) (ilim_lim hy) (by omega)]
  simp only [Option.bind_some]
  by_cases h1 : x < 0 <;> by_cases h2 : y < 0
  · simp only [h1, h2, decide_true, cond_true, joinB_inl]
    have : w64 (0 - sgn (x.natAbs : Int) y.natAbs) = sgn x y := by
      unfold sgn
      split
      · rw [if_neg (by omega), if_pos (by omega)]; decide
      · split
        · rw [if_pos (by omega)]; decide
        · rw [if_neg (by omega), if_neg (by omega)]; decide
    rw [this]
  · simp only [h1, h2, decide_true, decide_false, cond_true, cond_false, joinB_inl]
    have : sgn x y = -1 := by unfold sgn; rw [if_pos (by omega)]
    rw [this]
  · simp only [h1, h2, decide_true, decide_false, cond_true, cond_false, joinB_inl]
    have : sgn x y = 1 := by unfold sgn; rw [if_neg (by omega), if_pos (by omega)]
    rw [this]
  · simp only [h1, h2, decide_false, cond_false, joinB_inl]
    have : sgn (x.natAbs : Int) y.natAbs = sgn x y := by
      rw [Int.natAbs_of_nonneg (by omega), Int.natAbs_of_nonneg (by omega)]
    rw [this]
theorem iAbs_ok {k : Nat} (hk : 20000000000 < k) {x : Int} (hx : x.natAbs < ilim) : integer_Abs k (iz x) = some (iz (x.natAbs : Int), 0, 0) := by
  unfold integer_Abs
  rw [check1 (by omega) hx]
  have := ilim_iff.2 hx
  simp only [Option.bind_some, bne_self_eq_false, cond_false, iz]
  rw [clone_ok (by omega)]
  simp only [Option.bind_some]
  have h := signed_ok (s := false) (v := (x.natAbs : Int)) (fun _ => by simp)
  rw [Int.natAbs_natCast] at h
  rw [h]
  unfold ires
  rw [if_pos (by rw [Int.natAbs_natCast]; exact hx)]
  rfl
theorem iNeg_ok {k : Nat} (hk : 20000000000 < k) {x : Int} (hx : x.natAbs < ilim) : integer_Neg k (iz x) = some (iz (-x), 0, 0) := by
  unfold integer_Neg
  rw [check1 (by omega) hx]
  have := ilim_iff.2 hx
  simp only [Option.bind_some, bne_self_eq_false, cond_false, iz]
  rw [clone_ok (by omega)]
  simp only [Option.bind_some]
  have h := signed_ok (s := !(iz x).1) (v := -x) (ineg_ZI x).2
  rw [Int.natAbs_neg] at h
  have h' : integer_signed (!decide (x < 0)) (dg 4294967296 x.natAbs) = some (ires (-x)) := h
  rw [h']
  unfold ires
  rw [if_pos (by omega)]
  rfl
theorem gcd_lt {x y : Int} (hx : x.natAbs < ilim) (hy : y.natAbs < ilim) : Nat.gcd x.natAbs y.natAbs < ilim := by
  rcases Nat.eq_zero_or_pos x.natAbs with h | h
  · rw [h, Nat.gcd_zero_left]; exact hy
  · have := Nat.gcd_le_left y.natAbs h; omega
theorem iGcd_ok {k : Nat} (hk : 20000000000 < k) {x y : Int} (hx : x.natAbs < ilim) (hy : y.natAbs < ilim) : integer_Gcd k (iz x) (iz y) = some (iz (Nat.gcd x.natAbs y.natAbs : Nat), 0, 0) := by
  unfold integer_Gcd
  rw [check2 (by omega) hx hy]
  simp only [Option.bind_some, bne_self_eq_false, cond_false, iz]
  rw [Gcd_ok (ilim_lim hx) (ilim_lim hy) hk]
  simp only [Option.bind_some]
  have h := signed_ok (s := false) (v := ((Nat.gcd x.natAbs y.natAbs : Nat) : Int)) (fun _ => by simp)
  rw [Int.natAbs_natCast] at h
  rw [h]
  unfold ires
  rw [if_pos (by rw [Int.natAbs_natCast]; exact gcd_lt hx hy)]
  rfl
theorem NoInt_ok (v : Int) : brindlewoodref3_NoInt (iz v) = some (decide (v = 0)) := by
  unfold brindlewoodref3_NoInt iz
  by_cases h : v = 0
  · subst h; rfl
  · have hp := (dg_len_pos (n := v.natAbs) hB32).2 (by omega)
    by_cases h1 : v < 0
    · simp [h1, h]
    · have e : (((dg 4294967296 v.natAbs).length : Int) == 0) = false := beq_f (by omega)
      simp only [h1, decide_false, Bool.not_false, cond_true, e, h]
theorem iz_inj {v w : Int} (h1 : (iz v).1 = (iz w).1) (h2 : (iz v).2 = (iz w).2) : v = w := by
  have h3 := dg_inj hB32 h2
  simp only [iz] at h1
  have h4 : (v < 0) ↔ (w < 0) := by simpa using h1
  omega
theorem SameInts_ok {k : Nat} (hk : 2000000001 < k) {v w : Int} (hv : v.natAbs < ilim) (hw : w.natAbs < ilim) : brindlewoodref3_SameInts k (iz v) (iz w) = some (decide (v = w)) := by
  unfold brindlewoodref3_SameInts
  have l1 := ilim_iff.2 hv
  have l2 := ilim_iff.2 hw
  rw [SameLimbs_ok (a := (iz v).2) (b := (iz w).2) (by show ((dg 4294967296 v.natAbs).length : Int) ≤ _; omega) (by show ((dg 4294967296 w.natAbs).length : Int) ≤ _; omega) (by omega)]
  by_cases h : v = w
  · subst h; simp
  · by_cases h1 : (iz v).1 = (iz w).1
    · have h2 : (iz v).2 ≠ (iz w).2 := fun h2 => h (iz_inj h1 h2)
      simp [h1, h2, h]
    · have h3 : ((iz v).1 == (iz w).1) = false := by simpa using h1
      rw [h3, decide_eq_false h]; rfl
theorem ires_ok {v : Int} (h : v.natAbs < ilim) : ires v = (iz v, 0, 0) := by unfold ires; rw [if_pos h]
theorem small_iz {x : Int} (h : ¬ (60 : Int) < ((iz x).2.length : Int)) : x.natAbs < 4294967296 ^ 60 := by
  have h2 : ((dg 4294967296 x.natAbs).length : Int) ≤ 60 := Int.not_lt.1 h
  exact (dg_len_iff hB32).1 (by omega)
theorem small_lim {p : Nat} (hp : p = 4294967296 ^ 60) : p * p * 4294967296 ≤ ilim ∧ p * 4294967296 ≤ ilim ∧ 2 ≤ p := by
  have h1 : p * p * 4294967296 = 4294967296 ^ (60 + 60 + 1) := by rw [hp, ← Nat.pow_add, ← Nat.pow_succ]
  have h2 : p * 4294967296 = 4294967296 ^ (60 + 1) := by rw [hp, ← Nat.pow_succ]
  have h3 : 4294967296 ^ 1 ≤ p := by rw [hp]; exact Nat.pow_le_pow_right (by decide) (by decide)
  have e := e128_eq
  refine ⟨?_, ?_, by omega⟩
  · rw [h1]; exact Nat.pow_le_pow_right (by decide) (by omega)
  · rw [h2]; exact Nat.pow_le_pow_right (by decide) (by omega)
end Go.Pl
