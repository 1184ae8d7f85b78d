/- IntegerPowersMultiply: its plain function answers true.  Conditions: limbs within their kind, lists no longer than memory. -/
import Derived.Test.YtpjcoihlcklncaaPiK
import Derived.Test.YtpjcoihlcklncaaPiI
set_option linter.unusedVariables false
set_option linter.unusedSimpArgs false
namespace Go.Pl
open Go Go.Ev Go.Sh

theorem iz_zero : iz 0 = (false, []) := rfl
theorem zero_ilim : (0 : Int).natAbs < ilim := ilim_iff.1 (by decide)
theorem SameInts_nil {k : Nat} (hk : 2000000001 < k) : brindlewoodref3_SameInts k (false, []) (false, []) = some true := by
  have := SameInts_ok (k := k) hk zero_ilim zero_ilim
  simpa [iz_zero] using this

theorem pow_le_abs {x : Int} {i j : Nat} (h : (x ^ (i + j)).natAbs < ilim) : (x ^ i).natAbs < ilim ∧ (x ^ j).natAbs < ilim := by
  have h1lim : (1 : Nat) < ilim := ilim_iff.1 (by decide)
  simp only [pow_abs] at h ⊢
  rcases Nat.eq_zero_or_pos x.natAbs with hz | hz
  · rw [hz]
    have key : ∀ n : Nat, (0 : Nat) ^ n < ilim := fun n => by
      rcases Nat.eq_zero_or_pos n with h | h
      · rw [h, Nat.pow_zero]; exact h1lim
      · rw [Nat.zero_pow h]; omega
    exact ⟨key _, key _⟩
  · have h1 := Nat.pow_le_pow_right (n := x.natAbs) hz (show i ≤ i + j by omega)
    have h2 := Nat.pow_le_pow_right (n := x.natAbs) hz (show j ≤ i + j by omega)
    omega

theorem iY_ok {k : Nat} (hk : 100000000000000 < k) (hc : brindlewoodlaw3_counts k = some true) {x m e g : Int} (hx : x.natAbs < ilim) (hm : m.natAbs < ilim) : brindlewoodlaw3_IntegerPowersMultiply k (iz x) e g (iz m) = some true := by
  unfold brindlewoodlaw3_IntegerPowersMultiply
  rw [hc, (faults_none (by omega) (by simp) (l := [iz x, iz m]) (by
    intro w hw
    simp only [List.mem_cons, List.not_mem_nil, or_false] at hw
    rcases hw with rfl | rfl
    · exact iz_valid hx
    · exact iz_valid hm)).2, NoInt_ok]
  simp only [Option.bind_some, Bool.not_true, cond_false, bne_self_eq_false]
  by_cases h1 : m < 0
  · have : (iz m).1 = true := decide_eq_true h1
    rw [this]; rfl
  have hm1 : (iz m).1 = false := decide_eq_false h1
  rw [hm1]
  by_cases h3 : m = 0
  · rw [decide_eq_true h3]; rfl
  rw [decide_eq_false h3]
  by_cases g1 : (60 : Int) < ((iz m).2.length : Int)
  · rw [dlt_t g1]; rfl
  rw [dlt_f (Int.not_lt.1 g1)]
  by_cases g2 : e < 0
  · rw [dlt_t g2]; rfl
  rw [dlt_f (Int.not_lt.1 g2)]
  by_cases g3 : g < 0
  · rw [dlt_t g3]; rfl
  rw [dlt_f (Int.not_lt.1 g3)]
  by_cases g4 : 5000 < e
  · rw [dlt_t g4]; rfl
  rw [dlt_f (Int.not_lt.1 g4)]
  by_cases g5 : 5000 < g
  · rw [dlt_t g5]; rfl
  rw [dlt_f (Int.not_lt.1 g5)]
  obtain ⟨i, rfl⟩ := Int.eq_ofNat_of_zero_le (show 0 ≤ e by omega)
  obtain ⟨j, rfl⟩ := Int.eq_ofNat_of_zero_le (show 0 ≤ g by omega)
  have hm0 : 0 < m := by omega
  have e1 : w64 ((i : Int) + (j : Int)) = ((i + j : Nat) : Int) := by rw [w64_id (by omega) (by omega)]; omega
  simp only [cond_false, joinB_inl, e1]
  have sm := small_iz g1
  obtain ⟨p, hp⟩ : ∃ p, p = 4294967296 ^ 60 := ⟨_, rfl⟩
  rw [← hp] at sm
  obtain ⟨p1, p2, p3⟩ := small_lim hp
  clear hp
  rw [iPow_ok (by omega) hx, iPow_ok (by omega) hx, iPow_ok (by omega) hx, if_neg (by omega), if_neg (by omega), if_neg (by omega)]
  simp only [Option.bind_some, Int.toNat_natCast]
  -- the end
  have small : ∀ n : Nat, (n : Int) ≤ 10000 → ((n : Int)).natAbs < ilim := fun n hn => i64_ilim (by omega) (by omega)
  have hOf : ∀ n : Nat, (n : Int) ≤ 10000 → integer_Of k (n : Int) = some (iz (n : Int)) := fun n hn => iOf_ok (by omega) (by omega) (by omega)
  have hPM : ∀ n : Nat, (n : Int) ≤ 10000 → integer_PowMod k (iz x) (iz (n : Int)) (iz m) = some (iz (x ^ n % m), 0, 0) := fun n hn => by
    rw [iPowMod_ok (by omega) hx (small n hn) hm, if_neg (by omega), if_neg (by omega), if_neg h3, Int.toNat_natCast]
  have l1 := Int.emod_nonneg (x ^ i) h3
  have l2 := Int.emod_lt_of_pos (x ^ i) hm0
  have l3 := Int.emod_nonneg (x ^ j) h3
  have l4 := Int.emod_lt_of_pos (x ^ j) hm0
  have q1 : (x ^ i % m).natAbs < ilim := by omega
  have q2 : (x ^ j % m).natAbs < ilim := by omega
  have q3 : (x ^ i % m * (x ^ j % m)).natAbs < ilim := by
    rw [Int.natAbs_mul]
    have a1 : (x ^ i % m).natAbs ≤ p := by omega
    have a2 : (x ^ j % m).natAbs ≤ p := by omega
    have a3 := Nat.mul_le_mul a1 a2
    have a4 : 0 < p * p := Nat.mul_pos (by omega) (by omega)
    generalize (x ^ i % m).natAbs * (x ^ j % m).natAbs = y at *
    generalize p * p = pp at *
    omega
  have q4 : (x ^ (i + j) % m).natAbs < ilim := by
    have l5 := Int.emod_nonneg (x ^ (i + j)) h3
    have l6 := Int.emod_lt_of_pos (x ^ (i + j)) hm0
    omega
  have hM := iMul_ok (k := k) (by omega) q1 q2
  have hD := iDivMod_ok (k := k) (by omega) q3 hm
  rw [if_neg h3, ir_emod hm0, ← Int.mul_emod, ← Int.pow_add] at hD
  rw [ires_ok q3] at hM
  have hS := SameInts_ok (k := k) (by omega) q4 q4
  have fin : ((integer_Of k (i : Int)).bind fun t12 => (integer_PowMod k (iz x) t12 (iz m)).bind fun t13 => (integer_Of k (j : Int)).bind fun t14 => (integer_PowMod k (iz x) t14 (iz m)).bind fun t15 => (integer_Of k (w64 ((i : Int) + (j : Int)))).bind fun t16 => (integer_PowMod k (iz x) t16 (iz m)).bind fun t17 => (integer_Mul k t13.1 t15.1).bind fun t18 => (integer_DivMod k t18.1 (iz m)).bind fun t19 => bif (t13.2.1 == 0) then (bif (t15.2.1 == 0) then (bif (t17.2.1 == 0) then (bif (t18.2.1 == 0) then (bif (t19.2.2.1 == 0) then ((brindlewoodref3_SameInts k t19.2.1 t17.1).bind fun t20 => some t20) else (some false)) else (some false)) else (some false)) else (some false)) else (some false)) = some true := by
    rw [hOf i (by omega), hOf j (by omega), e1, hOf (i + j) (by omega)]
    simp only [Option.bind_some]
    rw [hPM i (by omega), hPM j (by omega), hPM (i + j) (by omega)]
    simp only [Option.bind_some]
    rw [hM]
    simp only [Option.bind_some]
    rw [hD]
    simp only [Option.bind_some, beq_self_eq_true, cond_true]
    rw [hS]
    simp
  by_cases f1 : (x ^ i).natAbs < ilim
  · by_cases f2 : (x ^ j).natAbs < ilim
    · rw [ires_ok f1, ires_ok f2]
      have hMM := iMul_ok (k := k) (by omega) f1 f2
      rw [← Int.pow_add] at hMM
      simp only [beq_self_eq_true, cond_true, joinB_inl, hMM, Option.bind_some, Bool.and_self, Bool.not_true, cond_false]
      have hSS : brindlewoodref3_SameInts k (ires (x ^ (i + j))).1 (ires (x ^ (i + j))).1 = some true := by
        unfold ires
        by_cases f3 : (x ^ (i + j)).natAbs < ilim
        · rw [if_pos f3]
          have := SameInts_ok (k := k) (by omega) f3 f3
          simpa using this
        · rw [if_neg f3]
          exact SameInts_nil (by omega)
      rw [hSS]
      simp only [Option.bind_some, Bool.not_true, cond_false, joinB_inl]
      first
      | exact fin
      | (rw [e1] at fin; exact fin)
    · have f3 : ¬ (x ^ (i + j)).natAbs < ilim := fun h => f2 (pow_le_abs h).2
      rw [ires_ok f1]
      unfold ires
      rw [if_neg f2, if_neg f3]
      simp only [beq_self_eq_true, cond_true, joinB_inl]
      first
      | exact fin
      | (rw [e1] at fin; exact fin)
  · have f3 : ¬ (x ^ (i + j)).natAbs < ilim := fun h => f1 (pow_le_abs h).1
    have e2 : ires (x ^ i) = ((false, []), 14, -1) := by unfold ires; rw [if_neg f1]
    have e3 : ires (x ^ (i + j)) = ((false, []), 14, -1) := by unfold ires; rw [if_neg f3]
    rw [e2, e3]
    first
    | exact fin
    | (rw [e1] at fin; exact fin)

theorem integerPowersMultiply_plain {a m : Bool × List Int} {e g : Int} (ha : Wf IT a) (hm : Wf IT m) : brindlewoodlaw3_IntegerPowersMultiply 1000000000000000000 a e g m = some true := by
  have err : (∃ x ∈ [a, m], integer_Valid x = some false) → brindlewoodlaw3_IntegerPowersMultiply 1000000000000000000 a e g m = some true := by
    intro he
    obtain ⟨f, h1, h2, h3⟩ := faults_err (k := 1000000000000000000) (by decide) (two_valid (int_valid ha) (int_valid hm)) (by simp) he
    unfold brindlewoodlaw3_IntegerPowersMultiply
    rw [h2, counts_ok]
    simp only [Option.bind_some, Bool.not_true, cond_false, bne_t h3, cond_true]
    rfl
  rcases int_vals ha with ⟨x, hx, rfl, va⟩ | va
  · rcases int_vals hm with ⟨y, hy, rfl, vb⟩ | vb
    · exact iY_ok (by decide) counts_ok hx hy
    · exact err ⟨_, by simp, vb⟩
  · exact err ⟨_, by simp, va⟩
end Go.Pl
