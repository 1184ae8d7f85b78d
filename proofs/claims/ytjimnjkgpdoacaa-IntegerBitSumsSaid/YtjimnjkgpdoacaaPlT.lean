/- Shifts.  Conditions: those that each theorem names. -/
import Derived.Test.YtjimnjkgpdoacaaPlN
set_option linter.unusedVariables false
set_option linter.unusedSimpArgs false
namespace Go.Pl
open Go Go.Ev Go.Sh
theorem Shift_ok {k x : Nat} {n : Int} (hx : x < lim) (hk : 20000000000 < k) (hn : -9223372036854775808 ≤ n) (hn' : n ≤ 9223372036854775807) : natural_Shift k (dg 4294967296 x) n = some (if x = 0 ∨ n ≤ 19200 - (dg 2 x).length then (dg 4294967296 (moved x n), 0, 0) else ([], 14, -1)) := by
  unfold natural_Shift
  have l1 := len600 hx
  have l2 := bl_lim hx
  rw [Bits_ok hx]
  simp only [Option.bind_some, bne_self_eq_false, cond_false]
  rcases Nat.eq_zero_or_pos x with h | h
  · subst h
    have : moved 0 n = 0 := by unfold moved; split <;> simp
    rw [if_pos (.inl rfl), this]
    rfl
  · have hb := (dg_len_pos (b := 2) (by decide)).2 h
    rw [beq_f (by omega)]
    simp only [cond_false, joinB_inl]
    rw [w64_id (n := 0 - _) (by omega) (by omega), w64_id (n := 19200 - _) (by omega) (by omega)]
    by_cases h1 : n ≤ 0 - ((dg 2 x).length : Int)
    · have : moved x n = 0 := by
        unfold moved
        rw [if_pos (by omega)]
        exact div_big (by omega)
      rw [dle_t h1, if_pos (.inr (by omega)), this]
      rfl
    · rw [dle_f (by omega)]
      simp only [cond_false]
      by_cases h2 : 19200 - ((dg 2 x).length : Int) < n
      · rw [dlt_t h2, if_neg (by omega)]
        rfl
      · rw [dlt_f (by omega), if_pos (.inr (by omega))]
        simp only [cond_false]
        by_cases h3 : n < 0
        · have e : w64 (0 - n) = (((-n).toNat : Nat) : Int) := by rw [w64_id (by omega) (by omega)]; omega
          rw [dlt_t h3, e, right_ok (dd32 x) (de32 x) (by omega) (by omega) (by omega)]
          simp only [cond_true, Option.bind_some]
          unfold moved
          rw [if_pos h3]
        · obtain ⟨m, rfl⟩ := Int.eq_ofNat_of_zero_le (a := n) (by omega)
          rw [dlt_f (by omega), left_ok (by omega) (by omega) (by omega)]
          simp only [cond_false, Option.bind_some]
          unfold moved
          rw [if_neg h3, natCast_toNat]
theorem Shift_no {k : Nat} {a : List Int} {n : Int} (h : natural_Valid a = some false) : natural_Shift k a n = some ([], 6, -1) := by
  unfold natural_Shift
  rw [Bits_no h]; rfl
end Go.Pl
