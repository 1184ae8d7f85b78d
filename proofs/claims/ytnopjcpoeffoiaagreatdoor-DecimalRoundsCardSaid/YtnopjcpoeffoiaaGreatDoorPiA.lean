/- Integers: signs and limbs; what the functions of package integer and the reference answer on them.  Conditions: those that each theorem names. -/
import Derived.Test.YtnopjcpoeffoiaaGreatDoorPlE
set_option linter.unusedVariables false
set_option linter.unusedSimpArgs false
namespace Go.Pl
open Go Go.Ev Go.Sh
def iz (v : Int) : Bool × List Int := (decide (v < 0), dg 4294967296 v.natAbs)
theorem e128_ex : ∃ e : Nat, e = 128 := ⟨_, rfl⟩
noncomputable def e128 : Nat := Classical.choose e128_ex
theorem e128_eq : e128 = 128 := Classical.choose_spec e128_ex
noncomputable def ilim : Nat := 4294967296 ^ e128
theorem ilim_iff {n : Nat} : (dg 4294967296 n).length ≤ 128 ↔ n < ilim := by rw [← e128_eq]; exact dg_len_iff hB32
theorem ilim_lim {n : Nat} (h : n < ilim) : n < lim := lim_iff.1 (by have := ilim_iff.2 h; omega)
theorem rIntOk (a : Bool × List Int) : brindlewoodref3_IntOk a = integer_Valid a := rfl
theorem iValid_nil (b : Bool) : integer_Valid (b, []) = some (!b) := by cases b <;> rfl
theorem iValid_pos {b : Bool} {l : List Int} (h0 : 0 < l.length) (hb : (l.length : Int) ≤ 1000000000000000000) : integer_Valid (b, l) = some (decide (l.length ≤ 128) && decide (l.getLast? ≠ some 0)) := by
  unfold integer_Valid
  rcases List.eq_nil_or_concat l with rfl | ⟨m, x, rfl⟩
  · simp at h0
  · simp only [List.concat_eq_append, List.length_append, List.length_singleton] at hb ⊢
    have e1 : w64 (((m.length + 1 : Nat) : Int) - 1) = m.length := by rw [w64_id (by omega) (by omega)]; omega
    have hr : rd (m ++ [x]) (m.length : Int) = x := by simp [Ev.rd]
    by_cases h1 : m.length + 1 ≤ 128
    · rw [dle_t (by omega)]
      simp (disch := omega) only [cond_true, beq_f, cond_false, dlt_t, e1, inR_t, hr]
      by_cases hx : x = 0
      · subst hx; simp [h1]
      · rw [bne_t hx]; simp [h1, hx]
    · rw [dle_f (by omega)]
      simp [h1]
theorem int_cases {a : Bool × List Int} (hd : Dig 4294967296 a.2) (hb : (a.2.length : Int) ≤ 1000000000000000000) : (∃ v : Int, v.natAbs < ilim ∧ a = iz v ∧ integer_Valid a = some true) ∨ integer_Valid a = some false := by
  obtain ⟨s, l⟩ := a
  replace hd : Dig 4294967296 l := hd
  replace hb : (l.length : Int) ≤ 1000000000000000000 := hb
  rcases Nat.eq_zero_or_pos l.length with h | h
  · have hl : l = [] := List.length_eq_zero_iff.1 h
    subst hl
    rw [iValid_nil]
    cases s with
    | false => exact .inl ⟨0, ilim_iff.1 (by decide), rfl, rfl⟩
    | true => exact .inr rfl
  · rw [iValid_pos h hb]
    by_cases hv : l.length ≤ 128 ∧ l.getLast? ≠ some 0
    · left
      obtain ⟨n, hn⟩ := valid_dg hB32 hd hv.2
      have hn0 : 0 < n := by
        rcases Nat.eq_zero_or_pos n with h0 | h0
        · subst h0; rw [hn, dg_zero] at h; simp at h
        · exact h0
      have hlim : n < ilim := ilim_iff.1 (by rw [← hn]; exact hv.1)
      cases s with
      | false =>
        refine ⟨(n : Int), by simpa using hlim, ?_, by simp [hv.1, hv.2]⟩
        unfold iz
        rw [show decide ((n : Int) < 0) = false by simp, Int.natAbs_natCast, hn]
      | true =>
        refine ⟨-(n : Int), by simpa using hlim, ?_, by simp [hv.1, hv.2]⟩
        unfold iz
        rw [show decide (-(n : Int) < 0) = true by simp; omega, Int.natAbs_neg, Int.natAbs_natCast, hn]
    · right
      have : (decide (l.length ≤ 128) && decide (l.getLast? ≠ some 0)) = false := by
        rw [Bool.and_eq_false_iff]
        by_cases h1 : l.length ≤ 128
        · right; exact decide_eq_false fun h2 => hv ⟨h1, h2⟩
        · left; exact decide_eq_false h1
      rw [this]
abbrev IT : Ty := .st (.pair .bool (.list (.int .u32)))
end Go.Pl
