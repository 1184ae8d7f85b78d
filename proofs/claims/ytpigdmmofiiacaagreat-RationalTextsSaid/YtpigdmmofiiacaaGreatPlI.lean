/- Digits put together.  Conditions: those that each theorem names. -/
import Derived.Test.YtpigdmmofiiacaaGreatPlG
set_option linter.unusedVariables false
set_option linter.unusedSimpArgs false
namespace Go.Pl
open Go Go.Ev Go.Sh
theorem hv_app {b : Nat} (l m : List Int) (v : Nat) : hv b (l ++ m) v = hv b m (hv b l v) := by
  induction l generalizing v with
  | nil => rfl
  | cons d l ih => simp only [List.cons_append, hv, ih]
theorem hv_rev {b : Nat} (hb : 2 ≤ b) : ∀ (x v : Nat), hv b (dg b x).reverse v = v * b ^ (dg b x).length + x := by
  intro x
  induction x using Nat.strongRecOn with
  | _ x ih =>
    intro v
    rcases Nat.eq_zero_or_pos x with h | h
    · subst h; simp [dg_zero, hv]
    · rw [dg_pos hb h, List.reverse_cons, hv_app, ih _ (Nat.div_lt_self h hb)]
      simp only [hv, natCast_toNat, List.length_cons, Nat.pow_succ]
      have := Nat.mod_add_div x b
      generalize x / b = q at *
      generalize x % b = r at *
      subst this
      generalize b ^ (dg b q).length = p
      grind
theorem badAt_none {b : Int} : ∀ (l : List Int) (i : Nat), (∀ d ∈ l, 0 ≤ d ∧ d < b) → badAt b l i = (0, 0) := by
  intro l
  induction l with
  | nil => intro i _; rfl
  | cons d l ih =>
    intro i h
    have := h d (by simp)
    simp only [badAt]
    rw [if_neg (by omega)]
    exact ih (i + 1) fun e he => h e (by simp [he])
theorem pow_len_le {b y : Nat} (hb : 2 ≤ b) : b ^ (dg b y).length ≤ b * y + 1 := by
  rcases Nat.eq_zero_or_pos y with h | h
  · subst h; simp [dg_zero]
  · have h1 := (dg_len_pos hb).2 h
    have : ¬ (dg b y).length ≤ (dg b y).length - 1 := by omega
    have h2 : ¬ y < b ^ ((dg b y).length - 1) := fun h' => this ((dg_len_iff hb).2 h')
    obtain ⟨m, hm⟩ : ∃ m, (dg b y).length = m + 1 := ⟨(dg b y).length - 1, by omega⟩
    rw [hm] at h2 ⊢
    rw [Nat.pow_succ, Nat.mul_comm]
    have := Nat.mul_le_mul_left b (Nat.le_of_not_lt h2)
    simp only [Nat.add_sub_cancel] at this
    omega
end Go.Pl
