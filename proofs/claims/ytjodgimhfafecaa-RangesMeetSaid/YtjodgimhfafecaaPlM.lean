/- The reference's greatest common divisor.  Conditions: those that each theorem names. -/
import Derived.Test.YtjodgimhfafecaaPlL
set_option linter.unusedVariables false
set_option linter.unusedSimpArgs false
namespace Go.Pl
open Go Go.Ev Go.Sh
theorem Double_l0 (k : Nat) {a : List Int} (ha : Dig 65536 a) (hbig : (a.length : Int) ≤ 1000000000) : ∀ (n i : Nat) (out : List Int) (c : Int), i ≤ a.length → a.length - i < n → out.length = i → Dig 65536 out → 0 ≤ c → c ≤ 1 →
    ∃ out' c', brindlewoodref3_Double.l0 k n a c out i = some (.inl (c', out')) ∧ out'.length = a.length ∧ Dig 65536 out' ∧ 0 ≤ c' ∧ c' ≤ 1 ∧ ev 65536 out' + (65536 : Int) ^ a.length * c' = ev 65536 out + (65536 : Int) ^ i * (c + 2 * ev 65536 (a.drop i)) := by
  intro n
  induction n with
  | zero => intro i out c _ h; omega
  | succ n ih =>
    intro i out c h1 h2 h3 hd c0 c1
    simp only [brindlewoodref3_Double.l0, brindlewoodref3_Double.b0]
    by_cases hi : i < a.length
    · have hx := ha.getD hi
      have e1 : w64 ((i : Int) + 1) = ((i + 1 : Nat) : Int) := by rw [w64_id (by omega) (by omega)]; omega
      rw [dlt_t (by omega), inR_t (by omega) (by omega), rd_nat, w64_id (n := 2 * a.getD i 0) (by omega) (by omega), w64_id (n := 2 * a.getD i 0 + c) (by omega) (by omega), e1]
      simp only [cond_true, List.length_singleton]
      rw [tmod_nn (by omega), tdiv_nn (by omega), fits_t (by omega), w64_id (by omega) (by omega)]
      simp only [cond_true]
      generalize hs : 2 * a.getD i 0 + c = s
      have hmd := Int.emod_add_mul_ediv s 65536
      obtain ⟨out', c', g1, g2, g3, g4, g5, g6⟩ := ih (i + 1) (out ++ [s % 65536]) (s / 65536) (by omega) (by omega) (by simp; omega) (hd.app (Dig.one (by omega) (by omega))) (by omega) (by omega)
      refine ⟨out', c', g1, g2, g3, g4, g5, ?_⟩
      rw [g6, ev_snoc, h3, drop_getD hi, ev_cons, Int.pow_succ]
      generalize (65536 : Int) ^ i = p
      generalize ev 65536 (a.drop (i + 1)) = u
      generalize a.getD i 0 = x at *
      grind
    · have e1 : i = a.length := by omega
      rw [dlt_f (by omega)]
      simp only [cond_false]
      refine ⟨out, c, rfl, by omega, hd, c0, c1, ?_⟩
      rw [e1, List.drop_length]; simp [ev]
theorem Double_ok {k x : Nat} (hx : ((dg 65536 x).length : Int) ≤ 100000000) (hk : 1000000001 < k) : brindlewoodref3_Double k (dg 65536 x) false = some (dg 65536 (2 * x)) := by
  unfold brindlewoodref3_Double
  simp only [cond_false, joinB_inl]
  obtain ⟨out, c, g1, g2, g3, g4, g5, g6⟩ := Double_l0 k (dd16 x) (by omega) k 0 [] 0 (by omega) (by omega) rfl Dig.nil (by omega) (by omega)
  have g1' : brindlewoodref3_Double.l0 k k (dg 65536 x) 0 [] 0 = some (.inl (c, out)) := g1
  rw [g1', joinB_inl]
  simp only [List.drop_zero, de16, Int.pow_zero, ev] at g6
  by_cases hc : 0 < c
  · rw [dlt_t hc]
    simp only [cond_true, List.length_singleton]
    rw [fits_t (by omega)]
    simp only [cond_true]
    exact trimmed (by simp; omega) (by simp; omega) (g3.app (Dig.one g4 (by omega))) (by rw [ev_snoc, g2, g6]; simp)
  · have : c = 0 := by omega
    subst this
    rw [dlt_f (by omega)]
    simp only [cond_false]
    exact trimmed (by omega) (by omega) g3 (by simp at g6; omega)
theorem Common_l1 (k : Nat) (hk : 1000000001 < k) : ∀ (m n x : Nat), n < m → ((dg 65536 x).length + n : Nat) ≤ 100000000 → brindlewoodref3_Common.l1 k m n (dg 65536 x) = some (.inl (dg 65536 (2 ^ n * x))) := by
  intro m
  induction m with
  | zero => intro n x h; omega
  | succ m ih =>
    intro n x hn hl
    simp only [brindlewoodref3_Common.l1, brindlewoodref3_Common.b1]
    rcases Nat.eq_zero_or_pos n with h | h
    · subst h; simp
    · have hlen : (dg 65536 (2 * x)).length ≤ (dg 65536 x).length + 1 := dg_len hB16 (by
        have := dg_lt (b := 65536) hB16 (n := x)
        rw [Nat.pow_succ]; omega)
      have e1 : w64 ((n : Int) - 1) = ((n - 1 : Nat) : Int) := by rw [w64_id (by omega) (by omega)]; omega
      rw [dlt_t (by omega), Double_ok (by omega) hk, e1]
      simp only [cond_true, Option.bind_some]
      rw [ih (n - 1) (2 * x) (by omega) (by omega)]
      obtain ⟨p, rfl⟩ : ∃ p, n = p + 1 := ⟨n - 1, by omega⟩
      rw [Nat.add_sub_cancel, Nat.pow_succ, Nat.mul_assoc]
def comM (x y : Nat) : Nat := 2 * ((dg 2 x).length + (dg 2 y).length) + (if x % 2 = 1 ∧ y % 2 = 1 then 1 else 0)
theorem len2_half {x : Nat} (h : 0 < x) : (dg 2 (x / 2)).length + 1 = (dg 2 x).length := by
  rw [dg_pos (b := 2) (by decide) h, List.length_cons]
theorem len2_mono {x y : Nat} (h : x ≤ y) : (dg 2 x).length ≤ (dg 2 y).length := len_le_of_le (by decide) h
theorem even_dg {x : Nat} (h : 0 < x) : ((Int.tmod (rd (dg 65536 x) 0) 2) == 0) = decide (x % 2 = 0) := by
  have e : rd (dg 65536 x) 0 = ((x % 65536 : Nat) : Int) := by
    have := dg_getD (b := 65536) hB16 0 x
    simpa using this
  rw [e, tmod_nn (by omega)]
  by_cases h2 : x % 2 = 0
  · rw [beq_t (by omega)]; simp [h2]
  · rw [beq_f (by omega)]; simp [h2]
theorem Common_l0 (k : Nat) (hk : 100000000000000 < k) : ∀ (m x y t : Nat), comM x y < m → ((dg 65536 x).length : Int) ≤ 100000 → ((dg 65536 y).length : Int) ≤ 100000 → t + comM x y ≤ 100000000 →
    ∃ x' y' t' : Nat, brindlewoodref3_Common.l0 k m (dg 65536 x) (dg 65536 y) t = some (.inl (dg 65536 x', dg 65536 y', (t' : Int))) ∧ (x' = 0 ∨ y' = 0) ∧ 2 ^ t' * Nat.gcd x' y' = 2 ^ t * Nat.gcd x y ∧ t' ≤ t + comM x y ∧ x' ≤ x ∧ y' ≤ y := by
  intro m
  induction m with
  | zero => intro x y t h; omega
  | succ m ih =>
    intro x y t hm hx hy ht
    simp only [brindlewoodref3_Common.l0, brindlewoodref3_Common.b0]
    rcases Nat.eq_zero_or_pos x with h0 | h0
    · subst h0
      exact ⟨0, y, t, rfl, .inl rfl, rfl, by omega, Nat.le_refl _, Nat.le_refl _⟩
    · have px := (dg_len_pos hB16).2 h0
      rw [dlt_t (by omega)]
      rcases Nat.eq_zero_or_pos y with h1 | h1
      · subst h1
        refine ⟨x, 0, t, ?_, .inr rfl, rfl, by omega, Nat.le_refl _, Nat.le_refl _⟩
        rw [dg_zero]; rfl
      · have py := (dg_len_pos hB16).2 h1
        have hxh := len2_half h0
        have hyh := len2_half h1
        have hx2 : (dg 65536 (x / 2)).length ≤ (dg 65536 x).length := len_le_of_le hB16 (Nat.div_le_self _ _)
        have hy2 : (dg 65536 (y / 2)).length ≤ (dg 65536 y).length := len_le_of_le hB16 (Nat.div_le_self _ _)
        have e1 : w64 ((t : Int) + 1) = ((t + 1 : Nat) : Int) := by rw [w64_id (by omega) (by omega)]; omega
        have hHx := Halve_ok (k := k) (x := x) (d := 2) (by decide) (by decide) (by omega) hk
        have hHy := Halve_ok (k := k) (x := y) (d := 2) (by decide) (by decide) (by omega) hk
        rw [dlt_t (by omega), inR_t (by omega) (by omega), even_dg h0]
        simp only [cond_true]
        by_cases ex : x % 2 = 0
        · have ex' : decide (x % 2 = 0) = true := decide_eq_true ex
          rw [ex', inR_t (by omega) (by omega), even_dg h1]
          simp only [cond_true, joinB_inl]
          have hxx : 2 * (x / 2) = x := by omega
          by_cases ey : y % 2 = 0
          · have ey' : decide (y % 2 = 0) = true := decide_eq_true ey
            have hyy : 2 * (y / 2) = y := by omega
            have hM : comM (x / 2) (y / 2) + 1 ≤ comM x y := by unfold comM; split <;> split <;> omega
            rw [ey', e1]
            simp only [cond_true]
            have hHx' : brindlewoodref3_Halve k (dg 65536 x) 2 = _ := hHx
            have hHy' : brindlewoodref3_Halve k (dg 65536 y) 2 = _ := hHy
            rw [hHx', hHy']
            simp only [Option.bind_some]
            obtain ⟨x', y', t', g1, g2, g3, g4, g5, g6⟩ := ih (x / 2) (y / 2) (t + 1) (by omega) (by omega) (by omega) (by omega)
            refine ⟨x', y', t', g1, g2, ?_, by omega, by omega, by omega⟩
            rw [g3, Nat.pow_succ, Nat.mul_assoc, ← Nat.gcd_mul_left, hxx, hyy]
          · have ey' : decide (y % 2 = 0) = false := decide_eq_false ey
            have hM : comM (x / 2) y + 1 ≤ comM x y := by unfold comM; split <;> split <;> omega
            rw [ey']
            simp only [cond_false]
            have hHx' : brindlewoodref3_Halve k (dg 65536 x) 2 = _ := hHx
            rw [inR_t (by omega) (by omega), even_dg h0, ex', hHx']
            simp only [cond_true, Option.bind_some]
            obtain ⟨x', y', t', g1, g2, g3, g4, g5, g6⟩ := ih (x / 2) y t (by omega) (by omega) (by omega) (by omega)
            refine ⟨x', y', t', g1, g2, ?_, by omega, by omega, by omega⟩
            have hco : Nat.Coprime 2 y := by
              rw [Nat.Coprime, Nat.gcd_rec]
              have : y % 2 = 1 := by omega
              rw [this]; decide
            have h3 : Nat.gcd (2 * (x / 2)) y = Nat.gcd (x / 2) y := Nat.Coprime.gcd_mul_left_cancel _ hco
            rw [hxx] at h3
            rw [g3, h3]
        · have ex' : decide (x % 2 = 0) = false := decide_eq_false ex
          rw [ex']
          simp only [cond_false, joinB_inl]
          rw [inR_t (by omega) (by omega), even_dg h0, ex', inR_t (by omega) (by omega), even_dg h1]
          simp only [cond_true, cond_false]
          by_cases ey : y % 2 = 0
          · have ey' : decide (y % 2 = 0) = true := decide_eq_true ey
            have hyy : 2 * (y / 2) = y := by omega
            have hM : comM x (y / 2) + 1 ≤ comM x y := by unfold comM; split <;> split <;> omega
            have hHy' : brindlewoodref3_Halve k (dg 65536 y) 2 = _ := hHy
            rw [ey', hHy']
            simp only [cond_true, Option.bind_some]
            obtain ⟨x', y', t', g1, g2, g3, g4, g5, g6⟩ := ih x (y / 2) t (by omega) (by omega) (by omega) (by omega)
            refine ⟨x', y', t', g1, g2, ?_, by omega, by omega, by omega⟩
            have hco : Nat.Coprime 2 x := by
              rw [Nat.Coprime, Nat.gcd_rec]
              have : x % 2 = 1 := by omega
              rw [this]; decide
            have h3 : Nat.gcd x (2 * (y / 2)) = Nat.gcd x (y / 2) := Nat.Coprime.gcd_mul_left_cancel_right _ hco
            rw [hyy] at h3
            rw [g3, h3]
          · have ey' : decide (y % 2 = 0) = false := decide_eq_false ey
            rw [ey', Compare_ok (by omega) (by omega) (by omega)]
            simp only [cond_false, Option.bind_some]
            by_cases hle : y ≤ x
            · have hs : 0 ≤ sgn (x : Int) y := by unfold sgn; rw [if_neg (by omega)]; split <;> omega
              have hl := len2_mono (show x - y ≤ x by omega)
              have hl16 : (dg 65536 (x - y)).length ≤ (dg 65536 x).length := len_le_of_le hB16 (by omega)
              have hM : comM (x - y) y + 1 ≤ comM x y := by
                unfold comM
                rw [if_neg (by omega), if_pos (by omega)]; omega
              rw [dle_t hs, Minus_ok hle (by omega) (by omega)]
              simp only [cond_true, Option.bind_some]
              obtain ⟨x', y', t', g1, g2, g3, g4, g5, g6⟩ := ih (x - y) y t (by omega) (by omega) (by omega) (by omega)
              refine ⟨x', y', t', g1, g2, ?_, by omega, by omega, by omega⟩
              rw [g3, Nat.gcd_sub_self_left hle]
            · have hs : sgn (x : Int) y < 0 := by unfold sgn; rw [if_pos (by omega)]; decide
              have hl := len2_mono (show y - x ≤ y by omega)
              have hl16 : (dg 65536 (y - x)).length ≤ (dg 65536 y).length := len_le_of_le hB16 (by omega)
              have hM : comM x (y - x) + 1 ≤ comM x y := by
                unfold comM
                rw [if_neg (by omega), if_pos (by omega)]; omega
              rw [dle_f hs, Minus_ok (x := y) (y := x) (by omega) (by omega) (by omega)]
              simp only [cond_false, Option.bind_some]
              obtain ⟨x', y', t', g1, g2, g3, g4, g5, g6⟩ := ih x (y - x) t (by omega) (by omega) (by omega) (by omega)
              refine ⟨x', y', t', g1, g2, ?_, by omega, by omega, by omega⟩
              rw [g3, Nat.gcd_comm x (y - x), Nat.gcd_sub_self_left (by omega), Nat.gcd_comm y x]
theorem len2_le16 (y : Nat) : (dg 2 y).length ≤ 16 * (dg 65536 y).length := by
  apply dg_len (by decide)
  have h := dg_lt (b := 65536) hB16 (n := y)
  have e : (2 : Nat) ^ (16 * (dg 65536 y).length) = 65536 ^ (dg 65536 y).length := by rw [Nat.pow_mul]
  rw [e]; exact h
theorem Common_ok {k x y : Nat} (hx : ((dg 65536 x).length : Int) ≤ 100000) (hy : ((dg 65536 y).length : Int) ≤ 100000) (hk : 100000000000000 < k) : brindlewoodref3_Common k (dg 65536 x) (dg 65536 y) = some (dg 65536 (Nat.gcd x y)) := by
  unfold brindlewoodref3_Common
  have h1 := len2_le16 x
  have h2 := len2_le16 y
  have hM : comM x y ≤ 10000000 := by unfold comM; split <;> omega
  obtain ⟨x', y', t', g1, g2, g3, g4, g5, g6⟩ := Common_l0 k hk k x y 0 (by omega) hx hy (by omega)
  have g1' : brindlewoodref3_Common.l0 k k (dg 65536 x) (dg 65536 y) 0 = _ := g1
  have l1 : (dg 65536 x').length ≤ (dg 65536 x).length := len_le_of_le hB16 g5
  have l2 : (dg 65536 y').length ≤ (dg 65536 y).length := len_le_of_le hB16 g6
  rw [g1', joinB_inl]
  simp only
  rw [Plus_ok (by omega) (by omega) (by omega)]
  simp only [Option.bind_some]
  have hg : x' + y' = Nat.gcd x' y' := by
    rcases g2 with h | h
    · subst h; simp
    · subst h; simp
  have l3 : (dg 65536 (x' + y')).length ≤ (dg 65536 x).length + (dg 65536 y).length := by
    rcases g2 with h | h
    · subst h; rw [Nat.zero_add]; omega
    · subst h; rw [Nat.add_zero]; omega
  rw [Common_l1 k (by omega) k t' (x' + y') (by omega) (by omega), joinB_inl, hg, g3]
  simp
end Go.Pl
