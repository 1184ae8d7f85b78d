/- The reference's division and square roots.  Conditions: those that each theorem names. -/
import Derived.Test.YtnopjcpoeffoiaaGreatDoorPlM
import Derived.Test.YtnopjcpoeffoiaaGreatDoorPlN
set_option linter.unusedVariables false
set_option linter.unusedSimpArgs false
namespace Go.Pl
open Go Go.Ev Go.Sh
theorem Double_ok' {k x : Nat} (b : Nat) (hb : b ≤ 1) (hx : ((dg 65536 x).length : Int) ≤ 100000000) (hk : 1000000001 < k) : brindlewoodref3_Double k (dg 65536 x) (isOne b) = some (dg 65536 (2 * x + b)) := by
  unfold brindlewoodref3_Double
  have e : (bif isOne (b : Int) then (some (.inl (dg 65536 x, 1))) else (some (.inl (dg 65536 x, 0))) : Option ((List Int × Int) ⊕ List Int)) = some (.inl (dg 65536 x, (b : Int))) := by
    rcases (show b = 0 ∨ b = 1 by omega) with rfl | rfl <;> rfl
  rw [e]
  simp only [joinB_inl]
  obtain ⟨out, c, g1, g2, g3, g4, g5, g6⟩ := Double_l0 k (dd16 x) (by omega) k 0 [] b (by omega) (by omega) rfl Dig.nil (by omega) (by omega)
  have g1' : brindlewoodref3_Double.l0 k k (dg 65536 x) b [] 0 = some (.inl (c, out)) := g1
  rw [g1', joinB_inl]
  simp only [List.drop_zero, de16, Int.pow_zero, ev] at g6
  by_cases hc : 0 < c
  · rw [dlt_t hc]
    simp only [cond_true, List.length_singleton]
    rw [fits_t (by omega)]
    simp only [cond_true]
    exact trimmed (by simp; omega) (by simp; omega) (g3.app (Dig.one g4 (by omega))) (by rw [ev_snoc, g2, g6]; simp; omega)
  · have : c = 0 := by omega
    subst this
    rw [dlt_f (by omega)]
    simp only [cond_false]
    exact trimmed (by omega) (by omega) g3 (by simp at g6; omega)
theorem rdB_isOne {M : List Int} {i : Nat} (h : i < M.length) : rdB (M.map isOne) (i : Int) = isOne (M.getD i 0) := by
  simp only [Ev.rdB, natCast_toNat, List.getD_eq_getElem?_getD, List.getElem?_map, List.getElem?_eq_getElem h]; rfl
theorem set_rep (p : Nat) (b c : Bool) (l : List Bool) : (List.replicate p false ++ c :: l).set p b = List.replicate p false ++ b :: l := by
  rw [List.set_append]
  simp
theorem rep_succ (p : Nat) (l : List Bool) : List.replicate (p + 1) false ++ l = List.replicate p false ++ false :: l := by
  rw [List.replicate_succ']; simp
theorem Divide_l0 (k : Nat) (hk : 10000000001 < k) {M : List Int} (hM : Dig 2 M) {y : Nat} (hy : 0 < y) (hyl : ((dg 65536 y).length : Int) ≤ 1000000) (hMl : (M.length : Int) ≤ 100000000) : ∀ (m j : Nat) (Q : List Int) (q r u : Nat), j < m → j ≤ M.length → Q.length = M.length - j → Dig 2 Q → ev 2 Q = q → ev 2 (M.drop j) = u → u = q * y + r → r < y →
    ∃ Q' q' r', brindlewoodref3_Divide.l0 k m (dg 65536 y) (M.map isOne) (List.replicate j false ++ Q.map isOne) (dg 65536 r) ((j : Int) - 1) = some (.inl (Q'.map isOne, dg 65536 r')) ∧ Q'.length = M.length ∧ Dig 2 Q' ∧ ev 2 Q' = (q' : Nat) ∧ ev 2 M = ((q' * y + r' : Nat) : Int) ∧ r' < y := by
  intro m
  induction m with
  | zero => intro j Q q r u h; omega
  | succ m ih =>
    intro j Q q r u h1 h2 h3 hd hq hu he hr
    simp only [brindlewoodref3_Divide.l0, brindlewoodref3_Divide.b0]
    rcases Nat.eq_zero_or_pos j with h0 | h0
    · subst h0
      rw [dle_f (by omega)]
      refine ⟨Q, q, r, ?_, by omega, hd, hq, ?_, hr⟩
      · simp
      · rw [List.drop_zero] at hu; rw [hu, he]
    · obtain ⟨p, rfl⟩ : ∃ p, j = p + 1 := ⟨j - 1, by omega⟩
      have e1 : (((p + 1 : Nat) : Int) - 1) = (p : Int) := by omega
      have e2 : w64 ((p : Int) - 1) = (p : Int) - 1 := w64_id (by omega) (by omega)
      have hb := hM.getD (i := p) (by omega)
      obtain ⟨b, hbe⟩ := Int.eq_ofNat_of_zero_le hb.1
      have hb1 : b ≤ 1 := by omega
      have hlr : (dg 65536 r).length ≤ (dg 65536 y).length := len_le_of_le hB16 (by omega)
      have hlr2 : (dg 65536 (2 * r + b)).length ≤ (dg 65536 y).length + 1 := by
        apply dg_len hB16
        have := dg_lt (b := 65536) hB16 (n := y)
        rw [Nat.pow_succ]
        generalize 65536 ^ (dg 65536 y).length = z at *
        omega
      have hu' : ev 2 (M.drop p) = ((2 * u + b : Nat) : Int) := by
        rw [drop_getD (by omega), ev_cons, hu, hbe]; omega
      rw [e1, dle_t (by omega), inR_t (by omega) (by simp; omega), rdB_isOne (by omega), hbe, e2]
      simp only [cond_true]
      rw [Double_ok' b hb1 (by omega) (by omega)]
      simp only [Option.bind_some]
      rw [Compare_ok (by omega) (by omega) (by omega)]
      simp only [Option.bind_some]
      rw [rep_succ]
      by_cases hc : y ≤ 2 * r + b
      · have hs : 0 ≤ sgn ((2 * r + b : Nat) : Int) (y : Int) := by unfold sgn; rw [if_neg (by omega)]; split <;> decide
        rw [dle_t hs, Minus_ok hc (by omega) (by omega)]
        simp only [Option.bind_some, cond_true, natCast_toNat]
        rw [inR_t (by omega) (by simp; omega), set_rep]
        simp only [cond_true]
        obtain ⟨Q', q', r', g1, g2, g3, g4, g5, g6⟩ := ih p (1 :: Q) (2 * q + 1) (2 * r + b - y) (2 * u + b) (by omega) (by omega) (by simp; omega) (Dig.cons (by omega) (by omega) hd) (by rw [ev_cons, hq]; omega) hu' (by
            rw [he, Nat.add_mul, Nat.mul_add, Nat.mul_assoc]; omega) (by omega)
        exact ⟨Q', q', r', g1, g2, g3, g4, g5, g6⟩
      · have hs : sgn ((2 * r + b : Nat) : Int) (y : Int) < 0 := by unfold sgn; rw [if_pos (by omega)]; decide
        rw [dle_f hs]
        simp only [cond_false]
        obtain ⟨Q', q', r', g1, g2, g3, g4, g5, g6⟩ := ih p (0 :: Q) (2 * q) (2 * r + b) (2 * u + b) (by omega) (by omega) (by simp; omega) (Dig.cons (by omega) (by omega) hd) (by rw [ev_cons, hq]; omega) hu' (by
            rw [he, Nat.mul_add, Nat.mul_assoc]; omega) (by omega)
        exact ⟨Q', q', r', g1, g2, g3, g4, g5, g6⟩
theorem Divide_ok {k x y : Nat} (hk : 10000000001 < k) (hx : ((dg 65536 x).length : Int) ≤ 100000) (hy : ((dg 65536 y).length : Int) ≤ 100000) (hy0 : 0 < y) : brindlewoodref3_Divide k (dg 65536 x) (dg 65536 y) = some (dg 65536 (x / y), dg 65536 (x % y)) := by
  unfold brindlewoodref3_Divide
  have l2 := len2_le16 x
  rw [Ones_ok (by omega) (by omega)]
  simp only [Option.bind_some, List.length_map, natCast_toNat]
  rw [dle_t (by omega), dle_t (by omega), fits_t (by omega), w64_id (by omega) (by omega)]
  simp only [Bool.and_self, cond_true]
  obtain ⟨Q, q, r, g1, g2, g3, g4, g5, g6⟩ := Divide_l0 k hk (dd2 x) hy0 (by omega) (by omega) k (dg 2 x).length [] 0 0 0 (by omega) (by omega) (by simp) Dig.nil rfl (by rw [List.drop_length]; rfl) (by simp) hy0
  have g1' : brindlewoodref3_Divide.l0 k k (dg 65536 y) ((dg 2 x).map isOne) (List.replicate (dg 2 x).length false) [] (((dg 2 x).length : Int) - 1) = some (.inl (Q.map isOne, dg 65536 r)) := by
    have : List.replicate (dg 2 x).length false ++ ([] : List Int).map isOne = List.replicate (dg 2 x).length false := by simp
    rw [← this, ← g1]; rfl
  have e1 : ((List.map isOne (dg 2 x)).length : Int) = (dg 2 x).length := by rw [List.length_map]
  rw [g1', joinB_inl, Binary_ok g3 g4 (by omega) (by omega)]
  rw [de2] at g5
  have g5' : x = q * y + r := by omega
  have hq : x / y = q := by rw [g5', Nat.mul_comm, Nat.mul_add_div hy0, Nat.div_eq_of_lt g6]; rfl
  have hr : x % y = r := by rw [g5', Nat.mul_comm, Nat.mul_add_mod, Nat.mod_eq_of_lt g6]
  rw [hq, hr]; rfl
end Go.Pl
