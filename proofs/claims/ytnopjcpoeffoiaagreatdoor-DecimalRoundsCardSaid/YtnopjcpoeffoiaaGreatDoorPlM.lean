/- The reference's greatest common divisor.  Conditions: those that each theorem names. -/
import Derived.Test.YtnopjcpoeffoiaaGreatDoorPlL
set_option linter.unusedVariables false
set_option linter.unusedSimpArgs false
namespace Go.Pl
open Go Go.Ev Go.Sh
theorem Double_l0 (k : Nat) {a : List Int} (ha : Dig 65536 a) (hbig : (a.length : Int) ≤ 1000000000) : ∀ (n i : Nat) (out : List Int) (c : Int), i ≤ a.length → a.length - i < n → out.length = i → Dig 65536 out → 0 ≤ c → c ≤ 1 →
    ∃ out' c', brindlewoodref3_Double.l0 k n a c out i = some (.inl (c', out')) ∧ out'.length = a.length ∧ Dig 65536 out' ∧ 0 ≤ c' ∧ c' ≤ 1 ∧ ev 65536 out' + (65536 : Int) ^ a.length * c' = ev 65536 out + (65536 : Int) ^ i * (c + 2 * ev 65536 (a.drop i)) := by
  intro n
  induction n with
  | zero => intro i out c _ h; omega
  | succ n ih =>
    intro i out c h1 h2 h3 hd c0 c1
    simp only [brindlewoodref3_Double.l0, brindlewoodref3_Double.b0]
    by_cases hi : i < a.length
    · have hx := ha.getD hi
      have e1 : w64 ((i : Int) + 1) = ((i + 1 : Nat) : Int) := by rw [w64_id (by omega) (by omega)]; omega
      rw [dlt_t (by omega), inR_t (by omega) (by omega), rd_nat, w64_id (n := 2 * a.getD i 0) (by omega) (by omega), w64_id (n := 2 * a.getD i 0 + c) (by omega) (by omega), e1]
      simp only [cond_true, List.length_singleton]
      rw [tmod_nn (by omega), tdiv_nn (by omega), fits_t (by omega), w64_id (by omega) (by omega)]
      simp only [cond_true]
      generalize hs : 2 * a.getD i 0 + c = s
      have hmd := Int.emod_add_mul_ediv s 65536
      obtain ⟨out', c', g1, g2, g3, g4, g5, g6⟩ := ih (i + 1) (out ++ [s % 65536]) (s / 65536) (by omega) (by omega) (by simp; omega) (hd.app (Dig.one (by omega) (by omega))) (by omega) (by omega)
      refine ⟨out', c', g1, g2, g3, g4, g5, ?_⟩
      rw [g6, ev_snoc, h3, drop_getD hi, ev_cons, Int.pow_succ]
      generalize (65536 : Int) ^ i = p
      generalize ev 65536 (a.drop (i + 1)) = u
      generalize a.getD i 0 = x at *
      grind
    · have e1 : i = a.length := by omega
      rw [dlt_f (by omega)]
      simp only [cond_false]
      refine ⟨out, c, rfl, by omega, hd, c0, c1, ?_⟩
      rw [e1, List.drop_length]; simp [ev]
theorem Double_ok {k x : Nat} (hx : ((dg 65536 x).length : Int) ≤ 100000000) (hk : 1000000001 < k) : brindlewoodref3_Double k (dg 65536 x) false = some (dg 65536 (2 * x)) := by
  unfold brindlewoodref3_Double
  simp only [cond_false, joinB_inl]
  obtain ⟨out, c, g1, g2, g3, g4, g5, g6⟩ := Double_l0 k (dd16 x) (by omega) k 0 [] 0 (by omega) (by omega) rfl Dig.nil (by omega) (by omega)
  have g1' : brindlewoodref3_Double.l0 k k (dg 65536 x) 0 [] 0 = some (.inl (c, out)) := g1
  rw [g1', joinB_inl]
  simp only [List.drop_zero, de16, Int.pow_zero, ev] at g6
  by_cases hc : 0 < c
  · rw [dlt_t hc]
    simp only [cond_true, List.length_singleton]
    rw [fits_t (by omega)]
    simp only [cond_true]
    exact trimmed (by simp; omega) (by simp; omega) (g3.app (Dig.one g4 (by omega))) (by rw [ev_snoc, g2, g6]; simp)
  · have : c = 0 := by omega
    subst this
    rw [dlt_f (by omega)]
    simp only [cond_false]
    exact trimmed (by omega) (by omega) g3 (by simp at g6; omega)
theorem len2_le16 (y : Nat) : (dg 2 y).length ≤ 16 * (dg 65536 y).length := by
  apply dg_len (by decide)
  have h := dg_lt (b := 65536) hB16 (n := y)
  have e : (2 : Nat) ^ (16 * (dg 65536 y).length) = 65536 ^ (dg 65536 y).length := by rw [Nat.pow_mul]
  rw [e]; exact h
end Go.Pl
