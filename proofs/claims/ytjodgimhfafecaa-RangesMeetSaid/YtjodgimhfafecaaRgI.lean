/- Ranges: what two have in common, by the reference.  Conditions: those that each theorem names. -/
import Derived.Test.YtjodgimhfafecaaRgH
import Derived.Test.YtjodgimhfafecaaRgE
import Derived.Test.YtjodgimhfafecaaPlM
set_option linter.unusedVariables false
set_option linter.unusedSimpArgs false
set_option maxHeartbeats 0
namespace Go.Pl
open Go Go.Ev Go.Sh
theorem lenP {x : Int} (h : x.natAbs ≤ 100 * (rlim * rlim)) : ((dg 65536 x.natAbs).length : Int) ≤ 90000 := by
  have h1 := rlim_P
  have h2 : 0 < rlim * rlim := Nat.mul_pos (by have := rlim_big.1; omega) (by have := rlim_big.1; omega)
  have := rlen16 (v := x) (by omega)
  omega
theorem rlim_sq : rlim ≤ rlim * rlim ∧ 4294967296 ≤ rlim := by
  have h0 := rlim_big.1
  have h1 : 1 * rlim ≤ rlim * rlim := Nat.mul_le_mul_right _ (by omega)
  omega
theorem mulP {x y : Int} {a b : Nat} (hx : x.natAbs ≤ a * rlim) (hy : y.natAbs ≤ b * rlim) : (x * y).natAbs ≤ a * b * (rlim * rlim) := by
  rw [Int.natAbs_mul]
  have h1 : x.natAbs * y.natAbs ≤ (a * rlim) * (b * rlim) := Nat.mul_le_mul hx hy
  have h2 : (a * rlim) * (b * rlim) = a * b * (rlim * rlim) := by rw [Nat.mul_mul_mul_comm]
  omega
theorem nat_RI {b : Bool} {n : Nat} (h : n ≠ 0 → b = false) : RI (b, dg 65536 n) (n : Int) := ⟨rfl, fun hn => by
  show b = _
  rw [h (by omega), decide_eq_false (by omega)]⟩
theorem rinv_r {k : Nat} (hk : 100000000000000 < k) : ∀ (n : Nat) (a m : Nat) {A M : Bool × List Int}, RI A (a : Int) → RI M (m : Int) → 0 < m → a ≤ 2 * rlim → m ≤ 2 * rlim → Nat.gcd a m = 1 → gcdM a m < n →
    ∃ (X : Bool × List Int) (x : Int), brindlewoodref3_inverse.r k n A M = some X ∧ RI X x ∧ 0 ≤ x ∧ x < m ∧ (m : Int) ∣ x * a - 1 := by
  intro n
  induction n with
  | zero => intro a m A M _ _ _ _ _ _ h; omega
  | succ n ih =>
    intro a m A M hA hM m0 ha hm hg hf
    obtain ⟨p1, p2⟩ := rlim_sq
    obtain ⟨o, o1, o2, _⟩ := num_ok (k := k) (by omega) 1 (by omega) (by omega)
    obtain ⟨c, d, c1, c2, c3⟩ := Floor_ok hk hA hM (by omega) (lenP (by omega)) (lenP (by omega))
    rw [ir_emod (by omega)] at c3
    simp only [brindlewoodref3_inverse.r, brindlewoodref3_inverse.b]
    rw [c1, o1]
    simp only [Option.bind_some]
    rw [iOrder_ok (by omega) hM o2 (by have := lenP (x := (m : Int)) (by omega); omega) (by decide)]
    simp only [Option.bind_some]
    rw [sgn_zero_iff]
    by_cases h1 : m = 1
    · subst h1
      rw [decide_eq_true (show ((1 : Nat) : Int) = 1 from rfl)]
      exact ⟨_, 0, rfl, ⟨rfl, fun h => absurd rfl h⟩, by omega, by omega, ⟨-1, by simp⟩⟩
    rw [decide_eq_false (show ¬ (m : Int) = 1 by omega)]
    simp only [cond_false]
    have hmod : ((a : Int) % (m : Int)) = ((a % m : Nat) : Int) := by omega
    rw [hmod] at c3
    have hlt := Nat.mod_lt a m0
    have hgl : Nat.gcd m (a % m) = 1 := by rw [Nat.gcd_comm, ← Nat.gcd_rec, Nat.gcd_comm]; exact hg
    have hMl := gcdM_lt (x := a) m0
    have hdiv := Nat.div_add_mod a m
    generalize hl : a % m = l at *
    rw [iOrder_ok (by omega) c3 o2 (by have := lenP (x := (l : Int)) (by omega); omega) (by decide)]
    simp only [Option.bind_some]
    rw [sgn_zero_iff]
    have hai : (a : Int) = m * ((a / m : Nat) : Int) + l := by rw [← Int.natCast_mul]; omega
    generalize a / m = q at *
    by_cases h2 : (l : Int) = 1
    · rw [decide_eq_true h2]
      refine ⟨d, 1, rfl, by rw [← h2]; exact c3, by omega, by omega, ⟨q, ?_⟩⟩
      rw [Int.one_mul, hai]; omega
    rw [decide_eq_false h2]
    simp only [cond_false]
    have l0 : 0 < l := Nat.pos_of_ne_zero fun e => by subst e; rw [Nat.gcd_zero_right] at hgl; exact h1 hgl
    obtain ⟨Z, z, z1, z2, z3, z4, z5⟩ := ih m l hM c3 l0 hm (by omega) hgl (by omega)
    rw [z1]
    simp only [Option.bind_some]
    obtain ⟨Y, y1, y2⟩ := rMinus_ok z2
    rw [y1]
    simp only [Option.bind_some]
    obtain ⟨u, v, u1, u2, u3⟩ := Floor_ok hk y2 c3 (by omega) (lenP (by omega)) (lenP (by omega))
    rw [ir_emod (by omega)] at u3
    rw [u1]
    simp only [Option.bind_some]
    have y0 := Int.emod_nonneg (-z) (show (l : Int) ≠ 0 by omega)
    have yl := Int.emod_lt_of_pos (-z) (show (0 : Int) < l by omega)
    have hye := Int.mul_ediv_add_emod (-z) (l : Int)
    generalize (-z) % (l : Int) = y at *
    generalize (-z) / (l : Int) = e at *
    have hmy := mulP (x := (m : Int)) (y := y) (a := 2) (b := 2) (by omega) (by omega)
    obtain ⟨T, t1, t2⟩ := rTimes_ok hk hM u3 (by have := lenP (x := (m : Int)) (by omega); omega) (by have := lenP (x := y) (by omega); omega)
    rw [t1]
    simp only [Option.bind_some]
    obtain ⟨W, w1, w2⟩ := rPlus_ok hk t2 o2 (by have := lenP (x := (m : Int) * y) (by omega); omega) (by decide)
    rw [w1]
    simp only [Option.bind_some]
    obtain ⟨f, g, f1, f2, f3⟩ := Floor_ok hk w2 c3 (by omega) (lenP (by omega)) (lenP (by omega))
    rw [f1]
    simp only [Option.bind_some]
    rw [iq_ediv (by omega)] at f2
    obtain ⟨b, hb⟩ := z5
    have hdv : (m : Int) * y + 1 = l * (-b - e * m) := by grind
    rw [hdv, Int.mul_ediv_cancel_left _ (by omega)] at f2
    generalize hx : -b - e * m = x at *
    refine ⟨f, x, rfl, f2, ?_, ?_, ?_⟩
    · refine Int.not_lt.1 fun h => ?_
      have g1 : (l : Int) * x ≤ l * (-1) := Int.mul_le_mul_of_nonneg_left (by omega) (by omega)
      have g2 : 0 ≤ (m : Int) * y := Int.mul_nonneg (by omega) y0
      omega
    · refine Int.lt_of_mul_lt_mul_left (a := (l : Int)) ?_ (by omega)
      have g1 : (m : Int) * y ≤ m * (l - 1) := Int.mul_le_mul_of_nonneg_left (by omega) (by omega)
      have g2 : (m : Int) * (l - 1) = l * m - m := by rw [Int.mul_sub, Int.mul_one, Int.mul_comm]
      omega
    · refine ⟨x * q + y, ?_⟩
      rw [hai]
      grind
theorem rinv_ok {k : Nat} (hk : 100000000000000 < k) {a m : Nat} {A M : Bool × List Int} (hA : RI A (a : Int)) (hM : RI M (m : Int)) (m0 : 0 < m) (ha : a ≤ 2 * rlim) (hm : m ≤ 2 * rlim) (hg : Nat.gcd a m = 1) :
    ∃ (X : Bool × List Int) (x : Int), brindlewoodref3_inverse k A M = some X ∧ RI X x ∧ 0 ≤ x ∧ x < m ∧ (m : Int) ∣ x * a - 1 :=
  rinv_r hk k a m hA hM m0 ha hm hg (by have := gcdM_rlim ha hm; omega)
theorem rising_ok {s t d : Int} {A S C L : Bool × List Int} (hA : RI A s) (hS : RI S d) (hL : RI L (rlast s t d)) (hs : S.1 = decide (d < 0)) : ∃ P Q U, brindlewoodref3_Range_rising (A, S, C, L) = some (P, Q, U) ∧ RI P (upS s t d) ∧ RI Q (upL s t d) ∧ RI U (upD d) := by
  unfold brindlewoodref3_Range_rising upS upL upD
  simp only [hs]
  by_cases h : d < 0
  · obtain ⟨c, c1, c2⟩ := rMinus_ok hS
    rw [decide_eq_true h, if_pos h, if_pos h, if_pos h]
    simp only [cond_true]
    rw [c1]
    exact ⟨_, _, _, rfl, hL, hA, c2⟩
  · rw [decide_eq_false h, if_neg h, if_neg h, if_neg h]
    exact ⟨_, _, _, rfl, hA, hL, hS⟩
theorem meet_fin {s1 l1 d1 s2 l2 d2 F S F' v : Int} (hS : 0 < S) (r5 : d1 ∣ F - s1) (r6 : d2 ∣ F - s2) (r7 : d1 ∣ S) (r8 : d2 ∣ S) (r9 : ∀ v, d1 ∣ v - s1 → d2 ∣ v - s2 → S ∣ v - F)
    (r4 : F < s1 + S) (g1 : s1 ≤ F') (g2 : s2 ≤ F') (g3 : S ∣ F' - F) (g4 : F' = F ∨ F' - S < s2) : mem F' ((if l2 < l1 then l2 else l1) + 1) S v ↔ (d1 ∣ v - s1 ∧ s1 ≤ v ∧ v ≤ l1) ∧ (d2 ∣ v - s2 ∧ s2 ≤ v ∧ v ≤ l2) := by
  rw [mem_up hS]
  have hL : (v ≤ if l2 < l1 then l2 else l1) ↔ v ≤ l1 ∧ v ≤ l2 := by split <;> omega
  rw [hL]
  obtain ⟨c, hc⟩ := g3
  constructor
  · rintro ⟨⟨q, hq⟩, u1, u2, u3⟩
    have e : v - F = S * (q + c) := by rw [Int.mul_add]; omega
    have e1 : d1 ∣ v - F := by rw [e]; exact Int.dvd_trans r7 (Int.dvd_mul_right _ _)
    have e2 : d2 ∣ v - F := by rw [e]; exact Int.dvd_trans r8 (Int.dvd_mul_right _ _)
    have e3 := Int.dvd_add e1 r5
    have e4 := Int.dvd_add e2 r6
    rw [show v - F + (F - s1) = v - s1 by omega] at e3
    rw [show v - F + (F - s2) = v - s2 by omega] at e4
    exact ⟨⟨e3, by omega, u2⟩, e4, by omega, u3⟩
  · rintro ⟨⟨e3, v1, v2⟩, e4, v3, v4⟩
    obtain ⟨q, hq⟩ := r9 v e3 e4
    have e : v - F' = S * (q - c) := by rw [Int.mul_sub]; omega
    refine ⟨⟨_, e⟩, ?_, v2, v4⟩
    have h0 : -1 < q - c := by
      refine Int.lt_of_mul_lt_mul_left (a := S) ?_ (by omega)
      rw [← e]
      have : S * -1 = -S := by omega
      omega
    have h1 : 0 ≤ S * (q - c) := Int.mul_nonneg (by omega) (by omega)
    omega
end Go.Pl
