/- Decimals: the reference's powers, first digit, rounding and fit.  Conditions: those that each theorem names. -/
import Derived.Test.YtnopjcpoeffoiaaGreatDoorDcC
import Derived.Test.YtnopjcpoeffoiaaGreatDoorPlM
import Derived.Test.YtnopjcpoeffoiaaGreatDoorPiF
set_option linter.unusedVariables false
set_option linter.unusedSimpArgs false
set_option maxHeartbeats 0
namespace Go.Pl
open Go Go.Ev Go.Sh
theorem lend16 {x n : Nat} (h : dsz x ≤ n) : (dg 65536 x).length ≤ n :=
  dg_len hB16 (Nat.lt_of_lt_of_le (dsz_le.1 h) (Nat.pow_le_pow_left (by decide) n))
theorem lend16_pow (n : Nat) : (dg 65536 (10 ^ n)).length ≤ n + 1 := lend16 (dsz_le.2 (Nat.pow_lt_pow_right (by decide) (by omega)))
section
variable {k : Nat}
theorem small_ok (hk : 100000000000000 < k) (n : Nat) (hn : n ≤ 100000) : brindlewoodref3_Small k n = some (dg 65536 n) := Small_ok (by omega) (by omega)
theorem Ten_l1 (hk : 100000000000000 < k) : ∀ (m n a : Nat), n < m → a + n ≤ 6000 → brindlewoodref3_Ten.l1 k m n (dg 65536 (10 ^ a)) = some (.inl (dg 65536 (10 ^ (a + n)))) := by
  intro m
  induction m with
  | zero => intro n a h; omega
  | succ m ih =>
    intro n a h h2
    simp only [brindlewoodref3_Ten.l1, brindlewoodref3_Ten.b1]
    by_cases hn : 0 < n
    · have h10 := small_ok hk 10 (by omega)
      have hl := lend16_pow a
      have ht := Times_ok (k := k) (x := 10 ^ a) (y := 10) (by omega) (by have : (dg 65536 10).length = 1 := rfl
                                                                          omega) hk
      have hs : brindlewoodref3_Small k 10 = some (dg 65536 10) := h10
      rw [dlt_t (show (0 : Int) < (n : Int) by omega), hs]
      simp only [cond_true, Option.bind_some]
      rw [ht, w64_id (n := (n : Int) - 1) (by omega) (by omega), show (n : Int) - 1 = ((n - 1 : Nat) : Int) by omega]
      simp only [Option.bind_some]
      rw [← Nat.pow_succ, ih (n - 1) (a + 1) (by omega) (by omega), show a + 1 + (n - 1) = a + n by omega]
    · have : n = 0 := by omega
      subst this
      rw [dlt_f (by omega)]; rfl
theorem Ten_l0 (hk : 100000000000000 < k) : ∀ (m n a : Nat), n < m → a + n ≤ 6000 → ∃ q a' : Nat, brindlewoodref3_Ten.l0 k m n (dg 65536 (10 ^ a)) = some (.inl ((q : Int), dg 65536 (10 ^ a'))) ∧ a' + q = a + n ∧ q ≤ n := by
  intro m
  induction m with
  | zero => intro n a h; omega
  | succ m ih =>
    intro n a h h2
    simp only [brindlewoodref3_Ten.l0, brindlewoodref3_Ten.b0]
    by_cases hn : 4 ≤ n
    · have hl := lend16_pow a
      have ht := Times_ok (k := k) (x := 10 ^ a) (y := 10000) (by omega) (by have : (dg 65536 10000).length = 1 := rfl
                                                                             omega) hk
      have hs : brindlewoodref3_Small k 10000 = some (dg 65536 10000) := small_ok hk 10000 (by omega)
      rw [dle_t (show (4 : Int) ≤ (n : Int) by omega), hs]
      simp only [cond_true, Option.bind_some]
      rw [ht, w64_id (n := (n : Int) - 4) (by omega) (by omega), show (n : Int) - 4 = ((n - 4 : Nat) : Int) by omega]
      simp only [Option.bind_some]
      rw [show 10 ^ a * 10000 = 10 ^ (a + 4) by rw [Nat.pow_add]]
      obtain ⟨q, a', g1, g2, g3⟩ := ih (n - 4) (a + 4) (by omega) (by omega)
      exact ⟨q, a', g1, by omega, by omega⟩
    · rw [dle_f (show (n : Int) < 4 by omega)]
      exact ⟨n, a, rfl, rfl, Nat.le_refl _⟩
theorem Ten_ok (hk : 100000000000000 < k) {n : Nat} (hn : n ≤ 6000) : brindlewoodref3_Ten k n = some (dg 65536 (10 ^ n)) := by
  obtain ⟨q, a', g1, g2, g3⟩ := Ten_l0 hk k n 0 (by omega) (by omega)
  have g4 := Ten_l1 hk k q a' (by omega) (by omega)
  have hs : brindlewoodref3_Small k 1 = some (dg 65536 (10 ^ 0)) := small_ok hk 1 (by omega)
  unfold brindlewoodref3_Ten
  rw [hs]
  simp only [Option.bind_some]
  rw [g1]
  simp only [joinB_inl]
  rw [g4, show a' + q = n by omega]; rfl
theorem parts_ok (hk : 100000000000000 < k) {neg : Bool} {num den : Nat} {exp e : Int} (h : Fits num den exp e) :
    brindlewoodref3_Exact_parts k (neg, dg 65536 num, dg 65536 den, exp) e = some (dg 65536 (pn num exp e), dg 65536 (pd den exp e)) := by
  have h1 := h.e1; have h2 := h.e2; have h3 := h.e3; have ha := h.a; have hb := h.b
  have l1 := lend16 (x := num) (Nat.le_refl _)
  have l2 := lend16 (x := den) (Nat.le_refl _)
  unfold brindlewoodref3_Exact_parts
  simp only
  rw [w64_id (n := exp - e) (by omega) (by omega), w64_id (n := e - exp) (by omega) (by omega)]
  by_cases hc : e ≤ exp
  · have l3 := lend16_pow (exp - e).toNat
    rw [dle_t (show (0 : Int) ≤ exp - e by omega), show exp - e = (((exp - e).toNat : Nat) : Int) by omega, Ten_ok hk (by omega)]
    simp only [cond_true, Option.bind_some]
    rw [Times_ok (by omega) (by omega) hk]
    simp only [Option.bind_some]
    unfold pd pn
    rw [show (e - exp).toNat = 0 by omega, Nat.pow_zero, Nat.mul_one]
  · have l3 := lend16_pow (e - exp).toNat
    rw [dle_f (show exp - e < 0 by omega), show e - exp = (((e - exp).toNat : Nat) : Int) by omega, Ten_ok hk (by omega)]
    simp only [cond_false, Option.bind_some]
    rw [Times_ok (by omega) (by omega) hk]
    simp only [Option.bind_some]
    unfold pd pn
    rw [show (exp - e).toNat = 0 by omega, Nat.pow_zero, Nat.mul_one]
theorem figs_ok (hk : 100000000000000 < k) {x : Nat} (hx : dsz x ≤ 6000) : brindlewoodref3_Figures k (dg 65536 x) 10 = some (dg 10 x).reverse := by
  have l1 := lend16 hx
  have h := Figures_ok (k := k) (b := 10) (x := x) (by decide) (by decide) (by unfold dsz at hx; omega) (by omega) hk
  exact h
theorem figs_len {x : Nat} : (((dg 10 x).reverse).length : Int) = dsz x := by rw [List.length_reverse]; rfl
theorem first_step (hk : 100000000000000 < k) {neg : Bool} {num den : Nat} {exp f : Int} (h : Fits num den exp f) (hf1 : -900000 ≤ f) (hf2 : f ≤ 900000) (m : Nat) :
    brindlewoodref3_Exact_First.l0 k (m + 1) (neg, dg 65536 num, dg 65536 den, exp) f = if Ge num den exp f then some (.inr f) else brindlewoodref3_Exact_First.l0 k m (neg, dg 65536 num, dg 65536 den, exp) (f - 1) := by
  obtain ⟨s1, s2⟩ := pn_size h
  have l1 := lend16 s1
  have l2 := lend16 s2
  simp only [brindlewoodref3_Exact_First.l0, brindlewoodref3_Exact_First.b0]
  rw [parts_ok hk h]
  simp only [Option.bind_some]
  rw [Compare_ok (by omega) (by omega) (by omega), sgn_cmpN]
  simp only [Option.bind_some]
  unfold cmpN
  by_cases hg : Ge num den exp f
  · have hg' : pd den exp f ≤ pn num exp f := hg
    rw [if_pos hg, if_neg (by omega)]
    by_cases h2 : pd den exp f < pn num exp f
    · rw [if_pos h2]; rfl
    · rw [if_neg h2]; rfl
  · have hg' : ¬ pd den exp f ≤ pn num exp f := hg
    rw [if_neg hg, if_pos (by omega), w64_id (by omega) (by omega)]; rfl
theorem rfirst_ok (hk : 100000000000000 < k) {neg : Bool} {num den : Nat} {exp : Int} (hS : Sized num den exp) (hn : 0 < num) : brindlewoodref3_Exact_First k (neg, dg 65536 num, dg 65536 den, exp) = some (fst10 num den exp) := by
  have h1 := hS.sn; have h2 := hS.sd; have h3 := hS.e1; have h4 := hS.e2
  have s1 := dsz_pos.2 hn
  have s2 := dsz_pos.2 hS.d0
  unfold brindlewoodref3_Exact_First
  simp only
  rw [figs_ok hk (by omega), figs_ok hk (by omega)]
  simp only [Option.bind_some]
  rw [figs_len, figs_len, w64_id (n := (dsz num : Int) - dsz den) (by omega) (by omega), w64_id (n := (dsz num : Int) - dsz den + exp) (by omega) (by omega), w64_id (by omega) (by omega)]
  obtain ⟨m, rfl⟩ : ∃ m, k = m + 1 + 1 + 1 := ⟨k - 3, by omega⟩
  have hF : ∀ f : Int, (dsz num : Int) - dsz den + exp - 1 ≤ f → f ≤ (dsz num : Int) - dsz den + exp + 1 → Fits num den exp f := by
    intro f g1 g2
    constructor <;> omega
  rw [first_step hk (hF _ (by omega) (by omega)) (by omega) (by omega), if_neg (not_ge_top hn hS.d0), show (dsz num : Int) - dsz den + exp + 1 - 1 = (dsz num : Int) - dsz den + exp by omega, first_step hk (hF _ (by omega) (by omega)) (by omega) (by omega)]
  unfold fst10
  by_cases hg : Ge num den exp ((dsz num : Int) - dsz den + exp)
  · rw [if_pos hg, if_pos hg]; rfl
  · have hlow := ge_low (exp := exp) hn hS.d0
    rw [if_neg hg, if_neg hg, show (dsz num : Int) - dsz den + exp - 1 = (dsz num : Int) - dsz den - 1 + exp by omega, first_step hk (hF _ (by omega) (by omega)) (by omega) (by omega), if_pos hlow]; rfl
theorem up_ok {r : Int} (neg odd : Bool) {half : Int} (h0 : 0 ≤ r) (h6 : r ≤ 6) : brindlewoodref3_up r neg odd half = some (aw r neg odd half) := by
  unfold brindlewoodref3_up aw
  have hr : r = 0 ∨ r = 1 ∨ r = 2 ∨ r = 3 ∨ r = 4 ∨ r = 5 ∨ r = 6 := by omega
  by_cases hz : half = 0
  · subst hz
    rcases hr with rfl | rfl | rfl | rfl | rfl | rfl | rfl <;> cases odd <;> rfl
  · have e1 : (half != 0) = true := bne_t hz
    rcases hr with rfl | rfl | rfl | rfl | rfl | rfl | rfl
    · rfl
    · rfl
    · rfl
    · rfl
    · show (bif (half != 0) then some (decide (0 < half)) else _) = some (decide (0 ≤ half))
      rw [e1]
      exact congrArg some (decide_eq_decide.2 (by omega))
    · show (bif (half != 0) then some (decide (0 < half)) else _) = some (decide (0 < half))
      rw [e1]; rfl
    · show (bif (half != 0) then some (decide (0 < half)) else _) = some (decide (0 < half) || (decide (half = 0) && odd))
      rw [e1, decide_eq_false hz]
      simp
theorem odd16_ok {q : Nat} (h : 0 < q) : (Int.tmod (rd (dg 65536 q) 0) 2 == 1) = decide (q % 2 = 1) := by
  have e : rd (dg 65536 q) 0 = ((q % 65536 : Nat) : Int) := by rw [dg_pos hB16 h]; rfl
  rw [e, Int.tmod_eq_emod_of_nonneg (by omega)]
  have hm : (((q % 65536 : Nat) : Int) % 2) = ((q % 2 : Nat) : Int) := by omega
  rw [hm]
  by_cases ho : q % 2 = 1
  · rw [decide_eq_true ho, beq_t (by omega)]
  · rw [decide_eq_false ho, beq_f (by omega)]
theorem rrounded_ok (hk : 100000000000000 < k) {neg : Bool} {num den : Nat} {exp e r : Int} (hd : 0 < den) (h : Fits num den exp e) (h0 : 0 ≤ r) (h6 : r ≤ 6) :
    brindlewoodref3_Exact_Rounded k (neg, dg 65536 num, dg 65536 den, exp) e r = some (dg 65536 (rnd neg num den exp e r).1, (rnd neg num den exp e r).2) := by
  obtain ⟨s1, s2⟩ := pn_size h
  have hp := pd_pos hd exp e
  unfold brindlewoodref3_Exact_Rounded
  rw [parts_ok hk h]
  simp only [Option.bind_some]
  unfold rnd
  generalize pn num exp e = a at *
  generalize pd den exp e = b at *
  unfold rnq
  have l1 := lend16 s1
  have l2 := lend16 s2
  have hq : dsz (a / b) ≤ 5700 := Nat.le_trans (dsz_mono (Nat.div_le_self a b)) s1
  have hr : dsz (a % b) ≤ 5700 := Nat.le_trans (dsz_mono (Nat.le_of_lt (Nat.mod_lt a hp))) s2
  have hr2 : dsz (2 * (a % b)) ≤ 5701 := by rw [show 2 * (a % b) = a % b + a % b by omega]; exact dsz_add hr hr
  have l3 := lend16 hq
  have l4 := lend16 hr
  have l5 := lend16 hr2
  rw [Divide_ok (by omega) (by omega) (by omega) hp]
  simp only [Option.bind_some]
  by_cases hz : a % b = 0
  · rw [hz, if_pos rfl]
    have e0 : ((dg 65536 0).length : Int) = 0 := rfl
    rw [beq_t e0]; rfl
  · rw [if_neg hz]
    have hpos : 0 < (dg 65536 (a % b)).length := (dg_len_pos hB16).2 (Nat.pos_of_ne_zero hz)
    have hadd : ∀ q : Nat, dsz q ≤ 5700 → ((brindlewoodref3_Small k 1).bind fun t6 => (brindlewoodref3_Plus k (dg 65536 q) t6).bind fun t7 => some (t7, true)) = some (dg 65536 (q + 1), true) := by
      intro q hq
      have l := lend16 hq
      have hs : brindlewoodref3_Small k 1 = some (dg 65536 1) := small_ok hk 1 (by omega)
      have h1 : (dg 65536 1).length = 1 := rfl
      rw [hs]
      simp only [Option.bind_some]
      rw [Plus_ok (by omega) (by omega) hk]; rfl
    have hcmp : ∀ (α : Type) (F : Int → Option α), ((brindlewoodref3_Double k (dg 65536 (a % b)) false).bind fun t3 => (brindlewoodref3_Compare k t3 (dg 65536 b)).bind fun t4 => F t4) = F (cmpN (2 * (a % b)) b) := by
      intro α F
      rw [Double_ok (by omega) (by omega)]
      simp only [Option.bind_some]
      rw [Compare_ok (by omega) (by omega) (by omega), sgn_cmpN]; rfl
    rw [beq_f (show ((dg 65536 (a % b)).length : Int) ≠ 0 by omega)]
    simp only [cond_false]
    rw [hcmp, hcmp]
    by_cases hq0 : 0 < a / b
    · have hl : 0 < (dg 65536 (a / b)).length := (dg_len_pos hB16).2 hq0
      rw [dlt_t (show (0 : Int) < ((dg 65536 (a / b)).length : Int) by omega), inR_t (Int.le_refl _) (show (0 : Int) < ((dg 65536 (a / b)).length : Int) by omega), odd16_ok hq0, up_ok _ _ h0 h6, hadd _ hq]
      simp only [cond_true, Option.bind_some]
      cases aw r neg (decide (a / b % 2 = 1)) (cmpN (2 * (a % b)) b) <;> rfl
    · have hq1 : a / b = 0 := Nat.eq_zero_of_not_pos hq0
      have hl : (dg 65536 (a / b)).length = 0 := by rw [hq1]; rfl
      rw [dlt_f (show ((dg 65536 (a / b)).length : Int) ≤ 0 by omega)]
      simp only [cond_false]
      rw [up_ok _ _ h0 h6, hadd _ hq, hq1, show decide (0 % 2 = 1) = false from rfl]
      simp only [Option.bind_some]
      cases aw r neg false (cmpN (2 * (a % b)) b) <;> rfl
theorem Finite_ok (hk : 100000000000000 < k) {neg : Bool} {n : Nat} {e : Int} (hn : dsz n ≤ 6000) : brindlewoodref3_Finite k neg (dg 65536 n) e = some (dfin neg n e) := by
  have l := lend16 hn
  unfold brindlewoodref3_Finite
  rw [Limbs_ok (by omega) (by omega)]; rfl
end
end Go.Pl
