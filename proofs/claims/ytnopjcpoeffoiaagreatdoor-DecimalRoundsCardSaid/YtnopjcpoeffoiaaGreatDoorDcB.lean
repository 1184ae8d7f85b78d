/- Decimals: the program's powers, first digit, rounding.  Conditions: those that each theorem names. -/
import Derived.Test.YtnopjcpoeffoiaaGreatDoorDcA
import Derived.Test.YtnopjcpoeffoiaaGreatDoorPlG
import Derived.Test.YtnopjcpoeffoiaaGreatDoorPlL
set_option linter.unusedVariables false
set_option linter.unusedSimpArgs false
set_option maxHeartbeats 0
namespace Go.Pl
open Go Go.Ev Go.Sh
theorem d1_32 : dg 4294967296 1 = [1] := rfl
theorem d10_32 : dg 4294967296 10 = [10] := rfl
theorem pow2_small {j : Nat} (h : 2 ^ j ≤ 4095) : 2 ^ j ≤ 2048 := by
  have hj : j ≤ 11 := by
    refine Nat.le_of_not_lt fun h1 => ?_
    have := Nat.pow_le_pow_right (n := 2) (by omega) (show 12 ≤ j by omega)
    have h12 : (2 : Nat) ^ 12 = 4096 := by decide
    omega
  have := Nat.pow_le_pow_right (n := 2) (by omega) hj
  have h11 : (2 : Nat) ^ 11 = 2048 := by decide
  omega
theorem power_l0 (k : Nat) (hk : 300000000 < k) : ∀ (m n a j : Nat), n < m → a + 2 ^ j * n ≤ 4095 → decimal_power.l0 k m n (dg 4294967296 (10 ^ a)) (dg 4294967296 (10 ^ (2 ^ j))) = some (.inl (dg 4294967296 (10 ^ (a + 2 ^ j * n)))) := by
  intro m
  induction m with
  | zero => intro n a j h; omega
  | succ m ih =>
    intro n a j h h2
    simp only [decimal_power.l0, decimal_power.b0]
    by_cases hn : 0 < n
    · have hj1 : 2 ^ j ≤ 2 ^ j * n := Nat.le_mul_of_pos_right _ hn
      have hn4 : n ≤ 2 ^ j * n := Nat.le_mul_of_pos_left _ (Nat.pow_pos (by decide))
      have hj := pow2_small (j := j) (by omega)
      have hh : w64 (Int.tdiv (n : Int) 2) = ((n / 2 : Nat) : Int) := by
        rw [Int.tdiv_eq_ediv_of_nonneg (by omega), w64_id (by omega) (by omega)]; omega
      have hsq : natural_Mul k (dg 4294967296 (10 ^ (2 ^ j))) (dg 4294967296 (10 ^ (2 ^ j))) = some (dg 4294967296 (10 ^ (2 ^ (j + 1))), 0, 0) := by
        rw [Mul_ok (lim10 (by omega)) (lim10 (by omega)) hk, ← Nat.pow_add, show 2 ^ j + 2 ^ j = 2 ^ (j + 1) by rw [Nat.pow_succ]; omega, if_pos (lim10 (by rw [Nat.pow_succ]; omega))]
      have hexp : 2 ^ j * n = 2 ^ j * (n % 2) + 2 ^ (j + 1) * (n / 2) := by
        rw [Nat.pow_succ, Nat.mul_assoc, ← Nat.mul_add]
        congr 1
        omega
      rw [dlt_t (show (0 : Int) < (n : Int) by omega), hh, hsq]
      simp only [cond_true, Option.bind_some]
      have htm : Int.tmod (n : Int) 2 = ((n % 2 : Nat) : Int) := by rw [Int.tmod_eq_emod_of_nonneg (by omega)]; omega
      rw [htm]
      by_cases ho : n % 2 = 1
      · rw [beq_t (show ((n % 2 : Nat) : Int) = 1 by omega), Mul_ok (lim10 (by omega)) (lim10 (by omega)) hk, ← Nat.pow_add, if_pos (lim10 (by omega))]
        simp only [cond_true, Option.bind_some]
        rw [ho, Nat.mul_one] at hexp
        rw [ih (n / 2) (a + 2 ^ j) (j + 1) (by omega) (by omega), hexp]
        congr 4
        omega
      · have hz : n % 2 = 0 := by omega
        rw [beq_f (show ((n % 2 : Nat) : Int) ≠ 1 by omega)]
        simp only [cond_false]
        rw [hz, Nat.mul_zero, Nat.zero_add] at hexp
        rw [ih (n / 2) a (j + 1) (by omega) (by omega), hexp]
    · have : n = 0 := by omega
      subst this
      rw [dlt_f (by omega), Nat.mul_zero, Nat.add_zero]; rfl
theorem power_ok {k n : Nat} (hk : 300000000 < k) (hn : n ≤ 4095) : decimal_power k n = some (dg 4294967296 (10 ^ n)) := by
  have h := power_l0 k hk k n 0 0 (by omega) (by omega)
  rw [Nat.zero_add, show 2 ^ 0 * n = n by omega] at h
  have h' : decimal_power.l0 k k n [1] [10] = _ := h
  unfold decimal_power
  rw [h']; rfl
theorem times_ok {k x n : Nat} (hk : 300000000 < k) (hn : n ≤ 4095) (hx : dsz x + n ≤ 5760) : decimal_times k (dg 4294967296 x) n = some (dg 4294967296 (x * 10 ^ n)) := by
  unfold decimal_times
  rw [power_ok hk hn]
  simp only [Option.bind_some]
  rw [Mul_ok (lim_dsz (Nat.le_refl _) (by omega)) (lim10 (by omega)) hk, if_pos (lim_dsz (dsz_mul_pow (Nat.le_refl _)) (by omega))]; rfl
theorem less_ok {k x y : Nat} (hk : 700 < k) (hx : x < lim) (hy : y < lim) : decimal_less k (dg 4294967296 x) (dg 4294967296 y) = some (decide (x < y)) := by
  unfold decimal_less
  rw [Cmp_ok hx hy hk]
  simp only [Option.bind_some]
  congr 1
  refine decide_eq_decide.2 ?_
  show sgn (x : Int) (y : Int) < 0 ↔ x < y
  unfold sgn
  constructor
  · intro h; split at h
    · omega
    · split at h <;> omega
  · intro h; rw [if_pos (by omega)]; decide
theorem size_ok {k x : Nat} (hkk : k = 1000000000000000000) (hx : x < lim) : decimal_size k (dg 4294967296 x) = some (dsz x : Int) := by
  unfold decimal_size
  have := Digits_ok' hkk hx (b := 10) (by decide) (by decide)
  have h' : natural_Digits k (dg 4294967296 x) 10 = _ := this
  rw [h']
  simp only [Option.bind_some, List.length_reverse]; rfl
section
variable {k : Nat}
theorem first_ok (hkk : k = 1000000000000000000) {neg : Bool} {num den : Nat} {exp : Int} (hn : 0 < num) (hd : 0 < den) (sn : dsz num ≤ 4095) (sd : dsz den ≤ 4095) (he1 : -1000000 ≤ exp) (he2 : exp ≤ 1000000) :
    decimal_exact_first k (neg, dg 4294967296 num, dg 4294967296 den, exp) = some (fst10 num den exp) := by
  have hk : 300000000 < k := by rw [hkk]; decide
  have ln := lim_dsz (Nat.le_refl (dsz num)) (by omega)
  have ld := lim_dsz (Nat.le_refl (dsz den)) (by omega)
  unfold decimal_exact_first
  simp only
  rw [size_ok hkk ln, size_ok hkk ld]
  simp only [Option.bind_some]
  rw [w64_id (n := (dsz num : Int) - dsz den) (by omega) (by omega)]
  by_cases h : dsz den ≤ dsz num
  · rw [dle_t (show (0 : Int) ≤ (dsz num : Int) - dsz den by omega), show (dsz num : Int) - dsz den = ((dsz num - dsz den : Nat) : Int) by omega, times_ok hk (by omega) (by omega)]
    simp only [cond_true, Option.bind_some]
    rw [less_ok (by omega) ln (lim_dsz (dsz_mul_pow (Nat.le_refl _)) (by omega))]
    simp only [Option.bind_some]
    have hG : Ge num den exp ((dsz num : Int) - dsz den + exp) ↔ ¬ num < den * 10 ^ (dsz num - dsz den) := by
      unfold Ge pd pn
      rw [show ((dsz num : Int) - dsz den + exp - exp).toNat = dsz num - dsz den by omega, show (exp - ((dsz num : Int) - dsz den + exp)).toNat = 0 by omega, Nat.pow_zero, Nat.mul_one]
      omega
    unfold fst10
    by_cases hl : num < den * 10 ^ (dsz num - dsz den)
    · rw [decide_eq_true hl, if_neg (fun hg => hG.1 hg hl), w64_id (n := ((dsz num - dsz den : Nat) : Int) - 1) (by omega) (by omega), w64_id (by omega) (by omega)]
      simp only [cond_true]
      congr 1; omega
    · rw [decide_eq_false hl, if_pos (hG.2 hl), w64_id (n := ((dsz num - dsz den : Nat) : Int) + exp) (by omega) (by omega)]
      simp only [cond_false]
      congr 1; omega
  · rw [dle_f (show (dsz num : Int) - dsz den < 0 by omega), w64_id (n := 0 - ((dsz num : Int) - dsz den)) (by omega) (by omega), show 0 - ((dsz num : Int) - dsz den) = ((dsz den - dsz num : Nat) : Int) by omega, times_ok hk (by omega) (by omega)]
    simp only [cond_false, Option.bind_some]
    rw [less_ok (by omega) (lim_dsz (dsz_mul_pow (Nat.le_refl _)) (by omega)) ld]
    simp only [Option.bind_some]
    have hG : Ge num den exp ((dsz num : Int) - dsz den + exp) ↔ ¬ num * 10 ^ (dsz den - dsz num) < den := by
      unfold Ge pd pn
      rw [show ((dsz num : Int) - dsz den + exp - exp).toNat = 0 by omega, show (exp - ((dsz num : Int) - dsz den + exp)).toNat = dsz den - dsz num by omega, Nat.pow_zero, Nat.mul_one]
      omega
    unfold fst10
    by_cases hl : num * 10 ^ (dsz den - dsz num) < den
    · rw [decide_eq_true hl, if_neg (fun hg => hG.1 hg hl), w64_id (n := (dsz num : Int) - dsz den - 1) (by omega) (by omega), w64_id (by omega) (by omega)]
      simp only [cond_true]
    · rw [decide_eq_false hl, if_pos (hG.2 hl), w64_id (n := (dsz num : Int) - dsz den + exp) (by omega) (by omega)]
      simp only [cond_false]
structure Fits (num den : Nat) (exp e : Int) : Prop where
  e1 : -1000000 ≤ exp - e
  e2 : exp - e ≤ 4095
  e3 : e - exp ≤ 4095
  a : dsz num + (exp - e).toNat ≤ 5700
  b : dsz den + (e - exp).toNat ≤ 5700
theorem pn_size {num den : Nat} {exp e : Int} (h : Fits num den exp e) : dsz (pn num exp e) ≤ 5700 ∧ dsz (pd den exp e) ≤ 5700 :=
  ⟨Nat.le_trans (dsz_mul_pow (Nat.le_refl _)) h.a, Nat.le_trans (dsz_mul_pow (Nat.le_refl _)) h.b⟩
theorem at_ok' (hk : 20000000000 < k) {neg : Bool} {num den : Nat} {exp e : Int} (hd : 0 < den) (h : Fits num den exp e) :
    decimal_exact_at k (neg, dg 4294967296 num, dg 4294967296 den, exp) e = some (dg 4294967296 (pn num exp e / pd den exp e), dg 4294967296 (pn num exp e % pd den exp e), dg 4294967296 (pd den exp e)) := by
  obtain ⟨s1, s2⟩ := pn_size h
  have h1 := h.e1; have h2 := h.e2; have h3 := h.e3; have ha := h.a; have hb := h.b
  have hp := pd_pos hd exp e
  have hdm := DivMod_ok (k := k) (lim_dsz s1 (by omega)) (lim_dsz s2 (by omega)) hk
  rw [if_neg (by omega)] at hdm
  unfold decimal_exact_at
  simp only
  rw [w64_id (n := exp - e) (by omega) (by omega)]
  by_cases hc : e ≤ exp
  · rw [dle_t (show (0 : Int) ≤ exp - e by omega), show exp - e = (((exp - e).toNat : Nat) : Int) by omega, times_ok (by omega) (by omega) (by omega)]
    simp only [cond_true, Option.bind_some, joinB_inl]
    have e1 : pd den exp e = den := by unfold pd; rw [show (e - exp).toNat = 0 by omega, Nat.pow_zero, Nat.mul_one]
    rw [e1] at hdm ⊢
    have e2 : num * 10 ^ (exp - e).toNat = pn num exp e := rfl
    rw [e2, hdm]; rfl
  · rw [dle_f (show exp - e < 0 by omega), w64_id (n := 0 - (exp - e)) (by omega) (by omega), show 0 - (exp - e) = (((e - exp).toNat : Nat) : Int) by omega, times_ok (by omega) (by omega) (by omega)]
    simp only [cond_false, Option.bind_some, joinB_inl]
    have e1 : pn num exp e = num := by unfold pn; rw [show (exp - e).toNat = 0 by omega, Nat.pow_zero, Nat.mul_one]
    rw [e1] at hdm ⊢
    have e2 : den * 10 ^ (e - exp).toNat = pd den exp e := rfl
    rw [e2, hdm]; rfl
theorem away_ok (r : Int) (neg odd : Bool) (half : Int) : decimal_away r neg odd half = some (aw r neg odd half) := by
  unfold decimal_away aw
  by_cases h1 : r = 1
  · rw [beq_t h1, if_pos h1]; rfl
  rw [beq_f h1, if_neg h1]
  by_cases h2 : r = 2
  · rw [beq_t h2, if_pos h2]; rfl
  rw [beq_f h2, if_neg h2]
  by_cases h3 : r = 3
  · rw [beq_t h3, if_pos h3]; rfl
  rw [beq_f h3, if_neg h3]
  by_cases h4 : r = 4
  · rw [beq_t h4, if_pos h4]; rfl
  rw [beq_f h4, if_neg h4]
  by_cases h5 : r = 5
  · rw [beq_t h5, if_pos h5]; rfl
  rw [beq_f h5, if_neg h5]
  by_cases h6 : r = 6
  · rw [beq_t h6, if_pos h6]
    by_cases h7 : 0 < half
    · rw [decide_eq_true h7]; rfl
    · rw [decide_eq_false h7]
      by_cases h8 : half = 0
      · rw [beq_t h8, decide_eq_true h8]; cases odd <;> rfl
      · rw [beq_f h8, decide_eq_false h8]; rfl
  · rw [beq_f h6, if_neg h6]; rfl
theorem odd_ok {q : Nat} (h : 0 < q) : (Int.tmod (rd (dg 4294967296 q) 0) 2 == 1) = decide (q % 2 = 1) := by
  have e : rd (dg 4294967296 q) 0 = ((q % 4294967296 : Nat) : Int) := by rw [dg_pos hB32 h]; rfl
  rw [e, Int.tmod_eq_emod_of_nonneg (by omega)]
  have hm : (((q % 4294967296 : Nat) : Int) % 2) = ((q % 2 : Nat) : Int) := by omega
  rw [hm]
  by_cases ho : q % 2 = 1
  · rw [decide_eq_true ho, beq_t (by omega)]
  · rw [decide_eq_false ho, beq_f (by omega)]
theorem sgn_cmpN (x y : Nat) : sgn x y = cmpN x y := by
  unfold sgn cmpN
  by_cases h : x < y
  · rw [if_pos h, if_pos (by omega)]
  · rw [if_neg h, if_neg (by omega)]
    by_cases h' : y < x
    · rw [if_pos h', if_pos (by omega)]
    · rw [if_neg h', if_neg (by omega)]
theorem rounded_ok (hk : 20000000000 < k) {neg : Bool} {num den : Nat} {exp e r : Int} (hd : 0 < den) (h : Fits num den exp e) :
    decimal_exact_rounded k (neg, dg 4294967296 num, dg 4294967296 den, exp) e r = some (dg 4294967296 (rnd neg num den exp e r).1, (rnd neg num den exp e r).2) := by
  obtain ⟨s1, s2⟩ := pn_size h
  have hp := pd_pos hd exp e
  unfold decimal_exact_rounded
  rw [at_ok' hk hd h]
  simp only [Option.bind_some]
  unfold rnd
  generalize pn num exp e = a at *
  generalize pd den exp e = b at *
  unfold rnq
  have hq : dsz (a / b) ≤ 5700 := Nat.le_trans (dsz_mono (Nat.div_le_self a b)) s1
  have hr : dsz (a % b) ≤ 5700 := Nat.le_trans (dsz_mono (Nat.le_of_lt (Nat.mod_lt a hp))) s2
  by_cases hz : a % b = 0
  · rw [hz, if_pos rfl]
    have e0 : ((dg 4294967296 0).length : Int) = 0 := rfl
    rw [beq_t e0]; rfl
  · rw [if_neg hz]
    have hpos : 0 < (dg 4294967296 (a % b)).length := (dg_len_pos hB32).2 (by omega)
    rw [beq_f (show ((dg 4294967296 (a % b)).length : Int) ≠ 0 by omega), Add_ok (lim_dsz hr (by omega)) (lim_dsz hr (by omega)) (by omega), if_pos (lim_dsz (dsz_add hr hr) (by omega)), show a % b + a % b = 2 * (a % b) by omega]
    simp only [cond_false, Option.bind_some]
    rw [Cmp_ok (lim_dsz (show dsz (2 * (a % b)) ≤ 5701 by rw [show 2 * (a % b) = a % b + a % b by omega]; exact dsz_add hr hr) (by omega)) (lim_dsz s2 (by omega)) (by omega), sgn_cmpN]
    simp only [Option.bind_some]
    have hadd : natural_Add k (dg 4294967296 (a / b)) [1] = some (dg 4294967296 (a / b + 1), 0, 0) := by
      have h1 : dsz 1 ≤ 5700 := by decide
      have := Add_ok (k := k) (lim_dsz hq (by omega)) (lim_dsz h1 (by omega)) (by omega)
      rw [if_pos (lim_dsz (dsz_add hq h1) (by omega))] at this
      exact this
    by_cases hq0 : 0 < a / b
    · have hl : 0 < (dg 4294967296 (a / b)).length := (dg_len_pos hB32).2 hq0
      rw [dlt_t (show (0 : Int) < ((dg 4294967296 (a / b)).length : Int) by omega), inR_t (Int.le_refl _) (show (0 : Int) < ((dg 4294967296 (a / b)).length : Int) by omega), odd_ok hq0, away_ok]
      simp only [cond_true, Option.bind_some]
      rw [hadd]
      cases aw r neg (decide (a / b % 2 = 1)) (cmpN (2 * (a % b)) b) <;> rfl
    · have hq1 : a / b = 0 := Nat.eq_zero_of_not_pos hq0
      have hl : (dg 4294967296 (a / b)).length = 0 := by rw [hq1]; rfl
      rw [dlt_f (show ((dg 4294967296 (a / b)).length : Int) ≤ 0 by omega)]
      simp only [cond_false]
      rw [away_ok]
      simp only [Option.bind_some]
      rw [hadd, hq1, show decide (0 % 2 = 1) = false from rfl]
      cases aw r neg false (cmpN (2 * (a % b)) b) <;> rfl
theorem toward_l (hk : 20000000000 < k) {i : Int} (hi : i ≤ 1000000) : ∀ (m n d : Nat) (e : Int), (i - e).toNat = d → d < m → dsz n ≤ 5700 → -1000000 ≤ e → decimal_toward.l0 k m (dg 4294967296 n) e i = some (.inl (dg 4294967296 (tw d n e i).1, (tw d n e i).2)) := by
  intro m
  induction m with
  | zero => intro n d e _ h; omega
  | succ m ih =>
    intro n d e hd hm hn he
    simp only [decimal_toward.l0, decimal_toward.b0]
    by_cases h : e < i
    · obtain ⟨d, rfl⟩ : ∃ d', d = d' + 1 := ⟨d - 1, by omega⟩
      have hdm := DivMod_ok (k := k) (x := n) (y := 10) (lim_dsz hn (by omega)) (lim_dsz (show dsz 10 ≤ 5700 by decide) (by omega)) hk
      rw [if_neg (by omega), d10_32] at hdm
      rw [dlt_t h, hdm]
      simp only [cond_true, Option.bind_some, tw]
      rw [if_pos h]
      by_cases hz : n % 10 = 0
      · rw [hz, if_pos rfl]
        have e0 : ((dg 4294967296 0).length : Int) = 0 := rfl
        rw [dlt_f (show ((dg 4294967296 0).length : Int) ≤ 0 by omega), w64_id (by omega) (by omega)]
        exact ih (n / 10) d (e + 1) (by omega) (by omega) (Nat.le_trans (dsz_mono (Nat.div_le_self n 10)) hn) (by omega)
      · rw [if_neg hz]
        have hpos : 0 < (dg 4294967296 (n % 10)).length := (dg_len_pos hB32).2 (by omega)
        rw [dlt_t (show (0 : Int) < ((dg 4294967296 (n % 10)).length : Int) by omega)]; rfl
    · rw [dlt_f (by omega), tw_done d n e i h]; rfl
theorem toward_ok (hk : 20000000000 < k) {n : Nat} {e i : Int} (hn : dsz n ≤ 5700) (he : -1000000 ≤ e) (hi : i ≤ 1000000) : decimal_toward k (dg 4294967296 n) e i = some (dg 4294967296 (toward n e i).1, (toward n e i).2) := by
  unfold decimal_toward
  rw [toward_l hk hi k n (i - e).toNat e rfl (by omega) hn he]; rfl
theorem overflow_ok (hk : 20000000000 < k) {neg : Bool} {p : Nat} {r mn mx : Int} (hp : p ≤ 60) (hm : mx ≤ 999) (hm0 : 0 ≤ mx) : decimal_overflow k neg ((p : Int), r, mn, mx) = some (ovf neg p r mx) := by
  unfold decimal_overflow ovf
  simp only
  rw [away_ok]
  simp only [Option.bind_some]
  cases hc : aw r neg true 1
  · rw [power_ok (by omega) (by omega)]
    simp only [cond_false, Option.bind_some]
    have h1 : dsz 1 ≤ 5700 := by decide
    have hs := Sub_ok (k := k) (x := 10 ^ p) (y := 1) (lim10 (by omega)) (lim_dsz h1 (by omega)) (by omega)
    rw [if_neg (by have := pos10 p; omega), d1_32] at hs
    rw [hs, if_neg (by simp)]
    simp only [Option.bind_some]
    rw [w64_id (n := mx - (p : Int)) (by omega) (by omega), w64_id (n := mx - (p : Int) + 1) (by omega) (by omega)]; rfl
  · rw [if_pos rfl]; rfl
end
end Go.Pl
