/- Decimals: exact numbers, their first digit, rounding.  Conditions: those that each theorem names. -/
import Derived.Test.YtnopjcpoeffoiaaGreatDoorPlA
set_option linter.unusedVariables false
set_option linter.unusedSimpArgs false
set_option maxHeartbeats 0
namespace Go.Pl
open Go Go.Ev
theorem h10 : 2 ≤ (10 : Nat) := by decide
def dsz (x : Nat) : Nat := (dg 10 x).length
theorem dsz_le {x n : Nat} : dsz x ≤ n ↔ x < 10 ^ n := dg_len_iff h10
theorem dsz_gt {x n : Nat} : n < dsz x ↔ 10 ^ n ≤ x := by
  have := dsz_le (x := x) (n := n); omega
theorem dsz_lt (x : Nat) : x < 10 ^ dsz x := dsz_le.1 (Nat.le_refl _)
theorem dsz_ge {x : Nat} (h : 0 < x) : 10 ^ (dsz x - 1) ≤ x := by
  have h1 : 0 < dsz x := (dg_len_pos h10).2 h
  exact dsz_gt.1 (by omega)
theorem dsz_pos {x : Nat} : 0 < dsz x ↔ 0 < x := dg_len_pos h10
theorem pos10 (n : Nat) : 0 < 10 ^ n := Nat.pow_pos (by decide)
theorem pow10_le {m n : Nat} (h : m ≤ n) : 10 ^ m ≤ 10 ^ n := Nat.pow_le_pow_right (by decide) h
def pn (num : Nat) (exp e : Int) : Nat := num * 10 ^ (exp - e).toNat
def pd (den : Nat) (exp e : Int) : Nat := den * 10 ^ (e - exp).toNat
theorem pd_pos {den : Nat} (h : 0 < den) (exp e : Int) : 0 < pd den exp e := Nat.mul_pos h (pos10 _)
def Ge (num den : Nat) (exp e : Int) : Prop := pd den exp e ≤ pn num exp e
instance (num den : Nat) (exp e : Int) : Decidable (Ge num den exp e) := Nat.decLe _ _
theorem Ge_down {num den : Nat} {exp e : Int} (h : Ge num den exp (e + 1)) : Ge num den exp e := by
  unfold Ge pd pn at *
  by_cases h1 : e + 1 ≤ exp
  · rw [show (e + 1 - exp).toNat = 0 by omega] at h
    rw [show (e - exp).toNat = 0 by omega, show (exp - e).toNat = (exp - (e + 1)).toNat + 1 by omega, Nat.pow_succ, ← Nat.mul_assoc]
    omega
  · rw [show (exp - (e + 1)).toNat = 0 by omega, show (e + 1 - exp).toNat = (e - exp).toNat + 1 by omega, Nat.pow_succ, ← Nat.mul_assoc] at h
    rw [show (exp - e).toNat = 0 by omega]
    omega
theorem Ge_mono {num den : Nat} {exp : Int} : ∀ (d : Nat) (e : Int), Ge num den exp (e + d) → Ge num den exp e := by
  intro d
  induction d with
  | zero => intro e h; rw [show e + ((0 : Nat) : Int) = e by omega] at h; exact h
  | succ d ih =>
    intro e h
    refine ih e (Ge_down ?_)
    rw [show e + (d : Int) + 1 = e + ((d + 1 : Nat) : Int) by omega]; exact h
theorem Ge_le {num den : Nat} {exp e e' : Int} (h : Ge num den exp e) (he : e' ≤ e) : Ge num den exp e' :=
  Ge_mono (e - e').toNat e' (by rw [show e' + ((e - e').toNat : Int) = e by omega]; exact h)
def fst10 (num den : Nat) (exp : Int) : Int := if Ge num den exp ((dsz num : Int) - dsz den + exp) then (dsz num : Int) - dsz den + exp else (dsz num : Int) - dsz den - 1 + exp
theorem not_ge_top {num den : Nat} {exp : Int} (hn : 0 < num) (hd : 0 < den) : ¬ Ge num den exp ((dsz num : Int) - dsz den + exp + 1) := by
  unfold Ge pd pn
  have a1 := dsz_lt num
  have a2 := dsz_ge hd
  have a3 := dsz_pos.2 hd
  refine Nat.not_le.2 ?_
  generalize dsz num = sn at *
  generalize dsz den = sd at *
  by_cases h : sd ≤ sn + 1
  · rw [show (exp - ((sn : Int) - sd + exp + 1)).toNat = 0 by omega, show ((sn : Int) - sd + exp + 1 - exp).toNat = sn + 1 - sd by omega, Nat.pow_zero, Nat.mul_one]
    have := Nat.mul_le_mul_right (10 ^ (sn + 1 - sd)) a2
    rw [← Nat.pow_add, show sd - 1 + (sn + 1 - sd) = sn by omega] at this
    omega
  · rw [show ((sn : Int) - sd + exp + 1 - exp).toNat = 0 by omega, show (exp - ((sn : Int) - sd + exp + 1)).toNat = sd - 1 - sn by omega, Nat.pow_zero, Nat.mul_one]
    have := Nat.mul_lt_mul_of_pos_right a1 (pos10 (sd - 1 - sn))
    rw [← Nat.pow_add, show sn + (sd - 1 - sn) = sd - 1 by omega] at this
    omega
theorem ge_low {num den : Nat} {exp : Int} (hn : 0 < num) (hd : 0 < den) : Ge num den exp ((dsz num : Int) - dsz den - 1 + exp) := by
  unfold Ge pd pn
  have a1 := dsz_lt den
  have a2 := dsz_ge hn
  have a3 := dsz_pos.2 hn
  generalize dsz num = sn at *
  generalize dsz den = sd at *
  by_cases h : sd + 1 ≤ sn
  · rw [show (exp - ((sn : Int) - sd - 1 + exp)).toNat = 0 by omega, show ((sn : Int) - sd - 1 + exp - exp).toNat = sn - 1 - sd by omega, Nat.pow_zero, Nat.mul_one]
    have := Nat.mul_lt_mul_of_pos_right a1 (pos10 (sn - 1 - sd))
    rw [← Nat.pow_add, show sd + (sn - 1 - sd) = sn - 1 by omega] at this
    omega
  · rw [show ((sn : Int) - sd - 1 + exp - exp).toNat = 0 by omega, show (exp - ((sn : Int) - sd - 1 + exp)).toNat = sd + 1 - sn by omega, Nat.pow_zero, Nat.mul_one]
    have := Nat.mul_le_mul_right (10 ^ (sd + 1 - sn)) a2
    rw [← Nat.pow_add, show sn - 1 + (sd + 1 - sn) = sd by omega] at this
    omega
theorem fst_lt {num den : Nat} {exp : Int} (hn : 0 < num) (hd : 0 < den) : ¬ Ge num den exp (fst10 num den exp + 1) := by
  unfold fst10
  by_cases h : Ge num den exp ((dsz num : Int) - dsz den + exp)
  · rw [if_pos h]; exact not_ge_top hn hd
  · rw [if_neg h, show (dsz num : Int) - dsz den - 1 + exp + 1 = (dsz num : Int) - dsz den + exp by omega]; exact h
theorem fst_rng {num den : Nat} {exp : Int} : (dsz num : Int) - dsz den - 1 + exp ≤ fst10 num den exp ∧ fst10 num den exp ≤ (dsz num : Int) - dsz den + exp := by
  unfold fst10; split <;> omega
theorem quo_lt {num den : Nat} {exp e : Int} {p : Nat} (hd : 0 < den) (h : ¬ Ge num den exp (e + p)) : pn num exp e / pd den exp e < 10 ^ p := by
  rw [Nat.div_lt_iff_lt_mul (pd_pos hd _ _)]
  unfold Ge at h
  have h := Nat.not_le.1 h
  unfold pn pd at *
  by_cases h1 : e + p ≤ exp
  · rw [show (e + (p : Int) - exp).toNat = 0 by omega, Nat.pow_zero, Nat.mul_one] at h
    rw [show (e - exp).toNat = 0 by omega, Nat.pow_zero, Nat.mul_one, show (exp - e).toNat = (exp - (e + p)).toNat + p by omega, Nat.pow_add, ← Nat.mul_assoc, Nat.mul_comm (10 ^ p)]
    exact Nat.mul_lt_mul_of_pos_right h (pos10 p)
  · rw [show (exp - (e + (p : Int))).toNat = 0 by omega, Nat.pow_zero, Nat.mul_one] at h
    by_cases h2 : e ≤ exp
    · rw [show (e - exp).toNat = 0 by omega, Nat.pow_zero, Nat.mul_one]
      have := Nat.mul_lt_mul_of_pos_right h (pos10 (exp - e).toNat)
      rw [Nat.mul_assoc, ← Nat.pow_add, show (e + (p : Int) - exp).toNat + (exp - e).toNat = p by omega, Nat.mul_comm den] at this
      exact this
    · rw [show (exp - e).toNat = 0 by omega, Nat.pow_zero, Nat.mul_one]
      rw [show (e + (p : Int) - exp).toNat = (e - exp).toNat + p by omega, Nat.pow_add, ← Nat.mul_assoc, Nat.mul_comm (den * _)] at h
      exact h
def cmpN (x y : Nat) : Int := if x < y then -1 else if y < x then 1 else 0
def aw (r : Int) (neg odd : Bool) (half : Int) : Bool :=
  if r = 1 then true else if r = 2 then neg else if r = 3 then !neg else if r = 4 then decide (0 ≤ half) else if r = 5 then decide (0 < half) else if r = 6 then decide (0 < half) || (decide (half = 0) && odd) else false
def rnq (neg : Bool) (a b : Nat) (r : Int) : Nat × Bool :=
  if a % b = 0 then (a / b, false) else (if aw r neg (decide (a / b % 2 = 1)) (cmpN (2 * (a % b)) b) = true then a / b + 1 else a / b, true)
def rnd (neg : Bool) (num den : Nat) (exp e r : Int) : Nat × Bool := rnq neg (pn num exp e) (pd den exp e) r
theorem rnq_le (neg : Bool) (a b : Nat) (r : Int) : (rnq neg a b r).1 ≤ a / b + 1 ∧ ((rnq neg a b r).2 = false → (rnq neg a b r).1 = a / b ∧ a % b = 0) := by
  unfold rnq
  split
  · rename_i h; exact ⟨by simp, fun _ => ⟨rfl, h⟩⟩
  · split <;> exact ⟨by simp, fun h => by simp at h⟩
def tw : Nat → Nat → Int → Int → Nat × Int
  | 0, n, e, _ => (n, e)
  | m + 1, n, e, i => if e < i then (if n % 10 = 0 then tw m (n / 10) (e + 1) i else (n, e)) else (n, e)
def toward (n : Nat) (e i : Int) : Nat × Int := tw (i - e).toNat n e i
theorem tw_le : ∀ (m n : Nat) (e i : Int), (tw m n e i).1 ≤ n ∧ e ≤ (tw m n e i).2 ∧ ((tw m n e i).2 ≤ i ∨ (tw m n e i).2 = e) := by
  intro m
  induction m with
  | zero => intro n e i; exact ⟨Nat.le_refl _, Int.le_refl _, .inr rfl⟩
  | succ m ih =>
    intro n e i
    simp only [tw]
    split
    · split
      · have := ih (n / 10) (e + 1) i
        have := Nat.div_le_self n 10
        omega
      · exact ⟨Nat.le_refl _, Int.le_refl _, .inr rfl⟩
    · exact ⟨Nat.le_refl _, Int.le_refl _, .inr rfl⟩
theorem tw_done : ∀ (m n : Nat) (e i : Int), ¬ e < i → tw m n e i = (n, e) := by
  intro m n e i h
  cases m with
  | zero => rfl
  | succ m => simp only [tw]; rw [if_neg h]
abbrev DecT := Int × Bool × (Bool × List Int) × Int
abbrev CtxT := Int × Int × Int × Int
def dfin (neg : Bool) (c : Nat) (e : Int) : DecT := (0, neg, (false, dg 4294967296 c), e)
def dinf (neg : Bool) : DecT := (1, neg, (false, []), 0)
def dnone : DecT := (2, false, (false, []), 0)
def ovf (neg : Bool) (p : Nat) (r mx : Int) : DecT := if aw r neg true 1 = true then dinf neg else dfin neg (10 ^ p - 1) (mx - p + 1)
def trm (p n : Nat) (e : Int) : Nat × Int := if p < dsz n then (n / 10, e + 1) else (n, e)
def endv (neg : Bool) (x : Nat × Int) (s : Int) (p : Nat) (r mx : Int) : DecT × Int := if 0 < x.1 ∧ mx < (dsz x.1 : Int) - 1 + x.2 then (ovf neg p r mx, 9) else (dfin neg x.1 x.2, s)
def sigs (f mn : Int) (inex : Bool) : Int := (if f < mn then 2 else 0) + (if inex = true then 1 + (if f < mn then 4 else 0) else 0)
def settleP (neg : Bool) (n : Nat) (e f : Int) (inex : Bool) (ideal : Int) (p : Nat) (r mn mx : Int) : DecT × Int :=
  endv neg (trm p (if inex = true then (n, e) else toward n e ideal).1 (if inex = true then (n, e) else toward n e ideal).2) (sigs f mn inex) p r mx
def clip (ideal tiny mx : Int) : Int := if mx < (if ideal < tiny then tiny else ideal) then mx else (if ideal < tiny then tiny else ideal)
def expo (f : Int) (p : Nat) (mn : Int) : Int := if f - p + 1 < mn - p + 1 then mn - p + 1 else f - p + 1
def fitv (neg : Bool) (num den : Nat) (exp ideal : Int) (p : Nat) (r mn mx : Int) : DecT × Int :=
  if num = 0 then (dfin neg 0 (clip ideal (mn - p + 1) mx), 0)
  else settleP neg (rnd neg num den exp (expo (fst10 num den exp) p mn) r).1 (expo (fst10 num den exp) p mn) (fst10 num den exp) (rnd neg num den exp (expo (fst10 num den exp) p mn) r).2 ideal p r mn mx
theorem lim10 {n : Nat} (h : n ≤ 5760) : 10 ^ n < lim := by
  obtain ⟨m, hm⟩ : ∃ m : Nat, m = 640 := ⟨_, rfl⟩
  have h1 : (10 ^ 9) ^ m < (2 ^ 30) ^ m := Nat.pow_lt_pow_left (by decide) (by omega)
  rw [← Nat.pow_mul, ← Nat.pow_mul] at h1
  have h2 : lim = 2 ^ (30 * m) := by
    have e := e600_eq
    rw [lim_def, show (4294967296 : Nat) = 2 ^ 32 by decide, ← Nat.pow_mul]
    congr 1
    omega
  rw [h2]
  exact Nat.lt_of_le_of_lt (pow10_le (by omega)) h1
theorem lim_dsz {x n : Nat} (h : dsz x ≤ n) (hn : n ≤ 5760) : x < lim := Nat.lt_trans (dsz_le.1 h) (lim10 hn)
theorem dsz_mul_pow {x n m : Nat} (h : dsz x ≤ m) : dsz (x * 10 ^ n) ≤ m + n := by
  rw [dsz_le, Nat.pow_add]
  exact Nat.mul_lt_mul_of_pos_right (dsz_le.1 h) (pos10 n)
theorem dsz_mono {x y : Nat} (h : x ≤ y) : dsz x ≤ dsz y := dsz_le.2 (Nat.lt_of_le_of_lt h (dsz_lt y))
theorem dsz_add {x y m : Nat} (hx : dsz x ≤ m) (hy : dsz y ≤ m) : dsz (x + y) ≤ m + 1 := by
  rw [dsz_le, Nat.pow_succ]
  have h1 := dsz_le.1 hx
  have h2 := dsz_le.1 hy
  omega
end Go.Pl
