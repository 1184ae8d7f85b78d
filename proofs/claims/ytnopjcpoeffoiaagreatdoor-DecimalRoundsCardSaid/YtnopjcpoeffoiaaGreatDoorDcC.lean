/- Decimals: the program's fit.  Conditions: those that each theorem names. -/
import Derived.Test.YtnopjcpoeffoiaaGreatDoorDcB
set_option linter.unusedVariables false
set_option linter.unusedSimpArgs false
set_option maxHeartbeats 0
namespace Go.Pl
open Go Go.Ev Go.Sh
structure CtxOk (p : Nat) (r mn mx : Int) : Prop where
  p1 : 1 ≤ p
  p2 : p ≤ 60
  r1 : 0 ≤ r
  r2 : r ≤ 6
  n1 : -999 ≤ mn
  n2 : mn ≤ 0
  x1 : 0 ≤ mx
  x2 : mx ≤ 999
structure Sized (num den : Nat) (exp : Int) : Prop where
  d0 : 0 < den
  sn : dsz num ≤ 4000
  sd : dsz den ≤ 1300
  e1 : -2500 ≤ exp
  e2 : exp ≤ 6000
theorem expo_rng (f : Int) (p : Nat) (mn : Int) : f - p + 1 ≤ expo f p mn ∧ mn - p + 1 ≤ expo f p mn ∧ (expo f p mn = f - p + 1 ∨ expo f p mn = mn - p + 1) := by
  unfold expo; split <;> omega
theorem Sized.fits {num den : Nat} {exp : Int} (h : Sized num den exp) (hn : 0 < num) {p : Nat} {r mn mx : Int} (hc : CtxOk p r mn mx) : Fits num den exp (expo (fst10 num den exp) p mn) := by
  have h1 := h.sn; have h2 := h.sd; have h3 := h.e1; have h4 := h.e2
  have c1 := hc.p1; have c2 := hc.p2; have c3 := hc.n1; have c4 := hc.n2
  have s1 := dsz_pos.2 hn
  have s2 := dsz_pos.2 h.d0
  have hf := fst_rng (num := num) (den := den) (exp := exp)
  have he := expo_rng (fst10 num den exp) p mn
  constructor <;> omega
def fitTail (k : Nat) (neg : Bool) (c : CtxT) (l : List Int) (e s : Int) : Option (DecT × Int) :=
  bif decide (0 < (l.length : Int)) then ((decimal_size k l).bind fun t14 => bif decide (c.2.2.2 < w64 ((w64 (t14 - 1)) + e)) then ((decimal_overflow k neg c).bind fun t15 => some (t15, 9)) else ((decimal_finite neg l e).bind fun t16 => some (t16, s))) else ((decimal_finite neg l e).bind fun t17 => some (t17, s))
theorem fitTail_ok {k : Nat} (hkk : k = 1000000000000000000) {neg : Bool} {p : Nat} {r mn mx : Int} (hc : CtxOk p r mn mx) {x : Nat × Int} {s : Int} (h1 : dsz x.1 ≤ 5700) (h2 : -1000000 ≤ x.2) (h3 : x.2 ≤ 1000000) : fitTail k neg ((p : Int), r, mn, mx) (dg 4294967296 x.1) x.2 s = some (endv neg x s p r mx) := by
  have hk : 20000000000 < k := by rw [hkk]; decide
  have hx := hc.x2
  have hx1 := hc.x1
  have hp2 := hc.p2
  unfold fitTail endv
  simp only
  by_cases h0 : 0 < x.1
  · have hl : 0 < (dg 4294967296 x.1).length := (dg_len_pos hB32).2 h0
    have hs := dsz_pos.2 h0
    rw [dlt_t (show (0 : Int) < ((dg 4294967296 x.1).length : Int) by omega), size_ok hkk (lim_dsz h1 (by omega))]
    simp only [cond_true, Option.bind_some]
    rw [w64_id (n := (dsz x.1 : Int) - 1) (by omega) (by omega), w64_id (n := (dsz x.1 : Int) - 1 + x.2) (by omega) (by omega)]
    by_cases hm : mx < (dsz x.1 : Int) - 1 + x.2
    · rw [decide_eq_true hm, if_pos ⟨h0, hm⟩, overflow_ok hk hp2 hx hx1]; rfl
    · rw [decide_eq_false hm, if_neg (fun hh => hm hh.2)]; rfl
  · have hz : x.1 = 0 := Nat.eq_zero_of_not_pos h0
    have hl : (dg 4294967296 x.1).length = 0 := by rw [hz]; rfl
    rw [dlt_f (show ((dg 4294967296 x.1).length : Int) ≤ 0 by omega), if_neg (fun hh => h0 hh.1)]; rfl
theorem tiny_ok {p : Nat} {r mn mx : Int} (hc : CtxOk p r mn mx) : decimal_tiny ((p : Int), r, mn, mx) = some (mn - p + 1) := by
  have h1 := hc.p2; have h2 := hc.n1; have h3 := hc.n2
  unfold decimal_tiny
  simp only
  rw [w64_id (n := mn - (p : Int)) (by omega) (by omega), w64_id (by omega) (by omega)]
theorem exact_size {neg : Bool} {num den : Nat} {exp : Int} (hn : 0 < num) (hd : 0 < den) {p : Nat} {r mn : Int} (hx : (rnd neg num den exp (expo (fst10 num den exp) p mn) r).2 = false) (i : Int) : dsz (toward (rnd neg num den exp (expo (fst10 num den exp) p mn) r).1 (expo (fst10 num den exp) p mn) i).1 ≤ p := by
  have he := expo_rng (fst10 num den exp) p mn
  have h1 := (rnq_le neg (pn num exp (expo (fst10 num den exp) p mn)) (pd den exp (expo (fst10 num den exp) p mn)) r).2 hx
  have h2 := fst_lt (exp := exp) hn hd
  have h3 : ¬ Ge num den exp (expo (fst10 num den exp) p mn + p) := fun hg => h2 (Ge_le hg (by omega))
  have h4 := quo_lt hd h3
  refine Nat.le_trans (dsz_mono (tw_le _ _ _ _).1) (dsz_le.2 ?_)
  unfold rnd
  rw [h1.1]; exact h4
theorem dfit_ok {k : Nat} (hkk : k = 1000000000000000000) {neg : Bool} {num den : Nat} {exp ideal : Int} (hS : Sized num den exp) {p : Nat} {r mn mx : Int} (hc : CtxOk p r mn mx) (hi1 : -100000 ≤ ideal) (hi2 : ideal ≤ 100000) :
    decimal_exact_fit k (neg, dg 4294967296 num, dg 4294967296 den, exp) ideal ((p : Int), r, mn, mx) = some (fitv neg num den exp ideal p r mn mx) := by
  have hk : 20000000000 < k := by rw [hkk]; decide
  have hx := hc.x2
  have hx1 := hc.x1
  have hp1 := hc.p1
  have hp2 := hc.p2
  have hn1 := hc.n1
  have hn2 := hc.n2
  unfold decimal_exact_fit fitv
  simp only
  by_cases h0 : num = 0
  · subst h0
    rw [show ((dg 4294967296 0).length : Int) = 0 from rfl, beq_t rfl, if_pos rfl, tiny_ok hc]; rfl
  · have hn : 0 < num := Nat.pos_of_ne_zero h0
    have hl : 0 < (dg 4294967296 num).length := (dg_len_pos hB32).2 hn
    have hS1 := hS.sn; have hS2 := hS.sd; have hS3 := hS.e1; have hS4 := hS.e2
    have hfr := fst_rng (num := num) (den := den) (exp := exp)
    have her := expo_rng (fst10 num den exp) p mn
    have hF := hS.fits hn hc
    have s1 := dsz_pos.2 hn
    have s2 := dsz_pos.2 hS.d0
    rw [beq_f (show ((dg 4294967296 num).length : Int) ≠ 0 by omega), if_neg h0, first_ok hkk hn hS.d0 (by omega) (by omega) (by omega) (by omega)]
    simp only [cond_false, Option.bind_some]
    rw [tiny_ok hc]
    simp only [Option.bind_some]
    rw [w64_id (n := fst10 num den exp - (p : Int)) (by omega) (by omega), w64_id (n := fst10 num den exp - (p : Int) + 1) (by omega) (by omega)]
    have hex : mxI (fst10 num den exp - (p : Int) + 1) (mn - p + 1) = expo (fst10 num den exp) p mn := rfl
    rw [hex, rounded_ok hk hS.d0 hF]
    simp only [Option.bind_some]
    have hsz := pn_size hF
    have hq1 := (rnq_le neg (pn num exp (expo (fst10 num den exp) p mn)) (pd den exp (expo (fst10 num den exp) p mn)) r).1
    have hq : dsz (rnd neg num den exp (expo (fst10 num den exp) p mn) r).1 ≤ 5701 := by
      refine Nat.le_trans (dsz_mono hq1) (dsz_add (m := 5700) ?_ (by decide))
      exact Nat.le_trans (dsz_mono (Nat.div_le_self _ _)) hsz.1
    have hxs := fun hx => exact_size (p := p) (mn := mn) (r := r) (neg := neg) (exp := exp) hn hS.d0 hx ideal
    have hq5 : dsz (rnd neg num den exp (expo (fst10 num den exp) p mn) r).1 ≤ 5700 := by
      have he := expo_rng (fst10 num den exp) p mn
      have h2 := fst_lt (exp := exp) hn hS.d0
      have h3 : ¬ Ge num den exp (expo (fst10 num den exp) p mn + p) := fun hg => h2 (Ge_le hg (by omega))
      have h4 := quo_lt hS.d0 h3
      refine Nat.le_trans (dsz_mono hq1) (Nat.le_trans (dsz_add (m := p) (dsz_le.2 h4) ?_) (by omega))
      exact dsz_le.2 (Nat.lt_of_lt_of_le (by decide : 1 < 10 ^ 1) (pow10_le hp1))
    unfold settleP
    generalize rnd neg num den exp (expo (fst10 num den exp) p mn) r = Q at *
    generalize expo (fst10 num den exp) p mn = e at *
    generalize fst10 num den exp = f at *
    obtain ⟨q, inex⟩ := Q
    simp only at *
    have hst : (bif decide (f < mn) then (some (.inl (ideal, (neg, dg 4294967296 num, dg 4294967296 den, exp), ((p : Int), r, mn, mx), ((0, false, (false, []), 0) : DecT), f, e, dg 4294967296 q, inex, bitsOp .or .i64 0 2))) else (some (.inl (ideal, (neg, dg 4294967296 num, dg 4294967296 den, exp), ((p : Int), r, mn, mx), ((0, false, (false, []), 0) : DecT), f, e, dg 4294967296 q, inex, 0))) : Option ((Int × (Bool × List Int × List Int × Int) × CtxT × DecT × Int × Int × List Int × Bool × Int) ⊕ (DecT × Int))) = some (.inl (ideal, (neg, dg 4294967296 num, dg 4294967296 den, exp), ((p : Int), r, mn, mx), ((0, false, (false, []), 0) : DecT), f, e, dg 4294967296 q, inex, if f < mn then 2 else 0)) := by
      by_cases hf : f < mn
      · rw [decide_eq_true hf, if_pos hf]; rfl
      · rw [decide_eq_false hf, if_neg hf]; rfl
    rw [hst]
    simp only [joinB_inl]
    cases inex
    · -- exact
      have hxs' := hxs rfl
      have htw := tw_le (ideal - e).toNat q e ideal
      simp only [cond_false]
      rw [toward_ok hk hq5 (by omega) (by omega)]
      simp only [Option.bind_some, joinB_inl]
      have htr : trm p (toward q e ideal).1 (toward q e ideal).2 = toward q e ideal := by
        unfold trm; rw [if_neg (by omega)]
      have hsg : sigs f mn false = if f < mn then 2 else 0 := by unfold sigs; rw [if_neg (show ¬ (false = true) by simp), Int.add_zero]
      have h2 : (toward q e ideal).2 = (tw (ideal - e).toNat q e ideal).2 := rfl
      have hT := fitTail_ok hkk (neg := neg) hc (x := toward q e ideal) (s := if f < mn then 2 else 0) (by omega) (by omega) (by omega)
      simp only [Bool.false_eq_true, if_false]
      rw [htr, hsg, ← hT]
      rfl
    · -- inexact
      simp only [cond_true, if_true]
      have hst2 : ∀ (A : Bool × List Int × List Int × Int) (B : CtxT) (D : DecT) (E : Int) (L : List Int), (bif decide (f < mn) then (some (.inl (A, B, D, E, L, bitsOp .or .i64 (bitsOp .or .i64 (if f < mn then 2 else 0) 1) 4))) else (some (.inl (A, B, D, E, L, bitsOp .or .i64 (if f < mn then 2 else 0) 1))) : Option (((Bool × List Int × List Int × Int) × CtxT × DecT × Int × List Int × Int) ⊕ (DecT × Int))) = some (.inl (A, B, D, E, L, sigs f mn true)) := by
        intro A B D E L
        unfold sigs
        by_cases hf : f < mn
        · rw [decide_eq_true hf, if_pos hf, if_pos hf]; rfl
        · rw [decide_eq_false hf, if_neg hf, if_neg hf]; rfl
      rw [hst2]
      simp only [joinB_inl]
      rw [size_ok hkk (lim_dsz hq5 (by omega))]
      simp only [Option.bind_some]
      by_cases hp : p < dsz q
      · have hdm := DivMod_ok (k := k) (x := q) (y := 10) (lim_dsz hq5 (by omega)) (lim_dsz (show dsz 10 ≤ 5700 by decide) (by omega)) hk
        rw [if_neg (by omega), d10_32] at hdm
        have htr : trm p q e = (q / 10, e + 1) := by unfold trm; rw [if_pos hp]
        rw [dlt_t (show (p : Int) < (dsz q : Int) by omega), hdm]
        simp only [cond_true, Option.bind_some, joinB_inl]
        rw [w64_id (n := e + 1) (by omega) (by omega)]
        have hT := fitTail_ok hkk (neg := neg) hc (x := (q / 10, e + 1)) (s := sigs f mn true) (Nat.le_trans (dsz_mono (Nat.div_le_self q 10)) hq5) (by simp only; omega) (by simp only; omega)
        rw [htr, ← hT]
        rfl
      · have htr : trm p q e = (q, e) := by unfold trm; rw [if_neg hp]
        rw [dlt_f (show (dsz q : Int) ≤ (p : Int) by omega)]
        simp only [cond_false, joinB_inl]
        have hT := fitTail_ok hkk (neg := neg) hc (x := (q, e)) (s := sigs f mn true) hq5 (by simp only; omega) (by simp only; omega)
        rw [htr, ← hT]
        rfl
end Go.Pl
