/- Decimals: the reference's fit.  Conditions: those that each theorem names. -/
import Derived.Test.YtnopjcpoeffoiaaGreatDoorDcD
set_option linter.unusedVariables false
set_option linter.unusedSimpArgs false
set_option maxHeartbeats 0
namespace Go.Pl
open Go Go.Ev Go.Sh
def stTail (k : Nat) (z8 : Bool × List Int × Int × CtxT × DecT × Int) : Option (DecT × Int) :=
  (brindlewoodref3_Figures k z8.2.1 10).bind fun t9 => joinB (α := Bool × List Int × Int × (Int × Int × Int × Int) × (Int × Bool × (Bool × List Int) × Int) × Int × Bool) (bif decide (0 < (t9.length : Int)) then (some (.inl (z8.1, z8.2.1, z8.2.2.1, z8.2.2.2.1, z8.2.2.2.2.1, z8.2.2.2.2.2, decide (z8.2.2.2.1.2.2.2 < w64 ((w64 ((t9.length : Int) - 1)) + z8.2.2.1))))) else (some (.inl (z8.1, z8.2.1, z8.2.2.1, z8.2.2.2.1, z8.2.2.2.2.1, z8.2.2.2.2.2, false)))) (fun z10 => bif z10.2.2.2.2.2.2 then (joinB (α := Bool × (Int × Int × Int × Int) × (Int × Bool × (Bool × List Int) × Int) × Int) (bif decide (4 ≤ z10.2.2.2.1.2.1) then ((brindlewoodref3_endless z10.1).bind fun t11 => some (.inr (t11, 9))) else (bif (z10.2.2.2.1.2.1 == 1) then ((brindlewoodref3_endless z10.1).bind fun t12 => some (.inr (t12, 9))) else (bif (z10.2.2.2.1.2.1 == 2) then (bif z10.1 then ((brindlewoodref3_endless z10.1).bind fun t13 => some (.inr (t13, 9))) else (bif (z10.2.2.2.1.2.1 == 3) then (bif (!z10.1) then ((brindlewoodref3_endless z10.1).bind fun t14 => some (.inr (t14, 9))) else (some (.inl (z10.1, z10.2.2.2.1, z10.2.2.2.2.1, 9)))) else (some (.inl (z10.1, z10.2.2.2.1, z10.2.2.2.2.1, 9))))) else (bif (z10.2.2.2.1.2.1 == 3) then (bif (!z10.1) then ((brindlewoodref3_endless z10.1).bind fun t15 => some (.inr (t15, 9))) else (some (.inl (z10.1, z10.2.2.2.1, z10.2.2.2.2.1, 9)))) else (some (.inl (z10.1, z10.2.2.2.1, z10.2.2.2.2.1, 9))))))) (fun z16 => (brindlewoodref3_Ten k z16.2.1.1).bind fun t17 => (brindlewoodref3_Small k 1).bind fun t18 => (brindlewoodref3_Minus k t17 t18).bind fun t19 => (brindlewoodref3_Finite k z16.1 t19 (w64 ((w64 (z16.2.1.2.2.2 - z16.2.1.1)) + 1))).bind fun t20 => some (t20, z16.2.2.2)) some) else ((brindlewoodref3_Finite k z10.1 z10.2.1 z10.2.2.1).bind fun t21 => some (t21, z10.2.2.2.2.2.1))) some
section
variable {k : Nat}
theorem stTail_ok (hk : 100000000000000 < k) {neg : Bool} {p : Nat} {r mn mx : Int} (hc : CtxOk p r mn mx) (D : DecT) {x : Nat × Int} {s : Int} (h1 : dsz x.1 ≤ 5700) (h2 : -1000000 ≤ x.2) (h3 : x.2 ≤ 1000000) :
    stTail k (neg, dg 65536 x.1, x.2, ((p : Int), r, mn, mx), D, s) = some (endv neg x s p r mx) := by
  have hx := hc.x2
  have hx1 := hc.x1
  have hp2 := hc.p2
  have hp1 := hc.p1
  have hl := lend16 h1
  unfold stTail
  simp only
  rw [figs_ok hk (by omega)]
  simp only [Option.bind_some]
  rw [figs_len, w64_id (n := (dsz x.1 : Int) - 1) (by omega) (by omega), w64_id (n := (dsz x.1 : Int) - 1 + x.2) (by omega) (by omega)]
  have hdec : (bif decide (0 < (dsz x.1 : Int)) then (some (.inl (neg, dg 65536 x.1, x.2, ((p : Int), r, mn, mx), D, s, decide (mx < (dsz x.1 : Int) - 1 + x.2)))) else (some (.inl (neg, dg 65536 x.1, x.2, ((p : Int), r, mn, mx), D, s, false))) : Option ((Bool × List Int × Int × CtxT × DecT × Int × Bool) ⊕ (DecT × Int))) = some (.inl (neg, dg 65536 x.1, x.2, ((p : Int), r, mn, mx), D, s, decide (0 < x.1 ∧ mx < (dsz x.1 : Int) - 1 + x.2))) := by
    by_cases h0 : 0 < x.1
    · have := dsz_pos.2 h0
      rw [dlt_t (by omega), decide_eq_decide.2 (show mx < (dsz x.1 : Int) - 1 + x.2 ↔ 0 < x.1 ∧ mx < (dsz x.1 : Int) - 1 + x.2 from ⟨fun h => ⟨h0, h⟩, fun h => h.2⟩)]; rfl
    · have hz : x.1 = 0 := Nat.eq_zero_of_not_pos h0
      have : dsz x.1 = 0 := by rw [hz]; rfl
      rw [dlt_f (by omega), decide_eq_false (show ¬ (0 < x.1 ∧ mx < (dsz x.1 : Int) - 1 + x.2) from fun h => h0 h.1)]; rfl
  rw [hdec]
  simp only [joinB_inl]
  unfold endv
  by_cases ho : 0 < x.1 ∧ mx < (dsz x.1 : Int) - 1 + x.2
  · rw [decide_eq_true ho, if_pos ho]
    have hfin : ((brindlewoodref3_Ten k (p : Int)).bind fun t17 => (brindlewoodref3_Small k 1).bind fun t18 => (brindlewoodref3_Minus k t17 t18).bind fun t19 => (brindlewoodref3_Finite k neg t19 (w64 ((w64 (mx - (p : Int))) + 1))).bind fun t20 => some (t20, (9 : Int))) = some (dfin neg (10 ^ p - 1) (mx - p + 1), 9) := by
      have hs : brindlewoodref3_Small k 1 = some (dg 65536 1) := small_ok hk 1 (by omega)
      have hl10 := lend16_pow p
      rw [Ten_ok hk (by omega), hs]
      simp only [Option.bind_some]
      rw [Minus_ok (by have := pos10 p; omega) (by omega) (by omega)]
      simp only [Option.bind_some]
      rw [w64_id (n := mx - (p : Int)) (by omega) (by omega), w64_id (n := mx - (p : Int) + 1) (by omega) (by omega), Finite_ok hk]
      · rfl
      · exact Nat.le_trans (dsz_mono (Nat.sub_le _ _)) (Nat.le_trans (dsz_le.2 (Nat.pow_lt_pow_right (by decide) (Nat.lt_succ_self p))) (by omega))
    have hr1 := hc.r1
    have hr2 := hc.r2
    have hr : r = 0 ∨ r = 1 ∨ r = 2 ∨ r = 3 ∨ r = 4 ∨ r = 5 ∨ r = 6 := by omega
    rcases hr with rfl | rfl | rfl | rfl | rfl | rfl | rfl <;> cases neg <;> first | exact hfin | rfl
  · rw [decide_eq_false ho, if_neg ho]
    simp only [cond_false]
    rw [Finite_ok hk (by omega)]; rfl
theorem settle_l (hk : 100000000000000 < k) {neg : Bool} {i : Int} {c : CtxT} {D : DecT} {s : Int} (hi : i ≤ 1000000) : ∀ (m n d : Nat) (e : Int), (i - e).toNat = d → d < m → dsz n ≤ 5700 → -1000000 ≤ e →
    brindlewoodref3_settle.l0 k m neg (dg 65536 n) e false i c D s = some (.inl (neg, dg 65536 (tw d n e i).1, (tw d n e i).2, c, D, s)) := by
  intro m
  induction m with
  | zero => intro n d e _ h; omega
  | succ m ih =>
    intro n d e hd hm hn he
    simp only [brindlewoodref3_settle.l0, brindlewoodref3_settle.b0, Bool.not_false, cond_true]
    by_cases h : e < i
    · obtain ⟨d, rfl⟩ : ∃ d', d = d' + 1 := ⟨d - 1, by omega⟩
      have hl := lend16 hn
      have hh := Halve_ok (k := k) (x := n) (d := 10) (by omega) (by omega) (by omega) (by omega)
      have hh' : brindlewoodref3_Halve k (dg 65536 n) 10 = some (dg 65536 (n / 10), ((n % 10 : Nat) : Int)) := hh
      rw [dlt_t h, hh']
      simp only [cond_true, Option.bind_some, tw]
      rw [if_pos h]
      by_cases hz : n % 10 = 0
      · rw [hz, if_pos rfl, bne_f (show ((0 : Nat) : Int) = 0 from rfl), w64_id (by omega) (by omega)]
        exact ih (n / 10) d (e + 1) (by omega) (by omega) (Nat.le_trans (dsz_mono (Nat.div_le_self n 10)) hn) (by omega)
      · rw [if_neg hz, bne_t (show ((n % 10 : Nat) : Int) ≠ 0 by omega)]; rfl
    · rw [dlt_f (by omega), tw_done d n e i h]; rfl
theorem settle_in (hk : 100000000000000 < k) {neg : Bool} {i e : Int} {c : CtxT} {D : DecT} {s : Int} {l : List Int} : brindlewoodref3_settle.l0 k k neg l e true i c D s = some (.inl (neg, l, e, c, D, s)) := by
  obtain ⟨m, rfl⟩ : ∃ m, k = m + 1 := ⟨k - 1, by omega⟩
  rfl
theorem rsettle_ok (hk : 100000000000000 < k) {neg : Bool} {n : Nat} {e f ideal : Int} {inex : Bool} {p : Nat} {r mn mx : Int} (hc : CtxOk p r mn mx) (hn : dsz n ≤ 5700) (he1 : -100000 ≤ e) (he2 : e ≤ 100000) (hi1 : -100000 ≤ ideal) (hi2 : ideal ≤ 100000) :
    brindlewoodref3_settle k neg (dg 65536 n) e f inex ideal ((p : Int), r, mn, mx) = some (settleP neg n e f inex ideal p r mn mx) := by
  unfold brindlewoodref3_settle settleP
  simp only
  have h1 : ∀ (A : Bool) (B : List Int) (E F : Int) (I : Bool) (J : Int) (C : CtxT) (D : DecT), (bif decide (f < mn) then (some (.inl (A, B, E, F, I, J, C, D, 2))) else (some (.inl (A, B, E, F, I, J, C, D, 0))) : Option ((Bool × List Int × Int × Int × Bool × Int × CtxT × DecT × Int) ⊕ (DecT × Int))) = some (.inl (A, B, E, F, I, J, C, D, if f < mn then 2 else 0)) := by
    intro A B E F I J C D
    by_cases hf : f < mn
    · rw [decide_eq_true hf, if_pos hf]; rfl
    · rw [decide_eq_false hf, if_neg hf]; rfl
  rw [h1]
  simp only [joinB_inl]
  have h2 : ∀ (A : Bool) (B : List Int) (E : Int) (J : Int) (C : CtxT) (D : DecT), (bif inex then (bif decide (f < mn) then (some (.inl (A, B, E, inex, J, C, D, w64 ((w64 ((if f < mn then 2 else 0) + 1)) + 4)))) else (some (.inl (A, B, E, inex, J, C, D, w64 ((if f < mn then 2 else 0) + 1))))) else (some (.inl (A, B, E, inex, J, C, D, if f < mn then 2 else 0))) : Option ((Bool × List Int × Int × Bool × Int × CtxT × DecT × Int) ⊕ (DecT × Int))) = some (.inl (A, B, E, inex, J, C, D, sigs f mn inex)) := by
    intro A B E J C D
    unfold sigs
    cases inex
    · rw [if_neg (show ¬ (false = true) by simp), Int.add_zero]; rfl
    · by_cases hf : f < mn
      · rw [decide_eq_true hf, if_pos hf, if_pos hf]; rfl
      · rw [decide_eq_false hf, if_neg hf, if_neg hf]; rfl
  rw [h2]
  simp only [joinB_inl]
  have htail : ∀ (y : Nat × Int), dsz y.1 ≤ 5700 → -900000 ≤ y.2 → y.2 ≤ 900000 → ∀ (D : DecT) (s : Int), joinB (α := Bool × List Int × Int × CtxT × DecT × Int) ((brindlewoodref3_Figures k (dg 65536 y.1) 10).bind fun t6 => bif decide ((p : Int) < (t6.length : Int)) then ((brindlewoodref3_Halve k (dg 65536 y.1) 10).bind fun t7 => some (.inl (neg, t7.1, w64 (y.2 + 1), ((p : Int), r, mn, mx), D, s))) else (some (.inl (neg, dg 65536 y.1, y.2, ((p : Int), r, mn, mx), D, s)))) (stTail k) some = some (endv neg (trm p y.1 y.2) s p r mx) := by
    intro y hy y1 y2 D s
    have hl := lend16 hy
    rw [figs_ok hk (by omega)]
    simp only [Option.bind_some]
    rw [figs_len]
    unfold trm
    by_cases hp : p < dsz y.1
    · have hh' : brindlewoodref3_Halve k (dg 65536 y.1) 10 = some (dg 65536 (y.1 / 10), ((y.1 % 10 : Nat) : Int)) := Halve_ok (k := k) (x := y.1) (d := 10) (by omega) (by omega) (by omega) (by omega)
      rw [dlt_t (show (p : Int) < (dsz y.1 : Int) by omega), hh', if_pos hp]
      simp only [cond_true, Option.bind_some, joinB_inl]
      rw [w64_id (by omega) (by omega)]
      exact stTail_ok hk hc D (x := (y.1 / 10, y.2 + 1)) (Nat.le_trans (dsz_mono (Nat.div_le_self _ 10)) hy) (by simp only; omega) (by simp only; omega)
    · rw [dlt_f (show (dsz y.1 : Int) ≤ (p : Int) by omega), if_neg hp]
      simp only [cond_false, joinB_inl]
      exact stTail_ok hk hc D (x := (y.1, y.2)) hy (by simp only; omega) (by simp only; omega)
  cases inex
  · have htw := tw_le (ideal - e).toNat n e ideal
    rw [settle_l hk (by omega) k n (ideal - e).toNat e rfl (by omega) hn (by omega)]
    simp only [joinB_inl, Bool.false_eq_true, if_false]
    exact htail (toward n e ideal) (Nat.le_trans (dsz_mono htw.1) hn) (by show -900000 ≤ (tw (ideal - e).toNat n e ideal).2; omega) (by show (tw (ideal - e).toNat n e ideal).2 ≤ 900000; omega) _ _
  · rw [settle_in hk]
    simp only [joinB_inl, if_true]
    exact htail (n, e) hn (by simp only; omega) (by simp only; omega) _ _
theorem rfit_ok (hk : 100000000000000 < k) {neg : Bool} {num den : Nat} {exp ideal : Int} (hS : Sized num den exp) {p : Nat} {r mn mx : Int} (hc : CtxOk p r mn mx) (hi1 : -100000 ≤ ideal) (hi2 : ideal ≤ 100000) :
    brindlewoodref3_Exact_Fit k (neg, dg 65536 num, dg 65536 den, exp) ideal ((p : Int), r, mn, mx) = some (fitv neg num den exp ideal p r mn mx) := by
  have hx := hc.x2
  have hx1 := hc.x1
  have hp1 := hc.p1
  have hp2 := hc.p2
  have hn1 := hc.n1
  have hn2 := hc.n2
  unfold brindlewoodref3_Exact_Fit fitv
  simp only
  rw [w64_id (n := mn - (p : Int)) (by omega) (by omega), w64_id (n := mn - (p : Int) + 1) (by omega) (by omega)]
  have hfz : ∀ e : Int, brindlewoodref3_Finite k neg [] e = some (dfin neg 0 e) := fun e => Finite_ok hk (n := 0) (by decide)
  by_cases h0 : num = 0
  · subst h0
    rw [show ((dg 65536 0).length : Int) = 0 from rfl, beq_t rfl, if_pos rfl, hfz, hfz, hfz]
    simp only [cond_true, Option.bind_some]
    unfold clip
    by_cases c1 : mx < ideal
    · rw [decide_eq_true c1, decide_eq_false (show ¬ mx < mn - (p : Int) + 1 by omega), if_neg (show ¬ ideal < mn - (p : Int) + 1 by omega), if_pos c1]; rfl
    · rw [decide_eq_false c1]
      by_cases c2 : ideal < mn - (p : Int) + 1
      · rw [decide_eq_true c2, if_pos c2, if_neg (by omega)]; rfl
      · rw [decide_eq_false c2, if_neg c2, if_neg c1]; rfl
  · have hn : 0 < num := Nat.pos_of_ne_zero h0
    have hl : 0 < (dg 65536 num).length := (dg_len_pos hB16).2 hn
    have hS1 := hS.sn; have hS2 := hS.sd; have hS3 := hS.e1; have hS4 := hS.e2
    have hfr := fst_rng (num := num) (den := den) (exp := exp)
    have her := expo_rng (fst10 num den exp) p mn
    have hF := hS.fits hn hc
    have s1 := dsz_pos.2 hn
    have s2 := dsz_pos.2 hS.d0
    rw [beq_f (show ((dg 65536 num).length : Int) ≠ 0 by omega), if_neg h0, rfirst_ok hk hS hn]
    simp only [cond_false, Option.bind_some]
    rw [w64_id (n := fst10 num den exp - (p : Int)) (by omega) (by omega), w64_id (n := fst10 num den exp - (p : Int) + 1) (by omega) (by omega)]
    have hst : ∀ (J : Int) (A : Bool × List Int × List Int × Int) (C : CtxT) (D : DecT) (F : Int), (bif decide (fst10 num den exp - (p : Int) + 1 < mn - (p : Int) + 1) then (some (.inl (J, A, C, D, F, mn - (p : Int) + 1))) else (some (.inl (J, A, C, D, F, fst10 num den exp - (p : Int) + 1))) : Option ((Int × (Bool × List Int × List Int × Int) × CtxT × DecT × Int × Int) ⊕ (DecT × Int))) = some (.inl (J, A, C, D, F, expo (fst10 num den exp) p mn)) := by
      intro J A C D F
      unfold expo
      by_cases h : fst10 num den exp - (p : Int) + 1 < mn - (p : Int) + 1
      · rw [decide_eq_true h, if_pos h]; rfl
      · rw [decide_eq_false h, if_neg h]; rfl
    rw [hst]
    simp only [joinB_inl]
    have hq5 : dsz (rnd neg num den exp (expo (fst10 num den exp) p mn) r).1 ≤ 5700 := by
      have hq1 := (rnq_le neg (pn num exp (expo (fst10 num den exp) p mn)) (pd den exp (expo (fst10 num den exp) p mn)) r).1
      have he := expo_rng (fst10 num den exp) p mn
      have h2 := fst_lt (exp := exp) hn hS.d0
      have h3 : ¬ Ge num den exp (expo (fst10 num den exp) p mn + p) := fun hg => h2 (Ge_le hg (by omega))
      have h4 := quo_lt hS.d0 h3
      refine Nat.le_trans (dsz_mono hq1) (Nat.le_trans (dsz_add (m := p) (dsz_le.2 h4) ?_) (by omega))
      exact dsz_le.2 (Nat.lt_of_lt_of_le (by decide : 1 < 10 ^ 1) (pow10_le hp1))
    rw [rrounded_ok hk hS.d0 hF hc.r1 hc.r2]
    simp only [Option.bind_some]
    rw [rsettle_ok hk hc hq5 (by omega) (by omega) hi1 hi2]; rfl
end
end Go.Pl
