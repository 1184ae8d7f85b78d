/- RangesMeet, joined.  Conditions: limbs within their kind, lists no longer than memory. -/
import Derived.Test.YtjodgimhfafecaaRgJ
set_option linter.unusedVariables false
set_option linter.unusedSimpArgs false
set_option maxHeartbeats 0
namespace Go.Pl
open Go Go.Ev Go.Sh
theorem mem_bound {s t d v : Int} (h : RV s t d) (hn : cnt s t d ≠ 0) (hm : mem s t d v) : v.natAbs ≤ rlim - 1 := by
  obtain ⟨h1, h2, h3, h4⟩ := h
  have hp := rlim_big.1
  obtain ⟨a1, a2, a3, a4, _⟩ := up_facts (p := rlim - 1) h4 hn (by omega) (by omega) (by omega)
  obtain ⟨_, g1, g2⟩ := (mem_rng h4 hn).1 hm
  omega
def meetLaw (k : Nat) (z6 : Rg × Rg × Rg × (Int × Int) × Int × Int) : Option Bool :=
  (brindlewoodlaw3_spans k).bind fun t7 => bif (!t7) then (some false) else (bif (z6.2.2.2.2.1 != 0) then (bif ((z6.2.2.2.1.1 == z6.2.2.2.2.1) && ((z6.2.2.2.1.2 == z6.2.2.2.2.2) && true)) then ((brindlewoodref3_NoRange z6.2.2.1).bind fun t8 => some t8) else (some false)) else ((brindlewoodref3_RangeOf k z6.1).bind fun t9 => (brindlewoodref3_RangeOf k z6.2.1).bind fun t10 => (brindlewoodref3_Met k t9 t10).bind fun t11 => (brindlewoodref3_Number k (-1)).bind fun t12 => (brindlewoodref3_Int_Plus k t11.2.2 t12).bind fun t13 => (brindlewoodref3_Int_Times k t11.2.1 t13).bind fun t14 => (brindlewoodref3_Int_Plus k t11.1 t14).bind fun t15 => bif decide (0 < (t11.2.2.2.length : Int)) then ((brindlewoodref3_Number k 1).bind fun t16 => (brindlewoodref3_Int_Plus k t15 t16).bind fun t17 => (brindlewoodref3_Int_Fits t17 40).bind fun t18 => bif (!t18) then ((brindlewoodref3_At 14 (-1)).bind fun t19 => bif ((z6.2.2.2.1.1 == t19.1) && ((z6.2.2.2.1.2 == t19.2) && true)) then ((brindlewoodref3_NoRange z6.2.2.1).bind fun t20 => some t20) else (some false)) else ((brindlewoodref3_Number k 1).bind fun t21 => (brindlewoodref3_Int_Order k t11.2.2 t21).bind fun t22 => bif decide (0 < t22) then ((brindlewoodref3_Int_Fits t11.2.1 40).bind fun t23 => bif (!t23) then ((brindlewoodref3_At 14 (-1)).bind fun t24 => bif ((z6.2.2.2.1.1 == t24.1) && ((z6.2.2.2.1.2 == t24.2) && true)) then ((brindlewoodref3_NoRange z6.2.2.1).bind fun t25 => some t25) else (some false)) else (bif (z6.2.2.2.1.1 == 0) then ((brindlewoodref3_IsPlain k z6.2.2.1 t11.1 t11.2.1 t11.2.2 1).bind fun t26 => some t26) else (some false))) else (bif (z6.2.2.2.1.1 == 0) then ((brindlewoodref3_IsPlain k z6.2.2.1 t11.1 t11.2.1 t11.2.2 1).bind fun t27 => some t27) else (some false)))) else (bif (z6.2.2.2.1.1 == 0) then ((brindlewoodref3_IsPlain k z6.2.2.1 t11.1 t11.2.1 t11.2.2 1).bind fun t28 => some t28) else (some false))))
theorem meetLaw_ok {k : Nat} (hk : 100000000000000 < k) (hsp : brindlewoodlaw3_spans k = some true) {s t d s' t' d' : Int} (h : RV s t d) (h' : RV s' t' d') {p : Rg} {f : Int × Int} (hm : ranges_Meet k (rz s t d) (rz s' t' d') = some (p, f)) : meetLaw k (rz s t d, rz s' t' d', p, f, 0, 0) = some true := by
  obtain ⟨p1, p2⟩ := rlim_sq
  have hat : ∀ a b : Int, brindlewoodref3_At a b = some (a, b) := fun _ _ => rfl
  have ln : ∀ x : Int, x.natAbs ≤ 100 * (rlim * rlim) → ((dg 65536 x.natAbs).length : Int) ≤ 1000000 := fun x hx => by have := lenP hx; omega
  obtain ⟨o, o1, o2, _⟩ := num_ok (k := k) (by omega) 1 (by omega) (by omega)
  obtain ⟨u, u1, u2, _⟩ := num_ok (k := k) (by omega) (-1) (by omega) (by omega)
  obtain ⟨A, S, C, L, r1, hA, hS, hC, hL, _, hs⟩ := RangeOf_ok hk h
  obtain ⟨A', S', C', L', r1', hA', hS', hC', hL', _, hs'⟩ := RangeOf_ok hk h'
  obtain ⟨F0, L0, S0, hS0, hM, hmem⟩ := Meet_ok (k := k) (by omega) h h'
  rw [hm] at hM
  obtain ⟨P, U, N, F, D, n, m1, hP, hU, hN, hor⟩ := Met_ok hk h h' hA hS hC hL hs hA' hS' hC' hL' hs'
  unfold meetLaw
  rw [hsp]
  simp only [Option.bind_some, Bool.not_true, cond_false, bne_self_eq_false]
  rw [r1, r1']
  simp only [Option.bind_some]
  rw [m1, u1]
  simp only [Option.bind_some]
  rcases hor with ⟨rfl, rfl, rfl, hno⟩ | ⟨hn1, hD, bD, E, hcn, hmem2⟩
  · -- nothing in common
    have hc0 : cnt F0 (L0 + 1) S0 = 0 := by
      refine Decidable.byContradiction fun hc => ?_
      have hc2 := cnt_rng F0 (L0 + 1) S0 (by omega)
      exact hno F0 ((hmem F0).1 ⟨0, by omega, by omega, by omega⟩)
    have e1 : plainS F0 (L0 + 1) S0 = 0 := by unfold plainS; rw [if_pos hc0]
    have e2 : plainT F0 (L0 + 1) S0 = 0 := by unfold plainT; rw [if_pos hc0]
    have e3 : plainD F0 (L0 + 1) S0 = 1 := by unfold plainD; rw [if_pos hc0]
    have hV : RV 0 0 1 := ⟨by simpa using (by omega : 0 < rlim), by simpa using (by omega : 0 < rlim), by simpa using (by omega : 1 < rlim), by decide⟩
    rw [e1, e2, e3, if_pos hV] at hM
    simp only [Option.some.injEq, Prod.mk.injEq] at hM
    obtain ⟨rfl, rfl⟩ := hM
    obtain ⟨a, a1, a2⟩ := rPlus_ok hk hN u2 (by decide) (by decide)
    rw [a1]
    simp only [Option.bind_some]
    obtain ⟨b, b1, b2⟩ := rTimes_ok hk hU a2 (by decide) (by decide)
    rw [b1]
    simp only [Option.bind_some]
    obtain ⟨c, c1, c2⟩ := rPlus_ok hk hP b2 (by decide) (by decide)
    rw [c1]
    simp only [Option.bind_some]
    rw [RI_pos_len hN]
    simp only [ne_eq, not_true_eq_false, decide_false, cond_false, beq_self_eq_true, cond_true]
    rw [IsPlain0_ok hk hN]; rfl
  · -- something
    have hn1' : cnt F (E + 1) D ≠ 0 := by omega
    have hq := plain_uniq hS0 hD (fun v => (hmem v).trans (hmem2 v).symm)
    have bF : F.natAbs ≤ rlim - 1 := by
      have := (hmem2 F).1 ⟨0, by omega, by omega, by omega⟩
      by_cases hc : cnt s t d = 0
      · exact absurd this.1 (not_mem0 hc)
      · exact mem_bound h hc this.1
    have bL : (F + D * (n - 1)).natAbs ≤ rlim - 1 := by
      have := (hmem2 (F + D * (n - 1))).1 ⟨n - 1, by omega, by omega, by omega⟩
      by_cases hc : cnt s t d = 0
      · exact absurd this.1 (not_mem0 hc)
      · exact mem_bound h hc this.1
    have bn : n - 1 ≤ D * (n - 1) := by
      have : 1 * (n - 1) ≤ D * (n - 1) := Int.mul_le_mul_of_nonneg_right (by omega) (by omega)
      omega
    have e1 : plainS F (E + 1) D = F := by unfold plainS; rw [if_neg hn1']
    have e2 : plainT F (E + 1) D = F + D * (n - 1) + 1 := by
      unfold plainT rlast sg
      rw [if_neg hn1', if_neg (by omega), ← hcn]
    have e3 : plainD F (E + 1) D = if n = 1 then 1 else D := by
      unfold plainD pstep sg
      rw [if_neg hn1', ← hcn, if_neg (show ¬ D < 0 by omega)]
      by_cases h1 : n = 1
      · rw [if_pos h1, if_neg (by omega)]
      · rw [if_neg h1, if_pos (by omega)]
    rw [hq.1, hq.2.1, hq.2.2, e1, e2, e3] at hM
    obtain ⟨a, a1, a2⟩ := rPlus_ok hk hN u2 (ln _ (by omega)) (by decide)
    rw [a1]
    simp only [Option.bind_some]
    rw [show n + -1 = n - 1 by omega] at a2
    obtain ⟨b, b1, b2⟩ := rTimes_ok hk hU a2 (ln _ (by omega)) (ln _ (by omega))
    rw [b1]
    simp only [Option.bind_some]
    obtain ⟨c, c1, c2⟩ := rPlus_ok hk hP b2 (ln _ (by omega)) (ln _ (by omega))
    rw [c1]
    simp only [Option.bind_some]
    rw [RI_pos_len hN, decide_eq_true (show n ≠ 0 by omega), o1]
    simp only [cond_true, Option.bind_some]
    obtain ⟨g, g1, g2⟩ := rPlus_ok hk c2 o2 (ln _ (by omega)) (by decide)
    rw [g1]
    simp only [Option.bind_some]
    rw [Fits40_ok g2]
    simp only [Option.bind_some]
    have toolarge : ¬ RV F (F + D * (n - 1) + 1) (if n = 1 then 1 else D) → (bif (f.1 == 14) && ((f.2 == -1) && true) then ((brindlewoodref3_NoRange p).bind fun t20 => some t20) else some false) = some true := by
      intro hv
      rw [if_neg hv] at hM
      simp only [Option.some.injEq, Prod.mk.injEq] at hM
      obtain ⟨rfl, rfl⟩ := hM
      rfl
    have plain : RV F (F + D * (n - 1) + 1) (if n = 1 then 1 else D) → (bif (f.1 == 0) then ((brindlewoodref3_IsPlain k p P U N 1).bind fun t27 => some t27) else (some false)) = some true := by
      intro hv
      rw [if_pos hv] at hM
      simp only [Option.some.injEq, Prod.mk.injEq] at hM
      obtain ⟨rfl, rfl⟩ := hM
      have he : (if n = 1 then 1 else D) * (n - 1) = D * (n - 1) := by
        by_cases h1 : n = 1
        · subst h1; simp
        · rw [if_neg h1]
      have hsg : sg (if n = 1 then 1 else D) = 1 := by unfold sg; split <;> (try split) <;> omega
      have hb : n = 1 ∨ D.natAbs ≤ 8 * rlim := by
        by_cases h1 : n = 1
        · exact .inl h1
        · right
          have h3 := hv.2.2.1
          rw [if_neg h1] at h3
          omega
      have := IsPlain_ok hk hP hU hN hn1 (e := if n = 1 then 1 else D) (one := 1) rfl (by omega) (by omega) (by omega) hb (by omega) (by rw [he]; omega)
      rw [he, hsg] at this
      simp only [beq_self_eq_true, cond_true]
      rw [this]; rfl
    by_cases hfit : (F + D * (n - 1) + 1).natAbs < rlim
    · rw [decide_eq_true hfit]
      simp only [Bool.not_true, cond_false]
      rw [iOrder_ok (by omega) hN o2 (ln _ (by omega)) (by decide)]
      simp only [Option.bind_some]
      by_cases h1 : n = 1
      · have : decide (0 < sgn n 1) = false := by unfold sgn; rw [if_neg (by omega), if_neg (by omega)]; rfl
        rw [this]
        simp only [cond_false]
        exact plain ⟨by omega, hfit, by rw [if_pos h1]; show 1 < rlim; omega, by rw [if_pos h1]; decide⟩
      · have : decide (0 < sgn n 1) = true := by unfold sgn; rw [if_neg (by omega), if_pos (by omega)]; rfl
        rw [this]
        simp only [cond_true]
        rw [Fits40_ok hU]
        simp only [Option.bind_some]
        by_cases hfd : D.natAbs < rlim
        · rw [decide_eq_true hfd]
          simp only [Bool.not_true, cond_false]
          exact plain ⟨by omega, hfit, by rw [if_neg h1]; exact hfd, by rw [if_neg h1]; omega⟩
        · rw [decide_eq_false hfd]
          simp only [Bool.not_false, cond_true, hat, Option.bind_some]
          exact toolarge (fun hv => hfd (by have := hv.2.2.1; rw [if_neg h1] at this; exact this))
    · rw [decide_eq_false hfit]
      simp only [Bool.not_false, cond_true, hat, Option.bind_some]
      exact toolarge (fun hv => hfit hv.2.1)
theorem rangesMeet_plain {r o : Rg} (hr : Wf RT r) (ho : Wf RT o) : brindlewoodlaw3_RangesMeet 1000000000000000000 r o = some true := by
  have hat : ∀ a b : Int, brindlewoodref3_At a b = some (a, b) := fun _ _ => rfl
  have hvo : ranges_Valid o = some true ∨ ranges_Valid o = some false := by
    rcases range_cases ho with ⟨_, _, _, _, _, v⟩ | v
    · exact .inl v
    · exact .inr v
  unfold brindlewoodlaw3_RangesMeet
  rw [RangeOk_ok (by decide) hr, RangeOk_ok (by decide) ho]
  rcases range_cases hr with ⟨s, t, d, h, rfl, v⟩ | v
  · rcases range_cases ho with ⟨s', t', d', h', rfl, v'⟩ | v'
    · obtain ⟨F, L, S, hS, hM, _⟩ := Meet_ok (k := 1000000000000000000) (by decide) h h'
      rw [hM, v, v']
      simp only [Option.bind_some, Bool.not_true, cond_false, joinB_inl]
      exact meetLaw_ok (by decide) spans_ok h h' hM
    · have hM : ranges_Meet 1000000000000000000 (rz s t d) o = some (noR, 6, -2) := by
        unfold ranges_Meet
        rw [rcheck2_no2 (by decide) v v']; rfl
      rw [hM, v, v']
      simp only [Option.bind_some, Bool.not_true, Bool.not_false, cond_false, cond_true, hat, joinB_inl, spans_ok]
      rfl
  · have hM : ranges_Meet 1000000000000000000 r o = some (noR, 6, -1) := by
      unfold ranges_Meet
      rw [rcheck2_no1 (by decide) v hvo]; rfl
    rw [hM, v]
    simp only [Option.bind_some, Bool.not_true, Bool.not_false, cond_false, cond_true, hat, joinB_inl, spans_ok]
    rfl
end Go.Pl
