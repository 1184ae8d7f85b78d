/- RationalMakes: its plain function answers true.  Conditions: values within their kinds, lists no longer than memory. -/
import Derived.Test.YtpigdmmofiiacaaRaC
set_option linter.unusedVariables false
set_option linter.unusedSimpArgs false
namespace Go.Pl
open Go Go.Ev Go.Sh

/-- what is left of the power -/
def powTail (k : Nat) (z7 : Int × ((Bool × List Int) × Bool × List Int) × ((Bool × List Int) × Bool × List Int) × Int × Int) : Option (((Bool × List Int) × Bool × List Int) × Int × Int) :=
  (integer_Pow k z7.2.1.1 z7.1).bind fun t8 => (integer_Pow k z7.2.1.2 z7.1).bind fun t9 => bif (t8.2.1 != 0) then ((rational_at 14 (-1)).bind fun t10 => some (((false, []), false, []), t10)) else (bif (t9.2.1 != 0) then ((rational_at 14 (-1)).bind fun t11 => some (((false, []), false, []), t11)) else (some ((t8.1, t9.1), (0, 0))))

/-- what is left of the reference's power -/
def refTail (k : Nat) (z23 : Int × ((Bool × List Int) × Bool × List Int) × (Int × Int) × (Bool × List Int) × List Int) : Option (Bool) :=
  (brindlewoodref3_Int_Raised k z23.2.2.2.1 z23.1).bind fun t24 => (brindlewoodref3_Int_Raised k (false, z23.2.2.2.2) z23.1).bind fun t25 => bif (!t24.2) then ((brindlewoodref3_At 14 (-1)).bind fun t26 => (brindlewoodlaw3_gives k z23.2.1 z23.2.2.1 ((false, []), []) t26).bind fun t27 => some t27) else (bif (!t25.2) then ((brindlewoodref3_At 14 (-1)).bind fun t28 => (brindlewoodlaw3_gives k z23.2.1 z23.2.2.1 ((false, []), []) t28).bind fun t29 => some t29) else ((brindlewoodlaw3_gives k z23.2.1 z23.2.2.1 (t24.1, t25.1.2) (0, 0)).bind fun t30 => some t30))

/-- what is left of the law behind the quotient -/
def makesTail (k : Nat) (z13 : Int × ((Bool × List Int) × Bool × List Int) × ((Bool × List Int) × Bool × List Int) × (Int × Int) × Int × Int) : Option (Bool) :=
  (brindlewoodlaw3_ratioFaults k [z13.2.1]).bind fun t14 => joinB (α := Int × ((Bool × List Int) × Bool × List Int) × ((Bool × List Int) × Bool × List Int) × (Int × Int) × Int × Int) (bif (t14.1 != 0) then (some (.inl (z13.1, z13.2.1, z13.2.2.1, z13.2.2.2.1, t14))) else (joinB (α := Int × ((Bool × List Int) × Bool × List Int) × ((Bool × List Int) × Bool × List Int) × (Int × Int) × (Int × Int) × Bool) (bif decide (z13.1 < (-10000)) then (some (.inl (z13.1, z13.2.1, z13.2.2.1, z13.2.2.2.1, t14, true))) else (some (.inl (z13.1, z13.2.1, z13.2.2.1, z13.2.2.2.1, t14, decide (10000 < z13.1))))) (fun z15 => bif z15.2.2.2.2.2 then ((brindlewoodref3_At 4 (-2)).bind fun t16 => some (.inl (z15.1, z15.2.1, z15.2.2.1, z15.2.2.2.1, t16))) else (bif decide (z15.1 < 0) then ((brindlewoodref3_NoInt z15.2.1.1).bind fun t17 => bif t17 then ((brindlewoodref3_At 22 (-1)).bind fun t18 => some (.inl (z15.1, z15.2.1, z15.2.2.1, z15.2.2.2.1, t18))) else (some (.inl (z15.1, z15.2.1, z15.2.2.1, z15.2.2.2.1, z15.2.2.2.2.1)))) else (some (.inl (z15.1, z15.2.1, z15.2.2.1, z15.2.2.2.1, z15.2.2.2.2.1))))) (fun r => some (.inr r)))) (fun z19 => bif (z19.2.2.2.2.1 != 0) then ((brindlewoodlaw3_gives k z19.2.2.1 z19.2.2.2.1 ((false, []), []) z19.2.2.2.2).bind fun t20 => some t20) else ((brindlewoodref3_RatioOf k z19.2.1).bind fun t21 => joinB (α := Int × ((Bool × List Int) × Bool × List Int) × (Int × Int) × (Bool × List Int) × List Int) (bif decide (z19.1 < 0) then ((brindlewoodref3_Ratio_Turned t21).bind fun t22 => some (.inl (w64 (0 - z19.1), z19.2.2.1, z19.2.2.2.1, t22))) else (some (.inl (z19.1, z19.2.2.1, z19.2.2.2.1, t21)))) (fun z23 => (brindlewoodref3_Int_Raised k z23.2.2.2.1 z23.1).bind fun t24 => (brindlewoodref3_Int_Raised k (false, z23.2.2.2.2) z23.1).bind fun t25 => bif (!t24.2) then ((brindlewoodref3_At 14 (-1)).bind fun t26 => (brindlewoodlaw3_gives k z23.2.1 z23.2.2.1 ((false, []), []) t26).bind fun t27 => some t27) else (bif (!t25.2) then ((brindlewoodref3_At 14 (-1)).bind fun t28 => (brindlewoodlaw3_gives k z23.2.1 z23.2.2.1 ((false, []), []) t28).bind fun t29 => some t29) else ((brindlewoodlaw3_gives k z23.2.1 z23.2.2.1 (t24.1, t25.1.2) (0, 0)).bind fun t30 => some t30))) some)) some

theorem gives_ok' {k : Nat} (hk : 2000000001 < k) {c : Fr'} {p : Int} {q : Nat} (hc : RR c p q) (h1 : p.natAbs < ilim) (h2 : q < ilim) : brindlewoodlaw3_gives k (rq p q) (0, 0) c (0, 0) = some true := by
  have e : decide (p.natAbs < ilim ∧ q < ilim) = true := decide_eq_true ⟨h1, h2⟩
  unfold brindlewoodlaw3_gives
  rw [rqFits_ok hc, e]
  simp only [beq_self_eq_true, cond_true, Option.bind_some, Bool.not_true, cond_false, joinB_inl, bne_self_eq_false, Bool.and_self]
  rw [SameRatio_ok hk hc h1 h2]; rfl

theorem powTail_ok {k : Nat} (hk : 100000000000000 < k) {P : Int} {Q m : Nat} (hP : P.natAbs < ilim) (hQ : Q < ilim) (hm : m ≤ 10000) {c : Fr'} (hc : RR c P Q) (y : Rt) (f : Int × Int) :
    ∃ z g, powTail k ((m : Int), rq P Q, y, f) = some (z, g) ∧ refTail k ((m : Int), z, g, c) = some true := by
  have hk' : 20000000000 < k := by omega
  obtain ⟨c1, c2⟩ := c
  obtain ⟨hc1, hc2⟩ := hc
  simp only at hc1 hc2
  subst hc2
  have e1 := iPow_ok hk' (x := P) (e := (m : Int)) hP
  have e2 := iPow_ok hk' (x := (Q : Int)) (e := (m : Int)) (by simpa using hQ)
  rw [if_neg (by omega), Int.toNat_natCast] at e1 e2
  have eQ : ((Q : Int) ^ m) = ((Q ^ m : Nat) : Int) := by rw [Int.natCast_pow]
  rw [eQ] at e2
  have r1 := Raised_ok hk hc1 hP (e := m) (by omega)
  have r2 := Raised_ok hk (RI_nat Q) (by simpa using hQ) (e := m) (by omega)
  rw [eQ] at r2
  have hA : ∀ a b : Int, rational_at a b = some (a, b) := fun _ _ => rfl
  unfold powTail
  simp only [rq]
  rw [e1, e2]
  simp only [Option.bind_some]
  unfold refTail
  rcases r1 with ⟨d1, f1, g1, h1⟩ | ⟨f1, h1⟩
  · rw [ires_ok h1]
    simp only [bne_self_eq_false, cond_false]
    rcases r2 with ⟨d2, f2, g2, h2⟩ | ⟨f2, h2⟩
    · rw [ires_ok h2]
      refine ⟨_, _, rfl, ?_⟩
      simp only [f1, f2, Option.bind_some, Bool.not_true, cond_false]
      have h2' : Q ^ m < ilim := by simpa using h2
      have := gives_ok' (k := k) (by omega) (c := (d1, d2.2)) (p := P ^ m) (q := Q ^ m) ⟨g1, RI_nn g2⟩ h1 h2'
      simp only [rq] at this
      rw [this]; rfl
    · have e : ires ((Q ^ m : Nat) : Int) = ((false, []), 14, -1) := by unfold ires; rw [if_neg h2]
      rw [e]
      refine ⟨_, _, rfl, ?_⟩
      simp only [f1, f2, Option.bind_some, Bool.not_true, cond_false, Bool.not_false, cond_true, rAt, hA]
      rw [gives_err (by decide)]; rfl
  · have e : ires (P ^ m) = ((false, []), 14, -1) := by unfold ires; rw [if_neg h1]
    rw [e]
    refine ⟨_, _, rfl, ?_⟩
    simp only [f1, Option.bind_some, Bool.not_false, cond_true, rAt, hA]
    rcases r2 with ⟨d2, f2, g2, h2⟩ | ⟨f2, h2⟩
    · simp only [f2, Option.bind_some]; rw [gives_err (by decide)]; rfl
    · simp only [f2, Option.bind_some]; rw [gives_err (by decide)]; rfl

theorem pow_ok {k : Nat} (hk : 100000000000000 < k) {x : Rt} (hx : Wf RtT x) {n : Int} (h1 : -9223372036854775808 ≤ n) (h2 : n ≤ 9223372036854775807) : ∃ z g, rational_Pow k x n = some (z, g) ∧ ∀ w, makesTail k (n, x, z, g, w) = some true := by
  have hk' : 20000000000 < k := by omega
  have hA : ∀ a b : Int, rational_at a b = some (a, b) := fun _ _ => rfl
  have hR := RatioOk_ok hk hx
  have hF := qfaults_eq k (l := [x]) (fun y hy => by simp at hy; rw [hy]; exact hR) (by simp)
  rcases rat_cases hk' hx with ⟨p, q, hV, rfl, hv⟩ | hv
  · rw [qcheck1 hk' hV] at hF
    obtain ⟨c, e1, r1, _⟩ := RatioOf_ok (k := k) (by omega) hV
    obtain ⟨a1, a2, a3, a4⟩ := hV
    unfold rational_Pow makesTail
    rw [qcheck1 hk' ⟨a1, a2, a3, a4⟩]
    simp only [Option.bind_some, bne_self_eq_false, cond_false, hF]
    by_cases c1 : n < -10000
    · have d1 : decide (n < -10000) = true := decide_eq_true c1
      simp only [d1, cond_true, joinB_inl, hA, Option.bind_some, joinB_inr]
      refine ⟨_, _, rfl, fun w => ?_⟩
      simp only [d1, rAt, Option.bind_some, joinB_inl, bne_t (show (4 : Int) ≠ 0 by decide), cond_true]
      rw [gives_err (by decide)]; rfl
    · have d1 : decide (n < -10000) = false := decide_eq_false c1
      by_cases c2 : 10000 < n
      · have d2 : decide (10000 < n) = true := decide_eq_true c2
        simp only [d1, d2, cond_true, cond_false, joinB_inl, hA, Option.bind_some, joinB_inr]
        refine ⟨_, _, rfl, fun w => ?_⟩
        simp only [d1, d2, cond_false, rAt, Option.bind_some, joinB_inl, bne_t (show (4 : Int) ≠ 0 by decide), cond_true]
        rw [gives_err (by decide)]; rfl
      · have d2 : decide (10000 < n) = false := decide_eq_false c2
        by_cases c3 : n < 0
        · have d3 : decide (n < 0) = true := decide_eq_true c3
          have hN : brindlewoodref3_NoInt (rq p q).1 = some (decide (p = 0)) := NoInt_ok p
          by_cases h0 : p = 0
          · subst h0
            have e0 : (((rq 0 q).1.2.length : Int) == 0) = true := rfl
            have hN' : brindlewoodref3_NoInt (rq 0 q).1 = some true := hN
            simp only [d1, d2, d3, e0, cond_true, cond_false, joinB_inl, hA, Option.bind_some, joinB_inr]
            refine ⟨_, _, rfl, fun w => ?_⟩
            simp only [d1, d2, d3, hN', cond_false, rAt, Option.bind_some, joinB_inl, bne_t (show (22 : Int) ≠ 0 by decide), cond_true]
            rw [gives_err (by decide)]; rfl
          · have hl := (dg_len_pos (n := p.natAbs) hB32).2 (by omega)
            have e0 : (((rq p q).1.2.length : Int) == 0) = false := beq_f (by show ((dg 4294967296 p.natAbs).length : Int) ≠ 0; omega)
            have hN' : brindlewoodref3_NoInt (rq p q).1 = some false := by rw [hN, decide_eq_false h0]
            have ea : (if p < 0 then -(q : Int) else q).natAbs = q := by split <;> simp
            have eb : (((rq p q).1.1, (rq p q).2.2), false, (rq p q).1.2) = rq (if p < 0 then -(q : Int) else q) p.natAbs := by
              unfold rq
              rw [iz_nat, iz_nat]
              by_cases hn : p < 0
              · rw [if_pos hn]; unfold iz; rw [decide_eq_true hn, decide_eq_true (by omega), Int.natAbs_neg, Int.natAbs_natCast]
              · rw [if_neg hn, iz_nat]; unfold iz; rw [decide_eq_false hn]
            obtain ⟨d, e2, r2⟩ := Turned_ok r1 h0
            have em : w64 (0 - n) = ((n.natAbs : Nat) : Int) := by rw [w64_id (by omega) (by omega)]; omega
            obtain ⟨z, g, t1, t2⟩ := powTail_ok hk (P := if p < 0 then -(q : Int) else q) (Q := p.natAbs) (m := n.natAbs) (by rw [ea]; exact a2) a1 (by omega) r2 ((false, []), false, []) (0, 0)
            simp only [d1, d2, d3, e0, eb, em, cond_true, cond_false, joinB_inl, Option.bind_some]
            refine ⟨z, g, t1, fun w => ?_⟩
            simp only [d1, d2, d3, hN', em, cond_true, cond_false, joinB_inl, bne_self_eq_false, e1, e2, Option.bind_some]
            exact t2
        · have d3 : decide (n < 0) = false := decide_eq_false c3
          have em : n = ((n.natAbs : Nat) : Int) := by omega
          obtain ⟨z, g, t1, t2⟩ := powTail_ok hk (P := p) (Q := q) (m := n.natAbs) a1 a2 (by omega) r1 ((false, []), false, []) (0, 0)
          rw [← em] at t1 t2
          simp only [d1, d2, d3, cond_false, joinB_inl, Option.bind_some]
          refine ⟨z, g, t1, fun w => ?_⟩
          simp only [d1, d2, d3, cond_false, joinB_inl, bne_self_eq_false, e1, Option.bind_some]
          exact t2
  · have hC := qcheck_ok (k := k) (by omega) (l := [x]) (fun y hy => .inr (by simp at hy; rw [hy]; exact hv)) (by simp)
    rw [badQ_f _ _ hv] at hC
    rw [hC] at hF
    unfold rational_Pow makesTail
    rw [hC]
    refine ⟨_, _, rfl, fun w => ?_⟩
    simp only [hF, Option.bind_some, bne_t (show (6 : Int) ≠ 0 by decide), cond_true, joinB_inl]
    rw [gives_err (by decide)]; rfl

theorem rm_main {k : Nat} (hk : 100000000000000 < k) (hP : brindlewoodlaw3_parts k = some true) {a b : Bool × List Int} {x : Rt} {n : Int} (ha : Wf IT a) (hb : Wf IT b) (hx : Wf RtT x) (h1 : -9223372036854775808 ≤ n) (h2 : n ≤ 9223372036854775807) : brindlewoodlaw3_RationalMakes k a b x n = some true := by
  have hk' : 20000000000 < k := by omega
  have hA : ∀ a b : Int, rational_at a b = some (a, b) := fun _ _ => rfl
  obtain ⟨z, g, e1, hT⟩ := pow_ok hk hx h1 h2
  unfold brindlewoodlaw3_RationalMakes
  rw [e1, hP, faults_eq]
  have va := int_vals ha
  have vb := int_vals hb
  have ha2 := int_valid ha
  have hb2 := int_valid hb
  have hC := check_ok' (k := k) (by omega) (l := [a, b]) (fun y hy => by
    simp at hy
    rcases hy with rfl | rfl
    · exact ha2
    · exact hb2) (by simp)
  rw [hC]
  rcases va with ⟨p, hp, rfl, hv⟩ | hv
  · rw [badI_t _ _ hv]
    rcases vb with ⟨d, hd, rfl, hw⟩ | hw
    · rw [badI_t _ _ hw, rMake_ok hk' hp hd]
      have e0 : badI [] (0 + 1 + 1) = (0, 0) := rfl
      simp only [Option.bind_some, Bool.not_true, cond_false, e0, beq_self_eq_true, cond_true, NoInt_ok]
      by_cases h0 : d = 0
      · rw [decide_eq_true h0, if_pos h0]
        simp only [cond_true, rAt, Option.bind_some, joinB_inl, bne_t (show (22 : Int) ≠ 0 by decide)]
        rw [gives_err (by decide)]
        simp only [Option.bind_some, Bool.not_true, cond_false, joinB_inl]
        exact hT _
      · rw [decide_eq_false h0, if_neg h0]
        simp only [cond_false, joinB_inl, bne_self_eq_false]
        rw [IntOf_ok (by omega) hd]
        simp only [Option.bind_some, iz_abs, iz_neg]
        have l1 := ilim_iff.2 hp
        have m1 := ilen16 hp
        have m2 := ilen16 hd
        rw [Of_ok (dd32 _) (dg_ev hB32 _) (by omega) (by omega)]
        simp only [Option.bind_some]
        have e : (if d < 0 then -p else p).natAbs = p.natAbs := by split <;> simp
        obtain ⟨c, e2, r2⟩ := Lowest_ok hk (c := (((!(decide (p < 0) == decide (d < 0))), dg 65536 p.natAbs), dg 65536 d.natAbs)) (x := if d < 0 then -p else p) (y := d.natAbs) ⟨⟨by rw [e], fun hne => by
          simp only
          by_cases hn : d < 0
          · rw [if_pos hn] at hne ⊢
            rw [decide_eq_true hn]
            by_cases hx : p < 0
            · rw [decide_eq_true hx, decide_eq_false (by omega)]; rfl
            · rw [decide_eq_false hx, decide_eq_true (by omega)]; rfl
          · rw [if_neg hn, decide_eq_false hn]
            cases decide (p < 0) <;> rfl⟩, rfl⟩ (by rw [e]; omega) (by omega) (by omega)
        rw [e2]
        simp only [Option.bind_some]
        rw [gives_ok (by omega) r2]
        simp only [Option.bind_some, Bool.not_true, cond_false, joinB_inl]
        exact hT _
    · rw [badI_f _ _ hw]
      have e2 : rational_Make k (iz p) b = some (((false, []), false, []), 6, -2) := by
        unfold rational_Make
        rw [hv, hw]; rfl
      rw [e2]
      have e3 : (-1 - ((0 + 1 : Nat) : Int)) = -2 := rfl
      simp only [Option.bind_some, Bool.not_true, cond_false, beq_f (show (6 : Int) ≠ 0 by decide), joinB_inl, bne_t (show (6 : Int) ≠ 0 by decide), cond_true, e3]
      rw [gives_err (by decide)]
      simp only [Option.bind_some, Bool.not_true, cond_false, joinB_inl]
      exact hT _
  · rw [badI_f _ _ hv]
    have e2 : rational_Make k a b = some (((false, []), false, []), 6, -1) := by
      unfold rational_Make
      rw [hv]; rfl
    rw [e2]
    have e3 : (-1 - ((0 : Nat) : Int)) = -1 := rfl
    simp only [Option.bind_some, Bool.not_true, cond_false, beq_f (show (6 : Int) ≠ 0 by decide), joinB_inl, bne_t (show (6 : Int) ≠ 0 by decide), cond_true, e3]
    rw [gives_err (by decide)]
    simp only [Option.bind_some, Bool.not_true, cond_false, joinB_inl]
    exact hT _

theorem rationalMakes_plain {a b : Bool × List Int} {x : Rt} {n : Int} (ha : Wf IT a) (hb : Wf IT b) (hx : Wf RtT x) (hn : Wf (.int .i64) n) : brindlewoodlaw3_RationalMakes 1000000000000000000 a b x n = some true := by
  have : (-9223372036854775808 : Int) ≤ n ∧ n ≤ 9223372036854775807 := hn
  exact rm_main (by decide) parts_ok ha hb hx this.1 this.2
end Go.Pl
