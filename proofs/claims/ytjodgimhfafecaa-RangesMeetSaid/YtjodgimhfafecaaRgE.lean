/- RangesForms: its plain function answers true.  Conditions: values within their kinds, lists no longer than memory. -/
import Derived.Test.YtjodgimhfafecaaRgD
set_option linter.unusedVariables false
set_option linter.unusedSimpArgs false
namespace Go.Pl
open Go Go.Ev Go.Sh
theorem rlim16 : rlim = 65536 ^ 80 := by
  rw [rlim_eq, show (80 : Nat) = 2 * 40 from rfl, Nat.pow_mul]
theorem Fits40_ok {c : Bool × List Int} {v : Int} (hc : RI c v) : brindlewoodref3_Int_Fits c 40 = some (decide (v.natAbs < rlim)) := by
  unfold brindlewoodref3_Int_Fits
  have hw : w64 (2 * 40) = 80 := by decide
  rw [hw, hc.1]
  show some (decide _) = _
  congr 1
  apply decide_eq_decide.2
  rw [rlim16, ← dg_len_iff hB16]; omega
theorem sgn_zero_iff {x y : Int} : (sgn x y == 0) = decide (x = y) := by
  unfold sgn
  by_cases h1 : x < y
  · rw [if_pos h1, decide_eq_false (by omega)]; rfl
  · by_cases h2 : y < x
    · rw [if_neg h1, if_pos h2, decide_eq_false (by omega)]; rfl
    · rw [if_neg h1, if_neg h2, decide_eq_true (by omega)]; rfl
theorem NoRange_ok : brindlewoodref3_NoRange noR = some true := rfl
theorem IsPlain0_ok {k : Nat} (hk : 100000000000000 < k) {F S C : Bool × List Int} (hC : RI C 0) (one : Int) : brindlewoodref3_IsPlain k (rz 0 0 1) F S C one = some true := by
  have hp := rlim_big.1
  unfold brindlewoodref3_IsPlain rz
  rw [RI_zero_len hC]
  obtain ⟨o, o1, o2, _⟩ := num_ok (k := k) (by omega) 1 (by omega) (by omega)
  simp only [decide_true, cond_true]
  rw [NoInt_ok, o1]
  simp only [Option.bind_some, decide_true, cond_true]
  rw [SameInt_ok (by omega) o2 (small_ilim (by show 1 ≤ _; omega))]
  rfl
theorem IsPlain_ok {k : Nat} (hk : 100000000000000 < k) {F S C : Bool × List Int} {f d n one e : Int} (hF : RI F f) (hS : RI S d) (hC : RI C n) (hn : 1 ≤ n) (he : e = if n = 1 then one else d) (hone : -10 ≤ one ∧ one ≤ 10 ∧ one ≠ 0) (hd0 : d ≠ 0)
    (bf : f.natAbs ≤ 8 * rlim) (bd : n = 1 ∨ d.natAbs ≤ 8 * rlim) (bn : n.natAbs ≤ 8 * rlim) (be : (e * (n - 1)).natAbs ≤ 8 * rlim) : brindlewoodref3_IsPlain k (rz f (f + e * (n - 1) + sg e) e) F S C one = some true := by
  have hp := rlim_big.1
  have q0 : ∀ x : Int, x.natAbs ≤ 80 * rlim → x.natAbs < ilim := fun x hx => small_ilim (by omega)
  have q1 : ∀ x : Int, x.natAbs ≤ 80 * rlim → ((dg 65536 x.natAbs).length : Int) ≤ 1000000 := fun x hx => by have := rlen16 (q0 x hx); omega
  have hsge : (sg e).natAbs ≤ 1 := by unfold sg; split <;> omega
  have hebd : e.natAbs ≤ 8 * rlim := by rw [he]; split <;> omega
  have he0 : e ≠ 0 := by rw [he]; split <;> omega
  obtain ⟨o, o1, o2, o3⟩ := num_ok (k := k) (by omega) 1 (by omega) (by omega)
  obtain ⟨u, u1, u2, u3⟩ := num_ok (k := k) (by omega) (-1) (by omega) (by omega)
  unfold brindlewoodref3_IsPlain rz
  rw [RI_zero_len hC, decide_eq_false (show ¬ n = 0 by omega), o1]
  simp only [cond_false, Option.bind_some]
  rw [iOrder_ok (by omega) hC o2 (q1 _ (by omega)) (by decide)]
  simp only [Option.bind_some]
  rw [sgn_zero_iff]
  -- the step
  obtain ⟨E, hE, hx⟩ : ∃ E, RI E e ∧ (bif decide (n = 1) then ((brindlewoodref3_Number k one).bind fun t7 => some (.inl (((iz f, iz (f + e * (n - 1) + sg e), iz e) : Rg), F, t7, C))) else (some (.inl ((iz f, iz (f + e * (n - 1) + sg e), iz e), F, S, C))) : Option ((Rg × (Bool × List Int) × (Bool × List Int) × (Bool × List Int)) ⊕ Bool)) = some (.inl ((iz f, iz (f + e * (n - 1) + sg e), iz e), F, E, C)) := by
    by_cases h1 : n = 1
    · rw [if_pos h1] at he
      obtain ⟨w, w1, w2, _⟩ := num_ok (k := k) (by omega) one (by omega) (by omega)
      refine ⟨w, by rw [he]; exact w2, ?_⟩
      rw [w1, decide_eq_true h1]; rfl
    · rw [if_neg h1] at he
      exact ⟨S, by rw [he]; exact hS, by rw [decide_eq_false h1]; rfl⟩
  rw [hx]
  simp only [joinB_inl]
  -- its sign
  have hEs : E.1 = decide (e < 0) := hE.2 he0
  obtain ⟨G, hG, hy⟩ : ∃ G, RI G (sg e) ∧ (bif E.1 then ((brindlewoodref3_Number k (-1)).bind fun t10 => some (.inl (((iz f, iz (f + e * (n - 1) + sg e), iz e) : Rg), F, E, C, t10))) else (some (.inl ((iz f, iz (f + e * (n - 1) + sg e), iz e), F, E, C, o))) : Option ((Rg × (Bool × List Int) × (Bool × List Int) × (Bool × List Int) × (Bool × List Int)) ⊕ Bool)) = some (.inl ((iz f, iz (f + e * (n - 1) + sg e), iz e), F, E, C, G)) := by
    rw [hEs]
    by_cases h1 : e < 0
    · have : sg e = -1 := by unfold sg; rw [if_pos h1]
      rw [this]
      refine ⟨u, u2, ?_⟩
      rw [u1, decide_eq_true h1]; rfl
    · have : sg e = 1 := by unfold sg; rw [if_neg h1]
      rw [this]
      exact ⟨o, o2, by rw [decide_eq_false h1]; rfl⟩
  rw [hy]
  simp only [joinB_inl]
  rw [u1]
  simp only [Option.bind_some]
  obtain ⟨a, a1, a2⟩ := rPlus_ok hk hC u2 (q1 _ (by omega)) (by decide)
  have e3 : n + -1 = n - 1 := by omega
  rw [e3] at a2
  rw [a1]
  simp only [Option.bind_some]
  obtain ⟨b, b1, b2⟩ := rTimes_ok hk hE a2 (q1 _ (by omega)) (q1 _ (by omega))
  rw [b1]
  simp only [Option.bind_some]
  obtain ⟨c, c1, c2⟩ := rPlus_ok hk hF b2 (q1 _ (by omega)) (q1 _ (by omega))
  obtain ⟨g, g1, g2⟩ := rPlus_ok hk c2 hG (q1 _ (by omega)) (q1 _ (by omega))
  rw [c1]
  simp only [Option.bind_some]
  rw [SameInt_ok (by omega) hF (q0 _ (by omega)), g1]
  simp only [Option.bind_some, cond_true]
  rw [SameInt_ok (by omega) g2 (q0 _ (by omega))]
  simp only [Option.bind_some, cond_true]
  rw [SameInt_ok (by omega) hE (q0 _ (by omega))]
  rfl
def formTail (k : Nat) (z21 : Rg × Bool × (Int × Int) × (Bool × List Int) × (Bool × List Int) × (Bool × List Int) × (Bool × List Int)) : Option Bool :=
  (brindlewoodref3_RangeOk k z21.1).bind fun t22 => bif (!t22) then ((brindlewoodref3_At 6 (-2)).bind fun t23 => bif ((z21.2.2.1.1 == t23.1) && ((z21.2.2.1.2 == t23.2) && true)) then (some (!z21.2.1)) else (some false)) else ((brindlewoodref3_RangeOf k z21.1).bind fun t24 => (brindlewoodref3_Int_Order k z21.2.2.2.2.2.1 t24.2.2.1).bind fun t25 => bif (t25 == 0) then (bif ((z21.2.2.2.2.2.1.2.length : Int) == 0) then (bif (z21.2.2.1.1 == 0) then (some (z21.2.1 == true)) else (some false)) else ((brindlewoodref3_Int_Order k z21.2.2.2.1 t24.1).bind fun t26 => bif (t26 == 0) then ((brindlewoodref3_Int_Order k z21.2.2.2.2.2.2 t24.2.2.2).bind fun t27 => bif (z21.2.2.1.1 == 0) then (some (z21.2.1 == (t27 == 0))) else (some false)) else (bif (z21.2.2.1.1 == 0) then (some (z21.2.1 == false)) else (some false)))) else (bif (z21.2.2.1.1 == 0) then (some (z21.2.1 == false)) else (some false)))
theorem formTail_ok {k : Nat} (hk : 100000000000000 < k) {s t d : Int} (h : RV s t d) {o : Rg} (ho : Wf RT o) {b : Bool} {f : Int × Int} (hS : ranges_Same k (rz s t d) o = some (b, f)) {A S C L : Bool × List Int} (hA : RI A s) (hC : RI C (cnt s t d)) (hL : RI L (rlast s t d)) :
    formTail k (o, b, f, A, S, C, L) = some true := by
  have hp := rlim_big.1
  have q1 : ∀ x : Int, x.natAbs ≤ 80 * rlim → ((dg 65536 x.natAbs).length : Int) ≤ 1000000 := fun x hx => by have := rlen16 (small_ilim (x := x) (by omega)); omega
  have lastb : ∀ {s t d : Int}, RV s t d → (rlast s t d).natAbs ≤ 10 * rlim := fun {s t d} h => by
    obtain ⟨h1, h2, h3, h4⟩ := RV_le h
    have hc := cnt_rlim h
    unfold rlast
    by_cases h0 : cnt s t d = 0
    · have : d * (cnt s t d - 1) = -d := by rw [h0, show (0 : Int) - 1 = -1 from rfl, Int.mul_neg, Int.mul_one]
      omega
    · have := (elem_abs h4 (i := cnt s t d - 1) (by omega) (by omega) h1 h2).1
      omega
  unfold formTail
  simp only
  rw [RangeOk_ok (by omega) ho]
  rcases range_cases ho with ⟨s', t', d', h', rfl, hv⟩ | hv
  · rw [hv]
    rw [rSame_ok (by omega) h h'] at hS
    have hS := Option.some.inj hS
    have hb : b = decide (cnt s t d = cnt s' t' d' ∧ (cnt s t d = 0 ∨ (s = s' ∧ rlast s t d = rlast s' t' d'))) := (congrArg Prod.fst hS).symm
    have hf : f = (0, 0) := (congrArg Prod.snd hS).symm
    obtain ⟨A', S', C', L', g1, g2, g3, g4, g5, _, _⟩ := RangeOf_ok hk h'
    have hc := cnt_rlim h
    have hc' := cnt_rlim h'
    have lb := lastb h
    have lb' := lastb h'
    obtain ⟨h1, h2, h3, h4⟩ := RV_le h
    obtain ⟨h1', h2', h3', h4'⟩ := RV_le h'
    simp only [Option.bind_some, Bool.not_true, cond_false]
    rw [g1]
    simp only [Option.bind_some]
    rw [iOrder_ok (by omega) hC g4 (q1 _ (by omega)) (q1 _ (by omega)), iOrder_ok (by omega) hA g2 (q1 _ (by omega)) (q1 _ (by omega)), iOrder_ok (by omega) hL g5 (q1 _ (by omega)) (q1 _ (by omega)), hf, RI_zero_len hC]
    simp only [Option.bind_some, sgn_zero_iff, beq_self_eq_true, cond_true]
    by_cases e1 : cnt s t d = cnt s' t' d'
    · rw [decide_eq_true e1]
      simp only [cond_true]
      by_cases e2 : cnt s t d = 0
      · have : b = true := by rw [hb]; exact decide_eq_true ⟨e1, .inl e2⟩
        rw [this, decide_eq_true e2]; rfl
      · rw [decide_eq_false e2]
        simp only [cond_false]
        by_cases e3 : s = s'
        · rw [decide_eq_true e3]
          simp only [cond_true]
          by_cases e4 : rlast s t d = rlast s' t' d'
          · have : b = true := by rw [hb]; exact decide_eq_true ⟨e1, .inr ⟨e3, e4⟩⟩
            rw [this, decide_eq_true e4]; rfl
          · have : b = false := by
              rw [hb]
              refine decide_eq_false fun hz => ?_
              rcases hz.2 with hz | hz
              · exact e2 hz
              · exact e4 hz.2
            rw [this, decide_eq_false e4]; rfl
        · have : b = false := by
            rw [hb]
            refine decide_eq_false fun hz => ?_
            rcases hz.2 with hz | hz
            · exact e2 hz
            · exact e3 hz.1
          rw [this, decide_eq_false e3]; rfl
    · have : b = false := by rw [hb]; exact decide_eq_false fun hz => e1 hz.1
      rw [this, decide_eq_false e1]; rfl
  · rw [hv]
    have : ranges_Same k (rz s t d) o = some (false, 6, -2) := by
      unfold ranges_Same
      rw [rcheck2_no2 (by omega) (rvalid_t h) hv]; rfl
    rw [this] at hS
    cases hS
    rfl
theorem forms_ok {k : Nat} (hk : 100000000000000 < k) (hsp : brindlewoodlaw3_spans k = some true) {s t d : Int} (h : RV s t d) (hw : Wf RT (rz s t d)) {o : Rg} (ho : Wf RT o) : brindlewoodlaw3_RangesForms k (rz s t d) o = some true := by
  obtain ⟨h1, h2, h3, h4⟩ := RV_le h
  have hp := rlim_big.1
  have hc := cnt_rlim h
  have q1 : ∀ x : Int, x.natAbs ≤ 80 * rlim → ((dg 65536 x.natAbs).length : Int) ≤ 1000000 := fun x hx => by have := rlen16 (small_ilim (x := x) (by omega)); omega
  obtain ⟨b, f, hS⟩ : ∃ b f, ranges_Same k (rz s t d) o = some (b, f) := by
    rcases range_cases ho with ⟨s', t', d', h', rfl, hv⟩ | hv
    · exact ⟨_, _, rSame_ok (by omega) h h'⟩
    · refine ⟨false, (6, -2), ?_⟩
      unfold ranges_Same
      rw [rcheck2_no2 (by omega) (rvalid_t h) hv]; rfl
  obtain ⟨A, S, C, L, g1, g2, g3, g4, g5, g6, g7⟩ := RangeOf_ok hk h
  have fin := formTail_ok hk h ho hS (S := S) g2 g4 g5
  unfold formTail at fin
  unfold brindlewoodlaw3_RangesForms
  rw [rPlain_ok (by omega) h, rTurn_ok (by omega) h, hS, hsp, RangeOk_ok (by omega) hw, rvalid_t h]
  simp only [Option.bind_some, Bool.not_true, cond_false]
  rw [g1]
  simp only [Option.bind_some]
  rw [g7]
  -- the sign
  have hj : ∀ (X : Rg) (Y : Int × Int) (Z : Rg) (W : Int × Int), (bif decide (d < 0) then (some (.inl (o, X, Y, Z, W, b, f, (A, S, C, L), (-1)))) else (some (.inl (o, X, Y, Z, W, b, f, (A, S, C, L), 1))) : Option ((Rg × Rg × (Int × Int) × Rg × (Int × Int) × Bool × (Int × Int) × ((Bool × List Int) × (Bool × List Int) × (Bool × List Int) × Bool × List Int) × Int) ⊕ Bool)) = some (.inl (o, X, Y, Z, W, b, f, (A, S, C, L), sg d)) := by
    intro X Y Z W
    unfold sg
    by_cases hn : d < 0
    · rw [decide_eq_true hn, if_pos hn]; rfl
    · rw [decide_eq_false hn, if_neg hn]; rfl
  rw [hj]
  simp only [joinB_inl, bne_self_eq_false, cond_false]
  have hsg : (sg d = 1 ∨ sg d = -1) := by unfold sg; split; exact .inr rfl; exact .inl rfl
  -- the plain form
  have P1 : brindlewoodref3_IsPlain k (rz (plainS s t d) (plainT s t d) (plainD s t d)) A S C (sg d) = some true := by
    unfold plainS plainT plainD
    by_cases h0 : cnt s t d = 0
    · simp only [h0, if_true]
      rw [h0] at g4
      exact IsPlain0_ok hk g4 _
    · simp only [h0, if_false]
      obtain ⟨f1, f2, f3, f4, f5, f6, f7⟩ := plain_facts (p := rlim) h4 (by have := h.1; omega) (by have := h.2.1; omega) (by have := h.2.2.1; omega) (by omega) h0
      have hdl := (elem_abs h4 (i := cnt s t d - 1) (by omega) (by omega) h1 h2).2
      have := IsPlain_ok hk (e := pstep s t d) g2 g3 g4 (by omega) (one := sg d) (by unfold pstep; split <;> split <;> first | rfl | omega) (by omega) h4 (by omega) (by omega) (by omega) (by rw [f7]; omega)
      rw [f7, f5] at this
      exact this
  rw [P1]
  simp only [Option.bind_some, Bool.not_true, cond_false, joinB_inl]
  have ew : w64 (0 - sg d) = -sg d := by rcases hsg with e | e <;> rw [e] <;> decide
  obtain ⟨u, u1, u2, _⟩ := num_ok (k := k) (by omega) (-sg d) (by omega) (by omega)
  obtain ⟨m, m1, m2⟩ := rPlus_ok hk g2 u2 (q1 _ (by omega)) (q1 _ (by omega))
  have e1 : s + -sg d = s - sg d := by omega
  rw [e1] at m2
  rw [ew, u1]
  simp only [Option.bind_some]
  rw [m1]
  simp only [Option.bind_some]
  rw [RI_pos_len g4, Fits40_ok m2]
  simp only [Option.bind_some]
  obtain ⟨md, md1, md2⟩ := rMinus_ok g3
  by_cases h0 : cnt s t d = 0
  · rw [decide_eq_false (fun hn => hn h0), if_pos h0]
    rw [h0] at g4
    simp only [cond_false, joinB_inl, bne_self_eq_false]
    rw [md1]
    simp only [Option.bind_some]
    rw [IsPlain0_ok hk g4]
    simp only [Option.bind_some, Bool.not_true, cond_false, joinB_inl]
    exact fin
  · rw [decide_eq_true h0, if_neg h0]
    simp only [cond_true, joinB_inl]
    by_cases hb : (s - sg d).natAbs < rlim
    · rw [if_pos hb, decide_eq_true hb]
      simp only [Bool.not_true, cond_false, bne_self_eq_false]
      rw [md1]
      simp only [Option.bind_some]
      obtain ⟨f1, f2, f3, f4, f5, f6, f7⟩ := plain_facts (p := rlim) h4 (by have := h.1; omega) (by have := h.2.1; omega) (by have := h.2.2.1; omega) (by omega) h0
      obtain ⟨t1, t2, t3, t4, t5⟩ := turn_facts h h0 hb
      have hdl := (elem_abs h4 (i := cnt s t d - 1) (by omega) (by omega) h1 h2).2
      have hm : -pstep s t d * (cnt s t d - 1) = -(d * (cnt s t d - 1)) := by rw [Int.neg_mul, f7]
      have := IsPlain_ok hk (e := -pstep s t d) g5 md2 g4 (by omega) (one := -sg d) (by unfold pstep; split <;> split <;> first | rfl | omega) (by omega) (by omega) (by omega) (by omega) (by omega) (by rw [hm]; omega)
      rw [hm, t5] at this
      have e2 : rlast s t d + -(d * (cnt s t d - 1)) + -sg d = s - sg d := by unfold rlast; omega
      rw [e2] at this
      rw [ew, this]
      simp only [Option.bind_some, Bool.not_true, cond_false, joinB_inl]
      exact fin
    · rw [if_neg hb, decide_eq_false hb]
      have hN : brindlewoodref3_NoRange ((false, []), (false, []), false, []) = some true := rfl
      simp only [Bool.not_false, cond_true, brindlewoodref3_At, Option.bind_some, beq_self_eq_true, Bool.and_self, Bool.not_true, cond_false, hN, joinB_inl]
      exact fin
theorem rangesForms_plain {r o : Rg} (hr : Wf RT r) (ho : Wf RT o) : brindlewoodlaw3_RangesForms 1000000000000000000 r o = some true := by
  have hR := RangeOk_ok (k := 1000000000000000000) (by decide) hr
  rcases range_cases hr with ⟨s, t, d, h, rfl, hv⟩ | hv
  · exact forms_ok (by decide) spans_ok h hr ho
  · obtain ⟨n1, n2, n3⟩ := rTurn_no (k := 1000000000000000000) (by decide) hv
    have hv' : ranges_Valid o = some true ∨ ranges_Valid o = some false := by
      rcases range_cases ho with ⟨_, _, _, _, _, h⟩ | h
      · exact .inl h
      · exact .inr h
    have hS : ranges_Same 1000000000000000000 r o = some (false, 6, -1) := by
      unfold ranges_Same
      rw [rcheck2_no1 (by decide) hv hv']; rfl
    unfold brindlewoodlaw3_RangesForms
    rw [n1, n2, hS, spans_ok, hR, hv]; rfl
end Go.Pl
