/- RangesBack: its plain function answers true.  Conditions: values within their kinds, lists no longer than memory. -/
import Derived.Test.YtjodgimhfafecaaRgC
set_option linter.unusedVariables false
set_option linter.unusedSimpArgs false
namespace Go.Pl
open Go Go.Ev Go.Sh
def backTail (k : Nat) (z20 : Rg × (Bool × List Int) × (Bool × List Int) × (Int × Int) × (Bool × List Int) × (Int × Int) × Rg × Int × Int) : Option Bool :=
  bif (z20.2.2.2.2.2.1.1 != 0) then ((brindlewoodref3_NoInt z20.2.2.2.2.1).bind fun t21 => some t21) else ((ranges_Index k z20.1 z20.2.2.2.2.1).bind fun t22 => (brindlewoodref3_IntOf k z20.2.1).bind fun t23 => joinB (α := (Int × Int) × (Bool × List Int) × ((Bool × List Int) × (Bool × List Int) × Bool × List Int) × (Int × Int) × (Bool × List Int) × Bool × List Int) (bif t23.1 then ((brindlewoodref3_IntOf k z20.2.2.1).bind fun t24 => (brindlewoodref3_Int_Plus k t23 t24).bind fun t25 => some (.inl (t22.2, z20.2.2.2.2.1, z20.2.2.2.2.2.2.1, z20.2.2.2.2.2.2.2, t22.1, t25))) else (some (.inl (t22.2, z20.2.2.2.2.1, z20.2.2.2.2.2.2.1, z20.2.2.2.2.2.2.2, t22.1, t23)))) (fun z26 => joinB (α := (Int × Int) × (Bool × List Int) × ((Bool × List Int) × (Bool × List Int) × Bool × List Int) × (Int × Int) × Bool × List Int) (bif (z26.1.1 != 0) then (some (.inr false)) else ((brindlewoodref3_SameInt k z26.2.2.2.2.1 z26.2.2.2.2.2).bind fun t27 => bif (!t27) then (some (.inr false)) else (some (.inl (z26.1, z26.2.1, z26.2.2.1, z26.2.2.2.1, z26.2.2.2.2.2))))) (fun z28 => bif (z28.2.2.2.1.1 != 0) then (some true) else ((brindlewoodref3_Number k 1).bind fun t29 => (brindlewoodref3_Int_Plus k z28.2.2.2.2 t29).bind fun t30 => (brindlewoodref3_Limbs k t30.2).bind fun t31 => (ranges_At k z28.2.2.1 (true, t31)).bind fun t32 => bif (t32.2.1 == 0) then ((brindlewoodref3_SameInts k t32.1 z28.2.1).bind fun t33 => some t33) else (some false))) some) some)
abbrev noR : Rg := ((false, []), (false, []), false, [])
theorem noR_valid : ranges_Valid noR = some false := rfl
theorem turn_facts {s t d : Int} (h : RV s t d) (h0 : cnt s t d ≠ 0) (hb : (s - sg d).natAbs < rlim) : RV (rlast s t d) (s - sg d) (-pstep s t d) ∧ cnt (rlast s t d) (s - sg d) (-pstep s t d) = cnt s t d ∧ rlast (rlast s t d) (s - sg d) (-pstep s t d) = s ∧ pstep (rlast s t d) (s - sg d) (-pstep s t d) = -pstep s t d ∧ sg (-pstep s t d) = -sg d := by
  obtain ⟨h1, h2, h3, h4⟩ := RV_le h
  have hp := rlim_big.1
  have hn := cnt_rng s t d h4
  obtain ⟨f1, f2, f3, f4, f5, f6, f7⟩ := plain_facts (p := rlim) h4 (by have := h.1; omega) (by have := h.2.1; omega) (by have := h.2.2.1; omega) (by omega) h0
  have hlast : (rlast s t d).natAbs < rlim := by
    obtain ⟨g1, g2⟩ := elem_rng (s := s) (t := t) (d := d) (i := cnt s t d - 1) (by omega) (by omega)
    unfold rlast
    have r1 := h.1
    have r2 := h.2.1
    by_cases hd : 0 < d
    · have := g1 hd; omega
    · have := g2 (by omega); omega
  have hst : (pstep s t d).natAbs < rlim := by
    have := h.2.2.1
    unfold pstep
    have hsgb : (sg d).natAbs ≤ 1 := by unfold sg; split <;> omega
    split <;> omega
  have hsg : sg (-pstep s t d) = -sg d := by
    unfold sg
    by_cases hd : d < 0
    · have := f6.1 hd
      rw [if_pos hd, if_neg (by omega)]; rfl
    · have : ¬ pstep s t d < 0 := fun h => hd (f6.2 h)
      rw [if_neg hd, if_pos (by omega)]
  have hl : rlast s t d = s + d * (cnt s t d - 1) := rfl
  have hcnt : cnt (rlast s t d) (s - sg d) (-pstep s t d) = cnt s t d := by
    have := cnt_of (s := rlast s t d) (d := -pstep s t d) (e := -sg d) (n := cnt s t d) (by omega) (by omega) hsg.symm
    rw [Int.neg_mul, f7] at this
    rw [← this]
    congr 1
    omega
  refine ⟨⟨hlast, hb, by omega, by omega⟩, hcnt, ?_, ?_, hsg⟩
  · unfold rlast at hcnt ⊢
    rw [hcnt, Int.neg_mul, f7]; omega
  · unfold pstep at hcnt hsg ⊢
    rw [hcnt, hsg]
    split <;> rfl
theorem plain_valid {s t d : Int} (h : RV s t d) (h0 : cnt s t d ≠ 0) (hb : (rlast s t d + sg d).natAbs < rlim) : RV s (rlast s t d + sg d) (pstep s t d) ∧ cnt s (rlast s t d + sg d) (pstep s t d) = cnt s t d ∧ rlast s (rlast s t d + sg d) (pstep s t d) = rlast s t d := by
  obtain ⟨h1, h2, h3, h4⟩ := RV_le h
  have hp := rlim_big.1
  have hn := cnt_rng s t d h4
  obtain ⟨f1, f2, f3, f4, f5, f6, f7⟩ := plain_facts (p := rlim) h4 (by have := h.1; omega) (by have := h.2.1; omega) (by have := h.2.2.1; omega) (by omega) h0
  have hst : (pstep s t d).natAbs < rlim := by
    have := h.2.2.1
    unfold pstep
    have hsgb : (sg d).natAbs ≤ 1 := by unfold sg; split <;> omega
    split <;> omega
  have hcnt : cnt s (rlast s t d + sg d) (pstep s t d) = cnt s t d := by
    have := cnt_of (s := s) (d := pstep s t d) (e := sg d) (n := cnt s t d) f4 (by omega) f5.symm
    rw [f7] at this
    exact this
  refine ⟨⟨h.1, hb, hst, f4⟩, hcnt, ?_⟩
  unfold rlast at hcnt ⊢
  rw [hcnt, f7]
theorem backTail_none {k : Nat} {r : Rg} {i n : Bool × List Int} {nf xf tf : Int × Int} {t : Rg} (hx : xf.1 ≠ 0) : backTail k (r, i, n, nf, (false, []), xf, t, tf) = some true := by
  unfold backTail
  simp only [bne_t hx, cond_true, NoInt_nil, Option.bind_some]
theorem backTail_ok {k : Nat} (hk : 100000000000000 < k) {s t d i : Int} (h : RV s t d) (hi : i.natAbs < ilim) {j : Int} (hj : j = if i < 0 then i + cnt s t d else i) (j0 : 0 ≤ j) (j1 : j < cnt s t d) {T : Rg} {tf : Int × Int}
    (hT : tf.1 = 0 → T = rz (rlast s t d) (s - sg d) (-pstep s t d) ∧ (s - sg d).natAbs < rlim) : backTail k (rz s t d, iz i, iz (cnt s t d), (0, 0), iz (s + d * j), (0, 0), T, tf) = some true := by
  obtain ⟨h1, h2, h3, h4⟩ := RV_le h
  have hp := rlim_big.1
  have hc := cnt_rlim h
  have hxb := (elem_abs h4 j0 j1 h1 h2).1
  have hxl : (s + d * j).natAbs < ilim := small_ilim (by omega)
  have hcl : (cnt s t d).natAbs < ilim := small_ilim (by omega)
  have hjl : j.natAbs < ilim := small_ilim (by omega)
  have hj1l : (j + 1).natAbs < ilim := small_ilim (by omega)
  unfold backTail
  simp only [bne_self_eq_false, cond_false]
  -- the position
  have hI : ranges_Index k (rz s t d) (iz (s + d * j)) = some (iz j, 0, 0) := by
    rcases rIndex_ok (k := k) (by omega) h hxl with ⟨q, q1, q2⟩ | ⟨q1, q2⟩
    · have : q = j := rpos_uniq h4 q1 ⟨rfl, j0, j1⟩
      rw [this] at q2; exact q2
    · exact absurd ⟨rfl, j0, j1⟩ (q1 j)
  rw [hI, IntOf_ok (by omega) hi, IntOf_ok (by omega) hcl]
  simp only [Option.bind_some]
  -- the wanted one
  obtain ⟨W, W1, W2⟩ : ∃ W, RI W j ∧ (bif decide (i < 0) then ((brindlewoodref3_Int_Plus k (decide (i < 0), dg 65536 i.natAbs) (decide (cnt s t d < 0), dg 65536 (cnt s t d).natAbs)).bind fun t25 => some (.inl (((0, 0) : Int × Int), iz (s + d * j), T, tf, iz j, t25))) else (some (.inl ((0, 0), iz (s + d * j), T, tf, iz j, (decide (i < 0), dg 65536 i.natAbs)))) : Option (((Int × Int) × (Bool × List Int) × Rg × (Int × Int) × (Bool × List Int) × (Bool × List Int)) ⊕ Bool)) = some (.inl ((0, 0), iz (s + d * j), T, tf, iz j, W)) := by
    by_cases hn : i < 0
    · rw [if_pos hn] at hj
      obtain ⟨W, W1, W2⟩ := rPlus_ok hk (rz_RI i) (rz_RI (cnt s t d)) (by have := rlen16 hi; omega) (by have := rlen16 hcl; omega)
      rw [← hj] at W2
      refine ⟨W, W2, ?_⟩
      rw [W1, decide_eq_true hn]; rfl
    · rw [if_neg hn] at hj
      exact ⟨(decide (i < 0), dg 65536 i.natAbs), by rw [hj]; exact rz_RI i, by rw [decide_eq_false hn]; rfl⟩
  rw [W2]
  simp only [joinB_inl, bne_self_eq_false, cond_false]
  rw [SameInt_ok (by omega) W1 hjl]
  simp only [Option.bind_some, Bool.not_true, cond_false, joinB_inl]
  by_cases ht : tf.1 = 0
  · obtain ⟨rfl, hb⟩ := hT ht
    have h0 : cnt s t d ≠ 0 := by omega
    obtain ⟨t1, t2, t3, t4, t5⟩ := turn_facts h h0 hb
    rw [bne_f ht]
    simp only [cond_false]
    obtain ⟨o, o1, o2, _⟩ := num_ok (k := k) (by omega) 1 (by omega) (by omega)
    rw [o1]
    simp only [Option.bind_some]
    obtain ⟨u, u1, u2⟩ := rPlus_ok hk W1 o2 (by have := rlen16 hjl; omega) (by decide)
    rw [u1]
    simp only [Option.bind_some]
    rw [u2.1, Limbs_ok (by have := rlen16 hj1l; omega) (by omega)]
    simp only [Option.bind_some]
    have e1 : (true, dg 4294967296 (j + 1).natAbs) = iz (-(j + 1)) := by
      unfold iz
      rw [Int.natAbs_neg, decide_eq_true (by omega)]
    rw [e1, rAt_ok (by omega) t1 (by omega)]
    have e2 : (if -(j + 1) < 0 then -(j + 1) + cnt (rlast s t d) (s - sg d) (-pstep s t d) else -(j + 1)) = cnt s t d - 1 - j := by
      rw [if_pos (by omega), t2]; omega
    rw [e2, t2, if_pos (by omega)]
    simp only [Option.bind_some, beq_self_eq_true, cond_true]
    have e3 : rlast s t d + -pstep s t d * (cnt s t d - 1 - j) = s + d * j := by
      unfold rlast pstep
      by_cases h5 : 1 < cnt s t d
      · rw [if_pos h5, Int.neg_mul, Int.mul_sub d (cnt s t d - 1) j]; omega
      · have h6 : cnt s t d - 1 = 0 := by omega
        have h7 : j = 0 := by omega
        rw [h6, h7]; simp
    rw [e3, SameInts_ok (by omega) hxl hxl]
    simp
  · rw [bne_t ht]; rfl
theorem back_ok {k : Nat} (hk : 100000000000000 < k) (hsp : brindlewoodlaw3_spans k = some true) {s t d i : Int} (h : RV s t d) (hw : Wf RT (rz s t d)) (hi : i.natAbs < ilim) : brindlewoodlaw3_RangesBack k (rz s t d) (iz i) = some true := by
  obtain ⟨h1, h2, h3, h4⟩ := RV_le h
  have hp := rlim_big.1
  have hc := cnt_rlim h
  have hcl : (cnt s t d).natAbs < ilim := small_ilim (by omega)
  unfold brindlewoodlaw3_RangesBack
  have hV : brindlewoodref3_IntOk (iz i) = some true := iz_valid hi
  rw [hsp, RangeOk_ok (by omega) hw, rvalid_t h, hV]
  simp only [Option.bind_some, Bool.not_true, cond_false, joinB_inl]
  rw [rLength_ok (by omega) h, rAt_ok (by omega) h hi, rPlain_ok (by omega) h, rTurn_ok (by omega) h]
  simp only [Option.bind_some, bne_self_eq_false, cond_false, joinB_inl]
  -- the last part, whatever the turned range
  have tail : ∀ (T : Rg) (tf : Int × Int), (tf.1 = 0 → cnt s t d ≠ 0 → T = rz (rlast s t d) (s - sg d) (-pstep s t d) ∧ (s - sg d).natAbs < rlim) → backTail k (rz s t d, iz i, iz (cnt s t d), (0, 0), (if 0 ≤ (if i < 0 then i + cnt s t d else i) ∧ (if i < 0 then i + cnt s t d else i) < cnt s t d then (iz (s + d * (if i < 0 then i + cnt s t d else i)), ((0, 0) : Int × Int)) else ((false, []), 4, -2)).1, (if 0 ≤ (if i < 0 then i + cnt s t d else i) ∧ (if i < 0 then i + cnt s t d else i) < cnt s t d then (iz (s + d * (if i < 0 then i + cnt s t d else i)), ((0, 0) : Int × Int)) else ((false, []), 4, -2)).2, T, tf) = some true := by
    intro T tf hT
    by_cases hj : 0 ≤ (if i < 0 then i + cnt s t d else i) ∧ (if i < 0 then i + cnt s t d else i) < cnt s t d
    · rw [if_pos hj]
      exact backTail_ok hk h hi rfl hj.1 hj.2 fun ht => hT ht (by omega)
    · rw [if_neg hj]
      exact backTail_none (by decide)
  generalize (if 0 ≤ (if i < 0 then i + cnt s t d else i) ∧ (if i < 0 then i + cnt s t d else i) < cnt s t d then (iz (s + d * (if i < 0 then i + cnt s t d else i)), ((0, 0) : Int × Int)) else ((false, []), 4, -2)) = X at *
  have q0 : ∀ x : Int, x.natAbs ≤ 4 * rlim → x.natAbs < ilim := fun x hx => small_ilim (by omega)
  by_cases h0 : cnt s t d = 0
  · rw [if_pos h0]
    have hv1 : RV 0 0 1 := ⟨by show 0 < rlim; omega, by show 0 < rlim; omega, by show 1 < rlim; omega, by decide⟩
    have c1 : cnt 0 0 1 = 0 := by decide
    have p1 : plainS s t d = 0 := by unfold plainS; rw [if_pos h0]
    have p2 : plainT s t d = 0 := by unfold plainT; rw [if_pos h0]
    have p3 : plainD s t d = 1 := by unfold plainD; rw [if_pos h0]
    simp only [beq_self_eq_true, cond_true]
    rw [rTurn_ok (by omega) hv1, rLength_ok (by omega) hv1, c1, if_pos rfl]
    simp only [Option.bind_some]
    rw [rSame_ok (by omega) hv1 h, p1, p2, p3]
    have hB : decide (cnt 0 0 1 = cnt s t d ∧ (cnt 0 0 1 = 0 ∨ (0 = s ∧ rlast 0 0 1 = rlast s t d))) = true := decide_eq_true ⟨by rw [c1, h0], .inl c1⟩
    rw [hB]
    have S0 := SameInts_ok (k := k) (by omega) (q0 0 (by show 0 ≤ _; omega)) (q0 0 (by show 0 ≤ _; omega))
    have S1 := SameInts_ok (k := k) (by omega) (q0 1 (by show 1 ≤ _; omega)) (q0 1 (by show 1 ≤ _; omega))
    simp only [rz, Option.bind_some, beq_self_eq_true, cond_true, S0, S1, decide_true, Bool.not_true, cond_false, bne_self_eq_false, h0, joinB_inl]
    have := tail (rz 0 0 1) (0, 0) (fun _ hn => absurd h0 hn)
    rw [h0] at this
    exact this
  · rw [if_neg h0]
    have p1 : plainS s t d = s := by unfold plainS; rw [if_neg h0]
    have p2 : plainT s t d = rlast s t d + sg d := by unfold plainT; rw [if_neg h0]
    have p3 : plainD s t d = pstep s t d := by unfold plainD; rw [if_neg h0]
    by_cases hb : (s - sg d).natAbs < rlim
    · rw [if_pos hb, p1, p2, p3]
      obtain ⟨t1, t2, t3, t4, t5⟩ := turn_facts h h0 hb
      simp only [beq_self_eq_true, cond_true]
      rw [rTurn_ok (by omega) t1, rLength_ok (by omega) t1, t2, t3, t4, t5, if_neg h0]
      have e1 : rlast s t d - -sg d = rlast s t d + sg d := by omega
      have e2 : - -pstep s t d = pstep s t d := by omega
      rw [e1, e2]
      simp only [Option.bind_some]
      obtain ⟨f1, f2, f3, f4, f5, f6, f7⟩ := plain_facts (p := rlim) h4 (by have := h.1; omega) (by have := h.2.1; omega) (by have := h.2.2.1; omega) (by omega) h0
      have Sn := SameInts_ok (k := k) (by omega) hcl hcl
      have fin := tail (rz (rlast s t d) (s - sg d) (-pstep s t d)) (0, 0) (fun _ _ => ⟨rfl, hb⟩)
      by_cases hu : (rlast s t d + sg d).natAbs < rlim
      · rw [if_pos hu]
        obtain ⟨v1, v2, v3⟩ := plain_valid h h0 hu
        rw [rSame_ok (by omega) v1 h]
        have hB : decide (cnt s (rlast s t d + sg d) (pstep s t d) = cnt s t d ∧ (cnt s (rlast s t d + sg d) (pstep s t d) = 0 ∨ (s = s ∧ rlast s (rlast s t d + sg d) (pstep s t d) = rlast s t d))) = true := decide_eq_true ⟨v2, .inr ⟨rfl, v3⟩⟩
        rw [hB]
        have S0 := SameInts_ok (k := k) (by omega) (rlim_ilim h.1) (rlim_ilim h.1)
        have S1 := SameInts_ok (k := k) (by omega) (q0 (rlast s t d + sg d) (by omega)) (q0 (rlast s t d + sg d) (by omega))
        have S2 := SameInts_ok (k := k) (by omega) (q0 (pstep s t d) (by omega)) (q0 (pstep s t d) (by omega))
        simp only [rz, Option.bind_some, beq_self_eq_true, cond_true, S0, S1, S2, Sn, decide_true, Bool.not_true, cond_false, bne_self_eq_false, joinB_inl]
        exact fin
      · rw [if_neg hu]
        have hS : ranges_Same k noR (rz s t d) = some (false, 6, -1) := by
          unfold ranges_Same
          rw [rcheck2_no1 (by omega) noR_valid (.inl (rvalid_t h))]; rfl
        simp only [rz] at hS fin ⊢
        rw [hS]
        simp only [Option.bind_some, show ((14 : Int) == 0) = false from rfl, show ((14 : Int) != 0) = true from rfl, beq_self_eq_true, cond_true, Sn, decide_true, Bool.not_true, cond_false, bne_self_eq_false, joinB_inl, brindlewoodref3_At, Bool.and_self]
        exact fin
    · rw [if_neg hb]
      simp only [show ((14 : Int) == 0) = false from rfl, cond_false, joinB_inl]
      exact tail _ _ (fun h => absurd h (by decide))
theorem rangesBack_plain {r : Rg} {i : Bool × List Int} (hr : Wf RT r) (hi : Wf IT i) : brindlewoodlaw3_RangesBack 1000000000000000000 r i = some true := by
  have hR := RangeOk_ok (k := 1000000000000000000) (by decide) hr
  rcases range_cases hr with ⟨s, t, d, h, rfl, hv⟩ | hv
  · rcases int_vals hi with ⟨v, hv2, rfl, hV⟩ | hV
    · exact back_ok (by decide) spans_ok h hr hv2
    · have hV' : brindlewoodref3_IntOk i = some false := hV
      unfold brindlewoodlaw3_RangesBack
      rw [spans_ok, hR, hv, hV']; rfl
  · unfold brindlewoodlaw3_RangesBack
    rw [spans_ok, hR, hv]; rfl
end Go.Pl
