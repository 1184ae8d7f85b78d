/- RationalArithmetic: its plain function answers true.  Conditions: values within their kinds, lists no longer than memory. -/
import Derived.Test.YtpigdmmofiiacaaRaB
set_option linter.unusedVariables false
set_option linter.unusedSimpArgs false
namespace Go.Pl
open Go Go.Ev Go.Sh
theorem parts_ok : brindlewoodlaw3_parts 1000000000000000000 = some true := by kernel_rfl
theorem divX_eq (p p' : Int) (q' : Nat) : p * (if p' < 0 then -(q' : Int) else q') = divX p p' q' := by
  unfold divX
  split
  · rw [Int.mul_neg]
  · rfl
theorem ra_valid {k : Nat} (hk : 100000000000000 < k) (hP : brindlewoodlaw3_parts k = some true) {p p' : Int} {q q' : Nat} (h : RatV p q) (h' : RatV p' q') (w1 : Wf RtT (rq p q)) (w2 : Wf RtT (rq p' q')) : brindlewoodlaw3_RationalArithmetic k (rq p q) (rq p' q') = some true := by
  have hk' : 20000000000 < k := by omega
  have hv := rq_valid hk' h
  have hv' := rq_valid hk' h'
  have hR := RatioOk_ok hk w1
  have hR' := RatioOk_ok hk w2
  rw [hv] at hR
  have hF : brindlewoodlaw3_ratioFaults k [rq p q, rq p' q'] = some (0, 0) := by
    rw [qfaults_eq k (fun x hx => by
      simp at hx
      rcases hx with rfl | rfl
      · exact RatioOk_ok hk w1
      · exact RatioOk_ok hk w2) (by simp), qcheck2 hk' h h']
  obtain ⟨c, e1, r1, _⟩ := RatioOf_ok (k := k) (by omega) h
  obtain ⟨d, e2, r2, _⟩ := RatioOf_ok (k := k) (by omega) h'
  have l1 := ilen16 h.1
  have l2 := ilen16 h.2.1
  have l3 := ilen16 h'.1
  have l4 := ilen16 h'.2.1
  obtain ⟨s, e3, r3⟩ := rqPlus_ok hk r1 r2 (by omega) (by omega) (by omega) (by omega) h.2.2.1 h'.2.2.1
  obtain ⟨t, e4, r4⟩ := rqLess_ok hk r1 r2 (by omega) (by omega) (by omega) (by omega) h.2.2.1 h'.2.2.1
  obtain ⟨u, e5, r5⟩ := rqTimes_ok hk r1 r2 (by omega) (by omega) (by omega) (by omega) h.2.2.1 h'.2.2.1
  have e6 := rqOrder_ok hk r1 r2 (by omega) (by omega) (by omega) (by omega)
  unfold brindlewoodlaw3_RationalArithmetic
  rw [hF, qAdd_ok hk' h h', qSub_ok hk' h h', qMul_ok hk' h h', qDiv_ok hk' h h', qCmp_ok hk' h h', hP]
  simp only [Option.bind_some, Bool.not_true, cond_false, hv, hR, beq_self_eq_true, Bool.and_self, joinB_inl, bne_self_eq_false, e1, e2, e3, e4, e5, e6]
  rw [gives_ok (by omega) r3, gives_ok (by omega) r4, gives_ok (by omega) r5]
  simp only [Option.bind_some, Bool.not_true, cond_false, joinB_inl]
  have hN : brindlewoodref3_NoInt (rq p' q').1 = some (decide (p' = 0)) := NoInt_ok p'
  rw [hN]
  simp only [Option.bind_some]
  by_cases h0 : p' = 0
  · rw [decide_eq_true h0, if_pos h0]
    simp only [cond_true, rAt, Option.bind_some]
    rw [gives_err (by decide)]; rfl
  · obtain ⟨v, e7, r7⟩ := Turned_ok r2 h0
    rw [decide_eq_false h0, if_neg h0, e7]
    simp only [cond_false, Option.bind_some]
    obtain ⟨x, e8, r8⟩ := rqTimes_ok hk r1 r7 (by omega) (by omega) (by
      have : (if p' < 0 then -(q' : Int) else q').natAbs = q' := by split <;> simp
      rw [this]; omega) (by omega) h.2.2.1 (by omega)
    rw [e8]
    simp only [Option.bind_some]
    rw [divX_eq] at r8
    rw [gives_ok (by omega) r8]; rfl
theorem ra_main {k : Nat} (hk : 100000000000000 < k) (hP : brindlewoodlaw3_parts k = some true) {a b : Rt} (ha : Wf RtT a) (hb : Wf RtT b) : brindlewoodlaw3_RationalArithmetic k a b = some true := by
  have hk' : 20000000000 < k := by omega
  have va := rat_cases hk' ha
  have vb := rat_cases hk' hb
  have ha2 : rational_Valid k a = some true ∨ rational_Valid k a = some false := va.elim (fun ⟨_, _, _, _, h⟩ => .inl h) .inr
  have hb2 : rational_Valid k b = some true ∨ rational_Valid k b = some false := vb.elim (fun ⟨_, _, _, _, h⟩ => .inl h) .inr
  by_cases hbad : rational_Valid k a = some false ∨ rational_Valid k b = some false
  · have hv : ∀ x ∈ [a, b], rational_Valid k x = some true ∨ rational_Valid k x = some false := fun x hx => by
      simp at hx
      rcases hx with rfl | rfl
      · exact ha2
      · exact hb2
    have hC := qcheck_ok (k := k) (by omega) (l := [a, b]) hv (by simp)
    have hF := qfaults_eq k (l := [a, b]) (fun x hx => by
      simp at hx
      rcases hx with rfl | rfl
      · exact RatioOk_ok hk ha
      · exact RatioOk_ok hk hb) (by simp)
    have hw : (badQ k [a, b] 0).1 ≠ 0 := by
      rw [badQ_code [a, b] 0 hv (hbad.elim (fun h => ⟨a, by simp, h⟩) fun h => ⟨b, by simp, h⟩)]; decide
    rw [hC] at hF
    generalize badQ k [a, b] 0 = w at *
    obtain ⟨v, hv1⟩ : ∃ v, rational_Valid k a = some v := ha2.elim (fun h => ⟨_, h⟩) fun h => ⟨_, h⟩
    have hv2 := RatioOk_ok hk ha
    rw [hv1] at hv2
    unfold brindlewoodlaw3_RationalArithmetic rational_Add rational_Sub rational_Mul rational_Div rational_Cmp
    rw [hF, hC, hP]
    simp only [Option.bind_some, bne_t hw, cond_true, Bool.not_true, cond_false, hv1, hv2, beq_self_eq_true, Bool.and_self, joinB_inl, gives_err hw]
  · obtain ⟨p, q, hV, rfl, v1⟩ := va.resolve_right fun h => hbad (.inl h)
    obtain ⟨p', q', hV', rfl, v2⟩ := vb.resolve_right fun h => hbad (.inr h)
    exact ra_valid hk hP hV hV' ha hb
theorem rationalArithmetic_plain {a b : Rt} (ha : Wf RtT a) (hb : Wf RtT b) : brindlewoodlaw3_RationalArithmetic 1000000000000000000 a b = some true :=
  ra_main (by decide) parts_ok ha hb
end Go.Pl
