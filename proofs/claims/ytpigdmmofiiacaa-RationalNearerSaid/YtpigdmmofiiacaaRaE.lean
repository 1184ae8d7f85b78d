/- RationalField, joined: its plain function answers true.  Conditions: values within their kinds, lists no longer than memory. -/
import Derived.Test.YtpigdmmofiiacaaRaD
set_option linter.unusedVariables false
set_option linter.unusedSimpArgs false
set_option maxHeartbeats 0
namespace Go.Pl
open Go Go.Ev Go.Sh
theorem RatioOk_V {k : Nat} (hk : 100000000000000 < k) {p : Int} {q : Nat} (h : RatV p q) : brindlewoodref3_RatioOk k (rq p q) = some true := by
  obtain ⟨a1, a2, a3, a4⟩ := h
  have e1 : (iz (q : Int)).1 = false := by rw [iz_nat]
  have e2 : (((iz (q : Int)).2.length : Int) == 0) = false := beq_f (by rw [iz_nat]; have := (dg_len_pos (n := q) hB32).2 (by omega); simp only; omega)
  have hv := iz_valid a1
  have hw := iz_valid (v := (q : Int)) (by simpa using a2)
  have l1 := ilim_iff.2 a1
  have l2 := ilim_iff.2 a2
  have m1 := ilen16 a1
  have m2 := ilen16 a2
  unfold brindlewoodref3_RatioOk rq
  simp only [rIntOk, hv, hw, Option.bind_some, Bool.not_true, cond_false, e1, e2, joinB_inl]
  simp only [iz_nat, iz_abs]
  rw [Of_ok (dd32 _) (dg_ev hB32 _) (by omega) (by omega)]
  simp only [Option.bind_some]
  rw [Of_ok (dd32 _) (dg_ev hB32 _) (by omega) (by omega)]
  simp only [Option.bind_some]
  rw [Common_ok (by omega) (by omega) hk, a4]
  simp only [Option.bind_some]
  rw [show (1 : Int) = ((1 : Nat) : Int) from rfl, Small_ok (by decide) (by omega)]
  simp only [Option.bind_some]
  rw [Compare_ok (by rw [show (dg 65536 1) = [1] from by rw [dg_pos (by decide) (by decide)]; rfl]; decide) (by rw [show (dg 65536 1) = [1] from by rw [dg_pos (by decide) (by decide)]; rfl]; decide) (by omega)]
  rfl
theorem rf_main {k : Nat} (hk : 100000000000000 < k) (hP : brindlewoodlaw3_parts k = some true) {a b c : Rt} (ha : Wf RtT a) (hb : Wf RtT b) (hc : Wf RtT c) : brindlewoodlaw3_RationalField k a b c = some true := by
  have hk' : 20000000000 < k := by omega
  have va := rat_cases hk' ha
  have vb := rat_cases hk' hb
  have vc := rat_cases hk' hc
  have ha2 : rational_Valid k a = some true ∨ rational_Valid k a = some false := va.elim (fun ⟨_, _, _, _, h⟩ => .inl h) .inr
  have hb2 : rational_Valid k b = some true ∨ rational_Valid k b = some false := vb.elim (fun ⟨_, _, _, _, h⟩ => .inl h) .inr
  have hc2 : rational_Valid k c = some true ∨ rational_Valid k c = some false := vc.elim (fun ⟨_, _, _, _, h⟩ => .inl h) .inr
  have hv : ∀ x ∈ [a, b, c], rational_Valid k x = some true ∨ rational_Valid k x = some false := fun x hx => by
    simp at hx
    rcases hx with rfl | rfl | rfl
    · exact ha2
    · exact hb2
    · exact hc2
  have hC := qcheck_ok (k := k) (by omega) (l := [a, b, c]) hv (by simp)
  have hF := qfaults_eq k (l := [a, b, c]) (fun x hx => by
    simp at hx
    rcases hx with rfl | rfl | rfl
    · exact RatioOk_ok hk ha
    · exact RatioOk_ok hk hb
    · exact RatioOk_ok hk hc) (by simp)
  rw [hC] at hF
  unfold brindlewoodlaw3_RationalField
  rw [hP, hF]
  simp only [Option.bind_some, Bool.not_true, cond_false]
  by_cases hbad : rational_Valid k a = some false ∨ rational_Valid k b = some false ∨ rational_Valid k c = some false
  · have hw : (badQ k [a, b, c] 0).1 ≠ 0 := by
      rw [badQ_code [a, b, c] 0 hv (by rcases hbad with h | h | h
                                       · exact ⟨a, by simp, h⟩
                                       · exact ⟨b, by simp, h⟩
                                       · exact ⟨c, by simp, h⟩)]; decide
    rw [bne_t hw]; rfl
  · obtain ⟨p, q, hV, rfl, v1⟩ := va.resolve_right fun h => hbad (.inl h)
    obtain ⟨p', q', hV', rfl, v2⟩ := vb.resolve_right fun h => hbad (.inr (.inl h))
    obtain ⟨pc, qc, hVc, rfl, v3⟩ := vc.resolve_right fun h => hbad (.inr (.inr h))
    rw [badQ_ok _ _ (fun x hx => by
      simp at hx
      rcases hx with rfl | rfl | rfl
      · exact v1
      · exact v2
      · exact v3)]
    simp only [bne_self_eq_false, cond_false]
    have hl := field_l0 k (rq p q) (rq p' q') (rq pc qc) [rq p q, rq p' q', rq pc qc] (by simp) k 0 (by simp; omega) (by simp)
    have e0 : ((0 : Nat) : Int) = 0 := rfl
    rw [e0] at hl
    rcases hl with hl | ⟨hl, hb⟩
    · rw [hl]; rfl
    · rw [hl]
      simp only [joinB_inl]
      rw [List.drop_zero] at hb
      have b1 := hb (rq p q) (by simp)
      have b2 := hb (rq p' q') (by simp)
      have b3 := hb (rq pc qc) (by simp)
      simp only [rq, iz_nat, iz_abs] at b1 b2 b3
      obtain ⟨s, d, P, x, y, z, e1, e2, e3, e4, e5, e6, rfl, rfl, ⟨u, v, hz, rfl⟩, hq⟩ := rf_valid hk hV hV' hVc ⟨flim_iff.1 b1.1, flim_iff.1 b1.2⟩ ⟨flim_iff.1 b2.1, flim_iff.1 b2.2⟩ ⟨flim_iff.1 b3.1, flim_iff.1 b3.2⟩ (fun x y h => RatioOk_V hk h)
      obtain ⟨ca, f1, r1, _⟩ := RatioOf_ok (k := k) (by omega) hV
      obtain ⟨cz, f2, r2, _⟩ := RatioOf_ok (k := k) (by omega) hz
      have g1 := SameRatio_ok (k := k) (by omega) r1 hV.1 hV.2.1
      have g2 := SameRatio_ok (k := k) (by omega) r2 hz.1 hz.2.1
      rw [e1]
      simp only [Option.bind_some]
      rw [e2]
      simp only [Option.bind_some]
      rw [e3]
      simp only [Option.bind_some]
      rw [e4]
      simp only [Option.bind_some]
      rw [e5]
      simp only [Option.bind_some]
      rw [e6]
      simp only [Option.bind_some, bne_self_eq_false, cond_false, f1, g1, Bool.not_true, RatioOk_V hk hz, f2, g2, joinB_inl]
      have hN : brindlewoodref3_NoInt (rq pc qc).1 = some (decide (pc = 0)) := NoInt_ok pc
      rw [hN]
      simp only [Option.bind_some]
      by_cases h0 : pc = 0
      · rw [decide_eq_true h0]; rfl
      · rw [decide_eq_false h0, hq h0]
        simp only [cond_false, Option.bind_some, beq_self_eq_true, cond_true, f1, g1]
theorem rationalField_plain {a b c : Rt} (ha : Wf RtT a) (hb : Wf RtT b) (hc : Wf RtT c) : brindlewoodlaw3_RationalField 1000000000000000000 a b c = some true :=
  rf_main (by decide) parts_ok ha hb hc
end Go.Pl
