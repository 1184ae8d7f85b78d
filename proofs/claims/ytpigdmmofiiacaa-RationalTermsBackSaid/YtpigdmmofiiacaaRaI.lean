/- RationalTermsBack: its plain function answers true.  Conditions: values within their kinds, lists no longer than memory. -/
import Derived.Test.YtpigdmmofiiacaaRaE
import Derived.Test.YtpigdmmofiiacaaRaG
set_option linter.unusedVariables false
set_option linter.unusedSimpArgs false
namespace Go.Pl
open Go Go.Ev Go.Sh

theorem rat_one {t : Int} : rnum t 1 = t ∧ rden t 1 = 1 := low_self (by decide) (Nat.gcd_one_right _)
theorem one_lt : (1 : Nat) < ilim := ilim_iff.1 (by decide)
theorem whole_V {t : Int} (h : t.natAbs < ilim) : RatV t 1 := ⟨h, one_lt, by decide, Nat.gcd_one_right _⟩
theorem make_one {k : Nat} (hk : 20000000000 < k) {t : Int} (h : t.natAbs < ilim) : rational_Make k (iz t) (iz 1) = some (rq t 1, 0, 0) := by
  rw [rMake_ok hk h (by simpa using one_lt), if_neg (by decide), if_neg (by decide)]
  obtain ⟨e1, e2⟩ := rat_one (t := t)
  show some (ratres t 1) = _
  rw [ratres_ok (by rw [e1]; exact h) (by rw [e2]; exact one_lt), e1, e2]

theorem back_l0 {k : Nat} (hk : 20000000000 < k) {p : Int} {q : Nat} (hV : RatV p q) (hlen : (cf p q).length ≤ 400) (A : Rt) : ∀ (n j : Nat), j < n → j < (cf p q).length →
    brindlewoodlaw3_RationalTermsBack.l0 k n A ((cf p q).map iz) (rq (cst p q j).1 (cst p q j).2) (0, 0) ((j : Int) - 1) = some (.inl (A, rq p q, 0, 0)) := by
  intro n
  induction n with
  | zero => intro j h; omega
  | succ n ih =>
    intro j h hj
    simp only [brindlewoodlaw3_RationalTermsBack.l0, brindlewoodlaw3_RationalTermsBack.b0]
    cases j with
    | zero => rfl
    | succ j =>
      obtain ⟨hX, _, hgt⟩ := cst_facts hV (j + 1) hj
      obtain ⟨hY, _, _⟩ := cst_facts hV j (by omega)
      have ec : cst p q (j + 1) = (((cst p q j).2 : Int), ((cst p q j).1 % ((cst p q j).2 : Int)).toNat) := rfl
      have hgt := hgt (by omega)
      have ej : (((j + 1 : Nat) : Int) - 1) = (j : Int) := by omega
      have hO : integer_Of k 1 = some (iz 1) := iOf_ok (by omega) (by decide) (by decide)
      rw [ej, dle_t (by omega)]
      simp only [cond_true, beq_self_eq_true, hO, Option.bind_some]
      rw [make_one hk (t := 1) (by simpa using one_lt)]
      simp only [Option.bind_some]
      rw [qDiv_ok hk (whole_V (by simpa using one_lt)) hX]
      rw [ec] at hX hgt ⊢
      simp only at hX hgt ⊢
      have hat := cf_at hV (j := j) (by omega)
      obtain ⟨f1, f2, f3, f4, f5⟩ := fl_facts hY
      generalize hx : (cst p q j).1 = x at *
      generalize hy : (cst p q j).2 = y at *
      obtain ⟨r, hr⟩ : ∃ r : Nat, x % (y : Int) = r := ⟨(x % (y : Int)).toNat, by omega⟩
      rw [hr] at hX hgt f5 f1 f2
      simp only [Int.toNat_natCast] at hX hgt
      have y0 : 0 < y := hY.2.2.1
      have hg : Nat.gcd ((r : Int)).natAbs y = 1 := by have := hX.2.2.2; rw [Int.natAbs_natCast] at this ⊢; rw [Nat.gcd_comm]; exact this
      have e1 : divX 1 (y : Int) r = (r : Int) := by unfold divX; rw [if_neg (by omega), Int.one_mul]
      obtain ⟨l1, l2⟩ := low_self (p := (r : Int)) y0 hg
      rw [hr, Int.toNat_natCast, if_neg (by omega), e1, Nat.one_mul, Int.natAbs_natCast, ratres_ok (by rw [l1]; have := hX.2.1; simpa using this) (by rw [l2]; exact hY.2.1), l1, l2]
      simp only [Option.bind_some, List.length_map]
      have hn : nth IT ((cf p q).map iz) (j : Int) = iz (x / (y : Int)) := by
        show ((cf p q).map iz).getD j _ = _
        rw [List.getD_eq_getElem?_getD, List.getElem?_map, List.getElem?_eq_getElem (by omega), hat]; rfl
      have hn' : nth (.st (.pair (.bool) (.list (.int .u32)))) ((cf p q).map iz) (j : Int) = iz (x / (y : Int)) := hn
      rw [inR_t (by omega) (by omega), hn', make_one hk f4]
      simp only [cond_true, Option.bind_some, bne_self_eq_false, cond_false]
      have hR : RatV (r : Int) y := ⟨by have := hX.2.1; simpa using this, hY.2.1, y0, hg⟩
      rw [qAdd_ok hk (whole_V f4) hR]
      have e2 : x / (y : Int) * (y : Int) + (r : Int) * ((1 : Nat) : Int) = x := by
        have : x / (y : Int) * (y : Int) = y * (x / (y : Int)) := Int.mul_comm _ _
        omega
      obtain ⟨l3, l4⟩ := low_self (p := x) y0 hY.2.2.2
      rw [e2, Nat.one_mul, ratres_ok (by rw [l3]; exact hY.1) (by rw [l4]; exact hY.2.1), l3, l4]
      simp only [Option.bind_some]
      have ew : w64 ((j : Int) - 1) = (j : Int) - 1 := w64_id (by omega) (by omega)
      rw [ew]
      have := ih j (by omega) (by omega)
      rw [hx, hy] at this
      exact this

theorem tb_valid {k : Nat} (hk : 100000000000000 < k) (hP : brindlewoodlaw3_parts k = some true) {p : Int} {q : Nat} (hV : RatV p q) : brindlewoodlaw3_RationalTermsBack k (rq p q) = some true := by
  have hk' : 20000000000 < k := by omega
  unfold brindlewoodlaw3_RationalTermsBack
  rw [qTerms_ok hk' hV, hP]
  simp only [Option.bind_some, Bool.not_true, cond_false]
  by_cases h5 : (cf p q).length ≤ 400
  · have ht : terms p q = ((cf p q).map iz, 0, 0) := by unfold terms; rw [if_pos h5]
    rw [ht]
    have hm := cf_len_pos (p := p) hV.2.2.1
    obtain ⟨m, hm2⟩ : ∃ m, (cf p q).length = m + 1 := ⟨(cf p q).length - 1, by omega⟩
    have hO : integer_Of k 1 = some (iz 1) := iOf_ok (by omega) (by decide) (by decide)
    have ew : w64 (((m + 1 : Nat) : Int) - 1) = (m : Int) := by rw [w64_id (by omega) (by omega)]; omega
    obtain ⟨hX, hdrop, hgt⟩ := cst_facts hV m (by omega)
    have hat := cf_at hV (j := m) (by omega)
    obtain ⟨f1, f2, f3, f4, f5⟩ := fl_facts hX
    simp only [bne_self_eq_false, cond_false, List.length_map, hm2, ew]
    rw [beq_f (by omega), inR_t (by omega) (by omega)]
    simp only [cond_false, cond_true, hO, Option.bind_some]
    have hn : nth IT ((cf p q).map iz) (m : Int) = iz ((cst p q m).1 / ((cst p q m).2 : Int)) := by
      show ((cf p q).map iz).getD m _ = _
      rw [List.getD_eq_getElem?_getD, List.getElem?_map, List.getElem?_eq_getElem (by omega), hat]; rfl
    have hn' : nth (.st (.pair (.bool) (.list (.int .u32)))) ((cf p q).map iz) (m : Int) = iz ((cst p q m).1 / ((cst p q m).2 : Int)) := hn
    rw [hn', make_one hk' f4]
    simp only [Option.bind_some]
    rw [iCmp_ok hk' f4 (by simpa using one_lt)]
    simp only [Option.bind_some]
    -- the last denominator is 1
    have hlast : (cst p q m).2 = 1 ∧ (cst p q m).1 / ((cst p q m).2 : Int) = (cst p q m).1 := by
      rw [cf_pos _ hX.2.2.1] at hdrop
      have hl2 := congrArg List.length hdrop
      rw [List.length_drop, List.length_cons, hm2] at hl2
      have hz : ((cst p q m).1 % ((cst p q m).2 : Int)).toNat = 0 := by
        rcases Nat.eq_zero_or_pos ((cst p q m).1 % ((cst p q m).2 : Int)).toNat with h | h
        · exact h
        · have := cf_len_pos (p := ((cst p q m).2 : Int)) h
          omega
      have hz' : (cst p q m).1 % ((cst p q m).2 : Int) = 0 := by omega
      have hg := gcd_emod (p := (cst p q m).1) hX.2.2.1
      rw [hX.2.2.2, hz, Nat.gcd_zero_right] at hg
      refine ⟨hg, ?_⟩
      rw [hg]; simp
    have hq1 : rq ((cst p q m).1 / ((cst p q m).2 : Int)) 1 = rq (cst p q m).1 (cst p q m).2 := by
      rw [hlast.2, hlast.1]
    -- behind the comparison
    have hB := back_l0 hk' hV h5 (rq p q) k m (by omega) (by omega)
    have ec : w64 (((m + 1 : Nat) : Int) - 2) = (m : Int) - 1 := by rw [w64_id (by omega) (by omega)]; omega
    obtain ⟨c, e1, r1, _⟩ := RatioOf_ok (k := k) (by omega) hV
    have g1 := SameRatio_ok (k := k) (by omega) r1 hV.1 hV.2.1
    rw [hq1]
    have fin : (joinB (α := ((Bool × List Int) × Bool × List Int) × ((Bool × List Int) × Bool × List Int) × Int × Int) (brindlewoodlaw3_RationalTermsBack.l0 k k (rq p q) ((cf p q).map iz) (rq (cst p q m).1 (cst p q m).2) (0, 0) ((m : Int) - 1)) (fun y16 => bif (y16.2.2.1 == 0) then ((brindlewoodref3_RatioOk k y16.1).bind fun t17 => bif t17 then ((brindlewoodref3_RatioOf k y16.1).bind fun t18 => (brindlewoodref3_SameRatio k y16.2.1 t18).bind fun t19 => some t19) else (some false)) else (some false)) some) = some true := by
      rw [hB]
      simp only [joinB_inl, beq_self_eq_true, cond_true, RatioOk_V hk hV, Option.bind_some, e1, g1]
    by_cases h1 : 1 ≤ m
    · have hs : sgn ((cst p q m).1 / ((cst p q m).2 : Int)) 1 = 1 := by
        have := hgt (by omega)
        rw [hlast.2]
        rw [hlast.1] at this
        unfold sgn; rw [if_neg (by omega), if_pos (by omega)]
      rw [hs, dlt_t (by omega)]
      simp only [cond_true, show decide ((1 : Int) ≤ 0) = false from rfl, bne_self_eq_false, cond_false, joinB_inl, List.length_map, hm2, ec]
      exact fin
    · rw [dlt_f (by omega)]
      simp only [cond_false, joinB_inl, List.length_map, hm2, ec]
      exact fin
  · have ht : terms p q = ([], 2, -1) := by unfold terms; rw [if_neg h5]
    rw [ht]; rfl

theorem rationalTermsBack_plain {a : Rt} (ha : Wf RtT a) : brindlewoodlaw3_RationalTermsBack 1000000000000000000 a = some true := by
  have hk : 100000000000000 < 1000000000000000000 := by decide
  have hP := parts_ok
  generalize 1000000000000000000 = k at hk hP ⊢
  rcases rat_cases (k := k) (by omega) ha with ⟨p, q, hV, rfl, hv⟩ | hv
  · exact tb_valid hk hP hV
  · have hC := qcheck_ok (k := k) (by omega) (l := [a]) (fun y hy => .inr (by simp at hy; rw [hy]; exact hv)) (by simp)
    rw [badQ_f _ _ hv] at hC
    unfold brindlewoodlaw3_RationalTermsBack rational_Terms
    rw [hC, hP]; rfl
end Go.Pl
