/- IntegerValues: its plain function answers true.  Conditions: limbs within their kind, lists no longer than memory. -/
import Derived.Test.YtpjcoihlcklncaaPiG
import Derived.Test.YtpjcoihlcklncaaPiH
set_option linter.unusedVariables false
set_option linter.unusedSimpArgs false
namespace Go.Pl
open Go Go.Ev Go.Sh

theorem i64_ilim {n : Int} (n1 : -9223372036854775808 ≤ n) (n2 : n ≤ 9223372036854775807) : n.natAbs < ilim := by
  have h : (dg 4294967296 n.natAbs).length ≤ 2 := by
    apply dg_len hB32
    have : (4294967296 : Nat) ^ 2 = 18446744073709551616 := by decide
    omega
  exact ilim_iff.1 (by omega)
theorem ione_no {k : Nat} (hk : 2000 < k) {a : Bool × List Int} (h : integer_Valid a = some false) : integer_Small k a = some (0, 6, -1) ∧ integer_Bits k a = some (0, 6, -1) ∧ integer_Neg k a = some ((false, []), 6, -1) ∧ integer_Abs k a = some ((false, []), 6, -1) := by
  have hc : integer_check k [a] = some (6, -1) := by
    rw [check_ok' hk (fun z hz => by simp only [List.mem_singleton] at hz; subst hz; exact .inr h) (by simp), badI_f _ _ h]; rfl
  unfold integer_Small integer_Bits integer_Neg integer_Abs
  rw [hc]
  exact ⟨rfl, rfl, rfl, rfl⟩

theorem yields_iz {k : Nat} (hk : 2000000001 < k) {c : Bool × List Int} {v : Int} (hv : v.natAbs < ilim) (hc : RI c v) : brindlewoodlaw3_yields k (iz v) (0, 0) c (0, 0) = some true := by
  have := yields_ok hk hc
  rw [ires_ok hv] at this
  exact this

theorem iW_gen {k : Nat} (hk : 100000000000000 < k) (hc : brindlewoodlaw3_counts k = some true) {x n : Int} {b : Bool × List Int} {f : Int × Int} {c : Int} (hx : x.natAbs < ilim) (n1 : -9223372036854775808 ≤ n) (n2 : n ≤ 9223372036854775807)
    (hF : brindlewoodref3_Faults k [iz x, b] = some f) (hC : integer_Cmp k (iz x) b = some (c, f))
    (hend : (bif (f.1 != 0) then (some (c == 0)) else ((brindlewoodref3_IntOf k b).bind fun t34 => (brindlewoodref3_Int_Order k (decide (x < 0), dg 65536 x.natAbs) t34).bind fun t35 => some (c == t35))) = some true) :
    brindlewoodlaw3_IntegerValues k (iz x) b n = some true := by
  unfold brindlewoodlaw3_IntegerValues
  have hV : brindlewoodref3_IntOk (iz x) = some true := by rw [rIntOk]; exact iz_valid hx
  have hV' : integer_Valid (iz x) = some true := iz_valid hx
  have hnl := i64_ilim n1 n2
  have hS := SameInt_ok (k := k) (by omega) (rz_RI n) hnl
  have hIO := IntOf_ok (k := k) (by omega) hx
  have hN1 := rNumber_ok (k := k) (by omega) (a := -9223372036854775808) (by decide) (by decide)
  have hN2 := rNumber_ok (k := k) (by omega) (a := 9223372036854775807) (by decide) (by decide)
  have lx := ilim16_iff.2 hx
  have lo : ((dg 65536 (-9223372036854775808 : Int).natAbs).length : Int) ≤ 1000000 := by decide
  have hi : ((dg 65536 (9223372036854775807 : Int).natAbs).length : Int) ≤ 1000000 := by decide
  have hO1 := iOrder_ok (k := k) (by omega) (rz_RI x) (rz_RI (-9223372036854775808)) (by omega) lo
  have hO2 := iOrder_ok (k := k) (by omega) (rz_RI x) (rz_RI 9223372036854775807) (by omega) hi
  obtain ⟨m, m1, m2⟩ := rMinus_ok (rz_RI x)
  have hY1 := yields_iz (k := k) (by omega) (v := -x) (by omega) m2
  have hY2 := yields_iz (k := k) (by omega) (v := (x.natAbs : Int)) (c := (false, dg 65536 x.natAbs)) (by rw [Int.natAbs_natCast]; exact hx) ⟨by rw [Int.natAbs_natCast], fun _ => by simp⟩
  have hOn := Ones_ok (k := k) (x := x.natAbs) (by omega) (by omega)
  have hlen : ((dg 2 x.natAbs).length != ((dg 2 x.natAbs).map isOne).length) = false := by simp
  rw [hF, hC, hc, hV', hV, iOf_ok (by omega) n1 n2, rNumber_ok (by omega) n1 n2]
  simp only [Option.bind_some, beq_self_eq_true, Bool.not_true, cond_false, hS, Bool.and_self, joinB_inl]
  rw [iSmall_ok (by omega) hx, iBits_ok (by omega) hx, iNeg_ok (by omega) hx, iAbs_ok (by omega) hx, hV]
  simp only [Option.bind_some, Bool.not_true, cond_false, hIO]
  rw [hN1]
  simp only [Option.bind_some]
  rw [hO1]
  simp only [Option.bind_some]
  rw [hN2]
  simp only [Option.bind_some]
  rw [hO2]
  simp only [Option.bind_some]
  by_cases h1 : -9223372036854775808 ≤ x
  · have s1 : decide (0 ≤ sgn x (-9223372036854775808)) = true := dle_t (by unfold sgn; rw [if_neg (by omega)]; split <;> decide)
    rw [s1]
    simp only [cond_true, joinB_inl]
    by_cases h2 : x ≤ 9223372036854775807
    · have s2 : decide (sgn x 9223372036854775807 ≤ 0) = true := dle_t (by unfold sgn; split; decide; rw [if_neg (by omega)]; decide)
      have hI : ismall x = (x, 0, 0) := by unfold ismall; rw [if_pos ⟨h1, h2⟩]
      have hN := rNumber_ok (k := k) (by omega) h1 h2
      have hS2 := SameInt_ok (k := k) (by omega) (rz_RI x) hx
      rw [s2, hI]
      simp only [cond_true, bne_self_eq_false, cond_false, hN, hS2, Option.bind_some, Bool.not_true, joinB_inl, hOn, List.length_map, m1, hY1, hY2]
      exact hend
    · have s2 : decide (sgn x 9223372036854775807 ≤ 0) = false := dle_f (by unfold sgn; rw [if_neg (by omega), if_pos (by omega)]; decide)
      have hI : ismall x = (0, 14, -1) := by unfold ismall; rw [if_neg (by omega)]
      rw [s2, hI]
      simp only [cond_true, bne_self_eq_false, cond_false, Option.bind_some, Bool.not_true, Bool.not_false, joinB_inl, hOn, List.length_map, m1, hY1, hY2, brindlewoodref3_At, beq_self_eq_true, Bool.and_self]
      exact hend
  · have s1 : decide (0 ≤ sgn x (-9223372036854775808)) = false := dle_f (by unfold sgn; rw [if_pos (by omega)]; decide)
    have hI : ismall x = (0, 14, -1) := by unfold ismall; rw [if_neg (by omega)]
    rw [s1, hI]
    simp only [cond_true, bne_self_eq_false, cond_false, Option.bind_some, Bool.not_true, Bool.not_false, joinB_inl, hOn, List.length_map, m1, hY1, hY2, brindlewoodref3_At, beq_self_eq_true, Bool.and_self]
    exact hend

theorem iW_no {k : Nat} (hk : 100000000000000 < k) (hc : brindlewoodlaw3_counts k = some true) {n : Int} {a b : Bool × List Int} {f : Int × Int} {c : Int} (n1 : -9223372036854775808 ≤ n) (n2 : n ≤ 9223372036854775807)
    (hF : brindlewoodref3_Faults k [a, b] = some f) (hC : integer_Cmp k a b = some (0, f)) (ha : integer_Valid a = some false) :
    brindlewoodlaw3_IntegerValues k a b n = some true := by
  unfold brindlewoodlaw3_IntegerValues
  have hV : brindlewoodref3_IntOk a = some false := by rw [rIntOk]; exact ha
  have hnl := i64_ilim n1 n2
  have hS := SameInt_ok (k := k) (by omega) (rz_RI n) hnl
  obtain ⟨e1, e2, e3, e4⟩ := ione_no (k := k) (by omega) ha
  rw [hF, hC, hc, ha, hV, iOf_ok (by omega) n1 n2, rNumber_ok (by omega) n1 n2]
  simp only [Option.bind_some, beq_self_eq_true, Bool.not_true, cond_false, hS, Bool.and_self, joinB_inl]
  rw [e1, e2, e3, e4, hV]
  rfl

theorem integerValues_plain {a b : Bool × List Int} {n : Int} (ha : Wf IT a) (hb : Wf IT b) (hn : Wf (.int .i64) n) : brindlewoodlaw3_IntegerValues 1000000000000000000 a b n = some true := by
  have hr : (-9223372036854775808 : Int) ≤ n ∧ n ≤ 9223372036854775807 := hn
  rcases int_vals ha with ⟨x, hx, rfl, va⟩ | va
  · rcases int_vals hb with ⟨y, hy, rfl, vb⟩ | vb
    · have hF := (faults_none (k := 1000000000000000000) (by decide) (by simp) (l := [iz x, iz y]) (by
        intro w hw
        simp only [List.mem_cons, List.not_mem_nil, or_false] at hw
        rcases hw with rfl | rfl
        · exact iz_valid hx
        · exact iz_valid hy)).2
      have lx := ilim16_iff.2 hx
      have ly := ilim16_iff.2 hy
      refine iW_gen (by decide) counts_ok hx hr.1 hr.2 hF (iCmp_ok (by decide) hx hy) ?_
      rw [IntOf_ok (by decide) hy]
      simp only [bne_self_eq_false, cond_false, Option.bind_some]
      rw [iOrder_ok (by decide) (rz_RI x) (rz_RI y) (by omega) (by omega)]
      simp
    · obtain ⟨f, h1, h2, h3⟩ := faults_err (k := 1000000000000000000) (by decide) (two_valid (.inl va) (.inr vb)) (by simp) ⟨b, by simp, vb⟩
      refine iW_gen (by decide) counts_ok hx hr.1 hr.2 h2 (iop_no2 h1 h3).2.2 ?_
      rw [bne_t h3]; rfl
  · obtain ⟨f, h1, h2, h3⟩ := faults_err (k := 1000000000000000000) (by decide) (two_valid (.inr va) (int_valid hb)) (by simp) ⟨a, by simp, va⟩
    exact iW_no (c := 0) (by decide) counts_ok hr.1 hr.2 h2 (iop_no2 h1 h3).2.2 va
end Go.Pl
