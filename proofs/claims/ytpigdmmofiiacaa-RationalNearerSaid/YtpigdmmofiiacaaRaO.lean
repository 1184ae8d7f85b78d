/- RationalNearer: its plain function answers true.  Conditions: values within their kinds, lists no longer than memory. -/
import Derived.Test.YtpigdmmofiiacaaRaN
import Derived.Test.YtpigdmmofiiacaaRaE
set_option linter.unusedVariables false
set_option linter.unusedSimpArgs false
set_option maxHeartbeats 0
namespace Go.Pl
open Go Go.Ev Go.Sh
theorem e60_ex : ∃ e : Nat, e = 60 := ⟨_, rfl⟩
noncomputable def e60 : Nat := Classical.choose e60_ex
theorem e60_eq : e60 = 60 := Classical.choose_spec e60_ex
noncomputable def hlim : Nat := 4294967296 ^ e60
theorem hlim_iff {n : Nat} : (dg 4294967296 n).length ≤ 60 ↔ n < hlim := by rw [← e60_eq]; exact dg_len_iff hB32
theorem hlim_le {M : Nat} (hM : M ≤ 2305843009213693952) : 8 * (hlim * hlim * M) ≤ ilim := by
  have h1 : hlim * hlim * M ≤ hlim * hlim * 2305843009213693952 := Nat.mul_le_mul_left _ hM
  have h2 : 8 * (hlim * hlim * 2305843009213693952) = hlim * hlim * (4294967296 * 4294967296) := by
    rw [show (4294967296 * 4294967296 : Nat) = 8 * 2305843009213693952 by decide]
    rw [← Nat.mul_assoc, Nat.mul_comm 8, Nat.mul_assoc (hlim * hlim), Nat.mul_assoc, Nat.mul_comm 2305843009213693952 8]
  have h3 : hlim * hlim * (4294967296 * 4294967296) ≤ ilim := by
    unfold hlim ilim
    rw [← Nat.pow_add, ← Nat.mul_assoc, ← Nat.pow_succ, ← Nat.pow_succ]
    exact Nat.pow_le_pow_right (by decide) (by have := e60_eq; have := e128_eq; omega)
  have h4 : 8 * (hlim * hlim * M) ≤ 8 * (hlim * hlim * 2305843009213693952) := Nat.mul_le_mul_left _ h1
  rw [h2] at h4
  exact Nat.le_trans h4 h3
theorem half_unit (X : Int) (D M : Nat) (hD : 0 < D) : ∃ r : Int, 2 * (X * M - r * D).natAbs ≤ D := by
  have h1 := Int.mul_ediv_add_emod (X * M) D
  have h2 := Int.emod_nonneg (X * M) (show (D : Int) ≠ 0 by omega)
  have h3 := Int.emod_lt_of_pos (X * M) (show (0 : Int) < D by omega)
  generalize X * (M : Int) % (D : Int) = w at *
  by_cases hw : 2 * w ≤ D
  · refine ⟨X * M / D, ?_⟩
    have : X * M / (D : Int) * (D : Int) = D * (X * M / (D : Int)) := Int.mul_comm _ _
    omega
  · refine ⟨X * M / D + 1, ?_⟩
    have : (X * M / (D : Int) + 1) * (D : Int) = D * (X * M / (D : Int)) + D := by rw [Int.add_mul, Int.one_mul, Int.mul_comm]
    omega
theorem abs_RR {c : Fr'} {x : Int} {y : Nat} (h : RR c x y) : ∃ c', brindlewoodref3_Ratio_Abs c = some c' ∧ RR c' (x.natAbs : Int) y := by
  obtain ⟨⟨s, l⟩, m⟩ := c
  obtain ⟨⟨h1, h2⟩, h3⟩ := h
  simp only at h1 h2 h3
  refine ⟨_, rfl, ⟨?_, ?_⟩, h3⟩
  · show l = _
    rw [h1, Int.natAbs_natCast]
  · intro _
    show false = _
    rw [decide_eq_false (by omega)]
theorem dist_ok {k : Nat} (hk : 100000000000000 < k) {a b : Fr'} {X P : Int} {D Q : Nat} (ha : RR a X D) (hb : RR b P Q) (hV : RatV X D) (hW : RatV P Q) :
    ∃ c g : Fr', ∃ n d : Nat, brindlewoodref3_Ratio_Less k a b = some c ∧ brindlewoodref3_Ratio_Abs c = some g ∧ RR g (n : Int) d ∧ 0 < d ∧ n * (D * Q) = (X * Q - P * D).natAbs * d ∧ (dg 65536 n).length ≤ 2000 ∧ (dg 65536 d).length ≤ 2000 := by
  have l1 := ilen16 hV.1
  have l2 := ilen16 hV.2.1
  have l3 := ilen16 hW.1
  have l4 := ilen16 hW.2.1
  obtain ⟨c, e1, r1⟩ := rqLess_ok hk ha hb (by omega) (by omega) (by omega) (by omega) hV.2.2.1 hW.2.2.1
  have hy : 0 < D * Q := Nat.mul_pos hV.2.2.1 hW.2.2.1
  have ex : X * (Q : Int) + -P * (D : Int) = X * Q - P * D := by rw [Int.neg_mul]; omega
  rw [ex] at r1
  obtain ⟨g, e2, r2⟩ := abs_RR r1
  obtain ⟨_, _, _, _, _, _, hd⟩ := low_facts (x := X * Q - P * D) hy
  have hc := congrArg Int.natAbs (low_cross (x := X * Q - P * D) hy)
  rw [Int.natAbs_mul, Int.natAbs_mul, Int.natAbs_natCast, Int.natAbs_natCast] at hc
  obtain ⟨b1, b2⟩ := rnum_le (x := X * Q - P * D) hy
  have m1 : (dg 65536 (X.natAbs * Q)).length ≤ 512 := by have := len_mul (a := X.natAbs) (b := Q); omega
  have m2 : (dg 65536 (P.natAbs * D)).length ≤ 512 := by have := len_mul (a := P.natAbs) (b := D); omega
  have m3 : (dg 65536 (D * Q)).length ≤ 512 := by have := len_mul (a := D) (b := Q); omega
  have m4 : (X * Q - P * D).natAbs ≤ X.natAbs * Q + P.natAbs * D := by
    have h1 : (X * (Q : Int)).natAbs = X.natAbs * Q := by rw [Int.natAbs_mul, Int.natAbs_natCast]
    have h2 : (P * (D : Int)).natAbs = P.natAbs * D := by rw [Int.natAbs_mul, Int.natAbs_natCast]
    omega
  have m5 := len_add m1 m2
  exact ⟨c, g, _, _, e1, e2, r2, hd, hc, Nat.le_trans (len_le' (Nat.le_trans b1 m4) m5) (by decide), Nat.le_trans (len_le' b2 m3) (by decide)⟩
theorem order_ok {k : Nat} (hk : 100000000000000 < k) {g g' : Fr'} {n d n' d' : Nat} (h : RR g (n : Int) d) (h' : RR g' (n' : Int) d') (l1 : (dg 65536 n).length ≤ 2000) (l2 : (dg 65536 d).length ≤ 2000) (l3 : (dg 65536 n').length ≤ 2000) (l4 : (dg 65536 d').length ≤ 2000) :
    brindlewoodref3_Ratio_Order k g g' = some (sgn ((n : Int) * d') ((n' : Int) * d)) :=
  rqOrder_ok hk h h' (by rw [Int.natAbs_natCast]; omega) (by omega) (by rw [Int.natAbs_natCast]; omega) (by omega)
theorem one16 : (dg 65536 1).length ≤ 2000 := by
  rw [show (dg 65536 1) = [1] from by rw [dg_pos (by decide) (by decide)]; rfl]; decide
theorem big_lt : (4611686018427387904 : Nat) < ilim := by
  have : (dg 4294967296 4611686018427387904).length ≤ 2 := dg_len hB32 (by decide)
  exact ilim_iff.1 (by omega)
theorem len4 {m : Nat} (h : m ≤ 2305843009213693952) : (dg 65536 m).length ≤ 4 := dg_len hB16 (Nat.lt_of_le_of_lt h (by decide))
theorem bind_of {α β : Type} {a : Option α} {x : α} (h : a = some x) (f : α → Option β) : a.bind f = f x := by rw [h]; rfl
def nearTail (k : Nat) (z10 : Int × ((Bool × List Int) × Bool × List Int) × ((Bool × List Int) × Bool × List Int) × (Bool × List Int) × Bool × List Int) : Option (Bool) :=
  (brindlewoodref3_RatioOf k z10.2.1).bind fun t11 => (brindlewoodref3_RatioOf k z10.2.2.1).bind fun t12 => (brindlewoodref3_Ratio_Less k t11 t12).bind fun t13 => (brindlewoodref3_Ratio_Abs t13).bind fun t14 => (brindlewoodref3_RatioOf k z10.2.2.2).bind fun t15 => (brindlewoodref3_Ratio_Less k t11 t15).bind fun t16 => (brindlewoodref3_Ratio_Abs t16).bind fun t17 => (brindlewoodref3_Ratio_Order k t17 t14).bind fun t18 => bif decide (t18 ≤ 0) then ((brindlewoodref3_Number k 1).bind fun t19 => (brindlewoodref3_Number k z10.1).bind fun t20 => (brindlewoodref3_Double k t20.2 false).bind fun t21 => (brindlewoodref3_Ratio_Order k t14 (t19, t21)).bind fun t22 => some (decide (t22 ≤ 0))) else (some false)
theorem nearTail_ok {k : Nat} (hk : 100000000000000 < k) {X P R : Int} {D Q S M E : Nat} (hV : RatV X D) (hM1 : 1 ≤ M) (hM2 : M ≤ 1152921504606846976) (v1 : RatV P Q) (v2 : RatV R S) (q1 : Q ≤ M) (best1 : best X D M P Q) (best2 : best X D (M + E) R S) :
    nearTail k ((M : Int), rq X D, rq P Q, rq R S) = some true := by
  unfold nearTail
  simp only
  obtain ⟨x, f1, r1, _⟩ := RatioOf_ok (k := k) (by omega) hV
  obtain ⟨y, f2, r2, _⟩ := RatioOf_ok (k := k) (by omega) v1
  obtain ⟨z, f3, r3, _⟩ := RatioOf_ok (k := k) (by omega) v2
  obtain ⟨c, g, n, d, d1, d2, d3, d4, d5, d6, d7⟩ := dist_ok hk r1 r2 hV v1
  obtain ⟨c', g', n', d', d1', d2', d3', d4', d5', d6', d7'⟩ := dist_ok hk r1 r3 hV v2
  refine (bind_of f1 _).trans ?_
  refine (bind_of f2 _).trans ?_
  refine (bind_of d1 _).trans ?_
  refine (bind_of d2 _).trans ?_
  refine (bind_of f3 _).trans ?_
  refine (bind_of d1' _).trans ?_
  refine (bind_of d2' _).trans ?_
  refine (bind_of (order_ok hk d3' d3 d6' d7' d6 d7) _).trans ?_
  -- the greater limit is nearer
  have b2 := best2 P Q v1.2.2.1 (by omega)
  have hle : n' * d ≤ n * d' := by
    have z1 : 0 < D * Q := Nat.mul_pos hV.2.2.1 v1.2.2.1
    have z2 : 0 < D * S := Nat.mul_pos hV.2.2.1 v2.2.2.1
    refine Nat.le_of_mul_le_mul_right (c := (D * Q) * S) ?_ (Nat.mul_pos z1 v2.2.2.1)
    generalize (X * Q - P * D).natAbs = A at *
    generalize (X * S - R * D).natAbs = B at *
    have g1 : n' * d * (D * Q * S) = (n' * (D * S)) * (d * Q) := by grind
    have g2 : n * d' * (D * Q * S) = (n * (D * Q)) * (d' * S) := by grind
    rw [g1, g2, d5, d5']
    have g3 : B * d' * (d * Q) = (B * Q) * (d' * d) := by grind
    have g4 : A * d * (d' * S) = (A * S) * (d' * d) := by grind
    rw [g3, g4]
    exact Nat.mul_le_mul_right _ b2
  have hs1 : decide (sgn ((n' : Int) * (d : Int)) ((n : Int) * (d' : Int)) ≤ 0) = true := by
    have h3 : ((n' : Int) * (d : Int)) ≤ (n : Int) * (d' : Int) := by exact_mod_cast hle
    unfold sgn
    by_cases h4 : ((n' : Int) * (d : Int)) < (n : Int) * (d' : Int)
    · rw [if_pos h4]; rfl
    · rw [if_neg h4, if_neg (by omega)]; rfl
  rw [hs1]
  simp only [cond_true]
  have eN1 : brindlewoodref3_Number k 1 = some (false, dg 65536 1) := by rw [rNumber_ok (by omega) (by decide) (by decide)]; rfl
  have eNM : brindlewoodref3_Number k (M : Int) = some (false, dg 65536 M) := by rw [rNumber_ok (by omega) (by omega) (by omega), decide_eq_false (by omega), Int.natAbs_natCast]
  have lM : (dg 65536 M).length ≤ 4 := len4 (by omega)
  have l2M : (dg 65536 (2 * M)).length ≤ 4 := len4 (by omega)
  rw [eN1, eNM]
  simp only [Option.bind_some]
  rw [Double_ok (by omega) (by omega)]
  simp only [Option.bind_some]
  rw [order_ok hk d3 (g' := ((false, dg 65536 1), dg 65536 (2 * M))) (n' := 1) (d' := 2 * M) ⟨RI_nat 1, rfl⟩ d6 d7 one16 (Nat.le_trans l2M (by decide))]
  simp only [Option.bind_some]
  -- half a unit
  obtain ⟨r, hr⟩ := half_unit X D M hV.2.2.1
  have b1 := best1 r M (by omega) (Nat.le_refl _)
  have hle2 : n * (2 * M) ≤ 1 * d := by
    have z1 : 0 < D * Q := Nat.mul_pos hV.2.2.1 v1.2.2.1
    refine Nat.le_of_mul_le_mul_right (c := D * Q) ?_ z1
    generalize (X * Q - P * D).natAbs = A at *
    generalize (X * M - r * D).natAbs = B at *
    have g1 : n * (2 * M) * (D * Q) = n * (D * Q) * (2 * M) := by grind
    rw [g1, d5]
    have g2 : A * d * (2 * M) = 2 * (A * M) * d := by grind
    have g3 : 1 * d * (D * Q) = D * Q * d := by grind
    rw [g2, g3]
    refine Nat.mul_le_mul_right _ ?_
    have g4 : 2 * (A * M) ≤ 2 * (B * Q) := Nat.mul_le_mul_left _ b1
    have g5 : 2 * (B * Q) = 2 * B * Q := by grind
    have g6 : 2 * B * Q ≤ D * Q := Nat.mul_le_mul_right _ hr
    omega
  have hs2 : decide (sgn ((n : Int) * ((2 * M : Nat) : Int)) (((1 : Nat) : Int) * (d : Int)) ≤ 0) = true := by
    have h3 : (n : Int) * ((2 * M : Nat) : Int) ≤ ((1 : Nat) : Int) * (d : Int) := by exact_mod_cast hle2
    unfold sgn
    by_cases h4 : (n : Int) * ((2 * M : Nat) : Int) < ((1 : Nat) : Int) * (d : Int)
    · rw [if_pos h4]; rfl
    · rw [if_neg h4, if_neg (by omega)]; rfl
  rw [hs2]
theorem rn_valid {k : Nat} (hk : 100000000000000 < k) (hP : brindlewoodlaw3_parts k = some true) {X : Int} {D : Nat} (hV : RatV X D) {a b : Int} (h1 : -9223372036854775808 ≤ a ∧ a ≤ 9223372036854775807) (h2 : -9223372036854775808 ≤ b ∧ b ≤ 9223372036854775807) : brindlewoodlaw3_RationalNearer k (rq X D) a b = some true := by
  have hk' : 20000000000 < k := by omega
  unfold brindlewoodlaw3_RationalNearer
  rw [hP, RatioOk_V hk hV]
  simp only [Option.bind_some, Bool.not_true, cond_false]
  by_cases c1 : 60 < (rq X D).1.2.length
  · rw [dlt_t (by omega)]; rfl
  by_cases c2 : 60 < (rq X D).2.2.length
  · rw [dlt_f (by omega), dlt_t (by omega)]; rfl
  rw [dlt_f (by omega), dlt_f (by omega)]
  simp only [cond_false]
  by_cases c3 : a < 1
  · rw [decide_eq_true c3]; rfl
  rw [decide_eq_false c3]
  simp only [cond_false]
  by_cases c4 : b < 0
  · rw [decide_eq_true c4]; rfl
  rw [decide_eq_false c4]
  simp only [cond_false]
  by_cases c5 : 1152921504606846976 < a
  · rw [decide_eq_true c5]; rfl
  rw [decide_eq_false c5]
  simp only [cond_false]
  by_cases c6 : 1152921504606846976 < b
  · rw [decide_eq_true c6]; rfl
  rw [decide_eq_false c6]
  simp only [cond_false, joinB_inl]
  have hX : X.natAbs ≤ hlim := Nat.le_of_lt (hlim_iff.1 (by have : (rq X D).1.2.length = (dg 4294967296 X.natAbs).length := rfl
                                                            omega))
  have hD : D ≤ hlim := Nat.le_of_lt (hlim_iff.1 (by have : (rq X D).2.2.length = (dg 4294967296 D).length := by unfold rq; rw [iz_nat]
                                                     omega))
  obtain ⟨M, rfl⟩ : ∃ M : Nat, a = M := ⟨a.toNat, by omega⟩
  obtain ⟨E, rfl⟩ : ∃ E : Nat, b = E := ⟨b.toNat, by omega⟩
  have hs : w64 ((M : Int) + E) = ((M + E : Nat) : Int) := by rw [w64_id (by omega) (by omega)]; omega
  have hbig := big_lt
  have o1 : integer_Of k (M : Int) = some (iz (M : Int)) := iOf_ok (by omega) (by omega) (by omega)
  have o2 : integer_Of k ((M + E : Nat) : Int) = some (iz ((M + E : Nat) : Int)) := iOf_ok (by omega) (by omega) (by omega)
  rw [hs, o1, o2]
  simp only [Option.bind_some]
  obtain ⟨P, Q, e1, v1, q1, best1⟩ := qNearest_ok hk' hV hX hD (M := M) (by omega) (by omega) (hlim_le (by omega))
  obtain ⟨R, S, e2, v2, q2, best2⟩ := qNearest_ok hk' hV hX hD (M := M + E) (by omega) (by omega) (hlim_le (by omega))
  rw [e1, e2]
  simp only [Option.bind_some, bne_self_eq_false, cond_false, RatioOk_V hk v1, RatioOk_V hk v2, Bool.not_true, joinB_inl]
  exact nearTail_ok hk hV (by omega) (by omega) v1 v2 q1 best1 best2
theorem rationalNearer_plain {x : Rt} {a b : Int} (hx : Wf RtT x) (ha : Wf (.int .i64) a) (hb : Wf (.int .i64) b) : brindlewoodlaw3_RationalNearer 1000000000000000000 x a b = some true := by
  have hk : 100000000000000 < 1000000000000000000 := by decide
  have hP := parts_ok
  have h1 : (-9223372036854775808 : Int) ≤ a ∧ a ≤ 9223372036854775807 := ha
  have h2 : (-9223372036854775808 : Int) ≤ b ∧ b ≤ 9223372036854775807 := hb
  generalize 1000000000000000000 = k at hk hP ⊢
  rcases rat_cases (k := k) (by omega) hx with ⟨X, D, hV, rfl, hv⟩ | hv
  · exact rn_valid hk hP hV h1 h2
  · have hR := RatioOk_ok hk hx
    rw [hv] at hR
    unfold brindlewoodlaw3_RationalNearer
    rw [hP, hR]; rfl
end Go.Pl
