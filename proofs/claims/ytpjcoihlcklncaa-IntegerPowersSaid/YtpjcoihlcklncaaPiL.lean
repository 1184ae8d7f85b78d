/- IntegerPowers: its plain function answers true.  Conditions: limbs within their kind, lists no longer than memory. -/
import Derived.Test.YtpjcoihlcklncaaPiK
import Derived.Test.YtpjcoihlcklncaaPiI
set_option linter.unusedVariables false
set_option linter.unusedSimpArgs false
namespace Go.Pl
open Go Go.Ev Go.Sh

theorem len_mul16 {x y : Nat} {a b : Nat} (hx : (dg 65536 x).length ≤ a) (hy : (dg 65536 y).length ≤ b) : (dg 65536 (x * y)).length ≤ a + b := by
  apply dg_len hB16
  rw [Nat.pow_add]
  exact Nat.mul_lt_mul'' (Nat.lt_of_lt_of_le (dg_lt hB16) (Nat.pow_le_pow_right (by decide) hx)) (Nat.lt_of_lt_of_le (dg_lt hB16) (Nat.pow_le_pow_right (by decide) hy))

theorem emod_lim {z m : Int} (hm0 : 0 < m) (hm : m.natAbs < ilim) : (z % m).natAbs < ilim := by
  have h1 := Int.emod_nonneg z (show m ≠ 0 by omega)
  have h2 := Int.emod_lt_of_pos z hm0
  omega

/-- the second half: rests of powers -/
def restPart (k : Nat) (z17 : (Bool × List Int) × (Bool × List Int) × (Bool × List Int) × (Bool × List Int) × Int × Int) : Option Bool :=
  (brindlewoodref3_Faults k [z17.1, z17.2.1, z17.2.2.1]).bind fun t18 => joinB (α := (Bool × List Int) × (Bool × List Int) × (Bool × List Int) × (Bool × List Int) × (Int × Int) × Int × Int) (bif (t18.1 != 0) then (some (.inl (z17.1, z17.2.1, z17.2.2.1, z17.2.2.2.1, z17.2.2.2.2, t18))) else (bif z17.2.1.1 then ((brindlewoodref3_At 4 (-2)).bind fun t19 => some (.inl (z17.1, z17.2.1, z17.2.2.1, z17.2.2.2.1, z17.2.2.2.2, t19))) else (bif z17.2.2.1.1 then ((brindlewoodref3_At 4 (-3)).bind fun t20 => some (.inl (z17.1, z17.2.1, z17.2.2.1, z17.2.2.2.1, z17.2.2.2.2, t20))) else ((brindlewoodref3_NoInt z17.2.2.1).bind fun t21 => bif t21 then ((brindlewoodref3_At 22 (-3)).bind fun t22 => some (.inl (z17.1, z17.2.1, z17.2.2.1, z17.2.2.2.1, z17.2.2.2.2, t22))) else (some (.inl (z17.1, z17.2.1, z17.2.2.1, z17.2.2.2.1, z17.2.2.2.2, t18))))))) (fun z23 => bif (z23.2.2.2.2.2.1 != 0) then (bif ((z23.2.2.2.2.1.1 == z23.2.2.2.2.2.1) && ((z23.2.2.2.2.1.2 == z23.2.2.2.2.2.2) && true)) then ((brindlewoodref3_NoInt z23.2.2.2.1).bind fun t24 => some t24) else (some false)) else ((brindlewoodref3_IntOf k z23.2.2.1).bind fun t25 => (brindlewoodref3_Number k 1).bind fun t26 => joinB (α := (Bool × List Int) × (Int × Int) × (Bool × List Int) × Bool × List Int) ((brindlewoodref3_NoInt z23.2.1).bind fun t27 => bif (!t27) then ((brindlewoodref3_Of k z23.2.1.2).bind fun t28 => (brindlewoodref3_Moved k t28 (-1)).bind fun t29 => (brindlewoodref3_Limbs k t29).bind fun t30 => (integer_PowMod k z23.1 (false, t30) z23.2.2.1).bind fun t31 => joinB (α := (Bool × List Int) × (Bool × List Int) × (Bool × List Int) × (Int × Int) × (Bool × List Int) × (Bool × List Int) × Bool × List Int) (bif (t31.2.1 != 0) then (some (.inr false)) else ((brindlewoodref3_IntOk t31.1).bind fun t32 => bif (!t32) then (some (.inr false)) else (some (.inl (z23.1, z23.2.1, z23.2.2.2.1, z23.2.2.2.2.1, t25, t26, t31.1))))) (fun z33 => (brindlewoodref3_IntOf k z33.2.2.2.2.2.2).bind fun t34 => (brindlewoodref3_IntOf k z33.2.2.2.2.2.2).bind fun t35 => (brindlewoodref3_Int_Times k t34 t35).bind fun t36 => bif inR 0 (z33.2.1.2.length : Int) then (bif ((Int.tmod (rd z33.2.1.2 0) 2) == 1) then ((brindlewoodref3_Int_Floor k t36 z33.2.2.2.2.1).bind fun t37 => (brindlewoodref3_IntOf k z33.1).bind fun t38 => (brindlewoodref3_Int_Times k t37.2 t38).bind fun t39 => some (.inl (z33.2.2.1, z33.2.2.2.1, z33.2.2.2.2.1, t39))) else (some (.inl (z33.2.2.1, z33.2.2.2.1, z33.2.2.2.2.1, t36)))) else none) (fun r => some (.inr r))) else (some (.inl (z23.2.2.2.1, z23.2.2.2.2.1, t25, t26)))) (fun z40 => (brindlewoodref3_Int_Floor k z40.2.2.2 z40.2.2.1).bind fun t41 => bif (z40.2.1.1 == 0) then ((brindlewoodref3_SameInt k z40.1 t41.2).bind fun t42 => some t42) else (some false)) some)) some

theorem rest_err {k : Nat} {a b m q : Bool × List Int} {f : Int × Int} (hF : brindlewoodref3_Faults k [a, b, m] = some f) (hf : f.1 ≠ 0) (hq : q = (false, [])) : restPart k (a, b, m, q, f) = some true := by
  unfold restPart
  simp only
  rw [hF]
  simp only [Option.bind_some, bne_t hf, cond_true, joinB_inl, beq_self_eq_true, Bool.and_self, hq, NoInt_nil]

theorem rest_ok {k : Nat} (hk : 100000000000000 < k) {x b m : Int} (hx : x.natAbs < ilim) (hb : b.natAbs < ilim) (hm : m.natAbs < ilim) {q : Bool × List Int} {e : Int × Int} (hq : integer_PowMod k (iz x) (iz b) (iz m) = some (q, e)) : restPart k (iz x, iz b, iz m, q, e) = some true := by
  have hF := (faults_none (k := k) (by omega) (by simp) (l := [iz x, iz b, iz m]) (by
    intro w hw
    simp only [List.mem_cons, List.not_mem_nil, or_false] at hw
    rcases hw with rfl | rfl | rfl
    · exact iz_valid hx
    · exact iz_valid hb
    · exact iz_valid hm)).2
  rw [iPowMod_ok (by omega) hx hb hm] at hq
  have hq := Option.some.inj hq
  unfold restPart
  simp only
  rw [hF]
  simp only [Option.bind_some, bne_self_eq_false, cond_false]
  by_cases h1 : b < 0
  · rw [if_pos h1] at hq
    cases hq
    have : (iz b).1 = true := decide_eq_true h1
    rw [this]; rfl
  have hb1 : (iz b).1 = false := decide_eq_false h1
  rw [if_neg h1] at hq
  rw [hb1]
  simp only [cond_false]
  by_cases h2 : m < 0
  · rw [if_pos h2] at hq
    cases hq
    have : (iz m).1 = true := decide_eq_true h2
    rw [this]; rfl
  have hm1 : (iz m).1 = false := decide_eq_false h2
  rw [if_neg h2] at hq
  rw [hm1]
  simp only [cond_false]
  rw [NoInt_ok]
  simp only [Option.bind_some]
  by_cases h3 : m = 0
  · rw [if_pos h3] at hq
    cases hq
    rw [decide_eq_true h3]; rfl
  rw [if_neg h3] at hq
  cases hq
  have hm0 : 0 < m := by omega
  have lx := ilim16_iff.2 hx
  have lb := ilim16_iff.2 hb
  have lm := ilim16_iff.2 hm
  have lb3 := ilim_iff.2 hb
  rw [decide_eq_false h3]
  simp only [cond_false, joinB_inl, bne_self_eq_false]
  rw [IntOf_ok (by omega) hm, rNumber_ok (by omega) (by decide) (by decide), NoInt_ok]
  simp only [Option.bind_some]
  -- the end, for a number that is alike modulo m
  have fin : ∀ (c : Bool × List Int) (z : Int), RI c z → ((dg 65536 z.natAbs).length : Int) ≤ 90000 → z % m = x ^ b.toNat % m → ((brindlewoodref3_Int_Floor k c (decide (m < 0), dg 65536 m.natAbs)).bind fun t41 => (bif ((0 : Int) == 0) then ((brindlewoodref3_SameInt k (iz (x ^ b.toNat % m)) t41.2).bind fun t42 => some t42) else (some false))) = some true := by
    intro c z hc hl hz
    obtain ⟨c1, d1, f1, f2, f3⟩ := Floor_ok (k := k) hk hc (rz_RI m) h3 hl (by omega)
    rw [ir_emod hm0, hz] at f3
    rw [f1]
    simp only [Option.bind_some, beq_self_eq_true, cond_true]
    rw [SameInt_ok (by omega) f3 (emod_lim hm0 hm)]
    rfl
  by_cases hb0 : b = 0
  · rw [decide_eq_true hb0]
    simp only [Bool.not_true, cond_false, joinB_inl]
    refine fin _ 1 (rz_RI 1) (by decide) ?_
    rw [hb0, show (0 : Int).toNat = 0 from rfl, Int.pow_zero]
  · rw [decide_eq_false hb0]
    simp only [Bool.not_false, cond_true]
    have hO : brindlewoodref3_Of k (iz b).2 = some (dg 65536 b.natAbs) := Of_ok (dd32 _) (de32 _) (by show ((dg 4294967296 b.natAbs).length : Int) ≤ _; omega) (by omega)
    have hMv := Moved_ok (k := k) (x := b.natAbs) (n := -1) (by omega) (by omega) (by decide) (.inr (by decide))
    have hmv : moved b.natAbs (-1) = b.natAbs / 2 := rfl
    have hdl : b.natAbs / 2 ≤ b.natAbs := Nat.div_le_self _ _
    have hll : (dg 65536 (b.natAbs / 2)).length ≤ (dg 65536 b.natAbs).length := len_le_of_le hB16 hdl
    rw [hmv] at hMv
    have hLi := Limbs_ok (k := k) (x := b.natAbs / 2) (by omega) (by omega)
    have hzh : (false, dg 4294967296 (b.natAbs / 2)) = iz ((b.natAbs / 2 : Nat) : Int) := by
      unfold iz
      rw [Int.natAbs_natCast, decide_eq_false (by omega)]
    have hP := iPowMod_ok (k := k) (x := x) (b := ((b.natAbs / 2 : Nat) : Int)) (m := m) (by omega) hx (by rw [Int.natAbs_natCast]; omega) hm
    rw [if_neg (by omega), if_neg (by omega), if_neg h3, Int.toNat_natCast] at hP
    rw [hO]
    simp only [Option.bind_some, hMv, hLi, hzh, hP, bne_self_eq_false, cond_false]
    generalize hh : b.natAbs / 2 = h at *
    have hPl := emod_lim (z := x ^ h) hm0 hm
    have lP := ilim16_iff.2 hPl
    rw [rIntOk, iz_valid hPl]
    simp only [Option.bind_some, Bool.not_true, cond_false, joinB_inl]
    rw [IntOf_ok (by omega) hPl]
    simp only [Option.bind_some]
    obtain ⟨t, t1, t2⟩ := rTimes_ok hk (rz_RI (x ^ h % m)) (rz_RI (x ^ h % m)) (by omega) (by omega)
    have lt : (dg 65536 (x ^ h % m * (x ^ h % m)).natAbs).length ≤ 256 + 256 := by rw [Int.natAbs_mul]; exact len_mul16 (by omega) (by omega)
    have hp := (dg_len_pos (n := b.natAbs) hB32).2 (by omega)
    have hin : inR 0 ((iz b).2.length : Int) = true := inR_t (by omega) (by show (0 : Int) < ((dg 4294967296 b.natAbs).length : Int); omega)
    have hrd : rd (iz b).2 0 = ((b.natAbs % 4294967296 : Nat) : Int) := by
      show rd (dg 4294967296 b.natAbs) ((0 : Nat) : Int) = _
      rw [rd_nat, dg_getD hB32, Nat.pow_zero, Nat.div_one]
    rw [t1, hin, hrd, tmod_nn (by omega)]
    simp only [cond_true, Option.bind_some]
    have hsq : ∀ z : Int, x ^ h % m * (x ^ h % m) % m = x ^ (h + h) % m := fun _ => by rw [Int.pow_add, ← Int.mul_emod]
    by_cases hodd : ((b.natAbs % 4294967296 : Nat) : Int) % 2 = 1
    · have hbn : b.toNat = h + h + 1 := by omega
      obtain ⟨c1, d1, f1, f2, f3⟩ := Floor_ok (k := k) hk t2 (rz_RI m) h3 (by omega) (by omega)
      rw [ir_emod hm0, hsq 0] at f3
      have hRl := emod_lim (z := x ^ (h + h)) hm0 hm
      have lR := ilim16_iff.2 hRl
      obtain ⟨u, u1, u2⟩ := rTimes_ok hk f3 (rz_RI x) (by omega) (by omega)
      have lu : (dg 65536 (x ^ (h + h) % m * x).natAbs).length ≤ 256 + 256 := by rw [Int.natAbs_mul]; exact len_mul16 (by omega) (by omega)
      rw [hodd, f1]
      simp only [beq_self_eq_true, cond_true, Option.bind_some]
      rw [IntOf_ok (by omega) hx]
      simp only [Option.bind_some]
      rw [u1]
      simp only [Option.bind_some, joinB_inl]
      refine fin u _ u2 (by omega) ?_
      rw [hbn, Int.pow_succ, Int.mul_emod, Int.mul_emod (x ^ (h + h)), Int.emod_emod_of_dvd _ (Int.dvd_refl m)]
    · have hbn : b.toNat = h + h := by omega
      rw [beq_f hodd]
      simp only [cond_false, joinB_inl]
      refine fin t _ t2 (by omega) ?_
      rw [hbn, hsq 0]

theorem iX_ok {k : Nat} (hk : 100000000000000 < k) (hc : brindlewoodlaw3_counts k = some true) {x : Int} (hx : x.natAbs < ilim) {e : Int} (he1 : -9223372036854775808 ≤ e) (he2 : e ≤ 9223372036854775807) {b m q : Bool × List Int} {f : Int × Int} (hP : integer_PowMod k (iz x) b m = some (q, f)) (hrest : restPart k (iz x, b, m, q, f) = some true) : brindlewoodlaw3_IntegerPowers k (iz x) e b m = some true := by
  unfold brindlewoodlaw3_IntegerPowers
  unfold restPart at hrest
  have hV : brindlewoodref3_IntOk (iz x) = some true := by rw [rIntOk]; exact iz_valid hx
  rw [iPow_ok (by omega) hx, hP, hc, hV]
  simp only [Option.bind_some, Bool.not_true, cond_false]
  by_cases h1 : e < 0
  · rw [dlt_t h1, if_pos (.inl h1)]
    simp only [cond_true, joinB_inl, brindlewoodref3_At, Option.bind_some, beq_self_eq_true, Bool.and_self, Bool.not_true, cond_false, NoInt_nil]
    exact hrest
  · rw [dlt_f (by omega)]
    by_cases h2 : 10000 < e
    · rw [dlt_t h2, if_pos (.inr h2)]
      simp only [cond_true, cond_false, joinB_inl, brindlewoodref3_At, Option.bind_some, beq_self_eq_true, Bool.and_self, Bool.not_true, NoInt_nil]
      exact hrest
    · rw [dlt_f (by omega), if_neg (by omega)]
      obtain ⟨n, rfl⟩ := Int.eq_ofNat_of_zero_le (show 0 ≤ e by omega)
      simp only [cond_false, joinB_inl, Int.toNat_natCast]
      rw [IntOf_ok (by omega) hx]
      simp only [Option.bind_some]
      rcases Raised_ok (k := k) hk (rz_RI x) hx (e := n) (by omega) with ⟨c, g1, g2, g3⟩ | ⟨g1, g2⟩
      · have hY := yields_ok (k := k) (by omega) g2
        rw [g1]
        simp only [Option.bind_some, hY, cond_true, Bool.not_true, cond_false, joinB_inl]
        exact hrest
      · rw [g1]
        unfold ires
        rw [if_neg g2]
        simp only [Option.bind_some, cond_false, Bool.not_false, cond_true, brindlewoodref3_At, beq_self_eq_true, Bool.and_self, Bool.not_true, NoInt_nil, joinB_inl]
        exact hrest

theorem iX_no {k : Nat} (hk : 100000000000000 < k) (hc : brindlewoodlaw3_counts k = some true) {a : Bool × List Int} (ha : integer_Valid a = some false) {e : Int} {b m q : Bool × List Int} {f : Int × Int} (hP : integer_PowMod k a b m = some (q, f)) (hrest : restPart k (a, b, m, q, f) = some true) : brindlewoodlaw3_IntegerPowers k a e b m = some true := by
  unfold brindlewoodlaw3_IntegerPowers
  unfold restPart at hrest
  have hV : brindlewoodref3_IntOk a = some false := by rw [rIntOk]; exact ha
  rw [iPow_no (by omega) ha, hP, hc, hV]
  simp only [Option.bind_some, Bool.not_true, cond_false, Bool.not_false, cond_true, brindlewoodref3_At, beq_self_eq_true, Bool.and_self, NoInt_nil, joinB_inl]
  exact hrest

theorem integerPowers_plain {a b m : Bool × List Int} {e : Int} (ha : Wf IT a) (he : Wf (.int .i64) e) (hb : Wf IT b) (hm : Wf IT m) : brindlewoodlaw3_IntegerPowers 1000000000000000000 a e b m = some true := by
  have hr : (-9223372036854775808 : Int) ≤ e ∧ e ≤ 9223372036854775807 := he
  have herr : (∃ x ∈ [a, b, m], integer_Valid x = some false) → ∃ f, integer_PowMod 1000000000000000000 a b m = some ((false, []), f) ∧ restPart 1000000000000000000 (a, b, m, (false, []), f) = some true := by
    intro hx
    obtain ⟨f, h1, h2, h3⟩ := faults_err (k := 1000000000000000000) (by decide) (l := [a, b, m]) (by
      intro w hw
      simp only [List.mem_cons, List.not_mem_nil, or_false] at hw
      rcases hw with rfl | rfl | rfl
      · exact int_valid ha
      · exact int_valid hb
      · exact int_valid hm) (by simp) hx
    exact ⟨f, iPowMod_no h1 h3, rest_err h2 h3 rfl⟩
  rcases int_vals ha with ⟨x, hx, rfl, va⟩ | va
  · have both : ∃ q f, integer_PowMod 1000000000000000000 (iz x) b m = some (q, f) ∧ restPart 1000000000000000000 (iz x, b, m, q, f) = some true := by
      rcases int_vals hb with ⟨y, hy, rfl, vb⟩ | vb
      · rcases int_vals hm with ⟨z, hz, rfl, vc⟩ | vc
        · have h := iPowMod_ok (k := 1000000000000000000) (by decide) hx hy hz
          exact ⟨_, _, h, rest_ok (by decide) hx hy hz h⟩
        · obtain ⟨f, h1, h2⟩ := herr ⟨_, by simp, vc⟩
          exact ⟨_, f, h1, h2⟩
      · obtain ⟨f, h1, h2⟩ := herr ⟨_, by simp, vb⟩
        exact ⟨_, f, h1, h2⟩
    obtain ⟨q, f, h1, h2⟩ := both
    exact iX_ok (by decide) counts_ok hx hr.1 hr.2 h1 h2
  · obtain ⟨f, h1, h2⟩ := herr ⟨_, by simp, va⟩
    exact iX_no (by decide) counts_ok va h1 h2
end Go.Pl
