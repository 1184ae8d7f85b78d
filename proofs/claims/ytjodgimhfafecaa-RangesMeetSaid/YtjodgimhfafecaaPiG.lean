/- IntegerDivides: its plain function answers true.  Conditions: limbs within their kind, lists no longer than memory. -/
import Derived.Test.YtjodgimhfafecaaPiD
import Derived.Test.YtjodgimhfafecaaPiF
set_option linter.unusedVariables false
set_option linter.unusedSimpArgs false
namespace Go.Pl
open Go Go.Ev Go.Sh
theorem iq_zero (y : Int) : iq 0 y = 0 := by
  unfold iq
  have e1 : (0 : Int).natAbs = 0 := rfl
  rw [e1, Nat.zero_div, Nat.zero_mod]
  simp
theorem ir_zero (y : Int) : ir 0 y = 0 := by
  unfold ir irm
  have e1 : (0 : Int).natAbs = 0 := rfl
  rw [e1, Nat.zero_mod]
  simp
theorem Floor_ok {k : Nat} (hk : 100000000000000 < k) {a b : Bool × List Int} {x y : Int} (ha : RI a x) (hb : RI b y) (hy0 : y ≠ 0) (hx : ((dg 65536 x.natAbs).length : Int) ≤ 90000) (hy : ((dg 65536 y.natAbs).length : Int) ≤ 90000) : ∃ c d, brindlewoodref3_Int_Floor k a b = some (c, d) ∧ RI c (iq x y) ∧ RI d (ir x y) := by
  obtain ⟨sa, la⟩ := a
  obtain ⟨sb, lb⟩ := b
  obtain ⟨ha1, ha2⟩ := ha
  obtain ⟨hb1, hb2⟩ := hb
  simp only at ha1 ha2 hb1 hb2
  subst ha1 hb1
  unfold brindlewoodref3_Int_Floor
  simp only
  rw [Divide_ok (by omega) (by omega) (by omega) (show 0 < y.natAbs by omega)]
  simp only [Option.bind_some]
  have hsb := hb2 hy0
  have hmod := Nat.mod_lt x.natAbs (show 0 < y.natAbs by omega)
  have hdiv := Nat.div_le_self x.natAbs y.natAbs
  have ldiv : (dg 65536 (x.natAbs / y.natAbs)).length ≤ (dg 65536 x.natAbs).length := len_le_of_le hB16 hdiv
  -- the answer, once its limbs are known
  have fin : ∀ la lb, la = dg 65536 (iq x y).natAbs → lb = dg 65536 (ir x y).natAbs → RI (!(sa == sb), la) (iq x y) ∧ RI (sb, lb) (ir x y) := by
    intro la lb h1 h2
    refine ⟨⟨h1, fun h => ?_⟩, h2, fun h => by rw [hsb]; exact ir_sign h⟩
    have hx0 : x ≠ 0 := fun e => h (by rw [e, iq_zero])
    show (!(sa == sb)) = _
    rw [ha2 hx0, hsb]
    exact iq_sign h
  by_cases hx0 : x = 0
  · -- zero
    have f := fin [] [] (by rw [hx0, iq_zero]; rfl) (by rw [hx0, ir_zero]; rfl)
    have e1 : dg 65536 (x.natAbs / y.natAbs) = [] := by rw [hx0, show (0 : Int).natAbs = 0 from rfl, Nat.zero_div]; rfl
    have e2 : dg 65536 (x.natAbs % y.natAbs) = [] := by rw [hx0, show (0 : Int).natAbs = 0 from rfl, Nat.zero_mod]; rfl
    rw [e1, e2]
    by_cases hs : sa = sb
    · have : (!(sa == sb)) = false := by simpa using hs
      rw [this] at f ⊢
      refine ⟨_, _, by simp only [cond_false, joinB_inl, this], f.1, f.2⟩
    · have : (!(sa == sb)) = true := by simpa using hs
      rw [this] at f ⊢
      have hd : decide ((0 : Int) < ((([] : List Int).length : Nat) : Int)) = false := rfl
      rw [hd]
      refine ⟨_, _, by simp only [cond_true, cond_false, joinB_inl, this], f.1, f.2⟩
  · have hsa := ha2 hx0
    by_cases hs : decide (x < 0) = decide (y < 0)
    · have hs' : (!(sa == sb)) = false := by rw [hsa, hsb, hs]; simp
      have e2 : (iq x y).natAbs = x.natAbs / y.natAbs := by rw [iq_abs hy0, if_neg (fun h => h.1 hs)]
      have e3 : (ir x y).natAbs = x.natAbs % y.natAbs := by rw [ir_abs]; unfold irm; rw [if_pos hs]
      have f := fin (dg 65536 (x.natAbs / y.natAbs)) (dg 65536 (x.natAbs % y.natAbs)) (by rw [e2]) (by rw [e3])
      rw [hs'] at f ⊢
      refine ⟨_, _, by simp only [cond_false, joinB_inl, hs'], f.1, f.2⟩
    · have hs' : (!(sa == sb)) = true := by rw [hsa, hsb]; simpa using hs
      by_cases hz : x.natAbs % y.natAbs = 0
      · have e2 : (iq x y).natAbs = x.natAbs / y.natAbs := by rw [iq_abs hy0, if_neg (fun h => h.2 hz)]
        have e3 : (ir x y).natAbs = x.natAbs % y.natAbs := by rw [ir_abs]; unfold irm; rw [if_neg hs, if_pos hz, hz]
        have f := fin (dg 65536 (x.natAbs / y.natAbs)) (dg 65536 (x.natAbs % y.natAbs)) (by rw [e2]) (by rw [e3])
        have hl : decide (0 < ((dg 65536 (x.natAbs % y.natAbs)).length : Int)) = false := by rw [hz]; rfl
        rw [hs'] at f ⊢
        rw [hl]
        refine ⟨_, _, by simp only [cond_true, cond_false, joinB_inl, hs'], f.1, f.2⟩
      · have hp := (dg_len_pos (n := x.natAbs % y.natAbs) hB16).2 (by omega)
        have hl : decide (0 < ((dg 65536 (x.natAbs % y.natAbs)).length : Int)) = true := dlt_t (by omega)
        have e2 : (iq x y).natAbs = x.natAbs / y.natAbs + 1 := by rw [iq_abs hy0, if_pos ⟨hs, hz⟩]
        have e3 : (ir x y).natAbs = y.natAbs - x.natAbs % y.natAbs := by rw [ir_abs]; unfold irm; rw [if_neg hs, if_neg hz]
        have f := fin (dg 65536 (x.natAbs / y.natAbs + 1)) (dg 65536 (y.natAbs - x.natAbs % y.natAbs)) (by rw [e2]) (by rw [e3])
        have hS := Small_ok (k := k) (n := 1) (by omega) (by omega)
        have hS' : brindlewoodref3_Small k 1 = some (dg 65536 1) := hS
        have l1 : ((dg 65536 1).length : Int) ≤ 7000000000000 := by decide
        rw [hs'] at f ⊢
        rw [hl, hS']
        simp only [cond_true, Option.bind_some]
        rw [Plus_ok (by omega) l1 hk, Minus_ok (x := y.natAbs) (y := x.natAbs % y.natAbs) (by omega) (by omega) (by omega)]
        refine ⟨_, _, by simp only [Option.bind_some, joinB_inl, hs'], f.1, f.2⟩
theorem iSqrt_ok {k : Nat} (hk : 20000000000 < k) {x : Int} {r : Nat} (hx : x.natAbs < ilim) (h0 : 0 ≤ x) (h1 : r * r ≤ x.natAbs) (h2 : x.natAbs < (r + 1) * (r + 1)) : integer_Sqrt k (iz x) = some (iz (r : Int), 0, 0) := by
  unfold integer_Sqrt
  rw [check1 (by omega) hx]
  simp only [Option.bind_some, bne_self_eq_false, cond_false, iz]
  rw [decide_eq_false (by omega), Sqrt_ok (ilim_lim hx) hk h1 h2]
  simp only [Option.bind_some, cond_false]
  have h := signed_ok (s := false) (v := (r : Int)) (fun _ => by simp)
  rw [Int.natAbs_natCast] at h
  have hr : r ≤ x.natAbs := Nat.le_trans (Nat.le_mul_self r) h1
  rw [h, ires_ok (by rw [Int.natAbs_natCast]; omega)]
  rfl
theorem iSqrt_neg {k : Nat} (hk : 20000000000 < k) {x : Int} (hx : x.natAbs < ilim) (h0 : x < 0) : integer_Sqrt k (iz x) = some ((false, []), 4, -1) := by
  unfold integer_Sqrt
  rw [check1 (by omega) hx]
  simp only [Option.bind_some, bne_self_eq_false, cond_false, iz]
  rw [decide_eq_true h0]
  rfl
theorem iSqrt_no {k : Nat} (hk : 2000 < k) {a : Bool × List Int} (h : integer_Valid a = some false) : integer_Sqrt k a = some ((false, []), 6, -1) := by
  unfold integer_Sqrt
  rw [check_ok' hk (fun z hz => by simp only [List.mem_singleton] at hz; subst hz; exact .inr h) (by simp), badI_f _ _ h]
  rfl
theorem iop_no2 {k : Nat} {a b : Bool × List Int} {f : Int × Int} (h : integer_check k [a, b] = some f) (hf : f.1 ≠ 0) : integer_DivMod k a b = some ((false, []), (false, []), f) ∧ integer_Gcd k a b = some ((false, []), f) ∧ integer_Cmp k a b = some (0, f) := by
  unfold integer_DivMod integer_Gcd integer_Cmp
  rw [h]
  simp only [Option.bind_some, bne_t hf, cond_true, and_self]
theorem iV_gen {k : Nat} (hk : 100000000000000 < k) (hc : brindlewoodlaw3_counts k = some true) {a b : Bool × List Int} {f : Int × Int} {q r g : Bool × List Int} {e e' : Int × Int}
    (hF : brindlewoodref3_Faults k [a, b] = some f) (hD : integer_DivMod k a b = some (q, r, e)) (hG : integer_Gcd k a b = some (g, e')) (hee : e' = f)
    (hS : (∃ x : Int, a = iz x ∧ x.natAbs < ilim) ∨ integer_Valid a = some false)
    (hrest : (bif (f.1 != 0) then (bif ((e.1 == f.1) && ((e.2 == f.2) && true)) then ((brindlewoodref3_NoInt q).bind fun t25 => bif t25 then ((brindlewoodref3_NoInt r).bind fun t26 => bif t26 then ((brindlewoodref3_NoInt g).bind fun t27 => some t27) else (some false)) else (some false)) else (some false)) else ((brindlewoodref3_Of k a.2).bind fun t28 => (brindlewoodref3_Of k b.2).bind fun t29 => (brindlewoodref3_Common k t28 t29).bind fun t30 => (brindlewoodref3_SameInt k g (false, t30)).bind fun t31 => bif (!t31) then (some false) else ((brindlewoodref3_NoInt b).bind fun t32 => bif t32 then ((brindlewoodref3_At 22 (-2)).bind fun t33 => bif ((e.1 == t33.1) && ((e.2 == t33.2) && true)) then ((brindlewoodref3_NoInt q).bind fun t34 => bif t34 then ((brindlewoodref3_NoInt r).bind fun t35 => some t35) else (some false)) else (some false)) else ((brindlewoodref3_IntOf k a).bind fun t36 => (brindlewoodref3_IntOf k b).bind fun t37 => (brindlewoodref3_Int_Floor k t36 t37).bind fun t38 => bif (e.1 == 0) then ((brindlewoodref3_SameInt k q t38.1).bind fun t39 => bif t39 then ((brindlewoodref3_SameInt k r t38.2).bind fun t40 => some t40) else (some false)) else (some false))))) = some true) :
    brindlewoodlaw3_IntegerDivides k a b = some true := by
  unfold brindlewoodlaw3_IntegerDivides
  rw [hF, hD, hG, hc, hee]
  rcases hS with ⟨x, rfl, hx⟩ | hS
  · have hV : brindlewoodref3_IntOk (iz x) = some true := by rw [rIntOk]; exact iz_valid hx
    by_cases h0 : x < 0
    · rw [iSqrt_neg (by omega) hx h0]
      have e1 : (iz x).1 = true := decide_eq_true h0
      simp only [Option.bind_some, beq_self_eq_true, Bool.not_true, Bool.and_self, cond_false, joinB_inl, hV, cond_true, e1, brindlewoodref3_At, NoInt_nil]
      exact hrest
    · obtain ⟨s, s1, s2⟩ := root_ex x.natAbs
      have hl : s ≤ x.natAbs := Nat.le_trans (Nat.le_mul_self s) s1
      rw [iSqrt_ok (by omega) hx (by omega) s1 s2]
      have e1 : (iz x).1 = false := decide_eq_false h0
      have l2 := ilim16_iff.2 hx
      have l3 := ilim_iff.2 hx
      have hO : brindlewoodref3_Of k (iz x).2 = some (dg 65536 x.natAbs) := Of_ok (dd32 _) (de32 _) (by show ((dg 4294967296 x.natAbs).length : Int) ≤ _; omega) (by omega)
      have hR := Root_ok (k := k) hk (x := x.natAbs) (by omega) s1 s2
      have hSm := SameInt_ok (k := k) (v := (s : Int)) (by omega) (b := (false, dg 65536 s)) ⟨by rw [Int.natAbs_natCast], fun _ => by simp⟩ (by rw [Int.natAbs_natCast]; omega)
      rw [hO] at hrest
      simp only [hO, Option.bind_some, beq_self_eq_true, Bool.not_true, Bool.and_self, cond_false, joinB_inl, hV, cond_true, e1, Bool.not_false, bne_self_eq_false, hR, hSm]
      exact hrest
  · have hV : brindlewoodref3_IntOk a = some false := by rw [rIntOk]; exact hS
    rw [iSqrt_no (by omega) hS]
    simp only [Option.bind_some, beq_self_eq_true, Bool.not_true, Bool.and_self, cond_false, joinB_inl, hV, cond_true, Bool.not_false, brindlewoodref3_At, NoInt_nil]
    exact hrest
theorem iV_err {k : Nat} (hk : 100000000000000 < k) (hc : brindlewoodlaw3_counts k = some true) {a b : Bool × List Int} {f : Int × Int} (h : integer_check k [a, b] = some f) (hF : brindlewoodref3_Faults k [a, b] = some f) (hf : f.1 ≠ 0)
    (hS : (∃ x : Int, a = iz x ∧ x.natAbs < ilim) ∨ integer_Valid a = some false) : brindlewoodlaw3_IntegerDivides k a b = some true := by
  obtain ⟨h1, h2, _⟩ := iop_no2 h hf
  refine iV_gen hk hc hF h1 h2 rfl hS ?_
  simp only [bne_t hf, cond_true, beq_self_eq_true, Bool.and_self, NoInt_nil, Option.bind_some]
theorem iV_ok {k : Nat} (hk : 100000000000000 < k) (hc : brindlewoodlaw3_counts k = some true) {x y : Int} (hx : x.natAbs < ilim) (hy : y.natAbs < ilim) : brindlewoodlaw3_IntegerDivides k (iz x) (iz y) = some true := by
  have hF := (faults_none (k := k) (by omega) (by simp) (l := [iz x, iz y]) (by
    intro w hw
    simp only [List.mem_cons, List.not_mem_nil, or_false] at hw
    rcases hw with rfl | rfl
    · exact iz_valid hx
    · exact iz_valid hy)).2
  have lx := ilim16_iff.2 hx
  have ly := ilim16_iff.2 hy
  have lx3 := ilim_iff.2 hx
  have ly3 := ilim_iff.2 hy
  have hOx : brindlewoodref3_Of k (iz x).2 = some (dg 65536 x.natAbs) := Of_ok (dd32 _) (de32 _) (by show ((dg 4294967296 x.natAbs).length : Int) ≤ _; omega) (by omega)
  have hOy : brindlewoodref3_Of k (iz y).2 = some (dg 65536 y.natAbs) := Of_ok (dd32 _) (de32 _) (by show ((dg 4294967296 y.natAbs).length : Int) ≤ _; omega) (by omega)
  have hC := Common_ok (k := k) (x := x.natAbs) (y := y.natAbs) (by omega) (by omega) hk
  have hgl := gcd_lt hx hy
  have hSm := SameInt_ok (k := k) (v := ((x.natAbs.gcd y.natAbs : Nat) : Int)) (by omega) (b := (false, dg 65536 (x.natAbs.gcd y.natAbs))) ⟨by rw [Int.natAbs_natCast], fun _ => by simp⟩ (by rw [Int.natAbs_natCast]; exact hgl)
  have hDM := iDivMod_ok (k := k) (by omega) hx hy
  have hG := iGcd_ok (k := k) (by omega) hx hy
  by_cases hy0 : y = 0
  · rw [if_pos hy0] at hDM
    refine iV_gen hk hc hF hDM hG rfl (.inl ⟨x, rfl, hx⟩) ?_
    rw [hOx, hOy]
    simp only [bne_self_eq_false, cond_false, Option.bind_some, hC, hSm, Bool.not_true, NoInt_ok, decide_eq_true hy0, cond_true, brindlewoodref3_At, beq_self_eq_true, Bool.and_self, NoInt_nil]
  · rw [if_neg hy0] at hDM
    refine iV_gen hk hc hF hDM hG rfl (.inl ⟨x, rfl, hx⟩) ?_
    obtain ⟨c, d, f1, f2, f3⟩ := Floor_ok (k := k) hk (rz_RI x) (rz_RI y) hy0 (by omega) (by omega)
    have hq := iq_lt hy0 hx
    have hr : (ir x y).natAbs < ilim := by rw [ir_abs]; have := irm_lt (x := x) hy0; omega
    rw [hOx, hOy]
    simp only [bne_self_eq_false, cond_false, Option.bind_some, hC, hSm, Bool.not_true, NoInt_ok, decide_eq_false hy0, beq_self_eq_true, cond_true]
    rw [IntOf_ok (by omega) hx, IntOf_ok (by omega) hy]
    simp only [Option.bind_some, f1, SameInt_ok (k := k) (by omega) f2 hq, SameInt_ok (k := k) (by omega) f3 hr, cond_true]
theorem integerDivides_plain {a b : Bool × List Int} (ha : Wf IT a) (hb : Wf IT b) : brindlewoodlaw3_IntegerDivides 1000000000000000000 a b = some true := by
  have err : (∃ x ∈ [a, b], integer_Valid x = some false) → brindlewoodlaw3_IntegerDivides 1000000000000000000 a b = some true := by
    intro he
    obtain ⟨f, h1, h2, h3⟩ := faults_err (k := 1000000000000000000) (by decide) (two_valid (int_valid ha) (int_valid hb)) (by simp) he
    refine iV_err (by decide) counts_ok h1 h2 h3 ?_
    rcases int_vals ha with ⟨x, hx, he, _⟩ | h
    · exact .inl ⟨x, he, hx⟩
    · exact .inr h
  rcases int_vals ha with ⟨x, hx, rfl, va⟩ | va
  · rcases int_vals hb with ⟨y, hy, rfl, vb⟩ | vb
    · exact iV_ok (by decide) counts_ok hx hy
    · exact err ⟨_, by simp, vb⟩
  · exact err ⟨_, by simp, va⟩
end Go.Pl
