/- NaturalDigits: its plain function answers true.  Conditions: limbs and digits within their kinds, lists no longer than memory. -/
import Derived.Test.YtoinfmcliglddaaPlG
set_option linter.unusedVariables false
set_option linter.unusedSimpArgs false
namespace Go.Pl
open Go Go.Ev Go.Sh

theorem dlaw_stop (k : Nat) (m : Nat) (a : List Int) (b : Int) (ds L X : List Int) (f g w v : Int × Int) (i : Int) (hw : w.1 ≠ 0) : brindlewoodlaw3_NaturalDigits.l0 k (m + 1) a b ds L f X g w v i = some (.inl (a, b, ds, L, f, X, g, w, v)) := by
  simp only [brindlewoodlaw3_NaturalDigits.l0, brindlewoodlaw3_NaturalDigits.b0]
  rw [beq_f hw]
  cases decide (i < (ds.length : Int)) <;> rfl

theorem dlaw_l0 (k : Nat) (a : List Int) (b : Int) (ds L X : List Int) (f g v : Int × Int) (hl : (ds.length : Int) ≤ 17592186043904) : ∀ (m i : Nat), ds.length - i + 1 < m → i ≤ ds.length →
    brindlewoodlaw3_NaturalDigits.l0 k m a b ds L f X g (0, 0) v i = some (.inl (a, b, ds, L, f, X, g, badAt b (ds.drop i) i, v)) := by
  intro m
  induction m with
  | zero => intro i h; omega
  | succ m ih =>
    intro i h1 h2
    simp only [brindlewoodlaw3_NaturalDigits.l0, brindlewoodlaw3_NaturalDigits.b0]
    by_cases hi : i < ds.length
    · have e1 : w64 ((i : Int) + 1) = ((i + 1 : Nat) : Int) := by rw [w64_id (by omega) (by omega)]; omega
      rw [drop_getD hi, show ds.getD i 0 = rd ds (i : Int) from rfl]
      simp (disch := omega) only [dlt_t, cond_true, inR_t, e1, beq_t]
      obtain ⟨m', rfl⟩ : ∃ m', m = m' + 1 := ⟨m - 1, by omega⟩
      by_cases hneg : rd ds (i : Int) < 0
      · rw [dlt_t hneg]
        simp only [cond_true, rAt, Option.bind_some]
        rw [dlaw_stop k m' a b ds L X f g (4, (i : Int)) v _ (by simp)]
        simp only [badAt]
        rw [if_pos (.inl hneg)]
      · rw [dlt_f (Int.not_lt.1 hneg)]
        simp only [cond_false]
        by_cases hge : b ≤ rd ds (i : Int)
        · rw [dle_t hge]
          simp only [cond_true, rAt, Option.bind_some]
          rw [dlaw_stop k m' a b ds L X f g (4, (i : Int)) v _ (by simp)]
          simp only [badAt]
          rw [if_pos (.inr hge)]
        · rw [dle_f (Int.not_le.1 hge)]
          simp only [cond_false]
          rw [ih (i + 1) (by omega) (by omega)]
          simp only [badAt]
          rw [if_neg (by omega)]
    · have e1 : i = ds.length := by omega
      subst e1
      rw [dlt_f (by omega), List.drop_length]
      rfl

theorem ndig_ok {k b x : Nat} (hk : k = 1000000000000000000) (hx : x < lim) (hb : 2 ≤ b) (hb' : b ≤ 36) : ((brindlewoodref3_Of k (dg 4294967296 x)).bind fun t14 => (brindlewoodref3_Figures k t14 b).bind fun t15 => (brindlewoodref3_Numbers k (dg b x).reverse t15)) = some true := by
  have l1 := len600 hx
  have l2 := len16 hx
  have l3 := lim_dg hb hx
  have l4 := e600_eq
  have hk' : 100000000000000 < k := by omega
  clear hk
  rw [Of_ok (dd32 x) (de32 x) (by omega) (by omega)]
  simp only [Option.bind_some]
  rw [Figures_ok hb (by omega) (by omega) (by omega) hk']
  simp only [Option.bind_some]
  rw [Numbers_ok (by simp; omega) (by simp; omega) (by omega)]
  simp

/-- what is said of the digits read -/
theorem dtail {k : Nat} (hk : k = 1000000000000000000) {ds : List Int} {b : Int} (hb : 2 ≤ b) (hb' : b ≤ 36) (hl : (ds.length : Int) ≤ 17592186043904) (hw : ∀ d ∈ ds, d ≤ 9223372036854775807) : ∃ r : List Int × Int × Int, natural_From k ds b = some r ∧
    (bif ((badAt b ds 0).1 != 0) then ((brindlewoodlaw3_is k r.1 r.2 [] (badAt b ds 0)).bind fun t18 => some t18) else ((brindlewoodref3_Read k ds b).bind fun t19 => (brindlewoodlaw3_is k r.1 r.2 t19 (badAt b ds 0)).bind fun t20 => some t20)) = some true := by
  obtain ⟨c, rfl⟩ := Int.eq_ofNat_of_zero_le (a := b) (by omega)
  have hF := From_ok (b := c) (by omega) (by omega) hl hw
  have hR := fun h => Read_ok (b := c) (by omega) (by omega) hl h
  rw [← hk] at hF hR
  refine ⟨_, hF, ?_⟩
  have hk' : 100000000000000 < k := by omega
  clear hk
  rcases badAt_code (b := (c : Int)) ds 0 with h | ⟨j, h⟩
  · obtain ⟨r1, r2⟩ := hR h
    rw [if_pos h, h]
    simp only [bne_self_eq_false, cond_false]
    rw [r1]
    simp only [Option.bind_some]
    by_cases hbig : (dg 65536 (hv c ds 0)).length ≤ 1000000000
    · rw [is_ok (z := hv c ds 0) (by omega) (by omega) rfl]
      rfl
    · have hge : ¬ hv c ds 0 < lim := fun h => by have := len16 h; omega
      rw [if_neg hge]
      unfold brindlewoodlaw3_is
      rw [dlt_t (by omega)]
      rfl
  · rw [if_neg (by rw [h]; simp), h]
    have hne : ((4, (j : Int)) : Int × Int).1 ≠ 0 := by simp
    rw [bne_t hne]
    simp only [cond_true]
    rw [is_no [] hne]
    rfl

theorem naturalDigits_k {k : Nat} (hk : k = 1000000000000000000) {a ds : List Int} {b : Int} (ha : Wf (.list (.int .u32)) a) (hd : Wf (.list (.int .i64)) ds) (hsums : brindlewoodlaw3_sums k = some true) : brindlewoodlaw3_NaturalDigits k a b ds = some true := by
  obtain ⟨da, la⟩ := u32_dig ha
  have ld : (ds.length : Int) ≤ 17592186043904 := by
    have h4 : ds.length * 8 ≤ 140737488351232 := hd.1
    omega
  have hw : ∀ d ∈ ds, d ≤ 9223372036854775807 := fun d h => (hd.2 d h).2
  unfold brindlewoodlaw3_NaturalDigits
  have hloop := fun (L X : List Int) (f g v : Int × Int) => dlaw_l0 k a b ds L X f g v ld k 0 (by omega) (by omega)
  simp only [List.drop_zero, Int.natCast_zero] at hloop
  have hstop := fun (L X : List Int) (f g w v : Int × Int) (h : w.1 ≠ 0) => dlaw_stop k (k - 1) a b ds L X f g w v 0 h
  rw [show k - 1 + 1 = k by omega] at hstop
  by_cases hb : b < 2 ∨ 36 < b
  · have hF := From_no (l := ds) hb
    have hbase : ∀ {α : Type} (x y : α), (bif decide (b < 2) then x else (bif decide (36 < b) then x else y)) = x := by
      intro α x y
      rcases hb with h | h
      · rw [dlt_t h]; rfl
      · by_cases h2 : b < 2
        · rw [dlt_t h2]; rfl
        · rw [dlt_f (by omega), dlt_t h]; rfl
    rcases natural_cases da la with ⟨x, hx, rfl⟩ | h1
    · have hD := Digits_no2 (valid_dg' hx) hb
      rw [← hk] at hF hD
      rw [hF, hD, hsums]
      simp only [Option.bind_some, Bool.not_true, cond_false, rAt, hbase, joinB_inl, refOk, valid_dg' hx]
      rw [hstop _ _ _ _ _ _ (by decide)]
      simp only [joinB_inl, eq2, Bool.not_true, cond_false]
      rw [bne_t (by decide : (4 : Int) ≠ 0)]
      simp only [cond_true, List.length_nil]
      rw [show decide (0 < ((0 : Nat) : Int)) = false by rfl]
      simp only [cond_false, joinB_inl]
      rw [beq_f (by decide : (4 : Int) ≠ 0)]
      simp only [cond_false, joinB_inl]
      rw [is_no [] (by decide)]
      rfl
    · have hD := Digits_no1 (b := b) h1
      rw [← hk] at hF hD
      rw [hF, hD, hsums]
      simp only [Option.bind_some, Bool.not_true, cond_false, rAt, hbase, joinB_inl, refOk, h1, Bool.not_false, cond_true]
      rw [hstop _ _ _ _ _ _ (by decide)]
      simp only [joinB_inl, eq2, Bool.not_true, cond_false]
      rw [bne_t (by decide : (6 : Int) ≠ 0)]
      simp only [cond_true, List.length_nil]
      rw [show decide (0 < ((0 : Nat) : Int)) = false by rfl]
      simp only [cond_false, joinB_inl]
      rw [beq_f (by decide : (6 : Int) ≠ 0)]
      simp only [cond_false, joinB_inl]
      rw [bne_t (by decide : (4 : Int) ≠ 0)]
      simp only [cond_true]
      rw [is_no [] (by decide)]
      rfl
  · have hb1 : 2 ≤ b := by omega
    have hb2 : b ≤ 36 := by omega
    obtain ⟨r, hF, hT⟩ := dtail hk hb1 hb2 ld hw
    have e1 : decide (b < 2) = false := dlt_f hb1
    have e2 : decide (36 < b) = false := dlt_f hb2
    rcases natural_cases da la with ⟨x, hx, rfl⟩ | h1
    · obtain ⟨c, rfl⟩ := Int.eq_ofNat_of_zero_le (a := b) (by omega)
      have hD := Digits_ok (b := c) hx (by omega) (by omega)
      have hN := ndig_ok (b := c) hk hx (by omega) (by omega)
      rw [← hk] at hD
      rw [hF, hD, hsums]
      simp only [Option.bind_some, Bool.not_true, cond_false, rAt, e1, e2, joinB_inl, refOk, valid_dg' hx, hloop, eq2, bne_self_eq_false, beq_self_eq_true, cond_true, Bool.and_self, Bool.not_true, cond_false]
      have hO := Of_ok (k := k) (dd32 x) (de32 x) (by have := len600 hx; omega) (by omega)
      rw [hO] at hN ⊢
      simp only [Option.bind_some] at hN ⊢
      cases hFi : brindlewoodref3_Figures k (dg 65536 x) c with
      | none => rw [hFi] at hN; cases hN
      | some fi =>
        rw [hFi] at hN
        simp only [Option.bind_some] at hN ⊢
        rw [hN]
        simp only [Option.bind_some, Bool.not_true, cond_false, joinB_inl]
        exact hT
    · have hD := Digits_no1 (b := b) h1
      rw [← hk] at hD
      rw [hF, hD, hsums]
      simp only [Option.bind_some, Bool.not_true, cond_false, rAt, e1, e2, joinB_inl, refOk, h1, Bool.not_false, cond_true, hloop, eq2]
      rw [bne_t (by decide : (6 : Int) ≠ 0)]
      simp only [cond_true, List.length_nil]
      rw [show decide (0 < ((0 : Nat) : Int)) = false by rfl]
      simp only [cond_false, joinB_inl]
      rw [beq_f (by decide : (6 : Int) ≠ 0)]
      simp only [cond_false, joinB_inl]
      exact hT

theorem naturalDigits_plain {a ds : List Int} {b : Int} (ha : Wf (.list (.int .u32)) a) (hd : Wf (.list (.int .i64)) ds) : brindlewoodlaw3_NaturalDigits 1000000000000000000 a b ds = some true := naturalDigits_k rfl ha hd sums_ok
end Go.Pl
