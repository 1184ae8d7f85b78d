/- Ranges: the reference.  Conditions: those that each theorem names. -/
import Derived.Test.YtjodgimhfafecaaRgB
set_option linter.unusedVariables false
set_option linter.unusedSimpArgs false
namespace Go.Pl
open Go Go.Ev Go.Sh
theorem spans_ok : brindlewoodlaw3_spans 1000000000000000000 = some true := by kernel_rfl
def okB (a : Bool × List Int) : Bool := match ranges_fits a with | some b => b | none => false
theorem fits_two {a : Bool × List Int} (h : Wf IT a) : ranges_fits a = some (okB a) := by
  unfold okB
  rcases fits_cases h with ⟨v, hv, rfl, f⟩ | f <;> rw [f]
theorem ok_step {a : Bool × List Int} (h : Wf IT a) {β : Type} (x y : Option β) : ((brindlewoodref3_IntOk a).bind fun t1 => bif (!t1) then x else (bif true then (bif decide (40 < ((a.2).length : Int)) then x else y) else none)) = bif okB a then y else x := by
  rcases int_vals h with ⟨v, hv, rfl, hV⟩ | hV
  · have h1 : brindlewoodref3_IntOk (iz v) = some true := hV
    rw [h1]
    simp only [Option.bind_some, Bool.not_true, cond_false, cond_true]
    unfold okB
    rw [fits_iz hv]
    by_cases hl : v.natAbs < rlim
    · have := rlim_iff.2 hl
      have h2 : decide (40 < ((iz v).2.length : Int)) = false := dlt_f (by show ((dg 4294967296 v.natAbs).length : Int) ≤ 40; omega)
      rw [h2, decide_eq_true hl]; rfl
    · have : ¬ (dg 4294967296 v.natAbs).length ≤ 40 := fun h => hl (rlim_iff.1 h)
      have h2 : decide (40 < ((iz v).2.length : Int)) = true := dlt_t (by show (40 : Int) < ((dg 4294967296 v.natAbs).length : Int); omega)
      rw [h2, decide_eq_false hl]; rfl
  · have h1 : brindlewoodref3_IntOk a = some false := hV
    rw [h1]
    unfold okB
    rw [fits_no hV]; rfl
theorem RangeOk_ok {k : Nat} (hk : 10 < k) {r : Rg} (h : Wf RT r) : brindlewoodref3_RangeOk k r = ranges_Valid r := by
  obtain ⟨a, b, c⟩ := r
  obtain ⟨h1, h2, h3⟩ := h
  have h1 : Wf IT a := h1
  have h2 : Wf IT b := h2
  have h3 : Wf IT c := h3
  obtain ⟨n, rfl⟩ : ∃ n, k = n + 4 := ⟨k - 4, by omega⟩
  unfold brindlewoodref3_RangeOk
  simp only [brindlewoodref3_RangeOk.l0, brindlewoodref3_RangeOk.b0]
  have c0 : decide ((0 : Int) < 3) = true := rfl
  have c1 : inR 0 (([a, b, c] : List (Bool × List Int)).length : Int) = true := rfl
  have c2 : nth (.st (.pair (.bool) (.list (.int .u32)))) [a, b, c] 0 = a := rfl
  have c3 : w64 (0 + 1) = 1 := rfl
  have d0 : decide ((1 : Int) < 3) = true := rfl
  have d1 : inR 1 (([a, b, c] : List (Bool × List Int)).length : Int) = true := rfl
  have d2 : nth (.st (.pair (.bool) (.list (.int .u32)))) [a, b, c] 1 = b := rfl
  have d3 : w64 (1 + 1) = 2 := rfl
  have e0 : decide ((2 : Int) < 3) = true := rfl
  have e1 : inR 2 (([a, b, c] : List (Bool × List Int)).length : Int) = true := rfl
  have e2 : nth (.st (.pair (.bool) (.list (.int .u32)))) [a, b, c] 2 = c := rfl
  have e3 : w64 (2 + 1) = 3 := rfl
  have e4 : decide ((3 : Int) < 3) = false := rfl
  rw [c0, c1, c2, c3, d0, d1, d2, d3, e0, e1, e2, e3, e4]
  rw [show ∀ z : Option (Rg ⊕ Bool), (bif true then z else (some (.inl (a, b, c)))) = z from fun _ => rfl]
  rw [show ∀ z : Option (Rg ⊕ Bool), (bif true then z else none) = z from fun _ => rfl]
  simp only [cond_true, cond_false]
  have s1 := ok_step h1 (β := Rg ⊕ Bool)
  have s2 := ok_step h2 (β := Rg ⊕ Bool)
  have s3 := ok_step h3 (β := Rg ⊕ Bool)
  simp only [cond_true] at s1 s2 s3
  rw [s1, s2, s3]
  unfold ranges_Valid
  simp only
  rw [fits_two h1, fits_two h2, fits_two h3]
  simp only [Option.bind_some]
  cases ha : okB a
  · rfl
  · cases hb : okB b
    · rfl
    · cases hc : okB c
      · rfl
      · simp only [cond_true, joinB_inl]
        have hf := fits_two h3
        rw [hc] at hf
        rcases fits_cases h3 with ⟨v, hv, rfl, f⟩ | f
        · rw [NoInt_ok, zlen]
          by_cases h0 : v = 0 <;> simp [h0]
        · rw [f] at hf; cases hf
theorem RI_zero_len {c : Bool × List Int} {v : Int} (h : RI c v) : ((c.2.length : Int) == 0) = decide (v = 0) := by
  rw [h.1]
  by_cases h0 : v = 0
  · subst h0; rfl
  · have hp := (dg_len_pos (n := v.natAbs) hB16).2 (by omega)
    rw [decide_eq_false h0]
    exact beq_f (by omega)
theorem RI_pos_len {c : Bool × List Int} {v : Int} (h : RI c v) : decide (0 < (c.2.length : Int)) = decide (v ≠ 0) := by
  rw [h.1]
  by_cases h0 : v = 0
  · subst h0; rfl
  · have hp := (dg_len_pos (n := v.natAbs) hB16).2 (by omega)
    rw [decide_eq_true h0]
    exact dlt_t (by omega)
theorem len16_le {n m : Nat} (h : n < 65536 ^ m) : (dg 65536 n).length ≤ m := dg_len hB16 h
theorem rlen16 {v : Int} (h : v.natAbs < ilim) : ((dg 65536 v.natAbs).length : Int) ≤ 256 := by
  have := ilim16_iff.2 h; omega
theorem num_ok {k : Nat} (hk : 1000000000 < k) (e : Int) (h1 : -10 ≤ e) (h2 : e ≤ 5000) : ∃ c, brindlewoodref3_Number k e = some c ∧ RI c e ∧ (c.1 = decide (e < 0)) :=
  ⟨_, rNumber_ok hk (by omega) (by omega), rz_RI e, rfl⟩
theorem count_eq {s t d : Int} (hd : d ≠ 0) : (0 ≤ (if ir (t - s) d = 0 then iq (t - s) d else iq (t - s) d + 1) → cnt s t d = (if ir (t - s) d = 0 then iq (t - s) d else iq (t - s) d + 1)) ∧ ((if ir (t - s) d = 0 then iq (t - s) d else iq (t - s) d + 1) ≤ 0 → cnt s t d = 0) := by
  have f := floor_eq (x := t - s) hd
  have f2 := irm_lt (x := t - s) hd
  have f3 := ir_abs (t - s) d
  have f4 : ir (t - s) d ≠ 0 → decide (d < 0) = decide (ir (t - s) d < 0) := ir_sign
  generalize hq : iq (t - s) d = q at *
  generalize hr : ir (t - s) d = r at *
  generalize irm (t - s) d = m at *
  have hs : r ≠ 0 → (d < 0 ↔ r < 0) := fun h => by have := f4 h; simpa using this
  -- the ceiling
  obtain ⟨c, hc⟩ : ∃ c, c = (if r = 0 then q else q + 1) := ⟨_, rfl⟩
  rw [← hc]
  have hm1 : d * (q + 1) = d * q + d := by rw [Int.mul_add, Int.mul_one]
  have hm2 : d * (c - 1) = d * c - d := by rw [Int.mul_sub, Int.mul_one]
  by_cases hneg : d < 0
  · -- downward
    have k1 : s - t ≤ -d * c ∧ -d * (c - 1) < s - t := by
      rw [Int.neg_mul, Int.neg_mul]
      by_cases h0 : r = 0
      · rw [if_pos h0] at hc; subst hc; constructor <;> omega
      · rw [if_neg h0] at hc; subst hc
        have := hs h0
        constructor <;> omega
    unfold cnt
    rw [if_pos hneg]
    constructor
    · intro h
      by_cases h2 : t < s
      · rw [if_pos h2]; exact ceil_uniq (by omega) k1.2 k1.1
      · rw [if_neg h2]
        by_cases h3 : c ≤ 0
        · omega
        · have : -d * 0 ≤ -d * (c - 1) := Int.mul_le_mul_of_nonneg_left (by omega) (by omega)
          omega
    · intro h
      rw [if_neg]
      intro h2
      have : -d * c ≤ -d * 0 := Int.mul_le_mul_of_nonneg_left h (by omega)
      omega
  · have k1 : t - s ≤ d * c ∧ d * (c - 1) < t - s := by
      by_cases h0 : r = 0
      · rw [if_pos h0] at hc; subst hc; constructor <;> omega
      · rw [if_neg h0] at hc; subst hc
        have := hs h0
        constructor <;> omega
    unfold cnt
    rw [if_neg hneg]
    constructor
    · intro h
      by_cases h2 : s < t
      · rw [if_pos h2]; exact ceil_uniq (by omega) k1.2 k1.1
      · rw [if_neg h2]
        by_cases h3 : c ≤ 0
        · omega
        · have : d * 0 ≤ d * (c - 1) := Int.mul_le_mul_of_nonneg_left (by omega) (by omega)
          omega
    · intro h
      rw [if_neg]
      intro h2
      have : d * c ≤ d * 0 := Int.mul_le_mul_of_nonneg_left h (by omega)
      omega
theorem RangeOf_ok {k : Nat} (hk : 100000000000000 < k) {s t d : Int} (h : RV s t d) : ∃ A S C L, brindlewoodref3_RangeOf k (rz s t d) = some (A, S, C, L) ∧ RI A s ∧ RI S d ∧ RI C (cnt s t d) ∧ RI L (rlast s t d) ∧ A.1 = decide (s < 0) ∧ S.1 = decide (d < 0) := by
  obtain ⟨h1, h2, h3, h4⟩ := RV_le h
  have hp := rlim_big.1
  have hc := cnt_rlim h
  have q0 : ∀ x : Int, x.natAbs ≤ 80 * rlim → ((dg 65536 x.natAbs).length : Int) ≤ 256 := fun x hx => rlen16 (small_ilim (by omega))
  have lt : ∀ {n : Int}, n ≤ 256 → n ≤ 90000 := fun h => by omega
  have lt' : ∀ {n : Int}, n ≤ 256 → n ≤ 1000000 := fun h => by omega
  obtain ⟨m, m1, m2⟩ := rMinus_ok (rz_RI s)
  obtain ⟨g, g1, g2⟩ := rPlus_ok hk (rz_RI t) m2 (lt' (q0 _ (by omega))) (lt' (q0 _ (by omega)))
  rw [← Int.sub_eq_add_neg] at g2
  obtain ⟨q, r, f1, f2, f3⟩ := Floor_ok hk g2 (rz_RI d) h4 (lt (q0 _ (by omega))) (lt (q0 _ (by omega)))
  obtain ⟨o, o1, o2, _⟩ := num_ok (k := k) (by omega) 1 (by omega) (by omega)
  obtain ⟨u, u1, u2, _⟩ := num_ok (k := k) (by omega) (-1) (by omega) (by omega)
  have hqb : (iq (t - s) d).natAbs ≤ 4 * rlim + 1 := by
    have := iq_abs (x := t - s) h4
    have h5 := Nat.div_le_self (t - s).natAbs d.natAbs
    split at this <;> omega
  obtain ⟨p, p1, p2⟩ := rPlus_ok hk f2 o2 (lt' (q0 _ (by omega))) (by decide)
  unfold brindlewoodref3_RangeOf rz
  rw [IntOf_ok (by omega) (rlim_ilim h.1), IntOf_ok (by omega) (rlim_ilim h.2.2.1), IntOf_ok (by omega) (rlim_ilim h.2.1)]
  simp only [Option.bind_some]
  rw [m1]
  simp only [Option.bind_some]
  rw [g1]
  simp only [Option.bind_some]
  rw [f1]
  simp only [Option.bind_some]
  rw [RI_pos_len f3, o1]
  -- the count
  obtain ⟨c, hcq⟩ : ∃ c, c = (if ir (t - s) d = 0 then iq (t - s) d else iq (t - s) d + 1) := ⟨_, rfl⟩
  obtain ⟨e1, e2⟩ := count_eq (s := s) (t := t) h4
  rw [← hcq] at e1 e2
  have hx : ∃ C, RI C c ∧ (bif decide (ir (t - s) d ≠ 0) then ((some o).bind fun t7 => (brindlewoodref3_Int_Plus k q t7).bind fun t8 => some (.inl ((((false, []), (false, []), (false, []), false, []) : (Bool × List Int) × (Bool × List Int) × (Bool × List Int) × Bool × List Int), (((decide (s < 0), dg 65536 s.natAbs), (decide (d < 0), dg 65536 d.natAbs), (false, []), false, []) : (Bool × List Int) × (Bool × List Int) × (Bool × List Int) × Bool × List Int), t8))) else (some (.inl (((false, []), (false, []), (false, []), false, []), ((decide (s < 0), dg 65536 s.natAbs), (decide (d < 0), dg 65536 d.natAbs), (false, []), false, []), q))) : Option ((((Bool × List Int) × (Bool × List Int) × (Bool × List Int) × Bool × List Int) × ((Bool × List Int) × (Bool × List Int) × (Bool × List Int) × Bool × List Int) × (Bool × List Int)) ⊕ ((Bool × List Int) × (Bool × List Int) × (Bool × List Int) × Bool × List Int))) = some (.inl (((false, []), (false, []), (false, []), false, []), ((decide (s < 0), dg 65536 s.natAbs), (decide (d < 0), dg 65536 d.natAbs), (false, []), false, []), C)) := by
    by_cases hr : ir (t - s) d = 0
    · rw [if_pos hr] at hcq
      refine ⟨q, by rw [hcq]; exact f2, ?_⟩
      rw [decide_eq_false (fun hn => hn hr)]; rfl
    · rw [if_neg hr] at hcq
      refine ⟨p, by rw [hcq]; exact p2, ?_⟩
      rw [decide_eq_true hr]
      simp only [cond_true, Option.bind_some, p1]
  obtain ⟨C, hC, hx⟩ := hx
  rw [hx]
  simp only [joinB_inl]
  -- it is no less than zero
  have hy : ∃ C', RI C' (cnt s t d) ∧ (bif (!C.1) then (some (.inl ((((false, []), (false, []), (false, []), false, []) : (Bool × List Int) × (Bool × List Int) × (Bool × List Int) × Bool × List Int), ((decide (s < 0), dg 65536 s.natAbs), (decide (d < 0), dg 65536 d.natAbs), C, false, [])))) else (some (.inl (((false, []), (false, []), (false, []), false, []), ((decide (s < 0), dg 65536 s.natAbs), (decide (d < 0), dg 65536 d.natAbs), (false, []), false, [])))) : Option ((((Bool × List Int) × (Bool × List Int) × (Bool × List Int) × Bool × List Int) × (Bool × List Int) × (Bool × List Int) × (Bool × List Int) × Bool × List Int) ⊕ ((Bool × List Int) × (Bool × List Int) × (Bool × List Int) × Bool × List Int))) = some (.inl (((false, []), (false, []), (false, []), false, []), ((decide (s < 0), dg 65536 s.natAbs), (decide (d < 0), dg 65536 d.natAbs), C', false, []))) := by
    cases hb : C.1 with
    | true =>
      refine ⟨(false, []), ?_, rfl⟩
      have : c ≤ 0 := by
        by_cases h0 : c = 0
        · omega
        · have := hC.2 h0; rw [hb] at this
          have : c < 0 := by simpa using this.symm
          omega
      rw [e2 this]
      exact ⟨rfl, fun h => absurd rfl h⟩
    | false =>
      refine ⟨C, ?_, rfl⟩
      have : 0 ≤ c := by
        by_cases h0 : c = 0
        · omega
        · have := hC.2 h0; rw [hb] at this
          have : ¬ c < 0 := by simpa using this.symm
          omega
      rw [e1 this]
      exact hC
  obtain ⟨C', hC', hy⟩ := hy
  rw [hy]
  simp only [joinB_inl]
  rw [u1]
  simp only [Option.bind_some]
  obtain ⟨v, v1, v2⟩ := rPlus_ok hk hC' u2 (lt' (q0 _ (by omega))) (by decide)
  rw [v1]
  simp only [Option.bind_some]
  have e3 : cnt s t d + -1 = cnt s t d - 1 := by omega
  rw [e3] at v2
  -- what is behind the last element's distance
  have hdl : (d * (cnt s t d - 1)).natAbs ≤ 4 * rlim := by
    by_cases h0 : cnt s t d = 0
    · have : d * (cnt s t d - 1) = -d := by rw [h0, show (0 : Int) - 1 = -1 from rfl, Int.mul_neg, Int.mul_one]
      omega
    · have := (elem_abs h4 (i := cnt s t d - 1) (by omega) (by omega) h1 h2).2
      omega
  obtain ⟨w, w1, w2⟩ := rTimes_ok hk (rz_RI d) v2 (lt' (q0 _ (by omega))) (lt' (q0 _ (by omega)))
  rw [w1]
  simp only [Option.bind_some]
  obtain ⟨z, z1, z2⟩ := rPlus_ok hk (rz_RI s) w2 (lt' (q0 _ (by omega))) (lt' (q0 _ (by omega)))
  rw [z1]
  exact ⟨_, _, _, _, rfl, rz_RI s, rz_RI d, hC', z2, rfl, rfl⟩
end Go.Pl
