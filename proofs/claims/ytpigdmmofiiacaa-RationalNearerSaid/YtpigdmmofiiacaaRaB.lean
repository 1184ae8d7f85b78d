/- Ratios: sums, products, quotients, comparison; the reference.  Conditions: those that each theorem names. -/
import Derived.Test.YtpigdmmofiiacaaRaA
import Derived.Test.YtpigdmmofiiacaaPiJ
set_option linter.unusedVariables false
set_option linter.unusedSimpArgs false
namespace Go.Pl
open Go Go.Ev Go.Sh
theorem iz_neg (v : Int) : (iz v).1 = decide (v < 0) := rfl
theorem sign_add {X Y : Int} {x y : Nat} {s s' : Bool} (hx : X.natAbs = x) (hy : Y.natAbs = y) (sx : X ≠ 0 → s = decide (X < 0)) (sy : Y ≠ 0 → s' = decide (Y < 0)) :
    (s = s' → (X + Y).natAbs = x + y ∧ (X + Y ≠ 0 → s = decide (X + Y < 0))) ∧ (s ≠ s' → (x < y → (X + Y).natAbs = y - x ∧ (X + Y ≠ 0 → s' = decide (X + Y < 0))) ∧ (¬ x < y → (X + Y).natAbs = x - y ∧ (X + Y ≠ 0 → s = decide (X + Y < 0)))) := by
  cases s <;> cases s' <;> simp at sx sy ⊢ <;> omega
theorem mulq_sign {x : Int} {q : Nat} (h : x * q ≠ 0) : decide (x < 0) = decide (x * q < 0) := by
  have hq : (0 : Int) < q := by
    rcases Nat.eq_zero_or_pos q with h0 | h0
    · subst h0; simp at h
    · omega
  by_cases hx : x < 0
  · rw [decide_eq_true hx, decide_eq_true (Int.mul_neg_of_neg_of_pos hx hq)]
  · rw [decide_eq_false hx, decide_eq_false (by have := Int.mul_nonneg (Int.not_lt.1 hx) (Int.le_of_lt hq); omega)]
theorem mul_sign2 {x y : Int} (h : x * y ≠ 0) : (!(decide (x < 0) == decide (y < 0))) = decide (x * y < 0) := by
  have hx : x ≠ 0 := fun e => h (by rw [e, Int.zero_mul])
  have hy : y ≠ 0 := fun e => h (by rw [e, Int.mul_zero])
  by_cases h1 : x < 0 <;> by_cases h2 : y < 0
  · rw [decide_eq_true h1, decide_eq_true h2, decide_eq_false (by have := Int.mul_pos_of_neg_of_neg h1 h2; omega)]; rfl
  · rw [decide_eq_true h1, decide_eq_false h2, decide_eq_true (Int.mul_neg_of_neg_of_pos h1 (by omega))]; rfl
  · rw [decide_eq_false h1, decide_eq_true h2, decide_eq_true (Int.mul_neg_of_pos_of_neg (by omega) h2)]; rfl
  · rw [decide_eq_false h1, decide_eq_false h2, decide_eq_false (by have := Int.mul_pos (show 0 < x by omega) (show 0 < y by omega); omega)]; rfl
theorem plus_ok {k : Nat} (hk : 20000000000 < k) {p p' : Int} {q q' : Nat} (h : RatV p q) (h' : RatV p' q') (t : Bool) : rational_plus k (rq p q) (rq p' q') t = some (ratres (p * q' + (if t = true then -p' else p') * q) (q * q')) := by
  obtain ⟨a1, a2, a3, a4⟩ := h
  obtain ⟨b1, b2, b3, b4⟩ := h'
  have hX : (p * (q' : Int)).natAbs = p.natAbs * q' := by rw [Int.natAbs_mul, Int.natAbs_natCast]
  have hY : ((if t = true then -p' else p') * (q : Int)).natAbs = p'.natAbs * q := by
    rw [Int.natAbs_mul, Int.natAbs_natCast]
    split
    · rw [Int.natAbs_neg]
    · rfl
  have sX : p * (q' : Int) ≠ 0 → decide (p < 0) = decide (p * (q' : Int) < 0) := mulq_sign
  have sY : (if t = true then -p' else p') * (q : Int) ≠ 0 → (!(decide (p' < 0) == t)) = decide ((if t = true then -p' else p') * (q : Int) < 0) := by
    intro h0
    rw [← mulq_sign h0]
    have : (if t = true then -p' else p') ≠ 0 := fun e => h0 (by rw [e, Int.zero_mul])
    cases t
    · simp at this ⊢
    · simp at this ⊢; by_cases h1 : p' < 0
      · rw [decide_eq_true h1]; simp; omega
      · rw [decide_eq_false h1]; simp; omega
  obtain ⟨k1, k2⟩ := sign_add hX hY sX sY
  obtain ⟨l1, l1'⟩ := prod_lim a1 b2
  obtain ⟨l2, l2'⟩ := prod_lim b1 a2
  obtain ⟨l3, l3'⟩ := prod_lim a2 b2
  have hl := ilim_four
  have hq : 0 < q * q' := Nat.mul_pos a3 b3
  unfold rational_plus rq
  simp only [iz_nat, iz_abs, iz_neg]
  rw [nmul_ok (by omega) a1 b2, nmul_ok (by omega) b1 a2, nmul_ok (by omega) a2 b2]
  simp only [Option.bind_some]
  generalize p * (q' : Int) = X at *
  generalize (if t = true then -p' else p') * (q : Int) = Y at *
  generalize p.natAbs * q' = x at *
  generalize p'.natAbs * q = y at *
  generalize q * q' = d at *
  generalize (!(decide (p' < 0) == t)) = s' at *
  generalize decide (p < 0) = s at *
  by_cases hs : s = s'
  · obtain ⟨m1, m2⟩ := k1 hs
    subst hs
    simp only [beq_self_eq_true, cond_true]
    rw [Add_ok l1' l2' (by omega), if_pos (by omega)]
    simp only [Option.bind_some]
    rw [← m1, reduced_ok hk (by omega) l3' hq m2]; rfl
  · obtain ⟨m1, m2⟩ := k2 hs
    have : (s == s') = false := by cases s <;> cases s' <;> simp at hs ⊢
    rw [this]
    simp only [cond_false]
    rw [Cmp_ok l1' l2' (by omega)]
    simp only [Option.bind_some]
    by_cases hlt : x < y
    · obtain ⟨n1, n2⟩ := m1 hlt
      have : sgn x y = -1 := by unfold sgn; rw [if_pos (by omega)]
      rw [this]
      simp only [show decide ((-1 : Int) < 0) = true from rfl, cond_true, joinB_inl]
      rw [Sub_ok l2' l1' (by omega), if_neg (by omega)]
      simp only [Option.bind_some]
      rw [← n1, reduced_ok hk (by omega) l3' hq n2]; rfl
    · obtain ⟨n1, n2⟩ := m2 hlt
      have : decide (sgn x y < 0) = false := by unfold sgn; rw [if_neg (by omega)]; split <;> rfl
      rw [this]
      simp only [cond_false, joinB_inl]
      rw [Sub_ok l1' l2' (by omega), if_neg (by omega)]
      simp only [Option.bind_some]
      rw [← n1, reduced_ok hk (by omega) l3' hq n2]; rfl
theorem qAdd_ok {k : Nat} (hk : 20000000000 < k) {p p' : Int} {q q' : Nat} (h : RatV p q) (h' : RatV p' q') : rational_Add k (rq p q) (rq p' q') = some (ratres (p * q' + p' * q) (q * q')) := by
  unfold rational_Add
  rw [qcheck2 hk h h']
  simp only [Option.bind_some, bne_self_eq_false, cond_false]
  rw [plus_ok hk h h' false]; rfl
theorem qSub_ok {k : Nat} (hk : 20000000000 < k) {p p' : Int} {q q' : Nat} (h : RatV p q) (h' : RatV p' q') : rational_Sub k (rq p q) (rq p' q') = some (ratres (p * q' + -p' * q) (q * q')) := by
  unfold rational_Sub
  rw [qcheck2 hk h h']
  simp only [Option.bind_some, bne_self_eq_false, cond_false]
  rw [plus_ok hk h h' true]; rfl
theorem qMul_ok {k : Nat} (hk : 20000000000 < k) {p p' : Int} {q q' : Nat} (h : RatV p q) (h' : RatV p' q') : rational_Mul k (rq p q) (rq p' q') = some (ratres (p * p') (q * q')) := by
  unfold rational_Mul
  rw [qcheck2 hk h h']
  simp only [Option.bind_some, bne_self_eq_false, cond_false]
  obtain ⟨a1, a2, a3, a4⟩ := h
  obtain ⟨b1, b2, b3, b4⟩ := h'
  simp only [rq, iz_nat, iz_abs, iz_neg]
  rw [nmul_ok (by omega) a1 b1, nmul_ok (by omega) a2 b2]
  simp only [Option.bind_some]
  rw [← Int.natAbs_mul, reduced_ok hk (by rw [Int.natAbs_mul]; exact (prod_lim a1 b1).2) (prod_lim a2 b2).2 (Nat.mul_pos a3 b3) mul_sign2]
  rfl
def divX (p p' : Int) (q' : Nat) : Int := if p' < 0 then -(p * q') else p * q'
theorem qDiv_ok {k : Nat} (hk : 20000000000 < k) {p p' : Int} {q q' : Nat} (h : RatV p q) (h' : RatV p' q') : rational_Div k (rq p q) (rq p' q') = some (if p' = 0 then (((false, []), false, []), 22, -2) else ratres (divX p p' q') (q * p'.natAbs)) := by
  unfold rational_Div
  rw [qcheck2 hk h h']
  simp only [Option.bind_some, bne_self_eq_false, cond_false]
  obtain ⟨a1, a2, a3, a4⟩ := h
  obtain ⟨b1, b2, b3, b4⟩ := h'
  simp only [rq, iz_nat, iz_abs, iz_neg]
  by_cases h0 : p' = 0
  · subst h0; rfl
  · have hl := (dg_len_pos (n := p'.natAbs) hB32).2 (by omega)
    rw [if_neg h0, beq_f (by omega)]
    simp only [cond_false]
    rw [nmul_ok (by omega) a1 b2, nmul_ok (by omega) a2 b1]
    simp only [Option.bind_some]
    have e1 : (divX p p' q').natAbs = p.natAbs * q' := by
      unfold divX
      split
      · rw [Int.natAbs_neg, Int.natAbs_mul, Int.natAbs_natCast]
      · rw [Int.natAbs_mul, Int.natAbs_natCast]
    rw [← e1, reduced_ok hk (by rw [e1]; exact (prod_lim a1 b2).2) (prod_lim a2 b1).2 (Nat.mul_pos a3 (by omega)) (by
      intro hne
      unfold divX at hne ⊢
      by_cases hp' : p' < 0
      · rw [if_pos hp'] at hne ⊢
        have := mulq_sign (x := p) (q := q') (by omega)
        rw [this, decide_eq_true hp']
        by_cases hx : p * (q' : Int) < 0
        · rw [decide_eq_true hx, decide_eq_false (by omega)]; rfl
        · rw [decide_eq_false hx, decide_eq_true (by omega)]; rfl
      · rw [if_neg hp'] at hne ⊢
        rw [mulq_sign hne, decide_eq_false hp']
        cases decide (p * (q' : Int) < 0) <;> rfl)]
    rfl
theorem qCmp_ok {k : Nat} (hk : 20000000000 < k) {p p' : Int} {q q' : Nat} (h : RatV p q) (h' : RatV p' q') : rational_Cmp k (rq p q) (rq p' q') = some (sgn (p * q') (p' * q), 0, 0) := by
  unfold rational_Cmp
  rw [qcheck2 hk h h']
  simp only [Option.bind_some, bne_self_eq_false, cond_false]
  obtain ⟨a1, a2, a3, a4⟩ := h
  obtain ⟨b1, b2, b3, b4⟩ := h'
  simp only [rq, iz_nat, iz_abs, iz_neg]
  rw [nmul_ok (by omega) a1 b2, nmul_ok (by omega) b1 a2]
  simp only [Option.bind_some]
  rw [Cmp_ok (prod_lim a1 b2).2 (prod_lim b1 a2).2 (by omega)]
  simp only [Option.bind_some]
  have hX : (p * (q' : Int)).natAbs = p.natAbs * q' := by rw [Int.natAbs_mul, Int.natAbs_natCast]
  have hY : (p' * (q : Int)).natAbs = p'.natAbs * q := by rw [Int.natAbs_mul, Int.natAbs_natCast]
  have c3 : (0 : Int) < q := by omega
  have d3 : (0 : Int) < q' := by omega
  have sX : (p < 0 → p * (q' : Int) < 0) ∧ (¬ p < 0 → 0 ≤ p * (q' : Int)) := ⟨fun h => Int.mul_neg_of_neg_of_pos h d3, fun h => Int.mul_nonneg (Int.not_lt.1 h) (Int.le_of_lt d3)⟩
  have sY : (p' < 0 → p' * (q : Int) < 0) ∧ (¬ p' < 0 → 0 ≤ p' * (q : Int)) := ⟨fun h => Int.mul_neg_of_neg_of_pos h c3, fun h => Int.mul_nonneg (Int.not_lt.1 h) (Int.le_of_lt c3)⟩
  generalize p * (q' : Int) = X at *
  generalize p' * (q : Int) = Y at *
  generalize p.natAbs * q' = x at *
  generalize p'.natAbs * q = y at *
  by_cases h1 : p < 0 <;> by_cases h2 : p' < 0
  · rw [decide_eq_true h1, decide_eq_true h2]
    simp only [cond_true, joinB_inl]
    have g1 := sX.1 h1
    have g2 := sY.1 h2
    have : w64 (0 - sgn x y) = sgn X Y := by
      unfold sgn
      by_cases c1 : (x : Int) < y
      · rw [if_pos c1, if_neg (by omega), if_pos (by omega)]; rfl
      · by_cases c2 : (y : Int) < x
        · rw [if_neg c1, if_pos c2, if_pos (by omega)]; rfl
        · rw [if_neg c1, if_neg c2, if_neg (by omega), if_neg (by omega)]; rfl
    rw [this]
  · rw [decide_eq_true h1, decide_eq_false h2]
    simp only [cond_true, cond_false, joinB_inl]
    have g1 := sX.1 h1
    have g2 := sY.2 h2
    have : sgn X Y = -1 := by unfold sgn; rw [if_pos (by omega)]
    rw [this, iz_neg, decide_eq_true h1]; rfl
  · rw [decide_eq_false h1, decide_eq_true h2]
    simp only [cond_true, cond_false, joinB_inl]
    have g1 := sX.2 h1
    have g2 := sY.1 h2
    have : sgn X Y = 1 := by unfold sgn; rw [if_neg (by omega), if_pos (by omega)]
    rw [this, iz_neg, iz_neg, decide_eq_false h1, decide_eq_true h2]; rfl
  · rw [decide_eq_false h1, decide_eq_false h2]
    simp only [cond_true, cond_false, joinB_inl]
    have g1 := sX.2 h1
    have g2 := sY.2 h2
    have : sgn x y = sgn X Y := by
      unfold sgn
      by_cases c1 : (x : Int) < y
      · rw [if_pos c1, if_pos (by omega)]
      · by_cases c2 : (y : Int) < x
        · rw [if_neg c1, if_pos c2, if_neg (by omega), if_pos (by omega)]
        · rw [if_neg c1, if_neg c2, if_neg (by omega), if_neg (by omega)]
    rw [this, iz_neg, iz_neg, decide_eq_false h1, decide_eq_false h2]; rfl
abbrev Fr' := (Bool × List Int) × List Int
def RR (c : Fr') (x : Int) (y : Nat) : Prop := RI c.1 x ∧ c.2 = dg 65536 y
theorem RI_nat (q : Nat) : RI (false, dg 65536 q) (q : Int) := ⟨by simp, fun _ => by simp⟩
theorem RI_nn {a : Bool × List Int} {x : Nat} (h : RI a (x : Int)) : a.2 = dg 65536 x := by have := h.1; simpa using this
theorem Lowest_ok {k : Nat} (hk : 100000000000000 < k) {c : Fr'} {x : Int} {y : Nat} (h : RR c x y) (hx : ((dg 65536 x.natAbs).length : Int) ≤ 90000) (hy : ((dg 65536 y).length : Int) ≤ 90000) (hy0 : 0 < y) : ∃ c', brindlewoodref3_Ratio_Lowest k c = some c' ∧ RR c' (rnum x y) (rden x y) := by
  obtain ⟨⟨s, l⟩, m⟩ := c
  obtain ⟨⟨h1, h2⟩, h3⟩ := h
  simp only at h1 h2 h3
  subst h1; subst h3
  have g0 : 0 < Nat.gcd x.natAbs y := Nat.gcd_pos_of_pos_right _ hy0
  have gl : (dg 65536 (Nat.gcd x.natAbs y)).length ≤ (dg 65536 y).length := len_le_of_le hB16 (Nat.gcd_le_right _ hy0)
  unfold brindlewoodref3_Ratio_Lowest
  simp only
  rw [Common_ok (by omega) (by omega) hk]
  simp only [Option.bind_some]
  rw [Divide_ok (by omega) (by omega) (by omega) g0]
  simp only [Option.bind_some]
  rw [Divide_ok (by omega) (by omega) (by omega) g0]
  simp only [Option.bind_some]
  refine ⟨_, rfl, ⟨?_, ?_⟩, rfl⟩
  · show dg 65536 _ = _
    rw [rnum_abs hy0]
  · intro h0
    obtain ⟨s1, s2⟩ := rnum_sign (x := x) hy0
    have := h2 fun e => h0 (s2.2 e)
    show s = _
    rw [this]
    by_cases hn : x < 0
    · rw [decide_eq_true hn, decide_eq_true (s1.2 hn)]
    · rw [decide_eq_false hn, decide_eq_false (fun e => hn (s1.1 e))]
theorem len_mul {a b : Nat} : (dg 65536 (a * b)).length ≤ (dg 65536 a).length + (dg 65536 b).length := dg_len hB16 (by
  rw [Nat.pow_add]
  have h1 := dg_lt (b := 65536) (n := a) hB16
  have h2 := dg_lt (b := 65536) (n := b) hB16
  exact Nat.mul_lt_mul_of_lt_of_le h1 (Nat.le_of_lt h2) (by omega))
theorem len_add {a b n : Nat} (ha : (dg 65536 a).length ≤ n) (hb : (dg 65536 b).length ≤ n) : (dg 65536 (a + b)).length ≤ n + 1 := dg_len hB16 (by
  have h1 := (dg_len_iff hB16).1 ha
  have h2 := (dg_len_iff hB16).1 hb
  rw [Nat.pow_succ]; omega)
theorem len_le' {a n m : Nat} (h : a ≤ n) (hn : (dg 65536 n).length ≤ m) : (dg 65536 a).length ≤ m := Nat.le_trans (len_le_of_le hB16 h) hn
theorem rqPlus_ok {k : Nat} (hk : 100000000000000 < k) {a b : Fr'} {x x' : Int} {y y' : Nat} (ha : RR a x y) (hb : RR b x' y') (h1 : (dg 65536 x.natAbs).length ≤ 20000) (h2 : (dg 65536 y).length ≤ 20000) (h3 : (dg 65536 x'.natAbs).length ≤ 20000) (h4 : (dg 65536 y').length ≤ 20000) (y0 : 0 < y) (y0' : 0 < y') :
    ∃ c, brindlewoodref3_Ratio_Plus k a b = some c ∧ RR c (rnum (x * y' + x' * y) (y * y')) (rden (x * y' + x' * y) (y * y')) := by
  obtain ⟨a1, a2⟩ := a
  obtain ⟨b1, b2⟩ := b
  obtain ⟨ha1, ha2⟩ := ha
  obtain ⟨hb1, hb2⟩ := hb
  simp only at ha1 ha2 hb1 hb2
  subst ha2; subst hb2
  unfold brindlewoodref3_Ratio_Plus
  simp only
  obtain ⟨c1, e1, r1⟩ := rTimes_ok hk ha1 (RI_nat y') (by omega) (by simp only [Int.natAbs_natCast]; omega)
  obtain ⟨c2, e2, r2⟩ := rTimes_ok hk hb1 (RI_nat y) (by omega) (by simp only [Int.natAbs_natCast]; omega)
  have m1 : (dg 65536 (x * (y' : Int)).natAbs).length ≤ 40000 := by rw [Int.natAbs_mul, Int.natAbs_natCast]; have := len_mul (a := x.natAbs) (b := y'); omega
  have m2 : (dg 65536 (x' * (y : Int)).natAbs).length ≤ 40000 := by rw [Int.natAbs_mul, Int.natAbs_natCast]; have := len_mul (a := x'.natAbs) (b := y); omega
  have m3 : (dg 65536 (y * y')).length ≤ 40000 := by have := len_mul (a := y) (b := y'); omega
  have m4 : (dg 65536 (x * (y' : Int) + x' * (y : Int)).natAbs).length ≤ 40001 := len_le' (by omega : (x * (y' : Int) + x' * (y : Int)).natAbs ≤ (x * (y' : Int)).natAbs + (x' * (y : Int)).natAbs) (len_add m1 m2)
  obtain ⟨c3, e3, r3⟩ := rPlus_ok hk r1 r2 (by omega) (by omega)
  rw [e1, e2]
  simp only [Option.bind_some]
  rw [e3]
  simp only [Option.bind_some]
  rw [Times_ok (by omega) (by omega) hk]
  simp only [Option.bind_some]
  obtain ⟨c4, e4, r4⟩ := Lowest_ok hk (c := (c3, dg 65536 (y * y'))) ⟨r3, rfl⟩ (by omega) (by omega) (Nat.mul_pos y0 y0')
  rw [e4]
  exact ⟨c4, rfl, r4⟩
theorem rqLess_ok {k : Nat} (hk : 100000000000000 < k) {a b : Fr'} {x x' : Int} {y y' : Nat} (ha : RR a x y) (hb : RR b x' y') (h1 : (dg 65536 x.natAbs).length ≤ 20000) (h2 : (dg 65536 y).length ≤ 20000) (h3 : (dg 65536 x'.natAbs).length ≤ 20000) (h4 : (dg 65536 y').length ≤ 20000) (y0 : 0 < y) (y0' : 0 < y') :
    ∃ c, brindlewoodref3_Ratio_Less k a b = some c ∧ RR c (rnum (x * y' + -x' * y) (y * y')) (rden (x * y' + -x' * y) (y * y')) := by
  obtain ⟨b1, b2⟩ := b
  obtain ⟨hb1, hb2⟩ := hb
  simp only at hb1 hb2
  obtain ⟨m, e1, r1⟩ := rMinus_ok hb1
  unfold brindlewoodref3_Ratio_Less
  simp only
  rw [e1]
  simp only [Option.bind_some]
  obtain ⟨c, e2, r2⟩ := rqPlus_ok hk ha (b := (m, b2)) ⟨r1, hb2⟩ h1 h2 (by rw [Int.natAbs_neg]; exact h3) h4 y0 y0'
  rw [e2]
  exact ⟨c, rfl, r2⟩
theorem rqTimes_ok {k : Nat} (hk : 100000000000000 < k) {a b : Fr'} {x x' : Int} {y y' : Nat} (ha : RR a x y) (hb : RR b x' y') (h1 : (dg 65536 x.natAbs).length ≤ 20000) (h2 : (dg 65536 y).length ≤ 20000) (h3 : (dg 65536 x'.natAbs).length ≤ 20000) (h4 : (dg 65536 y').length ≤ 20000) (y0 : 0 < y) (y0' : 0 < y') :
    ∃ c, brindlewoodref3_Ratio_Times k a b = some c ∧ RR c (rnum (x * x') (y * y')) (rden (x * x') (y * y')) := by
  obtain ⟨a1, a2⟩ := a
  obtain ⟨b1, b2⟩ := b
  obtain ⟨ha1, ha2⟩ := ha
  obtain ⟨hb1, hb2⟩ := hb
  simp only at ha1 ha2 hb1 hb2
  subst ha2; subst hb2
  unfold brindlewoodref3_Ratio_Times
  simp only
  obtain ⟨c1, e1, r1⟩ := rTimes_ok hk ha1 hb1 (by omega) (by omega)
  have m1 : (dg 65536 (x * x').natAbs).length ≤ 40000 := by rw [Int.natAbs_mul]; have := len_mul (a := x.natAbs) (b := x'.natAbs); omega
  have m3 : (dg 65536 (y * y')).length ≤ 40000 := by have := len_mul (a := y) (b := y'); omega
  rw [e1]
  simp only [Option.bind_some]
  rw [Times_ok (by omega) (by omega) hk]
  simp only [Option.bind_some]
  obtain ⟨c4, e4, r4⟩ := Lowest_ok hk (c := (c1, dg 65536 (y * y'))) ⟨r1, rfl⟩ (by omega) (by omega) (Nat.mul_pos y0 y0')
  rw [e4]
  exact ⟨c4, rfl, r4⟩
theorem rqOrder_ok {k : Nat} (hk : 100000000000000 < k) {a b : Fr'} {x x' : Int} {y y' : Nat} (ha : RR a x y) (hb : RR b x' y') (h1 : (dg 65536 x.natAbs).length ≤ 20000) (h2 : (dg 65536 y).length ≤ 20000) (h3 : (dg 65536 x'.natAbs).length ≤ 20000) (h4 : (dg 65536 y').length ≤ 20000) :
    brindlewoodref3_Ratio_Order k a b = some (sgn (x * y') (x' * y)) := by
  obtain ⟨a1, a2⟩ := a
  obtain ⟨b1, b2⟩ := b
  obtain ⟨ha1, ha2⟩ := ha
  obtain ⟨hb1, hb2⟩ := hb
  simp only at ha1 ha2 hb1 hb2
  subst ha2; subst hb2
  unfold brindlewoodref3_Ratio_Order
  simp only
  obtain ⟨c1, e1, r1⟩ := rTimes_ok hk ha1 (RI_nat y') (by omega) (by simp only [Int.natAbs_natCast]; omega)
  obtain ⟨c2, e2, r2⟩ := rTimes_ok hk hb1 (RI_nat y) (by omega) (by simp only [Int.natAbs_natCast]; omega)
  have m1 : (dg 65536 (x * (y' : Int)).natAbs).length ≤ 40000 := by rw [Int.natAbs_mul, Int.natAbs_natCast]; have := len_mul (a := x.natAbs) (b := y'); omega
  have m2 : (dg 65536 (x' * (y : Int)).natAbs).length ≤ 40000 := by rw [Int.natAbs_mul, Int.natAbs_natCast]; have := len_mul (a := x'.natAbs) (b := y); omega
  rw [e1, e2]
  simp only [Option.bind_some]
  rw [iOrder_ok (by omega) r1 r2 (by omega) (by omega)]
  rfl
theorem Turned_ok {a : Fr'} {x : Int} {y : Nat} (h : RR a x y) (hx : x ≠ 0) : ∃ c, brindlewoodref3_Ratio_Turned a = some c ∧ RR c (if x < 0 then -(y : Int) else y) x.natAbs := by
  obtain ⟨⟨s, l⟩, m⟩ := a
  obtain ⟨⟨h1, h2⟩, h3⟩ := h
  simp only at h1 h2 h3
  refine ⟨_, rfl, ⟨?_, ?_⟩, h1⟩
  · show m = _
    rw [h3]; split <;> simp
  · intro h0
    show s = _
    rw [h2 hx]
    by_cases hn : x < 0
    · rw [if_pos hn] at h0 ⊢; rw [decide_eq_true hn, decide_eq_true (by omega)]
    · rw [if_neg hn, decide_eq_false hn, decide_eq_false (by omega)]
theorem ilen16 {n : Nat} (h : n < ilim) : (dg 65536 n).length ≤ 256 := ilim16_iff.2 h
theorem RatioOf_ok {k : Nat} (hk : 2000000001 < k) {p : Int} {q : Nat} (h : RatV p q) : ∃ c, brindlewoodref3_RatioOf k (rq p q) = some c ∧ RR c p q ∧ c.1 = (decide (p < 0), dg 65536 p.natAbs) := by
  obtain ⟨a1, a2, a3, a4⟩ := h
  have hl := ilim_iff.2 a2
  unfold brindlewoodref3_RatioOf rq
  simp only [iz_nat]
  rw [IntOf_ok hk a1]
  simp only [Option.bind_some]
  rw [Of_ok (dd32 _) (dg_ev hB32 _) (by omega) hk]
  exact ⟨_, rfl, ⟨⟨rfl, fun _ => rfl⟩, rfl⟩, rfl⟩
theorem sgn_one (g : Nat) : some (sgn (g : Int) ((1 : Nat) : Int) == 0) = some (decide (g = 1)) := by
  unfold sgn
  by_cases hg : g = 1
  · subst hg; rfl
  · rw [decide_eq_false hg]
    by_cases c1 : (g : Int) < (1 : Nat)
    · rw [if_pos c1]; rfl
    · rw [if_neg c1, if_pos (by omega)]; rfl
theorem RatioOk_ok {k : Nat} (hk : 100000000000000 < k) {r : Rt} (h : Wf RtT r) : brindlewoodref3_RatioOk k r = rational_Valid k r := by
  obtain ⟨a, b⟩ := r
  have ha : Wf IT a := h.1
  have hb : Wf IT b := h.2
  unfold brindlewoodref3_RatioOk rational_Valid
  simp only [rIntOk]
  rcases int_vals ha with ⟨p, hp, rfl, hv⟩ | hv
  · rcases int_vals hb with ⟨d, hd, rfl, hw⟩ | hw
    · by_cases h0 : 0 < d
      · obtain ⟨q, rfl⟩ : ∃ q : Nat, d = q := ⟨d.toNat, by omega⟩
        have e1 : (iz (q : Int)).1 = false := by rw [iz_nat]
        have e2 : (((iz (q : Int)).2.length : Int) == 0) = false := beq_f (by rw [iz_nat]; have := (dg_len_pos (n := q) hB32).2 (by omega); simp only; omega)
        have hq' : q < ilim := by simpa using hd
        simp only [hv, hw, Option.bind_some, Bool.not_true, cond_false, e1, e2, joinB_inl]
        rw [gcd_is1 (by omega) hp hq']
        have l1 := ilim_iff.2 hp
        have l2 := ilim_iff.2 hq'
        have m1 := ilen16 hp
        have m2 := ilen16 hq'
        have gl : (dg 65536 (Nat.gcd p.natAbs q)).length ≤ (dg 65536 q).length := len_le_of_le hB16 (Nat.gcd_le_right _ (by omega))
        simp only [iz_nat, iz_abs]
        rw [Of_ok (dd32 _) (dg_ev hB32 _) (by omega) (by omega)]
        simp only [Option.bind_some]
        rw [Of_ok (dd32 _) (dg_ev hB32 _) (by omega) (by omega)]
        simp only [Option.bind_some]
        rw [Common_ok (by omega) (by omega) hk]
        simp only [Option.bind_some]
        rw [show (1 : Int) = ((1 : Nat) : Int) from rfl, Small_ok (by decide) (by omega)]
        simp only [Option.bind_some]
        rw [Compare_ok (by omega) (by rw [show (dg 65536 1) = [1] from by rw [dg_pos (by decide) (by decide)]; rfl]; decide) (by omega)]
        simp only [Option.bind_some]
        exact sgn_one _
      · simp only [hv, hw, Option.bind_some, Bool.not_true, cond_false]
        rcases Int.lt_or_eq_of_le (Int.not_lt.1 h0) with h1 | h1
        · have e1 : (iz d).1 = true := decide_eq_true h1
          rw [e1]; rfl
        · subst h1; rfl
    · simp only [hv, hw]; rfl
  · simp only [hv]; rfl
theorem qfaults_l0 (k : Nat) (l : List Rt) (he : ∀ x ∈ l, brindlewoodref3_RatioOk k x = rational_Valid k x) (hl : (l.length : Int) ≤ 1000) : ∀ (n i : Nat), i ≤ l.length → brindlewoodlaw3_ratioFaults.l0 k n l (0, 0) i = rational_check.l0 k n (0, 0) l l.length i := by
  intro n
  induction n with
  | zero => intro i _; rfl
  | succ n ih =>
    intro i hi
    simp only [brindlewoodlaw3_ratioFaults.l0, rational_check.l0, brindlewoodlaw3_ratioFaults.b0, rational_check.b0]
    by_cases h : i < l.length
    · have hn : nth RtT l (i : Int) = l[i] := by
        show l.getD i _ = _
        rw [List.getD_eq_getElem?_getD, List.getElem?_eq_getElem h]; rfl
      have hn' : nth (.st (.pair (.st (.pair (.bool) (.list (.int .u32)))) (.st (.pair (.bool) (.list (.int .u32)))))) l (i : Int) = l[i] := hn
      have e1 : w64 ((i : Int) + 1) = ((i + 1 : Nat) : Int) := by rw [w64_id (by omega) (by omega)]; omega
      have h1 : brindlewoodref3_RatioOk k (l[i].1, l[i].2) = rational_Valid k (l[i].1, l[i].2) := he l[i] (List.getElem_mem h)
      rw [dlt_t (by omega), inR_t (by omega) (by omega), hn', e1, h1, ih (i + 1) (by omega)]
      rfl
    · rw [dlt_f (by omega)]; rfl
theorem qfaults_eq (k : Nat) {l : List Rt} (he : ∀ x ∈ l, brindlewoodref3_RatioOk k x = rational_Valid k x) (hl : (l.length : Int) ≤ 1000) : brindlewoodlaw3_ratioFaults k l = rational_check k l := by
  unfold brindlewoodlaw3_ratioFaults rational_check
  have h := qfaults_l0 k l he hl k 0 (by omega)
  have h' : brindlewoodlaw3_ratioFaults.l0 k k l (0, 0) 0 = _ := h
  rw [h']; rfl
theorem SameRatio_ok {k : Nat} (hk : 2000000001 < k) {c : Fr'} {p : Int} {q : Nat} (hc : RR c p q) (h1 : p.natAbs < ilim) (h2 : q < ilim) : brindlewoodref3_SameRatio k (rq p q) c = some true := by
  unfold brindlewoodref3_SameRatio rq
  simp only
  rw [SameInt_ok hk hc.1 h1]
  simp only [Option.bind_some, cond_true]
  rw [SameInt_ok hk (b := (false, c.2)) (by rw [hc.2]; exact RI_nat q) (by simpa using h2)]
  rfl
theorem NoRatio_nil : brindlewoodref3_NoRatio ((false, []), false, []) = some true := rfl
theorem gives_err {k : Nat} {c : Fr'} {w : Int × Int} (hw : w.1 ≠ 0) : brindlewoodlaw3_gives k ((false, []), false, []) w c w = some true := by
  unfold brindlewoodlaw3_gives
  simp only [beq_f hw, cond_false, joinB_inl, bne_t hw, cond_true, beq_self_eq_true, Bool.and_self, NoRatio_nil, Option.bind_some]
theorem rqFits_ok {c : Fr'} {p : Int} {q : Nat} (hc : RR c p q) : brindlewoodref3_Ratio_Fits c = some (decide (p.natAbs < ilim ∧ q < ilim)) := by
  unfold brindlewoodref3_Ratio_Fits
  rw [Fits_ok hc.1]
  simp only [Option.bind_some]
  by_cases h1 : p.natAbs < ilim
  · rw [decide_eq_true h1]
    simp only [cond_true, hc.2]
    by_cases h2 : q < ilim
    · have e : decide (p.natAbs < ilim ∧ q < ilim) = true := decide_eq_true ⟨h1, h2⟩
      rw [dle_t (by have := ilim16_iff.2 h2; omega), e]
    · have e : decide (p.natAbs < ilim ∧ q < ilim) = false := decide_eq_false (fun h => h2 h.2)
      rw [dle_f (by have : ¬ (dg 65536 q).length ≤ 256 := fun h => h2 (ilim16_iff.1 h); omega), e]
  · have e : decide (p.natAbs < ilim ∧ q < ilim) = false := decide_eq_false (fun h => h1 h.1)
    rw [decide_eq_false h1, e]; rfl
theorem gives_ok {k : Nat} (hk : 2000000001 < k) {c : Fr'} {x : Int} {y : Nat} (hc : RR c (rnum x y) (rden x y)) : brindlewoodlaw3_gives k (ratres x y).1 (ratres x y).2 c (0, 0) = some true := by
  unfold brindlewoodlaw3_gives
  rw [rqFits_ok hc]
  simp only [beq_self_eq_true, cond_true, Option.bind_some]
  unfold ratres
  by_cases h : (rnum x y).natAbs < ilim ∧ rden x y < ilim
  · rw [if_pos h, decide_eq_true h]
    simp only [Bool.not_true, cond_false, joinB_inl, bne_self_eq_false, beq_self_eq_true, Bool.and_self, cond_true]
    rw [SameRatio_ok hk hc h.1 h.2]; rfl
  · rw [if_neg h, decide_eq_false h]; rfl
theorem rMake_ok {k : Nat} (hk : 20000000000 < k) {a b : Int} (ha : a.natAbs < ilim) (hb : b.natAbs < ilim) : rational_Make k (iz a) (iz b) = some (if b = 0 then (((false, []), false, []), 22, -2) else ratres (if b < 0 then -a else a) b.natAbs) := by
  unfold rational_Make
  rw [iz_valid ha, iz_valid hb]
  simp only [Option.bind_some, Bool.not_true, cond_false]
  by_cases h0 : b = 0
  · subst h0; rfl
  · have hl := (dg_len_pos (n := b.natAbs) hB32).2 (by omega)
    rw [if_neg h0, beq_f (by show ((dg 4294967296 b.natAbs).length : Int) ≠ 0; omega)]
    simp only [cond_false, iz_abs, iz_neg]
    have e : a.natAbs = (if b < 0 then -a else a).natAbs := by split <;> simp
    rw [e, reduced_ok hk (by rw [← e]; exact ilim_lim ha) (ilim_lim hb) (by omega) (by
      intro hne
      by_cases hn : b < 0
      · rw [if_pos hn] at hne ⊢
        rw [decide_eq_true hn]
        by_cases hx : a < 0
        · rw [decide_eq_true hx, decide_eq_false (by omega)]; rfl
        · rw [decide_eq_false hx, decide_eq_true (by omega)]; rfl
      · rw [if_neg hn, decide_eq_false hn]
        cases decide (a < 0) <;> rfl)]
    rfl
theorem gives_ok' {k : Nat} (hk : 2000000001 < k) {c : Fr'} {p : Int} {q : Nat} (hc : RR c p q) (h1 : p.natAbs < ilim) (h2 : q < ilim) : brindlewoodlaw3_gives k (rq p q) (0, 0) c (0, 0) = some true := by
  have e : decide (p.natAbs < ilim ∧ q < ilim) = true := decide_eq_true ⟨h1, h2⟩
  unfold brindlewoodlaw3_gives
  rw [rqFits_ok hc, e]
  simp only [beq_self_eq_true, cond_true, Option.bind_some, Bool.not_true, cond_false, joinB_inl, bne_self_eq_false, Bool.and_self]
  rw [SameRatio_ok hk hc h1 h2]; rfl
end Go.Pl
