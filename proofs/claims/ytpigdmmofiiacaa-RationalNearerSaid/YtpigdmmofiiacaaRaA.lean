/- Ratios: numbers in lowest terms, validity, faults.  Conditions: those that each theorem names. -/
import Derived.Test.YtpigdmmofiiacaaPiH
import Derived.Test.YtpigdmmofiiacaaPiG
set_option linter.unusedVariables false
set_option linter.unusedSimpArgs false
namespace Go.Pl
open Go Go.Ev Go.Sh
def rnum (x : Int) (y : Nat) : Int := x / ((Nat.gcd x.natAbs y : Nat) : Int)
def rden (x : Int) (y : Nat) : Nat := y / Nat.gcd x.natAbs y
theorem low_facts {x : Int} {y : Nat} (hy : 0 < y) : ∃ g : Nat, 0 < g ∧ g = Nat.gcd x.natAbs y ∧ x = g * rnum x y ∧ y = g * rden x y ∧ Nat.gcd (rnum x y).natAbs (rden x y) = 1 ∧ 0 < rden x y := by
  have g0 : 0 < Nat.gcd x.natAbs y := Nat.gcd_pos_of_pos_right _ hy
  have h1 := Nat.gcd_dvd_left x.natAbs y
  have h2 := Nat.gcd_dvd_right x.natAbs y
  have hc : Nat.gcd (x.natAbs / Nat.gcd x.natAbs y) (y / Nat.gcd x.natAbs y) = 1 := by rw [Nat.gcd_div h1 h2, Nat.div_self g0]
  unfold rnum rden
  generalize Nat.gcd x.natAbs y = g at *
  have h3 : (g : Int) ∣ x := Int.ofNat_dvd_left.2 h1
  obtain ⟨p, rfl⟩ := h3
  obtain ⟨q, rfl⟩ := h2
  have hg : (g : Int) ≠ 0 := by omega
  rw [Int.natAbs_mul, Int.natAbs_natCast, Nat.mul_div_cancel_left _ g0, Nat.mul_div_cancel_left _ g0] at hc
  rw [Int.mul_ediv_cancel_left _ hg, Nat.mul_div_cancel_left _ g0]
  refine ⟨g, g0, rfl, rfl, rfl, hc, Nat.pos_of_ne_zero fun e => by subst e; simp at hy⟩
theorem rnum_abs {x : Int} {y : Nat} (hy : 0 < y) : (rnum x y).natAbs = x.natAbs / Nat.gcd x.natAbs y := by
  obtain ⟨g, g0, hg, h1, h2, h3, h4⟩ := low_facts (x := x) hy
  rw [← hg]
  have : x.natAbs = g * (rnum x y).natAbs := by conv => lhs; rw [h1]
                                                rw [Int.natAbs_mul, Int.natAbs_natCast]
  rw [this, Nat.mul_div_cancel_left _ g0]
theorem rnum_sign {x : Int} {y : Nat} (hy : 0 < y) : (rnum x y < 0 ↔ x < 0) ∧ (rnum x y = 0 ↔ x = 0) := by
  obtain ⟨g, g0, hg, h1, h2, h3, h4⟩ := low_facts (x := x) hy
  generalize rnum x y = p at *
  have hg' : (0 : Int) < g := by omega
  refine ⟨⟨fun h => ?_, fun h => ?_⟩, fun h => ?_, fun h => ?_⟩
  · rw [h1]; exact Int.mul_neg_of_pos_of_neg hg' h
  · refine Int.not_le.1 fun h5 => ?_
    have := Int.mul_nonneg (Int.le_of_lt hg') h5
    omega
  · rw [h1, h, Int.mul_zero]
  · rw [h] at h1
    rcases Int.mul_eq_zero.1 h1.symm with h5 | h5
    · omega
    · exact h5
theorem rnum_le {x : Int} {y : Nat} (hy : 0 < y) : (rnum x y).natAbs ≤ x.natAbs ∧ rden x y ≤ y := by
  rw [rnum_abs hy]
  exact ⟨Nat.div_le_self _ _, Nat.div_le_self _ _⟩
theorem low_uniq {p p' : Int} {q q' : Nat} (hq : 0 < q) (hq' : 0 < q') (h : Nat.gcd p.natAbs q = 1) (h' : Nat.gcd p'.natAbs q' = 1) (he : p * q' = p' * q) : p = p' ∧ q = q' := by
  have ha : p.natAbs * q' = p'.natAbs * q := by
    have := congrArg Int.natAbs he
    rwa [Int.natAbs_mul, Int.natAbs_mul, Int.natAbs_natCast, Int.natAbs_natCast] at this
  have d1 : q ∣ q' := by
    have : q ∣ p.natAbs * q' := by rw [ha]; exact Nat.dvd_mul_left _ _
    exact Nat.Coprime.dvd_of_dvd_mul_left (Nat.Coprime.symm h) this
  have d2 : q' ∣ q := by
    have : q' ∣ p'.natAbs * q := by rw [← ha]; exact Nat.dvd_mul_left _ _
    exact Nat.Coprime.dvd_of_dvd_mul_left (Nat.Coprime.symm h') this
  have e := Nat.dvd_antisymm d1 d2
  subst e
  exact ⟨Int.eq_of_mul_eq_mul_right (by omega) he, rfl⟩
theorem low_eq {x x' : Int} {y y' : Nat} (hy : 0 < y) (hy' : 0 < y') (he : x * y' = x' * y) : rnum x y = rnum x' y' ∧ rden x y = rden x' y' := by
  obtain ⟨g, g0, _, h1, h2, h3, h4⟩ := low_facts (x := x) hy
  obtain ⟨g', g0', _, h1', h2', h3', h4'⟩ := low_facts (x := x') hy'
  refine low_uniq h4 h4' h3 h3' ?_
  generalize rnum x y = p at *
  generalize rnum x' y' = p' at *
  generalize rden x y = q at *
  generalize rden x' y' = q' at *
  subst h1; subst h1'; subst h2; subst h2'
  have e : ((g * g' : Nat) : Int) * (p * q') = ((g * g' : Nat) : Int) * (p' * q) := by
    simp only [Int.natCast_mul] at he ⊢
    grind
  exact Int.eq_of_mul_eq_mul_left (by have := Nat.mul_pos g0 g0'; omega) e
theorem low_is {p x : Int} {q y : Nat} (hq : 0 < q) (hy : 0 < y) (h : Nat.gcd p.natAbs q = 1) (he : x * q = p * y) : rnum x y = p ∧ rden x y = q := by
  obtain ⟨g, g0, _, h1, h2, h3, h4⟩ := low_facts (x := x) hy
  refine low_uniq h4 hq h3 h ?_
  generalize rnum x y = p' at *
  generalize rden x y = q' at *
  subst h1; subst h2
  have e : (g : Int) * (p' * q) = (g : Int) * (p * q') := by
    simp only [Int.natCast_mul] at he
    grind
  exact Int.eq_of_mul_eq_mul_left (by omega) e
theorem low_self {p : Int} {q : Nat} (hq : 0 < q) (h : Nat.gcd p.natAbs q = 1) : rnum p q = p ∧ rden p q = q := low_is hq hq h rfl
abbrev RtT : Ty := .st (.pair (.st (.pair .bool (.list (.int .u32)))) (.st (.pair .bool (.list (.int .u32)))))
abbrev Rt := (Bool × List Int) × (Bool × List Int)
def rq (p : Int) (q : Nat) : Rt := (iz p, iz (q : Int))
def RatV (p : Int) (q : Nat) : Prop := p.natAbs < ilim ∧ q < ilim ∧ 0 < q ∧ Nat.gcd p.natAbs q = 1
theorem iz_nat (q : Nat) : iz (q : Int) = (false, dg 4294967296 q) := by
  unfold iz
  rw [decide_eq_false (by omega), Int.natAbs_natCast]
theorem dg_one : dg 4294967296 1 = [1] := by rw [dg_pos (by decide) (by decide)]; rfl
theorem is_one (g : Nat) : (bif (((dg 4294967296 g).length : Int) == 1) then (bif inR 0 ((dg 4294967296 g).length : Int) then (some ((rd (dg 4294967296 g) 0) == 1)) else none) else (some false)) = some (decide (g = 1)) := by
  rcases Nat.lt_or_ge g 4294967296 with hg | hg
  · rcases Nat.eq_zero_or_pos g with h0 | h0
    · subst h0; rfl
    · have e : dg 4294967296 g = [(g : Int)] := by
        rw [dg_pos hB32 h0, Nat.mod_eq_of_lt hg, Nat.div_eq_of_lt hg]; rfl
      rw [e]
      show some ((g : Int) == 1) = _
      by_cases h1 : g = 1
      · subst h1; rfl
      · rw [decide_eq_false h1, beq_f (by omega)]
  · have hl : 2 ≤ (dg 4294967296 g).length := by
      refine Nat.not_lt.1 fun h => ?_
      have := (dg_len_iff (b := 4294967296) (n := g) (m := 1) hB32).1 (by omega)
      omega
    rw [beq_f (by omega), decide_eq_false (by omega)]
    rfl
theorem gcd_is1 {k : Nat} {p : Int} {q : Nat} (hk : 20000000000 < k) (hp : p.natAbs < ilim) (hq : q < ilim) :
    ((natural_Gcd k (iz p).2 (iz (q : Int)).2).bind fun t4 => bif ((t4.1.length : Int) == 1) then (bif inR 0 (t4.1.length : Int) then (some ((rd t4.1 0) == 1)) else none) else (some false)) = some (decide (Nat.gcd p.natAbs q = 1)) := by
  have h := Gcd_ok (k := k) (ilim_lim hp) (ilim_lim hq) hk
  rw [iz_nat]
  have h' : natural_Gcd k (iz p).2 (dg 4294967296 q) = _ := h
  simp only [h', Option.bind_some]
  exact is_one _
theorem rat_cases {k : Nat} (hk : 20000000000 < k) {r : Rt} (h : Wf RtT r) : (∃ p q, RatV p q ∧ r = rq p q ∧ rational_Valid k r = some true) ∨ rational_Valid k r = some false := by
  obtain ⟨a, b⟩ := r
  have ha : Wf IT a := h.1
  have hb : Wf IT b := h.2
  rcases int_vals ha with ⟨p, hp, rfl, hv⟩ | hv
  · rcases int_vals hb with ⟨d, hd, rfl, hw⟩ | hw
    · by_cases h0 : 0 < d
      · obtain ⟨q, rfl⟩ : ∃ q : Nat, d = q := ⟨d.toNat, by omega⟩
        have e1 : (iz (q : Int)).1 = false := by rw [iz_nat]
        have e2 : (((iz (q : Int)).2.length : Int) == 0) = false := beq_f (by rw [iz_nat]; have := (dg_len_pos (n := q) hB32).2 (by omega); simp only; omega)
        have hq' : q < ilim := by simpa using hd
        have hval : rational_Valid k (iz p, iz (q : Int)) = some (decide (Nat.gcd p.natAbs q = 1)) := by
          unfold rational_Valid
          simp only [hv, hw, Option.bind_some, Bool.not_true, cond_false, e1, e2, joinB_inl]
          exact gcd_is1 hk hp hq'
        by_cases hg : Nat.gcd p.natAbs q = 1
        · left; exact ⟨p, q, ⟨hp, hq', by omega, hg⟩, rfl, by rw [hval, decide_eq_true hg]⟩
        · right; rw [hval, decide_eq_false hg]
      · right
        unfold rational_Valid
        simp only [hv, hw, Option.bind_some, Bool.not_true, cond_false]
        rcases Int.lt_or_eq_of_le (Int.not_lt.1 h0) with h1 | h1
        · have e1 : (iz d).1 = true := decide_eq_true h1
          rw [e1]; rfl
        · subst h1; rfl
    · right
      unfold rational_Valid
      simp only [hv, hw]; rfl
  · right
    unfold rational_Valid
    simp only [hv]; rfl
theorem rq_valid {k : Nat} (hk : 20000000000 < k) {p : Int} {q : Nat} (h : RatV p q) : rational_Valid k (rq p q) = some true := by
  obtain ⟨h1, h2, h3, h4⟩ := h
  have e1 : (iz (q : Int)).1 = false := by rw [iz_nat]
  have e2 : (((iz (q : Int)).2.length : Int) == 0) = false := beq_f (by rw [iz_nat]; have := (dg_len_pos (n := q) hB32).2 (by omega); simp only; omega)
  unfold rational_Valid rq
  simp only [iz_valid h1, iz_valid (v := (q : Int)) (by simpa using h2), Option.bind_some, Bool.not_true, cond_false, e1, e2, joinB_inl]
  rw [gcd_is1 hk h1 h2, decide_eq_true h4]
def badQ (k : Nat) : List Rt → Nat → Int × Int
  | [], _ => (0, 0)
  | x :: l, i => if rational_Valid k x = some true then badQ k l (i + 1) else (6, -1 - (i : Int))
theorem badQ_t {k : Nat} {x : Rt} (l : List Rt) (i : Nat) (h : rational_Valid k x = some true) : badQ k (x :: l) i = badQ k l (i + 1) := by
  simp only [badQ]; rw [if_pos h]
theorem badQ_f {k : Nat} {x : Rt} (l : List Rt) (i : Nat) (h : rational_Valid k x = some false) : badQ k (x :: l) i = (6, -1 - (i : Int)) := by
  simp only [badQ]; rw [if_neg (by rw [h]; simp)]
theorem badQ_code {k : Nat} : ∀ (l : List Rt) (i : Nat), (∀ x ∈ l, rational_Valid k x = some true ∨ rational_Valid k x = some false) → (∃ x ∈ l, rational_Valid k x = some false) → (badQ k l i).1 = 6 := by
  intro l
  induction l with
  | nil => intro i _ h; obtain ⟨x, hx, _⟩ := h; simp at hx
  | cons y l ih =>
    intro i hv h
    rcases hv y (by simp) with h1 | h1
    · rw [badQ_t _ _ h1]
      refine ih _ (fun x hx => hv x (by simp [hx])) ?_
      obtain ⟨x, hx, hx2⟩ := h
      rcases List.mem_cons.1 hx with rfl | hx
      · rw [h1] at hx2; cases hx2
      · exact ⟨x, hx, hx2⟩
    · rw [badQ_f _ _ h1]
theorem badQ_ok {k : Nat} : ∀ (l : List Rt) (i : Nat), (∀ x ∈ l, rational_Valid k x = some true) → badQ k l i = (0, 0) := by
  intro l
  induction l with
  | nil => intro i _; rfl
  | cons x l ih => intro i h; rw [badQ_t _ _ (h x (by simp))]; exact ih _ fun y hy => h y (by simp [hy])
theorem qcheck_l0 (k : Nat) (l : List Rt) (hv : ∀ x ∈ l, rational_Valid k x = some true ∨ rational_Valid k x = some false) (hl : (l.length : Int) ≤ 1000) : ∀ (n i : Nat), l.length - i < n → i ≤ l.length →
    rational_check.l0 k n (0, 0) l l.length i = some (if badQ k (l.drop i) i = (0, 0) then .inl (0, 0) else .inr (badQ k (l.drop i) i)) := by
  intro n
  induction n with
  | zero => intro i h; omega
  | succ n ih =>
    intro i h1 h2
    simp only [rational_check.l0, rational_check.b0]
    by_cases hi : i < l.length
    · have e1 : w64 ((i : Int) + 1) = ((i + 1 : Nat) : Int) := by rw [w64_id (by omega) (by omega)]; omega
      have e2 : w64 (-1 - (i : Int)) = -1 - (i : Int) := w64_id (by omega) (by omega)
      have hd : l.drop i = l[i] :: l.drop (i + 1) := List.drop_eq_getElem_cons hi
      have hn : nth RtT l (i : Int) = l[i] := by
        show l.getD i _ = _
        rw [List.getD_eq_getElem?_getD, List.getElem?_eq_getElem hi]; rfl
      have hn' : nth (.st (.pair (.st (.pair (.bool) (.list (.int .u32)))) (.st (.pair (.bool) (.list (.int .u32)))))) l (i : Int) = l[i] := hn
      rw [dlt_t (by omega), inR_t (by omega) (by omega), hn', e1, e2, hd]
      simp only [cond_true]
      rcases hv l[i] (List.getElem_mem hi) with h | h
      · have h' : rational_Valid k (l[i].1, l[i].2) = some true := h
        rw [h', badQ_t _ _ h]
        simp only [Option.bind_some, Bool.not_true, cond_false]
        exact ih (i + 1) (by omega) (by omega)
      · have h' : rational_Valid k (l[i].1, l[i].2) = some false := h
        rw [h', badQ_f _ _ h]
        simp only [Option.bind_some, Bool.not_false, cond_true]
        rw [if_neg (by simp)]
        rfl
    · have e1 : i = l.length := by omega
      subst e1
      rw [dlt_f (by omega), List.drop_length]
      rfl
theorem qcheck_ok {k : Nat} (hk : 2000 < k) {l : List Rt} (hv : ∀ x ∈ l, rational_Valid k x = some true ∨ rational_Valid k x = some false) (hl : (l.length : Int) ≤ 1000) : rational_check k l = some (badQ k l 0) := by
  unfold rational_check
  have h := qcheck_l0 k l hv hl k 0 (by omega) (by omega)
  have h' : rational_check.l0 k k (0, 0) l l.length 0 = _ := h
  rw [h', List.drop_zero]
  by_cases hb : badQ k l 0 = (0, 0)
  · rw [if_pos hb, hb]; rfl
  · rw [if_neg hb]; rfl
theorem qcheck1 {k : Nat} (hk : 20000000000 < k) {p : Int} {q : Nat} (h : RatV p q) : rational_check k [rq p q] = some (0, 0) := by
  have hv := rq_valid hk h
  rw [qcheck_ok (by omega) (fun x hx => .inl (by simp at hx; rw [hx]; exact hv)) (by simp), badQ_ok _ _ (fun x hx => by simp at hx; rw [hx]; exact hv)]
theorem qcheck2 {k : Nat} (hk : 20000000000 < k) {p p' : Int} {q q' : Nat} (h : RatV p q) (h' : RatV p' q') : rational_check k [rq p q, rq p' q'] = some (0, 0) := by
  have hv : ∀ x ∈ [rq p q, rq p' q'], rational_Valid k x = some true := fun x hx => by
    simp at hx
    rcases hx with rfl | rfl
    · exact rq_valid hk h
    · exact rq_valid hk h'
  rw [qcheck_ok (by omega) (fun x hx => .inl (hv x hx)) (by simp), badQ_ok _ _ hv]
noncomputable def ratres (x : Int) (y : Nat) : Rt × Int × Int := if (rnum x y).natAbs < ilim ∧ rden x y < ilim then (rq (rnum x y) (rden x y), 0, 0) else (((false, []), false, []), 14, -1)
theorem ratres_ok {x : Int} {y : Nat} (h1 : (rnum x y).natAbs < ilim) (h2 : rden x y < ilim) : ratres x y = (rq (rnum x y) (rden x y), 0, 0) := by unfold ratres; rw [if_pos ⟨h1, h2⟩]
theorem rnum_V {x : Int} {y : Nat} (hy : 0 < y) (h1 : (rnum x y).natAbs < ilim) (h2 : rden x y < ilim) : RatV (rnum x y) (rden x y) := by
  obtain ⟨g, _, _, _, _, h3, h4⟩ := low_facts (x := x) hy
  exact ⟨h1, h2, h4, h3⟩
theorem reduced_ok {k : Nat} (hk : 20000000000 < k) {b : Bool} {x : Int} {y : Nat} (hx : x.natAbs < lim) (hy : y < lim) (hy0 : 0 < y) (hb : x ≠ 0 → b = decide (x < 0)) : rational_reduced k b (dg 4294967296 x.natAbs) (dg 4294967296 y) = some (ratres x y) := by
  unfold rational_reduced
  rw [Gcd_ok hx hy hk]
  simp only [Option.bind_some]
  have g0 : 0 < Nat.gcd x.natAbs y := Nat.gcd_pos_of_pos_right _ hy0
  have gl : Nat.gcd x.natAbs y < lim := Nat.lt_of_le_of_lt (Nat.gcd_le_right _ hy0) hy
  rw [DivMod_ok hx gl hk, DivMod_ok hy gl hk, if_neg (by omega), if_neg (by omega)]
  simp only [Option.bind_some]
  have a1 := rnum_abs (x := x) hy0
  obtain ⟨s1, s2⟩ := rnum_sign (x := x) hy0
  rw [← a1]
  have a2 : y / Nat.gcd x.natAbs y = rden x y := rfl
  rw [a2]
  have hrat : rational_at 14 (-1) = some (14, -1) := rfl
  unfold ratres
  by_cases c1 : (rnum x y).natAbs < ilim
  · have l1 := ilim_iff.2 c1
    rw [dlt_f (by omega)]
    simp only [cond_false]
    by_cases c2 : rden x y < ilim
    · have l2 := ilim_iff.2 c2
      rw [dlt_f (by omega), if_pos ⟨c1, c2⟩]
      simp only [cond_false, joinB_inl]
      unfold rq
      rw [iz_nat]
      unfold iz
      by_cases h0 : x = 0
      · have e0 := s2.2 h0
        rw [e0]
        cases b <;> rfl
      · have hn : rnum x y ≠ 0 := fun e => h0 (s2.1 e)
        have hl := (dg_len_pos (n := (rnum x y).natAbs) hB32).2 (by omega)
        rw [hb h0, dlt_t (by omega : (0 : Int) < _)]
        by_cases hneg : x < 0
        · rw [decide_eq_true hneg, decide_eq_true (s1.2 hneg)]; rfl
        · rw [decide_eq_false hneg, decide_eq_false (fun e => hneg (s1.1 e))]; rfl
    · have l2 : ¬ (dg 4294967296 (rden x y)).length ≤ 128 := fun h => c2 (ilim_iff.1 h)
      rw [dlt_t (by omega), if_neg (fun h => c2 h.2)]
      simp only [cond_true, hrat, Option.bind_some]; rfl
  · have l1 : ¬ (dg 4294967296 (rnum x y).natAbs).length ≤ 128 := fun h => c1 (ilim_iff.1 h)
    rw [dlt_t (by omega), if_neg (fun h => c1 h.1)]
    simp only [cond_true, hrat, Option.bind_some]; rfl
theorem ilim_four : 4 * (ilim * ilim) ≤ lim := by
  have h : 4 * (ilim * ilim) ≤ ilim * ilim * 4294967296 := by omega
  refine Nat.le_trans h ?_
  rw [lim_def]
  unfold ilim
  rw [← Nat.pow_add, ← Nat.pow_succ]
  exact Nat.pow_le_pow_right (by decide) (by have := e128_eq; have := e600_eq; omega)
theorem mul_lt_sq {a b c : Nat} (ha : a < c) (hb : b < c) : a * b < c * c := by
  have h1 : a * b ≤ a * c := Nat.mul_le_mul_left _ (by omega)
  have h2 : a * c < c * c := Nat.mul_lt_mul_of_pos_right ha (by omega)
  omega
theorem prod_lim {a b : Nat} (ha : a < ilim) (hb : b < ilim) : a * b < ilim * ilim ∧ a * b < lim := by
  have := mul_lt_sq ha hb
  have := ilim_four
  omega
theorem iz_abs (v : Int) : (iz v).2 = dg 4294967296 v.natAbs := rfl
theorem nmul_ok {k : Nat} (hk : 300000000 < k) {x y : Nat} (hx : x < ilim) (hy : y < ilim) : natural_Mul k (dg 4294967296 x) (dg 4294967296 y) = some (dg 4294967296 (x * y), 0, 0) := by
  rw [Mul_ok (ilim_lim hx) (ilim_lim hy) hk, if_pos (prod_lim hx hy).2]
end Go.Pl
