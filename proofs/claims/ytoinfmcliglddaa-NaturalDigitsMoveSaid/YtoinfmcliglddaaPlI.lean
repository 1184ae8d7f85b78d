/- NaturalDigitsMove: its plain function answers true.  Conditions: limbs within their kind, lists no longer than memory. -/
import Derived.Test.YtoinfmcliglddaaPlH
set_option linter.unusedVariables false
set_option linter.unusedSimpArgs false
namespace Go.Pl
open Go Go.Ev Go.Sh

theorem hv_app {b : Nat} (l m : List Int) (v : Nat) : hv b (l ++ m) v = hv b m (hv b l v) := by
  induction l generalizing v with
  | nil => rfl
  | cons d l ih => simp only [List.cons_append, hv, ih]

theorem hv_rev {b : Nat} (hb : 2 ≤ b) : ∀ (x v : Nat), hv b (dg b x).reverse v = v * b ^ (dg b x).length + x := by
  intro x
  induction x using Nat.strongRecOn with
  | _ x ih =>
    intro v
    rcases Nat.eq_zero_or_pos x with h | h
    · subst h; simp [dg_zero, hv]
    · rw [dg_pos hb h, List.reverse_cons, hv_app, ih _ (Nat.div_lt_self h hb)]
      simp only [hv, natCast_toNat, List.length_cons, Nat.pow_succ]
      have := Nat.mod_add_div x b
      generalize x / b = q at *
      generalize x % b = r at *
      subst this
      generalize b ^ (dg b q).length = p
      grind

theorem badAt_none {b : Int} : ∀ (l : List Int) (i : Nat), (∀ d ∈ l, 0 ≤ d ∧ d < b) → badAt b l i = (0, 0) := by
  intro l
  induction l with
  | nil => intro i _; rfl
  | cons d l ih =>
    intro i h
    have := h d (by simp)
    simp only [badAt]
    rw [if_neg (by omega)]
    exact ih (i + 1) fun e he => h e (by simp [he])

theorem pow_len_le {b y : Nat} (hb : 2 ≤ b) : b ^ (dg b y).length ≤ b * y + 1 := by
  rcases Nat.eq_zero_or_pos y with h | h
  · subst h; simp [dg_zero]
  · have h1 := (dg_len_pos hb).2 h
    have : ¬ (dg b y).length ≤ (dg b y).length - 1 := by omega
    have h2 : ¬ y < b ^ ((dg b y).length - 1) := fun h' => this ((dg_len_iff hb).2 h')
    obtain ⟨m, hm⟩ : ∃ m, (dg b y).length = m + 1 := ⟨(dg b y).length - 1, by omega⟩
    rw [hm] at h2 ⊢
    rw [Nat.pow_succ, Nat.mul_comm]
    have := Nat.mul_le_mul_left b (Nat.le_of_not_lt h2)
    simp only [Nat.add_sub_cancel] at this
    omega

theorem dmove_l0 (k : Nat) (hk : 300000000 < k) {b : Nat} (hb : 2 ≤ b) (hb' : b ≤ 36) (c z ys : List Int) (hl : (ys.length : Int) ≤ 1000000000) : ∀ (m i x : Nat), ys.length - i < m → i ≤ ys.length → x * b ^ (ys.length - i) < lim →
    brindlewoodlaw3_NaturalDigitsMove.l0 k m c b ys z (0, 0) (dg 4294967296 x) i = some (.inl (c, z, (0, 0), dg 4294967296 (x * b ^ (ys.length - i)))) := by
  intro m
  induction m with
  | zero => intro i x h; omega
  | succ m ih =>
    intro i x h1 h2 hx
    simp only [brindlewoodlaw3_NaturalDigitsMove.l0, brindlewoodlaw3_NaturalDigitsMove.b0]
    by_cases hi : i < ys.length
    · have e1 : w64 ((i : Int) + 1) = ((i + 1 : Nat) : Int) := by rw [w64_id (by omega) (by omega)]; omega
      have e2 : wu32 (b : Int) = b := wu32_id (by omega) (by omega)
      have e3 : [(b : Int)] = dg 4294967296 b := (one_small hB32 (by omega) (by omega)).symm
      have hsplit : x * b ^ (ys.length - i) = x * b * b ^ (ys.length - (i + 1)) := by
        rw [show ys.length - i = (ys.length - (i + 1)) + 1 by omega, Nat.pow_succ, Nat.mul_assoc, Nat.mul_comm (b ^ _) b]
      have hp : 0 < b ^ (ys.length - (i + 1)) := Nat.pow_pos (by omega)
      rw [hsplit] at hx ⊢
      have h3 : x * b ≤ x * b * b ^ (ys.length - (i + 1)) := Nat.le_mul_of_pos_right _ hp
      have h4 : x * 1 ≤ x * b := Nat.mul_le_mul_left x (by omega)
      have hblim : b < lim := lim_iff.1 (by rw [one_small hB32 (by omega) (by omega)]; simp)
      rw [dlt_t (by omega), beq_t rfl, e2, e3, Mul_ok (by omega) hblim hk, if_pos (by omega), e1]
      simp only [cond_true, Option.bind_some]
      exact ih (i + 1) (x * b) (by omega) (by omega) hx
    · have e1 : i = ys.length := by omega
      subst e1
      rw [dlt_f (by omega)]
      simp

theorem lim_big {p : Nat} (hp : p = 4294967296 ^ 60) {v : Nat} (h : v < p * p * 4294967296) : v < lim := by
  have h1 : p * p * 4294967296 = 4294967296 ^ (60 + 60 + 1) := by rw [hp, ← Nat.pow_add, ← Nat.pow_succ]
  rw [h1] at h
  rw [lim_def]
  exact Nat.lt_of_lt_of_le h (Nat.pow_le_pow_right (by omega) (by have := e600_eq; omega))

theorem dmove_bound {b x y : Nat} (hb : 2 ≤ b) (hb' : b ≤ 36) (hx : (dg 4294967296 x).length ≤ 60) (hy : (dg 4294967296 y).length ≤ 60) : x * b ^ (dg b y).length + y < lim := by
  obtain ⟨p, hp⟩ : ∃ p, p = 4294967296 ^ 60 := ⟨_, rfl⟩
  have h1 := (dg_len_iff hB32).1 hx
  have h2 := (dg_len_iff hB32).1 hy
  rw [← hp] at h1 h2
  apply lim_big hp
  have h3 := pow_len_le (y := y) hb
  have h4 : b * y ≤ 36 * y := Nat.mul_le_mul_right y hb'
  have h5 : x * b ^ (dg b y).length ≤ p * (36 * p) := Nat.mul_le_mul (by omega) (by omega)
  have h6 : p ≤ p * p := Nat.le_mul_of_pos_left p (by omega)
  have h7 : p * (36 * p) = 36 * (p * p) := by rw [Nat.mul_left_comm]
  omega

theorem dg_bounds {b : Nat} (hb : 2 ≤ b) (x : Nat) : ∀ d ∈ (dg b x).reverse, 0 ≤ d ∧ d < (b : Int) := fun d hd => dg_dig hb x d (List.mem_reverse.1 hd)

theorem naturalDigitsMove_ok {k : Nat} (hk : k = 1000000000000000000) {x y b : Nat} (hb : 2 ≤ b) (hb' : b ≤ 36) (hx : x < lim) (hy : y < lim) (hsums : brindlewoodlaw3_sums k = some true) : brindlewoodlaw3_NaturalDigitsMove k (dg 4294967296 x) (dg 4294967296 y) b = some true := by
  unfold brindlewoodlaw3_NaturalDigitsMove
  have hD1 := Digits_ok (b := b) hx hb hb'
  have hD2 := Digits_ok (b := b) hy hb hb'
  have hF := fun l h1 h2 => From_ok (l := l) hb hb' h1 h2
  rw [← hk] at hD1 hD2 hF
  have hk' : 100000000000000 < k := by omega
  clear hk
  rw [hD1, hD2, hsums]
  simp only [Option.bind_some, Bool.not_true, cond_false]
  have l1 := len600 hx
  have l2 := len600 hy
  have m1 := lim_dg hb hx
  have m2 := lim_dg hb hy
  have e6 := e600_eq
  by_cases h1 : (60 : Int) < (dg 4294967296 x).length
  · rw [dlt_t h1]; rfl
  · rw [dlt_f (Int.not_lt.1 h1)]
    simp only [cond_false]
    by_cases h2 : (60 : Int) < (dg 4294967296 y).length
    · rw [dlt_t h2]; rfl
    · rw [dlt_f (Int.not_lt.1 h2)]
      simp only [cond_false, joinB_inl, bne_self_eq_false]
      have hV := dmove_bound (b := b) (x := x) (y := y) hb hb' (by omega) (by omega)
      have hval : hv b ((dg b x).reverse ++ (dg b y).reverse) 0 = x * b ^ (dg b y).length + y := by
        rw [hv_app, hv_rev hb, hv_rev hb]; simp
      have hdig : ∀ d ∈ (dg b x).reverse ++ (dg b y).reverse, 0 ≤ d ∧ d < (b : Int) := fun d hd => (List.mem_append.1 hd).elim (dg_bounds hb x d) (dg_bounds hb y d)
      have hF' := hF ((dg b x).reverse ++ (dg b y).reverse) (by simp; omega) (fun d hd => by have := hdig d hd; omega)
      rw [if_pos (badAt_none _ 0 hdig), hval, if_pos hV] at hF'
      rw [fits_t (by simp; omega), fits_t (by simp; omega), hF']
      simp only [cond_true, Option.bind_some]
      rw [fits_t (by omega)]
      have hL := dmove_l0 k (by omega) hb hb' (dg 4294967296 y) (dg 4294967296 (x * b ^ (dg b y).length + y)) (dg b y).reverse (by simp; omega) k 0 x (by simp; omega) (by omega) (by simp; omega)
      have hL' : brindlewoodlaw3_NaturalDigitsMove.l0 k k (dg 4294967296 y) b (dg b y).reverse (dg 4294967296 (x * b ^ (dg b y).length + y)) (0, 0) (dg 4294967296 x) 0 = _ := hL
      rw [hL']
      simp only [cond_true, joinB_inl, List.length_reverse, Nat.sub_zero]
      rw [Add_ok (by omega) hy (by omega), if_pos hV]
      simp only [Option.bind_some, beq_self_eq_true, cond_true]
      have l3 := len600 hV
      rw [SameLimbs_ok (by omega) (by omega) (by omega)]
      simp

theorem naturalDigitsMove_plain {a c : List Int} {b : Int} (ha : Wf (.list (.int .u32)) a) (hc : Wf (.list (.int .u32)) c) : brindlewoodlaw3_NaturalDigitsMove 1000000000000000000 a c b = some true := by
  obtain ⟨da, la⟩ := u32_dig ha
  obtain ⟨dc, lc⟩ := u32_dig hc
  have hsums := sums_ok
  obtain ⟨k, hk⟩ : ∃ k : Nat, k = 1000000000000000000 := ⟨_, rfl⟩
  have hD1 : natural_Valid a = some false → natural_Digits k a b = some ([], 6, -1) := fun h => by rw [hk]; exact Digits_no1 h
  have hD2 : natural_Valid c = some false → natural_Digits k c b = some ([], 6, -1) := fun h => by rw [hk]; exact Digits_no1 h
  have hB1 : natural_Valid a = some true → (b < 2 ∨ 36 < b) → natural_Digits k a b = some ([], 4, -2) := fun h h' => by rw [hk]; exact Digits_no2 h h'
  have hB2 : natural_Valid c = some true → (b < 2 ∨ 36 < b) → natural_Digits k c b = some ([], 4, -2) := fun h h' => by rw [hk]; exact Digits_no2 h h'
  have hok := fun x y c hb hb' hx hy => naturalDigitsMove_ok hk (x := x) (y := y) (b := c) hb hb' hx hy (by rw [hk]; exact hsums)
  have hDk := fun x (hx : x < lim) c hb hb' => Digits_ok (x := x) (b := c) hx hb hb'
  rw [← hk] at hsums hDk ⊢
  clear hk
  -- one of both has no digits
  have err : ∀ (r s : List Int × Int × Int), natural_Digits k a b = some r → natural_Digits k c b = some s → (r.2.1 ≠ 0 → r.1 = []) → (s.2.1 ≠ 0 → s.1 = []) → (r.2.1 ≠ 0 ∨ s.2.1 ≠ 0) → brindlewoodlaw3_NaturalDigitsMove k a c b = some true := by
    intro r s hr hs h1 h2 hor
    unfold brindlewoodlaw3_NaturalDigitsMove
    rw [hr, hs, hsums]
    simp only [Option.bind_some, Bool.not_true, cond_false]
    cases decide ((60 : Int) < a.length) with
    | true => rfl
    | false =>
      simp only [cond_false]
      cases decide ((60 : Int) < c.length) with
      | true => rfl
      | false =>
        simp only [cond_false, joinB_inl]
        by_cases hr0 : r.2.1 = 0
        · have hs0 : s.2.1 ≠ 0 := hor.resolve_left (by simp [hr0])
          rw [bne_f hr0, bne_t hs0]
          simp only [cond_false, joinB_inl, cond_true, bne_t hs0, bne_f hr0, h2 hs0, List.length_nil]
          cases (r.1.length : Int) == 0 <;> rfl
        · rw [bne_t hr0]
          simp only [cond_true, joinB_inl, bne_t hr0, h1 hr0, List.length_nil]
          rfl
  by_cases hb : b < 2 ∨ 36 < b
  · rcases natural_cases da la with ⟨x, hx, rfl⟩ | h1
    · rcases natural_cases dc lc with ⟨y, hy, rfl⟩ | h2
      · exact err _ _ (hB1 (valid_dg' hx) hb) (hB2 (valid_dg' hy) hb) (fun _ => rfl) (fun _ => rfl) (.inl (by simp))
      · exact err _ _ (hB1 (valid_dg' hx) hb) (hD2 h2) (fun _ => rfl) (fun _ => rfl) (.inl (by simp))
    · rcases natural_cases dc lc with ⟨y, hy, rfl⟩ | h2
      · exact err _ _ (hD1 h1) (hB2 (valid_dg' hy) hb) (fun _ => rfl) (fun _ => rfl) (.inl (by simp))
      · exact err _ _ (hD1 h1) (hD2 h2) (fun _ => rfl) (fun _ => rfl) (.inl (by simp))
  · obtain ⟨e, rfl⟩ := Int.eq_ofNat_of_zero_le (a := b) (by omega)
    rcases natural_cases da la with ⟨x, hx, rfl⟩ | h1
    · rcases natural_cases dc lc with ⟨y, hy, rfl⟩ | h2
      · exact hok x y e (by omega) (by omega) hx hy
      · exact err _ _ (hDk x hx e (by omega) (by omega)) (hD2 h2) (fun h => absurd rfl h) (fun _ => rfl) (.inr (by simp))
    · rcases natural_cases dc lc with ⟨y, hy, rfl⟩ | h2
      · exact err _ _ (hD1 h1) (hDk y hy e (by omega) (by omega)) (fun _ => rfl) (fun h => absurd rfl h) (.inl (by simp))
      · exact err _ _ (hD1 h1) (hD2 h2) (fun _ => rfl) (fun _ => rfl) (.inl (by simp))
end Go.Pl
