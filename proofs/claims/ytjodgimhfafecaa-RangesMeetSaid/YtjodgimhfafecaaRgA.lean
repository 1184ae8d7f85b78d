/- Ranges: lengths, elements, plain and turned ranges.  Conditions: those that each theorem names. -/
import Derived.Test.YtjodgimhfafecaaPiG
import Derived.Test.YtjodgimhfafecaaPiK
set_option linter.unusedVariables false
set_option linter.unusedSimpArgs false
namespace Go.Pl
open Go Go.Ev Go.Sh
theorem rl_ex : ∃ e : Nat, e = 4294967296 ^ 40 := ⟨_, rfl⟩
noncomputable def rlim : Nat := Classical.choose rl_ex
theorem rlim_eq : rlim = 4294967296 ^ 40 := Classical.choose_spec rl_ex
theorem rlim_iff {n : Nat} : (dg 4294967296 n).length ≤ 40 ↔ n < rlim := by rw [rlim_eq]; exact dg_len_iff hB32
theorem rlim_big : 4294967296 ≤ rlim ∧ rlim * rlim * rlim ≤ ilim := by
  have e := e128_eq
  constructor
  · rw [rlim_eq]
    have : (4294967296 : Nat) ^ 1 ≤ 4294967296 ^ 40 := Nat.pow_le_pow_right (by decide) (by decide)
    omega
  · have h : rlim * rlim * rlim = 4294967296 ^ (40 + 40 + 40) := by rw [rlim_eq, Nat.pow_add, Nat.pow_add]
    rw [h]
    exact Nat.pow_le_pow_right (by decide) (by omega)
theorem rlim_mul : 64 * rlim * rlim ≤ ilim ∧ 100 * rlim ≤ ilim := by
  obtain ⟨h1, h2⟩ := rlim_big
  constructor
  · refine Nat.le_trans ?_ h2
    rw [Nat.mul_comm (rlim * rlim), Nat.mul_assoc]
    exact Nat.mul_le_mul_right _ (by omega)
  · refine Nat.le_trans ?_ h2
    exact Nat.mul_le_mul_right _ (by
      have := Nat.mul_le_mul h1 h1
      omega)
theorem abs_mul_le {x y : Int} {a b : Nat} (hx : x.natAbs ≤ a) (hy : y.natAbs ≤ b) : (x * y).natAbs ≤ a * b := by
  rw [Int.natAbs_mul]; exact Nat.mul_le_mul hx hy
theorem abs_mul_ilim {x y : Int} (hx : x.natAbs ≤ 8 * rlim) (hy : y.natAbs ≤ 7 * rlim) : (x * y).natAbs < ilim := by
  have h := abs_mul_le hx hy
  have h2 := rlim_mul.1
  have h3 : 8 * rlim * (7 * rlim) = 56 * (rlim * rlim) := by
    rw [Nat.mul_mul_mul_comm]
  have h4 : 64 * rlim * rlim = 64 * (rlim * rlim) := Nat.mul_assoc ..
  have h5 := rlim_big.1
  have h6 : 0 < rlim * rlim := Nat.mul_pos (by omega) (by omega)
  generalize rlim * rlim = z at *
  omega
theorem small_ilim {x : Int} (hx : x.natAbs ≤ 90 * rlim) : x.natAbs < ilim := by
  have h2 := rlim_mul.2
  have h5 := rlim_big.1
  omega
theorem radd_ok {k : Nat} (hk : 20000000000 < k) {x y : Int} (hx : x.natAbs < ilim) (hy : y.natAbs < ilim) (h : (x + y).natAbs < ilim) : ranges_add k (iz x) (iz y) = some (iz (x + y)) := by
  unfold ranges_add
  rw [iAdd_ok (by omega) hx hy, ires_ok h]; rfl
theorem rsub_ok {k : Nat} (hk : 20000000000 < k) {x y : Int} (hx : x.natAbs < ilim) (hy : y.natAbs < ilim) (h : (x - y).natAbs < ilim) : ranges_sub k (iz x) (iz y) = some (iz (x - y)) := by
  unfold ranges_sub
  rw [iSub_ok (by omega) hx hy, ires_ok h]; rfl
theorem rmul_ok {k : Nat} (hk : 20000000000 < k) {x y : Int} (hx : x.natAbs < ilim) (hy : y.natAbs < ilim) (h : (x * y).natAbs < ilim) : ranges_mul k (iz x) (iz y) = some (iz (x * y)) := by
  unfold ranges_mul
  rw [iMul_ok (by omega) hx hy, ires_ok h]; rfl
theorem rdiv_ok {k : Nat} (hk : 20000000000 < k) {x y : Int} (hx : x.natAbs < ilim) (hy : y.natAbs < ilim) (h : y ≠ 0) : ranges_divMod k (iz x) (iz y) = some (iz (iq x y), iz (ir x y)) := by
  unfold ranges_divMod
  rw [iDivMod_ok hk hx hy, if_neg h]; rfl
theorem rless_ok {k : Nat} (hk : 20000000000 < k) {x y : Int} (hx : x.natAbs < ilim) (hy : y.natAbs < ilim) : ranges_less k (iz x) (iz y) = some (decide (x < y)) := by
  unfold ranges_less
  rw [iCmp_ok hk hx hy]
  simp only [Option.bind_some]
  congr 1
  apply decide_eq_decide.2
  unfold sgn
  split
  · constructor <;> intro <;> omega
  · split
    · constructor <;> intro <;> omega
    · constructor <;> intro <;> omega
theorem rzero_ok (x : Int) : ranges_zero (iz x) = some (decide (x = 0)) := by
  unfold ranges_zero iz
  by_cases h : x = 0
  · subst h; rfl
  · have hp := (dg_len_pos (n := x.natAbs) hB32).2 (by omega)
    have h2 : (((dg 4294967296 x.natAbs).length : Int) == 0) = false := beq_f (by omega)
    rw [decide_eq_false h]
    simp only [h2]
def sg (d : Int) : Int := if d < 0 then -1 else 1
theorem rsign_ok {k : Nat} (hk : 20000000000 < k) (s t d : Int) : ranges_sign k (iz s, iz t, iz d) = some (iz (sg d)) := by
  unfold ranges_sign sg
  by_cases h : d < 0
  · have : (iz d).1 = true := decide_eq_true h
    rw [if_pos h]
    simp only [this, cond_true]
    rw [iOf_ok (by omega) (by decide) (by decide)]; rfl
  · have : (iz d).1 = false := decide_eq_false h
    rw [if_neg h]
    simp only [this, cond_false]
    rw [iOf_ok (by omega) (by decide) (by decide)]; rfl
theorem iq_ediv {x m : Int} (hm : 0 < m) : iq x m = x / m := by
  have h1 := floor_eq (x := x) (y := m) (by omega)
  rw [ir_emod hm] at h1
  have h2 := Int.mul_ediv_add_emod x m
  have h3 : m * iq x m = m * (x / m) := by omega
  exact Int.eq_of_mul_eq_mul_left (by omega) h3
def cnt (s t d : Int) : Int := if d < 0 then (if t < s then (s - t + (-d - 1)) / (-d) else 0) else (if s < t then (t - s + (d - 1)) / d else 0)
theorem ceil_spec {x d : Int} (hx : 0 < x) (hd : 0 < d) : d * ((x + (d - 1)) / d - 1) < x ∧ x ≤ d * ((x + (d - 1)) / d) ∧ 1 ≤ (x + (d - 1)) / d ∧ (x + (d - 1)) / d ≤ x := by
  have h1 := Int.mul_ediv_add_emod (x + (d - 1)) d
  have h2 := Int.emod_nonneg (x + (d - 1)) (show d ≠ 0 by omega)
  have h3 := Int.emod_lt_of_pos (x + (d - 1)) hd
  generalize (x + (d - 1)) % d = r at *
  generalize (x + (d - 1)) / d = c at *
  have h4 : d * (c - 1) = d * c - d := by rw [Int.mul_sub, Int.mul_one]
  refine ⟨by omega, by omega, ?_, ?_⟩
  · by_cases h : 1 ≤ c
    · exact h
    · have : d * c ≤ d * 0 := Int.mul_le_mul_of_nonneg_left (by omega) (by omega)
      omega
  · by_cases h : c ≤ x
    · exact h
    · have h5 : d * (x + 1) ≤ d * c := Int.mul_le_mul_of_nonneg_left (by omega) (by omega)
      have h6 : 1 * x ≤ d * x := Int.mul_le_mul_of_nonneg_right (by omega) (by omega)
      have h7 : d * (x + 1) = d * x + d := by rw [Int.mul_add, Int.mul_one]
      omega
theorem ceil_uniq {x d c : Int} (hd : 0 < d) (h1 : d * (c - 1) < x) (h2 : x ≤ d * c) : (x + (d - 1)) / d = c := by
  have h4 : d * (c - 1) = d * c - d := by rw [Int.mul_sub, Int.mul_one]
  have h3 : x + (d - 1) = (x + (d - 1) - d * c) + d * c := by omega
  rw [h3, Int.add_mul_ediv_left _ _ (by omega), Int.ediv_eq_zero_of_lt (by omega) (by omega)]
  omega
theorem cnt_pos {s t d : Int} (hd : 0 < d) (h : s < t) : d * (cnt s t d - 1) < t - s ∧ t - s ≤ d * cnt s t d ∧ 1 ≤ cnt s t d ∧ cnt s t d ≤ t - s := by
  unfold cnt
  rw [if_neg (by omega), if_pos h]
  exact ceil_spec (by omega) hd
theorem cnt_neg {s t d : Int} (hd : d < 0) (h : t < s) : d * (cnt s t d - 1) > t - s ∧ t - s ≥ d * cnt s t d ∧ 1 ≤ cnt s t d ∧ cnt s t d ≤ s - t := by
  unfold cnt
  rw [if_pos hd, if_pos h]
  obtain ⟨h1, h2, h3, h4⟩ := ceil_spec (x := s - t) (d := -d) (by omega) (by omega)
  rw [Int.neg_mul] at h1 h2
  exact ⟨by omega, by omega, h3, h4⟩
theorem cnt_none {s t d : Int} (h : if d < 0 then s ≤ t else t ≤ s) : cnt s t d = 0 := by
  unfold cnt
  split at h
  · rename_i hd; rw [if_pos hd, if_neg (by omega)]
  · rename_i hd; rw [if_neg hd, if_neg (by omega)]
theorem cnt_zero {s t d : Int} (hd : d ≠ 0) : cnt s t d = 0 ↔ (if d < 0 then s ≤ t else t ≤ s) := by
  constructor
  · intro h
    split
    · rename_i h1
      by_cases h2 : t < s
      · have := cnt_neg h1 h2; omega
      · omega
    · rename_i h1
      by_cases h2 : s < t
      · have := cnt_pos (d := d) (by omega) h2; omega
      · omega
  · exact cnt_none
theorem cnt_rng (s t d : Int) (hd : d ≠ 0) : 0 ≤ cnt s t d ∧ cnt s t d ≤ ((t - s).natAbs : Int) := by
  by_cases h1 : d < 0
  · by_cases h2 : t < s
    · have := cnt_neg h1 h2; omega
    · rw [cnt_none (by rw [if_pos h1]; omega)]; omega
  · by_cases h2 : s < t
    · have := cnt_pos (d := d) (by omega) h2; omega
    · rw [cnt_none (by rw [if_neg h1]; omega)]; omega
theorem elem_rng {s t d i : Int} (h0 : 0 ≤ i) (h1 : i < cnt s t d) : (0 < d → s ≤ s + d * i ∧ s + d * i < t) ∧ (d < 0 → t < s + d * i ∧ s + d * i ≤ s) := by
  constructor
  · intro hd
    have h2 : s < t := by
      by_cases h : s < t
      · exact h
      · rw [cnt_none (by rw [if_neg (by omega)]; omega)] at h1; omega
    obtain ⟨a, b, c, e⟩ := cnt_pos hd h2
    have h3 : d * 0 ≤ d * i := Int.mul_le_mul_of_nonneg_left h0 (by omega)
    have h4 : d * i ≤ d * (cnt s t d - 1) := Int.mul_le_mul_of_nonneg_left (by omega) (by omega)
    omega
  · intro hd
    have h2 : t < s := by
      by_cases h : t < s
      · exact h
      · rw [cnt_none (by rw [if_pos hd]; omega)] at h1; omega
    obtain ⟨a, b, c, e⟩ := cnt_neg hd h2
    have h3 : -d * 0 ≤ -d * i := Int.mul_le_mul_of_nonneg_left h0 (by omega)
    have h4 : -d * i ≤ -d * (cnt s t d - 1) := Int.mul_le_mul_of_nonneg_left (by omega) (by omega)
    rw [Int.neg_mul, Int.neg_mul] at h3 h4
    omega
theorem elem_abs {s t d i : Int} {p : Nat} (hd : d ≠ 0) (h0 : 0 ≤ i) (h1 : i < cnt s t d) (hs : s.natAbs ≤ p) (ht : t.natAbs ≤ p) : (s + d * i).natAbs ≤ p ∧ (d * i).natAbs ≤ 2 * p := by
  obtain ⟨h2, h3⟩ := elem_rng h0 h1
  by_cases h : 0 < d
  · have := h2 h; omega
  · have := h3 (by omega); omega
theorem rlength_ok {k : Nat} (hk : 20000000000 < k) {s t d : Int} (hs : s.natAbs ≤ 2 * rlim) (ht : t.natAbs ≤ 2 * rlim) (hd : d.natAbs ≤ 2 * rlim) (hd0 : d ≠ 0) : ranges_length k (iz s, iz t, iz d) = some (iz (cnt s t d)) := by
  have hp := rlim_big.1
  unfold ranges_length
  rw [rsign_ok hk]
  simp only [Option.bind_some]
  have hO1 : integer_Of k 1 = some (iz 1) := iOf_ok (by omega) (by decide) (by decide)
  have hsg : (sg d).natAbs ≤ 7 * rlim := by unfold sg; split <;> omega
  have hm := rmul_ok hk (x := d) (y := sg d) (small_ilim (by omega)) (small_ilim (by omega)) (abs_mul_ilim (by omega) hsg)
  rw [hm]
  simp only [Option.bind_some]
  -- both directions alike
  have key : ∀ a b D : Int, a.natAbs ≤ 2 * rlim → b.natAbs ≤ 2 * rlim → D.natAbs ≤ 2 * rlim → 0 < D → ((ranges_less k (iz a) (iz b)).bind fun t4 => bif (!t4) then (some (false, [])) else ((ranges_sub k (iz b) (iz a)).bind fun t5 => (integer_Of k 1).bind fun t6 => (ranges_sub k (iz D) t6).bind fun t7 => (ranges_add k t5 t7).bind fun t8 => (ranges_divMod k t8 (iz D)).bind fun t9 => some t9.1)) = some (iz (if a < b then (b - a + (D - 1)) / D else 0)) := by
    intro a b D ha hb hD hD0
    rw [rless_ok hk (small_ilim (by omega)) (small_ilim (by omega))]
    simp only [Option.bind_some]
    by_cases h : a < b
    · rw [decide_eq_true h, if_pos h]
      simp only [Bool.not_true, cond_false, hO1, Option.bind_some]
      rw [rsub_ok hk (small_ilim (by omega)) (small_ilim (by omega)) (small_ilim (by omega)), rsub_ok hk (small_ilim (by omega)) (small_ilim (by omega)) (small_ilim (by omega))]
      simp only [Option.bind_some]
      rw [radd_ok hk (small_ilim (by omega)) (small_ilim (by omega)) (small_ilim (by omega))]
      simp only [Option.bind_some]
      rw [rdiv_ok hk (small_ilim (by omega)) (small_ilim (by omega)) (by omega), iq_ediv hD0]
      rfl
    · rw [decide_eq_false h, if_neg h]; rfl
  by_cases h : d < 0
  · have e1 : (iz d).1 = true := decide_eq_true h
    have e2 : d * sg d = -d := by unfold sg; rw [if_pos h]; omega
    simp only [e1, cond_true, joinB_inl, e2]
    rw [key t s (-d) ht hs (by omega) (by omega)]
    unfold cnt
    rw [if_pos h]
  · have e1 : (iz d).1 = false := decide_eq_false h
    have e2 : d * sg d = d := by unfold sg; rw [if_neg h]; omega
    simp only [e1, cond_false, joinB_inl, e2]
    rw [key s t d hs ht hd (by omega)]
    unfold cnt
    rw [if_neg h]
theorem relement_ok {k : Nat} (hk : 20000000000 < k) {s t d i : Int} (hs : s.natAbs ≤ 2 * rlim) (ht : t.natAbs ≤ 2 * rlim) (hd : d.natAbs ≤ 2 * rlim) (hd0 : d ≠ 0) (h0 : 0 ≤ i) (h1 : i < cnt s t d) : ranges_element k (iz s, iz t, iz d) (iz i) = some (iz (s + d * i)) := by
  have hc := cnt_rng s t d hd0
  obtain ⟨e1, e2⟩ := elem_abs hd0 h0 h1 hs ht
  unfold ranges_element
  simp only
  rw [rmul_ok hk (small_ilim (by omega)) (small_ilim (by omega)) (small_ilim (by omega))]
  simp only [Option.bind_some]
  rw [radd_ok hk (small_ilim (by omega)) (small_ilim (by omega)) (small_ilim (by omega))]
  rfl
def rlast (s t d : Int) : Int := s + d * (cnt s t d - 1)
def pstep (s t d : Int) : Int := if 1 < cnt s t d then d else sg d
def plainS (s t d : Int) : Int := if cnt s t d = 0 then 0 else s
def plainT (s t d : Int) : Int := if cnt s t d = 0 then 0 else rlast s t d + sg d
def plainD (s t d : Int) : Int := if cnt s t d = 0 then 1 else pstep s t d
theorem rplain_ok {k : Nat} (hk : 20000000000 < k) {s t d : Int} (hs : s.natAbs ≤ 2 * rlim) (ht : t.natAbs ≤ 2 * rlim) (hd : d.natAbs ≤ 2 * rlim) (hd0 : d ≠ 0) : ranges_plain k (iz s, iz t, iz d) = some (iz (plainS s t d), iz (plainT s t d), iz (plainD s t d)) := by
  have hp := rlim_big.1
  have hc := cnt_rng s t d hd0
  have hO1 : integer_Of k 1 = some (iz 1) := iOf_ok (by omega) (by decide) (by decide)
  unfold ranges_plain plainS plainT plainD
  rw [rlength_ok hk hs ht hd hd0]
  simp only [Option.bind_some]
  rw [rzero_ok]
  simp only [Option.bind_some, hO1]
  by_cases h : cnt s t d = 0
  · rw [decide_eq_true h, if_pos h, if_pos h, if_pos h]; rfl
  · have h0 : 0 ≤ cnt s t d - 1 := by omega
    have h1 : cnt s t d - 1 < cnt s t d := by omega
    obtain ⟨e1, e2⟩ := elem_abs hd0 h0 h1 hs ht
    have hsg : (sg d).natAbs ≤ 1 := by unfold sg; split <;> omega
    rw [decide_eq_false h, if_neg h, if_neg h, if_neg h]
    simp only [cond_false]
    rw [rsub_ok hk (small_ilim (by omega)) (small_ilim (by omega)) (small_ilim (by omega))]
    simp only [Option.bind_some]
    rw [relement_ok hk hs ht hd hd0 h0 h1]
    simp only [Option.bind_some]
    have z1 := radd_ok hk (x := s) (y := 0) (small_ilim (by omega)) (small_ilim (by omega)) (small_ilim (by omega))
    have z2 := radd_ok hk (x := d) (y := 0) (small_ilim (by omega)) (small_ilim (by omega)) (small_ilim (by omega))
    rw [Int.add_zero] at z1 z2
    have z1' : ranges_add k (iz s) (false, []) = _ := z1
    have z2' : ranges_add k (iz d) (false, []) = _ := z2
    rw [z1', rsign_ok hk]
    simp only [Option.bind_some]
    rw [radd_ok hk (small_ilim (by omega)) (small_ilim (by omega)) (small_ilim (by omega)), z2', rless_ok hk (small_ilim (by omega)) (small_ilim (by omega))]
    simp only [Option.bind_some]
    unfold pstep rlast
    by_cases h2 : 1 < cnt s t d
    · rw [decide_eq_true h2, if_pos h2]; rfl
    · rw [decide_eq_false h2, if_neg h2]; rfl
theorem plain_facts {s t d : Int} {p : Nat} (hd0 : d ≠ 0) (hs : s.natAbs ≤ p) (ht : t.natAbs ≤ p) (hd : d.natAbs ≤ p) (hp : 1 ≤ p) (h : cnt s t d ≠ 0) :
    (rlast s t d).natAbs ≤ p ∧ (rlast s t d + sg d).natAbs ≤ p ∧ (pstep s t d).natAbs ≤ p ∧ pstep s t d ≠ 0 ∧ sg (pstep s t d) = sg d ∧ (d < 0 ↔ pstep s t d < 0) ∧ pstep s t d * (cnt s t d - 1) = d * (cnt s t d - 1) := by
  have hc := cnt_rng s t d hd0
  have h0 : 0 ≤ cnt s t d - 1 := by omega
  have h1 : cnt s t d - 1 < cnt s t d := by omega
  obtain ⟨e1, e2⟩ := elem_abs hd0 h0 h1 hs ht
  obtain ⟨f1, f2⟩ := elem_rng h0 h1
  have hsgd : (d < 0 ∧ sg d = -1) ∨ (0 < d ∧ sg d = 1) := by unfold sg; split <;> omega
  have hst : (pstep s t d).natAbs ≤ p ∧ pstep s t d ≠ 0 ∧ sg (pstep s t d) = sg d ∧ (d < 0 ↔ pstep s t d < 0) := by
    unfold pstep
    split
    · exact ⟨hd, hd0, rfl, Iff.rfl⟩
    · rcases hsgd with ⟨a, b⟩ | ⟨a, b⟩
      · rw [b]; exact ⟨by omega, by omega, rfl, by omega⟩
      · rw [b]; exact ⟨by omega, by omega, rfl, by omega⟩
  refine ⟨e1, ?_, hst.1, hst.2.1, hst.2.2.1, hst.2.2.2, ?_⟩
  · unfold rlast
    rcases hsgd with ⟨a, b⟩ | ⟨a, b⟩
    · have := f2 a; rw [b]; omega
    · have := f1 a; rw [b]; omega
  · unfold pstep
    split
    · rfl
    · have : cnt s t d - 1 = 0 := by omega
      rw [this, Int.mul_zero, Int.mul_zero]
theorem cnt_of {s d e n : Int} (hd : d ≠ 0) (hn : 1 ≤ n) (he : e = sg d) : cnt s (s + d * (n - 1) + e) d = n := by
  unfold cnt
  subst he
  unfold sg
  have h4 : d * (n - 1) = d * n - d := by rw [Int.mul_sub, Int.mul_one]
  by_cases h : d < 0
  · rw [if_pos h, if_pos h]
    have h3 : -d * 0 ≤ -d * (n - 1) := Int.mul_le_mul_of_nonneg_left (by omega) (by omega)
    have h5 : -d * (n - 1) = -(d * n - d) := by rw [Int.neg_mul, h4]
    rw [if_pos (by omega)]
    refine ceil_uniq (by omega) ?_ ?_
    · omega
    · rw [Int.neg_mul]; omega
  · rw [if_neg h, if_neg h]
    have h3 : d * 0 ≤ d * (n - 1) := Int.mul_le_mul_of_nonneg_left (by omega) (by omega)
    rw [if_pos (by omega)]
    refine ceil_uniq (by omega) ?_ ?_
    · omega
    · omega
end Go.Pl
