/- Ratios: the nearest one with a small denominator, the loop.  Conditions: those that each theorem names. -/
import Derived.Test.YtpigdmmofiiacaaRaM
set_option linter.unusedVariables false
set_option linter.unusedSimpArgs false
set_option maxHeartbeats 0
namespace Go.Pl
open Go Go.Ev Go.Sh
theorem near1_ok {k : Nat} (hk : 20000000000 < k) {p0 p1 q0 q1 t : Int} (h1 : p0.natAbs < ilim) (h2 : p1.natAbs < ilim) (h3 : q0.natAbs < ilim) (h4 : q1.natAbs < ilim) (h5 : t.natAbs < ilim)
    (h6 : (p1 * t).natAbs < ilim) (h7 : (q1 * t).natAbs < ilim) (h8 : (p0 + p1 * t).natAbs < ilim) (h9 : (q0 + q1 * t).natAbs < ilim) : rational_nearest_1 k (iz p0, iz q0) (iz p1, iz q1) (iz t) = some (iz (p0 + p1 * t), iz (q0 + q1 * t)) := by
  unfold rational_nearest_1
  simp only
  rw [iMul_ok (by omega) h2 h5, ires_ok h6, iMul_ok (by omega) h4 h5, ires_ok h7]
  simp only [Option.bind_some]
  rw [iAdd_ok (by omega) h1 h6, ires_ok h8, iAdd_ok (by omega) h3 h7, ires_ok h9]
  rfl
theorem gcd_det {p P : Int} {q Q : Nat} {σ : Int} (hσ : σ = 1 ∨ σ = -1) (h : p * Q - P * q = σ) : Nat.gcd p.natAbs q = 1 ∧ Nat.gcd P.natAbs Q = 1 := by
  have one : ∀ g : Nat, (g : Int) ∣ σ → g = 1 := by
    intro g hg
    have := Int.ofNat_dvd_left.1 hg
    rcases hσ with h | h <;> rw [h] at this <;> exact Nat.dvd_one.1 this
  constructor
  · refine one _ ?_
    have g1 : (Nat.gcd p.natAbs q : Int) ∣ p := Int.ofNat_dvd_left.2 (Nat.gcd_dvd_left _ _)
    have g2 : (Nat.gcd p.natAbs q : Int) ∣ (q : Int) := Int.ofNat_dvd.2 (Nat.gcd_dvd_right _ _)
    rw [← h]
    exact Int.dvd_sub (Int.dvd_trans g1 (Int.dvd_mul_right _ _)) (Int.dvd_trans g2 (Int.dvd_mul_left _ _))
  · refine one _ ?_
    have g1 : (Nat.gcd P.natAbs Q : Int) ∣ P := Int.ofNat_dvd_left.2 (Nat.gcd_dvd_left _ _)
    have g2 : (Nat.gcd P.natAbs Q : Int) ∣ (Q : Int) := Int.ofNat_dvd.2 (Nat.gcd_dvd_right _ _)
    rw [← h]
    exact Int.dvd_sub (Int.dvd_trans g2 (Int.dvd_mul_left _ _)) (Int.dvd_trans g1 (Int.dvd_mul_right _ _))
theorem make_low {k : Nat} (hk : 20000000000 < k) {p : Int} {q : Nat} (h : RatV p q) : rational_Make k (iz p) (iz (q : Int)) = some (rq p q, 0, 0) := by
  obtain ⟨h1, h2, h3, h4⟩ := h
  rw [rMake_ok hk h1 (by simpa using h2), if_neg (by omega), if_neg (by omega), Int.natAbs_natCast]
  obtain ⟨e1, e2⟩ := low_self h3 h4
  rw [ratres_ok (by rw [e1]; exact h1) (by rw [e2]; exact h2), e1, e2]
theorem part_le {X p : Int} {D H M q e : Nat} {τ : Int} (hτ : τ = 1 ∨ τ = -1) (hX : X.natAbs ≤ H) (hD1 : 1 ≤ D) (hq : q ≤ M) (he : e ≤ D) (h : X * q - p * D = τ * e) : p.natAbs ≤ H * M + 1 := by
  have h1 : p * (D : Int) = X * q - τ * e := by omega
  have h2 : (p * (D : Int)).natAbs = p.natAbs * D := by rw [Int.natAbs_mul, Int.natAbs_natCast]
  have h3 : (X * (q : Int)).natAbs = X.natAbs * q := by rw [Int.natAbs_mul, Int.natAbs_natCast]
  have h4 : (τ * (e : Int)).natAbs = e := by rcases hτ with h | h <;> rw [h] <;> simp
  have h5 : X.natAbs * q ≤ H * M := Nat.mul_le_mul hX hq
  have h6 : p.natAbs * D ≤ H * M + D := by rw [← h2, h1]; omega
  refine Nat.not_lt.1 fun hlt => ?_
  have h7 : (H * M + 2) * D ≤ p.natAbs * D := Nat.mul_le_mul_right _ hlt
  have h8 : H * M * 1 ≤ H * M * D := Nat.mul_le_mul_left _ hD1
  have h9 : (H * M + 2) * D = H * M * D + 2 * D := Nat.add_mul _ _ _
  omega
theorem gcdM_ilim {x y : Nat} (hx : x < ilim) (hy : y < ilim) : gcdM x y ≤ 100000 := by
  have l1 := ilim_iff.2 hx
  have l2 := ilim_iff.2 hy
  have h1 := len2_le y
  have h2 : (dg 2 (x % y)).length ≤ 32 * (dg 4294967296 (x % y)).length := len2_le _
  have h3 : (dg 4294967296 (x % y)).length ≤ (dg 4294967296 x).length := len_le_of_le hB32 (Nat.mod_le _ _)
  unfold gcdM
  split <;> omega
theorem near_l0 {k : Nat} (hk : 20000000000 < k) {X : Int} {D M H : Nat} (hV : RatV X D) (hX : X.natAbs ≤ H) (hD : D ≤ H) (hM1 : 1 ≤ M) (hMD : M < D) (hH : 8 * (H * H * M) ≤ ilim) (r0 : Rt) (f0 : Int × Int) :
    ∀ (m : Nat) (p0 p1 : Int) (q0 q1 n d : Nat) (σ : Int), gcdM n d < m → (σ = 1 ∨ σ = -1) → p1 * q0 - p0 * q1 = σ → X = p1 * n + p0 * d → (D : Int) = q1 * n + q0 * d → 1 ≤ q1 → q1 ≤ M → q0 ≤ M → d < n →
    ∃ (P : Int) (Q : Nat), rational_nearest.l0 k m (rq X D) (iz (M : Int)) r0 f0 () (iz p0, iz (q0 : Int)) (iz p1, iz (q1 : Int)) (iz (n : Int)) (iz (d : Int)) = some (.inr (rq P Q, 0, 0)) ∧ RatV P Q ∧ Q ≤ M ∧ best X D M P Q := by
  intro m
  induction m with
  | zero => intro p0 p1 q0 q1 n d σ h; omega
  | succ m ih =>
    intro p0 p1 q0 q1 n d σ hm hσ hdet eX eD hq1 hqM hq0 hdn
    -- the rest is not zero
    have hd0 : 0 < d := by
      refine Nat.pos_of_ne_zero fun e => ?_
      subst e
      have h1 : (n : Int) ∣ X := ⟨p1, by rw [eX]; grind⟩
      have h2 : (n : Int) ∣ (D : Int) := ⟨q1, by rw [eD]; grind⟩
      have h3 := Nat.dvd_gcd (Int.ofNat_dvd_left.1 h1) (Int.ofNat_dvd.1 h2)
      rw [hV.2.2.2] at h3
      have h4 := Nat.dvd_one.1 h3
      subst h4
      omega
    have hnD : n ≤ D := by
      have h1 : 1 * (n : Int) ≤ q1 * n := Int.mul_le_mul_of_nonneg_right (by omega) (by omega)
      have h2 : 0 ≤ (q0 : Int) * d := Int.mul_nonneg (by omega) (by omega)
      omega
    have g1 : X * q1 - p1 * D = -σ * d := by rw [eX, eD, ← hdet]; grind
    have g0 : X * q0 - p0 * D = σ * n := by rw [eX, eD, ← hdet]; grind
    have hσ' : -σ = 1 ∨ -σ = -1 := by omega
    have b1 := part_le hσ' hX (by omega) hqM (by omega) g1
    have b0 := part_le hσ hX (by omega) hq0 hnD g0
    -- sizes
    have hH1 : 1 ≤ H := by omega
    have hHM : H * M ≤ H * H * M := Nat.mul_le_mul_right _ (Nat.le_mul_of_pos_left _ hH1)
    have hHH : H ≤ H * H * M := Nat.le_trans (Nat.le_mul_of_pos_left _ hH1) (Nat.le_mul_of_pos_right _ hM1)
    have sz : ∀ t : Nat, t ≤ H → (p1 * (t : Int)).natAbs ≤ H * H * M + H ∧ q1 * t ≤ H * H * M := by
      intro t ht
      constructor
      · rw [Int.natAbs_mul, Int.natAbs_natCast]
        have h1 := Nat.mul_le_mul b1 ht
        have h2 : (H * M + 1) * H = H * H * M + H := by grind
        omega
      · have h1 : q1 * t ≤ M * H := Nat.mul_le_mul hqM ht
        have h2 : M * H = H * M := Nat.mul_comm _ _
        omega
    obtain ⟨t, r, ht, hr, hrd⟩ : ∃ t r : Nat, n = d * t + r ∧ r = n % d ∧ t = n / d := ⟨n / d, n % d, by rw [Nat.div_add_mod], rfl, rfl⟩
    have hrlt : r < d := by rw [hr]; exact Nat.mod_lt _ hd0
    have htn : t ≤ n := by rw [hrd]; exact Nat.div_le_self _ _
    have ht1 : 1 ≤ t := by rw [hrd]; exact (Nat.one_le_div_iff hd0).2 (by omega)
    have eN : (n : Int) = d * t + r := by rw [ht]; simp
    obtain ⟨s1, s2⟩ := sz t (by omega)
    have qc : ((q1 : Int) * t) = ((q1 * t : Nat) : Int) := by simp
    have e1 : (n : Int) / (d : Int) = (t : Int) := by rw [hrd]; rfl
    have e2 : (n : Int) % (d : Int) = (r : Int) := by rw [hr]; rfl
    simp only [rational_nearest.l0, rational_nearest.b0]
    rw [iDivMod_ok hk (by simp; omega) (by simp; omega), if_neg (by omega), iq_edivq (by omega), ir_emod (by omega), e1, e2]
    simp only [Option.bind_some]
    rw [near1_ok hk (by omega) (by omega) (by simp; omega) (by simp; omega) (by simp; omega) (by omega) (by rw [qc]; simp; omega) (by omega) (by rw [qc]; omega)]
    simp only [Option.bind_some]
    have qn : (q0 : Int) + q1 * t = ((q0 + q1 * t : Nat) : Int) := by simp
    rw [qn, iCmp_ok hk (by simp; omega) (by simp; omega)]
    simp only [Option.bind_some]
    by_cases hc : M < q0 + q1 * t
    · have : sgn ((q0 + q1 * t : Nat) : Int) (M : Int) = 1 := by unfold sgn; rw [if_neg (by omega), if_pos (by omega)]
      rw [this]
      simp only [show decide ((0 : Int) < 1) = true from rfl, cond_true]
      have em : (M : Int) - q0 = ((M - q0 : Nat) : Int) := by omega
      rw [iSub_ok (by omega) (by simp; omega) (by simp; omega), em, ires_ok (by simp; omega)]
      simp only [Option.bind_some]
      obtain ⟨c, hcd⟩ : ∃ c : Nat, c = (M - q0) / q1 := ⟨_, rfl⟩
      have e3 : ((M - q0 : Nat) : Int) / (q1 : Int) = (c : Int) := by rw [hcd]; rfl
      rw [iDivMod_ok hk (by simp; omega) (by simp; omega), if_neg (by omega), iq_edivq (by omega), e3]
      simp only [Option.bind_some]
      have c1 : q1 * c ≤ M - q0 := by rw [hcd]; exact Nat.mul_div_le _ _
      have c2 : M - q0 < q1 * c + q1 := by rw [hcd]; exact Nat.lt_mul_div_succ _ (by omega)
      have c3 : c ≤ M := Nat.le_trans (Nat.le_mul_of_pos_left _ hq1) (Nat.le_trans c1 (Nat.sub_le _ _))
      obtain ⟨s3, s4⟩ := sz c (by omega)
      have qc' : ((q1 : Int) * c) = ((q1 * c : Nat) : Int) := by simp
      rw [near1_ok hk (by omega) (by omega) (by simp; omega) (by simp; omega) (by simp; omega) (by omega) (by rw [qc']; simp; omega) (by omega) (by rw [qc']; omega)]
      simp only [Option.bind_some]
      have qn' : (q0 : Int) + q1 * c = ((q0 + q1 * c : Nat) : Int) := by simp
      rw [qn']
      have hct : c < t := by
        refine Nat.not_le.1 fun h => ?_
        have := Nat.mul_le_mul_left q1 h
        omega
      obtain ⟨e, he, hee⟩ : ∃ e : Nat, (e : Int) = n - d * c ∧ e ≤ n := by
        have h1 : d * (c + 1) ≤ d * t := Nat.mul_le_mul_left _ hct
        have h2 : d * (c + 1) = d * c + d := Nat.mul_succ _ _
        refine ⟨n - d * c, ?_, Nat.sub_le _ _⟩
        have h3 : ((n - d * c : Nat) : Int) = (n : Int) - ((d * c : Nat) : Int) := by omega
        rw [h3]; simp
      have hdet2 : p1 * ((q0 + q1 * c : Nat) : Int) - (p0 + p1 * c) * q1 = σ := by rw [← qn', ← hdet]; grind
      have g2 : X * ((q0 + q1 * c : Nat) : Int) - (p0 + p1 * c) * D = σ * e := by
        rw [← qn', he]
        have : X * (q0 + q1 * c) - (p0 + p1 * c) * D = (X * q0 - p0 * D) + c * (X * q1 - p1 * D) := by grind
        rw [this, g0, g1]; grind
      obtain ⟨k1, k2⟩ := gcd_det hσ hdet2
      have v1 : RatV p1 q1 := ⟨by omega, by omega, by omega, k1⟩
      have v2 : RatV (p0 + p1 * c) (q0 + q1 * c) := ⟨by omega, by omega, by omega, k2⟩
      have n1 : (X * q1 - p1 * D).natAbs = d := by rw [g1]; rcases hσ' with h | h <;> rw [h] <;> simp
      have n2 : (X * ((q0 + q1 * c : Nat) : Int) - (p0 + p1 * c) * D).natAbs = e := by rw [g2]; rcases hσ with h | h <;> rw [h] <;> simp
      rw [make_low hk v1, make_low hk v2]
      simp only [Option.bind_some]
      obtain ⟨w1, w2⟩ := best_two (M := M) hσ hdet2 g1 g2 hq1 (by omega) (by omega)
      rcases closer_ok hk hV.1 hV.2.1 v1 v2 (by rw [n1]; omega) (by rw [n2]; omega) with ⟨h1, h2⟩ | ⟨h1, h2⟩
      · rw [h1]
        rw [n1, n2] at h2
        exact ⟨_, _, rfl, v1, hqM, w1 h2⟩
      · rw [h1]
        rw [n1, n2] at h2
        exact ⟨_, _, rfl, v2, by omega, w2 h2⟩
    · have hs : decide (0 < sgn ((q0 + q1 * t : Nat) : Int) (M : Int)) = false := by
        unfold sgn
        by_cases h1 : ((q0 + q1 * t : Nat) : Int) < M
        · rw [if_pos h1]; rfl
        · rw [if_neg h1, if_neg (by omega)]; rfl
      rw [hs]
      simp only [cond_false]
      have hM2 := gcdM_lt (x := n) (y := d) hd0
      rw [← hr] at hM2
      have q1t : q1 * 1 ≤ q1 * t := Nat.mul_le_mul_left _ ht1
      exact ih p1 (p0 + p1 * t) q1 (q0 + q1 * t) d r (-σ) (by omega) hσ' (by rw [← qn, ← hdet]; grind) (by rw [eX, eN]; grind) (by rw [← qn, eD, eN]; grind) (by omega) (by omega) hqM hrlt
theorem nearest_ok {k : Nat} (hk : 20000000000 < k) {X : Int} {D M H : Nat} (hV : RatV X D) (hX : X.natAbs ≤ H) (hD : D ≤ H) (hM1 : 1 ≤ M) (hMD : M < D) (hH : 8 * (H * H * M) ≤ ilim) :
    ∃ (P : Int) (Q : Nat), rational_nearest k (rq X D) (iz (M : Int)) = some (rq P Q, 0, 0) ∧ RatV P Q ∧ Q ≤ M ∧ best X D M P Q := by
  have hO0 : integer_Of k 0 = some (iz 0) := iOf_ok (by omega) (by decide) (by decide)
  have hO1 : integer_Of k 1 = some (iz 1) := iOf_ok (by omega) (by decide) (by decide)
  obtain ⟨f1, f2, f3, f4, f5⟩ := fl_facts hV
  have h1 : 1 < ilim := ilim_iff.1 (by decide)
  obtain ⟨r, hr⟩ : ∃ r : Nat, X % (D : Int) = r := ⟨(X % (D : Int)).toNat, by omega⟩
  obtain ⟨m, hm⟩ : ∃ m, k = m + 1 := ⟨k - 1, by omega⟩
  have hg := gcdM_ilim hV.2.1 (y := r) (by have := hV.2.1; omega)
  have ex : X = X / (D : Int) * (D : Int) + 1 * (r : Int) := by
    have : X / (D : Int) * (D : Int) = D * (X / (D : Int)) := Int.mul_comm _ _
    omega
  obtain ⟨P, Q, e1, e2, e3, e4⟩ := near_l0 hk hV hX hD hM1 hMD hH ((false, []), false, []) (0, 0) m 1 (X / (D : Int)) 0 1 D r (-1) (by omega) (.inr rfl) (by simp) ex (by simp) (by decide) hM1 (by omega) (by omega)
  refine ⟨P, Q, ?_, e2, e3, e4⟩
  unfold rational_nearest
  simp only [hO0, hO1, Option.bind_some]
  have el : rational_nearest.l0 k k (rq X D) (iz (M : Int)) ((false, []), false, []) (0, 0) () (iz 0, iz 1) (iz 1, iz 0) (rq X D).1 (rq X D).2 = some (.inr (rq P Q, 0, 0)) := by
    have eu : rational_nearest.l0 k k = rational_nearest.b0 k (rational_nearest.l0 k m) := by
      have : ∀ j, j = m + 1 → rational_nearest.l0 k j = rational_nearest.b0 k (rational_nearest.l0 k m) := by rintro _ rfl; rfl
      exact this k hm
    rw [eu]
    unfold rational_nearest.b0
    have hD' : ((D : Nat) : Int) ≠ 0 := by have := hV.2.2.1; omega
    have es : integer_DivMod k (rq X D).1 (rq X D).2 = some (iz (X / (D : Int)), iz (r : Int), 0, 0) := by
      have := iDivMod_ok hk (x := X) (y := (D : Int)) hV.1 (by simpa using hV.2.1)
      rw [if_neg hD', iq_edivq (by omega), ir_emod (by omega), hr] at this
      exact this
    rw [es]
    simp only [Option.bind_some]
    rw [near1_ok hk (by simp; omega) (by simpa using h1) (by simpa using h1) (by simp; omega) f4 (by rw [Int.one_mul]; exact f4) (by simp; omega) (by rw [Int.one_mul, Int.zero_add]; exact f4) (by simpa using h1)]
    simp only [Option.bind_some, Int.one_mul, Int.zero_add, Int.zero_mul, Int.add_zero]
    rw [iCmp_ok hk (by simpa using h1) (by have := hV.2.1; simp; omega)]
    simp only [Option.bind_some]
    have hs : decide (0 < sgn (1 : Int) (M : Int)) = false := by
      unfold sgn
      by_cases h1 : (1 : Int) < M
      · rw [if_pos h1]; rfl
      · rw [if_neg h1, if_neg (by omega)]; rfl
    rw [hs]
    exact e1
  rw [el]; rfl
theorem qNearest_ok {k : Nat} (hk : 20000000000 < k) {X : Int} {D M H : Nat} (hV : RatV X D) (hX : X.natAbs ≤ H) (hD : D ≤ H) (hM1 : 1 ≤ M) (hMl : M < ilim) (hH : 8 * (H * H * M) ≤ ilim) :
    ∃ (P : Int) (Q : Nat), rational_Nearest k (rq X D) (iz (M : Int)) = some (rq P Q, 0, 0) ∧ RatV P Q ∧ Q ≤ M ∧ best X D M P Q := by
  have e1 : (iz (M : Int)).1 = false := by rw [iz_nat]
  have e2 : (((iz (M : Int)).2.length : Int) == 0) = false := beq_f (by rw [iz_nat]; have := (dg_len_pos (n := M) hB32).2 (by omega); simp only; omega)
  unfold rational_Nearest
  rw [rq_valid hk hV, iz_valid (v := (M : Int)) (by simpa using hMl)]
  simp only [Option.bind_some, Bool.not_true, cond_false, e1, e2, joinB_inl]
  have ec : integer_Cmp k (rq X D).2 (iz (M : Int)) = some (sgn (D : Int) M, 0, 0) := iCmp_ok hk (by simpa using hV.2.1) (by simpa using hMl)
  rw [ec]
  simp only [Option.bind_some]
  by_cases hc : D ≤ M
  · have hs : decide (sgn (D : Int) (M : Int) ≤ 0) = true := by
      unfold sgn
      by_cases h1 : (D : Int) < M
      · rw [if_pos h1]; rfl
      · rw [if_neg h1, if_neg (by omega)]; rfl
    rw [hs]
    simp only [cond_true]
    have em : rational_Make k (rq X D).1 (rq X D).2 = _ := make_low hk hV
    rw [em]
    exact ⟨X, D, rfl, hV, hc, best_self⟩
  · have hs : decide (sgn (D : Int) (M : Int) ≤ 0) = false := by
      unfold sgn; rw [if_neg (by omega), if_pos (by omega)]; rfl
    rw [hs]
    simp only [cond_false]
    obtain ⟨P, Q, h1, h2, h3, h4⟩ := nearest_ok hk hV hX hD hM1 (by omega) hH
    rw [h1]
    exact ⟨P, Q, rfl, h2, h3, h4⟩
end Go.Pl
