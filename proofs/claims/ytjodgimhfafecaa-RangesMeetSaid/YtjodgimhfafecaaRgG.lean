/- Ranges: the inverse, and what two progressions have in common.  Conditions: those that each theorem names. -/
import Derived.Test.YtjodgimhfafecaaRgC
set_option linter.unusedVariables false
set_option linter.unusedSimpArgs false
namespace Go.Pl
open Go Go.Ev Go.Sh
theorem inverse_l0 (k : Nat) (hk : 20000000000 < k) {m : Nat} (hm : m ≤ 2 * rlim) (a : Int) (A : Bool × List Int) : ∀ (n : Nat) (x y : Int) (h l : Nat), gcdM h l < n → 0 < h → h ≤ m → l ≤ m → x.natAbs ≤ m → x.natAbs * l + y.natAbs * h ≤ m → (m : Int) ∣ x * a - h → (m : Int) ∣ y * a - l →
    ∃ x' : Int, ranges_inverse.l0 k n (iz m) A (iz x) (iz y) (iz (h : Int)) (iz (l : Int)) = some (.inl (iz m, A, iz x')) ∧ x'.natAbs ≤ m ∧ (m : Int) ∣ x' * a - ((Nat.gcd h l : Nat) : Int) := by
  intro n
  induction n with
  | zero => intro x y h l hn; omega
  | succ n ih =>
    intro x y h l hn h0 hhm hlm hx hb dx dy
    simp only [ranges_inverse.l0, ranges_inverse.b0]
    rw [rzero_ok]
    simp only [Option.bind_some]
    by_cases hl : l = 0
    · subst hl
      refine ⟨x, ?_, hx, by simpa using dx⟩
      rw [decide_eq_true (show ((0 : Nat) : Int) = 0 from rfl)]; rfl
    · have hl' : (0 : Int) < (l : Int) := by omega
      rw [decide_eq_false (show ¬ (l : Int) = 0 by omega)]
      simp only [Bool.not_false, cond_true]
      have hy : y.natAbs ≤ m := by
        have : y.natAbs * 1 ≤ y.natAbs * h := Nat.mul_le_mul_left _ h0
        omega
      have hq : (h / l) * y.natAbs ≤ m := by
        have h1 : h / l * y.natAbs ≤ h * y.natAbs := Nat.mul_le_mul_right _ (Nat.div_le_self _ _)
        have h2 : h * y.natAbs = y.natAbs * h := Nat.mul_comm _ _
        omega
      have hqa : (((h / l : Nat) : Int) * y).natAbs ≤ m := by rw [Int.natAbs_mul]; exact hq
      have e1 : iq (h : Int) l = ((h / l : Nat) : Int) := by rw [iq_ediv hl']; rfl
      have e2 : ir (h : Int) l = ((h % l : Nat) : Int) := by rw [ir_emod hl']; rfl
      rw [rdiv_ok hk (small_ilim (by omega)) (small_ilim (by omega)) (by omega), e1, e2]
      have hql : (h / l) ≤ h := Nat.div_le_self _ _
      have hqn : (((h / l : Nat) : Int)).natAbs ≤ m := by rw [Int.natAbs_natCast]; omega
      have hqs : (x - ((h / l : Nat) : Int) * y).natAbs ≤ 2 * m := by omega
      simp only [Option.bind_some]
      rw [rmul_ok hk (small_ilim (Nat.le_trans hqn (by omega))) (small_ilim (by omega)) (small_ilim (Nat.le_trans hqa (by omega)))]
      simp only [Option.bind_some]
      rw [rsub_ok hk (small_ilim (by omega)) (small_ilim (Nat.le_trans hqa (by omega))) (small_ilim (Nat.le_trans hqs (by omega)))]
      simp only [Option.bind_some]
      have hdm := Nat.div_add_mod h l
      have hml := Nat.mod_lt h (show 0 < l by omega)
      have hM := gcdM_lt (x := h) (y := l) (by omega)
      obtain ⟨x', r1, r2, r3⟩ := ih y (x - ((h / l : Nat) : Int) * y) l (h % l) (by omega) (by omega) hlm (by omega) hy (by
        generalize h / l = q at *
        generalize h % l = r at *
        have b1 : (x - (q : Int) * y).natAbs ≤ x.natAbs + q * y.natAbs := by
          have : ((q : Int) * y).natAbs = q * y.natAbs := by rw [Int.natAbs_mul]; rfl
          omega
        have b2 := Nat.mul_le_mul_right l b1
        rw [Nat.add_mul] at b2
        have b3 : y.natAbs * h = y.natAbs * (l * q) + y.natAbs * r := by rw [← Nat.mul_add, hdm]
        have b4 : q * y.natAbs * l = y.natAbs * (l * q) := by grind
        omega) dy (by
        generalize h / l = q at *
        generalize h % l = r at *
        obtain ⟨c, hc⟩ := dx
        obtain ⟨d, hd⟩ := dy
        have hh : (h : Int) = l * q + r := by rw [← hdm]; simp
        exact ⟨c - q * d, by grind⟩)
      refine ⟨x', r1, r2, ?_⟩
      rw [Nat.gcd_comm h l, Nat.gcd_rec l h, Nat.gcd_comm (h % l) l]; exact r3
theorem gcdM_rlim {x y : Nat} (hx : x ≤ 2 * rlim) (hy : y ≤ 2 * rlim) : gcdM x y ≤ 100000 := by
  have b1 : x < lim := ilim_lim (by have := small_ilim (x := (x : Int)) (by omega); omega)
  have b2 : y < lim := ilim_lim (by have := small_ilim (x := (y : Int)) (by omega); omega)
  have l1 := len600 b1
  have l2 := len600 b2
  have h1 := len2_le y
  have h2 : (dg 2 (x % y)).length ≤ 32 * (dg 4294967296 (x % y)).length := len2_le _
  have h3 : (dg 4294967296 (x % y)).length ≤ (dg 4294967296 x).length := len_le_of_le hB32 (Nat.mod_le _ _)
  unfold gcdM
  split <;> omega
theorem inverse_ok {k : Nat} (hk : 20000000000 < k) {m : Nat} (hm0 : 0 < m) (hm : m ≤ 2 * rlim) {a : Int} (ha : a.natAbs ≤ 2 * rlim) (hc : Nat.gcd a.natAbs m = 1) : ∃ v : Int, ranges_inverse k (iz a) (iz m) = some (iz v) ∧ 0 ≤ v ∧ v < m ∧ (m : Int) ∣ v * a - 1 := by
  have hp := rlim_big.1
  have hm' : (0 : Int) < (m : Int) := by omega
  have hO1 : integer_Of k 1 = some (iz 1) := iOf_ok (by omega) (by decide) (by decide)
  obtain ⟨l, hl⟩ : ∃ l : Nat, a % (m : Int) = l := ⟨(a % (m : Int)).toNat, by have := Int.emod_nonneg a (show (m : Int) ≠ 0 by omega); omega⟩
  have hlm : l < m := by have := Int.emod_lt_of_pos a hm'; omega
  have hd : (m : Int) ∣ a - l := by rw [← hl]; exact Int.dvd_self_sub_emod
  have hM := gcdM_rlim (x := m) (y := l) hm (by omega)
  obtain ⟨x', r1, r2, r3⟩ := inverse_l0 k hk hm a (iz 0) k 0 1 m l (by omega) hm0 (Nat.le_refl m) (by omega) (by simp) (by simp) ⟨-1, by simp⟩ (by simpa using hd)
  have hg : Nat.gcd m l = 1 := by
    have h1 : (Nat.gcd m l : Int) ∣ a := by
      obtain ⟨c, hc⟩ := hd
      have g1 : (Nat.gcd m l : Int) ∣ (m : Int) := Int.ofNat_dvd.2 (Nat.gcd_dvd_left _ _)
      have g2 : (Nat.gcd m l : Int) ∣ (l : Int) := Int.ofNat_dvd.2 (Nat.gcd_dvd_right _ _)
      have : a = m * c + l := by omega
      rw [this]
      exact Int.dvd_add (Int.dvd_trans g1 (Int.dvd_mul_right _ _)) g2
    have h2 : Nat.gcd m l ∣ a.natAbs := by simpa using Int.natAbs_dvd_natAbs.2 h1
    have h3 := Nat.dvd_gcd h2 (Nat.gcd_dvd_left m l)
    rw [hc] at h3
    exact Nat.dvd_one.1 h3
  rw [hg] at r3
  refine ⟨x' % m, ?_, Int.emod_nonneg _ (by omega), Int.emod_lt_of_pos _ hm', ?_⟩
  · unfold ranges_inverse
    simp only [hO1, Option.bind_some]
    rw [rdiv_ok hk (small_ilim (by omega)) (small_ilim (by omega)) (by omega), ir_emod hm', hl]
    simp only [Option.bind_some]
    have r1' : ranges_inverse.l0 k k (iz m) (false, []) (false, []) (iz 1) (iz (m : Int)) (iz (l : Int)) = _ := r1
    rw [r1']
    simp only [joinB_inl]
    rw [rdiv_ok hk (small_ilim (by omega)) (small_ilim (by omega)) (by omega), ir_emod hm']
    rfl
  · obtain ⟨c, hc⟩ := r3
    have h1 := Int.emod_add_mul_ediv x' m
    exact ⟨c - x' / m * a, by grind⟩
def onP (s d v : Int) : Prop := d ∣ v - s
theorem common_ok {k : Nat} (hk : 20000000000 < k) {s1 l1 d1 s2 l2 d2 : Int} (hs1 : s1.natAbs ≤ rlim) (hs2 : s2.natAbs ≤ rlim) (hd1 : d1.natAbs ≤ rlim) (hd2 : d2.natAbs ≤ rlim) (p1 : 0 < d1) (p2 : 0 < d2) :
    (∃ F S : Int, ranges_common k (rz s1 l1 d1) (rz s2 l2 d2) = some (iz F, iz S, true) ∧ 0 < S ∧ S.natAbs ≤ rlim * rlim ∧ s1 ≤ F ∧ F < s1 + S ∧ d1 ∣ F - s1 ∧ d2 ∣ F - s2 ∧ d1 ∣ S ∧ d2 ∣ S ∧ ∀ v, d1 ∣ v - s1 → d2 ∣ v - s2 → S ∣ v - F) ∨
    (ranges_common k (rz s1 l1 d1) (rz s2 l2 d2) = some ((false, []), (false, []), false) ∧ ∀ v, d1 ∣ v - s1 → ¬ d2 ∣ v - s2) := by
  have hp := rlim_big.1
  obtain ⟨D1, rfl⟩ : ∃ n : Nat, d1 = n := ⟨d1.toNat, by omega⟩
  obtain ⟨D2, rfl⟩ : ∃ n : Nat, d2 = n := ⟨d2.toNat, by omega⟩
  have hG := iGcd_ok hk (x := (D1 : Int)) (y := (D2 : Int)) (small_ilim (by omega)) (small_ilim (by omega))
  simp only [Int.natAbs_natCast] at hG
  have g1 := Nat.gcd_dvd_left D1 D2
  have g2 := Nat.gcd_dvd_right D1 D2
  have g0 : 0 < Nat.gcd D1 D2 := Nat.gcd_pos_of_pos_left _ (by omega)
  have hcop : Nat.gcd (D1 / Nat.gcd D1 D2) (D2 / Nat.gcd D1 D2) = 1 := by
    rw [Nat.gcd_div g1 g2, Nat.div_self g0]
  generalize Nat.gcd D1 D2 = g at *
  obtain ⟨p, rfl⟩ := g1
  obtain ⟨q, rfl⟩ := g2
  rw [Nat.mul_div_cancel_left _ g0, Nat.mul_div_cancel_left _ g0] at hcop
  have p0 : 0 < p := Nat.pos_of_ne_zero fun e => by subst e; simp at p1
  have q0 : 0 < q := Nat.pos_of_ne_zero fun e => by subst e; simp at p2
  have hpg : p ≤ g * p := Nat.le_mul_of_pos_left _ g0
  have hqg : q ≤ g * q := Nat.le_mul_of_pos_left _ g0
  have hgp : g ≤ g * p := Nat.le_mul_of_pos_right _ p0
  have hg' : (0 : Int) < (g : Int) := by omega
  have hq' : (0 : Int) < (q : Int) := by omega
  simp only [Int.natAbs_natCast] at hd1 hd2
  unfold ranges_common
  simp only [rz]
  rw [hG]
  simp only [Option.bind_some]
  rw [rsub_ok hk (small_ilim (by omega)) (small_ilim (by omega)) (small_ilim (by omega))]
  simp only [Option.bind_some]
  rw [rdiv_ok hk (small_ilim (by omega)) (small_ilim (by omega)) (by omega), ir_emod hg', iq_ediv hg']
  simp only [Option.bind_some]
  rw [rzero_ok]
  simp only [Option.bind_some]
  by_cases hr : (s2 - s1) % (g : Int) = 0
  · left
    rw [hr, decide_eq_true rfl]
    simp only [Bool.not_true, cond_false]
    obtain ⟨t, ht⟩ := Int.dvd_of_emod_eq_zero hr
    have ht' : (s2 - s1) / (g : Int) = t := by rw [ht, Int.mul_ediv_cancel_left _ (by omega)]
    rw [ht']
    have hta : t.natAbs ≤ 2 * rlim := by
      have h1 : (g * t.natAbs) = (s2 - s1).natAbs := by rw [ht, Int.natAbs_mul]; rfl
      have h2 : t.natAbs ≤ g * t.natAbs := Nat.le_mul_of_pos_left _ g0
      omega
    have f1 : iq ((g * p : Nat) : Int) g = p := by rw [iq_ediv hg', Int.natCast_mul, Int.mul_ediv_cancel_left _ (by omega)]
    have f2 : iq ((g * q : Nat) : Int) g = q := by rw [iq_ediv hg', Int.natCast_mul, Int.mul_ediv_cancel_left _ (by omega)]
    rw [rdiv_ok hk (small_ilim (by omega)) (small_ilim (by omega)) (by omega), f1]
    simp only [Option.bind_some]
    rw [rdiv_ok hk (small_ilim (by omega)) (small_ilim (by omega)) (by omega), f2]
    simp only [Option.bind_some]
    rw [rdiv_ok hk (small_ilim (by omega)) (small_ilim (by omega)) (by omega), ir_emod hq']
    simp only [Option.bind_some]
    obtain ⟨v, i1, i2, i3, i4⟩ := inverse_ok hk (m := q) q0 (by omega) (a := (p : Int)) (by omega) hcop
    rw [i1]
    simp only [Option.bind_some]
    have o1 := Int.emod_nonneg t (show (q : Int) ≠ 0 by omega)
    have o2 := Int.emod_lt_of_pos t hq'
    have hb := rlim_mul.1
    have m1 : (t % (q : Int) * v).natAbs ≤ rlim * rlim := abs_mul_le (by omega) (by omega)
    have hb2 : rlim * rlim < ilim := by
      have h1 : 1 * rlim ≤ rlim * rlim := Nat.mul_le_mul_right _ (by omega)
      rw [Nat.mul_assoc] at hb
      omega
    rw [rmul_ok hk (small_ilim (by omega)) (small_ilim (by omega)) (by omega)]
    simp only [Option.bind_some]
    rw [rdiv_ok hk (by omega) (small_ilim (by omega)) (by omega), ir_emod hq']
    simp only [Option.bind_some]
    generalize hkk : t % (q : Int) * v % (q : Int) = kk at *
    have k1 : 0 ≤ kk := by rw [← hkk]; exact Int.emod_nonneg _ (by omega)
    have k2 : kk < q := by rw [← hkk]; exact Int.emod_lt_of_pos _ hq'
    have m2 : (((g * p : Nat) : Int) * kk).natAbs ≤ rlim * rlim := abs_mul_le (by omega) (by omega)
    have m3 : (((g * p : Nat) : Int) * q).natAbs ≤ rlim * rlim := abs_mul_le (by omega) (by omega)
    have hr1 : rlim ≤ rlim * rlim := by have h1 : 1 * rlim ≤ rlim * rlim := Nat.mul_le_mul_right _ (by omega); omega
    have hb3 : 64 * (rlim * rlim) ≤ ilim := by rw [← Nat.mul_assoc]; exact hb
    rw [rmul_ok hk (small_ilim (by omega)) (small_ilim (by omega)) (by omega)]
    simp only [Option.bind_some]
    rw [radd_ok hk (small_ilim (by omega)) (by omega) (by omega)]
    simp only [Option.bind_some]
    rw [rmul_ok hk (small_ilim (by omega)) (small_ilim (by omega)) (by omega)]
    simp only [Option.bind_some]
    have z0 : (0 : Int) < ((g * p : Nat) : Int) := p1
    have hkq : ((g * p : Nat) : Int) * kk < ((g * p : Nat) : Int) * q := Int.mul_lt_mul_of_pos_left k2 z0
    have hk0 : 0 ≤ ((g * p : Nat) : Int) * kk := Int.mul_nonneg (by omega) k1
    have hd2' : ((g * q : Nat) : Int) ∣ s1 + ((g * p : Nat) : Int) * kk - s2 := by
      obtain ⟨c, hc⟩ := i4
      have e1 := Int.emod_add_mul_ediv t q
      have e2 := Int.emod_add_mul_ediv (t % (q : Int) * v) q
      rw [hkk] at e2
      have e3 : s2 = s1 + g * t := by omega
      refine ⟨- ((t % (q : Int) * v) / q) * p + (t % (q : Int)) * c - t / q, ?_⟩
      rw [Int.natCast_mul, Int.natCast_mul]
      generalize t % (q : Int) = u at *
      generalize t / (q : Int) = u' at *
      generalize u * v / (q : Int) = u'' at *
      grind
    refine ⟨_, _, rfl, Int.mul_pos z0 hq', m3, by omega, by omega, ⟨kk, by omega⟩, hd2', ⟨q, rfl⟩, ⟨p, by rw [Int.natCast_mul, Int.natCast_mul]; grind⟩, fun w h1 h2 => ?_⟩
    obtain ⟨c, hc⟩ := h1
    have h3 := Int.dvd_sub h2 hd2'
    obtain ⟨d, hd⟩ := h3
    have h4 : (q : Int) ∣ (p : Int) * (c - kk) := by
      refine ⟨d, ?_⟩
      have : (g : Int) * ((p : Int) * (c - kk)) = g * (q * d) := by
        rw [Int.natCast_mul] at hc hd hd
        grind
      exact Int.eq_of_mul_eq_mul_left (by omega) this
    have h5 : (q : Int) ∣ c - kk := by
      have h6 := Int.ofNat_dvd_left.1 h4
      rw [Int.natAbs_mul, Int.natAbs_natCast] at h6
      exact Int.ofNat_dvd_left.2 (Nat.Coprime.dvd_of_dvd_mul_left (Nat.Coprime.symm hcop) h6)
    obtain ⟨e, he⟩ := h5
    refine ⟨e, ?_⟩
    rw [Int.natCast_mul] at hc ⊢
    grind
  · right
    rw [decide_eq_false hr]
    simp only [Bool.not_false, cond_true]
    refine ⟨trivial, fun v h1 h2 => hr ?_⟩
    obtain ⟨c, hc⟩ := h1
    obtain ⟨d, hd⟩ := h2
    refine Int.emod_eq_zero_of_dvd ⟨p * c - q * d, ?_⟩
    rw [Int.natCast_mul] at hc hd
    grind
end Go.Pl
