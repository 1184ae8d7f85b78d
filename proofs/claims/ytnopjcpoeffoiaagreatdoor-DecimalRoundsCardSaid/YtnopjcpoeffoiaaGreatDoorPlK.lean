/- Long division: one digit of the quotient, and the whole.  Conditions: those that each theorem names. -/
import Derived.Test.YtnopjcpoeffoiaaGreatDoorPlJ
set_option linter.unusedVariables false
set_option linter.unusedSimpArgs false
namespace Go.Pl
open Go Go.Ev Go.Sh
structure Guess (h u2 t v2 q : Nat) : Prop where
  lt : q < 4294967296
  t0 : 0 < t
  v2l : v2 < 4294967296
  u2l : u2 < 4294967296
  hl : h < (t + 1) * 4294967296
  up : q * t ≤ h
  gtq : ∀ g r, g * t + r = h → r * 4294967296 + u2 < g * v2 → q < g
  near : ∀ g r, g * t + r = h → g < 4294967296 → g * v2 ≤ r * 4294967296 + u2 → g ≤ q + 1
theorem head_lt {X P h u2 ul t v2 U V : Nat} (hP : 0 < P) (hv2 : v2 < X) (hU : U = (h * X + u2) * P + ul) (hV' : V < (t * X + v2 + 1) * P) (hUV : U < V * X) : h < (t + 1) * X := by
  have hX : 0 < X := by omega
  have h1 : h * X * P ≤ U := by
    rw [hU]
    have := Nat.mul_le_mul_right P (Nat.le_add_right (h * X) u2)
    omega
  have h2 : V * X ≤ (t * X + v2 + 1) * P * X := Nat.mul_le_mul_right _ (Nat.le_of_lt hV')
  have h3 : (t * X + v2 + 1) * P * X ≤ ((t + 1) * X) * P * X := Nat.mul_le_mul_right _ (Nat.mul_le_mul_right _ (by rw [Nat.succ_mul]; omega))
  have h4 : h * X * P < ((t + 1) * X) * P * X := by omega
  rw [Nat.mul_assoc h, Nat.mul_assoc ((t + 1) * X), Nat.mul_comm P X] at h4
  exact Nat.lt_of_mul_lt_mul_right h4
theorem guess_of {P h u2 ul t v2 vl U V : Nat} (hP : 0 < P) (hU : U = (h * 4294967296 + u2) * P + ul) (hul : ul < P) (hV : V = (t * 4294967296 + v2) * P + vl) (hvl : vl < P) (hu2 : u2 < 4294967296) (hv2 : v2 < 4294967296) (ht : 2147483648 ≤ t) (hUV : U < V * 4294967296) : Guess h u2 t v2 (U / V) := by
  have hVpos : 0 < V := by
    have : 0 < (t * 4294967296 + v2) * P := Nat.mul_pos (by omega) hP
    omega
  have hq := Nat.div_mul_le_self U V
  generalize hqq : U / V = q at *
  have hqlt : q < 4294967296 := by rw [← hqq]; rw [Nat.div_lt_iff_lt_mul hVpos, Nat.mul_comm]; exact hUV
  have hU' : U < (h * 4294967296 + u2 + 1) * P := by rw [hU, Nat.add_mul (h * 4294967296 + u2) 1 P]; omega
  have hV' : V < (t * 4294967296 + v2 + 1) * P := by rw [hV, Nat.add_mul (t * 4294967296 + v2) 1 P]; omega
  have hV'' : (t * 4294967296 + v2) * P ≤ V := by omega
  refine ⟨hqlt, by omega, hv2, hu2, ?_, ?_, ?_, ?_⟩
  · -- the head is no greater than the divisor's
    exact head_lt hP hv2 hU hV' hUV
  · have h1 : q * ((t * 4294967296 + v2) * P) ≤ q * V := Nat.mul_le_mul_left q hV''
    have h2 : q * (t * 4294967296) * P ≤ q * ((t * 4294967296 + v2) * P) := by
      rw [Nat.mul_assoc]; exact Nat.mul_le_mul_left q (Nat.mul_le_mul_right P (by omega))
    have h3 : (h * 4294967296 + u2 + 1) * P ≤ ((h + 1) * 4294967296) * P := Nat.mul_le_mul_right P (by omega)
    have h4 : q * (t * 4294967296) * P < ((h + 1) * 4294967296) * P := by omega
    have h5 := Nat.lt_of_mul_lt_mul_right h4
    rw [← Nat.mul_assoc] at h5
    have := Nat.lt_of_mul_lt_mul_right h5
    omega
  · intro g r hg hb
    have h1 : (h * 4294967296 + u2 + 1) ≤ g * (t * 4294967296 + v2) := by
      rw [← hg]
      have : g * (t * 4294967296 + v2) = g * t * 4294967296 + g * v2 := by rw [Nat.mul_add, Nat.mul_assoc]
      rw [this, Nat.add_mul]; omega
    have h2 : U < g * V := by
      have h3 := Nat.mul_le_mul_right P h1
      have h4 : g * (t * 4294967296 + v2) * P ≤ g * V := by rw [Nat.mul_assoc]; exact Nat.mul_le_mul_left g hV''
      omega
    rw [← hqq, Nat.div_lt_iff_lt_mul hVpos]; exact h2
  · intro g r hg hgl hb
    rcases Nat.eq_zero_or_pos g with h0 | h0
    · omega
    · obtain ⟨f, rfl⟩ : ∃ f, g = f + 1 := ⟨g - 1, by omega⟩
      have h1 : f ≤ U / V := by
        rw [Nat.le_div_iff_mul_le hVpos]
        have h2 : f * V ≤ f * ((t * 4294967296 + v2 + 1) * P) := Nat.mul_le_mul_left f (Nat.le_of_lt hV')
        have h3 : f * (t * 4294967296 + v2 + 1) ≤ h * 4294967296 + u2 := by
          have e1 : (f + 1) * (t * 4294967296 + v2) = (f + 1) * t * 4294967296 + (f + 1) * v2 := by rw [Nat.mul_add, Nat.mul_assoc]
          have e2 : (f + 1) * (t * 4294967296 + v2) ≤ h * 4294967296 + u2 := by rw [e1, ← hg, Nat.add_mul]; omega
          have e3 : (f + 1) * (t * 4294967296 + v2) = f * (t * 4294967296 + v2) + (t * 4294967296 + v2) := Nat.succ_mul ..
          have e4 : f * (t * 4294967296 + v2 + 1) = f * (t * 4294967296 + v2) + f := Nat.mul_succ ..
          omega
        have h4 : f * ((t * 4294967296 + v2 + 1) * P) ≤ (h * 4294967296 + u2) * P := by rw [← Nat.mul_assoc]; exact Nat.mul_le_mul_right P h3
        omega
      omega
theorem mul32_le {g v2 : Nat} (hg : g < 4294967296) (hv2 : v2 < 4294967296) : g * v2 ≤ 18446744065119617025 := Nat.le_trans (Nat.mul_le_mul (show g ≤ 4294967295 by omega) (show v2 ≤ 4294967295 by omega)) (Nat.le_of_ble_eq_true rfl)
theorem wu64_nat {z : Nat} (hprod : z ≤ 18446744065119617025) : wu64 (z : Int) = z := wu64_id (by omega) (by omega)
theorem mul64 {g v2 : Nat} (hg : g < 4294967296) (hv2 : v2 < 4294967296) : wu64 ((g : Int) * (wu64 (v2 : Int))) = ((g * v2 : Nat) : Int) := by
  rw [wu64_id (n := (v2 : Int)) (by omega) (by omega), ← Int.natCast_mul, wu64_nat (mul32_le hg hv2)]
theorem guess_l0 (k : Nat) {u v : List Int} {n : Nat} {h u2 t v2 q : Nat} (G : Guess h u2 t v2 q) (hu : (2 : Int) ≤ n) (hv : n ≤ v.length) (hul : n < u.length) (hbig : (u.length : Int) ≤ 1000000000) (e1 : rd v ((n : Int) - 2) = v2) (e2 : rd u ((n : Int) - 2) = u2) (ht : t < 4294967296) :
    ∀ (m g r : Nat), g < m → g * t + r = h → r < 4294967296 → q ≤ g → g < 17179869184 → ∃ g' : Nat, natural_digit_ld.l0 k m u v n t g r = some (.inl (u, v, (n : Int), (g' : Int))) ∧ g' < 4294967296 ∧ q ≤ g' ∧ g' ≤ q + 1 := by
  intro m
  induction m with
  | zero => intro g r hg; omega
  | succ m ih =>
    intro g r hm hgr hr hq hgl
    simp only [natural_digit_ld.l0, natural_digit_ld.b0]
    have hqt := G.lt
    -- one less
    have down : q < g → ∃ g' : Nat, (bif ((shrI .u64 (wu64 ((r : Int) + t)) 32) != 0) then (some (.inl (u, v, (n : Int), wu64 ((g : Int) - 1)))) else (natural_digit_ld.l0 k m u v n t (wu64 ((g : Int) - 1)) (wu64 ((r : Int) + t)))) = some (.inl (u, v, (n : Int), (g' : Int))) ∧ g' < 4294967296 ∧ q ≤ g' ∧ g' ≤ q + 1 := by
      intro hqg
      have e3 : wu64 ((g : Int) - 1) = ((g - 1 : Nat) : Int) := by rw [wu64_id (by omega) (by omega)]; omega
      have e4 : wu64 ((r : Int) + t) = ((r + t : Nat) : Int) := by rw [wu64_id (by omega) (by omega)]; omega
      have hgr' : (g - 1) * t + (r + t) = h := by
        obtain ⟨f, rfl⟩ : ∃ f, g = f + 1 := ⟨g - 1, by omega⟩
        rw [Nat.add_sub_cancel]; rw [Nat.succ_mul] at hgr; omega
      rw [e3, e4, shr_u64_32]
      by_cases hb : 4294967296 ≤ r + t
      · rw [bne_t (by omega)]
        have hlt : g - 1 < 4294967296 := by
          have h1 : (g - 1) * t < t * 4294967296 := by
            have := G.hl
            rw [Nat.add_mul] at this; omega
          rw [Nat.mul_comm t] at h1
          exact Nat.lt_of_mul_lt_mul_right h1
        have hv2 := G.v2l
        have hprod : (g - 1) * v2 ≤ (r + t) * 4294967296 + u2 := by
          have h1 : (g - 1) * v2 ≤ 4294967296 * 4294967296 := Nat.mul_le_mul (by omega) (by omega)
          have h2 : 4294967296 * 4294967296 ≤ (r + t) * 4294967296 := Nat.mul_le_mul_right _ hb
          omega
        exact ⟨g - 1, rfl, hlt, by omega, G.near _ _ hgr' hlt hprod⟩
      · rw [bne_f (by omega)]
        exact ih (g - 1) (r + t) (by omega) hgr' (by omega) (by omega) (by omega)
    rw [shr_u64_32]
    by_cases hg : 4294967296 ≤ g
    · rw [bne_t (by omega)]
      exact down (by omega)
    · rw [bne_f (by omega)]
      have hv2 := G.v2l
      have hu2 := G.u2l
      have hg' : g < 4294967296 := Nat.lt_of_not_le hg
      have e3 : w64 ((n : Int) - 2) = (n : Int) - 2 := w64_id (by omega) (by omega)
      obtain ⟨A, hA⟩ : ∃ A : Nat, A = r * 4294967296 + u2 := ⟨_, rfl⟩
      obtain ⟨C, hC⟩ : ∃ C : Nat, C = g * v2 := ⟨_, rfl⟩
      have e4 : wu64 ((g : Int) * (wu64 (rd v ((n : Int) - 2)))) = (C : Int) := by
        rw [e1, mul64 hg' hv2, hC]
      have e5 : bitsOp .or .u64 (shlI .u64 (r : Int) 32) (wu64 (rd u ((n : Int) - 2))) = (A : Int) := by
        rw [e2, wu64_id (n := (u2 : Int)) (by omega) (by omega), shl_u64_32 (by omega) (by omega), or_add (by omega) (by omega) (by omega) (by omega), hA]; omega
      have i1 : inR ((n : Int) - 2) v.length = true := inR_t (by omega) (by omega)
      have i2 : inR ((n : Int) - 2) u.length = true := inR_t (by omega) (by omega)
      simp only [e3, i1, i2, e4, e5, cond_true, cond_false]
      by_cases hc : A < C
      · rw [dlt_t (Int.ofNat_lt.2 hc)]
        exact down (G.gtq g r hgr (by rw [← hA, ← hC]; exact hc))
      · rw [dlt_f (Int.ofNat_le.2 (Nat.le_of_not_lt hc))]
        exact ⟨g, rfl, hg', hq, G.near g r hgr hg' (by rw [← hA, ← hC]; exact Nat.le_of_not_lt hc)⟩
theorem Add32_ok {x y c : Int} (hx : 0 ≤ x) (hx' : x < 4294967296) (hy : 0 ≤ y) (hy' : y < 4294967296) (hc : 0 ≤ c) (hc' : c ≤ 1) : bits_Add32 x y c = some ((x + y + c) % 4294967296, (x + y + c) / 4294967296) := by
  unfold bits_Add32
  have e : wu64 ((wu64 ((wu64 x) + (wu64 y))) + (wu64 c)) = x + y + c := by
    rw [wu64_id (n := x) (by omega) (by omega), wu64_id (n := y) (by omega) (by omega), wu64_id (n := c) (by omega) (by omega), wu64_id (n := x + y) (by omega) (by omega), wu64_id (n := x + y + c) (by omega) (by omega)]
  simp only [e, shr_u64_32, wu32_mod]
  rw [Int.emod_eq_of_lt (a := (x + y + c) / 4294967296) (by omega) (by omega)]
theorem take_l1 (k : Nat) {v : List Int} (hv : Dig 4294967296 v) {n : Nat} (hn : v.length = n) (hbig : (n : Int) ≤ 1000000000) {g : Int} (g0 : 0 ≤ g) (g1 : g < 4294967296) : ∀ (m i : Nat) (u : List Int) (c b : Int), i ≤ n + 1 → n + 1 - i < m → u.length = n + 1 → Dig 4294967296 u → 0 ≤ c → c < 4294967296 → 0 ≤ b → b ≤ 1 → (i = n + 1 → c = 0) →
    ∃ u' b', natural_digit_ld.l1 k m u v n g c b ((n + 1 : Nat) : Int) i = some (.inl (u', v, (n : Int), g, b')) ∧ u'.length = n + 1 ∧ Dig 4294967296 u' ∧ 0 ≤ b' ∧ b' ≤ 1 ∧ ev 4294967296 u' - (4294967296 : Int) ^ (n + 1) * b' = ev 4294967296 u - (4294967296 : Int) ^ i * (c + b + g * ev 4294967296 (v.drop i)) := by
  intro m
  induction m with
  | zero => intro i u c b _ h; omega
  | succ m ih =>
    intro i u c b h1 h2 hul hd c0 c1 b0 b1 hend
    simp only [natural_digit_ld.l1, natural_digit_ld.b1]
    by_cases hi : i < n + 1
    · have hx := hd.getD (i := i) (by omega)
      have e1 : w64 ((i : Int) + 1) = ((i + 1 : Nat) : Int) := by rw [w64_id (by omega) (by omega)]; omega
      have step : ∀ (y C : Int), 0 ≤ y → y < 4294967296 → C = c + g * y → (n ≤ i → y = 0) → ev 4294967296 (v.drop i) = y + 4294967296 * ev 4294967296 (v.drop (i + 1)) →
          ∃ u' b', (bif inR (i : Int) (u.length : Int) then ((bits_Sub32 (rd u i) (wu32 C) b).bind fun t6 => bif inR (i : Int) (u.length : Int) then (natural_digit_ld.l1 k m (u.set (Int.toNat (i : Int)) t6.1) v n g (shrI .u64 C 32) t6.2 ((n + 1 : Nat) : Int) (w64 ((i : Int) + 1))) else none) else none) = some (.inl (u', v, (n : Int), g, b')) ∧
          u'.length = n + 1 ∧ Dig 4294967296 u' ∧ 0 ≤ b' ∧ b' ≤ 1 ∧ ev 4294967296 u' - (4294967296 : Int) ^ (n + 1) * b' = ev 4294967296 u - (4294967296 : Int) ^ i * (c + b + g * ev 4294967296 (v.drop i)) := by
        intro y C y0 y1 hC hy hvd
        have hgy := mul_bound g0 g1 y0 y1
        have C0 : 0 ≤ C := by omega
        have C1 : C ≤ 18446744073709551615 := by omega
        rw [inR_t (by omega) (by omega), rd_nat, wu32_mod, sub32_ok hx.1 hx.2 (by omega) (by omega) b0 b1, shr_u64_32, e1, natCast_toNat]
        simp only [cond_true, Option.bind_some]
        generalize hs : u.getD i 0 - C % 4294967296 - b = s at *
        generalize hw : (if u.getD i 0 < C % 4294967296 + b then (1 : Int) else 0) = w
        have hw' : 0 ≤ w ∧ w ≤ 1 ∧ s % 4294967296 = s + 4294967296 * w := by
          subst hw
          split <;> refine ⟨by omega, by omega, ?_⟩ <;> omega
        have hcm := Int.emod_add_mul_ediv C 4294967296
        obtain ⟨u', b', k1, k2, k3, k4, k5, k6⟩ := ih (i + 1) (u.set i (s % 4294967296)) (C / 4294967296) w (by omega) (by omega) (by simpa using hul) (hd.set (by omega) (by omega)) (by omega) (by omega) hw'.1 hw'.2.1 (fun h => by
          have hy0 := hy (by omega)
          subst hy0
          simp at hC
          omega)
        refine ⟨u', b', k1, k2, k3, k4, k5, ?_⟩
        rw [k6, ev_set _ (by omega), hvd, Int.pow_succ, hw'.2.2]
        generalize (4294967296 : Int) ^ i = p
        generalize ev 4294967296 (v.drop (i + 1)) = z
        generalize u.getD i 0 = x at *
        generalize C % 4294967296 = cm at *
        generalize C / 4294967296 = cd at *
        grind
      rw [dlt_t (by omega)]
      simp only [cond_true]
      by_cases hin : i < n
      · have hy := hv.getD (i := i) (by omega)
        have hgy := mul_bound g0 g1 hy.1 hy.2
        rw [dlt_t (by omega), inR_t (by omega) (by omega), rd_nat v, wu64_id (n := v.getD i 0) (by omega) (by omega), wu64_id (n := g * v.getD i 0) (by omega) (by omega), wu64_id (by omega) (by omega)]
        simp only [cond_true, joinB_inl]
        exact step (v.getD i 0) _ hy.1 hy.2 rfl (fun h => by omega) (by rw [drop_getD (by omega), ev_cons])
      · rw [dlt_f (by omega)]
        simp only [cond_false, joinB_inl]
        refine step 0 c (by omega) (by omega) (by simp) (fun _ => rfl) ?_
        rw [List.drop_eq_nil_of_le (by omega), List.drop_eq_nil_of_le (by omega)]; simp [ev]
    · have e1 : i = n + 1 := by omega
      have hc := hend e1
      subst e1 hc
      rw [dlt_f (by omega)]
      simp only [cond_false]
      refine ⟨u, b, rfl, hul, hd, b0, b1, ?_⟩
      rw [List.drop_eq_nil_of_le (by omega)]; simp [ev]
theorem back_l2 (k : Nat) {v : List Int} (hv : Dig 4294967296 v) {n : Nat} (hn : v.length = n) (hbig : (n : Int) ≤ 1000000000) (g : Int) : ∀ (m i : Nat) (u : List Int) (o : Int), i ≤ n → n - i < m → u.length = n + 1 → Dig 4294967296 u → 0 ≤ o → o ≤ 1 →
    ∃ u' o', natural_digit_ld.l2 k m u v n g o n i = some (.inl (u', (n : Int), g, o')) ∧ u'.length = n + 1 ∧ Dig 4294967296 u' ∧ 0 ≤ o' ∧ o' ≤ 1 ∧ ev 4294967296 u' + (4294967296 : Int) ^ n * o' = ev 4294967296 u + (4294967296 : Int) ^ i * (o + ev 4294967296 (v.drop i)) := by
  intro m
  induction m with
  | zero => intro i u o _ h; omega
  | succ m ih =>
    intro i u o h1 h2 hul hd o0 o1
    simp only [natural_digit_ld.l2, natural_digit_ld.b2]
    by_cases hi : i < n
    · have hx := hd.getD (i := i) (by omega)
      have hy := hv.getD (i := i) (by omega)
      have e1 : w64 ((i : Int) + 1) = ((i + 1 : Nat) : Int) := by rw [w64_id (by omega) (by omega)]; omega
      rw [dlt_t (by omega), inR_t (by omega) (by omega), inR_t (by omega) (by omega), rd_nat, rd_nat, Add32_ok hx.1 hx.2 hy.1 hy.2 o0 o1, e1, natCast_toNat]
      simp only [cond_true, Option.bind_some]
      generalize hs : u.getD i 0 + v.getD i 0 + o = s
      have hcm := Int.emod_add_mul_ediv s 4294967296
      obtain ⟨u', o', k1, k2, k3, k4, k5, k6⟩ := ih (i + 1) (u.set i (s % 4294967296)) (s / 4294967296) (by omega) (by omega) (by simpa using hul) (hd.set (by omega) (by omega)) (by omega) (by omega)
      refine ⟨u', o', k1, k2, k3, k4, k5, ?_⟩
      rw [k6, ev_set _ (by omega), drop_getD (l := v) (i := i) (by omega), ev_cons, Int.pow_succ]
      generalize (4294967296 : Int) ^ i = p
      generalize ev 4294967296 (v.drop (i + 1)) = z
      generalize u.getD i 0 = x at *
      generalize v.getD i 0 = y at *
      grind
    · have e1 : i = n := by omega
      subst e1
      rw [dlt_f (by omega)]
      simp only [cond_false]
      refine ⟨u, o, rfl, hul, hd, o0, o1, ?_⟩
      rw [List.drop_eq_nil_of_le (by omega)]; simp [ev]
theorem split_top {l : List Int} (hd : Dig 4294967296 l) {n : Nat} (hl : l.length = n + 2) : ∃ a b c : Nat, l.getD (n + 1) 0 = a ∧ l.getD n 0 = b ∧ ev 4294967296 (l.take n) = c ∧ a < 4294967296 ∧ b < 4294967296 ∧ c < 4294967296 ^ n ∧ ev 4294967296 l = (((a * 4294967296 + b) * 4294967296 ^ n + c : Nat) : Int) := by
  have ha := hd.getD (i := n + 1) (by omega)
  have hb := hd.getD (i := n) (by omega)
  obtain ⟨a, ea⟩ := Int.eq_ofNat_of_zero_le ha.1
  obtain ⟨b, eb⟩ := Int.eq_ofNat_of_zero_le hb.1
  obtain ⟨c, ec⟩ := Int.eq_ofNat_of_zero_le (ev_nonneg (b := 4294967296) (by decide) (hd.take n))
  have hc := ev_lt (b := 4294967296) (by decide) (hd.take n)
  rw [List.length_take, Nat.min_eq_left (by omega), ec] at hc
  refine ⟨a, b, c, ea, eb, ec, by omega, by omega, ?_, ?_⟩
  · have : ((4294967296 ^ n : Nat) : Int) = (4294967296 : Int) ^ n := by simp
    omega
  · have h1 : ev 4294967296 l = ev 4294967296 (l.take (n + 1 + 1)) := by rw [List.take_of_length_le (by omega)]
    rw [h1, ev_take (by omega), ev_take (by omega), ea, eb, ec, Int.pow_succ]
    simp only [Int.natCast_add, Int.natCast_mul, Int.natCast_pow]
    rw [show ((4294967296 : Nat) : Int) = 4294967296 by rfl]
    generalize (4294967296 : Int) ^ n = p
    grind
theorem digit_ok {k n U V : Nat} {u v : List Int} (hu : Dig 4294967296 u) (hv : Dig 4294967296 v) (hn : v.length = n + 2) (hul : u.length = n + 3) (hU : ev 4294967296 u = U) (hV : ev 4294967296 v = V) (htop : 2147483648 ≤ v.getD (n + 1) 0) (hUV : U < V * 4294967296) (hbig : (n : Int) ≤ 1000000) (hk : 20000000000 < k) :
    ∃ u', natural_digit_ld k u v = some (((U / V : Nat) : Int), u') ∧ u'.length = n + 3 ∧ Dig 4294967296 u' ∧ ev 4294967296 u' = ((U % V : Nat) : Int) := by
  obtain ⟨t, v2, vl, et, ev2, evl, tl, v2l, vll, hVs⟩ := split_top hv hn
  have hx := hu.getD (i := n + 2) (by omega)
  obtain ⟨u0, eu0⟩ := Int.eq_ofNat_of_zero_le hx.1
  have hu0 : u0 < 4294967296 := by omega
  -- the three highest limbs
  obtain ⟨u1, u2, ul, eu1, eu2, eul, u1l, u2l, ull, hUs⟩ := split_top (l := u.take (n + 2)) (hu.take _) (n := n) (by rw [List.length_take]; omega)
  have gt1 : (u.take (n + 2)).getD (n + 1) 0 = u.getD (n + 1) 0 := by simp [List.getD, List.getElem?_take]
  have gt2 : (u.take (n + 2)).getD n 0 = u.getD n 0 := by simp [List.getD, List.getElem?_take]
  rw [gt1] at eu1
  rw [gt2] at eu2
  have hU2 : U = ((u0 * 4294967296 + u1) * 4294967296 + u2) * 4294967296 ^ n + ul := by
    have h1 : ev 4294967296 u = ev 4294967296 (u.take (n + 2 + 1)) := by rw [List.take_of_length_le (by omega)]
    rw [h1, ev_take (by omega), hUs, eu0, Int.pow_succ, Int.pow_succ] at hU
    have h2 : (U : Int) = ((((u0 * 4294967296 + u1) * 4294967296 + u2) * 4294967296 ^ n + ul : Nat) : Int) := by
      rw [← hU]
      simp only [Int.natCast_add, Int.natCast_mul, Int.natCast_pow]
      rw [show ((4294967296 : Nat) : Int) = 4294967296 by rfl]
      generalize (4294967296 : Int) ^ n = p
      grind
    omega
  have hV2 : V = (t * 4294967296 + v2) * 4294967296 ^ n + vl := by rw [hVs] at hV; omega
  have hP : 0 < 4294967296 ^ n := Nat.pow_pos (by decide)
  have G := guess_of hP hU2 ull hV2 vll u2l v2l (by omega) hUV
  have hVpos : 0 < V := by
    have : 0 < (t * 4294967296 + v2) * 4294967296 ^ n := Nat.mul_pos (by omega) hP
    omega
  obtain ⟨H, hH⟩ : ∃ H : Nat, H = u0 * 4294967296 + u1 := ⟨_, rfl⟩
  rw [← hH] at G
  unfold natural_digit_ld
  rw [hn]
  have e1 : w64 (((n + 2 : Nat) : Int) - 1) = ((n + 1 : Nat) : Int) := by rw [w64_id (by omega) (by omega)]; omega
  have e2 : w64 (((n + 2 : Nat) : Int) + 1) = ((n + 2 + 1 : Nat) : Int) := by rw [w64_id (by omega) (by omega)]; omega
  have ehead : bitsOp .or .u64 (shlI .u64 (wu64 (u0 : Int)) 32) (wu64 (u1 : Int)) = (H : Int) := by
    rw [wu64_id (n := (u0 : Int)) (by omega) (by omega), wu64_id (n := (u1 : Int)) (by omega) (by omega), shl_u64_32 (by omega) (by omega), or_add (by omega) (by omega) (by omega) (by omega), hH]; omega
  rw [e1, inR_t (by omega) (by omega), inR_t (by omega) (by omega), inR_t (by omega) (by omega), rd_nat, rd_nat, rd_nat, eu0, eu1, et, ehead, wu64_id (n := (t : Int)) (by omega) (by omega)]
  simp only [cond_true]
  rw [not_zero (by omega)]
  simp only [cond_true]
  have hh : H < 4294967296 * 4294967296 := by
    have : (u0 + 1) * 4294967296 ≤ 4294967296 * 4294967296 := Nat.mul_le_mul_right _ (by omega)
    rw [Nat.add_mul] at this; omega
  have hdm := Nat.div_add_mod H t
  have hml := Nat.mod_lt H (show 0 < t by omega)
  have hdl : H / t < 17179869184 := by
    rw [Nat.div_lt_iff_lt_mul (by omega)]
    have : 4294967296 * 4294967296 ≤ 17179869184 * t := by
      have := Nat.mul_le_mul_left 17179869184 (show 2147483648 ≤ t by omega)
      omega
    omega
  clear hH
  have eq1 : wu64 (Int.tdiv (H : Int) (t : Int)) = ((H / t : Nat) : Int) := by
    rw [tdiv_nn (by omega), ← Int.natCast_ediv]
    generalize H / t = z at hdl ⊢
    exact wu64_id (by omega) (by omega)
  have eq2 : Int.tmod (H : Int) (t : Int) = ((H % t : Nat) : Int) := by
    rw [tmod_nn (by omega)]; simp
  rw [eq1, eq2]
  have hup := G.up
  obtain ⟨g, k1, k2, k3, k4⟩ := guess_l0 k G (u := u) (v := v) (n := n + 2) (by omega) (by omega) (by omega) (by omega) (by rw [show (((n + 2 : Nat) : Int) - 2) = (n : Int) by omega, rd_nat, ev2]) (by rw [show (((n + 2 : Nat) : Int) - 2) = (n : Int) by omega, rd_nat, eu2]) tl k (H / t) (H % t) (by omega) (by rw [Nat.mul_comm]; exact hdm) (by omega) (by rw [Nat.le_div_iff_mul_le (by omega)]; exact hup) hdl
  rw [k1]
  simp only [joinB_inl]
  obtain ⟨u', b', m1, m2, m3, m4, m5, m6⟩ := take_l1 k hv hn (by omega) (g := (g : Int)) (by omega) (by omega) k 0 u 0 0 (by omega) (by omega) hul hu (by omega) (by omega) (by omega) (by omega) (fun h => by omega)
  have m1' : natural_digit_ld.l1 k k u v ((n + 2 : Nat) : Int) g 0 0 ((n + 2 + 1 : Nat) : Int) 0 = _ := m1
  rw [e2, m1']
  simp only [joinB_inl]
  simp only [List.drop_zero, Int.pow_zero, hV, hU] at m6
  have hub := ev_lt (b := 4294967296) (by decide) m3
  have hun := ev_nonneg (b := 4294967296) (by decide) m3
  rw [m2] at hub
  have hqr : U = U / V * V + U % V := by have := Nat.div_add_mod U V; rw [Nat.mul_comm] at this; omega
  have hrl := Nat.mod_lt U hVpos
  generalize hq : U / V = q at *
  generalize hr : U % V = r at *
  have hgq : g = q ∨ g = q + 1 := by omega
  have hU3 : (U : Int) = (q : Int) * V + r := by rw [hqr]; simp
  by_cases hb : b' = 0
  · subst hb
    rw [bne_f rfl]
    simp only [cond_false]
    have hg : g = q := by
      rcases hgq with h | h
      · exact h
      · exfalso
        subst h
        have : ev 4294967296 u' = (r : Int) - V := by
          rw [hU3] at m6
          simp only [Int.natCast_add, Int.natCast_one] at m6
          grind
        omega
    subst hg
    refine ⟨u', ?_, m2, m3, ?_⟩
    · rw [wu32_id (by omega) (by omega)]
    · rw [hU3] at m6; grind
  · have hb1 : b' = 1 := by omega
    subst hb1
    rw [bne_t (by decide)]
    simp only [cond_true]
    have hg : g = q + 1 := by
      rcases hgq with h | h
      · exfalso
        subst h
        have : ev 4294967296 u' = (r : Int) + 4294967296 ^ (n + 2 + 1) := by rw [hU3] at m6; grind
        omega
      · exact h
    subst hg
    have e3 : wu64 (((q + 1 : Nat) : Int) - 1) = (q : Int) := by rw [wu64_id (by omega) (by omega)]; omega
    rw [e3]
    obtain ⟨u3, o, p1, p2, p3, p4, p5, p6⟩ := back_l2 k hv hn (by omega) (q : Int) k 0 u' 0 (by omega) (by omega) m2 m3 (by omega) (by omega)
    have p1' : natural_digit_ld.l2 k k u' v ((n + 2 : Nat) : Int) q 0 ((n + 2 : Nat) : Int) 0 = _ := p1
    rw [p1']
    simp only [joinB_inl]
    rw [inR_t (by omega) (by omega), natCast_toNat, rd_nat, wu32_id (n := (q : Int)) (by omega) (by omega)]
    simp only [cond_true]
    have hx3 := p3.getD (i := n + 2) (by omega)
    generalize hxx : u3.getD (n + 2) 0 = x3 at *
    have hcm := Int.emod_add_mul_ediv (x3 + o) 4294967296
    have hdig : Dig 4294967296 (u3.set (n + 2) (wu32 (x3 + o))) := p3.set (by rw [wu32_mod]; omega) (by rw [wu32_mod]; omega)
    refine ⟨_, rfl, by simpa using p2, hdig, ?_⟩
    have hfl := ev_lt (b := 4294967296) (by decide) hdig
    have hfn := ev_nonneg (b := 4294967296) (by decide) hdig
    simp only [List.length_set, p2] at hfl
    rw [ev_set _ (by omega), hxx, wu32_mod] at hfl hfn ⊢
    simp only [List.drop_zero, Int.pow_zero, hV] at p6
    have hpow : (4294967296 : Int) ^ (n + 2 + 1) = 4294967296 ^ (n + 2) * 4294967296 := Int.pow_succ ..
    have hpos : (0 : Int) < 4294967296 ^ (n + 2) := Int.pow_pos (by decide)
    rw [show n + 3 = n + 2 + 1 by omega] at hfl
    rw [hpow] at m6 hfl
    generalize (4294967296 : Int) ^ (n + 2) = p at *
    have hz0 : 0 ≤ (x3 + o) % 4294967296 ∧ (x3 + o) % 4294967296 < 4294967296 := by omega
    generalize (x3 + o) / 4294967296 = w at *
    generalize (x3 + o) % 4294967296 = z at *
    have hz : z = x3 + o - 4294967296 * w := by omega
    have hev : ev 4294967296 u3 + p * (z - x3) = r + p * 4294967296 * (1 - w) := by
      rw [hz]
      have h1 : ev 4294967296 u3 = ev 4294967296 u' + V - p * o := by omega
      rw [h1]
      have h2 : ev 4294967296 u' = p * 4294967296 * 1 + (q * V + r) - ((q + 1 : Nat) : Int) * V := by
        rw [hU3] at m6
        simp only [Int.natCast_add, Int.natCast_one] at m6 ⊢
        grind
      rw [h2]
      simp only [Int.natCast_add, Int.natCast_one]
      grind
    have hw : w = 1 := by
      have hw01 : w = 0 ∨ w = 1 := by omega
      rcases hw01 with h | h
      · exfalso
        subst h
        rw [hev] at hfl
        simp at hfl
        omega
      · exact h
    subst hw
    rw [hev]; simp
end Go.Pl
