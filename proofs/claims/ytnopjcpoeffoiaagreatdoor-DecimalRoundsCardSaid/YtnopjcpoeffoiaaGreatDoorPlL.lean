/- Long division, greatest common divisors.  Conditions: those that each theorem names. -/
import Derived.Test.YtnopjcpoeffoiaaGreatDoorPlK
set_option linter.unusedVariables false
set_option linter.unusedSimpArgs false
namespace Go.Pl
open Go Go.Ev Go.Sh
theorem dg_getD {b : Nat} (hb : 2 ≤ b) : ∀ (i z : Nat), (dg b z).getD i 0 = ((z / b ^ i % b : Nat) : Int) := by
  intro i
  induction i with
  | zero =>
    intro z
    rcases Nat.eq_zero_or_pos z with h | h
    · subst h; simp [dg_zero]
    · rw [dg_pos hb h]; simp
  | succ i ih =>
    intro z
    rcases Nat.eq_zero_or_pos z with h | h
    · subst h; simp [dg_zero]
    · rw [dg_pos hb h, List.getD_cons_succ, ih, Nat.div_div_eq_div_mul, Nat.pow_succ, Nat.mul_comm]
theorem div_pad_l0 (k : Nat) (a : List Int) (n s : Int) (v : List Int) (hbig : (a.length : Int) ≤ 1000000) : ∀ (m : Nat) (u : List Int), a.length + 1 - u.length < m → u.length ≤ a.length + 1 →
    natural_divide.l0 k m a n s v u = some (.inl (n, s, v, u ++ List.replicate (a.length + 1 - u.length) 0)) := by
  intro m
  induction m with
  | zero => intro u h; omega
  | succ m ih =>
    intro u h1 h2
    simp only [natural_divide.l0, natural_divide.b0]
    by_cases hu : u.length ≤ a.length
    · rw [dle_t (by omega)]
      simp only [cond_true, List.length_singleton]
      rw [fits_t (by omega)]
      simp only [cond_true]
      rw [ih (u ++ [0]) (by simp; omega) (by simp; omega), show a.length + 1 - u.length = (a.length + 1 - (u ++ [0]).length) + 1 by simp; omega, List.replicate_succ]
      simp
    · rw [dle_f (by omega)]
      have : a.length + 1 - u.length = 0 := by omega
      rw [this]; simp
theorem sub_nat (l : List Int) (o n : Nat) : Ev.sub l (o : Int) (n : Int) = (l.drop o).take n := rfl
theorem splice_nat (l m : List Int) (o : Nat) : splice l (o : Int) m = l.take o ++ m ++ l.drop (o + m.length) := rfl
theorem ev_split {b : Int} (l : List Int) (n : Nat) (h : n ≤ l.length) : ev b l = ev b (l.take n) + b ^ n * ev b (l.drop n) := by
  have := ev_app (b := b) (l.take n) (l.drop n)
  rw [List.take_append_drop, List.length_take, Nat.min_eq_left h] at this
  exact this
theorem high_zero {l : List Int} (hd : Dig 4294967296 l) (n : Nat) (h : n ≤ l.length) (hl : ev 4294967296 l < (4294967296 : Int) ^ n) : ev 4294967296 (l.drop n) = 0 ∧ ev 4294967296 (l.take n) = ev 4294967296 l := by
  have h1 := ev_split (b := 4294967296) l n h
  have h2 := ev_nonneg (b := 4294967296) (by decide) (hd.drop n)
  have h3 := ev_nonneg (b := 4294967296) (by decide) (hd.take n)
  have h4 : ev 4294967296 (l.drop n) = 0 := by
    rcases Int.lt_or_le 0 (ev 4294967296 (l.drop n)) with h | h
    · have : (4294967296 : Int) ^ n * 1 ≤ (4294967296 : Int) ^ n * ev 4294967296 (l.drop n) := Int.mul_le_mul_of_nonneg_left (by omega) (Int.le_of_lt (Int.pow_pos (by decide)))
      omega
    · omega
  rw [h4] at h1
  exact ⟨h4, by simp at h1; omega⟩
theorem div_l1 (k : Nat) (hk : 20000000000 < k) {u0 v : List Int} {n V : Nat} (hv : Dig 4294967296 v) (hn : v.length = n + 2) (hV : ev 4294967296 v = V) (htop : 2147483648 ≤ v.getD (n + 1) 0) (hu0 : Dig 4294967296 u0) (s : Int) (hL : n + 2 ≤ u0.length) (hbig : (u0.length : Int) ≤ 1000000) : ∀ (m : Nat) (j : Int) (u out : List Int), -1 ≤ j → j + (n + 2) < u0.length → (j + 1).toNat < m → u.length = u0.length → out.length = u0.length - (n + 2) → Dig 4294967296 u → Dig 4294967296 out →
    u.take (j + 1).toNat = u0.take (j + 1).toNat → ev 4294967296 (u.drop (j + 1).toNat) < V → ev 4294967296 (u0.drop (j + 1).toNat) = V * ev 4294967296 (out.drop (j + 1).toNat) + ev 4294967296 (u.drop (j + 1).toNat) →
    ∃ u' out', natural_divide.l1 k m ((n + 2 : Nat) : Int) s v u out j = some (.inl (((n + 2 : Nat) : Int), s, u', out')) ∧ u'.length = u0.length ∧ out'.length = u0.length - (n + 2) ∧ Dig 4294967296 u' ∧ Dig 4294967296 out' ∧ ev 4294967296 u' < V ∧ ev 4294967296 u0 = V * ev 4294967296 out' + ev 4294967296 u' := by
  intro m
  induction m with
  | zero => intro j u out _ _ h; omega
  | succ m ih =>
    intro j u out h1 h2 h3 hul hol hud hod htk hlt hev
    simp only [natural_divide.l1, natural_divide.b1]
    by_cases hj : 0 ≤ j
    · obtain ⟨i, rfl⟩ : ∃ i : Nat, j = i := ⟨j.toNat, by omega⟩
      have e0 : ((i : Int) + 1).toNat = i + 1 := by omega
      rw [e0] at htk hlt hev
      have e1 : w64 ((w64 ((i : Int) + ((n + 2 : Nat) : Int))) + 1) = ((i + (n + 2) + 1 : Nat) : Int) := by rw [w64_id (n := (i : Int) + _) (by omega) (by omega), w64_id (by omega) (by omega)]; omega
      have e2 : w64 ((i : Int) - 1) = (i : Int) - 1 := w64_id (by omega) (by omega)
      rw [e1, e2, dle_t (by omega), dle_t (by omega), dle_t (by omega)]
      simp only [cond_true, Bool.and_self]
      have e3 : ((i + (n + 2) + 1 : Nat) : Int) - i = ((n + 3 : Nat) : Int) := by omega
      rw [e3, sub_nat]
      -- the window
      have hx := hud.getD (i := i) (by omega)
      have hdrop := drop_getD (l := u) (i := i) (by omega)
      have hWd : Dig 4294967296 (u.drop i) := hud.drop i
      have hEv : ev 4294967296 (u.drop i) = u.getD i 0 + 4294967296 * ev 4294967296 (u.drop (i + 1)) := by rw [hdrop, ev_cons]
      have hR0 := ev_nonneg (b := 4294967296) (by decide) (hud.drop (i + 1))
      have hVl := ev_lt (b := 4294967296) (by decide) hv
      rw [hn, hV] at hVl
      have hEl : ev 4294967296 (u.drop i) < (4294967296 : Int) ^ (n + 3) := by
        rw [hEv, show n + 3 = (n + 2) + 1 by omega, Int.pow_succ]
        omega
      obtain ⟨z1, z2⟩ := high_zero hWd (n + 3) (by rw [List.length_drop]; omega) hEl
      obtain ⟨W, hW⟩ := Int.eq_ofNat_of_zero_le (ev_nonneg (b := 4294967296) (by decide) hWd)
      have hWV : W < V * 4294967296 := by omega
      obtain ⟨w', d1, d2, d3, d4⟩ := digit_ok (k := k) (hWd.take (n + 3)) hv hn (by rw [List.length_take, List.length_drop]; omega) (z2.trans hW) hV htop hWV (by omega) hk
      rw [d1]
      simp only [Option.bind_some]
      rw [inR_t (by omega) (by omega), natCast_toNat, splice_nat, d2]
      simp only [cond_true]
      have hVpos : 0 < V := by
        rcases Nat.eq_zero_or_pos V with h | h
        · subst h; omega
        · exact h
      have hmod := Nat.mod_lt W hVpos
      have hdm := Nat.div_add_mod W V
      have hql : W / V < 4294967296 := by rw [Nat.div_lt_iff_lt_mul hVpos, Nat.mul_comm]; exact hWV
      have hdd : (u.drop i).drop (n + 3) = u.drop (i + (n + 3)) := by rw [List.drop_drop]
      rw [hdd] at z1
      have hud' : Dig 4294967296 (u.take i ++ w' ++ u.drop (i + (n + 3))) := ((hud.take i).app d3).app (hud.drop _)
      have ht1 : (u.take i).length = i := by rw [List.length_take]; omega
      have htk' : (u.take i ++ w' ++ u.drop (i + (n + 3))).take i = u.take i := by
        rw [List.append_assoc, List.take_append_of_le_length (by omega), List.take_of_length_le (by omega)]
      have hdk' : (u.take i ++ w' ++ u.drop (i + (n + 3))).drop i = w' ++ u.drop (i + (n + 3)) := by
        rw [List.append_assoc, List.drop_append_of_le_length (by omega), List.drop_of_length_le (by omega), List.nil_append]
      have hevd : ev 4294967296 (w' ++ u.drop (i + (n + 3))) = ((W % V : Nat) : Int) := by rw [ev_app, z1, d4]; simp
      have e4 : ((i : Int) - 1 + 1).toNat = i := by omega
      have hq0 : (0 : Int) ≤ ((W / V : Nat) : Int) := Int.natCast_nonneg _
      have hui : u0.getD i 0 = u.getD i 0 := by
        have h5 := congrArg (fun l => l.getD i 0) htk
        simpa [List.getD, List.getElem?_take] using h5.symm
      have htk2 : u.take i = u0.take i := by
        have h5 := congrArg (List.take i) htk
        simpa [List.take_take] using h5
      refine ih ((i : Int) - 1) _ _ (by omega) (by omega) (by omega) (by simp only [List.length_append, List.length_take, List.length_drop, d2]; omega) (by simpa using hol) hud' (hod.set hq0 (show ((W / V : Nat) : Int) < ((4294967296 : Nat) : Int) from Int.ofNat_lt.2 hql)) ?_ ?_ ?_
      · rw [e4, htk', htk2]
      · rw [e4, hdk', hevd]; omega
      · rw [e4, hdk', hevd, drop_set _ (by omega), ev_cons, drop_getD (l := u0) (i := i) (by omega), ev_cons, hev, hui]
        have h6 : (W : Int) = u.getD i 0 + 4294967296 * ev 4294967296 (u.drop (i + 1)) := by rw [← hW, hEv]
        have h7 : (W : Int) = V * ((W / V : Nat) : Int) + ((W % V : Nat) : Int) := by
          have := congrArg (Nat.cast (R := Int)) hdm
          simp only [Int.natCast_add, Int.natCast_mul] at this
          exact this.symm
        generalize ((W / V : Nat) : Int) = q at *
        generalize ((W % V : Nat) : Int) = r at *
        generalize ev 4294967296 (u.drop (i + 1)) = R at *
        generalize ev 4294967296 (out.drop (i + 1)) = Q at *
        generalize u.getD i 0 = x at *
        grind
    · have hj0 : j = -1 := by omega
      subst hj0
      rw [dle_f (by omega)]
      simp only [cond_false]
      have e0 : ((-1 : Int) + 1).toNat = 0 := by decide
      rw [e0] at hlt hev
      exact ⟨u, out, rfl, hul, hol, hud, hod, by simpa using hlt, by simpa using hev⟩
theorem LeadingZeros_ok {x : Int} (h0 : 0 < x) (h : x < 4294967296) : ∃ s : Nat, bits_LeadingZeros32 x = some (s : Int) ∧ s < 32 ∧ 2147483648 ≤ x * 2 ^ s ∧ x * 2 ^ s < 4294967296 := by
  obtain ⟨n, e, n1, n2, n3, n4⟩ := Len32_ok h0 h
  unfold bits_LeadingZeros32
  rw [e]
  simp only [Option.bind_some]
  rw [w64_id (by omega) (by omega)]
  have hp : (0 : Int) < 2 ^ (32 - n) := Int.pow_pos (by decide)
  refine ⟨32 - n, by congr 1; omega, by omega, ?_, ?_⟩
  · have h1 := Int.mul_le_mul_of_nonneg_right n3 (Int.le_of_lt hp)
    rw [← Int.pow_add, show n - 1 + (32 - n) = 31 by omega] at h1
    exact h1
  · have h1 := Int.mul_lt_mul_of_pos_right n4 hp
    rw [← Int.pow_add, show n + (32 - n) = 32 by omega] at h1
    exact h1
theorem lt_pow_len {z n : Nat} (h1 : (dg 4294967296 z).length = n + 1) : 4294967296 ^ n ≤ z ∧ z < 4294967296 ^ (n + 1) ∧ 0 < z / 4294967296 ^ n ∧ z / 4294967296 ^ n < 4294967296 := by
  have h2 : ¬ z < 4294967296 ^ n := fun h => by have := dg_len hB32 h; omega
  have h3 := (dg_len_iff hB32).1 (Nat.le_of_eq h1)
  have h4 : 0 < 4294967296 ^ n := Nat.pow_pos (by decide)
  refine ⟨Nat.le_of_not_lt h2, h3, Nat.div_pos (Nat.le_of_not_lt h2) h4, ?_⟩
  rw [Nat.div_lt_iff_lt_mul h4, Nat.mul_comm, ← Nat.pow_succ]; exact h3
theorem divide_ok {k x y n : Nat} (hn : (dg 4294967296 y).length = n + 2) (hxy : y ≤ x) (hx : ((dg 4294967296 x).length : Int) ≤ 100000) (hk : 20000000000 < k) : natural_divide k (dg 4294967296 x) (dg 4294967296 y) = some (dg 4294967296 (x / y), dg 4294967296 (x % y)) := by
  have hly : (dg 4294967296 y).length ≤ (dg 4294967296 x).length := len_le_of_le hB32 hxy
  obtain ⟨y1, y2, y3, y4⟩ := lt_pow_len (n := n + 1) hn
  have htopy : (dg 4294967296 y).getD (n + 1) 0 = ((y / 4294967296 ^ (n + 1) : Nat) : Int) := by rw [dg_getD hB32, Nat.mod_eq_of_lt y4]
  obtain ⟨s, s1, s2, s3, s4⟩ := LeadingZeros_ok (x := ((y / 4294967296 ^ (n + 1) : Nat) : Int)) (by omega) (by omega)
  have hsp : 0 < 2 ^ s := Nat.pow_pos (by decide)
  obtain ⟨T, hT⟩ : ∃ T, T = y / 4294967296 ^ (n + 1) := ⟨_, rfl⟩
  rw [← hT] at s1 s3 s4 y3 y4 htopy
  have hP : 0 < 4294967296 ^ (n + 1) := Nat.pow_pos (by decide)
  -- the shifted divisor
  have s3' : 2147483648 ≤ T * 2 ^ s := by
    have : ((T * 2 ^ s : Nat) : Int) = (T : Int) * 2 ^ s := by simp
    omega
  have s4' : T * 2 ^ s < 4294967296 := by
    have : ((T * 2 ^ s : Nat) : Int) = (T : Int) * 2 ^ s := by simp
    omega
  have hTlo : T * 4294967296 ^ (n + 1) ≤ y := by rw [hT]; exact Nat.div_mul_le_self _ _
  have hThi : y < (T + 1) * 4294967296 ^ (n + 1) := by rw [hT]; have := Nat.lt_div_mul_add (a := y) hP; rw [Nat.add_mul]; omega
  have hVlo : 2147483648 * 4294967296 ^ (n + 1) ≤ y * 2 ^ s := by
    have h1 := Nat.mul_le_mul_right (2 ^ s) hTlo
    have h2 : T * 4294967296 ^ (n + 1) * 2 ^ s = T * 2 ^ s * 4294967296 ^ (n + 1) := by rw [Nat.mul_right_comm]
    have h3 := Nat.mul_le_mul_right (4294967296 ^ (n + 1)) s3'
    omega
  have hTs : (T + 1) * 2 ^ s ≤ 4294967296 := by
    -- both are multiples of the power
    have hB := two_mul_pow (s := s) (by omega)
    rw [hB, Nat.mul_comm (2 ^ s)] at s4' ⊢
    have := Nat.lt_of_mul_lt_mul_right s4'
    exact Nat.mul_le_mul_right _ this
  have hVhi : y * 2 ^ s < 4294967296 ^ (n + 1 + 1) := by
    have h1 := Nat.mul_lt_mul_of_pos_right hThi hsp
    have h2 : (T + 1) * 4294967296 ^ (n + 1) * 2 ^ s = (T + 1) * 2 ^ s * 4294967296 ^ (n + 1) := by rw [Nat.mul_right_comm]
    have h3 := Nat.mul_le_mul_right (4294967296 ^ (n + 1)) hTs
    rw [Nat.pow_succ, Nat.mul_comm (4294967296 ^ (n + 1))]
    omega
  have hvlen : (dg 4294967296 (y * 2 ^ s)).length = n + 2 := by
    have h1 := dg_len hB32 hVhi
    have h2 : ¬ (dg 4294967296 (y * 2 ^ s)).length ≤ n + 1 := fun h => by have := (dg_len_iff hB32).1 h; omega
    omega
  have hvtop : 2147483648 ≤ (dg 4294967296 (y * 2 ^ s)).getD (n + 1) 0 := by
    obtain ⟨_, _, _, v4⟩ := lt_pow_len (n := n + 1) hvlen
    rw [dg_getD hB32, Nat.mod_eq_of_lt v4]
    have : 2147483648 ≤ y * 2 ^ s / 4294967296 ^ (n + 1) := by rw [Nat.le_div_iff_mul_le hP]; exact hVlo
    omega
  -- the shifted dividend
  have hxl := dg_lt (b := 4294967296) hB32 (n := x)
  have h2s : 2 ^ s ≤ 4294967296 := by
    have := Nat.pow_le_pow_right (n := 2) (by decide) (show s ≤ 32 by omega)
    have e : (2 : Nat) ^ 32 = 4294967296 := by decide
    omega
  have hul : (dg 4294967296 (x * 2 ^ s)).length ≤ (dg 4294967296 x).length + 1 := dg_len hB32 (by
    rw [Nat.pow_succ]
    exact Nat.lt_of_lt_of_le (Nat.mul_lt_mul_of_pos_right hxl hsp) (Nat.mul_le_mul_left _ h2s))
  unfold natural_divide
  have e1 : w64 (((dg 4294967296 y).length : Int) - 1) = ((n + 1 : Nat) : Int) := by rw [hn, w64_id (by omega) (by omega)]; omega
  rw [e1, inR_t (by omega) (by omega), rd_nat, htopy, s1]
  simp only [cond_true, Option.bind_some]
  rw [left_ok (by omega) (by omega) (by omega), left_ok (by omega) (by omega) (by omega)]
  simp only [Option.bind_some]
  rw [div_pad_l0 k (dg 4294967296 x) _ _ _ (by omega) k _ (by omega) hul]
  simp only [joinB_inl]
  obtain ⟨u0, hu0⟩ : ∃ u0, u0 = dg 4294967296 (x * 2 ^ s) ++ List.replicate ((dg 4294967296 x).length + 1 - (dg 4294967296 (x * 2 ^ s)).length) 0 := ⟨_, rfl⟩
  have hu0l : u0.length = (dg 4294967296 x).length + 1 := by rw [hu0]; simp; omega
  have hu0d : Dig 4294967296 u0 := by rw [hu0]; exact (dd32 _).app (fun z hz => by have := List.eq_of_mem_replicate hz; omega)
  have hu0e : ev 4294967296 u0 = ((x * 2 ^ s : Nat) : Int) := by rw [hu0, ev_app, ev_zeros, de32]; simp
  rw [← hu0, hu0l, hn]
  have e2 : w64 ((((dg 4294967296 x).length + 1 : Nat) : Int) - ((n + 2 : Nat) : Int)) = (((dg 4294967296 x).length + 1 - (n + 2) : Nat) : Int) := by rw [w64_id (by omega) (by omega)]; omega
  rw [e2, dle_t (by omega), dle_t (by omega), natCast_toNat, fits_t (by omega), w64_id (n := _ - 1) (by omega) (by omega)]
  simp only [Bool.and_self, cond_true]
  have hstart : ((((dg 4294967296 x).length + 1 - (n + 2) : Nat) : Int) - 1 + 1).toNat = (dg 4294967296 x).length + 1 - (n + 2) := by omega
  have hxs : x * 2 ^ s < 4294967296 ^ ((dg 4294967296 x).length + 1 - (n + 2)) * (y * 2 ^ s) := by
    -- x < B^(la) = B^(la + 1 - (n + 2)) * B^(n + 1) ≤ that times y
    have h1 : 4294967296 ^ (dg 4294967296 x).length = 4294967296 ^ ((dg 4294967296 x).length + 1 - (n + 2)) * 4294967296 ^ (n + 1) := by rw [← Nat.pow_add]; congr 1; omega
    rw [h1] at hxl
    have h2 := Nat.lt_of_lt_of_le hxl (Nat.mul_le_mul_left _ y1)
    rw [← Nat.mul_assoc]
    exact Nat.mul_lt_mul_of_pos_right h2 hsp
  obtain ⟨u', out', d1, d2, d3, d4, d5, d6, d7⟩ := div_l1 k hk (u0 := u0) (v := dg 4294967296 (y * 2 ^ s)) (n := n) (V := y * 2 ^ s) (dd32 _) hvlen (de32 _) hvtop hu0d (s : Int) (by omega) (by omega) k ((((dg 4294967296 x).length + 1 - (n + 2) : Nat) : Int) - 1) u0 (List.replicate ((dg 4294967296 x).length + 1 - (n + 2)) 0) (by omega) (by omega) (by omega) rfl (by rw [hu0l]; simp) hu0d (fun z hz => by have := List.eq_of_mem_replicate hz; omega) rfl (by
      rw [hstart]
      have h5 : ev (4294967296 : Int) (u0.drop ((dg 4294967296 x).length + 1 - (n + 2))) = ((x * 2 ^ s / 4294967296 ^ ((dg 4294967296 x).length + 1 - (n + 2)) : Nat) : Int) := ev_drop hB32 hu0d hu0e _
      rw [h5]
      have : x * 2 ^ s / 4294967296 ^ ((dg 4294967296 x).length + 1 - (n + 2)) < y * 2 ^ s := by
        rw [Nat.div_lt_iff_lt_mul (Nat.pow_pos (by decide)), Nat.mul_comm (y * 2 ^ s)]; exact hxs
      omega) (by
      rw [hstart, List.drop_of_length_le (l := List.replicate _ _) (by simp)]; simp [ev])
  rw [d1]
  simp only [joinB_inl]
  rw [trim_v (by omega) (by omega)]
  simp only [Option.bind_some]
  have hVl := hVhi
  have hd4l : ev 4294967296 u' < (4294967296 : Int) ^ (n + 2) := by
    have : ((4294967296 ^ (n + 1 + 1) : Nat) : Int) = (4294967296 : Int) ^ (n + 2) := by simp
    omega
  obtain ⟨z1, z2⟩ := high_zero d4 (n + 2) (by omega) hd4l
  obtain ⟨q, hq⟩ := Int.eq_ofNat_of_zero_le (ev_nonneg (b := 4294967296) (by decide) d5)
  obtain ⟨r, hr⟩ := Int.eq_ofNat_of_zero_le (ev_nonneg (b := 4294967296) (by decide) d4)
  have hNat : x * 2 ^ s = (y * 2 ^ s) * q + r := by
    have : ((x * 2 ^ s : Nat) : Int) = (((y * 2 ^ s) * q + r : Nat) : Int) := by rw [← hu0e, d7, hq, hr]; simp
    omega
  obtain ⟨hq', hr'⟩ := divmod_unique hNat (by omega)
  rw [Nat.mul_div_mul_right _ _ hsp] at hq'
  rw [Nat.mul_mod_mul_right] at hr'
  have hs1 : Ev.sub u' 0 (((n + 2 : Nat) : Int) - 0) = u'.take (n + 2) := by
    rw [Int.sub_zero]
    show (u'.drop 0).take (n + 2) = _
    rw [List.drop_zero]
  rw [z_le, dle_t (by omega), dle_t (by omega)]
  simp only [Bool.and_self, cond_true]
  rw [hs1, trim_v (by rw [List.length_take]; omega) (by rw [List.length_take]; omega)]
  simp only [Option.bind_some]
  have hnr : nrm (u'.take (n + 2)) = dg 4294967296 r := nd32 (d4.take _) (z2.trans hr)
  have hsub : Ev.sub u' (0 + 0) ((nrm (u'.take (n + 2))).length : Int) = dg 4294967296 r := by
    show (u'.drop 0).take ((nrm (u'.take (n + 2))).length : Int).toNat = _
    rw [List.drop_zero, natCast_toNat]
    have h1 := nrm_take (u'.take (n + 2))
    rw [List.take_take, Nat.min_eq_left (by
      have := congrArg List.length h1
      rw [List.length_take] at this
      omega)] at h1
    rw [← h1, hnr]
  rw [hsub, right_ok (dd32 r) (de32 r) (by
    have hrV : r < y * 2 ^ s := by omega
    have : (dg 4294967296 r).length ≤ n + 2 := dg_len hB32 (Nat.lt_trans hrV hVhi)
    omega) (by omega) (by omega)]
  simp only [Option.bind_some]
  have hsub2 : Ev.sub out' 0 ((nrm out').length : Int) = dg 4294967296 q := by
    rw [sub_nrm, nd32 d5 hq]
  rw [hsub2, hq', hr', Nat.mul_div_cancel _ hsp]
theorem divMod_ok {k x y : Nat} (hy : 0 < y) (hx : ((dg 4294967296 x).length : Int) ≤ 100000) (hy' : ((dg 4294967296 y).length : Int) ≤ 100000) (hk : 20000000000 < k) : natural_divMod k (dg 4294967296 x) (dg 4294967296 y) = some (dg 4294967296 (x / y), dg 4294967296 (x % y)) := by
  unfold natural_divMod
  obtain ⟨c, h1, h2, h3⟩ := compare_ok (k := k) (x := x) (y := y) (by omega) (by omega) (by omega)
  rw [h1]
  simp only [Option.bind_some]
  by_cases hlt : x < y
  · rw [dlt_t (h2.2 hlt), clone_ok (by omega), Nat.div_eq_of_lt hlt, Nat.mod_eq_of_lt hlt]
    rfl
  · rw [dlt_f (by have := mt h2.1 hlt; omega)]
    simp only [cond_false]
    have hpos := (dg_len_pos hB32).2 hy
    by_cases hl : (dg 4294967296 y).length = 1
    · have hyB : y < 4294967296 := by have := (dg_len_iff hB32).1 (Nat.le_of_eq hl); simpa using this
      have hy1 : dg 4294967296 y = [(y : Int)] := one_small' hyB hy
      rw [beq_t (by omega), inR_t (by omega) (by omega)]
      simp only [cond_true]
      have hrd : rd (dg 4294967296 y) 0 = y := by rw [hy1]; rfl
      rw [hrd, short_ok hy hyB (by omega) (by omega)]
      simp only [Option.bind_some]
      rw [trim_v (by simp) (by simp; omega)]
      simp only [Option.bind_some]
      have hm := Nat.mod_lt x hy
      rw [sub_nrm, one_limb' (by omega)]
    · rw [beq_f (by omega)]
      simp only [cond_false]
      rw [divide_ok (n := (dg 4294967296 y).length - 2) (by omega) (by omega) hx hk]
      rfl
where
  one_small' {d : Nat} (hd : d < 4294967296) (h0 : 0 < d) : dg 4294967296 d = [(d : Int)] := by
    rw [dg_pos hB32 h0, Nat.mod_eq_of_lt hd, Nat.div_eq_of_lt hd, dg_zero]
  one_limb' {d : Nat} (hd : d < 4294967296) : nrm [(d : Int)] = dg 4294967296 d := nd32 (Dig.one (by omega) (by omega)) (by simp [ev])
theorem DivMod_ok {k x y : Nat} (hx : x < lim) (hy : y < lim) (hk : 20000000000 < k) : natural_DivMod k (dg 4294967296 x) (dg 4294967296 y) = some (if y = 0 then ([], [], 22, -2) else (dg 4294967296 (x / y), dg 4294967296 (x % y), 0, 0)) := by
  unfold natural_DivMod
  have l1 := len600 hx
  have l2 := len600 hy
  rw [check_ok hx hy]
  simp only [Option.bind_some, bne_f rfl, cond_false]
  rcases Nat.eq_zero_or_pos y with h | h
  · subst h; rfl
  · have := (dg_len_pos hB32).2 h
    rw [beq_f (by omega), divMod_ok h (by omega) (by omega) hk, if_neg (by omega)]
    rfl
end Go.Pl
