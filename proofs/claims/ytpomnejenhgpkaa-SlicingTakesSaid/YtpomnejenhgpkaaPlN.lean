/- Binary digits, shifts and square roots.  Conditions: those that each theorem names. -/
import Derived.Test.YtpomnejenhgpkaaPlL
import Derived.Test.YtpomnejenhgpkaaPlG
set_option linter.unusedVariables false
set_option linter.unusedSimpArgs false
namespace Go.Pl
open Go Go.Ev Go.Sh
theorem bl_unique {x m : Nat} (h : 2 ^ m ≤ x) (h' : x < 2 ^ (m + 1)) : (dg 2 x).length = m + 1 := by
  have h1 := dg_len (b := 2) (by decide) h'
  have h2 : ¬ (dg 2 x).length ≤ m := fun hl => by have := (dg_len_iff (b := 2) (by decide)).1 hl; omega
  omega
theorem Bits_ok {x : Nat} (hx : x < lim) : natural_Bits (dg 4294967296 x) = some (((dg 2 x).length : Int), 0, 0) := by
  unfold natural_Bits
  have l1 := len600 hx
  rw [valid_dg' hx]
  simp only [Option.bind_some, Bool.not_true, cond_false]
  rcases Nat.eq_zero_or_pos x with h | h
  · subst h; rfl
  · have hpos := (dg_len_pos hB32).2 h
    obtain ⟨n, hn⟩ : ∃ n, (dg 4294967296 x).length = n + 1 := ⟨(dg 4294967296 x).length - 1, by omega⟩
    obtain ⟨x1, x2, x3, x4⟩ := lt_pow_len hn
    have e1 : w64 (((dg 4294967296 x).length : Int) - 1) = (n : Int) := by rw [hn, w64_id (by omega) (by omega)]; omega
    have htop : rd (dg 4294967296 x) (n : Int) = ((x / 4294967296 ^ n : Nat) : Int) := by rw [rd_nat, dg_getD hB32, Nat.mod_eq_of_lt x4]
    obtain ⟨T, hT⟩ : ∃ T, T = x / 4294967296 ^ n := ⟨_, rfl⟩
    rw [← hT] at htop x3 x4
    have hP : 0 < 4294967296 ^ n := Nat.pow_pos (by decide)
    obtain ⟨s, s1, s2, s3, s4, s5⟩ := Len32_ok (x := (T : Int)) (by omega) (by omega)
    rw [beq_f (by omega), e1, inR_t (by omega) (by omega), htop, s1]
    simp only [cond_false, cond_true, Option.bind_some]
    rw [w64_id (n := 32 * (n : Int)) (by omega) (by omega), w64_id (by omega) (by omega)]
    have hlen : (dg 2 x).length = 32 * n + s := by
      obtain ⟨p, rfl⟩ : ∃ p, s = p + 1 := ⟨s - 1, by omega⟩
      rw [Nat.add_sub_cancel] at s4
      have s4' : 2 ^ p ≤ T := by
        have : ((2 ^ p : Nat) : Int) = 2 ^ p := by simp
        omega
      have s5' : T < 2 ^ (p + 1) := by
        have : ((2 ^ (p + 1) : Nat) : Int) = 2 ^ (p + 1) := by simp
        omega
      have hpw : 4294967296 ^ n = 2 ^ (32 * n) := by rw [Nat.pow_mul]
      have h1 : T * 4294967296 ^ n ≤ x := by rw [hT]; exact Nat.div_mul_le_self _ _
      have h2 : x < (T + 1) * 4294967296 ^ n := by rw [hT]; have := Nat.lt_div_mul_add (a := x) hP; rw [Nat.add_mul]; omega
      rw [← Nat.add_assoc]
      apply bl_unique
      · rw [Nat.pow_add, ← hpw, Nat.mul_comm]
        exact Nat.le_trans (Nat.mul_le_mul_right _ s4') h1
      · rw [show 32 * n + p + 1 = 32 * n + (p + 1) by omega, Nat.pow_add, ← hpw, Nat.mul_comm]
        exact Nat.lt_of_lt_of_le h2 (Nat.mul_le_mul_right _ s5')
    rw [hlen]; congr 2
theorem Bits_no {a : List Int} (h : natural_Valid a = some false) : natural_Bits a = some (0, 6, -1) := by
  unfold natural_Bits
  rw [h]; rfl
theorem lim_two : lim = 2 ^ (32 * e600) := by rw [lim_def, Nat.pow_mul]
theorem bl_lim {x : Nat} (hx : x < lim) : (dg 2 x).length ≤ 19200 := by
  have := lim_dg (b := 2) (by decide) hx
  have := e600_eq
  omega
def moved (x : Nat) (n : Int) : Nat := if n < 0 then x / 2 ^ (-n).toNat else x * 2 ^ n.toNat
theorem div_big {x m : Nat} (h : (dg 2 x).length ≤ m) : x / 2 ^ m = 0 := Nat.div_eq_of_lt ((dg_len_iff (b := 2) (by decide)).1 h)
theorem root_ex : ∀ a : Nat, ∃ r, r * r ≤ a ∧ a < (r + 1) * (r + 1) := by
  intro a
  induction a with
  | zero => exact ⟨0, by simp, by simp⟩
  | succ a ih =>
    obtain ⟨r, h1, h2⟩ := ih
    by_cases h : a + 1 < (r + 1) * (r + 1)
    · exact ⟨r, by omega, h⟩
    · refine ⟨r + 1, by omega, ?_⟩
      have : (r + 1 + 1) * (r + 1 + 1) = (r + 1) * (r + 1) + 2 * (r + 1) + 1 := by grind
      omega
theorem newton_ge {a r x : Nat} (h1 : r * r ≤ a) (hx : 0 < x) : r ≤ (x + a / x) / 2 := by
  rcases Nat.lt_or_ge ((x + a / x) / 2) r with h | h
  · exfalso
    obtain ⟨g, hg⟩ : ∃ g, g = a / x := ⟨_, rfl⟩
    rw [← hg] at h
    obtain ⟨t, ht⟩ : ∃ t, 2 * r = x + t := ⟨2 * r - x, by omega⟩
    have h3 : g < t := by omega
    rw [hg, Nat.div_lt_iff_lt_mul hx] at h3
    -- (x + t)^2 = 4 r^2 ≤ 4 a < 4 t x ≤ (x + t)^2
    have h4 : 4 * (r * r) = (x + t) * (x + t) := by rw [← ht]; grind
    have h5 : 4 * (t * x) ≤ (x + t) * (x + t) := by
      rcases Nat.le_total x t with hxt | hxt
      · obtain ⟨d, rfl⟩ := Nat.exists_eq_add_of_le hxt
        have : (x + (x + d)) * (x + (x + d)) = 4 * ((x + d) * x) + d * d := by grind
        omega
      · obtain ⟨d, rfl⟩ := Nat.exists_eq_add_of_le hxt
        have : (t + d + t) * (t + d + t) = 4 * (t * (t + d)) + d * d := by grind
        omega
    omega
  · exact h
theorem newton_le {a r x : Nat} (h2 : a < (r + 1) * (r + 1)) (hx : r < x) : (x + a / x) / 2 - r ≤ (x - r) / 2 ∧ (x + a / x) / 2 < x := by
  have h3 : a / x ≤ r := by
    have : a / x < r + 1 := by
      rw [Nat.div_lt_iff_lt_mul (by omega)]
      exact Nat.lt_of_lt_of_le h2 (Nat.mul_le_mul_left _ hx)
    omega
  generalize a / x = g at *
  constructor <;> omega
theorem Sqrt_l0 (k : Nat) (hk : 20000000000 < k) {a r : Nat} (ha : a < lim) (ha0 : 0 < a) (h1 : r * r ≤ a) (h2 : a < (r + 1) * (r + 1)) (f : Int × Int) : ∀ (m x : Nat), (dg 2 (x - r)).length < m → r ≤ x → 0 < x → ((dg 4294967296 x).length : Int) ≤ 1000 →
    natural_Sqrt.l0 k m (dg 4294967296 a) f (dg 4294967296 x) = some (.inr (dg 4294967296 r, 0, 0)) := by
  intro m
  induction m with
  | zero => intro x h; omega
  | succ m ih =>
    intro x hm hr hx hl
    have l1 := len600 ha
    simp only [natural_Sqrt.l0, natural_Sqrt.b0]
    have hq : (dg 4294967296 (a / x)).length ≤ (dg 4294967296 a).length := len_le_of_le hB32 (Nat.div_le_self _ _)
    rw [divMod_ok hx (by omega) (by omega) hk]
    simp only [Option.bind_some]
    rw [add_ok (dd32 _) (dd32 _) (de32 _) (de32 _) (by omega) (by omega) (by omega)]
    simp only [Option.bind_some]
    have hsl : (dg 4294967296 (x + a / x)).length ≤ 2001 := by
      have := dg_lt (b := 4294967296) hB32 (n := x)
      have h3 := dg_lt (b := 4294967296) hB32 (n := a / x)
      refine Nat.le_trans (dg_len (m := max (dg 4294967296 x).length (dg 4294967296 (a / x)).length + 1) hB32 ?_) (by omega)
      have h4 := Nat.pow_le_pow_right (n := 4294967296) (by decide) (Nat.le_max_left (dg 4294967296 x).length (dg 4294967296 (a / x)).length)
      have h5 := Nat.pow_le_pow_right (n := 4294967296) (by decide) (Nat.le_max_right (dg 4294967296 x).length (dg 4294967296 (a / x)).length)
      rw [Nat.pow_succ]; omega
    have hright := right_ok (k := k) (n := 1) (dd32 (x + a / x)) (de32 _) (by omega) (by decide) (by omega)
    rw [show (2 : Nat) ^ 1 = 2 by decide] at hright
    have hright' : natural_right k (dg 4294967296 (x + a / x)) 1 = _ := hright
    rw [hright']
    simp only [Option.bind_some]
    have hge := newton_ge h1 hx
    by_cases hrx : r < x
    · obtain ⟨n1, n2⟩ := newton_le h2 hrx
      have hl' : (dg 4294967296 ((x + a / x) / 2)).length ≤ (dg 4294967296 x).length := len_le_of_le hB32 (by omega)
      obtain ⟨c, c1, c2, c3⟩ := compare_ok (k := k) (x := (x + a / x) / 2) (y := x) (by omega) (by omega) (by omega)
      rw [c1]
      simp only [Option.bind_some]
      rw [dle_f (c2.2 n2)]
      simp only [cond_false]
      have hm' : (dg 2 ((x + a / x) / 2 - r)).length + 1 ≤ (dg 2 (x - r)).length := by
        have := len2_half' (x := x - r) (by omega)
        have := len_le_of_le (b := 2) (by decide) n1
        omega
      have hnp : 0 < (x + a / x) / 2 := by
        rcases Nat.eq_zero_or_pos r with h0 | h0
        · subst h0; omega
        · omega
      exact ih _ (by omega) hge hnp (by omega)
    · have hxr : x = r := by omega
      subst hxr
      have hl' : (dg 4294967296 ((x + a / x) / 2)).length ≤ (dg 4294967296 (x + a / x)).length := len_le_of_le hB32 (Nat.div_le_self _ _)
      obtain ⟨c, c1, c2, c3⟩ := compare_ok (k := k) (x := (x + a / x) / 2) (y := x) (by omega) (by omega) (by omega)
      rw [c1]
      simp only [Option.bind_some]
      rw [dle_t (by have := mt c2.1 (by omega); omega)]
      rfl
where
  len2_half' {x : Nat} (h : 0 < x) : (dg 2 (x / 2)).length + 1 = (dg 2 x).length := by
    rw [dg_pos (b := 2) (by decide) h, List.length_cons]
theorem pow2_len (n : Nat) : (dg 4294967296 (2 ^ n)).length ≤ n / 32 + 1 := by
  apply dg_len hB32
  have : 4294967296 ^ (n / 32 + 1) = 2 ^ (32 * (n / 32 + 1)) := by rw [Nat.pow_mul]
  rw [this]
  exact Nat.pow_lt_pow_right (by decide) (by omega)
theorem Sqrt_ok {k a r : Nat} (ha : a < lim) (hk : 20000000000 < k) (h1 : r * r ≤ a) (h2 : a < (r + 1) * (r + 1)) : natural_Sqrt k (dg 4294967296 a) = some (dg 4294967296 r, 0, 0) := by
  unfold natural_Sqrt
  have l1 := len600 ha
  have l2 := bl_lim ha
  rw [Bits_ok ha]
  simp only [Option.bind_some, bne_self_eq_false, cond_false]
  rcases Nat.eq_zero_or_pos a with h | h
  · subst h
    have : r = 0 := by
      rcases Nat.eq_zero_or_pos r with h | h
      · exact h
      · have := Nat.mul_pos h h; omega
    subst this
    rfl
  · have hb := (dg_len_pos (b := 2) (by decide)).2 h
    rw [beq_f (by omega)]
    simp only [cond_false, joinB_inl]
    have e1 : w64 (Int.tdiv (w64 (((dg 2 a).length : Int) + 1)) 2) = ((((dg 2 a).length + 1) / 2 : Nat) : Int) := by
      rw [w64_id (n := _ + 1) (by omega) (by omega), tdiv_nn (by omega), w64_id (by omega) (by omega)]; omega
    have e2 : [(1 : Int)] = dg 4294967296 1 := by rw [dg_pos hB32 (by decide)]; rfl
    rw [e1, e2, left_ok (by rw [← e2]; simp) (by omega) (by omega)]
    simp only [Option.bind_some, Nat.one_mul]
    obtain ⟨n, hn⟩ : ∃ n, n = ((dg 2 a).length + 1) / 2 := ⟨_, rfl⟩
    rw [← hn]
    have hlen := pow2_len n
    have halt := dg_lt (b := 2) (by decide) (n := a)
    have hx2 : a < 2 ^ n * 2 ^ n := by
      rw [← Nat.pow_add]
      exact Nat.lt_of_lt_of_le halt (Nat.pow_le_pow_right (by decide) (by omega))
    have hr : r < 2 ^ n := by
      rcases Nat.lt_or_ge r (2 ^ n) with h | h
      · exact h
      · have := Nat.mul_le_mul h h; omega
    have hm := len2_le (2 ^ n - r)
    have hml : (dg 4294967296 (2 ^ n - r)).length ≤ (dg 4294967296 (2 ^ n)).length := len_le_of_le hB32 (Nat.sub_le _ _)
    rw [Sqrt_l0 k hk ha h h1 h2 (0, 0) k (2 ^ n) (by omega) (by omega) (by omega) (by omega)]
    rfl
theorem Sqrt_no {k : Nat} {a : List Int} (h : natural_Valid a = some false) : natural_Sqrt k a = some ([], 6, -1) := by
  unfold natural_Sqrt
  rw [Bits_no h]; rfl
def isOne (x : Int) : Bool := x == 1
theorem pad_dig : ∀ n x, Dig 2 (pad 2 n x) := by
  intro n
  induction n with
  | zero => intro x; exact Dig.nil
  | succ n ih => intro x; exact Dig.cons (by omega) (by omega) (ih _)
theorem pad_ev : ∀ n x, x < 2 ^ n → ev 2 (pad 2 n x) = x := by
  intro n
  induction n with
  | zero => intro x h; have : x = 0 := by simpa using h
            subst this; rfl
  | succ n ih =>
    intro x h
    rw [pad, ev, ih (x / 2) (by rw [Nat.pow_succ] at h; omega)]; omega
theorem Ones_l1 (k : Nat) (a : List Int) (i : Int) : ∀ (m j x : Nat) (M : List Int), 16 - j < m → j ≤ 16 → x < 65536 → ((M.length + (16 - j) : Nat) : Int) ≤ 1000000000 →
    brindlewoodref3_Ones.l1 k m a (M.map isOne) i x j = some (.inl (a, (M ++ pad 2 (16 - j) x).map isOne, i)) := by
  intro m
  induction m with
  | zero => intro j x M h; omega
  | succ m ih =>
    intro j x M h1 h2 hx hl
    simp only [brindlewoodref3_Ones.l1, brindlewoodref3_Ones.b1]
    by_cases hj : j < 16
    · have e1 : w64 ((j : Int) + 1) = ((j + 1 : Nat) : Int) := by rw [w64_id (by omega) (by omega)]; omega
      have e2 : w64 (Int.tdiv (x : Int) 2) = ((x / 2 : Nat) : Int) := by rw [tdiv_nn (by omega), w64_id (by omega) (by omega)]; omega
      have e3 : Int.tmod (x : Int) 2 = ((x % 2 : Nat) : Int) := by rw [tmod_nn (by omega)]; omega
      rw [dlt_t (by omega), e1, e2, e3]
      simp only [cond_true, List.length_singleton, List.length_map]
      rw [fits_t (by omega)]
      simp only [cond_true]
      have e4 : M.map isOne ++ [(((x % 2 : Nat) : Int) == 1)] = (M ++ [((x % 2 : Nat) : Int)]).map isOne := by rw [List.map_append]; rfl
      rw [e4, ih (j + 1) (x / 2) _ (by omega) (by omega) (by omega) (by simp only [List.length_append, List.length_singleton]; omega), show 16 - j = (16 - (j + 1)) + 1 by omega]
      simp [pad]
    · have : j = 16 := by omega
      subst this
      rw [dlt_f (by omega)]
      simp [pad]
theorem Ones_l0 (k : Nat) (hk : 100 < k) {a : List Int} (ha : Dig 65536 a) (hbig : (a.length : Int) ≤ 10000000) : ∀ (m i : Nat) (M : List Int), a.length - i < m → i ≤ a.length → M.length = 16 * i → Dig 2 M →
    ∃ M', brindlewoodref3_Ones.l0 k m a (M.map isOne) i = some (.inl (M'.map isOne)) ∧ M'.length = 16 * a.length ∧ Dig 2 M' ∧ ev 2 M' = ev 2 M + 2 ^ M.length * ev 65536 (a.drop i) := by
  intro m
  induction m with
  | zero => intro i M h; omega
  | succ m ih =>
    intro i M h1 h2 hM hd
    simp only [brindlewoodref3_Ones.l0, brindlewoodref3_Ones.b0]
    by_cases hi : i < a.length
    · have hx := ha.getD hi
      obtain ⟨x, hxe⟩ := Int.eq_ofNat_of_zero_le hx.1
      have hxl : x < 65536 := by omega
      have e1 : w64 ((i : Int) + 1) = ((i + 1 : Nat) : Int) := by rw [w64_id (by omega) (by omega)]; omega
      rw [dlt_t (by omega), inR_t (by omega) (by omega), rd_nat, hxe]
      simp only [cond_true]
      have h := Ones_l1 k a i k 0 x M (by omega) (by omega) hxl (by omega)
      have h' : brindlewoodref3_Ones.l1 k k a (M.map isOne) i x 0 = _ := h
      rw [h', joinB_inl]
      simp only [e1, Nat.sub_zero]
      obtain ⟨M', g1, g2, g3, g4⟩ := ih (i + 1) (M ++ pad 2 16 x) (by omega) (by omega) (by rw [List.length_append, pad_len]; omega) (hd.app (pad_dig _ _))
      refine ⟨M', g1, g2, g3, ?_⟩
      have hp : x < 2 ^ 16 := by have e : (2 : Nat) ^ 16 = 65536 := by decide
                                 omega
      rw [g4, ev_app, pad_ev 16 x hp, List.length_append, pad_len, drop_getD hi, ev_cons, hxe, Int.pow_add, show (2 : Int) ^ 16 = 65536 by decide]
      generalize (2 : Int) ^ M.length = p
      generalize ev 65536 (a.drop (i + 1)) = u
      grind
    · have e1 : i = a.length := by omega
      subst e1
      rw [dlt_f (by omega)]
      simp only [cond_false]
      exact ⟨M, rfl, hM, hd, by simp [ev]⟩
theorem Ones_l2 (k : Nat) : ∀ (n : Nat) (l : List Int), (l.length : Int) ≤ 1000000000000000000 → l.length < n → Dig 2 l → brindlewoodref3_Ones.l2 k n (l.map isOne) = some (.inl ((nrm l).map isOne)) := by
  intro n
  induction n with
  | zero => intro l _ h; omega
  | succ n ih =>
    intro l hl hn hd
    simp only [brindlewoodref3_Ones.l2, brindlewoodref3_Ones.b2]
    rcases List.eq_nil_or_concat l with rfl | ⟨m, x, rfl⟩
    · rfl
    · simp only [List.concat_eq_append, List.length_append, List.length_singleton, List.length_map] at hl hn hd ⊢
      have e1 : w64 (((m.length + 1 : Nat) : Int) - 1) = m.length := by rw [w64_id (by omega) (by omega)]; omega
      simp (disch := omega) only [dlt_t, cond_true, e1, inR_t]
      have hx := hd x (by simp)
      have hr : rdB ((m ++ [x]).map isOne) (m.length : Int) = isOne x := by simp [Ev.rdB]
      rw [hr]
      by_cases h0 : x = 0
      · subst h0
        have hs : Ev.sub ((m ++ [(0 : Int)]).map isOne) 0 ((m.length : Int) - 0) = m.map isOne := by simp [Ev.sub]
        rw [hs, z_le, dle_t (by omega), dle_t (by omega)]
        simp only [Bool.and_self, cond_true, show isOne 0 = false by rfl, Bool.not_false]
        rw [ih m (by omega) (by omega) (fun y hy => hd y (by simp [hy])), nrm_snoc0]
      · have : x = 1 := by omega
        subst this
        simp only [show isOne 1 = true by rfl, Bool.not_true, cond_false]
        rw [nrm_self (by simp)]
theorem nd2 {n : Nat} {l : List Int} (h : Dig (2 : Int) l) (e : ev (2 : Int) l = n) : nrm l = dg 2 n := nrm_dg (b := 2) (by decide) h e
theorem Ones_ok {k x : Nat} (hx : ((dg 65536 x).length : Int) ≤ 1000000) (hk : 100000000 < k) : brindlewoodref3_Ones k (dg 65536 x) = some ((dg 2 x).map isOne) := by
  unfold brindlewoodref3_Ones
  obtain ⟨M, g1, g2, g3, g4⟩ := Ones_l0 k (by omega) (dd16 x) (by omega) k 0 [] (by omega) (by omega) rfl Dig.nil
  have g1' : brindlewoodref3_Ones.l0 k k (dg 65536 x) [] 0 = _ := g1
  rw [g1', joinB_inl, Ones_l2 k k M (by omega) (by omega) g3, joinB_inl]
  rw [nd2 g3 (n := x) (by rw [g4, List.drop_zero, de16]; simp [ev])]
theorem Binary_l1 (k : Nat) {M : List Int} (hM : Dig 2 M) (hbig : (M.length : Int) ≤ 100000000) (out : List Int) (i : Nat) (hi : i ≤ M.length) : ∀ (m : Nat) (j x : Int), -1 ≤ j → j ≤ 15 → (j + 1).toNat < m → 0 ≤ x → x * 2 ^ (j + 1).toNat + ev 2 ((M.drop i).take (j + 1).toNat) < 65536 →
    brindlewoodref3_Binary.l1 k m (M.map isOne) out i x j = some (.inl (M.map isOne, out, (i : Int), x * 2 ^ (j + 1).toNat + ev 2 ((M.drop i).take (j + 1).toNat))) := by
  intro m
  induction m with
  | zero => intro j x _ _ h; omega
  | succ m ih =>
    intro j x h1 h2 h3 hx hlt
    simp only [brindlewoodref3_Binary.l1, brindlewoodref3_Binary.b1]
    by_cases hj : 0 ≤ j
    · obtain ⟨p, rfl⟩ : ∃ p : Nat, j = p := ⟨j.toNat, by omega⟩
      have e0 : ((p : Int) + 1).toNat = p + 1 := by omega
      have e1 : w64 ((p : Int) - 1) = (p : Int) - 1 := w64_id (by omega) (by omega)
      have e2 : w64 ((i : Int) + (p : Int)) = ((i + p : Nat) : Int) := by rw [w64_id (by omega) (by omega)]; omega
      have e3 : ((p : Int) - 1 + 1).toNat = p := by omega
      rw [e0] at hlt ⊢
      have hp : (0 : Int) < 2 ^ p := Int.pow_pos (by decide)
      have hpw : (2 : Int) ^ (p + 1) = 2 ^ p * 2 := Int.pow_succ ..
      have hxp : x ≤ x * 2 ^ (p + 1) := by
        have : x * 1 ≤ x * 2 ^ (p + 1) := Int.mul_le_mul_of_nonneg_left (by have : (0 : Int) < 2 ^ (p + 1) := Int.pow_pos (by decide)
                                                                            omega) hx
        omega
      have hev0 := ev_nonneg (b := 2) (by decide) ((hM.drop i).take (p + 1))
      rw [dle_t (by omega), e2, e1]
      simp only [cond_true, List.length_map]
      have step : ∀ b : Int, 0 ≤ b → b ≤ 1 → ev 2 ((M.drop i).take (p + 1)) = ev 2 ((M.drop i).take p) + 2 ^ p * b → brindlewoodref3_Binary.l1 k m (M.map isOne) out i (x * 2 + b) ((p : Int) - 1) = some (.inl (M.map isOne, out, (i : Int), x * 2 ^ (p + 1) + ev 2 ((M.drop i).take (p + 1)))) := by
        intro b b0 b1 hb
        have hh : (x * 2 + b) * 2 ^ p + ev 2 ((M.drop i).take p) = x * 2 ^ (p + 1) + ev 2 ((M.drop i).take (p + 1)) := by
          rw [hb, hpw]
          generalize (2 : Int) ^ p = q
          grind
        have := ih ((p : Int) - 1) (x * 2 + b) (by omega) (by omega) (by omega) (by omega) (by rw [e3, hh]; exact hlt)
        rw [this, e3, hh]
      by_cases hin : i + p < M.length
      · have hb := hM.getD hin
        have hr : rdB (M.map isOne) ((i + p : Nat) : Int) = isOne (M.getD (i + p) 0) := by
          simp only [Ev.rdB, natCast_toNat, List.getD_eq_getElem?_getD, List.getElem?_map, List.getElem?_eq_getElem hin]; rfl
        have hd : (M.drop i).getD p 0 = M.getD (i + p) 0 := by simp [List.getD]
        have htk : ev 2 ((M.drop i).take (p + 1)) = ev 2 ((M.drop i).take p) + 2 ^ p * M.getD (i + p) 0 := by
          rw [ev_take (by rw [List.length_drop]; omega), hd]
        rw [dlt_t (by omega), inR_t (by omega) (by omega), hr]
        simp only [cond_true]
        by_cases hb1 : M.getD (i + p) 0 = 1
        · rw [hb1] at htk ⊢
          simp only [show isOne 1 = true by rfl, cond_true]
          rw [w64_id (n := x * 2) (by omega) (by omega), w64_id (by omega) (by omega)]
          exact step 1 (by omega) (by omega) htk
        · have hb0 : M.getD (i + p) 0 = 0 := by omega
          rw [hb0] at htk ⊢
          simp only [show isOne 0 = false by rfl, cond_false]
          rw [w64_id (by omega) (by omega)]
          have := step 0 (by omega) (by omega) htk
          rwa [Int.add_zero] at this
      · rw [dlt_f (by omega)]
        simp only [cond_false]
        rw [w64_id (by omega) (by omega)]
        have := step 0 (by omega) (by omega) (by
          rw [List.take_of_length_le (by rw [List.length_drop]; omega), List.take_of_length_le (by rw [List.length_drop]; omega)]; simp)
        rwa [Int.add_zero] at this
    · have hj0 : j = -1 := by omega
      subst hj0
      rw [dle_f (by omega)]
      have e0 : ((-1 : Int) + 1).toNat = 0 := by decide
      rw [e0]
      simp [ev]
theorem Binary_l0 (k : Nat) (hk : 100 < k) {M : List Int} (hM : Dig 2 M) (hbig : (M.length : Int) ≤ 100000000) : ∀ (m i : Nat) (out : List Int), M.length - i < m → (i : Int) ≤ M.length + 16 → Dig 65536 out → 16 * out.length = i →
    ∃ out', brindlewoodref3_Binary.l0 k m (M.map isOne) out i = some (.inl out') ∧ out'.length ≤ M.length + 17 ∧ Dig 65536 out' ∧ ev 65536 out' = ev 65536 out + (65536 : Int) ^ out.length * ev 2 (M.drop i) := by
  intro m
  induction m with
  | zero => intro i out h; omega
  | succ m ih =>
    intro i out h1 h2 hd hl
    simp only [brindlewoodref3_Binary.l0, brindlewoodref3_Binary.b0]
    by_cases hi : i < M.length
    · have e1 : w64 ((i : Int) + 16) = ((i + 16 : Nat) : Int) := by rw [w64_id (by omega) (by omega)]; omega
      have e2 : ((15 : Int) + 1).toNat = 16 := by decide
      have hlt : ev 2 ((M.drop i).take 16) < 65536 := by
        have h := ev_lt (b := 2) (by decide) ((hM.drop i).take 16)
        have h3 : (2 : Nat) ^ ((M.drop i).take 16).length ≤ 2 ^ 16 := Nat.pow_le_pow_right (by decide) (by rw [List.length_take]; omega)
        have h4 : (((2 : Nat) ^ ((M.drop i).take 16).length : Nat) : Int) = (2 : Int) ^ ((M.drop i).take 16).length := by simp
        have h5 : (2 : Nat) ^ 16 = 65536 := by decide
        omega
      have h0 := ev_nonneg (b := 2) (by decide) ((hM.drop i).take 16)
      have hB := Binary_l1 k hM hbig out i (by omega) k 15 0 (by omega) (by omega) (by omega) (by omega) (by rw [e2]; omega)
      rw [e2, Int.zero_mul, Int.zero_add] at hB
      rw [List.length_map, dlt_t (by omega), hB]
      simp only [cond_true, joinB_inl, List.length_singleton]
      rw [fits_t (by omega), e1]
      simp only [cond_true]
      obtain ⟨out', g1, g2, g3, g4⟩ := ih (i + 16) (out ++ [ev 2 ((M.drop i).take 16)]) (by omega) (by omega) (hd.app (Dig.one h0 hlt)) (by simp; omega)
      refine ⟨out', g1, g2, g3, ?_⟩
      have hs : ev 2 (M.drop i) = ev 2 ((M.drop i).take 16) + 65536 * ev 2 (M.drop (i + 16)) := by
        rcases Nat.lt_or_ge (M.drop i).length 16 with h | h
        · rw [List.take_of_length_le (by omega), List.drop_eq_nil_of_le (show M.length ≤ i + 16 by rw [List.length_drop] at h; omega)]; simp [ev]
        · have := ev_split (b := 2) (M.drop i) 16 h
          rw [List.drop_drop] at this
          exact this
      rw [g4, ev_snoc, hs]
      simp only [List.length_append, List.length_singleton, Int.pow_succ]
      generalize (65536 : Int) ^ out.length = p
      grind
    · rw [List.length_map, dlt_f (by omega)]
      simp only [cond_false]
      exact ⟨out, rfl, by omega, hd, by rw [List.drop_eq_nil_of_le (by omega)]; simp [ev]⟩
theorem Binary_ok {k x : Nat} {M : List Int} (hM : Dig 2 M) (he : ev 2 M = x) (hbig : (M.length : Int) ≤ 10000000) (hk : 1000000000 < k) : brindlewoodref3_Binary k (M.map isOne) = some (dg 65536 x) := by
  unfold brindlewoodref3_Binary
  obtain ⟨out, g1, g2, g3, g4⟩ := Binary_l0 k (by omega) hM (by omega) k 0 [] (by omega) (by omega) Dig.nil rfl
  have g1' : brindlewoodref3_Binary.l0 k k (M.map isOne) [] 0 = _ := g1
  rw [g1', joinB_inl]
  exact trimmed (by omega) (by omega) g3 (by rw [g4, List.drop_zero, he]; simp [ev])
theorem dd2 (x : Nat) : Dig (2 : Int) (dg 2 x) := dg_dig (b := 2) (by decide) x
theorem de2 (x : Nat) : ev (2 : Int) (dg 2 x) = x := dg_ev (b := 2) (by decide) x
theorem Moved_ok {k x : Nat} {n : Int} (hx : ((dg 65536 x).length : Int) ≤ 10000) (hk : 1000000000 < k) (hn : -9223372036854775808 ≤ n) (hn' : x = 0 ∨ n ≤ 1000000) : brindlewoodref3_Moved k (dg 65536 x) n = some (dg 65536 (moved x n)) := by
  unfold brindlewoodref3_Moved
  have l2 := len2_le16' x
  rw [Ones_ok (by omega) (by omega)]
  simp only [Option.bind_some, List.length_map]
  rcases Nat.eq_zero_or_pos x with h | h
  · subst h
    have : moved 0 n = 0 := by unfold moved; split <;> simp
    rw [this]; rfl
  · have hb := (dg_len_pos (b := 2) (by decide)).2 h
    have hn2 : n ≤ 1000000 := hn'.resolve_left (by omega)
    rw [beq_f (by omega)]
    simp only [cond_false]
    rw [w64_id (n := 0 - ((dg 2 x).length : Int)) (by omega) (by omega)]
    by_cases h1 : n ≤ 0 - ((dg 2 x).length : Int)
    · have : moved x n = 0 := by
        unfold moved
        rw [if_pos (by omega)]
        exact div_big (by omega)
      rw [dle_t h1, this]; rfl
    · rw [dle_f (by omega)]
      simp only [cond_false]
      by_cases h3 : n < 0
      · obtain ⟨p, hp⟩ : ∃ p : Nat, 0 - n = p := ⟨(0 - n).toNat, by omega⟩
        have e1 : w64 (0 - n) = (p : Int) := by rw [hp, w64_id (by omega) (by omega)]
        rw [dlt_t h3, e1, dle_t (by omega), dle_t (by omega), dle_t (by omega)]
        simp only [cond_true, Bool.and_self]
        have hs : Ev.sub ((dg 2 x).map isOne) (p : Int) (((dg 2 x).length : Int) - p) = ((dg 2 x).drop p).map isOne := by
          show (((dg 2 x).map isOne).drop (p : Int).toNat).take _ = _
          rw [natCast_toNat, List.take_of_length_le (by rw [List.length_drop, List.length_map]; omega), List.map_drop]
        have hed : ev (2 : Int) ((dg 2 x).drop p) = ((x / 2 ^ p : Nat) : Int) := ev_drop (b := 2) (by decide) (dd2 x) (de2 x) p
        rw [hs, Binary_ok ((dd2 x).drop p) hed (by rw [List.length_drop]; omega) hk]
        simp only [Option.bind_some]
        unfold moved
        rw [if_pos h3, show (-n).toNat = p by omega]
      · obtain ⟨p, rfl⟩ := Int.eq_ofNat_of_zero_le (a := n) (by omega)
        rw [dlt_f (by omega)]
        simp only [cond_false]
        rw [dle_t (by omega), dle_t (by omega), natCast_toNat, fits_t (by omega)]
        simp only [cond_true, Bool.and_self, List.length_replicate]
        have hz : Dig 2 (List.replicate p (0 : Int)) := fun z hz => by have := List.eq_of_mem_replicate hz; omega
        rw [fits_t (by omega)]
        simp only [cond_true]
        have hs : List.replicate p false ++ (dg 2 x).map isOne = (List.replicate p (0 : Int) ++ dg 2 x).map isOne := by
          rw [List.map_append, List.map_replicate]; rfl
        rw [hs, Binary_ok (x := x * 2 ^ p) (hz.app (dd2 x)) (by
          rw [ev_app, ev_zeros, de2, List.length_replicate]; simp [Int.mul_comm]) (by simp; omega) hk]
        simp only [Option.bind_some]
        unfold moved
        rw [if_neg h3, natCast_toNat]
where
  len2_le16' (y : Nat) : (dg 2 y).length ≤ 16 * (dg 65536 y).length := by
    apply dg_len (by decide)
    have h := dg_lt (b := 65536) hB16 (n := y)
    have e : (2 : Nat) ^ (16 * (dg 65536 y).length) = 65536 ^ (dg 65536 y).length := by rw [Nat.pow_mul]
    rw [e]; exact h
end Go.Pl
