/- Binary digits, shifts and square roots.  Conditions: those that each theorem names. -/
import Derived.Test.YtnopjcpoeffoiaaGreatDoorPlL
import Derived.Test.YtnopjcpoeffoiaaGreatDoorPlG
set_option linter.unusedVariables false
set_option linter.unusedSimpArgs false
namespace Go.Pl
open Go Go.Ev Go.Sh
def isOne (x : Int) : Bool := x == 1
theorem pad_dig : ∀ n x, Dig 2 (pad 2 n x) := by
  intro n
  induction n with
  | zero => intro x; exact Dig.nil
  | succ n ih => intro x; exact Dig.cons (by omega) (by omega) (ih _)
theorem pad_ev : ∀ n x, x < 2 ^ n → ev 2 (pad 2 n x) = x := by
  intro n
  induction n with
  | zero => intro x h; have : x = 0 := by simpa using h
            subst this; rfl
  | succ n ih =>
    intro x h
    rw [pad, ev, ih (x / 2) (by rw [Nat.pow_succ] at h; omega)]; omega
theorem Ones_l1 (k : Nat) (a : List Int) (i : Int) : ∀ (m j x : Nat) (M : List Int), 16 - j < m → j ≤ 16 → x < 65536 → ((M.length + (16 - j) : Nat) : Int) ≤ 1000000000 →
    brindlewoodref3_Ones.l1 k m a (M.map isOne) i x j = some (.inl (a, (M ++ pad 2 (16 - j) x).map isOne, i)) := by
  intro m
  induction m with
  | zero => intro j x M h; omega
  | succ m ih =>
    intro j x M h1 h2 hx hl
    simp only [brindlewoodref3_Ones.l1, brindlewoodref3_Ones.b1]
    by_cases hj : j < 16
    · have e1 : w64 ((j : Int) + 1) = ((j + 1 : Nat) : Int) := by rw [w64_id (by omega) (by omega)]; omega
      have e2 : w64 (Int.tdiv (x : Int) 2) = ((x / 2 : Nat) : Int) := by rw [tdiv_nn (by omega), w64_id (by omega) (by omega)]; omega
      have e3 : Int.tmod (x : Int) 2 = ((x % 2 : Nat) : Int) := by rw [tmod_nn (by omega)]; omega
      rw [dlt_t (by omega), e1, e2, e3]
      simp only [cond_true, List.length_singleton, List.length_map]
      rw [fits_t (by omega)]
      simp only [cond_true]
      have e4 : M.map isOne ++ [(((x % 2 : Nat) : Int) == 1)] = (M ++ [((x % 2 : Nat) : Int)]).map isOne := by rw [List.map_append]; rfl
      rw [e4, ih (j + 1) (x / 2) _ (by omega) (by omega) (by omega) (by simp only [List.length_append, List.length_singleton]; omega), show 16 - j = (16 - (j + 1)) + 1 by omega]
      simp [pad]
    · have : j = 16 := by omega
      subst this
      rw [dlt_f (by omega)]
      simp [pad]
theorem Ones_l0 (k : Nat) (hk : 100 < k) {a : List Int} (ha : Dig 65536 a) (hbig : (a.length : Int) ≤ 10000000) : ∀ (m i : Nat) (M : List Int), a.length - i < m → i ≤ a.length → M.length = 16 * i → Dig 2 M →
    ∃ M', brindlewoodref3_Ones.l0 k m a (M.map isOne) i = some (.inl (M'.map isOne)) ∧ M'.length = 16 * a.length ∧ Dig 2 M' ∧ ev 2 M' = ev 2 M + 2 ^ M.length * ev 65536 (a.drop i) := by
  intro m
  induction m with
  | zero => intro i M h; omega
  | succ m ih =>
    intro i M h1 h2 hM hd
    simp only [brindlewoodref3_Ones.l0, brindlewoodref3_Ones.b0]
    by_cases hi : i < a.length
    · have hx := ha.getD hi
      obtain ⟨x, hxe⟩ := Int.eq_ofNat_of_zero_le hx.1
      have hxl : x < 65536 := by omega
      have e1 : w64 ((i : Int) + 1) = ((i + 1 : Nat) : Int) := by rw [w64_id (by omega) (by omega)]; omega
      rw [dlt_t (by omega), inR_t (by omega) (by omega), rd_nat, hxe]
      simp only [cond_true]
      have h := Ones_l1 k a i k 0 x M (by omega) (by omega) hxl (by omega)
      have h' : brindlewoodref3_Ones.l1 k k a (M.map isOne) i x 0 = _ := h
      rw [h', joinB_inl]
      simp only [e1, Nat.sub_zero]
      obtain ⟨M', g1, g2, g3, g4⟩ := ih (i + 1) (M ++ pad 2 16 x) (by omega) (by omega) (by rw [List.length_append, pad_len]; omega) (hd.app (pad_dig _ _))
      refine ⟨M', g1, g2, g3, ?_⟩
      have hp : x < 2 ^ 16 := by have e : (2 : Nat) ^ 16 = 65536 := by decide
                                 omega
      rw [g4, ev_app, pad_ev 16 x hp, List.length_append, pad_len, drop_getD hi, ev_cons, hxe, Int.pow_add, show (2 : Int) ^ 16 = 65536 by decide]
      generalize (2 : Int) ^ M.length = p
      generalize ev 65536 (a.drop (i + 1)) = u
      grind
    · have e1 : i = a.length := by omega
      subst e1
      rw [dlt_f (by omega)]
      simp only [cond_false]
      exact ⟨M, rfl, hM, hd, by simp [ev]⟩
theorem Ones_l2 (k : Nat) : ∀ (n : Nat) (l : List Int), (l.length : Int) ≤ 1000000000000000000 → l.length < n → Dig 2 l → brindlewoodref3_Ones.l2 k n (l.map isOne) = some (.inl ((nrm l).map isOne)) := by
  intro n
  induction n with
  | zero => intro l _ h; omega
  | succ n ih =>
    intro l hl hn hd
    simp only [brindlewoodref3_Ones.l2, brindlewoodref3_Ones.b2]
    rcases List.eq_nil_or_concat l with rfl | ⟨m, x, rfl⟩
    · rfl
    · simp only [List.concat_eq_append, List.length_append, List.length_singleton, List.length_map] at hl hn hd ⊢
      have e1 : w64 (((m.length + 1 : Nat) : Int) - 1) = m.length := by rw [w64_id (by omega) (by omega)]; omega
      simp (disch := omega) only [dlt_t, cond_true, e1, inR_t]
      have hx := hd x (by simp)
      have hr : rdB ((m ++ [x]).map isOne) (m.length : Int) = isOne x := by simp [Ev.rdB]
      rw [hr]
      by_cases h0 : x = 0
      · subst h0
        have hs : Ev.sub ((m ++ [(0 : Int)]).map isOne) 0 ((m.length : Int) - 0) = m.map isOne := by simp [Ev.sub]
        rw [hs, z_le, dle_t (by omega), dle_t (by omega)]
        simp only [Bool.and_self, cond_true, show isOne 0 = false by rfl, Bool.not_false]
        rw [ih m (by omega) (by omega) (fun y hy => hd y (by simp [hy])), nrm_snoc0]
      · have : x = 1 := by omega
        subst this
        simp only [show isOne 1 = true by rfl, Bool.not_true, cond_false]
        rw [nrm_self (by simp)]
theorem nd2 {n : Nat} {l : List Int} (h : Dig (2 : Int) l) (e : ev (2 : Int) l = n) : nrm l = dg 2 n := nrm_dg (b := 2) (by decide) h e
theorem Ones_ok {k x : Nat} (hx : ((dg 65536 x).length : Int) ≤ 1000000) (hk : 100000000 < k) : brindlewoodref3_Ones k (dg 65536 x) = some ((dg 2 x).map isOne) := by
  unfold brindlewoodref3_Ones
  obtain ⟨M, g1, g2, g3, g4⟩ := Ones_l0 k (by omega) (dd16 x) (by omega) k 0 [] (by omega) (by omega) rfl Dig.nil
  have g1' : brindlewoodref3_Ones.l0 k k (dg 65536 x) [] 0 = _ := g1
  rw [g1', joinB_inl, Ones_l2 k k M (by omega) (by omega) g3, joinB_inl]
  rw [nd2 g3 (n := x) (by rw [g4, List.drop_zero, de16]; simp [ev])]
theorem Binary_l1 (k : Nat) {M : List Int} (hM : Dig 2 M) (hbig : (M.length : Int) ≤ 100000000) (out : List Int) (i : Nat) (hi : i ≤ M.length) : ∀ (m : Nat) (j x : Int), -1 ≤ j → j ≤ 15 → (j + 1).toNat < m → 0 ≤ x → x * 2 ^ (j + 1).toNat + ev 2 ((M.drop i).take (j + 1).toNat) < 65536 →
    brindlewoodref3_Binary.l1 k m (M.map isOne) out i x j = some (.inl (M.map isOne, out, (i : Int), x * 2 ^ (j + 1).toNat + ev 2 ((M.drop i).take (j + 1).toNat))) := by
  intro m
  induction m with
  | zero => intro j x _ _ h; omega
  | succ m ih =>
    intro j x h1 h2 h3 hx hlt
    simp only [brindlewoodref3_Binary.l1, brindlewoodref3_Binary.b1]
    by_cases hj : 0 ≤ j
    · obtain ⟨p, rfl⟩ : ∃ p : Nat, j = p := ⟨j.toNat, by omega⟩
      have e0 : ((p : Int) + 1).toNat = p + 1 := by omega
      have e1 : w64 ((p : Int) - 1) = (p : Int) - 1 := w64_id (by omega) (by omega)
      have e2 : w64 ((i : Int) + (p : Int)) = ((i + p : Nat) : Int) := by rw [w64_id (by omega) (by omega)]; omega
      have e3 : ((p : Int) - 1 + 1).toNat = p := by omega
      rw [e0] at hlt ⊢
      have hp : (0 : Int) < 2 ^ p := Int.pow_pos (by decide)
      have hpw : (2 : Int) ^ (p + 1) = 2 ^ p * 2 := Int.pow_succ ..
      have hxp : x ≤ x * 2 ^ (p + 1) := by
        have : x * 1 ≤ x * 2 ^ (p + 1) := Int.mul_le_mul_of_nonneg_left (by have : (0 : Int) < 2 ^ (p + 1) := Int.pow_pos (by decide)
                                                                            omega) hx
        omega
      have hev0 := ev_nonneg (b := 2) (by decide) ((hM.drop i).take (p + 1))
      rw [dle_t (by omega), e2, e1]
      simp only [cond_true, List.length_map]
      have step : ∀ b : Int, 0 ≤ b → b ≤ 1 → ev 2 ((M.drop i).take (p + 1)) = ev 2 ((M.drop i).take p) + 2 ^ p * b → brindlewoodref3_Binary.l1 k m (M.map isOne) out i (x * 2 + b) ((p : Int) - 1) = some (.inl (M.map isOne, out, (i : Int), x * 2 ^ (p + 1) + ev 2 ((M.drop i).take (p + 1)))) := by
        intro b b0 b1 hb
        have hh : (x * 2 + b) * 2 ^ p + ev 2 ((M.drop i).take p) = x * 2 ^ (p + 1) + ev 2 ((M.drop i).take (p + 1)) := by
          rw [hb, hpw]
          generalize (2 : Int) ^ p = q
          grind
        have := ih ((p : Int) - 1) (x * 2 + b) (by omega) (by omega) (by omega) (by omega) (by rw [e3, hh]; exact hlt)
        rw [this, e3, hh]
      by_cases hin : i + p < M.length
      · have hb := hM.getD hin
        have hr : rdB (M.map isOne) ((i + p : Nat) : Int) = isOne (M.getD (i + p) 0) := by
          simp only [Ev.rdB, natCast_toNat, List.getD_eq_getElem?_getD, List.getElem?_map, List.getElem?_eq_getElem hin]; rfl
        have hd : (M.drop i).getD p 0 = M.getD (i + p) 0 := by simp [List.getD]
        have htk : ev 2 ((M.drop i).take (p + 1)) = ev 2 ((M.drop i).take p) + 2 ^ p * M.getD (i + p) 0 := by
          rw [ev_take (by rw [List.length_drop]; omega), hd]
        rw [dlt_t (by omega), inR_t (by omega) (by omega), hr]
        simp only [cond_true]
        by_cases hb1 : M.getD (i + p) 0 = 1
        · rw [hb1] at htk ⊢
          simp only [show isOne 1 = true by rfl, cond_true]
          rw [w64_id (n := x * 2) (by omega) (by omega), w64_id (by omega) (by omega)]
          exact step 1 (by omega) (by omega) htk
        · have hb0 : M.getD (i + p) 0 = 0 := by omega
          rw [hb0] at htk ⊢
          simp only [show isOne 0 = false by rfl, cond_false]
          rw [w64_id (by omega) (by omega)]
          have := step 0 (by omega) (by omega) htk
          rwa [Int.add_zero] at this
      · rw [dlt_f (by omega)]
        simp only [cond_false]
        rw [w64_id (by omega) (by omega)]
        have := step 0 (by omega) (by omega) (by
          rw [List.take_of_length_le (by rw [List.length_drop]; omega), List.take_of_length_le (by rw [List.length_drop]; omega)]; simp)
        rwa [Int.add_zero] at this
    · have hj0 : j = -1 := by omega
      subst hj0
      rw [dle_f (by omega)]
      have e0 : ((-1 : Int) + 1).toNat = 0 := by decide
      rw [e0]
      simp [ev]
theorem Binary_l0 (k : Nat) (hk : 100 < k) {M : List Int} (hM : Dig 2 M) (hbig : (M.length : Int) ≤ 100000000) : ∀ (m i : Nat) (out : List Int), M.length - i < m → (i : Int) ≤ M.length + 16 → Dig 65536 out → 16 * out.length = i →
    ∃ out', brindlewoodref3_Binary.l0 k m (M.map isOne) out i = some (.inl out') ∧ out'.length ≤ M.length + 17 ∧ Dig 65536 out' ∧ ev 65536 out' = ev 65536 out + (65536 : Int) ^ out.length * ev 2 (M.drop i) := by
  intro m
  induction m with
  | zero => intro i out h; omega
  | succ m ih =>
    intro i out h1 h2 hd hl
    simp only [brindlewoodref3_Binary.l0, brindlewoodref3_Binary.b0]
    by_cases hi : i < M.length
    · have e1 : w64 ((i : Int) + 16) = ((i + 16 : Nat) : Int) := by rw [w64_id (by omega) (by omega)]; omega
      have e2 : ((15 : Int) + 1).toNat = 16 := by decide
      have hlt : ev 2 ((M.drop i).take 16) < 65536 := by
        have h := ev_lt (b := 2) (by decide) ((hM.drop i).take 16)
        have h3 : (2 : Nat) ^ ((M.drop i).take 16).length ≤ 2 ^ 16 := Nat.pow_le_pow_right (by decide) (by rw [List.length_take]; omega)
        have h4 : (((2 : Nat) ^ ((M.drop i).take 16).length : Nat) : Int) = (2 : Int) ^ ((M.drop i).take 16).length := by simp
        have h5 : (2 : Nat) ^ 16 = 65536 := by decide
        omega
      have h0 := ev_nonneg (b := 2) (by decide) ((hM.drop i).take 16)
      have hB := Binary_l1 k hM hbig out i (by omega) k 15 0 (by omega) (by omega) (by omega) (by omega) (by rw [e2]; omega)
      rw [e2, Int.zero_mul, Int.zero_add] at hB
      rw [List.length_map, dlt_t (by omega), hB]
      simp only [cond_true, joinB_inl, List.length_singleton]
      rw [fits_t (by omega), e1]
      simp only [cond_true]
      obtain ⟨out', g1, g2, g3, g4⟩ := ih (i + 16) (out ++ [ev 2 ((M.drop i).take 16)]) (by omega) (by omega) (hd.app (Dig.one h0 hlt)) (by simp; omega)
      refine ⟨out', g1, g2, g3, ?_⟩
      have hs : ev 2 (M.drop i) = ev 2 ((M.drop i).take 16) + 65536 * ev 2 (M.drop (i + 16)) := by
        rcases Nat.lt_or_ge (M.drop i).length 16 with h | h
        · rw [List.take_of_length_le (by omega), List.drop_eq_nil_of_le (show M.length ≤ i + 16 by rw [List.length_drop] at h; omega)]; simp [ev]
        · have := ev_split (b := 2) (M.drop i) 16 h
          rw [List.drop_drop] at this
          exact this
      rw [g4, ev_snoc, hs]
      simp only [List.length_append, List.length_singleton, Int.pow_succ]
      generalize (65536 : Int) ^ out.length = p
      grind
    · rw [List.length_map, dlt_f (by omega)]
      simp only [cond_false]
      exact ⟨out, rfl, by omega, hd, by rw [List.drop_eq_nil_of_le (by omega)]; simp [ev]⟩
theorem Binary_ok {k x : Nat} {M : List Int} (hM : Dig 2 M) (he : ev 2 M = x) (hbig : (M.length : Int) ≤ 10000000) (hk : 1000000000 < k) : brindlewoodref3_Binary k (M.map isOne) = some (dg 65536 x) := by
  unfold brindlewoodref3_Binary
  obtain ⟨out, g1, g2, g3, g4⟩ := Binary_l0 k (by omega) hM (by omega) k 0 [] (by omega) (by omega) Dig.nil rfl
  have g1' : brindlewoodref3_Binary.l0 k k (M.map isOne) [] 0 = _ := g1
  rw [g1', joinB_inl]
  exact trimmed (by omega) (by omega) g3 (by rw [g4, List.drop_zero, he]; simp [ev])
theorem dd2 (x : Nat) : Dig (2 : Int) (dg 2 x) := dg_dig (b := 2) (by decide) x
theorem de2 (x : Nat) : ev (2 : Int) (dg 2 x) = x := dg_ev (b := 2) (by decide) x
end Go.Pl
