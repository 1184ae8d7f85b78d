/- What the reference's natural numbers answer: conversion, comparison, sums, differences, products.  Conditions: those that each theorem names. -/
import Derived.Test.YtnopjcpoeffoiaaGreatDoorPlC
set_option linter.unusedVariables false
set_option linter.unusedSimpArgs false
namespace Go.Pl
open Go Go.Ev Go.Sh
theorem tmod_nn {x y : Int} (h : 0 ≤ x) : Int.tmod x y = x % y := Int.tmod_eq_emod_of_nonneg h
theorem tdiv_nn {x y : Int} (h : 0 ≤ x) : Int.tdiv x y = x / y := Int.tdiv_eq_ediv_of_nonneg h
theorem rtrim_l0 (k : Nat) : ∀ n, brindlewoodref3_trim_v.l0 k n = natural_trim_v.l0 k n := by
  intro n
  induction n with
  | zero => rfl
  | succ n ih => simp only [brindlewoodref3_trim_v.l0, natural_trim_v.l0, ih]; rfl
theorem rtrim {k : Nat} {l : List Int} (hl : (l.length : Int) ≤ 1000000000000000000) (hk : l.length < k) : brindlewoodref3_trim_v k l = some (0, ((nrm l).length : Int)) := by
  rw [← trim_v hl hk]
  unfold brindlewoodref3_trim_v natural_trim_v
  rw [rtrim_l0]
theorem trimmed {k : Nat} {l : List Int} {n : Nat} (hl : (l.length : Int) ≤ 1000000000000000000) (hk : l.length < k) (hd : Dig 65536 l) (he : ev 65536 l = n) : ((brindlewoodref3_trim_v k l).bind fun t => some (Ev.sub l t.1 t.2)) = some (dg 65536 n) := by
  rw [rtrim hl hk]
  simp only [Option.bind_some]
  rw [sub_nrm, nd16 hd he]
theorem Of_l0 (k : Nat) {a : List Int} (ha : Dig 4294967296 a) (hbig : (a.length : Int) ≤ 1000000000000) : ∀ (n i : Nat) (out : List Int), i ≤ a.length → a.length - i < n → out.length = 2 * i → Dig 65536 out →
    ∃ out', brindlewoodref3_Of.l0 k n a out i = some (.inl out') ∧ out'.length = 2 * a.length ∧ Dig 65536 out' ∧ ev 65536 out' = ev 65536 out + (65536 : Int) ^ out.length * ev 4294967296 (a.drop i) := by
  intro n
  induction n with
  | zero => intro i out _ h; omega
  | succ n ih =>
    intro i out h1 h2 h3 hd
    simp only [brindlewoodref3_Of.l0, brindlewoodref3_Of.b0]
    by_cases hi : i < a.length
    · have hx := ha.getD hi
      have e2 : w64 ((i : Int) + 1) = ((i + 1 : Nat) : Int) := by rw [w64_id (by omega) (by omega)]; omega
      simp (disch := omega) only [dlt_t, cond_true, inR_t, rd_nat, tmod_nn, tdiv_nn, w64_id, wu32_id, List.length_cons, List.length_nil, fits_t, e2]
      generalize hv : a.getD i 0 = v at *
      obtain ⟨out', g1, g2, g3, g4⟩ := ih (i + 1) (out ++ [v % 65536, v / 65536]) (by omega) (by omega) (by simp; omega) (hd.app (Dig.cons (by omega) (by omega) (Dig.one (by omega) (by omega))))
      refine ⟨out', g1, g2, g3, ?_⟩
      rw [g4, ev_app, drop_getD hi, hv]
      simp only [List.length_append, List.length_cons, List.length_nil, ev, Nat.zero_add, Int.pow_succ]
      have hmd := Int.emod_add_mul_ediv v 65536
      generalize (65536 : Int) ^ out.length = p
      generalize ev 4294967296 (a.drop (i + 1)) = u
      have e3 : p * (65536 * 65536) * u = p * 4294967296 * u := rfl
      grind
    · have e1 : i = a.length := by omega
      subst e1
      simp (disch := omega) only [dlt_f, cond_false]
      exact ⟨out, rfl, h3, hd, by simp [ev]⟩
theorem Of_ok {k : Nat} {a : List Int} {x : Nat} (ha : Dig 4294967296 a) (hx : ev 4294967296 a = x) (hbig : (a.length : Int) ≤ 1000000000) (hk : 2000000001 < k) : brindlewoodref3_Of k a = some (dg 65536 x) := by
  unfold brindlewoodref3_Of
  obtain ⟨out, g1, g2, g3, g4⟩ := Of_l0 k ha (by omega) k 0 [] (by omega) (by omega) rfl Dig.nil
  have g1' : brindlewoodref3_Of.l0 k k a [] 0 = some (.inl out) := g1
  rw [g1', joinB_inl]
  exact trimmed (by omega) (by omega) g3 (by rw [g4, List.drop_zero, hx]; simp [ev])
theorem last_getD {l : List Int} (h : l.getLast? ≠ some 0) (hl : 0 < l.length) : l.getD (l.length - 1) 0 ≠ 0 := by
  intro e
  apply h
  rw [List.getLast?_eq_getElem?, List.getElem?_eq_getElem (by omega)]
  have : l.getD (l.length - 1) 0 = l[l.length - 1] := by rw [List.getD_eq_getElem?_getD, List.getElem?_eq_getElem (by omega)]; rfl
  rw [this] at e; rw [e]
theorem snoc_last {l : List Int} {v : Int} (h : v ≠ 0) : (l ++ [v]).getLast? ≠ some 0 := by simpa using h
theorem Limbs_l0 (k : Nat) {a : List Int} (ha : Dig 65536 a) (hlast : a.getLast? ≠ some 0) (hbig : (a.length : Int) ≤ 1000000000000) : ∀ (n i : Nat) (out : List Int), a.length - i < n → 2 * out.length = i → Dig 4294967296 out →
    ∃ out', brindlewoodref3_Limbs.l0 k n a out i = some (.inl out') ∧ Dig 4294967296 out' ∧ (i < a.length → out'.getLast? ≠ some 0) ∧ (a.length ≤ i → out' = out) ∧ ev 4294967296 out' = ev 4294967296 out + (4294967296 : Int) ^ out.length * ev 65536 (a.drop i) := by
  intro n
  induction n with
  | zero => intro i out h; omega
  | succ n ih =>
    intro i out h2 h3 hd
    simp only [brindlewoodref3_Limbs.l0, brindlewoodref3_Limbs.b0]
    by_cases hi : i < a.length
    · have hx := ha.getD hi
      have hnz := last_getD hlast (by omega)
      have e1 : w64 ((i : Int) + 1) = ((i + 1 : Nat) : Int) := by rw [w64_id (by omega) (by omega)]; omega
      have e2 : w64 ((i : Int) + 2) = ((i + 2 : Nat) : Int) := by rw [w64_id (by omega) (by omega)]; omega
      simp (disch := omega) only [dlt_t, cond_true, inR_t, rd_nat, e1, e2]
      by_cases hi1 : i + 1 < a.length
      · have hy := ha.getD hi1
        simp (disch := omega) only [dlt_t, cond_true, inR_t, rd_nat, wu32_id, List.length_singleton, fits_t]
        obtain ⟨out', g1, g3, g4, g6, g5⟩ := ih (i + 2) (out ++ [a.getD i 0 + a.getD (i + 1) 0 * 65536]) (by omega) (by simp; omega) (hd.app (Dig.one (by omega) (by omega)))
        refine ⟨out', g1, g3, fun _ => ?_, fun h => by omega, ?_⟩
        · rcases Nat.lt_or_ge (i + 2) a.length with h | h
          · exact g4 h
          · rw [g6 h]
            have : a.length - 1 = i + 1 := by omega
            rw [this] at hnz
            exact snoc_last (by omega)
        · rw [g5, ev_snoc, drop_getD hi, drop_getD hi1]
          simp only [List.length_append, List.length_singleton, ev, Int.pow_succ]
          generalize (4294967296 : Int) ^ out.length = p
          generalize ev 65536 (a.drop (i + 1 + 1)) = u
          have e3 : p * (65536 * 65536) * u = p * 4294967296 * u := rfl
          grind
      · simp (disch := omega) only [dlt_f, cond_false, wu32_id, List.length_singleton, fits_t, cond_true]
        obtain ⟨out', g1, g3, g4, g6, g5⟩ := ih (i + 2) (out ++ [a.getD i 0]) (by omega) (by simp; omega) (hd.app (Dig.one (by omega) (by omega)))
        refine ⟨out', g1, g3, fun _ => ?_, fun h => by omega, ?_⟩
        · rw [g6 (by omega)]
          have : a.length - 1 = i := by omega
          rw [this] at hnz
          exact snoc_last (by omega)
        · rw [g5, ev_snoc, drop_getD hi, List.drop_eq_nil_of_le (by omega), List.drop_eq_nil_of_le (by omega)]
          simp [ev]
    · simp (disch := omega) only [dlt_f, cond_false]
      exact ⟨out, rfl, hd, fun h => absurd h hi, fun _ => rfl, by rw [List.drop_eq_nil_of_le (by omega)]; simp [ev]⟩
theorem Limbs_ok {k : Nat} {x : Nat} (hbig : ((dg 65536 x).length : Int) ≤ 1000000000) (hk : 2000000001 < k) : brindlewoodref3_Limbs k (dg 65536 x) = some (dg 4294967296 x) := by
  unfold brindlewoodref3_Limbs
  obtain ⟨out, g1, g2, g3, g4, g5⟩ := Limbs_l0 k (dd16 x) (dg_last hB16 x) (by omega) k 0 [] (by omega) rfl Dig.nil
  have g1' : brindlewoodref3_Limbs.l0 k k (dg 65536 x) [] 0 = some (.inl out) := g1
  rw [g1', joinB_inl]
  have he : ev 4294967296 out = x := by rw [g5, List.drop_zero, de16]; simp [ev]
  have hl : out.getLast? ≠ some 0 := by
    rcases Nat.eq_zero_or_pos (dg 65536 x).length with h | h
    · rw [g4 (by omega)]; simp
    · exact g3 h
  rw [eq_dg hB32 g2 hl he]
theorem SameLimbs_l0 (k : Nat) {a b : List Int} (hl : a.length = b.length) (hbig : (a.length : Int) ≤ 1000000000000000000) : ∀ (n i : Nat), i ≤ a.length → a.length - i < n → brindlewoodref3_SameLimbs.l0 k n a b i = some (if a.drop i = b.drop i then .inl () else .inr false) := by
  intro n
  induction n with
  | zero => intro i _ h; omega
  | succ n ih =>
    intro i h1 h2
    simp only [brindlewoodref3_SameLimbs.l0, brindlewoodref3_SameLimbs.b0]
    by_cases hi : i < a.length
    · have e1 : w64 ((i : Int) + 1) = ((i + 1 : Nat) : Int) := by rw [w64_id (by omega) (by omega)]; omega
      simp (disch := omega) only [dlt_t, cond_true, inR_t, rd_nat, e1]
      rw [drop_getD hi, drop_getD (l := b) (by omega)]
      by_cases hr : a.getD i 0 = b.getD i 0
      · rw [bne_f hr, cond_false, ih (i + 1) (by omega) (by omega), hr]
        simp only [List.cons.injEq, true_and]
      · rw [bne_t hr, cond_true, if_neg (fun h => hr (List.cons.inj h).1)]
    · simp (disch := omega) only [dlt_f, cond_false]
      rw [List.drop_eq_nil_of_le (by omega), List.drop_eq_nil_of_le (by omega)]; rfl
theorem SameLimbs_ok {k : Nat} {a b : List Int} (ha : (a.length : Int) ≤ 1000000000) (hb : (b.length : Int) ≤ 1000000000) (hk : 1000000001 < k) : brindlewoodref3_SameLimbs k a b = some (decide (a = b)) := by
  unfold brindlewoodref3_SameLimbs
  by_cases h : a.length = b.length
  · rw [bne_f (by omega), cond_false]
    have := SameLimbs_l0 k h (by omega) k 0 (by omega) (by omega)
    have h' : brindlewoodref3_SameLimbs.l0 k k a b 0 = _ := this
    rw [h', List.drop_zero, List.drop_zero]
    by_cases e : a = b <;> simp only [e, if_true, if_false] <;> rfl
  · rw [bne_t (by omega), cond_true]
    have : a ≠ b := fun e => h (by rw [e])
    simp [this]
theorem rCompare_l0 (k : Nat) {b : Int} (hb : 0 < b) {l m : List Int} (hl : Dig b l) (hm : Dig b m) (hlen : l.length = m.length) (hbig : (l.length : Int) ≤ 1000000000000000000) : ∀ (n : Nat) (i : Int), -1 ≤ i → i < l.length → (i + 1).toNat < n →
    brindlewoodref3_Compare.l0 k n l m i = some (if sgn (ev b (l.take (i + 1).toNat)) (ev b (m.take (i + 1).toNat)) = 0 then .inl () else .inr (sgn (ev b (l.take (i + 1).toNat)) (ev b (m.take (i + 1).toNat)))) := by
  intro n
  induction n with
  | zero => intro i _ _ h; omega
  | succ n ih =>
    intro i h0 h1 h2
    simp only [brindlewoodref3_Compare.l0, brindlewoodref3_Compare.b0]
    by_cases hi : 0 ≤ i
    · simp (disch := omega) only [dle_t, cond_true, inR_t]
      obtain ⟨j, rfl⟩ : ∃ j : Nat, i = j := ⟨i.toNat, by omega⟩
      have e1 : ((j : Int) + 1).toNat = j + 1 := by omega
      rw [e1]
      have hj : j < l.length := by omega
      by_cases hlt : rd l (j : Int) < rd m (j : Int)
      · have := lex_lt hb hl hm hj (by omega) (i := j) hlt
        simp only [dlt_t hlt, cond_true, sgn, this, if_true]; rfl
      · rw [dlt_f (Int.not_lt.1 hlt), cond_false]
        by_cases h3 : rd m (j : Int) < rd l (j : Int)
        · have := lex_lt hb hm hl (by omega) hj (i := j) h3
          have h4 : ¬ ev b (l.take (j + 1)) < ev b (m.take (j + 1)) := by omega
          simp only [dlt_t h3, cond_true, sgn, this, h4, if_true, if_false]; rfl
        · have hr : rd l (j : Int) = rd m (j : Int) := by omega
          simp (disch := omega) only [dlt_f (Int.not_lt.1 h3), cond_false, w64_id]
          rw [ih (j - 1) (by omega) (by omega) (by omega), show ((j : Int) - 1 + 1).toNat = j by omega]
          have hr' : l.getD j 0 = m.getD j 0 := hr
          have : sgn (ev b (l.take (j + 1))) (ev b (m.take (j + 1))) = sgn (ev b (l.take j)) (ev b (m.take j)) := by
            rw [ev_take hj, ev_take (by omega), hr']
            unfold sgn
            split <;> split <;> (try split) <;> (try split) <;> omega
          rw [this]
    · have hi0 : i = -1 := by omega
      subst hi0
      simp (disch := omega) only [dle_f, cond_false]
      simp [sgn]
theorem Compare_ok {k : Nat} {x y : Nat} (hx : ((dg 65536 x).length : Int) ≤ 1000000000) (hy : ((dg 65536 y).length : Int) ≤ 1000000000) (hk : 1000000001 < k) : brindlewoodref3_Compare k (dg 65536 x) (dg 65536 y) = some (sgn x y) := by
  unfold brindlewoodref3_Compare
  by_cases hl : (dg 65536 x).length = (dg 65536 y).length
  · have e : ((dg 65536 x).length : Int) = ((dg 65536 y).length : Int) := by omega
    simp (disch := omega) only [bne_f e, cond_false, w64_id]
    rw [rCompare_l0 k (b := 65536) (by decide) (dd16 x) (dd16 y) hl (by omega) k _ (by omega) (by omega) (by omega)]
    have e2 : (((dg 65536 x).length : Int) - 1 + 1).toNat = (dg 65536 x).length := by omega
    rw [e2, List.take_length, hl, List.take_length, de16, de16]
    by_cases hs : sgn (x : Int) y = 0
    · simp only [hs, if_true]; rfl
    · simp only [hs, if_false]; rfl
  · have e : ((dg 65536 x).length : Int) ≠ ((dg 65536 y).length : Int) := by omega
    rw [bne_t e, cond_true]
    rcases Nat.lt_or_ge (dg 65536 x).length (dg 65536 y).length with h1 | h1
    · have := len_lt_ev hB16 h1
      rw [dlt_t (by omega)]
      simp only [cond_true, sgn]
      rw [if_pos (by omega)]
    · have := len_lt_ev hB16 (x := y) (y := x) (by omega)
      rw [dlt_f (by omega)]
      simp only [cond_false, sgn]
      rw [if_neg (by omega), if_pos (by omega)]
theorem Plus_l0 (k : Nat) {a b : List Int} (ha : Dig 65536 a) (hb : Dig 65536 b) (hbig : ((a.length + b.length : Nat) : Int) ≤ 17000000000000) : ∀ (n i : Nat) (out : List Int) (c : Int), a.length + b.length + 2 - i < n → i ≤ a.length + b.length + 1 → out.length = i → Dig 65536 out → 0 ≤ c → c ≤ 1 → (a.length ≤ i → b.length ≤ i → i ≤ max a.length b.length ∨ c = 0) →
    ∃ out', brindlewoodref3_Plus.l0 k n a b out c i = some (.inl out') ∧ out'.length ≤ a.length + b.length + 1 ∧ Dig 65536 out' ∧ ev 65536 out' = ev 65536 out + (65536 : Int) ^ i * (c + ev 65536 (a.drop i) + ev 65536 (b.drop i)) := by
  intro n
  induction n with
  | zero => intro i out c h; omega
  | succ n ih =>
    intro i out c h1 h2 h3 hd c0 c1 hend
    have e1 : w64 ((i : Int) + 1) = ((i + 1 : Nat) : Int) := by rw [w64_id (by omega) (by omega)]; omega
    have step : ∀ s x y : Int, s = c + x + y → 0 ≤ x → x < 65536 → 0 ≤ y → y < 65536 → (a.length ≤ i → x = 0) → (b.length ≤ i → y = 0) → i ≤ a.length + b.length → ev 65536 (a.drop i) = x + 65536 * ev 65536 (a.drop (i + 1)) → ev 65536 (b.drop i) = y + 65536 * ev 65536 (b.drop (i + 1)) →
        ∃ out', (brindlewoodref3_Plus.l0 k n a b (out ++ [s % 65536]) (s / 65536) ((i + 1 : Nat) : Int)) = some (.inl out') ∧ out'.length ≤ a.length + b.length + 1 ∧ Dig 65536 out' ∧ ev 65536 out' = ev 65536 out + (65536 : Int) ^ i * (c + ev 65536 (a.drop i) + ev 65536 (b.drop i)) := by
      intro s x y hs x0 x1 y0 y1 hxa hyb hil hax hby
      obtain ⟨out', g1, g2, g3, g4⟩ := ih (i + 1) (out ++ [s % 65536]) (s / 65536) (by omega) (by omega) (by simp; omega) (hd.app (Dig.one (by omega) (by omega))) (by omega) (by omega) (fun q1 q2 => by
        by_cases q3 : i + 1 ≤ max a.length b.length
        · exact .inl q3
        · right
          have := hxa (by omega)
          have := hyb (by omega)
          omega)
      refine ⟨out', g1, g2, g3, ?_⟩
      rw [g4, ev_snoc, h3, hax, hby, Int.pow_succ]
      have hmd := Int.emod_add_mul_ediv s 65536
      generalize (65536 : Int) ^ i = p
      generalize ev 65536 (a.drop (i + 1)) = u
      generalize ev 65536 (b.drop (i + 1)) = v
      grind
    simp only [brindlewoodref3_Plus.l0, brindlewoodref3_Plus.b0]
    by_cases hia : i < a.length
    · have hx := ha.getD hia
      have hax : ev 65536 (a.drop i) = a.getD i 0 + 65536 * ev 65536 (a.drop (i + 1)) := by rw [drop_getD hia, ev_cons]
      simp (disch := omega) only [dlt_t, cond_true, inR_t, rd_nat, joinB_inl, w64_id]
      by_cases hib : i < b.length
      · have hy := hb.getD hib
        have hby : ev 65536 (b.drop i) = b.getD i 0 + 65536 * ev 65536 (b.drop (i + 1)) := by rw [drop_getD hib, ev_cons]
        simp (disch := omega) only [dlt_t, cond_true, inR_t, rd_nat, w64_id, List.length_singleton, fits_t, tmod_nn, tdiv_nn]
        have := step _ (a.getD i 0) (b.getD i 0) rfl hx.1 hx.2 hy.1 hy.2 (fun h => by omega) (fun h => by omega) (by omega) hax hby
        simpa using this
      · have hby : ev 65536 (b.drop i) = 0 + 65536 * ev 65536 (b.drop (i + 1)) := by rw [List.drop_eq_nil_of_le (by omega), List.drop_eq_nil_of_le (by omega)]; simp [ev]
        simp (disch := omega) only [dlt_f, cond_false, cond_true, w64_id, List.length_singleton, fits_t, tmod_nn, tdiv_nn]
        have := step (c + a.getD i 0) (a.getD i 0) 0 (by omega) hx.1 hx.2 (by omega) (by omega) (fun h => by omega) (fun h => rfl) (by omega) hax hby
        simpa using this
    · have hax : ev 65536 (a.drop i) = 0 + 65536 * ev 65536 (a.drop (i + 1)) := by rw [List.drop_eq_nil_of_le (by omega), List.drop_eq_nil_of_le (by omega)]; simp [ev]
      rw [dlt_f (by omega)]
      simp only [cond_false]
      by_cases hib : i < b.length
      · have hy := hb.getD hib
        have hby : ev 65536 (b.drop i) = b.getD i 0 + 65536 * ev 65536 (b.drop (i + 1)) := by rw [drop_getD hib, ev_cons]
        simp (disch := omega) only [dlt_t, cond_true, inR_t, rd_nat, joinB_inl, w64_id, List.length_singleton, fits_t, tmod_nn, tdiv_nn]
        have := step (c + b.getD i 0) 0 (b.getD i 0) (by omega) (by omega) (by omega) hy.1 hy.2 (fun h => rfl) (fun h => by omega) (by omega) hax hby
        simpa using this
      · have hby : ev 65536 (b.drop i) = 0 + 65536 * ev 65536 (b.drop (i + 1)) := by rw [List.drop_eq_nil_of_le (by omega), List.drop_eq_nil_of_le (by omega)]; simp [ev]
        rw [dlt_f (by omega)]
        simp only [cond_false]
        by_cases hc : 0 < c
        · have := hend (by omega) (by omega)
          simp (disch := omega) only [dlt_t, cond_true, joinB_inl, dlt_f, cond_false, w64_id, List.length_singleton, fits_t, tmod_nn, tdiv_nn]
          have := step c 0 0 (by omega) (by omega) (by omega) (by omega) (by omega) (fun h => rfl) (fun h => rfl) (by omega) hax hby
          simpa using this
        · have : c = 0 := by omega
          subst this
          simp (disch := omega) only [dlt_f, cond_false]
          refine ⟨out, rfl, by omega, hd, ?_⟩
          rw [List.drop_eq_nil_of_le (by omega), List.drop_eq_nil_of_le (by omega)]; simp [ev]
theorem Plus_ok {k : Nat} {x y : Nat} (hx : ((dg 65536 x).length : Int) ≤ 7000000000000) (hy : ((dg 65536 y).length : Int) ≤ 7000000000000) (hk : 100000000000000 < k) : brindlewoodref3_Plus k (dg 65536 x) (dg 65536 y) = some (dg 65536 (x + y)) := by
  unfold brindlewoodref3_Plus
  obtain ⟨out, g1, g2, g3, g4⟩ := Plus_l0 k (dd16 x) (dd16 y) (by omega) k 0 [] 0 (by omega) (by omega) rfl Dig.nil (by omega) (by omega) (fun _ _ => .inr rfl)
  have g1' : brindlewoodref3_Plus.l0 k k (dg 65536 x) (dg 65536 y) [] 0 0 = some (.inl out) := g1
  rw [g1', joinB_inl]
  exact trimmed (by omega) (by omega) g3 (by rw [g4, List.drop_zero, List.drop_zero, de16, de16]; simp [ev])
theorem Minus_l0 (k : Nat) {a b : List Int} (ha : Dig 65536 a) (hb : Dig 65536 b) (hab : b.length ≤ a.length) (hbig : (a.length : Int) ≤ 1000000000000) : ∀ (n i : Nat) (out : List Int) (c : Int), i ≤ a.length → a.length - i < n → out.length = i → Dig 65536 out → 0 ≤ c → c ≤ 1 →
    ∃ out' c', brindlewoodref3_Minus.l0 k n a b out c i = some (.inl out') ∧ out'.length = a.length ∧ Dig 65536 out' ∧ 0 ≤ c' ∧ c' ≤ 1 ∧ ev 65536 out' - (65536 : Int) ^ a.length * c' = ev 65536 out + (65536 : Int) ^ i * (ev 65536 (a.drop i) - c - ev 65536 (b.drop i)) := by
  intro n
  induction n with
  | zero => intro i out c _ h; omega
  | succ n ih =>
    intro i out c h1 h2 h3 hd c0 c1
    simp only [brindlewoodref3_Minus.l0, brindlewoodref3_Minus.b0]
    by_cases hi : i < a.length
    · have hx := ha.getD hi
      have e1 : w64 ((i : Int) + 1) = ((i + 1 : Nat) : Int) := by rw [w64_id (by omega) (by omega)]; omega
      have step : ∀ y : Int, 0 ≤ y → y < 65536 → ev 65536 (b.drop i) = y + 65536 * ev 65536 (b.drop (i + 1)) → ∀ (d w : Int), d = a.getD i 0 - c - y + 65536 * w → 0 ≤ d → d < 65536 → 0 ≤ w → w ≤ 1 → ∃ out' c', brindlewoodref3_Minus.l0 k n a b (out ++ [d]) w ((i + 1 : Nat) : Int) = some (.inl out') ∧
          out'.length = a.length ∧ Dig 65536 out' ∧ 0 ≤ c' ∧ c' ≤ 1 ∧ ev 65536 out' - (65536 : Int) ^ a.length * c' = ev 65536 out + (65536 : Int) ^ i * (ev 65536 (a.drop i) - c - ev 65536 (b.drop i)) := by
        intro y y0 y1 hby d w hdw d0 d1 w0 w1
        obtain ⟨out', c', g1, g2, g3, g4, g5, g6⟩ := ih (i + 1) (out ++ [d]) w (by omega) (by omega) (by simp; omega) (hd.app (Dig.one d0 d1)) w0 w1
        refine ⟨out', c', g1, g2, g3, g4, g5, ?_⟩
        rw [g6, ev_snoc, h3, hby, drop_getD hi, ev_cons, Int.pow_succ, hdw]
        generalize (65536 : Int) ^ i = p
        generalize ev 65536 (a.drop (i + 1)) = u
        generalize ev 65536 (b.drop (i + 1)) = v
        grind
      simp (disch := omega) only [dlt_t, cond_true, inR_t, rd_nat]
      by_cases hib : i < b.length
      · have hy := hb.getD hib
        have hby : ev 65536 (b.drop i) = b.getD i 0 + 65536 * ev 65536 (b.drop (i + 1)) := by rw [drop_getD hib, ev_cons]
        simp (disch := omega) only [dlt_t, cond_true, inR_t, rd_nat, joinB_inl, w64_id]
        by_cases hneg : a.getD i 0 - c - b.getD i 0 < 0
        · simp (disch := omega) only [dlt_t, cond_true, List.length_singleton, fits_t, w64_id]
          have := step _ hy.1 hy.2 hby (a.getD i 0 - c - b.getD i 0 + 65536) 1 (by omega) (by omega) (by omega) (by omega) (by omega)
          simpa using this
        · simp (disch := omega) only [dlt_f, cond_false, List.length_singleton, fits_t, cond_true, w64_id]
          have := step _ hy.1 hy.2 hby (a.getD i 0 - c - b.getD i 0) 0 (by omega) (by omega) (by omega) (by omega) (by omega)
          simpa using this
      · have hby : ev 65536 (b.drop i) = 0 + 65536 * ev 65536 (b.drop (i + 1)) := by rw [List.drop_eq_nil_of_le (by omega), List.drop_eq_nil_of_le (by omega)]; simp [ev]
        simp (disch := omega) only [dlt_f, cond_false, joinB_inl, w64_id]
        by_cases hneg : a.getD i 0 - c < 0
        · simp (disch := omega) only [dlt_t, cond_true, List.length_singleton, fits_t, w64_id]
          have := step 0 (by omega) (by omega) hby (a.getD i 0 - c + 65536) 1 (by omega) (by omega) (by omega) (by omega) (by omega)
          simpa using this
        · simp (disch := omega) only [dlt_f, cond_false, List.length_singleton, fits_t, cond_true, w64_id]
          have := step 0 (by omega) (by omega) hby (a.getD i 0 - c) 0 (by omega) (by omega) (by omega) (by omega) (by omega)
          simpa using this
    · have e1 : i = a.length := by omega
      simp (disch := omega) only [dlt_f, cond_false]
      refine ⟨out, c, rfl, by omega, hd, c0, c1, ?_⟩
      rw [e1, List.drop_length, List.drop_eq_nil_of_le hab]; simp [ev]; grind
theorem Minus_ok {k : Nat} {x y : Nat} (hxy : y ≤ x) (hx : ((dg 65536 x).length : Int) ≤ 1000000000) (hk : 1000000001 < k) : brindlewoodref3_Minus k (dg 65536 x) (dg 65536 y) = some (dg 65536 (x - y)) := by
  unfold brindlewoodref3_Minus
  have hl := len_le_of_le hB16 hxy
  obtain ⟨out, c, g1, g2, g3, g4, g5, g6⟩ := Minus_l0 k (dd16 x) (dd16 y) hl (by omega) k 0 [] 0 (by omega) (by omega) rfl Dig.nil (by omega) (by omega)
  have g1' : brindlewoodref3_Minus.l0 k k (dg 65536 x) (dg 65536 y) [] 0 0 = some (.inl out) := g1
  rw [g1', joinB_inl]
  simp only [List.drop_zero, de16, Int.pow_zero, ev] at g6
  have h1 := ev_lt (b := 65536) (by decide) g3
  rw [g2] at h1
  have h2 := ev_nonneg (b := 65536) (by decide) g3
  have hc : c = 0 := by
    rcases Int.lt_or_le 0 c with h | h
    · have : c = 1 := by omega
      subst this; omega
    · omega
  subst hc
  exact trimmed (by omega) (by omega) g3 (by omega)
theorem Times_l1 (k : Nat) {a b : List Int} (ha : Dig 65536 a) (hb : Dig 65536 b) {i : Nat} (hi : i < a.length) : ∀ (n j : Nat) (out : List Int) (c : Int), j ≤ b.length + 1 → b.length + 2 - j < n → out.length = a.length + b.length + 1 → (out.length : Int) ≤ 17000000000000 → Dig 65536 out → 0 ≤ c → c < 65536 → (j = b.length + 1 → c = 0) → (j ≤ b.length → out.getD (i + b.length) 0 = 0) →
    ∃ out', brindlewoodref3_Times.l1 k n a b out i c j = some (.inl (a, b, out', (i : Int), 0, false)) ∧ out'.length = out.length ∧ Dig 65536 out' ∧ (∀ p : Nat, i + b.length + 1 ≤ p → out'.getD p 0 = out.getD p 0) ∧
      ev 65536 out' = ev 65536 out + (65536 : Int) ^ (i + j) * (c + a.getD i 0 * ev 65536 (b.drop j)) := by
  intro n
  induction n with
  | zero => intro j out c _ h; omega
  | succ n ih =>
    intro j out c h1 h2 h3 hbig hd c0 c1 hj1 hj2
    have hx := ha.getD hi
    simp only [brindlewoodref3_Times.l1, brindlewoodref3_Times.b1]
    by_cases hj : j < b.length
    · have hy := hb.getD hj
      have ho := hd.getD (i := i + j) (by omega)
      have hxy := mul_bound hx.1 hx.2 hy.1 hy.2
      have e1 : w64 ((i : Int) + (j : Int)) = ((i + j : Nat) : Int) := by rw [w64_id (by omega) (by omega)]; omega
      have e2 : w64 ((j : Int) + 1) = ((j + 1 : Nat) : Int) := by rw [w64_id (by omega) (by omega)]; omega
      simp (disch := omega) only [dlt_t, cond_true, inR_t, e1, e2, rd_nat, natCast_toNat, w64_id, tmod_nn, tdiv_nn]
      generalize hs : out.getD (i + j) 0 + c + a.getD i 0 * b.getD j 0 = s at *
      have hmd := Int.emod_add_mul_ediv s 65536
      obtain ⟨out', g1, g2, g3, g6, g7⟩ := ih (j + 1) (out.set (i + j) (s % 65536)) (s / 65536) (by omega) (by omega) (by simpa using h3) (by simpa using hbig) (hd.set (by omega) (by omega)) (by omega) (by omega) (fun h => by omega) (fun _ => by rw [getD_set_ne _ (by omega)]; exact hj2 (by omega))
      refine ⟨out', g1, by simpa using g2, g3, fun p hp => by rw [g6 p hp, getD_set_ne _ (by omega)], ?_⟩
      rw [g7, ev_set _ (by omega), drop_getD hj, ev_cons, show i + (j + 1) = (i + j) + 1 by omega, Int.pow_succ]
      generalize (65536 : Int) ^ (i + j) = p
      generalize ev 65536 (b.drop (j + 1)) = u at *
      generalize out.getD (i + j) 0 = o at *
      generalize b.getD j 0 = y at *
      generalize a.getD i 0 = x at *
      grind
    · rw [dlt_f (by omega)]
      simp only [cond_false]
      by_cases hc : 0 < c
      · have ej : j = b.length := by
          rcases Nat.lt_or_ge b.length j with h | h
          · have := hj1 (by omega); omega
          · omega
        subst ej
        have hz := hj2 (by omega)
        have e1 : w64 ((i : Int) + (b.length : Int)) = ((i + b.length : Nat) : Int) := by rw [w64_id (by omega) (by omega)]; omega
        have e2 : w64 ((b.length : Int) + 1) = ((b.length + 1 : Nat) : Int) := by rw [w64_id (by omega) (by omega)]; omega
        simp (disch := omega) only [dlt_t, cond_true, inR_t, e1, e2, rd_nat, natCast_toNat, hz, Int.zero_add, w64_id, tmod_nn, tdiv_nn, dlt_f, cond_false]
        obtain ⟨out', g1, g2, g3, g6, g7⟩ := ih (b.length + 1) (out.set (i + b.length) (c % 65536)) (c / 65536) (by omega) (by omega) (by simpa using h3) (by simpa using hbig) (hd.set (by omega) (by omega)) (by omega) (by omega) (fun h => by omega) (fun h => by omega)
        refine ⟨out', g1, by simpa using g2, g3, fun p hp => by rw [g6 p hp, getD_set_ne _ (by omega)], ?_⟩
        rw [g7, ev_set _ (by omega), hz, List.drop_eq_nil_of_le (by omega), List.drop_eq_nil_of_le (by omega), show c % 65536 = c by omega, show c / 65536 = 0 by omega]
        simp [ev]
      · have : c = 0 := by omega
        subst this
        simp (disch := omega) only [dlt_f, cond_false]
        refine ⟨out, rfl, rfl, hd, fun _ _ => rfl, ?_⟩
        rw [List.drop_eq_nil_of_le (by omega)]; simp [ev]
theorem Times_l0 (k : Nat) {a b : List Int} (ha : Dig 65536 a) (hb : Dig 65536 b) (hbig : ((a.length + b.length + 1 : Nat) : Int) ≤ 17000000000000) (hk : b.length + 2 < k) : ∀ (n i : Nat) (out : List Int), i ≤ a.length → a.length - i < n → out.length = a.length + b.length + 1 → Dig 65536 out → (∀ p : Nat, i + b.length ≤ p → out.getD p 0 = 0) →
    ev 65536 out = ev 65536 (a.take i) * ev 65536 b → ∃ out', brindlewoodref3_Times.l0 k n a b out i = some (.inl out') ∧ out'.length = a.length + b.length + 1 ∧ Dig 65536 out' ∧ ev 65536 out' = ev 65536 a * ev 65536 b := by
  intro n
  induction n with
  | zero => intro i out _ h; omega
  | succ n ih =>
    intro i out h1 h2 h3 hd hz he
    simp only [brindlewoodref3_Times.l0, brindlewoodref3_Times.b0]
    by_cases hi : i < a.length
    · obtain ⟨out', g1, g2, g3, g6, g7⟩ := Times_l1 k ha hb hi k 0 out 0 (by omega) (by omega) h3 (by omega) hd (by omega) (by omega) (fun _ => rfl) (fun _ => hz _ (by omega))
      have g1' : brindlewoodref3_Times.l1 k k a b out i 0 0 = some (.inl (a, b, out', (i : Int), 0, false)) := g1
      have e2 : w64 ((i : Int) + 1) = ((i + 1 : Nat) : Int) := by rw [w64_id (by omega) (by omega)]; omega
      rw [dlt_t (by omega), cond_true, g1', joinB_inl]
      simp only [e2]
      refine ih (i + 1) _ (by omega) (by omega) (by omega) g3 (fun p hp => ?_) ?_
      · rw [g6 p (by omega), hz p (by omega)]
      · rw [g7, ev_take hi, he]
        simp only [Nat.add_zero, List.drop_zero]
        generalize (65536 : Int) ^ i = p at *
        grind
    · have e1 : i = a.length := by omega
      subst e1
      simp (disch := omega) only [dlt_f, cond_false]
      exact ⟨out, rfl, h3, hd, by rw [he, List.take_length]⟩
theorem Times_ok {k : Nat} {x y : Nat} (hx : ((dg 65536 x).length : Int) ≤ 7000000000000) (hy : ((dg 65536 y).length : Int) ≤ 7000000000000) (hk : 100000000000000 < k) : brindlewoodref3_Times k (dg 65536 x) (dg 65536 y) = some (dg 65536 (x * y)) := by
  unfold brindlewoodref3_Times
  generalize ha : dg 65536 x = a at *
  generalize hb : dg 65536 y = b at *
  have e1 : w64 ((w64 ((a.length : Int) + (b.length : Int))) + 1) = ((a.length + b.length + 1 : Nat) : Int) := by rw [w64_id (n := (a.length : Int) + (b.length : Int)) (by omega) (by omega), w64_id (by omega) (by omega)]; omega
  simp (disch := omega) only [e1, dle_t, Bool.and_self, fits_t, cond_true, natCast_toNat]
  obtain ⟨out, g1, g2, g3, g4⟩ := Times_l0 k (ha ▸ dd16 x) (hb ▸ dd16 y) (by omega) (by omega) k 0 (List.replicate (a.length + b.length + 1) 0) (by omega) (by omega) (by simp) (fun x hx => by have := List.eq_of_mem_replicate hx; omega) (fun p _ => by
    simp [List.getD, List.getElem?_replicate]; split <;> rfl) (by rw [ev_zeros]; simp [ev])
  have g1' : brindlewoodref3_Times.l0 k k a b (List.replicate (a.length + b.length + 1) 0) 0 = some (.inl out) := g1
  rw [g1', joinB_inl]
  exact trimmed (by omega) (by omega) g3 (by rw [g4, ← ha, ← hb, de16, de16]; simp)
end Go.Pl
