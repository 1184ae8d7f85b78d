/- What the functions of package natural answer: checks, trimming, comparison, addition, multiplication.  Conditions: those that each theorem names. -/
import Derived.Test.YtnopjcpoeffoiaaGreatDoorPlA
import Derived.Test.YtnopjcpoeffoiaaGreatDoorShX
set_option linter.unusedVariables false
set_option linter.unusedSimpArgs false
namespace Go.Pl
open Go Go.Ev Go.Sh
theorem sub_nrm (l : List Int) : Ev.sub l 0 ((nrm l).length : Int) = nrm l := by
  show (l.drop 0).take _ = _
  rw [List.drop_zero, show ((nrm l).length : Int).toNat = (nrm l).length by omega, ← nrm_take]
theorem trim_v_l0 (k : Nat) {l : List Int} (hl : (l.length : Int) ≤ 1000000000000000000) : ∀ (n : Nat) (i : Int), 0 ≤ i → i ≤ l.length → i.toNat < n → (∀ j : Nat, i.toNat ≤ j → j < l.length → l.getD j 0 = 0) →
    natural_trim_v.l0 k n l (0, i) = some (.inl (l, (0, ((nrm l).length : Int)))) := by
  intro n
  induction n with
  | zero => intro i _ _ h; omega
  | succ n ih =>
    intro i h0 h1 h2 hz
    simp only [natural_trim_v.l0, natural_trim_v.b0]
    by_cases hi : 0 < i
    · simp (disch := omega) only [dlt_t, cond_true, w64_id, inR_t, Int.zero_add]
      by_cases hr : rd l (i - 1) = 0
      · simp (disch := omega) only [beq_t hr, cond_true, dle_t, z_le, Bool.and_self, Int.sub_zero, Int.add_zero]
        refine ih (i - 1) (by omega) (by omega) (by omega) fun j hj hj' => ?_
        by_cases e : j = (i - 1).toNat
        · rw [e]; exact hr
        · exact hz j (by omega) hj'
      · simp only [beq_f hr, cond_false]
        have := nrm_cut (l := l) (m := i.toNat) (by omega) hz (.inr (by rw [show i.toNat - 1 = (i - 1).toNat by omega]; exact hr))
        rw [this, Int.toNat_of_nonneg h0]
    · have hi0 : i = 0 := by omega
      subst hi0
      simp (disch := omega) only [dlt_f, cond_false]
      have := nrm_cut (l := l) (m := 0) (by omega) hz (.inl rfl)
      rw [this]; rfl
theorem trim_v {k : Nat} {l : List Int} (hl : (l.length : Int) ≤ 1000000000000000000) (hk : l.length < k) : natural_trim_v k l = some (0, ((nrm l).length : Int)) := by
  unfold natural_trim_v
  rw [trim_v_l0 k hl k l.length (by omega) (by omega) (by omega) (fun j hj hj' => by omega)]
  rfl
theorem nrm_snoc0 (l : List Int) : nrm (l ++ [0]) = nrm l := by
  induction l with
  | nil => simp [nrm]
  | cons x l ih => simp only [List.cons_append, nrm, ih]
theorem trim_l0 (k : Nat) : ∀ (n : Nat) (l : List Int), (l.length : Int) ≤ 1000000000000000000 → l.length < n → natural_trim.l0 k n l = some (.inl (nrm l)) := by
  intro n
  induction n with
  | zero => intro l _ h; omega
  | succ n ih =>
    intro l hl hn
    simp only [natural_trim.l0, natural_trim.b0]
    rcases List.eq_nil_or_concat l with rfl | ⟨m, x, rfl⟩
    · rfl
    · simp only [List.concat_eq_append, List.length_append, List.length_singleton] at hl hn ⊢
      have e1 : w64 (((m.length + 1 : Nat) : Int) - 1) = m.length := by rw [w64_id (by omega) (by omega)]; omega
      simp (disch := omega) only [dlt_t, cond_true, e1, inR_t]
      have hr : rd (m ++ [x]) (m.length : Int) = x := by simp [Ev.rd]
      rw [hr]
      by_cases hx : x = 0
      · subst hx
        simp (disch := omega) only [beq_t, cond_true, dle_t, z_le, Bool.and_self, Int.sub_zero]
        have hs : Ev.sub (m ++ [(0 : Int)]) 0 (m.length : Int) = m := by simp [Ev.sub]
        rw [hs, ih m (by omega) (by omega), nrm_snoc0]
      · simp only [beq_f hx, cond_false]
        rw [nrm_self (by simpa using hx)]
theorem trim {k : Nat} {l : List Int} (hl : (l.length : Int) ≤ 1000000000000000000) (hk : l.length < k) : natural_trim k l = some (nrm l) := by
  unfold natural_trim
  rw [trim_l0 k k l hl hk]
  rfl
theorem at_ok (a b : Int) : natural_at a b = some (a, b) := rfl
theorem valid_ok {a : List Int} (h : a.length ≤ 600) (hl : a.getLast? ≠ some 0) : natural_Valid a = some true := by
  unfold natural_Valid
  rcases List.eq_nil_or_concat a with rfl | ⟨m, x, rfl⟩
  · rfl
  · simp only [List.concat_eq_append, List.length_append, List.length_singleton] at h hl ⊢
    have e1 : w64 (((m.length + 1 : Nat) : Int) - 1) = m.length := by rw [w64_id (by omega) (by omega)]; omega
    have hr : rd (m ++ [x]) (m.length : Int) = x := by simp [Ev.rd]
    have hx : x ≠ 0 := by simpa using hl
    simp (disch := omega) only [dle_t, cond_true, beq_f, cond_false, e1, inR_t, hr, bne_t hx]
theorem valid_dg' {x : Nat} (h : x < lim) : natural_Valid (dg 4294967296 x) = some true := valid_ok (lim_iff.2 h) (dg_last hB32 x)
theorem len600 {x : Nat} (h : x < lim) : (dg 4294967296 x).length ≤ 600 := lim_iff.2 h
theorem check_ok {x y : Nat} (hx : x < lim) (hy : y < lim) : natural_check (dg 4294967296 x) (dg 4294967296 y) = some (0, 0) := by
  unfold natural_check
  rw [valid_dg' hx, valid_dg' hy]; rfl
theorem fit_ok {k : Nat} {l : List Int} {n : Nat} (hl : (l.length : Int) ≤ 1000000000000000000) (hk : l.length < k) (hd : Dig 4294967296 l) (he : ev 4294967296 l = n) : natural_fit k l = some (if n < lim then (dg 4294967296 n, 0, 0) else ([], 14, -1)) := by
  unfold natural_fit
  rw [trim hl hk, nd32 hd he]
  simp only [Option.bind_some]
  by_cases h : n < lim
  · have := len600 h
    simp (disch := omega) only [dlt_f, cond_false, h, if_true]
  · have : ¬ (dg 4294967296 n).length ≤ 600 := fun h' => h (lim_iff.1 h')
    simp (disch := omega) only [dlt_t, cond_true, h, if_false, at_ok, Option.bind_some]
theorem take_succ' {l : List Int} {i : Nat} (h : i < l.length) : l.take (i + 1) = l.take i ++ [l.getD i 0] := by
  rw [List.take_add_one, List.getElem?_eq_getElem h]; simp [h]
theorem ev_take {b : Int} {l : List Int} {i : Nat} (h : i < l.length) : ev b (l.take (i + 1)) = ev b (l.take i) + b ^ i * l.getD i 0 := by
  rw [take_succ' h, ev_snoc, List.length_take, Nat.min_eq_left (by omega)]
theorem lex_lt {b : Int} (hb : 0 < b) {l m : List Int} (hl : Dig b l) (hm : Dig b m) {i : Nat} (h : i < l.length) (h' : i < m.length) (hx : l.getD i 0 < m.getD i 0) : ev b (l.take (i + 1)) < ev b (m.take (i + 1)) := by
  rw [ev_take h, ev_take h']
  have h1 := ev_lt hb (hl.take i)
  have h2 := ev_nonneg (Int.le_of_lt hb) (hm.take i)
  rw [List.length_take, Nat.min_eq_left (by omega)] at h1
  have h3 : b ^ i * (l.getD i 0 + 1) ≤ b ^ i * m.getD i 0 := Int.mul_le_mul_of_nonneg_left (by omega) (Int.le_of_lt (Int.pow_pos hb))
  grind
def sgn (x y : Int) : Int := if x < y then -1 else if y < x then 1 else 0
theorem compare_l0 (k : Nat) {b : Int} (hb : 0 < b) {l m : List Int} (hl : Dig b l) (hm : Dig b m) (hlen : l.length = m.length) (hbig : (l.length : Int) ≤ 1000000000000000000) : ∀ (n : Nat) (i : Int), -1 ≤ i → i < l.length → (i + 1).toNat < n →
    natural_compare.l0 k n l m i = some (if sgn (ev b (l.take (i + 1).toNat)) (ev b (m.take (i + 1).toNat)) = 0 then .inl () else .inr (sgn (ev b (l.take (i + 1).toNat)) (ev b (m.take (i + 1).toNat)))) := by
  intro n
  induction n with
  | zero => intro i _ _ h; omega
  | succ n ih =>
    intro i h0 h1 h2
    simp only [natural_compare.l0, natural_compare.b0]
    by_cases hi : 0 ≤ i
    · simp (disch := omega) only [dle_t, cond_true, inR_t]
      obtain ⟨j, rfl⟩ : ∃ j : Nat, i = j := ⟨i.toNat, by omega⟩
      have e1 : ((j : Int) + 1).toNat = j + 1 := by omega
      rw [e1]
      have hj : j < l.length := by omega
      by_cases hr : rd l (j : Int) = rd m (j : Int)
      · simp (disch := omega) only [bne_f hr, cond_false, w64_id]
        rw [ih (j - 1) (by omega) (by omega) (by omega), show ((j : Int) - 1 + 1).toNat = j by omega]
        have hr' : l.getD j 0 = m.getD j 0 := hr
        have : sgn (ev b (l.take (j + 1))) (ev b (m.take (j + 1))) = sgn (ev b (l.take j)) (ev b (m.take j)) := by
          rw [ev_take hj, ev_take (by omega), hr']
          unfold sgn
          split <;> split <;> (try split) <;> (try split) <;> omega
        rw [this]
      · simp (disch := omega) only [bne_t hr, cond_true]
        by_cases hlt : rd l (j : Int) < rd m (j : Int)
        · have := lex_lt hb hl hm hj (by omega) (i := j) hlt
          simp only [dlt_t hlt, cond_true, sgn, this, if_true]; rfl
        · have h3 : rd m (j : Int) < rd l (j : Int) := by omega
          have := lex_lt hb hm hl (by omega) hj (i := j) h3
          have h4 : ¬ ev b (l.take (j + 1)) < ev b (m.take (j + 1)) := by omega
          simp only [dlt_f (Int.le_of_lt h3), cond_false, sgn, this, h4, if_true, if_false]; rfl
    · have hi0 : i = -1 := by omega
      subst hi0
      simp (disch := omega) only [dle_f, cond_false]
      simp [sgn]
theorem len_lt_ev {b : Nat} (hb : 2 ≤ b) {x y : Nat} (h : (dg b x).length < (dg b y).length) : x < y := by
  rcases Nat.lt_or_ge x y with h1 | h1
  · exact h1
  · have := (dg_len_iff (n := y) (m := (dg b x).length) hb).2 (Nat.lt_of_le_of_lt h1 (dg_lt hb))
    omega
theorem compare_ok {k : Nat} {x y : Nat} (hx : ((dg 4294967296 x).length : Int) ≤ 1000000000000000000) (hy : ((dg 4294967296 y).length : Int) ≤ 1000000000000000000) (hk : (dg 4294967296 x).length + 1 < k) :
    ∃ c : Int, natural_compare k (dg 4294967296 x) (dg 4294967296 y) = some c ∧ (c < 0 ↔ x < y) ∧ (c = 0 ↔ x = y) := by
  unfold natural_compare
  by_cases hl : (dg 4294967296 x).length = (dg 4294967296 y).length
  · have e : ((dg 4294967296 x).length : Int) = ((dg 4294967296 y).length : Int) := by omega
    simp (disch := omega) only [bne_f e, cond_false, w64_id]
    rw [compare_l0 k (b := 4294967296) (by decide) (dd32 x) (dd32 y) hl hx k _ (by omega) (by omega) (by omega)]
    have e2 : (((dg 4294967296 x).length : Int) - 1 + 1).toNat = (dg 4294967296 x).length := by omega
    rw [e2, List.take_length, hl, List.take_length, de32, de32]
    by_cases hs : sgn (x : Int) y = 0
    · refine ⟨0, by simp only [hs, if_true]; rfl, ?_, ?_⟩ <;> (unfold sgn at hs; split at hs <;> (try split at hs) <;> omega)
    · refine ⟨sgn x y, by simp only [hs, if_false]; rfl, ?_, ?_⟩ <;> (unfold sgn at *; split at * <;> (try split at *) <;> omega)
  · have e : ((dg 4294967296 x).length : Int) ≠ ((dg 4294967296 y).length : Int) := by omega
    simp (disch := omega) only [bne_t e, cond_true, w64_id]
    refine ⟨_, rfl, ?_, ?_⟩
    · constructor
      · intro h; exact len_lt_ev hB32 (by omega)
      · intro h
        rcases Nat.lt_or_ge (dg 4294967296 x).length (dg 4294967296 y).length with h1 | h1
        · omega
        · have := len_lt_ev hB32 (x := y) (y := x) (by omega); omega
    · constructor
      · intro h; omega
      · intro h; subst h; omega
theorem Cmp_ok {k : Nat} {x y : Nat} (hx : x < lim) (hy : y < lim) (hk : 700 < k) : natural_Cmp k (dg 4294967296 x) (dg 4294967296 y) = some (sgn x y, 0, 0) := by
  unfold natural_Cmp
  have l1 := len600 hx
  have l2 := len600 hy
  obtain ⟨c, h1, h2, h3⟩ := compare_ok (k := k) (x := x) (y := y) (by omega) (by omega) (by omega)
  rw [check_ok hx hy, h1]
  simp only [Option.bind_some]
  have : mnI (mxI c (-1)) 1 = sgn x y := by
    unfold sgn mnI mxI
    split <;> split <;> (try split) <;> (try split) <;> omega
  simp only [bne_f rfl, cond_false, this]
theorem add_l0 (k : Nat) {a b : List Int} (ha : Dig 4294967296 a) (hb : Dig 4294967296 b) (hab : b.length ≤ a.length) (hbig : (a.length : Int) ≤ 1000000000) : ∀ (n : Nat) (i : Int) (out : List Int) (c : Int), 0 ≤ i → i ≤ a.length → a.length - i.toNat < n → out.length = i.toNat → Dig 4294967296 out → 0 ≤ c → c ≤ 1 →
    ∃ out' c', natural_add.l0 k n b out c a a.length i = some (.inl (out', c')) ∧ out'.length = a.length ∧ Dig 4294967296 out' ∧ 0 ≤ c' ∧ c' ≤ 1 ∧
      ev 4294967296 out' + (4294967296 : Int) ^ a.length * c' = ev 4294967296 out + (4294967296 : Int) ^ i.toNat * (c + ev 4294967296 (a.drop i.toNat) + ev 4294967296 (b.drop i.toNat)) := by
  intro n
  induction n with
  | zero => intro i out c _ _ h; omega
  | succ n ih =>
    intro i out c h0 h1 h2 ho hd c0 c1
    simp only [natural_add.l0, natural_add.b0]
    by_cases hi : i < a.length
    · have hra := ha.at h0 hi
      have hda := drop_rd h0 hi
      simp (disch := omega) only [dlt_t, cond_true, inR_t, wu64_id, List.length_singleton, fits_t]
      have step : ∀ (s y : Int), s = c + rd a i + y → 0 ≤ y → y < 4294967296 → ev 4294967296 (b.drop i.toNat) = y + 4294967296 * ev 4294967296 (b.drop (i.toNat + 1)) → ∃ out' c', natural_add.l0 k n b (out ++ [wu32 s]) (shrI .u64 s 32) a a.length (w64 (i + 1)) = some (.inl (out', c')) ∧ out'.length = a.length ∧ Dig 4294967296 out' ∧ 0 ≤ c' ∧ c' ≤ 1 ∧
          ev 4294967296 out' + (4294967296 : Int) ^ a.length * c' = ev 4294967296 out + (4294967296 : Int) ^ i.toNat * (c + ev 4294967296 (a.drop i.toNat) + ev 4294967296 (b.drop i.toNat)) := by
        intro s y hs y0 y1 hby
        rw [wu32_mod, shr_u64_32, w64_id (by omega) (by omega)]
        have e1 : (i + 1).toNat = i.toNat + 1 := by omega
        obtain ⟨out', c', g1, g2, g3, g4, g5, g6⟩ := ih (i + 1) (out ++ [s % 4294967296]) (s / 4294967296) (by omega) (by omega) (by omega) (by simp; omega) (hd.app (Dig.one (by omega) (by omega))) (by omega) (by omega)
        refine ⟨out', c', g1, g2, g3, g4, g5, ?_⟩
        rw [g6, ev_snoc, ho, e1, Int.pow_succ, hda, ev_cons, hby]
        have hmd := Int.emod_add_mul_ediv s 4294967296
        generalize (4294967296 : Int) ^ i.toNat = p
        generalize ev 4294967296 (a.drop (i.toNat + 1)) = u
        generalize ev 4294967296 (b.drop (i.toNat + 1)) = v
        grind
      by_cases hib : i < b.length
      · have hrb := hb.at h0 hib
        simp (disch := (omega)) only [dlt_t, cond_true, inR_t, wu64_id, List.length_singleton, fits_t]
        exact step _ (rd b i) rfl hrb.1 hrb.2 (by rw [drop_rd h0 hib, ev_cons])
      · simp (disch := (omega)) only [dlt_f, cond_false, fits_t, List.length_singleton]
        refine step _ 0 (by omega) (by omega) (by decide) ?_
        rw [List.drop_eq_nil_of_le (by omega), List.drop_eq_nil_of_le (by omega)]; simp [ev]
    · have e1 : i.toNat = a.length := by omega
      simp (disch := omega) only [dlt_f, cond_false]
      refine ⟨out, c, rfl, by omega, hd, c0, c1, ?_⟩
      rw [e1, List.drop_length, List.drop_eq_nil_of_le hab]
      simp [ev]
theorem add_ok {k : Nat} {x y : Nat} {a b : List Int} (ha : Dig 4294967296 a) (hb : Dig 4294967296 b) (hx : ev 4294967296 a = x) (hy : ev 4294967296 b = y) (la : (a.length : Int) ≤ 100000000) (lb : (b.length : Int) ≤ 100000000) (hk : 200000000 < k) : natural_add k a b = some (dg 4294967296 (x + y)) := by
  have main : ∀ (a b : List Int) (x y : Nat), Dig 4294967296 a → Dig 4294967296 b → ev 4294967296 a = x → ev 4294967296 b = y → b.length ≤ a.length → (a.length : Int) ≤ 100000000 →
      (bif ((decide ((0 : Nat) ≤ 0) && decide (0 ≤ w64 ((a.length : Int) + 1))) && fitsB (Int.toNat (w64 ((a.length : Int) + 1))) 4) then (joinB (α := List Int × Int) (natural_add.l0 k k b (List.replicate 0 0) 0 a (a.length : Int) 0) (fun y4 => bif fitsB (y4.1.length + [wu32 (y4.2)].length) 4 then ((natural_trim_v k (y4.1 ++ [wu32 (y4.2)])).bind fun t5 => some (Ev.sub (y4.1 ++ [wu32 (y4.2)]) t5.1 t5.2)) else none) some) else none) = some (dg 4294967296 (x + y)) := by
    intro a b x y ha hb hx hy hab la
    rw [w64_id (by omega) (by omega)]
    simp (disch := omega) only [dle_t, z_le, Bool.and_self, Bool.true_and, fits_t, cond_true]
    obtain ⟨out, c, g1, g2, g3, g4, g5, g6⟩ := add_l0 k ha hb hab (by omega) k 0 [] 0 (by omega) (by omega) (by omega) rfl Dig.nil (by omega) (by omega)
    rw [show (List.replicate 0 (0 : Int)) = [] by rfl, g1, joinB_inl]
    simp only [wu32_id g4 (by omega), List.length_singleton]
    rw [fits_t (by omega)]
    have hd : Dig 4294967296 (out ++ [c]) := g3.app (Dig.one g4 (by omega))
    have he : ev 4294967296 (out ++ [c]) = ((x + y : Nat) : Int) := by
      rw [ev_snoc, g2, g6, Int.toNat_zero, List.drop_zero, List.drop_zero, hx, hy]; simp [ev]
    rw [trim_v (by simp; omega) (by simp; omega)]
    simp only [cond_true, Option.bind_some]
    rw [sub_nrm, nd32 hd he]
  unfold natural_add
  by_cases hl : (a.length : Int) < b.length
  · simp only [dlt_t hl, cond_true, joinB_inl]
    rw [main b a y x hb ha hy hx (by omega) lb, Nat.add_comm]
  · simp only [dlt_f (by omega : (b.length : Int) ≤ a.length), cond_false, joinB_inl]
    exact main a b x y ha hb hx hy (by omega) la
end Go.Pl
