/- Package integer's operations on bits.  Conditions: those that each theorem names. -/
import Derived.Test.YtjimnjkgpdoacaaBtA
set_option linter.unusedVariables false
set_option linter.unusedSimpArgs false
set_option maxHeartbeats 0
namespace Go.Pl
open Go Go.Ev Go.Sh
theorem twos_l0 (k N : Nat) (hN : (N : Int) ≤ 1000000) : ∀ (m i : Nat) (out : List Int) (c : Int), i ≤ N → N - i < m → out.length = N → Dig 4294967296 out → 0 ≤ c → c ≤ 1 →
    ∃ out' c', integer_twos.l0 k m out c N i = some (.inl out') ∧ out'.length = N ∧ Dig 4294967296 out' ∧ 0 ≤ c' ∧ c' ≤ 1 ∧ ev 4294967296 out' + (4294967296 : Int) ^ N * c' = ev 4294967296 out + (4294967296 : Int) ^ i * (c - 1 - 2 * ev 4294967296 (out.drop i)) + (4294967296 : Int) ^ N := by
  intro m
  induction m with
  | zero => intro i out c _ h; omega
  | succ m ih =>
    intro i out c h1 h2 hl hd c0 c1
    simp only [integer_twos.l0, integer_twos.b0]
    by_cases hi : i < N
    · have ho := hd.getD (i := i) (by omega)
      have e2 : w64 ((i : Int) + 1) = ((i + 1 : Nat) : Int) := by rw [w64_id (by omega) (by omega)]; omega
      have e3 : wu64 (c + wu64 (bitsOp .xor .u32 (IntKind.max .u32) (rd out (i : Int)))) = c + (4294967295 - out.getD i 0) := by
        rw [rd_nat, notx ho.1 ho.2, wu64_id (n := 4294967295 - _) (by omega) (by omega), wu64_id (by omega) (by omega)]
      rw [dlt_t (by omega), inR_t (by omega) (by omega), e3]
      simp only [cond_true]
      rw [shr_u64_32, wu32_mod, e2, natCast_toNat]
      generalize hs : c + (4294967295 - out.getD i 0) = s at *
      obtain ⟨out', c', g1, g2, g3, g4, g5, g6⟩ := ih (i + 1) (out.set i (s % 4294967296)) (s / 4294967296) (by omega) (by omega) (by simpa using hl) (hd.set (by omega) (by omega)) (by omega) (by omega)
      refine ⟨out', c', g1, g2, g3, g4, g5, ?_⟩
      have hdr : (out.set i (s % 4294967296)).drop (i + 1) = out.drop (i + 1) := List.drop_set_of_lt (by omega)
      rw [g6, ev_set _ (by omega), hdr, drop_getD (l := out) (i := i) (by omega), ev_cons, Int.pow_succ]
      have hq := Int.mul_ediv_add_emod s 4294967296
      generalize s / 4294967296 = q at *
      generalize s % 4294967296 = r at *
      generalize (4294967296 : Int) ^ i = p
      generalize ev 4294967296 (out.drop (i + 1)) = u
      generalize out.getD i 0 = o at *
      grind
    · have e1 : i = N := by omega
      subst e1
      rw [dlt_f (by omega)]
      refine ⟨out, c, rfl, hl, hd, c0, c1, ?_⟩
      rw [List.drop_eq_nil_of_le (by omega), ev_nil]
      grind
theorem twos_ok {k N : Nat} (hN : (N : Int) ≤ 1000000) (hk : N < k) {s : Bool} {L : List Int} (hd : Dig 4294967296 L) (hl : L.length ≤ N) : ∃ out, integer_twos k (s, L) N = some out ∧ out.length = N ∧ Dig 4294967296 out ∧ ev 4294967296 out = (if s then -(ev 4294967296 L) else ev 4294967296 L) % (4294967296 : Int) ^ N := by
  have hP : splice (List.replicate (Int.toNat (N : Int)) (0 : Int)) 0 (L.take (List.replicate (Int.toNat (N : Int)) (0 : Int)).length) = L ++ List.replicate (N - L.length) 0 := by
    have : List.replicate (Int.toNat (N : Int)) (0 : Int) = List.replicate N 0 := by rw [natCast_toNat]
    rw [this]
    unfold splice
    rw [List.length_replicate, List.take_of_length_le hl]
    show [] ++ L ++ (List.replicate N (0 : Int)).drop (0 + L.length) = _
    rw [List.nil_append, Nat.zero_add, List.drop_replicate]
  have hlen : (L ++ List.replicate (N - L.length) (0 : Int)).length = N := by rw [List.length_append, List.length_replicate]; omega
  have hev : ev 4294967296 (L ++ List.replicate (N - L.length) (0 : Int)) = ev 4294967296 L := by rw [ev_app, ev_zeros, Int.mul_zero, Int.add_zero]
  have hdp : Dig 4294967296 (L ++ List.replicate (N - L.length) (0 : Int)) := hd.app (fun x hx => by rw [List.eq_of_mem_replicate hx]; omega)
  have hlt := ev_lt (by decide) hdp
  have h0 := ev_nonneg (by decide) hdp
  rw [hlen, hev] at hlt
  rw [hev] at h0
  unfold integer_twos
  rw [dle_t (show (0 : Int) ≤ N by omega), dle_t (show (N : Int) ≤ N by omega), fits_t (by omega)]
  simp only [Bool.and_self, cond_true, hP]
  cases s
  · refine ⟨_, rfl, hlen, hdp, ?_⟩
    rw [hev, if_neg (by simp), Int.emod_eq_of_lt h0 hlt]
  · obtain ⟨out', c', g1, g2, g3, g4, g5, g6⟩ := twos_l0 k N hN k 0 _ 1 (by omega) (by omega) hlen hdp (by omega) (by omega)
    have g1' : integer_twos.l0 k k (L ++ List.replicate (N - L.length) (0 : Int)) 1 (L ++ List.replicate (N - L.length) (0 : Int)).length 0 = some (.inl out') := by rw [hlen]; exact g1
    refine ⟨out', ?_, g2, g3, ?_⟩
    · simp only [Bool.not_true, cond_false]
      rw [g1']; rfl
    · rw [List.drop_zero, Int.pow_zero, Int.one_mul, hev] at g6
      rw [if_pos rfl]
      have hlt' := ev_lt (by decide) g3
      have h0' := ev_nonneg (by decide) g3
      rw [g2] at hlt'
      generalize (4294967296 : Int) ^ N = p at *
      generalize ev 4294967296 L = u at *
      generalize ev 4294967296 out' = x at *
      have hc : c' = 0 ∨ c' = 1 := by omega
      rcases hc with rfl | rfl
      · have e : -u = x + p * (-1) := by omega
        rw [e, Int.add_mul_emod_self_left, Int.emod_eq_of_lt h0' hlt']
      · have e : u = 0 := by omega
        subst e
        have : x = 0 := by omega
        subst this
        rfl
theorem pow32 (N : Nat) : (4294967296 : Int) ^ N = (2 : Int) ^ (32 * N) := by
  rw [Int.pow_mul]; rfl
theorem pow32n (N : Nat) : 4294967296 ^ N = 2 ^ (32 * N) := by
  rw [Nat.pow_mul]
theorem back_l0 (k : Nat) (r : Bool × List Int) (f : Int × Int) (s : Bool) : ∀ (n : Nat) (l : List Int), (l.length : Int) ≤ 1000000000000000000 → l.length < n → integer_back.l0 k n l r f s = some (.inl (nrm l, r, f, s)) := by
  intro n
  induction n with
  | zero => intro l _ h; omega
  | succ n ih =>
    intro l hb h
    simp only [integer_back.l0, integer_back.b0]
    by_cases hl : l = []
    · subst hl; rfl
    · obtain ⟨m, x, rfl⟩ : ∃ m x, l = m ++ [x] := ⟨_, _, (List.dropLast_concat_getLast hl).symm⟩
      rw [List.length_append, List.length_singleton] at h hb ⊢
      have e1 : w64 (((m.length + 1 : Nat) : Int) - 1) = (m.length : Nat) := by rw [w64_id (by omega) (by omega)]; omega
      have e2 : rd (m ++ [x]) ((m.length : Nat) : Int) = x := by
        show (m ++ [x]).getD m.length 0 = x
        simp [List.getD_eq_getElem?_getD]
      rw [dlt_t (by omega), e1, inR_t (by omega) (by omega), e2]
      simp only [cond_true]
      by_cases hx : x = 0
      · subst hx
        have e3 : Ev.sub (m ++ [(0 : Int)]) 0 (((m.length : Nat) : Int) - 0) = m := by
          show ((m ++ [(0 : Int)]).drop 0).take (((m.length : Nat) : Int) - 0).toNat = m
          rw [List.drop_zero, show (((m.length : Nat) : Int) - 0).toNat = m.length by omega, List.take_left']
          rfl
        rw [beq_t rfl, dle_t (by omega), dle_t (by omega), e3, nrm_snoc0]
        simp only [Int.le_refl, decide_true, Bool.and_self, cond_true]
        exact ih m (by omega) (by omega)
      · rw [beq_f hx, nrm_self (snoc_last hx)]
        rfl
theorem back_ok {k N : Nat} (hN : (N : Int) ≤ 1000000) (hN0 : 0 < N) (hk : 2000000 < k) {L : List Int} (hd : Dig 4294967296 L) (hl : L.length = N) {u : Nat} (hu : ev 4294967296 L = u) : integer_back k L = some (ires (sv (32 * N) u)) := by
  obtain ⟨m, x, rfl⟩ : ∃ m x, L = m ++ [x] := ⟨_, _, (List.dropLast_concat_getLast (show L ≠ [] by intro e; subst e; simp at hl; omega)).symm⟩
  have hm : m.length + 1 = N := by rw [← hl, List.length_append]; rfl
  have hdm : Dig 4294967296 m := hd.sub (fun y hy => List.mem_append_left _ hy)
  have hx := hd x (by simp)
  have m0 := ev_nonneg (by decide) hdm
  have m1 := ev_lt (by decide) hdm
  have hub := ev_lt (by decide) hd
  rw [hl, hu] at hub
  have hN2 : 32 * N - 1 = 32 * m.length + 31 := by omega
  have hp : (2 : Nat) ^ (32 * N - 1) = 4294967296 ^ m.length * 2147483648 := by rw [hN2, Nat.pow_add, ← pow32n]
  have hp1 : ((4294967296 ^ m.length : Nat) : Int) = (4294967296 : Int) ^ m.length := by rw [Int.natCast_pow]; rfl
  have hp2 : (4294967296 : Int) ^ N = (4294967296 : Int) ^ m.length * 4294967296 := by rw [← hm, Int.pow_succ]
  have hu2 := hu
  rw [ev_snoc] at hu2
  have e1 : w64 (((m ++ [x]).length : Int) - 1) = (m.length : Nat) := by rw [List.length_append, List.length_singleton, w64_id (by omega) (by omega)]; omega
  have e2 : rd (m ++ [x]) ((m.length : Nat) : Int) = x := by
    show (m ++ [x]).getD m.length 0 = x
    simp [List.getD_eq_getElem?_getD]
  have e3 : shrI .u32 x 31 = x / 2147483648 := by
    show x.fdiv (2 ^ (min (31 : Int).toNat IntKind.u32.bits)) = _
    rw [show min (31 : Int).toNat IntKind.u32.bits = 31 by rfl, Int.fdiv_eq_ediv_of_nonneg _ (by decide)]
    rfl
  have hp0 := pow_pos' (b := 4294967296) (by decide) m.length
  have hneg : (x / 2147483648 == 1) = decide (2 ^ (32 * N - 1) ≤ u) := by
    rw [hp]
    by_cases h : 2147483648 ≤ x
    · have : x / 2147483648 = 1 := by omega
      rw [this]
      have h2 : (4294967296 : Int) ^ m.length * 2147483648 ≤ (4294967296 : Int) ^ m.length * x := Int.mul_le_mul_of_nonneg_left h (by omega)
      have h3 : 4294967296 ^ m.length * 2147483648 ≤ u := by
        have : ((4294967296 ^ m.length * 2147483648 : Nat) : Int) = (4294967296 : Int) ^ m.length * 2147483648 := by rw [Int.natCast_mul, hp1]; rfl
        omega
      rw [decide_eq_true h3]; rfl
    · have : x / 2147483648 = 0 := by omega
      rw [this]
      have h2 : (4294967296 : Int) ^ m.length * x ≤ (4294967296 : Int) ^ m.length * 2147483647 := Int.mul_le_mul_of_nonneg_left (by omega) (by omega)
      have h3 : ¬ 4294967296 ^ m.length * 2147483648 ≤ u := by
        have : ((4294967296 ^ m.length * 2147483648 : Nat) : Int) = (4294967296 : Int) ^ m.length * 2147483648 := by rw [Int.natCast_mul, hp1]; rfl
        omega
      rw [decide_eq_false h3]; rfl
  unfold integer_back
  have hll : ((m ++ [x]).length : Int) = N := by omega
  rw [e1, e2, e3, hneg, inR_t (by omega) (by omega)]
  simp only [cond_true]
  by_cases hs : 2 ^ (32 * N - 1) ≤ u
  · rw [decide_eq_true hs]
    simp only [cond_true]
    obtain ⟨out, t1, t2, t3, t4⟩ := twos_ok (k := k) hN (by omega) (s := true) hd (by omega)
    rw [hll, t1]
    simp only [Option.bind_some, joinB_inl]
    rw [back_l0 k _ _ _ k out (by omega) (by omega)]
    simp only [joinB_inl]
    have hv : sv (32 * N) u = (u : Int) - (4294967296 : Int) ^ N := by unfold sv; rw [if_pos hs, pow32]
    have hup : 0 < u := Nat.lt_of_lt_of_le (Nat.two_pow_pos _) hs
    have hev : ev 4294967296 out = ((sv (32 * N) u).natAbs : Nat) := by
      rw [t4, if_pos rfl, hu, hv]
      generalize (4294967296 : Int) ^ N = p at *
      have : -(u : Int) = (p - u) + p * (-1) := by omega
      rw [this, Int.add_mul_emod_self_left, Int.emod_eq_of_lt (by omega) (by omega)]
      omega
    rw [nd32 t3 hev, signed_ok (v := sv (32 * N) u) (fun _ => by
      rw [hv, decide_eq_true]
      omega)]
    rfl
  · rw [decide_eq_false hs]
    simp only [cond_false, joinB_inl]
    rw [back_l0 k _ _ _ k (m ++ [x]) (by omega) (by omega)]
    simp only [joinB_inl]
    have hv : sv (32 * N) u = (u : Int) := by unfold sv; rw [if_neg hs]
    have hev : ev 4294967296 (m ++ [x]) = ((sv (32 * N) u).natAbs : Nat) := by rw [hu, hv]; omega
    rw [nd32 hd hev, signed_ok (v := sv (32 * N) u) (fun _ => by
      rw [hv, decide_eq_false]
      omega)]
    rfl
theorem ev_zip (g : Bool → Bool → Bool) {op : Int → Int → Int} (ho : ∀ x y : Int, 0 ≤ x → x < 4294967296 → 0 ≤ y → y < 4294967296 → op x y = (nb g 32 x.toNat y.toNat : Nat)) : ∀ (X Y : List Int), X.length = Y.length → Dig 4294967296 X → Dig 4294967296 Y →
    Dig 4294967296 (List.zipWith op X Y) ∧ ev 4294967296 (List.zipWith op X Y) = (nb g (32 * X.length) (ev 4294967296 X).toNat (ev 4294967296 Y).toNat : Nat) := by
  intro X
  induction X with
  | nil => intro Y _ _ _; exact ⟨Dig.nil, rfl⟩
  | cons x X ih =>
    intro Y hl hX hY
    cases Y with
    | nil => simp at hl
    | cons y Y =>
      have hx := hX.hd
      have hy := hY.hd
      obtain ⟨d1, d2⟩ := ih Y (by simpa using hl) hX.tl hY.tl
      have x0 := ev_nonneg (by decide) hX.tl
      have y0 := ev_nonneg (by decide) hY.tl
      have e := ho x y hx.1 hx.2 hy.1 hy.2
      have hlt := nb_lt g 32 x.toNat y.toNat
      rw [show (2 : Nat) ^ 32 = 4294967296 from rfl] at hlt
      refine ⟨?_, ?_⟩
      · rw [List.zipWith_cons_cons]
        exact Dig.cons (by rw [e]; omega) (by rw [e]; omega) d1
      · rw [List.zipWith_cons_cons, ev_cons, ev_cons, ev_cons, d2, e]
        have s := nb_split g (32 * X.length) (ev 4294967296 X).toNat (ev 4294967296 Y).toNat 32 x.toNat y.toNat (by rw [show (2 : Nat) ^ 32 = 4294967296 from rfl]; omega) (by rw [show (2 : Nat) ^ 32 = 4294967296 from rfl]; omega)
        rw [show (2 : Nat) ^ 32 = 4294967296 from rfl] at s
        have ex : (x + 4294967296 * ev 4294967296 X).toNat = x.toNat + 4294967296 * (ev 4294967296 X).toNat := by omega
        have ey : (y + 4294967296 * ev 4294967296 Y).toNat = y.toNat + 4294967296 * (ev 4294967296 Y).toNat := by omega
        rw [ex, ey, List.length_cons, show 32 * (X.length + 1) = 32 + 32 * X.length by omega, s]
        omega
theorem limbs_rng {v : Int} {n : Nat} (h : (dg 4294967296 v.natAbs).length ≤ n) : -(2 : Int) ^ (32 * n + 31) ≤ v ∧ v < (2 : Int) ^ (32 * n + 31) := by
  have h1 := (dg_len_iff hB32).1 h
  rw [pow32n] at h1
  have h2 : (2 : Nat) ^ (32 * n) ≤ 2 ^ (32 * n + 31) := Nat.pow_le_pow_right (by decide) (by omega)
  have h3 : ((2 ^ (32 * n + 31) : Nat) : Int) = (2 : Int) ^ (32 * n + 31) := by rw [Int.natCast_pow]; rfl
  omega
theorem twos_iz {k N : Nat} (hN : (N : Int) ≤ 1000000) (hk : N < k) {v : Int} (hl : (dg 4294967296 v.natAbs).length ≤ N) : ∃ out, integer_twos k (iz v) N = some out ∧ out.length = N ∧ Dig 4294967296 out ∧ (ev 4294967296 out).toNat = tc (32 * N) v := by
  obtain ⟨out, h1, h2, h3, h4⟩ := twos_ok (k := k) hN hk (s := decide (v < 0)) (dd32 v.natAbs) hl
  refine ⟨out, h1, h2, h3, ?_⟩
  have : (if decide (v < 0) = true then -(ev 4294967296 (dg 4294967296 v.natAbs)) else ev 4294967296 (dg 4294967296 v.natAbs)) = v := by
    rw [de32]
    by_cases hv : v < 0
    · rw [decide_eq_true hv, if_pos rfl]; omega
    · rw [decide_eq_false hv, if_neg (by simp)]; omega
  rw [this, pow32] at h4
  rw [h4]; rfl
end Go.Pl
