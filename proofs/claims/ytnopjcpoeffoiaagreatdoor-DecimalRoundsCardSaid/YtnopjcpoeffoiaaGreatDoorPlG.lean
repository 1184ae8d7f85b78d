/- NaturalDigits: its plain function answers true.  Conditions: limbs and digits within their kinds, lists no longer than memory. -/
import Derived.Test.YtnopjcpoeffoiaaGreatDoorPlF
set_option linter.unusedVariables false
set_option linter.unusedSimpArgs false
namespace Go.Pl
open Go Go.Ev Go.Sh
theorem chunk_2 : natural_chunk 1000000000000000000 ((2 : Nat) : Int) = some (((2 ^ 31 : Nat) : Int), ((31 : Nat) : Int)) := by kernel_rfl
theorem chunk_3 : natural_chunk 1000000000000000000 ((3 : Nat) : Int) = some (((3 ^ 20 : Nat) : Int), ((20 : Nat) : Int)) := by kernel_rfl
theorem chunk_4 : natural_chunk 1000000000000000000 ((4 : Nat) : Int) = some (((4 ^ 15 : Nat) : Int), ((15 : Nat) : Int)) := by kernel_rfl
theorem chunk_5 : natural_chunk 1000000000000000000 ((5 : Nat) : Int) = some (((5 ^ 13 : Nat) : Int), ((13 : Nat) : Int)) := by kernel_rfl
theorem chunk_6 : natural_chunk 1000000000000000000 ((6 : Nat) : Int) = some (((6 ^ 12 : Nat) : Int), ((12 : Nat) : Int)) := by kernel_rfl
theorem chunk_7 : natural_chunk 1000000000000000000 ((7 : Nat) : Int) = some (((7 ^ 11 : Nat) : Int), ((11 : Nat) : Int)) := by kernel_rfl
theorem chunk_8 : natural_chunk 1000000000000000000 ((8 : Nat) : Int) = some (((8 ^ 10 : Nat) : Int), ((10 : Nat) : Int)) := by kernel_rfl
theorem chunk_9 : natural_chunk 1000000000000000000 ((9 : Nat) : Int) = some (((9 ^ 10 : Nat) : Int), ((10 : Nat) : Int)) := by kernel_rfl
theorem chunk_10 : natural_chunk 1000000000000000000 ((10 : Nat) : Int) = some (((10 ^ 9 : Nat) : Int), ((9 : Nat) : Int)) := by kernel_rfl
theorem chunk_11 : natural_chunk 1000000000000000000 ((11 : Nat) : Int) = some (((11 ^ 9 : Nat) : Int), ((9 : Nat) : Int)) := by kernel_rfl
theorem chunk_12 : natural_chunk 1000000000000000000 ((12 : Nat) : Int) = some (((12 ^ 8 : Nat) : Int), ((8 : Nat) : Int)) := by kernel_rfl
theorem chunk_13 : natural_chunk 1000000000000000000 ((13 : Nat) : Int) = some (((13 ^ 8 : Nat) : Int), ((8 : Nat) : Int)) := by kernel_rfl
theorem chunk_14 : natural_chunk 1000000000000000000 ((14 : Nat) : Int) = some (((14 ^ 8 : Nat) : Int), ((8 : Nat) : Int)) := by kernel_rfl
theorem chunk_15 : natural_chunk 1000000000000000000 ((15 : Nat) : Int) = some (((15 ^ 8 : Nat) : Int), ((8 : Nat) : Int)) := by kernel_rfl
theorem chunk_16 : natural_chunk 1000000000000000000 ((16 : Nat) : Int) = some (((16 ^ 7 : Nat) : Int), ((7 : Nat) : Int)) := by kernel_rfl
theorem chunk_17 : natural_chunk 1000000000000000000 ((17 : Nat) : Int) = some (((17 ^ 7 : Nat) : Int), ((7 : Nat) : Int)) := by kernel_rfl
theorem chunk_18 : natural_chunk 1000000000000000000 ((18 : Nat) : Int) = some (((18 ^ 7 : Nat) : Int), ((7 : Nat) : Int)) := by kernel_rfl
theorem chunk_19 : natural_chunk 1000000000000000000 ((19 : Nat) : Int) = some (((19 ^ 7 : Nat) : Int), ((7 : Nat) : Int)) := by kernel_rfl
theorem chunk_20 : natural_chunk 1000000000000000000 ((20 : Nat) : Int) = some (((20 ^ 7 : Nat) : Int), ((7 : Nat) : Int)) := by kernel_rfl
theorem chunk_21 : natural_chunk 1000000000000000000 ((21 : Nat) : Int) = some (((21 ^ 7 : Nat) : Int), ((7 : Nat) : Int)) := by kernel_rfl
theorem chunk_22 : natural_chunk 1000000000000000000 ((22 : Nat) : Int) = some (((22 ^ 7 : Nat) : Int), ((7 : Nat) : Int)) := by kernel_rfl
theorem chunk_23 : natural_chunk 1000000000000000000 ((23 : Nat) : Int) = some (((23 ^ 7 : Nat) : Int), ((7 : Nat) : Int)) := by kernel_rfl
theorem chunk_24 : natural_chunk 1000000000000000000 ((24 : Nat) : Int) = some (((24 ^ 6 : Nat) : Int), ((6 : Nat) : Int)) := by kernel_rfl
theorem chunk_25 : natural_chunk 1000000000000000000 ((25 : Nat) : Int) = some (((25 ^ 6 : Nat) : Int), ((6 : Nat) : Int)) := by kernel_rfl
theorem chunk_26 : natural_chunk 1000000000000000000 ((26 : Nat) : Int) = some (((26 ^ 6 : Nat) : Int), ((6 : Nat) : Int)) := by kernel_rfl
theorem chunk_27 : natural_chunk 1000000000000000000 ((27 : Nat) : Int) = some (((27 ^ 6 : Nat) : Int), ((6 : Nat) : Int)) := by kernel_rfl
theorem chunk_28 : natural_chunk 1000000000000000000 ((28 : Nat) : Int) = some (((28 ^ 6 : Nat) : Int), ((6 : Nat) : Int)) := by kernel_rfl
theorem chunk_29 : natural_chunk 1000000000000000000 ((29 : Nat) : Int) = some (((29 ^ 6 : Nat) : Int), ((6 : Nat) : Int)) := by kernel_rfl
theorem chunk_30 : natural_chunk 1000000000000000000 ((30 : Nat) : Int) = some (((30 ^ 6 : Nat) : Int), ((6 : Nat) : Int)) := by kernel_rfl
theorem chunk_31 : natural_chunk 1000000000000000000 ((31 : Nat) : Int) = some (((31 ^ 6 : Nat) : Int), ((6 : Nat) : Int)) := by kernel_rfl
theorem chunk_32 : natural_chunk 1000000000000000000 ((32 : Nat) : Int) = some (((32 ^ 6 : Nat) : Int), ((6 : Nat) : Int)) := by kernel_rfl
theorem chunk_33 : natural_chunk 1000000000000000000 ((33 : Nat) : Int) = some (((33 ^ 6 : Nat) : Int), ((6 : Nat) : Int)) := by kernel_rfl
theorem chunk_34 : natural_chunk 1000000000000000000 ((34 : Nat) : Int) = some (((34 ^ 6 : Nat) : Int), ((6 : Nat) : Int)) := by kernel_rfl
theorem chunk_35 : natural_chunk 1000000000000000000 ((35 : Nat) : Int) = some (((35 ^ 6 : Nat) : Int), ((6 : Nat) : Int)) := by kernel_rfl
theorem chunk_36 : natural_chunk 1000000000000000000 ((36 : Nat) : Int) = some (((36 ^ 6 : Nat) : Int), ((6 : Nat) : Int)) := by kernel_rfl
theorem chunk_ok {b : Nat} (hb : 2 ≤ b) (hb' : b ≤ 36) : ∃ n : Nat, natural_chunk 1000000000000000000 b = some (((b ^ n : Nat) : Int), (n : Int)) ∧ 1 ≤ n ∧ n ≤ 40 ∧ b ^ n < 4294967296 := by
  have h : b = 2 ∨ b = 3 ∨ b = 4 ∨ b = 5 ∨ b = 6 ∨ b = 7 ∨ b = 8 ∨ b = 9 ∨ b = 10 ∨ b = 11 ∨ b = 12 ∨ b = 13 ∨ b = 14 ∨ b = 15 ∨ b = 16 ∨ b = 17 ∨ b = 18 ∨ b = 19 ∨ b = 20 ∨ b = 21 ∨ b = 22 ∨ b = 23 ∨ b = 24 ∨ b = 25 ∨ b = 26 ∨ b = 27 ∨ b = 28 ∨ b = 29 ∨ b = 30 ∨ b = 31 ∨ b = 32 ∨ b = 33 ∨ b = 34 ∨ b = 35 ∨ b = 36 := by omega
  rcases h with rfl | rfl | rfl | rfl | rfl | rfl | rfl | rfl | rfl | rfl | rfl | rfl | rfl | rfl | rfl | rfl | rfl | rfl | rfl | rfl | rfl | rfl | rfl | rfl | rfl | rfl | rfl | rfl | rfl | rfl | rfl | rfl | rfl | rfl | rfl
  · exact ⟨31, chunk_2, by decide, by decide, by decide⟩
  · exact ⟨20, chunk_3, by decide, by decide, by decide⟩
  · exact ⟨15, chunk_4, by decide, by decide, by decide⟩
  · exact ⟨13, chunk_5, by decide, by decide, by decide⟩
  · exact ⟨12, chunk_6, by decide, by decide, by decide⟩
  · exact ⟨11, chunk_7, by decide, by decide, by decide⟩
  · exact ⟨10, chunk_8, by decide, by decide, by decide⟩
  · exact ⟨10, chunk_9, by decide, by decide, by decide⟩
  · exact ⟨9, chunk_10, by decide, by decide, by decide⟩
  · exact ⟨9, chunk_11, by decide, by decide, by decide⟩
  · exact ⟨8, chunk_12, by decide, by decide, by decide⟩
  · exact ⟨8, chunk_13, by decide, by decide, by decide⟩
  · exact ⟨8, chunk_14, by decide, by decide, by decide⟩
  · exact ⟨8, chunk_15, by decide, by decide, by decide⟩
  · exact ⟨7, chunk_16, by decide, by decide, by decide⟩
  · exact ⟨7, chunk_17, by decide, by decide, by decide⟩
  · exact ⟨7, chunk_18, by decide, by decide, by decide⟩
  · exact ⟨7, chunk_19, by decide, by decide, by decide⟩
  · exact ⟨7, chunk_20, by decide, by decide, by decide⟩
  · exact ⟨7, chunk_21, by decide, by decide, by decide⟩
  · exact ⟨7, chunk_22, by decide, by decide, by decide⟩
  · exact ⟨7, chunk_23, by decide, by decide, by decide⟩
  · exact ⟨6, chunk_24, by decide, by decide, by decide⟩
  · exact ⟨6, chunk_25, by decide, by decide, by decide⟩
  · exact ⟨6, chunk_26, by decide, by decide, by decide⟩
  · exact ⟨6, chunk_27, by decide, by decide, by decide⟩
  · exact ⟨6, chunk_28, by decide, by decide, by decide⟩
  · exact ⟨6, chunk_29, by decide, by decide, by decide⟩
  · exact ⟨6, chunk_30, by decide, by decide, by decide⟩
  · exact ⟨6, chunk_31, by decide, by decide, by decide⟩
  · exact ⟨6, chunk_32, by decide, by decide, by decide⟩
  · exact ⟨6, chunk_33, by decide, by decide, by decide⟩
  · exact ⟨6, chunk_34, by decide, by decide, by decide⟩
  · exact ⟨6, chunk_35, by decide, by decide, by decide⟩
  · exact ⟨6, chunk_36, by decide, by decide, by decide⟩
theorem digits_full (k : Nat) {b : Nat} (hb : 2 ≤ b) (hb' : b ≤ 36) {a : List Int} (ha : 0 < a.length) (f : Int × Int) (p : Int) (n : Nat) (hn : n ≤ 40) : ∀ (m j r : Nat) (out : List Int), n - j < m → j ≤ n → r < 4294967296 → ((out.length + (n - j) : Nat) : Int) ≤ 1000000000 →
    natural_Digits.l1 k m a b f p n out r j = some (.inl (a, (b : Int), f, p, (n : Int), out ++ pad b (n - j) r)) := by
  intro m
  induction m with
  | zero => intro j r out h; omega
  | succ m ih =>
    intro j r out h1 h2 hr hl
    simp only [natural_Digits.l1, natural_Digits.b1]
    by_cases hj : j < n
    · have e1 : w64 ((j : Int) + 1) = ((j + 1 : Nat) : Int) := by rw [w64_id (by omega) (by omega)]; omega
      have e2 : wu32 (Int.tdiv (r : Int) (b : Int)) = ((r / b : Nat) : Int) := by
        rw [tdiv_nn (by omega), ← Int.natCast_ediv]
        have hq := Nat.div_le_self r b
        generalize r / b = q at *
        exact wu32_id (by omega) (by omega)
      have e3 : Int.tmod (r : Int) (b : Int) = ((r % b : Nat) : Int) := by rw [tmod_nn (by omega)]; simp
      have e4 : wu32 (b : Int) = b := wu32_id (by omega) (by omega)
      have e5 : w64 (r : Int) = r := w64_id (by omega) (by omega)
      have hdiv := Nat.div_le_self r b
      rw [dlt_t (by omega), dlt_t (by omega), e5, e4, not_zero (by omega), e1, e2, e3]
      simp only [cond_true, List.length_singleton]
      rw [fits_t (by omega)]
      simp only [cond_true]
      rw [ih (j + 1) (r / b) _ (by omega) (by omega) (by omega) (by simp only [List.length_append, List.length_singleton]; omega), show n - j = (n - (j + 1)) + 1 by omega]
      simp [pad]
    · have e1 : j = n := by omega
      subst e1
      rw [dlt_f (by omega)]
      simp [pad]
theorem digits_end (k : Nat) {b : Nat} (hb : 2 ≤ b) (hb' : b ≤ 36) (f : Int × Int) (p : Int) (n : Nat) (hn : n ≤ 40) : ∀ (m j r : Nat) (out : List Int), n - j < m → j ≤ n → r < 4294967296 → r < b ^ (n - j) → ((out.length + (n - j) : Nat) : Int) ≤ 1000000000 →
    natural_Digits.l1 k m [] b f p n out r j = some (.inl ([], (b : Int), f, p, (n : Int), out ++ dg b r)) := by
  intro m
  induction m with
  | zero => intro j r out h; omega
  | succ m ih =>
    intro j r out h1 h2 hr hrb hl
    simp only [natural_Digits.l1, natural_Digits.b1]
    by_cases hj : j < n
    · have e1 : w64 ((j : Int) + 1) = ((j + 1 : Nat) : Int) := by rw [w64_id (by omega) (by omega)]; omega
      have e2 : wu32 (Int.tdiv (r : Int) (b : Int)) = ((r / b : Nat) : Int) := by
        rw [tdiv_nn (by omega), ← Int.natCast_ediv]
        have hq := Nat.div_le_self r b
        generalize r / b = q at *
        exact wu32_id (by omega) (by omega)
      have e3 : Int.tmod (r : Int) (b : Int) = ((r % b : Nat) : Int) := by rw [tmod_nn (by omega)]; simp
      have e4 : wu32 (b : Int) = b := wu32_id (by omega) (by omega)
      have e5 : w64 (r : Int) = r := w64_id (by omega) (by omega)
      have hdiv := Nat.div_le_self r b
      rw [dlt_t (by omega), dlt_f (a := 0) (b := (([] : List Int).length : Int)) (by simp)]
      simp only [cond_true, cond_false]
      rcases Nat.eq_zero_or_pos r with h0 | h0
      · subst h0
        rw [dlt_f (by omega)]
        simp [dg_zero]
      · rw [dlt_t (by omega), e5, e4, not_zero (by omega), e1, e2, e3]
        simp only [cond_true, List.length_singleton]
        rw [fits_t (by omega)]
        simp only [cond_true]
        have hlt : r / b < b ^ (n - (j + 1)) := by
          rw [Nat.div_lt_iff_lt_mul (by omega), ← Nat.pow_succ, show (n - (j + 1)).succ = n - j by omega]; exact hrb
        rw [ih (j + 1) (r / b) _ (by omega) (by omega) (by omega) hlt (by simp only [List.length_append, List.length_singleton]; omega), dg_pos hb h0]
        simp
    · have e1 : j = n := by omega
      subst e1
      have : r = 0 := by simpa using hrb
      subst this
      rw [dlt_f (by omega)]
      simp [dg_zero]
theorem digits_l0 (k : Nat) (hk : 2000000000 < k) {b : Nat} (hb : 2 ≤ b) (hb' : b ≤ 36) (f : Int × Int) (n : Nat) (hn1 : 1 ≤ n) (hn : n ≤ 40) (hp : b ^ n < 4294967296) : ∀ (m x : Nat) (out : List Int), (dg b x).length < m → ((dg 4294967296 x).length : Int) ≤ 1000000 → ((out.length + (dg b x).length : Nat) : Int) ≤ 100000000 →
    natural_Digits.l0 k m (dg 4294967296 x) b f ((b ^ n : Nat) : Int) n out = some (.inl (f, out ++ dg b x)) := by
  intro m
  induction m with
  | zero => intro x out h; omega
  | succ m ih =>
    intro x out hm h32 hl
    simp only [natural_Digits.l0, natural_Digits.b0]
    rcases Nat.eq_zero_or_pos x with h0 | h0
    · subst h0
      simp [dg_zero]
    · have h1 := (dg_len_pos hB32).2 h0
      have hpp : 0 < b ^ n := Nat.pow_pos (by omega)
      rw [dlt_t (by omega), short_ok hpp hp (by omega) (by omega)]
      simp only [cond_true, Option.bind_some]
      have hmod := Nat.mod_lt x hpp
      have hdm := Nat.mod_add_div x (b ^ n)
      rcases Nat.eq_zero_or_pos (x / b ^ n) with hq | hq
      · have hx : x % b ^ n = x := by rw [hq] at hdm; omega
        rw [hq, dg_zero, hx]
        rw [hx] at hmod
        have := digits_end k hb hb' f ((b ^ n : Nat) : Int) n hn k 0 x out (by omega) (by omega) (by omega) (by simpa using hmod) (by omega)
        have h' : natural_Digits.l1 k k [] b f ((b ^ n : Nat) : Int) n out x 0 = _ := this
        rw [h', joinB_inl]
        simp only
        have h2 := (dg_len_pos hb).2 h0
        have := ih 0 (out ++ dg b x) (by simp only [dg_zero, List.length_nil]; omega) (by simp [dg_zero]) (by simp only [dg_zero, List.length_nil, List.length_append]; omega)
        rw [dg_zero] at this
        rw [this, dg_zero, List.append_nil]
      · have hdg : dg b x = pad b n (x % b ^ n) ++ dg b (x / b ^ n) := by
          have := dg_pad hb n (x % b ^ n) (x / b ^ n) hq hmod
          rwa [hdm] at this
        have hlen : (dg b x).length = n + (dg b (x / b ^ n)).length := by rw [hdg, List.length_append, pad_len]
        have := digits_full k hb hb' ((dg_len_pos hB32).2 hq) f ((b ^ n : Nat) : Int) n hn k 0 (x % b ^ n) out (by omega) (by omega) (by omega) (by omega)
        have h' : natural_Digits.l1 k k (dg 4294967296 (x / b ^ n)) b f ((b ^ n : Nat) : Int) n out ((x % b ^ n : Nat) : Int) 0 = _ := this
        rw [h', joinB_inl]
        simp only [Nat.sub_zero]
        have h3 : (dg 4294967296 (x / b ^ n)).length ≤ (dg 4294967296 x).length := len_le_of_le hB32 (Nat.div_le_self _ _)
        rw [ih (x / b ^ n) _ (by omega) (by omega) (by simp only [List.length_append, pad_len]; omega), hdg]
        simp
theorem lim_dg {b x : Nat} (hb : 2 ≤ b) (hx : x < lim) : (dg b x).length ≤ 32 * e600 := by
  apply dg_len hb
  have h1 : lim = 2 ^ (32 * e600) := by
    have h := Nat.pow_mul 2 32 e600
    rw [show 2 ^ 32 = 4294967296 by decide] at h
    rw [lim_def, h]
  rw [h1] at hx
  exact Nat.lt_of_lt_of_le hx (Nat.pow_le_pow_left hb _)
theorem Digits_ok' {k x b : Nat} (hkk : k = 1000000000000000000) (hx : x < lim) (hb : 2 ≤ b) (hb' : b ≤ 36) : natural_Digits k (dg 4294967296 x) b = some ((dg b x).reverse, 0, 0) := by
  unfold natural_Digits
  have l1 := len600 hx
  have l2 := lim_dg hb hx
  have l3 := e600_eq
  have hc := chunk_ok hb hb'
  rw [← hkk] at hc
  have hk : 3000000000 < k := by omega
  clear hkk
  rw [valid_dg' hx]
  simp only [Option.bind_some, Bool.not_true, cond_false]
  rw [dlt_f (by omega), dlt_f (by omega)]
  simp only [cond_false, joinB_inl]
  obtain ⟨n, c1, c2, c3, c4⟩ := hc
  rw [c1]
  simp only [Option.bind_some]
  rw [digits_l0 k (by omega) hb hb' (0, 0) n c2 c3 c4 k x [] (by omega) (by omega) (by simp only [List.length_nil]; omega), joinB_inl]
  simp only [List.nil_append]
  rw [reverse_ok (by omega) (by omega)]
  rfl
def hv (b : Nat) : List Int → Nat → Nat
  | [], v => v
  | d :: l, v => hv b l (v * b + d.toNat)
theorem Small_l0 (k : Nat) : ∀ (m n : Nat) (out : List Int), n < m → (n : Int) ≤ 1000000000000000000 → out.length ≤ 100 → n < 65536 ^ (100 - out.length) → brindlewoodref3_Small.l0 k m n out = some (.inl (out ++ dg 65536 n)) := by
  intro m
  induction m with
  | zero => intro n out h; omega
  | succ m ih =>
    intro n out h1 h2 h3 h4
    simp only [brindlewoodref3_Small.l0, brindlewoodref3_Small.b0]
    rcases Nat.eq_zero_or_pos n with h0 | h0
    · subst h0; simp [dg_zero]
    · have e1 : w64 (Int.tdiv (n : Int) 65536) = ((n / 65536 : Nat) : Int) := by
        rw [tdiv_nn (by omega), w64_id (by omega) (by omega)]; omega
      have e2 : Int.tmod (n : Int) 65536 = ((n % 65536 : Nat) : Int) := by rw [tmod_nn (by omega)]; omega
      have h5 : out.length < 100 := by
        rcases Nat.lt_or_ge out.length 100 with h | h
        · exact h
        · rw [show 100 - out.length = 0 by omega] at h4; simp at h4; omega
      rw [dlt_t (by omega), e1, e2]
      simp only [cond_true, List.length_singleton]
      rw [fits_t (by omega)]
      simp only [cond_true]
      rw [ih (n / 65536) _ (by omega) (by omega) (by simp; omega) (by
        simp only [List.length_append, List.length_singleton]
        rw [Nat.div_lt_iff_lt_mul (by decide), ← Nat.pow_succ, show (100 - (out.length + 1)).succ = 100 - out.length by omega]
        exact h4), dg_pos hB16 h0]
      simp
theorem Small_ok {k n : Nat} (hn : (n : Int) ≤ 1000000000000000000) (hk : n < k) : brindlewoodref3_Small k n = some (dg 65536 n) := by
  unfold brindlewoodref3_Small
  rw [Small_l0 k k n [] hk hn (by simp) (by
    have h1 : 65536 ^ 4 ≤ 65536 ^ (100 - ([] : List Int).length) := Nat.pow_le_pow_right (by decide) (by simp)
    have h2 : (65536 : Nat) ^ 4 = 18446744073709551616 := by decide
    omega)]
  rfl
end Go.Pl
