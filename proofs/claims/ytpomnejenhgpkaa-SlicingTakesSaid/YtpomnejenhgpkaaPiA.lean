/- Integers: signs and limbs; what the functions of package integer and the reference answer on them.  Conditions: those that each theorem names. -/
import Derived.Test.YtpomnejenhgpkaaPlE
set_option linter.unusedVariables false
set_option linter.unusedSimpArgs false
namespace Go.Pl
open Go Go.Ev Go.Sh
def iz (v : Int) : Bool × List Int := (decide (v < 0), dg 4294967296 v.natAbs)
def ZI (r : Bool × List Int) (v : Int) : Prop := r.2 = dg 4294967296 v.natAbs ∧ (v ≠ 0 → r.1 = decide (v < 0))
def RI (r : Bool × List Int) (v : Int) : Prop := r.2 = dg 65536 v.natAbs ∧ (v ≠ 0 → r.1 = decide (v < 0))
theorem iz_ZI (v : Int) : ZI (iz v) v := ⟨rfl, fun _ => rfl⟩
theorem e128_ex : ∃ e : Nat, e = 128 := ⟨_, rfl⟩
noncomputable def e128 : Nat := Classical.choose e128_ex
theorem e128_eq : e128 = 128 := Classical.choose_spec e128_ex
noncomputable def ilim : Nat := 4294967296 ^ e128
theorem ilim_iff {n : Nat} : (dg 4294967296 n).length ≤ 128 ↔ n < ilim := by rw [← e128_eq]; exact dg_len_iff hB32
theorem ilim16 : ilim = 65536 ^ (2 * e128) := by
  have h := Nat.pow_mul 65536 2 e128
  rw [show 65536 ^ 2 = 4294967296 by decide] at h
  exact h.symm
theorem ilim16_iff {n : Nat} : (dg 65536 n).length ≤ 256 ↔ n < ilim := by rw [ilim16, ← dg_len_iff hB16, e128_eq]
theorem ilim_lim {n : Nat} (h : n < ilim) : n < lim := lim_iff.1 (by have := ilim_iff.2 h; omega)
theorem ilim_sq : ilim * ilim ≤ lim := by
  rw [lim_def]
  unfold ilim
  rw [← Nat.pow_add]
  exact Nat.pow_le_pow_right (by decide) (by have := e128_eq; have := e600_eq; omega)
theorem ilim_two : 2 * ilim ≤ lim := by
  have h1 := ilim_sq
  have h2 : 2 ≤ ilim := by
    have : (1 : Nat) < ilim := ilim_iff.1 (by decide)
    omega
  have := Nat.mul_le_mul_right ilim h2
  omega
theorem rIntOk (a : Bool × List Int) : brindlewoodref3_IntOk a = integer_Valid a := rfl
theorem iValid_nil (b : Bool) : integer_Valid (b, []) = some (!b) := by cases b <;> rfl
theorem iValid_pos {b : Bool} {l : List Int} (h0 : 0 < l.length) (hb : (l.length : Int) ≤ 1000000000000000000) : integer_Valid (b, l) = some (decide (l.length ≤ 128) && decide (l.getLast? ≠ some 0)) := by
  unfold integer_Valid
  rcases List.eq_nil_or_concat l with rfl | ⟨m, x, rfl⟩
  · simp at h0
  · simp only [List.concat_eq_append, List.length_append, List.length_singleton] at hb ⊢
    have e1 : w64 (((m.length + 1 : Nat) : Int) - 1) = m.length := by rw [w64_id (by omega) (by omega)]; omega
    have hr : rd (m ++ [x]) (m.length : Int) = x := by simp [Ev.rd]
    by_cases h1 : m.length + 1 ≤ 128
    · rw [dle_t (by omega)]
      simp (disch := omega) only [cond_true, beq_f, cond_false, dlt_t, e1, inR_t, hr]
      by_cases hx : x = 0
      · subst hx; simp [h1]
      · rw [bne_t hx]; simp [h1, hx]
    · rw [dle_f (by omega)]
      simp [h1]
theorem int_cases {a : Bool × List Int} (hd : Dig 4294967296 a.2) (hb : (a.2.length : Int) ≤ 1000000000000000000) : (∃ v : Int, v.natAbs < ilim ∧ a = iz v ∧ integer_Valid a = some true) ∨ integer_Valid a = some false := by
  obtain ⟨s, l⟩ := a
  replace hd : Dig 4294967296 l := hd
  replace hb : (l.length : Int) ≤ 1000000000000000000 := hb
  rcases Nat.eq_zero_or_pos l.length with h | h
  · have hl : l = [] := List.length_eq_zero_iff.1 h
    subst hl
    rw [iValid_nil]
    cases s with
    | false => exact .inl ⟨0, ilim_iff.1 (by decide), rfl, rfl⟩
    | true => exact .inr rfl
  · rw [iValid_pos h hb]
    by_cases hv : l.length ≤ 128 ∧ l.getLast? ≠ some 0
    · left
      obtain ⟨n, hn⟩ := valid_dg hB32 hd hv.2
      have hn0 : 0 < n := by
        rcases Nat.eq_zero_or_pos n with h0 | h0
        · subst h0; rw [hn, dg_zero] at h; simp at h
        · exact h0
      have hlim : n < ilim := ilim_iff.1 (by rw [← hn]; exact hv.1)
      cases s with
      | false =>
        refine ⟨(n : Int), by simpa using hlim, ?_, by simp [hv.1, hv.2]⟩
        unfold iz
        rw [show decide ((n : Int) < 0) = false by simp, Int.natAbs_natCast, hn]
      | true =>
        refine ⟨-(n : Int), by simpa using hlim, ?_, by simp [hv.1, hv.2]⟩
        unfold iz
        rw [show decide (-(n : Int) < 0) = true by simp; omega, Int.natAbs_neg, Int.natAbs_natCast, hn]
    · right
      have : (decide (l.length ≤ 128) && decide (l.getLast? ≠ some 0)) = false := by
        rw [Bool.and_eq_false_iff]
        by_cases h1 : l.length ≤ 128
        · right; exact decide_eq_false fun h2 => hv ⟨h1, h2⟩
        · left; exact decide_eq_false h1
      rw [this]
theorem iz_valid {v : Int} (h : v.natAbs < ilim) : integer_Valid (iz v) = some true := by
  have hl := ilim_iff.2 h
  unfold iz
  rcases Nat.eq_zero_or_pos v.natAbs with h0 | h0
  · have : v = 0 := by omega
    subst this; rfl
  · have := (dg_len_pos hB32).2 h0
    rw [iValid_pos this (by omega)]
    simp [hl, dg_last hB32]
abbrev IT : Ty := .st (.pair .bool (.list (.int .u32)))
def badI : List (Bool × List Int) → Nat → Int × Int
  | [], _ => (0, 0)
  | x :: l, i => if integer_Valid x = some true then badI l (i + 1) else (6, -1 - (i : Int))
theorem badI_t {x : Bool × List Int} (l : List (Bool × List Int)) (i : Nat) (h : integer_Valid x = some true) : badI (x :: l) i = badI l (i + 1) := by
  simp only [badI]; rw [if_pos h]
theorem badI_f {x : Bool × List Int} (l : List (Bool × List Int)) (i : Nat) (h : integer_Valid x = some false) : badI (x :: l) i = (6, -1 - (i : Int)) := by
  simp only [badI]; rw [if_neg (by rw [h]; simp)]
theorem check_l0 (k : Nat) (l : List (Bool × List Int)) (hv : ∀ x ∈ l, integer_Valid x = some true ∨ integer_Valid x = some false) (hl : (l.length : Int) ≤ 1000) : ∀ (n i : Nat), l.length - i < n → i ≤ l.length →
    integer_check.l0 k n (0, 0) l l.length i = some (if badI (l.drop i) i = (0, 0) then .inl (0, 0) else .inr (badI (l.drop i) i)) := by
  intro n
  induction n with
  | zero => intro i h; omega
  | succ n ih =>
    intro i h1 h2
    simp only [integer_check.l0, integer_check.b0]
    by_cases hi : i < l.length
    · have e1 : w64 ((i : Int) + 1) = ((i + 1 : Nat) : Int) := by rw [w64_id (by omega) (by omega)]; omega
      have e2 : w64 (-1 - (i : Int)) = -1 - (i : Int) := w64_id (by omega) (by omega)
      have hd : l.drop i = l[i] :: l.drop (i + 1) := List.drop_eq_getElem_cons hi
      have hn : nth IT l (i : Int) = l[i] := by
        show l.getD i _ = _
        rw [List.getD_eq_getElem?_getD, List.getElem?_eq_getElem hi]; rfl
      have hn' : nth (.st (.pair (.bool) (.list (.int .u32)))) l (i : Int) = l[i] := hn
      rw [dlt_t (by omega), inR_t (by omega) (by omega), hn', e1, e2, hd]
      simp only [cond_true]
      rcases hv l[i] (List.getElem_mem hi) with h | h
      · rw [h, badI_t _ _ h]
        simp only [Option.bind_some, Bool.not_true, cond_false]
        exact ih (i + 1) (by omega) (by omega)
      · rw [h, badI_f _ _ h]
        simp only [Option.bind_some, Bool.not_false, cond_true]
        rw [if_neg (by simp)]
        rfl
    · have e1 : i = l.length := by omega
      subst e1
      rw [dlt_f (by omega), List.drop_length]
      rfl
theorem check_ok' {k : Nat} (hk : 2000 < k) {l : List (Bool × List Int)} (hv : ∀ x ∈ l, integer_Valid x = some true ∨ integer_Valid x = some false) (hl : (l.length : Int) ≤ 1000) : integer_check k l = some (badI l 0) := by
  unfold integer_check
  have h := check_l0 k l hv hl k 0 (by omega) (by omega)
  have h' : integer_check.l0 k k (0, 0) l l.length 0 = _ := h
  rw [h', List.drop_zero]
  by_cases hb : badI l 0 = (0, 0)
  · rw [if_pos hb, hb]; rfl
  · rw [if_neg hb]; rfl
theorem faults_l0 (k : Nat) (l : List (Bool × List Int)) : ∀ (n : Nat) (i : Int), brindlewoodref3_Faults.l0 k n l (0, 0) i = integer_check.l0 k n (0, 0) l l.length i := by
  intro n
  induction n with
  | zero => intro i; rfl
  | succ n ih =>
    intro i
    simp only [brindlewoodref3_Faults.l0, integer_check.l0, brindlewoodref3_Faults.b0, integer_check.b0, ih, rIntOk]
    rfl
theorem faults_eq (k : Nat) (l : List (Bool × List Int)) : brindlewoodref3_Faults k l = integer_check k l := by
  unfold brindlewoodref3_Faults integer_check
  rw [faults_l0]
theorem badI_ok : ∀ (l : List (Bool × List Int)) (i : Nat), (∀ x ∈ l, integer_Valid x = some true) → badI l i = (0, 0) := by
  intro l
  induction l with
  | nil => intro i _; rfl
  | cons x l ih =>
    intro i h
    simp only [badI]
    rw [if_pos (h x (by simp))]
    exact ih _ fun y hy => h y (by simp [hy])
theorem badI_code : ∀ (l : List (Bool × List Int)) (i : Nat), (∃ x ∈ l, integer_Valid x = some false) → (badI l i).1 ≠ 0 := by
  intro l
  induction l with
  | nil => intro i h; obtain ⟨x, hx, _⟩ := h; simp at hx
  | cons x l ih =>
    intro i h
    simp only [badI]
    by_cases hx : integer_Valid x = some true
    · rw [if_pos hx]
      obtain ⟨y, hy, hf⟩ := h
      rcases List.mem_cons.1 hy with rfl | hy
      · rw [hx] at hf; cases hf
      · exact ih _ ⟨y, hy, hf⟩
    · rw [if_neg hx]; simp
noncomputable def ires (v : Int) : (Bool × List Int) × Int × Int := if v.natAbs < ilim then (iz v, 0, 0) else ((false, []), 14, -1)
theorem signed_ok {s : Bool} {v : Int} (h : v ≠ 0 → s = decide (v < 0)) : integer_signed s (dg 4294967296 v.natAbs) = some (ires v) := by
  unfold integer_signed ires
  by_cases hl : v.natAbs < ilim
  · have := ilim_iff.2 hl
    rw [dlt_f (by omega), if_pos hl]
    simp only [cond_false]
    unfold iz
    by_cases hv : v = 0
    · subst hv; cases s <;> rfl
    · have hp := (dg_len_pos (n := v.natAbs) hB32).2 (by omega)
      rw [h hv]
      by_cases hn : v < 0
      · simp [hn]; exact hp
      · simp [hn]
  · have : ¬ (dg 4294967296 v.natAbs).length ≤ 128 := fun h' => hl (ilim_iff.1 h')
    rw [dlt_t (by omega), if_neg hl]
    rfl
theorem iplus_ok {k : Nat} (hk : 300000000 < k) {a b : Bool × List Int} {x y : Int} (ha : ZI a x) (hb : ZI b y) (hx : x.natAbs < ilim) (hy : y.natAbs < ilim) : integer_plus k a b = some (ires (x + y)) := by
  obtain ⟨sa, la⟩ := a
  obtain ⟨sb, lb⟩ := b
  obtain ⟨ha1, ha2⟩ := ha
  obtain ⟨hb1, hb2⟩ := hb
  simp only at ha1 ha2 hb1 hb2
  subst ha1 hb1
  have hx' := ilim_lim hx
  have hy' := ilim_lim hy
  have h2 := ilim_two
  unfold integer_plus
  by_cases hs : sa = sb
  · subst hs
    simp only [beq_self_eq_true, cond_true]
    have e : (x + y).natAbs = x.natAbs + y.natAbs := by
      by_cases hx0 : x = 0
      · omega
      · by_cases hy0 : y = 0
        · omega
        · have h3 := (ha2 hx0).symm.trans (hb2 hy0)
          have : (x < 0) ↔ (y < 0) := by simpa using h3
          omega
    rw [Add_ok hx' hy' hk, if_pos (by omega)]
    simp only [Option.bind_some]
    rw [← e, signed_ok (fun hne => by
      by_cases hx0 : x = 0
      · rw [hx0, Int.zero_add]; exact hb2 (by omega)
      · rw [ha2 hx0]
        by_cases hy0 : y = 0
        · rw [hy0, Int.add_zero]
        · have h3 := (ha2 hx0).symm.trans (hb2 hy0)
          have h4 : (x < 0) ↔ (y < 0) := by simpa using h3
          have h5 : (x < 0) ↔ (x + y < 0) := by omega
          simp [h5])]
    rfl
  · have hs' : (sa == sb) = false := by simpa using hs
    rw [hs', Cmp_ok hx' hy' (by omega)]
    simp only [cond_false, Option.bind_some]
    by_cases hlt : x.natAbs < y.natAbs
    · have hsg : sgn (x.natAbs : Int) y.natAbs < 0 := by unfold sgn; rw [if_pos (by omega)]; decide
      have hy0 : y ≠ 0 := by omega
      have e : (x + y).natAbs = y.natAbs - x.natAbs := by
        by_cases hx0 : x = 0
        · omega
        · have h3 : ¬ (decide (x < 0) = decide (y < 0)) := fun h => hs (by rw [ha2 hx0, hb2 hy0, h])
          have h4 : ¬ ((x < 0) ↔ (y < 0)) := by simpa using h3
          omega
      rw [dlt_t hsg]
      simp only [cond_true, joinB_inl]
      rw [Sub_ok hy' hx' hk, if_neg (by omega)]
      simp only [Option.bind_some]
      rw [← e, signed_ok (fun hne => by
        rw [hb2 hy0]
        by_cases hx0 : x = 0
        · rw [hx0, Int.zero_add]
        · have h3 : ¬ (decide (x < 0) = decide (y < 0)) := fun h => hs (by rw [ha2 hx0, hb2 hy0, h])
          have h4 : ¬ ((x < 0) ↔ (y < 0)) := by simpa using h3
          have h5 : (y < 0) ↔ (x + y < 0) := by omega
          simp [h5])]
      rfl
    · have hsg : 0 ≤ sgn (x.natAbs : Int) y.natAbs := by unfold sgn; rw [if_neg (by omega)]; split <;> decide
      have e : (x + y).natAbs = x.natAbs - y.natAbs := by
        by_cases hx0 : x = 0
        · omega
        · by_cases hy0 : y = 0
          · omega
          · have h3 : ¬ (decide (x < 0) = decide (y < 0)) := fun h => hs (by rw [ha2 hx0, hb2 hy0, h])
            have h4 : ¬ ((x < 0) ↔ (y < 0)) := by simpa using h3
            omega
      rw [dlt_f hsg]
      simp only [cond_false, joinB_inl]
      rw [Sub_ok hx' hy' hk, if_neg hlt]
      simp only [Option.bind_some]
      rw [← e, signed_ok (fun hne => by
        by_cases hx0 : x = 0
        · omega
        · rw [ha2 hx0]
          by_cases hy0 : y = 0
          · rw [hy0, Int.add_zero]
          · have h3 : ¬ (decide (x < 0) = decide (y < 0)) := fun h => hs (by rw [ha2 hx0, hb2 hy0, h])
            have h4 : ¬ ((x < 0) ↔ (y < 0)) := by simpa using h3
            have h5 : (x < 0) ↔ (x + y < 0) := by omega
            simp [h5])]
      rfl
theorem two_valid {a b : Bool × List Int} (ha : integer_Valid a = some true ∨ integer_Valid a = some false) (hb : integer_Valid b = some true ∨ integer_Valid b = some false) : ∀ x ∈ [a, b], integer_Valid x = some true ∨ integer_Valid x = some false := by
  intro x hx
  simp only [List.mem_cons, List.not_mem_nil, or_false] at hx
  rcases hx with rfl | rfl
  · exact ha
  · exact hb
theorem check2 {k : Nat} (hk : 2000 < k) {x y : Int} (hx : x.natAbs < ilim) (hy : y.natAbs < ilim) : integer_check k [iz x, iz y] = some (0, 0) := by
  rw [check_ok' hk (two_valid (.inl (iz_valid hx)) (.inl (iz_valid hy))) (by simp), badI_ok]
  intro z hz
  simp only [List.mem_cons, List.not_mem_nil, or_false] at hz
  rcases hz with rfl | rfl
  · exact iz_valid hx
  · exact iz_valid hy
theorem check1 {k : Nat} (hk : 2000 < k) {x : Int} (hx : x.natAbs < ilim) : integer_check k [iz x] = some (0, 0) := by
  rw [check_ok' hk (fun z hz => by simp only [List.mem_singleton] at hz; subst hz; exact .inl (iz_valid hx)) (by simp), badI_ok]
  intro z hz
  simp only [List.mem_singleton] at hz; subst hz; exact iz_valid hx
theorem ineg_ZI (y : Int) : ZI (!(iz y).1, (iz y).2) (-y) := by
  refine ⟨by simp [iz], fun h => ?_⟩
  simp only [iz]
  by_cases hy : y < 0
  · have : ¬ (-y < 0) := by omega
    rw [decide_eq_true hy, decide_eq_false this]; rfl
  · have : -y < 0 := by omega
    rw [decide_eq_false hy, decide_eq_true this]; rfl
theorem iAdd_ok {k : Nat} (hk : 300000000 < k) {x y : Int} (hx : x.natAbs < ilim) (hy : y.natAbs < ilim) : integer_Add k (iz x) (iz y) = some (ires (x + y)) := by
  unfold integer_Add
  rw [check2 (by omega) hx hy]
  simp only [Option.bind_some, bne_self_eq_false, cond_false]
  rw [iplus_ok hk (iz_ZI x) (iz_ZI y) hx hy]
  rfl
theorem iSub_ok {k : Nat} (hk : 300000000 < k) {x y : Int} (hx : x.natAbs < ilim) (hy : y.natAbs < ilim) : integer_Sub k (iz x) (iz y) = some (ires (x - y)) := by
  unfold integer_Sub
  rw [check2 (by omega) hx hy]
  simp only [Option.bind_some, bne_self_eq_false, cond_false]
  rw [iplus_ok hk (iz_ZI x) (ineg_ZI y) hx (by omega), ← Int.sub_eq_add_neg]
  rfl
theorem mul_sign {x y : Int} (h : x * y ≠ 0) : (!(decide (x < 0) == decide (y < 0))) = decide (x * y < 0) := by
  have hx : x ≠ 0 := fun e => h (by rw [e, Int.zero_mul])
  have hy : y ≠ 0 := fun e => h (by rw [e, Int.mul_zero])
  by_cases h1 : x < 0 <;> by_cases h2 : y < 0
  · have : 0 < x * y := Int.mul_pos_of_neg_of_neg h1 h2
    simp [h1, h2]; omega
  · have : x * y < 0 := Int.mul_neg_of_neg_of_pos h1 (by omega)
    simp [h1, h2, this]
  · have : x * y < 0 := Int.mul_neg_of_pos_of_neg (by omega) h2
    simp [h1, h2, this]
  · have : 0 < x * y := Int.mul_pos (by omega) (by omega)
    simp [h1, h2]; omega
theorem mul_natlim {x y : Int} (hx : x.natAbs < ilim) (hy : y.natAbs < ilim) : x.natAbs * y.natAbs < lim := by
  have h1 := ilim_sq
  have h2 : x.natAbs * y.natAbs < ilim * ilim := Nat.mul_lt_mul_of_lt_of_le hx (Nat.le_of_lt hy) (by omega)
  omega
theorem iMul_ok {k : Nat} (hk : 300000000 < k) {x y : Int} (hx : x.natAbs < ilim) (hy : y.natAbs < ilim) : integer_Mul k (iz x) (iz y) = some (ires (x * y)) := by
  unfold integer_Mul
  rw [check2 (by omega) hx hy]
  simp only [Option.bind_some, bne_self_eq_false, cond_false, iz]
  rw [Mul_ok (ilim_lim hx) (ilim_lim hy) hk, if_pos (mul_natlim hx hy)]
  simp only [Option.bind_some]
  rw [← Int.natAbs_mul, signed_ok (fun h => mul_sign h)]
  rfl
theorem iop_no {k : Nat} {a b : Bool × List Int} {f : Int × Int} (h : integer_check k [a, b] = some f) (hf : f.1 ≠ 0) : integer_Add k a b = some ((false, []), f) ∧ integer_Sub k a b = some ((false, []), f) ∧ integer_Mul k a b = some ((false, []), f) := by
  unfold integer_Add integer_Sub integer_Mul
  rw [h]
  simp only [Option.bind_some, bne_t hf, cond_true, and_self]
theorem IntOf_ok {k : Nat} (hk : 2000000001 < k) {v : Int} (hv : v.natAbs < ilim) : brindlewoodref3_IntOf k (iz v) = some (decide (v < 0), dg 65536 v.natAbs) := by
  unfold brindlewoodref3_IntOf iz
  have := ilim_iff.2 hv
  rw [Of_ok (dd32 _) (de32 _) (by omega) (by omega)]
  rfl
theorem rz_RI (v : Int) : RI (decide (v < 0), dg 65536 v.natAbs) v := ⟨rfl, fun _ => rfl⟩
theorem rPlus_ok {k : Nat} (hk : 100000000000000 < k) {a b : Bool × List Int} {x y : Int} (ha : RI a x) (hb : RI b y) (hx : ((dg 65536 x.natAbs).length : Int) ≤ 1000000) (hy : ((dg 65536 y.natAbs).length : Int) ≤ 1000000) : ∃ c, brindlewoodref3_Int_Plus k a b = some c ∧ RI c (x + y) := by
  obtain ⟨sa, la⟩ := a
  obtain ⟨sb, lb⟩ := b
  obtain ⟨ha1, ha2⟩ := ha
  obtain ⟨hb1, hb2⟩ := hb
  simp only at ha1 ha2 hb1 hb2
  subst ha1 hb1
  unfold brindlewoodref3_Int_Plus
  by_cases hs : sa = sb
  · subst hs
    simp only [beq_self_eq_true, cond_true]
    rw [Plus_ok (by omega) (by omega) hk]
    refine ⟨_, rfl, ?_, fun hne => ?_⟩
    · show dg 65536 (x.natAbs + y.natAbs) = _
      congr 1
      by_cases hx0 : x = 0
      · omega
      · by_cases hy0 : y = 0
        · omega
        · have h3 := (ha2 hx0).symm.trans (hb2 hy0)
          have : (x < 0) ↔ (y < 0) := by simpa using h3
          omega
    · show sa = _
      by_cases hx0 : x = 0
      · rw [hx0, Int.zero_add]; exact hb2 (by omega)
      · rw [ha2 hx0]
        by_cases hy0 : y = 0
        · rw [hy0, Int.add_zero]
        · have h3 := (ha2 hx0).symm.trans (hb2 hy0)
          have h4 : (x < 0) ↔ (y < 0) := by simpa using h3
          have h5 : (x < 0) ↔ (x + y < 0) := by omega
          simp [h5]
  · have hs' : (sa == sb) = false := by simpa using hs
    rw [hs', Compare_ok (by omega) (by omega) (by omega)]
    simp only [cond_false, Option.bind_some]
    have hop : x ≠ 0 → y ≠ 0 → ¬ ((x < 0) ↔ (y < 0)) := fun hx0 hy0 => by
      have h3 : ¬ (decide (x < 0) = decide (y < 0)) := fun h => hs (by rw [ha2 hx0, hb2 hy0, h])
      simpa using h3
    by_cases hle : y.natAbs ≤ x.natAbs
    · have hsg : 0 ≤ sgn (x.natAbs : Int) y.natAbs := by unfold sgn; rw [if_neg (by omega)]; split <;> decide
      rw [dle_t hsg, Minus_ok hle (by omega) (by omega)]
      refine ⟨_, rfl, ?_, fun hne => ?_⟩
      · show dg 65536 (x.natAbs - y.natAbs) = _
        congr 1
        by_cases hx0 : x = 0
        · omega
        · by_cases hy0 : y = 0
          · omega
          · have := hop hx0 hy0; omega
      · show sa = _
        by_cases hx0 : x = 0
        · omega
        · rw [ha2 hx0]
          by_cases hy0 : y = 0
          · rw [hy0, Int.add_zero]
          · have h4 := hop hx0 hy0
            have h5 : (x < 0) ↔ (x + y < 0) := by omega
            simp [h5]
    · have hsg : sgn (x.natAbs : Int) y.natAbs < 0 := by unfold sgn; rw [if_pos (by omega)]; decide
      have hy0 : y ≠ 0 := by omega
      rw [dle_f hsg, Minus_ok (x := y.natAbs) (y := x.natAbs) (by omega) (by omega) (by omega)]
      refine ⟨_, rfl, ?_, fun hne => ?_⟩
      · show dg 65536 (y.natAbs - x.natAbs) = _
        congr 1
        by_cases hx0 : x = 0
        · omega
        · have := hop hx0 hy0; omega
      · show sb = _
        rw [hb2 hy0]
        by_cases hx0 : x = 0
        · rw [hx0, Int.zero_add]
        · have h4 := hop hx0 hy0
          have h5 : (y < 0) ↔ (x + y < 0) := by omega
          simp [h5]
theorem rMinus_ok {a : Bool × List Int} {x : Int} (ha : RI a x) : ∃ c, brindlewoodref3_Int_Minus a = some c ∧ RI c (-x) := by
  obtain ⟨sa, la⟩ := a
  obtain ⟨ha1, ha2⟩ := ha
  simp only at ha1 ha2
  subst ha1
  unfold brindlewoodref3_Int_Minus
  cases sa with
  | true =>
    refine ⟨_, rfl, by simp, fun h => ?_⟩
    have := ha2 (by omega)
    have hx : x < 0 := by simpa using this.symm
    show false = _
    have : ¬ (-x < 0) := by omega
    exact (decide_eq_false this).symm
  | false =>
    refine ⟨_, rfl, by simp, fun h => ?_⟩
    have hx0 : x ≠ 0 := by omega
    have := ha2 hx0
    have hx : ¬ x < 0 := by simpa using this.symm
    have hp := (dg_len_pos (n := x.natAbs) hB16).2 (by omega)
    show decide (0 < ((dg 65536 x.natAbs).length : Int)) = _
    rw [dlt_t (by omega)]
    have : -x < 0 := by omega
    exact (decide_eq_true this).symm
theorem rTimes_ok {k : Nat} (hk : 100000000000000 < k) {a b : Bool × List Int} {x y : Int} (ha : RI a x) (hb : RI b y) (hx : ((dg 65536 x.natAbs).length : Int) ≤ 1000000) (hy : ((dg 65536 y.natAbs).length : Int) ≤ 1000000) : ∃ c, brindlewoodref3_Int_Times k a b = some c ∧ RI c (x * y) := by
  obtain ⟨sa, la⟩ := a
  obtain ⟨sb, lb⟩ := b
  obtain ⟨ha1, ha2⟩ := ha
  obtain ⟨hb1, hb2⟩ := hb
  simp only at ha1 ha2 hb1 hb2
  subst ha1 hb1
  unfold brindlewoodref3_Int_Times
  rw [Times_ok (by omega) (by omega) hk]
  simp only [Option.bind_some]
  have hpos : x * y ≠ 0 → decide (0 < ((dg 65536 (x.natAbs * y.natAbs)).length : Int)) = true := fun h => by
    have h1 : 0 < x.natAbs * y.natAbs := by
      rw [← Int.natAbs_mul]; omega
    have := (dg_len_pos hB16).2 h1
    exact dlt_t (by omega)
  have hsg : x * y ≠ 0 → (!(sa == sb)) = decide (x * y < 0) := fun h => by
    have hx0 : x ≠ 0 := fun e => h (by rw [e, Int.zero_mul])
    have hy0 : y ≠ 0 := fun e => h (by rw [e, Int.mul_zero])
    rw [ha2 hx0, hb2 hy0]; exact mul_sign h
  cases hc : (!(sa == sb)) with
  | true =>
    refine ⟨_, rfl, by simp [Int.natAbs_mul], fun h => ?_⟩
    show decide _ = _
    rw [hpos h, ← hsg h, hc]
  | false =>
    refine ⟨_, rfl, by simp [Int.natAbs_mul], fun h => ?_⟩
    show false = _
    rw [← hsg h, hc]
theorem SameInt_ok {k : Nat} (hk : 2000000001 < k) {b : Bool × List Int} {v : Int} (hb : RI b v) (hv : v.natAbs < ilim) : brindlewoodref3_SameInt k (iz v) b = some true := by
  obtain ⟨sb, lb⟩ := b
  obtain ⟨hb1, hb2⟩ := hb
  simp only at hb1 hb2
  subst hb1
  unfold brindlewoodref3_SameInt
  have l1 := ilim_iff.2 hv
  have l2 := ilim16_iff.2 hv
  rw [Limbs_ok (by omega) (by omega)]
  simp only [Option.bind_some, iz]
  rw [SameLimbs_ok (by omega) (by omega) (by omega)]
  have hsign : (bif sb then (decide (0 < ((dg 65536 v.natAbs).length : Int))) else false) = decide (v < 0) := by
    by_cases h0 : v = 0
    · subst h0; cases sb <;> rfl
    · have hp := (dg_len_pos (n := v.natAbs) hB16).2 (by omega)
      have hlen : decide (0 < ((dg 65536 v.natAbs).length : Int)) = true := dlt_t (by omega)
      rw [hb2 h0, hlen]
      cases decide (v < 0) <;> rfl
  cases sb with
  | true =>
    simp only [cond_true] at hsign ⊢
    rw [hsign]; simp
  | false =>
    simp only [cond_false] at hsign ⊢
    rw [← hsign]; simp
theorem yields_ok {k : Nat} (hk : 2000000001 < k) {c : Bool × List Int} {v : Int} (hc : RI c v) : brindlewoodlaw3_yields k (ires v).1 (ires v).2 c (0, 0) = some true := by
  unfold brindlewoodlaw3_yields brindlewoodref3_Int_Fits
  have hw : w64 (2 * 128) = 256 := by decide
  rw [hw, hc.1]
  by_cases hv : v.natAbs < ilim
  · have l2 := ilim16_iff.2 hv
    have hS := SameInt_ok hk hc hv
    unfold ires
    rw [if_pos hv, dle_t (by omega)]
    simp only [beq_self_eq_true, cond_true, Option.bind_some, Bool.not_true, cond_false, joinB_inl, bne_self_eq_false, Bool.and_self]
    rw [hS]; rfl
  · have l2 : ¬ (dg 65536 v.natAbs).length ≤ 256 := fun h => hv (ilim16_iff.1 h)
    unfold ires
    rw [if_neg hv, dle_f (by omega)]
    rfl
theorem NoInt_nil : brindlewoodref3_NoInt (false, []) = some true := rfl
end Go.Pl
