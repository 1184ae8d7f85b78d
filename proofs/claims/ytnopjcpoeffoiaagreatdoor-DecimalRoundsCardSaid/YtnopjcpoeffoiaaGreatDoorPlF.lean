/- What is answered by division by a limb, and by digits to a base.  Conditions: those that each theorem names. -/
import Derived.Test.YtnopjcpoeffoiaaGreatDoorPlE
set_option linter.unusedVariables false
set_option linter.unusedSimpArgs false
namespace Go.Pl
open Go Go.Ev Go.Sh
theorem toNat_mod64 (v : BitVec 64) : wu64 (v.toNat : Int) = v.toNat := wu64_id (by omega) (by have := v.isLt; omega)
theorem or64 (x y : Int) : bitsOp .or .u64 x y = ((BitVec.ofInt 64 x ||| BitVec.ofInt 64 y).toNat : Int) := toNat_mod64 _
theorem shl_u64_32 {x : Int} (h : 0 ≤ x) (h' : x < 4294967296) : shlI .u64 x 32 = x * 4294967296 := by
  show wu64 (x * 2 ^ (min (32 : Int).toNat IntKind.u64.bits)) = _
  rw [show min (32 : Int).toNat IntKind.u64.bits = 32 by rfl, show (2 : Int) ^ 32 = 4294967296 by rfl]
  exact wu64_id (by omega) (by omega)
theorem or_add {x y : Int} (hx : 0 ≤ x) (hx' : x < 4294967296) (hy : 0 ≤ y) (hy' : y < 4294967296) : bitsOp .or .u64 (x * 4294967296) y = x * 4294967296 + y := by
  obtain ⟨a, rfl⟩ := Int.eq_ofNat_of_zero_le hx
  obtain ⟨b, rfl⟩ := Int.eq_ofNat_of_zero_le hy
  rw [or64]
  have h1 : BitVec.ofInt 64 ((a : Int) * 4294967296) = BitVec.ofNat 64 (a * 4294967296) := by
    rw [show (a : Int) * 4294967296 = ((a * 4294967296 : Nat) : Int) by simp, BitVec.ofInt_natCast]
  have h2 : BitVec.ofInt 64 (b : Int) = BitVec.ofNat 64 b := BitVec.ofInt_natCast 64 b
  rw [h1, h2, BitVec.toNat_or, BitVec.toNat_ofNat, BitVec.toNat_ofNat, Nat.mod_eq_of_lt (by omega), Nat.mod_eq_of_lt (by omega)]
  have h3 : a * 4294967296 ||| b = a * 4294967296 + b := by
    have := Nat.shiftLeft_add_eq_or_of_lt (b := b) (i := 32) (by omega) a
    rw [Nat.shiftLeft_eq] at this
    exact this.symm
  rw [h3]; simp
theorem not_zero {x : Int} (h : x ≠ 0) : (!decide (x = 0)) = true := by simp [h]
theorem div32_ok {h l d : Int} (h0 : 0 ≤ h) (hd : h < d) (hd' : d < 4294967296) (l0 : 0 ≤ l) (l1 : l < 4294967296) : bits_Div32 h l d = some ((h * 4294967296 + l) / d, (h * 4294967296 + l) % d) := by
  unfold bits_Div32
  have e1 := shl_u64_32 (x := h) h0 (by omega)
  have e2 := or_add (x := h) (y := l) h0 (by omega) l0 l1
  have hq0 : 0 ≤ (h * 4294967296 + l) / d := Int.ediv_nonneg (by omega) (by omega)
  have hq1 : (h * 4294967296 + l) / d < 4294967296 := by
    apply Int.ediv_lt_of_lt_mul (by omega)
    have := Int.mul_le_mul_of_nonneg_right (show h + 1 ≤ d by omega) (show (0 : Int) ≤ 4294967296 by omega)
    have e : (4294967296 : Int) * d = d * 4294967296 := Int.mul_comm _ _
    omega
  have hr0 : 0 ≤ (h * 4294967296 + l) % d := Int.emod_nonneg _ (by omega)
  have hr1 : (h * 4294967296 + l) % d < d := Int.emod_lt_of_pos _ (by omega)
  have hd0 : (!decide (wu64 d = 0)) = true := by rw [wu64_id (by omega) (by omega)]; exact not_zero (by omega)
  simp (disch := omega) only [bne_t, cond_true, dle_f, cond_false, joinB_inl, wu64_id, e1, e2, tdiv_nn, tmod_nn]
  rw [not_zero (show d ≠ 0 by omega)]
  simp (disch := omega) only [cond_true, wu64_id, wu32_id]
theorem drop_set {l : List Int} {i : Nat} (d : Int) (h : i < l.length) : (l.set i d).drop i = d :: l.drop (i + 1) := by
  rw [List.drop_eq_getElem_cons (by simpa using h)]
  simp only [List.getElem_set_self, List.cons.injEq, true_and]
  rw [List.drop_set_of_lt (by omega)]
theorem short_l0 (k : Nat) {a : List Int} (ha : Dig 4294967296 a) {d : Int} (hd : 0 < d) (hd' : d < 4294967296) (hbig : (a.length : Int) ≤ 1000000000) : ∀ (n : Nat) (i : Int) (out : List Int) (r : Int), -1 ≤ i → i < a.length → (i + 1).toNat < n → out.length = a.length → Dig 4294967296 out → 0 ≤ r → r < d →
    ev 4294967296 (a.drop (i + 1).toNat) = d * ev 4294967296 (out.drop (i + 1).toNat) + r →
    ∃ out' r', natural_short.l0 k n a d out r i = some (.inl (out', r')) ∧ out'.length = a.length ∧ Dig 4294967296 out' ∧ 0 ≤ r' ∧ r' < d ∧ ev 4294967296 a = d * ev 4294967296 out' + r' := by
  intro n
  induction n with
  | zero => intro i out r _ _ h; omega
  | succ n ih =>
    intro i out r h1 h2 h3 ho hdo r0 r1 he
    simp only [natural_short.l0, natural_short.b0]
    by_cases hi : 0 ≤ i
    · obtain ⟨j, rfl⟩ : ∃ j : Nat, i = j := ⟨i.toNat, by omega⟩
      have hj : j < a.length := by omega
      have hx := ha.getD hj
      have e1 : w64 ((j : Int) - 1) = (j : Int) - 1 := w64_id (by omega) (by omega)
      simp (disch := omega) only [dle_t, cond_true, inR_t, rd_nat, e1, natCast_toNat]
      rw [div32_ok r0 r1 hd' hx.1 hx.2]
      simp (disch := omega) only [Option.bind_some, inR_t, cond_true]
      generalize hs : r * 4294967296 + a.getD j 0 = s
      have s0 : 0 ≤ s := by omega
      have hmd := Int.emod_add_mul_ediv s d
      have q0 : 0 ≤ s / d := Int.ediv_nonneg s0 (by omega)
      have q1 : s / d < 4294967296 := by
        apply Int.ediv_lt_of_lt_mul hd
        have := Int.mul_le_mul_of_nonneg_right (show r + 1 ≤ d by omega) (show (0 : Int) ≤ 4294967296 by omega)
        have e : (4294967296 : Int) * d = d * 4294967296 := Int.mul_comm _ _
        omega
      have m0 : 0 ≤ s % d := Int.emod_nonneg _ (by omega)
      have m1 : s % d < d := Int.emod_lt_of_pos _ hd
      have e2 : ((j : Int) + 1).toNat = j + 1 := by omega
      have e3 : ((j : Int) - 1 + 1).toNat = j := by omega
      rw [e2] at he
      refine ih ((j : Int) - 1) _ _ (by omega) (by omega) (by omega) (by simpa using ho) (hdo.set q0 q1) m0 m1 ?_
      rw [e3, drop_set _ (by omega), drop_getD hj, ev_cons, ev_cons, he]
      generalize ev 4294967296 (out.drop (j + 1)) = u at *
      generalize a.getD j 0 = x at *
      grind
    · have hi0 : i = -1 := by omega
      subst hi0
      simp (disch := omega) only [dle_f, cond_false]
      refine ⟨out, r, rfl, ho, hdo, r0, r1, ?_⟩
      simpa using he
theorem divmod_unique {x d q r : Nat} (h : x = d * q + r) (hr : r < d) : q = x / d ∧ r = x % d := by
  subst h
  constructor
  · rw [Nat.mul_add_div (by omega), Nat.div_eq_of_lt hr]; omega
  · rw [Nat.mul_add_mod, Nat.mod_eq_of_lt hr]
theorem short_ok {k x d : Nat} (hd : 0 < d) (hd' : d < 4294967296) (hbig : ((dg 4294967296 x).length : Int) ≤ 1000000000) (hk : 1000000001 < k) : natural_short k (dg 4294967296 x) d = some (dg 4294967296 (x / d), ((x % d : Nat) : Int)) := by
  unfold natural_short
  simp (disch := omega) only [dle_t, Bool.and_self, fits_t, cond_true, natCast_toNat, w64_id]
  obtain ⟨out, r, g1, g2, g3, g4, g5, g6⟩ := short_l0 k (dd32 x) (d := d) (by omega) (by omega) hbig k (((dg 4294967296 x).length : Int) - 1) (List.replicate (dg 4294967296 x).length 0) 0 (by omega) (by omega) (by omega) (by simp) (fun x hx => by have := List.eq_of_mem_replicate hx; omega) (by omega) (by omega) (by
    have : (((dg 4294967296 x).length : Int) - 1 + 1).toNat = (dg 4294967296 x).length := by omega
    rw [this, List.drop_length, List.drop_eq_nil_of_le (by simp)]; simp [ev])
  rw [g1, joinB_inl]
  simp only
  rw [trim_v (by omega) (by omega)]
  simp only [Option.bind_some]
  obtain ⟨q, hq⟩ := Int.eq_ofNat_of_zero_le (ev_nonneg (b := 4294967296) (by decide) g3)
  obtain ⟨m, rfl⟩ := Int.eq_ofNat_of_zero_le g4
  rw [de32, hq] at g6
  have hN : x = d * q + m := by
    have : (x : Int) = ((d * q + m : Nat) : Int) := by rw [g6]; simp
    omega
  obtain ⟨h1, h2⟩ := divmod_unique hN (by omega)
  rw [sub_nrm, nd32 g3 (n := x / d) (by rw [hq, h1]), h2]
theorem Halve_l0 (k : Nat) {a : List Int} (ha : Dig 65536 a) {d : Int} (hd : 0 < d) (hd' : d ≤ 65536) (hbig : (a.length : Int) ≤ 17000000000000) : ∀ (n : Nat) (i : Int) (out : List Int) (r : Int), -1 ≤ i → i < a.length → (i + 1).toNat < n → out.length = a.length → Dig 65536 out → 0 ≤ r → r < d →
    ev 65536 (a.drop (i + 1).toNat) = d * ev 65536 (out.drop (i + 1).toNat) + r →
    ∃ out' r', brindlewoodref3_Halve.l0 k n a d out r i = some (.inl (out', r')) ∧ out'.length = a.length ∧ Dig 65536 out' ∧ 0 ≤ r' ∧ r' < d ∧ ev 65536 a = d * ev 65536 out' + r' := by
  intro n
  induction n with
  | zero => intro i out r _ _ h; omega
  | succ n ih =>
    intro i out r h1 h2 h3 ho hdo r0 r1 he
    simp only [brindlewoodref3_Halve.l0, brindlewoodref3_Halve.b0]
    by_cases hi : 0 ≤ i
    · obtain ⟨j, rfl⟩ : ∃ j : Nat, i = j := ⟨i.toNat, by omega⟩
      have hj : j < a.length := by omega
      have hx := ha.getD hj
      have e1 : w64 ((j : Int) - 1) = (j : Int) - 1 := w64_id (by omega) (by omega)
      simp (disch := omega) only [dle_t, cond_true, inR_t, rd_nat, e1, natCast_toNat, w64_id]
      rw [not_zero (by omega)]
      generalize hs : r * 65536 + a.getD j 0 = s at *
      have s0 : 0 ≤ s := by omega
      have hmd := Int.emod_add_mul_ediv s d
      have q0 : 0 ≤ s / d := Int.ediv_nonneg s0 (by omega)
      have q1 : s / d < 65536 := by
        apply Int.ediv_lt_of_lt_mul hd
        have := Int.mul_le_mul_of_nonneg_right (show r + 1 ≤ d by omega) (show (0 : Int) ≤ 65536 by omega)
        have e : (65536 : Int) * d = d * 65536 := Int.mul_comm _ _
        omega
      have m0 : 0 ≤ s % d := Int.emod_nonneg _ (by omega)
      have m1 : s % d < d := Int.emod_lt_of_pos _ hd
      simp (disch := omega) only [cond_true, tdiv_nn, tmod_nn, w64_id]
      have e2 : ((j : Int) + 1).toNat = j + 1 := by omega
      have e3 : ((j : Int) - 1 + 1).toNat = j := by omega
      rw [e2] at he
      refine ih ((j : Int) - 1) _ _ (by omega) (by omega) (by omega) (by simpa using ho) (hdo.set q0 q1) m0 m1 ?_
      rw [e3, drop_set _ (by omega), drop_getD hj, ev_cons, ev_cons, he]
      generalize ev 65536 (out.drop (j + 1)) = u at *
      generalize a.getD j 0 = x at *
      grind
    · have hi0 : i = -1 := by omega
      subst hi0
      simp (disch := omega) only [dle_f, cond_false]
      refine ⟨out, r, rfl, ho, hdo, r0, r1, ?_⟩
      simpa using he
theorem Halve_ok {k x d : Nat} (hd : 0 < d) (hd' : d ≤ 65536) (hbig : ((dg 65536 x).length : Int) ≤ 10000000000000) (hk : 100000000000000 < k) : brindlewoodref3_Halve k (dg 65536 x) d = some (dg 65536 (x / d), ((x % d : Nat) : Int)) := by
  unfold brindlewoodref3_Halve
  simp (disch := omega) only [dle_t, Bool.and_self, fits_t, cond_true, natCast_toNat, w64_id]
  obtain ⟨out, r, g1, g2, g3, g4, g5, g6⟩ := Halve_l0 k (dd16 x) (d := d) (by omega) (by omega) (by omega) k (((dg 65536 x).length : Int) - 1) (List.replicate (dg 65536 x).length 0) 0 (by omega) (by omega) (by omega) (by simp) (fun x hx => by have := List.eq_of_mem_replicate hx; omega) (by omega) (by omega) (by
    have : (((dg 65536 x).length : Int) - 1 + 1).toNat = (dg 65536 x).length := by omega
    rw [this, List.drop_length, List.drop_eq_nil_of_le (by simp)]; simp [ev])
  rw [g1, joinB_inl]
  simp only
  rw [rtrim (by omega) (by omega)]
  simp only [Option.bind_some]
  obtain ⟨q, hq⟩ := Int.eq_ofNat_of_zero_le (ev_nonneg (b := 65536) (by decide) g3)
  obtain ⟨m, rfl⟩ := Int.eq_ofNat_of_zero_le g4
  rw [de16, hq] at g6
  have hN : x = d * q + m := by
    have : (x : Int) = ((d * q + m : Nat) : Int) := by rw [g6]; simp
    omega
  obtain ⟨h1, h2⟩ := divmod_unique hN (by omega)
  rw [sub_nrm, nd16 g3 (n := x / d) (by rw [hq, h1]), h2]
def pad (b : Nat) : Nat → Nat → List Int
  | 0, _ => []
  | n + 1, r => ((r % b : Nat) : Int) :: pad b n (r / b)
theorem dg_pad {b : Nat} (hb : 2 ≤ b) : ∀ (n r q : Nat), 0 < q → r < b ^ n → dg b (r + b ^ n * q) = pad b n r ++ dg b q := by
  intro n
  induction n with
  | zero => intro r q hq hr; have : r = 0 := by simpa using hr
            subst this; simp [pad]
  | succ n ih =>
    intro r q hq hr
    have hpos : 0 < b ^ (n + 1) * q := Nat.mul_pos (Nat.pow_pos (by omega)) hq
    rw [dg_pos hb (by omega)]
    have e : b ^ (n + 1) * q = b * (b ^ n * q) := by rw [Nat.pow_succ]; simp [Nat.mul_comm, Nat.mul_left_comm]
    have e1 : (r + b ^ (n + 1) * q) % b = r % b := by rw [e, Nat.add_mul_mod_self_left]
    have e2 : (r + b ^ (n + 1) * q) / b = r / b + b ^ n * q := by rw [e, Nat.add_mul_div_left _ _ (by omega)]
    rw [e1, e2, ih (r / b) q hq (by rw [Nat.div_lt_iff_lt_mul (by omega)]; rwa [Nat.pow_succ] at hr)]
    rfl
theorem pad_len (b : Nat) : ∀ n r, (pad b n r).length = n := by
  intro n
  induction n with
  | zero => intro r; rfl
  | succ n ih => intro r; simp [pad, ih]
theorem figures_l0 (k : Nat) {b : Nat} (hb : 2 ≤ b) (hb' : b ≤ 65536) (hk : 100000000000000 < k) : ∀ (n : Nat) (x : Nat) (out : List Int), (dg b x).length < n → ((dg 65536 x).length : Int) ≤ 10000000000000 → ((out.length + (dg b x).length : Nat) : Int) ≤ 10000000000000 →
    brindlewoodref3_Figures.l0 k n (dg 65536 x) b out = some (.inl (out ++ dg b x)) := by
  intro n
  induction n with
  | zero => intro x out h; omega
  | succ n ih =>
    intro x out hn h16 hl
    simp only [brindlewoodref3_Figures.l0, brindlewoodref3_Figures.b0]
    rcases Nat.eq_zero_or_pos x with h0 | h0
    · subst h0
      simp [dg_zero]
    · have h1 := (dg_len_pos hB16).2 h0
      rw [dlt_t (by omega), Halve_ok (by omega) hb' h16 hk]
      rw [dg_pos hb h0] at hl hn ⊢
      simp only [List.length_cons] at hl hn
      simp (disch := omega) only [cond_true, Option.bind_some, List.length_singleton, fits_t]
      have h2 : (dg 65536 (x / b)).length ≤ (dg 65536 x).length := len_le_of_le hB16 (Nat.div_le_self _ _)
      rw [ih (x / b) _ (by omega) (by omega) (by simp only [List.length_append, List.length_singleton]; omega)]
      simp
theorem figures_l1 (k : Nat) {a : List Int} (hbig : (a.length : Int) ≤ 10000000000000) : ∀ (n : Nat) (i : Int) (out : List Int), -1 ≤ i → i < a.length → (i + 1).toNat < n → out.length + (i + 1).toNat ≤ a.length →
    brindlewoodref3_Figures.l1 k n a out i = some (.inl (out ++ (a.take (i + 1).toNat).reverse)) := by
  intro n
  induction n with
  | zero => intro i out _ _ h; omega
  | succ n ih =>
    intro i out h1 h2 h3 hl
    simp only [brindlewoodref3_Figures.l1, brindlewoodref3_Figures.b1]
    by_cases hi : 0 ≤ i
    · obtain ⟨j, rfl⟩ : ∃ j : Nat, i = j := ⟨i.toNat, by omega⟩
      have hj : j < a.length := by omega
      have e1 : w64 ((j : Int) - 1) = (j : Int) - 1 := w64_id (by omega) (by omega)
      simp (disch := omega) only [dle_t, cond_true, inR_t, rd_nat, e1, List.length_singleton, fits_t]
      have e2 : ((j : Int) + 1).toNat = j + 1 := by omega
      have e3 : ((j : Int) - 1 + 1).toNat = j := by omega
      rw [ih ((j : Int) - 1) _ (by omega) (by omega) (by omega) (by simp only [List.length_append, List.length_singleton]; omega), e2, e3, take_succ' hj]
      simp
    · have hi0 : i = -1 := by omega
      subst hi0
      simp (disch := omega) only [dle_f, cond_false]
      simp
theorem Figures_ok {k b x : Nat} (hb : 2 ≤ b) (hb' : b ≤ 65536) (hx : ((dg b x).length : Int) ≤ 1000000000) (h16 : ((dg 65536 x).length : Int) ≤ 1000000000) (hk : 100000000000000 < k) : brindlewoodref3_Figures k (dg 65536 x) b = some (dg b x).reverse := by
  unfold brindlewoodref3_Figures
  rw [figures_l0 k hb hb' hk k x [] (by omega) (by omega) (by simp only [List.length_nil]; omega), joinB_inl]
  simp only [List.nil_append]
  have e1 : w64 (((dg b x).length : Int) - 1) = ((dg b x).length : Int) - 1 := w64_id (by omega) (by omega)
  have e2 : (((dg b x).length : Int) - 1 + 1).toNat = (dg b x).length := by omega
  rw [e1, figures_l1 k (by omega) k _ [] (by omega) (by omega) (by omega) (by simp only [List.length_nil]; omega), e2, List.take_length]
  rfl
theorem reverse_l0 (k : Nat) : ∀ (n : Nat) (l : List Int) (i j : Int), (l.length : Int) ≤ 1000000000000000000 → 0 ≤ i → i ≤ l.length → -1 ≤ j → j < l.length → (j - i + 1).toNat < n →
    ∃ l', slices_Reverse_intint_l.l0 k n l i j = some (.inl l') ∧ l'.length = l.length ∧ ∀ p : Nat, p < l.length → l'.getD p 0 = if i ≤ p ∧ (p : Int) ≤ j then l.getD (i + j - p).toNat 0 else l.getD p 0 := by
  intro n
  induction n with
  | zero => intro l i j _ _ _ _ _ h; omega
  | succ n ih =>
    intro l i j hl h0 h1 h2 h3 hn
    simp only [slices_Reverse_intint_l.l0, slices_Reverse_intint_l.b0]
    by_cases hij : i < j
    · obtain ⟨p, rfl⟩ : ∃ p : Nat, i = p := ⟨i.toNat, by omega⟩
      obtain ⟨q, rfl⟩ : ∃ q : Nat, j = q := ⟨j.toNat, by omega⟩
      have e1 : w64 ((p : Int) + 1) = (p : Int) + 1 := w64_id (by omega) (by omega)
      have e2 : w64 ((q : Int) - 1) = (q : Int) - 1 := w64_id (by omega) (by omega)
      simp (disch := omega) only [dlt_t, cond_true, inR_t, rd_nat, natCast_toNat, List.length_set, e1, e2]
      obtain ⟨l', g1, g2, g3⟩ := ih ((l.set p (l.getD q 0)).set q (l.getD p 0)) ((p : Int) + 1) ((q : Int) - 1) (by simpa using hl) (by omega) (by simp; omega) (by omega) (by simp; omega) (by omega)
      refine ⟨l', g1, by simpa using g2, fun r hr => ?_⟩
      rw [g3 r (by simpa using hr)]
      have e3 : ((p : Int) + 1 + ((q : Int) - 1) - r).toNat = ((p : Int) + q - r).toNat := by congr 1; omega
      by_cases hin : (p : Int) ≤ r ∧ (r : Int) ≤ q
      · rw [if_pos hin]
        by_cases hrp : r = p
        · subst hrp
          rw [if_neg (by omega), getD_set_ne _ (by omega), getD_set_eq _ (by omega)]
          congr 1; omega
        · by_cases hrq : r = q
          · subst hrq
            rw [if_neg (by omega), getD_set_eq _ (by simp; omega)]
            congr 1; omega
          · rw [if_pos (by omega), e3, getD_set_ne _ (by omega), getD_set_ne _ (by omega)]
      · rw [if_neg hin, if_neg (by omega), getD_set_ne _ (by omega), getD_set_ne _ (by omega)]
    · simp (disch := omega) only [dlt_f, cond_false]
      refine ⟨l, rfl, rfl, fun r hr => ?_⟩
      by_cases hin : i ≤ r ∧ (r : Int) ≤ j
      · rw [if_pos hin]; congr 1; omega
      · rw [if_neg hin]
theorem reverse_ok {k : Nat} {l : List Int} (hl : (l.length : Int) ≤ 1000000000000000000) (hk : l.length + 1 < k) : slices_Reverse_intint_l k l = some l.reverse := by
  unfold slices_Reverse_intint_l
  rw [w64_id (by omega) (by omega)]
  obtain ⟨l', g1, g2, g3⟩ := reverse_l0 k k l 0 ((l.length : Int) - 1) hl (by omega) (by omega) (by omega) (by omega) (by omega)
  rw [g1, joinB_inl]
  congr 1
  apply List.ext_getElem (by simpa using g2)
  intro p hp hp'
  have h := g3 p (by omega)
  rw [if_pos (by omega)] at h
  have e1 : l'.getD p 0 = l'[p] := by simp [hp]
  have e2 : (0 + ((l.length : Int) - 1) - p).toNat = l.length - 1 - p := by omega
  have e3 : l.getD (l.length - 1 - p) 0 = l[l.length - 1 - p] := by rw [List.getD_eq_getElem?_getD, List.getElem?_eq_getElem (by omega)]; rfl
  rw [e1, e2, e3] at h
  rw [h, List.getElem_reverse]
end Go.Pl
