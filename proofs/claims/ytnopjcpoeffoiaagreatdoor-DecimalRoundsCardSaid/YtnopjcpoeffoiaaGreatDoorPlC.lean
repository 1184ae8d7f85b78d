/- What the functions of package natural answer: multiplication, subtraction; Add, Sub, Mul.  Conditions: those that each theorem names. -/
import Derived.Test.YtnopjcpoeffoiaaGreatDoorPlB
set_option linter.unusedVariables false
set_option linter.unusedSimpArgs false
namespace Go.Pl
open Go Go.Ev Go.Sh
theorem ev_set {b : Int} : ∀ {l : List Int} {i : Nat} (d : Int), i < l.length → ev b (l.set i d) = ev b l + b ^ i * (d - l.getD i 0) := by
  intro l
  induction l with
  | nil => intro i d h; simp at h
  | cons x l ih =>
    intro i d h
    cases i with
    | zero => simp [ev]; grind
    | succ i =>
      have := ih (i := i) d (by simpa using h)
      simp only [List.set_cons_succ, ev, this, Int.pow_succ, List.getD_cons_succ]
      grind
theorem getD_set_ne {l : List Int} {i j : Nat} (d : Int) (h : i ≠ j) : (l.set i d).getD j 0 = l.getD j 0 := by
  simp [List.getD, List.getElem?_set_ne h]
theorem getD_set_eq {l : List Int} {i : Nat} (d : Int) (h : i < l.length) : (l.set i d).getD i 0 = d := by
  simp [List.getD, h]
theorem rd_nat (l : List Int) (i : Nat) : rd l (i : Int) = l.getD i 0 := rfl
theorem Dig.getD {b : Int} {l : List Int} (h : Dig b l) {i : Nat} (hl : i < l.length) : 0 ≤ l.getD i 0 ∧ l.getD i 0 < b := by
  have : l.getD i 0 = l[i] := by simp [hl]
  rw [this]; exact h _ (List.getElem_mem hl)
theorem drop_getD {l : List Int} {i : Nat} (hl : i < l.length) : l.drop i = l.getD i 0 :: l.drop (i + 1) := by
  rw [List.drop_eq_getElem_cons hl]; simp [hl]
theorem mul_bound {x y b : Int} (hx : 0 ≤ x) (hx' : x < b) (hy : 0 ≤ y) (hy' : y < b) : 0 ≤ x * y ∧ x * y ≤ (b - 1) * (b - 1) :=
  ⟨Int.mul_nonneg hx hy, Int.mul_le_mul (by omega) (by omega) hy (by omega)⟩
theorem natCast_toNat (n : Nat) : (n : Int).toNat = n := by omega
theorem mul_l1 (k : Nat) {b : List Int} (hb : Dig 4294967296 b) (a : List Int) (i0 la : Int) {x : Int} (hx : 0 ≤ x) (hx' : x < 4294967296) (i : Nat) : ∀ (n j : Nat) (out : List Int) (c : Int), j ≤ b.length → b.length - j < n → i + b.length ≤ out.length → (out.length : Int) ≤ 1000000000000000000 → Dig 4294967296 out → 0 ≤ c → c < 4294967296 →
    ∃ out' c', natural_mul.l1 k n b out i x c a la i0 b b.length j = some (.inl (b, out', i, c', a, la, i0)) ∧ out'.length = out.length ∧ Dig 4294967296 out' ∧ 0 ≤ c' ∧ c' < 4294967296 ∧ (∀ p : Nat, i + b.length ≤ p → out'.getD p 0 = out.getD p 0) ∧
      ev 4294967296 out' + (4294967296 : Int) ^ (i + b.length) * c' = ev 4294967296 out + (4294967296 : Int) ^ (i + j) * (c + x * ev 4294967296 (b.drop j)) := by
  intro n
  induction n with
  | zero => intro j out c _ h; omega
  | succ n ih =>
    intro j out c h1 h2 h3 hbig hd c0 c1
    simp only [natural_mul.l1, natural_mul.b1]
    by_cases hj : j < b.length
    · have hy := hb.getD hj
      have ho := hd.getD (i := i + j) (by omega)
      have hxy := mul_bound hx hx' hy.1 hy.2
      have e1 : w64 ((i : Int) + (j : Int)) = ((i + j : Nat) : Int) := by rw [w64_id (by omega) (by omega)]; omega
      have e2 : w64 ((j : Int) + 1) = ((j + 1 : Nat) : Int) := by rw [w64_id (by omega) (by omega)]; omega
      simp (disch := omega) only [dlt_t, cond_true, inR_t, e1, e2, rd_nat, natCast_toNat, wu64_id]
      generalize hs : c + (x * b.getD j 0 + out.getD (i + j) 0) = s at *
      have s0 : 0 ≤ s := by omega
      have s1 : s ≤ 18446744073709551615 := by omega
      rw [wu32_mod, shr_u64_32]
      have hmd := Int.emod_add_mul_ediv s 4294967296
      obtain ⟨out', c', g1, g2, g3, g4, g5, g6, g7⟩ := ih (j + 1) (out.set (i + j) (s % 4294967296)) (s / 4294967296) (by omega) (by omega) (by simpa using h3) (by simpa using hbig) (hd.set (by omega) (by omega)) (by omega) (by omega)
      refine ⟨out', c', g1, by simpa using g2, g3, g4, g5, fun p hp => by rw [g6 p hp, getD_set_ne _ (by omega)], ?_⟩
      rw [g7, ev_set _ (by omega), drop_getD hj, ev_cons, show i + (j + 1) = (i + j) + 1 by omega, Int.pow_succ]
      generalize (4294967296 : Int) ^ (i + j) = p
      generalize ev 4294967296 (b.drop (j + 1)) = u at *
      generalize out.getD (i + j) 0 = o at *
      generalize b.getD j 0 = y at *
      grind
    · have e1 : j = b.length := by omega
      subst e1
      simp (disch := omega) only [dlt_f, cond_false]
      exact ⟨out, c, rfl, rfl, hd, c0, c1, fun _ _ => rfl, by simp [ev]⟩
theorem mul_l0 (k : Nat) {a b : List Int} (ha : Dig 4294967296 a) (hb : Dig 4294967296 b) (hbig : ((a.length + b.length : Nat) : Int) ≤ 1000000000000000000) (hk : b.length < k) : ∀ (n i : Nat) (out : List Int), i ≤ a.length → a.length - i < n → out.length = a.length + b.length → Dig 4294967296 out → (∀ p : Nat, i + b.length ≤ p → out.getD p 0 = 0) →
    ev 4294967296 out = ev 4294967296 (a.take i) * ev 4294967296 b → ∃ out', natural_mul.l0 k n b out a a.length i = some (.inl out') ∧ out'.length = a.length + b.length ∧ Dig 4294967296 out' ∧ ev 4294967296 out' = ev 4294967296 a * ev 4294967296 b := by
  intro n
  induction n with
  | zero => intro i out _ h; omega
  | succ n ih =>
    intro i out h1 h2 h3 hd hz he
    simp only [natural_mul.l0, natural_mul.b0]
    by_cases hi : i < a.length
    · have hx := ha.getD hi
      simp (disch := omega) only [dlt_t, cond_true, inR_t, rd_nat]
      obtain ⟨out', c', g1, g2, g3, g4, g5, g6, g7⟩ := mul_l1 k hb a i a.length hx.1 hx.2 i k 0 out 0 (by omega) (by omega) (by omega) (by omega) hd (by omega) (by omega)
      have g1' : natural_mul.l1 k k b out i (a.getD i 0) 0 a a.length i b b.length 0 = some (.inl (b, out', i, c', a, a.length, i)) := g1
      rw [g1']
      have e1 : w64 ((i : Int) + (b.length : Int)) = ((i + b.length : Nat) : Int) := by rw [w64_id (by omega) (by omega)]; omega
      have e2 : w64 ((i : Int) + 1) = ((i + 1 : Nat) : Int) := by rw [w64_id (by omega) (by omega)]; omega
      simp (disch := omega) only [joinB_inl, e1, e2, inR_t, cond_true, natCast_toNat, wu32_id]
      refine ih (i + 1) _ (by omega) (by omega) (by simp; omega) (g3.set g4 g5) (fun p hp => ?_) ?_
      · rw [getD_set_ne _ (by omega), g6 p (by omega), hz p (by omega)]
      · rw [ev_set _ (by omega), g6 _ (by omega), hz _ (by omega), ev_take hi]
        simp only [Nat.add_zero, List.drop_zero] at g7
        rw [he] at g7
        generalize (4294967296 : Int) ^ (i + b.length) = q at *
        generalize (4294967296 : Int) ^ i = p at *
        grind
    · have e1 : i = a.length := by omega
      subst e1
      simp (disch := omega) only [dlt_f, cond_false]
      exact ⟨out, rfl, h3, hd, by rw [he, List.take_length]⟩
theorem mul_ok {k : Nat} {x y : Nat} {a b : List Int} (ha : Dig 4294967296 a) (hb : Dig 4294967296 b) (hx : ev 4294967296 a = x) (hy : ev 4294967296 b = y) (la : (a.length : Int) ≤ 100000000) (lb : (b.length : Int) ≤ 100000000) (hk : 300000000 < k) : natural_mul k a b = some (dg 4294967296 (x * y)) := by
  unfold natural_mul
  have e1 : w64 ((a.length : Int) + (b.length : Int)) = ((a.length + b.length : Nat) : Int) := by rw [w64_id (by omega) (by omega)]; omega
  simp (disch := omega) only [e1, dle_t, Bool.and_self, fits_t, cond_true, natCast_toNat]
  obtain ⟨out, g1, g2, g3, g4⟩ := mul_l0 k ha hb (by omega) (by omega) k 0 (List.replicate (a.length + b.length) 0) (by omega) (by omega) (by simp) (fun x hx => by have := List.eq_of_mem_replicate hx; omega) (fun p _ => by
    simp [List.getD, List.getElem?_replicate]; split <;> rfl) (by rw [ev_zeros]; simp [ev])
  have g1' : natural_mul.l0 k k b (List.replicate (a.length + b.length) 0) a a.length 0 = some (.inl out) := g1
  rw [g1', joinB_inl, trim_v (by omega) (by omega)]
  simp only [Option.bind_some]
  rw [sub_nrm, nd32 g3 (n := x * y) (by rw [g4, hx, hy]; simp)]
theorem bits31 (v : BitVec 32) : (v.toNat : Int) / 2147483648 = if v.msb then 1 else 0 := by
  have h := BitVec.msb_eq_decide v
  have h2 := v.isLt
  rw [h]
  by_cases hc : 2 ^ (32 - 1) ≤ v.toNat
  · simp only [hc, decide_true, if_true]; omega
  · simp only [hc, decide_false]; simp; omega
theorem toNat_mod (v : BitVec 32) : wu32 (v.toNat : Int) = v.toNat := wu32_id (by omega) (by have := v.isLt; omega)
theorem ofInt_toNat (v : BitVec 32) : BitVec.ofInt 32 (v.toNat : Int) = v := by simp
theorem and32 (x y : Int) : bitsOp .and .u32 x y = ((BitVec.ofInt 32 x &&& BitVec.ofInt 32 y).toNat : Int) := toNat_mod _
theorem or32 (x y : Int) : bitsOp .or .u32 x y = ((BitVec.ofInt 32 x ||| BitVec.ofInt 32 y).toNat : Int) := toNat_mod _
theorem xor32 (x y : Int) : bitsOp .xor .u32 x y = ((BitVec.ofInt 32 x ^^^ BitVec.ofInt 32 y).toNat : Int) := toNat_mod _
theorem msb_ofInt {x : Int} (h : 0 ≤ x) (h' : x < 4294967296) : (BitVec.ofInt 32 x).msb = decide (2147483648 ≤ x) := by
  rw [BitVec.msb_eq_decide, BitVec.toNat_ofInt]
  have : (x % ((2 ^ 32 : Nat) : Int)).toNat = x.toNat := by rw [Int.emod_eq_of_lt h (by omega)]
  rw [this]
  by_cases hc : 2147483648 ≤ x
  · simp only [hc, decide_true, decide_eq_true_eq]; omega
  · simp only [hc, decide_false, decide_eq_false_iff_not]; omega
theorem sub32_ok {x y c : Int} (hx : 0 ≤ x) (hx' : x < 4294967296) (hy : 0 ≤ y) (hy' : y < 4294967296) (hc : 0 ≤ c) (hc' : c ≤ 1) : bits_Sub32 x y c = some ((x - y - c) % 4294967296, if x < y + c then 1 else 0) := by
  have hd : wu32 ((wu32 (x - y)) - c) = (x - y - c) % 4294967296 := by
    rw [wu32_mod, wu32_mod]; omega
  generalize hD : (x - y - c) % 4294967296 = d at *
  have d0 : 0 ≤ d := by omega
  have d1 : d < 4294967296 := by omega
  unfold bits_Sub32
  rw [hd]
  have hmax : BitVec.ofInt 32 (IntKind.max .u32) = BitVec.allOnes 32 := by decide
  have hbits : shrI .u32 (bitsOp .or .u32 (bitsOp .and .u32 (bitsOp .xor .u32 (IntKind.max .u32) x) y) (bitsOp .and .u32 (bitsOp .xor .u32 (IntKind.max .u32) (bitsOp .xor .u32 x y)) d)) 31 = if x < y + c then 1 else 0 := by
    have hv : ∃ v : BitVec 32, (bitsOp .or .u32 (bitsOp .and .u32 (bitsOp .xor .u32 (IntKind.max .u32) x) y) (bitsOp .and .u32 (bitsOp .xor .u32 (IntKind.max .u32) (bitsOp .xor .u32 x y)) d)) = v.toNat ∧
        v = ((~~~(BitVec.ofInt 32 x) &&& BitVec.ofInt 32 y) ||| (~~~(BitVec.ofInt 32 x ^^^ BitVec.ofInt 32 y) &&& BitVec.ofInt 32 d)) := by
      refine ⟨_, ?_, rfl⟩
      simp only [and32, or32, xor32, hmax, ofInt_toNat, BitVec.allOnes_xor]
    obtain ⟨v, e1, e2⟩ := hv
    rw [e1]
    have e3 : shrI .u32 (v.toNat : Int) 31 = (v.toNat : Int) / 2147483648 := by
      show (v.toNat : Int).fdiv (2 ^ (min (31 : Int).toNat IntKind.u32.bits)) = _
      rw [show min (31 : Int).toNat IntKind.u32.bits = 31 by rfl, Int.fdiv_eq_ediv_of_nonneg _ (by decide)]
      rfl
    rw [e3, bits31, e2]
    simp only [BitVec.msb_or, BitVec.msb_and, BitVec.msb_not, BitVec.msb_xor, msb_ofInt hx hx', msb_ofInt hy hy', msb_ofInt d0 d1]
    by_cases p1 : 2147483648 ≤ x <;> by_cases p2 : 2147483648 ≤ y <;> by_cases p3 : 2147483648 ≤ d <;> by_cases p4 : x < y + c <;> simp [p1, p2, p3, p4] <;> omega
  rw [hbits]
theorem sub_l0 (k : Nat) {b : List Int} (hb : Dig 4294967296 b) : ∀ (n i : Nat) (out : List Int) (c : Int), i ≤ out.length → out.length - i < n → b.length ≤ out.length → (out.length : Int) ≤ 1000000000000000000 → Dig 4294967296 out → 0 ≤ c → c ≤ 1 →
    ∃ out' c', natural_sub.l0 k n b out c out.length i = some (.inl out') ∧ out'.length = out.length ∧ Dig 4294967296 out' ∧ 0 ≤ c' ∧ c' ≤ 1 ∧ ev 4294967296 out' - (4294967296 : Int) ^ out.length * c' = ev 4294967296 out - (4294967296 : Int) ^ i * (c + ev 4294967296 (b.drop i)) := by
  intro n
  induction n with
  | zero => intro i out c _ h; omega
  | succ n ih =>
    intro i out c h1 h2 h3 hbig hd c0 c1
    simp only [natural_sub.l0, natural_sub.b0]
    by_cases hi : i < out.length
    · have ho := hd.getD hi
      have e2 : w64 ((i : Int) + 1) = ((i + 1 : Nat) : Int) := by rw [w64_id (by omega) (by omega)]; omega
      have step : ∀ y : Int, 0 ≤ y → y < 4294967296 → ev 4294967296 (b.drop i) = y + 4294967296 * ev 4294967296 (b.drop (i + 1)) → ∃ out' c', (bif inR (i : Int) (out.length : Int) then ((bits_Sub32 (rd out i) y c).bind fun t3 => bif inR (i : Int) (out.length : Int) then (natural_sub.l0 k n b (out.set (Int.toNat (i : Int)) t3.1) t3.2 out.length (w64 ((i : Int) + 1))) else none) else none) = some (.inl out') ∧
          out'.length = out.length ∧ Dig 4294967296 out' ∧ 0 ≤ c' ∧ c' ≤ 1 ∧ ev 4294967296 out' - (4294967296 : Int) ^ out.length * c' = ev 4294967296 out - (4294967296 : Int) ^ i * (c + ev 4294967296 (b.drop i)) := by
        intro y y0 y1 hy
        rw [inR_t (by omega) (by omega), rd_nat, sub32_ok ho.1 ho.2 y0 y1 c0 c1, e2, natCast_toNat]
        simp only [cond_true, Option.bind_some]
        generalize hs : out.getD i 0 - y - c = s at *
        generalize hw : (if out.getD i 0 < y + c then (1 : Int) else 0) = w
        have hw' : 0 ≤ w ∧ w ≤ 1 ∧ s % 4294967296 = s + 4294967296 * w := by
          subst hw
          split <;> refine ⟨by omega, by omega, ?_⟩
          · omega
          · omega
        obtain ⟨out', c', g1, g2, g3, g4, g5, g6⟩ := ih (i + 1) (out.set i (s % 4294967296)) w (by simp; omega) (by simp; omega) (by simp; omega) (by simpa using hbig) (hd.set (by omega) (by omega)) hw'.1 hw'.2.1
        simp only [List.length_set] at g1 g2 g6
        refine ⟨out', c', g1, g2, g3, g4, g5, ?_⟩
        rw [g6, ev_set _ hi, hy, Int.pow_succ, hw'.2.2]
        generalize (4294967296 : Int) ^ i = p
        generalize ev 4294967296 (b.drop (i + 1)) = u
        generalize out.getD i 0 = o at *
        grind
      by_cases hib : i < b.length
      · have hy := hb.getD hib
        simp (disch := omega) only [dlt_t, cond_true, inR_t, joinB_inl, rd_nat]
        have := step (b.getD i 0) hy.1 hy.2 (by rw [drop_getD hib, ev_cons])
        simpa (disch := omega) only [inR_t, cond_true, rd_nat] using this
      · simp (disch := omega) only [dlt_t, dlt_f, cond_true, cond_false, joinB_inl]
        have := step 0 (by omega) (by omega) (by rw [List.drop_eq_nil_of_le (by omega), List.drop_eq_nil_of_le (by omega)]; simp [ev])
        simpa (disch := omega) only [inR_t, cond_true, rd_nat] using this
    · have e1 : i = out.length := by omega
      simp (disch := omega) only [dlt_f, cond_false]
      refine ⟨out, c, rfl, rfl, hd, c0, c1, ?_⟩
      rw [e1, List.drop_eq_nil_of_le h3]; simp [ev]
theorem clone_ok {l : List Int} (h : (l.length : Int) ≤ 1000000000) : slices_Clone_uint32uint32 l = some l := by
  unfold slices_Clone_uint32uint32
  rw [fits_t (by omega)]; rfl
theorem len_le_of_le {b : Nat} (hb : 2 ≤ b) {x y : Nat} (h : x ≤ y) : (dg b x).length ≤ (dg b y).length := (dg_len_iff hb).2 (Nat.lt_of_le_of_lt h (dg_lt hb))
theorem sub_ok {k : Nat} {x y : Nat} (hxy : y ≤ x) (la : ((dg 4294967296 x).length : Int) ≤ 100000000) (hk : 300000000 < k) : natural_sub k (dg 4294967296 x) (dg 4294967296 y) = some (dg 4294967296 (x - y)) := by
  unfold natural_sub
  have hl := len_le_of_le hB32 hxy
  rw [clone_ok (by omega)]
  simp only [Option.bind_some]
  obtain ⟨out, c, g1, g2, g3, g4, g5, g6⟩ := sub_l0 k (dd32 y) k 0 (dg 4294967296 x) 0 (by omega) (by omega) hl (by omega) (dd32 x) (by omega) (by omega)
  have g1' : natural_sub.l0 k k (dg 4294967296 y) (dg 4294967296 x) 0 (dg 4294967296 x).length 0 = some (.inl out) := g1
  rw [g1', joinB_inl, trim_v (by omega) (by omega)]
  simp only [Option.bind_some]
  simp only [List.drop_zero, de32, Int.pow_zero] at g6
  have h1 := ev_lt (b := 4294967296) (by decide) g3
  rw [g2] at h1
  have h2 := ev_nonneg (b := 4294967296) (by decide) g3
  have hc : c = 0 := by
    rcases Int.lt_or_le 0 c with h | h
    · have : c = 1 := by omega
      subst this; omega
    · omega
  subst hc
  rw [sub_nrm, nd32 g3 (n := x - y) (by omega)]
theorem Add_ok {k : Nat} {x y : Nat} (hx : x < lim) (hy : y < lim) (hk : 300000000 < k) : natural_Add k (dg 4294967296 x) (dg 4294967296 y) = some (if x + y < lim then (dg 4294967296 (x + y), 0, 0) else ([], 14, -1)) := by
  unfold natural_Add
  have l1 := len600 hx
  have l2 := len600 hy
  rw [check_ok hx hy, add_ok (dd32 x) (dd32 y) (de32 x) (de32 y) (by omega) (by omega) (by omega)]
  have l4 := e600_eq
  have l3 : (dg 4294967296 (x + y)).length ≤ e600 + 1 := dg_len hB32 (by rw [lim_def] at hx hy; rw [Nat.pow_succ]; omega)
  simp only [Option.bind_some, bne_f rfl, cond_false]
  rw [fit_ok (by omega) (by omega) (dd32 _) (de32 _)]
  simp only [Option.bind_some]
theorem Mul_ok {k : Nat} {x y : Nat} (hx : x < lim) (hy : y < lim) (hk : 300000000 < k) : natural_Mul k (dg 4294967296 x) (dg 4294967296 y) = some (if x * y < lim then (dg 4294967296 (x * y), 0, 0) else ([], 14, -1)) := by
  unfold natural_Mul
  have l1 := len600 hx
  have l2 := len600 hy
  rw [check_ok hx hy, mul_ok (dd32 x) (dd32 y) (de32 x) (de32 y) (by omega) (by omega) (by omega)]
  have l4 := e600_eq
  have l3 : (dg 4294967296 (x * y)).length ≤ e600 + e600 := dg_len hB32 (by
    have : x * y < lim * lim := Nat.mul_lt_mul_of_lt_of_le hx (Nat.le_of_lt hy) (by rw [lim_def]; exact Nat.pow_pos (by decide))
    rw [lim_def, ← Nat.pow_add] at this; exact this)
  simp only [Option.bind_some, bne_f rfl, cond_false]
  rw [fit_ok (by omega) (by omega) (dd32 _) (de32 _)]
  simp only [Option.bind_some]
theorem Sub_ok {k : Nat} {x y : Nat} (hx : x < lim) (hy : y < lim) (hk : 300000000 < k) : natural_Sub k (dg 4294967296 x) (dg 4294967296 y) = some (if x < y then ([], 4, -2) else (dg 4294967296 (x - y), 0, 0)) := by
  unfold natural_Sub
  have l1 := len600 hx
  have l2 := len600 hy
  obtain ⟨c, h1, h2, h3⟩ := compare_ok (k := k) (x := x) (y := y) (by omega) (by omega) (by omega)
  rw [check_ok hx hy, h1]
  simp only [Option.bind_some, bne_f rfl, cond_false]
  by_cases h : x < y
  · simp only [dlt_t (h2.2 h), cond_true, at_ok, Option.bind_some, h, if_true]
  · have : 0 ≤ c := by
      have := mt h2.1 h; omega
    rw [dlt_f this, sub_ok (by omega) (by omega) hk]
    simp only [cond_false, Option.bind_some, h, if_false]
end Go.Pl
