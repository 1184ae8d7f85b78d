/- Integers to and from ints, sizes, order.  Conditions: those that each theorem names. -/
import Derived.Test.YtpomnejenhgpkaaPiD
import Derived.Test.YtpomnejenhgpkaaPlN
set_option linter.unusedVariables false
set_option linter.unusedSimpArgs false
namespace Go.Pl
open Go Go.Ev Go.Sh
theorem w64_any (n : Int) : w64 n = (n + 9223372036854775808) % 18446744073709551616 - 9223372036854775808 := by
  show IntKind.wrap .i64 n = _
  rw [IntKind.wrap_i64]
theorem iOf_l0 (k : Nat) (x : Int) (r : Bool × List Int) : ∀ (n : Nat) (l : List Int), (l.length : Int) ≤ 1000000000000000000 → l.length < n → integer_Of.l0 k n x r l = some (.inl (x, r, nrm l)) := by
  intro n
  induction n with
  | zero => intro l _ h; omega
  | succ n ih =>
    intro l hl hn
    simp only [integer_Of.l0, integer_Of.b0]
    rcases List.eq_nil_or_concat l with rfl | ⟨m, y, rfl⟩
    · rfl
    · simp only [List.concat_eq_append, List.length_append, List.length_singleton] at hl hn ⊢
      have e1 : w64 (((m.length + 1 : Nat) : Int) - 1) = m.length := by rw [w64_id (by omega) (by omega)]; omega
      simp (disch := omega) only [dlt_t, cond_true, e1, inR_t]
      have hr : rd (m ++ [y]) (m.length : Int) = y := by simp [Ev.rd]
      rw [hr]
      by_cases h0 : y = 0
      · subst h0
        have hs : Ev.sub (m ++ [(0 : Int)]) 0 ((m.length : Int) - 0) = m := by simp [Ev.sub]
        rw [hs, z_le, dle_t (by omega), dle_t (by omega)]
        simp only [Bool.and_self, cond_true, beq_self_eq_true]
        rw [ih m (by omega) (by omega), nrm_snoc0]
      · rw [beq_f h0]
        simp only [cond_false]
        rw [nrm_self (by simpa using h0)]
theorem iOf_ok {k : Nat} (hk : 10 < k) {a : Int} (h1 : -9223372036854775808 ≤ a) (h2 : a ≤ 9223372036854775807) : integer_Of k a = some (iz a) := by
  unfold integer_Of
  have e : (bif decide (a < 0) then (some (.inl (a, (false, []), wu64 (0 - (wu64 (a)))))) else (some (.inl (a, (false, []), wu64 (a)))) : Option ((Int × (Bool × List Int) × Int) ⊕ (Bool × List Int))) = some (.inl (a, (false, []), (a.natAbs : Int))) := by
    by_cases h : a < 0
    · rw [dlt_t h, wu64_mod, wu64_mod]
      simp only [cond_true]
      have : (0 - a % 18446744073709551616) % 18446744073709551616 = (a.natAbs : Int) := by omega
      rw [this]
    · rw [dlt_f (by omega)]
      simp only [cond_false]
      rw [wu64_id (by omega) (by omega), show (a.natAbs : Int) = a by omega]
  rw [e]
  simp only [joinB_inl]
  have e2 : [wu32 (a.natAbs : Int), wu32 (shrI .u64 (a.natAbs : Int) 32)] = [(a.natAbs : Int) % 4294967296, (a.natAbs : Int) / 4294967296] := by
    rw [shr_u64_32, wu32_mod, wu32_id (n := (a.natAbs : Int) / 4294967296) (by omega) (by omega)]
  rw [e2, iOf_l0 k a (false, []) k _ (by simp) (by simp; omega)]
  simp only [joinB_inl]
  have e3 : nrm [(a.natAbs : Int) % 4294967296, (a.natAbs : Int) / 4294967296] = dg 4294967296 a.natAbs := nrm_dg hB32 (Dig.cons (by omega) (by omega) (Dig.one (by omega) (by omega))) (by rw [ev_cons, ev_cons]; simp only [ev]; omega)
  rw [e3]; rfl
theorem rNumber_l0 (k : Nat) (r : Bool × List Int) (s : Bool) : ∀ (n : Nat) (x : Int) (M : List Int), (dg 2 x.natAbs).length < n → ((M.length + (dg 2 x.natAbs).length : Nat) : Int) ≤ 1000000 → -9223372036854775808 ≤ x → x ≤ 9223372036854775807 →
    brindlewoodref3_Number.l0 k n x r (M.map isOne) s = some (.inl (r, (M ++ dg 2 x.natAbs).map isOne, s)) := by
  intro n
  induction n with
  | zero => intro x M h; omega
  | succ n ih =>
    intro x M h1 h2 h3 h4
    simp only [brindlewoodref3_Number.l0, brindlewoodref3_Number.b0]
    by_cases hx : x = 0
    · subst hx
      simp [dg_zero]
    · have hd : dg 2 x.natAbs = ((x.natAbs % 2 : Nat) : Int) :: dg 2 (x.natAbs / 2) := dg_pos (by decide) (by omega)
      rw [hd] at h1 h2 ⊢
      simp only [List.length_cons] at h1 h2
      have e1 : (Int.tdiv x 2).natAbs = x.natAbs / 2 := by rw [Int.natAbs_tdiv]; rfl
      have e2 : (Int.tmod x 2).natAbs = x.natAbs % 2 := by rw [Int.natAbs_tmod]; rfl
      have e3 : ((Int.tmod x 2) != 0) = isOne ((x.natAbs % 2 : Nat) : Int) := by
        unfold isOne
        rcases Nat.mod_two_eq_zero_or_one x.natAbs with h | h
        · have : Int.tmod x 2 = 0 := by omega
          rw [h, this]; rfl
        · rw [h]
          exact bne_t (by omega)
      have e4 : w64 (Int.tdiv x 2) = Int.tdiv x 2 := w64_id (by omega) (by omega)
      rw [bne_t hx, e3, e4]
      simp only [cond_true, List.length_singleton, List.length_map]
      rw [fits_t (by omega)]
      simp only [cond_true]
      have e5 : M.map isOne ++ [isOne ((x.natAbs % 2 : Nat) : Int)] = (M ++ [((x.natAbs % 2 : Nat) : Int)]).map isOne := by rw [List.map_append]; rfl
      rw [e5, ih (Int.tdiv x 2) _ (by rw [e1]; omega) (by rw [e1]; simp only [List.length_append, List.length_singleton]; omega) (by omega) (by omega), e1]
      simp
theorem rNumber_ok {k : Nat} (hk : 1000000000 < k) {a : Int} (h1 : -9223372036854775808 ≤ a) (h2 : a ≤ 9223372036854775807) : brindlewoodref3_Number k a = some (decide (a < 0), dg 65536 a.natAbs) := by
  unfold brindlewoodref3_Number
  have hl : (dg 2 a.natAbs).length ≤ 64 := dg_len (by decide) (by have : (2 : Nat) ^ 64 = 18446744073709551616 := by decide
                                                                  omega)
  have h := rNumber_l0 k (false, []) (decide (a < 0)) k a [] (by omega) (by simp; omega) h1 h2
  have h' : brindlewoodref3_Number.l0 k k a (false, []) [] (decide (a < 0)) = _ := h
  rw [h', joinB_inl]
  simp only [List.nil_append]
  rw [Binary_ok (dd2 _) (de2 _) (by omega) (by omega)]
  rfl
theorem iBits_ok {k : Nat} (hk : 2000 < k) {x : Int} (hx : x.natAbs < ilim) : integer_Bits k (iz x) = some (((dg 2 x.natAbs).length : Int), 0, 0) := by
  unfold integer_Bits
  rw [check1 hk hx]
  simp only [Option.bind_some, bne_self_eq_false, cond_false, iz]
  rw [Bits_ok (ilim_lim hx)]
  rfl
def ismall (x : Int) : Int × Int × Int := if -9223372036854775808 ≤ x ∧ x ≤ 9223372036854775807 then (x, 0, 0) else (0, 14, -1)
theorem iSmall_fin (s : Bool) {m : Nat} (hm : m < 18446744073709551616) {x : Int} (hx : x.natAbs = m) (hs : s = decide (x < 0)) (l : List Int) :
    joinB (α := (Bool × List Int) × (Int × Int) × Int) (bif s then (some (.inl ((s, l), ((0, 0) : Int × Int), w64 (0 - (w64 (m : Int)))))) else (some (.inl ((s, l), (0, 0), w64 (m : Int))))) (fun z5 => bif (!((decide (z5.2.2 < 0)) == z5.1.1)) then ((integer_at 14 (-1)).bind fun t6 => some ((0 : Int), t6)) else (some (z5.2.2, ((0, 0) : Int × Int)))) some = some (ismall x) := by
  subst hs
  unfold ismall
  by_cases h : x < 0
  · rw [decide_eq_true h]
    simp only [cond_true, joinB_inl]
    by_cases hb : -9223372036854775808 ≤ x
    · have e : w64 (0 - w64 (m : Int)) = x := by
        rw [w64_any (m : Int), w64_any]; omega
      rw [e, decide_eq_true h, if_pos (by omega)]; rfl
    · have e : 0 ≤ w64 (0 - w64 (m : Int)) := by
        rw [w64_any (m : Int), w64_any]; omega
      rw [dlt_f e, if_neg (by omega)]; rfl
  · rw [decide_eq_false h]
    simp only [cond_false, joinB_inl]
    by_cases hb : x ≤ 9223372036854775807
    · have e : w64 (m : Int) = x := by
        rw [w64_any]; omega
      rw [e, decide_eq_false h, if_pos (by omega)]; rfl
    · have e : w64 (m : Int) < 0 := by
        rw [w64_any]; omega
      rw [dlt_t e, if_neg (by omega)]; rfl
theorem or_zero {x : Int} (h : 0 ≤ x) (h' : x < 4294967296) : bitsOp .or .u64 0 (shlI .u64 (wu64 x) 0) = x := by
  have e : shlI .u64 (wu64 x) 0 = x := by
    rw [wu64_id h (by omega)]
    show wu64 (x * 2 ^ (min (0 : Int).toNat IntKind.u64.bits)) = _
    rw [show min (0 : Int).toNat IntKind.u64.bits = 0 by rfl, Int.pow_zero, Int.mul_one]
    exact wu64_id h (by omega)
  rw [e]
  have := or_add (x := 0) (y := x) (by omega) (by omega) h h'
  simpa using this
theorem or_high {x y : Int} (h : 0 ≤ x) (h' : x < 4294967296) (g : 0 ≤ y) (g' : y < 4294967296) : bitsOp .or .u64 x (shlI .u64 (wu64 y) 32) = x + 4294967296 * y := by
  rw [wu64_id g (by omega), shl_u64_32 g g']
  have := or_add (x := y) (y := x) g g' h h'
  rw [or64, BitVec.or_comm, ← or64, this]; omega
theorem iSmall_ok {k : Nat} (hk : 2000 < k) {x : Int} (hx : x.natAbs < ilim) : integer_Small k (iz x) = some (ismall x) := by
  unfold integer_Small
  rw [check1 hk hx]
  simp only [Option.bind_some, bne_self_eq_false, cond_false]
  have l3 := ilim_iff.2 hx
  have hd := dd32 x.natAbs
  have he := de32 x.natAbs
  have fin := fun (m : Nat) hm => iSmall_fin (decide (x < 0)) (m := m) hm (x := x)
  obtain ⟨n, rfl⟩ : ∃ n, k = n + 3 := ⟨k - 3, by omega⟩
  generalize hL : dg 4294967296 x.natAbs = L at *
  have hiz : iz x = (decide (x < 0), L) := by unfold iz; rw [hL]
  rw [hiz]
  rcases L with _ | ⟨a, _ | ⟨b, _ | ⟨c, L⟩⟩⟩
  · simp only [ev] at he
    have := fin 0 (by omega) (by omega) rfl []
    exact this
  · simp only [ev] at he
    have ha := hd a (by simp)
    have hx' : (x.natAbs : Int) = a := by omega
    have h1 : integer_Small.l0 (n + 3) (n + 3) (decide (x < 0), [a]) (0, 0) 0 [a] (([a] : List Int).length : Int) 0 = some (.inl ((decide (x < 0), [a]), (0, 0), a)) := by
      simp only [integer_Small.l0, integer_Small.b0]
      have c0 : decide ((0 : Int) < (([a] : List Int).length : Int)) = true := rfl
      have c1 : inR 0 (([a] : List Int).length : Int) = true := rfl
      have c2 : decide ((1 : Int) < 0) = false := rfl
      have c3 : w64 (32 * 0) = 0 := rfl
      have c4 : decide ((0 : Int) ≤ 0) = true := rfl
      have c5 : rd [a] 0 = a := rfl
      have c6 : w64 (0 + 1) = 1 := rfl
      have c7 : decide ((1 : Int) < (([a] : List Int).length : Int)) = false := rfl
      rw [c0, c1, c2, c3, c4, c5, c6, c7]
      simp only [cond_true, cond_false]
      rw [or_zero (by omega) (by omega)]
    rw [h1, joinB_inl]
    have := fin x.natAbs (by omega) rfl rfl [a]
    rw [hx'] at this
    exact this
  · simp only [ev] at he
    have ha := hd a (by simp)
    have hb := hd b (by simp)
    have hx' : (x.natAbs : Int) = a + 4294967296 * b := by omega
    have h1 : integer_Small.l0 (n + 3) (n + 3) (decide (x < 0), [a, b]) (0, 0) 0 [a, b] (([a, b] : List Int).length : Int) 0 = some (.inl ((decide (x < 0), [a, b]), (0, 0), a + 4294967296 * b)) := by
      simp only [integer_Small.l0, integer_Small.b0]
      have c0 : decide ((0 : Int) < (([a, b] : List Int).length : Int)) = true := rfl
      have c1 : inR 0 (([a, b] : List Int).length : Int) = true := rfl
      have c2 : decide ((1 : Int) < 0) = false := rfl
      have c3 : w64 (32 * 0) = 0 := rfl
      have c4 : decide ((0 : Int) ≤ 0) = true := rfl
      have c5 : rd [a, b] 0 = a := rfl
      have c6 : w64 (0 + 1) = 1 := rfl
      have c7 : decide ((1 : Int) < (([a, b] : List Int).length : Int)) = true := rfl
      have c8 : inR 1 (([a, b] : List Int).length : Int) = true := rfl
      have c9 : decide ((1 : Int) < 1) = false := rfl
      have c10 : w64 (32 * 1) = 32 := rfl
      have c11 : decide ((0 : Int) ≤ 32) = true := rfl
      have c12 : rd [a, b] 1 = b := rfl
      have c13 : w64 (1 + 1) = 2 := rfl
      have c14 : decide ((2 : Int) < (([a, b] : List Int).length : Int)) = false := rfl
      rw [c0, c1, c2, c3, c4, c5, c6, c7, c8, c9, c10, c11, c12, c13, c14]
      simp only [cond_true, cond_false]
      rw [or_zero (by omega) (by omega), or_high (by omega) (by omega) (by omega) (by omega)]
    rw [h1, joinB_inl]
    have := fin x.natAbs (by omega) rfl rfl [a, b]
    rw [hx'] at this
    exact this
  · have ha := hd a (by simp)
    have hb := hd b (by simp)
    have hc := hd c (by simp)
    have hbig : 18446744073709551616 ≤ x.natAbs := by
      rcases Nat.lt_or_ge x.natAbs 18446744073709551616 with h | h
      · have : (dg 4294967296 x.natAbs).length ≤ 2 := dg_len hB32 (by have : (4294967296 : Nat) ^ 2 = 18446744073709551616 := by decide
                                                                      omega)
        rw [hL] at this
        simp at this
      · exact h
    have h1 : integer_Small.l0 (n + 3) (n + 3) (decide (x < 0), a :: b :: c :: L) (0, 0) 0 (a :: b :: c :: L) ((a :: b :: c :: L).length : Int) 0 = some (.inr (0, 14, -1)) := by
      simp only [integer_Small.l0, integer_Small.b0]
      have hlen : ((a :: b :: c :: L).length : Int) = (L.length : Int) + 3 := by simp; omega
      have c2 : decide ((1 : Int) < 0) = false := rfl
      have c3 : w64 (32 * 0) = 0 := rfl
      have c4 : decide ((0 : Int) ≤ 0) = true := rfl
      have c6 : w64 (0 + 1) = 1 := rfl
      have c9 : decide ((1 : Int) < 1) = false := rfl
      have c10 : w64 (32 * 1) = 32 := rfl
      have c11 : decide ((0 : Int) ≤ 32) = true := rfl
      have c13 : w64 (1 + 1) = 2 := rfl
      have c15 : decide ((1 : Int) < 2) = true := rfl
      rw [hlen, dlt_t (a := 0) (by omega), inR_t (i := 0) (by omega) (by omega), c2, c3, c4, c6, dlt_t (a := 1) (by omega), inR_t (i := 1) (by omega) (by omega), c9, c10, c11, c13, dlt_t (a := 2) (by omega), inR_t (i := 2) (by omega) (by omega), c15]
      rfl
    rw [h1]
    unfold ismall
    rw [if_neg (by omega)]
    rfl
theorem iOrder_ok {k : Nat} (hk : 1000000001 < k) {a b : Bool × List Int} {x y : Int} (ha : RI a x) (hb : RI b y) (hx : ((dg 65536 x.natAbs).length : Int) ≤ 1000000) (hy : ((dg 65536 y.natAbs).length : Int) ≤ 1000000) : brindlewoodref3_Int_Order k a b = some (sgn x y) := by
  obtain ⟨sa, la⟩ := a
  obtain ⟨sb, lb⟩ := b
  obtain ⟨ha1, ha2⟩ := ha
  obtain ⟨hb1, hb2⟩ := hb
  simp only at ha1 ha2 hb1 hb2
  subst ha1 hb1
  unfold brindlewoodref3_Int_Order
  have key : ∀ (s : Bool) (v : Int), (v ≠ 0 → s = decide (v < 0)) → (s && decide (0 < ((dg 65536 v.natAbs).length : Int))) = decide (v < 0) := by
    intro s v hs
    by_cases h0 : v = 0
    · subst h0; cases s <;> rfl
    · have hp := (dg_len_pos (n := v.natAbs) hB16).2 (by omega)
      have hp' : decide (0 < ((dg 65536 v.natAbs).length : Int)) = true := dlt_t (by omega)
      rw [hs h0, hp']; simp
  have ka := key sa x ha2
  have kb := key sb y hb2
  have e : (bif sa then (bif sb then (let c1 := decide (0 < ((dg 65536 x.natAbs).length : Int)); let c2 := decide (0 < ((dg 65536 y.natAbs).length : Int)); some (.inl ((sa, dg 65536 x.natAbs), (sb, dg 65536 y.natAbs), c1, c2))) else (let c3 := decide (0 < ((dg 65536 x.natAbs).length : Int)); some (.inl ((sa, dg 65536 x.natAbs), (sb, dg 65536 y.natAbs), c3, false)))) else (bif sb then (let c4 := decide (0 < ((dg 65536 y.natAbs).length : Int)); some (.inl ((sa, dg 65536 x.natAbs), (sb, dg 65536 y.natAbs), false, c4))) else (some (.inl ((sa, dg 65536 x.natAbs), (sb, dg 65536 y.natAbs), false, false)))) : Option (((Bool × List Int) × (Bool × List Int) × Bool × Bool) ⊕ Int)) = some (.inl ((sa, dg 65536 x.natAbs), (sb, dg 65536 y.natAbs), decide (x < 0), decide (y < 0))) := by
    rw [← ka, ← kb]
    cases sa <;> cases sb <;> simp
  have e' := e
  simp only at e' ⊢
  rw [e']
  simp only [joinB_inl]
  have C1 := Compare_ok (k := k) (x := y.natAbs) (y := x.natAbs) (by omega) (by omega) (by omega)
  have C2 := Compare_ok (k := k) (x := x.natAbs) (y := y.natAbs) (by omega) (by omega) (by omega)
  by_cases h1 : x < 0 <;> by_cases h2 : y < 0
  · simp only [h1, h2, decide_true, cond_true, joinB_inl, C1, C2, Option.bind_some]
    congr 1
    unfold sgn
    split
    · rw [if_pos (by omega)]
    · split
      · rw [if_neg (by omega), if_pos (by omega)]
      · rw [if_neg (by omega), if_neg (by omega)]
  · simp only [h1, h2, decide_true, decide_false, cond_true, cond_false, joinB_inl, C1, C2, Option.bind_some]
    congr 1
    unfold sgn; rw [if_pos (by omega)]
  · simp only [h1, h2, decide_true, decide_false, cond_true, cond_false, joinB_inl, C1, C2, Option.bind_some]
    congr 1
    unfold sgn; rw [if_neg (by omega), if_pos (by omega)]
  · simp only [h1, h2, decide_false, cond_false, joinB_inl, C1, C2, Option.bind_some]
    rw [Int.natAbs_of_nonneg (by omega), Int.natAbs_of_nonneg (by omega)]
end Go.Pl
