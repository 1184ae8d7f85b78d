/- Powers of integers.  Conditions: those that each theorem names. -/
import Derived.Test.YtjodgimhfafecaaPiG
import Derived.Test.YtjodgimhfafecaaPiH
set_option linter.unusedVariables false
set_option linter.unusedSimpArgs false
namespace Go.Pl
open Go Go.Ev Go.Sh
theorem Equal_l0 (k : Nat) {a b : List Int} (hl : a.length = b.length) (hbig : (a.length : Int) ≤ 1000000000000000000) : ∀ (n i : Nat), i ≤ a.length → a.length - i < n → slices_Equal_uint32uint32.l0 k n a b a.length i = some (if a.drop i = b.drop i then .inl () else .inr false) := by
  intro n
  induction n with
  | zero => intro i _ h; omega
  | succ n ih =>
    intro i h1 h2
    simp only [slices_Equal_uint32uint32.l0, slices_Equal_uint32uint32.b0]
    by_cases hi : i < a.length
    · have e1 : w64 ((i : Int) + 1) = ((i + 1 : Nat) : Int) := by rw [w64_id (by omega) (by omega)]; omega
      simp (disch := omega) only [dlt_t, cond_true, inR_t, rd_nat, e1]
      rw [drop_getD hi, drop_getD (l := b) (by omega)]
      by_cases hr : a.getD i 0 = b.getD i 0
      · rw [bne_f hr, cond_false, ih (i + 1) (by omega) (by omega), hr]
        simp only [List.cons.injEq, true_and]
      · rw [bne_t hr, cond_true, if_neg (fun h => hr (List.cons.inj h).1)]
    · simp (disch := omega) only [dlt_f, cond_false]
      rw [List.drop_eq_nil_of_le (by omega), List.drop_eq_nil_of_le (by omega)]; rfl
theorem Equal_ok {k : Nat} {a b : List Int} (ha : (a.length : Int) ≤ 1000000000) (hk : 1000000001 < k) : slices_Equal_uint32uint32 k a b = some (decide (a = b)) := by
  unfold slices_Equal_uint32uint32
  by_cases h : a.length = b.length
  · have h0 : ((a.length : Int) != (b.length : Int)) = false := bne_f (by omega)
    have := Equal_l0 k h (by omega) k 0 (by omega) (by omega)
    have h' : slices_Equal_uint32uint32.l0 k k a b a.length 0 = _ := this
    rw [h0, h']
    simp only [List.drop_zero, cond_false]
    by_cases hab : a = b
    · rw [if_pos hab, decide_eq_true hab]; rfl
    · rw [if_neg hab, decide_eq_false hab]; rfl
  · have h0 : ((a.length : Int) != (b.length : Int)) = true := bne_t (by omega)
    rw [h0, decide_eq_false (fun e => h (by rw [e]))]; rfl
theorem pow_sign {x : Int} {e : Nat} (h : x ^ e ≠ 0) : decide (x ^ e < 0) = (decide (x < 0) && (e % 2 == 1)) := by
  induction e with
  | zero => simp
  | succ e ih =>
    have h1 : x ^ e ≠ 0 := fun h2 => h (by rw [Int.pow_succ, h2, Int.zero_mul])
    have h2 : x ≠ 0 := fun h3 => h (by rw [Int.pow_succ, h3, Int.mul_zero])
    have h3 := mul_sign (x := x ^ e) (y := x) (by rw [← Int.pow_succ]; exact h)
    rw [Int.pow_succ, ← h3, ih h1]
    rcases Nat.mod_two_eq_zero_or_one e with h4 | h4
    · have : (e + 1) % 2 = 1 := by omega
      rw [h4, this]; cases decide (x < 0) <;> rfl
    · have : (e + 1) % 2 = 0 := by omega
      rw [h4, this]; cases decide (x < 0) <;> rfl
theorem pow_abs (x : Int) (e : Nat) : (x ^ e).natAbs = x.natAbs ^ e := Int.natAbs_pow x e
theorem Pow_l0 (k : Nat) (hk : 20000000000 < k) {m e : Nat} (hm : m < ilim) (he : (e : Int) ≤ 10000) (s : Bool) (r : Bool × List Int) (f : Int × Int) : ∀ (n i : Nat), e - i < n → i ≤ e → m ^ i < ilim →
    integer_Pow.l0 k n e (s, dg 4294967296 m) r f (dg 4294967296 (m ^ i)) e i = some (if m ^ e < ilim then .inl ((e : Int), (s, dg 4294967296 m), r, f, dg 4294967296 (m ^ e)) else .inr ((false, []), 14, -1)) := by
  intro n
  induction n with
  | zero => intro i h; omega
  | succ n ih =>
    intro i h1 h2 hi
    simp only [integer_Pow.l0, integer_Pow.b0]
    by_cases hie : i < e
    · have e1 : w64 ((i : Int) + 1) = ((i + 1 : Nat) : Int) := by rw [w64_id (by omega) (by omega)]; omega
      have hl := Nat.lt_of_lt_of_le (Nat.mul_lt_mul'' hi hm) ilim_sq
      rw [dlt_t (by omega), Mul_ok (ilim_lim hi) (ilim_lim hm) (by omega), if_pos hl, e1]
      simp only [cond_true, Option.bind_some, bne_self_eq_false, cond_false]
      have hps : m ^ i * m = m ^ (i + 1) := (Nat.pow_succ ..).symm
      by_cases hbig : m ^ i * m < ilim
      · have l3 := ilim_iff.2 hbig
        rw [dlt_f (by omega), Equal_ok (by omega) (by omega)]
        simp only [cond_false, Option.bind_some]
        by_cases hq : m ^ i * m = m ^ i
        · rw [hq, decide_eq_true rfl]
          simp only [cond_true]
          have hz : m ^ e = m ^ i := by
            rcases Nat.eq_zero_or_pos (m ^ i) with h0 | h0
            · have hm0 : m = 0 := (Nat.pow_eq_zero.1 h0).1
              have hi0 : i ≠ 0 := (Nat.pow_eq_zero.1 h0).2
              rw [hm0, Nat.zero_pow (by omega), Nat.zero_pow (by omega)]
            · have hm1 : m = 1 := Nat.eq_of_mul_eq_mul_left h0 (by rw [hq, Nat.mul_one])
              rw [hm1, Nat.one_pow, Nat.one_pow]
          rw [hz, if_pos hi]
        · rw [decide_eq_false (fun h => hq (dg_inj hB32 h))]
          simp only [cond_false]
          rw [hps]
          exact ih (i + 1) (by omega) (by omega) (by rw [← hps]; exact hbig)
      · have l3 : ¬ (dg 4294967296 (m ^ i * m)).length ≤ 128 := fun h => hbig (ilim_iff.1 h)
        rw [dlt_t (by omega)]
        have hm0 : 0 < m := by
          rcases Nat.eq_zero_or_pos m with h | h
          · rw [h, Nat.mul_zero] at hbig; omega
          · exact h
        have := Nat.pow_le_pow_right (n := m) hm0 (show i + 1 ≤ e by omega)
        rw [if_neg (by omega)]
        rfl
    · have : i = e := by omega
      subst this
      rw [dlt_f (by omega), if_pos hi]
      rfl
theorem iPow_ok {k : Nat} (hk : 20000000000 < k) {x e : Int} (hx : x.natAbs < ilim) : integer_Pow k (iz x) e = some (if e < 0 ∨ 10000 < e then ((false, []), 4, -2) else ires (x ^ e.toNat)) := by
  unfold integer_Pow
  rw [check1 (by omega) hx]
  simp only [Option.bind_some, bne_self_eq_false, cond_false]
  by_cases h1 : e < 0
  · rw [dlt_t h1, if_pos (.inl h1)]; rfl
  · rw [dlt_f (by omega)]
    by_cases h2 : 10000 < e
    · rw [dlt_t h2, if_pos (.inr h2)]; rfl
    · rw [dlt_f (by omega), if_neg (by omega)]
      obtain ⟨n, rfl⟩ := Int.eq_ofNat_of_zero_le (show 0 ≤ e by omega)
      simp only [cond_false, joinB_inl, iz, Int.toNat_natCast]
      have h1 : (1 : Nat) < ilim := ilim_iff.1 (by decide)
      have e2 : [(1 : Int)] = dg 4294967296 (x.natAbs ^ 0) := by rw [Nat.pow_zero, dg_pos hB32 (by decide)]; rfl
      have h := Pow_l0 k hk (m := x.natAbs) (e := n) hx (by omega) (decide (x < 0)) (false, []) (0, 0) k 0 (by omega) (by omega) (by rw [Nat.pow_zero]; exact h1)
      rw [← e2] at h
      have h' : integer_Pow.l0 k k n (decide (x < 0), dg 4294967296 x.natAbs) (false, []) (0, 0) [1] n 0 = _ := h
      rw [h', ← pow_abs]
      by_cases hf : (x ^ n).natAbs < ilim
      · rw [if_pos hf, joinB_inl]
        have e3 : (Int.tmod (n : Int) 2 == 1) = (n % 2 == 1) := by
          rw [tmod_nn (by omega)]
          rcases Nat.mod_two_eq_zero_or_one n with h4 | h4
          · rw [h4, show (n : Int) % 2 = 0 by omega]; rfl
          · rw [h4, show (n : Int) % 2 = 1 by omega]; rfl
        rw [e3]
        by_cases hn : x < 0
        · have hs := signed_ok (s := n % 2 == 1) (v := x ^ n) (fun h => by rw [pow_sign h, decide_eq_true hn]; rfl)
          simp only [hn, decide_true, cond_true, hs, Option.bind_some]
        · have hs := signed_ok (s := false) (v := x ^ n) (fun h => by rw [pow_sign h, decide_eq_false hn]; rfl)
          simp only [hn, decide_false, cond_false, hs, Option.bind_some]
      · rw [if_neg hf]
        unfold ires
        rw [if_neg hf]
        rfl
theorem iPow_no {k : Nat} (hk : 2000 < k) {a : Bool × List Int} {e : Int} (h : integer_Valid a = some false) : integer_Pow k a e = some ((false, []), 6, -1) := by
  unfold integer_Pow
  rw [check_ok' hk (fun z hz => by simp only [List.mem_singleton] at hz; subst hz; exact .inr h) (by simp), badI_f _ _ h]
  rfl
theorem Fits_ok {c : Bool × List Int} {v : Int} (hc : RI c v) : brindlewoodref3_Int_Fits c 128 = some (decide (v.natAbs < ilim)) := by
  unfold brindlewoodref3_Int_Fits
  have hw : w64 (2 * 128) = 256 := by decide
  rw [hw, hc.1]
  show some (decide _) = _
  congr 1
  apply decide_eq_decide.2
  rw [← ilim16_iff]; omega
theorem Raised_l0 (k : Nat) (hk : 100000000000000 < k) {a : Bool × List Int} {x : Int} (ha : RI a x) (hx : x.natAbs < ilim) (r : Bool × List Int) : ∀ (n e i : Nat) (c : Bool × List Int), e < n → (e : Int) ≤ 10000 → RI c (x ^ i) → (x ^ i).natAbs < ilim →
    (∃ c', brindlewoodref3_Int_Raised.l0 k n e a r c = some (.inl (r, c')) ∧ RI c' (x ^ (i + e)) ∧ (x ^ (i + e)).natAbs < ilim) ∨ (brindlewoodref3_Int_Raised.l0 k n e a r c = some (.inr ((false, []), false)) ∧ ∃ j, j ≤ i + e ∧ ¬ (x ^ j).natAbs < ilim) := by
  intro n
  induction n with
  | zero => intro e i c h; omega
  | succ n ih =>
    intro e i c h1 h2 hc hl
    simp only [brindlewoodref3_Int_Raised.l0, brindlewoodref3_Int_Raised.b0]
    rcases Nat.eq_zero_or_pos e with h0 | h0
    · subst h0
      rw [dlt_f (by omega)]
      exact .inl ⟨c, rfl, hc, hl⟩
    · have lx := ilim16_iff.2 hx
      have lc := ilim16_iff.2 hl
      have e1 : w64 ((e : Int) - 1) = ((e - 1 : Nat) : Int) := by rw [w64_id (by omega) (by omega)]; omega
      obtain ⟨t, t1, t2⟩ := rTimes_ok hk hc ha (by omega) (by omega)
      rw [← Int.pow_succ] at t2
      rw [dlt_t (by omega), t1, e1]
      simp only [cond_true, Option.bind_some]
      rw [Fits_ok t2]
      simp only [Option.bind_some]
      by_cases hf : (x ^ (i + 1)).natAbs < ilim
      · rw [decide_eq_true hf]
        simp only [Bool.not_true, cond_false]
        have he : i + 1 + (e - 1) = i + e := by omega
        have := ih (e - 1) (i + 1) t (by omega) (by omega) t2 hf
        rw [he] at this
        exact this
      · rw [decide_eq_false hf]
        simp only [Bool.not_false, cond_true]
        exact .inr ⟨trivial, i + 1, by omega, hf⟩
theorem Raised_ok {k : Nat} (hk : 100000000000000 < k) {a : Bool × List Int} {x : Int} (ha : RI a x) (hx : x.natAbs < ilim) {e : Nat} (he : (e : Int) ≤ 10000) :
    (∃ c, brindlewoodref3_Int_Raised k a e = some (c, true) ∧ RI c (x ^ e) ∧ (x ^ e).natAbs < ilim) ∨ (brindlewoodref3_Int_Raised k a e = some ((false, []), false) ∧ ¬ (x ^ e).natAbs < ilim) := by
  obtain ⟨sa, la⟩ := a
  have ha' := ha
  obtain ⟨ha1, ha2⟩ := ha
  simp only at ha1 ha2
  subst ha1
  have h1lim : (1 : Nat) < ilim := ilim_iff.1 (by decide)
  have hS' := Small_ok (k := k) (n := 1) (by omega) (by omega)
  have hS : brindlewoodref3_Small k 1 = some (dg 65536 1) := hS'
  have lx := ilim16_iff.2 hx
  have l1 : ((dg 65536 1).length : Int) ≤ 1000000000 := by decide
  have hC := Compare_ok (k := k) (x := x.natAbs) (y := 1) (by omega) l1 (by omega)
  have i1 : RI (false, dg 65536 1) 1 := by
    constructor
    · rfl
    · intro _; rfl
  unfold brindlewoodref3_Int_Raised
  by_cases h0 : x = 0 ∧ 0 < e
  · obtain ⟨h0, he0⟩ := h0
    subst h0
    have : (0 : Int) ^ e = 0 := Int.zero_pow (by omega)
    have hd : decide ((0 : Int) < (e : Int)) = true := dlt_t (by omega)
    rw [this]
    refine .inl ⟨(false, []), ?_, ⟨rfl, fun h => absurd rfl h⟩, by show 0 < ilim; omega⟩
    have e1 : (((dg 65536 (0 : Int).natAbs).length : Int) == 0) = true := rfl
    simp only [e1, cond_true, hd]
    rfl
  · have hj : (bif (((dg 65536 x.natAbs).length : Int) == 0) then (bif decide (0 < (e : Int)) then (some (.inr ((false, []), true))) else (some (.inl ((e : Int), (sa, dg 65536 x.natAbs), (false, []))))) else (some (.inl ((e : Int), (sa, dg 65536 x.natAbs), (false, [])))) : Option ((Int × (Bool × List Int) × Bool × List Int) ⊕ ((Bool × List Int) × Bool))) = some (.inl ((e : Int), (sa, dg 65536 x.natAbs), (false, []))) := by
      by_cases hx0 : x = 0
      · have he0 : e = 0 := by
          rcases Nat.eq_zero_or_pos e with h | h
          · exact h
          · exact absurd ⟨hx0, h⟩ h0
        have : decide ((0 : Int) < (e : Int)) = false := dlt_f (by omega)
        rw [this]
        cases (((dg 65536 x.natAbs).length : Int) == 0) <;> rfl
      · have hp := (dg_len_pos (n := x.natAbs) hB16).2 (by omega)
        rw [beq_f (by omega)]; rfl
    simp only at hj ⊢
    rw [hj]
    simp only [joinB_inl, hS, Option.bind_some, hC]
    by_cases hone : x.natAbs = 1
    · have hs : sgn (x.natAbs : Int) ((1 : Nat) : Int) = 0 := by rw [hone]; rfl
      rw [hs]
      simp only [beq_self_eq_true, cond_true, Option.bind_some]
      have hx0 : x ≠ 0 := by omega
      have hsa := ha2 hx0
      have hpa : (x ^ e).natAbs = 1 := by rw [pow_abs, hone, Nat.one_pow]
      have e3 : (Int.tmod (e : Int) 2 == 1) = (e % 2 == 1) := by
        rw [tmod_nn (by omega)]
        rcases Nat.mod_two_eq_zero_or_one e with h4 | h4
        · rw [h4, show (e : Int) % 2 = 0 by omega]; rfl
        · rw [h4, show (e : Int) % 2 = 1 by omega]; rfl
      have hps := pow_sign (x := x) (e := e) (by omega)
      rw [e3]
      cases hsa' : sa with
      | true =>
        refine .inl ⟨(e % 2 == 1, dg 65536 1), rfl, ⟨by rw [hpa], fun h => ?_⟩, by omega⟩
        show (e % 2 == 1) = _
        rw [hps, ← hsa, hsa']; rfl
      | false =>
        refine .inl ⟨(false, dg 65536 1), rfl, ⟨by rw [hpa], fun h => ?_⟩, by omega⟩
        show false = _
        rw [hps, ← hsa, hsa']; rfl
    · have hs : sgn (x.natAbs : Int) ((1 : Nat) : Int) ≠ 0 := by unfold sgn; split; decide; rw [if_pos (by omega)]; decide
      rw [beq_f hs]
      simp only [cond_false]
      have h := Raised_l0 k hk ha' hx (false, []) k e 0 (false, dg 65536 1) (by omega) he (by rw [Int.pow_zero]; exact i1) (by rw [Int.pow_zero]; exact h1lim)
      rcases h with ⟨c, g1, g2, g3⟩ | ⟨g1, j, g2, g3⟩
      · rw [g1]
        rw [Nat.zero_add] at g2 g3
        exact .inl ⟨c, rfl, g2, g3⟩
      · rw [g1]
        refine .inr ⟨rfl, fun h => g3 ?_⟩
        rw [pow_abs] at h ⊢
        rcases Nat.eq_zero_or_pos x.natAbs with hz | hz
        · rw [hz]
          rcases Nat.eq_zero_or_pos j with hj0 | hj0
          · rw [hj0, Nat.pow_zero]; exact h1lim
          · rw [Nat.zero_pow hj0]; omega
        · have := Nat.pow_le_pow_right (n := x.natAbs) hz (show j ≤ e by omega)
          omega
end Go.Pl
