/- NaturalMoves: its plain function answers true.  Conditions: limbs within their kind, lists no longer than memory. -/
import Derived.Test.YtoinfmcliglddaaPlN
set_option linter.unusedVariables false
set_option linter.unusedSimpArgs false
namespace Go.Pl
open Go Go.Ev Go.Sh

theorem root_lim {a r : Nat} (ha : a < lim) (h1 : r * r ≤ a) : r < lim := by
  rcases Nat.eq_zero_or_pos r with h | h
  · subst h; omega
  · have := Nat.le_mul_of_pos_left r h; omega

theorem moved_lim {x : Nat} {n : Int} (h : x = 0 ∨ n ≤ 19200 - (dg 2 x).length) (hx : x < lim) : moved x n < lim := by
  unfold moved
  split
  · exact Nat.lt_of_le_of_lt (Nat.div_le_self _ _) hx
  · rename_i hn
    rcases Nat.eq_zero_or_pos x with h0 | h0
    · subst h0; simpa using hx
    · have h2 := h.resolve_left (by omega)
      obtain ⟨m, rfl⟩ := Int.eq_ofNat_of_zero_le (a := n) (by omega)
      rw [natCast_toNat]
      have h3 := dg_lt (b := 2) (by decide) (n := x)
      have h4 : x * 2 ^ m < 2 ^ (dg 2 x).length * 2 ^ m := Nat.mul_lt_mul_of_pos_right h3 (Nat.pow_pos (by decide))
      rw [← Nat.pow_add] at h4
      rw [lim_two]
      have e := e600_eq
      exact Nat.lt_of_lt_of_le h4 (Nat.pow_le_pow_right (by decide) (by omega))

theorem nM_err {k : Nat} (hs : brindlewoodlaw3_sums k = some true) {a : List Int} {n : Int} (h : natural_Valid a = some false) : brindlewoodlaw3_NaturalMoves k a n = some true := by
  unfold brindlewoodlaw3_NaturalMoves
  rw [Bits_no h, Shift_no h, Sqrt_no h, hs, refOk, h]
  simp only [Option.bind_some, Bool.not_true, Bool.not_false, cond_false, cond_true, rAt, eq2]
  rfl

theorem nM_ok {k : Nat} (hk : 100000000000000 < k) (hs : brindlewoodlaw3_sums k = some true) {x : Nat} (hx : x < lim) {n : Int} (hn : -9223372036854775808 ≤ n) (hn' : n ≤ 9223372036854775807) : brindlewoodlaw3_NaturalMoves k (dg 4294967296 x) n = some true := by
  obtain ⟨r, r1, r2⟩ := root_ex x
  have hr := root_lim hx r1
  unfold brindlewoodlaw3_NaturalMoves
  have l1 := len600 hx
  have l2 := len600 hr
  have l3 := bl_lim hx
  have m1 := len16 hx
  have m2 := len16 hr
  have hO := fun z (hz : z < lim) => Of_ok (k := k) (dd32 z) (de32 z) (by have := len600 hz; omega) (by omega)
  rw [Bits_ok hx, Shift_ok hx (by omega) hn hn', Sqrt_ok hx (by omega) r1 r2, hs, refOk, valid_dg' hx, hO x hx]
  simp only [Option.bind_some, Bool.not_true, cond_false]
  rw [Ones_ok (by omega) (by omega)]
  simp only [Option.bind_some, List.length_map, bne_self_eq_false, cond_false, refOk, valid_dg' hr, Bool.not_true, joinB_inl]
  rw [hO r hr]
  simp only [Option.bind_some]
  have hone : brindlewoodref3_Small k 1 = some (dg 65536 1) := Small_ok (k := k) (n := 1) (by decide) (by omega)
  have m3 : (dg 65536 1).length ≤ 1 := dg_len hB16 (by decide)
  rw [hone]
  simp only [Option.bind_some]
  rw [Plus_ok (by omega) (by omega) (by omega)]
  simp only [Option.bind_some]
  have m4 : (dg 65536 (r + 1)).length ≤ 1201 := by
    have h := dg_lt (b := 65536) hB16 (n := r)
    have := Nat.pow_le_pow_right (n := 65536) (by decide) m2
    refine Nat.le_trans (dg_len (m := (dg 65536 r).length + 1) hB16 ?_) (by omega)
    rw [Nat.pow_succ]; omega
  have m5 : (dg 65536 (r * r)).length ≤ 1200 := len16 (Nat.lt_of_le_of_lt r1 hx)
  have m6 : (dg 65536 ((r + 1) * (r + 1))).length ≤ 2402 := by
    have h := dg_lt (b := 65536) hB16 (n := r + 1)
    refine Nat.le_trans (dg_len (m := (dg 65536 (r + 1)).length + (dg 65536 (r + 1)).length) hB16 ?_) (by omega)
    rw [Nat.pow_add]
    exact Nat.mul_lt_mul_of_lt_of_le h (Nat.le_of_lt h) (Nat.pow_pos (by decide))
  rw [Times_ok (by omega) (by omega) (by omega)]
  simp only [Option.bind_some]
  rw [Compare_ok (by omega) (by omega) (by omega)]
  simp only [Option.bind_some]
  have s1 : sgn ((r * r : Nat) : Int) (x : Int) ≤ 0 := by
    generalize r * r = z at r1
    unfold sgn; split
    · decide
    · rw [if_neg (by omega)]; decide
  rw [dlt_f s1, Times_ok (by omega) (by omega) (by omega)]
  simp only [cond_false, Option.bind_some]
  rw [Compare_ok (by omega) (by omega) (by omega)]
  simp only [Option.bind_some]
  have s2 : 0 < sgn (((r + 1) * (r + 1) : Nat) : Int) (x : Int) := by
    generalize (r + 1) * (r + 1) = z at r2
    unfold sgn; rw [if_neg (by omega), if_pos (by omega)]; decide
  rw [dle_f s2]
  simp only [cond_false, joinB_inl]
  -- the end: what was moved
  have fin : (x = 0 ∨ n ≤ 19200 - (dg 2 x).length) → ((brindlewoodref3_Moved k (dg 65536 x) n).bind fun t21 => (brindlewoodlaw3_is k (if x = 0 ∨ n ≤ 19200 - (dg 2 x).length then (dg 4294967296 (moved x n), (0 : Int), (0 : Int)) else ([], 14, -1)).1 (if x = 0 ∨ n ≤ 19200 - (dg 2 x).length then (dg 4294967296 (moved x n), (0 : Int), (0 : Int)) else ([], 14, -1)).2 t21 (0, 0)).bind fun t22 => some t22) = some true := by
    intro h
    have hm := moved_lim h hx
    have m7 := len16 hm
    rw [Moved_ok (by omega) (by omega) hn (h.imp id (fun h => by omega))]
    simp only [Option.bind_some]
    rw [is_ok (z := moved x n) (by omega) (by omega) (by rw [if_pos h, if_pos hm])]
    rfl
  rcases Nat.eq_zero_or_pos x with h | h
  · subst h
    have : decide (0 < ((dg 2 0).length : Int)) = false := by rfl
    rw [this]
    simp only [cond_false]
    exact fin (.inl rfl)
  · have hb := (dg_len_pos (b := 2) (by decide)).2 h
    rw [dlt_t (by omega), w64_id (by omega) (by omega)]
    simp only [cond_true]
    by_cases hbig : 19200 - ((dg 2 x).length : Int) < n
    · rw [dlt_t hbig, if_neg (by omega)]
      rfl
    · rw [dlt_f (by omega)]
      simp only [cond_false]
      exact fin (.inr (by omega))

theorem naturalMoves_plain {a : List Int} {n : Int} (ha : Wf (.list (.int .u32)) a) (hn : Wf (.int .i64) n) : brindlewoodlaw3_NaturalMoves 1000000000000000000 a n = some true := by
  obtain ⟨da, la⟩ := u32_dig ha
  have h1 : (-9223372036854775808 : Int) ≤ n ∧ n ≤ 9223372036854775807 := hn
  rcases natural_cases da la with ⟨x, hx, rfl⟩ | h
  · exact nM_ok (by decide) sums_ok hx h1.1 h1.2
  · exact nM_err sums_ok h
end Go.Pl
