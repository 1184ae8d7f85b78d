/- Slices: the program's functions and the reference's.  Conditions: those that each theorem names. -/
import Derived.Test.YtpomnejenhgpkaaSlA
import Derived.Test.YtpomnejenhgpkaaPiD
set_option linter.unusedVariables false
set_option linter.unusedSimpArgs false
set_option maxHeartbeats 0
namespace Go.Pl
open Go Go.Ev Go.Sh
theorem bounded_ok {k : Nat} (hk : 2000 < k) {v lo hi : Int} (hv : v.natAbs < ilim) (h1 : -9223372036854775808 ≤ lo) (h2 : hi ≤ 9223372036854775807) (h : lo ≤ hi) : slicing_bounded k (iz v) lo hi = some (clamp v lo hi) := by
  unfold slicing_bounded
  rw [iSmall_ok hk hv]
  simp only [Option.bind_some]
  unfold ismall
  by_cases c : -9223372036854775808 ≤ v ∧ v ≤ 9223372036854775807
  · rw [if_pos c]
    simp only [bne_self_eq_false, cond_false]
    rw [clamp_minmax h]
  · rw [if_neg c]
    simp only [show ((14 : Int) != 0) = true from rfl, cond_true]
    by_cases hn : v < 0
    · have e : (iz v).1 = true := decide_eq_true hn
      rw [e]
      simp only [cond_true]
      unfold clamp; rw [if_pos (by omega)]
    · have e : (iz v).1 = false := decide_eq_false hn
      rw [e]
      simp only [cond_false]
      unfold clamp; rw [if_neg (by omega), if_pos (by omega)]
theorem small16 {v : Int} (h : v.natAbs < ilim) : ((dg 65536 v.natAbs).length : Int) ≤ 256 := by have := ilim16_iff.2 h; omega
theorem num_RI {k : Nat} (hk : 1000000000 < k) {e : Int} (h1 : -1000000 ≤ e) (h2 : e ≤ 1000000) : brindlewoodref3_Number k e = some (decide (e < 0), dg 65536 e.natAbs) ∧ RI (decide (e < 0), dg 65536 e.natAbs) e ∧ ((dg 65536 e.natAbs).length : Int) ≤ 2 := by
  refine ⟨rNumber_ok hk (by omega) (by omega), ⟨rfl, fun _ => rfl⟩, ?_⟩
  have : (dg 65536 e.natAbs).length ≤ 2 := dg_len hB16 (Nat.lt_of_le_of_lt (show e.natAbs ≤ 1000000 by omega) (by decide))
  omega
theorem near_l0 (k : Nat) (hk : 1000000001 < k) {c : Bool × List Int} {v : Int} (hc : RI c v) (hl : ((dg 65536 v.natAbs).length : Int) ≤ 1000000) (hv : v ≤ 1000000) : ∀ (n : Nat) (i : Int), -1000000 ≤ i → i ≤ v → (v - i).toNat < n → brindlewoodref3_near.l0 k n c i = some (.inl v) := by
  intro n
  induction n with
  | zero => intro i _ _ h; omega
  | succ n ih =>
    intro i h1 h2 h3
    obtain ⟨e1, e2, e3⟩ := num_RI (k := k) (by omega) (e := i) h1 (by omega)
    simp only [brindlewoodref3_near.l0, brindlewoodref3_near.b0]
    rw [e1]
    simp only [Option.bind_some]
    rw [iOrder_ok (by omega) hc e2 hl (by omega)]
    simp only [Option.bind_some]
    by_cases h4 : v = i
    · have : (sgn v i != 0) = false := by unfold sgn; rw [if_neg (by omega), if_neg (by omega)]; rfl
      rw [this, h4]; rfl
    · have : (sgn v i != 0) = true := by unfold sgn; rw [if_neg (by omega), if_pos (by omega)]; rfl
      have e4 : w64 (i + 1) = i + 1 := w64_id (by omega) (by omega)
      rw [this, e4]
      exact ih (i + 1) (by omega) (by omega) (by omega)
theorem near_ok {k : Nat} (hk : 1000000001 < k) {c : Bool × List Int} {v lo hi : Int} (hc : RI c v) (hl : ((dg 65536 v.natAbs).length : Int) ≤ 1000000) (h1 : -1000000 ≤ lo) (h2 : hi ≤ 1000000) (h : lo ≤ hi) : brindlewoodref3_near k c lo hi = some (clamp v lo hi) := by
  obtain ⟨e1, e2, e3⟩ := num_RI (k := k) (by omega) (e := lo) h1 (by omega)
  obtain ⟨f1, f2, f3⟩ := num_RI (k := k) (by omega) (e := hi) (by omega) h2
  unfold brindlewoodref3_near
  rw [e1, f1]
  simp only [Option.bind_some]
  rw [iOrder_ok (by omega) hc e2 hl (by omega), iOrder_ok (by omega) hc f2 hl (by omega)]
  simp only [Option.bind_some]
  by_cases c1 : v ≤ lo
  · have : decide (sgn v lo ≤ 0) = true := by
      unfold sgn
      by_cases h4 : v < lo
      · rw [if_pos h4]; rfl
      · rw [if_neg h4, if_neg (by omega)]; rfl
    rw [this]
    simp only [cond_true]
    have : clamp v lo hi = lo := by unfold clamp; (repeat' split) <;> omega
    rw [this]
  · have : decide (sgn v lo ≤ 0) = false := by unfold sgn; rw [if_neg (by omega), if_pos (by omega)]; rfl
    rw [this]
    simp only [cond_false]
    by_cases c2 : hi ≤ v
    · have : decide (0 ≤ sgn v hi) = true := by
        unfold sgn; rw [if_neg (by omega)]; split <;> rfl
      rw [this]
      simp only [cond_true]
      have : clamp v lo hi = hi := by unfold clamp; (repeat' split) <;> omega
      rw [this]
    · have : decide (0 ≤ sgn v hi) = false := by unfold sgn; rw [if_pos (by omega)]; rfl
      rw [this]
      simp only [cond_false]
      rw [near_l0 k hk hc hl (by omega) k lo h1 (by omega) (by omega)]
      have : clamp v lo hi = v := by unfold clamp; (repeat' split) <;> omega
      rw [this]; rfl
def fromEnd (v n : Int) : Int := if v < 0 then v + n else v
theorem len_fromEnd {v n : Int} (hv : v.natAbs < ilim) (h0 : 0 ≤ n) (hn : n ≤ 4000) : ((dg 65536 (fromEnd v n).natAbs).length : Int) ≤ 1000000 := by
  have h3 : (dg 65536 (v.natAbs + 4000)).length ≤ 2 * e128 + 1 := dg_len hB16 (by
    rw [Nat.pow_succ, ← ilim16]; omega)
  rw [e128_eq] at h3
  have h4 : (dg 65536 (fromEnd v n).natAbs).length ≤ (dg 65536 (v.natAbs + 4000)).length := len_le_of_le hB16 (by unfold fromEnd; split <;> omega)
  omega
theorem rfrom_ok {k : Nat} (hk : 100000000000000 < k) {v n : Int} (hv : v.natAbs < ilim) (h0 : 0 ≤ n) (hn : n ≤ 4000) : ∃ c, RI c (fromEnd v n) ∧ ((v < 0 ∧ (brindlewoodref3_Number k n).bind (fun t => brindlewoodref3_Int_Plus k (decide (v < 0), dg 65536 v.natAbs) t) = some c) ∨ (¬ v < 0 ∧ c = (decide (v < 0), dg 65536 v.natAbs))) := by
  by_cases h : v < 0
  · obtain ⟨e1, e2, e3⟩ := num_RI (k := k) (by omega) (e := n) (by omega) (by omega)
    have := small16 hv
    obtain ⟨c, f1, f2⟩ := rPlus_ok hk (a := (decide (v < 0), dg 65536 v.natAbs)) (x := v) ⟨rfl, fun _ => rfl⟩ e2 (by omega) (by omega)
    refine ⟨c, ?_, .inl ⟨h, ?_⟩⟩
    · unfold fromEnd; rw [if_pos h]; exact f2
    · rw [e1]; exact f1
  · exact ⟨_, by unfold fromEnd; rw [if_neg h]; exact ⟨rfl, fun _ => rfl⟩, .inr ⟨h, rfl⟩⟩
theorem endAt_ok {k : Nat} (hk : 100000000000000 < k) {v n lo hi : Int} (hv : v.natAbs < ilim) (h0 : 0 ≤ n) (hn : n ≤ 4000) (h1 : -1000000 ≤ lo) (h2 : hi ≤ 1000000) (h : lo ≤ hi) : brindlewoodref3_endAt k (iz v) n lo hi = some (clamp (fromEnd v n) lo hi) := by
  obtain ⟨c, hc, hor⟩ := rfrom_ok hk hv h0 hn
  have hl := len_fromEnd hv h0 hn
  unfold brindlewoodref3_endAt
  rw [IntOf_ok (by omega) hv]
  simp only [Option.bind_some]
  rcases hor with ⟨hneg, he⟩ | ⟨hneg, he⟩
  · obtain ⟨e1, _, _⟩ := num_RI (k := k) (by omega) (e := n) (by omega) (by omega)
    rw [e1, Option.bind_some] at he
    rw [decide_eq_true hneg] at he ⊢
    simp only [cond_true, e1, Option.bind_some, he]
    rw [near_ok (by omega) hc hl h1 h2 h]; rfl
  · subst he
    rw [decide_eq_false hneg] at hc ⊢
    simp only [cond_false]
    rw [near_ok (by omega) hc hl h1 h2 h]; rfl
theorem end_ok {k : Nat} (hk : 2000 < k) {v n lo hi : Int} (hv : v.natAbs < ilim) (h0 : 0 ≤ n) (hn : n ≤ 4000) (h1 : -1 ≤ lo) (h2 : hi ≤ n) (h : lo ≤ hi) : slicing_end k (iz v) n lo hi = some (clamp (fromEnd v n) lo hi) := by
  have e1 : w64 (w64 (0 - n) - 1) = -n - 1 := by rw [w64_id (n := 0 - n) (by omega) (by omega), w64_id (by omega) (by omega)]; omega
  unfold slicing_end
  rw [e1, bounded_ok hk hv (by omega) (by omega) (by omega)]
  simp only [Option.bind_some]
  obtain ⟨r1, r2⟩ := clamp_rng (v := v) (lo := -n - 1) (hi := n) (by omega)
  by_cases c : clamp v (-n - 1) n < 0
  · rw [decide_eq_true c]
    simp only [cond_true]
    rw [w64_id (by omega) (by omega), clamp_minmax h]
    have : clamp (clamp v (-n - 1) n + n) lo hi = clamp (fromEnd v n) lo hi := by
      unfold clamp fromEnd at *; (repeat' split) <;> (repeat' split at c) <;> omega
    rw [this]
  · rw [decide_eq_false c]
    simp only [cond_false]
    rw [clamp_minmax h]
    have : clamp (clamp v (-n - 1) n) lo hi = clamp (fromEnd v n) lo hi := by
      unfold clamp fromEnd at *; (repeat' split) <;> (repeat' split at c) <;> omega
    rw [this]
def posOf (v n : Int) : Int × Int × Int := if 0 ≤ fromEnd v n ∧ fromEnd v n < n then (fromEnd v n, 0, 0) else (0, 4, -1)
theorem sIndex_ok {k : Nat} (hk : 2000 < k) {v n : Int} (hv : v.natAbs < ilim) (hn : -9223372036854775808 ≤ n ∧ n ≤ 9223372036854775807) : slicing_Index k (iz v) n = some (if n < 0 ∨ 4000 < n then (0, 4, -2) else posOf v n) := by
  have hat : ∀ a b : Int, slicing_at a b = some (a, b) := fun _ _ => rfl
  unfold slicing_Index
  rw [iz_valid hv]
  simp only [Option.bind_some, Bool.not_true, cond_false, hat]
  by_cases c1 : n < 0
  · rw [decide_eq_true c1, if_pos (.inl c1)]; rfl
  · rw [decide_eq_false c1]
    simp only [cond_false]
    by_cases c2 : 4000 < n
    · rw [decide_eq_true c2, if_pos (.inr c2)]; rfl
    · rw [decide_eq_false c2, if_neg (by omega)]
      simp only [cond_false, joinB_inl]
      have e1 : w64 (w64 (0 - n) - 1) = -n - 1 := by rw [w64_id (n := 0 - n) (by omega) (by omega), w64_id (by omega) (by omega)]; omega
      rw [e1, bounded_ok hk hv (by omega) (by omega) (by omega)]
      simp only [Option.bind_some]
      obtain ⟨r1, r2⟩ := clamp_rng (v := v) (lo := -n - 1) (hi := n) (by omega)
      -- behind the wrap
      have fin : ∀ j : Int, ((0 ≤ j ∧ j < n) ↔ (0 ≤ fromEnd v n ∧ fromEnd v n < n)) → ((0 ≤ j ∧ j < n) → j = fromEnd v n) → (bif decide (j < 0) then some ((0 : Int), (4 : Int), (-1 : Int)) else (bif decide (n ≤ j) then some ((0 : Int), (4 : Int), (-1 : Int)) else some (j, (0 : Int), (0 : Int)))) = some (posOf v n) := by
        intro j h1 h2
        unfold posOf
        by_cases d1 : j < 0
        · rw [decide_eq_true d1, if_neg (fun h => by have := h1.2 h; omega)]; rfl
        · rw [decide_eq_false d1]
          simp only [cond_false]
          by_cases d2 : n ≤ j
          · rw [decide_eq_true d2, if_neg (fun h => by have := h1.2 h; omega)]; rfl
          · rw [decide_eq_false d2, if_pos (h1.1 ⟨by omega, by omega⟩), h2 ⟨by omega, by omega⟩]; rfl
      by_cases c : clamp v (-n - 1) n < 0
      · rw [decide_eq_true c]
        simp only [cond_true, joinB_inl]
        rw [w64_id (by omega) (by omega)]
        refine fin _ ?_ ?_
        · unfold clamp fromEnd at *; constructor <;> intro h <;> (repeat' split at h) <;> (repeat' split at c) <;> (repeat' split) <;> omega
        · unfold clamp fromEnd at *; intro h; (repeat' split at h) <;> (repeat' split at c) <;> (repeat' split) <;> omega
      · rw [decide_eq_false c]
        simp only [cond_false, joinB_inl]
        refine fin _ ?_ ?_
        · unfold clamp fromEnd at *; constructor <;> intro h <;> (repeat' split at h) <;> (repeat' split at c) <;> (repeat' split) <;> omega
        · unfold clamp fromEnd at *; intro h; (repeat' split at h) <;> (repeat' split at c) <;> (repeat' split) <;> omega
theorem Indexed_ok {k : Nat} (hk : 100000000000000 < k) {v n : Int} (hv : v.natAbs < ilim) (h0 : 0 ≤ n) (hn : n ≤ 4000) : brindlewoodref3_Indexed k (iz v) n = some (if 0 ≤ fromEnd v n ∧ fromEnd v n < n then (fromEnd v n, true) else (0, false)) := by
  obtain ⟨c, hc, hor⟩ := rfrom_ok hk hv h0 hn
  have hl := len_fromEnd hv h0 hn
  obtain ⟨e1, e2, e3⟩ := num_RI (k := k) (by omega) (e := n) (by omega) (by omega)
  have ho := iOrder_ok (k := k) (by omega) hc e2 hl (by omega)
  -- behind the sum
  have fin : (bif c.1 then (bif decide (0 < (c.2.length : Int)) then (some ((0 : Int), false)) else ((brindlewoodref3_Number k n).bind fun t5 => (brindlewoodref3_Int_Order k c t5).bind fun t6 => bif decide (0 ≤ t6) then (some (0, false)) else ((brindlewoodref3_near k c 0 n).bind fun t7 => some (t7, true)))) else ((brindlewoodref3_Number k n).bind fun t8 => (brindlewoodref3_Int_Order k c t8).bind fun t9 => bif decide (0 ≤ t9) then (some (0, false)) else ((brindlewoodref3_near k c 0 n).bind fun t10 => some (t10, true)))) = some (if 0 ≤ fromEnd v n ∧ fromEnd v n < n then (fromEnd v n, true) else (0, false)) := by
    have body : 0 ≤ fromEnd v n → ((brindlewoodref3_Number k n).bind fun t8 => (brindlewoodref3_Int_Order k c t8).bind fun t9 => bif decide (0 ≤ t9) then (some ((0 : Int), false)) else ((brindlewoodref3_near k c 0 n).bind fun t10 => some (t10, true))) = some (if 0 ≤ fromEnd v n ∧ fromEnd v n < n then (fromEnd v n, true) else (0, false)) := by
      intro hj
      rw [e1]
      simp only [Option.bind_some]
      rw [ho]
      simp only [Option.bind_some]
      by_cases hlt : fromEnd v n < n
      · have : decide (0 ≤ sgn (fromEnd v n) n) = false := by unfold sgn; rw [if_pos hlt]; rfl
        rw [this, if_pos ⟨hj, hlt⟩]
        simp only [cond_false]
        rw [near_ok (by omega) hc hl (by omega) (by omega) h0]
        have : clamp (fromEnd v n) 0 n = fromEnd v n := by unfold clamp; (repeat' split) <;> omega
        rw [this]; rfl
      · have : decide (0 ≤ sgn (fromEnd v n) n) = true := by unfold sgn; rw [if_neg hlt]; split <;> rfl
        rw [this, if_neg (fun h => hlt h.2)]; rfl
    by_cases hz : fromEnd v n = 0
    · have hlen : decide (0 < (c.2.length : Int)) = false := by rw [hc.1, hz]; rfl
      rw [hlen]
      simp only [cond_false]
      cases c.1 <;> exact body (by omega)
    · have h1 := hc.2 hz
      have hlp := (dg_len_pos (n := (fromEnd v n).natAbs) hB16).2 (by omega)
      by_cases hneg : fromEnd v n < 0
      · have hlen : decide (0 < (c.2.length : Int)) = true := dlt_t (by rw [hc.1]; omega)
        rw [h1, decide_eq_true hneg, hlen, if_neg (by omega)]; rfl
      · rw [h1, decide_eq_false hneg]
        simp only [cond_false]
        exact body (by omega)
  unfold brindlewoodref3_Indexed
  rw [IntOf_ok (by omega) hv]
  simp only [Option.bind_some]
  rcases hor with ⟨hneg, he⟩ | ⟨hneg, he⟩
  · have he2 := he
    rw [e1, Option.bind_some] at he2
    rw [decide_eq_true hneg] at he2 ⊢
    have e1' := e1
    simp only [cond_true, e1, Option.bind_some, he2, joinB_inl]
    simp only [e1, Option.bind_some] at fin
    exact fin
  · subst he
    rw [decide_eq_false hneg] at fin ⊢
    simp only [cond_false, joinB_inl] at fin ⊢
    exact fin
end Go.Pl
