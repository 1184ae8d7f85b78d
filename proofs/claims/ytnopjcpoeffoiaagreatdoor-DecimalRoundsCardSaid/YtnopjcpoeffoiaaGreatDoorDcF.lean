/- Decimals: which are valid, contexts, faults, results compared.  Conditions: limbs within their kind, lists no longer than memory. -/
import Derived.Test.YtnopjcpoeffoiaaGreatDoorDcE
import Derived.Test.YtnopjcpoeffoiaaGreatDoorPiD
set_option linter.unusedVariables false
set_option linter.unusedSimpArgs false
set_option maxHeartbeats 0
namespace Go.Pl
open Go Go.Ev Go.Sh
abbrev DecTy : Ty := .st (.pair (.int .i64) (.pair .bool (.pair (.st (.pair .bool (.list (.int .u32)))) (.int .i64))))
inductive DecOk : DecT → Prop where
  | fin (neg : Bool) (c : Nat) (e : Int) (h : dsz c ≤ 120) (h1 : -1200 ≤ e) (h2 : e ≤ 1200) : DecOk (dfin neg c e)
  | inf (neg : Bool) : DecOk (dinf neg)
  | none : DecOk dnone
theorem zero_len {l : List Int} : ((l.length : Int) == 0) = decide (l = []) := by
  cases l with
  | nil => rfl
  | cons x l => rw [beq_f (show (((x :: l).length : Nat) : Int) ≠ 0 by rw [List.length_cons]; omega)]; rfl
theorem noInt_eq (a : Bool × List Int) : brindlewoodref3_NoInt a = some (decide (a = (false, []))) := by
  obtain ⟨b, l⟩ := a
  unfold brindlewoodref3_NoInt
  simp only
  rw [zero_len]
  cases b
  · simp
  · simp
section
variable {k : Nat}
theorem dec_cases (hkk : k = 1000000000000000000) {x : DecT} (h : Wf DecTy x) : (DecOk x ∧ decimal_Valid k x = some true ∧ brindlewoodref3_DecimalOk k x = some true) ∨ (decimal_Valid k x = some false ∧ brindlewoodref3_DecimalOk k x = some false) := by
  have hk : 100000000000000 < k := by rw [hkk]; decide
  obtain ⟨kd, neg, co, e⟩ := x
  have hco : Wf IT co := h.2.2.1
  -- what stands for no number
  have hz : (bif ((co.2.length : Int) == 0) then (bif (!co.1) then (some (.inl (((kd, neg, co, e) : DecT), (e == 0)))) else (some (.inl ((kd, neg, co, e), false)))) else (some (.inl ((kd, neg, co, e), false))) : Option ((DecT × Bool) ⊕ Bool)) = some (.inl ((kd, neg, co, e), decide (co = (false, [])) && (e == 0))) := by
    obtain ⟨b, l⟩ := co
    simp only
    rw [zero_len]
    cases b <;> by_cases hl : l = [] <;> simp [hl]
  unfold decimal_Valid brindlewoodref3_DecimalOk
  simp only
  rw [hz]
  simp only [joinB_inl]
  by_cases h0 : kd = 0
  · subst h0
    rw [rIntOk]
    simp only [beq_self_eq_true, cond_true]
    rcases int_vals hco with ⟨v, hv, rfl, hval⟩ | hval
    · rw [hval]
      simp only [Option.bind_some, cond_true]
      have e1 : (iz v).1 = decide (v < 0) := rfl
      have e2 : (iz v).2 = dg 4294967296 v.natAbs := rfl
      rw [e1, e2]
      by_cases hneg : v < 0
      · rw [decide_eq_true hneg]; exact .inr ⟨rfl, rfl⟩
      · rw [decide_eq_false hneg]
        simp only [Bool.not_false, cond_true]
        by_cases h1 : -1200 ≤ e
        · rw [decide_eq_true h1]
          by_cases h2 : e ≤ 1200
          · rw [decide_eq_true h2]
            simp only [cond_true]
            have hlim := ilim_lim hv
            have hd : dsz v.natAbs ≤ 1300 := by
              have hl := ilim_iff.2 hv
              have h3 : (4294967296 : Nat) ^ (dg 4294967296 v.natAbs).length ≤ (10 ^ 10) ^ (dg 4294967296 v.natAbs).length := Nat.pow_le_pow_left (by decide) _
              rw [← Nat.pow_mul] at h3
              have h4 : dsz v.natAbs ≤ 10 * (dg 4294967296 v.natAbs).length := dsz_le.2 (Nat.lt_of_lt_of_le (dg_lt hB32 (n := v.natAbs)) h3)
              omega
            have hof := Of_ok (k := k) (a := dg 4294967296 v.natAbs) (x := v.natAbs) (dd32 _) (de32 _) (by have := ilim_iff.2 hv; omega) (by omega)
            have hpw : decimal_power k 120 = some (dg 4294967296 (10 ^ 120)) := power_ok (n := 120) (by omega) (by omega)
            rw [hpw, hof]
            simp only [Option.bind_some]
            rw [less_ok (by omega) hlim (lim10 (by omega)), figs_ok hk (by omega)]
            simp only [Option.bind_some]
            rw [figs_len]
            have hiff : (v.natAbs < 10 ^ 120) ↔ ((dsz v.natAbs : Int) ≤ 120) := by
              exact ⟨fun h => by have h5 : dsz v.natAbs ≤ 120 := dsz_le.2 h
                                 omega, fun h => dsz_le.1 (by omega)⟩
            by_cases hc : v.natAbs < 10 ^ 120
            · rw [decide_eq_true hc, decide_eq_true (hiff.1 hc)]
              have hx : ((0, neg, iz v, e) : DecT) = dfin neg v.natAbs e := by
                unfold dfin iz
                rw [decide_eq_false hneg]
              rw [hx]
              exact .inl ⟨DecOk.fin neg _ e (by have := hiff.1 hc; omega) h1 h2, rfl, rfl⟩
            · rw [decide_eq_false hc, decide_eq_false (fun h => hc (hiff.2 h))]; exact .inr ⟨rfl, rfl⟩
          · rw [decide_eq_false h2]; exact .inr ⟨rfl, rfl⟩
        · rw [decide_eq_false h1]; exact .inr ⟨rfl, rfl⟩
    · rw [hval]; exact .inr ⟨rfl, rfl⟩
  · rw [beq_f h0]
    simp only [cond_false]
    rw [noInt_eq]
    simp only [Option.bind_some]
    by_cases h1 : kd = 1
    · subst h1
      simp only [beq_self_eq_true, cond_true]
      by_cases hc : co = (false, [])
      · subst hc
        by_cases he : e = 0
        · subst he
          exact .inl ⟨DecOk.inf neg, rfl, rfl⟩
        · rw [beq_f he]; exact .inr ⟨rfl, rfl⟩
      · rw [decide_eq_false hc]; exact .inr ⟨rfl, rfl⟩
    · rw [beq_f h1]
      simp only [cond_false]
      by_cases h2 : kd = 2
      · subst h2
        simp only [beq_self_eq_true, cond_true]
        by_cases hc : co = (false, [])
        · subst hc
          by_cases he : e = 0
          · subst he
            cases neg
            · exact .inl ⟨DecOk.none, rfl, rfl⟩
            · exact .inr ⟨rfl, rfl⟩
          · rw [beq_f he]; exact .inr ⟨rfl, rfl⟩
        · rw [decide_eq_false hc]; exact .inr ⟨rfl, rfl⟩
      · rw [beq_f h2]; exact .inr ⟨rfl, rfl⟩
theorem ctx_eq (c : CtxT) : decimal_Check c = brindlewoodref3_ContextOk c := by
  obtain ⟨a, b, d, e⟩ := c
  unfold decimal_Check brindlewoodref3_ContextOk
  simp only
  rw [decide_eq_decide.2 (show b < 7 ↔ b ≤ 6 by omega)]
theorem ctx_cases (c : CtxT) : (∃ (p : Nat) (r mn mx : Int), c = ((p : Int), r, mn, mx) ∧ CtxOk p r mn mx ∧ decimal_Check c = some true) ∨ decimal_Check c = some false := by
  obtain ⟨a, b, d, e⟩ := c
  unfold decimal_Check
  simp only
  by_cases h1 : 1 ≤ a
  · rw [decide_eq_true h1]
    by_cases h2 : a ≤ 60
    · rw [decide_eq_true h2]
      by_cases h3 : 0 ≤ b
      · rw [decide_eq_true h3]
        by_cases h4 : b < 7
        · rw [decide_eq_true h4]
          by_cases h5 : -999 ≤ d
          · rw [decide_eq_true h5]
            by_cases h6 : d ≤ 0
            · rw [decide_eq_true h6]
              by_cases h7 : 0 ≤ e
              · rw [decide_eq_true h7]
                by_cases h8 : e ≤ 999
                · rw [decide_eq_true h8]
                  exact .inl ⟨a.toNat, b, d, e, by rw [Int.toNat_of_nonneg (by omega)], ⟨by omega, by omega, h3, by omega, h5, h6, h7, h8⟩, rfl⟩
                · rw [decide_eq_false h8]; exact .inr rfl
              · rw [decide_eq_false h7]; exact .inr rfl
            · rw [decide_eq_false h6]; exact .inr rfl
          · rw [decide_eq_false h5]; exact .inr rfl
        · rw [decide_eq_false h4]; exact .inr rfl
      · rw [decide_eq_false h3]; exact .inr rfl
    · rw [decide_eq_false h2]; exact .inr rfl
  · rw [decide_eq_false h1]; exact .inr rfl
theorem check_l (hkk : k = 1000000000000000000) {l : List DecT} (hl : l.length ≤ 10) (hw : ∀ x ∈ l, Wf DecTy x) : ∀ (m i : Nat), i ≤ l.length → l.length - i < m →
    (decimal_check.l0 k m (0, 0) l l.length i = some (.inl (0, 0)) ∧ brindlewoodref3_DecimalFaults.l0 k m l (0, 0) i = some (.inl (0, 0)) ∧ ∀ x ∈ l.drop i, DecOk x) ∨
    (∃ j : Int, decimal_check.l0 k m (0, 0) l l.length i = some (.inr (6, j)) ∧ brindlewoodref3_DecimalFaults.l0 k m l (0, 0) i = some (.inr (6, j))) := by
  have hat : ∀ a b : Int, decimal_at a b = some (a, b) := fun _ _ => rfl
  have hat' : ∀ a b : Int, brindlewoodref3_At a b = some (a, b) := fun _ _ => rfl
  intro m
  induction m with
  | zero => intro i _ h; omega
  | succ m ih =>
    intro i h1 h2
    simp only [decimal_check.l0, decimal_check.b0, brindlewoodref3_DecimalFaults.l0, brindlewoodref3_DecimalFaults.b0]
    by_cases h : i < l.length
    · have hn : nth DecTy l (i : Int) = l[i] := by
        unfold nth
        rw [show ((i : Nat) : Int).toNat = i by omega, List.getD_eq_getElem?_getD, List.getElem?_eq_getElem h]; rfl
      have hy := hw l[i] (List.getElem_mem h)
      generalize hyy : l[i] = y at *
      have e1 : (nth DecTy l (i : Int)).1 = y.1 := by rw [hn]
      have e2 : (nth DecTy l (i : Int)).2 = y.2 := by rw [hn]
      have hv : decimal_Valid k ((nth DecTy l (i : Int)).1, (nth DecTy l (i : Int)).2.1, (nth DecTy l (i : Int)).2.2.1, (nth DecTy l (i : Int)).2.2.2) = decimal_Valid k y := by rw [e1, e2]
      have hv' : brindlewoodref3_DecimalOk k ((nth DecTy l (i : Int)).1, (nth DecTy l (i : Int)).2.1, (nth DecTy l (i : Int)).2.2.1, (nth DecTy l (i : Int)).2.2.2) = brindlewoodref3_DecimalOk k y := by rw [e1, e2]
      have hinc : w64 ((i : Int) + 1) = ((i + 1 : Nat) : Int) := by rw [w64_id (by omega) (by omega)]; omega
      rw [dlt_t (show (i : Int) < (l.length : Int) by omega), inR_t (by omega) (show (i : Int) < (l.length : Int) by omega), hinc]
      simp only [cond_true]
      rw [hv, hv']
      rcases dec_cases hkk hy with ⟨d1, d2, d3⟩ | ⟨d2, d3⟩
      · rw [d2, d3]
        simp only [Option.bind_some, Bool.not_true, cond_false]
        rcases ih (i + 1) (by omega) (by omega) with ⟨g1, g2, g3⟩ | ⟨j, g1, g2⟩
        · refine .inl ⟨g1, g2, fun x hx => ?_⟩
          rw [List.drop_eq_getElem_cons h] at hx
          rcases List.mem_cons.1 hx with rfl | hx
          · rw [hyy]; exact d1
          · exact g3 x hx
        · exact .inr ⟨j, g1, g2⟩
      · rw [d2, d3]
        exact .inr ⟨_, rfl, rfl⟩
    · have : i = l.length := by omega
      subst this
      rw [dlt_f (Int.le_refl _)]
      exact .inl ⟨rfl, rfl, fun x hx => by rw [List.drop_length] at hx; simp at hx⟩
theorem dcheck_ok (hkk : k = 1000000000000000000) (c : CtxT) {l : List DecT} (hl : l.length ≤ 10) (hw : ∀ x ∈ l, Wf DecTy x) :
    (∃ (p : Nat) (r mn mx : Int), c = ((p : Int), r, mn, mx) ∧ CtxOk p r mn mx ∧ decimal_check k c l = some (0, 0) ∧ brindlewoodref3_DecimalFaults k c l = some (0, 0) ∧ ∀ x ∈ l, DecOk x) ∨
    (∃ f : Int × Int, f.1 ≠ 0 ∧ decimal_check k c l = some f ∧ brindlewoodref3_DecimalFaults k c l = some f) := by
  unfold decimal_check brindlewoodref3_DecimalFaults
  rw [← ctx_eq]
  rcases ctx_cases c with ⟨p, r, mn, mx, rfl, hc, hC⟩ | hC
  · rw [hC]
    simp only [Option.bind_some, Bool.not_true, cond_false]
    have h := check_l hkk hl hw k 0 (by omega) (by rw [hkk]; have : (1000 : Nat) < 1000000000000000000 := by decide
                                                   omega)
    rcases h with ⟨g1, g2, g3⟩ | ⟨j, g1, g2⟩
    · have g1' : decimal_check.l0 k k (0, 0) l l.length 0 = _ := g1
      have g2' : brindlewoodref3_DecimalFaults.l0 k k l (0, 0) 0 = _ := g2
      rw [g1', g2']
      exact .inl ⟨p, r, mn, mx, rfl, hc, rfl, rfl, fun x hx => g3 x (by rw [List.drop_zero]; exact hx)⟩
    · have g1' : decimal_check.l0 k k (0, 0) l l.length 0 = _ := g1
      have g2' : brindlewoodref3_DecimalFaults.l0 k k l (0, 0) 0 = _ := g2
      rw [g1', g2']
      exact .inr ⟨(6, j), (show (6 : Int) ≠ 0 by decide), rfl, rfl⟩
  · rw [hC]
    exact .inr ⟨(4, -9), (show (4 : Int) ≠ 0 by decide), rfl, rfl⟩
theorem same_self (hk : 1000000001 < k) (x : DecT) (hx : (x.2.2.1.2.length : Int) ≤ 1000000000) : brindlewoodref3_SameDecimal k x x = some true := by
  unfold brindlewoodref3_SameDecimal brindlewoodref3_SameInts
  rw [SameLimbs_ok hx hx hk, decide_eq_true rfl]
  simp only [beq_self_eq_true, cond_true, Option.bind_some]
theorem comes_no (hk : 1000000001 < k) {f : Int × Int} (hf : f.1 ≠ 0) (y : DecT) (m : Int) : brindlewoodlaw3_comes k (0, false, (false, []), 0) 0 f y m f = some true := by
  have hs := same_self hk (0, false, (false, []), 0) (by decide)
  unfold brindlewoodlaw3_comes
  rw [bne_t hf]
  simp only [beq_self_eq_true, Bool.and_self, cond_true]
  rw [hs]; rfl
theorem comes_yes (hk : 1000000001 < k) (x : DecT) (n : Int) (hx : (x.2.2.1.2.length : Int) ≤ 1000000000) : brindlewoodlaw3_comes k x n (0, 0) x n (0, 0) = some true := by
  have hs := same_self hk x hx
  unfold brindlewoodlaw3_comes
  simp only [bne_self_eq_false, cond_false, beq_self_eq_true, Bool.and_self, cond_true]
  rw [hs]; rfl
theorem len32 {x n : Nat} (h : dsz x ≤ n) : (dg 4294967296 x).length ≤ n := dg_len hB32 (Nat.lt_of_lt_of_le (dsz_le.1 h) (Nat.pow_le_pow_left (by decide) n))
theorem endv_form {neg : Bool} {x : Nat × Int} {s : Int} {p : Nat} {r mx : Int} (hp : p ≤ 60) (hm0 : 0 ≤ mx) (hm : mx ≤ 999) (h1 : dsz x.1 ≤ 5700) (h2 : -100000 ≤ x.2) (h3 : x.2 ≤ 110000) :
    (∃ n e t, endv neg x s p r mx = (dfin neg n e, t) ∧ dsz n ≤ 5700 ∧ -100000 ≤ e ∧ e ≤ 110000) ∨ ∃ t, endv neg x s p r mx = (dinf neg, t) := by
  unfold endv
  split
  · unfold ovf
    split
    · exact .inr ⟨_, rfl⟩
    · exact .inl ⟨_, _, _, rfl, Nat.le_trans (dsz_mono (Nat.sub_le _ _)) (Nat.le_trans (dsz_le.2 (Nat.pow_lt_pow_right (by decide) (Nat.lt_succ_self p))) (by omega)), by omega, by omega⟩
  · exact .inl ⟨_, _, _, rfl, h1, h2, h3⟩
theorem fitv_form {neg : Bool} {num den : Nat} {exp ideal : Int} (hS : Sized num den exp) {p : Nat} {r mn mx : Int} (hc : CtxOk p r mn mx) (hi1 : -100000 ≤ ideal) (hi2 : ideal ≤ 100000) :
    (∃ n e t, fitv neg num den exp ideal p r mn mx = (dfin neg n e, t) ∧ dsz n ≤ 5700 ∧ -100000 ≤ e ∧ e ≤ 110000) ∨ ∃ t, fitv neg num den exp ideal p r mn mx = (dinf neg, t) := by
  have hx := hc.x2
  have hx1 := hc.x1
  have hp1 := hc.p1
  have hp2 := hc.p2
  have hn1 := hc.n1
  have hn2 := hc.n2
  unfold fitv
  split
  · refine .inl ⟨0, _, _, rfl, by decide, ?_, ?_⟩ <;> unfold clip <;> (split <;> (try split) <;> omega)
  · rename_i h0
    have hn : 0 < num := Nat.pos_of_ne_zero h0
    have hS1 := hS.sn; have hS2 := hS.sd; have hS3 := hS.e1; have hS4 := hS.e2
    have hfr := fst_rng (num := num) (den := den) (exp := exp)
    have her := expo_rng (fst10 num den exp) p mn
    have s1 := dsz_pos.2 hn
    have s2 := dsz_pos.2 hS.d0
    have hq5 : dsz (rnd neg num den exp (expo (fst10 num den exp) p mn) r).1 ≤ 5700 := by
      have hq1 := (rnq_le neg (pn num exp (expo (fst10 num den exp) p mn)) (pd den exp (expo (fst10 num den exp) p mn)) r).1
      have h2 := fst_lt (exp := exp) hn hS.d0
      have h3 : ¬ Ge num den exp (expo (fst10 num den exp) p mn + p) := fun hg => h2 (Ge_le hg (by omega))
      have h4 := quo_lt hS.d0 h3
      refine Nat.le_trans (dsz_mono hq1) (Nat.le_trans (dsz_add (m := p) (dsz_le.2 h4) ?_) (by omega))
      exact dsz_le.2 (Nat.lt_of_lt_of_le (by decide : 1 < 10 ^ 1) (pow10_le hp1))
    unfold settleP
    have htr : ∀ (y : Nat × Int), dsz y.1 ≤ 5700 → -90000 ≤ y.2 → y.2 ≤ 100000 → dsz (trm p y.1 y.2).1 ≤ 5700 ∧ -100000 ≤ (trm p y.1 y.2).2 ∧ (trm p y.1 y.2).2 ≤ 110000 := by
      intro y y1 y2 y3
      unfold trm
      split
      · exact ⟨Nat.le_trans (dsz_mono (Nat.div_le_self _ 10)) y1, by simp only; omega, by simp only; omega⟩
      · exact ⟨y1, by simp only; omega, by simp only; omega⟩
    generalize rnd neg num den exp (expo (fst10 num den exp) p mn) r = Q at *
    obtain ⟨q, inex⟩ := Q
    have htw := tw_le (ideal - expo (fst10 num den exp) p mn).toNat q (expo (fst10 num den exp) p mn) ideal
    have hall : dsz (if inex = true then (q, expo (fst10 num den exp) p mn) else toward q (expo (fst10 num den exp) p mn) ideal).1 ≤ 5700 ∧ -90000 ≤ (if inex = true then (q, expo (fst10 num den exp) p mn) else toward q (expo (fst10 num den exp) p mn) ideal).2 ∧ (if inex = true then (q, expo (fst10 num den exp) p mn) else toward q (expo (fst10 num den exp) p mn) ideal).2 ≤ 100000 := by
      simp only at hq5
      cases inex
      · simp only [Bool.false_eq_true, if_false]
        unfold toward
        refine ⟨Nat.le_trans (dsz_mono htw.1) hq5, by omega, by omega⟩
      · simp only [if_true]
        exact ⟨hq5, by omega, by omega⟩
    obtain ⟨a1, a2, a3⟩ := htr _ hall.1 hall.2.1 hall.2.2
    exact endv_form hp2 hx1 hx a1 a2 a3
end
end Go.Pl
