/- DecimalRounds: its plain function answers true.  Conditions: limbs within their kind, lists no longer than memory. -/
import Derived.Test.YtnopjcpoeffoiaaGreatDoorDcF
set_option linter.unusedVariables false
set_option linter.unusedSimpArgs false
set_option maxHeartbeats 0
namespace Go.Pl
open Go Go.Ev Go.Sh
theorem tenths_ok : brindlewoodlaw3_tenths 1000000000000000000 = some true := by kernel_rfl
def short (x : DecT) : Prop := (x.2.2.1.2.length : Int) ≤ 1000000000
theorem short_fin {neg : Bool} {n : Nat} {e : Int} (h : dsz n ≤ 6000) : short (dfin neg n e) := by
  have := len32 h
  show ((dg 4294967296 n).length : Int) ≤ 1000000000
  omega
theorem short_inf (neg : Bool) : short (dinf neg) := by show (0 : Int) ≤ 1000000000; decide
theorem short_none : short dnone := by show (0 : Int) ≤ 1000000000; decide
section
variable {k : Nat}
theorem Value_ok (hk : 100000000000000 < k) {neg : Bool} {c : Nat} {e : Int} (hc : dsz c ≤ 6000) : brindlewoodref3_Value k (dfin neg c e) = some (neg, dg 65536 c, dg 65536 1, e) := by
  have hl := len32 hc
  have hof := Of_ok (k := k) (a := dg 4294967296 c) (x := c) (dd32 _) (de32 _) (by omega) (by omega)
  have hs : brindlewoodref3_Small k 1 = some (dg 65536 1) := small_ok hk 1 (by omega)
  have e1 : (dfin neg c e).2.2.1.2 = dg 4294967296 c := rfl
  unfold brindlewoodref3_Value
  rw [e1, hof, hs]; rfl
theorem one_sized {c : Nat} {e : Int} (h : dsz c ≤ 4000) (h1 : -2500 ≤ e) (h2 : e ≤ 6000) : Sized c 1 e := ⟨by decide, h, by decide, h1, h2⟩
theorem Round_ok (hkk : k = 1000000000000000000) {p : Nat} {r mn mx : Int} (hc : CtxOk p r mn mx) {x : DecT} (hx : DecOk x) (hck : decimal_check k ((p : Int), r, mn, mx) [x] = some (0, 0)) :
    ∃ y s, decimal_Round k x ((p : Int), r, mn, mx) = some (y, s, 0, 0) ∧ brindlewoodref3_Fitted k x ((p : Int), r, mn, mx) = some (y, s) ∧ ((∃ neg n e, y = dfin neg n e ∧ dsz n ≤ 5700 ∧ -100000 ≤ e ∧ e ≤ 110000) ∨ (y.1 ≠ 0 ∧ short y)) := by
  have hk : 100000000000000 < k := by rw [hkk]; decide
  unfold decimal_Round brindlewoodref3_Fitted
  rw [hck]
  simp only [Option.bind_some, bne_self_eq_false, cond_false]
  cases hx with
  | fin neg c e h h1 h2 =>
    have hS := one_sized (c := c) (e := e) (by omega) (by omega) (by omega)
    have hof : decimal_of (dfin neg c e) = some (neg, dg 4294967296 c, dg 4294967296 1, e) := rfl
    have e0 : (dfin neg c e).1 = 0 := rfl
    have e3 : (dfin neg c e).2.2.2 = e := rfl
    rw [hof, e0, e3, Value_ok hk (by omega)]
    simp only [bne_self_eq_false, cond_false, Option.bind_some]
    rw [dfit_ok hkk hS hc (by omega) (by omega), rfit_ok hk hS hc (by omega) (by omega)]
    simp only [Option.bind_some]
    refine ⟨_, _, rfl, rfl, ?_⟩
    rcases fitv_form (neg := neg) (ideal := e) hS hc (by omega) (by omega) with ⟨n, e', t, g1, g2, g3, g4⟩ | ⟨t, g1⟩
    · rw [g1]; exact .inl ⟨neg, n, e', rfl, g2, g3, g4⟩
    · rw [g1]; exact .inr ⟨by show (1 : Int) ≠ 0; decide, short_inf neg⟩
  | inf neg => exact ⟨_, _, rfl, rfl, .inr ⟨by show (1 : Int) ≠ 0; decide, short_inf neg⟩⟩
  | none => exact ⟨_, _, rfl, rfl, .inr ⟨by show (2 : Int) ≠ 0; decide, short_none⟩⟩
theorem Reduced_l (hk : 100000000000000 < k) {D x : DecT} {s : Int} : ∀ (m n d : Nat) (e : Int), (1200 - e).toNat = d → d < m → dsz n ≤ 5700 → -1000000 ≤ e →
    brindlewoodref3_Reduced.l0 k m D x s (dg 65536 n) e = some (.inl (D, x, s, dg 65536 (tw d n e 1200).1, (tw d n e 1200).2)) := by
  intro m
  induction m with
  | zero => intro n d e _ h; omega
  | succ m ih =>
    intro n d e hd hm hn he
    simp only [brindlewoodref3_Reduced.l0, brindlewoodref3_Reduced.b0]
    by_cases h : e < 1200
    · obtain ⟨d, rfl⟩ : ∃ d', d = d' + 1 := ⟨d - 1, by omega⟩
      have hl := lend16 hn
      have hh' : brindlewoodref3_Halve k (dg 65536 n) 10 = some (dg 65536 (n / 10), ((n % 10 : Nat) : Int)) := Halve_ok (k := k) (x := n) (d := 10) (by omega) (by omega) (by omega) (by omega)
      rw [dlt_t h, hh']
      simp only [cond_true, Option.bind_some, tw]
      rw [if_pos h]
      by_cases hz : n % 10 = 0
      · rw [hz, if_pos rfl, bne_f (show ((0 : Nat) : Int) = 0 from rfl), w64_id (by omega) (by omega)]
        exact ih (n / 10) d (e + 1) (by omega) (by omega) (Nat.le_trans (dsz_mono (Nat.div_le_self n 10)) hn) (by omega)
      · rw [if_neg hz, bne_t (show ((n % 10 : Nat) : Int) ≠ 0 by omega)]; rfl
    · rw [dlt_f (by omega), tw_done d n e 1200 h]; rfl
theorem Reduce_ok (hkk : k = 1000000000000000000) {p : Nat} {r mn mx : Int} (hc : CtxOk p r mn mx) {x : DecT} (hx : DecOk x) (hck : decimal_check k ((p : Int), r, mn, mx) [x] = some (0, 0)) :
    ∃ y s, decimal_Reduce k x ((p : Int), r, mn, mx) = some (y, s, 0, 0) ∧ brindlewoodref3_Reduced k x ((p : Int), r, mn, mx) = some (y, s) ∧ short y := by
  have hk : 100000000000000 < k := by rw [hkk]; decide
  obtain ⟨y, s, g1, g2, g3⟩ := Round_ok hkk hc hx hck
  unfold decimal_Reduce brindlewoodref3_Reduced
  rw [g1, g2]
  simp only [Option.bind_some, bne_self_eq_false, cond_false]
  rcases g3 with ⟨neg, n, e, rfl, h1, h2, h3⟩ | ⟨h1, h2⟩
  · have e0 : (dfin neg n e).1 = 0 := rfl
    have e1 : (dfin neg n e).2.2.1.2 = dg 4294967296 n := rfl
    have e2 : (dfin neg n e).2.2.2 = e := rfl
    have e4 : (dfin neg n e).2.1 = neg := rfl
    have hl := len32 h1
    have hof := Of_ok (k := k) (a := dg 4294967296 n) (x := n) (dd32 _) (de32 _) (by omega) (by omega)
    have hz : decimal_isZero (dfin neg n e) = some (((dg 4294967296 n).length : Int) == 0) := rfl
    rw [e0, e1, e2, hof]
    simp only [bne_self_eq_false, cond_false, joinB_inl, Option.bind_some]
    rw [hz]
    simp only [Option.bind_some]
    by_cases hn0 : n = 0
    · subst hn0
      have hfz : brindlewoodref3_Finite k neg [] 0 = some (dfin neg 0 0) := Finite_ok hk (n := 0) (by decide)
      rw [show ((dg 4294967296 0).length : Int) = 0 from rfl, show ((dg 65536 0).length : Int) = 0 from rfl, beq_t rfl, e4, hfz]
      exact ⟨_, _, rfl, rfl, short_fin (n := 0) (by decide)⟩
    · have hp32 := (dg_len_pos hB32).2 (Nat.pos_of_ne_zero hn0)
      have hp16 := (dg_len_pos hB16).2 (Nat.pos_of_ne_zero hn0)
      have htw := tw_le (1200 - e).toNat n e 1200
      have hts : dsz (toward n e 1200).1 ≤ 5700 := Nat.le_trans (dsz_mono htw.1) h1
      rw [beq_f (show ((dg 4294967296 n).length : Int) ≠ 0 by omega), beq_f (show ((dg 65536 n).length : Int) ≠ 0 by omega)]
      simp only [cond_false]
      rw [e1, e2, toward_ok (by omega) h1 (by omega) (by omega), Reduced_l hk k n (1200 - e).toNat e rfl (by omega) h1 (by omega)]
      simp only [Option.bind_some, joinB_inl]
      have hF := Finite_ok hk (neg := neg) (n := (toward n e 1200).1) (e := (toward n e 1200).2) (by omega)
      have hF' : brindlewoodref3_Finite k (dfin neg n e).2.1 (dg 65536 (tw (1200 - e).toNat n e 1200).1) (tw (1200 - e).toNat n e 1200).2 = _ := hF
      rw [hF']
      exact ⟨_, _, rfl, rfl, short_fin (by omega)⟩
  · rw [bne_t h1]
    exact ⟨_, _, rfl, rfl, h2⟩
theorem Quantize_ok (hkk : k = 1000000000000000000) {p : Nat} {r mn mx : Int} (hc : CtxOk p r mn mx) {x : DecT} (hx : DecOk x) (q : Int) (hck : decimal_check k ((p : Int), r, mn, mx) [x] = some (0, 0)) :
    ∃ y s, decimal_Quantize k x q ((p : Int), r, mn, mx) = some (y, s, 0, 0) ∧ brindlewoodref3_Quantized k x q ((p : Int), r, mn, mx) = some (y, s) ∧ short y := by
  have hk : 100000000000000 < k := by rw [hkk]; decide
  have hx2 := hc.x2
  have hx1 := hc.x1
  have hp1 := hc.p1
  have hp2 := hc.p2
  have hn1 := hc.n1
  have hn2 := hc.n2
  unfold decimal_Quantize brindlewoodref3_Quantized
  rw [hck]
  simp only [Option.bind_some, bne_self_eq_false, cond_false]
  rw [tiny_ok hc, w64_id (n := mn - (p : Int)) (by omega) (by omega), w64_id (n := mn - (p : Int) + 1) (by omega) (by omega)]
  cases hx with
  | fin neg c e h h1 h2 =>
    have e0 : (dfin neg c e).1 = 0 := rfl
    rw [e0, beq_f (show (0 : Int) ≠ 2 by decide), beq_f (show (0 : Int) ≠ 1 by decide)]
    simp only [cond_false, Option.bind_some]
    by_cases q1 : q < mn - (p : Int) + 1
    · rw [decide_eq_true q1]
      exact ⟨_, _, rfl, rfl, short_none⟩
    · rw [decide_eq_false q1]
      by_cases q2 : mx < q
      · rw [decide_eq_true q2]
        exact ⟨_, _, rfl, rfl, short_none⟩
      · rw [decide_eq_false q2]
        simp only [cond_false, joinB_inl]
        have hof : decimal_of (dfin neg c e) = some (neg, dg 4294967296 c, dg 4294967296 1, e) := rfl
        have hd1 : dsz 1 = 1 := rfl
        have hF : Fits c 1 e q := by constructor <;> omega
        rw [hof, Value_ok hk (by omega)]
        simp only [Option.bind_some]
        rw [rounded_ok (by omega) (by decide) hF, rrounded_ok hk (by decide) hF hc.r1 hc.r2]
        simp only [Option.bind_some]
        have hq : dsz (rnd neg c 1 e q r).1 ≤ 5701 := by
          refine Nat.le_trans (dsz_mono (rnq_le neg (pn c e q) (pd 1 e q) r).1) (dsz_add (m := 5700) ?_ (by decide))
          exact Nat.le_trans (dsz_mono (Nat.div_le_self _ _)) (pn_size hF).1
        generalize rnd neg c 1 e q r = Q at *
        obtain ⟨n, inex⟩ := Q
        simp only at hq ⊢
        have hfin : brindlewoodref3_Finite k neg (dg 65536 n) q = some (dfin neg n q) := Finite_ok hk (by omega)
        rw [size_ok hkk (lim_dsz hq (by omega)), figs_ok hk (by omega)]
        simp only [Option.bind_some]
        rw [figs_len, w64_id (n := (dsz n : Int) - 1) (by omega) (by omega), w64_id (n := (dsz n : Int) - 1 + q) (by omega) (by omega)]
        by_cases c1 : (p : Int) < (dsz n : Int)
        · rw [decide_eq_true c1]
          exact ⟨_, _, rfl, rfl, short_none⟩
        · rw [decide_eq_false c1]
          have hsf : short (dfin neg n q) := short_fin (by omega)
          have e4 : (dfin neg c e).2.1 = neg := rfl
          by_cases c2 : 0 < (dsz n : Int)
          · rw [decide_eq_true c2]
            by_cases c3 : mx < (dsz n : Int) - 1 + q
            · rw [decide_eq_true c3]
              exact ⟨_, _, rfl, rfl, short_none⟩
            · rw [decide_eq_false c3]
              simp only [cond_false, cond_true, joinB_inl]
              rw [e4, hfin]
              cases inex
              · exact ⟨_, _, rfl, rfl, hsf⟩
              · exact ⟨_, _, rfl, rfl, hsf⟩
          · rw [decide_eq_false c2]
            simp only [cond_false, joinB_inl]
            rw [e4, hfin]
            cases inex
            · exact ⟨_, _, rfl, rfl, hsf⟩
            · exact ⟨_, _, rfl, rfl, hsf⟩
  | inf neg => exact ⟨_, _, rfl, rfl, short_none⟩
  | none => exact ⟨_, _, rfl, rfl, short_none⟩
theorem decimalRounds_ok (hkk : k = 1000000000000000000) (hten : brindlewoodlaw3_tenths k = some true) {x : DecT} (q : Int) (c : CtxT) (hx : Wf DecTy x) : brindlewoodlaw3_DecimalRounds k x q c = some true := by
  have hk : 100000000000000 < k := by rw [hkk]; decide
  unfold brindlewoodlaw3_DecimalRounds
  rcases dcheck_ok hkk c (l := [x]) (by simp) (fun y hy => by rw [List.mem_singleton.1 hy]; exact hx) with ⟨p, r, mn, mx, rfl, hc, hck, hf, hok⟩ | ⟨f, hf0, hck, hf⟩
  · have hxo := hok x (by simp)
    obtain ⟨y1, s1, a1, b1, d1⟩ := Round_ok hkk hc hxo hck
    obtain ⟨y2, s2, a2, b2, d2⟩ := Reduce_ok hkk hc hxo hck
    obtain ⟨y3, s3, a3, b3, d3⟩ := Quantize_ok hkk hc hxo q hck
    have d1' : short y1 := by
      rcases d1 with ⟨neg, n, e, rfl, h1, _, _⟩ | ⟨_, h⟩
      · exact short_fin (by omega)
      · exact h
    rw [hf, a1, a2, a3]
    simp only [Option.bind_some, beq_self_eq_true, cond_true]
    rw [b1, b2, b3]
    simp only [Option.bind_some, joinB_inl]
    rw [hten, comes_yes (by omega) y1 s1 d1', comes_yes (by omega) y2 s2 d2, comes_yes (by omega) y3 s3 d3]
    rfl
  · have r1 : decimal_Round k x c = some ((0, false, (false, []), 0), 0, f) := by
      unfold decimal_Round
      rw [hck]
      simp only [Option.bind_some]
      rw [bne_t hf0]; rfl
    have r2 : decimal_Reduce k x c = some ((0, false, (false, []), 0), 0, f) := by
      unfold decimal_Reduce
      rw [r1]
      simp only [Option.bind_some]
      rw [bne_t hf0]; rfl
    have r3 : decimal_Quantize k x q c = some ((0, false, (false, []), 0), 0, f) := by
      unfold decimal_Quantize
      rw [hck]
      simp only [Option.bind_some]
      rw [bne_t hf0]; rfl
    rw [hf, r1, r2, r3]
    simp only [Option.bind_some]
    rw [beq_f hf0]
    simp only [cond_false, joinB_inl]
    rw [hten, comes_no (by omega) hf0]
    rfl
end
theorem decimalRounds_plain {x : DecT} {q : Int} {c : CtxT} (hx : Wf DecTy x) : brindlewoodlaw3_DecimalRounds 1000000000000000000 x q c = some true := decimalRounds_ok rfl tenths_ok q c hx
end Go.Pl
