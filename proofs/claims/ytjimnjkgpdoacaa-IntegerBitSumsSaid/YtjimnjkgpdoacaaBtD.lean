/- The reference's operations on bits.  Conditions: those that each theorem names. -/
import Derived.Test.YtjimnjkgpdoacaaBtA
set_option linter.unusedVariables false
set_option linter.unusedSimpArgs false
set_option maxHeartbeats 0
namespace Go.Pl
open Go Go.Ev Go.Sh
def bv : List Bool → Nat
  | [] => 0
  | b :: l => b01 b + 2 * bv l
theorem bv_cons (b : Bool) (l : List Bool) : bv (b :: l) = b01 b + 2 * bv l := rfl
theorem bv_app : ∀ (l m : List Bool), bv (l ++ m) = bv l + 2 ^ l.length * bv m := by
  intro l
  induction l with
  | nil => intro m; simp [bv]
  | cons b l ih =>
    intro m
    rw [List.cons_append, bv_cons, bv_cons, ih, List.length_cons, Nat.pow_succ, Nat.mul_add, ← Nat.mul_assoc 2, Nat.mul_comm 2 (2 ^ l.length)]
    omega
theorem bv_lt : ∀ l : List Bool, bv l < 2 ^ l.length := by
  intro l
  induction l with
  | nil => exact Nat.one_pos
  | cons b l ih =>
    have := b01_lt b
    rw [bv_cons, List.length_cons, Nat.pow_succ]; omega
theorem bv_false : ∀ n : Nat, bv (List.replicate n false) = 0 := by
  intro n
  induction n with
  | zero => rfl
  | succ n ih => rw [List.replicate_succ, bv_cons, ih]; rfl
theorem bv_ones : ∀ {M : List Int}, Dig 2 M → ((bv (M.map isOne) : Nat) : Int) = ev 2 M := by
  intro M
  induction M with
  | nil => intro _; rfl
  | cons x M ih =>
    intro h
    have hx := h.hd
    have e : ((b01 (isOne x) : Nat) : Int) = x := by
      have : x = 0 ∨ x = 1 := by omega
      rcases this with rfl | rfl <;> rfl
    rw [List.map_cons, bv_cons, ev_cons, ← ih h.tl, ← e]
    simp only [e]
    omega
theorem bv_not : ∀ l : List Bool, bv (l.map (fun b => !b)) + bv l + 1 = 2 ^ l.length := by
  intro l
  induction l with
  | nil => rfl
  | cons b l ih =>
    rw [List.map_cons, bv_cons, bv_cons, List.length_cons, Nat.pow_succ, ← ih]
    cases b
    · show 1 + 2 * _ + (0 + 2 * _) + 1 = _; omega
    · show 0 + 2 * _ + (1 + 2 * _) + 1 = _; omega
theorem bv_zip (g : Bool → Bool → Bool) : ∀ (X Y : List Bool), X.length = Y.length → bv (List.zipWith g X Y) = nb g X.length (bv X) (bv Y) := by
  intro X
  induction X with
  | nil => intro Y _; rfl
  | cons x X ih =>
    intro Y h
    cases Y with
    | nil => simp at h
    | cons y Y =>
      have e : ∀ (b : Bool) (n : Nat), (b01 b + 2 * n) % 2 = b01 b ∧ (b01 b + 2 * n) / 2 = n := by intro b n; have := b01_lt b; omega
      have e2 : ∀ b : Bool, (b01 b == 1) = b := by intro b; cases b <;> rfl
      rw [List.zipWith_cons_cons, bv_cons, ih Y (by simpa using h), List.length_cons, nb, bv_cons, bv_cons, (e x _).1, (e x _).2, (e y _).1, (e y _).2, e2, e2]
theorem Binary_bv {k : Nat} (hk : 1000000000 < k) {l : List Bool} (hl : (l.length : Int) ≤ 1000000) : brindlewoodref3_Binary k l = some (dg 65536 (bv l)) := by
  have h1 : ∀ l : List Bool, (l.map (fun b => ((b01 b : Nat) : Int))).map isOne = l := by
    intro l
    induction l with
    | nil => rfl
    | cons b l ih => rw [List.map_cons, List.map_cons, ih]; cases b <;> rfl
  have hd : Dig 2 (l.map (fun b => ((b01 b : Nat) : Int))) := by
    intro x hx
    obtain ⟨b, _, rfl⟩ := List.mem_map.1 hx
    have := b01_lt b
    omega
  have he := bv_ones hd
  rw [h1] at he
  have := Binary_ok (k := k) hd (x := bv l) he.symm (by rw [List.length_map]; omega) hk
  rw [h1] at this
  exact this
theorem one16 {k : Nat} (hk : 100 < k) : brindlewoodref3_Small k 1 = some (dg 65536 1) := Small_ok (k := k) (n := 1) (by decide) (by omega)
theorem len_bits {l : List Bool} : (dg 65536 (bv l)).length ≤ l.length := dg_len hB16 (Nat.lt_of_lt_of_le (bv_lt l) (Nat.pow_le_pow_left (by decide) _))
theorem len2_of16 (y : Nat) : (dg 2 y).length ≤ 16 * (dg 65536 y).length := by
  apply dg_len (by decide)
  have h := dg_lt (b := 65536) hB16 (n := y)
  have e : (2 : Nat) ^ (16 * (dg 65536 y).length) = 65536 ^ (dg 65536 y).length := by rw [Nat.pow_mul]
  rw [e]; exact h
theorem rtwos_l0 (k c : Nat) (hc : (c : Int) ≤ 1000000) (a : Bool × List Int) : ∀ (m : Nat) (A X : List Bool), A.length + X.length = c → X.length < m →
    brindlewoodref3_Int_twos.l0 k m c a (A ++ X) A.length = some (.inl (A ++ X.map (fun b => !(b == (a.1 && decide (0 < (a.2.length : Int))))))) := by
  intro m
  induction m with
  | zero => intro A X _ h; omega
  | succ m ih =>
    intro A X h3 h4
    simp only [brindlewoodref3_Int_twos.l0, brindlewoodref3_Int_twos.b0]
    cases X with
    | nil => rw [dlt_f (by simp at h3; omega)]; rfl
    | cons x X =>
      simp only [List.length_cons] at h3 h4
      have e1 : rdB (A ++ x :: X) ((A.length : Nat) : Int) = x := by
        show (A ++ x :: X).getD A.length false = x
        simp [List.getD_eq_getElem?_getD]
      have e3 : w64 ((A.length : Int) + 1) = (((A.length + 1 : Nat)) : Int) := by rw [w64_id (by omega) (by omega)]; omega
      have e4 : ∀ y : Bool, (A ++ x :: X).set A.length y = (A ++ [y]) ++ X := by
        intro y
        rw [List.set_append_right _ _ (by omega), Nat.sub_self, List.append_assoc]; rfl
      have hih := fun y : Bool => ih (A ++ [y]) X (by simp; omega) (by omega)
      simp only [List.length_append, List.length_singleton] at hih
      rw [dlt_t (by omega), inR_t (i := (A.length : Nat)) (n := ((A ++ x :: X).length : Nat)) (by omega) (by simp; omega), e1, natCast_toNat, e3]
      simp only [cond_true, e4, hih]
      cases h : a.1
      · simp only [cond_false, List.append_assoc, List.map_cons, Bool.false_and]; rfl
      · simp only [cond_true, List.append_assoc, List.map_cons, Bool.true_and]; rfl
theorem rtwos_ok {k : Nat} (hk : 10000000000 < k) {v : Int} {c : Nat} (hv : ((dg 65536 v.natAbs).length : Int) ≤ 10000) (hc : (c : Int) ≤ 100000) (hl : (dg 2 v.natAbs).length ≤ c) : ∃ l, brindlewoodref3_Int_twos k (decide (v < 0), dg 65536 v.natAbs) c = some l ∧ l.length = c ∧ bv l = tc c v := by
  -- the magnitude that is written
  obtain ⟨u, hu, hu2, huw⟩ : ∃ u : Nat, u ≤ v.natAbs ∧ ((v < 0 ∧ u = v.natAbs - 1) ∨ (0 ≤ v ∧ u = v.natAbs)) ∧
      (bif decide (v < 0) then (bif decide (0 < ((dg 65536 v.natAbs).length : Int)) then ((brindlewoodref3_Small k 1).bind fun t1 => (brindlewoodref3_Minus k (dg 65536 v.natAbs) t1).bind fun t2 => some (.inl (((c : Nat) : Int), (decide (v < 0), dg 65536 v.natAbs), (true, t2)))) else (some (.inl ((c : Int), (decide (v < 0), dg 65536 v.natAbs), (decide (v < 0), dg 65536 v.natAbs))))) else (some (.inl ((c : Int), (decide (v < 0), dg 65536 v.natAbs), (decide (v < 0), dg 65536 v.natAbs)))) : Option ((Int × (Bool × List Int) × Bool × List Int) ⊕ (List Bool))) = some (.inl ((c : Int), (decide (v < 0), dg 65536 v.natAbs), (decide (v < 0), dg 65536 u))) := by
    by_cases hn : v < 0
    · refine ⟨v.natAbs - 1, by omega, .inl ⟨hn, rfl⟩, ?_⟩
      have hp := (dg_len_pos (n := v.natAbs) hB16).2 (by omega)
      rw [decide_eq_true hn, dlt_t (by omega), one16 (by omega)]
      simp only [cond_true, Option.bind_some]
      rw [Minus_ok (by omega) (by omega) (by omega)]; rfl
    · exact ⟨v.natAbs, by omega, .inr ⟨by omega, rfl⟩, by rw [decide_eq_false hn]; rfl⟩
  have hul : (dg 2 u).length ≤ c := Nat.le_trans (len_le_of_le (by decide) hu) hl
  have hu16 : (dg 65536 u).length ≤ (dg 65536 v.natAbs).length := len_le_of_le hB16 hu
  have hbv : bv ((dg 2 u).map isOne) = u := by have h1 := bv_ones (dd2 u); have h2 := de2 u; omega
  have hP : Ev.sub ((dg 2 u).map isOne ++ List.replicate (Int.toNat (c : Int)) (false : Bool)) 0 ((c : Int) - 0) = (dg 2 u).map isOne ++ List.replicate (c - (dg 2 u).length) false := by
    rw [natCast_toNat, show (c : Int) - 0 = c by omega]
    show (((dg 2 u).map isOne ++ List.replicate c false).drop 0).take (c : Int).toNat = _
    rw [List.drop_zero, natCast_toNat, List.take_append, List.length_map, List.take_of_length_le (by rw [List.length_map]; omega), List.take_replicate, show min (c - (dg 2 u).length) c = c - (dg 2 u).length by omega]
  have hlen : ((dg 2 u).map isOne ++ List.replicate (c - (dg 2 u).length) false).length = c := by rw [List.length_append, List.length_map, List.length_replicate]; omega
  have hbP : bv ((dg 2 u).map isOne ++ List.replicate (c - (dg 2 u).length) false) = u := by rw [bv_app, hbv, bv_false]; omega
  unfold brindlewoodref3_Int_twos
  rw [huw]
  simp only [joinB_inl]
  rw [Ones_ok (by omega) (by omega)]
  simp only [Option.bind_some, hP]
  have h0 := rtwos_l0 k c (by omega) (decide (v < 0), dg 65536 v.natAbs) k [] _ (by rw [hlen]; simp) (by rw [hlen]; omega)
  have h0' : brindlewoodref3_Int_twos.l0 k k c (decide (v < 0), dg 65536 v.natAbs) ((dg 2 u).map isOne ++ List.replicate (c - (dg 2 u).length) false) 0 = some (.inl (((dg 2 u).map isOne ++ List.replicate (c - (dg 2 u).length) false).map (fun b => !(b == (decide (v < 0) && decide (0 < ((dg 65536 v.natAbs).length : Int))))))) := h0
  generalize hPP : (dg 2 u).map isOne ++ List.replicate (c - (dg 2 u).length) false = P at *
  rw [dle_t (show (0 : Int) ≤ c by omega), fits_t (by rw [List.length_map, List.length_replicate]; omega), dle_t (show (c : Int) ≤ _ by rw [List.length_append, List.length_replicate]; omega), h0']
  simp only [Int.le_refl, decide_true, Bool.and_self, cond_true, joinB_inl]
  refine ⟨_, rfl, by rw [List.length_map, hlen], ?_⟩
  have hlt := bv_lt P
  rw [hlen, hbP] at hlt
  have hp2 : ((2 ^ c : Nat) : Int) = (2 : Int) ^ c := by rw [Int.natCast_pow]; rfl
  have hv2 : v.natAbs < 2 ^ c := (dg_len_iff (b := 2) (by decide)).1 hl
  rcases hu2 with ⟨hn, hu3⟩ | ⟨hn, hu3⟩
  · have hp := (dg_len_pos (n := v.natAbs) hB16).2 (by omega)
    rw [decide_eq_true hn, dlt_t (by omega)]
    have e : (fun b : Bool => !(b == (true && true))) = fun b => !b := by funext b; cases b <;> rfl
    rw [e]
    have hnot := bv_not P
    rw [hlen, hbP] at hnot
    have : tc c v = 2 ^ c - v.natAbs := by
      unfold tc
      have e2 : v = ((2 ^ c - v.natAbs : Nat) : Int) + (2 : Int) ^ c * (-1) := by omega
      rw [e2, Int.add_mul_emod_self_left, Int.emod_eq_of_lt (by omega) (by omega)]
      omega
    omega
  · rw [decide_eq_false (show ¬ v < 0 by omega)]
    have e : (fun b : Bool => !(b == (false && decide (0 < ((dg 65536 v.natAbs).length : Int))))) = fun b => b := by funext b; cases b <;> rfl
    rw [e, List.map_id'', hbP]
    · unfold tc
      rw [Int.emod_eq_of_lt hn (by omega)]; omega
    · intro b; rfl
theorem rbit_l0 (k c : Nat) (hc : (c : Int) ≤ 1000000) (r : Bool × List Int) (o : Int) (g : Bool → Bool → Bool) (ho : (o = 0 ∧ g = gAnd) ∨ (o = 1 ∧ g = gOr) ∨ (o = 2 ∧ g = gXor)) : ∀ (m : Nat) (A B X Y : List Bool), A.length = B.length → X.length = Y.length → A.length + X.length = c → X.length < m →
    brindlewoodref3_Int_Bitwise.l0 k m o r c (A ++ X) (B ++ Y) A.length = some (.inl (r, (c : Int), A ++ List.zipWith g X Y)) := by
  intro m
  induction m with
  | zero => intro A B X Y _ _ _ h; omega
  | succ m ih =>
    intro A B X Y h1 h2 h3 h4
    simp only [brindlewoodref3_Int_Bitwise.l0, brindlewoodref3_Int_Bitwise.b0]
    cases X with
    | nil =>
      cases Y with
      | nil => rw [dlt_f (by simp at h3; omega)]; rfl
      | cons y Y => simp at h2
    | cons x X =>
      cases Y with
      | nil => simp at h2
      | cons y Y =>
        simp only [List.length_cons] at h2 h3 h4
        have e1 : rdB (A ++ x :: X) ((A.length : Nat) : Int) = x := by
          show (A ++ x :: X).getD A.length false = x
          simp [List.getD_eq_getElem?_getD]
        have e2 : rdB (B ++ y :: Y) ((A.length : Nat) : Int) = y := by
          rw [h1]
          show (B ++ y :: Y).getD B.length false = y
          simp [List.getD_eq_getElem?_getD]
        have e3 : w64 ((A.length : Int) + 1) = (((A.length + 1 : Nat)) : Int) := by rw [w64_id (by omega) (by omega)]; omega
        have e4 : ∀ y : Bool, (A ++ x :: X).set A.length y = (A ++ [y]) ++ X := by
          intro y
          rw [List.set_append_right _ _ (by omega), Nat.sub_self, List.append_assoc]; rfl
        have hih : ∀ z : Bool, brindlewoodref3_Int_Bitwise.l0 k m o r c ((A ++ [z]) ++ X) (B ++ y :: Y) ((A.length + 1 : Nat) : Int) = some (.inl (r, (c : Int), A ++ z :: List.zipWith g X Y)) := by
          intro z
          have := ih (A ++ [z]) (B ++ [y]) X Y (by simp; omega) (by omega) (by simp; omega) (by omega)
          rw [List.append_assoc B, List.append_assoc A [z] (List.zipWith g X Y), List.length_append, List.length_singleton] at this
          exact this
        rw [dlt_t (by omega), inR_t (i := (A.length : Nat)) (n := ((A ++ x :: X).length : Nat)) (by omega) (by simp; omega), inR_t (i := (A.length : Nat)) (n := ((B ++ y :: Y).length : Nat)) (by omega) (by simp; omega), e1, e2, natCast_toNat, e3]
        simp only [cond_true, e4, hih, List.zipWith_cons_cons]
        rcases ho with ⟨rfl, rfl⟩ | ⟨rfl, rfl⟩ | ⟨rfl, rfl⟩ <;> cases x <;> cases y <;> rfl
theorem rflip_l0 (k c : Nat) (hc : (c : Int) ≤ 1000000) (r : Bool × List Int) : ∀ (m : Nat) (A X : List Bool), A.length + X.length = c → X.length < m →
    brindlewoodref3_Int_Bitwise.l1 k m r c (A ++ X) A.length = some (.inl (r, A ++ X.map (fun b => !b))) := by
  intro m
  induction m with
  | zero => intro A X _ h; omega
  | succ m ih =>
    intro A X h3 h4
    simp only [brindlewoodref3_Int_Bitwise.l1, brindlewoodref3_Int_Bitwise.b1]
    cases X with
    | nil => rw [dlt_f (by simp at h3; omega)]; rfl
    | cons x X =>
      simp only [List.length_cons] at h3 h4
      have e1 : rdB (A ++ x :: X) ((A.length : Nat) : Int) = x := by
        show (A ++ x :: X).getD A.length false = x
        simp [List.getD_eq_getElem?_getD]
      have e3 : w64 ((A.length : Int) + 1) = (((A.length + 1 : Nat)) : Int) := by rw [w64_id (by omega) (by omega)]; omega
      have e4 : (A ++ x :: X).set A.length (!x) = (A ++ [!x]) ++ X := by
        rw [List.set_append_right _ _ (by omega), Nat.sub_self, List.append_assoc]; rfl
      have hih := ih (A ++ [!x]) X (by simp; omega) (by omega)
      rw [List.length_append, List.length_singleton] at hih
      rw [dlt_t (by omega), inR_t (i := (A.length : Nat)) (n := ((A ++ x :: X).length : Nat)) (by omega) (by simp; omega), e1, natCast_toNat, e3, e4]
      simp only [cond_true, hih]
      rw [List.append_assoc, List.map_cons]; rfl
theorem top_bit {y : List Bool} {n : Nat} (h : y.length = n + 1) : rdB y ((n : Nat) : Int) = decide (2 ^ n ≤ bv y) := by
  obtain ⟨m, x, rfl⟩ : ∃ m x, y = m ++ [x] := ⟨_, _, (List.dropLast_concat_getLast (show y ≠ [] by intro e; subst e; simp at h)).symm⟩
  have hm : m.length = n := by simpa using h
  have e1 : rdB (m ++ [x]) ((n : Nat) : Int) = x := by
    rw [← hm]
    show (m ++ [x]).getD m.length false = x
    simp [List.getD_eq_getElem?_getD]
  have hlt := bv_lt m
  rw [hm] at hlt
  have hb : bv (m ++ [x]) = bv m + 2 ^ n * b01 x := by rw [bv_app, hm]; rfl
  rw [e1, hb]
  cases x
  · rw [decide_eq_false (by show ¬ 2 ^ n ≤ bv m + 2 ^ n * 0; omega)]
  · rw [decide_eq_true (by show 2 ^ n ≤ bv m + 2 ^ n * 1; omega)]
theorem bits_rng {v : Int} {n : Nat} (h : (dg 2 v.natAbs).length ≤ n) : -(2 : Int) ^ n ≤ v ∧ v < (2 : Int) ^ n := by
  have h1 := (dg_len_iff (b := 2) (by decide)).1 h
  have h3 : ((2 ^ n : Nat) : Int) = (2 : Int) ^ n := by rw [Int.natCast_pow]; rfl
  omega
theorem Bitwise_ok {k : Nat} (hk : 100000000000000 < k) {v w : Int} (hv : v.natAbs < ilim) (hw : w.natAbs < ilim) {o : Int} {g : Bool → Bool → Bool} (ho : (o = 0 ∧ g = gAnd) ∨ (o = 1 ∧ g = gOr) ∨ (o = 2 ∧ g = gXor)) :
    ∃ r, brindlewoodref3_Int_Bitwise k (decide (v < 0), dg 65536 v.natAbs) (decide (w < 0), dg 65536 w.natAbs) o = some r ∧ RI r (bwI g v w) := by
  have l1 := ilim16_iff.2 hv
  have l2 := ilim16_iff.2 hw
  have b1 := len2_of16 v.natAbs
  have b2 := len2_of16 w.natAbs
  obtain ⟨n, hn⟩ : ∃ n : Nat, n = (dg 2 v.natAbs).length + (dg 2 w.natAbs).length + 1 := ⟨_, rfl⟩
  obtain ⟨X, x1, x2, x3⟩ := rtwos_ok (k := k) (by omega) (v := v) (c := n + 1) (by omega) (by omega) (by omega)
  obtain ⟨Y, y1, y2, y3⟩ := rtwos_ok (k := k) (by omega) (v := w) (c := n + 1) (by omega) (by omega) (by omega)
  have e1 : w64 (w64 (((dg 2 v.natAbs).length : Int) + (dg 2 w.natAbs).length) + 2) = ((n + 1 : Nat) : Int) := by
    rw [w64_id (n := ((dg 2 v.natAbs).length : Int) + (dg 2 w.natAbs).length) (by omega) (by omega), w64_id (by omega) (by omega)]; omega
  have hL := rbit_l0 k (n + 1) (by omega) (false, []) o g ho k [] [] X Y rfl (by omega) (by simp; omega) (by omega)
  have hL' : brindlewoodref3_Int_Bitwise.l0 k k o (false, []) ((n + 1 : Nat) : Int) X Y 0 = some (.inl ((false, []), ((n + 1 : Nat) : Int), List.zipWith g X Y)) := hL
  have hz : (List.zipWith g X Y).length = n + 1 := by rw [List.length_zipWith]; omega
  have hb := bv_zip g X Y (by omega)
  have hr := bwI_nb g (n := n) (v := v) (w := w) (bits_rng (by omega)) (bits_rng (by omega))
  rw [x2, x3, y3] at hb
  rw [← hb] at hr
  have ht := top_bit hz
  have e2 : w64 (((n + 1 : Nat) : Int) - 1) = (n : Nat) := by rw [w64_id (by omega) (by omega)]; omega
  unfold brindlewoodref3_Int_Bitwise
  simp only
  rw [Ones_ok (by omega) (by omega), Ones_ok (by omega) (by omega)]
  simp only [Option.bind_some, List.length_map]
  rw [e1, x1, y1]
  simp only [Option.bind_some]
  rw [hL']
  simp only [joinB_inl]
  generalize hZ : List.zipWith g X Y = Z at *
  have hlt := bv_lt Z
  rw [hz] at hlt
  rw [e2, inR_t (by omega) (by rw [hz]; omega), ht]
  simp only [cond_true]
  have hp2 : ((2 ^ (n + 1) : Nat) : Int) = (2 : Int) ^ (n + 1) := by rw [Int.natCast_pow]; rfl
  unfold sv at hr
  rw [Nat.add_sub_cancel] at hr
  by_cases hs : 2 ^ n ≤ bv Z
  · rw [decide_eq_true hs]
    simp only [Bool.not_true, cond_false]
    have hF := rflip_l0 k (n + 1) (by omega) (false, []) k [] Z (by simp; omega) (by omega)
    have hF' : brindlewoodref3_Int_Bitwise.l1 k k (false, []) ((n + 1 : Nat) : Int) Z 0 = some (.inl ((false, []), Z.map (fun b => !b))) := hF
    rw [hF']
    simp only [joinB_inl]
    have hnl : (Z.map (fun b => !b)).length = n + 1 := by rw [List.length_map, hz]
    have hnb := bv_not Z
    rw [hz] at hnb
    have hlb := len_bits (l := Z.map (fun b => !b))
    have ho1 : (dg 65536 1).length ≤ 1 := dg_len hB16 (by decide)
    rw [Binary_bv (by omega) (by omega), one16 (by omega)]
    simp only [Option.bind_some]
    rw [Plus_ok (by omega) (by omega) (by omega)]
    refine ⟨_, rfl, ?_, ?_⟩
    · rw [hr, if_pos hs]
      show dg 65536 _ = dg 65536 _
      congr 1
      omega
    · intro _
      rw [hr, if_pos hs, decide_eq_true (by omega)]
  · rw [decide_eq_false hs]
    simp only [Bool.not_false, cond_true]
    rw [Binary_bv (by omega) (by omega)]
    refine ⟨_, rfl, ?_, ?_⟩
    · rw [hr, if_neg hs]; rfl
    · intro _
      rw [hr, if_neg hs, decide_eq_false (by omega)]
end Go.Pl
