/- IntegerTexts: its plain function answers true.  Conditions: values within their kinds, texts no longer than memory. -/
import Derived.Test.YtpigdmmofiiacaaGreatPiO
set_option linter.unusedVariables false
set_option linter.unusedSimpArgs false
namespace Go.Pl
open Go Go.Ev Go.Sh
theorem txt_rng {b : Nat} (hb : 2 ≤ b) (hb' : b ≤ 36) (x : Int) : ∀ c ∈ txt b x, 0 ≤ c ∧ c < 256 := by
  intro c hc
  unfold txt at hc
  split at hc
  · simp only [List.mem_singleton] at hc; omega
  · rcases List.mem_append.1 hc with h | h
    · split at h
      · simp only [List.mem_singleton] at h; omega
      · simp at h
    · obtain ⟨d, hd, rfl⟩ := List.mem_map.1 h
      have := dgs_bounds hb x.natAbs d hd
      exact al_rng this.1 (by omega)
theorem txt_len {b : Nat} (hb : 2 ≤ b) {x : Int} (hx : x.natAbs < ilim) : (txt b x).length ≤ 4097 := by
  have h := ilim_dg hb hx
  unfold txt
  split
  · decide
  · rw [List.length_append, List.length_map, List.length_reverse]
    have : (if x < 0 then [(45 : Int)] else []).length ≤ 1 := by split <;> decide
    omega
theorem rev_head {b : Nat} (hb : 2 ≤ b) {n : Nat} (hn : 0 < n) : ∃ d l, (dg b n).reverse = d :: l ∧ d ≠ 0 := by
  have hp := (dg_len_pos (n := n) hb).2 hn
  have hlast := dg_last hb n
  cases h : (dg b n).reverse with
  | nil =>
    have := congrArg List.length h
    rw [List.length_reverse, List.length_nil] at this
    omega
  | cons d l =>
    refine ⟨d, l, rfl, fun h0 => hlast ?_⟩
    have h2 : (dg b n).getLast? = (dg b n).reverse.head? := by simp
    rw [h2, h, h0]; rfl
theorem al_no {d : Int} (h0 : 0 ≤ d) : al d ≠ 45 ∧ (d ≠ 0 → d < 36 → al d ≠ 48) := by
  unfold al
  constructor
  · split <;> omega
  · intro h1 h2; split <;> omega
theorem map_dval_al {b : Int} (hb' : b ≤ 36) : ∀ l : List Int, (∀ d ∈ l, 0 ≤ d ∧ d < b) → (l.map al).map (dval b) = l ∧ allD b (l.map al) := by
  intro l
  induction l with
  | nil => intro _; exact ⟨rfl, by simp [allD]⟩
  | cons d l ih =>
    intro h
    have hd := h d (by simp)
    obtain ⟨h1, h2⟩ := ih fun e he => h e (by simp [he])
    have e := dval_al hd.1 hd.2 hb'
    refine ⟨by rw [List.map_cons, List.map_cons, e, h1], ?_⟩
    rw [List.map_cons, allD_cons, e]
    exact ⟨hd.1, h2⟩
theorem txt_back {b : Nat} (hb : 2 ≤ b) (hb' : b ≤ 36) (x : Int) : ¬ tbad b (txt b x) ∧ tval b (txt b x) = x := by
  by_cases h0 : x = 0
  · subst h0
    have e1 : txt b 0 = [48] := rfl
    have e2 : trest [(48 : Int)] = [48] := rfl
    have e3 : tneg [(48 : Int)] = false := rfl
    have e4 : dval (b : Int) 48 = 0 := by unfold dval; rw [if_pos (by omega)]; rfl
    rw [e1]
    constructor
    · rintro (h | h | h)
      · rw [e2] at h; exact absurd h (by simp)
      · exact h.2 rfl
      · rw [e2] at h
        exact h (by rw [allD_cons, e4]; exact ⟨by omega, by simp [allD]⟩)
    · unfold tval
      rw [e2, e3, List.map_cons, e4]
      simp [hv]
  · have hn0 : 0 < x.natAbs := by omega
    obtain ⟨d, l, hd, hd0⟩ := rev_head hb hn0
    have hb2 := dgs_bounds hb x.natAbs
    obtain ⟨m1, m2⟩ := map_dval_al (by omega : (b : Int) ≤ 36) _ hb2
    have hval : hv b (dg b x.natAbs).reverse 0 = x.natAbs := by rw [hv_rev hb]; omega
    have hdb := hb2 d (by rw [hd]; simp)
    have hno := al_no hdb.1
    have e1 : txt b x = (if x < 0 then [45] else []) ++ (dg b x.natAbs).reverse.map al := by unfold txt; rw [if_neg h0]
    have key : tneg (txt b x) = decide (x < 0) ∧ trest (txt b x) = (dg b x.natAbs).reverse.map al := by
      rw [e1]
      by_cases hneg : x < 0
      · rw [if_pos hneg, decide_eq_true hneg]
        have h1 : tneg ([(45 : Int)] ++ (dg b x.natAbs).reverse.map al) = true := rfl
        refine ⟨h1, ?_⟩
        unfold trest
        rw [h1]; rfl
      · rw [if_neg hneg, decide_eq_false hneg]
        have h1 : tneg ([] ++ (dg b x.natAbs).reverse.map al) = false := by
          rw [hd]; simp [tneg, hno.1]
        refine ⟨h1, ?_⟩
        unfold trest
        rw [h1]; rfl
    obtain ⟨k1, k2⟩ := key
    constructor
    · rintro (h | h | h)
      · rw [k2, hd] at h; exact absurd h (by simp)
      · rw [k2, hd] at h
        have := h.1
        simp only [List.map_cons, List.head?_cons, Option.some.injEq] at this
        exact hno.2 hd0 (by omega) this
      · rw [k2] at h; exact h m2
    · unfold tval
      rw [k1, k2, m1, hval]
      by_cases hneg : x < 0
      · rw [decide_eq_true hneg, if_pos rfl]; omega
      · rw [decide_eq_false hneg, if_neg (by simp)]; omega
def readPart (k : Nat) (b : Int) (s : ByteArray) (r : Bool × List Int) (e : Int × Int) (ok : Bool) : Option Bool :=
  bif (!ok) then ((brindlewoodref3_At 4 (-2)).bind fun t15 => bif ((e.1 == t15.1) && ((e.2 == t15.2) && true)) then ((brindlewoodref3_NoInt r).bind fun t16 => some t16) else (some false)) else (bif decide (4097 < (s.size : Int)) then ((brindlewoodref3_At 3 (-1)).bind fun t17 => bif ((e.1 == t17.1) && ((e.2 == t17.2) && true)) then ((brindlewoodref3_NoInt r).bind fun t18 => some t18) else (some false)) else ((brindlewoodref3_IntText k s b).bind fun t19 => bif (!t19.2) then ((brindlewoodref3_At 1 (-1)).bind fun t20 => bif ((e.1 == t20.1) && ((e.2 == t20.2) && true)) then ((brindlewoodref3_NoInt r).bind fun t21 => some t21) else (some false)) else ((brindlewoodlaw3_yields k r e t19.1 (0, 0)).bind fun t22 => some t22)))
theorem Parse_no {k : Nat} {s : ByteArray} {b : Int} (hb : b < 2 ∨ 36 < b) : integer_Parse k s b = some ((false, []), 4, -2) := by
  unfold integer_Parse
  by_cases h : b < 2
  · rw [dlt_t h]; rfl
  · rw [dlt_f (by omega), dlt_t (a := 36) (by omega)]; rfl
theorem Parse_long {k : Nat} {s : ByteArray} {b : Int} (hb : 2 ≤ b) (hb' : b ≤ 36) (hs : 4097 < (s.size : Int)) : integer_Parse k s b = some ((false, []), 3, -1) := by
  unfold integer_Parse
  have h3 : decide ((4097 : Int) < (s.size : Int)) = true := dlt_t hs
  rw [dlt_f hb, dlt_f hb']
  simp only [cond_false, joinB_inl, h3]
  rfl
theorem read_all (b : Int) (s : ByteArray) : ∃ r e, integer_Parse 1000000000000000000 s b = some (r, e) ∧ readPart 1000000000000000000 b s r e (bif decide (2 ≤ b) then decide (b ≤ 36) else false) = some true := by
  by_cases hb : 2 ≤ b
  · by_cases hb' : b ≤ 36
    · have hok : (bif decide (2 ≤ b) then decide (b ≤ 36) else false) = true := by rw [decide_eq_true hb, decide_eq_true hb']; rfl
      rw [hok]
      by_cases hs : 4097 < (s.size : Int)
      · refine ⟨_, _, Parse_long hb hb' hs, ?_⟩
        unfold readPart
        rw [dlt_t hs]; rfl
      · obtain ⟨n, rfl⟩ := Int.eq_ofNat_of_zero_le (show 0 ≤ b by omega)
        obtain ⟨p1, p2⟩ := Parse_ok (k := 1000000000000000000) rfl (b := n) (by omega) (by omega) s (by omega)
        obtain ⟨i1, i2⟩ := IntText_ok (k := 1000000000000000000) rfl (b := n) (by omega) (by omega) s (by omega)
        unfold readPart
        rw [dlt_f (by omega)]
        by_cases hbad : tbad n (bytesOf s)
        · refine ⟨_, _, p1 hbad, ?_⟩
          rw [i1 hbad]; rfl
        · obtain ⟨c, c1, c2⟩ := i2 hbad
          refine ⟨(ires (tval n (bytesOf s))).1, (ires (tval n (bytesOf s))).2, p2 hbad, ?_⟩
          have hY := yields_ok (k := 1000000000000000000) (by decide) c2
          rw [c1]
          simp only [Bool.not_true, cond_false, Option.bind_some, hY]
    · have hok : (bif decide (2 ≤ b) then decide (b ≤ 36) else false) = false := by rw [decide_eq_false hb']; cases decide (2 ≤ b) <;> rfl
      rw [hok]
      exact ⟨_, _, Parse_no (.inr (by omega)), rfl⟩
  · have hok : (bif decide (2 ≤ b) then decide (b ≤ 36) else false) = false := by rw [decide_eq_false hb]; rfl
    rw [hok]
    exact ⟨_, _, Parse_no (.inl (by omega)), rfl⟩
theorem integerTexts_plain {a : Bool × List Int} {b : Int} {s : ByteArray} (ha : Wf IT a) : brindlewoodlaw3_IntegerTexts 1000000000000000000 a b s = some true := by
  obtain ⟨r, e, hr, hrest⟩ := read_all b s
  have hpre : ∀ (x : ByteArray) (y : Int × Int) (z : Bool × List Int) (w : Int × Int), (bif decide (2 ≤ b) then (some (.inl (b, s, a, x, y, z, w, decide (b ≤ 36)))) else (some (.inl (b, s, a, x, y, z, w, false))) : Option ((Int × ByteArray × (Bool × List Int) × ByteArray × (Int × Int) × (Bool × List Int) × (Int × Int) × Bool) ⊕ Bool)) = some (.inl (b, s, a, x, y, z, w, (bif decide (2 ≤ b) then decide (b ≤ 36) else false))) := by
    intro x y z w
    cases decide (2 ≤ b) <;> rfl
  unfold readPart at hrest
  unfold brindlewoodlaw3_IntegerTexts
  rw [hr, counts_ok]
  generalize hok : (bif decide (2 ≤ b) then decide (b ≤ 36) else false) = ok at *
  have hee : (ByteArray.empty.toList == ByteArray.empty.toList) = true := by simp
  rcases int_vals ha with ⟨x, hx, rfl, va⟩ | va
  · have hV : brindlewoodref3_IntOk (iz x) = some true := by rw [rIntOk]; exact va
    cases ok with
    | false =>
      have hb : b < 2 ∨ 36 < b := by
        by_cases h1 : 2 ≤ b
        · by_cases h2 : b ≤ 36
          · rw [decide_eq_true h1, decide_eq_true h2] at hok; cases hok
          · exact .inr (by omega)
        · exact .inl (by omega)
      rw [iText_no2 hx hb]
      simp only [Option.bind_some, Bool.not_true, cond_false, hpre, joinB_inl, hV, Bool.not_false, cond_true, brindlewoodref3_At, beq_self_eq_true, Bool.and_self, hee]
      exact hrest
    | true =>
      have hb : 2 ≤ b ∧ b ≤ 36 := by
        by_cases h1 : 2 ≤ b
        · by_cases h2 : b ≤ 36
          · exact ⟨h1, h2⟩
          · rw [decide_eq_true h1, decide_eq_false h2] at hok; cases hok
        · rw [decide_eq_false h1] at hok; cases hok
      obtain ⟨n, rfl⟩ := Int.eq_ofNat_of_zero_le (show 0 ≤ b by omega)
      have hbn : 2 ≤ n := by omega
      have hbn' : n ≤ 36 := by omega
      have hT := iText_ok (k := 1000000000000000000) rfl hx hbn hbn'
      have hTO := TextOf_ok (k := 1000000000000000000) (by decide) hx hbn hbn'
      have hby := bytes_of (txt_rng hbn hbn' x)
      have hsz : ((ofBytes (txt n x)).size : Int) ≤ 4097 := by
        have h1 := bytes_len (ofBytes (txt n x))
        rw [hby] at h1
        have := txt_len hbn hx
        omega
      obtain ⟨p1, p2⟩ := Parse_ok (k := 1000000000000000000) rfl hbn hbn' (ofBytes (txt n x)) hsz
      rw [hby] at p2
      obtain ⟨q1, q2⟩ := txt_back hbn hbn' x
      have hP := p2 q1
      rw [q2, ires_ok hx] at hP
      have hS := SameInts_ok (k := 1000000000000000000) (by decide) hx hx
      have hIO := IntOf_ok (k := 1000000000000000000) (by decide) hx
      have htt : ((ofBytes (txt n x)).toList == (ofBytes (txt n x)).toList) = true := by simp
      rw [hT]
      simp only [Option.bind_some, Bool.not_true, cond_false, hpre, joinB_inl, hV, cond_true, brindlewoodref3_At, beq_self_eq_true, Bool.and_self, bne_self_eq_false, hP, hIO, hTO, hS, decide_true]
      exact hrest
  · have hV : brindlewoodref3_IntOk a = some false := by rw [rIntOk]; exact va
    rw [iText_no1 va]
    simp only [Option.bind_some, Bool.not_true, cond_false, hpre, joinB_inl, hV, Bool.not_false, cond_true, brindlewoodref3_At, beq_self_eq_true, Bool.and_self, hee]
    exact hrest
end Go.Pl
