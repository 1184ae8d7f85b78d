/- RationalTexts: its plain function answers true.  Conditions: values within their kinds, lists no longer than memory. -/
import Derived.Test.YtpigdmmofiiacaaGreatRaK
set_option linter.unusedVariables false
set_option linter.unusedSimpArgs false
namespace Go.Pl
open Go Go.Ev Go.Sh
theorem tval_len {l : List Int} (h : ¬ tbad 10 l) (hl : l.length ≤ 4097) : (dg 65536 (tval 10 l).natAbs).length ≤ 4097 := by
  have h3 : allD 10 (trest l) := Decidable.byContradiction fun e => h (.inr (.inr e))
  have hr : (trest l).length ≤ l.length := by unfold trest; split <;> simp
  obtain ⟨h4, _⟩ := hv_nat (b := 10) h3 (by decide) (by decide) (by omega)
  have h5 := hv_lt (b := 10) (by decide) ((trest l).map (dval (10 : Nat))) 0 0 0 (by decide) h4
  rw [List.length_map, Nat.zero_add] at h5
  have h6 : (tval 10 l).natAbs = hv 10 ((trest l).map (dval (10 : Nat))) 0 := by
    unfold tval
    split
    · rw [Int.natAbs_neg, Int.natAbs_natCast]
    · rw [Int.natAbs_natCast]
  rw [h6]
  have h7 : 10 ^ (trest l).length ≤ 65536 ^ (trest l).length := Nat.pow_le_pow_left (by decide) _
  exact Nat.le_trans (dg_len hB16 (Nat.lt_of_lt_of_le h5 h7)) (by omega)
theorem textsTail_ok {k : Nat} (hk : k = 1000000000000000000) {s : ByteArray} {y : Rt} {g : Int × Int} (hp : rational_Parse k s = some (y, g)) : textsTail k (s, y, g) = some true := by
  have hk1 : 100000000000000 < k := by rw [hk]; decide
  unfold textsTail
  simp only
  by_cases hs : 4000 < (s.size : Int)
  · rw [qParse_long hs] at hp
    cases hp
    rw [dlt_t hs]
    simp only [cond_true, rAt, Option.bind_some]
    rw [gives_err (by decide)]; rfl
  · rw [qParse_ok hk (by omega)] at hp
    rw [dlt_f (by omega)]
    simp only [cond_false]
    have hl := bytes_len s
    have hle := slash_le (bytesOf s)
    have hb := bar_l0 k s (by omega) y g k 0 (by omega) (by omega)
    have hb' : brindlewoodlaw3_RationalTexts.l0 k k s y g 0 = _ := hb
    rw [hb']
    simp only [joinB_inl]
    have d0 : decide (0 ≤ 0) = true := rfl
    rw [d0, dle_t (a := 0) (by omega), dle_t (a := (slash (bytesOf s) : Int)) (by omega)]
    simp only [Bool.and_self, cond_true, Int.toNat_natCast]
    have b1 := bytes_take s (slash (bytesOf s))
    have s1 := bytes_len (s.extract 0 (slash (bytesOf s)))
    rw [b1, List.length_take] at s1
    obtain ⟨i1, i2⟩ := IntText_ok hk (b := 10) (by decide) (by decide) (s.extract 0 (slash (bytesOf s))) (by omega)
    rw [b1] at i1 i2
    have c10 : ((10 : Nat) : Int) = 10 := rfl
    rw [c10] at i1 i2
    have hN1 : brindlewoodref3_Number k 1 = some (false, dg 65536 1) := by rw [rNumber_ok (by omega) (by decide) (by decide)]; rfl
    have lA : ((bytesOf s).take (slash (bytesOf s))).length ≤ 4097 := by rw [List.length_take]; omega
    have t1v : tval 10 [49] = 1 := by
      have h := (txt_back (b := 10) (by decide) (by decide) 1).2
      rwa [txt_one (by decide)] at h
    have t1b : ¬ tbad 10 [49] := by
      have h := (txt_back (b := 10) (by decide) (by decide) 1).1
      rwa [txt_one (by decide)] at h
    have hyg : ∀ (N : Bool × List Int) (ok : Bool) (M : Bool × List Int), readTail k (y, g, N, ok, M) = readTail k ((pres ((bytesOf s).take (slash (bytesOf s))) (behind (bytesOf s)) (decide (slash (bytesOf s) < s.size))).1, (pres ((bytesOf s).take (slash (bytesOf s))) (behind (bytesOf s)) (decide (slash (bytesOf s) < s.size))).2, N, ok, M) := by
      intro N ok M
      have e := Option.some.inj hp
      rw [e]
    by_cases hm : slash (bytesOf s) < s.size
    · have hbe : behind (bytesOf s) = (bytesOf s).drop (slash (bytesOf s) + 1) := by unfold behind; rw [if_pos (by omega)]
      have b2 := bytes_drop s (slash (bytesOf s) + 1)
      have s2 := bytes_len (s.extract (slash (bytesOf s) + 1) (Int.toNat (s.size : Int)))
      rw [b2, List.length_drop] at s2
      obtain ⟨j1, j2⟩ := IntText_ok hk (b := 10) (by decide) (by decide) (s.extract (slash (bytesOf s) + 1) (Int.toNat (s.size : Int))) (by omega)
      rw [b2, ← hbe, c10] at j1 j2
      rw [hbe.symm] at b2
      have lD : (behind (bytesOf s)).length ≤ 4097 := by rw [hbe, List.length_drop]; omega
      have e1 : w64 ((slash (bytesOf s) : Int) + 1) = ((slash (bytesOf s) + 1 : Nat) : Int) := by rw [w64_id (by omega) (by omega)]; omega
      have main : ∀ (N M : Bool × List Int) (ok : Bool), (ok = true ↔ ¬ (tbad 10 ((bytesOf s).take (slash (bytesOf s))) ∨ tbad 10 (behind (bytesOf s)) ∨ (decide (slash (bytesOf s) < s.size) = true ∧ tval 10 (behind (bytesOf s)) ≤ 1))) → (ok = true → RI N (tval 10 ((bytesOf s).take (slash (bytesOf s))))) → (ok = true → RI M (tval 10 (behind (bytesOf s)))) → readTail k (y, g, N, ok, M) = some true := by
        intro N M ok h1 h2 h3
        rw [hyg]
        by_cases ho : ok = true
        · have hnb := h1.1 ho
          exact readTail_ok hk1 (fun h => by rw [decide_eq_true hm] at h; cases h) h1 h2 h3 (Nat.le_trans (tval_len (fun h => hnb (.inl h)) lA) (by decide)) (Nat.le_trans (tval_len (fun h => hnb (.inr (.inl h))) lD) (by decide))
        · have ho' : ok = false := by cases ok <;> simp at ho ⊢
          have hbad : tbad 10 ((bytesOf s).take (slash (bytesOf s))) ∨ tbad 10 (behind (bytesOf s)) ∨ (decide (slash (bytesOf s) < s.size) = true ∧ tval 10 (behind (bytesOf s)) ≤ 1) := Decidable.byContradiction fun h => ho (h1.2 h)
          rw [pres_bad hbad, ho']
          unfold readTail
          simp only [Bool.not_false, cond_true, rAt, Option.bind_some]
          rw [gives_err (by decide)]; rfl
      have m1 := decide_eq_true hm
      by_cases ba : tbad 10 ((bytesOf s).take (slash (bytesOf s)))
      · rw [i1 ba]
        simp only [Option.bind_some, hN1]
        rw [dlt_t (by omega), e1, dle_t (a := 0) (by omega), dle_t (a := ((slash (bytesOf s) + 1 : Nat) : Int)) (by omega), dle_t (a := (s.size : Int)) (by omega)]
        simp only [Bool.and_self, cond_true, Int.toNat_natCast]
        rw [Int.toNat_natCast] at j1 j2
        have hh : ∀ M : Bool × List Int, readTail k (y, g, (false, []), false, M) = some true := fun M => main _ _ _ ⟨fun h => (by cases h), fun h => absurd (.inl ba) h⟩ (fun h => by cases h) (fun h => by cases h)
        by_cases bd : tbad 10 (behind (bytesOf s))
        · rw [j1 bd]
          simp only [Option.bind_some, cond_false, joinB_inl]
          exact hh _
        · obtain ⟨M, e2, _⟩ := j2 bd
          rw [e2]
          simp only [Option.bind_some, cond_false, joinB_inl]
          exact hh _
      · obtain ⟨N, e3, rN⟩ := i2 ba
        rw [e3]
        simp only [Option.bind_some, hN1]
        rw [dlt_t (by omega), e1, dle_t (a := 0) (by omega), dle_t (a := ((slash (bytesOf s) + 1 : Nat) : Int)) (by omega), dle_t (a := (s.size : Int)) (by omega)]
        simp only [Bool.and_self, cond_true, Int.toNat_natCast]
        rw [Int.toNat_natCast] at j1 j2
        by_cases bd : tbad 10 (behind (bytesOf s))
        · rw [j1 bd]
          simp only [Option.bind_some, cond_false, joinB_inl]
          exact main _ _ _ ⟨fun h => (by cases h), fun h => absurd (.inr (.inl bd)) h⟩ (fun h => by cases h) (fun h => by cases h)
        · obtain ⟨M, e2, rM⟩ := j2 bd
          rw [e2]
          simp only [Option.bind_some, cond_true, hN1]
          have hM := tval_len bd lD
          rw [iOrder_ok (by omega) rM (RI_nat 1) (by omega) (by show ((dg 65536 1).length : Int) ≤ _; rw [show (dg 65536 1) = [1] from by rw [dg_pos (by decide) (by decide)]; rfl]; decide)]
          simp only [Option.bind_some, joinB_inl]
          refine main _ _ _ ?_ (fun _ => rN) (fun _ => rM)
          constructor
          · intro h
            rintro (h1 | h1 | ⟨_, h1⟩)
            · exact ba h1
            · exact bd h1
            · have hle : sgn (tval 10 (behind (bytesOf s))) ((1 : Nat) : Int) ≤ 0 := by
                unfold sgn
                by_cases h2 : tval 10 (behind (bytesOf s)) < ((1 : Nat) : Int)
                · rw [if_pos h2]; decide
                · rw [if_neg h2, if_neg (by omega)]; decide
              have hd : decide (0 < sgn (tval 10 (behind (bytesOf s))) ((1 : Nat) : Int)) = false := decide_eq_false (by omega)
              have h' : decide (0 < sgn (tval 10 (behind (bytesOf s))) ((1 : Nat) : Int)) = true := h
              rw [hd] at h'
              cases h'
          · intro h
            have : 1 < tval 10 (behind (bytesOf s)) := Int.not_le.1 fun h1 => h (.inr (.inr ⟨m1, h1⟩))
            have : sgn (tval 10 (behind (bytesOf s))) ((1 : Nat) : Int) = 1 := by unfold sgn; rw [if_neg (by omega), if_pos (by omega)]
            rw [this]; rfl
    · have hbe : behind (bytesOf s) = [49] := by unfold behind; rw [if_neg (by omega)]
      have m1 : decide (slash (bytesOf s) < s.size) = false := decide_eq_false hm
      have main : ∀ (N M : Bool × List Int) (ok : Bool), (ok = true ↔ ¬ tbad 10 ((bytesOf s).take (slash (bytesOf s)))) → (ok = true → RI N (tval 10 ((bytesOf s).take (slash (bytesOf s))))) → RI M 1 → readTail k (y, g, N, ok, M) = some true := by
        intro N M ok h1 h2 h3
        rw [hyg, hbe, m1]
        by_cases ho : ok = true
        · have hnb := h1.1 ho
          refine readTail_ok hk1 (fun _ => rfl) ⟨fun _ => ?_, fun h => h1.2 fun e => h (.inl e)⟩ h2 (fun _ => by rw [t1v]; exact h3) (Nat.le_trans (tval_len hnb lA) (by decide)) (Nat.le_trans (tval_len t1b (by decide)) (by decide))
          rintro (h | h | ⟨h, _⟩)
          · exact hnb h
          · exact t1b h
          · cases h
        · have ho' : ok = false := by cases ok <;> simp at ho ⊢
          have hbad : tbad 10 ((bytesOf s).take (slash (bytesOf s))) := Decidable.byContradiction fun h => ho (h1.2 h)
          rw [pres_bad (.inl hbad), ho']
          unfold readTail
          simp only [Bool.not_false, cond_true, rAt, Option.bind_some]
          rw [gives_err (by decide)]; rfl
      by_cases ba : tbad 10 ((bytesOf s).take (slash (bytesOf s)))
      · rw [i1 ba]
        simp only [Option.bind_some, hN1]
        rw [dlt_f (by omega)]
        simp only [cond_false, joinB_inl]
        exact main _ _ _ ⟨fun h => (by cases h), fun h => absurd ba h⟩ (fun h => by cases h) (RI_nat 1)
      · obtain ⟨N, e3, rN⟩ := i2 ba
        rw [e3]
        simp only [Option.bind_some, hN1]
        rw [dlt_f (by omega)]
        simp only [cond_false, joinB_inl]
        exact main _ _ _ ⟨fun _ => ba, fun _ => rfl⟩ (fun _ => rN) (RI_nat 1)
theorem bytes_app (a b : ByteArray) : bytesOf (a ++ b) = bytesOf a ++ bytesOf b := by
  rw [bytes_data, bytes_data, bytes_data, ByteArray.data_append, Array.toList_append, List.map_append]
theorem txt_bytes (x : Int) : bytesOf (ofBytes (txt 10 x)) = txt 10 x := bytes_of (txt_rng (by decide) (by decide) x)
theorem txt_size {x : Int} (hx : x.natAbs < ilim) : (ofBytes (txt 10 x)).size ≤ 4097 := by
  have h := bytes_len (ofBytes (txt 10 x))
  rw [txt_bytes] at h
  have := txt_len (b := 10) (by decide) hx
  omega
theorem txt_nobar (x : Int) : 47 ∉ txt 10 x := by
  intro h
  unfold txt at h
  have key : ∀ d : Int, 0 ≤ d → d < 10 → al d ≠ 47 := by intro d h1 h2; unfold al; rw [if_pos h2]; omega
  have hk : 47 ∉ (dg 10 x.natAbs).reverse.map al := by
    intro h
    obtain ⟨d, hd, e⟩ := List.mem_map.1 h
    have := dgs_bounds (b := 10) (by decide) x.natAbs d hd
    exact key d this.1 this.2 e
  split at h
  · simp at h
  · rcases List.mem_append.1 h with h | h
    · split at h <;> simp at h
    · exact hk h
theorem den_one (q : Nat) {β : Type} (x y : Option β) : (bif (((dg 4294967296 q).length : Int) == 1) then (bif inR 0 ((dg 4294967296 q).length : Int) then (bif ((rd (dg 4294967296 q) 0) == 1) then x else y) else none) else y) = if q = 1 then x else y := by
  rcases Nat.lt_or_ge q 4294967296 with hg | hg
  · rcases Nat.eq_zero_or_pos q with h0 | h0
    · subst h0; rfl
    · have e : dg 4294967296 q = [(q : Int)] := by
        rw [dg_pos hB32 h0, Nat.mod_eq_of_lt hg, Nat.div_eq_of_lt hg]; rfl
      rw [e]
      show (bif ((q : Int) == 1) then x else y) = _
      by_cases h1 : q = 1
      · subst h1; rfl
      · rw [if_neg h1, beq_f (by omega)]; rfl
  · have hl : 2 ≤ (dg 4294967296 q).length := by
      refine Nat.not_lt.1 fun h => ?_
      have := (dg_len_iff (b := 4294967296) (n := q) (m := 1) hB32).1 (by omega)
      omega
    rw [beq_f (by omega), if_neg (by omega)]; rfl
def rtext (p : Int) (q : Nat) : ByteArray := if q = 1 then ofBytes (txt 10 p) else (ofBytes (txt 10 p) ++ BAR) ++ ofBytes (txt 10 (q : Int))
theorem qText_ok {k : Nat} (hk : k = 1000000000000000000) {p : Int} {q : Nat} (h : RatV p q) : rational_Text k (rq p q) = some (rtext p q, 0, 0) := by
  have hk1 : 20000000000 < k := by rw [hk]; decide
  have s1 := txt_size h.1
  have s2 := txt_size (x := (q : Int)) (by simpa using h.2.1)
  have sB : BAR.size = 1 := rfl
  have sB' : (⟨#[47]⟩ : ByteArray).size = 1 := rfl
  unfold rational_Text
  rw [qcheck1 hk1 h]
  simp only [Option.bind_some, bne_self_eq_false, cond_false, rq]
  have e1 := iText_ok hk (x := p) (b := 10) h.1 (by decide) (by decide)
  have e2 := iText_ok hk (x := (q : Int)) (b := 10) (by simpa using h.2.1) (by decide) (by decide)
  have c10 : ((10 : Nat) : Int) = 10 := rfl
  rw [c10] at e1 e2
  rw [e1]
  simp only [Option.bind_some, iz_nat]
  rw [den_one]
  unfold rtext
  by_cases h1 : q = 1
  · rw [if_pos h1, if_pos h1]; rfl
  · rw [if_neg h1, if_neg h1]
    rw [iz_nat] at e2
    simp only [joinB_inl, iz_nat, e2, Option.bind_some]
    have l1 : Nat.ble ((ofBytes (txt 10 p)).size + (⟨#[47]⟩ : ByteArray).size) 9223372036854775807 = true := by rw [Nat.ble_eq]; omega
    have l2 : Nat.ble ((ofBytes (txt 10 p) ++ (⟨#[47]⟩ : ByteArray)).size + (ofBytes (txt 10 (q : Int))).size) 9223372036854775807 = true := by rw [Nat.ble_eq, ByteArray.size_append]; omega
    rw [l1, l2]; rfl
theorem rtext_bytes (p : Int) (q : Nat) : bytesOf (rtext p q) = if q = 1 then txt 10 p else txt 10 p ++ 47 :: txt 10 (q : Int) := by
  unfold rtext
  split
  · exact txt_bytes p
  · rw [bytes_app, bytes_app, txt_bytes, txt_bytes, BAR_bytes]; simp
theorem rtext_back {k : Nat} (hk : k = 1000000000000000000) {p : Int} {q : Nat} (h : RatV p q) (hs : ((rtext p q).size : Int) ≤ 4000) : rational_Parse k (rtext p q) = some (rq p q, 0, 0) := by
  have hb := rtext_bytes p q
  have hl := bytes_len (rtext p q)
  obtain ⟨p1, p2⟩ := txt_back (b := 10) (by decide) (by decide) p
  obtain ⟨q1, q2⟩ := txt_back (b := 10) (by decide) (by decide) (q : Int)
  have c10 : ((10 : Nat) : Int) = 10 := rfl
  rw [c10] at p1 q1
  rw [qParse_ok hk hs]
  by_cases h1 : q = 1
  · rw [if_pos h1] at hb
    have hsl : slash (bytesOf (rtext p q)) = (txt 10 p).length := by rw [hb]; exact slash_none _ (txt_nobar p)
    rw [hb] at hl
    have hbe : behind (bytesOf (rtext p q)) = txt 10 (q : Int) := by
      unfold behind
      rw [hsl, hb, if_neg (by omega), h1]
      exact (txt_one (by decide)).symm
    have hA : (bytesOf (rtext p q)).take (slash (bytesOf (rtext p q))) = txt 10 p := by rw [hsl, hb, List.take_of_length_le (by omega)]
    have hf : decide (slash (bytesOf (rtext p q)) < (rtext p q).size) = false := decide_eq_false (by rw [hsl]; omega)
    rw [hA, hbe, hf, pres_ok]
    · rw [p2, q2, Int.natAbs_natCast]
    · rintro (h | h | ⟨h, _⟩)
      · exact p1 h
      · exact q1 h
      · cases h
    · rw [p2, q2, Int.natAbs_natCast]; exact ⟨h.1, h.2.1⟩
    · rw [p2, q2, Int.natAbs_natCast]; exact h.2.2.2
  · rw [if_neg h1] at hb
    have hsl : slash (bytesOf (rtext p q)) = (txt 10 p).length := by rw [hb]; exact slash_app _ _ (txt_nobar p)
    rw [hb] at hl
    simp only [List.length_append, List.length_cons] at hl
    have hbe : behind (bytesOf (rtext p q)) = txt 10 (q : Int) := by
      unfold behind
      rw [hsl, hb, if_pos (by simp)]
      rw [List.drop_append]
      simp
    have hA : (bytesOf (rtext p q)).take (slash (bytesOf (rtext p q))) = txt 10 p := by rw [hsl, hb, List.take_append]; simp
    have hf : decide (slash (bytesOf (rtext p q)) < (rtext p q).size) = true := decide_eq_true (by rw [hsl]; omega)
    rw [hA, hbe, hf, pres_ok]
    · rw [p2, q2, Int.natAbs_natCast]
    · rintro (h' | h' | ⟨_, h'⟩)
      · exact p1 h'
      · exact q1 h'
      · rw [q2] at h'; have := h.2.2.1; omega
    · rw [p2, q2, Int.natAbs_natCast]; exact ⟨h.1, h.2.1⟩
    · rw [p2, q2, Int.natAbs_natCast]; exact h.2.2.2
theorem rt_valid {k : Nat} (hk : k = 1000000000000000000) (hP : brindlewoodlaw3_parts k = some true) {p : Int} {q : Nat} (hV : RatV p q) (hw : Wf RtT (rq p q)) (s : ByteArray) : brindlewoodlaw3_RationalTexts k (rq p q) s = some true := by
  have hk1 : 100000000000000 < k := by rw [hk]; decide
  have hF := qfaults_eq k (l := [rq p q]) (fun y hy => by simp at hy; rw [hy]; exact RatioOk_ok hk1 hw) (by simp)
  rw [qcheck1 (by omega) hV] at hF
  obtain ⟨c, e1, r1, rc⟩ := RatioOf_ok (k := k) (by omega) hV
  obtain ⟨⟨y, g⟩, hy⟩ : ∃ r, rational_Parse k s = some r := by
    by_cases hs : 4000 < (s.size : Int)
    · exact ⟨_, qParse_long hs⟩
    · exact ⟨_, qParse_ok hk (by omega)⟩
  have tail := textsTail_ok hk hy
  obtain ⟨z, hz⟩ : ∃ r, rational_Parse k (rtext p q) = some r := by
    by_cases hs : 4000 < ((rtext p q).size : Int)
    · exact ⟨_, qParse_long hs⟩
    · exact ⟨_, qParse_ok hk (by omega)⟩
  have eT := TextOf_ok hk1 (x := p) (b := 10) hV.1 (by decide) (by decide)
  have eQ := TextOf_ok hk1 (x := (q : Int)) (b := 10) (by simpa using hV.2.1) (by decide) (by decide)
  have c10 : ((10 : Nat) : Int) = 10 := rfl
  rw [c10] at eT eQ
  rw [decide_eq_false (by omega), Int.natAbs_natCast] at eQ
  have hS : brindlewoodref3_Small k 1 = some (dg 65536 1) := Small_ok (n := 1) (by decide) (by omega)
  have l2 := ilen16 hV.2.1
  have eC := Compare_ok (k := k) (x := q) (y := 1) (by omega) (by rw [show (dg 65536 1) = [1] from by rw [dg_pos (by decide) (by decide)]; rfl]; decide) (by omega)
  have s1 := txt_size hV.1
  have s2 := txt_size (x := (q : Int)) (by simpa using hV.2.1)
  have sB' : (⟨#[47]⟩ : ByteArray).size = 1 := rfl
  obtain ⟨c1, c2⟩ := c
  have rc' : c1 = (decide (p < 0), dg 65536 p.natAbs) := rc
  have r2' : c2 = dg 65536 q := r1.2
  subst rc'; subst r2'
  have tail' := tail
  unfold textsTail at tail'
  simp only [hS] at tail'
  -- behind the wanted text
  have fin : ∀ W : ByteArray, bytesOf W = bytesOf (rtext p q) → ((rational_Parse k (rtext p q)).bind fun t11 => bif (!((rtext p q).toList == W.toList)) then (some (.inr false)) else (bif decide (((rtext p q).size : Int) ≤ 4000) then (bif (t11.2.1 != 0) then (some (.inr false)) else ((brindlewoodref3_SameRatio k t11.1 ((decide (p < 0), dg 65536 p.natAbs), dg 65536 q)).bind fun t12 => bif (!t12) then (some (.inr false)) else (some (.inl (s, y, g))))) else (some (.inl (s, y, g))))) = some ((.inl (s, y, g)) : (ByteArray × ((Bool × List Int) × Bool × List Int) × Int × Int) ⊕ Bool) := by
    intro W hW
    rw [toList_eq_iff, hW, decide_eq_true rfl]
    by_cases hs : ((rtext p q).size : Int) ≤ 4000
    · rw [rtext_back hk hV hs, dle_t hs]
      simp only [Option.bind_some, Bool.not_true, cond_false, cond_true, bne_self_eq_false]
      rw [SameRatio_ok (by omega) r1 hV.1 hV.2.1]; rfl
    · rw [dle_f (by omega), hz]; rfl
  unfold brindlewoodlaw3_RationalTexts
  rw [qText_ok hk hV, hy, hP, hF]
  simp only [Option.bind_some, Bool.not_true, cond_false, bne_self_eq_false, e1, eT, hS, eC]
  by_cases h1 : q = 1
  · have hs : (sgn (q : Int) ((1 : Nat) : Int) != 0) = false := by rw [h1]; rfl
    rw [hs]
    simp only [cond_false, joinB_inl, bne_self_eq_false]
    have := fin (ofBytes (txt 10 p)) (by rw [rtext_bytes, if_pos h1, txt_bytes])
    rw [this]
    exact tail'
  · have hs : (sgn (q : Int) ((1 : Nat) : Int) != 0) = true := by
      have := sgn_one q
      rw [decide_eq_false h1, Option.some.injEq] at this
      unfold bne; rw [this]; rfl
    rw [hs, eQ]
    simp only [cond_true, Option.bind_some]
    have l1 : Nat.ble ((⟨#[47]⟩ : ByteArray).size + (ofBytes (txt 10 (q : Int))).size) 9223372036854775807 = true := by rw [Nat.ble_eq]; omega
    have l2 : Nat.ble ((ofBytes (txt 10 p)).size + ((⟨#[47]⟩ : ByteArray) ++ ofBytes (txt 10 (q : Int))).size) 9223372036854775807 = true := by rw [Nat.ble_eq, ByteArray.size_append]; omega
    rw [l1, l2]
    simp only [cond_true, cond_false, joinB_inl, bne_self_eq_false]
    have := fin (ofBytes (txt 10 p) ++ ((⟨#[47]⟩ : ByteArray) ++ ofBytes (txt 10 (q : Int)))) (by
      rw [rtext_bytes, if_neg h1, bytes_app, bytes_app, txt_bytes, txt_bytes]
      have : bytesOf (⟨#[47]⟩ : ByteArray) = [47] := BAR_bytes
      rw [this]; rfl)
    rw [this]
    exact tail'
theorem rationalTexts_plain {a : Rt} {s : ByteArray} (ha : Wf RtT a) : brindlewoodlaw3_RationalTexts 1000000000000000000 a s = some true := by
  have hk : 1000000000000000000 = 1000000000000000000 := rfl
  have hk1 : 100000000000000 < 1000000000000000000 := by decide
  rcases rat_cases (k := 1000000000000000000) (by omega) ha with ⟨p, q, hV, rfl, hv⟩ | hv
  · exact rt_valid rfl parts_ok hV ha s
  · have hC := qcheck_ok (k := 1000000000000000000) (by omega) (l := [a]) (fun y hy => .inr (by simp at hy; rw [hy]; exact hv)) (by simp)
    rw [badQ_f _ _ hv] at hC
    have hF := qfaults_eq 1000000000000000000 (l := [a]) (fun y hy => by simp at hy; rw [hy]; exact RatioOk_ok hk1 ha) (by simp)
    rw [hC] at hF
    obtain ⟨⟨y, g⟩, hy⟩ : ∃ r, rational_Parse 1000000000000000000 s = some r := by
      by_cases hs : 4000 < (s.size : Int)
      · exact ⟨_, qParse_long hs⟩
      · exact ⟨_, qParse_ok rfl (by omega)⟩
    have tail := textsTail_ok rfl hy
    unfold brindlewoodlaw3_RationalTexts rational_Text
    rw [hC, hy, parts_ok, hF]
    simp only [Option.bind_some, bne_t (show (6 : Int) ≠ 0 by decide), cond_true, Bool.not_true, cond_false, beq_self_eq_true, Bool.and_self, joinB_inl]
    exact tail
end Go.Pl
