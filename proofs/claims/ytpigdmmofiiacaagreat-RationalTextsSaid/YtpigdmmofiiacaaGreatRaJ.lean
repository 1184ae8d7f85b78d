/- Ratios: texts are cut at the bar and read.  Conditions: those that each theorem names. -/
import Derived.Test.YtpigdmmofiiacaaGreatRaB
import Derived.Test.YtpigdmmofiiacaaGreatPiP
set_option linter.unusedVariables false
set_option linter.unusedSimpArgs false
namespace Go.Pl
open Go Go.Ev Go.Sh
theorem canon {b : Nat} (hb : 2 ≤ b) (hb' : b ≤ 36) {l : List Int} (h : ¬ tbad b l) : l = txt b (tval b l) := by
  unfold tbad at h
  have h1 : trest l ≠ [] := fun e => h (.inl e)
  have h2 : ¬ ((trest l).head? = some 48 ∧ l ≠ [48]) := fun e => h (.inr (.inl e))
  have h3 : allD b (trest l) := Decidable.byContradiction fun e => h (.inr (.inr e))
  by_cases h4 : (trest l).head? = some 48
  · have hl : l = [48] := Decidable.byContradiction fun e => h2 ⟨h4, e⟩
    subst hl
    have h5 := (txt_back hb hb' 0).2
    have e1 : txt b 0 = [48] := rfl
    rw [e1] at h5
    rw [h5, e1]
  · have hb3 : (b : Int) ≤ 36 := by omega
    have hds : ∀ d ∈ (trest l).map (dval b), 0 ≤ d ∧ d < (b : Int) := by
      intro d hd
      obtain ⟨c, hc, rfl⟩ := List.mem_map.1 hd
      exact ⟨h3 c hc, (dval_lt (by omega)).2⟩
    have hback : ((trest l).map (dval b)).map al = trest l := by
      rw [List.map_map]
      conv => rhs; rw [← List.map_id (trest l)]
      refine List.map_congr_left fun c hc => ?_
      simp only [Function.comp, id]
      exact al_dval (h3 c hc)
    have hdig : Dig (b : Int) ((trest l).map (dval b)).reverse := fun d hd => hds d (List.mem_reverse.1 hd)
    have hlast : ((trest l).map (dval b)).reverse.getLast? ≠ some 0 := by
      rw [List.getLast?_reverse]
      cases hr : trest l with
      | nil => exact absurd hr h1
      | cons c r =>
        rw [hr] at h4 h3
        simp only [List.map_cons, List.head?_cons, ne_eq, Option.some.injEq] at h4 ⊢
        intro h0
        have := al_dval (b := (b : Int)) (c := c) (by omega)
        rw [h0] at this
        exact h4 this.symm
    obtain ⟨n, hn⟩ := valid_dg hb hdig hlast
    have hr : (trest l).map (dval b) = (dg b n).reverse := by rw [← hn, List.reverse_reverse]
    have hv1 : hv b ((trest l).map (dval b)) 0 = n := by rw [hr, hv_rev hb]; omega
    have hn0 : n ≠ 0 := by
      intro e
      rw [e, dg_zero] at hr
      have := congrArg List.length hr
      simp at this
      exact h1 this
    have htr : trest l = (dg b n).reverse.map al := by rw [← hr, hback]
    unfold tval
    rw [hv1]
    by_cases hneg : tneg l = true
    · rw [if_pos hneg]
      have hl : l = 45 :: trest l := by
        unfold trest
        rw [if_pos hneg]
        cases l with
        | nil => simp [tneg] at hneg
        | cons c r => simp [tneg] at hneg; rw [hneg]; rfl
      unfold txt
      rw [if_neg (by omega), if_pos (by omega), Int.natAbs_neg, Int.natAbs_natCast, ← htr]
      exact hl
    · rw [if_neg hneg]
      have hl : l = trest l := by unfold trest; rw [if_neg hneg]
      unfold txt
      rw [if_neg (by omega), if_neg (by omega), Int.natAbs_natCast, ← htr]
      exact hl
theorem txt_one {b : Nat} (hb : 2 ≤ b) : txt b 1 = [49] := by
  unfold txt
  rw [if_neg (by decide), if_neg (by decide)]
  have : dg b (1 : Int).natAbs = [1] := by
    show dg b 1 = [1]
    rw [dg_pos hb (by decide), Nat.mod_eq_of_lt (by omega), Nat.div_eq_of_lt (by omega)]; rfl
  rw [this]; rfl
theorem txt_neg {b : Nat} {v : Int} (h : v < 0) : (txt b v).head? = some 45 := by
  unfold txt
  rw [if_neg (by omega), if_pos h]; rfl
theorem txt_pos {b : Nat} (hb : 2 ≤ b) (hb' : b ≤ 36) {v : Int} (h : 0 ≤ v) : (txt b v).head? ≠ some 45 := by
  unfold txt
  by_cases h0 : v = 0
  · rw [if_pos h0]; decide
  · rw [if_neg h0, if_neg (by omega)]
    obtain ⟨d, l, hd, hd0⟩ := rev_head hb (n := v.natAbs) (by omega)
    have hb2 := dgs_bounds hb v.natAbs
    have hdb := hb2 d (by rw [hd]; simp)
    have hno := al_no hdb.1
    rw [hd]; simp [hno.1]
def slash : List Int → Nat
  | [] => 0
  | c :: l => if c = 47 then 0 else slash l + 1
theorem slash_le : ∀ l : List Int, slash l ≤ l.length := by
  intro l
  induction l with
  | nil => exact Nat.le_refl _
  | cons c l ih => unfold slash; split <;> simp <;> omega
theorem slash_none : ∀ l : List Int, 47 ∉ l → slash l = l.length := by
  intro l
  induction l with
  | nil => intro _; rfl
  | cons c l ih =>
    intro h
    simp only [List.mem_cons, not_or] at h
    unfold slash
    rw [if_neg (fun e => h.1 e.symm), ih h.2]; rfl
theorem slash_app : ∀ (l m : List Int), 47 ∉ l → slash (l ++ 47 :: m) = l.length := by
  intro l
  induction l with
  | nil => intro m _; simp [slash]
  | cons c l ih =>
    intro m h
    simp only [List.mem_cons, not_or] at h
    simp only [List.cons_append, slash]
    rw [if_neg (fun e => h.1 e.symm), ih m h.2]; rfl
theorem slash_at : ∀ (l : List Int), slash l < l.length → l.getD (slash l) 0 = 47 := by
  intro l
  induction l with
  | nil => intro h; simp at h
  | cons c l ih =>
    intro h
    unfold slash at h ⊢
    by_cases hc : c = 47
    · rw [if_pos hc] at h ⊢; simpa using hc
    · rw [if_neg hc] at h ⊢
      simp only [List.length_cons] at h
      rw [List.getD_cons_succ]; exact ih (by omega)
theorem slash_not : ∀ (l : List Int) (i : Nat), i < slash l → l.getD i 0 ≠ 47 := by
  intro l
  induction l with
  | nil => intro i h; simp [slash] at h
  | cons c l ih =>
    intro i h
    unfold slash at h
    by_cases hc : c = 47
    · rw [if_pos hc] at h; omega
    · rw [if_neg hc] at h
      cases i with
      | zero => simpa using hc
      | succ i => rw [List.getD_cons_succ]; exact ih i (by omega)
theorem ib_eq : ∀ l : List UInt8, Go.Lib.indexByte l 47 = if slash (l.map fun b => (b.toNat : Int)) < l.length then (slash (l.map fun b => (b.toNat : Int)) : Int) else -1 := by
  intro l
  induction l with
  | nil => rfl
  | cons b l ih =>
    unfold Go.Lib.indexByte
    simp only [List.map_cons, slash, List.length_cons]
    by_cases hb : b = 47
    · subst hb
      have e : ((47 : UInt8).toNat : Int) = 47 := rfl
      rw [if_pos (by rfl), if_pos e, if_pos (by omega)]; rfl
    · have hn : ¬ ((b.toNat : Int) = 47) := fun e => hb (by
        have h2 : b.toNat = (47 : UInt8).toNat := by simpa using (by omega : b.toNat = 47)
        exact UInt8.toNat_inj.1 h2)
      rw [if_neg (by simpa using hb), if_neg hn, ih]
      by_cases hl : slash (l.map fun b => (b.toNat : Int)) < l.length
      · have h2 : slash (l.map fun b => (b.toNat : Int)) + 1 < l.length + 1 := by omega
        have h3 : (((slash (l.map fun b => (b.toNat : Int)) : Nat) : Int) == -1) = false := beq_f (by omega)
        simp only [hl, h2, if_true, h3, Bool.false_eq_true, if_false]; omega
      · have h2 : ¬ slash (l.map fun b => (b.toNat : Int)) + 1 < l.length + 1 := by omega
        simp only [hl, h2, if_false, beq_self_eq_true, if_true]
theorem bytes_data (s : ByteArray) : bytesOf s = s.data.toList.map fun b => (b.toNat : Int) := by
  obtain ⟨a⟩ := s
  exact bytes_mk a
def BAR : ByteArray := ⟨#[47]⟩
theorem BAR_bytes : bytesOf BAR = [47] := by unfold BAR; rw [bytes_mk]; rfl
theorem Index_bar (s : ByteArray) : stringslite_Index s BAR = some (if slash (bytesOf s) < s.size then (slash (bytesOf s) : Int) else -1) := by
  have hsz : (BAR.size : Int) = 1 := rfl
  unfold stringslite_Index
  rw [hsz]
  simp only [show ((1 : Int) == 0) = false from rfl, cond_false, joinB_inl, toList_eq_iff, BAR_bytes]
  by_cases hq : ([47] : List Int) = bytesOf s
  · rw [decide_eq_true hq]
    simp only [cond_true]
    have hl := bytes_len s
    rw [← hq] at hl ⊢
    simp only [List.length_singleton] at hl
    rw [← hl]; rfl
  · rw [decide_eq_false hq]
    simp only [cond_false, beq_self_eq_true, cond_true, hsz, show inR 0 1 = true from rfl]
    have hr : rd [(47 : Int)] 0 = 47 := rfl
    rw [hr]
    have : stringslite_IndexByte s 47 = some (Go.Lib.indexByte s.data.toList 47) := rfl
    rw [this, ib_eq, ← bytes_data]
    have hl : s.data.toList.length = s.size := by simp
    rw [hl]; rfl
theorem bytes_drop (s : ByteArray) (n : Nat) : bytesOf (s.extract n (Int.toNat (s.size : Int))) = (bytesOf s).drop n := by
  have h : (s.extract n (Int.toNat (s.size : Int))).toList = s.toList.drop n := by
    rw [ByteArray.toList_eq, ByteArray.toList_eq, ByteArray.data_extract, Array.toList_extract, Int.toNat_natCast]
    have : s.size = s.data.toList.length := by simp
    rw [this, List.extract_eq_take_drop, ← List.length_drop, List.take_length]
  unfold bytesOf
  rw [h, List.map_drop]
theorem Cut_bar (s : ByteArray) (hs : (s.size : Int) ≤ 1000000) : ∃ a b : ByteArray, strings_Cut s BAR = some (a, b, decide (slash (bytesOf s) < s.size)) ∧ bytesOf a = (bytesOf s).take (slash (bytesOf s)) ∧ a.size ≤ s.size ∧
    (slash (bytesOf s) < s.size → bytesOf b = (bytesOf s).drop (slash (bytesOf s) + 1) ∧ b.size ≤ s.size) := by
  have hl := bytes_len s
  have hle := slash_le (bytesOf s)
  unfold strings_Cut stringslite_Cut
  rw [Index_bar]
  simp only [Option.bind_some]
  by_cases hm : slash (bytesOf s) < s.size
  · rw [if_pos hm, decide_eq_true hm, dle_t (a := 0) (by omega)]
    have e1 : w64 ((slash (bytesOf s) : Int) + (BAR.size : Int)) = ((slash (bytesOf s) + 1 : Nat) : Int) := by
      have : (BAR.size : Int) = 1 := rfl
      rw [this, w64_id (by omega) (by omega)]; omega
    rw [e1]
    have d0 : decide (0 ≤ 0) = true := rfl
    rw [d0, dle_t (a := (slash (bytesOf s) : Int)) (by omega), dle_t (a := 0) (by omega), dle_t (a := ((slash (bytesOf s) + 1 : Nat) : Int)) (by omega), dle_t (a := (s.size : Int)) (by omega)]
    simp only [Bool.and_self, cond_true, Option.bind_some, Int.toNat_natCast]
    have b1 := bytes_take s (slash (bytesOf s))
    have b2 := bytes_drop s (slash (bytesOf s) + 1)
    have l1 := bytes_len (s.extract 0 (slash (bytesOf s)))
    have l2 := bytes_len (s.extract (slash (bytesOf s) + 1) (Int.toNat (s.size : Int)))
    rw [b1, List.length_take] at l1
    rw [b2, List.length_drop] at l2
    rw [Int.toNat_natCast] at b2 l2
    exact ⟨_, _, rfl, b1, by omega, fun _ => ⟨b2, by omega⟩⟩
  · rw [if_neg hm, decide_eq_false hm]
    refine ⟨s, ByteArray.empty, rfl, ?_, Nat.le_refl _, fun h => absurd h hm⟩
    rw [List.take_of_length_le (by omega)]
end Go.Pl
