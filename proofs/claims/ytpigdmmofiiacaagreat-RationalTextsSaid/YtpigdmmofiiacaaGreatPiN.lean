/- Texts of integers.  Conditions: those that each theorem names. -/
import Derived.Test.YtpigdmmofiiacaaGreatPiD
import Derived.Test.YtpigdmmofiiacaaGreatPlG
import Derived.Test.YtpigdmmofiiacaaGreatPlI
set_option linter.unusedVariables false
set_option linter.unusedSimpArgs false
namespace Go.Pl
open Go Go.Ev Go.Sh
theorem bytes_len (s : ByteArray) : (bytesOf s).length = s.size := by simp [bytesOf, ByteArray.toList_eq]
theorem bytes_mk (a : Array UInt8) : bytesOf ⟨a⟩ = a.toList.map fun b => (b.toNat : Int) := by simp [bytesOf, ByteArray.toList_eq]
theorem bytes_rng (s : ByteArray) : ∀ c ∈ bytesOf s, 0 ≤ c ∧ c < 256 := by
  intro c hc
  simp only [bytesOf, List.mem_map] at hc
  obtain ⟨b, _, rfl⟩ := hc
  have := b.toNat_lt
  omega
theorem bytes_inj {l m : List UInt8} (h : l.map (fun b => (b.toNat : Int)) = m.map (fun b => (b.toNat : Int))) : l = m := by
  have hinj : Function.Injective (fun b : UInt8 => (b.toNat : Int)) := fun a b hab => UInt8.toNat_inj.1 (Int.ofNat.inj hab)
  exact List.map_inj_right (fun _ _ hab => hinj hab) |>.1 h
theorem toList_eq_iff (s t : ByteArray) : (s.toList == t.toList) = decide (bytesOf s = bytesOf t) := by
  by_cases h : s.toList = t.toList
  · rw [h]
    simp [bytesOf, h]
  · have h2 : bytesOf s ≠ bytesOf t := fun e => h (bytes_inj e)
    rw [decide_eq_false h2]
    simpa using h
theorem bytes_of {l : List Int} (h : ∀ c ∈ l, 0 ≤ c ∧ c < 256) : bytesOf (ofBytes l) = l := by
  unfold ofBytes
  rw [bytes_mk, List.map_map]
  conv => rhs; rw [← List.map_id l]
  apply List.map_congr_left
  intro c hc
  have := h c hc
  simp only [Function.comp, id]
  rw [UInt8.toNat_ofNat']
  omega
theorem bytes_tail (s : ByteArray) : bytesOf (s.extract 1 (Int.toNat (s.size : Int))) = (bytesOf s).drop 1 := by
  have h : (s.extract 1 (Int.toNat (s.size : Int))).toList = s.toList.drop 1 := by
    rw [ByteArray.toList_eq, ByteArray.toList_eq, ByteArray.data_extract, Array.toList_extract, Int.toNat_natCast]
    have : s.size = s.data.toList.length := by simp
    rw [this, List.extract_eq_take_drop, ← List.length_drop, List.take_length]
  unfold bytesOf
  rw [h, List.map_drop]
theorem bytes_take (s : ByteArray) (n : Nat) : bytesOf (s.extract 0 n) = (bytesOf s).take n := by
  have h : (s.extract 0 n).toList = s.toList.take n := by
    rw [ByteArray.toList_eq, ByteArray.toList_eq, ByteArray.data_extract, Array.toList_extract, List.extract_eq_take_drop]
    simp
  unfold bytesOf
  rw [h, List.map_take]
theorem rd_head {c : Int} {l : List Int} : rd (c :: l) 0 = c := rfl
def ALPH : ByteArray := ⟨#[48, 49, 50, 51, 52, 53, 54, 55, 56, 57, 97, 98, 99, 100, 101, 102, 103, 104, 105, 106, 107, 108, 109, 110, 111, 112, 113, 114, 115, 116, 117, 118, 119, 120, 121, 122]⟩
def al (d : Int) : Int := if d < 10 then 48 + d else 87 + d
def dval (b c : Int) : Int := if 48 ≤ c ∧ c ≤ 57 ∧ c - 48 < b then c - 48 else if 97 ≤ c ∧ c ≤ 122 ∧ c - 87 < b then c - 87 else -1
theorem dval_al {b d : Int} (h0 : 0 ≤ d) (h1 : d < b) (h2 : b ≤ 36) : dval b (al d) = d := by
  unfold dval al
  split <;> (split <;> (try split) <;> omega)
theorem al_dval {b c : Int} (h : 0 ≤ dval b c) : al (dval b c) = c := by
  revert h
  unfold dval al
  split
  · intro _; rw [if_pos (by omega)]; omega
  · split
    · intro _; rw [if_neg (by omega)]; omega
    · intro h; omega
theorem dval_lt {b c : Int} (hb : 0 ≤ b) : -1 ≤ dval b c ∧ dval b c < b := by
  unfold dval
  split
  · omega
  · split <;> omega
theorem ALPH_bytes : bytesOf ALPH = (List.range 36).map (fun n : Nat => al n) := by
  unfold ALPH
  rw [bytes_mk]
  decide
theorem ALPH_size : (ALPH.size : Int) = 36 := rfl
theorem rd_ALPH {d : Int} (h0 : 0 ≤ d) (h1 : d < 36) : rd (bytesOf ALPH) d = al d := by
  obtain ⟨n, rfl⟩ := Int.eq_ofNat_of_zero_le h0
  rw [rd_nat, ALPH_bytes]
  have : n < 36 := by omega
  simp [List.getD, this]
theorem take_ALPH {b : Nat} (hb : b ≤ 36) : bytesOf (ALPH.extract 0 (Int.toNat (b : Int))) = (List.range b).map (fun n : Nat => al n) := by
  rw [bytes_take, ALPH_bytes, Int.toNat_natCast, ← List.map_take, List.take_range, Nat.min_eq_left hb]
def txt (b : Nat) (v : Int) : List Int := if v = 0 then [48] else (if v < 0 then [45] else []) ++ (dg b v.natAbs).reverse.map al
theorem dgs_bounds {b : Nat} (hb : 2 ≤ b) (x : Nat) : ∀ d ∈ (dg b x).reverse, 0 ≤ d ∧ d < (b : Int) := fun d hd => dg_dig hb x d (List.mem_reverse.1 hd)
theorem al_rng {d : Int} (h0 : 0 ≤ d) (h1 : d < 36) : 0 ≤ al d ∧ al d < 256 := by unfold al; split <;> omega
theorem Text_l0 (k : Nat) {l : List Int} (hl : ∀ d ∈ l, 0 ≤ d ∧ d < 36) (hbig : (l.length : Int) ≤ 1000000) (f : Int × Int) (q : List Int) : ∀ (n i : Nat) (out : List Int), l.length - i < n → i ≤ l.length → ((out.length + (l.length - i) : Nat) : Int) ≤ 1000000000 →
    integer_Text.l0 k n f q out l l.length i = some (.inl (f, q, out ++ (l.drop i).map al)) := by
  intro n
  induction n with
  | zero => intro i out h; omega
  | succ n ih =>
    intro i out h1 h2 h3
    simp only [integer_Text.l0, integer_Text.b0]
    by_cases hi : i < l.length
    · have e1 : w64 ((i : Int) + 1) = ((i + 1 : Nat) : Int) := by rw [w64_id (by omega) (by omega)]; omega
      have hg : l.getD i 0 = l[i] := by rw [List.getD_eq_getElem?_getD, List.getElem?_eq_getElem hi]; rfl
      have hd := hl l[i] (List.getElem_mem hi)
      rw [← hg] at hd
      have hr : inR (l.getD i 0) ((⟨#[48, 49, 50, 51, 52, 53, 54, 55, 56, 57, 97, 98, 99, 100, 101, 102, 103, 104, 105, 106, 107, 108, 109, 110, 111, 112, 113, 114, 115, 116, 117, 118, 119, 120, 121, 122]⟩ : ByteArray).size : Int) = true := inR_t (by omega) (by rw [show ((⟨#[48, 49, 50, 51, 52, 53, 54, 55, 56, 57, 97, 98, 99, 100, 101, 102, 103, 104, 105, 106, 107, 108, 109, 110, 111, 112, 113, 114, 115, 116, 117, 118, 119, 120, 121, 122]⟩ : ByteArray).size : Int) = 36 from rfl]; omega)
      have ha : rd (bytesOf (⟨#[48, 49, 50, 51, 52, 53, 54, 55, 56, 57, 97, 98, 99, 100, 101, 102, 103, 104, 105, 106, 107, 108, 109, 110, 111, 112, 113, 114, 115, 116, 117, 118, 119, 120, 121, 122]⟩ : ByteArray)) (l.getD i 0) = al (l.getD i 0) := rd_ALPH hd.1 hd.2
      rw [dlt_t (by omega), inR_t (by omega) (by omega), rd_nat, hr, ha, e1]
      simp only [cond_true, List.length_singleton]
      rw [fits_t (by omega)]
      simp only [cond_true]
      rw [ih (i + 1) _ (by omega) (by omega) (by simp only [List.length_append, List.length_singleton]; omega), drop_getD hi]
      simp
    · have : i = l.length := by omega
      subst this
      rw [dlt_f (by omega)]
      simp
theorem TextOf_l0 (k : Nat) {l : List Int} (hl : ∀ d ∈ l, 0 ≤ d ∧ d < 36) (hbig : (l.length : Int) ≤ 1000000) : ∀ (n i : Nat) (out : List Int), l.length - i < n → i ≤ l.length → ((out.length + (l.length - i) : Nat) : Int) ≤ 1000000000 →
    brindlewoodref3_TextOf.l0 k n l out i = some (.inl (out ++ (l.drop i).map al)) := by
  intro n
  induction n with
  | zero => intro i out h; omega
  | succ n ih =>
    intro i out h1 h2 h3
    simp only [brindlewoodref3_TextOf.l0, brindlewoodref3_TextOf.b0]
    by_cases hi : i < l.length
    · have e1 : w64 ((i : Int) + 1) = ((i + 1 : Nat) : Int) := by rw [w64_id (by omega) (by omega)]; omega
      have hg : l.getD i 0 = l[i] := by rw [List.getD_eq_getElem?_getD, List.getElem?_eq_getElem hi]; rfl
      have hd := hl l[i] (List.getElem_mem hi)
      rw [← hg] at hd
      have hr : inR (l.getD i 0) ((⟨#[48, 49, 50, 51, 52, 53, 54, 55, 56, 57, 97, 98, 99, 100, 101, 102, 103, 104, 105, 106, 107, 108, 109, 110, 111, 112, 113, 114, 115, 116, 117, 118, 119, 120, 121, 122]⟩ : ByteArray).size : Int) = true := inR_t (by omega) (by rw [show ((⟨#[48, 49, 50, 51, 52, 53, 54, 55, 56, 57, 97, 98, 99, 100, 101, 102, 103, 104, 105, 106, 107, 108, 109, 110, 111, 112, 113, 114, 115, 116, 117, 118, 119, 120, 121, 122]⟩ : ByteArray).size : Int) = 36 from rfl]; omega)
      have ha : rd (bytesOf (⟨#[48, 49, 50, 51, 52, 53, 54, 55, 56, 57, 97, 98, 99, 100, 101, 102, 103, 104, 105, 106, 107, 108, 109, 110, 111, 112, 113, 114, 115, 116, 117, 118, 119, 120, 121, 122]⟩ : ByteArray)) (l.getD i 0) = al (l.getD i 0) := rd_ALPH hd.1 hd.2
      rw [dlt_t (by omega), inR_t (by omega) (by omega), rd_nat, hr, ha, e1]
      simp only [cond_true, List.length_singleton]
      rw [fits_t (by omega)]
      simp only [cond_true]
      rw [ih (i + 1) _ (by omega) (by omega) (by simp only [List.length_append, List.length_singleton]; omega), drop_getD hi]
      simp
    · have : i = l.length := by omega
      subst this
      rw [dlt_f (by omega)]
      simp
theorem ilim_dg {b x : Nat} (hb : 2 ≤ b) (hx : x < ilim) : (dg b x).length ≤ 4096 := by
  have h0 : (dg b x).length ≤ 32 * e128 := by
    apply dg_len hb
    have h1 : ilim = 2 ^ (32 * e128) := by
      have h := Nat.pow_mul 2 32 e128
      rw [show 2 ^ 32 = 4294967296 by decide] at h
      exact h.symm
    rw [h1] at hx
    exact Nat.lt_of_lt_of_le hx (Nat.pow_le_pow_left hb _)
  have := e128_eq
  omega
theorem iText_ok {k : Nat} (hk : k = 1000000000000000000) {x : Int} {b : Nat} (hx : x.natAbs < ilim) (hb : 2 ≤ b) (hb' : b ≤ 36) : integer_Text k (iz x) b = some (ofBytes (txt b x), 0, 0) := by
  have hk' : 100000000000000 < k := by rw [hk]; decide
  unfold integer_Text
  rw [check1 (by omega) hx]
  simp only [Option.bind_some, bne_self_eq_false, cond_false, iz]
  rw [Digits_ok' hk (ilim_lim hx) hb hb']
  simp only [Option.bind_some, bne_self_eq_false, cond_false]
  have hlen := ilim_dg hb hx
  have hd : ∀ d ∈ (dg b x.natAbs).reverse, 0 ≤ d ∧ d < 36 := fun d hd => by have := dgs_bounds hb x.natAbs d hd; omega
  have hr : (dg b x.natAbs).reverse.length = (dg b x.natAbs).length := List.length_reverse
  have hj : (bif decide (x < 0) then (bif fitsB [45].length 1 then (some (.inl (((0, 0) : Int × Int), (dg b x.natAbs).reverse, [45]))) else none) else (some (.inl ((0, 0), (dg b x.natAbs).reverse, []))) : Option (((Int × Int) × List Int × List Int) ⊕ (ByteArray × Int × Int))) = some (.inl ((0, 0), (dg b x.natAbs).reverse, if x < 0 then [45] else [])) := by
    by_cases h : x < 0
    · rw [decide_eq_true h, if_pos h]; rfl
    · rw [decide_eq_false h, if_neg h]; rfl
  rw [hj, joinB_inl]
  simp only
  have hT := Text_l0 k hd (by omega) (0, 0) (dg b x.natAbs).reverse k 0 (if x < 0 then [45] else []) (by omega) (by omega) (by split <;> simp <;> omega)
  have hT' : integer_Text.l0 k k (0, 0) (dg b x.natAbs).reverse (if x < 0 then [45] else []) (dg b x.natAbs).reverse (dg b x.natAbs).reverse.length 0 = _ := hT
  rw [hT', joinB_inl]
  simp only [List.drop_zero]
  unfold txt
  by_cases h0 : x = 0
  · subst h0; rfl
  · have hp := (dg_len_pos (n := x.natAbs) hb).2 (by omega)
    rw [beq_f (by omega), if_neg h0]
    rfl
theorem iText_no1 {a : Bool × List Int} {b : Int} (h : integer_Valid a = some false) : integer_Text 1000000000000000000 a b = some (ByteArray.empty, 6, -1) := by
  unfold integer_Text
  rw [check_ok' (by decide) (fun z hz => by simp only [List.mem_singleton] at hz; subst hz; exact .inr h) (by simp), badI_f _ _ h]
  rfl
theorem iText_no2 {x : Int} {b : Int} (hx : x.natAbs < ilim) (hb : b < 2 ∨ 36 < b) : integer_Text 1000000000000000000 (iz x) b = some (ByteArray.empty, 4, -2) := by
  unfold integer_Text
  rw [check1 (by decide) hx]
  simp only [Option.bind_some, bne_self_eq_false, cond_false, iz]
  rw [Digits_no2 (valid_dg' (ilim_lim hx)) hb]
  rfl
theorem TextOf_ok {k : Nat} (hk : 100000000000000 < k) {x : Int} {b : Nat} (hx : x.natAbs < ilim) (hb : 2 ≤ b) (hb' : b ≤ 36) : brindlewoodref3_TextOf k (decide (x < 0), dg 65536 x.natAbs) b = some (ofBytes (txt b x)) := by
  unfold brindlewoodref3_TextOf
  have hlen := ilim_dg hb hx
  have lx := ilim16_iff.2 hx
  simp only
  rw [Figures_ok hb (by omega) (by omega) (by omega) hk]
  simp only [Option.bind_some, List.length_reverse]
  have hd : ∀ d ∈ (dg b x.natAbs).reverse, 0 ≤ d ∧ d < 36 := fun d hd => by have := dgs_bounds hb x.natAbs d hd; omega
  have hr : (dg b x.natAbs).reverse.length = (dg b x.natAbs).length := List.length_reverse
  unfold txt
  by_cases h0 : x = 0
  · subst h0; rfl
  · have hp := (dg_len_pos (n := x.natAbs) hb).2 (by omega)
    rw [beq_f (by omega), if_neg h0]
    simp only [cond_false]
    by_cases h : x < 0
    · have hT := TextOf_l0 k hd (by omega) k 0 [45] (by omega) (by omega) (by simp; omega)
      have hT' : brindlewoodref3_TextOf.l0 k k (dg b x.natAbs).reverse [45] 0 = _ := hT
      have hby : bytesOf (⟨#[45]⟩ : ByteArray) = [45] := by rw [bytes_mk]; rfl
      have hfit : fitsB (⟨#[45]⟩ : ByteArray).size 1 = true := fits_t (by decide)
      rw [decide_eq_true h, if_pos h]
      simp only [cond_true, joinB_inl, hby, hfit, hT', List.drop_zero]
    · have hT := TextOf_l0 k hd (by omega) k 0 [] (by omega) (by omega) (by simp; omega)
      have hT' : brindlewoodref3_TextOf.l0 k k (dg b x.natAbs).reverse [] 0 = _ := hT
      have hby : bytesOf ByteArray.empty = [] := by
        have : ByteArray.empty = ⟨#[]⟩ := rfl
        rw [this, bytes_mk]; rfl
      have hfit : fitsB ByteArray.empty.size 1 = true := fits_t (by decide)
      rw [decide_eq_false h, if_neg h]
      simp only [cond_false, joinB_inl, hby, hfit, hT', List.drop_zero, cond_true]
end Go.Pl
