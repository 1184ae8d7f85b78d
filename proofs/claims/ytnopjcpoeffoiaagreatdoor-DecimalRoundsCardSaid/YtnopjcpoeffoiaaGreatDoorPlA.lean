/- Numbers by their digits: values, the digits of a number, lists without leading zeros.  Conditions: those that each theorem names. -/
import Derived.Test.YtnopjcpoeffoiaaGreatDoorE1
import Derived.IntWalk
set_option linter.unusedVariables false
namespace Go.Pl
open Go Go.Ev
theorem w64_id {n : Int} (h : -9223372036854775808 ≤ n) (h' : n ≤ 9223372036854775807) : w64 n = n := IntWalk.i64_in n ⟨h, h'⟩
theorem wu64_id {n : Int} (h : 0 ≤ n) (h' : n ≤ 18446744073709551615) : wu64 n = n := IntWalk.u64_in n ⟨h, h'⟩
theorem wu32_id {n : Int} (h : 0 ≤ n) (h' : n ≤ 4294967295) : wu32 n = n := IntWalk.u32_in n ⟨h, h'⟩
theorem wu8_id {n : Int} (h : 0 ≤ n) (h' : n ≤ 255) : wu8 n = n := IntWalk.u8_in n ⟨h, h'⟩
theorem wu32_mod (n : Int) : wu32 n = n % 4294967296 := by show IntKind.wrap .u32 n = _; rw [IntKind.wrap_u32]
theorem inR_t {i n : Int} (h : 0 ≤ i) (h' : i < n) : inR i n = true := by simp [inR, h, h']
theorem fits_w {n b : Nat} (h : (n + n / 4 + 192) * b ≤ 281474976710656) : fitsB n b = true := Nat.ble_eq_true_of_le h
theorem fits_t {n b : Nat} (h : n * b ≤ 140737488355328) (hb : b ≤ 1024 := by decide) : fitsB n b = true := by
  refine fits_w ?_
  have h1 : n / 4 * 4 ≤ n := Nat.div_mul_le_self n 4
  have h2 : n / 4 * b * 4 ≤ n * b := by rw [Nat.mul_right_comm]; exact Nat.mul_le_mul_right b h1
  rw [Nat.add_mul, Nat.add_mul]
  have h3 : 192 * b ≤ 192 * 1024 := Nat.mul_le_mul_left _ hb
  omega
theorem dle_t {a b : Int} (h : a ≤ b) : decide (a ≤ b) = true := decide_eq_true h
theorem dle_f {a b : Int} (h : b < a) : decide (a ≤ b) = false := decide_eq_false (by omega)
theorem dlt_t {a b : Int} (h : a < b) : decide (a < b) = true := decide_eq_true h
theorem dlt_f {a b : Int} (h : b ≤ a) : decide (a < b) = false := decide_eq_false (by omega)
theorem beq_t {a b : Int} (h : a = b) : (a == b) = true := by simp [h]
theorem beq_f {a b : Int} (h : a ≠ b) : (a == b) = false := by simp [h]
theorem bne_t {a b : Int} (h : a ≠ b) : (a != b) = true := by simp [h]
theorem bne_f {a b : Int} (h : a = b) : (a != b) = false := by simp [h]
theorem shr_u64_32 {x : Int} : shrI .u64 x 32 = x / 4294967296 := by
  show x.fdiv (2 ^ (min (32 : Int).toNat IntKind.u64.bits)) = _
  rw [show min (32 : Int).toNat IntKind.u64.bits = 32 by rfl, Int.fdiv_eq_ediv_of_nonneg _ (by decide)]
  rfl
theorem z_le : decide ((0 : Nat) ≤ 0) = true := rfl
theorem joinB_inl {α R0 R : Type} (x : α) (k : α → Option R) (kr : R0 → Option R) : joinB (some (.inl x)) k kr = k x := rfl
def ev (b : Int) : List Int → Int
  | [] => 0
  | x :: l => x + b * ev b l
def Dig (b : Int) (l : List Int) : Prop := ∀ x ∈ l, 0 ≤ x ∧ x < b
theorem Dig.nil {b : Int} : Dig b [] := fun x h => by simp at h
theorem Dig.cons {b x : Int} {l : List Int} (h : 0 ≤ x) (h' : x < b) (hl : Dig b l) : Dig b (x :: l) := by
  intro y hy
  rcases List.mem_cons.1 hy with rfl | hy
  · exact ⟨h, h'⟩
  · exact hl y hy
theorem Dig.hd {b x : Int} {l : List Int} (h : Dig b (x :: l)) : 0 ≤ x ∧ x < b := h x (by simp)
theorem Dig.tl {b x : Int} {l : List Int} (h : Dig b (x :: l)) : Dig b l := fun y hy => h y (by simp [hy])
theorem Dig.app {b : Int} {l m : List Int} (h : Dig b l) (h' : Dig b m) : Dig b (l ++ m) := fun x hx => (List.mem_append.1 hx).elim (h x) (h' x)
theorem Dig.one {b x : Int} (h : 0 ≤ x) (h' : x < b) : Dig b [x] := Dig.cons h h' Dig.nil
theorem Dig.sub {b : Int} {l m : List Int} (h : Dig b l) (hs : ∀ x ∈ m, x ∈ l) : Dig b m := fun x hx => h x (hs x hx)
theorem Dig.drop {b : Int} {l : List Int} (h : Dig b l) (n : Nat) : Dig b (l.drop n) := h.sub fun _ hx => List.mem_of_mem_drop hx
theorem Dig.take {b : Int} {l : List Int} (h : Dig b l) (n : Nat) : Dig b (l.take n) := h.sub fun _ hx => List.mem_of_mem_take hx
theorem Dig.at {b : Int} {l : List Int} (h : Dig b l) {i : Int} (hi : 0 ≤ i) (hl : i < l.length) : 0 ≤ rd l i ∧ rd l i < b := by
  have hlt : i.toNat < l.length := by omega
  have : rd l i = l[i.toNat] := by simp [Ev.rd, hlt]
  rw [this]; exact h _ (List.getElem_mem hlt)
theorem Dig.set {b : Int} {l : List Int} (h : Dig b l) {n : Nat} {x : Int} (hx : 0 ≤ x) (hx' : x < b) : Dig b (l.set n x) := by
  intro y hy
  rcases List.mem_or_eq_of_mem_set hy with h1 | h1
  · exact h y h1
  · subst h1; exact ⟨hx, hx'⟩
theorem ev_cons {b x : Int} {l : List Int} : ev b (x :: l) = x + b * ev b l := rfl
theorem ev_app {b : Int} (l m : List Int) : ev b (l ++ m) = ev b l + b ^ l.length * ev b m := by
  induction l with
  | nil => simp [ev]
  | cons x l ih => simp only [List.cons_append, ev, ih, List.length_cons, Int.pow_succ]; grind
theorem ev_snoc {b : Int} (l : List Int) (x : Int) : ev b (l ++ [x]) = ev b l + b ^ l.length * x := by rw [ev_app]; simp [ev]
theorem ev_nonneg {b : Int} (hb : 0 ≤ b) {l : List Int} (h : Dig b l) : 0 ≤ ev b l := by
  induction l with
  | nil => simp [ev]
  | cons x l ih =>
    have := Int.mul_nonneg hb (ih h.tl)
    have := h.hd.1
    simp only [ev]; omega
theorem ev_lt {b : Int} (hb : 0 < b) {l : List Int} (h : Dig b l) : ev b l < b ^ l.length := by
  induction l with
  | nil => simp [ev]
  | cons x l ih =>
    have h1 := ih h.tl
    have h2 := h.hd.2
    have h3 : b * ev b l ≤ b * (b ^ l.length - 1) := Int.mul_le_mul_of_nonneg_left (by omega) (by omega)
    simp only [ev, List.length_cons, Int.pow_succ]
    grind
theorem ev_zeros {b : Int} (n : Nat) : ev b (List.replicate n 0) = 0 := by
  induction n with
  | zero => rfl
  | succ n ih => simp [List.replicate_succ, ev, ih]
theorem drop_rd {l : List Int} {i : Int} (hi : 0 ≤ i) (hl : i < l.length) : l.drop i.toNat = rd l i :: l.drop (i.toNat + 1) := by
  have h : i.toNat < l.length := by omega
  rw [List.drop_eq_getElem_cons h]
  simp [Ev.rd, h]
def dgF (b : Nat) : Nat → Nat → List Int
  | 0, _ => []
  | f + 1, n => if n = 0 then [] else ((n % b : Nat) : Int) :: dgF b f (n / b)
def dg (b : Nat) (n : Nat) : List Int := dgF b n n
theorem dgF_zero (b f : Nat) : dgF b f 0 = [] := by cases f <;> simp [dgF]
theorem dgF_fuel {b : Nat} (hb : 2 ≤ b) : ∀ (f g n : Nat), n ≤ f → n ≤ g → dgF b f n = dgF b g n := by
  intro f
  induction f with
  | zero => intro g n hf hg; rw [Nat.le_zero.1 hf, dgF_zero, dgF_zero]
  | succ f ih =>
    intro g n hf hg
    cases g with
    | zero => rw [Nat.le_zero.1 hg, dgF_zero, dgF_zero]
    | succ g =>
      simp only [dgF]
      by_cases h0 : n = 0
      · simp [h0]
      · have : n / b < n := Nat.div_lt_self (by omega) hb
        simp only [h0, if_false, List.cons.injEq, true_and]
        exact ih g _ (by omega) (by omega)
theorem dg_zero (b : Nat) : dg b 0 = [] := rfl
theorem dg_pos {b n : Nat} (hb : 2 ≤ b) (hn : 0 < n) : dg b n = ((n % b : Nat) : Int) :: dg b (n / b) := by
  unfold dg
  cases n with
  | zero => omega
  | succ n =>
    have hd : (n + 1) / b < n + 1 := Nat.div_lt_self (by omega) hb
    rw [dgF]
    simp only [Nat.add_eq_zero_iff, Nat.succ_ne_self, and_false, if_false, List.cons.injEq, true_and]
    exact dgF_fuel hb _ _ _ (by omega) (by omega)
theorem dg_dig {b : Nat} (hb : 2 ≤ b) : ∀ n : Nat, Dig b (dg b n) := by
  intro n
  induction n using Nat.strongRecOn with
  | _ n ih =>
    rcases Nat.eq_zero_or_pos n with h | h
    · subst h; exact Dig.nil
    · rw [dg_pos hb h]
      have := Nat.mod_lt n (show 0 < b by omega)
      exact Dig.cons (by omega) (by omega) (ih _ (Nat.div_lt_self h hb))
theorem dg_ev {b : Nat} (hb : 2 ≤ b) : ∀ n : Nat, ev b (dg b n) = n := by
  intro n
  induction n using Nat.strongRecOn with
  | _ n ih =>
    rcases Nat.eq_zero_or_pos n with h | h
    · subst h; rfl
    · rw [dg_pos hb h, ev, ih _ (Nat.div_lt_self h hb)]
      have := Nat.mod_add_div n b
      rw [← Int.natCast_mul, ← Int.natCast_add, this]
def nrm : List Int → List Int
  | [] => []
  | x :: l => if x = 0 ∧ nrm l = [] then [] else x :: nrm l
theorem nrm_ev {b : Int} (l : List Int) : ev b (nrm l) = ev b l := by
  induction l with
  | nil => rfl
  | cons x l ih =>
    simp only [nrm]
    split
    · rename_i h; rw [h.2] at ih; simp [ev, ← ih, h.1]
    · simp [ev, ih]
theorem nrm_dg {b n : Nat} (hb : 2 ≤ b) {l : List Int} (h : Dig b l) (e : ev b l = n) : nrm l = dg b n := by
  induction l generalizing n with
  | nil => have : n = 0 := by simp [ev] at e; omega
           subst this; rfl
  | cons x l ih =>
    obtain ⟨m, hm⟩ := Int.eq_ofNat_of_zero_le (ev_nonneg (by omega) h.tl)
    obtain ⟨y, hy⟩ := Int.eq_ofNat_of_zero_le h.hd.1
    have hx := h.hd.2
    subst hy
    have ih' := ih h.tl hm
    simp only [ev, hm] at e
    have hn : n = y + b * m := by
      have : ((y + b * m : Nat) : Int) = (n : Int) := by simpa using e
      omega
    have hyb : y < b := by omega
    have hmod : n % b = y := by rw [hn, Nat.add_mul_mod_self_left, Nat.mod_eq_of_lt hyb]
    have hdiv : n / b = m := by rw [hn, Nat.add_mul_div_left _ _ (by omega), Nat.div_eq_of_lt hyb]; omega
    rcases Nat.eq_zero_or_pos n with h0 | h0
    · have hy0 : y = 0 := by omega
      have hm0 : m = 0 := by
        rcases Nat.eq_zero_or_pos m with h | h
        · exact h
        · have := Nat.mul_pos (show 0 < b by omega) h; omega
      subst hy0 hm0
      rw [dg_zero] at ih'
      subst h0
      simp [nrm, ih', dg_zero]
    · rw [dg_pos hb h0, hmod, hdiv, ← ih']
      simp only [nrm]
      split
      · rename_i h
        have h1 : y = 0 := by omega
        have h2 : m = 0 := by
          have : ev b (nrm l) = m := by rw [nrm_ev, hm]
          rw [h.2] at this; simp [ev] at this; omega
        subst h1 h2; omega
      · rfl
theorem nrm_self {l : List Int} (h : l.getLast? ≠ some 0) : nrm l = l := by
  induction l with
  | nil => rfl
  | cons x l ih =>
    cases l with
    | nil =>
      simp only [List.getLast?_singleton, ne_eq, Option.some.injEq] at h
      simp [nrm, h]
    | cons y l =>
      rw [List.getLast?_cons_cons] at h
      have := ih h
      rw [nrm, this]
      simp
theorem eq_dg {b n : Nat} (hb : 2 ≤ b) {l : List Int} (h : Dig b l) (hl : l.getLast? ≠ some 0) (e : ev b l = n) : l = dg b n := by rw [← nrm_dg hb h e, nrm_self hl]
theorem dg_last {b : Nat} (hb : 2 ≤ b) : ∀ n : Nat, (dg b n).getLast? ≠ some 0 := by
  intro n
  induction n using Nat.strongRecOn with
  | _ n ih =>
    rcases Nat.eq_zero_or_pos n with h | h
    · subst h; simp [dg_zero]
    · rw [dg_pos hb h]
      have h1 := ih _ (Nat.div_lt_self h hb)
      rcases Nat.eq_zero_or_pos (n / b) with h2 | h2
      · rw [h2, dg_zero]
        have h3 : n % b = n := Nat.mod_eq_of_lt (by
          rcases Nat.lt_or_ge n b with h4 | h4
          · exact h4
          · have := Nat.div_pos h4 (show 0 < b by omega); omega)
        simp [h3]; omega
      · rw [dg_pos hb h2] at h1 ⊢
        rw [List.getLast?_cons_cons]; exact h1
theorem dg_lt {b n : Nat} (hb : 2 ≤ b) : n < b ^ (dg b n).length := by
  have h1 := ev_lt (b := b) (by omega) (dg_dig hb n)
  rw [dg_ev hb] at h1
  have : ((b ^ (dg b n).length : Nat) : Int) = (b : Int) ^ (dg b n).length := by simp
  omega
theorem dg_len {b n m : Nat} (hb : 2 ≤ b) (h : n < b ^ m) : (dg b n).length ≤ m := by
  induction m generalizing n with
  | zero => have : n = 0 := by simp at h; omega
            subst this; simp [dg_zero]
  | succ m ih =>
    rcases Nat.eq_zero_or_pos n with h0 | h0
    · subst h0; simp [dg_zero]
    · rw [dg_pos hb h0, List.length_cons]
      have := ih (n := n / b) (by rw [Nat.div_lt_iff_lt_mul (by omega)]; rw [Nat.pow_succ] at h; exact h)
      omega
theorem dg_len_iff {b n m : Nat} (hb : 2 ≤ b) : (dg b n).length ≤ m ↔ n < b ^ m :=
  ⟨fun h => Nat.lt_of_lt_of_le (dg_lt hb) (Nat.pow_le_pow_right (by omega) h), dg_len hb⟩
theorem dg_len_pos {b n : Nat} (hb : 2 ≤ b) : 0 < (dg b n).length ↔ 0 < n := by
  constructor
  · intro h
    rcases Nat.eq_zero_or_pos n with h0 | h0
    · subst h0; simp [dg_zero] at h
    · exact h0
  · intro h
    rw [dg_pos hb h]; simp
theorem valid_dg {b : Nat} (hb : 2 ≤ b) {l : List Int} (h : Dig b l) (hl : l.getLast? ≠ some 0) : ∃ n, l = dg b n := by
  obtain ⟨n, hn⟩ := Int.eq_ofNat_of_zero_le (ev_nonneg (b := b) (by omega) h)
  exact ⟨n, eq_dg hb h hl hn⟩
theorem nrm_take (l : List Int) : nrm l = l.take (nrm l).length := by
  induction l with
  | nil => rfl
  | cons x l ih =>
    simp only [nrm]
    split
    · simp
    · simp [← ih]
theorem nrm_cut {l : List Int} {m : Nat} (hm : m ≤ l.length) (hz : ∀ j, m ≤ j → j < l.length → l.getD j 0 = 0) (hn : m = 0 ∨ l.getD (m - 1) 0 ≠ 0) : (nrm l).length = m := by
  induction l generalizing m with
  | nil => simp at hm; subst hm; rfl
  | cons x l ih =>
    cases m with
    | zero =>
      have h1 := ih (m := 0) (by omega) (fun j _ hj => by have := hz (j + 1) (by omega) (by simpa using hj); simpa using this) (.inl rfl)
      have h2 : x = 0 := by have := hz 0 (by omega) (by simp); simpa using this
      have h3 : nrm l = [] := List.length_eq_zero_iff.1 h1
      simp [nrm, h2, h3]
    | succ m =>
      have h1 := ih (m := m) (by simpa using hm) (fun j hj hj' => by have := hz (j + 1) (by omega) (by simpa using hj'); simpa using this) (by
        rcases Nat.eq_zero_or_pos m with h | h
        · exact .inl h
        · right
          rcases hn with hn | hn
          · omega
          · obtain ⟨m, rfl⟩ : ∃ m', m = m' + 1 := ⟨m - 1, by omega⟩
            simpa using hn)
      simp only [nrm]
      split
      · rename_i h
        rw [h.2] at h1; simp at h1; subst h1
        rcases hn with hn | hn
        · omega
        · simp at hn; exact absurd h.1 hn
      · simp [h1]
theorem hB32 : 2 ≤ 4294967296 := by decide
theorem hB16 : 2 ≤ 65536 := by decide
theorem dd32 (n : Nat) : Dig (4294967296 : Int) (dg 4294967296 n) := dg_dig hB32 n
theorem dd16 (n : Nat) : Dig (65536 : Int) (dg 65536 n) := dg_dig hB16 n
theorem de32 (n : Nat) : ev (4294967296 : Int) (dg 4294967296 n) = n := dg_ev hB32 n
theorem de16 (n : Nat) : ev (65536 : Int) (dg 65536 n) = n := dg_ev hB16 n
theorem nd32 {n : Nat} {l : List Int} (h : Dig (4294967296 : Int) l) (e : ev (4294967296 : Int) l = n) : nrm l = dg 4294967296 n := nrm_dg hB32 h e
theorem nd16 {n : Nat} {l : List Int} (h : Dig (65536 : Int) l) (e : ev (65536 : Int) l = n) : nrm l = dg 65536 n := nrm_dg hB16 h e
theorem e600_ex : ∃ e : Nat, e = 600 := ⟨_, rfl⟩
noncomputable def e600 : Nat := Classical.choose e600_ex
theorem e600_eq : e600 = 600 := Classical.choose_spec e600_ex
noncomputable def lim : Nat := 4294967296 ^ e600
theorem lim_def : lim = 4294967296 ^ e600 := rfl
theorem lim_iff {n : Nat} : (dg 4294967296 n).length ≤ 600 ↔ n < lim := by rw [← e600_eq]; exact dg_len_iff hB32
end Go.Pl
