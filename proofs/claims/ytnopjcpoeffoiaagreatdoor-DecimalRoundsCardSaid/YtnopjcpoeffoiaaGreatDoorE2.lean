/- What the machine's memory is to the evaluator's state; that it stays so where memory grows.  Conditions: none.
   How the relation of memory to state goes on: a value put into a slot, memory that grows, a new block, a written block, a block that is frozen.  Conditions: those that each theorem names.
   What the machine's operations do, of the evaluator's: those that lay no block and write none.  Conditions: those that each theorem names; 'TyOK' ties the table of types to the program.
   What the machine's operations do, of the evaluator's: reads, conversions, structs.  Conditions: those that each theorem names.
   Operation by operation: those that lay no block and write none.  Conditions: those that each theorem names.
   Operation by operation: lengths, cuts; data out of cells, frozen blocks.  Conditions: those that each theorem names.
   Operation by operation: data out of cells, new blocks.  Conditions: those that each theorem names.
   Operation by operation: new blocks.  Conditions: those that each theorem names.
   Memory that is written, blocks that are told anew, rows of cells.  Conditions: those that each theorem names.
   Operation by operation: conversions, structs, literals, append, copy, store.  Conditions: those that each theorem names.
   Operation by operation: slice literals, functions, append, copy, store.  Conditions: those that each theorem names.
   Operation by operation: append, copy, store.  Conditions: those that each theorem names. -/
import Derived.Test.YtnopjcpoeffoiaaGreatDoorE1
import Derived.ProofKit
import Derived.Laws.MakeOwn
import Derived.Laws.BytesString
import Derived.Laws.IdiomCopy
import Derived.Lib.ConvBytes
import Derived.Laws.AppendOwn
import Derived.Laws.Tables
namespace Go.Ev
open Go
inductive All2 {α β : Type} (r : α → β → Prop) : List α → List β → Prop
  | nil : All2 r [] []
  | cons {a b l m} : r a b → All2 r l m → All2 r (a :: l) (b :: m)
namespace All2
variable {α β : Type} {r q : α → β → Prop}
theorem len {l : List α} {m : List β} (h : All2 r l m) : l.length = m.length := by
  induction h with
  | nil => rfl
  | cons _ _ ih => simp [ih]
theorem mono {l : List α} {m : List β} (h : All2 r l m) (hq : ∀ a b, r a b → q a b) : All2 q l m := by
  induction h with
  | nil => exact .nil
  | cons h _ ih => exact .cons (hq _ _ h) ih
theorem mono_mem {l : List α} {m : List β} (h : All2 r l m) (hq : ∀ a ∈ l, ∀ b, r a b → q a b) : All2 q l m := by
  induction h with
  | nil => exact .nil
  | cons h _ ih => exact .cons (hq _ (by simp) _ h) (ih fun a ha => hq a (by simp [ha]))
theorem app {l l' : List α} {m m' : List β} (h : All2 r l m) (h' : All2 r l' m') : All2 r (l ++ l') (m ++ m') := by
  induction h with
  | nil => exact h'
  | cons h _ ih => exact .cons h ih
theorem take {l : List α} {m : List β} (h : All2 r l m) (n : Nat) : All2 r (l.take n) (m.take n) := by
  induction h generalizing n with
  | nil => simp; exact .nil
  | cons h _ ih => cases n with
    | zero => exact .nil
    | succ n => exact .cons h (ih n)
theorem drop {l : List α} {m : List β} (h : All2 r l m) (n : Nat) : All2 r (l.drop n) (m.drop n) := by
  induction h generalizing n with
  | nil => simp; exact .nil
  | cons h hh ih => cases n with
    | zero => exact .cons h hh
    | succ n => exact ih n
theorem split {l l' : List α} {m : List β} (h : All2 r (l ++ l') m) : ∃ m1 m2, m = m1 ++ m2 ∧ All2 r l m1 ∧ All2 r l' m2 := by
  induction l generalizing m with
  | nil => exact ⟨[], m, rfl, .nil, h⟩
  | cons a l ih => cases h with
    | cons h hh => obtain ⟨m1, m2, rfl, h1, h2⟩ := ih hh; exact ⟨_ :: m1, m2, rfl, .cons h h1, h2⟩
theorem get {l : List α} {m : List β} (h : All2 r l m) {i : Nat} {a : α} (ha : l[i]? = some a) : ∃ b, m[i]? = some b ∧ r a b := by
  induction h generalizing i with
  | nil => simp at ha
  | cons h _ ih => cases i with
    | zero => simp at ha; subst ha; exact ⟨_, rfl, h⟩
    | succ i => exact ih (by simpa using ha)
theorem nil_inv {m : List β} (h : All2 r [] m) : m = [] := by cases h; rfl
theorem one_inv {a : α} {m : List β} (h : All2 r [a] m) : ∃ b, m = [b] ∧ r a b := by cases h with | cons h hh => cases hh; exact ⟨_, rfl, h⟩
end All2
def Agree (w w' : World) (R : Nat → Prop) : Prop := ∀ b, R b → w'.heap[b]? = w.heap[b]?
def SlR (w : World) (R : Nat → Prop) (sz : Nat) {α : Type} (rel : α → List Value → Prop) (l : List α) (v : Value) : Prop :=
  (v = .slice none 0 0 ∧ l = []) ∨
  ∃ b off cap cs T fz, v = .slice (some ⟨b, off, none⟩) l.length cap ∧ l.length ≤ cap ∧ R b ∧ w.heap[b]? = some (.cells cs T fz) ∧
    off + cap * sz ≤ cs.size ∧ ∀ i (h : i < l.length), rel l[i] ((cs.toList.drop (off + i * sz)).take sz)
def PtR (w : World) (R : Nat → Prop) (sz : Nat) (rel : List Value → Prop) (v : Value) : Prop :=
  ∃ b off cs T fz, v = .pointer (some ⟨b, off, none⟩) ∧ R b ∧ w.heap[b]? = some (.cells cs T fz) ∧ off + sz ≤ cs.size ∧ rel ((cs.toList.drop off).take sz)
def CR (w : World) (R : Nat → Prop) : (t : Ty) → t.den → List Value → Prop
  | .int k, x, cs => cs = [.int k x]
  | .bool, x, cs => cs = [.bool x]
  | .str, x, cs => cs = [.string x]
  | .list t, l, cs => ∃ v, cs = [v] ∧ SlR w R t.size (fun (x : t.den) c => CR w R t x c) l v
  | .st t, x, cs => CR w R t x cs
  | .pair a b, x, cs => ∃ c1 c2, cs = c1 ++ c2 ∧ CR w R a x.1 c1 ∧ CR w R b x.2 c2
  | .unit, _, cs => cs = []
  | .ptr t, x, cs => ∃ v, cs = [v] ∧ PtR w R t.size (fun c => CR w R t x c) v
theorem SlR.mono {w w' : World} {R R' : Nat → Prop} {sz : Nat} {α : Type} {rel rel' : α → List Value → Prop} {l : List α} {v : Value}
    (h : SlR w R sz rel l v) (hR : ∀ b, R b → R' b) (ha : Agree w w' R) (hr : ∀ x c, rel x c → rel' x c) : SlR w' R' sz rel' l v := by
  rcases h with h | ⟨b, off, cap, cs, T, fz, hv, hl, hb, hh, hs, he⟩
  · exact .inl h
  · exact .inr ⟨b, off, cap, cs, T, fz, hv, hl, hR _ hb, (ha b hb).trans hh, hs, fun i hi => hr _ _ (he i hi)⟩
theorem PtR.mono {w w' : World} {R R' : Nat → Prop} {sz : Nat} {rel rel' : List Value → Prop} {v : Value}
    (h : PtR w R sz rel v) (hR : ∀ b, R b → R' b) (ha : Agree w w' R) (hr : ∀ c, rel c → rel' c) : PtR w' R' sz rel' v := by
  obtain ⟨b, off, cs, T, fz, hv, hb, hh, hs, he⟩ := h
  exact ⟨b, off, cs, T, fz, hv, hR _ hb, (ha b hb).trans hh, hs, hr _ he⟩
theorem CR.mono {w w' : World} {R R' : Nat → Prop} (hR : ∀ b, R b → R' b) (ha : Agree w w' R) :
    ∀ (t : Ty) (x : t.den) (cs : List Value), CR w R t x cs → CR w' R' t x cs := by
  intro t
  induction t with
  | int k => intro x cs h; exact h
  | bool => intro x cs h; exact h
  | str => intro x cs h; exact h
  | list t ih => intro x cs h; obtain ⟨v, hv, hs⟩ := h; exact ⟨v, hv, hs.mono hR ha fun x c h => ih x c h⟩
  | st t ih => intro x cs h; exact ih x cs h
  | pair a b iha ihb => intro x cs h; obtain ⟨c1, c2, he, h1, h2⟩ := h; exact ⟨c1, c2, he, iha _ _ h1, ihb _ _ h2⟩
  | unit => intro x cs h; exact h
  | ptr t ih => intro x cs h; obtain ⟨v, hv, hs⟩ := h; exact ⟨v, hv, hs.mono hR ha fun c h => ih x c h⟩
theorem CR.len {w : World} {R : Nat → Prop} : ∀ (t : Ty) (x : t.den) (cs : List Value), CR w R t x cs → cs.length = t.size := by
  intro t
  induction t with
  | int k => intro x cs h; simp only [CR] at h; subst h; rfl
  | bool => intro x cs h; simp only [CR] at h; subst h; rfl
  | str => intro x cs h; simp only [CR] at h; subst h; rfl
  | list t ih => intro x cs h; obtain ⟨v, rfl, _⟩ := h; rfl
  | st t ih => intro x cs h; exact ih x cs h
  | pair a b iha ihb => intro x cs h; obtain ⟨c1, c2, rfl, h1, h2⟩ := h; simp [Ty.size, iha _ _ h1, ihb _ _ h2]
  | unit => intro x cs h; simp only [CR] at h; subst h; rfl
  | ptr t ih => intro x cs h; obtain ⟨v, rfl, _⟩ := h; rfl
def Flat (v : Value) : Prop := (∀ c, v ≠ .agg c) ∧ ∀ c, v ≠ .tuple c
theorem SlR.flat {w : World} {R : Nat → Prop} {sz : Nat} {α : Type} {rel : α → List Value → Prop} {l : List α} {v : Value} (h : SlR w R sz rel l v) : Flat v := by
  rcases h with ⟨rfl, _⟩ | ⟨b, off, cap, cs, T, fz, rfl, _⟩ <;> exact ⟨fun _ h => (by cases h), fun _ h => (by cases h)⟩
theorem CR.flat {w : World} {R : Nat → Prop} : ∀ (t : Ty) (x : t.den) (cs : List Value), CR w R t x cs → ∀ c ∈ cs, Flat c := by
  intro t
  induction t with
  | int k => intro x cs h c hc; simp only [CR] at h; subst h; simp at hc; subst hc; exact ⟨fun _ h => (by cases h), fun _ h => (by cases h)⟩
  | bool => intro x cs h c hc; simp only [CR] at h; subst h; simp at hc; subst hc; exact ⟨fun _ h => (by cases h), fun _ h => (by cases h)⟩
  | str => intro x cs h c hc; simp only [CR] at h; subst h; simp at hc; subst hc; exact ⟨fun _ h => (by cases h), fun _ h => (by cases h)⟩
  | list t ih => intro x cs h c hc; obtain ⟨v, rfl, hs⟩ := h; simp at hc; subst hc; exact hs.flat
  | st t ih => intro x cs h; exact ih x cs h
  | pair a b iha ihb =>
    intro x cs h c hc; obtain ⟨c1, c2, rfl, h1, h2⟩ := h
    rcases List.mem_append.1 hc with hc | hc
    · exact iha _ _ h1 c hc
    · exact ihb _ _ h2 c hc
  | unit => intro x cs h c hc; simp only [CR] at h; subst h; simp at hc
  | ptr t ih => intro x cs h c hc; obtain ⟨v, rfl, b, off, cs', T, fz, rfl, _⟩ := h; simp at hc; subst hc; exact ⟨fun _ h => (by cases h), fun _ h => (by cases h)⟩
theorem CR.noList {w w' : World} {R R' : Nat → Prop} : ∀ (t : Ty) (x : t.den) (cs : List Value), hasList t = false → CR w R t x cs → CR w' R' t x cs := by
  intro t
  induction t with
  | int k => intro x cs _ h; exact h
  | bool => intro x cs _ h; exact h
  | str => intro x cs _ h; exact h
  | list t ih => intro x cs hl; simp [hasList] at hl
  | st t ih => intro x cs hl h; exact ih x cs hl h
  | pair a b iha ihb =>
    intro x cs hl h; simp [hasList] at hl
    obtain ⟨c1, c2, he, h1, h2⟩ := h; exact ⟨c1, c2, he, iha _ _ hl.1 h1, ihb _ _ hl.2 h2⟩
  | unit => intro x cs _ h; exact h
  | ptr t ih => intro x cs hl; simp [hasList] at hl
def VR (w : World) (R : Nat → Prop) (t : Ty) (x : t.den) (v : Value) : Prop :=
  cond (isSt t) (∃ cs, v = .agg cs.toArray ∧ CR w R t x cs) (CR w R t x [v])
theorem VR.mono {w w' : World} {R R' : Nat → Prop} {t : Ty} {x : t.den} {v : Value} (hR : ∀ b, R b → R' b) (ha : Agree w w' R) (h : VR w R t x v) : VR w' R' t x v := by
  unfold VR at *
  cases hs : isSt t <;> simp only [hs, cond_true, cond_false] at *
  · exact CR.mono hR ha _ _ _ h
  · obtain ⟨cs, hv, hc⟩ := h; exact ⟨cs, hv, CR.mono hR ha _ _ _ hc⟩
def DatsR (w : World) (R : Nat → Prop) (l : List Dat) (vs : List Value) : Prop := All2 (fun (d : Dat) v => VR w R d.t d.x v) l vs
def SubR (ρ : Nat → Value) (w : World) (R : Nat → Prop) : SubC → Value → Prop
  | .dat e l, v => CR w R (.list e) l [v]
  | .ref i, v => v = ρ i ∧ ((v = .slice none 0 0) ∨ ∃ b off len cap, v = .slice (some ⟨b, off, none⟩) len cap)
  | .part i t off n, v => 0 ≤ off ∧ 0 ≤ n ∧ ((ρ i = .slice none 0 0 ∧ v = .slice none 0 0 ∧ off = 0 ∧ n = 0) ∨
      ∃ b o len cap q cap', ρ i = .slice (some ⟨b, o, none⟩) len cap ∧ v = .slice (some ⟨b, q, none⟩) n.toNat cap' ∧
        off + n ≤ len ∧ n.toNat ≤ cap' ∧ off.toNat + cap' ≤ cap ∧ (cap' = 0 ∨ q = o + off.toNat * t.size) ∧ q + cap' * t.size ≤ o + cap * t.size)
def CelR (ρ : Nat → Value) (w : World) (R : Nat → Prop) : Cel → Value → Prop
  | .u, _ => True
  | .dat t x, v => CR w R t x [v]
  | .nil, v => v = .slice none 0 0
  | .ref i, v => v = ρ i ∧ ((v = .slice none 0 0) ∨ ∃ b off len cap, v = .slice (some ⟨b, off, none⟩) len cap)
  | .part i t off n, v => 0 ≤ off ∧ 0 ≤ n ∧ ((ρ i = .slice none 0 0 ∧ v = .slice none 0 0 ∧ off = 0 ∧ n = 0) ∨
      ∃ b o len cap q cap', ρ i = .slice (some ⟨b, o, none⟩) len cap ∧ v = .slice (some ⟨b, q, none⟩) n.toNat cap' ∧
        off + n ≤ len ∧ n.toNat ≤ cap' ∧ off.toNat + cap' ≤ cap ∧ (cap' = 0 ∨ q = o + off.toNat * t.size) ∧ q + cap' * t.size ≤ o + cap * t.size)
  | .ptr i off, v => ∃ b, ρ i = .pointer (some ⟨b, 0, none⟩) ∧ v = .pointer (some ⟨b, off, none⟩)
  | .elt i t n off, v => 0 ≤ n ∧ ∃ b o len cap, ρ i = .slice (some ⟨b, o, none⟩) len cap ∧ n < len ∧ v = .pointer (some ⟨b, o + n.toNat * t.size + off, none⟩)
  | .mp i, v => v = ρ i ∧ ∃ b, v = .map (some b)
  | .fn f caps, v => ∃ vs, v = .func (.func f) #[] vs.toArray ∧ DatsR w R caps vs
  | .tab l, v => ∃ b vs X fz, v = .slice (some ⟨b, 0, none⟩) l.length l.length ∧ R b ∧ w.heap[b]? = some (.cells vs X fz) ∧ All2 (SubR ρ w R) l vs.toList
theorem SubR.mono {ρ : Nat → Value} {w w' : World} {R R' : Nat → Prop} (hR : ∀ b, R b → R' b) (ha : Agree w w' R) (s : SubC) (v : Value) (h : SubR ρ w R s v) : SubR ρ w' R' s v := by
  cases s with
  | dat e l => exact CR.mono hR ha _ _ _ h
  | _ => exact h
theorem CelR.mono {ρ : Nat → Value} {w w' : World} {R R' : Nat → Prop} (hR : ∀ b, R b → R' b) (ha : Agree w w' R) :
    ∀ (c : Cel) (v : Value), CelR ρ w R c v → CelR ρ w' R' c v := by
  intro c v h
  cases c with
  | dat t x => exact CR.mono hR ha _ _ _ h
  | fn f caps => obtain ⟨vs, hv, hd⟩ := h; exact ⟨vs, hv, hd.mono fun d v hd => hd.mono hR ha⟩
  | tab l => obtain ⟨b, vs, X, fz, hv, hb, hh, hd⟩ := h; exact ⟨b, vs, X, fz, hv, hR b hb, (ha b hb).trans hh, hd.mono fun s v hs => hs.mono hR ha⟩
  | _ => exact h
theorem CelR.flat {ρ : Nat → Value} {w : World} {R : Nat → Prop} {c : Cel} {v : Value} (hk : c.known = true) (h : CelR ρ w R c v) : Flat v := by
  cases c with
  | u => simp [Cel.known] at hk
  | dat t x => exact CR.flat _ _ _ h v (by simp)
  | nil => simp only [CelR] at h; subst h; exact ⟨fun _ h => (by cases h), fun _ h => (by cases h)⟩
  | ref i => rcases h.2 with rfl | ⟨b, off, len, cap, rfl⟩ <;> exact ⟨fun _ h => (by cases h), fun _ h => (by cases h)⟩
  | part i t off n =>
    rcases h.2.2 with ⟨_, rfl, _⟩ | ⟨b, o, len, cap, q, cap', _, rfl, _⟩ <;> exact ⟨fun _ h => (by cases h), fun _ h => (by cases h)⟩
  | ptr i off => obtain ⟨b, _, rfl⟩ := h; exact ⟨fun _ h => (by cases h), fun _ h => (by cases h)⟩
  | elt i t n off => obtain ⟨_, b, o, len, cap, _, _, rfl⟩ := h; exact ⟨fun _ h => (by cases h), fun _ h => (by cases h)⟩
  | mp i => obtain ⟨_, b, rfl⟩ := h; exact ⟨fun _ h => (by cases h), fun _ h => (by cases h)⟩
  | fn f caps => obtain ⟨vs, rfl, _⟩ := h; exact ⟨fun _ h => (by cases h), fun _ h => (by cases h)⟩
  | tab l => obtain ⟨b, vs, X, fz, rfl, _⟩ := h; exact ⟨fun _ h => (by cases h), fun _ h => (by cases h)⟩
def CelsR (ρ : Nat → Value) (w : World) (R : Nat → Prop) (l : List Cel) (vs : List Value) : Prop := All2 (CelR ρ w R) l vs
def TupR (ρ : Nat → Value) (w : World) (R : Nat → Prop) (p : Bool × List Cel) (v : Value) : Prop :=
  cond p.1 (∃ us, v = .agg us.toArray ∧ CelsR ρ w R p.2 us) (∃ c, p.2 = [c] ∧ CelR ρ w R c v)
def Cel.isDat : Cel → Bool
  | .dat .. => true
  | _ => false
def AVR (ρ : Nat → Value) (w : World) (R : Nat → Prop) : AV → Value → Prop
  | .one c, v => CelR ρ w R c v
  | .agg l, v => ∃ vs, v = .agg vs.toArray ∧ CelsR ρ w R l vs
  | .tup l, v => ∃ vs, v = .tuple vs.toArray ∧ All2 (TupR ρ w R) l vs
  | .at l, v => (∀ c ∈ l, c.isDat = true) ∧ ∃ b off cs T fz, v = .pointer (some ⟨b, off, none⟩) ∧ R b ∧ w.heap[b]? = some (.cells cs T fz) ∧
      off + l.length ≤ cs.size ∧ CelsR ρ w R l ((cs.toList.drop off).take l.length)
theorem TupR.mono {ρ : Nat → Value} {w w' : World} {R R' : Nat → Prop} (hR : ∀ b, R b → R' b) (ha : Agree w w' R) (p : Bool × List Cel) (v : Value) (h : TupR ρ w R p v) : TupR ρ w' R' p v := by
  unfold TupR at *
  cases hp : p.1 <;> simp only [hp, cond_true, cond_false] at *
  · obtain ⟨c, hc, h⟩ := h; exact ⟨c, hc, CelR.mono hR ha _ _ h⟩
  · obtain ⟨us, hv, h⟩ := h; exact ⟨us, hv, h.mono (CelR.mono hR ha)⟩
theorem AVR.mono {ρ : Nat → Value} {w w' : World} {R R' : Nat → Prop} (hR : ∀ b, R b → R' b) (ha : Agree w w' R) (x : AV) (v : Value) (h : AVR ρ w R x v) : AVR ρ w' R' x v := by
  cases x with
  | one c => exact CelR.mono hR ha _ _ h
  | agg l => obtain ⟨vs, hv, h⟩ := h; exact ⟨vs, hv, h.mono (CelR.mono hR ha)⟩
  | tup l => obtain ⟨vs, hv, h⟩ := h; exact ⟨vs, hv, h.mono (TupR.mono hR ha)⟩
  | «at» l =>
    obtain ⟨hd, b, off, cs, T, fz, hv, hb, hh, hs, h⟩ := h
    exact ⟨hd, b, off, cs, T, fz, hv, hR _ hb, (ha b hb).trans hh, hs, h.mono (CelR.mono hR ha)⟩
theorem mem_subIds {l : List SubC} {s : SubC} {i : Nat} (hc : s ∈ l) (hi : i ∈ s.ids) : i ∈ subIds l := by
  induction l with
  | nil => simp at hc
  | cons a l ih =>
    simp only [subIds, List.mem_append]
    rcases List.mem_cons.1 hc with rfl | hc
    · exact .inl hi
    · exact .inr (ih hc)
theorem SubR.rho {ρ ρ' : Nat → Value} {w : World} {R : Nat → Prop} {s : SubC} {v : Value} (h : SubR ρ w R s v) (hi : ∀ i ∈ s.ids, ρ' i = ρ i) : SubR ρ' w R s v := by
  cases s with
  | ref i => exact ⟨by rw [hi i (by simp [SubC.ids])]; exact h.1, h.2⟩
  | part i t off n => obtain ⟨h1, h2, h3⟩ := h; exact ⟨h1, h2, by rw [hi i (by simp [SubC.ids])]; exact h3⟩
  | dat e l => exact h
theorem CelR.rho {ρ ρ' : Nat → Value} {w : World} {R : Nat → Prop} {c : Cel} {v : Value} (h : CelR ρ w R c v) (hi : ∀ i ∈ c.ids, ρ' i = ρ i) : CelR ρ' w R c v := by
  cases c with
  | ref i => exact ⟨by rw [hi i (by simp [Cel.ids])]; exact h.1, h.2⟩
  | part i t off n => obtain ⟨h1, h2, h3⟩ := h; exact ⟨h1, h2, by rw [hi i (by simp [Cel.ids])]; exact h3⟩
  | ptr i off => obtain ⟨b, h1, h2⟩ := h; exact ⟨b, by rw [hi i (by simp [Cel.ids])]; exact h1, h2⟩
  | mp i => exact ⟨by rw [hi i (by simp [Cel.ids])]; exact h.1, h.2⟩
  | elt i t n off => obtain ⟨h0, b, o, len, cap, h1, h2⟩ := h; exact ⟨h0, b, o, len, cap, by rw [hi i (by simp [Cel.ids])]; exact h1, h2⟩
  | tab l => obtain ⟨b, vs, X, fz, hv, hb, hh, hd⟩ := h; exact ⟨b, vs, X, fz, hv, hb, hh, hd.mono_mem fun s hs v hr => hr.rho fun i hm => hi i (mem_subIds hs hm)⟩
  | _ => exact h
theorem mem_idsOf {l : List Cel} {c : Cel} {i : Nat} (hc : c ∈ l) (hi : i ∈ c.ids) : i ∈ idsOf l := by
  induction l with
  | nil => simp at hc
  | cons a l ih =>
    simp only [idsOf, List.mem_append]
    rcases List.mem_cons.1 hc with rfl | hc
    · exact .inl hi
    · exact .inr (ih hc)
theorem mem_idsOfTup {l : List (Bool × List Cel)} {p : Bool × List Cel} {i : Nat} (hc : p ∈ l) (hi : i ∈ idsOf p.2) : i ∈ idsOfTup l := by
  induction l with
  | nil => simp at hc
  | cons a l ih =>
    simp only [idsOfTup, List.mem_append]
    rcases List.mem_cons.1 hc with rfl | hc
    · exact .inl hi
    · exact .inr (ih hc)
theorem CelsR.rho {ρ ρ' : Nat → Value} {w : World} {R : Nat → Prop} {l : List Cel} {vs : List Value} (h : CelsR ρ w R l vs) (hi : ∀ i ∈ idsOf l, ρ' i = ρ i) : CelsR ρ' w R l vs :=
  All2.mono_mem h fun _ hc _ hr => hr.rho fun i hm => hi i (mem_idsOf hc hm)
theorem AVR.rho {ρ ρ' : Nat → Value} {w : World} {R : Nat → Prop} {x : AV} {v : Value} (h : AVR ρ w R x v) (hi : ∀ i ∈ x.ids, ρ' i = ρ i) : AVR ρ' w R x v := by
  cases x with
  | one c => exact CelR.rho (c := c) h hi
  | agg l => obtain ⟨vs, hv, h⟩ := h; exact ⟨vs, hv, CelsR.rho h hi⟩
  | tup l =>
    obtain ⟨vs, hv, h⟩ := h
    refine ⟨vs, hv, h.mono_mem fun p hp v hr => ?_⟩
    unfold TupR at *
    cases hb : p.1 <;> simp only [hb, cond_true, cond_false] at *
    · obtain ⟨c, hc, hr⟩ := hr; exact ⟨c, hc, hr.rho fun i hm => hi i (mem_idsOfTup hp (by rw [hc]; simp [idsOf, hm]))⟩
    · obtain ⟨us, hv, hr⟩ := hr; exact ⟨us, hv, CelsR.rho hr fun i hm => hi i (mem_idsOfTup hp hm)⟩
  | «at» l =>
    obtain ⟨hd, b, off, cs, T, fz, hv, hb, hh, hs, h⟩ := h
    exact ⟨hd, b, off, cs, T, fz, hv, hb, hh, hs, CelsR.rho h hi⟩
def OwnR (w : World) (R : Nat → Prop) (t : Ty) (l : List t.den) (o : Nat) (v : Value) : Prop :=
  (v = .slice none 0 0 ∧ l = []) ∨
  ∃ b off cap cs T fz, v = .slice (some ⟨b, off, none⟩) l.length cap ∧ l.length ≤ cap ∧ w.heap[b]? = some (.cells cs T fz) ∧
    off + cap * t.size ≤ cs.size ∧ (∀ i (h : i < l.length), CR w R t l[i] ((cs.toList.drop (off + i * t.size)).take t.size)) ∧
    (o = 0 → R b) ∧ (o ≠ 0 → ¬ R b ∧ ∀ j, j < cs.size → ¬ (fz.1 ≤ j ∧ j < fz.2))
def BoxR (ρ : Nat → Value) (w : World) (R : Nat → Prop) (cs : List Cel) (v : Value) : Prop :=
  ∃ b vs T, v = .pointer (some ⟨b, 0, none⟩) ∧ w.heap[b]? = some (.cells vs.toArray T (0, 0)) ∧ CelsR ρ w R cs vs ∧ ¬ R b
def MapR (w : World) (R : Nat → Prop) (l : List Int) (v : Value) : Prop :=
  ∃ b es ck, v = .map (some b) ∧ w.heap[b]? = some (.map es ck) ∧ es.toList.map (fun e => (e.key, e.val)) = l.map (fun n => (Value.int .i64 n, Value.bool true)) ∧ ¬ R b
def BlkR (ρ : Nat → Value) (w : World) (R : Nat → Prop) (i : Nat) : Blk → Prop
  | .none => True
  | .dead => True
  | .arr t l o => OwnR w R t l o (ρ i)
  | .box cs => BoxR ρ w R cs (ρ i)
  | .mp l => MapR w R l (ρ i)
def memOf : Value → Option Nat
  | .slice (some a) _ _ => some a.block
  | .pointer (some a) => some a.block
  | .map (some b) => some b
  | _ => none
def excl : Blk → Bool
  | .arr _ _ o => !Nat.beq o 0
  | .box _ => true
  | .mp _ => true
  | _ => false
structure Ctx where
  w0 : World
  R0 : Nat → Prop
  arg : Nat → Value
  win : List (Nat × Nat × Nat)
  np : Nat
def SameStreams (w w' : World) : Prop := w'.os = w.os ∧ w'.tape = w.tape ∧ w'.output = w.output
theorem SameStreams.trans {a b c : World} (h : SameStreams a b) (k : SameStreams b c) : SameStreams a c := ⟨k.1.trans h.1, k.2.1.trans h.2.1, k.2.2.trans h.2.2⟩
theorem SameStreams.refl (a : World) : SameStreams a a := ⟨rfl, rfl, rfl⟩
structure Keeps (C : Ctx) (w : World) : Prop where
  size : C.w0.heap.size ≤ w.heap.size
  old : ∀ b, b < C.w0.heap.size → (∀ p ∈ C.win, p.1 ≠ b) → w.heap[b]? = C.w0.heap[b]?
  win : ∀ p ∈ C.win, ∃ cs cs' T fz, C.w0.heap[p.1]? = some (.cells cs T fz) ∧ w.heap[p.1]? = some (.cells cs' T fz) ∧ cs'.size = cs.size ∧ ∀ j, (j < p.2.1 ∨ p.2.2 ≤ j) → cs'[j]? = cs[j]?
  inj : ∀ p ∈ C.win, ∀ q ∈ C.win, p.1 = q.1 → p = q
  io : SameStreams C.w0 w
def LentIn (C : Ctx) (t : Ty) (n : Nat) (v : Value) : Prop :=
  (v = .slice none 0 0) ∨ ∃ b off cap, v = .slice (some ⟨b, off, none⟩) n cap ∧ (b, off, off + n * t.size) ∈ C.win
structure RelW (C : Ctx) (n : Nat) (S : St) (R : Nat → Prop) (ρ : Nat → Value) (a : Act) (w : World) : Prop where
  fr : ∀ t, AVR ρ w R (S.fr t) (a.tmps.getD t undef)
  hp : ∀ i, BlkR ρ w R i (S.hp i)
  men : ∀ t, ∀ i ∈ (S.fr t).ids, S.hp i ≠ .none
  menB : ∀ j cs, S.hp j = .box cs → ∀ i ∈ idsOf cs, S.hp i ≠ .none
  dis : ∀ i j b, i ≠ j → excl (S.hp i) = true → excl (S.hp j) = true → memOf (ρ i) = some b → memOf (ρ j) ≠ some b
  new : ∀ i b, excl (S.hp i) = true → (∀ t l, S.hp i ≠ .arr t l 1) → memOf (ρ i) = some b → C.w0.heap.size ≤ b
  lent : ∀ i t l, S.hp i = .arr t l 1 → ρ i = C.arg i ∧ LentIn C t l.length (ρ i)
  lt : ∀ b, R b → b < w.heap.size
  sub : ∀ b, C.R0 b → R b
  old : ∀ b, b < C.w0.heap.size → R b → C.R0 b
  keep : Keeps C w
  defers : a.defers = []
  size : a.tmps.size = n
  par : ∀ i, i < C.np → S.hp i ≠ .none → ρ i = C.arg i
  npn : C.np ≤ n
structure Fr (n : Nat) (S : St) (i : Nat) : Prop where
  none : S.hp i = .none
  ge : n ≤ i
def Rel (C : Ctx) (n : Nat) (S : St) (a : Act) (w : World) : Prop := ∃ R ρ, RelW C n S R ρ a w
end Go.Ev
set_option linter.unusedVariables false
namespace Go.Ev
open Go
theorem upd_same {α : Type} (f : Nat → α) (d : Nat) (v : α) : upd f d v d = v := by
  simp [upd]
theorem upd_ne {α : Type} (f : Nat → α) (d : Nat) (v : α) {j : Nat} (h : j ≠ d) : upd f d v j = f j := by
  have h' : Nat.beq j d = false := by
    cases hb : Nat.beq j d with
    | false => rfl
    | true => exact absurd (Nat.eq_of_beq_eq_true hb) h
  simp [upd, h']
theorem upd_eq_self {α : Type} (f : Nat → α) (d : Nat) : upd f d (f d) = f := by
  funext j
  by_cases h : j = d
  · subst h; exact upd_same f j _
  · exact upd_ne f d _ h
theorem beq_false {i j : Nat} (h : i ≠ j) : Nat.beq i j = false := by
  cases hb : Nat.beq i j with
  | false => rfl
  | true => exact absurd (Nat.eq_of_beq_eq_true hb) h
theorem tmps_put (a : Act) (d : Tmp) (v : Value) (hd : d < a.tmps.size) (t : Nat) : (a.put (some d) v).tmps.getD t undef = if t = d then v else a.tmps.getD t undef := by
  simp only [Act.put]
  by_cases h : t = d
  · subst h; simp [hd]
  · rw [if_neg h]
    simp [Ne.symm h]
section
variable {C : Ctx} {n : Nat} {S : St} {R : Nat → Prop} {ρ : Nat → Value} {a : Act} {w : World}
theorem put_defers (a : Act) (d : Option Tmp) (v : Value) : (a.put d v).defers = a.defers := by cases d <;> rfl
theorem put_size (a : Act) (d : Option Tmp) (v : Value) : (a.put d v).tmps.size = a.tmps.size := by cases d <;> simp [Act.put]
def dIn (n : Nat) : Option Tmp → Prop
  | some d => d < n
  | none => True
theorem RelW.put (h : RelW C n S R ρ a w) (d : Option Tmp) (hd : dIn n d) (v : AV) (v' : Value) (hv : d ≠ none → AVR ρ w R v v') (hm : d ≠ none → ∀ i ∈ v.ids, S.hp i ≠ .none) :
    RelW C n (S.put d v []) R ρ (a.put d v') w := by
  cases d with
  | none =>
    exact { h with fr := h.fr, hp := h.hp }
  | some d =>
    have hd' : d < a.tmps.size := h.size ▸ hd
    refine { fr := fun t => ?_, hp := h.hp, men := fun t => ?_, menB := h.menB, dis := h.dis, new := h.new, lent := h.lent, lt := h.lt, sub := h.sub, old := h.old, keep := h.keep, defers := by rw [put_defers]; exact h.defers, size := by rw [put_size]; exact h.size, par := h.par, npn := h.npn }
    · rw [tmps_put a d v' hd']
      by_cases ht : t = d
      · subst ht; simp only [St.put, upd_same, if_true]; exact hv (by simp)
      · simp only [St.put, upd_ne _ _ _ ht, if_neg ht]; exact h.fr t
    · by_cases ht : t = d
      · subst ht; simp only [St.put, upd_same, updAll]; exact hm (by simp)
      · simp only [St.put, upd_ne _ _ _ ht, updAll]; exact h.men t
theorem OwnR.mono {w w' : World} {R R' : Nat → Prop} {t : Ty} {l : List t.den} {o : Nat} {v : Value} (h : OwnR w R t l o v)
    (hb : ∀ b, memOf v = some b → w'.heap[b]? = w.heap[b]?) (hR : ∀ b, R b → R' b) (ha : Agree w w' R) (hn : o ≠ 0 → ∀ b, memOf v = some b → ¬ R b → ¬ R' b) : OwnR w' R' t l o v := by
  rcases h with h | ⟨b, off, cap, cs, T, fz, hv, hl, hh, hs, he, h0, h1⟩
  · exact .inl h
  · subst hv
    have hm : memOf (.slice (some ⟨b, off, none⟩) l.length cap) = some b := rfl
    exact .inr ⟨b, off, cap, cs, T, fz, rfl, hl, (hb b hm).trans hh, hs, fun i hi => CR.mono hR ha _ _ _ (he i hi), fun ho => hR b (h0 ho), fun ho => ⟨hn ho b hm (h1 ho).1, (h1 ho).2⟩⟩
theorem BoxR.mono {ρ : Nat → Value} {w w' : World} {R R' : Nat → Prop} {cs : List Cel} {v : Value} (h : BoxR ρ w R cs v)
    (hb : ∀ b, memOf v = some b → w'.heap[b]? = w.heap[b]?) (hR : ∀ b, R b → R' b) (ha : Agree w w' R) (hn : ∀ b, memOf v = some b → ¬ R b → ¬ R' b) : BoxR ρ w' R' cs v := by
  obtain ⟨b, vs, T, hv, hh, hc, hr⟩ := h
  subst hv
  exact ⟨b, vs, T, rfl, (hb b rfl).trans hh, hc.mono (CelR.mono hR ha), hn b rfl hr⟩
theorem MapR.mono {w w' : World} {R R' : Nat → Prop} {l : List Int} {v : Value} (h : MapR w R l v)
    (hb : ∀ b, memOf v = some b → w'.heap[b]? = w.heap[b]?) (hn : ∀ b, memOf v = some b → ¬ R b → ¬ R' b) : MapR w' R' l v := by
  obtain ⟨b, es, ck, hv, hh, he, hr⟩ := h
  subst hv
  exact ⟨b, es, ck, rfl, (hb b rfl).trans hh, he, hn b rfl hr⟩
theorem RelW.grow (h : RelW C n S R ρ a w) {w' : World} (hs : w.heap.size ≤ w'.heap.size) (hb : ∀ b, b < w.heap.size → w'.heap[b]? = w.heap[b]?) (hio : SameStreams w w') : RelW C n S R ρ a w' := by
  have ha : Agree w w' R := fun b hR => hb b (h.lt b hR)
  have hlt : ∀ (i b : Nat), memOf (ρ i) = some b → (excl (S.hp i) = true) → b < w.heap.size := by
    intro i b hm he
    have := h.hp i
    cases hi : S.hp i with
    | none => simp [hi, excl] at he
    | dead => simp [hi, excl] at he
    | arr t l o =>
      rw [hi] at this
      rcases this with ⟨hv, _⟩ | ⟨b', off, cap, cs, T, fz, hv, _, hh, _⟩
      · rw [hv] at hm; cases hm
      · rw [hv] at hm; cases hm; exact (Array.getElem?_eq_some_iff.1 hh).1
    | box cs =>
      rw [hi] at this
      obtain ⟨b', vs, T, hv, hh, _⟩ := this
      rw [hv] at hm; cases hm; exact (Array.getElem?_eq_some_iff.1 hh).1
    | mp l =>
      rw [hi] at this
      obtain ⟨b', es, ck, hv, hh, _⟩ := this
      rw [hv] at hm; cases hm; exact (Array.getElem?_eq_some_iff.1 hh).1
  refine { h with fr := fun t => (h.fr t).mono (fun _ hb => hb) ha, hp := fun i => ?_, lt := fun b hb => Nat.lt_of_lt_of_le (h.lt b hb) hs, keep := ?_ }
  · have hi := h.hp i
    cases hbk : S.hp i with
    | none => trivial
    | dead => trivial
    | arr t l o =>
      rw [hbk] at hi
      by_cases ho : o = 0
      · refine OwnR.mono hi (fun b hm => ?_) (fun _ hb => hb) ha (fun _ _ _ hn => hn)
        rcases hi with ⟨hv, _⟩ | ⟨b', off, cap, cs, T, fz, hv, _, hh, _⟩
        · rw [hv] at hm; cases hm
        · rw [hv] at hm; cases hm; exact hb _ (Array.getElem?_eq_some_iff.1 hh).1
      · exact OwnR.mono hi (fun b hm => hb b (hlt i b hm (by rw [hbk]; simp [excl, beq_false ho]))) (fun _ hb => hb) ha (fun _ _ _ hn => hn)
    | box cs =>
      rw [hbk] at hi
      exact BoxR.mono hi (fun b hm => hb b (hlt i b hm (by rw [hbk]; rfl))) (fun _ hb => hb) ha (fun _ _ hn => hn)
    | mp l =>
      rw [hbk] at hi
      exact MapR.mono hi (fun b hm => hb b (hlt i b hm (by rw [hbk]; rfl))) (fun _ _ hn => hn)
  · have hk := h.keep
    refine ⟨Nat.le_trans hk.size hs, fun b hlt' hw => (hb b (Nat.lt_of_lt_of_le hlt' hk.size)).trans (hk.old b hlt' hw), fun p hp => ?_, hk.inj, hk.io.trans hio⟩
    obtain ⟨cs, cs', T, fz, h1, h2, h3⟩ := hk.win p hp
    exact ⟨cs, cs', T, fz, h1, (hb _ (Array.getElem?_eq_some_iff.1 h2).1).trans h2, h3⟩
theorem RelW.excl_lt (h : RelW C n S R ρ a w) {i b : Nat} (hm : memOf (ρ i) = some b) (he : S.hp i ≠ .none) (he' : S.hp i ≠ .dead) : b < w.heap.size := by
  have := h.hp i
  cases hi : S.hp i with
  | none => exact absurd hi he
  | dead => exact absurd hi he'
  | arr t l o =>
    rw [hi] at this
    rcases this with ⟨hv, _⟩ | ⟨b', off, cap, cs, T, fz, hv, _, hh, _⟩
    · rw [hv] at hm; cases hm
    · rw [hv] at hm; cases hm; exact (Array.getElem?_eq_some_iff.1 hh).1
  | box cs =>
    rw [hi] at this
    obtain ⟨b', vs, T, hv, hh, _⟩ := this
    rw [hv] at hm; cases hm; exact (Array.getElem?_eq_some_iff.1 hh).1
  | mp l =>
    rw [hi] at this
    obtain ⟨b', es, ck, hv, hh, _⟩ := this
    rw [hv] at hm; cases hm; exact (Array.getElem?_eq_some_iff.1 hh).1
theorem BlkR.rho {ρ ρ' : Nat → Value} {w : World} {R : Nat → Prop} {i : Nat} {B : Blk} (h : BlkR ρ w R i B) (hi : ρ' i = ρ i) (hc : ∀ cs, B = .box cs → ∀ j ∈ idsOf cs, ρ' j = ρ j) : BlkR ρ' w R i B := by
  cases B with
  | none => trivial
  | dead => trivial
  | arr t l o => show OwnR w R t l o (ρ' i); rw [hi]; exact h
  | box cs =>
    show BoxR ρ' w R cs (ρ' i)
    rw [hi]
    obtain ⟨b, vs, T, hv, hh, hcs, hr⟩ := h
    exact ⟨b, vs, T, hv, hh, CelsR.rho hcs (hc cs rfl), hr⟩
  | mp l => show MapR w R l (ρ' i); rw [hi]; exact h
theorem RelW.lay (h : RelW C n S R ρ a w) (i : Nat) (hf : Fr n S i) (B : Blk) (v : Value) (hB : BlkR (upd ρ i v) w R i B)
    (hids : ∀ cs, B = .box cs → ∀ j ∈ idsOf cs, upd S.hp i B j ≠ .none) (hnn : B ≠ .none)
    (hl : ∀ t l, B ≠ .arr t l 1)
    (hnew : ∀ b, excl B = true → memOf v = some b → C.w0.heap.size ≤ b)
    (hdis : ∀ j b, j ≠ i → excl B = true → excl (S.hp j) = true → memOf v = some b → memOf (ρ j) ≠ some b) :
    RelW C n { S with hp := upd S.hp i B } R (upd ρ i v) a w := by
  have hne : ∀ j, S.hp j ≠ .none → j ≠ i := fun j hj e => hj (e ▸ hf.none)
  refine { fr := fun t => (h.fr t).rho fun j hj => upd_ne _ _ _ (hne j (h.men t j hj)), hp := fun j => ?_, men := fun t j hj => ?_, menB := fun j cs hj k hk => ?_, dis := fun j k b hjk hj hk hmj hmk => ?_, new := fun j b hj hl' hm => ?_, lent := fun j t l hj => ?_, lt := h.lt, sub := h.sub, old := h.old, keep := h.keep, defers := h.defers, size := h.size, par := fun j hj hn => ?_, npn := h.npn }
  · by_cases hj : j = i
    · subst hj; simp only [upd_same]; exact hB
    · simp only [upd_ne _ _ _ hj]
      exact (h.hp j).rho (upd_ne _ _ _ hj) fun cs hcs k hk => upd_ne _ _ _ (hne k (h.menB j cs hcs k hk))
  · have := h.men t j hj
    simp only [upd_ne _ _ _ (hne j this)]; exact this
  · simp only at hj ⊢
    by_cases hji : j = i
    · subst hji; rw [upd_same] at hj; exact hids cs hj k hk
    · rw [upd_ne _ _ _ hji] at hj
      have := h.menB j cs hj k hk
      rw [upd_ne _ _ _ (hne k this)]; exact this
  · simp only at hj hk hmj hmk
    by_cases hji : j = i
    · subst hji
      have hk' : k ≠ j := fun e => hjk e.symm
      rw [upd_same] at hj hmj
      rw [upd_ne _ _ _ hk'] at hk hmk
      exact hdis k b hk' hj hk hmj hmk
    · rw [upd_ne _ _ _ hji] at hj hmj
      by_cases hki : k = i
      · subst hki
        rw [upd_same] at hk hmk
        exact hdis j b hji hk hj hmk hmj
      · rw [upd_ne _ _ _ hki] at hk hmk
        exact h.dis j k b hjk hj hk hmj hmk
  · simp only at hj hl' hm
    by_cases hji : j = i
    · subst hji; rw [upd_same] at hj hm; exact hnew b hj hm
    · rw [upd_ne _ _ _ hji] at hj hm
      refine h.new j b hj (fun t l e => ?_) hm
      exact hl' t l (by rw [upd_ne _ _ _ hji]; exact e)
  · simp only at hj ⊢
    by_cases hji : j = i
    · subst hji; rw [upd_same] at hj; exact absurd hj (hl t l)
    · rw [upd_ne _ _ _ hji] at hj ⊢
      exact h.lent j t l hj
  · simp only at hn
    have hji : j ≠ i := by have := hf.ge; have := h.npn; omega
    rw [upd_ne _ _ _ hji] at hn ⊢
    exact h.par j hj hn
theorem RelW.kill (h : RelW C n S R ρ a w) (i : Nat) (hn0 : S.hp i ≠ .none) : RelW C n { S with hp := upd S.hp i .dead } R ρ a w := by
  have hx : ∀ j, excl (upd S.hp i .dead j) = true → j ≠ i ∧ excl (S.hp j) = true := by
    intro j hj
    by_cases hji : j = i
    · subst hji; rw [upd_same] at hj; simp [excl] at hj
    · rw [upd_ne _ _ _ hji] at hj; exact ⟨hji, hj⟩
  have hnn : ∀ j, S.hp j ≠ .none → upd S.hp i .dead j ≠ .none := by
    intro j hj
    by_cases hji : j = i
    · subst hji; rw [upd_same]; simp
    · rw [upd_ne _ _ _ hji]; exact hj
  refine { h with fr := h.fr, hp := fun j => ?_, men := fun t j hj => hnn j (h.men t j hj), menB := fun j cs hj k hk => ?_, dis := fun j k b hjk hj hk => ?_, new := fun j b hj hl' hm => ?_, lent := fun j t l hj => ?_, par := fun j hj hn => ?_ }
  · simp only
    by_cases hji : j = i
    · subst hji; rw [upd_same]; trivial
    · rw [upd_ne _ _ _ hji]; exact h.hp j
  · simp only at hj ⊢
    by_cases hji : j = i
    · subst hji; rw [upd_same] at hj; cases hj
    · rw [upd_ne _ _ _ hji] at hj; exact hnn k (h.menB j cs hj k hk)
  · exact h.dis j k b hjk (hx j hj).2 (hx k hk).2
  · refine h.new j b (hx j hj).2 (fun t l e => ?_) hm
    exact hl' t l (by simp only; rw [upd_ne _ _ _ (hx j hj).1]; exact e)
  · simp only at hj ⊢
    by_cases hji : j = i
    · subst hji; rw [upd_same] at hj; cases hj
    · rw [upd_ne _ _ _ hji] at hj; exact h.lent j t l hj
  · refine h.par j hj fun e => hn ?_
    simp only
    by_cases hji : j = i
    · subst hji; exact absurd e hn0
    · rw [upd_ne _ _ _ hji]; exact e
theorem RelW.freeze (h : RelW C n S R ρ a w) (i : Nat) (t : Ty) (l : List t.den) (o : Nat) (hi : S.hp i = .arr t l o) (ho : o ≠ 1) :
    ∃ R', RelW C n { S with hp := upd S.hp i (.arr t l 0) } R' ρ a w ∧ (∀ b, R b → R' b) ∧ (∀ b, R' b → R b ∨ memOf (ρ i) = some b) := by
  refine ⟨fun b => R b ∨ memOf (ρ i) = some b, ?_, fun b hb => .inl hb, fun b hb => hb⟩
  have hR : ∀ b, R b → (R b ∨ memOf (ρ i) = some b) := fun b hb => .inl hb
  have ha : Agree w w R := fun _ _ => rfl
  have hbi := h.hp i
  rw [hi] at hbi
  have hlt : ∀ b, memOf (ρ i) = some b → b < w.heap.size := fun b hm => h.excl_lt hm (by rw [hi]; simp) (by rw [hi]; simp)
  by_cases h0 : o = 0
  · -- it is already
    have hin : ∀ b, memOf (ρ i) = some b → R b := by
      intro b hm
      rcases hbi with ⟨hv, _⟩ | ⟨b', off, cap, cs, T, fz, hv, _, _, _, _, hr, _⟩
      · rw [hv] at hm; cases hm
      · rw [hv] at hm; cases hm; exact hr h0
    have hRR : (fun b => R b ∨ memOf (ρ i) = some b) = R := by
      funext b; exact propext ⟨fun hb => hb.elim id (hin b), .inl⟩
    rw [hRR]
    subst h0
    have : upd S.hp i (.arr t l 0) = S.hp := by rw [← hi]; exact upd_eq_self S.hp i
    rw [this]; exact h
  · have hex : excl (S.hp i) = true := by rw [hi]; simp [excl, beq_false h0]
    have hx : ∀ j, excl (upd S.hp i (.arr t l 0) j) = true → j ≠ i ∧ excl (S.hp j) = true := by
      intro j hj
      by_cases hji : j = i
      · subst hji; rw [upd_same] at hj; simp [excl] at hj
      · rw [upd_ne _ _ _ hji] at hj; exact ⟨hji, hj⟩
    have hnn : ∀ j, S.hp j ≠ .none → upd S.hp i (.arr t l 0) j ≠ .none := by
      intro j hj
      by_cases hji : j = i
      · subst hji; rw [upd_same]; simp
      · rw [upd_ne _ _ _ hji]; exact hj
    refine { fr := fun s => (h.fr s).mono hR ha, hp := fun j => ?_, men := fun s j hj => hnn j (h.men s j hj), menB := fun j cs hj k hk => ?_, dis := fun j k b hjk hj hk => h.dis j k b hjk (hx j hj).2 (hx k hk).2, new := fun j b hj hl' hm => ?_, lent := fun j t' l' hj => ?_, lt := fun b hb => hb.elim (h.lt b) (hlt b), sub := fun b hb => .inl (h.sub b hb), old := fun b hb hr => ?_, keep := h.keep, defers := h.defers, size := h.size, par := fun j hj hn => ?_, npn := h.npn }
    · simp only
      by_cases hji : j = i
      · subst hji; rw [upd_same]
        rcases hbi with hv | ⟨b', off, cap, cs, T, fz, hv, hlen, hh, hs, he, _, _⟩
        · exact .inl hv
        · exact .inr ⟨b', off, cap, cs, T, fz, hv, hlen, hh, hs, fun k hk => CR.mono hR ha _ _ _ (he k hk), fun _ => .inr (by rw [hv]; rfl), fun e => absurd rfl e⟩
      · rw [upd_ne _ _ _ hji]
        have hj := h.hp j
        cases hbj : S.hp j with
        | none => trivial
        | dead => trivial
        | arr t' l' o' =>
          rw [hbj] at hj
          refine OwnR.mono hj (fun _ _ => rfl) hR ha fun ho' b hm hn hr => ?_
          rcases hr with hr | hr
          · exact hn hr
          · exact h.dis i j b (Ne.symm hji) hex (by rw [hbj]; simp [excl, beq_false ho']) hr hm
        | box cs =>
          rw [hbj] at hj
          refine BoxR.mono hj (fun _ _ => rfl) hR ha fun b hm hn hr => ?_
          rcases hr with hr | hr
          · exact hn hr
          · exact h.dis i j b (Ne.symm hji) hex (by rw [hbj]; rfl) hr hm
        | mp l' =>
          rw [hbj] at hj
          refine MapR.mono hj (fun _ _ => rfl) fun b hm hn hr => ?_
          rcases hr with hr | hr
          · exact hn hr
          · exact h.dis i j b (Ne.symm hji) hex (by rw [hbj]; rfl) hr hm
    · simp only at hj ⊢
      by_cases hji : j = i
      · subst hji; rw [upd_same] at hj; cases hj
      · rw [upd_ne _ _ _ hji] at hj; exact hnn k (h.menB j cs hj k hk)
    · refine h.new j b (hx j hj).2 (fun t l e => ?_) hm
      exact hl' t l (by simp only; rw [upd_ne _ _ _ (hx j hj).1]; exact e)
    · simp only at hj ⊢
      by_cases hji : j = i
      · subst hji; rw [upd_same] at hj; cases hj
      · rw [upd_ne _ _ _ hji] at hj; exact h.lent j t' l' hj
    · rcases hr with hr | hr
      · exact h.old b hb hr
      · have := h.new i b hex (fun t' l' e => ?_) hr
        · omega
        · rw [hi] at e; cases e; exact absurd rfl ho
    · refine h.par j hj fun e => hn ?_
      simp only
      by_cases hji : j = i
      · subst hji; rw [hi] at e; cases e
      · rw [upd_ne _ _ _ hji]; exact e
theorem RelW.pin (h : RelW C n S R ρ a w) (i : Nat) (l : List Cel) (hi : S.hp i = .box l) :
    ∃ R', RelW C n { S with hp := upd S.hp i .dead } R' ρ a w ∧ (∀ b, R b → R' b) ∧ ∃ b vs T, ρ i = .pointer (some ⟨b, 0, none⟩) ∧ R' b ∧ w.heap[b]? = some (.cells vs.toArray T (0, 0)) ∧ CelsR ρ w R l vs := by
  have hR : ∀ b, R b → (R b ∨ memOf (ρ i) = some b) := fun b hb => .inl hb
  have ha : Agree w w R := fun _ _ => rfl
  have hbi := h.hp i
  rw [hi] at hbi
  obtain ⟨b0, vs, T, hv0, hh0, hl0, hn0⟩ := hbi
  have hlt : ∀ b, memOf (ρ i) = some b → b < w.heap.size := fun b hm => h.excl_lt hm (by rw [hi]; simp) (by rw [hi]; simp)
  have hex : excl (S.hp i) = true := by rw [hi]; rfl
  have hx : ∀ j, excl (upd S.hp i .dead j) = true → j ≠ i ∧ excl (S.hp j) = true := by
    intro j hj
    by_cases hji : j = i
    · subst hji; rw [upd_same] at hj; simp [excl] at hj
    · rw [upd_ne _ _ _ hji] at hj; exact ⟨hji, hj⟩
  have hnn : ∀ j, S.hp j ≠ .none → upd S.hp i .dead j ≠ .none := by
    intro j hj
    by_cases hji : j = i
    · subst hji; rw [upd_same]; simp
    · rw [upd_ne _ _ _ hji]; exact hj
  refine ⟨fun b => R b ∨ memOf (ρ i) = some b, { fr := fun s => (h.fr s).mono hR ha, hp := fun j => ?_, men := fun s j hj => hnn j (h.men s j hj), menB := fun j cs hj k hk => ?_, dis := fun j k b hjk hj hk => h.dis j k b hjk (hx j hj).2 (hx k hk).2, new := fun j b hj hl' hm => ?_, lent := fun j t' l' hj => ?_, lt := fun b hb => hb.elim (h.lt b) (hlt b), sub := fun b hb => .inl (h.sub b hb), old := fun b hb hr => ?_, keep := h.keep, defers := h.defers, size := h.size, par := fun j hj hn => ?_, npn := h.npn }, fun b hb => .inl hb, b0, vs, T, hv0, .inr (by rw [hv0]; rfl), hh0, hl0⟩
  · simp only
    by_cases hji : j = i
    · subst hji; rw [upd_same]; trivial
    · rw [upd_ne _ _ _ hji]
      have hj := h.hp j
      cases hbj : S.hp j with
      | none => trivial
      | dead => trivial
      | arr t' l' o' =>
        rw [hbj] at hj
        refine OwnR.mono hj (fun _ _ => rfl) hR ha fun ho' b hm hn hr => ?_
        rcases hr with hr | hr
        · exact hn hr
        · exact h.dis i j b (Ne.symm hji) hex (by rw [hbj]; simp [excl, beq_false ho']) hr hm
      | box cs =>
        rw [hbj] at hj
        refine BoxR.mono hj (fun _ _ => rfl) hR ha fun b hm hn hr => ?_
        rcases hr with hr | hr
        · exact hn hr
        · exact h.dis i j b (Ne.symm hji) hex (by rw [hbj]; rfl) hr hm
      | mp l' =>
        rw [hbj] at hj
        refine MapR.mono hj (fun _ _ => rfl) fun b hm hn hr => ?_
        rcases hr with hr | hr
        · exact hn hr
        · exact h.dis i j b (Ne.symm hji) hex (by rw [hbj]; rfl) hr hm
  · simp only at hj ⊢
    by_cases hji : j = i
    · subst hji; rw [upd_same] at hj; cases hj
    · rw [upd_ne _ _ _ hji] at hj; exact hnn k (h.menB j cs hj k hk)
  · refine h.new j b (hx j hj).2 (fun t l e => ?_) hm
    exact hl' t l (by simp only; rw [upd_ne _ _ _ (hx j hj).1]; exact e)
  · simp only at hj ⊢
    by_cases hji : j = i
    · subst hji; rw [upd_same] at hj; cases hj
    · rw [upd_ne _ _ _ hji] at hj; exact h.lent j t' l' hj
  · rcases hr with hr | hr
    · exact h.old b hb hr
    · have := h.new i b hex (fun t' l' e => by rw [hi] at e; cases e) hr
      omega
  · refine h.par j hj fun e => hn ?_
    simp only
    by_cases hji : j = i
    · subst hji; rw [hi] at e; cases e
    · rw [upd_ne _ _ _ hji]; exact e
end
end Go.Ev
set_option linter.unusedVariables false
set_option linter.unusedSimpArgs false
namespace Go.Ev
open Go
def zeroVals : Ty → List Value
  | .st t => zeroVals t
  | .pair a b => zeroVals a ++ zeroVals b
  | .unit => []
  | .int k => [.int k 0]
  | .bool => [.bool false]
  | .str => [.string ByteArray.empty]
  | .list _ => [.slice none 0 0]
  | .ptr .unit => [.map none]
  | .ptr _ => [undef]
def zeroVal (t : Ty) : Value := cond (isSt t) (.agg (zeroVals t).toArray) ((zeroVals t).headD undef)
def aggB (P : Program) (t : TypeId) : Option Bool := match P.underlying t with
  | some (.struct _) | some (.array ..) => some true
  | some _ => some false
  | none => none
structure ElemOK (P : Program) (et : TypeId) (e : Ty) (eb : Nat) : Prop where
  ex : ∃ ie, P.info? et = some ie ∧ ie.size = e.size ∧ ie.bytes = eb ∧ ie.zero = some (zeroVal e)
  pos : 0 < e.size
  posB : 0 < eb
  wf : (zeroVal e).cells.toList = zeroVals e
  int : ∀ k, e = .int k → P.underlying et = some (.int k)
structure FldOK (P : Program) (fd : Field) (p : Nat × Ty) (n : Nat) : Prop where
  off : fd.offset = p.1
  info : ∃ fi, P.info? fd.type = some fi ∧ fi.size = p.2.size
  agg : aggB P fd.type = some (isSt p.2)
  le : p.1 + p.2.size ≤ n
  one : isSt p.2 = false → p.2.size = 1
  pos : 0 < p.2.size
def DescOK (P : Program) (t : TypeId) (i : TI) : Prop := match i.ty with
  | .int k => P.underlying t = some (.int k)
  | .bool => P.underlying t = some .bool
  | .str => P.underlying t = some .string
  | .list e => ∃ et, P.underlying t = some (.slice et) ∧ ElemOK P et e i.eb
  | .ptr .unit => ∃ kt vt, P.underlying t = some (.map kt vt) ∧ P.underlying kt = some (.int .i64) ∧ ∃ iv, P.info? vt = some iv ∧ iv.zero = some (.bool false)
  | .st f => ∃ fs : Array Field, P.underlying t = some (.struct fs) ∧ fs.size = i.flds.length ∧ ∀ (j : Nat) (p : Nat × Ty), i.flds[j]? = some p → ∃ fd, fs[j]? = some fd ∧ FldOK P fd p f.size
  | _ => False
def eqVal : Value → Value → Option Bool
  | .int k a, .int k' b => cond (decide (k = k')) (some (a == b)) none
  | _, _ => none
def eqVals : List Value → List Value → Option Bool
  | [], [] => some true
  | a :: l, b :: m => match eqVal a b with
    | some x => match eqVals l m with
      | some y => some (x && y)
      | none => none
    | none => none
  | _, _ => none
structure TyOK (P : Program) (t : TypeId) (i : TI) : Prop where
  info : ∃ inf, P.info? t = some inf ∧ inf.size = i.ty.size ∧ inf.zero = some (zeroVal i.ty)
  desc : DescOK P t i
  eq : i.eq = true → ∀ (vs us : List Value) (b : Bool) (w : World) (x y : Operand), eqVals vs us = some b → vs.length = i.ty.size → us.length = i.ty.size →
    (do eqGuard .eql t x y (.agg vs.toArray) (.agg us.toArray); binOp .eql t (.agg vs.toArray) (.agg us.toArray) : Sem Value).run P w = .ok (.bool b) w ∧
    (do eqGuard .neq t x y (.agg vs.toArray) (.agg us.toArray); binOp .neq t (.agg vs.toArray) (.agg us.toArray) : Sem Value).run P w = .ok (.bool (!b)) w
def TypesOK (P : Program) (T : TypeId → TI) : Prop := ∀ t, (T t).on = true → TyOK P t (T t)
theorem run_underlying' {P : Program} {w : World} {t : TypeId} {d : TypeDesc} (h : P.underlying t = some d) : (underlying t).run P w = .ok d w := by
  simp [underlying, h]
theorem aggB_isAgg {P : Program} {w : World} {t : TypeId} {b : Bool} (h : aggB P t = some b) : (isAgg t).run P w = .ok b w := by
  unfold aggB at h
  cases hu : P.underlying t with
  | none => simp [hu] at h
  | some d =>
    simp only [isAgg, Sem.run_bind, run_underlying' hu, Result.andThen_ok]
    rw [hu] at h
    cases d <;> simp at h <;> subst h <;> rfl
theorem DescOK.agg {P : Program} {t : TypeId} {i : TI} (h : DescOK P t i) : aggB P t = some (isSt i.ty) := by
  unfold DescOK at h
  unfold aggB
  split at h
  · rename_i k hk; rw [h, hk]; rfl
  · rename_i hk; rw [h, hk]; rfl
  · rename_i hk; rw [h, hk]; rfl
  · rename_i e hk; obtain ⟨et, h, _⟩ := h; rw [h, hk]; rfl
  · rename_i hk; obtain ⟨kt, vt, h, _⟩ := h; rw [h, hk]; rfl
  · rename_i f hk; obtain ⟨fs, h, _⟩ := h; rw [h, hk]; rfl
  · exact h.elim
section
variable {P : Program} {C : Ctx} {n : Nat} {S : St} {R : Nat → Prop} {ρ : Nat → Value} {a : Act} {w : World} {T : TypeId → TI}
theorem constA_ok (v : Value) : AVR ρ w R (constA v) v := by
  cases v with
  | int k n => simp [constA, AVR, CelR, CR]
  | bool b => simp [constA, AVR, CelR, CR]
  | string s => simp [constA, AVR, CelR, CR]
  | slice a l c =>
    unfold constA
    split <;> simp_all [AVR, CelR]
  | _ => simp [constA, AVR, CelR]
theorem constA_ids (v : Value) : (constA v).ids = [] := by
  unfold constA; split <;> rfl
theorem RelW.opnd (h : RelW C n S R ρ a w) (x : Operand) : AVR ρ w R (opnd S.fr x) (a.eval x) := by
  cases x with
  | tmp t => exact h.fr t
  | const v => exact constA_ok v
  | global g => trivial
  | func f => exact ⟨[], rfl, .nil⟩
theorem RelW.opndMen (h : RelW C n S R ρ a w) (x : Operand) : ∀ i ∈ (Ev.opnd S.fr x).ids, S.hp i ≠ .none := by
  cases x with
  | tmp t => exact h.men t
  | const v => simp only [Ev.opnd, constA_ids]; simp
  | global g => simp [Ev.opnd, AV.ids, Cel.ids]
  | func f => simp [Ev.opnd, AV.ids, Cel.ids]
def Done (P : Program) (C : Ctx) (n : Nat) (S : St) (o : Oper) (a : Act) (w : World) (v : AV) (u : List (Nat × Blk)) : Prop :=
  ∃ r v' w', (execOp a.eval o).run P w = .ok r w' ∧ (r = .value v' ∨ (r = .skip ∧ v' = undef)) ∧ Rel C n (S.put o.dst v u) (a.put o.dst v') w'
theorem done_value (h : RelW C n S R ρ a w) {o : Oper} (hd : dIn n o.dst) {v : AV} {v' : Value} (hr : (execOp a.eval o).run P w = .ok (.value v') w) (hv : AVR ρ w R v v') (hm : ∀ i ∈ v.ids, S.hp i ≠ .none) : Done P C n S o a w v [] :=
  ⟨_, v', w, hr, .inl rfl, R, ρ, h.put o.dst hd v v' (fun _ => hv) fun _ => hm⟩
theorem int_of {k : IntKind} {x : Int} {v : Value} (h : AVR ρ w R (.one (.dat (.int k) x)) v) : v = .int k x := by simpa [AVR, CelR, CR] using h
theorem bool_of {x : Bool} {v : Value} (h : AVR ρ w R (.one (.dat .bool x)) v) : v = .bool x := by simpa [AVR, CelR, CR] using h
theorem str_of {x : ByteArray} {v : Value} (h : AVR ρ w R (.one (.dat .str x)) v) : v = .string x := by simpa [AVR, CelR, CR] using h
theorem of_int (k : IntKind) (x : Int) : AVR ρ w R (.one (.dat (.int k) x)) (.int k x) := by simp [AVR, CelR, CR]
theorem of_bool (x : Bool) : AVR ρ w R (.one (.dat .bool x)) (.bool x) := by simp [AVR, CelR, CR]
theorem of_str (x : ByteArray) : AVR ρ w R (.one (.dat .str x)) (.string x) := by simp [AVR, CelR, CR]
theorem eqGuard_int (op : BinOp) (t : TypeId) (x y : Operand) (k k' : IntKind) (a b : Int) : (eqGuard op t x y (.int k a) (.int k' b)).run P w = .ok () w := by
  unfold eqGuard; cases op <;> simp
theorem eqGuard_bool (op : BinOp) (t : TypeId) (x y : Operand) (a b : Bool) : (eqGuard op t x y (.bool a) (.bool b)).run P w = .ok () w := by
  unfold eqGuard; cases op <;> simp
theorem eqGuard_str (op : BinOp) (t : TypeId) (x y : Operand) (a b : ByteArray) : (eqGuard op t x y (.string a) (.string b)).run P w = .ok () w := by
  unfold eqGuard; cases op <;> simp
theorem binI_ok {op : BinOp} {t : TypeId} {k : IntKind} {x y : Int} {ok : Bool} {v : AV} {u : List (Nat × Blk)} (h : binI op k x y = .eff ok v u) (ho : ok = true) (hs : op ≠ .shl) (hs' : op ≠ .shr) :
    u = [] ∧ v.ids = [] ∧ ∃ v', (binOp op t (.int k x) (.int k y)).run P w = .ok v' w ∧ AVR ρ w R v v' := by
  subst ho
  cases op <;> simp only [binI, Res.eff.injEq, reduceCtorEq] at h
  all_goals (obtain ⟨h0, rfl, rfl⟩ := h; refine ⟨rfl, rfl, ?_⟩)
  case quo =>
    have h0' : ¬ y = 0 := by simpa using h0
    exact ⟨.int k (k.wrap (x.tdiv y)), by simp only [binOp, ne_eq, not_true_eq_false, if_false, Op.intDiv, if_neg h0']; rfl, of_int _ _⟩
  case rem =>
    have h0' : ¬ y = 0 := by simpa using h0
    exact ⟨.int k (x.tmod y), by simp only [binOp, ne_eq, not_true_eq_false, if_false, Op.intDiv, if_neg h0']; rfl, of_int _ _⟩
  case add => exact ⟨.int k (k.wrap (x + y)), by simp only [binOp, ne_eq, not_true_eq_false, if_false]; rfl, of_int _ _⟩
  case sub => exact ⟨.int k (k.wrap (x - y)), by simp only [binOp, ne_eq, not_true_eq_false, if_false]; rfl, of_int _ _⟩
  case mul => exact ⟨.int k (k.wrap (x * y)), by simp only [binOp, ne_eq, not_true_eq_false, if_false]; rfl, of_int _ _⟩
  case and => exact ⟨.int k (bitsOp .and k x y), by simp only [binOp, ne_eq, not_true_eq_false, if_false]; rfl, of_int _ _⟩
  case or => exact ⟨.int k (bitsOp .or k x y), by simp only [binOp, ne_eq, not_true_eq_false, if_false]; rfl, of_int _ _⟩
  case xor => exact ⟨.int k (bitsOp .xor k x y), by simp only [binOp, ne_eq, not_true_eq_false, if_false]; rfl, of_int _ _⟩
  case andNot => exact ⟨.int k (bitsOp .andNot k x y), by simp only [binOp, ne_eq, not_true_eq_false, if_false]; rfl, of_int _ _⟩
  all_goals exact ⟨_, by simp only [binOp, ne_eq, not_true_eq_false, if_false]; rfl, of_bool _⟩
theorem strOp_ok {op : BinOp} {t : TypeId} {x y : ByteArray} {ok : Bool} {v : AV} {u : List (Nat × Blk)} (h : strOp op x y = .eff ok v u) (ho : ok = true) :
    u = [] ∧ v.ids = [] ∧ ∃ v', (binOp op t (.string x) (.string y)).run P w = .ok v' w ∧ AVR ρ w R v v' := by
  subst ho
  cases op <;> simp only [strOp, Res.eff.injEq, reduceCtorEq] at h
  all_goals (obtain ⟨h0, rfl, rfl⟩ := h; refine ⟨rfl, rfl, ?_⟩)
  case add =>
    refine ⟨.string (x ++ y), ?_, of_str _⟩
    have h1 : x.size + y.size ≤ 9223372036854775807 := by simpa [Nat.ble_eq] using h0
    have h2 : ¬ (((x.size + y.size : Nat) : Int) > IntKind.i64.max) := by
      have : IntKind.i64.max = 9223372036854775807 := by decide
      rw [this]; omega
    simp only [binOp, Op.stringOp, if_neg h2]; rfl
  all_goals exact ⟨_, by simp [binOp, Op.stringOp], of_bool _⟩
theorem cnt_length {α : Type} (l : List α) : cnt l = l.length := by
  induction l with
  | nil => rfl
  | cons a l ih => simp [cnt, ih]
theorem eqCel_vals {c d : Cel} {b : Bool} {v v' : Value} (h : eqCel c d = some b) (hc : CelR ρ w R c v) (hd : CelR ρ w R d v') : eqVal v v' = some b := by
  unfold eqCel at h
  split at h
  · rename_i k x k' y
    have h1 : v = .int k x := by simpa [CelR, CR] using hc
    have h2 : v' = .int k' y := by simpa [CelR, CR] using hd
    subst h1 h2; exact h
  · cases h
theorem eqCels_vals {l m : List Cel} {b : Bool} {vs us : List Value} (h : eqCels l m = some b) (hl : CelsR ρ w R l vs) (hm : CelsR ρ w R m us) : eqVals vs us = some b := by
  induction l generalizing m b vs us with
  | nil =>
    cases m with
    | nil => cases hl; cases hm; simpa [eqCels, eqVals] using h
    | cons d m => simp [eqCels] at h
  | cons c l ih =>
    cases m with
    | nil => simp [eqCels] at h
    | cons d m =>
      cases hl with
      | cons h1 hl =>
        cases hm with
        | cons h2 hm =>
          simp only [eqCels] at h
          cases hc : eqCel c d with
          | none => simp [hc] at h
          | some x =>
            cases hr : eqCels l m with
            | none => simp [hc, hr] at h
            | some y =>
              simp only [hc, hr] at h
              simp only [eqVals, eqCel_vals hc h1 h2, ih hr hl hm]; exact h
theorem binA_ok (TK : TypesOK P T) {t : TypeId} {op : BinOp} {x y : AV} {ox oy : Operand} {vx vy : Value} {ok : Bool} {v : AV} {u : List (Nat × Blk)} (h : binA T t op x y = .eff ok v u) (ho : ok = true)
    (hx : AVR ρ w R x vx) (hy : AVR ρ w R y vy) :
    u = [] ∧ v.ids = [] ∧ ∃ v', (do eqGuard op t ox oy vx vy; binOp op t vx vy : Sem Value).run P w = .ok v' w ∧ AVR ρ w R v v' := by
  subst ho
  unfold binA at h
  split at h
  · rename_i k a k' b
    have e1 := int_of hx; have e2 := int_of hy; subst e1 e2
    simp only [Sem.run_bind, eqGuard_int, Result.andThen_ok]
    split at h
    · simp only [Res.eff.injEq] at h
      obtain ⟨h0, rfl, rfl⟩ := h
      have h0'' : 0 ≤ b := of_decide_eq_true h0
      have h0' : ¬ b < 0 := Int.not_lt.2 h0''
      exact ⟨rfl, rfl, .int k (shlI k a b), by simp [binOp, Op.shift, h0', shlI], of_int _ _⟩
    · simp only [Res.eff.injEq] at h
      obtain ⟨h0, rfl, rfl⟩ := h
      have h0'' : 0 ≤ b := of_decide_eq_true h0
      have h0' : ¬ b < 0 := Int.not_lt.2 h0''
      exact ⟨rfl, rfl, .int k (shrI k a b), by simp [binOp, Op.shift, h0', shrI], of_int _ _⟩
    · rename_i hs hs'
      cases hk : decide (k = k') with
      | false => simp [hk] at h
      | true =>
        have hk' := of_decide_eq_true hk
        subst hk'
        simp only [hk, cond_true] at h
        exact binI_ok h rfl hs hs'
  · rename_i a b
    have e1 := bool_of hx; have e2 := bool_of hy; subst e1 e2
    simp only [Sem.run_bind, eqGuard_bool, Result.andThen_ok]
    cases hc : chkT T t .bool with
    | false => simp [hc] at h
    | true =>
      simp only [hc, cond_true] at h
      have hc' : (T t).on = true ∧ (T t).ty = .bool := by simpa [chkT] using hc
      have hu : P.underlying t = some .bool := by
        have := (TK t hc'.1).desc
        unfold DescOK at this
        rw [hc'.2] at this; exact this
      split at h
      · simp only [Res.eff.injEq] at h
        obtain ⟨_, rfl, rfl⟩ := h
        exact ⟨rfl, rfl, _, run_eql_bool _ _ _ _ hu, of_bool _⟩
      · simp only [Res.eff.injEq] at h
        obtain ⟨_, rfl, rfl⟩ := h
        exact ⟨rfl, rfl, _, run_neq_bool _ _ _ _ hu, of_bool _⟩
      · cases h
  · rename_i a b
    have e1 := str_of hx; have e2 := str_of hy; subst e1 e2
    simp only [Sem.run_bind, eqGuard_str, Result.andThen_ok]
    exact strOp_ok h rfl
  · rename_i l m
    cases hc : ((T t).on && (T t).eq && Nat.beq (cnt l) (T t).ty.size && Nat.beq (cnt m) (T t).ty.size) with
    | false => simp [hc] at h
    | true =>
      simp only [hc, cond_true] at h
      simp only [Bool.and_eq_true] at hc
      obtain ⟨vs, rfl, hl⟩ := hx
      obtain ⟨us, rfl, hm⟩ := hy
      have e1 : vs.length = (T t).ty.size := by rw [← hl.len, ← cnt_length]; exact Nat.eq_of_beq_eq_true hc.1.2
      have e2 : us.length = (T t).ty.size := by rw [← hm.len, ← cnt_length]; exact Nat.eq_of_beq_eq_true hc.2
      split at h
      · rename_i b hb
        have hv := eqCels_vals hb hl hm
        have hq := (TK t hc.1.1.1).eq hc.1.1.2 vs us b w ox oy hv e1 e2
        split at h
        · simp only [Res.eff.injEq] at h
          obtain ⟨_, rfl, rfl⟩ := h
          exact ⟨rfl, rfl, _, hq.1, of_bool _⟩
        · simp only [Res.eff.injEq] at h
          obtain ⟨_, rfl, rfl⟩ := h
          exact ⟨rfl, rfl, _, hq.2, of_bool _⟩
        · cases h
      · cases h
  · cases h
end
end Go.Ev
set_option linter.unusedVariables false
set_option linter.unusedSimpArgs false
namespace Go.Ev
open Go
section
variable {P : Program} {C : Ctx} {n : Nat} {S : St} {R : Nat → Prop} {ρ : Nat → Value} {a : Act} {w : World} {T : TypeId → TI}
theorem explode_len : ∀ (t : Ty) (x : t.den), (explode t x).length = t.size := by
  intro t
  induction t with
  | pair a b iha ihb => intro x; simp [explode, Ty.size, iha, ihb]
  | st t ih => intro x; exact ih x
  | _ => intro x; rfl
theorem explode_dat : ∀ (t : Ty) (x : t.den), ∀ c ∈ explode t x, c.isDat = true := by
  intro t
  induction t with
  | pair a b iha ihb => intro x c hc; simp only [explode, List.mem_append] at hc; exact hc.elim (iha _ c) (ihb _ c)
  | st t ih => intro x; exact ih x
  | unit => intro x c hc; simp [explode] at hc
  | _ => intro x c hc; simp [explode] at hc; subst hc; rfl
theorem dat_ids {l : List Cel} (h : ∀ c ∈ l, c.isDat = true) : idsOf l = [] := by
  induction l with
  | nil => rfl
  | cons c l ih =>
    simp only [idsOf]
    rw [ih fun c hc => h c (by simp [hc])]
    have := h c (by simp)
    cases c <;> simp_all [Cel.isDat, Cel.ids]
theorem explode_ids (t : Ty) (x : t.den) : idsOf (explode t x) = [] := dat_ids (explode_dat t x)
theorem explode_cels : ∀ (t : Ty) (x : t.den) (cs : List Value), CR w R t x cs → CelsR ρ w R (explode t x) cs := by
  intro t
  induction t with
  | pair a b iha ihb => intro x cs h; obtain ⟨c1, c2, rfl, h1, h2⟩ := h; exact (iha _ _ h1).app (ihb _ _ h2)
  | st t ih => intro x cs h; exact ih x cs h
  | unit => intro x cs h; simp only [CR] at h; subst h; exact .nil
  | int k => intro x cs h; have h' := h; simp only [CR] at h'; subst h'; exact .cons h .nil
  | bool => intro x cs h; have h' := h; simp only [CR] at h'; subst h'; exact .cons h .nil
  | str => intro x cs h; have h' := h; simp only [CR] at h'; subst h'; exact .cons h .nil
  | list t _ => intro x cs h; have h' := h; obtain ⟨v, rfl, _⟩ := h'; exact .cons h .nil
  | ptr t _ => intro x cs h; have h' := h; obtain ⟨v, rfl, _⟩ := h'; exact .cons h .nil
theorem idsOf_app (l m : List Cel) : idsOf (l ++ m) = idsOf l ++ idsOf m := by
  induction l with
  | nil => rfl
  | cons c l ih => simp [idsOf, ih]
theorem idsOf_sub {l : List Cel} {i : Nat} {k m : Nat} (h : i ∈ idsOf ((l.drop k).take m)) : i ∈ idsOf l := by
  have h1 : l = l.take k ++ ((l.drop k).take m ++ (l.drop k).drop m) := by rw [List.take_append_drop, List.take_append_drop]
  rw [h1, idsOf_app, idsOf_app]
  simp [h]
theorem idsOf_drop {l : List Cel} {i : Nat} {k : Nat} (h : i ∈ idsOf (l.drop k)) : i ∈ idsOf l := by
  have h1 : l = l.take k ++ l.drop k := by rw [List.take_append_drop]
  rw [h1, idsOf_app]
  simp [h]
theorem mkOf_ids {t : Ty} {cs : List Cel} {i : Nat} (h : i ∈ (mkOf t cs).ids) : i ∈ idsOf cs := by
  unfold mkOf at h
  split at h
  · exact h
  · simp only [AV.ids] at h; simp [idsOf, h]
  · simp [AV.ids, Cel.ids] at h
theorem mkOf_ok {t : Ty} {cs : List Cel} {vs : List Value} (h : CelsR ρ w R cs vs) : AVR ρ w R (mkOf t cs) (cond (isSt t) (.agg vs.toArray) (vs.headD undef)) := by
  unfold mkOf
  split
  · rename_i t' cs'; exact ⟨vs, rfl, h⟩
  · rename_i c hns
    obtain ⟨v, rfl, h2⟩ := All2.one_inv h
    have : isSt t = false := by cases t <;> first | rfl | exact absurd rfl (hns _)
    rw [this]; exact h2
  · trivial
theorem cell_of {b j : Nat} {cs : Array Value} {X : TypeId} {fz : Nat × Nat} (h : w.heap[b]? = some (.cells cs X fz)) : w.cell? ⟨b, j, none⟩ = cs[j]? := by
  simp [World.cell?, h]
theorem run_sizeOf {t : TypeId} {inf : TypeInfo} (h : P.info? t = some inf) : (sizeOf t).run P w = .ok inf.size w := by
  simp [sizeOf, typeInfo, h]
theorem run_zeroValue {t : TypeId} {inf : TypeInfo} {z : Value} (h : P.info? t = some inf) (hz : inf.zero = some z) : (zeroValue t).run P w = .ok z w := by
  simp [zeroValue, typeInfo, h, hz]
theorem run_loadCells_at {b off m : Nat} {cs : Array Value} {X : TypeId} {fz : Nat × Nat} (h : w.heap[b]? = some (.cells cs X fz)) (hm : off + m ≤ cs.size) :
    (loadCells ⟨b, off, none⟩ m).run P w = .ok ((cs.toList.drop off).take m).toArray w := by
  have hl : ((cs.toList.drop off).take m).length = m := by simp; omega
  have := run_loadCells_list (P := P) w ⟨b, off, none⟩ ((cs.toList.drop off).take m) (fun j v hj => by
    rw [Addr.add_lit, cell_of h]
    have hj' : j < m := by
      rcases Nat.lt_or_ge j m with h | h
      · exact h
      · rw [List.getElem?_eq_none (by rw [hl]; exact h)] at hj; cases hj
    rw [List.getElem?_take_of_lt hj', List.getElem?_drop] at hj
    simpa using hj)
  rwa [hl] at this
theorem run_loadVar {t : TypeId} {inf : TypeInfo} {bq : Bool} (hi : P.info? t = some inf) (hb : aggB P t = some bq) (h1 : bq = false → inf.size = 1) {b off : Nat} {cs : Array Value} {X : TypeId} {fz : Nat × Nat} (h : w.heap[b]? = some (.cells cs X fz)) (hm : off + inf.size ≤ cs.size) :
    (loadVar t ⟨b, off, none⟩).run P w = .ok (cond bq (.agg ((cs.toList.drop off).take inf.size).toArray) (((cs.toList.drop off).take inf.size).headD undef)) w := by
  cases bq with
  | true =>
    simp only [loadVar, Sem.run_bind, aggB_isAgg hb, Result.andThen_ok, if_true, run_sizeOf hi, run_loadCells_at h hm, Sem.run_pure, cond_true]
  | false =>
    have h1' := h1 rfl
    have hlt : off < cs.size := by omega
    simp only [loadVar, Sem.run_bind, aggB_isAgg hb, Result.andThen_ok, Bool.false_eq_true, if_false, run_load, cell_of h, cond_false, h1']
    rw [Array.getElem?_eq_getElem hlt]
    simp only []
    congr 1
    have : cs.toList.drop off = cs[off] :: cs.toList.drop (off + 1) := by
      rw [← List.getElem_cons_drop (by simpa using hlt)]; simp
    rw [this]; simp
theorem TyOK.one {t : TypeId} {i : TI} (h : TyOK P t i) (hns : isSt i.ty = false) : i.ty.size = 1 := by
  have hd := h.desc
  unfold DescOK at hd
  split at hd
  all_goals (rename_i hk; first | (rw [hk]; rfl) | skip)
  · rw [hk] at hns; simp [isSt] at hns
  · exact hd.elim
theorem RelW.load (h : RelW C n S R ρ a w) (TK : TypesOK P T) {o : Oper} {t : TypeId} {x : Operand} (ho : o.op = .load t x) (hd : dIn n o.dst) (hon : (T t).on = true)
    {b off : Nat} {cs : Array Value} {X : TypeId} {fz : Nat × Nat} (hx : a.eval x = .pointer (some ⟨b, off, none⟩)) (hh : w.heap[b]? = some (.cells cs X fz)) (hm : off + (T t).ty.size ≤ cs.size)
    {l : List Cel} (hl : CelsR ρ w R l ((cs.toList.drop off).take (T t).ty.size)) (hid : ∀ i ∈ idsOf l, S.hp i ≠ .none) : Done P C n S o a w (mkOf (T t).ty l) [] := by
  have tk := TK t hon
  obtain ⟨inf, hi, hs, hz⟩ := tk.info
  rw [← hs] at hm hl
  refine done_value h hd (v' := cond (isSt (T t).ty) (.agg ((cs.toList.drop off).take inf.size).toArray) (((cs.toList.drop off).take inf.size).headD undef)) ?_ (mkOf_ok hl) fun i hi => hid i (mkOf_ids hi)
  simp only [execOp, ho, Sem.run_bind, hx, Instr.loadAt, Instr.sureAddr, Sem.run_pure, Result.andThen_ok, run_loadVar hi tk.desc.agg (fun hq => hs.trans (tk.one hq)) hh hm]
end
end Go.Ev
set_option linter.unusedVariables false
set_option linter.unusedSimpArgs false
namespace Go.Ev
open Go
def SubHp (hp' hp : Hp) : Prop := ∀ i, hp' i = hp i ∨ hp' i = .none
theorem SubHp.arr {hp' hp : Hp} (h : SubHp hp' hp) {i : Nat} {t : Ty} {l : List t.den} {o : Nat} (hi : hp' i = .arr t l o) : hp i = .arr t l o := by
  rcases h i with h | h
  · rw [← h]; exact hi
  · rw [h] at hi; cases hi
theorem SubHp.box {hp' hp : Hp} (h : SubHp hp' hp) {i : Nat} {cs : List Cel} (hi : hp' i = .box cs) : hp i = .box cs := by
  rcases h i with h | h
  · rw [← h]; exact hi
  · rw [h] at hi; cases hi
theorem SubHp.mp {hp' hp : Hp} (h : SubHp hp' hp) {i : Nat} {l : List Int} (hi : hp' i = .mp l) : hp i = .mp l := by
  rcases h i with h | h
  · rw [← h]; exact hi
  · rw [h] at hi; cases hi
theorem chkL_iff {T : TypeId → TI} {t : TypeId} {e : Ty} (h : chkL T t e = true) : (T t).on = true ∧ (T t).ty = .list e := by simpa [chkL] using h
theorem chkT_iff {T : TypeId → TI} {t : TypeId} {e : Ty} (h : chkT T t e = true) : (T t).on = true ∧ (T t).ty = e := by simpa [chkT] using h
section
variable {P : Program} {C : Ctx} {n : Nat} {S : St} {R : Nat → Prop} {ρ : Nat → Value} {a : Act} {w : World} {T : TypeId → TI} {tab : List Entry} {nd : Nat} {hp' : Hp}
theorem chkL_slice (TK : TypesOK P T) {t : TypeId} {e : Ty} (h : chkL T t e = true) : ∃ et, P.underlying t = some (.slice et) ∧ ElemOK P et e (T t).eb := by
  obtain ⟨h1, h2⟩ := chkL_iff h
  have := (TK t h1).desc
  unfold DescOK at this
  rw [h2] at this; exact this
theorem chkT_str (TK : TypesOK P T) {t : TypeId} (h : chkT T t .str = true) : P.underlying t = some .string := by
  obtain ⟨h1, h2⟩ := chkT_iff h
  have := (TK t h1).desc
  unfold DescOK at this
  rw [h2] at this; exact this
theorem int_desc (TK : TypesOK P T) {t : TypeId} {k : IntKind} (h1 : (T t).on = true) (h2 : (T t).ty = .int k) : P.underlying t = some (.int k) := by
  have := (TK t h1).desc
  unfold DescOK at this
  rw [h2] at this; exact this
def Quiet (P : Program) (C : Ctx) (n : Nat) (S : St) (o : Oper) (a : Act) (w : World) (v : AV) (u : List (Nat × Blk)) : Prop := u = [] ∧ Done P C n S o a w v []
theorem Quiet.done {o : Oper} {v : AV} {u : List (Nat × Blk)} (h : Quiet P C n S o a w v u) : Done P C n S o a w v u := by
  obtain ⟨rfl, h⟩ := h; exact h
theorem op_move (h : RelW C n S R ρ a w) {o : Oper} (hd : dIn n o.dst) {x : Operand} (ho : o.op = .move x ∨ o.op = .assign x) : Done P C n S o a w (opnd S.fr x) [] :=
  done_value h hd (by rcases ho with ho | ho <;> simp [execOp, ho]) (h.opnd x) (h.opndMen x)
theorem op_pick (h : RelW C n S R ρ a w) {o : Oper} (hd : dIn n o.dst) {c x y : Operand} (ho : o.op = .pick c x y) {b : Bool} (hc : opnd S.fr c = .one (.dat .bool b)) :
    Done P C n S o a w (cond b (opnd S.fr x) (opnd S.fr y)) [] := by
  have e := bool_of (hc ▸ h.opnd c)
  refine done_value h hd (v' := if b then a.eval x else a.eval y) (by simp [execOp, ho, e, asBool]) ?_ ?_
  · cases b
    · exact h.opnd y
    · exact h.opnd x
  · cases b
    · exact h.opndMen y
    · exact h.opndMen x
theorem op_bin (TK : TypesOK P T) (h : RelW C n S R ρ a w) {o : Oper} (hd : dIn n o.dst) {op : BinOp} {t t' : TypeId} {x y : Operand} (ho : o.op = .binOp op t x y t') {ok : Bool} {v : AV} {u : List (Nat × Blk)}
    (hr : binA T t op (opnd S.fr x) (opnd S.fr y) = .eff ok v u) (hok : ok = true) : Quiet P C n S o a w v u := by
  obtain ⟨hu, hi, v', hrun, hv⟩ := binA_ok (ox := x) (oy := y) TK hr hok (h.opnd x) (h.opnd y)
  refine ⟨hu, done_value h hd ?_ hv (by rw [hi]; simp)⟩
  have e : (execOp a.eval o).run P w = ((do eqGuard op t x y (a.eval x) (a.eval y); binOp op t (a.eval x) (a.eval y) : Sem Value).run P w).andThen fun v w => .ok (.value v) w := by
    simp only [execOp, ho, Sem.run_bind, Sem.run_pure]
  rw [e, hrun]; rfl
theorem op_un (h : RelW C n S R ρ a w) {o : Oper} (hd : dIn n o.dst) {op : UnOp} {t : TypeId} {x : Operand} (ho : o.op = .unOp op t x) {ok : Bool} {v : AV} {u : List (Nat × Blk)}
    (hr : unA op (opnd S.fr x) = .eff ok v u) (hok : ok = true) : Quiet P C n S o a w v u := by
  have hx := h.opnd x
  unfold unA at hr
  split at hr
  · rename_i k z hz
    rw [hz] at hx; have e := int_of hx
    simp only [Res.eff.injEq] at hr; obtain ⟨_, rfl, rfl⟩ := hr
    exact ⟨rfl, done_value h hd (v' := .int k (k.wrap (0 - z))) (by simp only [execOp, ho, Sem.run_bind, e, Op.unary, Op.intArith]; rfl) (of_int _ _) (by simp [AV.ids, Cel.ids])⟩
  · rename_i k z hz
    rw [hz] at hx; have e := int_of hx
    simp only [Res.eff.injEq] at hr; obtain ⟨_, rfl, rfl⟩ := hr
    refine ⟨rfl, done_value h hd (v' := .int k (bitsOp .xor k (cond k.signed (-1) k.max) z)) ?_ (of_int _ _) (by simp [AV.ids, Cel.ids])⟩
    simp only [execOp, ho, Sem.run_bind, e, Op.unary]
    cases k.signed <;> rfl
  · rename_i b hz
    rw [hz] at hx; have e := bool_of hx
    simp only [Res.eff.injEq] at hr; obtain ⟨_, rfl, rfl⟩ := hr
    exact ⟨rfl, done_value h hd (v' := .bool (!b)) (by simp only [execOp, ho, Sem.run_bind, e, Op.unary]; rfl) (of_bool _) (by simp [boolv, AV.ids, Cel.ids])⟩
  · cases hr
theorem op_extract (h : RelW C n S R ρ a w) {o : Oper} (hd : dIn n o.dst) {x : Operand} {i : Nat} (ho : o.op = .extract x i) {l : List (Bool × List Cel)} (hx : opnd S.fr x = .tup l) {p : Bool × List Cel} (hp : l[i]? = some p) {v : AV}
    (hv : (p.1 = true ∧ v = .agg p.2) ∨ (p.1 = false ∧ ∃ c, p.2 = [c] ∧ v = .one c)) : Done P C n S o a w v [] := by
  have hh := h.opnd x
  have hm := h.opndMen x
  rw [hx] at hh hm
  obtain ⟨vs, hvs, hl⟩ := hh
  obtain ⟨v', hv', ht⟩ := hl.get hp
  have hrun : (execOp a.eval o).run P w = .ok (.value v') w := by
    simp only [execOp, ho, Sem.run_bind, hvs, Instr.extract]
    rw [List.getElem?_toArray, hv']; rfl
  have hmem : ∀ j ∈ idsOf p.2, S.hp j ≠ .none := fun j hj => hm j (mem_idsOfTup (List.mem_of_getElem? hp) hj)
  rcases hv with ⟨hb, rfl⟩ | ⟨hb, c, hc, rfl⟩
  · unfold TupR at ht; rw [hb] at ht
    exact done_value h hd hrun ht hmem
  · unfold TupR at ht; rw [hb] at ht
    obtain ⟨c', hc', ht⟩ := ht
    rw [hc] at hc'; cases hc'
    exact done_value h hd hrun ht fun j hj => hmem j (by rw [hc]; simp only [AV.ids] at hj; simp [idsOf, hj])
theorem op_nilCheck (h : RelW C n S R ρ a w) {o : Oper} (hd : dIn n o.dst) {x : Operand} (ho : o.op = .nilCheck x) (hx : (∃ j off, opnd S.fr x = .one (.ptr j off)) ∨ (∃ cs, opnd S.fr x = .at cs) ∨ ∃ j e m off, opnd S.fr x = .one (.elt j e m off)) :
    Done P C n S o a w (opnd S.fr x) [] := by
  have hp : ∃ ad, a.eval x = .pointer (some ad) := by
    have hh := h.opnd x
    rcases hx with ⟨j, off, hx⟩ | ⟨cs, hx⟩ | ⟨j, e, m, off, hx⟩
    · rw [hx] at hh; obtain ⟨b, _, hv⟩ := hh; exact ⟨_, hv⟩
    · rw [hx] at hh; obtain ⟨_, b, off, cs', X, fz, hv, _⟩ := hh; exact ⟨_, hv⟩
    · rw [hx] at hh; obtain ⟨_, b, o', len, cap, _, _, hv⟩ := hh; exact ⟨_, hv⟩
  obtain ⟨ad, hp⟩ := hp
  refine done_value h hd (v' := a.eval x) ?_ (h.opnd x) (h.opndMen x)
  simp only [execOp, ho, hp, Sem.run_pure]
theorem op_conv_int (TK : TypesOK P T) (h : RelW C n S R ρ a w) {o : Oper} (hd : dIn n o.dst) {s d : TypeId} {x : Operand} (ho : o.op = .convert s d x) {k k' : IntKind} (hs : (T s).on = true ∧ (T s).ty = .int k') (hdd : (T d).on = true ∧ (T d).ty = .int k) {z : Int}
    (hx : opnd S.fr x = .one (.dat (.int k') z)) : Done P C n S o a w (.one (.dat (.int k) (k.wrap z))) [] := by
  have e := int_of (hx ▸ h.opnd x)
  refine done_value h hd (v' := .int k (k.wrap z)) ?_ (of_int _ _) (by simp [AV.ids, Cel.ids])
  simp only [execOp, ho, Sem.run_bind, convert, run_underlying' (int_desc TK hs.1 hs.2), run_underlying' (int_desc TK hdd.1 hdd.2), Result.andThen_ok, e, Conv.intToInt]
  rfl
theorem run_part {t : TypeId} {fi : TypeInfo} {bq : Bool} (hi : P.info? t = some fi) (hb : aggB P t = some bq) (h1 : bq = false → fi.size = 1) {cs : Array Value} {off : Nat} (hm : off + fi.size ≤ cs.size) :
    (part t cs off).run P w = .ok (cond bq (.agg ((cs.toList.drop off).take fi.size).toArray) (((cs.toList.drop off).take fi.size).headD undef)) w := by
  cases bq with
  | true =>
    simp only [part, Sem.run_bind, aggB_isAgg hb, Result.andThen_ok, if_true, run_sizeOf hi, Sem.run_pure, cond_true]
    congr 3
    apply Array.toList_inj.1
    rw [Array.toList_extract]; simp [List.extract_eq_take_drop]
  | false =>
    have h1' := h1 rfl
    have hlt : off < cs.size := by omega
    simp only [part, Sem.run_bind, aggB_isAgg hb, Result.andThen_ok, Bool.false_eq_true, if_false, cond_false, h1']
    rw [Array.getElem?_eq_getElem hlt]
    simp only [Sem.run_pure]
    congr 1
    have : cs.toList.drop off = cs[off] :: cs.toList.drop (off + 1) := by
      rw [← List.getElem_cons_drop (by simpa using hlt)]; simp
    rw [this]; simp
theorem st_desc (TK : TypesOK P T) {t : TypeId} (hon : (T t).on = true) {i : Nat} {f : Nat × Ty} (hf : (T t).flds[i]? = some f) (hne : ∃ g, (T t).ty = .st g) :
    ∃ (fs : Array Field) (fd : Field) (g : Ty), P.underlying t = some (.struct fs) ∧ fs[i]? = some fd ∧ FldOK P fd f g.size ∧ (T t).ty = .st g := by
  obtain ⟨g, hg⟩ := hne
  have := (TK t hon).desc
  unfold DescOK at this
  rw [hg] at this
  obtain ⟨fs, hu, hs, hall⟩ := this
  obtain ⟨fd, h1, h2⟩ := hall i f hf
  exact ⟨fs, fd, g, hu, h1, h2, hg⟩
theorem op_field (TK : TypesOK P T) (h : RelW C n S R ρ a w) {o : Oper} (hd : dIn n o.dst) {t : TypeId} {x : Operand} {i : Nat} (ho : o.op = .field t x i) (hon : (T t).on = true) (hst : ∃ g, (T t).ty = .st g) {cs : List Cel} (hx : opnd S.fr x = .agg cs) {f : Nat × Ty}
    (hf : (T t).flds[i]? = some f) (hlen : cs.length = (T t).ty.size) : Done P C n S o a w (mkOf f.2 ((cs.drop f.1).take f.2.size)) [] := by
  obtain ⟨fs, fd, g, hu, hfd, hF, hg⟩ := st_desc TK hon hf hst
  have hh := h.opnd x
  have hm := h.opndMen x
  rw [hx] at hh hm
  obtain ⟨vs, hvs, hl⟩ := hh
  obtain ⟨fi, hfi, hsz⟩ := hF.info
  have hle : fd.offset + fi.size ≤ vs.toArray.size := by
    rw [hF.off, hsz]
    have h1 := hF.le
    have h2 := hl.len
    have h3 : (T t).ty.size = g.size := by rw [hg]; rfl
    simp; omega
  refine done_value h hd (v' := cond (isSt f.2) (.agg ((vs.drop f.1).take f.2.size).toArray) (((vs.drop f.1).take f.2.size).headD undef)) ?_ (mkOf_ok ((hl.drop _).take _)) fun j hj => hm j (idsOf_sub (mkOf_ids hj))
  have hp := run_part (P := P) (w := w) hfi hF.agg (fun hq => hsz.trans (hF.one hq)) hle
  rw [hF.off, hsz] at hp
  simp only [execOp, ho, Sem.run_bind, Instr.field, run_underlying' hu, Result.andThen_ok, hfd, hvs, asAgg, Sem.run_pure, hF.off, hp]
theorem isSt_ex {t : Ty} (h : isSt t = true) : ∃ g, t = .st g := by cases t <;> first | exact ⟨_, rfl⟩ | simp [isSt] at h
theorem run_fieldAt (TK : TypesOK P T) {t : TypeId} (hon : (T t).on = true) (hst : isSt (T t).ty = true) {i : Nat} {f : Nat × Ty} (hf : (T t).flds[i]? = some f) {b off : Nat} :
    (Instr.fieldAt t (.pointer (some ⟨b, off, none⟩)) i).run P w = .ok (.pointer (some ⟨b, off + f.1, none⟩)) w := by
  obtain ⟨fs, fd, g, hu, hfd, hF, hg⟩ := st_desc TK hon hf (isSt_ex hst)
  obtain ⟨fi, hfi, hsz⟩ := hF.info
  have hne : ¬ fi.size = 0 := by rw [hsz]; have := hF.pos; omega
  simp only [Instr.fieldAt, Sem.run_bind, run_underlying' hu, Result.andThen_ok, hfd, Instr.sureAddr, Sem.run_pure, fieldPlace, run_sizeOf hfi, if_neg hne, Addr.add_lit, hF.off]
theorem op_fieldAddr (TK : TypesOK P T) (h : RelW C n S R ρ a w) {o : Oper} (hd : dIn n o.dst) {t : TypeId} {x : Operand} {i : Nat} (ho : o.op = .fieldAddr t x i) (hon : (T t).on = true) (hst : isSt (T t).ty = true) {f : Nat × Ty}
    (hf : (T t).flds[i]? = some f) {v : AV} (hv : (∃ j off, opnd S.fr x = .one (.ptr j off) ∧ v = .one (.ptr j (off + f.1))) ∨ (∃ cs, opnd S.fr x = .at cs ∧ f.1 ≤ cs.length ∧ v = .at (cs.drop f.1)) ∨ ∃ j e m off, opnd S.fr x = .one (.elt j e m off) ∧ v = .one (.elt j e m (off + f.1))) :
    Done P C n S o a w v [] := by
  have hh := h.opnd x
  have hm := h.opndMen x
  have hrun : ∀ b off, a.eval x = .pointer (some ⟨b, off, none⟩) → (execOp a.eval o).run P w = .ok (.value (.pointer (some ⟨b, off + f.1, none⟩))) w := by
    intro b off e
    simp only [execOp, ho, Sem.run_bind, e, run_fieldAt TK hon hst hf, Result.andThen_ok, Sem.run_pure]
  rcases hv with ⟨j, off, hx, rfl⟩ | ⟨cs, hx, hf1, rfl⟩ | ⟨j, e, m, off, hx, rfl⟩
  · rw [hx] at hh hm
    obtain ⟨b, h1, h2⟩ := hh
    exact done_value h hd (hrun b off h2) ⟨b, h1, rfl⟩ hm
  · rw [hx] at hh hm
    obtain ⟨hdat, b, off, cs', X, fz, h2, hR, hc, hle, hl⟩ := hh
    refine done_value h hd (hrun b off h2) ⟨fun c hc => hdat c (List.mem_of_mem_drop hc), b, off + f.1, cs', X, fz, rfl, hR, hc, ?_, ?_⟩ fun i hi => hm i (idsOf_drop hi)
    · simp only [List.length_drop]
      omega
    · have := hl.drop f.1
      rw [List.drop_take, List.drop_drop] at this
      simpa [CelsR, List.length_drop] using this
  · rw [hx] at hh hm
    obtain ⟨h0, b, o', len, cap, h1, h2, h3⟩ := hh
    exact done_value h hd (hrun b _ h3) ⟨h0, b, o', len, cap, h1, h2, by rw [Nat.add_assoc]⟩ hm
theorem byte_at (s : ByteArray) (i : Nat) (h : i < s.size) : (bytesOf s).getD i 0 = (s[i].toNat : Int) := by
  have hl : s.toList = s.data.toList := ByteArray.toList_eq s
  simp only [bytesOf, hl, List.getD]
  have h' : i < s.data.toList.length := by simpa using h
  rw [List.getElem?_map, List.getElem?_eq_getElem h']
  simp [ByteArray.getElem_eq_getElem_data]
theorem inR_iff {i m : Int} (h : inR i m = true) : 0 ≤ i ∧ i < m := by simpa [inR] using h
theorem op_index (TK : TypesOK P T) (h : RelW C n S R ρ a w) {o : Oper} (hd : dIn n o.dst) {t : TypeId} {x i : Operand} (ho : o.op = .index t x i) (ht : chkT T t .str = true) {s : ByteArray} {k : IntKind} {z : Int}
    (hx : opnd S.fr x = .one (.dat .str s)) (hi : opnd S.fr i = .one (.dat (.int k) z)) (hok : inR z (s.size : Int) = true) : Done P C n S o a w (.one (.dat (.int .u8) (nth (.int .u8) (bytesOf s) z))) [] := by
  have e1 := str_of (hx ▸ h.opnd x)
  have e2 := int_of (hi ▸ h.opnd i)
  obtain ⟨h0, h1⟩ := inR_iff hok
  have hlt : z.toNat < s.size := by omega
  refine done_value h hd (v' := .int .u8 (nth (.int .u8) (bytesOf s) z)) ?_ (of_int _ _) (by simp [AV.ids, Cel.ids])
  have hb : nth (.int .u8) (bytesOf s) z = (s[z.toNat].toNat : Int) := byte_at s z.toNat hlt
  have hg : s[z.toNat]? = some s[z.toNat] := ByteArray.getElem?_lt' s _ hlt
  simp only [execOp, ho, Sem.run_bind, Instr.index, e1, e2, asIntOf, Sem.run_pure, Result.andThen_ok, run_underlying' (chkT_str TK ht), if_pos h0, hg, hb]
theorem run_indexAt (TK : TypesOK P T) {t : TypeId} {e : Ty} (ht : chkL T t e = true) {b off len cap : Nat} {k : IntKind} {z : Int} (h0 : 0 ≤ z) (h1 : z < len) :
    (Instr.indexAt t (.slice (some ⟨b, off, none⟩) len cap) (.int k z)).run P w = .ok (.pointer (some ⟨b, off + z.toNat * e.size, none⟩)) w := by
  obtain ⟨et, hu, hE⟩ := chkL_slice TK ht
  obtain ⟨ie, hie, hsz, _, _⟩ := hE.ex
  simp only [Instr.indexAt, Sem.run_bind, asIntOf, Sem.run_pure, Result.andThen_ok, run_underlying' hu, if_pos (And.intro h0 h1), run_sizeOf hie, Addr.add_lit, hsz]
theorem dat_slice {t : Ty} {l : List t.den} {v : Value} (h : AVR ρ w R (.one (.dat (.list t) l)) v) : SlR w R t.size (fun (x : t.den) c => CR w R t x c) l v := by
  obtain ⟨v', hv, hs⟩ := h
  cases hv; exact hs
theorem nth_eq {t : Ty} {l : List t.den} {z : Int} (h0 : 0 ≤ z) (h1 : z < (l.length : Int)) : ∃ h : z.toNat < l.length, nth t l z = l[z.toNat] := by
  have h : z.toNat < l.length := by omega
  exact ⟨h, by simp [nth, List.getD, List.getElem?_eq_getElem h]⟩
theorem op_indexDat (TK : TypesOK P T) (h : RelW C n S R ρ a w) {o : Oper} (hd : dIn n o.dst) {t : TypeId} {x i : Operand} (ho : o.op = .indexAddr t x i) {e : Ty} (ht : chkL T t e = true) {l : List e.den} {k : IntKind} {z : Int}
    (hx : opnd S.fr x = .one (.dat (.list e) l)) (hi : opnd S.fr i = .one (.dat (.int k) z)) (hok : inR z (l.length : Int) = true) : Done P C n S o a w (.at (explode e (nth e l z))) [] := by
  have e2 := int_of (hi ▸ h.opnd i)
  have hs := dat_slice (hx ▸ h.opnd x)
  obtain ⟨h0, h1⟩ := inR_iff hok
  obtain ⟨hlt, hn⟩ := nth_eq (t := e) h0 h1
  rcases hs with ⟨_, hnil⟩ | ⟨b, off, cap, cs, X, fz, hv, hl, hR, hh, hsz, hel⟩
  · subst hnil; simp at h1; omega
  · refine done_value h hd (v' := .pointer (some ⟨b, off + z.toNat * e.size, none⟩)) ?_ ⟨explode_dat e _, b, off + z.toNat * e.size, cs, X, fz, rfl, hR, hh, ?_, ?_⟩ (by simp only [AV.ids, explode_ids]; simp)
    · simp only [execOp, ho, Sem.run_bind, hv, e2, run_indexAt TK ht h0 h1, Result.andThen_ok, Sem.run_pure]
    · rw [explode_len]
      have : (z.toNat + 1) * e.size ≤ cap * e.size := Nat.mul_le_mul_right _ (by omega)
      rw [Nat.add_mul] at this; omega
    · rw [explode_len, hn]
      exact explode_cels e _ _ (hel _ hlt)
theorem ref_slice (h : RelW C n S R ρ a w) {x : Operand} {i : Nat} {t : Ty} {l : List t.den} {q : Nat} (hx : opnd S.fr x = .one (.ref i)) (hb : S.hp i = .arr t l q) :
    a.eval x = ρ i ∧ OwnR w R t l q (ρ i) := by
  have := h.opnd x
  rw [hx] at this
  have hbi := h.hp i
  rw [hb] at hbi
  exact ⟨this.1, hbi⟩
theorem op_indexRef (TK : TypesOK P T) (h : RelW C n S R ρ a w) {o : Oper} (hd : dIn n o.dst) {t : TypeId} {x i : Operand} (ho : o.op = .indexAddr t x i) {e : Ty} (ht : chkL T t e = true) {l : List e.den} {q j : Nat} {k : IntKind} {z : Int}
    (hx : opnd S.fr x = .one (.ref j)) (hb : S.hp j = .arr e l q) (hi : opnd S.fr i = .one (.dat (.int k) z)) (hok : inR z (l.length : Int) = true) : Done P C n S o a w (.one (.elt j e z 0)) [] := by
  have e2 := int_of (hi ▸ h.opnd i)
  obtain ⟨hv, hO⟩ := ref_slice h hx hb
  obtain ⟨h0, h1⟩ := inR_iff hok
  rcases hO with ⟨_, hnil⟩ | ⟨b, off, cap, cs, X, fz, hr, hl, hh, _⟩
  · subst hnil; simp at h1; omega
  · rw [hr] at hv
    refine done_value h hd (v' := .pointer (some ⟨b, off + z.toNat * e.size, none⟩)) ?_ ⟨h0, b, off, l.length, cap, hr, h1, by rw [Nat.add_zero]⟩ (by simp only [AV.ids, Cel.ids]; intro i hi; simp at hi; subst hi; rw [hb]; simp)
    simp only [execOp, ho, Sem.run_bind, hv, e2, run_indexAt TK ht h0 h1, Result.andThen_ok, Sem.run_pure]
theorem op_indexPart (TK : TypesOK P T) (h : RelW C n S R ρ a w) {o : Oper} (hd : dIn n o.dst) {t : TypeId} {x i : Operand} (ho : o.op = .indexAddr t x i) {e : Ty} (ht : chkL T t e = true) {j : Nat} {off len : Int} {k : IntKind} {z : Int}
    (hx : opnd S.fr x = .one (.part j e off len)) (hi : opnd S.fr i = .one (.dat (.int k) z)) (hok : inR z len = true) : Done P C n S o a w (.one (.elt j e (off + z) 0)) [] := by
  have e2 := int_of (hi ▸ h.opnd i)
  have hh := h.opnd x
  have hm := h.opndMen x
  rw [hx] at hh hm
  obtain ⟨h0, h1⟩ := inR_iff hok
  obtain ⟨hoff, hlen, hh⟩ := hh
  rcases hh with ⟨_, _, _, hz⟩ | ⟨b, o', len', cap, q, cap', hr, hv, hle, hcap, _, hq, _⟩
  · omega
  · have hq' : q = o' + off.toNat * e.size := hq.resolve_left (by omega)
    refine done_value h hd (v' := .pointer (some ⟨b, q + z.toNat * e.size, none⟩)) ?_ ⟨by omega, b, o', len', cap, hr, by omega, ?_⟩ hm
    · have h1' : z < (len.toNat : Int) := by omega
      simp only [execOp, ho, Sem.run_bind, hv, e2, run_indexAt TK ht h0 h1', Result.andThen_ok, Sem.run_pure]
    · subst hq'
      have : (off + z).toNat = off.toNat + z.toNat := by omega
      rw [this, Nat.add_mul]; congr 3; omega
theorem op_loadPtr (TK : TypesOK P T) (h : RelW C n S R ρ a w) {o : Oper} (hd : dIn n o.dst) {t : TypeId} {x : Operand} (ho : o.op = .load t x) (hon : (T t).on = true) {j off : Nat} {cs : List Cel} (hx : opnd S.fr x = .one (.ptr j off)) (hb : S.hp j = .box cs)
    (hle : off + (T t).ty.size ≤ cs.length) : Done P C n S o a w (mkOf (T t).ty ((cs.drop off).take (T t).ty.size)) [] := by
  have hh := h.opnd x
  rw [hx] at hh
  obtain ⟨b, h1, h2⟩ := hh
  have hbi := h.hp j
  rw [hb] at hbi
  obtain ⟨b', vs, X, h3, h4, hl, _⟩ := hbi
  rw [h1] at h3; cases h3
  exact h.load TK ho hd hon h2 h4 (by have := hl.len; simp; omega) (by simpa [CelsR] using (hl.drop off).take (T t).ty.size) fun i hi => h.menB j cs hb i (idsOf_sub hi)
theorem op_loadAt (TK : TypesOK P T) (h : RelW C n S R ρ a w) {o : Oper} (hd : dIn n o.dst) {t : TypeId} {x : Operand} (ho : o.op = .load t x) (hon : (T t).on = true) {cs : List Cel} (hx : opnd S.fr x = .at cs)
    (hle : (T t).ty.size ≤ cs.length) : Done P C n S o a w (mkOf (T t).ty (cs.take (T t).ty.size)) [] := by
  have hh := h.opnd x
  have hm := h.opndMen x
  rw [hx] at hh hm
  obtain ⟨hdat, b, off, cs', X, fz, h2, hR, hc, hlen, hl⟩ := hh
  refine h.load TK ho hd hon h2 hc (by omega) ?_ fun i hi => ?_
  · have := hl.take (T t).ty.size
    rwa [List.take_take, Nat.min_eq_left hle] at this
  · rw [dat_ids fun c hc => hdat c (List.mem_of_mem_take hc)] at hi; simp at hi
theorem op_loadElt (TK : TypesOK P T) (h : RelW C n S R ρ a w) {o : Oper} (hd : dIn n o.dst) {t : TypeId} {x : Operand} (ho : o.op = .load t x) (hon : (T t).on = true) {j off q : Nat} {e : Ty} {z : Int} {l : List e.den} (hx : opnd S.fr x = .one (.elt j e z off)) (hb : S.hp j = .arr e l q)
    (hle : off + (T t).ty.size ≤ e.size) : Done P C n S o a w (mkOf (T t).ty (((explode e (nth e l z)).drop off).take (T t).ty.size)) [] := by
  have hh := h.opnd x
  rw [hx] at hh
  obtain ⟨h0, b, o', len, cap, h1, hz, h2⟩ := hh
  have hbi := h.hp j
  rw [hb] at hbi
  rcases hbi with ⟨hv, _⟩ | ⟨b', off', cap', cs, X, fz, h3, hl, h4, hs, hel, _⟩
  · rw [hv] at h1; cases h1
  · rw [h1] at h3; cases h3
    obtain ⟨hlt, hn⟩ := nth_eq (t := e) (l := l) h0 hz
    have hmul : (z.toNat + 1) * e.size ≤ cap * e.size := Nat.mul_le_mul_right _ (by omega)
    rw [Nat.add_mul] at hmul
    refine h.load TK ho hd hon h2 h4 (by omega) ?_ fun i hi => ?_
    · have := (explode_cels (ρ := ρ) e _ _ (hel _ hlt)).drop off
      have := this.take (T t).ty.size
      rw [hn]
      rw [List.drop_take, List.drop_drop, List.take_take, Nat.min_eq_left (by omega)] at this
      exact this
    · rw [dat_ids fun c hc => explode_dat _ _ c (List.mem_of_mem_drop (List.mem_of_mem_take hc))] at hi; simp at hi
end
end Go.Ev
set_option linter.unusedVariables false
set_option linter.unusedSimpArgs false
namespace Go.Ev
open Go
section
variable {P : Program} {C : Ctx} {n : Nat} {S : St} {R : Nat → Prop} {ρ : Nat → Value} {a : Act} {w : World} {T : TypeId → TI} {tab : List Entry} {nd : Nat} {hp' : Hp}
theorem run_builtin (o : Oper) {c : Call} {b : Builtin} (ho : o.op = .call c) (hb : c.callee = .builtin b) :
    (execOp a.eval o).run P w = (builtin b c.argTypes o.type (c.args.map fun | .const _ => true | _ => false) (c.args.map a.eval)).run P w := by
  simp only [execOp, ho, Sem.run_bind, resolve, hb, Sem.run_pure, Result.andThen_ok, invoke]
  rfl
theorem lenOf_slice {t : TypeId} {et : TypeId} {ty : TypeId} (hu : P.underlying t = some (.slice et)) (ad : Option Addr) (l c : Nat) : (Builtin.len_ #[t] ty #[.slice ad l c]).run P w = .ok (.int .i64 l) w := by
  simp [Builtin.len_, run_underlying' hu, goInt]
theorem lenOf_str {t : TypeId} {ty : TypeId} (hu : P.underlying t = some .string) (s : ByteArray) : (Builtin.len_ #[t] ty #[.string s]).run P w = .ok (.int .i64 s.size) w := by
  simp [Builtin.len_, run_underlying' hu, goInt]
def LenIs (v : Value) (m : Int) : Prop := ∃ ad l c, v = .slice ad l c ∧ (l : Int) = m
theorem len_dat {t : Ty} {l : List t.den} {v : Value} (h : AVR ρ w R (.one (.dat (.list t) l)) v) : LenIs v l.length := by
  rcases dat_slice h with ⟨rfl, rfl⟩ | ⟨b, off, cap, cs, X, fz, rfl, _⟩ <;> exact ⟨_, _, _, rfl, rfl⟩
theorem len_ref (h : RelW C n S R ρ a w) {x : Operand} {i : Nat} {t : Ty} {l : List t.den} {q : Nat} (hx : opnd S.fr x = .one (.ref i)) (hb : S.hp i = .arr t l q) : LenIs (a.eval x) l.length := by
  obtain ⟨hv, hO⟩ := ref_slice h hx hb
  rw [hv]
  rcases hO with ⟨hr, hn⟩ | ⟨b, off, cap, cs, X, fz, hr, _⟩
  · rw [hr, hn]; exact ⟨_, _, _, rfl, rfl⟩
  · rw [hr]; exact ⟨_, _, _, rfl, rfl⟩
theorem len_part {i : Nat} {t : Ty} {off m : Int} {v : Value} (h : AVR ρ w R (.one (.part i t off m)) v) : LenIs v m := by
  obtain ⟨h0, h1, h2⟩ := h
  rcases h2 with ⟨_, rfl, _, rfl⟩ | ⟨b, o', len, cap, q, cap', _, rfl, _⟩
  · exact ⟨_, _, _, rfl, rfl⟩
  · exact ⟨_, _, _, rfl, by omega⟩
theorem op_len (TK : TypesOK P T) (h : RelW C n S R ρ a w) (Hs : SubHp hp' S.hp) {o : Oper} (hd : dIn n o.dst) {c : Call} (ho : o.op = .call c) (hb : c.callee = .builtin .len) {t : TypeId} {x : Operand} (hts : c.argTypes.toList = [t]) (hxs : c.args.toList = [x]) {m : Int}
    (hl : lenOf T t hp' (opnd S.fr x) = some m) : Done P C n S o a w (i64v m) [] := by
  have hts' : c.argTypes = #[t] := Array.toList_inj.1 hts
  have hxs' : c.args = #[x] := Array.toList_inj.1 hxs
  have hrun : ∀ v, (Builtin.len_ #[t] o.type #[a.eval x]).run P w = .ok v w → (execOp a.eval o).run P w = .ok (.value v) w := by
    intro v hv
    rw [run_builtin o ho hb, hts', hxs']
    have e : (#[x] : Array Operand).map a.eval = #[a.eval x] := by simp
    rw [e]
    simp only [builtin, Sem.run_bind, hv, Result.andThen_ok, Sem.run_pure]
  have fin : LenIs (a.eval x) m → (∃ et, P.underlying t = some (.slice et)) → Done P C n S o a w (i64v m) [] := by
    rintro ⟨ad, l, cc, hv, hm⟩ ⟨et, hu⟩
    refine done_value h hd (v' := .int .i64 m) (hrun _ ?_) (of_int _ _) (by simp [i64v, AV.ids, Cel.ids])
    rw [hv, lenOf_slice hu, hm]
  have hh := h.opnd x
  unfold lenOf at hl
  split at hl
  · rename_i s hx
    cases hc : chkT T t .str with
    | false => simp [hc] at hl
    | true =>
      simp only [hc, cond_true, Option.some.injEq] at hl
      subst hl
      rw [hx] at hh
      refine done_value h hd (v' := .int .i64 s.size) (hrun _ ?_) (of_int _ _) (by simp [i64v, AV.ids, Cel.ids])
      rw [str_of hh, lenOf_str (chkT_str TK hc)]
  · rename_i e l hx
    cases hc : chkL T t e with
    | false => simp [hc] at hl
    | true =>
      simp only [hc, cond_true, Option.some.injEq] at hl
      subst hl
      rw [hx] at hh
      obtain ⟨et, hu, _⟩ := chkL_slice TK hc
      exact fin (len_dat hh) ⟨et, hu⟩
  · rename_i hx
    rw [hx] at hh
    split at hl
    · rename_i e hon hty
      cases hl
      have hc : chkL T t e = true := by simp [chkL, hon, hty]
      obtain ⟨et, hu, _⟩ := chkL_slice TK hc
      have hv : a.eval x = .slice none 0 0 := hh
      exact fin ⟨_, _, _, hv, rfl⟩ ⟨et, hu⟩
    · cases hl
  · rename_i i hx
    split at hl
    · rename_i e l q hb'
      cases hc : chkL T t e with
      | false => simp [hc] at hl
      | true =>
        simp only [hc, cond_true, Option.some.injEq] at hl
        subst hl
        obtain ⟨et, hu, _⟩ := chkL_slice TK hc
        exact fin (len_ref h hx (Hs.arr hb')) ⟨et, hu⟩
    · cases hl
  · rename_i i e off m' hx
    cases hc : chkL T t e with
    | false => simp [hc] at hl
    | true =>
      simp only [hc, cond_true, Option.some.injEq] at hl
      subst hl
      rw [hx] at hh
      obtain ⟨et, hu, _⟩ := chkL_slice TK hc
      exact fin (len_part hh) ⟨et, hu⟩
  · cases hl
theorem op_cap (TK : TypesOK P T) (h : RelW C n S R ρ a w) {o : Oper} (hd : dIn n o.dst) {c : Call} (ho : o.op = .call c) (hb : c.callee = .builtin .cap) {t : TypeId} {x : Operand} (hts : c.argTypes.toList = [t]) (hxs : c.args.toList = [x]) {e : Ty}
    (hc : chkL T t e = true) (hx : opnd S.fr x = .one .nil) : Done P C n S o a w (i64v 0) [] := by
  have hts' : c.argTypes = #[t] := Array.toList_inj.1 hts
  have hxs' : c.args = #[x] := Array.toList_inj.1 hxs
  obtain ⟨et, hu, _⟩ := chkL_slice TK hc
  have hh := h.opnd x
  rw [hx] at hh
  have hv : a.eval x = .slice none 0 0 := hh
  refine done_value h hd (v' := .int .i64 0) ?_ (of_int _ _) (by simp [i64v, AV.ids, Cel.ids])
  rw [run_builtin o ho hb, hts', hxs']
  have e : (#[x] : Array Operand).map a.eval = #[.slice none 0 0] := by simp [hv]
  rw [e]
  simp [builtin, Builtin.cap_, run_underlying' hu, goInt]
theorem bestFrom_ok {mx : Bool} {k : IntKind} : ∀ (l : List Operand) (z m : Int), bestFrom mx k z (l.map (opnd S.fr)) = some m → RelW C n S R ρ a w →
    (l.foldlM (fun v x => (if mx then Builtin.max2 else Builtin.min2) v (a.eval x)) (Value.int k z) : Sem Value).run P w = .ok (.int k m) w := by
  intro l
  induction l with
  | nil => intro z m h _; simp only [List.map_nil, bestFrom, Option.some.injEq] at h; subst h; rfl
  | cons x l ih =>
    intro z m h hR
    simp only [List.map_cons] at h
    unfold bestFrom at h
    split at h
    · rename_i heq; cases heq
    · rename_i k' b rest heq
      simp only [List.cons.injEq] at heq
      obtain ⟨hx, rfl⟩ := heq
      cases hk : decide (k = k') with
      | false => simp [hk] at h
      | true =>
        have hk' := of_decide_eq_true hk; subst hk'
        simp only [hk, cond_true] at h
        have e := int_of (hx ▸ hR.opnd x)
        have := ih _ _ h hR
        simp only [List.foldlM_cons, Sem.run_bind, e]
        cases mx with
        | true => simpa [Builtin.max2] using this
        | false => simpa [Builtin.min2] using this
    · cases h
theorem op_best (h : RelW C n S R ρ a w) {o : Oper} (hd : dIn n o.dst) {c : Call} (ho : o.op = .call c) (mx : Bool) (hb : c.callee = .builtin (if mx then .max else .min)) {k : IntKind} {m : Int}
    (hl : bestOf mx (c.args.toList.map (opnd S.fr)) = some (k, m)) : Done P C n S o a w (.one (.dat (.int k) m)) [] := by
  refine done_value h hd (v' := .int k m) ?_ (of_int _ _) (by simp [AV.ids, Cel.ids])
  rw [run_builtin o ho hb]
  cases hxs : c.args.toList with
  | nil => rw [hxs] at hl; simp [bestOf] at hl
  | cons x l =>
    rw [hxs] at hl
    simp only [List.map_cons] at hl
    unfold bestOf at hl
    split at hl
    · rename_i k' z rest heq
      simp only [List.cons.injEq] at heq
      obtain ⟨hx, rfl⟩ := heq
      split at hl
      · rename_i m' hm
        simp only [Option.some.injEq, Prod.mk.injEq] at hl
        obtain ⟨rfl, rfl⟩ := hl
        have e := int_of (hx ▸ h.opnd x)
        have hf := bestFrom_ok (P := P) l z m' hm h
        have ha : (c.args.map a.eval).toList = .int k' z :: l.map a.eval := by simp [hxs, e]
        have hfold : ∀ (f : Value → Value → Sem Value) (l : List Operand) (v : Value), (l.map a.eval).foldlM f v = l.foldlM (fun v x => f v (a.eval x)) v := by
          intro f l; induction l with
          | nil => intro v; rfl
          | cons x l ih => intro v; simp only [List.map_cons, List.foldlM_cons, ih]
        cases mx with
        | true =>
          simp only [if_true, builtin, Sem.run_bind, Builtin.max_, ha, hfold] at hf ⊢
          rw [hf]; rfl
        | false =>
          simp only [Bool.false_eq_true, if_false, builtin, Sem.run_bind, Builtin.min_, ha, hfold] at hf ⊢
          rw [hf]; rfl
      · cases hl
    · cases hl
theorem optI_ok (h : RelW C n S R ρ a w) {x : Option Operand} {r : Option Int} (hr : optI (x.map (opnd S.fr)) = some r) :
    (x = none ∧ r = none) ∨ ∃ y k z, x = some y ∧ r = some z ∧ a.eval y = .int k z := by
  cases x with
  | none => simp [optI] at hr; exact .inl ⟨rfl, hr.symm⟩
  | some y =>
    simp only [Option.map_some] at hr
    unfold optI at hr
    split at hr
    · rename_i heq; cases heq
    · rename_i k z heq
      simp only [Option.some.injEq] at heq hr
      exact .inr ⟨y, k, z, rfl, hr.symm, int_of (heq ▸ h.opnd y)⟩
    · cases hr
theorem run_bound (k : IntKind) (i : Int) (y : Nat) (code : BoundsCode) (h0 : 0 ≤ i) (h1 : i ≤ y) : (Instr.sliceBound (.int k i) y code).run P w = .ok i.toNat w := by
  simp only [Instr.sliceBound, Sem.run_bind, asIntOf, Sem.run_pure, Result.andThen_ok, if_pos (And.intro h0 h1)]
theorem run_bounds (isS : Bool) (len cap : Nat) {lo hi : Option Value} {l h : Int} (hl : (lo = none ∧ l = 0) ∨ ∃ k, lo = some (.int k l)) (hh : (hi = none ∧ h = (len : Int)) ∨ ∃ k, hi = some (.int k h))
    (h0 : 0 ≤ l) (h1 : l ≤ h) (h2 : h ≤ (cap : Int)) (h3 : hi = none → len ≤ cap) : (Instr.sliceBounds isS len cap lo hi none).run P w = .ok (l.toNat, h.toNat, cap) w := by
  have hh0 : 0 ≤ h := by omega
  have hhn : ((h.toNat : Nat) : Int) = h := Int.toNat_of_nonneg hh0
  rcases hl with ⟨rfl, rfl⟩ | ⟨k, rfl⟩ <;> rcases hh with ⟨rfl, rfl⟩ | ⟨k', rfl⟩
  · simp [Instr.sliceBounds]
  · simp only [Instr.sliceBounds, Sem.run_bind, Sem.run_pure, Result.andThen_ok, run_bound k' h cap _ hh0 h2]; rfl
  · simp only [Instr.sliceBounds, Sem.run_bind, Sem.run_pure, Result.andThen_ok, run_bound k l len _ h0 h1]; rfl
  · simp only [Instr.sliceBounds, Sem.run_bind, Sem.run_pure, Result.andThen_ok, run_bound k' h cap _ hh0 h2, run_bound k l h.toNat _ h0 (by omega)]
theorem run_slice_sl {t : TypeId} {et : TypeId} {ie : TypeInfo} (hu : P.underlying t = some (.slice et)) (hie : P.info? et = some ie) {ad : Option Addr} {len cap : Nat} {lo hi : Option Value} {l h : Int}
    (hl : (lo = none ∧ l = 0) ∨ ∃ k, lo = some (.int k l)) (hh : (hi = none ∧ h = (len : Int)) ∨ ∃ k, hi = some (.int k h)) (h0 : 0 ≤ l) (h1 : l ≤ h) (h2 : h ≤ (cap : Int)) (h3 : len ≤ cap) :
    (Instr.sliceAt t (.slice ad len cap) lo hi none).run P w = .ok (.slice (if cap = l.toNat then ad else ad.map (·.add (l.toNat * ie.size))) (h.toNat - l.toNat) (cap - l.toNat)) w := by
  simp only [Instr.sliceAt, Sem.run_bind, run_underlying' hu, Result.andThen_ok, Instr.slice, run_bounds true len cap hl hh h0 h1 h2 (fun _ => h3), run_sizeOf hie, Sem.run_pure]
theorem run_slice_str {t : TypeId} (hu : P.underlying t = some .string) {s : ByteArray} {lo hi : Option Value} {l h : Int}
    (hl : (lo = none ∧ l = 0) ∨ ∃ k, lo = some (.int k l)) (hh : (hi = none ∧ h = (s.size : Int)) ∨ ∃ k, hi = some (.int k h)) (h0 : 0 ≤ l) (h1 : l ≤ h) (h2 : h ≤ (s.size : Int)) :
    (Instr.sliceAt t (.string s) lo hi none).run P w = .ok (.string (s.extract l.toNat h.toNat)) w := by
  have hb := run_bounds (P := P) (w := w) false s.size s.size hl hh h0 h1 h2 (fun _ => Nat.le_refl _)
  simp [Instr.sliceAt, run_underlying' hu, Instr.slice]
  rw [hb]; rfl
theorem sub_len {α : Type} {l : List α} {o m : Int} (h0 : 0 ≤ o) (h1 : 0 ≤ m) (h2 : o + m ≤ (l.length : Int)) : (sub l o m).length = m.toNat := by
  simp only [sub, List.length_take, List.length_drop]; omega
theorem sub_get {α : Type} {l : List α} {o m : Int} (h0 : 0 ≤ o) (h1 : 0 ≤ m) (h2 : o + m ≤ (l.length : Int)) {i : Nat} (hi : i < (sub l o m).length) : ∃ h : o.toNat + i < l.length, (sub l o m)[i] = l[o.toNat + i] := by
  have hs := sub_len h0 h1 h2
  have hi' : i < m.toNat := by rw [← hs]; exact hi
  have hlt : o.toNat + i < l.length := by omega
  refine ⟨hlt, ?_⟩
  simp [sub]
theorem SlR.cut {t : Ty} {l : List t.den} {b off len cap : Nat} {lo hi : Int} (h : SlR w R t.size (fun (x : t.den) c => CR w R t x c) l (.slice (some ⟨b, off, none⟩) len cap)) (h0 : 0 ≤ lo) (h1 : lo ≤ hi) (h2 : hi ≤ (l.length : Int)) :
    SlR w R t.size (fun (x : t.den) c => CR w R t x c) (sub l lo (hi - lo)) (.slice (if cap = lo.toNat then some ⟨b, off, none⟩ else some ⟨b, off + lo.toNat * t.size, none⟩) (hi.toNat - lo.toNat) (cap - lo.toNat)) := by
  rcases h with ⟨h, _⟩ | ⟨b', off', cap', cs, X, fz, hv, hl, hR, hh, hs, he⟩
  · cases h
  · simp only [Value.slice.injEq, Option.some.injEq, Addr.mk.injEq, and_true] at hv
    obtain ⟨⟨rfl, rfl⟩, rfl, rfl⟩ := hv
    have hlen := sub_len (l := l) h0 (by omega : 0 ≤ hi - lo) (by omega)
    refine .inr ⟨b, if cap = lo.toNat then off else off + lo.toNat * t.size, cap - lo.toNat, cs, X, fz, ?_, by rw [hlen]; omega, hR, hh, ?_, ?_⟩
    · rw [hlen]
      have : (hi - lo).toNat = hi.toNat - lo.toNat := by omega
      rw [this]; split <;> rfl
    · have hm2 : lo.toNat * t.size + (cap - lo.toNat) * t.size = cap * t.size := by
        rw [← Nat.add_mul]; congr 1; omega
      split <;> omega
    · intro i hi'
      obtain ⟨hlt, hg⟩ := sub_get h0 (by omega : 0 ≤ hi - lo) (by omega) hi'
      have hi'' : i < (hi - lo).toNat := by rw [← hlen]; exact hi'
      rw [hg, if_neg (by omega)]
      have := he _ hlt
      rw [Nat.add_mul, ← Nat.add_assoc] at this
      exact this
theorem eval_opt (h : RelW C n S R ρ a w) {x : Option Operand} {r : Option Int} (hr : optI (x.map (opnd S.fr)) = some r) (d : Int) :
    (x.map a.eval = none ∧ r.getD d = d ∧ x = none) ∨ ∃ k, x.map a.eval = some (.int k (r.getD d)) := by
  rcases optI_ok h hr with ⟨rfl, rfl⟩ | ⟨y, k, z, rfl, rfl, e⟩
  · exact .inl ⟨rfl, rfl, rfl⟩
  · exact .inr ⟨k, by simp [e]⟩
theorem op_slice (TK : TypesOK P T) (h : RelW C n S R ρ a w) (Hs : SubHp hp' S.hp) {o : Oper} (hd : dIn n o.dst) {t : TypeId} {x : Operand} {lo hi : Option Operand} (ho : o.op = .slice t x lo hi none) {rl rh : Option Int}
    (hl : optI (lo.map (opnd S.fr)) = some rl) (hh : optI (hi.map (opnd S.fr)) = some rh) {ok : Bool} {v : AV} {u : List (Nat × Blk)} (hr : sliceA T t hp' (opnd S.fr x) rl rh = .eff ok v u) (hok : ok = true) : Quiet P C n S o a w v u := by
  subst hok
  have hx := h.opnd x
  have hm := h.opndMen x
  have el : (lo.map a.eval = none ∧ rl.getD 0 = 0) ∨ ∃ k, lo.map a.eval = some (.int k (rl.getD 0)) := (eval_opt h hl 0).imp (fun h => ⟨h.1, h.2.1⟩) id
  have hrun : ∀ v, (Instr.sliceAt t (a.eval x) (lo.map a.eval) (hi.map a.eval) none).run P w = .ok v w → (execOp a.eval o).run P w = .ok (.value v) w := by
    intro v hv
    simp only [execOp, ho, Sem.run_bind, Option.map_none, hv, Result.andThen_ok, Sem.run_pure]
  unfold sliceA at hr
  simp only at hr
  split at hr
  · rename_i s hxe
    rw [hxe] at hx
    have e := str_of hx
    cases hc : chkT T t .str with
    | false => simp [hc] at hr
    | true =>
      simp only [hc, cond_true, Res.eff.injEq, Bool.and_eq_true, decide_eq_true_eq] at hr
      obtain ⟨⟨⟨h0, h1⟩, h2⟩, rfl, rfl⟩ := hr
      have eh : (hi.map a.eval = none ∧ rh.getD (s.size : Int) = (s.size : Int)) ∨ ∃ k, hi.map a.eval = some (.int k (rh.getD (s.size : Int))) := (eval_opt h hh _).imp (fun h => ⟨h.1, h.2.1⟩) id
      refine ⟨rfl, done_value h hd (hrun _ ?_) (of_str _) (by simp [AV.ids, Cel.ids])⟩
      rw [e]; exact run_slice_str (chkT_str TK hc) el eh h0 h1 h2
  · rename_i e xs hxe
    rw [hxe] at hx
    cases hc : chkL T t e with
    | false => simp [hc] at hr
    | true =>
      simp only [hc, cond_true, Res.eff.injEq, Bool.and_eq_true, decide_eq_true_eq] at hr
      obtain ⟨⟨⟨h0, h1⟩, h2⟩, rfl, rfl⟩ := hr
      obtain ⟨et, hu, hE⟩ := chkL_slice TK hc
      obtain ⟨ie, hie, hsz, _, _⟩ := hE.ex
      have eh : (hi.map a.eval = none ∧ rh.getD (xs.length : Int) = (xs.length : Int)) ∨ ∃ k, hi.map a.eval = some (.int k (rh.getD (xs.length : Int))) := (eval_opt h hh _).imp (fun h => ⟨h.1, h.2.1⟩) id
      have hsl := dat_slice hx
      rcases hsl with ⟨hv, hn⟩ | ⟨b, off, cap, cs, X, fz, hv, hle, rest⟩
      · subst hn
        simp only [List.length_nil] at *
        have e1 : rl.getD 0 = 0 := by omega
        have e2 : rh.getD ((0 : Nat) : Int) = 0 := by omega
        rw [e1] at el h0 h1 ⊢
        rw [e2] at eh h1 h2 ⊢
        refine ⟨rfl, done_value h hd (hrun (.slice none 0 0) ?_) ⟨_, rfl, .inl ⟨rfl, by simp [sub]⟩⟩ (by simp [AV.ids, Cel.ids])⟩
        rw [hv]
        have := run_slice_sl (P := P) (w := w) hu hie (ad := none) (len := 0) (cap := 0) el eh h0 h1 h2 (Nat.le_refl _)
        simpa using this
      · have hcap : (rh.getD (xs.length : Int)) ≤ (cap : Int) := by omega
        have := run_slice_sl (P := P) (w := w) hu hie (ad := some ⟨b, off, none⟩) (len := xs.length) (cap := cap) el eh h0 h1 hcap hle
        refine ⟨rfl, done_value h hd (hrun _ (by rw [hv]; exact this)) ⟨_, rfl, ?_⟩ (by simp [AV.ids, Cel.ids])⟩
        have hsl : SlR w R e.size (fun (x : e.den) c => CR w R e x c) xs (.slice (some ⟨b, off, none⟩) xs.length cap) := .inr ⟨b, off, cap, cs, X, fz, rfl, hle, rest⟩
        have hcut := SlR.cut hsl h0 h1 h2
        simpa [Addr.add_lit, hsz] using hcut
  · rename_i i hxe
    split at hr
    · rename_i e xs q hb
      cases hc : chkL T t e with
      | false => simp [hc] at hr
      | true =>
        simp only [hc, cond_true, Res.eff.injEq, Bool.and_eq_true, decide_eq_true_eq] at hr
        obtain ⟨⟨⟨h0, h1⟩, h2⟩, rfl, rfl⟩ := hr
        obtain ⟨et, hu, hE⟩ := chkL_slice TK hc
        obtain ⟨ie, hie, hsz, _, _⟩ := hE.ex
        have eh : (hi.map a.eval = none ∧ rh.getD (xs.length : Int) = (xs.length : Int)) ∨ ∃ k, hi.map a.eval = some (.int k (rh.getD (xs.length : Int))) := (eval_opt h hh _).imp (fun h => ⟨h.1, h.2.1⟩) id
        obtain ⟨hv, hO⟩ := ref_slice h hxe (Hs.arr hb)
        have hids : ∀ j ∈ (AV.one (.part i e (rl.getD 0) (rh.getD (xs.length : Int) - rl.getD 0))).ids, S.hp j ≠ .none := by
          intro j hj; simp [AV.ids, Cel.ids] at hj; subst hj; rw [Hs.arr hb]; simp
        rcases hO with ⟨hr', hn⟩ | ⟨b, off, cap, cs, X, fz, hr', hle, _⟩
        · subst hn
          simp only [List.length_nil] at *
          have e1 : rl.getD 0 = 0 := by omega
          have e2 : rh.getD ((0 : Nat) : Int) = 0 := by omega
          rw [e1] at el h0 h1 hids ⊢
          rw [e2] at eh h1 h2 hids ⊢
          refine ⟨rfl, done_value h hd (hrun (.slice none 0 0) ?_) ⟨by omega, by omega, .inl ⟨hr', rfl, rfl, rfl⟩⟩ hids⟩
          rw [hv, hr']
          have := run_slice_sl (P := P) (w := w) hu hie (ad := none) (len := 0) (cap := 0) el eh h0 h1 h2 (Nat.le_refl _)
          simpa using this
        · have hcap : (rh.getD (xs.length : Int)) ≤ (cap : Int) := by omega
          have := run_slice_sl (P := P) (w := w) hu hie (ad := some ⟨b, off, none⟩) (len := xs.length) (cap := cap) el eh h0 h1 hcap hle
          generalize hL : rl.getD 0 = L at *
          generalize hH : rh.getD (xs.length : Int) = H at *
          refine ⟨rfl, done_value h hd (hrun _ (by rw [hv, hr']; exact this)) ⟨h0, by omega, .inr ⟨b, off, xs.length, cap, (if cap = L.toNat then off else off + L.toNat * e.size), cap - L.toNat, hr', ?_, by omega, by omega, by omega, ?_, ?_⟩⟩ hids⟩
          · have : (H - L).toNat = H.toNat - L.toNat := by omega
            rw [this, hsz]
            split
            · rfl
            · simp [Addr.add_lit]
          · split
            · left; omega
            · right; rfl
          · have hmul : L.toNat * e.size + (cap - L.toNat) * e.size = cap * e.size := by rw [← Nat.add_mul]; congr 1; omega
            split <;> omega
    · cases hr
  · rename_i i e off m hxe
    rw [hxe] at hx hm
    cases hc : chkL T t e with
    | false => simp [hc] at hr
    | true =>
      simp only [hc, cond_true, Res.eff.injEq, Bool.and_eq_true, decide_eq_true_eq] at hr
      obtain ⟨⟨⟨h0, h1⟩, h2⟩, rfl, rfl⟩ := hr
      obtain ⟨et, hu, hE⟩ := chkL_slice TK hc
      obtain ⟨ie, hie, hsz, _, _⟩ := hE.ex
      obtain ⟨hoff, hm0, hx⟩ := hx
      rcases hx with ⟨hr', hv, rfl, rfl⟩ | ⟨b, o', len, cap, q, cap', hr', hv, hle, hcap', hsum, hq, hqs⟩
      · have eh : (hi.map a.eval = none ∧ rh.getD 0 = ((0 : Nat) : Int)) ∨ ∃ k, hi.map a.eval = some (.int k (rh.getD 0)) := (eval_opt h hh _).imp (fun h => ⟨h.1, h.2.1⟩) id
        have e1 : rl.getD 0 = 0 := by omega
        have e2 : rh.getD 0 = 0 := by omega
        rw [e1] at el h0 h1 ⊢
        rw [e2] at eh h1 h2 ⊢
        refine ⟨rfl, done_value h hd (hrun (.slice none 0 0) ?_) ⟨by omega, by omega, .inl ⟨hr', rfl, rfl, rfl⟩⟩ hm⟩
        rw [hv]
        have := run_slice_sl (P := P) (w := w) hu hie (ad := none) (len := 0) (cap := 0) el eh h0 h1 (by omega) (Nat.le_refl _)
        simpa using this
      · have eh : (hi.map a.eval = none ∧ rh.getD m = (m.toNat : Int)) ∨ ∃ k, hi.map a.eval = some (.int k (rh.getD m)) := (eval_opt h hh m).imp (fun h => ⟨h.1, by rw [h.2.1]; omega⟩) id
        have hcap : (rh.getD m) ≤ (cap' : Int) := by omega
        have := run_slice_sl (P := P) (w := w) hu hie (ad := some ⟨b, q, none⟩) (len := m.toNat) (cap := cap') el eh h0 h1 hcap hcap'
        generalize hL : rl.getD 0 = L at *
        generalize hH : rh.getD m = H at *
        refine ⟨rfl, done_value h hd (hrun _ (by rw [hv]; exact this)) ⟨by omega, by omega, .inr ⟨b, o', len, cap, (if cap' = L.toNat then q else q + L.toNat * e.size), cap' - L.toNat, hr', ?_, by omega, by omega, by omega, ?_, ?_⟩⟩ hm⟩
        · have : (H - L).toNat = H.toNat - L.toNat := by omega
          rw [this, hsz]
          split
          · rfl
          · simp [Addr.add_lit]
        · split
          · left; omega
          · right
            rw [hq.resolve_left (by omega)]
            have : (off + L).toNat = off.toNat + L.toNat := by omega
            rw [this, Nat.add_mul]; omega
        · have hmul : L.toNat * e.size + (cap' - L.toNat) * e.size = cap' * e.size := by rw [← Nat.add_mul]; congr 1; omega
          split <;> omega
  · rename_i hxe
    rw [hxe] at hx
    cases hc : chkL T t (elemTy (T t).ty) with
    | false => simp [hc] at hr
    | true =>
      simp only [hc, cond_true, Res.eff.injEq, Bool.and_eq_true, decide_eq_true_eq] at hr
      obtain ⟨⟨⟨h0, h1⟩, h2⟩, rfl, rfl⟩ := hr
      obtain ⟨et, hu, hE⟩ := chkL_slice TK hc
      obtain ⟨ie, hie, hsz, _, _⟩ := hE.ex
      have hv : a.eval x = .slice none 0 0 := hx
      have eh : (hi.map a.eval = none ∧ rh.getD 0 = ((0 : Nat) : Int)) ∨ ∃ k, hi.map a.eval = some (.int k (rh.getD 0)) := (eval_opt h hh _).imp (fun h => ⟨h.1, h.2.1⟩) id
      have e1 : rl.getD 0 = 0 := by omega
      have e2 : rh.getD 0 = 0 := by omega
      rw [e1] at el h0 h1
      rw [e2] at eh h1 h2
      refine ⟨rfl, done_value h hd (hrun (.slice none 0 0) ?_) rfl (by simp [AV.ids, Cel.ids])⟩
      rw [hv]
      have := run_slice_sl (P := P) (w := w) hu hie (ad := none) (len := 0) (cap := 0) el eh h0 h1 (by omega) (Nat.le_refl _)
      simpa using this
  · cases hr
end
end Go.Ev
set_option linter.unusedVariables false
set_option linter.unusedSimpArgs false
namespace Go.Ev
open Go
def frzB : Blk → Blk
  | .arr t l _ => .arr t l 0
  | b => b
def frzHp (hp : Hp) (ids : List Nat) : Hp := fun i => if i ∈ ids then frzB (hp i) else hp i
theorem updAll_app (hp : Hp) (l m : List (Nat × Blk)) : updAll hp (l ++ m) = updAll (updAll hp l) m := by
  induction l generalizing hp with
  | nil => rfl
  | cons p l ih => exact ih _
theorem updAll_frozen (hp : Hp) : ∀ (ids : List Nat) (hp0 : Hp), (∀ i ∈ ids, frzB (hp0 i) = frzB (hp i)) → updAll hp0 (frozenUpd hp ids) = frzHp hp0 ids := by
  intro ids
  induction ids with
  | nil => intro hp0 _; funext i; simp [frozenUpd, updAll, frzHp]
  | cons j ids ih =>
    intro hp0 h
    have hj := h j (by simp)
    cases hb : hp j with
    | arr t l o =>
      have e : frozenUpd hp (j :: ids) = (j, .arr t l 0) :: frozenUpd hp ids := by simp [frozenUpd, hb]
      rw [e]
      simp only [updAll]
      rw [hb] at hj
      have hj' : frzB (hp0 j) = .arr t l 0 := hj
      rw [ih (upd hp0 j (.arr t l 0)) fun i hi => ?_]
      · funext i
        simp only [frzHp, List.mem_cons]
        by_cases hij : i = j
        · subst hij
          simp only [upd_same, true_or, if_true, hj']
          split <;> rfl
        · simp only [upd_ne _ _ _ hij, hij, false_or]
      · by_cases hij : i = j
        · subst hij; rw [upd_same, hb]; rfl
        · rw [upd_ne _ _ _ hij]; exact h i (by simp [hi])
    | _ =>
      have e : frozenUpd hp (j :: ids) = frozenUpd hp ids := by simp [frozenUpd, hb]
      rw [e, ih hp0 fun i hi => h i (by simp [hi])]
      funext i
      simp only [frzHp, List.mem_cons]
      by_cases hij : i = j
      · subst hij
        have : frzB (hp0 i) = hp0 i := by
          rw [hb] at hj
          cases hq : hp0 i <;> simp_all [frzB]
        simp [this]
      · simp [hij]
section
variable {P : Program} {C : Ctx} {n : Nat} {S : St} {R : Nat → Prop} {ρ : Nat → Value} {a : Act} {w : World} {T : TypeId → TI} {tab : List Entry} {nd : Nat} {hp' : Hp}
theorem RelW.freezes (h : RelW C n S R ρ a w) (ids : List Nat) (hno : ∀ i ∈ ids, ∀ t l, S.hp i ≠ .arr t l 1) :
    ∃ R', RelW C n { S with hp := frzHp S.hp ids } R' ρ a w ∧ (∀ b, R b → R' b) ∧ (∀ b, R' b → R b ∨ ∃ i ∈ ids, (∃ t l o, S.hp i = .arr t l o) ∧ memOf (ρ i) = some b) := by
  induction ids with
  | nil =>
    have : frzHp S.hp [] = S.hp := by funext i; simp [frzHp]
    rw [this]
    exact ⟨R, h, fun _ hb => hb, fun _ hb => .inl hb⟩
  | cons j ids ih =>
    obtain ⟨R1, h1, hs1, hb1⟩ := ih fun i hi => hno i (by simp [hi])
    have e : frzHp S.hp (j :: ids) = upd (frzHp S.hp ids) j (frzB (frzHp S.hp ids j)) := by
      funext i
      by_cases hij : i = j
      · subst hij
        rw [upd_same]
        simp only [frzHp, List.mem_cons, true_or, if_true]
        split
        · cases S.hp i <;> rfl
        · rfl
      · rw [upd_ne _ _ _ hij]; simp [frzHp, hij]
    cases hb : frzHp S.hp ids j with
    | arr t l o =>
      have ho : o ≠ 1 := by
        intro e1; subst e1
        have : S.hp j = .arr t l 1 := by
          simp only [frzHp] at hb
          split at hb
          · cases hq : S.hp j <;> simp_all [frzB]
          · exact hb
        exact hno j (by simp) t l this
      obtain ⟨R2, h2, hs2, hb2⟩ := h1.freeze j t l o hb ho
      refine ⟨R2, ?_, fun b hR => hs2 b (hs1 b hR), fun b hR => ?_⟩
      · rw [e, hb]; exact h2
      · rcases hb2 b hR with hR | hm
        · exact (hb1 b hR).imp id fun ⟨i, hi, hm⟩ => ⟨i, by simp [hi], hm⟩
        · refine .inr ⟨j, by simp, ?_, hm⟩
          simp only [frzHp] at hb
          split at hb
          · cases hq : S.hp j <;> rw [hq] at hb <;> simp [frzB] at hb
            exact ⟨_, _, _, rfl⟩
          · exact ⟨_, _, _, hb⟩
    | _ =>
      refine ⟨R1, ?_, hs1, fun b hR => (hb1 b hR).imp id fun ⟨i, hi, hm⟩ => ⟨i, by simp [hi], hm⟩⟩
      rw [e, hb]
      show RelW C n { S with hp := upd (frzHp S.hp ids) j _ } R1 ρ a w
      have : ∀ B, frzHp S.hp ids j = B → upd (frzHp S.hp ids) j B = frzHp S.hp ids := fun B hB => by rw [← hB]; exact upd_eq_self _ _
      first
        | (rw [this _ (by rw [hb]; rfl)]; exact h1)
        | (simp only [frzB]; rw [this _ hb]; exact h1)
theorem castTo_some {t t' : Ty} {x : t.den} {y : t'.den} (h : castTo t t' x = some y) : ∃ e : t = t', e ▸ x = y := by
  unfold castTo at h
  split at h
  · rename_i e; exact ⟨e, Option.some.inj h⟩
  · cases h
theorem CR_cast {t t' : Ty} {x : t.den} {y : t'.den} {cs : List Value} (h : castTo t t' x = some y) (hc : CR w R t x cs) : CR w R t' y cs := by
  obtain ⟨e, rfl⟩ := castTo_some h
  subst e; exact hc
def Frozen (hp : Hp) (ids : List Nat) : Prop := ∀ i ∈ ids, ∀ t l o, hp i = .arr t l o → o = 0
theorem OwnR.slice {t : Ty} {l : List t.den} {v : Value} (h : OwnR w R t l 0 v) : SlR w R t.size (fun (x : t.den) c => CR w R t x c) l v := by
  rcases h with h | ⟨b, off, cap, cs, X, fz, hv, hl, hh, hs, he, hR, _⟩
  · exact .inl h
  · exact .inr ⟨b, off, cap, cs, X, fz, hv, hl, hR rfl, hh, hs, he⟩
theorem part_slice {i : Nat} {t' t : Ty} {l : List t.den} {off m : Int} {v : Value} {q : Nat} (hp : CelR ρ w R (.part i t' off m) v) (ht : t' = t) (hO : OwnR w R t l q (ρ i)) :
    0 ≤ off ∧ 0 ≤ m ∧ off + m ≤ (l.length : Int) ∧ ((v = .slice none 0 0 ∧ sub l off m = []) ∨
      ∃ b o' cap' cs X fz, v = .slice (some ⟨b, o', none⟩) m.toNat cap' ∧ m.toNat ≤ cap' ∧ w.heap[b]? = some (.cells cs X fz) ∧ o' + cap' * t.size ≤ cs.size ∧ memOf (ρ i) = some b ∧
        (∀ k (hk : k < (sub l off m).length), CR w R t (sub l off m)[k] ((cs.toList.drop (o' + k * t.size)).take t.size)) ∧ (q = 0 → R b) ∧ (q ≠ 0 → ¬ R b ∧ ∀ j, j < cs.size → ¬ (fz.1 ≤ j ∧ j < fz.2))) := by
  subst ht
  obtain ⟨h0, h1, h2⟩ := hp
  rcases hO with ⟨hr, hn⟩ | ⟨b, o, cap, cs, X, fz, hr, hl, hh, hs, he, hR, hR'⟩
  · rcases h2 with ⟨_, hv, rfl, rfl⟩ | ⟨b, o', len, cap, qq, cap', hr', _⟩
    · subst hn; exact ⟨by omega, by omega, by simp, .inl ⟨hv, by simp [sub]⟩⟩
    · rw [hr] at hr'; cases hr'
  · rcases h2 with ⟨hr', _⟩ | ⟨b', o', len, cap2, qq, cap', hr', hv, hle, hcap, hsum, hq, hqs⟩
    · rw [hr] at hr'; cases hr'
    · rw [hr] at hr'
      simp only [Value.slice.injEq, Option.some.injEq, Addr.mk.injEq, and_true] at hr'
      obtain ⟨⟨rfl, rfl⟩, rfl, rfl⟩ := hr'
      have hlen := sub_len (l := l) h0 h1 hle
      have hq' : m.toNat = 0 ∨ qq = o + off.toNat * t'.size := hq.imp (fun e => by omega) id
      refine ⟨h0, h1, hle, .inr ⟨b, qq, cap', cs, X, fz, hv, hcap, hh, by omega, by rw [hr]; rfl, ?_, hR, hR'⟩⟩
      intro k hk
      obtain ⟨hlt, hg⟩ := sub_get h0 h1 hle hk
      have hk' : k < m.toNat := by rw [← hlen]; exact hk
      rw [hg]
      have := he _ hlt
      rw [hq'.resolve_left (by omega)]
      rw [Nat.add_mul, ← Nat.add_assoc] at this
      exact this
theorem part_data {i : Nat} {t' t : Ty} {l : List t.den} {off m : Int} {v : Value} (hp : CelR ρ w R (.part i t' off m) v) (ht : t' = t) (hO : OwnR w R t l 0 (ρ i)) :
    SlR w R t.size (fun (x : t.den) c => CR w R t x c) (sub l off m) v := by
  obtain ⟨h0, h1, h2, h3⟩ := part_slice hp ht hO
  rcases h3 with ⟨hv, hs⟩ | ⟨b, o', cap', cs, X, fz, hv, hc, hh, hs, _, he, hR, _⟩
  · exact .inl ⟨hv, hs⟩
  · exact .inr ⟨b, o', cap', cs, X, fz, by rw [sub_len h0 h1 h2]; exact hv, by rw [sub_len h0 h1 h2]; exact hc, hR rfl, hh, hs, he⟩
theorem sub_ok {hp : Hp} (hB : ∀ i, BlkR ρ w R i (hp i)) {e : Ty} {c : SubC} {x : List e.den} {v : Value} (h : subDat hp e c = some x) (hF : Frozen hp c.ids) (hc : SubR ρ w R c v) : CR w R (.list e) x [v] := by
  cases c with
  | dat t' y => exact CR_cast (t := .list t') (t' := .list e) h hc
  | ref i =>
    simp only [subDat] at h
    split at h
    · rename_i t' l o hi
      have ho := hF i (by simp [SubC.ids]) t' l o hi
      subst ho
      have hb := hB i
      rw [hi] at hb
      have hs : CR w R (.list t') l [v] := ⟨v, rfl, by rw [hc.1]; exact OwnR.slice hb⟩
      exact CR_cast (t := .list t') h hs
    · cases h
  | part i t0 off m =>
    simp only [subDat] at h
    split at h
    · rename_i t' l o hi
      have ho := hF i (by simp [SubC.ids]) t' l o hi
      subst ho
      have hb := hB i
      rw [hi] at hb
      cases hd : decide (t0 = t') with
      | false => simp [hd] at h
      | true =>
        simp only [hd, cond_true] at h
        have hs : CR w R (.list t') (sub l off m) [v] := ⟨v, rfl, part_data hc (of_decide_eq_true hd) hb⟩
        exact CR_cast (t := .list t') h hs
    · cases h
theorem tab_rows {hp : Hp} (hB : ∀ i, BlkR ρ w R i (hp i)) {e : Ty} : ∀ {l : List SubC} {vs : List Value} {x : List (List e.den)}, (∀ s ∈ l, Frozen hp s.ids) → All2 (SubR ρ w R) l vs → tabDat hp e l = some x →
    x.length = l.length ∧ ∀ i (hi : i < x.length), CR w R (.list e) x[i] ((vs.drop i).take 1) := by
  intro l
  induction l with
  | nil =>
    intro vs x _ hd h
    simp only [tabDat, Option.some.injEq] at h
    subst h
    exact ⟨rfl, fun i hi => by simp at hi⟩
  | cons s l ih =>
    intro vs x hF hd h
    simp only [tabDat] at h
    split at h
    · rename_i y hy
      split at h
      · rename_i z hz
        simp only [Option.some.injEq] at h
        subst h
        cases hd with
        | cons h1 h2 =>
          rename_i v vs
          obtain ⟨g1, g2⟩ := ih (fun s hs => hF s (by simp [hs])) h2 hz
          refine ⟨by simp [g1], fun i hi => ?_⟩
          cases i with
          | zero => exact sub_ok hB hy (hF s (by simp)) h1
          | succ i => simpa using g2 i (by simpa using hi)
      · cases h
    · cases h
theorem cellDat_ok {hp : Hp} (hB : ∀ i, BlkR ρ w R i (hp i)) {t : Ty} {c : Cel} {x : t.den} {v : Value} (h : cellDat hp t c = some x) (hF : Frozen hp c.ids) (hc : CelR ρ w R c v) : CR w R t x [v] := by
  cases c with
  | dat t' y => exact CR_cast h hc
  | nil =>
    simp only [cellDat] at h
    split at h
    · cases h; exact ⟨v, rfl, .inl ⟨hc, rfl⟩⟩
    · cases h
  | ref i =>
    simp only [cellDat] at h
    split at h
    · rename_i t' l o hi
      have ho := hF i (by simp [Cel.ids]) t' l o hi
      subst ho
      have hb := hB i
      rw [hi] at hb
      have hs : CR w R (.list t') l [v] := ⟨v, rfl, by rw [hc.1]; exact OwnR.slice hb⟩
      exact CR_cast (t := .list t') h hs
    · cases h
  | part i t0 off m =>
    simp only [cellDat] at h
    split at h
    · rename_i t' l o hi
      have ho := hF i (by simp [Cel.ids]) t' l o hi
      subst ho
      have hb := hB i
      rw [hi] at hb
      cases hd : decide (t0 = t') with
      | false => simp [hd] at h
      | true =>
        simp only [hd, cond_true] at h
        have hs : CR w R (.list t') (sub l off m) [v] := ⟨v, rfl, part_data hc (of_decide_eq_true hd) hb⟩
        exact CR_cast (t := .list t') h hs
    · cases h
  | tab l =>
    simp only [cellDat] at h
    split at h
    · rename_i e
      obtain ⟨b, vs, X, fz, hv, hb, hh, hd⟩ := hc
      obtain ⟨h1, h2⟩ := tab_rows hB (fun s hs => fun i hi => hF i (by simp only [Cel.ids]; exact mem_subIds hs hi)) hd h
      have hl := hd.len
      refine ⟨v, rfl, .inr ⟨b, 0, l.length, vs, X, fz, by rw [h1]; exact hv, by omega, hb, hh, ?_, fun i hi => ?_⟩⟩
      · have : vs.size = l.length := by rw [← Array.length_toList, hl]
        simp only [Ty.size]; omega
      · simpa [Ty.size] using h2 i hi
    · cases h
  | _ => simp [cellDat] at h
theorem Frozen.sub {hp : Hp} {l m : List Nat} (h : Frozen hp l) (hs : ∀ i ∈ m, i ∈ l) : Frozen hp m := fun i hi => h i (hs i hi)
theorem one1_some {α : Type} {o : Option α} {rest : List Cel} {p : α × List Cel} (h : one1 o rest = some p) : o = some p.1 ∧ p.2 = rest := by
  cases o with
  | none => cases h
  | some x => cases h; exact ⟨rfl, rfl⟩
theorem implode_ok {hp : Hp} (hB : ∀ i, BlkR ρ w R i (hp i)) : ∀ (t : Ty) (cs rest : List Cel) (x : t.den) (vs : List Value), implode hp t cs = some (x, rest) → Frozen hp (idsOf cs) → CelsR ρ w R cs vs →
    ∃ vs1 vs2, vs = vs1 ++ vs2 ∧ CR w R t x vs1 ∧ CelsR ρ w R rest vs2 ∧ (∀ i ∈ idsOf rest, i ∈ idsOf cs) := by
  have single : ∀ (t : Ty) (cs rest : List Cel) (x : t.den) (vs : List Value), (∃ c cs', cs = c :: cs' ∧ one1 (cellDat hp t c) cs' = some (x, rest)) → Frozen hp (idsOf cs) → CelsR ρ w R cs vs →
      ∃ vs1 vs2, vs = vs1 ++ vs2 ∧ CR w R t x vs1 ∧ CelsR ρ w R rest vs2 ∧ (∀ i ∈ idsOf rest, i ∈ idsOf cs) := by
    rintro t cs rest x vs ⟨c, cs', rfl, h⟩ hF hc
    obtain ⟨h1, h2⟩ := one1_some h
    subst h2
    cases hc with
    | cons hc hcs => exact ⟨[_], _, rfl, cellDat_ok hB h1 (hF.sub fun i hi => by simp [idsOf, hi]) hc, hcs, fun i hi => by simp [idsOf, hi]⟩
  intro t
  induction t with
  | st t ih => intro cs rest x vs h; exact ih cs rest x vs h
  | pair a b iha ihb =>
    intro cs rest x vs h hF hc
    simp only [implode] at h
    cases h1 : implode hp a cs with
    | none => simp [h1] at h
    | some p =>
      cases h2 : implode hp b p.2 with
      | none => simp [h1, h2] at h
      | some q =>
        simp only [h1, h2, Option.some.injEq, Prod.mk.injEq] at h
        obtain ⟨rfl, rfl⟩ := h
        obtain ⟨v1, v2, rfl, hr1, hc2, hi1⟩ := iha cs p.2 p.1 vs h1 hF hc
        obtain ⟨v3, v4, rfl, hr2, hc3, hi2⟩ := ihb p.2 q.2 q.1 v2 h2 (hF.sub hi1) hc2
        exact ⟨v1 ++ v3, v4, by simp, ⟨v1, v3, rfl, hr1, hr2⟩, hc3, fun i hi => hi1 i (hi2 i hi)⟩
  | unit =>
    intro cs rest x vs h hF hc
    simp only [implode, Option.some.injEq, Prod.mk.injEq] at h
    obtain ⟨_, rfl⟩ := h
    exact ⟨[], vs, rfl, rfl, hc, fun _ hi => hi⟩
  | int k => intro cs rest x vs h; cases cs with
    | nil => cases h
    | cons c cs => exact single (.int k) _ rest x vs ⟨c, cs, rfl, h⟩
  | bool => intro cs rest x vs h; cases cs with
    | nil => cases h
    | cons c cs => exact single .bool _ rest x vs ⟨c, cs, rfl, h⟩
  | str => intro cs rest x vs h; cases cs with
    | nil => cases h
    | cons c cs => exact single .str _ rest x vs ⟨c, cs, rfl, h⟩
  | list t _ => intro cs rest x vs h; cases cs with
    | nil => cases h
    | cons c cs => exact single (.list t) _ rest x vs ⟨c, cs, rfl, h⟩
  | ptr t _ => intro cs rest x vs h; cases cs with
    | nil => cases h
    | cons c cs => exact single (.ptr t) _ rest x vs ⟨c, cs, rfl, h⟩
theorem datOf_ok {hp : Hp} (hB : ∀ i, BlkR ρ w R i (hp i)) {t : Ty} {v : AV} {x : t.den} {v' : Value} (h : datOf hp t v = some x) (hF : Frozen hp v.ids) (hv : AVR ρ w R v v') : VR w R t x v' := by
  unfold datOf at h
  split at h
  · rename_i c
    cases hs : isSt t with
    | true => simp [hs] at h
    | false =>
      simp only [hs, cond_false] at h
      split at h
      · rename_i y hy
        cases h
        obtain ⟨v1, v2, he, hr, hc2, _⟩ := implode_ok hB t [c] [] x [v'] hy (hF.sub fun i hi => by simpa [idsOf, AV.ids] using hi) (.cons hv .nil)
        cases hc2
        simp only [List.append_nil] at he; subst he
        simp only [VR, hs, cond_false]; exact hr
      · cases h
  · rename_i l
    cases hs : isSt t with
    | false => simp [hs] at h
    | true =>
      simp only [hs, cond_true] at h
      split at h
      · rename_i y hy
        cases h
        obtain ⟨vs, rfl, hl⟩ := hv
        obtain ⟨v1, v2, he, hr, hc2, _⟩ := implode_ok hB t l [] x vs hy hF hl
        cases hc2
        simp only [List.append_nil] at he; subst he
        simp only [VR, hs, cond_true]; exact ⟨_, rfl, hr⟩
      · cases h
  · rename_i l
    split at h
    · rename_i t
      split at h
      · rename_i y hy
        cases h
        obtain ⟨hd, b, off, cs, X, fz, rfl, hb, hh, hsz, hl⟩ := hv
        obtain ⟨v1, v2, he, hr, hc2, _⟩ := implode_ok hB t l [] x _ hy hF hl
        cases hc2
        simp only [List.append_nil] at he
        have hlen := CR.len _ _ _ hr
        have h2 := hl.len
        rw [← he, ← h2] at hlen
        rw [← he, hlen] at hr
        show CR w R (.ptr t) x [_]
        exact ⟨_, rfl, b, off, cs, X, fz, rfl, hb, hh, by omega, hr⟩
      · cases h
    · cases h
  · cases h
theorem VR.cells {t : Ty} {x : t.den} {v : Value} (h : VR w R t x v) : CR w R t x v.cells.toList := by
  unfold VR at h
  cases hs : isSt t with
  | true =>
    simp only [hs, cond_true] at h
    obtain ⟨cs, rfl, hc⟩ := h
    simpa [Value.cells] using hc
  | false =>
    simp only [hs, cond_false] at h
    have hf := CR.flat t x _ h v (by simp)
    have : v.cells = #[v] := by
      cases v <;> first | rfl | exact absurd rfl (hf.1 _)
    rw [this]; exact h
theorem ofDat_ok {t : Ty} {x : t.den} {v : Value} (h : VR w R t x v) : AVR ρ w R (ofDat t x) v := by
  cases t with
  | st t => obtain ⟨cs, rfl, hc⟩ := h; exact ⟨cs, rfl, explode_cels t x cs hc⟩
  | ptr t =>
    obtain ⟨v', hv, b, off, cs, X, fz, rfl, hb, hh, hs, hc⟩ := (show CR w R (.ptr t) x [v] from h)
    cases hv
    exact ⟨explode_dat t x, b, off, cs, X, fz, rfl, hb, hh, by rw [explode_len]; exact hs, by rw [explode_len]; exact explode_cels t x _ hc⟩
  | _ => exact h
theorem ofDat_ids (t : Ty) (x : t.den) : (ofDat t x).ids = [] := by
  cases t with
  | st t => exact explode_ids t x
  | ptr t => exact explode_ids t x
  | _ => rfl
end
end Go.Ev
set_option linter.unusedVariables false
set_option linter.unusedSimpArgs false
namespace Go.Ev
open Go
section
variable {P : Program} {C : Ctx} {n : Nat} {S : St} {R : Nat → Prop} {ρ : Nat → Value} {a : Act} {w : World} {T : TypeId → TI} {tab : List Entry} {nd : Nat} {hp' : Hp}
theorem push_old {w w' : World} {ob : Obj} (hg : w'.heap = w.heap.push ob) (b : Nat) (hb : b < w.heap.size) : w'.heap[b]? = w.heap[b]? := by
  rw [hg, Array.getElem?_push]; simp; omega
theorem push_new {w w' : World} {ob : Obj} (hg : w'.heap = w.heap.push ob) : w'.heap[w.heap.size]? = some ob := by
  rw [hg]; simp
theorem push_size {w w' : World} {ob : Obj} (hg : w'.heap = w.heap.push ob) : w'.heap.size = w.heap.size + 1 := by rw [hg]; simp
theorem RelW.notIn (h : RelW C n S R ρ a w) : ¬ R w.heap.size := fun hb => Nat.lt_irrefl _ (h.lt _ hb)
theorem RelW.layNew (h : RelW C n S R ρ a w) {nd : Nat} (hf : Fr n S nd) {w' : World} {cs : Array Value} {X : TypeId} {fz : Nat × Nat} (hsz : w'.heap.size = w.heap.size + 1) (hold : ∀ b, b < w.heap.size → w'.heap[b]? = w.heap[b]?) (hnew : w'.heap[w.heap.size]? = some (.cells cs X fz)) {t : Ty} {l : List t.den} {cap : Nat} (hl : l.length ≤ cap) (hc : cap * t.size ≤ cs.size)
    (he : ∀ i (hi : i < l.length), CR w' R t l[i] ((cs.toList.drop (i * t.size)).take t.size)) (hz : ∀ j, j < cs.size → ¬ (fz.1 ≤ j ∧ j < fz.2)) (hio : SameStreams w w') :
    RelW C n { S with hp := upd S.hp nd (.arr t l 2) } R (upd ρ nd (.slice (some ⟨w.heap.size, 0, none⟩) l.length cap)) a w' := by
  have h' := h.grow (w' := w') (by omega) hold hio
  refine h'.lay nd hf _ _ ?_ (by simp) (by simp) (by simp) ?_ ?_
  · show OwnR w' R t l 2 _
    rw [upd_same]
    exact .inr ⟨w.heap.size, 0, cap, cs, X, fz, rfl, hl, hnew, by omega, fun i hi => by simpa using he i hi, by simp, fun _ => ⟨h.notIn, hz⟩⟩
  · intro b _ hb; simp [memOf] at hb; subst hb; exact h.keep.size
  · intro j b hj _ he hb hm
    simp [memOf] at hb; subst hb
    have : S.hp j ≠ .none := by intro e; simp [e, excl] at he
    have h2 : S.hp j ≠ .dead := by intro e; simp [e, excl] at he
    exact Nat.lt_irrefl _ (h.excl_lt hm this h2)
theorem RelW.layArr (h : RelW C n S R ρ a w) {nd : Nat} (hf : Fr n S nd) {w' : World} {cs : Array Value} {X : TypeId} {fz : Nat × Nat} (hg : w'.heap = w.heap.push (.cells cs X fz)) {t : Ty} {l : List t.den} {cap : Nat} (hl : l.length ≤ cap) (hc : cap * t.size ≤ cs.size)
    (he : ∀ i (hi : i < l.length), CR w' R t l[i] ((cs.toList.drop (i * t.size)).take t.size)) (hz : ∀ j, j < cs.size → ¬ (fz.1 ≤ j ∧ j < fz.2)) (hio : SameStreams w w') :
    RelW C n { S with hp := upd S.hp nd (.arr t l 2) } R (upd ρ nd (.slice (some ⟨w.heap.size, 0, none⟩) l.length cap)) a w' :=
  h.layNew hf (push_size hg) (push_old hg) (push_new hg) hl hc he hz hio
theorem RelW.layNil (h : RelW C n S R ρ a w) {nd : Nat} (hf : Fr n S nd) {t : Ty} :
    RelW C n { S with hp := upd S.hp nd (.arr t ([] : List t.den) 2) } R (upd ρ nd (.slice none 0 0)) a w := by
  refine h.lay nd hf _ _ ?_ (by simp) (by simp) (by simp) (fun b _ hb => by simp [memOf] at hb) (fun j b _ _ _ hb => by simp [memOf] at hb)
  show OwnR w R t [] 2 _
  rw [upd_same]; exact .inl ⟨rfl, rfl⟩
theorem put_eq (S : St) (d : Option Tmp) (v : AV) (u : List (Nat × Blk)) : S.put d v u = ({ S with hp := updAll S.hp u } : St).put d v [] := by
  cases d <;> rfl
theorem done_new {o : Oper} (hd : dIn n o.dst) {v : AV} {u : List (Nat × Blk)} {v' : Value} {w' : World} {R' : Nat → Prop} {ρ' : Nat → Value}
    (hr : (execOp a.eval o).run P w = .ok (.value v') w') (h : RelW C n { S with hp := updAll S.hp u } R' ρ' a w') (hv : AVR ρ' w' R' v v') (hm : ∀ i ∈ v.ids, updAll S.hp u i ≠ .none) : Done P C n S o a w v u := by
  refine ⟨_, v', w', hr, .inl rfl, R', ρ', ?_⟩
  rw [put_eq]
  exact h.put o.dst hd v v' (fun _ => hv) fun _ => hm
theorem ref_new {nd : Nat} {v : Value} (hs : v = .slice none 0 0 ∨ ∃ b off len cap, v = .slice (some ⟨b, off, none⟩) len cap) : AVR (upd ρ nd v) w R (.one (.ref nd)) v := by
  refine ⟨by rw [upd_same], hs⟩
theorem zero_cels : ∀ t : Ty, CelsR ρ w R (zeroCel t) (zeroVals t) := by
  intro t
  induction t with
  | st t ih => exact ih
  | pair a b iha ihb => exact iha.app ihb
  | unit => exact .nil
  | int k => exact .cons (by simp [CelR, CR]) .nil
  | bool => exact .cons (by simp [CelR, CR]) .nil
  | str => exact .cons (by simp [CelR, CR]) .nil
  | list t _ => exact .cons rfl .nil
  | ptr t _ => cases t <;> exact .cons trivial .nil
theorem zero_ids : ∀ t : Ty, idsOf (zeroCel t) = [] := by
  intro t
  induction t with
  | st t ih => exact ih
  | pair a b iha ihb => simp [zeroCel, idsOf_app, iha, ihb]
  | _ => rfl
theorem zero_CR : ∀ t : Ty, noPtr t = true → CR w R t t.dflt (zeroVals t) := by
  intro t
  induction t with
  | st t ih => exact ih
  | pair a b iha ihb =>
    intro h
    simp only [noPtr, Bool.and_eq_true] at h
    exact ⟨_, _, rfl, iha h.1, ihb h.2⟩
  | list t _ => intro _; exact ⟨_, rfl, .inl ⟨rfl, rfl⟩⟩
  | ptr t _ => intro h; simp [noPtr] at h
  | _ => intro _; rfl
theorem zero_len : ∀ t : Ty, (zeroVals t).length = t.size := by
  intro t
  induction t with
  | st t ih => exact ih
  | pair a b iha ihb => simp [zeroVals, Ty.size, iha, ihb]
  | ptr t _ => cases t <;> rfl
  | _ => rfl
theorem TyOK.zcells {t : TypeId} {i : TI} (h : TyOK P t i) : (zeroVal i.ty).cells = (zeroVals i.ty).toArray := by
  have hd := h.desc
  unfold DescOK at hd
  split at hd
  all_goals (rename_i hk; first | (rw [hk]; rfl) | skip)
  exact hd.elim
theorem op_alloc (TK : TypesOK P T) (h : RelW C n S R ρ a w) {o : Oper} (hd : dIn n o.dst) {t : TypeId} (ho : o.op = .alloc t) (hon : (T t).on = true) (hf : Fr n S nd) :
    Done P C n S o a w (.one (.ptr nd 0)) [(nd, .box (zeroCel (T t).ty))] := by
  have tk := TK t hon
  obtain ⟨inf, hi, hs, hz⟩ := tk.info
  have hrun : (execOp a.eval o).run P w = .ok (.value (.pointer (some ⟨w.heap.size, 0, none⟩))) (w.alloc (.cells (zeroVals (T t).ty).toArray t)) := by
    simp only [execOp, ho, Sem.run_bind, Instr.alloc, run_zeroValue hi hz, Result.andThen_ok, newVar, newRow, Sem.run_pure, run_newObj, tk.zcells]
    rfl
  have hg : (w.alloc (.cells (zeroVals (T t).ty).toArray t)).heap = w.heap.push (.cells (zeroVals (T t).ty).toArray t (0, 0)) := rfl
  have h' := h.grow (w' := w.alloc (.cells (zeroVals (T t).ty).toArray t)) (by rw [push_size hg]; omega) (push_old hg) ⟨rfl, rfl, rfl⟩
  have h2 := h'.lay nd hf (.box (zeroCel (T t).ty)) (.pointer (some ⟨w.heap.size, 0, none⟩)) ⟨w.heap.size, _, t, by rw [upd_same], push_new hg, zero_cels _, h.notIn⟩ (fun cs hcs j hj => by cases hcs; rw [zero_ids] at hj; simp at hj) (by simp) (by simp)
    (fun b _ hb => by simp [memOf] at hb; subst hb; exact h.keep.size)
    (fun j b hj _ he hb hm => by
      simp [memOf] at hb; subst hb
      exact Nat.lt_irrefl _ (h.excl_lt hm (by intro e; simp [e, excl] at he) (by intro e; simp [e, excl] at he)))
  exact done_new hd hrun h2 ⟨w.heap.size, by rw [upd_same], rfl⟩ (fun i hi => by simp [AV.ids, Cel.ids] at hi; subst hi; simp [updAll, upd_same])
theorem known_flat {l : List Cel} {vs : List Value} (hk : knownL l = true) (h : CelsR ρ w R l vs) : ∀ v ∈ vs, Flat v := by
  induction h with
  | nil => intro v hv; simp at hv
  | cons h _ ih =>
    simp [knownL] at hk
    intro v hv
    rcases List.mem_cons.1 hv with rfl | hv
    · exact CelR.flat hk.1 h
    · exact ih hk.2 v hv
theorem flat_cells {v : Value} (h : Flat v) : v.cells = #[v] := by
  cases v <;> first | rfl | exact absurd rfl (h.1 _)
theorem AVR.cells {v : AV} {v' : Value} (hk : v.known = true) (h : AVR ρ w R v v') : CelsR ρ w R v.cells v'.cells.toList ∧ ∀ u ∈ v'.cells.toList, Flat u := by
  cases v with
  | one c =>
    have hf := CelR.flat hk h
    rw [flat_cells hf]
    exact ⟨.cons h .nil, fun u hu => by simp at hu; subst hu; exact hf⟩
  | agg l =>
    obtain ⟨vs, rfl, hl⟩ := h
    exact ⟨by simpa [Value.cells, AV.cells] using hl, by simpa [Value.cells] using known_flat hk hl⟩
  | tup l => simp [AV.known] at hk
  | «at» l => simp [AV.known] at hk
theorem AV.cells_ids {v : AV} {i : Nat} (h : i ∈ idsOf v.cells) : i ∈ v.ids := by
  cases v with
  | one c => simpa [AV.cells, idsOf, AV.ids] using h
  | agg l => exact h
  | _ => simp [AV.cells, idsOf] at h
theorem op_box (TK : TypesOK P T) (h : RelW C n S R ρ a w) {o : Oper} (hd : dIn n o.dst) {t : TypeId} {x : Operand} (ho : o.op = .box t x) (hk : (opnd S.fr x).known = true) (hf : Fr n S nd) :
    Done P C n S o a w (.one (.ptr nd 0)) [(nd, .box (opnd S.fr x).cells)] := by
  obtain ⟨hc, _⟩ := (h.opnd x).cells hk
  have hrun : (execOp a.eval o).run P w = .ok (.value (.pointer (some ⟨w.heap.size, 0, none⟩))) (w.alloc (.cells (a.eval x).cells t)) := by
    simp only [execOp, ho, Sem.run_bind, Instr.box, newVar, newRow, Sem.run_pure, run_newObj, Result.andThen_ok]
    rfl
  have hg : (w.alloc (.cells (a.eval x).cells t)).heap = w.heap.push (.cells (a.eval x).cells t (0, 0)) := rfl
  have hold := push_old hg
  have h' := h.grow (w' := w.alloc (.cells (a.eval x).cells t)) (by rw [push_size hg]; omega) hold ⟨rfl, rfl, rfl⟩
  have hal : ∀ j ∈ idsOf (opnd S.fr x).cells, S.hp j ≠ .none := fun j hj => h.opndMen x j (AV.cells_ids hj)
  have hne : ∀ j ∈ idsOf (opnd S.fr x).cells, j ≠ nd := fun j hj e => hal j hj (e ▸ hf.none)
  have h2 := h'.lay nd hf (.box (opnd S.fr x).cells) (.pointer (some ⟨w.heap.size, 0, none⟩))
    ⟨w.heap.size, _, t, by rw [upd_same], push_new hg, CelsR.rho (hc.mono (CelR.mono (fun _ hb => hb) fun b hb => hold b (h.lt b hb))) fun j hj => upd_ne _ _ _ (hne j hj), h.notIn⟩
    (fun cs hcs j hj => by cases hcs; rw [upd_ne _ _ _ (hne j hj)]; exact hal j hj) (by simp) (by simp)
    (fun b _ hb => by simp [memOf] at hb; subst hb; exact h.keep.size)
    (fun j b hj _ he hb hm => by
      simp [memOf] at hb; subst hb
      exact Nat.lt_irrefl _ (h.excl_lt hm (by intro e; simp [e, excl] at he) (by intro e; simp [e, excl] at he)))
  exact done_new hd hrun h2 ⟨w.heap.size, by rw [upd_same], rfl⟩ (fun i hi => by simp [AV.ids, Cel.ids] at hi; subst hi; simp [updAll, upd_same])
theorem rows_get (z : List Value) (hz : 0 < z.length) (m i : Nat) (h : (i + 1) * z.length ≤ m) : ((madeCells z.toArray m).toList.drop (i * z.length)).take z.length = z := by
  have hm : (i + 1) * z.length = i * z.length + z.length := by rw [Nat.add_mul]; omega
  apply List.ext_getElem?
  intro j
  rcases Nat.lt_or_ge j z.length with hj | hj
  · rw [List.getElem?_take_of_lt hj, List.getElem?_drop]
    have hlt : i * z.length + j < m := by omega
    have e : (i * z.length + j) % z.length = j := by rw [Nat.add_comm, Nat.add_mul_mod_self_right]; exact Nat.mod_eq_of_lt hj
    simp [madeCells, hlt, e, hj]
  · rw [List.getElem?_eq_none (by simp; omega), List.getElem?_eq_none hj]
theorem ElemOK.z {et : TypeId} {e : Ty} {eb : Nat} (h : ElemOK P et e eb) : (zeroVal e).cells = (zeroVals e).toArray := by
  apply Array.toList_inj.1; rw [h.wf]
theorem fits_wide {m b : Nat} (h : fitsB m b = true) : (m + m / 4 + 192) * b ≤ 281474976710656 := by simpa [fitsB, Nat.ble_eq] using h
theorem fits_le {m b : Nat} (h : fitsB m b = true) : m * b ≤ 281474976710656 := Nat.le_trans (Nat.mul_le_mul_right _ (by omega)) (fits_wide h)
theorem nextcap_wide {need old : Nat} (h : old < need) : Builtin.nextslicecap need old ≤ need + need / 4 + 192 := by
  unfold Builtin.nextslicecap
  split
  · omega
  · split
    · omega
    · rw [growBy_four]
      repeat' split
      all_goals omega
theorem grow_fits {need old bytes : Nat} (h : old < need) (hb : (need + need / 4 + 192) * bytes ≤ 281474976710656) : Builtin.nextslicecap need old * bytes ≤ 281474976710656 :=
  Nat.le_trans (Nat.mul_le_mul_right _ (nextcap_wide h)) hb
theorem op_make (TK : TypesOK P T) (h : RelW C n S R ρ a w) {o : Oper} (hd : dIn n o.dst) {t : TypeId} {x y : Operand} (ho : o.op = .makeSlice t x y) {e : Ty} (ht : chkL T t e = true) (hnp : noPtr e = true) {m c : Int} (hx : opnd S.fr x = .one (.dat (.int .i64) m)) (hy : opnd S.fr y = .one (.dat (.int .i64) c))
    (h0 : 0 ≤ m) (h1 : m ≤ c) (h2 : fitsB c.toNat (T t).eb = true) (hf : Fr n S nd) : Done P C n S o a w (.one (.ref nd)) [(nd, .arr e (List.replicate m.toNat e.dflt) 2)] := by
  obtain ⟨et, hu, hE⟩ := chkL_slice TK ht
  obtain ⟨ie, hie, hsz, heb, hzv⟩ := hE.ex
  have e1 := int_of (hx ▸ h.opnd x)
  have e2 := int_of (hy ▸ h.opnd y)
  have hb := fits_le h2
  rw [← heb] at hb
  have hpos : 0 < ie.bytes := by rw [heb]; exact hE.posB
  have hc1 : c.toNat ≤ c.toNat * ie.bytes := Nat.le_mul_of_pos_right _ hpos
  have hcn : ((c.toNat : Nat) : Int) = c := Int.toNat_of_nonneg (by omega)
  have hb' : (ie.bytes : Int) * c ≤ 281474976710656 := by
    have : ((ie.bytes * c.toNat : Nat) : Int) ≤ 281474976710656 := by rw [Nat.mul_comm]; omega
    rw [Int.natCast_mul, hcn] at this; exact this
  have hr := run_make (P := P) w t et ie (zeroVal e) hu hie hzv .i64 .i64 m c h0 h1 hb' (by omega)
  have hrun : (execOp a.eval o).run P w = .ok (.value (.slice (some ⟨w.heap.size, 0, none⟩) m.toNat c.toNat)) (w.alloc (.cells (madeCells (zeroVal e).cells (c.toNat * ie.size)) et)) := by
    simp only [execOp, ho, Sem.run_bind, e1, e2, hr, Result.andThen_ok, Sem.run_pure]
  have hg : (w.alloc (.cells (madeCells (zeroVal e).cells (c.toNat * ie.size)) et)).heap = w.heap.push (.cells (madeCells (zeroVal e).cells (c.toNat * ie.size)) et (0, 0)) := rfl
  have hll : (List.replicate m.toNat e.dflt).length = m.toNat := by simp
  have h' := h.layArr hf hg (t := e) (l := List.replicate m.toNat e.dflt) (cap := c.toNat) (by rw [hll]; omega) (by rw [size_madeCells, hsz]; omega) (fun i hi => by
    rw [hll] at hi
    have : (i + 1) * (zeroVals e).length ≤ c.toNat * ie.size := by rw [zero_len, hsz]; exact Nat.mul_le_mul_right _ (by omega)
    have hrow := rows_get (zeroVals e) (by rw [zero_len]; exact hE.pos) _ i this
    rw [zero_len] at hrow
    rw [hE.z, hrow, List.getElem_replicate]
    exact zero_CR e hnp) (by simp) ⟨rfl, rfl, rfl⟩
  rw [hll] at h'
  exact done_new hd hrun h' (ref_new (.inr ⟨_, _, _, _, rfl⟩)) (fun i hi => by simp [AV.ids, Cel.ids] at hi; subst hi; simp [updAll, upd_same])
end
end Go.Ev
set_option linter.unusedVariables false
set_option linter.unusedSimpArgs false
namespace Go.Ev
open Go
section
variable {P : Program} {C : Ctx} {n : Nat} {S : St} {R : Nat → Prop} {ρ : Nat → Value} {a : Act} {w : World} {T : TypeId → TI} {tab : List Entry} {nd : Nat} {hp' : Hp}
theorem upd_upd {α : Type} (f : Nat → α) (d : Nat) (u v : α) : upd (upd f d u) d v = upd f d v := by
  funext j
  by_cases h : j = d
  · subst h; simp only [upd_same]
  · simp only [upd_ne _ _ _ h]
theorem RelW.mem (h : RelW C n S R ρ a w) {w' : World} (hs : w.heap.size ≤ w'.heap.size) (ha : Agree w w' R) (hx : ∀ i b, excl (S.hp i) = true → memOf (ρ i) = some b → w'.heap[b]? = w.heap[b]?) (hk : Keeps C w') : RelW C n S R ρ a w' := by
  refine { h with fr := fun t => (h.fr t).mono (fun _ hb => hb) ha, hp := fun i => ?_, lt := fun b hb => Nat.lt_of_lt_of_le (h.lt b hb) hs, keep := hk }
  have hi := h.hp i
  cases hbk : S.hp i with
  | none => trivial
  | dead => trivial
  | arr t l o =>
    rw [hbk] at hi
    by_cases ho : o = 0
    · refine OwnR.mono hi (fun b hm => ?_) (fun _ hb => hb) ha (fun _ _ _ hn => hn)
      rcases hi with ⟨hv, _⟩ | ⟨b', off, cap, cs, T, fz, hv, _, hh, _, _, hr, _⟩
      · rw [hv] at hm; cases hm
      · rw [hv] at hm; cases hm; exact ha _ (hr ho)
    · exact OwnR.mono hi (fun b hm => hx i b (by rw [hbk]; simp [excl, beq_false ho]) hm) (fun _ hb => hb) ha (fun _ _ _ hn => hn)
  | box cs =>
    rw [hbk] at hi
    exact BoxR.mono hi (fun b hm => hx i b (by rw [hbk]; rfl) hm) (fun _ hb => hb) ha (fun _ _ hn => hn)
  | mp l =>
    rw [hbk] at hi
    exact MapR.mono hi (fun b hm => hx i b (by rw [hbk]; rfl) hm) (fun _ _ hn => hn)
theorem RelW.relay (h : RelW C n S R ρ a w) (i : Nat) (hi : S.hp i = .dead) (B : Blk) (hB : BlkR ρ w R i B) (hids : ∀ cs, B = .box cs → ∀ j ∈ idsOf cs, S.hp j ≠ .none) (hnn : B ≠ .none)
    (hnew : ∀ b, excl B = true → (∀ t l, B ≠ .arr t l 1) → memOf (ρ i) = some b → C.w0.heap.size ≤ b) (hlent : ∀ t l, B = .arr t l 1 → ρ i = C.arg i ∧ LentIn C t l.length (ρ i))
    (hdis : ∀ j b, j ≠ i → excl B = true → excl (S.hp j) = true → memOf (ρ i) = some b → memOf (ρ j) ≠ some b) :
    RelW C n { S with hp := upd S.hp i B } R ρ a w := by
  have hnz : ∀ j, S.hp j ≠ .none → upd S.hp i B j ≠ .none := by
    intro j hj
    by_cases hji : j = i
    · subst hji; rw [upd_same]; exact hnn
    · rw [upd_ne _ _ _ hji]; exact hj
  refine { fr := h.fr, hp := fun j => ?_, men := fun t j hj => hnz j (h.men t j hj), menB := fun j cs hj k hk => ?_, dis := fun j k b hjk hj hk hmj => ?_, new := fun j b hj hl' hm => ?_, lent := fun j t l hj => ?_, lt := h.lt, sub := h.sub, old := h.old, keep := h.keep, defers := h.defers, size := h.size, par := fun j hj hn => ?_, npn := h.npn }
  · by_cases hj : j = i
    · subst hj; simp only [upd_same]; exact hB
    · simp only [upd_ne _ _ _ hj]; exact h.hp j
  · simp only at hj ⊢
    by_cases hji : j = i
    · subst hji; rw [upd_same] at hj; exact hnz k (hids cs hj k hk)
    · rw [upd_ne _ _ _ hji] at hj; exact hnz k (h.menB j cs hj k hk)
  · simp only at hj hk
    by_cases hji : j = i
    · subst hji
      rw [upd_same] at hj
      rw [upd_ne _ _ _ (Ne.symm hjk)] at hk
      exact hdis k b (Ne.symm hjk) hj hk hmj
    · rw [upd_ne _ _ _ hji] at hj
      by_cases hki : k = i
      · subst hki
        rw [upd_same] at hk
        intro hmk
        exact hdis j b hji hk hj hmk hmj
      · rw [upd_ne _ _ _ hki] at hk
        exact h.dis j k b hjk hj hk hmj
  · simp only at hj hl'
    by_cases hji : j = i
    · subst hji; rw [upd_same] at hj hl'; exact hnew b hj hl' hm
    · rw [upd_ne _ _ _ hji] at hj hl'
      exact h.new j b hj hl' hm
  · simp only at hj ⊢
    by_cases hji : j = i
    · subst hji; rw [upd_same] at hj; exact hlent t l hj
    · rw [upd_ne _ _ _ hji] at hj; exact h.lent j t l hj
  · refine h.par j hj fun e => hn ?_
    simp only
    by_cases hji : j = i
    · subst hji; rw [hi] at e; cases e
    · rw [upd_ne _ _ _ hji]; exact e
theorem RelW.excl_notR (h : RelW C n S R ρ a w) {i b : Nat} (hx : excl (S.hp i) = true) (hm : memOf (ρ i) = some b) : ¬ R b := by
  have hi := h.hp i
  cases hb : S.hp i with
  | none => simp [hb, excl] at hx
  | dead => simp [hb, excl] at hx
  | arr t l o =>
    rw [hb] at hi hx
    have ho : o ≠ 0 := by intro e; subst e; simp [excl] at hx
    rcases hi with ⟨hv, _⟩ | ⟨b', off, cap, cs, T, fz, hv, _, _, _, _, _, hr⟩
    · rw [hv] at hm; cases hm
    · rw [hv] at hm; cases hm; exact (hr ho).1
  | box cs =>
    rw [hb] at hi
    obtain ⟨b', vs, T, hv, _, _, hr⟩ := hi
    rw [hv] at hm; cases hm; exact hr
  | mp l =>
    rw [hb] at hi
    obtain ⟨b', es, ck, hv, _, _, hr⟩ := hi
    rw [hv] at hm; cases hm; exact hr
theorem RelW.rewrite (h : RelW C n S R ρ a w) {i b : Nat} (hx : excl (S.hp i) = true) (hm : memOf (ρ i) = some b) {w' : World} (hs : w'.heap.size = w.heap.size) (ho : ∀ c, c ≠ b → w'.heap[c]? = w.heap[c]?) (hk : Keeps C w')
    {B : Blk} (hB : BlkR ρ w' R i B) (hids : ∀ cs, B = .box cs → ∀ j ∈ idsOf cs, S.hp j ≠ .none) (hnn : B ≠ .none)
    (hl : ∀ t l, B = .arr t l 1 → ∃ l0 : List t.den, S.hp i = .arr t l0 1 ∧ l0.length = l.length) (hl' : (∀ t l, B ≠ .arr t l 1) → ∀ t l, S.hp i ≠ .arr t l 1) : RelW C n { S with hp := upd S.hp i B } R ρ a w' := by
  have hnR := h.excl_notR hx hm
  have h1 := h.kill i (by intro e; rw [e] at hx; simp [excl] at hx)
  have ha : Agree w w' R := fun c hc => ho c fun e => hnR (e ▸ hc)
  have hexd : ∀ j, excl (upd S.hp i .dead j) = true → j ≠ i ∧ excl (S.hp j) = true := by
    intro j hj
    by_cases hji : j = i
    · subst hji; rw [upd_same] at hj; simp [excl] at hj
    · rw [upd_ne _ _ _ hji] at hj; exact ⟨hji, hj⟩
  have h2 := h1.mem (w' := w') (by omega) ha (fun j c hj hc => ho c fun e => h.dis i j b (Ne.symm (hexd j hj).1) hx (hexd j hj).2 hm (e ▸ hc)) hk
  have h3 := h2.relay i (upd_same _ _ _) B hB (fun cs hcs j hj => ?_) hnn (fun c _ hbl hc => h.new i c hx (hl' hbl) hc) (fun t l e => ?_) (fun j c hji _ hj hc => h.dis i j c (Ne.symm hji) hx (hexd j hj).2 hc)
  · simpa only [upd_upd] using h3
  · have := hids cs hcs j hj
    show upd S.hp i .dead j ≠ .none
    by_cases hji : j = i
    · subst hji; rw [upd_same]; simp
    · rw [upd_ne _ _ _ hji]; exact this
  · obtain ⟨l0, h4, h5⟩ := hl t l e
    rw [← h5]; exact h.lent i t l0 h4
theorem RelW.keepsArr (h : RelW C n S R ρ a w) {i b off cap : Nat} {t : Ty} {l : List t.den} {o : Nat} (hi : S.hp i = .arr t l o) (ho : o ≠ 0) (hρ : ρ i = .slice (some ⟨b, off, none⟩) l.length cap) {w' : World} {cs cs' : Array Value} {X : TypeId} {fz : Nat × Nat}
    (h1 : w.heap[b]? = some (.cells cs X fz)) (h2 : w'.heap[b]? = some (.cells cs' X fz)) (hsz : cs'.size = cs.size) (hout : o = 1 → ∀ j, (j < off ∨ off + l.length * t.size ≤ j) → cs'[j]? = cs[j]?) (hs : w'.heap.size = w.heap.size) (hoth : ∀ c, c ≠ b → w'.heap[c]? = w.heap[c]?) (hio : SameStreams w w') : Keeps C w' := by
  have hk := h.keep
  by_cases h11 : o = 1
  · subst h11
    have hw : (b, off, off + l.length * t.size) ∈ C.win := by
      rcases (h.lent i t l hi).2 with hv | ⟨b', off', cap', hv, hw⟩
      · rw [hρ] at hv; cases hv
      · rw [hρ] at hv
        simp only [Value.slice.injEq, Option.some.injEq, Addr.mk.injEq, and_true, true_and] at hv
        obtain ⟨⟨rfl, rfl⟩, rfl⟩ := hv; exact hw
    refine ⟨by have := hk.size; omega, fun c hc hnw => (hoth c fun e => hnw _ hw e.symm).trans (hk.old c hc hnw), fun p hp => ?_, hk.inj, hk.io.trans hio⟩
    obtain ⟨c0, c1, X', fz', g1, g2, g3, g4⟩ := hk.win p hp
    by_cases hpb : p.1 = b
    · have := hk.inj p hp _ hw hpb
      subst this
      simp only at g1 g2 g4
      rw [h1] at g2
      simp only [Option.some.injEq, Obj.cells.injEq] at g2
      obtain ⟨rfl, rfl, rfl⟩ := g2
      exact ⟨c0, cs', X, fz, g1, h2, by omega, fun j hj => (hout rfl j hj).trans (g4 j hj)⟩
    · exact ⟨c0, c1, X', fz', g1, (hoth _ hpb).trans g2, g3, g4⟩
  · have hb : C.w0.heap.size ≤ b := h.new i b (by rw [hi]; simp [excl, beq_false ho]) (fun t' l' e => by rw [hi] at e; cases e; exact h11 rfl) (by rw [hρ]; rfl)
    refine ⟨by have := hk.size; omega, fun c hc hnw => (hoth c (by omega)).trans (hk.old c hc hnw), fun p hp => ?_, hk.inj, hk.io.trans hio⟩
    obtain ⟨c0, c1, X', fz', g1, g2, g3⟩ := hk.win p hp
    have : p.1 < C.w0.heap.size := (Array.getElem?_eq_some_iff.1 g1).1
    exact ⟨c0, c1, X', fz', g1, (hoth _ (by omega)).trans g2, g3⟩
theorem RelW.keepsNew (h : RelW C n S R ρ a w) {b : Nat} (hb : C.w0.heap.size ≤ b) {w' : World} (hs : w'.heap.size = w.heap.size) (hoth : ∀ c, c ≠ b → w'.heap[c]? = w.heap[c]?) (hio : SameStreams w w') : Keeps C w' := by
  have hk := h.keep
  refine ⟨by have := hk.size; omega, fun c hc hnw => (hoth c (by omega)).trans (hk.old c hc hnw), fun p hp => ?_, hk.inj, hk.io.trans hio⟩
  obtain ⟨c0, c1, X', fz', g1, g2, g3⟩ := hk.win p hp
  have : p.1 < C.w0.heap.size := (Array.getElem?_eq_some_iff.1 g1).1
  exact ⟨c0, c1, X', fz', g1, (hoth _ (by omega)).trans g2, g3⟩
theorem setCells_io (b : Nat) : ∀ (vs : List Value) (o : Nat) (w : World), SameStreams w (w.setCells b o vs)
  | [], _, w => SameStreams.refl w
  | v :: vs, o, w => SameStreams.trans (b := w.setCell ⟨b, o, none⟩ v) ⟨rfl, rfl, rfl⟩ (setCells_io b vs (o + 1) _)
theorem setCells_heap (b : Nat) : ∀ (vs : List Value) (o : Nat) (w : World) (cs : Array Value) (X : TypeId) (fz : Nat × Nat), w.heap[b]? = some (.cells cs X fz) → o + vs.length ≤ cs.size →
    (∃ cs' : Array Value, (w.setCells b o vs).heap[b]? = some (.cells cs' X fz) ∧ cs'.toList = cs.toList.take o ++ vs ++ cs.toList.drop (o + vs.length)) ∧
    (w.setCells b o vs).heap.size = w.heap.size ∧ ∀ c, c ≠ b → (w.setCells b o vs).heap[c]? = w.heap[c]? := by
  intro vs
  induction vs with
  | nil => intro o w cs X fz h hs; exact ⟨⟨cs, h, by simp⟩, rfl, fun _ _ => rfl⟩
  | cons v vs ih =>
    intro o w cs X fz h hs
    simp only [List.length_cons] at hs
    have hlt : b < w.heap.size := (Array.getElem?_eq_some_iff.1 h).1
    have hw : (w.setCell ⟨b, o, none⟩ v).heap[b]? = some (.cells (cs.setIfInBounds o v) X fz) := by
      simp only [World.setCell]
      rw [Array.getElem?_modify]
      simp [h]
    have hoth : ∀ c, c ≠ b → (w.setCell ⟨b, o, none⟩ v).heap[c]? = w.heap[c]? := by
      intro c hc
      simp only [World.setCell]
      rw [Array.getElem?_modify, if_neg (Ne.symm hc)]
    have hsz : (w.setCell ⟨b, o, none⟩ v).heap.size = w.heap.size := by simp [World.setCell]
    obtain ⟨⟨cs', h1, h2⟩, h3, h4⟩ := ih (o + 1) _ _ X fz hw (by simp; omega)
    refine ⟨⟨cs', h1, ?_⟩, h3.trans hsz, fun c hc => (h4 c hc).trans (hoth c hc)⟩
    rw [h2, Array.toList_setIfInBounds]
    have ho : o < cs.toList.length := by simp; omega
    have e1 : (cs.toList.set o v).take (o + 1) = cs.toList.take o ++ [v] := by
      rw [List.take_add_one, List.take_set_of_le (Nat.le_refl o)]
      have ho' : o < cs.size := by simpa using ho
      simp [List.getElem?_set, ho']
    have e2 : (cs.toList.set o v).drop (o + 1 + vs.length) = cs.toList.drop (o + (vs.length + 1)) := by
      rw [List.drop_set_of_lt (by omega)]
      congr 1; omega
    rw [e1, e2]
    simp
theorem flat_one {v : Value} (h : Flat v) : v.oneCell' = true := by
  cases v <;> first | rfl | exact absurd rfl (h.1 _) | exact absurd rfl (h.2 _)
theorem frz_no {b j : Nat} {cs : Array Value} {X : TypeId} {fz : Nat × Nat} (h : w.heap[b]? = some (.cells cs X fz)) (hz : ¬ (fz.1 ≤ j ∧ j < fz.2)) : w.frozen? ⟨b, j, none⟩ = false := by
  simp only [World.frozen?, h]
  simp only [Bool.and_eq_false_iff, decide_eq_false_iff_not]
  rcases Nat.lt_or_ge j fz.1 with h1 | h1
  · left; omega
  · right; intro h2; exact hz ⟨h1, h2⟩
theorem run_write {b o : Nat} {vs : List Value} {cs : Array Value} {X : TypeId} {fz : Nat × Nat} (h : w.heap[b]? = some (.cells cs X fz)) (hs : o + vs.length ≤ cs.size) (hz : ∀ j, j < cs.size → ¬ (fz.1 ≤ j ∧ j < fz.2)) (hf : ∀ v ∈ vs, Flat v) :
    (storeCells ⟨b, o, none⟩ vs).run P w = .ok () (w.setCells b o vs) := by
  have := run_storeCells_cells (P := P) b o vs 0 w (fun j hj => by rw [Nat.add_zero, cell_of h, Array.getElem?_eq_getElem (by omega)]; rfl) (fun j hj => frz_no h (hz _ (by omega))) fun v hv => flat_one (hf v hv)
  simpa using this
def Rowed (w : World) (R : Nat → Prop) (e : Ty) : List e.den → List Value → Prop
  | [], vs => vs = []
  | x :: m, vs => ∃ c r, vs = c ++ r ∧ CR w R e x c ∧ Rowed w R e m r
theorem Rowed.len {e : Ty} : ∀ {m : List e.den} {vs : List Value}, Rowed w R e m vs → vs.length = m.length * e.size := by
  intro m
  induction m with
  | nil => intro vs h; simp only [Rowed] at h; simp [h]
  | cons x m ih => intro vs h; obtain ⟨c, r, rfl, hc, hr⟩ := h; simp [CR.len _ _ _ hc, ih hr, Nat.add_mul]; omega
theorem Rowed.app {e : Ty} : ∀ {m m' : List e.den} {vs vs' : List Value}, Rowed w R e m vs → Rowed w R e m' vs' → Rowed w R e (m ++ m') (vs ++ vs') := by
  intro m
  induction m with
  | nil => intro m' vs vs' h h'; simp only [Rowed] at h; subst h; exact h'
  | cons x m ih => intro m' vs vs' h h'; obtain ⟨c, r, rfl, hc, hr⟩ := h; exact ⟨c, r ++ vs', by simp, hc, ih hr h'⟩
theorem Rowed.split {e : Ty} : ∀ {m m' : List e.den} {vs : List Value}, Rowed w R e (m ++ m') vs → ∃ v1 v2, vs = v1 ++ v2 ∧ Rowed w R e m v1 ∧ Rowed w R e m' v2 := by
  intro m
  induction m with
  | nil => intro m' vs h; exact ⟨[], vs, rfl, rfl, h⟩
  | cons x m ih =>
    intro m' vs h
    obtain ⟨c, r, rfl, hc, hr⟩ := h
    obtain ⟨v1, v2, rfl, h1, h2⟩ := ih hr
    exact ⟨c ++ v1, v2, by simp, ⟨c, v1, rfl, hc, h1⟩, h2⟩
theorem Rowed.mono {e : Ty} {w' : World} {R' : Nat → Prop} (hc : ∀ x c, CR w R e x c → CR w' R' e x c) : ∀ {m : List e.den} {vs : List Value}, Rowed w R e m vs → Rowed w' R' e m vs := by
  intro m
  induction m with
  | nil => intro vs h; exact h
  | cons x m ih => intro vs h; obtain ⟨c, r, rfl, h1, h2⟩ := h; exact ⟨c, r, rfl, hc _ _ h1, ih h2⟩
theorem Rowed.flat {e : Ty} : ∀ {m : List e.den} {vs : List Value}, Rowed w R e m vs → ∀ v ∈ vs, Flat v := by
  intro m
  induction m with
  | nil => intro vs h v hv; simp only [Rowed] at h; subst h; simp at hv
  | cons x m ih =>
    intro vs h v hv
    obtain ⟨c, r, rfl, h1, h2⟩ := h
    rcases List.mem_append.1 hv with hv | hv
    · exact CR.flat _ _ _ h1 v hv
    · exact ih h2 v hv
theorem Rowed.get {e : Ty} : ∀ {m : List e.den} {vs : List Value}, Rowed w R e m vs → ∀ k (hk : k < m.length), CR w R e m[k] ((vs.drop (k * e.size)).take e.size) := by
  intro m
  induction m with
  | nil => intro vs h k hk; simp at hk
  | cons x m ih =>
    intro vs h k hk
    obtain ⟨c, r, rfl, h1, h2⟩ := h
    have hl := CR.len _ _ _ h1
    cases k with
    | zero => simp only [Nat.zero_mul, List.drop_zero, List.getElem_cons_zero]; rw [← hl, List.take_left']; exact h1; rfl
    | succ k =>
      have e1 : (c ++ r).drop ((k + 1) * e.size) = r.drop (k * e.size) := by
        rw [Nat.add_mul, Nat.one_mul, Nat.add_comm, ← List.drop_drop, ← hl, List.drop_left']; rfl
      rw [e1]
      simpa using ih h2 k (by simpa using hk)
theorem Rowed.of_get {e : Ty} : ∀ (m : List e.den) (vs : List Value), vs.length = m.length * e.size → (∀ k (hk : k < m.length), CR w R e m[k] ((vs.drop (k * e.size)).take e.size)) → Rowed w R e m vs := by
  intro m
  induction m with
  | nil => intro vs h _; simp at h; subst h; rfl
  | cons x m ih =>
    intro vs h hg
    refine ⟨vs.take e.size, vs.drop e.size, by simp, by have := hg 0 (by simp); simp only [Nat.zero_mul, List.drop_zero] at this; exact this, ih _ ?_ fun k hk => ?_⟩
    · simp only [List.length_drop, h, List.length_cons, Nat.add_mul]; omega
    · have := hg (k + 1) (by simpa using hk)
      rw [List.drop_drop]
      rw [Nat.add_mul, Nat.one_mul, Nat.add_comm (k * e.size)] at this
      simpa using this
theorem window_get {cs : List Value} {off m k sz : Nat} (hk : k < m) : (((cs.drop off).take (m * sz)).drop (k * sz)).take sz = (cs.drop (off + k * sz)).take sz := by
  have : (k + 1) * sz ≤ m * sz := Nat.mul_le_mul_right _ hk
  rw [Nat.add_mul] at this
  rw [List.drop_take, List.drop_drop, List.take_take, Nat.min_eq_left (by omega)]
theorem rowed_of {e : Ty} {m : List e.den} {cs : List Value} {off : Nat} (hs : off + m.length * e.size ≤ cs.length) (hg : ∀ k (hk : k < m.length), CR w R e m[k] ((cs.drop (off + k * e.size)).take e.size)) : Rowed w R e m ((cs.drop off).take (m.length * e.size)) := by
  refine Rowed.of_get m _ (by simp; omega) fun k hk => ?_
  rw [window_get hk]; exact hg k hk
theorem rowed_at {e : Ty} {m : List e.den} {pre vs post : List Value} (h : Rowed w R e m vs) : ∀ k (hk : k < m.length), CR w R e m[k] (((pre ++ vs ++ post).drop (pre.length + k * e.size)).take e.size) := by
  intro k hk
  have h1 := h.get k hk
  have hl := h.len
  have : (k + 1) * e.size ≤ m.length * e.size := Nat.mul_le_mul_right _ hk
  rw [Nat.add_mul] at this
  rw [← List.drop_drop, List.append_assoc, List.drop_left' rfl, List.drop_append_of_le_length (by omega), List.take_append_of_le_length (by simp; omega)]
  exact h1
theorem listOf_cells (h : RelW C n S R ρ a w) (Hs : SubHp hp' S.hp) {e : Ty} {y : AV} {m : List e.den} (hl : listOf hp' e y = some m) {v : Value} (hv : AVR ρ w R y v) :
    (v = .slice none 0 0 ∧ m = []) ∨ ∃ b off cap cs X fz, v = .slice (some ⟨b, off, none⟩) m.length cap ∧ w.heap[b]? = some (.cells cs X fz) ∧ off + m.length * e.size ≤ cs.size ∧
      ∀ k (hk : k < m.length), CR w R e m[k] ((cs.toList.drop (off + k * e.size)).take e.size) := by
  have low : ∀ {q cap : Nat} (_ : m.length ≤ cap) {off sz : Nat} (_ : off + cap * e.size ≤ sz), off + m.length * e.size ≤ sz := by
    intro q cap h1 off sz h2
    have := Nat.mul_le_mul_right e.size h1; omega
  have sl : ∀ {v : Value}, SlR w R e.size (fun (x : e.den) c => CR w R e x c) m v → (v = .slice none 0 0 ∧ m = []) ∨ ∃ b off cap cs X fz, v = .slice (some ⟨b, off, none⟩) m.length cap ∧ w.heap[b]? = some (.cells cs X fz) ∧ off + m.length * e.size ≤ cs.size ∧
      ∀ k (hk : k < m.length), CR w R e m[k] ((cs.toList.drop (off + k * e.size)).take e.size) := by
    intro v hs
    rcases hs with hs | ⟨b, off, cap, cs, X, fz, hv, hle, _, hh, hsz, hel⟩
    · exact .inl hs
    · exact .inr ⟨b, off, cap, cs, X, fz, hv, hh, low (q := 0) hle hsz, hel⟩
  unfold listOf at hl
  split at hl
  · cases hl
  · rename_i c hnt
    cases c with
    | tab l => exact absurd rfl (hnt l)
    | dat t x =>
      obtain ⟨ht, hx⟩ := castTo_some hl
      cases ht; subst hx
      exact sl (dat_slice hv)
    | nil =>
      simp only [cellDat, Option.some.injEq] at hl
      subst hl
      exact .inl ⟨hv, rfl⟩
    | ref i =>
      simp only [cellDat] at hl
      split at hl
      · rename_i t l o hi
        obtain ⟨ht, hx⟩ := castTo_some hl
        cases ht; subst hx
        have hb := h.hp i
        rw [Hs.arr hi] at hb
        rw [hv.1]
        rcases hb with hb | ⟨b, off, cap, cs, X, fz, hv', hle, hh, hsz, hel, _⟩
        · exact .inl hb
        · exact .inr ⟨b, off, cap, cs, X, fz, hv', hh, low (q := 0) hle hsz, hel⟩
      · cases hl
    | part i t0 off' m' =>
      simp only [cellDat] at hl
      split at hl
      · rename_i t l o hi
        cases hd : decide (t0 = t) with
        | false => simp [hd] at hl
        | true =>
          simp only [hd, cond_true] at hl
          obtain ⟨ht, hx⟩ := castTo_some hl
          cases ht; subst hx
          have hb := h.hp i
          rw [Hs.arr hi] at hb
          obtain ⟨h0, h1, h2, h3⟩ := part_slice hv (of_decide_eq_true hd) hb
          rcases h3 with h3 | ⟨b, o', cap', cs, X, fz, hv', hc, hh, hs, _, he, _⟩
          · exact .inl h3
          · have hlen := sub_len (l := l) h0 h1 h2
            refine .inr ⟨b, o', cap', cs, X, fz, by rw [hlen]; exact hv', hh, low (q := 0) (by rw [hlen]; exact hc) hs, he⟩
      · cases hl
    | _ => simp [cellDat] at hl
  · cases hl
end
end Go.Ev
set_option linter.unusedVariables false
set_option linter.unusedSimpArgs false
namespace Go.Ev
open Go
section
variable {P : Program} {C : Ctx} {n : Nat} {S : St} {R : Nat → Prop} {ρ : Nat → Value} {a : Act} {w : World} {T : TypeId → TI} {tab : List Entry} {nd : Nat} {hp' : Hp}
theorem bytesOf_len (s : ByteArray) : (bytesOf s).length = s.size := by
  simp [bytesOf, ByteArray.toList_eq]
theorem op_toBytes (TK : TypesOK P T) (h : RelW C n S R ρ a w) {o : Oper} (hd : dIn n o.dst) {s d : TypeId} {x : Operand} (ho : o.op = .convert s d x) (hs : chkT T s .str = true) (hdd : chkL T d (.int .u8) = true) {z : ByteArray}
    (hx : opnd S.fr x = .one (.dat .str z)) (hf : Fr n S nd) : Done P C n S o a w (.one (.ref nd)) [(nd, .arr (.int .u8) (bytesOf z) 2)] := by
  have e := str_of (hx ▸ h.opnd x)
  obtain ⟨et, hu, hE⟩ := chkL_slice TK hdd
  have hrun : (execOp a.eval o).run P w = .ok (.value (.slice (some ⟨w.heap.size, 0, none⟩) z.size (grownCap w z.size 0 et))) (Lib.bytesWorld w et z) := by
    simp only [execOp, ho, Sem.run_bind, e, Lib.run_convert_string_bytes w s d et z (chkT_str TK hs) hu (hE.int .u8 rfl), Result.andThen_ok, Sem.run_pure]
  have hg := grownCap_ge w z.size 0 et
  have hcs : (Lib.bytesCells w et z).size = grownCap w z.size 0 et := by
    simp [Lib.bytesCells]
    have : z.data.size = z.size := rfl
    omega
  have h' := h.layNew (nd := nd) hf (Lib.bytesWorld_size w et z) (Lib.bytesWorld_at_old w et z) (Lib.bytesWorld_at_new w et z) (t := .int .u8) (l := bytesOf z) (cap := grownCap w z.size 0 et) (by rw [bytesOf_len]; exact hg) (by rw [hcs]; simp [Ty.size]) (fun i hi => by
    rw [bytesOf_len] at hi
    have hlen : i < (Lib.bytesCells w et z).size := by omega
    have hi' : i < z.data.toList.length := by simpa using hi
    show _ = _
    have e1 : (bytesOf z)[i]'(by rw [bytesOf_len]; exact hi) = (z[i].toNat : Int) := by
      have := byte_at z i hi
      rw [← this, List.getD, List.getElem?_eq_getElem (by rw [bytesOf_len]; exact hi)]; rfl
    rw [e1]
    have e2 : (Lib.bytesCells w et z).toList[i]? = some (.int .u8 z[i].toNat) := by
      rw [Array.getElem?_toList]
      simp [Lib.bytesCells, Array.getElem?_append, hi, ByteArray.getElem_eq_getElem_data]
    simp only [Ty.size, Nat.mul_one]
    apply List.ext_getElem?
    intro j
    cases j with
    | zero => rw [List.getElem?_take_of_lt (by omega), List.getElem?_drop]; simpa using e2
    | succ j => rw [List.getElem?_eq_none (by simp only [List.length_take]; omega), List.getElem?_eq_none (by simp)]) (fun j hj => by simp only []; omega) ⟨rfl, rfl, rfl⟩
  rw [bytesOf_len] at h'
  exact done_new hd hrun h' (ref_new (.inr ⟨_, _, _, _, rfl⟩)) (fun i hi => by simp [AV.ids, Cel.ids] at hi; subst hi; simp [updAll, upd_same])
theorem foldl_push (ns : List Int) : ∀ (acc : ByteArray), ns.foldl (fun r n => r.push (UInt8.ofNat n.toNat)) acc = ⟨acc.data ++ (ns.map fun n => UInt8.ofNat n.toNat).toArray⟩ := by
  induction ns with
  | nil => intro acc; simp
  | cons m ns ih =>
    intro acc
    rw [List.foldl_cons, ih]
    apply ByteArray.ext
    simp [ByteArray.push]
theorem ofBytes_eq (ns : List Int) : ns.foldl (fun r n => r.push (UInt8.ofNat n.toNat)) ByteArray.empty = ofBytes ns := by
  rw [foldl_push]
  apply ByteArray.ext
  simp [ofBytes]
theorem rowed_bytes {k : IntKind} : ∀ {m : List (Ty.int k).den} {vs : List Value}, Rowed w R (.int k) m vs → vs = m.map (Value.int k) := by
  intro m
  induction m with
  | nil => intro vs h; simpa [Rowed] using h
  | cons x m ih => intro vs h; obtain ⟨c, r, rfl, h1, h2⟩ := h; simp only [CR] at h1; subst h1; simp [ih h2]
theorem op_toStr (TK : TypesOK P T) (h : RelW C n S R ρ a w) (Hs : SubHp hp' S.hp) {o : Oper} (hd : dIn n o.dst) {s d : TypeId} {x : Operand} (ho : o.op = .convert s d x) (hs : chkL T s (.int .u8) = true) (hdd : chkT T d .str = true) {m : List Int}
    (hl : listOf hp' (.int .u8) (opnd S.fr x) = some m) : Done P C n S o a w (.one (.dat .str (ofBytes m))) [] := by
  obtain ⟨et, hu, hE⟩ := chkL_slice TK hs
  have hsd := chkT_str TK hdd
  have hg : ∀ v, (∃ ad l c, a.eval x = .slice ad l c ∧ (Conv.bytesToString (.slice ad l c)).run P w = .ok v w) → (execOp a.eval o).run P w = .ok (.value v) w := by
    rintro v ⟨ad, l, c, e, hv⟩
    simp only [execOp, ho, Sem.run_bind, e, run_convert_bytes_string w s d et ad l c hu (hE.int .u8 rfl) hsd, hv, Result.andThen_ok, Sem.run_pure]
  refine done_value h hd (v' := .string (ofBytes m)) (hg _ ?_) (of_str _) (by simp [AV.ids, Cel.ids])
  rcases listOf_cells h Hs hl (h.opnd x) with ⟨hv, hm⟩ | ⟨b, off, cap, cs, X, fz, hv, hh, hsz, hel⟩
  · subst hm
    exact ⟨none, 0, 0, hv, rfl⟩
  · refine ⟨_, _, _, hv, ?_⟩
    have hrow : Rowed w R (.int .u8) m ((cs.toList.drop off).take (m.length * 1)) := rowed_of (by simpa [Ty.size] using hsz) hel
    have hld := run_loadCells_at (P := P) hh (m := m.length) (off := off) (by simpa [Ty.size] using hsz)
    have hvs := rowed_bytes hrow
    rw [Nat.mul_one] at hvs
    rw [hvs] at hld
    rw [run_bytesToString w _ _ _ m hld, ofBytes_eq]
theorem fold_set (l : List Value) : ∀ (k off : Nat) (cs : Array Value), off + k + l.length ≤ cs.size → ((l.zipIdx k).foldl (fun (cs : Array Value) (p : Value × Nat) => cs.setIfInBounds (off + p.2) p.1) cs).toList = cs.toList.take (off + k) ++ l ++ cs.toList.drop (off + k + l.length) := by
  induction l with
  | nil => intro k off cs h; simp
  | cons v l ih =>
    intro k off cs h
    simp only [List.length_cons] at h
    rw [List.zipIdx_cons, List.foldl_cons, ih (k + 1) off _ (by simp; omega), Array.toList_setIfInBounds]
    have ho : off + k < cs.size := by omega
    have e1 : (cs.toList.set (off + k) v).take (off + (k + 1)) = cs.toList.take (off + k) ++ [v] := by
      rw [← Nat.add_assoc, List.take_add_one, List.take_set_of_le (Nat.le_refl _)]
      simp [List.getElem?_set, ho]
    have e2 : (cs.toList.set (off + k) v).drop (off + (k + 1) + l.length) = cs.toList.drop (off + k + (l.length + 1)) := by
      rw [List.drop_set_of_lt (by omega)]
      congr 1; omega
    rw [e1, e2]
    simp
theorem fill_step (place : Nat → Option (Nat × Nat)) (cells : Array Value) (i : Nat) (v : Value) (rest : List (Nat × Value)) {off size : Nat} (hp : place i = some (off, size)) (hs : v.cells.size = size) (hle : off + size ≤ cells.size) :
    ∃ cells' : Array Value, Instr.fill place cells ((i, v) :: rest) = Instr.fill place cells' rest ∧ cells'.toList = cells.toList.take off ++ v.cells.toList ++ cells.toList.drop (off + size) := by
  refine ⟨v.cells.zipIdx.foldl (fun (cs : Array Value) (p : Value × Nat) => cs.setIfInBounds (off + p.2) p.1) cells, ?_, ?_⟩
  · simp only [Instr.fill, hp]
    rw [if_neg]
    simp only [hs, ne_eq, not_true_eq_false, decide_false, Bool.false_or, decide_eq_true_eq]
    omega
  · rw [← Array.foldl_toList, Array.toList_zipIdx]
    have := fold_set v.cells.toList 0 off cells (by simp; omega)
    simp only [Nat.add_zero] at this
    rw [this]
    simp [hs]
theorem putAt_cels {l c : List Cel} {vs us : List Value} {off : Nat} (h : CelsR ρ w R l vs) (hc : CelsR ρ w R c us) : CelsR ρ w R (putAt l off c) (vs.take off ++ us ++ vs.drop (off + us.length)) := by
  unfold putAt
  rw [cnt_length, hc.len]
  exact ((h.take off).app hc).app (h.drop _)
theorem putAt_ids {l c : List Cel} {off i : Nat} (h : i ∈ idsOf (putAt l off c)) : i ∈ idsOf l ∨ i ∈ idsOf c := by
  unfold putAt at h
  rw [idsOf_app, idsOf_app] at h
  simp only [List.mem_append] at h
  rcases h with (h | h) | h
  · left
    have : l = l.take off ++ l.drop off := by simp
    rw [this, idsOf_app]; simp [h]
  · exact .inr h
  · exact .inl (idsOf_drop h)
theorem build_fill (h : RelW C n S R ρ a w) {flds : List (Nat × Ty)} {places : Array (Nat × Nat)} (hpl : ∀ (i : Nat) (f : Nat × Ty), flds[i]? = some f → places[i]? = some (f.1, f.2.size)) {sz : Nat} (hle : ∀ (i : Nat) (f : Nat × Ty), flds[i]? = some f → f.1 + f.2.size ≤ sz) :
    ∀ (ps : List (Nat × Operand)) (cs : List Cel) (zs : Array Value) (r : List Cel), buildCells flds cs (partsOf (opnd S.fr) ps) = some r → CelsR ρ w R cs zs.toList → zs.size = sz → (∀ i ∈ idsOf cs, S.hp i ≠ .none) →
      ∃ zs' : Array Value, Instr.fill (places[·]?) zs (ps.map fun p => (p.1, a.eval p.2)) = some zs' ∧ CelsR ρ w R r zs'.toList ∧ (∀ i ∈ idsOf r, S.hp i ≠ .none) := by
  intro ps
  induction ps with
  | nil => intro cs zs r hb hc _ hm; simp [partsOf, buildCells] at hb; subst hb; exact ⟨zs, rfl, hc, hm⟩
  | cons p ps ih =>
    intro cs zs r hb hc hz hm
    simp only [partsOf, List.map_cons, buildCells] at hb
    cases hf : flds[p.1]? with
    | none => simp [hf] at hb
    | some f =>
      simp only [hf] at hb
      cases hk : ((opnd S.fr p.2).known && Nat.beq (cnt (opnd S.fr p.2).cells) f.2.size) with
      | false => simp [hk] at hb
      | true =>
        simp only [hk, cond_true] at hb
        simp only [Bool.and_eq_true] at hk
        obtain ⟨hcv, _⟩ := (h.opnd p.2).cells hk.1
        have hsz : (a.eval p.2).cells.size = f.2.size := by
          have := hcv.len
          rw [← cnt_length, Nat.eq_of_beq_eq_true hk.2] at this
          simpa using this.symm
        obtain ⟨zs', h1, h2⟩ := fill_step (places[·]?) zs p.1 (a.eval p.2) (ps.map fun p => (p.1, a.eval p.2)) (hpl _ _ hf) hsz (by rw [hz]; exact hle _ _ hf)
        have hput := putAt_cels (off := f.1) hc hcv
        have hlen : (a.eval p.2).cells.toList.length = f.2.size := by simpa using hsz
        rw [hlen, ← h2] at hput
        have hz' : zs'.size = sz := by
          have : zs'.toList.length = sz := by
            rw [h2]; simp only [List.length_append, List.length_take, List.length_drop, hlen]
            have := hle _ _ hf
            simp [hz]; omega
          simpa using this
        obtain ⟨zs2, h3, h4, h5⟩ := ih _ zs' r hb hput hz' fun i hi => (putAt_ids hi).elim (hm i) fun hi => h.opndMen p.2 i (AV.cells_ids hi)
        exact ⟨zs2, by rw [List.map_cons, h1]; exact h3, h4, h5⟩
theorem mapM_some {α β : Type} {f : α → Option β} : ∀ {l : List α}, (∀ (i : Nat) (x : α), l[i]? = some x → ∃ y, f x = some y) → ∃ ys, l.mapM f = some ys ∧ ∀ (i : Nat) (x : α), l[i]? = some x → ∃ y, f x = some y ∧ ys[i]? = some y := by
  intro l
  induction l with
  | nil => intro _; exact ⟨[], rfl, fun i x h => by simp at h⟩
  | cons x l ih =>
    intro h
    obtain ⟨y, hy⟩ := h 0 x rfl
    obtain ⟨ys, h1, h2⟩ := ih fun i x hx => h (i + 1) x hx
    refine ⟨y :: ys, by simp [List.mapM_cons, hy, h1], fun i x' hx => ?_⟩
    cases i with
    | zero => simp at hx; subst hx; exact ⟨y, hy, rfl⟩
    | succ i => exact h2 i x' hx
theorem op_build (TK : TypesOK P T) (h : RelW C n S R ρ a w) {o : Oper} (hd : dIn n o.dst) {t : TypeId} {ps : Array (Nat × Operand)} (ho : o.op = .build t ps) (hon : (T t).on = true) (hst : isSt (T t).ty = true) {cs : List Cel}
    (hb : buildCells (T t).flds (zeroCel (T t).ty) (partsOf (opnd S.fr) ps.toList) = some cs) : Done P C n S o a w (.agg cs) [] := by
  have tk := TK t hon
  obtain ⟨g, hg⟩ := isSt_ex hst
  have hdesc := tk.desc
  unfold DescOK at hdesc
  rw [hg] at hdesc
  obtain ⟨fs, hu, hfs, hall⟩ := hdesc
  obtain ⟨inf, hi, hs, hz⟩ := tk.info
  obtain ⟨places, hp1, hp2⟩ := mapM_some (f := fun f : Field => (P.info? f.type).map fun i => (f.offset, i.size)) (l := fs.toList) (fun i x hx => by
    have hlt : i < (T t).flds.length := by
      rw [← hfs]
      rcases Nat.lt_or_ge i fs.size with h | h
      · exact h
      · rw [List.getElem?_eq_none (by simpa using h)] at hx; cases hx
    obtain ⟨fd, hfd, hF⟩ := hall i _ (List.getElem?_eq_getElem hlt)
    rw [Array.getElem?_toList, hfd] at hx; cases hx
    obtain ⟨fi, hfi, _⟩ := hF.info
    exact ⟨_, by rw [hfi]; rfl⟩)
  have hpl : ∀ (i : Nat) (f : Nat × Ty), (T t).flds[i]? = some f → places.toArray[i]? = some (f.1, f.2.size) := by
    intro i f hf
    obtain ⟨fd, hfd, hF⟩ := hall i f hf
    obtain ⟨y, hy, hys⟩ := hp2 i fd (by rw [Array.getElem?_toList]; exact hfd)
    obtain ⟨fi, hfi, hsz⟩ := hF.info
    simp only [hfi, Option.map_some, Option.some.injEq] at hy
    rw [List.getElem?_toArray, hys, ← hy, hF.off, hsz]
  obtain ⟨zs, h1, h2, h3⟩ := build_fill h hpl (sz := g.size) (fun i f hf => by obtain ⟨fd, _, hF⟩ := hall i f hf; exact hF.le) ps.toList _ (zeroVals (T t).ty).toArray cs hb (by simpa using zero_cels _) (by rw [hg, List.size_toArray]; exact zero_len (.st g)) (by rw [zero_ids]; simp)
  refine done_value h hd (v' := .agg zs) ?_ ⟨zs.toList, by simp, h2⟩ h3
  have hbuilt : P.built t (ps.map fun p => (p.1, a.eval p.2)).toList = some zs := by
    unfold Program.built
    rw [Array.toList_map]
    simp only [hi, hu, hz, hp1]
    rw [tk.zcells]
    exact h1
  simp only [execOp, ho, Sem.run_bind]
  rw [run_build w t _ zs hbuilt]
  rfl
end
end Go.Ev
set_option linter.unusedVariables false
set_option linter.unusedSimpArgs false
namespace Go.Ev
open Go
section
variable {P : Program} {C : Ctx} {n : Nat} {S : St} {R : Nat → Prop} {ρ : Nat → Value} {a : Act} {w : World} {T : TypeId → TI} {tab : List Entry} {nd : Nat} {hp' : Hp}
def Finds (hp' hp : Hp) : Prop := ∀ i t l o, hp' i = .arr t l o → ∃ o', hp i = .arr t l o'
theorem SubHp.finds {hp' hp : Hp} (h : SubHp hp' hp) : Finds hp' hp := fun i t l o hi => ⟨o, h.arr hi⟩
theorem Finds.frz {hp' hp : Hp} (h : Finds hp' hp) (ids : List Nat) : Finds hp' (frzHp hp ids) := by
  intro i t l o hi
  obtain ⟨o', h1⟩ := h i t l o hi
  by_cases hm : i ∈ ids
  · exact ⟨0, by simp [frzHp, hm, h1, frzB]⟩
  · exact ⟨o', by simp [frzHp, hm, h1]⟩
theorem subDat_finds {hp' hp : Hp} (h : Finds hp' hp) {e : Ty} {c : SubC} {x : List e.den} (hc : subDat hp' e c = some x) : subDat hp e c = some x := by
  cases c with
  | ref i =>
    simp only [subDat] at hc ⊢
    split at hc
    · rename_i t' l o hi
      obtain ⟨o', h1⟩ := h i t' l o hi
      rw [h1]; exact hc
    · cases hc
  | part i t0 off m =>
    simp only [subDat] at hc ⊢
    split at hc
    · rename_i t' l o hi
      obtain ⟨o', h1⟩ := h i t' l o hi
      rw [h1]; exact hc
    · cases hc
  | dat t l => exact hc
theorem tabDat_finds {hp' hp : Hp} (h : Finds hp' hp) {e : Ty} : ∀ {l : List SubC} {x : List (List e.den)}, tabDat hp' e l = some x → tabDat hp e l = some x := by
  intro l
  induction l with
  | nil => intro x hx; exact hx
  | cons s l ih =>
    intro x hx
    simp only [tabDat] at hx ⊢
    split at hx
    · rename_i y hy
      rw [subDat_finds h hy]
      split at hx
      · rename_i z hz
        rw [ih hz]; exact hx
      · cases hx
    · cases hx
theorem cellDat_finds {hp' hp : Hp} (h : Finds hp' hp) {t : Ty} {c : Cel} {x : t.den} (hc : cellDat hp' t c = some x) : cellDat hp t c = some x := by
  cases c with
  | ref i =>
    simp only [cellDat] at hc ⊢
    split at hc
    · rename_i t' l o hi
      obtain ⟨o', h1⟩ := h i t' l o hi
      rw [h1]; exact hc
    · cases hc
  | part i t0 off m =>
    simp only [cellDat] at hc ⊢
    split at hc
    · rename_i t' l o hi
      obtain ⟨o', h1⟩ := h i t' l o hi
      rw [h1]; exact hc
    · cases hc
  | tab l =>
    simp only [cellDat] at hc ⊢
    split at hc
    · exact tabDat_finds h hc
    · cases hc
  | _ => exact hc
theorem implode_finds {hp' hp : Hp} (h : Finds hp' hp) : ∀ (t : Ty) (cs : List Cel) (p : t.den × List Cel), implode hp' t cs = some p → implode hp t cs = some p := by
  have single : ∀ (t : Ty) (c : Cel) (cs : List Cel) (p : t.den × List Cel), one1 (cellDat hp' t c) cs = some p → one1 (cellDat hp t c) cs = some p := by
    intro t c cs p hh
    cases hc : cellDat hp' t c with
    | none => rw [hc] at hh; cases hh
    | some x => rw [hc] at hh; rw [cellDat_finds h hc]; exact hh
  intro t
  induction t with
  | st t ih => intro cs p hh; exact ih cs p hh
  | pair a b iha ihb =>
    intro cs p hh
    simp only [implode] at hh ⊢
    cases h1 : implode hp' a cs with
    | none => simp [h1] at hh
    | some q =>
      cases h2 : implode hp' b q.2 with
      | none => simp [h1, h2] at hh
      | some r => simp only [h1, h2] at hh; simp only [iha _ _ h1, ihb _ _ h2]; exact hh
  | unit => intro cs p hh; exact hh
  | int k => intro cs p hh; cases cs with
    | nil => cases hh
    | cons c cs => exact single (.int k) c cs p hh
  | bool => intro cs p hh; cases cs with
    | nil => cases hh
    | cons c cs => exact single .bool c cs p hh
  | str => intro cs p hh; cases cs with
    | nil => cases hh
    | cons c cs => exact single .str c cs p hh
  | list t _ => intro cs p hh; cases cs with
    | nil => cases hh
    | cons c cs => exact single (.list t) c cs p hh
  | ptr t _ => intro cs p hh; cases cs with
    | nil => cases hh
    | cons c cs => exact single (.ptr t) c cs p hh
theorem datOf_finds {hp' hp : Hp} (h : Finds hp' hp) {t : Ty} {v : AV} {x : t.den} (hv : datOf hp' t v = some x) : datOf hp t v = some x := by
  unfold datOf at hv ⊢
  split at hv
  · cases hs : isSt t with
    | true => simp [hs] at hv
    | false =>
      simp only [hs, cond_false] at hv ⊢
      split at hv
      · rename_i y hy
        rw [implode_finds h _ _ _ hy]; exact hv
      · cases hv
  · cases hs : isSt t with
    | false => simp [hs] at hv
    | true =>
      simp only [hs, cond_true] at hv ⊢
      split at hv
      · rename_i y hy
        rw [implode_finds h _ _ _ hy]; exact hv
      · cases hv
  · cases t with
    | ptr t =>
      simp only at hv ⊢
      split at hv
      · rename_i y hy
        rw [implode_finds h _ _ _ hy]; exact hv
      · cases hv
    | _ => cases hv
  · cases hv
theorem frz_frozen (hp : Hp) (ids : List Nat) : Frozen (frzHp hp ids) ids := by
  intro i hi t l o h
  simp only [frzHp, if_pos hi] at h
  cases hb : hp i <;> rw [hb] at h <;> simp [frzB] at h
  exact h.2.2.symm
theorem lent_no {hp hp' : Hp} (hF : ∀ i t l o, hp' i = .arr t l o ↔ hp i = .arr t l o) {u : List (Nat × Blk)} {ids : List Nat} (hu : lentStay hp (frozenUpd hp' ids ++ u) = true) : ∀ i ∈ ids, ∀ t l, hp i ≠ .arr t l 1 := by
  intro i hi t l h
  induction ids with
  | nil => simp at hi
  | cons j ids ih =>
    rcases List.mem_cons.1 hi with rfl | hi
    · have h' := (hF i t l 1).2 h
      simp [frozenUpd, h', lentStay, h] at hu
    · refine ih ?_ hi
      simp only [frozenUpd] at hu
      split at hu
      · simp only [List.cons_append, lentStay, Bool.and_eq_true] at hu; exact hu.2
      · exact hu
def Looks (hp' hp : Hp) (ids : List Nat) : Prop := ∀ i ∈ ids, hp' i = hp i
theorem frozenUpd_looks {hp' hp : Hp} {ids : List Nat} (h : Looks hp' hp ids) : frozenUpd hp' ids = frozenUpd hp ids := by
  induction ids with
  | nil => rfl
  | cons j ids ih =>
    simp only [frozenUpd, h j (by simp), ih fun i hi => h i (by simp [hi])]
theorem lent_no' {hp : Hp} {u : List (Nat × Blk)} {ids : List Nat} (hu : lentStay hp (frozenUpd hp ids ++ u) = true) : ∀ i ∈ ids, ∀ t l, hp i ≠ .arr t l 1 := lent_no (fun _ _ _ _ => Iff.rfl) hu
theorem elems_fill {e : Ty} (hB : ∀ i, BlkR ρ w R i (hp' i)) (hv : ∀ x, AVR ρ w R (opnd S.fr x) (a.eval x)) {places : Nat → Option (Nat × Nat)} (hpl : ∀ i, places i = some (i * e.size, e.size)) {total : Nat} :
    ∀ (ps : List (Nat × Operand)) (k : Nat) (zs : Array Value) (pre : List e.den) (vs : List Value) (l : List e.den), elemsOf hp' e k (partsOf (opnd S.fr) ps) = some l → zs.size = total * e.size → k + ps.length = total →
      zs.toList.take (k * e.size) = vs → Rowed w R e pre vs → pre.length = k → (∀ p ∈ ps, Frozen hp' (opnd S.fr p.2).ids) →
      ∃ zs' : Array Value, Instr.fill places zs (ps.map fun p => (p.1, a.eval p.2)) = some zs' ∧ Rowed w R e (pre ++ l) zs'.toList ∧ l.length = ps.length := by
  intro ps
  induction ps with
  | nil =>
    intro k zs pre vs l hl hz hk hvs hr hp _
    simp [partsOf, elemsOf] at hl; subst hl
    simp only [List.length_nil, Nat.add_zero] at hk; subst hk
    rw [List.take_of_length_le (by simp [hz])] at hvs
    exact ⟨zs, rfl, by rw [hvs]; simpa using hr, rfl⟩
  | cons p ps ih =>
    intro k zs pre vs l hl hz hk hvs hr hp hF
    simp only [List.length_cons] at hk
    simp only [partsOf, List.map_cons, elemsOf] at hl
    cases hkp : Nat.beq k p.1 with
    | false => simp [hkp] at hl
    | true =>
      have hkp' := Nat.eq_of_beq_eq_true hkp
      simp only [hkp, cond_true] at hl
      cases hx : datOf hp' e (opnd S.fr p.2) with
      | none => simp [hx] at hl
      | some x =>
        simp only [hx] at hl
        cases hy : elemsOf hp' e (k + 1) (partsOf (opnd S.fr) ps) with
        | none => simp only [partsOf] at hy; simp [hy] at hl
        | some y =>
          have hy' := hy
          simp only [partsOf] at hy
          simp only [hy, Option.some.injEq] at hl
          subst hl
          have hVR := datOf_ok hB hx (hF p (by simp)) (hv p.2)
          have hc := hVR.cells
          have hclen := CR.len _ _ _ hc
          have hle : (k + 1) * e.size ≤ total * e.size := Nat.mul_le_mul_right _ (by omega)
          rw [Nat.add_mul, Nat.one_mul] at hle
          obtain ⟨zs', h1, h2⟩ := fill_step places zs p.1 (a.eval p.2) (ps.map fun p => (p.1, a.eval p.2)) (hpl p.1) (by simpa using hclen) (by rw [hz, ← hkp']; omega)
          rw [← hkp'] at h2
          have hz' : zs'.size = total * e.size := by
            have : zs'.toList.length = total * e.size := by
              rw [h2]; simp only [List.length_append, List.length_take, List.length_drop, hclen, Array.length_toList, hz]; omega
            simpa using this
          have htake : zs'.toList.take ((k + 1) * e.size) = vs ++ (a.eval p.2).cells.toList := by
            rw [h2, hvs, Nat.add_mul, Nat.one_mul]
            have hvl := hr.len
            rw [hp] at hvl
            rw [List.take_append_of_le_length (by simp only [List.length_append, hclen, hvl]; omega), List.take_of_length_le (by simp only [List.length_append, hclen, hvl]; omega)]
          obtain ⟨zs2, h3, h4, h5⟩ := ih (k + 1) zs' (pre ++ [x]) _ y hy' hz' (by omega) htake (hr.app ⟨_, [], by simp, hc, rfl⟩) (by simp [hp]) fun q hq => hF q (by simp [hq])
          exact ⟨zs2, by rw [List.map_cons, h1]; exact h3, by simpa using h4, by simp [h5]⟩
theorem idsOfs_mem {l : List AV} {v : AV} {i : Nat} (hv : v ∈ l) (hi : i ∈ v.ids) : i ∈ idsOfs l := by
  induction l with
  | nil => simp at hv
  | cons x l ih =>
    simp only [idsOfs, List.mem_append]
    rcases List.mem_cons.1 hv with rfl | hv
    · exact .inl hi
    · exact .inr (ih hv)
theorem elemsOf_finds {hp' hp : Hp} (h : Finds hp' hp) {e : Ty} : ∀ (l : List (Nat × AV)) (k : Nat) (r : List e.den), elemsOf hp' e k l = some r → elemsOf hp e k l = some r := by
  intro l
  induction l with
  | nil => intro k r hh; exact hh
  | cons p l ih =>
    intro k r hh
    simp only [elemsOf] at hh ⊢
    cases hk : Nat.beq k p.1 with
    | false => simp [hk] at hh
    | true =>
      simp only [hk, cond_true] at hh ⊢
      cases hx : datOf hp' e p.2 with
      | none => simp [hx] at hh
      | some x =>
        cases hy : elemsOf hp' e (k + 1) l with
        | none => simp [hx, hy] at hh
        | some y => simp only [hx, hy] at hh; simp only [datOf_finds h hx, ih _ _ hy]; exact hh
theorem op_buildSlice (TK : TypesOK P T) (h : RelW C n S R ρ a w) {hp0 : Hp} (hF : Finds hp0 S.hp) {o : Oper} (hd : dIn n o.dst) {t : TypeId} {m : Nat} {ps : Array (Nat × Operand)} (ho : o.op = .buildSlice t m ps) {e : Ty} (ht : chkL T t e = true) {l : List e.den}
    (hl : elemsOf hp0 e 0 (partsOf (opnd S.fr) ps.toList) = some l) (hm : cnt ps.toList = m) (hsz : m * e.size ≤ 16777216) (hf : Fr n S nd)
    (hlent : lentStay S.hp (frozenUpd S.hp (idsOfs ((partsOf (opnd S.fr) ps.toList).map (·.2))) ++ [(nd, .arr e l 2)]) = true) :
    Done P C n S o a w (.one (.ref nd)) (frozenUpd S.hp (idsOfs ((partsOf (opnd S.fr) ps.toList).map (·.2))) ++ [(nd, .arr e l 2)]) := by
  generalize hids : idsOfs ((partsOf (opnd S.fr) ps.toList).map (·.2)) = ids at *
  obtain ⟨et, hu, hE⟩ := chkL_slice TK ht
  obtain ⟨ie, hie, hisz, hbytes, hz⟩ := hE.ex
  obtain ⟨R1, h1, hs1, hb1⟩ := h.freezes ids (lent_no' hlent)
  have hl' := elemsOf_finds (hF.frz ids) _ _ _ hl
  have hml : ps.toList.length = m := by rw [← cnt_length]; exact hm
  have hzlen : ∀ k, (if k = 0 then (#[] : Array Value) else (zeroVal e).cells).size = (if k = 0 then 0 else e.size) := by
    intro k; split
    · rfl
    · rw [hE.z]; simpa using zero_len e
  obtain ⟨zs, hfill, hrow, hlen⟩ := elems_fill (S := { S with hp := frzHp S.hp ids }) (a := a) h1.hp (fun x => h1.opnd x) (places := fun i => some (i * e.size, e.size)) (fun _ => rfl) (total := m) ps.toList 0
    ((Array.range (m * e.size)).map ((if m * e.size = 0 then (#[] : Array Value) else (zeroVal e).cells)[· % (if m * e.size = 0 then (#[] : Array Value) else (zeroVal e).cells).size]!)) [] [] l hl' (by simp) (by omega) (by simp) rfl rfl
    (fun p hp => (frz_frozen S.hp ids).sub fun i hi => by
      rw [← hids]
      exact idsOfs_mem (List.mem_map.2 ⟨(p.1, opnd S.fr p.2), List.mem_map.2 ⟨p, hp, rfl⟩, rfl⟩) hi)
  have hrun : (execOp a.eval o).run P w = .ok (.value (.slice (some ⟨w.heap.size, 0, none⟩) m m)) (w.alloc (.cells zs et)) := by
    simp only [execOp, ho, Sem.run_bind, Instr.buildSlice, run_underlying' hu, Result.andThen_ok, run_sizeOf hie, hisz]
    rw [if_neg (by omega)]
    simp only [Array.toList_map]
    by_cases hm0 : m * e.size = 0
    · rw [if_pos hm0] at hfill
      rw [if_pos hm0]
      simp only [Sem.run_bind, Sem.run_pure, Result.andThen_ok]
      rw [hfill]
      simp [newRow]
    · rw [if_neg hm0] at hfill
      rw [if_neg hm0]
      simp only [Sem.run_bind, run_zeroValue hie hz, Sem.run_pure, Result.andThen_ok]
      rw [hfill]
      simp [newRow]
  have hl0 : l.length = m := by omega
  have hg : (w.alloc (.cells zs et)).heap = w.heap.push (.cells zs et (0, 0)) := rfl
  have hf1 : Fr n { S with hp := frzHp S.hp ids } nd := ⟨by simp only [frzHp, hf.none]; split <;> rfl, hf.ge⟩
  have hzs : zs.toList.length = m * e.size := by
    have := hrow.len; simpa [hl0] using this
  have h2 := h1.layArr (nd := nd) hf1 hg (t := e) (l := l) (cap := m) (by omega) (by have : zs.size = m * e.size := by simpa using hzs
                                                                                     omega) (fun i hi => by
    have hr2 : Rowed (w.alloc (.cells zs et)) R1 e l zs.toList := Rowed.mono (fun x c hc => CR.mono (fun _ hb => hb) (fun b hb => push_old hg b (h1.lt b hb)) e x c hc) (by simpa using hrow)
    exact hr2.get i hi) (by simp) ⟨rfl, rfl, rfl⟩
  rw [hl0] at h2
  refine done_new hd hrun (R' := R1) (ρ' := upd ρ nd (.slice (some ⟨w.heap.size, 0, none⟩) m m)) ?_ (ref_new (.inr ⟨_, _, _, _, rfl⟩)) (fun i hi => by simp [AV.ids, Cel.ids] at hi; subst hi; rw [updAll_app]; simp [updAll, upd_same])
  rw [updAll_app, updAll_frozen S.hp ids S.hp fun _ _ => rfl]
  exact h2
theorem subOf_ok {e : Ty} {x : AV} {s : SubC} {v : Value} (h : subOf e x = some s) (hv : AVR ρ w R x v) : SubR ρ w R s v ∧ s.ids = x.ids ∧ (v.cells = #[v]) := by
  unfold subOf at h
  split at h
  · rename_i t y
    cases hd : decide (t = e) with
    | false => simp [hd] at h
    | true =>
      simp only [hd, cond_true, Option.some.injEq] at h
      subst h
      have hv' : CR w R (.list t) y [v] := hv
      have hfl := CR.flat _ _ _ hv' v (by simp)
      exact ⟨hv', rfl, flat_cells hfl⟩
  · simp only [Option.some.injEq] at h
    subst h
    have hv' : v = .slice none 0 0 := hv
    subst hv'
    exact ⟨⟨_, rfl, .inl ⟨rfl, rfl⟩⟩, rfl, rfl⟩
  · simp only [Option.some.injEq] at h
    subst h
    exact ⟨hv, rfl, flat_cells (CelR.flat (ρ := ρ) (w := w) (R := R) (c := .ref _) rfl hv)⟩
  · simp only [Option.some.injEq] at h
    subst h
    exact ⟨hv, rfl, flat_cells (CelR.flat (ρ := ρ) (w := w) (R := R) (c := .part _ _ _ _) rfl hv)⟩
  · cases h
theorem subs_fill {e : Ty} (hv : ∀ x, AVR ρ w R (opnd S.fr x) (a.eval x)) {places : Nat → Option (Nat × Nat)} (hpl : ∀ i, places i = some (i * 1, 1)) {total : Nat} :
    ∀ (ps : List (Nat × Operand)) (k : Nat) (zs : Array Value) (pre : List SubC) (vs : List Value) (l : List SubC), subsOf e k (partsOf (opnd S.fr) ps) = some l → zs.size = total → k + ps.length = total →
      zs.toList.take k = vs → All2 (SubR ρ w R) pre vs → pre.length = k →
      ∃ zs' : Array Value, Instr.fill places zs (ps.map fun p => (p.1, a.eval p.2)) = some zs' ∧ All2 (SubR ρ w R) (pre ++ l) zs'.toList ∧ l.length = ps.length ∧ ∀ i ∈ subIds l, ∃ p ∈ ps, i ∈ (opnd S.fr p.2).ids := by
  intro ps
  induction ps with
  | nil =>
    intro k zs pre vs l hl hz hk hvs hr hp
    simp [partsOf, subsOf] at hl; subst hl
    simp only [List.length_nil, Nat.add_zero] at hk; subst hk
    rw [List.take_of_length_le (by simp [hz])] at hvs
    exact ⟨zs, rfl, by rw [hvs]; simpa using hr, rfl, fun i hi => by simp [subIds] at hi⟩
  | cons p ps ih =>
    intro k zs pre vs l hl hz hk hvs hr hp
    simp only [List.length_cons] at hk
    simp only [partsOf, List.map_cons, subsOf] at hl
    cases hkp : Nat.beq k p.1 with
    | false => simp [hkp] at hl
    | true =>
      have hkp' := Nat.eq_of_beq_eq_true hkp
      simp only [hkp, cond_true] at hl
      cases hx : subOf e (opnd S.fr p.2) with
      | none => simp [hx] at hl
      | some x =>
        simp only [hx] at hl
        cases hy : subsOf e (k + 1) (partsOf (opnd S.fr) ps) with
        | none => simp only [partsOf] at hy; simp [hy] at hl
        | some y =>
          have hy' := hy
          simp only [partsOf] at hy
          simp only [hy, Option.some.injEq] at hl
          subst hl
          obtain ⟨g1, g2, g3⟩ := subOf_ok hx (hv p.2)
          obtain ⟨zs', h1, h2⟩ := fill_step places zs p.1 (a.eval p.2) (ps.map fun p => (p.1, a.eval p.2)) (hpl p.1) (by rw [g3]; rfl) (by rw [hz, ← hkp']; omega)
          rw [← hkp', g3] at h2
          simp only [Nat.mul_one] at h2
          have hz' : zs'.size = total := by
            have : zs'.toList.length = total := by
              rw [h2]; simp only [List.length_append, List.length_take, List.length_drop, Array.length_toList, hz, List.length_cons, List.length_nil]; omega
            simpa using this
          have htake : zs'.toList.take (k + 1) = vs ++ [a.eval p.2] := by
            have hvl := hr.len
            rw [h2, hvs, List.take_append_of_le_length (by simp; omega), List.take_of_length_le (by simp; omega)]
          obtain ⟨zs2, h3, h4, h5, h6⟩ := ih (k + 1) zs' (pre ++ [x]) _ y hy' hz' (by omega) htake (hr.app (.cons g1 .nil)) (by simp [hp])
          refine ⟨zs2, by rw [List.map_cons, h1]; exact h3, by simpa using h4, by simp [h5], fun i hi => ?_⟩
          simp only [subIds, List.mem_append] at hi
          rcases hi with hi | hi
          · exact ⟨p, by simp, by rw [← g2]; exact hi⟩
          · obtain ⟨q, hq, hqi⟩ := h6 i hi
            exact ⟨q, by simp [hq], hqi⟩
theorem RelW.layR (h : RelW C n S R ρ a w) {w' : World} {ob : Obj} (hg : w'.heap = w.heap.push ob) (hio : SameStreams w w') : RelW C n S (fun b => R b ∨ b = w.heap.size) ρ a w' := by
  have h1 := h.grow (w' := w') (by rw [hg]; simp) (fun b hb => push_old hg b hb) hio
  have hR : ∀ b, R b → R b ∨ b = w.heap.size := fun b hb => .inl hb
  have ha : Agree w' w' R := fun _ _ => rfl
  have hn : ∀ {i b : Nat}, S.hp i ≠ .none → S.hp i ≠ .dead → memOf (ρ i) = some b → ¬ R b → ¬ (R b ∨ b = w.heap.size) := by
    intro i b e1 e2 hm hnR hor
    have := h.excl_lt hm e1 e2
    rcases hor with hor | hor
    · exact hnR hor
    · omega
  refine { h1 with fr := fun t => (h1.fr t).mono hR ha, hp := fun i => ?_, lt := fun b hb => ?_, sub := fun b hb => .inl (h1.sub b hb), old := fun b hlt hb => ?_ }
  · have hi := h1.hp i
    cases hbk : S.hp i with
    | none => trivial
    | dead => trivial
    | arr t l o =>
      rw [hbk] at hi
      exact OwnR.mono hi (fun _ _ => rfl) hR ha (fun _ b hm => hn (by rw [hbk]; simp) (by rw [hbk]; simp) hm)
    | box cs =>
      rw [hbk] at hi
      exact BoxR.mono hi (fun _ _ => rfl) hR ha (fun b hm => hn (by rw [hbk]; simp) (by rw [hbk]; simp) hm)
    | mp l =>
      rw [hbk] at hi
      exact MapR.mono hi (fun _ _ => rfl) (fun b hm => hn (by rw [hbk]; simp) (by rw [hbk]; simp) hm)
  · rcases hb with hb | rfl
    · exact h1.lt b hb
    · rw [hg]; simp
  · rcases hb with hb | rfl
    · exact h1.old b hlt hb
    · have := h.keep.size
      omega
theorem op_tab (TK : TypesOK P T) (h : RelW C n S R ρ a w) {o : Oper} (hd : dIn n o.dst) {t : TypeId} {m : Nat} {ps : Array (Nat × Operand)} (ho : o.op = .buildSlice t m ps) {e e' : Ty} (ht : chkL T t (.list e) = true) {l : List SubC}
    (hl : subsOf e' 0 (partsOf (opnd S.fr) ps.toList) = some l) (hm : cnt ps.toList = m) (hsz : m ≤ 16777216) : Done P C n S o a w (.one (.tab l)) [] := by
  obtain ⟨et, hu, hE⟩ := chkL_slice TK ht
  obtain ⟨ie, hie, hisz, hbytes, hz⟩ := hE.ex
  have hml : ps.toList.length = m := by rw [← cnt_length]; exact hm
  have hs1 : (Ty.list e).size = 1 := rfl
  rw [hs1] at hisz
  obtain ⟨zs, hfill, hrow, hlen, hids⟩ := subs_fill (S := S) (a := a) (fun x => h.opnd x) (places := fun i => some (i * 1, 1)) (fun _ => rfl) (total := m) ps.toList 0
    ((Array.range (m * 1)).map ((if m * 1 = 0 then (#[] : Array Value) else (zeroVal (.list e)).cells)[· % (if m * 1 = 0 then (#[] : Array Value) else (zeroVal (.list e)).cells).size]!)) [] [] l hl (by simp) (by omega) rfl .nil rfl
  have hrun : (execOp a.eval o).run P w = .ok (.value (.slice (some ⟨w.heap.size, 0, none⟩) m m)) (w.alloc (.cells zs et)) := by
    simp only [execOp, ho, Sem.run_bind, Instr.buildSlice, run_underlying' hu, Result.andThen_ok, run_sizeOf hie, hisz]
    rw [if_neg (by omega)]
    simp only [Array.toList_map]
    by_cases hm0 : m * 1 = 0
    · rw [if_pos hm0] at hfill
      rw [if_pos hm0]
      simp only [Sem.run_bind, Sem.run_pure, Result.andThen_ok]
      rw [hfill]
      simp [newRow]
    · rw [if_neg hm0] at hfill
      rw [if_neg hm0]
      simp only [Sem.run_bind, run_zeroValue hie hz, Sem.run_pure, Result.andThen_ok]
      rw [hfill]
      simp [newRow]
  have hl0 : l.length = m := by omega
  have hg : (w.alloc (.cells zs et)).heap = w.heap.push (.cells zs et (0, 0)) := rfl
  have h2 := h.layR hg ⟨rfl, rfl, rfl⟩
  have ha : Agree w (w.alloc (.cells zs et)) R := fun b hb => push_old hg b (h.lt b hb)
  refine done_new hd hrun (R' := fun b => R b ∨ b = w.heap.size) (ρ' := ρ) h2 ⟨w.heap.size, zs, et, (0, 0), by rw [hl0], .inr rfl, by rw [hg]; simp, ?_⟩ (fun i hi => ?_)
  · simp only [List.nil_append] at hrow
    exact hrow.mono fun s v hs => hs.mono (fun b hb => .inl hb) ha
  · simp only [AV.ids, Cel.ids] at hi
    obtain ⟨p, _, hpi⟩ := hids i hi
    exact h.opndMen p.2 i hpi
theorem flatD_ok : ∀ (cs : List Cel) (d : Dat) (vs : List Value), flatD cs = some d → CelsR ρ w R cs vs → CR w R d.t d.x vs := by
  intro cs
  induction cs with
  | nil => intro d vs h hc; simp only [flatD, Option.some.injEq] at h; subst h; cases hc; rfl
  | cons c cs ih =>
    intro d vs h hc
    cases c with
    | dat t x =>
      simp only [flatD] at h
      cases hq : flatD cs with
      | none => simp [hq] at h
      | some q =>
        simp only [hq, Option.some.injEq] at h
        subst h
        cases hc with
        | cons h1 h2 => exact ⟨[_], _, rfl, h1, ih q _ hq h2⟩
    | _ => simp [flatD] at h
theorem nodupB_cons0 {i : Nat} {l : List Nat} (h : nodupB (i :: l) = true) : i ∉ l ∧ nodupB l = true := by
  simp only [nodupB, Bool.and_eq_true, Bool.not_eq_true', List.any_eq_false] at h
  exact ⟨fun hm => h.1 i hm (by simp), h.2⟩
theorem elemsF_ok {fr : Nat → AV} {hp' : Hp} : ∀ (l : List Operand) (ds : List Dat) (us : List (Nat × Blk)) (hp : Hp) (R : Nat → Prop), opA.elemsF hp' (l.map (opnd fr)) = some (ds, us) → RelW C n ⟨fr, hp⟩ R ρ a w → (∀ p ∈ us, hp p.1 = hp' p.1) → nodupB (us.map (·.1)) = true →
    ∃ R', RelW C n ⟨fr, updAll hp us⟩ R' ρ a w ∧ (∀ b, R b → R' b) ∧ DatsR w R' ds (l.map a.eval) := by
  intro l
  induction l with
  | nil =>
    intro ds us hp R h hr _ _
    simp only [List.map_nil, opA.elemsF, Option.some.injEq, Prod.mk.injEq] at h
    obtain ⟨rfl, rfl⟩ := h
    exact ⟨R, hr, fun _ hb => hb, .nil⟩
  | cons x l ih =>
    intro ds us hp R h hr hl hn
    simp only [List.map_cons, opA.elemsF] at h
    split at h
    · rename_i t y hx
      cases hs : isSt t with
      | true => simp [hs] at h
      | false =>
        simp only [hs, cond_false] at h
        cases hq : opA.elemsF hp' (l.map (opnd fr)) with
        | none => simp [hq] at h
        | some q =>
          simp only [hq, Option.map_some, Option.some.injEq, Prod.mk.injEq] at h
          obtain ⟨rfl, rfl⟩ := h
          obtain ⟨R1, h1, h2, h3⟩ := ih q.1 q.2 hp R hq hr hl hn
          refine ⟨R1, h1, h2, .cons ?_ h3⟩
          have := hr.opnd x
          rw [hx] at this
          have hv : VR w R t y (a.eval x) := by simp only [VR, hs, cond_false]; exact this
          exact hv.mono h2 (fun _ _ => rfl)
    · rename_i j hx
      split at h
      · rename_i cs hb
        split at h
        · rename_i d hd
          cases hq : opA.elemsF hp' (l.map (opnd fr)) with
          | none => simp [hq] at h
          | some q =>
            simp only [hq, Option.map_some, Option.some.injEq, Prod.mk.injEq] at h
            obtain ⟨rfl, rfl⟩ := h
            have hj : hp j = .box cs := by rw [hl (j, .dead) (by simp)]; exact hb
            obtain ⟨hnot, hn'⟩ := nodupB_cons0 (i := j) (l := q.2.map (·.1)) (by simpa using hn)
            obtain ⟨R1, h1, h2, b, vs, X, hv, hRb, hh, hcs⟩ := hr.pin j cs hj
            obtain ⟨R2, k1, k2, k3⟩ := ih q.1 q.2 (upd hp j .dead) R1 hq h1 (fun p hp' => by
              have hne : p.1 ≠ j := fun e => hnot (by rw [← e]; exact List.mem_map.2 ⟨p, hp', rfl⟩)
              rw [upd_ne _ _ _ hne]; exact hl p (by simp [hp'])) hn'
            refine ⟨R2, k1, fun b hb => k2 b (h2 b hb), .cons ?_ k3⟩
            have ho := hr.opnd x
            rw [hx] at ho
            obtain ⟨b', e1, e2⟩ := ho
            rw [hv] at e1; cases e1
            have hC := flatD_ok cs d vs hd hcs
            have hC2 := CR.mono (R' := R2) (fun b hb => k2 b (h2 b hb)) (fun _ _ => rfl) _ _ _ hC
            have hlen := CR.len _ _ _ hC
            show CR w R2 (.ptr d.t) d.x [_]
            exact ⟨_, rfl, b, 0, vs.toArray, X, (0, 0), e2, k2 b hRb, hh, by simp; omega, by simpa [← hlen] using hC2⟩
        · cases h
      · cases h
    · cases h
theorem elemsF_ids {hp' : Hp} : ∀ (l : List AV) (ds : List Dat) (us : List (Nat × Blk)), opA.elemsF hp' l = some (ds, us) → ∀ p ∈ us, p.2 = .dead ∧ ∃ v ∈ l, p.1 ∈ v.ids := by
  intro l
  induction l with
  | nil => intro ds us h p hp; simp only [opA.elemsF, Option.some.injEq, Prod.mk.injEq] at h; obtain ⟨_, rfl⟩ := h; simp at hp
  | cons x l ih =>
    intro ds us h p hp
    simp only [opA.elemsF] at h
    split at h
    · rename_i t y
      cases hs : isSt t with
      | true => simp [hs] at h
      | false =>
        simp only [hs, cond_false] at h
        cases hq : opA.elemsF hp' l with
        | none => simp [hq] at h
        | some q =>
          simp only [hq, Option.map_some, Option.some.injEq, Prod.mk.injEq] at h
          obtain ⟨rfl, rfl⟩ := h
          obtain ⟨h1, v, h2, h3⟩ := ih q.1 q.2 hq p hp
          exact ⟨h1, v, by simp [h2], h3⟩
    · rename_i j
      split at h
      · split at h
        · cases hq : opA.elemsF hp' l with
          | none => simp [hq] at h
          | some q =>
            simp only [hq, Option.map_some, Option.some.injEq, Prod.mk.injEq] at h
            obtain ⟨rfl, rfl⟩ := h
            rcases List.mem_cons.1 hp with rfl | hp
            · exact ⟨rfl, .one (.ptr j 0), List.mem_cons_self, by simp [AV.ids, Cel.ids]⟩
            · obtain ⟨h1, v, h2, h3⟩ := ih q.1 q.2 hq p hp
              exact ⟨h1, v, by simp [h2], h3⟩
        · cases h
      · cases h
    · cases h
theorem op_makeFunc (h : RelW C n S R ρ a w) {o : Oper} (hd : dIn n o.dst) {f : FuncId} {fst caps : Array Operand} (ho : o.op = .makeFunc (.func f) fst caps) (h0 : fst.size = 0) {p : List Dat × List (Nat × Blk)}
    (hl : opA.elemsF hp' (caps.toList.map (opnd S.fr)) = some p) (hnd : nodupB (p.2.map (·.1)) = true) (hlk : ∀ x ∈ caps.toList, ∀ i ∈ (opnd S.fr x).ids, hp' i = S.hp i) : Done P C n S o a w (.one (.fn f p.1)) p.2 := by
  have hfst : fst = #[] := Array.size_eq_zero_iff.1 h0
  obtain ⟨R', h1, h2, h3⟩ := elemsF_ok (fr := S.fr) caps.toList p.1 p.2 S.hp R hl h (fun q hq => by
    obtain ⟨_, v, hv, hi⟩ := elemsF_ids _ _ _ hl q hq
    obtain ⟨x, hx, rfl⟩ := List.mem_map.1 hv
    exact (hlk x hx _ hi).symm) hnd
  refine done_new hd (v' := .func (.func f) #[] (caps.toList.map a.eval).toArray) ?_ h1 ⟨_, rfl, h3⟩ (by simp [AV.ids, Cel.ids])
  simp only [execOp, ho, Sem.run_bind, Instr.makeFunc, Sem.run_pure, Result.andThen_ok, hfst]
  congr 3
  · simp
  · apply Array.toList_inj.1; simp
end
end Go.Ev
set_option linter.unusedVariables false
set_option linter.unusedSimpArgs false
namespace Go.Ev
open Go
section
variable {P : Program} {C : Ctx} {n : Nat} {S : St} {R : Nat → Prop} {ρ : Nat → Value} {a : Act} {w : World} {T : TypeId → TI} {tab : List Entry} {nd : Nat} {hp' : Hp}
theorem run_app_room {t t' ty et et' : TypeId} {i : TypeInfo} (ht : P.underlying t = some (.slice et)) (ht' : P.underlying t' = some (.slice et')) (hi : P.info? et = some i)
    {b : Addr} {sLen sCap m c : Nat} {ad : Option Addr} {news : List Value} (hnews : (Builtin.firstCells i.size m (.slice ad m c)).run P w = .ok news.toArray w) (hroom : sLen + m ≤ sCap) {w' : World}
    (hst : (storeCells (b.add (sLen * i.size)) news).run P w = .ok () w') : (Builtin.append_ #[t, t'] ty #[.slice (some b) sLen sCap, .slice ad m c]).run P w = .ok (.slice (some b) (sLen + m) sCap) w' := by
  simp [Builtin.append_, run_underlying' ht, run_underlying' ht', sizeOf, typeInfo, hi, Builtin.lenOf, hroom, hnews, hst]
theorem run_app_none {t t' ty et et' : TypeId} {i : TypeInfo} (ht : P.underlying t = some (.slice et)) (ht' : P.underlying t' = some (.slice et')) (hi : P.info? et = some i)
    {c : Nat} {ad : Option Addr} (hnews : (Builtin.firstCells i.size 0 (.slice ad 0 c)).run P w = .ok #[] w) : (Builtin.append_ #[t, t'] ty #[.slice none 0 0, .slice ad 0 c]).run P w = .ok (.slice none 0 0) w := by
  simp [Builtin.append_, run_underlying' ht, run_underlying' ht', sizeOf, typeInfo, hi, Builtin.lenOf, hnews]
theorem run_app_grow {t t' ty et et' : TypeId} {i : TypeInfo} {z : Value} (ht : P.underlying t = some (.slice et)) (ht' : P.underlying t' = some (.slice et')) (hi : P.info? et = some i) (hz : i.zero = some z)
    {sb ad : Option Addr} {sLen sCap m c : Nat} {olds news : List Value} (holds : (Builtin.firstCells i.size sLen (.slice sb sLen sCap)).run P w.drew = .ok olds.toArray w.drew) (hnews : (Builtin.firstCells i.size m (.slice ad m c)).run P w.drew = .ok news.toArray w.drew)
    (hg : sCap < sLen + m) (hle : sLen ≤ sCap) (hpos : 0 < i.bytes) (hfit : ((sLen + m) + (sLen + m) / 4 + 192) * i.bytes ≤ 281474976710656) :
    (Builtin.append_ #[t, t'] ty #[.slice sb sLen sCap, .slice ad m c]).run P w =
      .ok (.slice (some ⟨w.heap.size, 0, none⟩) (sLen + m) (grownCap w (sLen + m) sCap et)) (w.drew.alloc (.cells (olds.toArray ++ news.toArray ++ Builtin.zeroCells z.cells (grownCap w (sLen + m) sCap et - (sLen + m))) et)) := by
  have hn : ¬ (sLen + m ≤ sCap) := by omega
  have h1 : sLen + m ≤ (sLen + m) * i.bytes := Nat.le_mul_of_pos_right _ hpos
  have hfit' : (sLen + m) * i.bytes ≤ 281474976710656 := Nat.le_trans (Nat.mul_le_mul_right _ (by omega)) hfit
  have h63' : ¬ (9223372036854775807 < ((sLen : Int) + (m : Int))) := by omega
  have h48 := grow_fits hg hfit
  have h48' : ¬ (281474976710656 < Builtin.nextslicecap (sLen + m) sCap * i.bytes) := by omega
  simp [Builtin.append_, run_underlying' ht, run_underlying' ht', sizeOf, typeInfo, zeroValue, hi, hz, Builtin.lenOf, hn, h63', h48', Question.forced, holds, hnews, newRow, grownCap]
  congr 2
  apply Array.ext'
  simp [List.append_assoc]
theorem firstCells_at {b off m l c sz : Nat} {cs : Array Value} {X : TypeId} {fz : Nat × Nat} (h : w.heap[b]? = some (.cells cs X fz)) (hm : off + m * sz ≤ cs.size) :
    (Builtin.firstCells sz m (.slice (some ⟨b, off, none⟩) l c)).run P w = .ok ((cs.toList.drop off).take (m * sz)).toArray w := run_loadCells_at h hm
theorem list_read (h : RelW C n S R ρ a w) (Hs : SubHp hp' S.hp) {e : Ty} {y : AV} {m : List e.den} (hl : listOf hp' e y = some m) {v : Value} (hv : AVR ρ w R y v) :
    ∃ ad c news, v = .slice ad m.length c ∧ Rowed w R e m news ∧ ∀ w2 : World, w2.heap = w.heap → ∀ k, k ≤ m.length → (Builtin.firstCells e.size k (.slice ad m.length c)).run P w2 = .ok (news.take (k * e.size)).toArray w2 := by
  rcases listOf_cells h Hs hl hv with ⟨hv, hm⟩ | ⟨b, off, cap, cs, X, fz, hv, hh, hsz, hel⟩
  · subst hm
    exact ⟨none, 0, [], hv, rfl, fun w2 _ k hk => by simp [Builtin.firstCells]⟩
  · refine ⟨_, cap, (cs.toList.drop off).take (m.length * e.size), hv, rowed_of (by simpa using hsz) hel, fun w2 hw k hk => ?_⟩
    have hk' : k * e.size ≤ m.length * e.size := Nat.mul_le_mul_right _ hk
    rw [List.take_take, Nat.min_eq_left hk']
    exact firstCells_at (by rw [hw]; exact hh) (by omega)
theorem app_new (TK : TypesOK P T) (h : RelW C n S R ρ a w) {o : Oper} (hd : dIn n o.dst) {u : List (Nat × Blk)} {S1 : St} (hS1 : S1 = { S with hp := updAll S.hp u }) (h1 : RelW C n S1 R ρ a w) (hf : Fr n S1 nd) {t et : TypeId} {e : Ty} (hE : ElemOK P et e (T t).eb) {ie : TypeInfo} (hisz : ie.size = e.size)
    {l m : List e.den} {olds news : List Value} (hlo : Rowed w R e l olds) (hln : Rowed w R e m news) {sCap : Nat}
    (hrun : (execOp a.eval o).run P w = .ok (.value (.slice (some ⟨w.heap.size, 0, none⟩) (l.length + m.length) (grownCap w (l.length + m.length) sCap et))) (w.drew.alloc (.cells (olds.toArray ++ news.toArray ++ Builtin.zeroCells (zeroVal e).cells (grownCap w (l.length + m.length) sCap et - (l.length + m.length))) et))) :
    Done P C n S o a w (.one (.ref nd)) (u ++ [(nd, .arr e (l ++ m) 2)]) := by
  have hg := grownCap_ge w (l.length + m.length) sCap et
  generalize hG : grownCap w (l.length + m.length) sCap et = G at *
  have hheap : (w.drew.alloc (.cells (olds.toArray ++ news.toArray ++ Builtin.zeroCells (zeroVal e).cells (G - (l.length + m.length))) et)).heap = w.heap.push (.cells (olds.toArray ++ news.toArray ++ Builtin.zeroCells (zeroVal e).cells (G - (l.length + m.length))) et (0, 0)) := rfl
  have hrow := hlo.app hln
  have hrl := hrow.len
  have hzl : (Builtin.zeroCells (zeroVal e).cells (G - (l.length + m.length))).size = (G - (l.length + m.length)) * e.size := by
    rw [hE.z]; simp [Builtin.zeroCells, zero_len]
  have hlen : (l ++ m).length = l.length + m.length := by simp
  have hGm : (l.length + m.length) * e.size + (G - (l.length + m.length)) * e.size = G * e.size := by rw [← Nat.add_mul]; congr 1; omega
  have h2 := h1.layArr (nd := nd) hf hheap (t := e) (l := l ++ m) (cap := G) (by omega) (by
      rw [hlen] at hrl
      simp only [Array.size_append, List.size_toArray, hzl, List.length_append] at hrl ⊢
      omega) (fun i hi => by
    have hr2 : Rowed (w.drew.alloc (.cells (olds.toArray ++ news.toArray ++ Builtin.zeroCells (zeroVal e).cells (G - (l.length + m.length))) et)) R e (l ++ m) (olds ++ news) := Rowed.mono (fun x c hc => CR.mono (fun _ hb => hb) (fun b hb => push_old hheap b (h.lt b hb)) e x c hc) hrow
    have := rowed_at (pre := []) (post := (Builtin.zeroCells (zeroVal e).cells (G - (l.length + m.length))).toList) hr2 i hi
    simpa using this) (by simp) ⟨rfl, rfl, rfl⟩
  rw [hlen] at h2
  refine done_new hd hrun (R' := R) (ρ' := upd ρ nd (.slice (some ⟨w.heap.size, 0, none⟩) (l.length + m.length) G)) ?_ (ref_new (.inr ⟨_, _, _, _, rfl⟩)) (fun i hi => by simp [AV.ids, Cel.ids] at hi; subst hi; rw [updAll_app]; simp [updAll, upd_same])
  rw [updAll_app]
  subst hS1
  exact h2
theorem run_append_op (o : Oper) {c : Call} (ho : o.op = .call c) (hb : c.callee = .builtin .append) {t t' : TypeId} {x y : Operand} (hts : c.argTypes.toList = [t, t']) (hxs : c.args.toList = [x, y]) {v : Value} {w' : World}
    (hv : (Builtin.append_ #[t, t'] o.type #[a.eval x, a.eval y]).run P w = .ok v w') : (execOp a.eval o).run P w = .ok (.value v) w' := by
  have hts' : c.argTypes = #[t, t'] := Array.toList_inj.1 hts
  have hxs' : c.args = #[x, y] := Array.toList_inj.1 hxs
  rw [run_builtin o ho hb, hts', hxs']
  have e : (#[x, y] : Array Operand).map a.eval = #[a.eval x, a.eval y] := by simp
  rw [e]
  simp only [builtin, Sem.run_bind, hv, Result.andThen_ok, Sem.run_pure]
structure Supply (P : Program) (w : World) (t t' ty : TypeId) (vy : Value) (et : TypeId) (ie : TypeInfo) (z : Value) (m : Nat) (news : List Value) : Prop where
  zip : m = 0 → (Builtin.append_ #[t, t'] ty #[.slice none 0 0, vy]).run P w = .ok (.slice none 0 0) w
  grow : ∀ {sb : Option Addr} {sLen sCap : Nat} {olds : List Value}, (Builtin.firstCells ie.size sLen (.slice sb sLen sCap)).run P w.drew = .ok olds.toArray w.drew → sCap < sLen + m → sLen ≤ sCap → 0 < ie.bytes → ((sLen + m) + (sLen + m) / 4 + 192) * ie.bytes ≤ 281474976710656 →
    (Builtin.append_ #[t, t'] ty #[.slice sb sLen sCap, vy]).run P w = .ok (.slice (some ⟨w.heap.size, 0, none⟩) (sLen + m) (grownCap w (sLen + m) sCap et)) (w.drew.alloc (.cells (olds.toArray ++ news.toArray ++ Builtin.zeroCells z.cells (grownCap w (sLen + m) sCap et - (sLen + m))) et))
  room : ∀ {b : Addr} {sLen sCap : Nat} {w' : World}, sLen + m ≤ sCap → (storeCells (b.add (sLen * ie.size)) news).run P w = .ok () w' → (Builtin.append_ #[t, t'] ty #[.slice (some b) sLen sCap, vy]).run P w = .ok (.slice (some b) (sLen + m) sCap) w'
theorem op_appendL (TK : TypesOK P T) (h : RelW C n S R ρ a w) (Hs : SubHp hp' S.hp) {o : Oper} (hd : dIn n o.dst) {c : Call} (ho : o.op = .call c) (hb : c.callee = .builtin .append) {t t' : TypeId} {x y : Operand} (hts : c.argTypes.toList = [t, t']) (hxs : c.args.toList = [x, y])
    {et : TypeId} {e : Ty} (hE : ElemOK P et e (T t).eb) {ie : TypeInfo} (hisz : ie.size = e.size) (hbytes : ie.bytes = (T t).eb) (hf : Fr n S nd) {q : Bool} {m : List e.den} {news : List Value} (hrow : Rowed w R e m news) (hsup : Supply P w t t' o.type (a.eval y) et ie (zeroVal e) m.length news)
    {ok : Bool} {v : AV} {u : List (Nat × Blk)} (hr : appendL e hp' nd (T t).eb q (opnd S.fr x) m = .eff ok v u) (hok : ok = true) : Done P C n S o a w v u := by
  subst hok
  unfold appendL at hr
  have hpos : 0 < ie.bytes := by rw [hbytes]; exact hE.posB
  have hnl := hrow.len
  have hnil : ∀ (S1 : St) (u1 : List (Nat × Blk)), S1 = { S with hp := updAll S.hp u1 } → RelW C n S1 R ρ a w → Fr n S1 nd → a.eval x = .slice none 0 0 → fitsB m.length (T t).eb = true → Done P C n S o a w (.one (.ref nd)) (u1 ++ [(nd, .arr e m 2)]) := by
    intro S1 u1 hS1 h1 hf1 hx hfit
    have hfit' := fits_wide hfit
    rw [← hbytes] at hfit'
    by_cases hm0 : m.length = 0
    · have hm0' : m = [] := List.length_eq_zero_iff.1 hm0
      subst hm0'
      have hnews0 : news = [] := by simpa using hnl
      subst hnews0
      have hap := hsup.zip rfl
      refine done_new hd (run_append_op o ho hb hts hxs (by rw [hx]; exact hap)) (R' := R) (ρ' := upd ρ nd (.slice none 0 0)) ?_ (ref_new (.inl rfl)) (fun i hi => by simp [AV.ids, Cel.ids] at hi; subst hi; rw [updAll_app]; simp [updAll, upd_same])
      rw [updAll_app]
      subst hS1
      exact h1.layNil hf1
    · have hap := hsup.grow (sb := none) (sLen := 0) (sCap := 0) (olds := []) (by simp [Builtin.firstCells]) (by omega) (Nat.le_refl _) hpos (by simpa using hfit')
      have hD := app_new TK h hd hS1 h1 hf1 hE hisz (l := []) (m := m) (olds := []) (news := news) rfl hrow (sCap := 0) (run_append_op o ho hb hts hxs (by rw [hx]; exact hap))
      simpa using hD
  split at hr
  · rename_i hxe
    simp only [Res.eff.injEq, Bool.and_eq_true] at hr
    obtain ⟨⟨_, hfit⟩, rfl, rfl⟩ := hr
    have hx : a.eval x = .slice none 0 0 := by have := h.opnd x; rw [hxe] at this; exact this
    exact hnil S [] rfl h hf hx hfit
  · rename_i i hxe
    split at hr
    · rename_i t1 l q hi
      cases hq : Nat.beq q 2 with
      | false => simp [hq] at hr
      | true =>
        have hq' := Nat.eq_of_beq_eq_true hq
        subst hq'
        simp only [hq, cond_true] at hr
        split at hr
        · rename_i l' hl'
          obtain ⟨hte, hle⟩ := castTo_some hl'
          cases hte
          subst hle
          simp only [Res.eff.injEq, Bool.and_eq_true] at hr
          obtain ⟨⟨_, hfit⟩, rfl, rfl⟩ := hr
          have hfit' := fits_wide hfit
          rw [← hbytes] at hfit'
          have hiS := Hs.arr hi
          obtain ⟨hxv, hO⟩ := ref_slice h hxe hiS
          have hni : nd ≠ i := fun e => by rw [← e, hf.none] at hiS; cases hiS
          have h1 := h.kill i (by rw [hiS]; simp)
          have hf1 : Fr n { S with hp := upd S.hp i .dead } nd := ⟨by simp only; rw [upd_ne _ _ _ hni]; exact hf.none, hf.ge⟩
          rcases hO with ⟨hr0, hl0⟩ | ⟨b, off, cap, cs, X, fz, hr0, hlc, hh, hsz, hel, _, hq2⟩
          · subst hl0
            have hfit2 : fitsB m.length (T t).eb = true := by simpa using hfit
            have hx : a.eval x = .slice none 0 0 := by rw [hxv, hr0]
            simpa using hnil { S with hp := upd S.hp i .dead } [(i, .dead)] rfl h1 hf1 hx hfit2
          · have hlow : l.length * e.size ≤ cap * e.size := Nat.mul_le_mul_right _ hlc
            have holds : Rowed w R e l ((cs.toList.drop off).take (l.length * e.size)) := rowed_of (by simp; omega) hel
            by_cases hroom : l.length + m.length ≤ cap
            · have hroom' : (l.length + m.length) * e.size ≤ cap * e.size := Nat.mul_le_mul_right _ hroom
              rw [Nat.add_mul] at hroom'
              have hfl : ∀ v ∈ news, Flat v := hrow.flat
              obtain ⟨hnR, hnz⟩ := hq2 (by simp)
              have hst := run_write (P := P) (o := off + l.length * e.size) (vs := news) hh (by omega) hnz hfl
              obtain ⟨⟨cs', g1, g2⟩, g3, g4⟩ := setCells_heap b news (off + l.length * e.size) w cs X fz hh (by omega)
              have hadd : (⟨b, off, none⟩ : Addr).add (l.length * ie.size) = ⟨b, off + l.length * e.size, none⟩ := by rw [Addr.add_lit, hisz]
              have hap := hsup.room (b := ⟨b, off, none⟩) (sLen := l.length) (sCap := cap) hroom (w' := w.setCells b (off + l.length * e.size) news) (by rw [hadd]; exact hst)
              have hrun := run_append_op o ho hb hts hxs (by rw [hxv, hr0]; exact hap)
              have hxcl : excl (S.hp i) = true := by rw [hiS]; rfl
              have hmem : memOf (ρ i) = some b := by rw [hr0]; rfl
              have hbn : C.w0.heap.size ≤ b := h.new i b hxcl (fun t' l' e => by rw [hiS] at e; cases e) hmem
              have hexd : ∀ j, excl (upd S.hp i .dead j) = true → j ≠ i ∧ excl (S.hp j) = true := by
                intro j hj
                by_cases hji : j = i
                · subst hji; rw [upd_same] at hj; simp [excl] at hj
                · rw [upd_ne _ _ _ hji] at hj; exact ⟨hji, hj⟩
              have hag : Agree w (w.setCells b (off + l.length * e.size) news) R := fun c hc => g4 c fun e => hnR (e ▸ hc)
              have h2 := h1.mem (w' := w.setCells b (off + l.length * e.size) news) (by omega) hag (fun j c hj hc => g4 c fun e => h.dis i j b (Ne.symm (hexd j hj).1) hxcl (hexd j hj).2 hmem (e ▸ hc)) (h.keepsNew hbn g3 g4 (setCells_io _ _ _ _))
              have hcsl : cs'.size = cs.size := by
                have : cs'.toList.length = cs.toList.length := by rw [g2]; simp; omega
                simpa using this
              have hlen : (l ++ m).length = l.length + m.length := by simp
              have h3 := h2.lay nd hf1 (.arr e (l ++ m) 2) (.slice (some ⟨b, off, none⟩) (l.length + m.length) cap) (by
                show OwnR _ _ _ _ _ _
                rw [upd_same]
                refine .inr ⟨b, off, cap, cs', X, fz, by rw [hlen], by omega, g1, by omega, fun k hk => ?_, by simp, fun _ => ⟨hnR, fun j hj => hnz j (by omega)⟩⟩
                have hr2 : Rowed (w.setCells b (off + l.length * e.size) news) R e (l ++ m) ((cs.toList.drop off).take (l.length * e.size) ++ news) := Rowed.mono (fun x c hc => CR.mono (fun _ hb => hb) hag e x c hc) (holds.app hrow)
                have := rowed_at (pre := cs.toList.take off) (post := cs.toList.drop (off + l.length * e.size + news.length)) hr2 k hk
                rw [g2]
                have e1 : (cs.toList.take off).length = off := by simp; omega
                rw [e1] at this
                have e2 : cs.toList.take (off + l.length * e.size) = cs.toList.take off ++ (cs.toList.drop off).take (l.length * e.size) := by rw [List.take_add]
                rw [e2]
                simpa [List.append_assoc] using this) (by simp) (by simp) (by simp) (fun c _ hc => by simp [memOf] at hc; subst hc; exact hbn)
                (fun j c hj _ he hc => by
                  simp [memOf] at hc; subst hc
                  exact h.dis i j b (Ne.symm (hexd j he).1) hxcl (hexd j he).2 hmem)
              exact done_new hd hrun h3 (ref_new (.inr ⟨_, _, _, _, rfl⟩)) (fun i hi => by simp [AV.ids, Cel.ids] at hi; subst hi; simp [updAll, upd_same])
            · have hap := hsup.grow (sb := some ⟨b, off, none⟩) (sLen := l.length) (sCap := cap) (olds := (cs.toList.drop off).take (l.length * e.size))
                (by rw [hisz]; exact firstCells_at (w := w.drew) hh (by omega)) (by omega) hlc hpos hfit'
              exact app_new TK h hd (u := [(i, .dead)]) (S1 := { S with hp := upd S.hp i .dead }) rfl h1 hf1 hE hisz holds hrow (run_append_op o ho hb hts hxs (by rw [hxv, hr0]; exact hap))
        · cases hr
    · cases hr
  · cases hr
theorem op_append (TK : TypesOK P T) (h : RelW C n S R ρ a w) (Hs : SubHp hp' S.hp) {o : Oper} (hd : dIn n o.dst) {c : Call} (ho : o.op = .call c) (hb : c.callee = .builtin .append) {t t' : TypeId} {x y : Operand} (hts : c.argTypes.toList = [t, t']) (hxs : c.args.toList = [x, y])
    (ht : chkL T t (elemTy (T t).ty) = true) (ht' : chkL T t' (elemTy (T t).ty) = true) (hf : Fr n S nd) {ok : Bool} {v : AV} {u : List (Nat × Blk)} (hr : appendA hp' nd (T t) (opnd S.fr x) (opnd S.fr y) = .eff ok v u) (hok : ok = true) : Done P C n S o a w v u := by
  unfold appendA at hr
  obtain ⟨et, hu, hE⟩ := chkL_slice TK ht
  obtain ⟨et', hu', _⟩ := chkL_slice TK ht'
  obtain ⟨ie, hie, hisz, hbytes, hz⟩ := hE.ex
  split at hr
  · cases hr
  · rename_i m hm
    obtain ⟨ad, cy, news, hv, hrow, hread⟩ := list_read (P := P) h Hs hm (h.opnd y)
    have hnl := hrow.len
    have hread' : ∀ w2 : World, w2.heap = w.heap → (Builtin.firstCells ie.size m.length (.slice ad m.length cy)).run P w2 = .ok news.toArray w2 := by
      intro w2 hw
      have := hread w2 hw m.length (Nat.le_refl _)
      rw [List.take_of_length_le (by omega)] at this
      rw [hisz]; exact this
    refine op_appendL TK h Hs hd ho hb hts hxs hE hisz hbytes hf hrow ?_ hr hok
    rw [hv]
    exact {
      zip := fun h0 => by
        have hm0 : m = [] := List.length_eq_zero_iff.1 h0
        subst hm0
        have hnews0 : news = [] := by simpa using hnl
        subst hnews0
        exact run_app_none (P := P) (w := w) (ty := o.type) hu hu' hie (ad := ad) (c := cy) (hread' w rfl)
      grow := fun holds hg hle hpos hfit => run_app_grow (P := P) (w := w) (ty := o.type) hu hu' hie hz holds (hread' _ rfl) hg hle hpos hfit
      room := fun hroom hst => run_app_room (P := P) (w := w) (ty := o.type) hu hu' hie (hread' w rfl) hroom hst }
theorem chkT_int (TK : TypesOK P T) {t : TypeId} {k : IntKind} (h : chkT T t (.int k) = true) : P.underlying t = some (.int k) := by
  obtain ⟨h1, h2⟩ := chkT_iff h
  have := (TK t h1).desc
  unfold DescOK at this
  rw [h2] at this
  exact this
theorem zero_rows {e : Ty} (hnp : noPtr e = true) (hp : 0 < e.size) (m : Nat) : Rowed w R e (List.replicate m e.dflt) (Builtin.zeroCells (zeroVals e).toArray m).toList := by
  have hz : (Builtin.zeroCells (zeroVals e).toArray m).size = m * e.size := by simp [Builtin.zeroCells, zero_len]
  refine Rowed.of_get _ _ (by simp only [Array.length_toList, List.length_replicate]; exact hz) fun k hk => ?_
  rw [List.length_replicate] at hk
  have hm : (k + 1) * (zeroVals e).length ≤ m * e.size := by rw [zero_len]; exact Nat.mul_le_mul_right _ hk
  have hrow := rows_get (zeroVals e) (by rw [zero_len]; exact hp) _ k hm
  have he : (madeCells (zeroVals e).toArray (m * e.size)) = Builtin.zeroCells (zeroVals e).toArray m := by
    have h1 : (zeroVals e).toArray.size = e.size := by simp [zero_len]
    have h2 : Builtin.zeroCells (zeroVals e).toArray m = madeCells (zeroVals e).toArray (m * (zeroVals e).toArray.size) := rfl
    rw [h2, h1]
  rw [zero_len, he] at hrow
  rw [hrow, List.getElem_replicate]
  exact zero_CR e hnp
theorem op_appendZ (TK : TypesOK P T) (h : RelW C n S R ρ a w) (Hs : SubHp hp' S.hp) {o : Oper} (hd : dIn n o.dst) {c : Call} (ho : o.op = .call c) (hb : c.callee = .builtin .append) {t t' : TypeId} {x y : Operand} (hts : c.argTypes.toList = [t, t']) (hxs : c.args.toList = [x, y])
    (ht : chkL T t (elemTy (T t).ty) = true) (ht' : chkT T t' (.int .i64) = true) (hnp : noPtr (elemTy (T t).ty) = true) (hf : Fr n S nd) {ok : Bool} {v : AV} {u : List (Nat × Blk)} (hr : appendZ hp' nd (T t) (opnd S.fr x) (opnd S.fr y) = .eff ok v u) (hok : ok = true) : Done P C n S o a w v u := by
  unfold appendZ at hr
  obtain ⟨et, hu, hE⟩ := chkL_slice TK ht
  have hu' := chkT_int TK ht'
  obtain ⟨ie, hie, hisz, hbytes, hz⟩ := hE.ex
  split at hr
  · rename_i k hy
    have hv : a.eval y = .int .i64 k := int_of (hy ▸ h.opnd y)
    have hpos : 0 < ie.bytes := by rw [hbytes]; exact hE.posB
    -- it is not negative, and there is room for it
    have hk : 0 ≤ k ∧ k.toNat * ie.bytes ≤ 281474976710656 := by
      have hfit : ∀ {l : Nat}, fitsB (l + k.toNat) (T t).eb = true → k.toNat * ie.bytes ≤ 281474976710656 := by
        intro l hf
        have := fits_le hf
        rw [← hbytes] at this
        have h2 : k.toNat * ie.bytes ≤ (l + k.toNat) * ie.bytes := Nat.mul_le_mul_right _ (by omega)
        omega
      have hr2 := hr
      unfold appendL at hr2
      split at hr2
      · simp only [Res.eff.injEq, hok, Bool.and_eq_true, decide_eq_true_eq, List.length_replicate] at hr2
        exact ⟨hr2.1.1, hfit (l := 0) (by simpa using hr2.1.2)⟩
      · split at hr2
        · rename_i t1 l1 q hi1
          cases hq : Nat.beq q 2 with
          | false => rw [hq] at hr2; cases hr2
          | true =>
            rw [hq] at hr2
            simp only [cond_true] at hr2
            split at hr2
            · simp only [Res.eff.injEq, hok, Bool.and_eq_true, decide_eq_true_eq, List.length_replicate] at hr2
              exact ⟨hr2.1.1, hfit hr2.1.2⟩
            · cases hr2
        · cases hr2
      · cases hr2
    obtain ⟨m, rfl⟩ : ∃ m : Nat, k = (m : Int) := Int.eq_ofNat_of_zero_le hk.1
    obtain ⟨_, hmf⟩ := hk
    rw [Int.toNat_natCast] at hmf hr
    have hm1 : m ≤ m * ie.bytes := Nat.le_mul_of_pos_right _ hpos
    have hw : IntKind.i64.wrap (m : Int) = m := by rw [IntKind.wrap_i64]; omega
    have hn0 : ¬ ((m : Int) < 0) := by omega
    have h48 : ¬ (281474976710656 < (m : Int) * (ie.bytes : Int)) := by
      have : ((m * ie.bytes : Nat) : Int) ≤ 281474976710656 := by omega
      rw [Int.natCast_mul] at this; omega
    refine op_appendL TK h Hs hd ho hb hts hxs hE hisz hbytes hf (zero_rows hnp hE.pos m) ?_ hr hok
    rw [hv, List.length_replicate]
    have hzc : (zeroVal (elemTy (T t).ty)).cells = (zeroVals (elemTy (T t).ty)).toArray := hE.z
    have hsz0 : ie.size ≠ 0 := by rw [hisz]; have := hE.pos; omega
    exact {
      zip := fun h0 => by
        subst h0
        have hw0 : IntKind.i64.wrap 0 = 0 := by rw [IntKind.wrap_i64]; rfl
        simp [Builtin.append_, run_underlying' hu, run_underlying' hu', sizeOf, typeInfo, hie, asInt, asIntOf, hw0]
      grow := fun {sb sLen sCap olds} holds hg hle hpos hfit => by
        have hn : ¬ (sLen + m ≤ sCap) := by omega
        have h1 : sLen + m ≤ (sLen + m) * ie.bytes := Nat.le_mul_of_pos_right _ hpos
        have hfit' : (sLen + m) * ie.bytes ≤ 281474976710656 := Nat.le_trans (Nat.mul_le_mul_right _ (by omega)) hfit
        have h63' : ¬ (9223372036854775807 < ((sLen : Int) + (m : Int))) := by omega
        have h48g := grow_fits hg hfit
        have h48' : ¬ (281474976710656 < Builtin.nextslicecap (sLen + m) sCap * ie.bytes) := by omega
        have hms : m * ie.size ≠ 0 := Nat.mul_ne_zero (by omega) hsz0
        simp [Builtin.append_, run_underlying' hu, run_underlying' hu', sizeOf, typeInfo, zeroValue, hie, hz, asInt, asIntOf, hw, hn0, h48, hn, h63', h48', Question.forced, holds, newRow, grownCap, hms, hzc]
      room := fun {b sLen sCap w'} hroom hst => by
        by_cases hm0 : m = 0
        · subst hm0
          have hw0 : IntKind.i64.wrap 0 = 0 := by rw [IntKind.wrap_i64]; rfl
          have e0 : (Builtin.zeroCells (zeroVals (elemTy (T t).ty)).toArray 0).toList = [] := by simp [Builtin.zeroCells]
          have e1 : (storeCells (b.add (sLen * ie.size)) []).run P w = .ok () w := by simp [storeCells]
          rw [e0, e1] at hst
          cases hst
          have hr0 : sLen ≤ sCap := by omega
          simp [Builtin.append_, run_underlying' hu, run_underlying' hu', sizeOf, typeInfo, hie, asInt, asIntOf, hw0, hr0, e1]
        · have hms : m * ie.size ≠ 0 := Nat.mul_ne_zero hm0 hsz0
          simp [Builtin.append_, run_underlying' hu, run_underlying' hu', sizeOf, typeInfo, zeroValue, hie, hz, asInt, asIntOf, hw, hn0, h48, hroom, hms, hzc]
          rw [hst]; rfl }
  · cases hr
end
end Go.Ev
