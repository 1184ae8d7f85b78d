/- Merging runs: what a plan keeps true.  Conditions: those that each theorem names. -/
import Derived.Test.YtjdambgnmphakaaOrA
set_option linter.unusedVariables false
set_option linter.unusedSimpArgs false
set_option maxHeartbeats 0
namespace Go.Pl
open Go Go.Ev Go.Sh
def seg (o : List Int) (s e : Nat) : List Int := (o.drop s).take (e - s)
theorem seg_length {o : List Int} {s e : Nat} (h : e ≤ o.length) : (seg o s e).length = e - s := by
  unfold seg
  rw [List.length_take, List.length_drop]; omega
theorem seg_split {o : List Int} {s m e : Nat} (h1 : s ≤ m) (h2 : m ≤ e) : seg o s e = seg o s m ++ seg o m e := by
  unfold seg
  rw [show e - s = (m - s) + (e - m) by omega, List.take_add, List.drop_drop, show s + (m - s) = m by omega]
theorem seg_nil (o : List Int) (s : Nat) : seg o s s = [] := by unfold seg; simp
theorem seg_cons {o : List Int} {s e : Nat} (h1 : s < e) (h2 : s < o.length) : seg o s e = rd o (s : Int) :: seg o (s + 1) e := by
  rw [seg_split (m := s + 1) (by omega) (by omega)]
  have : seg o s (s + 1) = [rd o (s : Int)] := by
    unfold seg
    rw [show s + 1 - s = 1 by omega, rdN, List.getD_eq_getElem?_getD, List.getElem?_eq_getElem h2, List.drop_eq_getElem_cons h2]; rfl
  rw [this]; rfl
theorem seg_snoc {o : List Int} {s e : Nat} (h1 : s ≤ e) (h2 : e < o.length) : seg o s (e + 1) = seg o s e ++ [rd o (e : Int)] := by
  rw [seg_split (m := e) h1 (by omega), seg_cons (s := e) (by omega) h2, seg_nil]
theorem seg_min (o : List Int) (s e : Nat) : seg o s e = seg o s (min o.length e) := by
  unfold seg
  by_cases h : e ≤ o.length
  · rw [Nat.min_eq_right h]
  · rw [Nat.min_eq_left (by omega), List.take_of_length_le (by rw [List.length_drop]; omega), List.take_of_length_le (by rw [List.length_drop]; omega)]
theorem seg_all {o : List Int} {e : Nat} (h : o.length ≤ e) : seg o 0 e = o := by
  unfold seg
  rw [List.drop_zero, List.take_of_length_le (by omega)]
theorem seg_out {o : List Int} {s e : Nat} (h : o.length ≤ s) : seg o s e = [] := by
  unfold seg
  rw [List.drop_of_length_le h, List.take_nil]
def put3 (o g : List Int) (f e : Nat) : List Int := o.take f ++ g ++ o.drop e
theorem put3_length {o g : List Int} {f e : Nat} (h1 : f ≤ e) (h2 : e ≤ o.length) (hg : g.length = e - f) : (put3 o g f e).length = o.length := by
  unfold put3
  rw [List.length_append, List.length_append, List.length_take, List.length_drop]; omega
theorem put3_low {o g : List Int} {f e s t : Nat} (h1 : t ≤ f) (h2 : f ≤ o.length) : seg (put3 o g f e) s t = seg o s t := by
  unfold seg put3
  by_cases hs : s ≤ t
  · rw [List.append_assoc, List.drop_append_of_le_length (by rw [List.length_take]; omega), List.take_append_of_le_length (by rw [List.length_drop, List.length_take]; omega), List.drop_take, List.take_take, Nat.min_eq_left (by omega)]
  · rw [show t - s = 0 by omega, List.take_zero, List.take_zero]
theorem put3_high {o g : List Int} {f e s t : Nat} (h1 : f ≤ e) (h2 : e ≤ o.length) (hg : g.length = e - f) (hs : e ≤ s) : seg (put3 o g f e) s t = seg o s t := by
  unfold seg put3
  rw [List.drop_append, List.drop_of_length_le (by rw [List.length_append, List.length_take]; omega), List.nil_append, List.drop_drop]
  congr 2
  rw [List.length_append, List.length_take]; omega
theorem put3_mid {o g : List Int} {f e t : Nat} (h1 : f ≤ e) (h2 : e ≤ o.length) (hg : g.length = e - f) (ht : e = t ∨ e = o.length ∧ e ≤ t) : seg (put3 o g f e) f t = g := by
  unfold seg put3
  rw [List.append_assoc, List.drop_append, List.drop_of_length_le (by rw [List.length_take]; omega), List.nil_append, List.length_take, Nat.min_eq_left (by omega), Nat.sub_self, List.drop_zero]
  rcases ht with rfl | ⟨rfl, ht⟩
  · rw [List.take_append_of_le_length (by omega), List.take_of_length_le (by omega)]
  · rw [List.drop_of_length_le (Nat.le_refl _), List.append_nil, List.take_of_length_le (by omega)]
def Srt (v : Int → Int) (l : List Int) : Prop := l.Pairwise fun x y => v x ≤ v y
theorem Srt.nil (v : Int → Int) : Srt v [] := List.Pairwise.nil
theorem srt_app {v : Int → Int} {a b : List Int} : Srt v (a ++ b) ↔ Srt v a ∧ Srt v b ∧ ∀ x ∈ a, ∀ y ∈ b, v x ≤ v y := List.pairwise_append
theorem srt_cons {v : Int → Int} {x : Int} {b : List Int} (h : Srt v (x :: b)) : ∀ y ∈ b, v x ≤ v y := (List.pairwise_cons.1 h).1
def iota (n : Nat) : List Int := (List.range n).map fun i : Nat => (i : Int)
theorem iota_length (n : Nat) : (iota n).length = n := by simp [iota]
theorem iota_succ (n : Nat) : iota (n + 1) = iota n ++ [(n : Int)] := by
  unfold iota
  rw [List.range_succ, List.map_append]; rfl
theorem iota_good {o : List Int} {n : Nat} (h : o.Perm (iota n)) : Good o := by
  have hl : o.length = n := by rw [h.length_eq, iota_length]
  have hnd : o.Nodup := by
    rw [h.nodup_iff]
    unfold iota
    rw [List.nodup_iff_pairwise_ne, List.pairwise_map]
    refine List.Pairwise.imp (fun {a b} (hab : a ≠ b) => ?_) (List.nodup_iff_pairwise_ne.1 List.nodup_range)
    omega
  refine ⟨fun i hi => ?_, fun i j hi hj e => ?_⟩
  · have hm := h.mem_iff.1 (rd_mem hi)
    unfold iota at hm
    obtain ⟨j, hj, he⟩ := List.mem_map.1 hm
    have := List.mem_range.1 hj
    rw [← he, hl]; omega
  · by_cases hij : i = j
    · exact hij
    · exfalso
      rw [rdN, rdN, List.getD_eq_getElem?_getD, List.getD_eq_getElem?_getD, List.getElem?_eq_getElem hi, List.getElem?_eq_getElem hj] at e
      have hp := List.pairwise_iff_getElem.1 (List.nodup_iff_pairwise_ne.1 hnd)
      by_cases h1 : i < j
      · exact hp i j hi hj h1 e
      · exact hp j i hj hi (by omega) e.symm
def mid (n F W : Nat) : Nat := min n (F + W)
def fin (n F W : Nat) : Nat := min n (F + 2 * W)
structure PI (v : Int → Int) (n : Nat) (o : List Int) (W F a b : Nat) (g : List Int) : Prop where
  perm : o.Perm (iota n)
  dv : 2 * W ∣ F
  fn : F < n ∨ F = 0
  wide : n ≤ W → F = 0
  pos : 1 ≤ W
  hup : ∀ s, F ≤ s → W ∣ s → Srt v (seg o s (s + W))
  hdn : ∀ s, s + 2 * W ≤ F → 2 * W ∣ s → Srt v (seg o s (s + 2 * W))
  ha : F + a ≤ mid n F W
  hb : mid n F W + b ≤ fin n F W
  gp : g.Perm (seg o F (F + a) ++ seg o (mid n F W) (mid n F W + b))
  gs : Srt v g
  gl : ∀ x ∈ g, ∀ y ∈ seg o (F + a) (mid n F W) ++ seg o (mid n F W + b) (fin n F W), v x ≤ v y
section
variable {v : Int → Int} {n : Nat} {o : List Int} {W F a b : Nat} {g : List Int}
theorem PI.len (h : PI v n o W F a b g) : o.length = n := by rw [h.perm.length_eq, iota_length]
theorem PI.Fn (h : PI v n o W F a b g) (hW : W < n) : F < n := by
  rcases h.fn with h1 | h1
  · exact h1
  · omega
theorem PI.left (h : PI v n o W F a b g) : Srt v (seg o F (mid n F W)) := by
  have h1 := h.hup F (Nat.le_refl _) (Nat.dvd_trans (Nat.dvd_mul_left W 2) h.dv)
  rw [seg_min, h.len] at h1
  exact h1
theorem PI.right (h : PI v n o W F a b g) : Srt v (seg o (mid n F W) (fin n F W)) := by
  by_cases hs : F + W ≤ n
  · have e : mid n F W = F + W := Nat.min_eq_right hs
    have h1 := h.hup (F + W) (by omega) (Nat.dvd_add (Nat.dvd_trans (Nat.dvd_mul_left W 2) h.dv) (Nat.dvd_refl W))
    rw [seg_min, h.len, show F + W + W = F + 2 * W by omega] at h1
    rw [e]; exact h1
  · rw [seg_out (by rw [h.len]; unfold mid; omega)]
    exact Srt.nil v
theorem mid_le (n F W : Nat) : mid n F W ≤ fin n F W ∧ fin n F W ≤ n := by unfold mid fin; omega
theorem PI.fresh (perm : o.Perm (iota n)) (dv : 2 * W ∣ F) (fn : F < n ∨ F = 0) (wide : n ≤ W → F = 0) (pos : 1 ≤ W) (hup : ∀ s, F ≤ s → W ∣ s → Srt v (seg o s (s + W))) (hdn : ∀ s, s + 2 * W ≤ F → 2 * W ∣ s → Srt v (seg o s (s + 2 * W))) : PI v n o W F 0 0 [] := by
  have hm := mid_le n F W
  refine ⟨perm, dv, fn, wide, pos, hup, hdn, ?_, by omega, ?_, Srt.nil v, fun x hx => by simp at hx⟩
  · unfold mid; omega
  · rw [Nat.add_zero, Nat.add_zero, seg_nil, seg_nil]; exact List.Perm.refl _
def rest (n : Nat) (o : List Int) (W F a b : Nat) (g : List Int) : List Int := g ++ seg o (F + a) (mid n F W) ++ seg o (mid n F W + b) (fin n F W)
theorem PI.rest_length (h : PI v n o W F a b g) (hF : F ≤ n) : (rest n o W F a b g).length = fin n F W - F := by
  have hl := h.len
  have ha := h.ha
  have hb := h.hb
  have hm := mid_le n F W
  have hg := h.gp.length_eq
  rw [List.length_append, seg_length (by omega), seg_length (by omega)] at hg
  unfold rest
  rw [List.length_append, List.length_append, seg_length (by omega), seg_length (by omega)]
  omega
theorem PI.rest_perm (h : PI v n o W F a b g) : (rest n o W F a b g).Perm (seg o F (fin n F W)) := by
  have hm := mid_le n F W
  have ha := h.ha
  have hb := h.hb
  rw [List.perm_iff_count]
  intro x
  have hg := List.perm_iff_count.1 h.gp x
  unfold rest
  rw [seg_split (s := F) (m := mid n F W) (e := fin n F W) (by omega) (by omega), seg_split (s := F) (m := F + a) (e := mid n F W) (by omega) (by omega), seg_split (s := mid n F W) (m := mid n F W + b) (e := fin n F W) (by omega) (by omega)]
  simp only [List.count_append] at hg ⊢
  omega
theorem PI.rest_sorted (h : PI v n o W F a b g) (hno : ¬ (F + a < mid n F W ∧ mid n F W + b < fin n F W)) : Srt v (rest n o W F a b g) := by
  have hm := mid_le n F W
  have ha := h.ha
  have hb := h.hb
  have hL := h.left
  have hR := h.right
  rw [seg_split (m := F + a) (by omega) (by omega), srt_app] at hL
  rw [seg_split (m := mid n F W + b) (by omega) (by omega), srt_app] at hR
  unfold rest
  refine srt_app.2 ⟨srt_app.2 ⟨h.gs, hL.2.1, fun x hx y hy => h.gl x hx y (List.mem_append.2 (.inl hy))⟩, hR.2.1, fun x hx y hy => ?_⟩
  rcases List.mem_append.1 hx with hx | hx
  · exact h.gl x hx y (List.mem_append.2 (.inr hy))
  · exfalso
    by_cases h1 : F + a < mid n F W
    · have : mid n F W + b = fin n F W := by omega
      rw [this, seg_nil] at hy; simp at hy
    · have : F + a = mid n F W := by omega
      rw [this, seg_nil] at hx; simp at hx
theorem dvd_le {d s t : Nat} (h1 : d ∣ s) (h2 : d ∣ t) (h : s < t) : s + d ≤ t := by
  have := Nat.le_of_dvd (by omega) (Nat.dvd_sub h2 h1)
  omega
theorem PI.merge (h : PI v n o W F a b g) (hW : W < n) (hno : ¬ (F + a < mid n F W ∧ mid n F W + b < fin n F W)) :
    (fin n F W < n → PI v n (put3 o (rest n o W F a b g) F (fin n F W)) W (fin n F W) 0 0 []) ∧ (n ≤ fin n F W → PI v n (put3 o (rest n o W F a b g) F (fin n F W)) (2 * W) 0 0 0 []) := by
  have hF := h.Fn hW
  have hl := h.len
  have hm := mid_le n F W
  have hrl := h.rest_length (by omega)
  have hrp := h.rest_perm
  have hrs := h.rest_sorted hno
  have hFE : F ≤ fin n F W := by unfold fin; omega
  have hpos := h.pos
  generalize hG : rest n o W F a b g = G at *
  have hperm : (put3 o G F (fin n F W)).Perm (iota n) := by
    refine List.Perm.trans ?_ h.perm
    rw [List.perm_iff_count]
    intro x
    have hg := List.perm_iff_count.1 hrp x
    have e : o = o.take F ++ seg o F (fin n F W) ++ o.drop (fin n F W) := by
      have h1 := seg_split (o := o) (s := 0) (m := F) (e := fin n F W) (by omega) hFE
      have h2 := seg_split (o := o) (s := 0) (m := fin n F W) (e := o.length) (by omega) (by omega)
      rw [seg_all (Nat.le_refl _), h1] at h2
      unfold seg at h2
      rw [List.drop_zero, Nat.sub_zero, List.take_of_length_le (l := o.drop (fin n F W)) (by rw [List.length_drop]; omega)] at h2
      exact h2
    have e2 := congrArg (List.count x) e
    unfold put3
    simp only [List.count_append] at e2 ⊢
    omega
  -- the runs of the new width
  have hnew : ∀ s, s ≤ F → 2 * W ∣ s → Srt v (seg (put3 o G F (fin n F W)) s (s + 2 * W)) := by
    intro s hs hd
    by_cases e : s = F
    · subst e
      rw [put3_mid hFE (by omega) hrl (by unfold fin; omega)]
      exact hrs
    · have := dvd_le hd h.dv (by omega)
      rw [put3_low this (by omega)]
      exact h.hdn s this hd
  refine ⟨fun hlt => ?_, fun hge => ?_⟩
  · have e : fin n F W = F + 2 * W := by unfold fin at hlt ⊢; omega
    refine PI.fresh hperm (by rw [e]; exact Nat.dvd_add h.dv (Nat.dvd_refl _)) (.inl hlt) (fun hh => by omega) hpos (fun s hs hd => ?_) (fun s hs hd => ?_)
    · rw [put3_high hFE (by omega) hrl hs]
      exact h.hup s (by omega) hd
    · exact hnew s (by omega) hd
  · refine PI.fresh hperm (Nat.dvd_zero _) (.inr rfl) (fun _ => rfl) (by omega) (fun s _ hd => ?_) (fun s hs _ => by omega)
    by_cases hs : s ≤ F
    · exact hnew s hs hd
    · have := dvd_le h.dv hd (by omega)
      rw [seg_out (by rw [put3_length hFE (by omega) hrl, hl]; unfold fin at hge; omega)]
      exact Srt.nil v
theorem PI.tell (h : PI v n o W F a b g) (h1 : F + a < mid n F W) (h2 : mid n F W + b < fin n F W) :
    (v (rd o ((mid n F W + b : Nat) : Int)) < v (rd o ((F + a : Nat) : Int)) → PI v n o W F a (b + 1) (g ++ [rd o ((mid n F W + b : Nat) : Int)])) ∧
    (¬ v (rd o ((mid n F W + b : Nat) : Int)) < v (rd o ((F + a : Nat) : Int)) → PI v n o W F (a + 1) b (g ++ [rd o ((F + a : Nat) : Int)])) := by
  have hl := h.len
  have hm := mid_le n F W
  have hL := h.left
  have hR := h.right
  rw [seg_split (m := F + a) (by omega) (by omega), seg_cons (s := F + a) h1 (by omega), srt_app] at hL
  rw [seg_split (m := mid n F W + b) (by omega) (by omega), seg_cons (s := mid n F W + b) h2 (by omega), srt_app] at hR
  have hl1 := srt_cons hL.2.1
  have hr1 := srt_cons hR.2.1
  have hgl := h.gl
  rw [seg_cons (s := F + a) h1 (by omega), seg_cons (s := mid n F W + b) h2 (by omega)] at hgl
  refine ⟨fun hlt => ?_, fun hge => ?_⟩
  · refine { h with hb := by omega, gp := ?_, gs := ?_, gl := ?_ }
    · rw [← Nat.add_assoc, seg_snoc (by omega) (by omega), List.perm_iff_count]
      intro x
      have hg := List.perm_iff_count.1 h.gp x
      simp only [List.count_append] at hg ⊢
      omega
    · exact srt_app.2 ⟨h.gs, List.pairwise_singleton _ _, fun x hx y hy => by rw [List.mem_singleton.1 hy]; exact hgl x hx _ (by simp)⟩
    · intro x hx y hy
      rw [seg_cons (s := F + a) h1 (by omega), ← Nat.add_assoc] at hy
      rcases List.mem_append.1 hx with hx | hx
      · refine hgl x hx y ?_
        rcases List.mem_append.1 hy with hy | hy
        · exact List.mem_append.2 (.inl hy)
        · exact List.mem_append.2 (.inr (List.mem_cons_of_mem _ hy))
      · rw [List.mem_singleton.1 hx]
        rcases List.mem_append.1 hy with hy | hy
        · rcases List.mem_cons.1 hy with rfl | hy
          · omega
          · have := hl1 y hy; omega
        · exact hr1 y hy
  · refine { h with ha := by omega, gp := ?_, gs := ?_, gl := ?_ }
    · rw [← Nat.add_assoc, seg_snoc (by omega) (by omega), List.perm_iff_count]
      intro x
      have hg := List.perm_iff_count.1 h.gp x
      simp only [List.count_append] at hg ⊢
      omega
    · exact srt_app.2 ⟨h.gs, List.pairwise_singleton _ _, fun x hx y hy => by rw [List.mem_singleton.1 hy]; exact hgl x hx _ (by simp)⟩
    · intro x hx y hy
      rw [seg_cons (s := mid n F W + b) h2 (by omega), ← Nat.add_assoc] at hy
      rcases List.mem_append.1 hx with hx | hx
      · refine hgl x hx y ?_
        rcases List.mem_append.1 hy with hy | hy
        · exact List.mem_append.2 (.inl (List.mem_cons_of_mem _ hy))
        · exact List.mem_append.2 (.inr hy)
      · rw [List.mem_singleton.1 hx]
        rcases List.mem_append.1 hy with hy | hy
        · exact hl1 y hy
        · rcases List.mem_cons.1 hy with rfl | hy
          · omega
          · have := hr1 y hy; omega
theorem PI.done (h : PI v n o W F a b g) (hW : n ≤ W) : Srt v o := by
  have h1 := h.hup 0 (by have := h.wide hW; omega) (Nat.dvd_zero _)
  rw [seg_all (by rw [h.len]; omega)] at h1
  exact h1
end
end Go.Pl
