/- A law whose row lists package-level variables: its row from its plain function.  Conditions: those that the theorem names. -/
import Derived.Test.YtnopjcpoeffoiaaGreatDoorE4
import Derived.Lay
import Derived.SizedLaws
import Derived.OpenShut
import Derived.ChangeCalls
set_option linter.unusedVariables false
set_option linter.unusedSimpArgs false
namespace Go.Ev
open Go Go.ChangeShapes Go.RowKit
theorem law_okL {H : Type} {enc : TypeId × Value → H} {C : Checked} {os : Os} {f : FuncId} {fn : Func} {s : ChangeSpec} {conds : List PathCond} {apart fresh handsOn : Bool} {A : List PSh} {tb : TypeId} {X : World → Array Value → Prop}
    (hX : ∀ (w w' : World) (args : Array Value), w.heap = w'.heap → X w args → X w' args)
    (own : ownKnob C.prog.godebug = none) (started : os.Started) (noInit : C.prog.inits.idxOf? f = none) (hfn : C.prog.funcs[f]? = some fn)
    (witness : ∃ (w : World) (tape : Tape) (i : Input), w.os = os ∧ (w.forCall tape i).Shaped C.prog ∧ i.vars = [] ∧ Input.okWide C.prog (w.forCall tape i) .any w.heap.size f i ∧
      ((s.pre enc C.prog fn conds apart (w.forCall tape i).memory i.args ∧ X (w.forCall tape i).memory i.args) ∧ sizedMet enc C.prog fn (OpenSpec.ofChange s) apart (w.forCall tape i).memory i.args) ∧ Assume.holds {} C.prog (lone (Frame.enter C.prog f i.args .normal) [] (w.forCall tape i)))
    (hlaid : laidOutB C.prog = true) (hrd : readsA C.prog A fn.params.toList = true) (hrr : (fn.params.toList.all fun t => C.prog.readableRec t && Nat.blt t C.prog.types.size) = true)
    (hvars : s.vars = []) (hres : fn.resultTypes = #[tb]) (htb : C.prog.underlying tb = some .bool)
    (hsp : ∀ ds : List (DataW H), ds.length = fn.params.toList.length → s.fn H ds = { results := [.lit (.bool true)], args := ds })
    (hlaw : ∀ x : denA A, WfA A x → ∃ run, SpecOK C.prog ⟨f, A, [.dat .bool], run⟩ ∧ run x = some true) :
    ReturnsInHanded {} C os f .any (fun w args => (s.pre enc C.prog fn conds apart w args ∧ X w args) ∧ sizedMet enc C.prog fn (OpenSpec.ofChange s) apart w args) (s.post enc C.prog fn apart fresh handsOn false) := by
  refine returnsInHanded_of_change_and hX own started noInit hfn witness ?_
  intro W base args ds gs before hval hW hcnd hsz _ _
  have hW' := hW
  obtain ⟨p, q, hA0, hV, rfl, hfz, hnd⟩ := hW
  rw [hvars] at hV
  obtain ⟨rfl, rfl⟩ := trodVars_none hV
  have hlen := (trodAll_length hA0).2
  have hsz' : ∀ n ∈ DataW.weightsEach C.prog fn.params.toList ds, n ≤ reachBytes := by
    intro n hn
    have := List.all_eq_true.1 hsz n (by
      simp only [List.append_nil, ChangeSpec.plain, DataSpec.varTypes, hvars]
      simpa using hn)
    simpa using this
  obtain ⟨x, hx, hwf⟩ := args_ok (A := A) hrd hA0 (fun j t v hj hv => hval j t v (by simpa using hj) (by simpa using hv)) hsz'
  obtain ⟨run, hspec, hrun⟩ := hlaw x hwf
  have hcall := hspec.run x true W (Rall W) args.toList hrun hx (fun b hb => hb) (by rw [wins_dat hrd]; exact List.Pairwise.nil)
  simp only [Array.toArray_toList] at hcall
  refine hcall.mono fun e W' he => ?_
  cases e with
  | returned v =>
    obtain ⟨R', vs, rfl, hr, _, _, _, hk⟩ := he
    obtain ⟨v, rest, rfl, hv, hrest⟩ : ∃ v rest, vs = v :: rest ∧ ResR W W' R' args.toList (oneVal [.dat .bool]) (.dat .bool) true v ∧ rest = [] := hr
    subst hrest
    have hv' : v = .bool true := by
      have h1 : CR W' R' .bool true [v] := hv
      simpa [CR] using h1
    subst hv'
    have hb : Below W.heap.size W W' := ⟨hk.io.1, hk.io.2.1, hk.io.2.2, hk.size, fun k hk' => hk.old k hk' (by show ∀ p ∈ wins A args.toList, _; rw [wins_dat hrd]; simp)⟩
    have hlt : ∀ x ∈ p, x.block < W.heap.size := fun x hx => hW'.lt x (by simp [hx])
    refine ⟨_, rfl, ds, [], p ++ [], [], p, [], hW', ?_, ?_, ?_, hb.frame _, fun h => by cases h⟩
    · rw [List.append_nil, hsp ds hlen, hres]
      exact trodAll_mk1 (shut_true htb true)
    · rw [List.append_nil, hsp ds hlen]
      exact trodAll_below hlaid hb (fun t ht => by
        have := List.all_eq_true.1 hrr t ht
        simp only [Bool.and_eq_true, Nat.blt_eq] at this
        exact this) hA0 hlt
    · rw [List.append_nil, hsp ds hlen, hvars]; rfl
  | _ => exact he.elim
end Go.Ev
