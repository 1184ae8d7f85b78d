/- The functions keep their word, by wip/gen/gen.py.  Conditions: none. -/
import Derived.Test.YtjodgimhfafecaaShE
import Derived.Test.YtjodgimhfafecaaE4
import Derived.Test.YtjodgimhfafecaaChecked
set_option linter.unusedVariables false
set_option maxRecDepth 100000
set_option maxHeartbeats 0
namespace Go.Sh
open Go Go.Ev

theorem spec_none {P : Program} {f : FuncId} {fn : Func} {A : List PSh} {B : List RSh} {run : denA A → Option (denB B)} (hf : P.funcs[f]? = some fn) (hname : fn.name ≠ "runtime.NumGoroutine") (hb : fn.body.isSome = true) (hw : wfE A B = true) (h : ∀ x, run x = none) : SpecOK P ⟨f, A, B, run⟩ where
  run := fun x y w R args hrun => by
    have h1 : run x = some y := hrun
    rw [h] at h1; cases h1
  fn := ⟨fn, hf, hname, hb⟩
  wf := hw

theorem tt_3 : TyOK Go.Proofs.Try.prog 3 ⟨.int .i64, 0, [], false, true⟩ := tyInt (by kernel_rfl) (by kernel_rfl)
theorem tt_4 : TyOK Go.Proofs.Try.prog 4 ⟨.bool, 0, [], false, true⟩ := tyBool (by kernel_rfl) (by kernel_rfl)
theorem tt_5 : TyOK Go.Proofs.Try.prog 5 ⟨.int .u8, 0, [], false, true⟩ := tyInt (by kernel_rfl) (by kernel_rfl)
theorem tt_9 : TyOK Go.Proofs.Try.prog 9 ⟨.str, 0, [], false, true⟩ := tyStr (by kernel_rfl) (by kernel_rfl)
theorem tt_22 : TyOK Go.Proofs.Try.prog 22 ⟨.list (.int .u32), 4, [], false, true⟩ := tyList (et := 88) (by kernel_rfl) (by kernel_rfl) (by kernel_rfl) (by kernel_rfl) (by kernel_rfl) (by kernel_rfl) (fun k h => by cases h; kernel_rfl)
theorem tt_24 : TyOK Go.Proofs.Try.prog 24 ⟨.st (.pair (.bool) (.list (.int .u32))), 0, [(0, .bool), (1, .list (.int .u32))], false, true⟩ := tySt (fs := fieldsOf' Go.Proofs.Try.prog 24) (by kernel_rfl) (by kernel_rfl) (by kernel_rfl) (by kernel_rfl)
theorem tt_26 : TyOK Go.Proofs.Try.prog 26 ⟨.st (.pair (.st (.pair (.bool) (.list (.int .u32)))) (.pair (.st (.pair (.bool) (.list (.int .u32)))) (.st (.pair (.bool) (.list (.int .u32)))))), 0, [(0, .st (.pair (.bool) (.list (.int .u32)))), (2, .st (.pair (.bool) (.list (.int .u32)))), (4, .st (.pair (.bool) (.list (.int .u32))))], false, true⟩ := tySt (fs := fieldsOf' Go.Proofs.Try.prog 26) (by kernel_rfl) (by kernel_rfl) (by kernel_rfl) (by kernel_rfl)
theorem tt_28 : TyOK Go.Proofs.Try.prog 28 ⟨.st (.pair (.int .i64) (.int .i64)), 0, [(0, .int .i64), (1, .int .i64)], true, true⟩ := tyStE (fs := fieldsOf' Go.Proofs.Try.prog 28) (by kernel_rfl) (by kernel_rfl) (by kernel_rfl) (by kernel_rfl) (by kernel_rfl) (by kernel_rfl) (by kernel_rfl) (by kernel_rfl) (by kernel_rfl)
theorem tt_35 : TyOK Go.Proofs.Try.prog 35 ⟨.list (.int .i64), 8, [], false, true⟩ := tyList (et := 3) (by kernel_rfl) (by kernel_rfl) (by kernel_rfl) (by kernel_rfl) (by kernel_rfl) (by kernel_rfl) (fun k h => by cases h; kernel_rfl)
theorem tt_37 : TyOK Go.Proofs.Try.prog 37 ⟨.st (.pair (.bool) (.list (.int .i64))), 0, [(0, .bool), (1, .list (.int .i64))], false, true⟩ := tySt (fs := fieldsOf' Go.Proofs.Try.prog 37) (by kernel_rfl) (by kernel_rfl) (by kernel_rfl) (by kernel_rfl)
theorem tt_41 : TyOK Go.Proofs.Try.prog 41 ⟨.st (.pair (.st (.pair (.bool) (.list (.int .i64)))) (.pair (.st (.pair (.bool) (.list (.int .i64)))) (.pair (.st (.pair (.bool) (.list (.int .i64)))) (.st (.pair (.bool) (.list (.int .i64))))))), 0, [(0, .st (.pair (.bool) (.list (.int .i64)))), (2, .st (.pair (.bool) (.list (.int .i64)))), (4, .st (.pair (.bool) (.list (.int .i64)))), (6, .st (.pair (.bool) (.list (.int .i64))))], false, true⟩ := tySt (fs := fieldsOf' Go.Proofs.Try.prog 41) (by kernel_rfl) (by kernel_rfl) (by kernel_rfl) (by kernel_rfl)
theorem tt_63 : TyOK Go.Proofs.Try.prog 63 ⟨.list (.st (.pair (.bool) (.list (.int .u32)))), 32, [], false, true⟩ := tyList (et := 24) (by kernel_rfl) (by kernel_rfl) (by kernel_rfl) (by kernel_rfl) (by kernel_rfl) (by kernel_rfl) (fun k h => by cases h)
theorem tt_72 : TyOK Go.Proofs.Try.prog 72 ⟨.st (.pair (.st (.pair (.bool) (.list (.int .u32)))) (.pair (.st (.pair (.bool) (.list (.int .u32)))) (.st (.pair (.bool) (.list (.int .u32)))))), 0, [(0, .st (.pair (.bool) (.list (.int .u32)))), (2, .st (.pair (.bool) (.list (.int .u32)))), (4, .st (.pair (.bool) (.list (.int .u32))))], false, true⟩ := tySt (fs := fieldsOf' Go.Proofs.Try.prog 72) (by kernel_rfl) (by kernel_rfl) (by kernel_rfl) (by kernel_rfl)
theorem tt_86 : TyOK Go.Proofs.Try.prog 86 ⟨.list (.bool), 1, [], false, true⟩ := tyList (et := 4) (by kernel_rfl) (by kernel_rfl) (by kernel_rfl) (by kernel_rfl) (by kernel_rfl) (by kernel_rfl) (fun k h => by cases h)
theorem tt_88 : TyOK Go.Proofs.Try.prog 88 ⟨.int .u32, 0, [], false, true⟩ := tyInt (by kernel_rfl) (by kernel_rfl)
theorem tt_94 : TyOK Go.Proofs.Try.prog 94 ⟨.list (.st (.pair (.st (.pair (.bool) (.list (.int .u32)))) (.pair (.st (.pair (.bool) (.list (.int .u32)))) (.st (.pair (.bool) (.list (.int .u32))))))), 96, [], false, true⟩ := tyList (et := 26) (by kernel_rfl) (by kernel_rfl) (by kernel_rfl) (by kernel_rfl) (by kernel_rfl) (by kernel_rfl) (fun k h => by cases h)
theorem tt_95 : TyOK Go.Proofs.Try.prog 95 ⟨.int .u64, 0, [], false, true⟩ := tyInt (by kernel_rfl) (by kernel_rfl)
theorem tt_ok : TypesOK Go.Proofs.Try.prog tt := types_ok (rows := ttRows) (forall_cons tt_3 (forall_cons tt_4 (forall_cons tt_5 (forall_cons tt_9 (forall_cons tt_22 (forall_cons tt_24 (forall_cons tt_26 (forall_cons tt_28 (forall_cons tt_35 (forall_cons tt_37 (forall_cons tt_41 (forall_cons tt_63 (forall_cons tt_72 (forall_cons tt_86 (forall_cons tt_88 (forall_cons tt_94 (forall_cons tt_95 forall_nil)))))))))))))))))
theorem follows : Go.Proofs.Try.prog.follows .mixedOrders = true := by kernel_rfl

theorem integer_Valid.tab_ok  : ∀ E ∈ integer_Valid.tab, SpecOK Go.Proofs.Try.prog E := forall_nil
theorem integer_Valid.spec  : SpecOK Go.Proofs.Try.prog (integer_Valid.E) :=
  fn_ok (c := bodyOf Go.Proofs.Try.f61) tt_ok (integer_Valid.tab_ok) follows Go.Proofs.Try.func61 rfl (name_ne (by kernel_rfl)) (by kernel_rfl) (Nat.le_of_ble_eq_true (by kernel_rfl)) (Nat.le_of_ble_eq_true (by kernel_rfl)) (annOK_nil _) integer_Valid.ev

theorem ranges_fits.tab_ok  : ∀ E ∈ ranges_fits.tab, SpecOK Go.Proofs.Try.prog E := (forall_cons integer_Valid.spec forall_nil)
theorem ranges_fits.spec  : SpecOK Go.Proofs.Try.prog (ranges_fits.E) :=
  fn_ok (c := bodyOf Go.Proofs.Try.f62) tt_ok (ranges_fits.tab_ok) follows Go.Proofs.Try.func62 rfl (name_ne (by kernel_rfl)) (by kernel_rfl) (Nat.le_of_ble_eq_true (by kernel_rfl)) (Nat.le_of_ble_eq_true (by kernel_rfl)) (annOK_nil _) ranges_fits.ev

theorem ranges_Valid.tab_ok  : ∀ E ∈ ranges_Valid.tab, SpecOK Go.Proofs.Try.prog E := (forall_cons ranges_fits.spec forall_nil)
theorem ranges_Valid.spec  : SpecOK Go.Proofs.Try.prog (ranges_Valid.E) :=
  fn_ok (c := bodyOf Go.Proofs.Try.f35) tt_ok (ranges_Valid.tab_ok) follows Go.Proofs.Try.func35 rfl (name_ne (by kernel_rfl)) (by kernel_rfl) (Nat.le_of_ble_eq_true (by kernel_rfl)) (Nat.le_of_ble_eq_true (by kernel_rfl)) (annOK_nil _) ranges_Valid.ev

theorem ranges_at.tab_ok  : ∀ E ∈ ranges_at.tab, SpecOK Go.Proofs.Try.prog E := forall_nil
theorem ranges_at.spec  : SpecOK Go.Proofs.Try.prog (ranges_at.E) :=
  fn_ok (c := bodyOf Go.Proofs.Try.f60) tt_ok (ranges_at.tab_ok) follows Go.Proofs.Try.func60 rfl (name_ne (by kernel_rfl)) (by kernel_rfl) (Nat.le_of_ble_eq_true (by kernel_rfl)) (Nat.le_of_ble_eq_true (by kernel_rfl)) (annOK_nil _) ranges_at.ev

theorem ranges_check.tab_ok (k : Nat) : ∀ E ∈ ranges_check.tab k, SpecOK Go.Proofs.Try.prog E := (forall_cons ranges_Valid.spec (forall_cons ranges_at.spec forall_nil))
theorem ranges_check.l0_ok (k : Nat) : LoopOK Go.Proofs.Try.prog Go.Proofs.Try.f38.ntmps (finOf tt ranges_check.B Go.Proofs.Try.f38.results.toList) (cAt [1, 0, 1, 0, 0] (bodyOf Go.Proofs.Try.f38)) ranges_check.M0 ranges_check.O0 0 (fun x => ranges_check.l0 k k x.1 x.2.1 x.2.2.1 x.2.2.2) :=
  loop_ok (R0 := denB ranges_check.B) (M := ranges_check.M0) (O := ranges_check.O0) (L := fun m (x : ranges_check.M0.den) => ranges_check.l0 k m x.1 x.2.1 x.2.2.1 x.2.2.2) tt_ok (ranges_check.tab_ok k) follows (ann := .nil) (annOK_nil _) (fun _ => rfl) (fun m x => ranges_check.l0_ev k m x) k
theorem ranges_check.spec (k : Nat) : SpecOK Go.Proofs.Try.prog (ranges_check.E k) :=
  fn_ok (c := bodyOf Go.Proofs.Try.f38) tt_ok (ranges_check.tab_ok k) follows Go.Proofs.Try.func38 rfl (name_ne (by kernel_rfl)) (by kernel_rfl) (Nat.le_of_ble_eq_true (by kernel_rfl)) (Nat.le_of_ble_eq_true (by kernel_rfl)) (annOK_seq (annOK_nil _) (annOK_seq (annOK_seq (annOK_nil _) (annOK_block (annOK_loop (ranges_check.l0_ok k)))) (annOK_nil _))) (ranges_check.ev k)

theorem integer_Of.tab_ok (k : Nat) : ∀ E ∈ integer_Of.tab k, SpecOK Go.Proofs.Try.prog E := forall_nil
theorem integer_Of.l0_ok (k : Nat) : LoopOK Go.Proofs.Try.prog Go.Proofs.Try.f39.ntmps (finOf tt integer_Of.B Go.Proofs.Try.f39.results.toList) (cAt [1, 1, 1, 1, 0, 0, 0] (bodyOf Go.Proofs.Try.f39)) integer_Of.M0 integer_Of.O0 0 (fun x => integer_Of.l0 k k x.1 x.2.1 x.2.2) :=
  loop_ok (R0 := denB integer_Of.B) (M := integer_Of.M0) (O := integer_Of.O0) (L := fun m (x : integer_Of.M0.den) => integer_Of.l0 k m x.1 x.2.1 x.2.2) tt_ok (integer_Of.tab_ok k) follows (ann := .nil) (annOK_nil _) (fun _ => rfl) (fun m x => integer_Of.l0_ev k m x) k
theorem integer_Of.spec (k : Nat) : SpecOK Go.Proofs.Try.prog (integer_Of.E k) :=
  fn_ok (c := bodyOf Go.Proofs.Try.f39) tt_ok (integer_Of.tab_ok k) follows Go.Proofs.Try.func39 rfl (name_ne (by kernel_rfl)) (by kernel_rfl) (Nat.le_of_ble_eq_true (by kernel_rfl)) (Nat.le_of_ble_eq_true (by kernel_rfl)) (annOK_seq (annOK_nil _) (annOK_seq (annOK_nil _) (annOK_jseq (annOK_nil _) (annOK_seq (annOK_nil _) (annOK_seq (annOK_block (annOK_loop (integer_Of.l0_ok k))) (annOK_nil _)))))) (integer_Of.ev k)

theorem ranges_sign.tab_ok (k : Nat) : ∀ E ∈ ranges_sign.tab k, SpecOK Go.Proofs.Try.prog E := (forall_cons (integer_Of.spec k) forall_nil)
theorem ranges_sign.spec (k : Nat) : SpecOK Go.Proofs.Try.prog (ranges_sign.E k) :=
  fn_ok (c := bodyOf Go.Proofs.Try.f64) tt_ok (ranges_sign.tab_ok k) follows Go.Proofs.Try.func64 rfl (name_ne (by kernel_rfl)) (by kernel_rfl) (Nat.le_of_ble_eq_true (by kernel_rfl)) (Nat.le_of_ble_eq_true (by kernel_rfl)) (annOK_nil _) (ranges_sign.ev k)

theorem integer_at.tab_ok  : ∀ E ∈ integer_at.tab, SpecOK Go.Proofs.Try.prog E := forall_nil
theorem integer_at.spec  : SpecOK Go.Proofs.Try.prog (integer_at.E) :=
  fn_ok (c := bodyOf Go.Proofs.Try.f81) tt_ok (integer_at.tab_ok) follows Go.Proofs.Try.func81 rfl (name_ne (by kernel_rfl)) (by kernel_rfl) (Nat.le_of_ble_eq_true (by kernel_rfl)) (Nat.le_of_ble_eq_true (by kernel_rfl)) (annOK_nil _) integer_at.ev

theorem integer_check.tab_ok (k : Nat) : ∀ E ∈ integer_check.tab k, SpecOK Go.Proofs.Try.prog E := (forall_cons integer_Valid.spec (forall_cons integer_at.spec forall_nil))
theorem integer_check.l0_ok (k : Nat) : LoopOK Go.Proofs.Try.prog Go.Proofs.Try.f80.ntmps (finOf tt integer_check.B Go.Proofs.Try.f80.results.toList) (cAt [1, 0, 1, 0, 0] (bodyOf Go.Proofs.Try.f80)) integer_check.M0 integer_check.O0 0 (fun x => integer_check.l0 k k x.1 x.2.1 x.2.2.1 x.2.2.2) :=
  loop_ok (R0 := denB integer_check.B) (M := integer_check.M0) (O := integer_check.O0) (L := fun m (x : integer_check.M0.den) => integer_check.l0 k m x.1 x.2.1 x.2.2.1 x.2.2.2) tt_ok (integer_check.tab_ok k) follows (ann := .nil) (annOK_nil _) (fun _ => rfl) (fun m x => integer_check.l0_ev k m x) k
theorem integer_check.spec (k : Nat) : SpecOK Go.Proofs.Try.prog (integer_check.E k) :=
  fn_ok (c := bodyOf Go.Proofs.Try.f80) tt_ok (integer_check.tab_ok k) follows Go.Proofs.Try.func80 rfl (name_ne (by kernel_rfl)) (by kernel_rfl) (Nat.le_of_ble_eq_true (by kernel_rfl)) (Nat.le_of_ble_eq_true (by kernel_rfl)) (annOK_seq (annOK_nil _) (annOK_seq (annOK_seq (annOK_nil _) (annOK_block (annOK_loop (integer_check.l0_ok k)))) (annOK_nil _))) (integer_check.ev k)

theorem natural_Valid.tab_ok  : ∀ E ∈ natural_Valid.tab, SpecOK Go.Proofs.Try.prog E := forall_nil
theorem natural_Valid.spec  : SpecOK Go.Proofs.Try.prog (natural_Valid.E) :=
  fn_ok (c := bodyOf Go.Proofs.Try.f100) tt_ok (natural_Valid.tab_ok) follows Go.Proofs.Try.func100 rfl (name_ne (by kernel_rfl)) (by kernel_rfl) (Nat.le_of_ble_eq_true (by kernel_rfl)) (Nat.le_of_ble_eq_true (by kernel_rfl)) (annOK_nil _) natural_Valid.ev

theorem natural_at.tab_ok  : ∀ E ∈ natural_at.tab, SpecOK Go.Proofs.Try.prog E := forall_nil
theorem natural_at.spec  : SpecOK Go.Proofs.Try.prog (natural_at.E) :=
  fn_ok (c := bodyOf Go.Proofs.Try.f95) tt_ok (natural_at.tab_ok) follows Go.Proofs.Try.func95 rfl (name_ne (by kernel_rfl)) (by kernel_rfl) (Nat.le_of_ble_eq_true (by kernel_rfl)) (Nat.le_of_ble_eq_true (by kernel_rfl)) (annOK_nil _) natural_at.ev

theorem natural_check.tab_ok  : ∀ E ∈ natural_check.tab, SpecOK Go.Proofs.Try.prog E := (forall_cons natural_Valid.spec (forall_cons natural_at.spec forall_nil))
theorem natural_check.spec  : SpecOK Go.Proofs.Try.prog (natural_check.E) :=
  fn_ok (c := bodyOf Go.Proofs.Try.f91) tt_ok (natural_check.tab_ok) follows Go.Proofs.Try.func91 rfl (name_ne (by kernel_rfl)) (by kernel_rfl) (Nat.le_of_ble_eq_true (by kernel_rfl)) (Nat.le_of_ble_eq_true (by kernel_rfl)) (annOK_nil _) natural_check.ev

theorem natural_trim_v.tab_ok (k : Nat) : ∀ E ∈ natural_trim_v.tab k, SpecOK Go.Proofs.Try.prog E := forall_nil
theorem natural_trim_v.l0_ok (k : Nat) : LoopOK Go.Proofs.Try.prog Go.Proofs.Try.f102.ntmps (finOf tt natural_trim_v.B Go.Proofs.Try.f102.results.toList) (cAt [1, 0, 0, 0] (bodyOf Go.Proofs.Try.f102)) natural_trim_v.M0 natural_trim_v.O0 0 (fun x => natural_trim_v.l0 k k x.1 x.2) :=
  loop_ok (R0 := denB natural_trim_v.B) (M := natural_trim_v.M0) (O := natural_trim_v.O0) (L := fun m (x : natural_trim_v.M0.den) => natural_trim_v.l0 k m x.1 x.2) tt_ok (natural_trim_v.tab_ok k) follows (ann := .nil) (annOK_nil _) (fun _ => rfl) (fun m x => natural_trim_v.l0_ev k m x) k
theorem natural_trim_v.spec (k : Nat) : SpecOK Go.Proofs.Try.prog (natural_trim_v.E k) :=
  fn_ok (c := bodyOf Go.Proofs.Try.f102) tt_ok (natural_trim_v.tab_ok k) follows Go.Proofs.Try.func102 rfl (name_ne (by kernel_rfl)) (by kernel_rfl) (Nat.le_of_ble_eq_true (by kernel_rfl)) (Nat.le_of_ble_eq_true (by kernel_rfl)) (annOK_seq (annOK_nil _) (annOK_seq (annOK_block (annOK_loop (natural_trim_v.l0_ok k))) (annOK_nil _))) (natural_trim_v.ev k)

theorem natural_mul.tab_ok (k : Nat) : ∀ E ∈ natural_mul.tab k, SpecOK Go.Proofs.Try.prog E := (forall_cons (natural_trim_v.spec k) forall_nil)
theorem natural_mul.l1_ok (k : Nat) : LoopOK Go.Proofs.Try.prog Go.Proofs.Try.f99.ntmps (finOf tt natural_mul.B Go.Proofs.Try.f99.results.toList) (cAt [1, 1, 0, 1, 0, 0, 1, 1, 0, 0, 1, 1, 0, 1, 0, 0] (bodyOf Go.Proofs.Try.f99)) natural_mul.M1 natural_mul.O1 2 (fun x => natural_mul.l1 k k x.1 x.2.1 x.2.2.1 x.2.2.2.1 x.2.2.2.2.1 x.2.2.2.2.2.1 x.2.2.2.2.2.2.1 x.2.2.2.2.2.2.2.1 x.2.2.2.2.2.2.2.2.1 x.2.2.2.2.2.2.2.2.2.1 x.2.2.2.2.2.2.2.2.2.2) :=
  loop_ok (R0 := denB natural_mul.B) (M := natural_mul.M1) (O := natural_mul.O1) (L := fun m (x : natural_mul.M1.den) => natural_mul.l1 k m x.1 x.2.1 x.2.2.1 x.2.2.2.1 x.2.2.2.2.1 x.2.2.2.2.2.1 x.2.2.2.2.2.2.1 x.2.2.2.2.2.2.2.1 x.2.2.2.2.2.2.2.2.1 x.2.2.2.2.2.2.2.2.2.1 x.2.2.2.2.2.2.2.2.2.2) tt_ok (natural_mul.tab_ok k) follows (ann := .nil) (annOK_nil _) (fun _ => rfl) (fun m x => natural_mul.l1_ev k m x) k
theorem natural_mul.l0_ok (k : Nat) : LoopOK Go.Proofs.Try.prog Go.Proofs.Try.f99.ntmps (finOf tt natural_mul.B Go.Proofs.Try.f99.results.toList) (cAt [1, 1, 0, 1, 0, 0] (bodyOf Go.Proofs.Try.f99)) natural_mul.M0 natural_mul.O0 0 (fun x => natural_mul.l0 k k x.1 x.2.1 x.2.2.1 x.2.2.2.1 x.2.2.2.2) :=
  loop_ok (R0 := denB natural_mul.B) (M := natural_mul.M0) (O := natural_mul.O0) (L := fun m (x : natural_mul.M0.den) => natural_mul.l0 k m x.1 x.2.1 x.2.2.1 x.2.2.2.1 x.2.2.2.2) tt_ok (natural_mul.tab_ok k) follows (ann := (.seq .nil (.seq .nil (.seq (.block (.seq .nil (.seq .nil (.seq (.seq .nil (.block (natural_mul.an1 k))) .nil)))) .nil)))) (annOK_seq (annOK_nil _) (annOK_seq (annOK_nil _) (annOK_seq (annOK_block (annOK_seq (annOK_nil _) (annOK_seq (annOK_nil _) (annOK_seq (annOK_seq (annOK_nil _) (annOK_block (annOK_loop (natural_mul.l1_ok k)))) (annOK_nil _))))) (annOK_nil _)))) (fun _ => rfl) (fun m x => natural_mul.l0_ev k m x) k
theorem natural_mul.spec (k : Nat) : SpecOK Go.Proofs.Try.prog (natural_mul.E k) :=
  fn_ok (c := bodyOf Go.Proofs.Try.f99) tt_ok (natural_mul.tab_ok k) follows Go.Proofs.Try.func99 rfl (name_ne (by kernel_rfl)) (by kernel_rfl) (Nat.le_of_ble_eq_true (by kernel_rfl)) (Nat.le_of_ble_eq_true (by kernel_rfl)) (annOK_seq (annOK_nil _) (annOK_seq (annOK_nil _) (annOK_seq (annOK_seq (annOK_nil _) (annOK_block (annOK_loop (natural_mul.l0_ok k)))) (annOK_nil _)))) (natural_mul.ev k)

theorem natural_trim.tab_ok (k : Nat) : ∀ E ∈ natural_trim.tab k, SpecOK Go.Proofs.Try.prog E := forall_nil
theorem natural_trim.l0_ok (k : Nat) : LoopOK Go.Proofs.Try.prog Go.Proofs.Try.f102.ntmps (finOf tt natural_trim.B Go.Proofs.Try.f102.results.toList) (cAt [1, 0, 0, 0] (bodyOf Go.Proofs.Try.f102)) natural_trim.M0 natural_trim.O0 0 (fun x => natural_trim.l0 k k x) :=
  loop_ok (R0 := denB natural_trim.B) (M := natural_trim.M0) (O := natural_trim.O0) (L := fun m (x : natural_trim.M0.den) => natural_trim.l0 k m x) tt_ok (natural_trim.tab_ok k) follows (ann := .nil) (annOK_nil _) (fun _ => rfl) (fun m x => natural_trim.l0_ev k m x) k
theorem natural_trim.spec (k : Nat) : SpecOK Go.Proofs.Try.prog (natural_trim.E k) :=
  fn_ok (c := bodyOf Go.Proofs.Try.f102) tt_ok (natural_trim.tab_ok k) follows Go.Proofs.Try.func102 rfl (name_ne (by kernel_rfl)) (by kernel_rfl) (Nat.le_of_ble_eq_true (by kernel_rfl)) (Nat.le_of_ble_eq_true (by kernel_rfl)) (annOK_seq (annOK_nil _) (annOK_seq (annOK_block (annOK_loop (natural_trim.l0_ok k))) (annOK_nil _))) (natural_trim.ev k)

theorem natural_fit.tab_ok (k : Nat) : ∀ E ∈ natural_fit.tab k, SpecOK Go.Proofs.Try.prog E := (forall_cons (natural_trim.spec k) (forall_cons natural_at.spec forall_nil))
theorem natural_fit.spec (k : Nat) : SpecOK Go.Proofs.Try.prog (natural_fit.E k) :=
  fn_ok (c := bodyOf Go.Proofs.Try.f96) tt_ok (natural_fit.tab_ok k) follows Go.Proofs.Try.func96 rfl (name_ne (by kernel_rfl)) (by kernel_rfl) (Nat.le_of_ble_eq_true (by kernel_rfl)) (Nat.le_of_ble_eq_true (by kernel_rfl)) (annOK_nil _) (natural_fit.ev k)

theorem natural_Mul.tab_ok (k : Nat) : ∀ E ∈ natural_Mul.tab k, SpecOK Go.Proofs.Try.prog E := (forall_cons natural_check.spec (forall_cons (natural_mul.spec k) (forall_cons (natural_fit.spec k) forall_nil)))
theorem natural_Mul.spec (k : Nat) : SpecOK Go.Proofs.Try.prog (natural_Mul.E k) :=
  fn_ok (c := bodyOf Go.Proofs.Try.f89) tt_ok (natural_Mul.tab_ok k) follows Go.Proofs.Try.func89 rfl (name_ne (by kernel_rfl)) (by kernel_rfl) (Nat.le_of_ble_eq_true (by kernel_rfl)) (Nat.le_of_ble_eq_true (by kernel_rfl)) (annOK_nil _) (natural_Mul.ev k)

theorem integer_signed.tab_ok  : ∀ E ∈ integer_signed.tab, SpecOK Go.Proofs.Try.prog E := (forall_cons integer_at.spec forall_nil)
theorem integer_signed.spec  : SpecOK Go.Proofs.Try.prog (integer_signed.E) :=
  fn_ok (c := bodyOf Go.Proofs.Try.f83) tt_ok (integer_signed.tab_ok) follows Go.Proofs.Try.func83 rfl (name_ne (by kernel_rfl)) (by kernel_rfl) (Nat.le_of_ble_eq_true (by kernel_rfl)) (Nat.le_of_ble_eq_true (by kernel_rfl)) (annOK_nil _) integer_signed.ev

theorem integer_Mul.tab_ok (k : Nat) : ∀ E ∈ integer_Mul.tab k, SpecOK Go.Proofs.Try.prog E := (forall_cons (integer_check.spec k) (forall_cons (natural_Mul.spec k) (forall_cons integer_signed.spec forall_nil)))
theorem integer_Mul.spec (k : Nat) : SpecOK Go.Proofs.Try.prog (integer_Mul.E k) :=
  fn_ok (c := bodyOf Go.Proofs.Try.f74) tt_ok (integer_Mul.tab_ok k) follows Go.Proofs.Try.func74 rfl (name_ne (by kernel_rfl)) (by kernel_rfl) (Nat.le_of_ble_eq_true (by kernel_rfl)) (Nat.le_of_ble_eq_true (by kernel_rfl)) (annOK_nil _) (integer_Mul.ev k)

theorem ranges_mul.tab_ok (k : Nat) : ∀ E ∈ ranges_mul.tab k, SpecOK Go.Proofs.Try.prog E := (forall_cons (integer_Mul.spec k) forall_nil)
theorem ranges_mul.spec (k : Nat) : SpecOK Go.Proofs.Try.prog (ranges_mul.E k) :=
  fn_ok (c := bodyOf Go.Proofs.Try.f48) tt_ok (ranges_mul.tab_ok k) follows Go.Proofs.Try.func48 rfl (name_ne (by kernel_rfl)) (by kernel_rfl) (Nat.le_of_ble_eq_true (by kernel_rfl)) (Nat.le_of_ble_eq_true (by kernel_rfl)) (annOK_nil _) (ranges_mul.ev k)

theorem natural_compare.tab_ok (k : Nat) : ∀ E ∈ natural_compare.tab k, SpecOK Go.Proofs.Try.prog E := forall_nil
theorem natural_compare.l0_ok (k : Nat) : LoopOK Go.Proofs.Try.prog Go.Proofs.Try.f94.ntmps (finOf tt natural_compare.B Go.Proofs.Try.f94.results.toList) (cAt [1, 1, 0, 1, 0, 0] (bodyOf Go.Proofs.Try.f94)) natural_compare.M0 natural_compare.O0 0 (fun x => natural_compare.l0 k k x.1 x.2.1 x.2.2) :=
  loop_ok (R0 := denB natural_compare.B) (M := natural_compare.M0) (O := natural_compare.O0) (L := fun m (x : natural_compare.M0.den) => natural_compare.l0 k m x.1 x.2.1 x.2.2) tt_ok (natural_compare.tab_ok k) follows (ann := .nil) (annOK_nil _) (fun _ => rfl) (fun m x => natural_compare.l0_ev k m x) k
theorem natural_compare.spec (k : Nat) : SpecOK Go.Proofs.Try.prog (natural_compare.E k) :=
  fn_ok (c := bodyOf Go.Proofs.Try.f94) tt_ok (natural_compare.tab_ok k) follows Go.Proofs.Try.func94 rfl (name_ne (by kernel_rfl)) (by kernel_rfl) (Nat.le_of_ble_eq_true (by kernel_rfl)) (Nat.le_of_ble_eq_true (by kernel_rfl)) (annOK_seq (annOK_nil _) (annOK_seq (annOK_nil _) (annOK_seq (annOK_seq (annOK_nil _) (annOK_block (annOK_loop (natural_compare.l0_ok k)))) (annOK_nil _)))) (natural_compare.ev k)

theorem natural_Cmp.tab_ok (k : Nat) : ∀ E ∈ natural_Cmp.tab k, SpecOK Go.Proofs.Try.prog E := (forall_cons natural_check.spec (forall_cons (natural_compare.spec k) forall_nil))
theorem natural_Cmp.spec (k : Nat) : SpecOK Go.Proofs.Try.prog (natural_Cmp.E k) :=
  fn_ok (c := bodyOf Go.Proofs.Try.f84) tt_ok (natural_Cmp.tab_ok k) follows Go.Proofs.Try.func84 rfl (name_ne (by kernel_rfl)) (by kernel_rfl) (Nat.le_of_ble_eq_true (by kernel_rfl)) (Nat.le_of_ble_eq_true (by kernel_rfl)) (annOK_nil _) (natural_Cmp.ev k)

theorem integer_Cmp.tab_ok (k : Nat) : ∀ E ∈ integer_Cmp.tab k, SpecOK Go.Proofs.Try.prog E := (forall_cons (integer_check.spec k) (forall_cons (natural_Cmp.spec k) forall_nil))
theorem integer_Cmp.spec (k : Nat) : SpecOK Go.Proofs.Try.prog (integer_Cmp.E k) :=
  fn_ok (c := bodyOf Go.Proofs.Try.f70) tt_ok (integer_Cmp.tab_ok k) follows Go.Proofs.Try.func70 rfl (name_ne (by kernel_rfl)) (by kernel_rfl) (Nat.le_of_ble_eq_true (by kernel_rfl)) (Nat.le_of_ble_eq_true (by kernel_rfl)) (annOK_seq (annOK_nil _) (annOK_seq (annOK_nil _) (annOK_seq (annOK_nil _) (annOK_seq (annOK_block (annOK_jseq (annOK_nil _) (annOK_nil _))) (annOK_nil _))))) (integer_Cmp.ev k)

theorem ranges_less.tab_ok (k : Nat) : ∀ E ∈ ranges_less.tab k, SpecOK Go.Proofs.Try.prog E := (forall_cons (integer_Cmp.spec k) forall_nil)
theorem ranges_less.spec (k : Nat) : SpecOK Go.Proofs.Try.prog (ranges_less.E k) :=
  fn_ok (c := bodyOf Go.Proofs.Try.f44) tt_ok (ranges_less.tab_ok k) follows Go.Proofs.Try.func44 rfl (name_ne (by kernel_rfl)) (by kernel_rfl) (Nat.le_of_ble_eq_true (by kernel_rfl)) (Nat.le_of_ble_eq_true (by kernel_rfl)) (annOK_nil _) (ranges_less.ev k)

theorem natural_add.tab_ok (k : Nat) : ∀ E ∈ natural_add.tab k, SpecOK Go.Proofs.Try.prog E := (forall_cons (natural_trim_v.spec k) forall_nil)
theorem natural_add.l0_ok (k : Nat) : LoopOK Go.Proofs.Try.prog Go.Proofs.Try.f97.ntmps (finOf tt natural_add.B Go.Proofs.Try.f97.results.toList) (cAt [1, 1, 1, 1, 0, 1, 0, 0] (bodyOf Go.Proofs.Try.f97)) natural_add.M0 natural_add.O0 0 (fun x => natural_add.l0 k k x.1 x.2.1 x.2.2.1 x.2.2.2.1 x.2.2.2.2.1 x.2.2.2.2.2) :=
  loop_ok (R0 := denB natural_add.B) (M := natural_add.M0) (O := natural_add.O0) (L := fun m (x : natural_add.M0.den) => natural_add.l0 k m x.1 x.2.1 x.2.2.1 x.2.2.2.1 x.2.2.2.2.1 x.2.2.2.2.2) tt_ok (natural_add.tab_ok k) follows (ann := .nil) (annOK_nil _) (fun _ => rfl) (fun m x => natural_add.l0_ev k m x) k
theorem natural_add.spec (k : Nat) : SpecOK Go.Proofs.Try.prog (natural_add.E k) :=
  fn_ok (c := bodyOf Go.Proofs.Try.f97) tt_ok (natural_add.tab_ok k) follows Go.Proofs.Try.func97 rfl (name_ne (by kernel_rfl)) (by kernel_rfl) (Nat.le_of_ble_eq_true (by kernel_rfl)) (Nat.le_of_ble_eq_true (by kernel_rfl)) (annOK_seq (annOK_nil _) (annOK_jseq (annOK_nil _) (annOK_seq (annOK_nil _) (annOK_seq (annOK_nil _) (annOK_seq (annOK_seq (annOK_nil _) (annOK_block (annOK_loop (natural_add.l0_ok k)))) (annOK_nil _)))))) (natural_add.ev k)

theorem natural_Add.tab_ok (k : Nat) : ∀ E ∈ natural_Add.tab k, SpecOK Go.Proofs.Try.prog E := (forall_cons natural_check.spec (forall_cons (natural_add.spec k) (forall_cons (natural_fit.spec k) forall_nil)))
theorem natural_Add.spec (k : Nat) : SpecOK Go.Proofs.Try.prog (natural_Add.E k) :=
  fn_ok (c := bodyOf Go.Proofs.Try.f86) tt_ok (natural_Add.tab_ok k) follows Go.Proofs.Try.func86 rfl (name_ne (by kernel_rfl)) (by kernel_rfl) (Nat.le_of_ble_eq_true (by kernel_rfl)) (Nat.le_of_ble_eq_true (by kernel_rfl)) (annOK_nil _) (natural_Add.ev k)

theorem slices_Clone_uint32uint32.spec : SpecOK Go.Proofs.Try.prog slices_Clone_uint32uint32.E :=
  clone_ok' (f := 92) (fn := Go.Proofs.Try.f92) (T := tt) (e := .int .u32) (t := 22) (et := 88) (run := slices_Clone_uint32uint32) tt_ok follows Go.Proofs.Try.func92 rfl (name_ne (by kernel_rfl)) rfl (by kernel_rfl) (by kernel_rfl) (by kernel_rfl) (fun x => by kernel_rfl) (fun x => by kernel_rfl) (fun x => by kernel_rfl) (fun x => by kernel_rfl) (by kernel_rfl) (fun x => by kernel_rfl) (clone_id slices_Clone_uint32uint32.eq_1)

theorem bits_Sub32.tab_ok  : ∀ E ∈ bits_Sub32.tab, SpecOK Go.Proofs.Try.prog E := forall_nil
theorem bits_Sub32.spec  : SpecOK Go.Proofs.Try.prog (bits_Sub32.E) :=
  fn_ok (c := bodyOf Go.Proofs.Try.f104) tt_ok (bits_Sub32.tab_ok) follows Go.Proofs.Try.func104 rfl (name_ne (by kernel_rfl)) (by kernel_rfl) (Nat.le_of_ble_eq_true (by kernel_rfl)) (Nat.le_of_ble_eq_true (by kernel_rfl)) (annOK_nil _) bits_Sub32.ev

theorem natural_sub.tab_ok (k : Nat) : ∀ E ∈ natural_sub.tab k, SpecOK Go.Proofs.Try.prog E := (forall_cons slices_Clone_uint32uint32.spec (forall_cons bits_Sub32.spec (forall_cons (natural_trim_v.spec k) forall_nil)))
theorem natural_sub.l0_ok (k : Nat) : LoopOK Go.Proofs.Try.prog Go.Proofs.Try.f98.ntmps (finOf tt natural_sub.B Go.Proofs.Try.f98.results.toList) (cAt [1, 1, 1, 0, 1, 0, 0] (bodyOf Go.Proofs.Try.f98)) natural_sub.M0 natural_sub.O0 0 (fun x => natural_sub.l0 k k x.1 x.2.1 x.2.2.1 x.2.2.2.1 x.2.2.2.2) :=
  loop_ok (R0 := denB natural_sub.B) (M := natural_sub.M0) (O := natural_sub.O0) (L := fun m (x : natural_sub.M0.den) => natural_sub.l0 k m x.1 x.2.1 x.2.2.1 x.2.2.2.1 x.2.2.2.2) tt_ok (natural_sub.tab_ok k) follows (ann := (.seq .nil (.seq .nil (.seq (.block (.seq .nil (.seq .nil (.jseq ⟨[.dat 1 (.list (.int .u32)), .own 5 (.int .u32), .dat 6 (.int .u32), .dat 7 (.int .i64), .dat 8 (.int .u32), .dat 12 (.int .i64), .dat 13 (.int .i64)], []⟩ .nil .nil)))) .nil)))) (annOK_seq (annOK_nil _) (annOK_seq (annOK_nil _) (annOK_seq (annOK_block (annOK_seq (annOK_nil _) (annOK_seq (annOK_nil _) (annOK_jseq (annOK_nil _) (annOK_nil _))))) (annOK_nil _)))) (fun _ => rfl) (fun m x => natural_sub.l0_ev k m x) k
theorem natural_sub.spec (k : Nat) : SpecOK Go.Proofs.Try.prog (natural_sub.E k) :=
  fn_ok (c := bodyOf Go.Proofs.Try.f98) tt_ok (natural_sub.tab_ok k) follows Go.Proofs.Try.func98 rfl (name_ne (by kernel_rfl)) (by kernel_rfl) (Nat.le_of_ble_eq_true (by kernel_rfl)) (Nat.le_of_ble_eq_true (by kernel_rfl)) (annOK_seq (annOK_nil _) (annOK_seq (annOK_nil _) (annOK_seq (annOK_nil _) (annOK_seq (annOK_seq (annOK_nil _) (annOK_block (annOK_loop (natural_sub.l0_ok k)))) (annOK_nil _))))) (natural_sub.ev k)

theorem natural_Sub.tab_ok (k : Nat) : ∀ E ∈ natural_Sub.tab k, SpecOK Go.Proofs.Try.prog E := (forall_cons natural_check.spec (forall_cons (natural_compare.spec k) (forall_cons natural_at.spec (forall_cons (natural_sub.spec k) forall_nil))))
theorem natural_Sub.spec (k : Nat) : SpecOK Go.Proofs.Try.prog (natural_Sub.E k) :=
  fn_ok (c := bodyOf Go.Proofs.Try.f87) tt_ok (natural_Sub.tab_ok k) follows Go.Proofs.Try.func87 rfl (name_ne (by kernel_rfl)) (by kernel_rfl) (Nat.le_of_ble_eq_true (by kernel_rfl)) (Nat.le_of_ble_eq_true (by kernel_rfl)) (annOK_nil _) (natural_Sub.ev k)

theorem integer_plus.tab_ok (k : Nat) : ∀ E ∈ integer_plus.tab k, SpecOK Go.Proofs.Try.prog E := (forall_cons (natural_Add.spec k) (forall_cons integer_signed.spec (forall_cons (natural_Cmp.spec k) (forall_cons (natural_Sub.spec k) forall_nil))))
theorem integer_plus.spec (k : Nat) : SpecOK Go.Proofs.Try.prog (integer_plus.E k) :=
  fn_ok (c := bodyOf Go.Proofs.Try.f88) tt_ok (integer_plus.tab_ok k) follows Go.Proofs.Try.func88 rfl (name_ne (by kernel_rfl)) (by kernel_rfl) (Nat.le_of_ble_eq_true (by kernel_rfl)) (Nat.le_of_ble_eq_true (by kernel_rfl)) (annOK_seq (annOK_nil _) (annOK_seq (annOK_nil _) (annOK_jseq (annOK_nil _) (annOK_nil _)))) (integer_plus.ev k)

theorem integer_Sub.tab_ok (k : Nat) : ∀ E ∈ integer_Sub.tab k, SpecOK Go.Proofs.Try.prog E := (forall_cons (integer_check.spec k) (forall_cons (integer_plus.spec k) forall_nil))
theorem integer_Sub.spec (k : Nat) : SpecOK Go.Proofs.Try.prog (integer_Sub.E k) :=
  fn_ok (c := bodyOf Go.Proofs.Try.f73) tt_ok (integer_Sub.tab_ok k) follows Go.Proofs.Try.func73 rfl (name_ne (by kernel_rfl)) (by kernel_rfl) (Nat.le_of_ble_eq_true (by kernel_rfl)) (Nat.le_of_ble_eq_true (by kernel_rfl)) (annOK_nil _) (integer_Sub.ev k)

theorem ranges_sub.tab_ok (k : Nat) : ∀ E ∈ ranges_sub.tab k, SpecOK Go.Proofs.Try.prog E := (forall_cons (integer_Sub.spec k) forall_nil)
theorem ranges_sub.spec (k : Nat) : SpecOK Go.Proofs.Try.prog (ranges_sub.E k) :=
  fn_ok (c := bodyOf Go.Proofs.Try.f47) tt_ok (ranges_sub.tab_ok k) follows Go.Proofs.Try.func47 rfl (name_ne (by kernel_rfl)) (by kernel_rfl) (Nat.le_of_ble_eq_true (by kernel_rfl)) (Nat.le_of_ble_eq_true (by kernel_rfl)) (annOK_nil _) (ranges_sub.ev k)

theorem integer_Add.tab_ok (k : Nat) : ∀ E ∈ integer_Add.tab k, SpecOK Go.Proofs.Try.prog E := (forall_cons (integer_check.spec k) (forall_cons (integer_plus.spec k) forall_nil))
theorem integer_Add.spec (k : Nat) : SpecOK Go.Proofs.Try.prog (integer_Add.E k) :=
  fn_ok (c := bodyOf Go.Proofs.Try.f72) tt_ok (integer_Add.tab_ok k) follows Go.Proofs.Try.func72 rfl (name_ne (by kernel_rfl)) (by kernel_rfl) (Nat.le_of_ble_eq_true (by kernel_rfl)) (Nat.le_of_ble_eq_true (by kernel_rfl)) (annOK_nil _) (integer_Add.ev k)

theorem ranges_add.tab_ok (k : Nat) : ∀ E ∈ ranges_add.tab k, SpecOK Go.Proofs.Try.prog E := (forall_cons (integer_Add.spec k) forall_nil)
theorem ranges_add.spec (k : Nat) : SpecOK Go.Proofs.Try.prog (ranges_add.E k) :=
  fn_ok (c := bodyOf Go.Proofs.Try.f46) tt_ok (ranges_add.tab_ok k) follows Go.Proofs.Try.func46 rfl (name_ne (by kernel_rfl)) (by kernel_rfl) (Nat.le_of_ble_eq_true (by kernel_rfl)) (Nat.le_of_ble_eq_true (by kernel_rfl)) (annOK_nil _) (ranges_add.ev k)

theorem bits_Div32.tab_ok  : ∀ E ∈ bits_Div32.tab, SpecOK Go.Proofs.Try.prog E := forall_nil
theorem bits_Div32.spec  : SpecOK Go.Proofs.Try.prog (bits_Div32.E) :=
  fn_ok (c := bodyOf Go.Proofs.Try.f105) tt_ok (bits_Div32.tab_ok) follows Go.Proofs.Try.func105 rfl (name_ne (by kernel_rfl)) (by kernel_rfl) (Nat.le_of_ble_eq_true (by kernel_rfl)) (Nat.le_of_ble_eq_true (by kernel_rfl)) (annOK_seq (annOK_nil _) (annOK_jseq (annOK_nil _) (annOK_nil _))) bits_Div32.ev

theorem natural_short.tab_ok (k : Nat) : ∀ E ∈ natural_short.tab k, SpecOK Go.Proofs.Try.prog E := (forall_cons bits_Div32.spec (forall_cons (natural_trim_v.spec k) forall_nil))
theorem natural_short.l0_ok (k : Nat) : LoopOK Go.Proofs.Try.prog Go.Proofs.Try.f101.ntmps (finOf tt natural_short.B Go.Proofs.Try.f101.results.toList) (cAt [1, 1, 1, 0, 1, 0, 0] (bodyOf Go.Proofs.Try.f101)) natural_short.M0 natural_short.O0 0 (fun x => natural_short.l0 k k x.1 x.2.1 x.2.2.1 x.2.2.2.1 x.2.2.2.2) :=
  loop_ok (R0 := denB natural_short.B) (M := natural_short.M0) (O := natural_short.O0) (L := fun m (x : natural_short.M0.den) => natural_short.l0 k m x.1 x.2.1 x.2.2.1 x.2.2.2.1 x.2.2.2.2) tt_ok (natural_short.tab_ok k) follows (ann := .nil) (annOK_nil _) (fun _ => rfl) (fun m x => natural_short.l0_ev k m x) k
theorem natural_short.spec (k : Nat) : SpecOK Go.Proofs.Try.prog (natural_short.E k) :=
  fn_ok (c := bodyOf Go.Proofs.Try.f101) tt_ok (natural_short.tab_ok k) follows Go.Proofs.Try.func101 rfl (name_ne (by kernel_rfl)) (by kernel_rfl) (Nat.le_of_ble_eq_true (by kernel_rfl)) (Nat.le_of_ble_eq_true (by kernel_rfl)) (annOK_seq (annOK_nil _) (annOK_seq (annOK_nil _) (annOK_seq (annOK_nil _) (annOK_seq (annOK_seq (annOK_nil _) (annOK_block (annOK_loop (natural_short.l0_ok k)))) (annOK_nil _))))) (natural_short.ev k)

theorem bits_Len32.tab_ok  : ∀ E ∈ bits_Len32.tab, SpecOK Go.Proofs.Try.prog E := forall_nil
theorem bits_Len32.spec  : SpecOK Go.Proofs.Try.prog (bits_Len32.E) :=
  fn_ok (c := bodyOf Go.Proofs.Try.f110) tt_ok (bits_Len32.tab_ok) follows Go.Proofs.Try.func110 rfl (name_ne (by kernel_rfl)) (by kernel_rfl) (Nat.le_of_ble_eq_true (by kernel_rfl)) (Nat.le_of_ble_eq_true (by kernel_rfl)) (annOK_seq (annOK_nil _) (annOK_jseq (annOK_nil _) (annOK_nil _))) bits_Len32.ev

theorem bits_LeadingZeros32.tab_ok  : ∀ E ∈ bits_LeadingZeros32.tab, SpecOK Go.Proofs.Try.prog E := (forall_cons bits_Len32.spec forall_nil)
theorem bits_LeadingZeros32.spec  : SpecOK Go.Proofs.Try.prog (bits_LeadingZeros32.E) :=
  fn_ok (c := bodyOf Go.Proofs.Try.f106) tt_ok (bits_LeadingZeros32.tab_ok) follows Go.Proofs.Try.func106 rfl (name_ne (by kernel_rfl)) (by kernel_rfl) (Nat.le_of_ble_eq_true (by kernel_rfl)) (Nat.le_of_ble_eq_true (by kernel_rfl)) (annOK_nil _) bits_LeadingZeros32.ev

theorem natural_left.tab_ok (k : Nat) : ∀ E ∈ natural_left.tab k, SpecOK Go.Proofs.Try.prog E := (forall_cons (natural_trim_v.spec k) forall_nil)
theorem natural_left.l0_ok (k : Nat) : LoopOK Go.Proofs.Try.prog Go.Proofs.Try.f107.ntmps (finOf tt natural_left.B Go.Proofs.Try.f107.results.toList) (cAt [1, 1, 1, 0, 1, 0, 0] (bodyOf Go.Proofs.Try.f107)) natural_left.M0 natural_left.O0 0 (fun x => natural_left.l0 k k x.1 x.2.1 x.2.2.1 x.2.2.2.1 x.2.2.2.2.1 x.2.2.2.2.2) :=
  loop_ok (R0 := denB natural_left.B) (M := natural_left.M0) (O := natural_left.O0) (L := fun m (x : natural_left.M0.den) => natural_left.l0 k m x.1 x.2.1 x.2.2.1 x.2.2.2.1 x.2.2.2.2.1 x.2.2.2.2.2) tt_ok (natural_left.tab_ok k) follows (ann := .nil) (annOK_nil _) (fun _ => rfl) (fun m x => natural_left.l0_ev k m x) k
theorem natural_left.spec (k : Nat) : SpecOK Go.Proofs.Try.prog (natural_left.E k) :=
  fn_ok (c := bodyOf Go.Proofs.Try.f107) tt_ok (natural_left.tab_ok k) follows Go.Proofs.Try.func107 rfl (name_ne (by kernel_rfl)) (by kernel_rfl) (Nat.le_of_ble_eq_true (by kernel_rfl)) (Nat.le_of_ble_eq_true (by kernel_rfl)) (annOK_seq (annOK_nil _) (annOK_seq (annOK_nil _) (annOK_seq (annOK_nil _) (annOK_seq (annOK_seq (annOK_nil _) (annOK_block (annOK_loop (natural_left.l0_ok k)))) (annOK_nil _))))) (natural_left.ev k)

theorem bits_Add32.tab_ok  : ∀ E ∈ bits_Add32.tab, SpecOK Go.Proofs.Try.prog E := forall_nil
theorem bits_Add32.spec  : SpecOK Go.Proofs.Try.prog (bits_Add32.E) :=
  fn_ok (c := bodyOf Go.Proofs.Try.f111) tt_ok (bits_Add32.tab_ok) follows Go.Proofs.Try.func111 rfl (name_ne (by kernel_rfl)) (by kernel_rfl) (Nat.le_of_ble_eq_true (by kernel_rfl)) (Nat.le_of_ble_eq_true (by kernel_rfl)) (annOK_nil _) bits_Add32.ev

theorem natural_digit_ld.tab_ok (k : Nat) : ∀ E ∈ natural_digit_ld.tab k, SpecOK Go.Proofs.Try.prog E := (forall_cons bits_Sub32.spec (forall_cons bits_Add32.spec forall_nil))
theorem natural_digit_ld.l2_ok (k : Nat) : LoopOK Go.Proofs.Try.prog Go.Proofs.Try.f108.ntmps (finOf tt natural_digit_ld.B Go.Proofs.Try.f108.results.toList) (cAt [1, 1, 1, 1, 1, 1, 1, 0, 1, 0, 1, 1, 0, 1, 0, 0] (bodyOf Go.Proofs.Try.f108)) natural_digit_ld.M2 natural_digit_ld.O2 4 (fun x => natural_digit_ld.l2 k k x.1 x.2.1 x.2.2.1 x.2.2.2.1 x.2.2.2.2.1 x.2.2.2.2.2.1 x.2.2.2.2.2.2) :=
  loop_ok (R0 := denB natural_digit_ld.B) (M := natural_digit_ld.M2) (O := natural_digit_ld.O2) (L := fun m (x : natural_digit_ld.M2.den) => natural_digit_ld.l2 k m x.1 x.2.1 x.2.2.1 x.2.2.2.1 x.2.2.2.2.1 x.2.2.2.2.2.1 x.2.2.2.2.2.2) tt_ok (natural_digit_ld.tab_ok k) follows (ann := .nil) (annOK_nil _) (fun _ => rfl) (fun m x => natural_digit_ld.l2_ev k m x) k
theorem natural_digit_ld.l1_ok (k : Nat) : LoopOK Go.Proofs.Try.prog Go.Proofs.Try.f108.ntmps (finOf tt natural_digit_ld.B Go.Proofs.Try.f108.results.toList) (cAt [1, 1, 1, 1, 1, 1, 0, 1, 0, 0] (bodyOf Go.Proofs.Try.f108)) natural_digit_ld.M1 natural_digit_ld.O1 2 (fun x => natural_digit_ld.l1 k k x.1 x.2.1 x.2.2.1 x.2.2.2.1 x.2.2.2.2.1 x.2.2.2.2.2.1 x.2.2.2.2.2.2.1 x.2.2.2.2.2.2.2) :=
  loop_ok (R0 := denB natural_digit_ld.B) (M := natural_digit_ld.M1) (O := natural_digit_ld.O1) (L := fun m (x : natural_digit_ld.M1.den) => natural_digit_ld.l1 k m x.1 x.2.1 x.2.2.1 x.2.2.2.1 x.2.2.2.2.1 x.2.2.2.2.2.1 x.2.2.2.2.2.2.1 x.2.2.2.2.2.2.2) tt_ok (natural_digit_ld.tab_ok k) follows (ann := (.seq .nil (.seq .nil (.seq (.block (.seq .nil (.jseq ⟨[.blk 0 (.int .u32) 1, .dat 1 (.list (.int .u32)), .dat 5 (.int .i64), .dat 8 (.int .u64), .dat 10 (.int .u64), .dat 11 (.int .u32), .dat 12 (.int .i64), .dat 74 (.int .i64), .dat 75 (.int .i64)], [.ref 0 0]⟩ .nil .nil))) .nil)))) (annOK_seq (annOK_nil _) (annOK_seq (annOK_nil _) (annOK_seq (annOK_block (annOK_seq (annOK_nil _) (annOK_jseq (annOK_nil _) (annOK_nil _)))) (annOK_nil _)))) (fun _ => rfl) (fun m x => natural_digit_ld.l1_ev k m x) k
theorem natural_digit_ld.l0_ok (k : Nat) : LoopOK Go.Proofs.Try.prog Go.Proofs.Try.f108.ntmps (finOf tt natural_digit_ld.B Go.Proofs.Try.f108.results.toList) (cAt [1, 1, 1, 1, 0, 0, 0] (bodyOf Go.Proofs.Try.f108)) natural_digit_ld.M0 natural_digit_ld.O0 0 (fun x => natural_digit_ld.l0 k k x.1 x.2.1 x.2.2.1 x.2.2.2.1 x.2.2.2.2.1 x.2.2.2.2.2) :=
  loop_ok (R0 := denB natural_digit_ld.B) (M := natural_digit_ld.M0) (O := natural_digit_ld.O0) (L := fun m (x : natural_digit_ld.M0.den) => natural_digit_ld.l0 k m x.1 x.2.1 x.2.2.1 x.2.2.2.1 x.2.2.2.2.1 x.2.2.2.2.2) tt_ok (natural_digit_ld.tab_ok k) follows (ann := .nil) (annOK_nil _) (fun _ => rfl) (fun m x => natural_digit_ld.l0_ev k m x) k
theorem natural_digit_ld.spec (k : Nat) : SpecOK Go.Proofs.Try.prog (natural_digit_ld.E k) :=
  fn_ok (c := bodyOf Go.Proofs.Try.f108) tt_ok (natural_digit_ld.tab_ok k) follows Go.Proofs.Try.func108 rfl (name_ne (by kernel_rfl)) (by kernel_rfl) (Nat.le_of_ble_eq_true (by kernel_rfl)) (Nat.le_of_ble_eq_true (by kernel_rfl)) (annOK_seq (annOK_nil _) (annOK_seq (annOK_nil _) (annOK_seq (annOK_nil _) (annOK_seq (annOK_nil _) (annOK_seq (annOK_block (annOK_loop (natural_digit_ld.l0_ok k))) (annOK_seq (annOK_nil _) (annOK_seq (annOK_seq (annOK_nil _) (annOK_block (annOK_loop (natural_digit_ld.l1_ok k)))) (annOK_seq (annOK_seq (annOK_nil _) (annOK_cond (annOK_seq (annOK_nil _) (annOK_seq (annOK_nil _) (annOK_seq (annOK_seq (annOK_nil _) (annOK_block (annOK_loop (natural_digit_ld.l2_ok k)))) (annOK_nil _)))) (annOK_nil _))) (annOK_nil _))))))))) (natural_digit_ld.ev k)

theorem natural_right.tab_ok (k : Nat) : ∀ E ∈ natural_right.tab k, SpecOK Go.Proofs.Try.prog E := (forall_cons (natural_trim_v.spec k) forall_nil)
theorem natural_right.l0_ok (k : Nat) : LoopOK Go.Proofs.Try.prog Go.Proofs.Try.f109.ntmps (finOf tt natural_right.B Go.Proofs.Try.f109.results.toList) (cAt [1, 1, 0, 1, 0, 0] (bodyOf Go.Proofs.Try.f109)) natural_right.M0 natural_right.O0 0 (fun x => natural_right.l0 k k x.1 x.2.1 x.2.2.1 x.2.2.2) :=
  loop_ok (R0 := denB natural_right.B) (M := natural_right.M0) (O := natural_right.O0) (L := fun m (x : natural_right.M0.den) => natural_right.l0 k m x.1 x.2.1 x.2.2.1 x.2.2.2) tt_ok (natural_right.tab_ok k) follows (ann := .nil) (annOK_nil _) (fun _ => rfl) (fun m x => natural_right.l0_ev k m x) k
theorem natural_right.spec (k : Nat) : SpecOK Go.Proofs.Try.prog (natural_right.E k) :=
  fn_ok (c := bodyOf Go.Proofs.Try.f109) tt_ok (natural_right.tab_ok k) follows Go.Proofs.Try.func109 rfl (name_ne (by kernel_rfl)) (by kernel_rfl) (Nat.le_of_ble_eq_true (by kernel_rfl)) (Nat.le_of_ble_eq_true (by kernel_rfl)) (annOK_seq (annOK_nil _) (annOK_seq (annOK_nil _) (annOK_seq (annOK_seq (annOK_nil _) (annOK_block (annOK_loop (natural_right.l0_ok k)))) (annOK_nil _)))) (natural_right.ev k)

theorem natural_divide.tab_ok (k : Nat) : ∀ E ∈ natural_divide.tab k, SpecOK Go.Proofs.Try.prog E := (forall_cons bits_LeadingZeros32.spec (forall_cons (natural_left.spec k) (forall_cons (natural_digit_ld.spec k) (forall_cons (natural_trim_v.spec k) (forall_cons (natural_right.spec k) forall_nil)))))
theorem natural_divide.l1_ok (k : Nat) : LoopOK Go.Proofs.Try.prog Go.Proofs.Try.f103.ntmps (finOf tt natural_divide.B Go.Proofs.Try.f103.results.toList) (cAt [1, 1, 1, 1, 1, 1, 0, 1, 0, 0] (bodyOf Go.Proofs.Try.f103)) natural_divide.M1 natural_divide.O1 2 (fun x => natural_divide.l1 k k x.1 x.2.1 x.2.2.1 x.2.2.2.1 x.2.2.2.2.1 x.2.2.2.2.2) :=
  loop_ok (R0 := denB natural_divide.B) (M := natural_divide.M1) (O := natural_divide.O1) (L := fun m (x : natural_divide.M1.den) => natural_divide.l1 k m x.1 x.2.1 x.2.2.1 x.2.2.2.1 x.2.2.2.2.1 x.2.2.2.2.2) tt_ok (natural_divide.tab_ok k) follows (ann := .nil) (annOK_nil _) (fun _ => rfl) (fun m x => natural_divide.l1_ev k m x) k
theorem natural_divide.l0_ok (k : Nat) : LoopOK Go.Proofs.Try.prog Go.Proofs.Try.f103.ntmps (finOf tt natural_divide.B Go.Proofs.Try.f103.results.toList) (cAt [1, 1, 1, 1, 0, 0, 0] (bodyOf Go.Proofs.Try.f103)) natural_divide.M0 natural_divide.O0 0 (fun x => natural_divide.l0 k k x.1 x.2.1 x.2.2.1 x.2.2.2.1 x.2.2.2.2) :=
  loop_ok (R0 := denB natural_divide.B) (M := natural_divide.M0) (O := natural_divide.O0) (L := fun m (x : natural_divide.M0.den) => natural_divide.l0 k m x.1 x.2.1 x.2.2.1 x.2.2.2.1 x.2.2.2.2) tt_ok (natural_divide.tab_ok k) follows (ann := .nil) (annOK_nil _) (fun _ => rfl) (fun m x => natural_divide.l0_ev k m x) k
theorem natural_divide.spec (k : Nat) : SpecOK Go.Proofs.Try.prog (natural_divide.E k) :=
  fn_ok (c := bodyOf Go.Proofs.Try.f103) tt_ok (natural_divide.tab_ok k) follows Go.Proofs.Try.func103 rfl (name_ne (by kernel_rfl)) (by kernel_rfl) (Nat.le_of_ble_eq_true (by kernel_rfl)) (Nat.le_of_ble_eq_true (by kernel_rfl)) (annOK_seq (annOK_nil _) (annOK_seq (annOK_nil _) (annOK_seq (annOK_nil _) (annOK_seq (annOK_nil _) (annOK_seq (annOK_block (annOK_loop (natural_divide.l0_ok k))) (annOK_seq (annOK_nil _) (annOK_seq (annOK_seq (annOK_nil _) (annOK_block (annOK_loop (natural_divide.l1_ok k)))) (annOK_nil _)))))))) (natural_divide.ev k)

theorem natural_divMod.tab_ok (k : Nat) : ∀ E ∈ natural_divMod.tab k, SpecOK Go.Proofs.Try.prog E := (forall_cons (natural_compare.spec k) (forall_cons slices_Clone_uint32uint32.spec (forall_cons (natural_short.spec k) (forall_cons (natural_trim_v.spec k) (forall_cons (natural_divide.spec k) forall_nil)))))
theorem natural_divMod.spec (k : Nat) : SpecOK Go.Proofs.Try.prog (natural_divMod.E k) :=
  fn_ok (c := bodyOf Go.Proofs.Try.f93) tt_ok (natural_divMod.tab_ok k) follows Go.Proofs.Try.func93 rfl (name_ne (by kernel_rfl)) (by kernel_rfl) (Nat.le_of_ble_eq_true (by kernel_rfl)) (Nat.le_of_ble_eq_true (by kernel_rfl)) (annOK_nil _) (natural_divMod.ev k)

theorem natural_DivMod.tab_ok (k : Nat) : ∀ E ∈ natural_DivMod.tab k, SpecOK Go.Proofs.Try.prog E := (forall_cons natural_check.spec (forall_cons natural_at.spec (forall_cons (natural_divMod.spec k) forall_nil)))
theorem natural_DivMod.spec (k : Nat) : SpecOK Go.Proofs.Try.prog (natural_DivMod.E k) :=
  fn_ok (c := bodyOf Go.Proofs.Try.f85) tt_ok (natural_DivMod.tab_ok k) follows Go.Proofs.Try.func85 rfl (name_ne (by kernel_rfl)) (by kernel_rfl) (Nat.le_of_ble_eq_true (by kernel_rfl)) (Nat.le_of_ble_eq_true (by kernel_rfl)) (annOK_nil _) (natural_DivMod.ev k)

theorem integer_DivMod.tab_ok (k : Nat) : ∀ E ∈ integer_DivMod.tab k, SpecOK Go.Proofs.Try.prog E := (forall_cons (integer_check.spec k) (forall_cons (natural_DivMod.spec k) (forall_cons (natural_Add.spec k) (forall_cons (natural_Sub.spec k) (forall_cons integer_signed.spec forall_nil)))))
theorem integer_DivMod.spec (k : Nat) : SpecOK Go.Proofs.Try.prog (integer_DivMod.E k) :=
  fn_ok (c := bodyOf Go.Proofs.Try.f71) tt_ok (integer_DivMod.tab_ok k) follows Go.Proofs.Try.func71 rfl (name_ne (by kernel_rfl)) (by kernel_rfl) (Nat.le_of_ble_eq_true (by kernel_rfl)) (Nat.le_of_ble_eq_true (by kernel_rfl)) (annOK_seq (annOK_nil _) (annOK_seq (annOK_nil _) (annOK_seq (annOK_nil _) (annOK_seq (annOK_nil _) (annOK_jseq (annOK_jseq (annOK_nil _) (annOK_nil _)) (annOK_nil _)))))) (integer_DivMod.ev k)

theorem ranges_divMod.tab_ok (k : Nat) : ∀ E ∈ ranges_divMod.tab k, SpecOK Go.Proofs.Try.prog E := (forall_cons (integer_DivMod.spec k) forall_nil)
theorem ranges_divMod.spec (k : Nat) : SpecOK Go.Proofs.Try.prog (ranges_divMod.E k) :=
  fn_ok (c := bodyOf Go.Proofs.Try.f45) tt_ok (ranges_divMod.tab_ok k) follows Go.Proofs.Try.func45 rfl (name_ne (by kernel_rfl)) (by kernel_rfl) (Nat.le_of_ble_eq_true (by kernel_rfl)) (Nat.le_of_ble_eq_true (by kernel_rfl)) (annOK_nil _) (ranges_divMod.ev k)

theorem ranges_length.tab_ok (k : Nat) : ∀ E ∈ ranges_length.tab k, SpecOK Go.Proofs.Try.prog E := (forall_cons (ranges_sign.spec k) (forall_cons (ranges_mul.spec k) (forall_cons (ranges_less.spec k) (forall_cons (ranges_sub.spec k) (forall_cons (integer_Of.spec k) (forall_cons (ranges_add.spec k) (forall_cons (ranges_divMod.spec k) forall_nil)))))))
theorem ranges_length.spec (k : Nat) : SpecOK Go.Proofs.Try.prog (ranges_length.E k) :=
  fn_ok (c := bodyOf Go.Proofs.Try.f41) tt_ok (ranges_length.tab_ok k) follows Go.Proofs.Try.func41 rfl (name_ne (by kernel_rfl)) (by kernel_rfl) (Nat.le_of_ble_eq_true (by kernel_rfl)) (Nat.le_of_ble_eq_true (by kernel_rfl)) (annOK_seq (annOK_nil _) (annOK_seq (annOK_nil _) (annOK_jseq (annOK_nil _) (annOK_nil _)))) (ranges_length.ev k)

theorem ranges_zero.tab_ok  : ∀ E ∈ ranges_zero.tab, SpecOK Go.Proofs.Try.prog E := forall_nil
theorem ranges_zero.spec  : SpecOK Go.Proofs.Try.prog (ranges_zero.E) :=
  fn_ok (c := bodyOf Go.Proofs.Try.f40) tt_ok (ranges_zero.tab_ok) follows Go.Proofs.Try.func40 rfl (name_ne (by kernel_rfl)) (by kernel_rfl) (Nat.le_of_ble_eq_true (by kernel_rfl)) (Nat.le_of_ble_eq_true (by kernel_rfl)) (annOK_nil _) ranges_zero.ev

theorem ranges_element.tab_ok (k : Nat) : ∀ E ∈ ranges_element.tab k, SpecOK Go.Proofs.Try.prog E := (forall_cons (ranges_mul.spec k) (forall_cons (ranges_add.spec k) forall_nil))
theorem ranges_element.spec (k : Nat) : SpecOK Go.Proofs.Try.prog (ranges_element.E k) :=
  fn_ok (c := bodyOf Go.Proofs.Try.f65) tt_ok (ranges_element.tab_ok k) follows Go.Proofs.Try.func65 rfl (name_ne (by kernel_rfl)) (by kernel_rfl) (Nat.le_of_ble_eq_true (by kernel_rfl)) (Nat.le_of_ble_eq_true (by kernel_rfl)) (annOK_nil _) (ranges_element.ev k)

theorem ranges_upward.tab_ok (k : Nat) : ∀ E ∈ ranges_upward.tab k, SpecOK Go.Proofs.Try.prog E := (forall_cons (ranges_length.spec k) (forall_cons (integer_Of.spec k) (forall_cons (ranges_sub.spec k) (forall_cons (ranges_element.spec k) forall_nil))))
theorem ranges_upward.spec (k : Nat) : SpecOK Go.Proofs.Try.prog (ranges_upward.E k) :=
  fn_ok (c := bodyOf Go.Proofs.Try.f42) tt_ok (ranges_upward.tab_ok k) follows Go.Proofs.Try.func42 rfl (name_ne (by kernel_rfl)) (by kernel_rfl) (Nat.le_of_ble_eq_true (by kernel_rfl)) (Nat.le_of_ble_eq_true (by kernel_rfl)) (annOK_nil _) (ranges_upward.ev k)

theorem natural_Gcd.tab_ok (k : Nat) : ∀ E ∈ natural_Gcd.tab k, SpecOK Go.Proofs.Try.prog E := (forall_cons natural_check.spec (forall_cons slices_Clone_uint32uint32.spec (forall_cons (natural_divMod.spec k) forall_nil)))
theorem natural_Gcd.l0_ok (k : Nat) : LoopOK Go.Proofs.Try.prog Go.Proofs.Try.f82.ntmps (finOf tt natural_Gcd.B Go.Proofs.Try.f82.results.toList) (cAt [1, 1, 1, 0, 0, 0] (bodyOf Go.Proofs.Try.f82)) natural_Gcd.M0 natural_Gcd.O0 0 (fun x => natural_Gcd.l0 k k x.1 x.2.1 x.2.2) :=
  loop_ok (R0 := denB natural_Gcd.B) (M := natural_Gcd.M0) (O := natural_Gcd.O0) (L := fun m (x : natural_Gcd.M0.den) => natural_Gcd.l0 k m x.1 x.2.1 x.2.2) tt_ok (natural_Gcd.tab_ok k) follows (ann := .nil) (annOK_nil _) (fun _ => rfl) (fun m x => natural_Gcd.l0_ev k m x) k
theorem natural_Gcd.spec (k : Nat) : SpecOK Go.Proofs.Try.prog (natural_Gcd.E k) :=
  fn_ok (c := bodyOf Go.Proofs.Try.f82) tt_ok (natural_Gcd.tab_ok k) follows Go.Proofs.Try.func82 rfl (name_ne (by kernel_rfl)) (by kernel_rfl) (Nat.le_of_ble_eq_true (by kernel_rfl)) (Nat.le_of_ble_eq_true (by kernel_rfl)) (annOK_seq (annOK_nil _) (annOK_seq (annOK_nil _) (annOK_seq (annOK_nil _) (annOK_seq (annOK_block (annOK_loop (natural_Gcd.l0_ok k))) (annOK_nil _))))) (natural_Gcd.ev k)

theorem integer_Gcd.tab_ok (k : Nat) : ∀ E ∈ integer_Gcd.tab k, SpecOK Go.Proofs.Try.prog E := (forall_cons (integer_check.spec k) (forall_cons (natural_Gcd.spec k) (forall_cons integer_signed.spec forall_nil)))
theorem integer_Gcd.spec (k : Nat) : SpecOK Go.Proofs.Try.prog (integer_Gcd.E k) :=
  fn_ok (c := bodyOf Go.Proofs.Try.f68) tt_ok (integer_Gcd.tab_ok k) follows Go.Proofs.Try.func68 rfl (name_ne (by kernel_rfl)) (by kernel_rfl) (Nat.le_of_ble_eq_true (by kernel_rfl)) (Nat.le_of_ble_eq_true (by kernel_rfl)) (annOK_nil _) (integer_Gcd.ev k)

theorem ranges_inverse.tab_ok (k : Nat) : ∀ E ∈ ranges_inverse.tab k, SpecOK Go.Proofs.Try.prog E := (forall_cons (integer_Of.spec k) (forall_cons (ranges_divMod.spec k) (forall_cons ranges_zero.spec (forall_cons (ranges_mul.spec k) (forall_cons (ranges_sub.spec k) forall_nil)))))
theorem ranges_inverse.l0_ok (k : Nat) : LoopOK Go.Proofs.Try.prog Go.Proofs.Try.f69.ntmps (finOf tt ranges_inverse.B Go.Proofs.Try.f69.results.toList) (cAt [1, 1, 1, 1, 0, 0, 0] (bodyOf Go.Proofs.Try.f69)) ranges_inverse.M0 ranges_inverse.O0 0 (fun x => ranges_inverse.l0 k k x.1 x.2.1 x.2.2.1 x.2.2.2.1 x.2.2.2.2.1 x.2.2.2.2.2) :=
  loop_ok (R0 := denB ranges_inverse.B) (M := ranges_inverse.M0) (O := ranges_inverse.O0) (L := fun m (x : ranges_inverse.M0.den) => ranges_inverse.l0 k m x.1 x.2.1 x.2.2.1 x.2.2.2.1 x.2.2.2.2.1 x.2.2.2.2.2) tt_ok (ranges_inverse.tab_ok k) follows (ann := .nil) (annOK_nil _) (fun _ => rfl) (fun m x => ranges_inverse.l0_ev k m x) k
theorem ranges_inverse.spec (k : Nat) : SpecOK Go.Proofs.Try.prog (ranges_inverse.E k) :=
  fn_ok (c := bodyOf Go.Proofs.Try.f69) tt_ok (ranges_inverse.tab_ok k) follows Go.Proofs.Try.func69 rfl (name_ne (by kernel_rfl)) (by kernel_rfl) (Nat.le_of_ble_eq_true (by kernel_rfl)) (Nat.le_of_ble_eq_true (by kernel_rfl)) (annOK_seq (annOK_nil _) (annOK_seq (annOK_nil _) (annOK_seq (annOK_nil _) (annOK_seq (annOK_nil _) (annOK_seq (annOK_block (annOK_loop (ranges_inverse.l0_ok k))) (annOK_nil _)))))) (ranges_inverse.ev k)

theorem ranges_common.tab_ok (k : Nat) : ∀ E ∈ ranges_common.tab k, SpecOK Go.Proofs.Try.prog E := (forall_cons (integer_Gcd.spec k) (forall_cons (ranges_sub.spec k) (forall_cons (ranges_divMod.spec k) (forall_cons ranges_zero.spec (forall_cons (ranges_inverse.spec k) (forall_cons (ranges_mul.spec k) (forall_cons (ranges_add.spec k) forall_nil)))))))
theorem ranges_common.spec (k : Nat) : SpecOK Go.Proofs.Try.prog (ranges_common.E k) :=
  fn_ok (c := bodyOf Go.Proofs.Try.f43) tt_ok (ranges_common.tab_ok k) follows Go.Proofs.Try.func43 rfl (name_ne (by kernel_rfl)) (by kernel_rfl) (Nat.le_of_ble_eq_true (by kernel_rfl)) (Nat.le_of_ble_eq_true (by kernel_rfl)) (annOK_nil _) (ranges_common.ev k)

theorem ranges_plain.tab_ok (k : Nat) : ∀ E ∈ ranges_plain.tab k, SpecOK Go.Proofs.Try.prog E := (forall_cons (ranges_length.spec k) (forall_cons ranges_zero.spec (forall_cons (integer_Of.spec k) (forall_cons (ranges_sub.spec k) (forall_cons (ranges_element.spec k) (forall_cons (ranges_add.spec k) (forall_cons (ranges_sign.spec k) (forall_cons (ranges_less.spec k) forall_nil))))))))
theorem ranges_plain.spec (k : Nat) : SpecOK Go.Proofs.Try.prog (ranges_plain.E k) :=
  fn_ok (c := bodyOf Go.Proofs.Try.f50) tt_ok (ranges_plain.tab_ok k) follows Go.Proofs.Try.func50 rfl (name_ne (by kernel_rfl)) (by kernel_rfl) (Nat.le_of_ble_eq_true (by kernel_rfl)) (Nat.le_of_ble_eq_true (by kernel_rfl)) (annOK_nil _) (ranges_plain.ev k)

theorem ranges_whole.tab_ok  : ∀ E ∈ ranges_whole.tab, SpecOK Go.Proofs.Try.prog E := (forall_cons ranges_Valid.spec (forall_cons ranges_at.spec forall_nil))
theorem ranges_whole.spec  : SpecOK Go.Proofs.Try.prog (ranges_whole.E) :=
  fn_ok (c := bodyOf Go.Proofs.Try.f49) tt_ok (ranges_whole.tab_ok) follows Go.Proofs.Try.func49 rfl (name_ne (by kernel_rfl)) (by kernel_rfl) (Nat.le_of_ble_eq_true (by kernel_rfl)) (Nat.le_of_ble_eq_true (by kernel_rfl)) (annOK_nil _) ranges_whole.ev

theorem ranges_Meet.tab_ok (k : Nat) : ∀ E ∈ ranges_Meet.tab k, SpecOK Go.Proofs.Try.prog E := (forall_cons (ranges_check.spec k) (forall_cons (integer_Of.spec k) (forall_cons (ranges_length.spec k) (forall_cons ranges_zero.spec (forall_cons (ranges_upward.spec k) (forall_cons (ranges_common.spec k) (forall_cons (ranges_less.spec k) (forall_cons (ranges_sub.spec k) (forall_cons (ranges_add.spec k) (forall_cons (ranges_divMod.spec k) (forall_cons (ranges_mul.spec k) (forall_cons (ranges_plain.spec k) (forall_cons ranges_whole.spec forall_nil)))))))))))))
theorem ranges_Meet.spec (k : Nat) : SpecOK Go.Proofs.Try.prog (ranges_Meet.E k) :=
  fn_ok (c := bodyOf Go.Proofs.Try.f8) tt_ok (ranges_Meet.tab_ok k) follows Go.Proofs.Try.func8 rfl (name_ne (by kernel_rfl)) (by kernel_rfl) (Nat.le_of_ble_eq_true (by kernel_rfl)) (Nat.le_of_ble_eq_true (by kernel_rfl)) (annOK_seq (annOK_nil _) (annOK_seq (annOK_nil _) (annOK_seq (annOK_nil _) (annOK_jseq (annOK_nil _) (annOK_seq (annOK_nil _) (annOK_seq (annOK_nil _) (annOK_seq (annOK_nil _) (annOK_jseq (annOK_nil _) (annOK_seq (annOK_nil _) (annOK_jseq (annOK_nil _) (annOK_nil _))))))))))) (ranges_Meet.ev k)

theorem brindlewoodref3_IntOk.tab_ok  : ∀ E ∈ brindlewoodref3_IntOk.tab, SpecOK Go.Proofs.Try.prog E := forall_nil
theorem brindlewoodref3_IntOk.spec  : SpecOK Go.Proofs.Try.prog (brindlewoodref3_IntOk.E) :=
  fn_ok (c := bodyOf Go.Proofs.Try.f21) tt_ok (brindlewoodref3_IntOk.tab_ok) follows Go.Proofs.Try.func21 rfl (name_ne (by kernel_rfl)) (by kernel_rfl) (Nat.le_of_ble_eq_true (by kernel_rfl)) (Nat.le_of_ble_eq_true (by kernel_rfl)) (annOK_nil _) brindlewoodref3_IntOk.ev

theorem brindlewoodref3_NoInt.tab_ok  : ∀ E ∈ brindlewoodref3_NoInt.tab, SpecOK Go.Proofs.Try.prog E := forall_nil
theorem brindlewoodref3_NoInt.spec  : SpecOK Go.Proofs.Try.prog (brindlewoodref3_NoInt.E) :=
  fn_ok (c := bodyOf Go.Proofs.Try.f30) tt_ok (brindlewoodref3_NoInt.tab_ok) follows Go.Proofs.Try.func30 rfl (name_ne (by kernel_rfl)) (by kernel_rfl) (Nat.le_of_ble_eq_true (by kernel_rfl)) (Nat.le_of_ble_eq_true (by kernel_rfl)) (annOK_nil _) brindlewoodref3_NoInt.ev

theorem brindlewoodref3_RangeOk.tab_ok (k : Nat) : ∀ E ∈ brindlewoodref3_RangeOk.tab k, SpecOK Go.Proofs.Try.prog E := (forall_cons brindlewoodref3_IntOk.spec (forall_cons brindlewoodref3_NoInt.spec forall_nil))
theorem brindlewoodref3_RangeOk.l0_ok (k : Nat) : LoopOK Go.Proofs.Try.prog Go.Proofs.Try.f9.ntmps (finOf tt brindlewoodref3_RangeOk.B Go.Proofs.Try.f9.results.toList) (cAt [1, 1, 0, 1, 0, 0] (bodyOf Go.Proofs.Try.f9)) brindlewoodref3_RangeOk.M0 brindlewoodref3_RangeOk.O0 0 (fun x => brindlewoodref3_RangeOk.l0 k k x.1 x.2.1 x.2.2) :=
  loop_ok (R0 := denB brindlewoodref3_RangeOk.B) (M := brindlewoodref3_RangeOk.M0) (O := brindlewoodref3_RangeOk.O0) (L := fun m (x : brindlewoodref3_RangeOk.M0.den) => brindlewoodref3_RangeOk.l0 k m x.1 x.2.1 x.2.2) tt_ok (brindlewoodref3_RangeOk.tab_ok k) follows (ann := .nil) (annOK_nil _) (fun _ => rfl) (fun m x => brindlewoodref3_RangeOk.l0_ev k m x) k
theorem brindlewoodref3_RangeOk.spec (k : Nat) : SpecOK Go.Proofs.Try.prog (brindlewoodref3_RangeOk.E k) :=
  fn_ok (c := bodyOf Go.Proofs.Try.f9) tt_ok (brindlewoodref3_RangeOk.tab_ok k) follows Go.Proofs.Try.func9 rfl (name_ne (by kernel_rfl)) (by kernel_rfl) (Nat.le_of_ble_eq_true (by kernel_rfl)) (Nat.le_of_ble_eq_true (by kernel_rfl)) (annOK_seq (annOK_nil _) (annOK_seq (annOK_nil _) (annOK_seq (annOK_seq (annOK_nil _) (annOK_block (annOK_loop (brindlewoodref3_RangeOk.l0_ok k)))) (annOK_nil _)))) (brindlewoodref3_RangeOk.ev k)

theorem brindlewoodref3_At.tab_ok  : ∀ E ∈ brindlewoodref3_At.tab, SpecOK Go.Proofs.Try.prog E := forall_nil
theorem brindlewoodref3_At.spec  : SpecOK Go.Proofs.Try.prog (brindlewoodref3_At.E) :=
  fn_ok (c := bodyOf Go.Proofs.Try.f10) tt_ok (brindlewoodref3_At.tab_ok) follows Go.Proofs.Try.func10 rfl (name_ne (by kernel_rfl)) (by kernel_rfl) (Nat.le_of_ble_eq_true (by kernel_rfl)) (Nat.le_of_ble_eq_true (by kernel_rfl)) (annOK_nil _) brindlewoodref3_At.ev

theorem ranges_Length.tab_ok (k : Nat) : ∀ E ∈ ranges_Length.tab k, SpecOK Go.Proofs.Try.prog E := (forall_cons (ranges_check.spec k) (forall_cons (ranges_length.spec k) forall_nil))
theorem ranges_Length.spec (k : Nat) : SpecOK Go.Proofs.Try.prog (ranges_Length.E k) :=
  fn_ok (c := bodyOf Go.Proofs.Try.f28) tt_ok (ranges_Length.tab_ok k) follows Go.Proofs.Try.func28 rfl (name_ne (by kernel_rfl)) (by kernel_rfl) (Nat.le_of_ble_eq_true (by kernel_rfl)) (Nat.le_of_ble_eq_true (by kernel_rfl)) (annOK_nil _) (ranges_Length.ev k)

theorem brindlewoodref3_trim_v.tab_ok (k : Nat) : ∀ E ∈ brindlewoodref3_trim_v.tab k, SpecOK Go.Proofs.Try.prog E := forall_nil
theorem brindlewoodref3_trim_v.l0_ok (k : Nat) : LoopOK Go.Proofs.Try.prog Go.Proofs.Try.f79.ntmps (finOf tt brindlewoodref3_trim_v.B Go.Proofs.Try.f79.results.toList) (cAt [1, 0, 0, 0] (bodyOf Go.Proofs.Try.f79)) brindlewoodref3_trim_v.M0 brindlewoodref3_trim_v.O0 0 (fun x => brindlewoodref3_trim_v.l0 k k x.1 x.2) :=
  loop_ok (R0 := denB brindlewoodref3_trim_v.B) (M := brindlewoodref3_trim_v.M0) (O := brindlewoodref3_trim_v.O0) (L := fun m (x : brindlewoodref3_trim_v.M0.den) => brindlewoodref3_trim_v.l0 k m x.1 x.2) tt_ok (brindlewoodref3_trim_v.tab_ok k) follows (ann := .nil) (annOK_nil _) (fun _ => rfl) (fun m x => brindlewoodref3_trim_v.l0_ev k m x) k
theorem brindlewoodref3_trim_v.spec (k : Nat) : SpecOK Go.Proofs.Try.prog (brindlewoodref3_trim_v.E k) :=
  fn_ok (c := bodyOf Go.Proofs.Try.f79) tt_ok (brindlewoodref3_trim_v.tab_ok k) follows Go.Proofs.Try.func79 rfl (name_ne (by kernel_rfl)) (by kernel_rfl) (Nat.le_of_ble_eq_true (by kernel_rfl)) (Nat.le_of_ble_eq_true (by kernel_rfl)) (annOK_seq (annOK_nil _) (annOK_seq (annOK_block (annOK_loop (brindlewoodref3_trim_v.l0_ok k))) (annOK_nil _))) (brindlewoodref3_trim_v.ev k)

theorem brindlewoodref3_Binary.tab_ok (k : Nat) : ∀ E ∈ brindlewoodref3_Binary.tab k, SpecOK Go.Proofs.Try.prog E := (forall_cons (brindlewoodref3_trim_v.spec k) forall_nil)
theorem brindlewoodref3_Binary.l1_ok (k : Nat) : LoopOK Go.Proofs.Try.prog Go.Proofs.Try.f59.ntmps (finOf tt brindlewoodref3_Binary.B Go.Proofs.Try.f59.results.toList) (cAt [1, 1, 0, 1, 0, 0, 1, 0, 0, 1, 0, 1, 0, 0] (bodyOf Go.Proofs.Try.f59)) brindlewoodref3_Binary.M1 brindlewoodref3_Binary.O1 2 (fun x => brindlewoodref3_Binary.l1 k k x.1 x.2.1 x.2.2.1 x.2.2.2.1 x.2.2.2.2) :=
  loop_ok (R0 := denB brindlewoodref3_Binary.B) (M := brindlewoodref3_Binary.M1) (O := brindlewoodref3_Binary.O1) (L := fun m (x : brindlewoodref3_Binary.M1.den) => brindlewoodref3_Binary.l1 k m x.1 x.2.1 x.2.2.1 x.2.2.2.1 x.2.2.2.2) tt_ok (brindlewoodref3_Binary.tab_ok k) follows (ann := .nil) (annOK_nil _) (fun _ => rfl) (fun m x => brindlewoodref3_Binary.l1_ev k m x) k
theorem brindlewoodref3_Binary.l0_ok (k : Nat) : LoopOK Go.Proofs.Try.prog Go.Proofs.Try.f59.ntmps (finOf tt brindlewoodref3_Binary.B Go.Proofs.Try.f59.results.toList) (cAt [1, 1, 0, 1, 0, 0] (bodyOf Go.Proofs.Try.f59)) brindlewoodref3_Binary.M0 brindlewoodref3_Binary.O0 0 (fun x => brindlewoodref3_Binary.l0 k k x.1 x.2.1 x.2.2) :=
  loop_ok (R0 := denB brindlewoodref3_Binary.B) (M := brindlewoodref3_Binary.M0) (O := brindlewoodref3_Binary.O0) (L := fun m (x : brindlewoodref3_Binary.M0.den) => brindlewoodref3_Binary.l0 k m x.1 x.2.1 x.2.2) tt_ok (brindlewoodref3_Binary.tab_ok k) follows (ann := (.seq .nil (.seq (.block (.seq .nil (.seq (.seq .nil (.block (brindlewoodref3_Binary.an1 k))) .nil))) .nil))) (annOK_seq (annOK_nil _) (annOK_seq (annOK_block (annOK_seq (annOK_nil _) (annOK_seq (annOK_seq (annOK_nil _) (annOK_block (annOK_loop (brindlewoodref3_Binary.l1_ok k)))) (annOK_nil _)))) (annOK_nil _))) (fun _ => rfl) (fun m x => brindlewoodref3_Binary.l0_ev k m x) k
theorem brindlewoodref3_Binary.spec (k : Nat) : SpecOK Go.Proofs.Try.prog (brindlewoodref3_Binary.E k) :=
  fn_ok (c := bodyOf Go.Proofs.Try.f59) tt_ok (brindlewoodref3_Binary.tab_ok k) follows Go.Proofs.Try.func59 rfl (name_ne (by kernel_rfl)) (by kernel_rfl) (Nat.le_of_ble_eq_true (by kernel_rfl)) (Nat.le_of_ble_eq_true (by kernel_rfl)) (annOK_seq (annOK_nil _) (annOK_seq (annOK_nil _) (annOK_seq (annOK_seq (annOK_nil _) (annOK_block (annOK_loop (brindlewoodref3_Binary.l0_ok k)))) (annOK_nil _)))) (brindlewoodref3_Binary.ev k)

theorem brindlewoodref3_Number.tab_ok (k : Nat) : ∀ E ∈ brindlewoodref3_Number.tab k, SpecOK Go.Proofs.Try.prog E := (forall_cons (brindlewoodref3_Binary.spec k) forall_nil)
theorem brindlewoodref3_Number.l0_ok (k : Nat) : LoopOK Go.Proofs.Try.prog Go.Proofs.Try.f17.ntmps (finOf tt brindlewoodref3_Number.B Go.Proofs.Try.f17.results.toList) (cAt [1, 1, 1, 0, 0, 0] (bodyOf Go.Proofs.Try.f17)) brindlewoodref3_Number.M0 brindlewoodref3_Number.O0 0 (fun x => brindlewoodref3_Number.l0 k k x.1 x.2.1 x.2.2.1 x.2.2.2) :=
  loop_ok (R0 := denB brindlewoodref3_Number.B) (M := brindlewoodref3_Number.M0) (O := brindlewoodref3_Number.O0) (L := fun m (x : brindlewoodref3_Number.M0.den) => brindlewoodref3_Number.l0 k m x.1 x.2.1 x.2.2.1 x.2.2.2) tt_ok (brindlewoodref3_Number.tab_ok k) follows (ann := .nil) (annOK_nil _) (fun _ => rfl) (fun m x => brindlewoodref3_Number.l0_ev k m x) k
theorem brindlewoodref3_Number.spec (k : Nat) : SpecOK Go.Proofs.Try.prog (brindlewoodref3_Number.E k) :=
  fn_ok (c := bodyOf Go.Proofs.Try.f17) tt_ok (brindlewoodref3_Number.tab_ok k) follows Go.Proofs.Try.func17 rfl (name_ne (by kernel_rfl)) (by kernel_rfl) (Nat.le_of_ble_eq_true (by kernel_rfl)) (Nat.le_of_ble_eq_true (by kernel_rfl)) (annOK_seq (annOK_nil _) (annOK_seq (annOK_nil _) (annOK_seq (annOK_nil _) (annOK_seq (annOK_block (annOK_loop (brindlewoodref3_Number.l0_ok k))) (annOK_nil _))))) (brindlewoodref3_Number.ev k)

theorem brindlewoodref3_Limbs.tab_ok (k : Nat) : ∀ E ∈ brindlewoodref3_Limbs.tab k, SpecOK Go.Proofs.Try.prog E := forall_nil
theorem brindlewoodref3_Limbs.l0_ok (k : Nat) : LoopOK Go.Proofs.Try.prog Go.Proofs.Try.f33.ntmps (finOf tt brindlewoodref3_Limbs.B Go.Proofs.Try.f33.results.toList) (cAt [1, 1, 0, 1, 0, 0] (bodyOf Go.Proofs.Try.f33)) brindlewoodref3_Limbs.M0 brindlewoodref3_Limbs.O0 0 (fun x => brindlewoodref3_Limbs.l0 k k x.1 x.2.1 x.2.2) :=
  loop_ok (R0 := denB brindlewoodref3_Limbs.B) (M := brindlewoodref3_Limbs.M0) (O := brindlewoodref3_Limbs.O0) (L := fun m (x : brindlewoodref3_Limbs.M0.den) => brindlewoodref3_Limbs.l0 k m x.1 x.2.1 x.2.2) tt_ok (brindlewoodref3_Limbs.tab_ok k) follows (ann := .nil) (annOK_nil _) (fun _ => rfl) (fun m x => brindlewoodref3_Limbs.l0_ev k m x) k
theorem brindlewoodref3_Limbs.spec (k : Nat) : SpecOK Go.Proofs.Try.prog (brindlewoodref3_Limbs.E k) :=
  fn_ok (c := bodyOf Go.Proofs.Try.f33) tt_ok (brindlewoodref3_Limbs.tab_ok k) follows Go.Proofs.Try.func33 rfl (name_ne (by kernel_rfl)) (by kernel_rfl) (Nat.le_of_ble_eq_true (by kernel_rfl)) (Nat.le_of_ble_eq_true (by kernel_rfl)) (annOK_seq (annOK_nil _) (annOK_seq (annOK_nil _) (annOK_seq (annOK_seq (annOK_nil _) (annOK_block (annOK_loop (brindlewoodref3_Limbs.l0_ok k)))) (annOK_nil _)))) (brindlewoodref3_Limbs.ev k)

theorem brindlewoodref3_SameLimbs.tab_ok (k : Nat) : ∀ E ∈ brindlewoodref3_SameLimbs.tab k, SpecOK Go.Proofs.Try.prog E := forall_nil
theorem brindlewoodref3_SameLimbs.l0_ok (k : Nat) : LoopOK Go.Proofs.Try.prog Go.Proofs.Try.f63.ntmps (finOf tt brindlewoodref3_SameLimbs.B Go.Proofs.Try.f63.results.toList) (cAt [1, 1, 0, 1, 0, 0] (bodyOf Go.Proofs.Try.f63)) brindlewoodref3_SameLimbs.M0 brindlewoodref3_SameLimbs.O0 0 (fun x => brindlewoodref3_SameLimbs.l0 k k x.1 x.2.1 x.2.2) :=
  loop_ok (R0 := denB brindlewoodref3_SameLimbs.B) (M := brindlewoodref3_SameLimbs.M0) (O := brindlewoodref3_SameLimbs.O0) (L := fun m (x : brindlewoodref3_SameLimbs.M0.den) => brindlewoodref3_SameLimbs.l0 k m x.1 x.2.1 x.2.2) tt_ok (brindlewoodref3_SameLimbs.tab_ok k) follows (ann := .nil) (annOK_nil _) (fun _ => rfl) (fun m x => brindlewoodref3_SameLimbs.l0_ev k m x) k
theorem brindlewoodref3_SameLimbs.spec (k : Nat) : SpecOK Go.Proofs.Try.prog (brindlewoodref3_SameLimbs.E k) :=
  fn_ok (c := bodyOf Go.Proofs.Try.f63) tt_ok (brindlewoodref3_SameLimbs.tab_ok k) follows Go.Proofs.Try.func63 rfl (name_ne (by kernel_rfl)) (by kernel_rfl) (Nat.le_of_ble_eq_true (by kernel_rfl)) (Nat.le_of_ble_eq_true (by kernel_rfl)) (annOK_seq (annOK_nil _) (annOK_seq (annOK_nil _) (annOK_seq (annOK_seq (annOK_nil _) (annOK_block (annOK_loop (brindlewoodref3_SameLimbs.l0_ok k)))) (annOK_nil _)))) (brindlewoodref3_SameLimbs.ev k)

theorem brindlewoodref3_SameInt.tab_ok (k : Nat) : ∀ E ∈ brindlewoodref3_SameInt.tab k, SpecOK Go.Proofs.Try.prog E := (forall_cons (brindlewoodref3_Limbs.spec k) (forall_cons (brindlewoodref3_SameLimbs.spec k) forall_nil))
theorem brindlewoodref3_SameInt.spec (k : Nat) : SpecOK Go.Proofs.Try.prog (brindlewoodref3_SameInt.E k) :=
  fn_ok (c := bodyOf Go.Proofs.Try.f32) tt_ok (brindlewoodref3_SameInt.tab_ok k) follows Go.Proofs.Try.func32 rfl (name_ne (by kernel_rfl)) (by kernel_rfl) (Nat.le_of_ble_eq_true (by kernel_rfl)) (Nat.le_of_ble_eq_true (by kernel_rfl)) (annOK_nil _) (brindlewoodref3_SameInt.ev k)

theorem brindlewoodlaw3_spans.tab_ok (k : Nat) : ∀ E ∈ brindlewoodlaw3_spans.tab k, SpecOK Go.Proofs.Try.prog E := (forall_cons (integer_Of.spec k) (forall_cons (ranges_Length.spec k) (forall_cons (ranges_Meet.spec k) (forall_cons (brindlewoodref3_Number.spec k) (forall_cons (brindlewoodref3_SameInt.spec k) forall_nil)))))
theorem brindlewoodlaw3_spans.spec (k : Nat) : SpecOK Go.Proofs.Try.prog (brindlewoodlaw3_spans.E k) :=
  fn_ok (c := bodyOf Go.Proofs.Try.f11) tt_ok (brindlewoodlaw3_spans.tab_ok k) follows Go.Proofs.Try.func11 rfl (name_ne (by kernel_rfl)) (by kernel_rfl) (Nat.le_of_ble_eq_true (by kernel_rfl)) (Nat.le_of_ble_eq_true (by kernel_rfl)) (annOK_nil _) (brindlewoodlaw3_spans.ev k)

theorem brindlewoodref3_NoRange.tab_ok  : ∀ E ∈ brindlewoodref3_NoRange.tab, SpecOK Go.Proofs.Try.prog E := (forall_cons brindlewoodref3_NoInt.spec forall_nil)
theorem brindlewoodref3_NoRange.spec  : SpecOK Go.Proofs.Try.prog (brindlewoodref3_NoRange.E) :=
  fn_ok (c := bodyOf Go.Proofs.Try.f12) tt_ok (brindlewoodref3_NoRange.tab_ok) follows Go.Proofs.Try.func12 rfl (name_ne (by kernel_rfl)) (by kernel_rfl) (Nat.le_of_ble_eq_true (by kernel_rfl)) (Nat.le_of_ble_eq_true (by kernel_rfl)) (annOK_nil _) brindlewoodref3_NoRange.ev

theorem brindlewoodref3_Of.tab_ok (k : Nat) : ∀ E ∈ brindlewoodref3_Of.tab k, SpecOK Go.Proofs.Try.prog E := (forall_cons (brindlewoodref3_trim_v.spec k) forall_nil)
theorem brindlewoodref3_Of.l0_ok (k : Nat) : LoopOK Go.Proofs.Try.prog Go.Proofs.Try.f66.ntmps (finOf tt brindlewoodref3_Of.B Go.Proofs.Try.f66.results.toList) (cAt [1, 1, 0, 1, 0, 0] (bodyOf Go.Proofs.Try.f66)) brindlewoodref3_Of.M0 brindlewoodref3_Of.O0 0 (fun x => brindlewoodref3_Of.l0 k k x.1 x.2.1 x.2.2) :=
  loop_ok (R0 := denB brindlewoodref3_Of.B) (M := brindlewoodref3_Of.M0) (O := brindlewoodref3_Of.O0) (L := fun m (x : brindlewoodref3_Of.M0.den) => brindlewoodref3_Of.l0 k m x.1 x.2.1 x.2.2) tt_ok (brindlewoodref3_Of.tab_ok k) follows (ann := .nil) (annOK_nil _) (fun _ => rfl) (fun m x => brindlewoodref3_Of.l0_ev k m x) k
theorem brindlewoodref3_Of.spec (k : Nat) : SpecOK Go.Proofs.Try.prog (brindlewoodref3_Of.E k) :=
  fn_ok (c := bodyOf Go.Proofs.Try.f66) tt_ok (brindlewoodref3_Of.tab_ok k) follows Go.Proofs.Try.func66 rfl (name_ne (by kernel_rfl)) (by kernel_rfl) (Nat.le_of_ble_eq_true (by kernel_rfl)) (Nat.le_of_ble_eq_true (by kernel_rfl)) (annOK_seq (annOK_nil _) (annOK_seq (annOK_nil _) (annOK_seq (annOK_seq (annOK_nil _) (annOK_block (annOK_loop (brindlewoodref3_Of.l0_ok k)))) (annOK_nil _)))) (brindlewoodref3_Of.ev k)

theorem brindlewoodref3_IntOf.tab_ok (k : Nat) : ∀ E ∈ brindlewoodref3_IntOf.tab k, SpecOK Go.Proofs.Try.prog E := (forall_cons (brindlewoodref3_Of.spec k) forall_nil)
theorem brindlewoodref3_IntOf.spec (k : Nat) : SpecOK Go.Proofs.Try.prog (brindlewoodref3_IntOf.E k) :=
  fn_ok (c := bodyOf Go.Proofs.Try.f31) tt_ok (brindlewoodref3_IntOf.tab_ok k) follows Go.Proofs.Try.func31 rfl (name_ne (by kernel_rfl)) (by kernel_rfl) (Nat.le_of_ble_eq_true (by kernel_rfl)) (Nat.le_of_ble_eq_true (by kernel_rfl)) (annOK_nil _) (brindlewoodref3_IntOf.ev k)

theorem brindlewoodref3_Int_Minus.tab_ok  : ∀ E ∈ brindlewoodref3_Int_Minus.tab, SpecOK Go.Proofs.Try.prog E := forall_nil
theorem brindlewoodref3_Int_Minus.spec  : SpecOK Go.Proofs.Try.prog (brindlewoodref3_Int_Minus.E) :=
  fn_ok (c := bodyOf Go.Proofs.Try.f27) tt_ok (brindlewoodref3_Int_Minus.tab_ok) follows Go.Proofs.Try.func27 rfl (name_ne (by kernel_rfl)) (by kernel_rfl) (Nat.le_of_ble_eq_true (by kernel_rfl)) (Nat.le_of_ble_eq_true (by kernel_rfl)) (annOK_nil _) brindlewoodref3_Int_Minus.ev

theorem brindlewoodref3_Plus.tab_ok (k : Nat) : ∀ E ∈ brindlewoodref3_Plus.tab k, SpecOK Go.Proofs.Try.prog E := (forall_cons (brindlewoodref3_trim_v.spec k) forall_nil)
theorem brindlewoodref3_Plus.l0_ok (k : Nat) : LoopOK Go.Proofs.Try.prog Go.Proofs.Try.f55.ntmps (finOf tt brindlewoodref3_Plus.B Go.Proofs.Try.f55.results.toList) (cAt [1, 1, 1, 0, 1, 0, 0] (bodyOf Go.Proofs.Try.f55)) brindlewoodref3_Plus.M0 brindlewoodref3_Plus.O0 0 (fun x => brindlewoodref3_Plus.l0 k k x.1 x.2.1 x.2.2.1 x.2.2.2.1 x.2.2.2.2) :=
  loop_ok (R0 := denB brindlewoodref3_Plus.B) (M := brindlewoodref3_Plus.M0) (O := brindlewoodref3_Plus.O0) (L := fun m (x : brindlewoodref3_Plus.M0.den) => brindlewoodref3_Plus.l0 k m x.1 x.2.1 x.2.2.1 x.2.2.2.1 x.2.2.2.2) tt_ok (brindlewoodref3_Plus.tab_ok k) follows (ann := (.seq .nil (.seq (.block (.jseq ⟨[.dat 0 (.list (.int .i64)), .dat 1 (.list (.int .i64)), .own 5 (.int .i64), .dat 6 (.int .i64), .dat 7 (.int .i64)], []⟩ .nil .nil)) .nil))) (annOK_seq (annOK_nil _) (annOK_seq (annOK_block (annOK_jseq (annOK_nil _) (annOK_nil _))) (annOK_nil _))) (fun _ => rfl) (fun m x => brindlewoodref3_Plus.l0_ev k m x) k
theorem brindlewoodref3_Plus.spec (k : Nat) : SpecOK Go.Proofs.Try.prog (brindlewoodref3_Plus.E k) :=
  fn_ok (c := bodyOf Go.Proofs.Try.f55) tt_ok (brindlewoodref3_Plus.tab_ok k) follows Go.Proofs.Try.func55 rfl (name_ne (by kernel_rfl)) (by kernel_rfl) (Nat.le_of_ble_eq_true (by kernel_rfl)) (Nat.le_of_ble_eq_true (by kernel_rfl)) (annOK_seq (annOK_nil _) (annOK_seq (annOK_nil _) (annOK_seq (annOK_nil _) (annOK_seq (annOK_seq (annOK_nil _) (annOK_block (annOK_loop (brindlewoodref3_Plus.l0_ok k)))) (annOK_nil _))))) (brindlewoodref3_Plus.ev k)

theorem brindlewoodref3_Compare.tab_ok (k : Nat) : ∀ E ∈ brindlewoodref3_Compare.tab k, SpecOK Go.Proofs.Try.prog E := forall_nil
theorem brindlewoodref3_Compare.l0_ok (k : Nat) : LoopOK Go.Proofs.Try.prog Go.Proofs.Try.f56.ntmps (finOf tt brindlewoodref3_Compare.B Go.Proofs.Try.f56.results.toList) (cAt [1, 1, 0, 1, 0, 0] (bodyOf Go.Proofs.Try.f56)) brindlewoodref3_Compare.M0 brindlewoodref3_Compare.O0 0 (fun x => brindlewoodref3_Compare.l0 k k x.1 x.2.1 x.2.2) :=
  loop_ok (R0 := denB brindlewoodref3_Compare.B) (M := brindlewoodref3_Compare.M0) (O := brindlewoodref3_Compare.O0) (L := fun m (x : brindlewoodref3_Compare.M0.den) => brindlewoodref3_Compare.l0 k m x.1 x.2.1 x.2.2) tt_ok (brindlewoodref3_Compare.tab_ok k) follows (ann := .nil) (annOK_nil _) (fun _ => rfl) (fun m x => brindlewoodref3_Compare.l0_ev k m x) k
theorem brindlewoodref3_Compare.spec (k : Nat) : SpecOK Go.Proofs.Try.prog (brindlewoodref3_Compare.E k) :=
  fn_ok (c := bodyOf Go.Proofs.Try.f56) tt_ok (brindlewoodref3_Compare.tab_ok k) follows Go.Proofs.Try.func56 rfl (name_ne (by kernel_rfl)) (by kernel_rfl) (Nat.le_of_ble_eq_true (by kernel_rfl)) (Nat.le_of_ble_eq_true (by kernel_rfl)) (annOK_seq (annOK_nil _) (annOK_seq (annOK_nil _) (annOK_seq (annOK_seq (annOK_nil _) (annOK_block (annOK_loop (brindlewoodref3_Compare.l0_ok k)))) (annOK_nil _)))) (brindlewoodref3_Compare.ev k)

theorem brindlewoodref3_Minus.tab_ok (k : Nat) : ∀ E ∈ brindlewoodref3_Minus.tab k, SpecOK Go.Proofs.Try.prog E := (forall_cons (brindlewoodref3_trim_v.spec k) forall_nil)
theorem brindlewoodref3_Minus.l0_ok (k : Nat) : LoopOK Go.Proofs.Try.prog Go.Proofs.Try.f57.ntmps (finOf tt brindlewoodref3_Minus.B Go.Proofs.Try.f57.results.toList) (cAt [1, 1, 1, 0, 1, 0, 0] (bodyOf Go.Proofs.Try.f57)) brindlewoodref3_Minus.M0 brindlewoodref3_Minus.O0 0 (fun x => brindlewoodref3_Minus.l0 k k x.1 x.2.1 x.2.2.1 x.2.2.2.1 x.2.2.2.2) :=
  loop_ok (R0 := denB brindlewoodref3_Minus.B) (M := brindlewoodref3_Minus.M0) (O := brindlewoodref3_Minus.O0) (L := fun m (x : brindlewoodref3_Minus.M0.den) => brindlewoodref3_Minus.l0 k m x.1 x.2.1 x.2.2.1 x.2.2.2.1 x.2.2.2.2) tt_ok (brindlewoodref3_Minus.tab_ok k) follows (ann := (.seq .nil (.seq (.block (.seq .nil (.jseq ⟨[.dat 0 (.list (.int .i64)), .dat 1 (.list (.int .i64)), .own 5 (.int .i64), .dat 7 (.int .i64), .dat 8 (.int .i64)], []⟩ .nil .nil))) .nil))) (annOK_seq (annOK_nil _) (annOK_seq (annOK_block (annOK_seq (annOK_nil _) (annOK_jseq (annOK_nil _) (annOK_nil _)))) (annOK_nil _))) (fun _ => rfl) (fun m x => brindlewoodref3_Minus.l0_ev k m x) k
theorem brindlewoodref3_Minus.spec (k : Nat) : SpecOK Go.Proofs.Try.prog (brindlewoodref3_Minus.E k) :=
  fn_ok (c := bodyOf Go.Proofs.Try.f57) tt_ok (brindlewoodref3_Minus.tab_ok k) follows Go.Proofs.Try.func57 rfl (name_ne (by kernel_rfl)) (by kernel_rfl) (Nat.le_of_ble_eq_true (by kernel_rfl)) (Nat.le_of_ble_eq_true (by kernel_rfl)) (annOK_seq (annOK_nil _) (annOK_seq (annOK_nil _) (annOK_seq (annOK_nil _) (annOK_seq (annOK_seq (annOK_nil _) (annOK_block (annOK_loop (brindlewoodref3_Minus.l0_ok k)))) (annOK_nil _))))) (brindlewoodref3_Minus.ev k)

theorem brindlewoodref3_Int_Plus.tab_ok (k : Nat) : ∀ E ∈ brindlewoodref3_Int_Plus.tab k, SpecOK Go.Proofs.Try.prog E := (forall_cons (brindlewoodref3_Plus.spec k) (forall_cons (brindlewoodref3_Compare.spec k) (forall_cons (brindlewoodref3_Minus.spec k) forall_nil)))
theorem brindlewoodref3_Int_Plus.spec (k : Nat) : SpecOK Go.Proofs.Try.prog (brindlewoodref3_Int_Plus.E k) :=
  fn_ok (c := bodyOf Go.Proofs.Try.f15) tt_ok (brindlewoodref3_Int_Plus.tab_ok k) follows Go.Proofs.Try.func15 rfl (name_ne (by kernel_rfl)) (by kernel_rfl) (Nat.le_of_ble_eq_true (by kernel_rfl)) (Nat.le_of_ble_eq_true (by kernel_rfl)) (annOK_nil _) (brindlewoodref3_Int_Plus.ev k)

theorem brindlewoodref3_Ones.tab_ok (k : Nat) : ∀ E ∈ brindlewoodref3_Ones.tab k, SpecOK Go.Proofs.Try.prog E := forall_nil
theorem brindlewoodref3_Ones.l2_ok (k : Nat) : LoopOK Go.Proofs.Try.prog Go.Proofs.Try.f90.ntmps (finOf tt brindlewoodref3_Ones.B Go.Proofs.Try.f90.results.toList) (cAt [1, 1, 1, 0, 0, 0] (bodyOf Go.Proofs.Try.f90)) brindlewoodref3_Ones.M2 brindlewoodref3_Ones.O2 4 (fun x => brindlewoodref3_Ones.l2 k k x) :=
  loop_ok (R0 := denB brindlewoodref3_Ones.B) (M := brindlewoodref3_Ones.M2) (O := brindlewoodref3_Ones.O2) (L := fun m (x : brindlewoodref3_Ones.M2.den) => brindlewoodref3_Ones.l2 k m x) tt_ok (brindlewoodref3_Ones.tab_ok k) follows (ann := .nil) (annOK_nil _) (fun _ => rfl) (fun m x => brindlewoodref3_Ones.l2_ev k m x) k
theorem brindlewoodref3_Ones.l1_ok (k : Nat) : LoopOK Go.Proofs.Try.prog Go.Proofs.Try.f90.ntmps (finOf tt brindlewoodref3_Ones.B Go.Proofs.Try.f90.results.toList) (cAt [1, 1, 0, 1, 0, 0, 1, 0, 0, 1, 1, 0, 0] (bodyOf Go.Proofs.Try.f90)) brindlewoodref3_Ones.M1 brindlewoodref3_Ones.O1 2 (fun x => brindlewoodref3_Ones.l1 k k x.1 x.2.1 x.2.2.1 x.2.2.2.1 x.2.2.2.2) :=
  loop_ok (R0 := denB brindlewoodref3_Ones.B) (M := brindlewoodref3_Ones.M1) (O := brindlewoodref3_Ones.O1) (L := fun m (x : brindlewoodref3_Ones.M1.den) => brindlewoodref3_Ones.l1 k m x.1 x.2.1 x.2.2.1 x.2.2.2.1 x.2.2.2.2) tt_ok (brindlewoodref3_Ones.tab_ok k) follows (ann := .nil) (annOK_nil _) (fun _ => rfl) (fun m x => brindlewoodref3_Ones.l1_ev k m x) k
theorem brindlewoodref3_Ones.l0_ok (k : Nat) : LoopOK Go.Proofs.Try.prog Go.Proofs.Try.f90.ntmps (finOf tt brindlewoodref3_Ones.B Go.Proofs.Try.f90.results.toList) (cAt [1, 1, 0, 1, 0, 0] (bodyOf Go.Proofs.Try.f90)) brindlewoodref3_Ones.M0 brindlewoodref3_Ones.O0 0 (fun x => brindlewoodref3_Ones.l0 k k x.1 x.2.1 x.2.2) :=
  loop_ok (R0 := denB brindlewoodref3_Ones.B) (M := brindlewoodref3_Ones.M0) (O := brindlewoodref3_Ones.O0) (L := fun m (x : brindlewoodref3_Ones.M0.den) => brindlewoodref3_Ones.l0 k m x.1 x.2.1 x.2.2) tt_ok (brindlewoodref3_Ones.tab_ok k) follows (ann := (.seq .nil (.seq (.block (.seq .nil (.seq .nil (.block (brindlewoodref3_Ones.an1 k))))) .nil))) (annOK_seq (annOK_nil _) (annOK_seq (annOK_block (annOK_seq (annOK_nil _) (annOK_seq (annOK_nil _) (annOK_block (annOK_loop (brindlewoodref3_Ones.l1_ok k)))))) (annOK_nil _))) (fun _ => rfl) (fun m x => brindlewoodref3_Ones.l0_ev k m x) k
theorem brindlewoodref3_Ones.spec (k : Nat) : SpecOK Go.Proofs.Try.prog (brindlewoodref3_Ones.E k) :=
  fn_ok (c := bodyOf Go.Proofs.Try.f90) tt_ok (brindlewoodref3_Ones.tab_ok k) follows Go.Proofs.Try.func90 rfl (name_ne (by kernel_rfl)) (by kernel_rfl) (Nat.le_of_ble_eq_true (by kernel_rfl)) (Nat.le_of_ble_eq_true (by kernel_rfl)) (annOK_seq (annOK_nil _) (annOK_seq (annOK_nil _) (annOK_seq (annOK_seq (annOK_nil _) (annOK_block (annOK_loop (brindlewoodref3_Ones.l0_ok k)))) (annOK_seq (annOK_block (annOK_loop (brindlewoodref3_Ones.l2_ok k))) (annOK_nil _))))) (brindlewoodref3_Ones.ev k)

theorem brindlewoodref3_Double.tab_ok (k : Nat) : ∀ E ∈ brindlewoodref3_Double.tab k, SpecOK Go.Proofs.Try.prog E := (forall_cons (brindlewoodref3_trim_v.spec k) forall_nil)
theorem brindlewoodref3_Double.l0_ok (k : Nat) : LoopOK Go.Proofs.Try.prog Go.Proofs.Try.f76.ntmps (finOf tt brindlewoodref3_Double.B Go.Proofs.Try.f76.results.toList) (cAt [1, 1, 1, 1, 0, 1, 0, 0] (bodyOf Go.Proofs.Try.f76)) brindlewoodref3_Double.M0 brindlewoodref3_Double.O0 0 (fun x => brindlewoodref3_Double.l0 k k x.1 x.2.1 x.2.2.1 x.2.2.2) :=
  loop_ok (R0 := denB brindlewoodref3_Double.B) (M := brindlewoodref3_Double.M0) (O := brindlewoodref3_Double.O0) (L := fun m (x : brindlewoodref3_Double.M0.den) => brindlewoodref3_Double.l0 k m x.1 x.2.1 x.2.2.1 x.2.2.2) tt_ok (brindlewoodref3_Double.tab_ok k) follows (ann := .nil) (annOK_nil _) (fun _ => rfl) (fun m x => brindlewoodref3_Double.l0_ev k m x) k
theorem brindlewoodref3_Double.spec (k : Nat) : SpecOK Go.Proofs.Try.prog (brindlewoodref3_Double.E k) :=
  fn_ok (c := bodyOf Go.Proofs.Try.f76) tt_ok (brindlewoodref3_Double.tab_ok k) follows Go.Proofs.Try.func76 rfl (name_ne (by kernel_rfl)) (by kernel_rfl) (Nat.le_of_ble_eq_true (by kernel_rfl)) (Nat.le_of_ble_eq_true (by kernel_rfl)) (annOK_seq (annOK_nil _) (annOK_seq (annOK_nil _) (annOK_jseq (annOK_nil _) (annOK_seq (annOK_nil _) (annOK_seq (annOK_seq (annOK_nil _) (annOK_block (annOK_loop (brindlewoodref3_Double.l0_ok k)))) (annOK_nil _)))))) (brindlewoodref3_Double.ev k)

theorem brindlewoodref3_Divide.tab_ok (k : Nat) : ∀ E ∈ brindlewoodref3_Divide.tab k, SpecOK Go.Proofs.Try.prog E := (forall_cons (brindlewoodref3_Ones.spec k) (forall_cons (brindlewoodref3_Double.spec k) (forall_cons (brindlewoodref3_Compare.spec k) (forall_cons (brindlewoodref3_Minus.spec k) (forall_cons (brindlewoodref3_Binary.spec k) forall_nil)))))
theorem brindlewoodref3_Divide.l0_ok (k : Nat) : LoopOK Go.Proofs.Try.prog Go.Proofs.Try.f77.ntmps (finOf tt brindlewoodref3_Divide.B Go.Proofs.Try.f77.results.toList) (cAt [1, 1, 1, 1, 0, 1, 0, 0] (bodyOf Go.Proofs.Try.f77)) brindlewoodref3_Divide.M0 brindlewoodref3_Divide.O0 0 (fun x => brindlewoodref3_Divide.l0 k k x.1 x.2.1 x.2.2.1 x.2.2.2.1 x.2.2.2.2) :=
  loop_ok (R0 := denB brindlewoodref3_Divide.B) (M := brindlewoodref3_Divide.M0) (O := brindlewoodref3_Divide.O0) (L := fun m (x : brindlewoodref3_Divide.M0.den) => brindlewoodref3_Divide.l0 k m x.1 x.2.1 x.2.2.1 x.2.2.2.1 x.2.2.2.2) tt_ok (brindlewoodref3_Divide.tab_ok k) follows (ann := .nil) (annOK_nil _) (fun _ => rfl) (fun m x => brindlewoodref3_Divide.l0_ev k m x) k
theorem brindlewoodref3_Divide.spec (k : Nat) : SpecOK Go.Proofs.Try.prog (brindlewoodref3_Divide.E k) :=
  fn_ok (c := bodyOf Go.Proofs.Try.f77) tt_ok (brindlewoodref3_Divide.tab_ok k) follows Go.Proofs.Try.func77 rfl (name_ne (by kernel_rfl)) (by kernel_rfl) (Nat.le_of_ble_eq_true (by kernel_rfl)) (Nat.le_of_ble_eq_true (by kernel_rfl)) (annOK_seq (annOK_nil _) (annOK_seq (annOK_nil _) (annOK_seq (annOK_nil _) (annOK_seq (annOK_nil _) (annOK_seq (annOK_seq (annOK_nil _) (annOK_block (annOK_loop (brindlewoodref3_Divide.l0_ok k)))) (annOK_nil _)))))) (brindlewoodref3_Divide.ev k)

theorem brindlewoodref3_Small.tab_ok (k : Nat) : ∀ E ∈ brindlewoodref3_Small.tab k, SpecOK Go.Proofs.Try.prog E := forall_nil
theorem brindlewoodref3_Small.l0_ok (k : Nat) : LoopOK Go.Proofs.Try.prog Go.Proofs.Try.f78.ntmps (finOf tt brindlewoodref3_Small.B Go.Proofs.Try.f78.results.toList) (cAt [1, 1, 0, 0, 0] (bodyOf Go.Proofs.Try.f78)) brindlewoodref3_Small.M0 brindlewoodref3_Small.O0 0 (fun x => brindlewoodref3_Small.l0 k k x.1 x.2) :=
  loop_ok (R0 := denB brindlewoodref3_Small.B) (M := brindlewoodref3_Small.M0) (O := brindlewoodref3_Small.O0) (L := fun m (x : brindlewoodref3_Small.M0.den) => brindlewoodref3_Small.l0 k m x.1 x.2) tt_ok (brindlewoodref3_Small.tab_ok k) follows (ann := .nil) (annOK_nil _) (fun _ => rfl) (fun m x => brindlewoodref3_Small.l0_ev k m x) k
theorem brindlewoodref3_Small.spec (k : Nat) : SpecOK Go.Proofs.Try.prog (brindlewoodref3_Small.E k) :=
  fn_ok (c := bodyOf Go.Proofs.Try.f78) tt_ok (brindlewoodref3_Small.tab_ok k) follows Go.Proofs.Try.func78 rfl (name_ne (by kernel_rfl)) (by kernel_rfl) (Nat.le_of_ble_eq_true (by kernel_rfl)) (Nat.le_of_ble_eq_true (by kernel_rfl)) (annOK_seq (annOK_nil _) (annOK_seq (annOK_nil _) (annOK_seq (annOK_block (annOK_loop (brindlewoodref3_Small.l0_ok k))) (annOK_nil _)))) (brindlewoodref3_Small.ev k)

theorem brindlewoodref3_Int_Floor.tab_ok (k : Nat) : ∀ E ∈ brindlewoodref3_Int_Floor.tab k, SpecOK Go.Proofs.Try.prog E := (forall_cons (brindlewoodref3_Divide.spec k) (forall_cons (brindlewoodref3_Small.spec k) (forall_cons (brindlewoodref3_Plus.spec k) (forall_cons (brindlewoodref3_Minus.spec k) forall_nil))))
theorem brindlewoodref3_Int_Floor.spec (k : Nat) : SpecOK Go.Proofs.Try.prog (brindlewoodref3_Int_Floor.E k) :=
  fn_ok (c := bodyOf Go.Proofs.Try.f53) tt_ok (brindlewoodref3_Int_Floor.tab_ok k) follows Go.Proofs.Try.func53 rfl (name_ne (by kernel_rfl)) (by kernel_rfl) (Nat.le_of_ble_eq_true (by kernel_rfl)) (Nat.le_of_ble_eq_true (by kernel_rfl)) (annOK_seq (annOK_nil _) (annOK_seq (annOK_nil _) (annOK_jseq (annOK_nil _) (annOK_nil _)))) (brindlewoodref3_Int_Floor.ev k)

theorem brindlewoodref3_Times.tab_ok (k : Nat) : ∀ E ∈ brindlewoodref3_Times.tab k, SpecOK Go.Proofs.Try.prog E := (forall_cons (brindlewoodref3_trim_v.spec k) forall_nil)
theorem brindlewoodref3_Times.l1_ok (k : Nat) : LoopOK Go.Proofs.Try.prog Go.Proofs.Try.f58.ntmps (finOf tt brindlewoodref3_Times.B Go.Proofs.Try.f58.results.toList) (cAt [1, 1, 0, 1, 0, 0, 1, 0, 0, 1, 1, 0, 0] (bodyOf Go.Proofs.Try.f58)) brindlewoodref3_Times.M1 brindlewoodref3_Times.O1 2 (fun x => brindlewoodref3_Times.l1 k k x.1 x.2.1 x.2.2.1 x.2.2.2.1 x.2.2.2.2.1 x.2.2.2.2.2) :=
  loop_ok (R0 := denB brindlewoodref3_Times.B) (M := brindlewoodref3_Times.M1) (O := brindlewoodref3_Times.O1) (L := fun m (x : brindlewoodref3_Times.M1.den) => brindlewoodref3_Times.l1 k m x.1 x.2.1 x.2.2.1 x.2.2.2.1 x.2.2.2.2.1 x.2.2.2.2.2) tt_ok (brindlewoodref3_Times.tab_ok k) follows (ann := .nil) (annOK_nil _) (fun _ => rfl) (fun m x => brindlewoodref3_Times.l1_ev k m x) k
theorem brindlewoodref3_Times.l0_ok (k : Nat) : LoopOK Go.Proofs.Try.prog Go.Proofs.Try.f58.ntmps (finOf tt brindlewoodref3_Times.B Go.Proofs.Try.f58.results.toList) (cAt [1, 1, 0, 1, 0, 0] (bodyOf Go.Proofs.Try.f58)) brindlewoodref3_Times.M0 brindlewoodref3_Times.O0 0 (fun x => brindlewoodref3_Times.l0 k k x.1 x.2.1 x.2.2.1 x.2.2.2) :=
  loop_ok (R0 := denB brindlewoodref3_Times.B) (M := brindlewoodref3_Times.M0) (O := brindlewoodref3_Times.O0) (L := fun m (x : brindlewoodref3_Times.M0.den) => brindlewoodref3_Times.l0 k m x.1 x.2.1 x.2.2.1 x.2.2.2) tt_ok (brindlewoodref3_Times.tab_ok k) follows (ann := (.seq .nil (.seq (.block (.seq .nil (.seq .nil (.block (brindlewoodref3_Times.an1 k))))) .nil))) (annOK_seq (annOK_nil _) (annOK_seq (annOK_block (annOK_seq (annOK_nil _) (annOK_seq (annOK_nil _) (annOK_block (annOK_loop (brindlewoodref3_Times.l1_ok k)))))) (annOK_nil _))) (fun _ => rfl) (fun m x => brindlewoodref3_Times.l0_ev k m x) k
theorem brindlewoodref3_Times.spec (k : Nat) : SpecOK Go.Proofs.Try.prog (brindlewoodref3_Times.E k) :=
  fn_ok (c := bodyOf Go.Proofs.Try.f58) tt_ok (brindlewoodref3_Times.tab_ok k) follows Go.Proofs.Try.func58 rfl (name_ne (by kernel_rfl)) (by kernel_rfl) (Nat.le_of_ble_eq_true (by kernel_rfl)) (Nat.le_of_ble_eq_true (by kernel_rfl)) (annOK_seq (annOK_nil _) (annOK_seq (annOK_nil _) (annOK_seq (annOK_seq (annOK_nil _) (annOK_block (annOK_loop (brindlewoodref3_Times.l0_ok k)))) (annOK_nil _)))) (brindlewoodref3_Times.ev k)

theorem brindlewoodref3_Int_Times.tab_ok (k : Nat) : ∀ E ∈ brindlewoodref3_Int_Times.tab k, SpecOK Go.Proofs.Try.prog E := (forall_cons (brindlewoodref3_Times.spec k) forall_nil)
theorem brindlewoodref3_Int_Times.spec (k : Nat) : SpecOK Go.Proofs.Try.prog (brindlewoodref3_Int_Times.E k) :=
  fn_ok (c := bodyOf Go.Proofs.Try.f16) tt_ok (brindlewoodref3_Int_Times.tab_ok k) follows Go.Proofs.Try.func16 rfl (name_ne (by kernel_rfl)) (by kernel_rfl) (Nat.le_of_ble_eq_true (by kernel_rfl)) (Nat.le_of_ble_eq_true (by kernel_rfl)) (annOK_nil _) (brindlewoodref3_Int_Times.ev k)

theorem brindlewoodref3_RangeOf.tab_ok (k : Nat) : ∀ E ∈ brindlewoodref3_RangeOf.tab k, SpecOK Go.Proofs.Try.prog E := (forall_cons (brindlewoodref3_IntOf.spec k) (forall_cons brindlewoodref3_Int_Minus.spec (forall_cons (brindlewoodref3_Int_Plus.spec k) (forall_cons (brindlewoodref3_Int_Floor.spec k) (forall_cons (brindlewoodref3_Number.spec k) (forall_cons (brindlewoodref3_Int_Times.spec k) forall_nil))))))
theorem brindlewoodref3_RangeOf.spec (k : Nat) : SpecOK Go.Proofs.Try.prog (brindlewoodref3_RangeOf.E k) :=
  fn_ok (c := bodyOf Go.Proofs.Try.f14) tt_ok (brindlewoodref3_RangeOf.tab_ok k) follows Go.Proofs.Try.func14 rfl (name_ne (by kernel_rfl)) (by kernel_rfl) (Nat.le_of_ble_eq_true (by kernel_rfl)) (Nat.le_of_ble_eq_true (by kernel_rfl)) (annOK_seq (annOK_nil _) (annOK_seq (annOK_nil _) (annOK_seq (annOK_nil _) (annOK_seq (annOK_nil _) (annOK_jseq (annOK_nil _) (annOK_jseq (annOK_nil _) (annOK_nil _))))))) (brindlewoodref3_RangeOf.ev k)

theorem brindlewoodref3_Range_rising.tab_ok  : ∀ E ∈ brindlewoodref3_Range_rising.tab, SpecOK Go.Proofs.Try.prog E := (forall_cons brindlewoodref3_Int_Minus.spec forall_nil)
theorem brindlewoodref3_Range_rising.spec  : SpecOK Go.Proofs.Try.prog (brindlewoodref3_Range_rising.E) :=
  fn_ok (c := bodyOf Go.Proofs.Try.f51) tt_ok (brindlewoodref3_Range_rising.tab_ok) follows Go.Proofs.Try.func51 rfl (name_ne (by kernel_rfl)) (by kernel_rfl) (Nat.le_of_ble_eq_true (by kernel_rfl)) (Nat.le_of_ble_eq_true (by kernel_rfl)) (annOK_nil _) brindlewoodref3_Range_rising.ev

theorem brindlewoodref3_Halve.tab_ok (k : Nat) : ∀ E ∈ brindlewoodref3_Halve.tab k, SpecOK Go.Proofs.Try.prog E := (forall_cons (brindlewoodref3_trim_v.spec k) forall_nil)
theorem brindlewoodref3_Halve.l0_ok (k : Nat) : LoopOK Go.Proofs.Try.prog Go.Proofs.Try.f75.ntmps (finOf tt brindlewoodref3_Halve.B Go.Proofs.Try.f75.results.toList) (cAt [1, 1, 1, 0, 1, 0, 0] (bodyOf Go.Proofs.Try.f75)) brindlewoodref3_Halve.M0 brindlewoodref3_Halve.O0 0 (fun x => brindlewoodref3_Halve.l0 k k x.1 x.2.1 x.2.2.1 x.2.2.2.1 x.2.2.2.2) :=
  loop_ok (R0 := denB brindlewoodref3_Halve.B) (M := brindlewoodref3_Halve.M0) (O := brindlewoodref3_Halve.O0) (L := fun m (x : brindlewoodref3_Halve.M0.den) => brindlewoodref3_Halve.l0 k m x.1 x.2.1 x.2.2.1 x.2.2.2.1 x.2.2.2.2) tt_ok (brindlewoodref3_Halve.tab_ok k) follows (ann := .nil) (annOK_nil _) (fun _ => rfl) (fun m x => brindlewoodref3_Halve.l0_ev k m x) k
theorem brindlewoodref3_Halve.spec (k : Nat) : SpecOK Go.Proofs.Try.prog (brindlewoodref3_Halve.E k) :=
  fn_ok (c := bodyOf Go.Proofs.Try.f75) tt_ok (brindlewoodref3_Halve.tab_ok k) follows Go.Proofs.Try.func75 rfl (name_ne (by kernel_rfl)) (by kernel_rfl) (Nat.le_of_ble_eq_true (by kernel_rfl)) (Nat.le_of_ble_eq_true (by kernel_rfl)) (annOK_seq (annOK_nil _) (annOK_seq (annOK_nil _) (annOK_seq (annOK_nil _) (annOK_seq (annOK_seq (annOK_nil _) (annOK_block (annOK_loop (brindlewoodref3_Halve.l0_ok k)))) (annOK_nil _))))) (brindlewoodref3_Halve.ev k)

theorem brindlewoodref3_Common.tab_ok (k : Nat) : ∀ E ∈ brindlewoodref3_Common.tab k, SpecOK Go.Proofs.Try.prog E := (forall_cons (brindlewoodref3_Halve.spec k) (forall_cons (brindlewoodref3_Compare.spec k) (forall_cons (brindlewoodref3_Minus.spec k) (forall_cons (brindlewoodref3_Plus.spec k) (forall_cons (brindlewoodref3_Double.spec k) forall_nil)))))
theorem brindlewoodref3_Common.l1_ok (k : Nat) : LoopOK Go.Proofs.Try.prog Go.Proofs.Try.f52.ntmps (finOf tt brindlewoodref3_Common.B Go.Proofs.Try.f52.results.toList) (cAt [1, 1, 1, 1, 0, 0, 0] (bodyOf Go.Proofs.Try.f52)) brindlewoodref3_Common.M1 brindlewoodref3_Common.O1 3 (fun x => brindlewoodref3_Common.l1 k k x.1 x.2) :=
  loop_ok (R0 := denB brindlewoodref3_Common.B) (M := brindlewoodref3_Common.M1) (O := brindlewoodref3_Common.O1) (L := fun m (x : brindlewoodref3_Common.M1.den) => brindlewoodref3_Common.l1 k m x.1 x.2) tt_ok (brindlewoodref3_Common.tab_ok k) follows (ann := .nil) (annOK_nil _) (fun _ => rfl) (fun m x => brindlewoodref3_Common.l1_ev k m x) k
theorem brindlewoodref3_Common.l0_ok (k : Nat) : LoopOK Go.Proofs.Try.prog Go.Proofs.Try.f52.ntmps (finOf tt brindlewoodref3_Common.B Go.Proofs.Try.f52.results.toList) (cAt [1, 1, 0, 0, 0] (bodyOf Go.Proofs.Try.f52)) brindlewoodref3_Common.M0 brindlewoodref3_Common.O0 0 (fun x => brindlewoodref3_Common.l0 k k x.1 x.2.1 x.2.2) :=
  loop_ok (R0 := denB brindlewoodref3_Common.B) (M := brindlewoodref3_Common.M0) (O := brindlewoodref3_Common.O0) (L := fun m (x : brindlewoodref3_Common.M0.den) => brindlewoodref3_Common.l0 k m x.1 x.2.1 x.2.2) tt_ok (brindlewoodref3_Common.tab_ok k) follows (ann := (.seq .nil (.block (.block (.jseq ⟨[.dat 0 (.list (.int .i64)), .dat 1 (.list (.int .i64)), .dat 5 (.int .i64), .dat 11 (.list (.int .i64)), .dat 12 (.int .i64), .dat 13 (.bool), .dat 18 (.bool)], []⟩ .nil .nil))))) (annOK_seq (annOK_nil _) (annOK_block (annOK_block (annOK_jseq (annOK_nil _) (annOK_nil _))))) (fun _ => rfl) (fun m x => brindlewoodref3_Common.l0_ev k m x) k
theorem brindlewoodref3_Common.spec (k : Nat) : SpecOK Go.Proofs.Try.prog (brindlewoodref3_Common.E k) :=
  fn_ok (c := bodyOf Go.Proofs.Try.f52) tt_ok (brindlewoodref3_Common.tab_ok k) follows Go.Proofs.Try.func52 rfl (name_ne (by kernel_rfl)) (by kernel_rfl) (Nat.le_of_ble_eq_true (by kernel_rfl)) (Nat.le_of_ble_eq_true (by kernel_rfl)) (annOK_seq (annOK_nil _) (annOK_seq (annOK_nil _) (annOK_seq (annOK_block (annOK_loop (brindlewoodref3_Common.l0_ok k))) (annOK_seq (annOK_nil _) (annOK_seq (annOK_block (annOK_loop (brindlewoodref3_Common.l1_ok k))) (annOK_nil _)))))) (brindlewoodref3_Common.ev k)

theorem brindlewoodref3_Int_Order.tab_ok (k : Nat) : ∀ E ∈ brindlewoodref3_Int_Order.tab k, SpecOK Go.Proofs.Try.prog E := (forall_cons (brindlewoodref3_Compare.spec k) forall_nil)
theorem brindlewoodref3_Int_Order.spec (k : Nat) : SpecOK Go.Proofs.Try.prog (brindlewoodref3_Int_Order.E k) :=
  fn_ok (c := bodyOf Go.Proofs.Try.f19) tt_ok (brindlewoodref3_Int_Order.tab_ok k) follows Go.Proofs.Try.func19 rfl (name_ne (by kernel_rfl)) (by kernel_rfl) (Nat.le_of_ble_eq_true (by kernel_rfl)) (Nat.le_of_ble_eq_true (by kernel_rfl)) (annOK_seq (annOK_nil _) (annOK_jseq (annOK_nil _) (annOK_seq (annOK_block (annOK_jseq (annOK_nil _) (annOK_nil _))) (annOK_nil _)))) (brindlewoodref3_Int_Order.ev k)

theorem brindlewoodref3_inverse.spec_r (k : Nat) : ∀ m : Nat, SpecOK Go.Proofs.Try.prog { f := 54, A := brindlewoodref3_inverse.A, B := brindlewoodref3_inverse.B, run := fun x => brindlewoodref3_inverse.r k m x.1 x.2 }
  | 0 => spec_none Go.Proofs.Try.func54 (name_ne (by kernel_rfl)) (by kernel_rfl) (by kernel_rfl) (fun _ => rfl)
  | m + 1 => fn_ok (c := bodyOf Go.Proofs.Try.f54) tt_ok (tab := brindlewoodref3_inverse.tab k m) (forall_cons (brindlewoodref3_inverse.spec_r k m) (forall_cons (brindlewoodref3_Int_Floor.spec k) (forall_cons (brindlewoodref3_Number.spec k) (forall_cons (brindlewoodref3_Int_Order.spec k) (forall_cons brindlewoodref3_Int_Minus.spec (forall_cons (brindlewoodref3_Int_Times.spec k) (forall_cons (brindlewoodref3_Int_Plus.spec k) forall_nil))))))) follows Go.Proofs.Try.func54 rfl (name_ne (by kernel_rfl)) (by kernel_rfl) (Nat.le_of_ble_eq_true (by kernel_rfl)) (Nat.le_of_ble_eq_true (by kernel_rfl)) (annOK_nil _) (brindlewoodref3_inverse.ev k m)
theorem brindlewoodref3_inverse.spec (k : Nat) : SpecOK Go.Proofs.Try.prog (brindlewoodref3_inverse.E k) := brindlewoodref3_inverse.spec_r k k

theorem brindlewoodref3_Met.tab_ok (k : Nat) : ∀ E ∈ brindlewoodref3_Met.tab k, SpecOK Go.Proofs.Try.prog E := (forall_cons brindlewoodref3_Range_rising.spec (forall_cons (brindlewoodref3_Common.spec k) (forall_cons brindlewoodref3_Int_Minus.spec (forall_cons (brindlewoodref3_Int_Plus.spec k) (forall_cons (brindlewoodref3_Int_Floor.spec k) (forall_cons (brindlewoodref3_inverse.spec k) (forall_cons (brindlewoodref3_Int_Times.spec k) (forall_cons (brindlewoodref3_Number.spec k) (forall_cons (brindlewoodref3_Int_Order.spec k) forall_nil)))))))))
theorem brindlewoodref3_Met.spec (k : Nat) : SpecOK Go.Proofs.Try.prog (brindlewoodref3_Met.E k) :=
  fn_ok (c := bodyOf Go.Proofs.Try.f13) tt_ok (brindlewoodref3_Met.tab_ok k) follows Go.Proofs.Try.func13 rfl (name_ne (by kernel_rfl)) (by kernel_rfl) (Nat.le_of_ble_eq_true (by kernel_rfl)) (Nat.le_of_ble_eq_true (by kernel_rfl)) (annOK_seq (annOK_nil _) (annOK_jseq (annOK_nil _) (annOK_seq (annOK_nil _) (annOK_seq (annOK_nil _) (annOK_seq (annOK_nil _) (annOK_seq (annOK_nil _) (annOK_seq (annOK_nil _) (annOK_seq (annOK_nil _) (annOK_seq (annOK_nil _) (annOK_seq (annOK_nil _) (annOK_seq (annOK_nil _) (annOK_seq (annOK_nil _) (annOK_jseq (annOK_seq (annOK_nil _) (annOK_jseq (annOK_nil _) (annOK_nil _))) (annOK_jseq (annOK_nil _) (annOK_nil _))))))))))))))) (brindlewoodref3_Met.ev k)

theorem brindlewoodref3_Int_Fits.tab_ok  : ∀ E ∈ brindlewoodref3_Int_Fits.tab, SpecOK Go.Proofs.Try.prog E := forall_nil
theorem brindlewoodref3_Int_Fits.spec  : SpecOK Go.Proofs.Try.prog (brindlewoodref3_Int_Fits.E) :=
  fn_ok (c := bodyOf Go.Proofs.Try.f18) tt_ok (brindlewoodref3_Int_Fits.tab_ok) follows Go.Proofs.Try.func18 rfl (name_ne (by kernel_rfl)) (by kernel_rfl) (Nat.le_of_ble_eq_true (by kernel_rfl)) (Nat.le_of_ble_eq_true (by kernel_rfl)) (annOK_nil _) brindlewoodref3_Int_Fits.ev

theorem brindlewoodref3_IsPlain.tab_ok (k : Nat) : ∀ E ∈ brindlewoodref3_IsPlain.tab k, SpecOK Go.Proofs.Try.prog E := (forall_cons brindlewoodref3_NoInt.spec (forall_cons (brindlewoodref3_Number.spec k) (forall_cons (brindlewoodref3_SameInt.spec k) (forall_cons (brindlewoodref3_Int_Order.spec k) (forall_cons (brindlewoodref3_Int_Plus.spec k) (forall_cons (brindlewoodref3_Int_Times.spec k) forall_nil))))))
theorem brindlewoodref3_IsPlain.spec (k : Nat) : SpecOK Go.Proofs.Try.prog (brindlewoodref3_IsPlain.E k) :=
  fn_ok (c := bodyOf Go.Proofs.Try.f20) tt_ok (brindlewoodref3_IsPlain.tab_ok k) follows Go.Proofs.Try.func20 rfl (name_ne (by kernel_rfl)) (by kernel_rfl) (Nat.le_of_ble_eq_true (by kernel_rfl)) (Nat.le_of_ble_eq_true (by kernel_rfl)) (annOK_seq (annOK_nil _) (annOK_seq (annOK_nil _) (annOK_jseq (annOK_nil _) (annOK_seq (annOK_nil _) (annOK_jseq (annOK_nil _) (annOK_nil _)))))) (brindlewoodref3_IsPlain.ev k)

theorem brindlewoodlaw3_RangesMeet.tab_ok (k : Nat) : ∀ E ∈ brindlewoodlaw3_RangesMeet.tab k, SpecOK Go.Proofs.Try.prog E := (forall_cons (ranges_Meet.spec k) (forall_cons (brindlewoodref3_RangeOk.spec k) (forall_cons brindlewoodref3_At.spec (forall_cons (brindlewoodlaw3_spans.spec k) (forall_cons brindlewoodref3_NoRange.spec (forall_cons (brindlewoodref3_RangeOf.spec k) (forall_cons (brindlewoodref3_Met.spec k) (forall_cons (brindlewoodref3_Number.spec k) (forall_cons (brindlewoodref3_Int_Plus.spec k) (forall_cons (brindlewoodref3_Int_Times.spec k) (forall_cons brindlewoodref3_Int_Fits.spec (forall_cons (brindlewoodref3_Int_Order.spec k) (forall_cons (brindlewoodref3_IsPlain.spec k) forall_nil)))))))))))))
theorem brindlewoodlaw3_RangesMeet.spec (k : Nat) : SpecOK Go.Proofs.Try.prog (brindlewoodlaw3_RangesMeet.E k) :=
  fn_ok (c := bodyOf Go.Proofs.Try.f3) tt_ok (brindlewoodlaw3_RangesMeet.tab_ok k) follows Go.Proofs.Try.func3 rfl (name_ne (by kernel_rfl)) (by kernel_rfl) (Nat.le_of_ble_eq_true (by kernel_rfl)) (Nat.le_of_ble_eq_true (by kernel_rfl)) (annOK_seq (annOK_nil _) (annOK_seq (annOK_nil _) (annOK_seq (annOK_nil _) (annOK_jseq (annOK_nil _) (annOK_nil _))))) (brindlewoodlaw3_RangesMeet.ev k)
end Go.Sh
