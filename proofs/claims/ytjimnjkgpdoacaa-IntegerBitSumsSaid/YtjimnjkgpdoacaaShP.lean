/- The functions keep their word, by wip/gen/gen.py.  Conditions: none. -/
import Derived.Test.YtjimnjkgpdoacaaShE
import Derived.Test.YtjimnjkgpdoacaaE4
import Derived.Test.YtjimnjkgpdoacaaChecked
set_option linter.unusedVariables false
set_option maxRecDepth 100000
set_option maxHeartbeats 0
namespace Go.Sh
open Go Go.Ev

theorem tt_3 : TyOK Go.Proofs.Try.prog 3 ⟨.int .i64, 0, [], false, true⟩ := tyInt (by kernel_rfl) (by kernel_rfl)
theorem tt_4 : TyOK Go.Proofs.Try.prog 4 ⟨.bool, 0, [], false, true⟩ := tyBool (by kernel_rfl) (by kernel_rfl)
theorem tt_5 : TyOK Go.Proofs.Try.prog 5 ⟨.int .u8, 0, [], false, true⟩ := tyInt (by kernel_rfl) (by kernel_rfl)
theorem tt_9 : TyOK Go.Proofs.Try.prog 9 ⟨.str, 0, [], false, true⟩ := tyStr (by kernel_rfl) (by kernel_rfl)
theorem tt_22 : TyOK Go.Proofs.Try.prog 22 ⟨.list (.int .u32), 4, [], false, true⟩ := tyList (et := 71) (by kernel_rfl) (by kernel_rfl) (by kernel_rfl) (by kernel_rfl) (by kernel_rfl) (by kernel_rfl) (fun k h => by cases h; kernel_rfl)
theorem tt_24 : TyOK Go.Proofs.Try.prog 24 ⟨.st (.pair (.bool) (.list (.int .u32))), 0, [(0, .bool), (1, .list (.int .u32))], false, true⟩ := tySt (fs := fieldsOf' Go.Proofs.Try.prog 24) (by kernel_rfl) (by kernel_rfl) (by kernel_rfl) (by kernel_rfl)
theorem tt_28 : TyOK Go.Proofs.Try.prog 28 ⟨.st (.pair (.int .i64) (.int .i64)), 0, [(0, .int .i64), (1, .int .i64)], false, true⟩ := tySt (fs := fieldsOf' Go.Proofs.Try.prog 28) (by kernel_rfl) (by kernel_rfl) (by kernel_rfl) (by kernel_rfl)
theorem tt_39 : TyOK Go.Proofs.Try.prog 39 ⟨.list (.int .i64), 8, [], false, true⟩ := tyList (et := 3) (by kernel_rfl) (by kernel_rfl) (by kernel_rfl) (by kernel_rfl) (by kernel_rfl) (by kernel_rfl) (fun k h => by cases h; kernel_rfl)
theorem tt_52 : TyOK Go.Proofs.Try.prog 52 ⟨.list (.int .i64), 8, [], false, true⟩ := tyList (et := 3) (by kernel_rfl) (by kernel_rfl) (by kernel_rfl) (by kernel_rfl) (by kernel_rfl) (by kernel_rfl) (fun k h => by cases h; kernel_rfl)
theorem tt_54 : TyOK Go.Proofs.Try.prog 54 ⟨.st (.pair (.bool) (.list (.int .i64))), 0, [(0, .bool), (1, .list (.int .i64))], false, true⟩ := tySt (fs := fieldsOf' Go.Proofs.Try.prog 54) (by kernel_rfl) (by kernel_rfl) (by kernel_rfl) (by kernel_rfl)
theorem tt_60 : TyOK Go.Proofs.Try.prog 60 ⟨.list (.bool), 1, [], false, true⟩ := tyList (et := 4) (by kernel_rfl) (by kernel_rfl) (by kernel_rfl) (by kernel_rfl) (by kernel_rfl) (by kernel_rfl) (fun k h => by cases h)
theorem tt_67 : TyOK Go.Proofs.Try.prog 67 ⟨.list (.st (.pair (.bool) (.list (.int .u32)))), 32, [], false, true⟩ := tyList (et := 24) (by kernel_rfl) (by kernel_rfl) (by kernel_rfl) (by kernel_rfl) (by kernel_rfl) (by kernel_rfl) (fun k h => by cases h)
theorem tt_71 : TyOK Go.Proofs.Try.prog 71 ⟨.int .u32, 0, [], false, true⟩ := tyInt (by kernel_rfl) (by kernel_rfl)
theorem tt_74 : TyOK Go.Proofs.Try.prog 74 ⟨.int .u64, 0, [], false, true⟩ := tyInt (by kernel_rfl) (by kernel_rfl)
theorem tt_110 : TyOK Go.Proofs.Try.prog 110 ⟨.list (.int .u8), 1, [], false, true⟩ := tyList (et := 5) (by kernel_rfl) (by kernel_rfl) (by kernel_rfl) (by kernel_rfl) (by kernel_rfl) (by kernel_rfl) (fun k h => by cases h; kernel_rfl)
theorem tt_ok : TypesOK Go.Proofs.Try.prog tt := types_ok (rows := ttRows) (forall_cons tt_3 (forall_cons tt_4 (forall_cons tt_5 (forall_cons tt_9 (forall_cons tt_22 (forall_cons tt_24 (forall_cons tt_28 (forall_cons tt_39 (forall_cons tt_52 (forall_cons tt_54 (forall_cons tt_60 (forall_cons tt_67 (forall_cons tt_71 (forall_cons tt_74 (forall_cons tt_110 forall_nil)))))))))))))))
theorem follows : Go.Proofs.Try.prog.follows .mixedOrders = true := by kernel_rfl

theorem integer_Of.tab_ok (k : Nat) : ∀ E ∈ integer_Of.tab k, SpecOK Go.Proofs.Try.prog E := forall_nil
theorem integer_Of.l0_ok (k : Nat) : LoopOK Go.Proofs.Try.prog Go.Proofs.Try.f17.ntmps (finOf tt integer_Of.B Go.Proofs.Try.f17.results.toList) (cAt [1, 1, 1, 1, 0, 0, 0] (bodyOf Go.Proofs.Try.f17)) integer_Of.M0 integer_Of.O0 0 (fun x => integer_Of.l0 k k x.1 x.2.1 x.2.2) :=
  loop_ok (R0 := denB integer_Of.B) (M := integer_Of.M0) (O := integer_Of.O0) (L := fun m (x : integer_Of.M0.den) => integer_Of.l0 k m x.1 x.2.1 x.2.2) tt_ok (integer_Of.tab_ok k) follows (ann := .nil) (annOK_nil _) (fun _ => rfl) (fun m x => integer_Of.l0_ev k m x) k
theorem integer_Of.spec (k : Nat) : SpecOK Go.Proofs.Try.prog (integer_Of.E k) :=
  fn_ok (c := bodyOf Go.Proofs.Try.f17) tt_ok (integer_Of.tab_ok k) follows Go.Proofs.Try.func17 rfl (name_ne (by kernel_rfl)) (by kernel_rfl) (Nat.le_of_ble_eq_true (by kernel_rfl)) (Nat.le_of_ble_eq_true (by kernel_rfl)) (annOK_seq (annOK_nil _) (annOK_seq (annOK_nil _) (annOK_jseq (annOK_nil _) (annOK_seq (annOK_nil _) (annOK_seq (annOK_block (annOK_loop (integer_Of.l0_ok k))) (annOK_nil _)))))) (integer_Of.ev k)

theorem integer_Valid.tab_ok  : ∀ E ∈ integer_Valid.tab, SpecOK Go.Proofs.Try.prog E := forall_nil
theorem integer_Valid.spec  : SpecOK Go.Proofs.Try.prog (integer_Valid.E) :=
  fn_ok (c := bodyOf Go.Proofs.Try.f36) tt_ok (integer_Valid.tab_ok) follows Go.Proofs.Try.func36 rfl (name_ne (by kernel_rfl)) (by kernel_rfl) (Nat.le_of_ble_eq_true (by kernel_rfl)) (Nat.le_of_ble_eq_true (by kernel_rfl)) (annOK_nil _) integer_Valid.ev

theorem integer_at.tab_ok  : ∀ E ∈ integer_at.tab, SpecOK Go.Proofs.Try.prog E := forall_nil
theorem integer_at.spec  : SpecOK Go.Proofs.Try.prog (integer_at.E) :=
  fn_ok (c := bodyOf Go.Proofs.Try.f75) tt_ok (integer_at.tab_ok) follows Go.Proofs.Try.func75 rfl (name_ne (by kernel_rfl)) (by kernel_rfl) (Nat.le_of_ble_eq_true (by kernel_rfl)) (Nat.le_of_ble_eq_true (by kernel_rfl)) (annOK_nil _) integer_at.ev

theorem integer_check.tab_ok (k : Nat) : ∀ E ∈ integer_check.tab k, SpecOK Go.Proofs.Try.prog E := (forall_cons integer_Valid.spec (forall_cons integer_at.spec forall_nil))
theorem integer_check.l0_ok (k : Nat) : LoopOK Go.Proofs.Try.prog Go.Proofs.Try.f51.ntmps (finOf tt integer_check.B Go.Proofs.Try.f51.results.toList) (cAt [1, 0, 1, 0, 0] (bodyOf Go.Proofs.Try.f51)) integer_check.M0 integer_check.O0 0 (fun x => integer_check.l0 k k x.1 x.2.1 x.2.2.1 x.2.2.2) :=
  loop_ok (R0 := denB integer_check.B) (M := integer_check.M0) (O := integer_check.O0) (L := fun m (x : integer_check.M0.den) => integer_check.l0 k m x.1 x.2.1 x.2.2.1 x.2.2.2) tt_ok (integer_check.tab_ok k) follows (ann := .nil) (annOK_nil _) (fun _ => rfl) (fun m x => integer_check.l0_ev k m x) k
theorem integer_check.spec (k : Nat) : SpecOK Go.Proofs.Try.prog (integer_check.E k) :=
  fn_ok (c := bodyOf Go.Proofs.Try.f51) tt_ok (integer_check.tab_ok k) follows Go.Proofs.Try.func51 rfl (name_ne (by kernel_rfl)) (by kernel_rfl) (Nat.le_of_ble_eq_true (by kernel_rfl)) (Nat.le_of_ble_eq_true (by kernel_rfl)) (annOK_seq (annOK_nil _) (annOK_seq (annOK_seq (annOK_nil _) (annOK_block (annOK_loop (integer_check.l0_ok k)))) (annOK_nil _))) (integer_check.ev k)

theorem natural_Valid.tab_ok  : ∀ E ∈ natural_Valid.tab, SpecOK Go.Proofs.Try.prog E := forall_nil
theorem natural_Valid.spec  : SpecOK Go.Proofs.Try.prog (natural_Valid.E) :=
  fn_ok (c := bodyOf Go.Proofs.Try.f91) tt_ok (natural_Valid.tab_ok) follows Go.Proofs.Try.func91 rfl (name_ne (by kernel_rfl)) (by kernel_rfl) (Nat.le_of_ble_eq_true (by kernel_rfl)) (Nat.le_of_ble_eq_true (by kernel_rfl)) (annOK_nil _) natural_Valid.ev

theorem natural_at.tab_ok  : ∀ E ∈ natural_at.tab, SpecOK Go.Proofs.Try.prog E := forall_nil
theorem natural_at.spec  : SpecOK Go.Proofs.Try.prog (natural_at.E) :=
  fn_ok (c := bodyOf Go.Proofs.Try.f78) tt_ok (natural_at.tab_ok) follows Go.Proofs.Try.func78 rfl (name_ne (by kernel_rfl)) (by kernel_rfl) (Nat.le_of_ble_eq_true (by kernel_rfl)) (Nat.le_of_ble_eq_true (by kernel_rfl)) (annOK_nil _) natural_at.ev

theorem natural_check.tab_ok  : ∀ E ∈ natural_check.tab, SpecOK Go.Proofs.Try.prog E := (forall_cons natural_Valid.spec (forall_cons natural_at.spec forall_nil))
theorem natural_check.spec  : SpecOK Go.Proofs.Try.prog (natural_check.E) :=
  fn_ok (c := bodyOf Go.Proofs.Try.f76) tt_ok (natural_check.tab_ok) follows Go.Proofs.Try.func76 rfl (name_ne (by kernel_rfl)) (by kernel_rfl) (Nat.le_of_ble_eq_true (by kernel_rfl)) (Nat.le_of_ble_eq_true (by kernel_rfl)) (annOK_nil _) natural_check.ev

theorem natural_compare.tab_ok (k : Nat) : ∀ E ∈ natural_compare.tab k, SpecOK Go.Proofs.Try.prog E := forall_nil
theorem natural_compare.l0_ok (k : Nat) : LoopOK Go.Proofs.Try.prog Go.Proofs.Try.f77.ntmps (finOf tt natural_compare.B Go.Proofs.Try.f77.results.toList) (cAt [1, 1, 0, 1, 0, 0] (bodyOf Go.Proofs.Try.f77)) natural_compare.M0 natural_compare.O0 0 (fun x => natural_compare.l0 k k x.1 x.2.1 x.2.2) :=
  loop_ok (R0 := denB natural_compare.B) (M := natural_compare.M0) (O := natural_compare.O0) (L := fun m (x : natural_compare.M0.den) => natural_compare.l0 k m x.1 x.2.1 x.2.2) tt_ok (natural_compare.tab_ok k) follows (ann := .nil) (annOK_nil _) (fun _ => rfl) (fun m x => natural_compare.l0_ev k m x) k
theorem natural_compare.spec (k : Nat) : SpecOK Go.Proofs.Try.prog (natural_compare.E k) :=
  fn_ok (c := bodyOf Go.Proofs.Try.f77) tt_ok (natural_compare.tab_ok k) follows Go.Proofs.Try.func77 rfl (name_ne (by kernel_rfl)) (by kernel_rfl) (Nat.le_of_ble_eq_true (by kernel_rfl)) (Nat.le_of_ble_eq_true (by kernel_rfl)) (annOK_seq (annOK_nil _) (annOK_seq (annOK_nil _) (annOK_seq (annOK_seq (annOK_nil _) (annOK_block (annOK_loop (natural_compare.l0_ok k)))) (annOK_nil _)))) (natural_compare.ev k)

theorem slices_Clone_uint32uint32.spec : SpecOK Go.Proofs.Try.prog slices_Clone_uint32uint32.E :=
  clone_ok' (f := 92) (fn := Go.Proofs.Try.f92) (T := tt) (e := .int .u32) (t := 22) (et := 71) (run := slices_Clone_uint32uint32) tt_ok follows Go.Proofs.Try.func92 rfl (name_ne (by kernel_rfl)) rfl (by kernel_rfl) (by kernel_rfl) (by kernel_rfl) (fun x => by kernel_rfl) (fun x => by kernel_rfl) (fun x => by kernel_rfl) (fun x => by kernel_rfl) (by kernel_rfl) (fun x => by kernel_rfl) (clone_id slices_Clone_uint32uint32.eq_1)

theorem bits_Div32.tab_ok  : ∀ E ∈ bits_Div32.tab, SpecOK Go.Proofs.Try.prog E := forall_nil
theorem bits_Div32.spec  : SpecOK Go.Proofs.Try.prog (bits_Div32.E) :=
  fn_ok (c := bodyOf Go.Proofs.Try.f101) tt_ok (bits_Div32.tab_ok) follows Go.Proofs.Try.func101 rfl (name_ne (by kernel_rfl)) (by kernel_rfl) (Nat.le_of_ble_eq_true (by kernel_rfl)) (Nat.le_of_ble_eq_true (by kernel_rfl)) (annOK_seq (annOK_nil _) (annOK_jseq (annOK_nil _) (annOK_nil _))) bits_Div32.ev

theorem natural_trim_v.tab_ok (k : Nat) : ∀ E ∈ natural_trim_v.tab k, SpecOK Go.Proofs.Try.prog E := forall_nil
theorem natural_trim_v.l0_ok (k : Nat) : LoopOK Go.Proofs.Try.prog Go.Proofs.Try.f94.ntmps (finOf tt natural_trim_v.B Go.Proofs.Try.f94.results.toList) (cAt [1, 0, 0, 0] (bodyOf Go.Proofs.Try.f94)) natural_trim_v.M0 natural_trim_v.O0 0 (fun x => natural_trim_v.l0 k k x.1 x.2) :=
  loop_ok (R0 := denB natural_trim_v.B) (M := natural_trim_v.M0) (O := natural_trim_v.O0) (L := fun m (x : natural_trim_v.M0.den) => natural_trim_v.l0 k m x.1 x.2) tt_ok (natural_trim_v.tab_ok k) follows (ann := .nil) (annOK_nil _) (fun _ => rfl) (fun m x => natural_trim_v.l0_ev k m x) k
theorem natural_trim_v.spec (k : Nat) : SpecOK Go.Proofs.Try.prog (natural_trim_v.E k) :=
  fn_ok (c := bodyOf Go.Proofs.Try.f94) tt_ok (natural_trim_v.tab_ok k) follows Go.Proofs.Try.func94 rfl (name_ne (by kernel_rfl)) (by kernel_rfl) (Nat.le_of_ble_eq_true (by kernel_rfl)) (Nat.le_of_ble_eq_true (by kernel_rfl)) (annOK_seq (annOK_nil _) (annOK_seq (annOK_block (annOK_loop (natural_trim_v.l0_ok k))) (annOK_nil _))) (natural_trim_v.ev k)

theorem natural_short.tab_ok (k : Nat) : ∀ E ∈ natural_short.tab k, SpecOK Go.Proofs.Try.prog E := (forall_cons bits_Div32.spec (forall_cons (natural_trim_v.spec k) forall_nil))
theorem natural_short.l0_ok (k : Nat) : LoopOK Go.Proofs.Try.prog Go.Proofs.Try.f98.ntmps (finOf tt natural_short.B Go.Proofs.Try.f98.results.toList) (cAt [1, 1, 1, 0, 1, 0, 0] (bodyOf Go.Proofs.Try.f98)) natural_short.M0 natural_short.O0 0 (fun x => natural_short.l0 k k x.1 x.2.1 x.2.2.1 x.2.2.2.1 x.2.2.2.2) :=
  loop_ok (R0 := denB natural_short.B) (M := natural_short.M0) (O := natural_short.O0) (L := fun m (x : natural_short.M0.den) => natural_short.l0 k m x.1 x.2.1 x.2.2.1 x.2.2.2.1 x.2.2.2.2) tt_ok (natural_short.tab_ok k) follows (ann := .nil) (annOK_nil _) (fun _ => rfl) (fun m x => natural_short.l0_ev k m x) k
theorem natural_short.spec (k : Nat) : SpecOK Go.Proofs.Try.prog (natural_short.E k) :=
  fn_ok (c := bodyOf Go.Proofs.Try.f98) tt_ok (natural_short.tab_ok k) follows Go.Proofs.Try.func98 rfl (name_ne (by kernel_rfl)) (by kernel_rfl) (Nat.le_of_ble_eq_true (by kernel_rfl)) (Nat.le_of_ble_eq_true (by kernel_rfl)) (annOK_seq (annOK_nil _) (annOK_seq (annOK_nil _) (annOK_seq (annOK_nil _) (annOK_seq (annOK_seq (annOK_nil _) (annOK_block (annOK_loop (natural_short.l0_ok k)))) (annOK_nil _))))) (natural_short.ev k)

theorem bits_Len32.tab_ok  : ∀ E ∈ bits_Len32.tab, SpecOK Go.Proofs.Try.prog E := forall_nil
theorem bits_Len32.spec  : SpecOK Go.Proofs.Try.prog (bits_Len32.E) :=
  fn_ok (c := bodyOf Go.Proofs.Try.f95) tt_ok (bits_Len32.tab_ok) follows Go.Proofs.Try.func95 rfl (name_ne (by kernel_rfl)) (by kernel_rfl) (Nat.le_of_ble_eq_true (by kernel_rfl)) (Nat.le_of_ble_eq_true (by kernel_rfl)) (annOK_seq (annOK_nil _) (annOK_jseq (annOK_nil _) (annOK_nil _))) bits_Len32.ev

theorem bits_LeadingZeros32.tab_ok  : ∀ E ∈ bits_LeadingZeros32.tab, SpecOK Go.Proofs.Try.prog E := (forall_cons bits_Len32.spec forall_nil)
theorem bits_LeadingZeros32.spec  : SpecOK Go.Proofs.Try.prog (bits_LeadingZeros32.E) :=
  fn_ok (c := bodyOf Go.Proofs.Try.f102) tt_ok (bits_LeadingZeros32.tab_ok) follows Go.Proofs.Try.func102 rfl (name_ne (by kernel_rfl)) (by kernel_rfl) (Nat.le_of_ble_eq_true (by kernel_rfl)) (Nat.le_of_ble_eq_true (by kernel_rfl)) (annOK_nil _) bits_LeadingZeros32.ev

theorem natural_left.tab_ok (k : Nat) : ∀ E ∈ natural_left.tab k, SpecOK Go.Proofs.Try.prog E := (forall_cons (natural_trim_v.spec k) forall_nil)
theorem natural_left.l0_ok (k : Nat) : LoopOK Go.Proofs.Try.prog Go.Proofs.Try.f82.ntmps (finOf tt natural_left.B Go.Proofs.Try.f82.results.toList) (cAt [1, 1, 1, 0, 1, 0, 0] (bodyOf Go.Proofs.Try.f82)) natural_left.M0 natural_left.O0 0 (fun x => natural_left.l0 k k x.1 x.2.1 x.2.2.1 x.2.2.2.1 x.2.2.2.2.1 x.2.2.2.2.2) :=
  loop_ok (R0 := denB natural_left.B) (M := natural_left.M0) (O := natural_left.O0) (L := fun m (x : natural_left.M0.den) => natural_left.l0 k m x.1 x.2.1 x.2.2.1 x.2.2.2.1 x.2.2.2.2.1 x.2.2.2.2.2) tt_ok (natural_left.tab_ok k) follows (ann := .nil) (annOK_nil _) (fun _ => rfl) (fun m x => natural_left.l0_ev k m x) k
theorem natural_left.spec (k : Nat) : SpecOK Go.Proofs.Try.prog (natural_left.E k) :=
  fn_ok (c := bodyOf Go.Proofs.Try.f82) tt_ok (natural_left.tab_ok k) follows Go.Proofs.Try.func82 rfl (name_ne (by kernel_rfl)) (by kernel_rfl) (Nat.le_of_ble_eq_true (by kernel_rfl)) (Nat.le_of_ble_eq_true (by kernel_rfl)) (annOK_seq (annOK_nil _) (annOK_seq (annOK_nil _) (annOK_seq (annOK_nil _) (annOK_seq (annOK_seq (annOK_nil _) (annOK_block (annOK_loop (natural_left.l0_ok k)))) (annOK_nil _))))) (natural_left.ev k)

theorem bits_Sub32.tab_ok  : ∀ E ∈ bits_Sub32.tab, SpecOK Go.Proofs.Try.prog E := forall_nil
theorem bits_Sub32.spec  : SpecOK Go.Proofs.Try.prog (bits_Sub32.E) :=
  fn_ok (c := bodyOf Go.Proofs.Try.f93) tt_ok (bits_Sub32.tab_ok) follows Go.Proofs.Try.func93 rfl (name_ne (by kernel_rfl)) (by kernel_rfl) (Nat.le_of_ble_eq_true (by kernel_rfl)) (Nat.le_of_ble_eq_true (by kernel_rfl)) (annOK_nil _) bits_Sub32.ev

theorem bits_Add32.tab_ok  : ∀ E ∈ bits_Add32.tab, SpecOK Go.Proofs.Try.prog E := forall_nil
theorem bits_Add32.spec  : SpecOK Go.Proofs.Try.prog (bits_Add32.E) :=
  fn_ok (c := bodyOf Go.Proofs.Try.f104) tt_ok (bits_Add32.tab_ok) follows Go.Proofs.Try.func104 rfl (name_ne (by kernel_rfl)) (by kernel_rfl) (Nat.le_of_ble_eq_true (by kernel_rfl)) (Nat.le_of_ble_eq_true (by kernel_rfl)) (annOK_nil _) bits_Add32.ev

theorem natural_digit_ld.tab_ok (k : Nat) : ∀ E ∈ natural_digit_ld.tab k, SpecOK Go.Proofs.Try.prog E := (forall_cons bits_Sub32.spec (forall_cons bits_Add32.spec forall_nil))
theorem natural_digit_ld.l2_ok (k : Nat) : LoopOK Go.Proofs.Try.prog Go.Proofs.Try.f103.ntmps (finOf tt natural_digit_ld.B Go.Proofs.Try.f103.results.toList) (cAt [1, 1, 1, 1, 1, 1, 1, 0, 1, 0, 1, 1, 0, 1, 0, 0] (bodyOf Go.Proofs.Try.f103)) natural_digit_ld.M2 natural_digit_ld.O2 4 (fun x => natural_digit_ld.l2 k k x.1 x.2.1 x.2.2.1 x.2.2.2.1 x.2.2.2.2.1 x.2.2.2.2.2.1 x.2.2.2.2.2.2) :=
  loop_ok (R0 := denB natural_digit_ld.B) (M := natural_digit_ld.M2) (O := natural_digit_ld.O2) (L := fun m (x : natural_digit_ld.M2.den) => natural_digit_ld.l2 k m x.1 x.2.1 x.2.2.1 x.2.2.2.1 x.2.2.2.2.1 x.2.2.2.2.2.1 x.2.2.2.2.2.2) tt_ok (natural_digit_ld.tab_ok k) follows (ann := .nil) (annOK_nil _) (fun _ => rfl) (fun m x => natural_digit_ld.l2_ev k m x) k
theorem natural_digit_ld.l1_ok (k : Nat) : LoopOK Go.Proofs.Try.prog Go.Proofs.Try.f103.ntmps (finOf tt natural_digit_ld.B Go.Proofs.Try.f103.results.toList) (cAt [1, 1, 1, 1, 1, 1, 0, 1, 0, 0] (bodyOf Go.Proofs.Try.f103)) natural_digit_ld.M1 natural_digit_ld.O1 2 (fun x => natural_digit_ld.l1 k k x.1 x.2.1 x.2.2.1 x.2.2.2.1 x.2.2.2.2.1 x.2.2.2.2.2.1 x.2.2.2.2.2.2.1 x.2.2.2.2.2.2.2) :=
  loop_ok (R0 := denB natural_digit_ld.B) (M := natural_digit_ld.M1) (O := natural_digit_ld.O1) (L := fun m (x : natural_digit_ld.M1.den) => natural_digit_ld.l1 k m x.1 x.2.1 x.2.2.1 x.2.2.2.1 x.2.2.2.2.1 x.2.2.2.2.2.1 x.2.2.2.2.2.2.1 x.2.2.2.2.2.2.2) tt_ok (natural_digit_ld.tab_ok k) follows (ann := (.seq .nil (.seq .nil (.seq (.block (.seq .nil (.jseq ⟨[.blk 0 (.int .u32) 1, .dat 1 (.list (.int .u32)), .dat 5 (.int .i64), .dat 8 (.int .u64), .dat 10 (.int .u64), .dat 11 (.int .u32), .dat 12 (.int .i64), .dat 74 (.int .i64), .dat 75 (.int .i64)], [.ref 0 0]⟩ .nil .nil))) .nil)))) (annOK_seq (annOK_nil _) (annOK_seq (annOK_nil _) (annOK_seq (annOK_block (annOK_seq (annOK_nil _) (annOK_jseq (annOK_nil _) (annOK_nil _)))) (annOK_nil _)))) (fun _ => rfl) (fun m x => natural_digit_ld.l1_ev k m x) k
theorem natural_digit_ld.l0_ok (k : Nat) : LoopOK Go.Proofs.Try.prog Go.Proofs.Try.f103.ntmps (finOf tt natural_digit_ld.B Go.Proofs.Try.f103.results.toList) (cAt [1, 1, 1, 1, 0, 0, 0] (bodyOf Go.Proofs.Try.f103)) natural_digit_ld.M0 natural_digit_ld.O0 0 (fun x => natural_digit_ld.l0 k k x.1 x.2.1 x.2.2.1 x.2.2.2.1 x.2.2.2.2.1 x.2.2.2.2.2) :=
  loop_ok (R0 := denB natural_digit_ld.B) (M := natural_digit_ld.M0) (O := natural_digit_ld.O0) (L := fun m (x : natural_digit_ld.M0.den) => natural_digit_ld.l0 k m x.1 x.2.1 x.2.2.1 x.2.2.2.1 x.2.2.2.2.1 x.2.2.2.2.2) tt_ok (natural_digit_ld.tab_ok k) follows (ann := .nil) (annOK_nil _) (fun _ => rfl) (fun m x => natural_digit_ld.l0_ev k m x) k
theorem natural_digit_ld.spec (k : Nat) : SpecOK Go.Proofs.Try.prog (natural_digit_ld.E k) :=
  fn_ok (c := bodyOf Go.Proofs.Try.f103) tt_ok (natural_digit_ld.tab_ok k) follows Go.Proofs.Try.func103 rfl (name_ne (by kernel_rfl)) (by kernel_rfl) (Nat.le_of_ble_eq_true (by kernel_rfl)) (Nat.le_of_ble_eq_true (by kernel_rfl)) (annOK_seq (annOK_nil _) (annOK_seq (annOK_nil _) (annOK_seq (annOK_nil _) (annOK_seq (annOK_nil _) (annOK_seq (annOK_block (annOK_loop (natural_digit_ld.l0_ok k))) (annOK_seq (annOK_nil _) (annOK_seq (annOK_seq (annOK_nil _) (annOK_block (annOK_loop (natural_digit_ld.l1_ok k)))) (annOK_seq (annOK_seq (annOK_nil _) (annOK_cond (annOK_seq (annOK_nil _) (annOK_seq (annOK_nil _) (annOK_seq (annOK_seq (annOK_nil _) (annOK_block (annOK_loop (natural_digit_ld.l2_ok k)))) (annOK_nil _)))) (annOK_nil _))) (annOK_nil _))))))))) (natural_digit_ld.ev k)

theorem natural_right.tab_ok (k : Nat) : ∀ E ∈ natural_right.tab k, SpecOK Go.Proofs.Try.prog E := (forall_cons (natural_trim_v.spec k) forall_nil)
theorem natural_right.l0_ok (k : Nat) : LoopOK Go.Proofs.Try.prog Go.Proofs.Try.f81.ntmps (finOf tt natural_right.B Go.Proofs.Try.f81.results.toList) (cAt [1, 1, 0, 1, 0, 0] (bodyOf Go.Proofs.Try.f81)) natural_right.M0 natural_right.O0 0 (fun x => natural_right.l0 k k x.1 x.2.1 x.2.2.1 x.2.2.2) :=
  loop_ok (R0 := denB natural_right.B) (M := natural_right.M0) (O := natural_right.O0) (L := fun m (x : natural_right.M0.den) => natural_right.l0 k m x.1 x.2.1 x.2.2.1 x.2.2.2) tt_ok (natural_right.tab_ok k) follows (ann := .nil) (annOK_nil _) (fun _ => rfl) (fun m x => natural_right.l0_ev k m x) k
theorem natural_right.spec (k : Nat) : SpecOK Go.Proofs.Try.prog (natural_right.E k) :=
  fn_ok (c := bodyOf Go.Proofs.Try.f81) tt_ok (natural_right.tab_ok k) follows Go.Proofs.Try.func81 rfl (name_ne (by kernel_rfl)) (by kernel_rfl) (Nat.le_of_ble_eq_true (by kernel_rfl)) (Nat.le_of_ble_eq_true (by kernel_rfl)) (annOK_seq (annOK_nil _) (annOK_seq (annOK_nil _) (annOK_seq (annOK_seq (annOK_nil _) (annOK_block (annOK_loop (natural_right.l0_ok k)))) (annOK_nil _)))) (natural_right.ev k)

theorem natural_divide.tab_ok (k : Nat) : ∀ E ∈ natural_divide.tab k, SpecOK Go.Proofs.Try.prog E := (forall_cons bits_LeadingZeros32.spec (forall_cons (natural_left.spec k) (forall_cons (natural_digit_ld.spec k) (forall_cons (natural_trim_v.spec k) (forall_cons (natural_right.spec k) forall_nil)))))
theorem natural_divide.l1_ok (k : Nat) : LoopOK Go.Proofs.Try.prog Go.Proofs.Try.f100.ntmps (finOf tt natural_divide.B Go.Proofs.Try.f100.results.toList) (cAt [1, 1, 1, 1, 1, 1, 0, 1, 0, 0] (bodyOf Go.Proofs.Try.f100)) natural_divide.M1 natural_divide.O1 2 (fun x => natural_divide.l1 k k x.1 x.2.1 x.2.2.1 x.2.2.2.1 x.2.2.2.2.1 x.2.2.2.2.2) :=
  loop_ok (R0 := denB natural_divide.B) (M := natural_divide.M1) (O := natural_divide.O1) (L := fun m (x : natural_divide.M1.den) => natural_divide.l1 k m x.1 x.2.1 x.2.2.1 x.2.2.2.1 x.2.2.2.2.1 x.2.2.2.2.2) tt_ok (natural_divide.tab_ok k) follows (ann := .nil) (annOK_nil _) (fun _ => rfl) (fun m x => natural_divide.l1_ev k m x) k
theorem natural_divide.l0_ok (k : Nat) : LoopOK Go.Proofs.Try.prog Go.Proofs.Try.f100.ntmps (finOf tt natural_divide.B Go.Proofs.Try.f100.results.toList) (cAt [1, 1, 1, 1, 0, 0, 0] (bodyOf Go.Proofs.Try.f100)) natural_divide.M0 natural_divide.O0 0 (fun x => natural_divide.l0 k k x.1 x.2.1 x.2.2.1 x.2.2.2.1 x.2.2.2.2) :=
  loop_ok (R0 := denB natural_divide.B) (M := natural_divide.M0) (O := natural_divide.O0) (L := fun m (x : natural_divide.M0.den) => natural_divide.l0 k m x.1 x.2.1 x.2.2.1 x.2.2.2.1 x.2.2.2.2) tt_ok (natural_divide.tab_ok k) follows (ann := .nil) (annOK_nil _) (fun _ => rfl) (fun m x => natural_divide.l0_ev k m x) k
theorem natural_divide.spec (k : Nat) : SpecOK Go.Proofs.Try.prog (natural_divide.E k) :=
  fn_ok (c := bodyOf Go.Proofs.Try.f100) tt_ok (natural_divide.tab_ok k) follows Go.Proofs.Try.func100 rfl (name_ne (by kernel_rfl)) (by kernel_rfl) (Nat.le_of_ble_eq_true (by kernel_rfl)) (Nat.le_of_ble_eq_true (by kernel_rfl)) (annOK_seq (annOK_nil _) (annOK_seq (annOK_nil _) (annOK_seq (annOK_nil _) (annOK_seq (annOK_nil _) (annOK_seq (annOK_block (annOK_loop (natural_divide.l0_ok k))) (annOK_seq (annOK_nil _) (annOK_seq (annOK_seq (annOK_nil _) (annOK_block (annOK_loop (natural_divide.l1_ok k)))) (annOK_nil _)))))))) (natural_divide.ev k)

theorem natural_divMod.tab_ok (k : Nat) : ∀ E ∈ natural_divMod.tab k, SpecOK Go.Proofs.Try.prog E := (forall_cons (natural_compare.spec k) (forall_cons slices_Clone_uint32uint32.spec (forall_cons (natural_short.spec k) (forall_cons (natural_trim_v.spec k) (forall_cons (natural_divide.spec k) forall_nil)))))
theorem natural_divMod.spec (k : Nat) : SpecOK Go.Proofs.Try.prog (natural_divMod.E k) :=
  fn_ok (c := bodyOf Go.Proofs.Try.f96) tt_ok (natural_divMod.tab_ok k) follows Go.Proofs.Try.func96 rfl (name_ne (by kernel_rfl)) (by kernel_rfl) (Nat.le_of_ble_eq_true (by kernel_rfl)) (Nat.le_of_ble_eq_true (by kernel_rfl)) (annOK_nil _) (natural_divMod.ev k)

theorem natural_DivMod.tab_ok (k : Nat) : ∀ E ∈ natural_DivMod.tab k, SpecOK Go.Proofs.Try.prog E := (forall_cons natural_check.spec (forall_cons natural_at.spec (forall_cons (natural_divMod.spec k) forall_nil)))
theorem natural_DivMod.spec (k : Nat) : SpecOK Go.Proofs.Try.prog (natural_DivMod.E k) :=
  fn_ok (c := bodyOf Go.Proofs.Try.f85) tt_ok (natural_DivMod.tab_ok k) follows Go.Proofs.Try.func85 rfl (name_ne (by kernel_rfl)) (by kernel_rfl) (Nat.le_of_ble_eq_true (by kernel_rfl)) (Nat.le_of_ble_eq_true (by kernel_rfl)) (annOK_nil _) (natural_DivMod.ev k)

theorem natural_add.tab_ok (k : Nat) : ∀ E ∈ natural_add.tab k, SpecOK Go.Proofs.Try.prog E := (forall_cons (natural_trim_v.spec k) forall_nil)
theorem natural_add.l0_ok (k : Nat) : LoopOK Go.Proofs.Try.prog Go.Proofs.Try.f84.ntmps (finOf tt natural_add.B Go.Proofs.Try.f84.results.toList) (cAt [1, 1, 1, 1, 0, 1, 0, 0] (bodyOf Go.Proofs.Try.f84)) natural_add.M0 natural_add.O0 0 (fun x => natural_add.l0 k k x.1 x.2.1 x.2.2.1 x.2.2.2.1 x.2.2.2.2.1 x.2.2.2.2.2) :=
  loop_ok (R0 := denB natural_add.B) (M := natural_add.M0) (O := natural_add.O0) (L := fun m (x : natural_add.M0.den) => natural_add.l0 k m x.1 x.2.1 x.2.2.1 x.2.2.2.1 x.2.2.2.2.1 x.2.2.2.2.2) tt_ok (natural_add.tab_ok k) follows (ann := .nil) (annOK_nil _) (fun _ => rfl) (fun m x => natural_add.l0_ev k m x) k
theorem natural_add.spec (k : Nat) : SpecOK Go.Proofs.Try.prog (natural_add.E k) :=
  fn_ok (c := bodyOf Go.Proofs.Try.f84) tt_ok (natural_add.tab_ok k) follows Go.Proofs.Try.func84 rfl (name_ne (by kernel_rfl)) (by kernel_rfl) (Nat.le_of_ble_eq_true (by kernel_rfl)) (Nat.le_of_ble_eq_true (by kernel_rfl)) (annOK_seq (annOK_nil _) (annOK_jseq (annOK_nil _) (annOK_seq (annOK_nil _) (annOK_seq (annOK_nil _) (annOK_seq (annOK_seq (annOK_nil _) (annOK_block (annOK_loop (natural_add.l0_ok k)))) (annOK_nil _)))))) (natural_add.ev k)

theorem natural_trim.tab_ok (k : Nat) : ∀ E ∈ natural_trim.tab k, SpecOK Go.Proofs.Try.prog E := forall_nil
theorem natural_trim.l0_ok (k : Nat) : LoopOK Go.Proofs.Try.prog Go.Proofs.Try.f94.ntmps (finOf tt natural_trim.B Go.Proofs.Try.f94.results.toList) (cAt [1, 0, 0, 0] (bodyOf Go.Proofs.Try.f94)) natural_trim.M0 natural_trim.O0 0 (fun x => natural_trim.l0 k k x) :=
  loop_ok (R0 := denB natural_trim.B) (M := natural_trim.M0) (O := natural_trim.O0) (L := fun m (x : natural_trim.M0.den) => natural_trim.l0 k m x) tt_ok (natural_trim.tab_ok k) follows (ann := .nil) (annOK_nil _) (fun _ => rfl) (fun m x => natural_trim.l0_ev k m x) k
theorem natural_trim.spec (k : Nat) : SpecOK Go.Proofs.Try.prog (natural_trim.E k) :=
  fn_ok (c := bodyOf Go.Proofs.Try.f94) tt_ok (natural_trim.tab_ok k) follows Go.Proofs.Try.func94 rfl (name_ne (by kernel_rfl)) (by kernel_rfl) (Nat.le_of_ble_eq_true (by kernel_rfl)) (Nat.le_of_ble_eq_true (by kernel_rfl)) (annOK_seq (annOK_nil _) (annOK_seq (annOK_block (annOK_loop (natural_trim.l0_ok k))) (annOK_nil _))) (natural_trim.ev k)

theorem natural_fit.tab_ok (k : Nat) : ∀ E ∈ natural_fit.tab k, SpecOK Go.Proofs.Try.prog E := (forall_cons (natural_trim.spec k) (forall_cons natural_at.spec forall_nil))
theorem natural_fit.spec (k : Nat) : SpecOK Go.Proofs.Try.prog (natural_fit.E k) :=
  fn_ok (c := bodyOf Go.Proofs.Try.f83) tt_ok (natural_fit.tab_ok k) follows Go.Proofs.Try.func83 rfl (name_ne (by kernel_rfl)) (by kernel_rfl) (Nat.le_of_ble_eq_true (by kernel_rfl)) (Nat.le_of_ble_eq_true (by kernel_rfl)) (annOK_nil _) (natural_fit.ev k)

theorem natural_Add.tab_ok (k : Nat) : ∀ E ∈ natural_Add.tab k, SpecOK Go.Proofs.Try.prog E := (forall_cons natural_check.spec (forall_cons (natural_add.spec k) (forall_cons (natural_fit.spec k) forall_nil)))
theorem natural_Add.spec (k : Nat) : SpecOK Go.Proofs.Try.prog (natural_Add.E k) :=
  fn_ok (c := bodyOf Go.Proofs.Try.f54) tt_ok (natural_Add.tab_ok k) follows Go.Proofs.Try.func54 rfl (name_ne (by kernel_rfl)) (by kernel_rfl) (Nat.le_of_ble_eq_true (by kernel_rfl)) (Nat.le_of_ble_eq_true (by kernel_rfl)) (annOK_nil _) (natural_Add.ev k)

theorem natural_sub.tab_ok (k : Nat) : ∀ E ∈ natural_sub.tab k, SpecOK Go.Proofs.Try.prog E := (forall_cons slices_Clone_uint32uint32.spec (forall_cons bits_Sub32.spec (forall_cons (natural_trim_v.spec k) forall_nil)))
theorem natural_sub.l0_ok (k : Nat) : LoopOK Go.Proofs.Try.prog Go.Proofs.Try.f79.ntmps (finOf tt natural_sub.B Go.Proofs.Try.f79.results.toList) (cAt [1, 1, 1, 0, 1, 0, 0] (bodyOf Go.Proofs.Try.f79)) natural_sub.M0 natural_sub.O0 0 (fun x => natural_sub.l0 k k x.1 x.2.1 x.2.2.1 x.2.2.2.1 x.2.2.2.2) :=
  loop_ok (R0 := denB natural_sub.B) (M := natural_sub.M0) (O := natural_sub.O0) (L := fun m (x : natural_sub.M0.den) => natural_sub.l0 k m x.1 x.2.1 x.2.2.1 x.2.2.2.1 x.2.2.2.2) tt_ok (natural_sub.tab_ok k) follows (ann := (.seq .nil (.seq .nil (.seq (.block (.seq .nil (.seq .nil (.jseq ⟨[.dat 1 (.list (.int .u32)), .own 5 (.int .u32), .dat 6 (.int .u32), .dat 7 (.int .i64), .dat 8 (.int .u32), .dat 12 (.int .i64), .dat 13 (.int .i64)], []⟩ .nil .nil)))) .nil)))) (annOK_seq (annOK_nil _) (annOK_seq (annOK_nil _) (annOK_seq (annOK_block (annOK_seq (annOK_nil _) (annOK_seq (annOK_nil _) (annOK_jseq (annOK_nil _) (annOK_nil _))))) (annOK_nil _)))) (fun _ => rfl) (fun m x => natural_sub.l0_ev k m x) k
theorem natural_sub.spec (k : Nat) : SpecOK Go.Proofs.Try.prog (natural_sub.E k) :=
  fn_ok (c := bodyOf Go.Proofs.Try.f79) tt_ok (natural_sub.tab_ok k) follows Go.Proofs.Try.func79 rfl (name_ne (by kernel_rfl)) (by kernel_rfl) (Nat.le_of_ble_eq_true (by kernel_rfl)) (Nat.le_of_ble_eq_true (by kernel_rfl)) (annOK_seq (annOK_nil _) (annOK_seq (annOK_nil _) (annOK_seq (annOK_nil _) (annOK_seq (annOK_seq (annOK_nil _) (annOK_block (annOK_loop (natural_sub.l0_ok k)))) (annOK_nil _))))) (natural_sub.ev k)

theorem natural_Sub.tab_ok (k : Nat) : ∀ E ∈ natural_Sub.tab k, SpecOK Go.Proofs.Try.prog E := (forall_cons natural_check.spec (forall_cons (natural_compare.spec k) (forall_cons natural_at.spec (forall_cons (natural_sub.spec k) forall_nil))))
theorem natural_Sub.spec (k : Nat) : SpecOK Go.Proofs.Try.prog (natural_Sub.E k) :=
  fn_ok (c := bodyOf Go.Proofs.Try.f52) tt_ok (natural_Sub.tab_ok k) follows Go.Proofs.Try.func52 rfl (name_ne (by kernel_rfl)) (by kernel_rfl) (Nat.le_of_ble_eq_true (by kernel_rfl)) (Nat.le_of_ble_eq_true (by kernel_rfl)) (annOK_nil _) (natural_Sub.ev k)

theorem integer_signed.tab_ok  : ∀ E ∈ integer_signed.tab, SpecOK Go.Proofs.Try.prog E := (forall_cons integer_at.spec forall_nil)
theorem integer_signed.spec  : SpecOK Go.Proofs.Try.prog (integer_signed.E) :=
  fn_ok (c := bodyOf Go.Proofs.Try.f55) tt_ok (integer_signed.tab_ok) follows Go.Proofs.Try.func55 rfl (name_ne (by kernel_rfl)) (by kernel_rfl) (Nat.le_of_ble_eq_true (by kernel_rfl)) (Nat.le_of_ble_eq_true (by kernel_rfl)) (annOK_nil _) integer_signed.ev

theorem integer_DivMod.tab_ok (k : Nat) : ∀ E ∈ integer_DivMod.tab k, SpecOK Go.Proofs.Try.prog E := (forall_cons (integer_check.spec k) (forall_cons (natural_DivMod.spec k) (forall_cons (natural_Add.spec k) (forall_cons (natural_Sub.spec k) (forall_cons integer_signed.spec forall_nil)))))
theorem integer_DivMod.spec (k : Nat) : SpecOK Go.Proofs.Try.prog (integer_DivMod.E k) :=
  fn_ok (c := bodyOf Go.Proofs.Try.f56) tt_ok (integer_DivMod.tab_ok k) follows Go.Proofs.Try.func56 rfl (name_ne (by kernel_rfl)) (by kernel_rfl) (Nat.le_of_ble_eq_true (by kernel_rfl)) (Nat.le_of_ble_eq_true (by kernel_rfl)) (annOK_seq (annOK_nil _) (annOK_seq (annOK_nil _) (annOK_seq (annOK_nil _) (annOK_seq (annOK_nil _) (annOK_jseq (annOK_jseq (annOK_nil _) (annOK_nil _)) (annOK_nil _)))))) (integer_DivMod.ev k)

theorem natural_chunk.tab_ok (k : Nat) : ∀ E ∈ natural_chunk.tab k, SpecOK Go.Proofs.Try.prog E := forall_nil
theorem natural_chunk.l0_ok (k : Nat) : LoopOK Go.Proofs.Try.prog Go.Proofs.Try.f97.ntmps (finOf tt natural_chunk.B Go.Proofs.Try.f97.results.toList) (cAt [1, 1, 0, 0, 0] (bodyOf Go.Proofs.Try.f97)) natural_chunk.M0 natural_chunk.O0 0 (fun x => natural_chunk.l0 k k x.1 x.2.1 x.2.2) :=
  loop_ok (R0 := denB natural_chunk.B) (M := natural_chunk.M0) (O := natural_chunk.O0) (L := fun m (x : natural_chunk.M0.den) => natural_chunk.l0 k m x.1 x.2.1 x.2.2) tt_ok (natural_chunk.tab_ok k) follows (ann := .nil) (annOK_nil _) (fun _ => rfl) (fun m x => natural_chunk.l0_ev k m x) k
theorem natural_chunk.spec (k : Nat) : SpecOK Go.Proofs.Try.prog (natural_chunk.E k) :=
  fn_ok (c := bodyOf Go.Proofs.Try.f97) tt_ok (natural_chunk.tab_ok k) follows Go.Proofs.Try.func97 rfl (name_ne (by kernel_rfl)) (by kernel_rfl) (Nat.le_of_ble_eq_true (by kernel_rfl)) (Nat.le_of_ble_eq_true (by kernel_rfl)) (annOK_seq (annOK_nil _) (annOK_seq (annOK_nil _) (annOK_seq (annOK_block (annOK_loop (natural_chunk.l0_ok k))) (annOK_nil _)))) (natural_chunk.ev k)

theorem slices_Reverse_intint_l.tab_ok (k : Nat) : ∀ E ∈ slices_Reverse_intint_l.tab k, SpecOK Go.Proofs.Try.prog E := forall_nil
theorem slices_Reverse_intint_l.l0_ok (k : Nat) : LoopOK Go.Proofs.Try.prog Go.Proofs.Try.f99.ntmps (finOf tt slices_Reverse_intint_l.B Go.Proofs.Try.f99.results.toList) (cAt [1, 0, 0] (bodyOf Go.Proofs.Try.f99)) slices_Reverse_intint_l.M0 slices_Reverse_intint_l.O0 0 (fun x => slices_Reverse_intint_l.l0 k k x.1 x.2.1 x.2.2) :=
  loop_ok (R0 := denB slices_Reverse_intint_l.B) (M := slices_Reverse_intint_l.M0) (O := slices_Reverse_intint_l.O0) (L := fun m (x : slices_Reverse_intint_l.M0.den) => slices_Reverse_intint_l.l0 k m x.1 x.2.1 x.2.2) tt_ok (slices_Reverse_intint_l.tab_ok k) follows (ann := .nil) (annOK_nil _) (fun _ => rfl) (fun m x => slices_Reverse_intint_l.l0_ev k m x) k
theorem slices_Reverse_intint_l.spec (k : Nat) : SpecOK Go.Proofs.Try.prog (slices_Reverse_intint_l.E k) :=
  fn_ok (c := bodyOf Go.Proofs.Try.f99) tt_ok (slices_Reverse_intint_l.tab_ok k) follows Go.Proofs.Try.func99 rfl (name_ne (by kernel_rfl)) (by kernel_rfl) (Nat.le_of_ble_eq_true (by kernel_rfl)) (Nat.le_of_ble_eq_true (by kernel_rfl)) (annOK_seq (annOK_nil _) (annOK_block (annOK_loop (slices_Reverse_intint_l.l0_ok k)))) (slices_Reverse_intint_l.ev k)

theorem natural_Digits.tab_ok (k : Nat) : ∀ E ∈ natural_Digits.tab k, SpecOK Go.Proofs.Try.prog E := (forall_cons natural_Valid.spec (forall_cons natural_at.spec (forall_cons (natural_chunk.spec k) (forall_cons (natural_short.spec k) (forall_cons (slices_Reverse_intint_l.spec k) forall_nil)))))
theorem natural_Digits.l1_ok (k : Nat) : LoopOK Go.Proofs.Try.prog Go.Proofs.Try.f86.ntmps (finOf tt natural_Digits.B Go.Proofs.Try.f86.results.toList) (cAt [1, 1, 1, 1, 0, 0, 0, 1, 0, 1, 1, 1, 0, 0] (bodyOf Go.Proofs.Try.f86)) natural_Digits.M1 natural_Digits.O1 3 (fun x => natural_Digits.l1 k k x.1 x.2.1 x.2.2.1 x.2.2.2.1 x.2.2.2.2.1 x.2.2.2.2.2.1 x.2.2.2.2.2.2.1 x.2.2.2.2.2.2.2) :=
  loop_ok (R0 := denB natural_Digits.B) (M := natural_Digits.M1) (O := natural_Digits.O1) (L := fun m (x : natural_Digits.M1.den) => natural_Digits.l1 k m x.1 x.2.1 x.2.2.1 x.2.2.2.1 x.2.2.2.2.1 x.2.2.2.2.2.1 x.2.2.2.2.2.2.1 x.2.2.2.2.2.2.2) tt_ok (natural_Digits.tab_ok k) follows (ann := .nil) (annOK_nil _) (fun _ => rfl) (fun m x => natural_Digits.l1_ev k m x) k
theorem natural_Digits.l0_ok (k : Nat) : LoopOK Go.Proofs.Try.prog Go.Proofs.Try.f86.ntmps (finOf tt natural_Digits.B Go.Proofs.Try.f86.results.toList) (cAt [1, 1, 1, 1, 0, 0, 0] (bodyOf Go.Proofs.Try.f86)) natural_Digits.M0 natural_Digits.O0 1 (fun x => natural_Digits.l0 k k x.1 x.2.1 x.2.2.1 x.2.2.2.1 x.2.2.2.2.1 x.2.2.2.2.2) :=
  loop_ok (R0 := denB natural_Digits.B) (M := natural_Digits.M0) (O := natural_Digits.O0) (L := fun m (x : natural_Digits.M0.den) => natural_Digits.l0 k m x.1 x.2.1 x.2.2.1 x.2.2.2.1 x.2.2.2.2.1 x.2.2.2.2.2) tt_ok (natural_Digits.tab_ok k) follows (ann := (.seq .nil (.block (.seq .nil (.seq .nil (.seq .nil (.block (natural_Digits.an1 k)))))))) (annOK_seq (annOK_nil _) (annOK_block (annOK_seq (annOK_nil _) (annOK_seq (annOK_nil _) (annOK_seq (annOK_nil _) (annOK_block (annOK_loop (natural_Digits.l1_ok k)))))))) (fun _ => rfl) (fun m x => natural_Digits.l0_ev k m x) k
theorem natural_Digits.spec (k : Nat) : SpecOK Go.Proofs.Try.prog (natural_Digits.E k) :=
  fn_ok (c := bodyOf Go.Proofs.Try.f86) tt_ok (natural_Digits.tab_ok k) follows Go.Proofs.Try.func86 rfl (name_ne (by kernel_rfl)) (by kernel_rfl) (Nat.le_of_ble_eq_true (by kernel_rfl)) (Nat.le_of_ble_eq_true (by kernel_rfl)) (annOK_seq (annOK_nil _) (annOK_jseq (annOK_nil _) (annOK_seq (annOK_nil _) (annOK_seq (annOK_nil _) (annOK_seq (annOK_block (annOK_loop (natural_Digits.l0_ok k))) (annOK_nil _)))))) (natural_Digits.ev k)

theorem integer_Text.tab_ok (k : Nat) : ∀ E ∈ integer_Text.tab k, SpecOK Go.Proofs.Try.prog E := (forall_cons (integer_check.spec k) (forall_cons (natural_Digits.spec k) forall_nil))
theorem integer_Text.l0_ok (k : Nat) : LoopOK Go.Proofs.Try.prog Go.Proofs.Try.f57.ntmps (finOf tt integer_Text.B Go.Proofs.Try.f57.results.toList) (cAt [1, 1, 1, 1, 1, 1, 0, 1, 0, 0] (bodyOf Go.Proofs.Try.f57)) integer_Text.M0 integer_Text.O0 0 (fun x => integer_Text.l0 k k x.1 x.2.1 x.2.2.1 x.2.2.2.1 x.2.2.2.2.1 x.2.2.2.2.2) :=
  loop_ok (R0 := denB integer_Text.B) (M := integer_Text.M0) (O := integer_Text.O0) (L := fun m (x : integer_Text.M0.den) => integer_Text.l0 k m x.1 x.2.1 x.2.2.1 x.2.2.2.1 x.2.2.2.2.1 x.2.2.2.2.2) tt_ok (integer_Text.tab_ok k) follows (ann := .nil) (annOK_nil _) (fun _ => rfl) (fun m x => integer_Text.l0_ev k m x) k
theorem integer_Text.spec (k : Nat) : SpecOK Go.Proofs.Try.prog (integer_Text.E k) :=
  fn_ok (c := bodyOf Go.Proofs.Try.f57) tt_ok (integer_Text.tab_ok k) follows Go.Proofs.Try.func57 rfl (name_ne (by kernel_rfl)) (by kernel_rfl) (Nat.le_of_ble_eq_true (by kernel_rfl)) (Nat.le_of_ble_eq_true (by kernel_rfl)) (annOK_seq (annOK_nil _) (annOK_seq (annOK_nil _) (annOK_seq (annOK_nil _) (annOK_seq (annOK_nil _) (annOK_seq (annOK_nil _) (annOK_jseq (annOK_nil _) (annOK_seq (annOK_seq (annOK_nil _) (annOK_block (annOK_loop (integer_Text.l0_ok k)))) (annOK_nil _)))))))) (integer_Text.ev k)

theorem brindlewoodref3_trim_v.tab_ok (k : Nat) : ∀ E ∈ brindlewoodref3_trim_v.tab k, SpecOK Go.Proofs.Try.prog E := forall_nil
theorem brindlewoodref3_trim_v.l0_ok (k : Nat) : LoopOK Go.Proofs.Try.prog Go.Proofs.Try.f88.ntmps (finOf tt brindlewoodref3_trim_v.B Go.Proofs.Try.f88.results.toList) (cAt [1, 0, 0, 0] (bodyOf Go.Proofs.Try.f88)) brindlewoodref3_trim_v.M0 brindlewoodref3_trim_v.O0 0 (fun x => brindlewoodref3_trim_v.l0 k k x.1 x.2) :=
  loop_ok (R0 := denB brindlewoodref3_trim_v.B) (M := brindlewoodref3_trim_v.M0) (O := brindlewoodref3_trim_v.O0) (L := fun m (x : brindlewoodref3_trim_v.M0.den) => brindlewoodref3_trim_v.l0 k m x.1 x.2) tt_ok (brindlewoodref3_trim_v.tab_ok k) follows (ann := .nil) (annOK_nil _) (fun _ => rfl) (fun m x => brindlewoodref3_trim_v.l0_ev k m x) k
theorem brindlewoodref3_trim_v.spec (k : Nat) : SpecOK Go.Proofs.Try.prog (brindlewoodref3_trim_v.E k) :=
  fn_ok (c := bodyOf Go.Proofs.Try.f88) tt_ok (brindlewoodref3_trim_v.tab_ok k) follows Go.Proofs.Try.func88 rfl (name_ne (by kernel_rfl)) (by kernel_rfl) (Nat.le_of_ble_eq_true (by kernel_rfl)) (Nat.le_of_ble_eq_true (by kernel_rfl)) (annOK_seq (annOK_nil _) (annOK_seq (annOK_block (annOK_loop (brindlewoodref3_trim_v.l0_ok k))) (annOK_nil _))) (brindlewoodref3_trim_v.ev k)

theorem brindlewoodref3_Binary.tab_ok (k : Nat) : ∀ E ∈ brindlewoodref3_Binary.tab k, SpecOK Go.Proofs.Try.prog E := (forall_cons (brindlewoodref3_trim_v.spec k) forall_nil)
theorem brindlewoodref3_Binary.l1_ok (k : Nat) : LoopOK Go.Proofs.Try.prog Go.Proofs.Try.f64.ntmps (finOf tt brindlewoodref3_Binary.B Go.Proofs.Try.f64.results.toList) (cAt [1, 1, 0, 1, 0, 0, 1, 0, 0, 1, 0, 1, 0, 0] (bodyOf Go.Proofs.Try.f64)) brindlewoodref3_Binary.M1 brindlewoodref3_Binary.O1 2 (fun x => brindlewoodref3_Binary.l1 k k x.1 x.2.1 x.2.2.1 x.2.2.2.1 x.2.2.2.2) :=
  loop_ok (R0 := denB brindlewoodref3_Binary.B) (M := brindlewoodref3_Binary.M1) (O := brindlewoodref3_Binary.O1) (L := fun m (x : brindlewoodref3_Binary.M1.den) => brindlewoodref3_Binary.l1 k m x.1 x.2.1 x.2.2.1 x.2.2.2.1 x.2.2.2.2) tt_ok (brindlewoodref3_Binary.tab_ok k) follows (ann := .nil) (annOK_nil _) (fun _ => rfl) (fun m x => brindlewoodref3_Binary.l1_ev k m x) k
theorem brindlewoodref3_Binary.l0_ok (k : Nat) : LoopOK Go.Proofs.Try.prog Go.Proofs.Try.f64.ntmps (finOf tt brindlewoodref3_Binary.B Go.Proofs.Try.f64.results.toList) (cAt [1, 1, 0, 1, 0, 0] (bodyOf Go.Proofs.Try.f64)) brindlewoodref3_Binary.M0 brindlewoodref3_Binary.O0 0 (fun x => brindlewoodref3_Binary.l0 k k x.1 x.2.1 x.2.2) :=
  loop_ok (R0 := denB brindlewoodref3_Binary.B) (M := brindlewoodref3_Binary.M0) (O := brindlewoodref3_Binary.O0) (L := fun m (x : brindlewoodref3_Binary.M0.den) => brindlewoodref3_Binary.l0 k m x.1 x.2.1 x.2.2) tt_ok (brindlewoodref3_Binary.tab_ok k) follows (ann := (.seq .nil (.seq (.block (.seq .nil (.seq (.seq .nil (.block (brindlewoodref3_Binary.an1 k))) .nil))) .nil))) (annOK_seq (annOK_nil _) (annOK_seq (annOK_block (annOK_seq (annOK_nil _) (annOK_seq (annOK_seq (annOK_nil _) (annOK_block (annOK_loop (brindlewoodref3_Binary.l1_ok k)))) (annOK_nil _)))) (annOK_nil _))) (fun _ => rfl) (fun m x => brindlewoodref3_Binary.l0_ev k m x) k
theorem brindlewoodref3_Binary.spec (k : Nat) : SpecOK Go.Proofs.Try.prog (brindlewoodref3_Binary.E k) :=
  fn_ok (c := bodyOf Go.Proofs.Try.f64) tt_ok (brindlewoodref3_Binary.tab_ok k) follows Go.Proofs.Try.func64 rfl (name_ne (by kernel_rfl)) (by kernel_rfl) (Nat.le_of_ble_eq_true (by kernel_rfl)) (Nat.le_of_ble_eq_true (by kernel_rfl)) (annOK_seq (annOK_nil _) (annOK_seq (annOK_nil _) (annOK_seq (annOK_seq (annOK_nil _) (annOK_block (annOK_loop (brindlewoodref3_Binary.l0_ok k)))) (annOK_nil _)))) (brindlewoodref3_Binary.ev k)

theorem brindlewoodref3_Number.tab_ok (k : Nat) : ∀ E ∈ brindlewoodref3_Number.tab k, SpecOK Go.Proofs.Try.prog E := (forall_cons (brindlewoodref3_Binary.spec k) forall_nil)
theorem brindlewoodref3_Number.l0_ok (k : Nat) : LoopOK Go.Proofs.Try.prog Go.Proofs.Try.f30.ntmps (finOf tt brindlewoodref3_Number.B Go.Proofs.Try.f30.results.toList) (cAt [1, 1, 1, 0, 0, 0] (bodyOf Go.Proofs.Try.f30)) brindlewoodref3_Number.M0 brindlewoodref3_Number.O0 0 (fun x => brindlewoodref3_Number.l0 k k x.1 x.2.1 x.2.2.1 x.2.2.2) :=
  loop_ok (R0 := denB brindlewoodref3_Number.B) (M := brindlewoodref3_Number.M0) (O := brindlewoodref3_Number.O0) (L := fun m (x : brindlewoodref3_Number.M0.den) => brindlewoodref3_Number.l0 k m x.1 x.2.1 x.2.2.1 x.2.2.2) tt_ok (brindlewoodref3_Number.tab_ok k) follows (ann := .nil) (annOK_nil _) (fun _ => rfl) (fun m x => brindlewoodref3_Number.l0_ev k m x) k
theorem brindlewoodref3_Number.spec (k : Nat) : SpecOK Go.Proofs.Try.prog (brindlewoodref3_Number.E k) :=
  fn_ok (c := bodyOf Go.Proofs.Try.f30) tt_ok (brindlewoodref3_Number.tab_ok k) follows Go.Proofs.Try.func30 rfl (name_ne (by kernel_rfl)) (by kernel_rfl) (Nat.le_of_ble_eq_true (by kernel_rfl)) (Nat.le_of_ble_eq_true (by kernel_rfl)) (annOK_seq (annOK_nil _) (annOK_seq (annOK_nil _) (annOK_seq (annOK_nil _) (annOK_seq (annOK_block (annOK_loop (brindlewoodref3_Number.l0_ok k))) (annOK_nil _))))) (brindlewoodref3_Number.ev k)

theorem brindlewoodref3_Limbs.tab_ok (k : Nat) : ∀ E ∈ brindlewoodref3_Limbs.tab k, SpecOK Go.Proofs.Try.prog E := forall_nil
theorem brindlewoodref3_Limbs.l0_ok (k : Nat) : LoopOK Go.Proofs.Try.prog Go.Proofs.Try.f87.ntmps (finOf tt brindlewoodref3_Limbs.B Go.Proofs.Try.f87.results.toList) (cAt [1, 1, 0, 1, 0, 0] (bodyOf Go.Proofs.Try.f87)) brindlewoodref3_Limbs.M0 brindlewoodref3_Limbs.O0 0 (fun x => brindlewoodref3_Limbs.l0 k k x.1 x.2.1 x.2.2) :=
  loop_ok (R0 := denB brindlewoodref3_Limbs.B) (M := brindlewoodref3_Limbs.M0) (O := brindlewoodref3_Limbs.O0) (L := fun m (x : brindlewoodref3_Limbs.M0.den) => brindlewoodref3_Limbs.l0 k m x.1 x.2.1 x.2.2) tt_ok (brindlewoodref3_Limbs.tab_ok k) follows (ann := .nil) (annOK_nil _) (fun _ => rfl) (fun m x => brindlewoodref3_Limbs.l0_ev k m x) k
theorem brindlewoodref3_Limbs.spec (k : Nat) : SpecOK Go.Proofs.Try.prog (brindlewoodref3_Limbs.E k) :=
  fn_ok (c := bodyOf Go.Proofs.Try.f87) tt_ok (brindlewoodref3_Limbs.tab_ok k) follows Go.Proofs.Try.func87 rfl (name_ne (by kernel_rfl)) (by kernel_rfl) (Nat.le_of_ble_eq_true (by kernel_rfl)) (Nat.le_of_ble_eq_true (by kernel_rfl)) (annOK_seq (annOK_nil _) (annOK_seq (annOK_nil _) (annOK_seq (annOK_seq (annOK_nil _) (annOK_block (annOK_loop (brindlewoodref3_Limbs.l0_ok k)))) (annOK_nil _)))) (brindlewoodref3_Limbs.ev k)

theorem brindlewoodref3_SameLimbs.tab_ok (k : Nat) : ∀ E ∈ brindlewoodref3_SameLimbs.tab k, SpecOK Go.Proofs.Try.prog E := forall_nil
theorem brindlewoodref3_SameLimbs.l0_ok (k : Nat) : LoopOK Go.Proofs.Try.prog Go.Proofs.Try.f69.ntmps (finOf tt brindlewoodref3_SameLimbs.B Go.Proofs.Try.f69.results.toList) (cAt [1, 1, 0, 1, 0, 0] (bodyOf Go.Proofs.Try.f69)) brindlewoodref3_SameLimbs.M0 brindlewoodref3_SameLimbs.O0 0 (fun x => brindlewoodref3_SameLimbs.l0 k k x.1 x.2.1 x.2.2) :=
  loop_ok (R0 := denB brindlewoodref3_SameLimbs.B) (M := brindlewoodref3_SameLimbs.M0) (O := brindlewoodref3_SameLimbs.O0) (L := fun m (x : brindlewoodref3_SameLimbs.M0.den) => brindlewoodref3_SameLimbs.l0 k m x.1 x.2.1 x.2.2) tt_ok (brindlewoodref3_SameLimbs.tab_ok k) follows (ann := .nil) (annOK_nil _) (fun _ => rfl) (fun m x => brindlewoodref3_SameLimbs.l0_ev k m x) k
theorem brindlewoodref3_SameLimbs.spec (k : Nat) : SpecOK Go.Proofs.Try.prog (brindlewoodref3_SameLimbs.E k) :=
  fn_ok (c := bodyOf Go.Proofs.Try.f69) tt_ok (brindlewoodref3_SameLimbs.tab_ok k) follows Go.Proofs.Try.func69 rfl (name_ne (by kernel_rfl)) (by kernel_rfl) (Nat.le_of_ble_eq_true (by kernel_rfl)) (Nat.le_of_ble_eq_true (by kernel_rfl)) (annOK_seq (annOK_nil _) (annOK_seq (annOK_nil _) (annOK_seq (annOK_seq (annOK_nil _) (annOK_block (annOK_loop (brindlewoodref3_SameLimbs.l0_ok k)))) (annOK_nil _)))) (brindlewoodref3_SameLimbs.ev k)

theorem brindlewoodref3_SameInt.tab_ok (k : Nat) : ∀ E ∈ brindlewoodref3_SameInt.tab k, SpecOK Go.Proofs.Try.prog E := (forall_cons (brindlewoodref3_Limbs.spec k) (forall_cons (brindlewoodref3_SameLimbs.spec k) forall_nil))
theorem brindlewoodref3_SameInt.spec (k : Nat) : SpecOK Go.Proofs.Try.prog (brindlewoodref3_SameInt.E k) :=
  fn_ok (c := bodyOf Go.Proofs.Try.f58) tt_ok (brindlewoodref3_SameInt.tab_ok k) follows Go.Proofs.Try.func58 rfl (name_ne (by kernel_rfl)) (by kernel_rfl) (Nat.le_of_ble_eq_true (by kernel_rfl)) (Nat.le_of_ble_eq_true (by kernel_rfl)) (annOK_nil _) (brindlewoodref3_SameInt.ev k)

theorem brindlewoodlaw3_counts.tab_ok (k : Nat) : ∀ E ∈ brindlewoodlaw3_counts.tab k, SpecOK Go.Proofs.Try.prog E := (forall_cons (integer_Of.spec k) (forall_cons (integer_DivMod.spec k) (forall_cons (integer_Text.spec k) (forall_cons (brindlewoodref3_Number.spec k) (forall_cons (brindlewoodref3_SameInt.spec k) forall_nil)))))
theorem brindlewoodlaw3_counts.spec (k : Nat) : SpecOK Go.Proofs.Try.prog (brindlewoodlaw3_counts.E k) :=
  fn_ok (c := bodyOf Go.Proofs.Try.f24) tt_ok (brindlewoodlaw3_counts.tab_ok k) follows Go.Proofs.Try.func24 rfl (name_ne (by kernel_rfl)) (by kernel_rfl) (Nat.le_of_ble_eq_true (by kernel_rfl)) (Nat.le_of_ble_eq_true (by kernel_rfl)) (annOK_nil _) (brindlewoodlaw3_counts.ev k)

theorem brindlewoodref3_IntOk.tab_ok  : ∀ E ∈ brindlewoodref3_IntOk.tab, SpecOK Go.Proofs.Try.prog E := forall_nil
theorem brindlewoodref3_IntOk.spec  : SpecOK Go.Proofs.Try.prog (brindlewoodref3_IntOk.E) :=
  fn_ok (c := bodyOf Go.Proofs.Try.f13) tt_ok (brindlewoodref3_IntOk.tab_ok) follows Go.Proofs.Try.func13 rfl (name_ne (by kernel_rfl)) (by kernel_rfl) (Nat.le_of_ble_eq_true (by kernel_rfl)) (Nat.le_of_ble_eq_true (by kernel_rfl)) (annOK_nil _) brindlewoodref3_IntOk.ev

theorem brindlewoodref3_At.tab_ok  : ∀ E ∈ brindlewoodref3_At.tab, SpecOK Go.Proofs.Try.prog E := forall_nil
theorem brindlewoodref3_At.spec  : SpecOK Go.Proofs.Try.prog (brindlewoodref3_At.E) :=
  fn_ok (c := bodyOf Go.Proofs.Try.f12) tt_ok (brindlewoodref3_At.tab_ok) follows Go.Proofs.Try.func12 rfl (name_ne (by kernel_rfl)) (by kernel_rfl) (Nat.le_of_ble_eq_true (by kernel_rfl)) (Nat.le_of_ble_eq_true (by kernel_rfl)) (annOK_nil _) brindlewoodref3_At.ev

theorem brindlewoodref3_Faults.tab_ok (k : Nat) : ∀ E ∈ brindlewoodref3_Faults.tab k, SpecOK Go.Proofs.Try.prog E := (forall_cons brindlewoodref3_IntOk.spec (forall_cons brindlewoodref3_At.spec forall_nil))
theorem brindlewoodref3_Faults.l0_ok (k : Nat) : LoopOK Go.Proofs.Try.prog Go.Proofs.Try.f18.ntmps (finOf tt brindlewoodref3_Faults.B Go.Proofs.Try.f18.results.toList) (cAt [1, 0, 1, 0, 0] (bodyOf Go.Proofs.Try.f18)) brindlewoodref3_Faults.M0 brindlewoodref3_Faults.O0 0 (fun x => brindlewoodref3_Faults.l0 k k x.1 x.2.1 x.2.2) :=
  loop_ok (R0 := denB brindlewoodref3_Faults.B) (M := brindlewoodref3_Faults.M0) (O := brindlewoodref3_Faults.O0) (L := fun m (x : brindlewoodref3_Faults.M0.den) => brindlewoodref3_Faults.l0 k m x.1 x.2.1 x.2.2) tt_ok (brindlewoodref3_Faults.tab_ok k) follows (ann := .nil) (annOK_nil _) (fun _ => rfl) (fun m x => brindlewoodref3_Faults.l0_ev k m x) k
theorem brindlewoodref3_Faults.spec (k : Nat) : SpecOK Go.Proofs.Try.prog (brindlewoodref3_Faults.E k) :=
  fn_ok (c := bodyOf Go.Proofs.Try.f18) tt_ok (brindlewoodref3_Faults.tab_ok k) follows Go.Proofs.Try.func18 rfl (name_ne (by kernel_rfl)) (by kernel_rfl) (Nat.le_of_ble_eq_true (by kernel_rfl)) (Nat.le_of_ble_eq_true (by kernel_rfl)) (annOK_seq (annOK_nil _) (annOK_seq (annOK_seq (annOK_nil _) (annOK_block (annOK_loop (brindlewoodref3_Faults.l0_ok k)))) (annOK_nil _))) (brindlewoodref3_Faults.ev k)

theorem integer_twos.tab_ok (k : Nat) : ∀ E ∈ integer_twos.tab k, SpecOK Go.Proofs.Try.prog E := forall_nil
theorem integer_twos.l0_ok (k : Nat) : LoopOK Go.Proofs.Try.prog Go.Proofs.Try.f73.ntmps (finOf tt integer_twos.B Go.Proofs.Try.f73.results.toList) (cAt [1, 1, 1, 1, 1, 0, 1, 0, 0] (bodyOf Go.Proofs.Try.f73)) integer_twos.M0 integer_twos.O0 0 (fun x => integer_twos.l0 k k x.1 x.2.1 x.2.2.1 x.2.2.2) :=
  loop_ok (R0 := denB integer_twos.B) (M := integer_twos.M0) (O := integer_twos.O0) (L := fun m (x : integer_twos.M0.den) => integer_twos.l0 k m x.1 x.2.1 x.2.2.1 x.2.2.2) tt_ok (integer_twos.tab_ok k) follows (ann := .nil) (annOK_nil _) (fun _ => rfl) (fun m x => integer_twos.l0_ev k m x) k
theorem integer_twos.spec (k : Nat) : SpecOK Go.Proofs.Try.prog (integer_twos.E k) :=
  fn_ok (c := bodyOf Go.Proofs.Try.f73) tt_ok (integer_twos.tab_ok k) follows Go.Proofs.Try.func73 rfl (name_ne (by kernel_rfl)) (by kernel_rfl) (Nat.le_of_ble_eq_true (by kernel_rfl)) (Nat.le_of_ble_eq_true (by kernel_rfl)) (annOK_seq (annOK_nil _) (annOK_seq (annOK_nil _) (annOK_seq (annOK_nil _) (annOK_seq (annOK_nil _) (annOK_seq (annOK_nil _) (annOK_seq (annOK_seq (annOK_nil _) (annOK_block (annOK_loop (integer_twos.l0_ok k)))) (annOK_nil _))))))) (integer_twos.ev k)

theorem integer_Xor_1.tab_ok  : ∀ E ∈ integer_Xor_1.tab, SpecOK Go.Proofs.Try.prog E := forall_nil
theorem integer_Xor_1.spec  : SpecOK Go.Proofs.Try.prog (integer_Xor_1.E) :=
  fn_ok (c := bodyOf Go.Proofs.Try.f49) tt_ok (integer_Xor_1.tab_ok) follows Go.Proofs.Try.func49 rfl (name_ne (by kernel_rfl)) (by kernel_rfl) (Nat.le_of_ble_eq_true (by kernel_rfl)) (Nat.le_of_ble_eq_true (by kernel_rfl)) (annOK_nil _) integer_Xor_1.ev

theorem integer_back.tab_ok (k : Nat) : ∀ E ∈ integer_back.tab k, SpecOK Go.Proofs.Try.prog E := (forall_cons (integer_twos.spec k) (forall_cons integer_signed.spec forall_nil))
theorem integer_back.l0_ok (k : Nat) : LoopOK Go.Proofs.Try.prog Go.Proofs.Try.f74.ntmps (finOf tt integer_back.B Go.Proofs.Try.f74.results.toList) (cAt [1, 1, 1, 0, 0, 0] (bodyOf Go.Proofs.Try.f74)) integer_back.M0 integer_back.O0 0 (fun x => integer_back.l0 k k x.1 x.2.1 x.2.2.1 x.2.2.2) :=
  loop_ok (R0 := denB integer_back.B) (M := integer_back.M0) (O := integer_back.O0) (L := fun m (x : integer_back.M0.den) => integer_back.l0 k m x.1 x.2.1 x.2.2.1 x.2.2.2) tt_ok (integer_back.tab_ok k) follows (ann := .nil) (annOK_nil _) (fun _ => rfl) (fun m x => integer_back.l0_ev k m x) k
theorem integer_back.spec (k : Nat) : SpecOK Go.Proofs.Try.prog (integer_back.E k) :=
  fn_ok (c := bodyOf Go.Proofs.Try.f74) tt_ok (integer_back.tab_ok k) follows Go.Proofs.Try.func74 rfl (name_ne (by kernel_rfl)) (by kernel_rfl) (Nat.le_of_ble_eq_true (by kernel_rfl)) (Nat.le_of_ble_eq_true (by kernel_rfl)) (annOK_seq (annOK_nil _) (annOK_seq (annOK_nil _) (annOK_jseq (annOK_nil _) (annOK_seq (annOK_block (annOK_loop (integer_back.l0_ok k))) (annOK_nil _))))) (integer_back.ev k)

theorem integer_bitwise_ddFinteger_Xor_1.tab_ok (k : Nat) : ∀ E ∈ integer_bitwise_ddFinteger_Xor_1.tab k, SpecOK Go.Proofs.Try.prog E := (forall_cons (integer_check.spec k) (forall_cons (integer_twos.spec k) (forall_cons integer_Xor_1.spec (forall_cons (integer_back.spec k) forall_nil))))
theorem integer_bitwise_ddFinteger_Xor_1.l0_ok (k : Nat) : LoopOK Go.Proofs.Try.prog Go.Proofs.Try.f46.ntmps (finOf tt integer_bitwise_ddFinteger_Xor_1.B Go.Proofs.Try.f46.results.toList) (cAt [1, 1, 1, 1, 0, 1, 0, 0] (bodyOf Go.Proofs.Try.f46)) integer_bitwise_ddFinteger_Xor_1.M0 integer_bitwise_ddFinteger_Xor_1.O0 0 (fun x => integer_bitwise_ddFinteger_Xor_1.l0 k k x.1 x.2.1 x.2.2.1 x.2.2.2.1 x.2.2.2.2.1 x.2.2.2.2.2.1 x.2.2.2.2.2.2) :=
  loop_ok (R0 := denB integer_bitwise_ddFinteger_Xor_1.B) (M := integer_bitwise_ddFinteger_Xor_1.M0) (O := integer_bitwise_ddFinteger_Xor_1.O0) (L := fun m (x : integer_bitwise_ddFinteger_Xor_1.M0.den) => integer_bitwise_ddFinteger_Xor_1.l0 k m x.1 x.2.1 x.2.2.1 x.2.2.2.1 x.2.2.2.2.1 x.2.2.2.2.2.1 x.2.2.2.2.2.2) tt_ok (integer_bitwise_ddFinteger_Xor_1.tab_ok k) follows (ann := .nil) (annOK_nil _) (fun _ => rfl) (fun m x => integer_bitwise_ddFinteger_Xor_1.l0_ev k m x) k
theorem integer_bitwise_ddFinteger_Xor_1.spec (k : Nat) : SpecOK Go.Proofs.Try.prog (integer_bitwise_ddFinteger_Xor_1.E k) :=
  fn_ok (c := bodyOf Go.Proofs.Try.f46) tt_ok (integer_bitwise_ddFinteger_Xor_1.tab_ok k) follows Go.Proofs.Try.func46 rfl (name_ne (by kernel_rfl)) (by kernel_rfl) (Nat.le_of_ble_eq_true (by kernel_rfl)) (Nat.le_of_ble_eq_true (by kernel_rfl)) (annOK_seq (annOK_nil _) (annOK_seq (annOK_nil _) (annOK_seq (annOK_nil _) (annOK_seq (annOK_nil _) (annOK_seq (annOK_seq (annOK_nil _) (annOK_block (annOK_loop (integer_bitwise_ddFinteger_Xor_1.l0_ok k)))) (annOK_nil _)))))) (integer_bitwise_ddFinteger_Xor_1.ev k)

theorem integer_Xor.tab_ok (k : Nat) : ∀ E ∈ integer_Xor.tab k, SpecOK Go.Proofs.Try.prog E := (forall_cons (integer_bitwise_ddFinteger_Xor_1.spec k) forall_nil)
theorem integer_Xor.spec (k : Nat) : SpecOK Go.Proofs.Try.prog (integer_Xor.E k) :=
  fn_ok (c := bodyOf Go.Proofs.Try.f21) tt_ok (integer_Xor.tab_ok k) follows Go.Proofs.Try.func21 rfl (name_ne (by kernel_rfl)) (by kernel_rfl) (Nat.le_of_ble_eq_true (by kernel_rfl)) (Nat.le_of_ble_eq_true (by kernel_rfl)) (annOK_nil _) (integer_Xor.ev k)

theorem integer_And_1.tab_ok  : ∀ E ∈ integer_And_1.tab, SpecOK Go.Proofs.Try.prog E := forall_nil
theorem integer_And_1.spec  : SpecOK Go.Proofs.Try.prog (integer_And_1.E) :=
  fn_ok (c := bodyOf Go.Proofs.Try.f47) tt_ok (integer_And_1.tab_ok) follows Go.Proofs.Try.func47 rfl (name_ne (by kernel_rfl)) (by kernel_rfl) (Nat.le_of_ble_eq_true (by kernel_rfl)) (Nat.le_of_ble_eq_true (by kernel_rfl)) (annOK_nil _) integer_And_1.ev

theorem integer_bitwise_ddFinteger_And_1.tab_ok (k : Nat) : ∀ E ∈ integer_bitwise_ddFinteger_And_1.tab k, SpecOK Go.Proofs.Try.prog E := (forall_cons (integer_check.spec k) (forall_cons (integer_twos.spec k) (forall_cons integer_And_1.spec (forall_cons (integer_back.spec k) forall_nil))))
theorem integer_bitwise_ddFinteger_And_1.l0_ok (k : Nat) : LoopOK Go.Proofs.Try.prog Go.Proofs.Try.f46.ntmps (finOf tt integer_bitwise_ddFinteger_And_1.B Go.Proofs.Try.f46.results.toList) (cAt [1, 1, 1, 1, 0, 1, 0, 0] (bodyOf Go.Proofs.Try.f46)) integer_bitwise_ddFinteger_And_1.M0 integer_bitwise_ddFinteger_And_1.O0 0 (fun x => integer_bitwise_ddFinteger_And_1.l0 k k x.1 x.2.1 x.2.2.1 x.2.2.2.1 x.2.2.2.2.1 x.2.2.2.2.2.1 x.2.2.2.2.2.2) :=
  loop_ok (R0 := denB integer_bitwise_ddFinteger_And_1.B) (M := integer_bitwise_ddFinteger_And_1.M0) (O := integer_bitwise_ddFinteger_And_1.O0) (L := fun m (x : integer_bitwise_ddFinteger_And_1.M0.den) => integer_bitwise_ddFinteger_And_1.l0 k m x.1 x.2.1 x.2.2.1 x.2.2.2.1 x.2.2.2.2.1 x.2.2.2.2.2.1 x.2.2.2.2.2.2) tt_ok (integer_bitwise_ddFinteger_And_1.tab_ok k) follows (ann := .nil) (annOK_nil _) (fun _ => rfl) (fun m x => integer_bitwise_ddFinteger_And_1.l0_ev k m x) k
theorem integer_bitwise_ddFinteger_And_1.spec (k : Nat) : SpecOK Go.Proofs.Try.prog (integer_bitwise_ddFinteger_And_1.E k) :=
  fn_ok (c := bodyOf Go.Proofs.Try.f46) tt_ok (integer_bitwise_ddFinteger_And_1.tab_ok k) follows Go.Proofs.Try.func46 rfl (name_ne (by kernel_rfl)) (by kernel_rfl) (Nat.le_of_ble_eq_true (by kernel_rfl)) (Nat.le_of_ble_eq_true (by kernel_rfl)) (annOK_seq (annOK_nil _) (annOK_seq (annOK_nil _) (annOK_seq (annOK_nil _) (annOK_seq (annOK_nil _) (annOK_seq (annOK_seq (annOK_nil _) (annOK_block (annOK_loop (integer_bitwise_ddFinteger_And_1.l0_ok k)))) (annOK_nil _)))))) (integer_bitwise_ddFinteger_And_1.ev k)

theorem integer_And.tab_ok (k : Nat) : ∀ E ∈ integer_And.tab k, SpecOK Go.Proofs.Try.prog E := (forall_cons (integer_bitwise_ddFinteger_And_1.spec k) forall_nil)
theorem integer_And.spec (k : Nat) : SpecOK Go.Proofs.Try.prog (integer_And.E k) :=
  fn_ok (c := bodyOf Go.Proofs.Try.f19) tt_ok (integer_And.tab_ok k) follows Go.Proofs.Try.func19 rfl (name_ne (by kernel_rfl)) (by kernel_rfl) (Nat.le_of_ble_eq_true (by kernel_rfl)) (Nat.le_of_ble_eq_true (by kernel_rfl)) (annOK_nil _) (integer_And.ev k)

theorem natural_Bits.tab_ok  : ∀ E ∈ natural_Bits.tab, SpecOK Go.Proofs.Try.prog E := (forall_cons natural_Valid.spec (forall_cons natural_at.spec (forall_cons bits_Len32.spec forall_nil)))
theorem natural_Bits.spec  : SpecOK Go.Proofs.Try.prog (natural_Bits.E) :=
  fn_ok (c := bodyOf Go.Proofs.Try.f80) tt_ok (natural_Bits.tab_ok) follows Go.Proofs.Try.func80 rfl (name_ne (by kernel_rfl)) (by kernel_rfl) (Nat.le_of_ble_eq_true (by kernel_rfl)) (Nat.le_of_ble_eq_true (by kernel_rfl)) (annOK_nil _) natural_Bits.ev

theorem natural_Shift.tab_ok (k : Nat) : ∀ E ∈ natural_Shift.tab k, SpecOK Go.Proofs.Try.prog E := (forall_cons natural_Bits.spec (forall_cons natural_at.spec (forall_cons (natural_right.spec k) (forall_cons (natural_left.spec k) forall_nil))))
theorem natural_Shift.spec (k : Nat) : SpecOK Go.Proofs.Try.prog (natural_Shift.E k) :=
  fn_ok (c := bodyOf Go.Proofs.Try.f53) tt_ok (natural_Shift.tab_ok k) follows Go.Proofs.Try.func53 rfl (name_ne (by kernel_rfl)) (by kernel_rfl) (Nat.le_of_ble_eq_true (by kernel_rfl)) (Nat.le_of_ble_eq_true (by kernel_rfl)) (annOK_seq (annOK_nil _) (annOK_seq (annOK_nil _) (annOK_seq (annOK_block (annOK_seq (annOK_nil _) (annOK_cond (annOK_nil _) (annOK_jseq (annOK_nil _) (annOK_nil _))))) (annOK_nil _)))) (natural_Shift.ev k)

theorem integer_Shift.tab_ok (k : Nat) : ∀ E ∈ integer_Shift.tab k, SpecOK Go.Proofs.Try.prog E := (forall_cons (integer_check.spec k) (forall_cons (natural_Sub.spec k) (forall_cons (natural_Shift.spec k) (forall_cons (natural_Add.spec k) (forall_cons integer_signed.spec forall_nil)))))
theorem integer_Shift.spec (k : Nat) : SpecOK Go.Proofs.Try.prog (integer_Shift.E k) :=
  fn_ok (c := bodyOf Go.Proofs.Try.f23) tt_ok (integer_Shift.tab_ok k) follows Go.Proofs.Try.func23 rfl (name_ne (by kernel_rfl)) (by kernel_rfl) (Nat.le_of_ble_eq_true (by kernel_rfl)) (Nat.le_of_ble_eq_true (by kernel_rfl)) (annOK_seq (annOK_nil _) (annOK_seq (annOK_nil _) (annOK_seq (annOK_jseq (annOK_nil _) (annOK_nil _)) (annOK_nil _)))) (integer_Shift.ev k)

theorem natural_Cmp.tab_ok (k : Nat) : ∀ E ∈ natural_Cmp.tab k, SpecOK Go.Proofs.Try.prog E := (forall_cons natural_check.spec (forall_cons (natural_compare.spec k) forall_nil))
theorem natural_Cmp.spec (k : Nat) : SpecOK Go.Proofs.Try.prog (natural_Cmp.E k) :=
  fn_ok (c := bodyOf Go.Proofs.Try.f89) tt_ok (natural_Cmp.tab_ok k) follows Go.Proofs.Try.func89 rfl (name_ne (by kernel_rfl)) (by kernel_rfl) (Nat.le_of_ble_eq_true (by kernel_rfl)) (Nat.le_of_ble_eq_true (by kernel_rfl)) (annOK_nil _) (natural_Cmp.ev k)

theorem integer_plus.tab_ok (k : Nat) : ∀ E ∈ integer_plus.tab k, SpecOK Go.Proofs.Try.prog E := (forall_cons (natural_Add.spec k) (forall_cons integer_signed.spec (forall_cons (natural_Cmp.spec k) (forall_cons (natural_Sub.spec k) forall_nil))))
theorem integer_plus.spec (k : Nat) : SpecOK Go.Proofs.Try.prog (integer_plus.E k) :=
  fn_ok (c := bodyOf Go.Proofs.Try.f68) tt_ok (integer_plus.tab_ok k) follows Go.Proofs.Try.func68 rfl (name_ne (by kernel_rfl)) (by kernel_rfl) (Nat.le_of_ble_eq_true (by kernel_rfl)) (Nat.le_of_ble_eq_true (by kernel_rfl)) (annOK_seq (annOK_nil _) (annOK_seq (annOK_nil _) (annOK_jseq (annOK_nil _) (annOK_nil _)))) (integer_plus.ev k)

theorem integer_Add.tab_ok (k : Nat) : ∀ E ∈ integer_Add.tab k, SpecOK Go.Proofs.Try.prog E := (forall_cons (integer_check.spec k) (forall_cons (integer_plus.spec k) forall_nil))
theorem integer_Add.spec (k : Nat) : SpecOK Go.Proofs.Try.prog (integer_Add.E k) :=
  fn_ok (c := bodyOf Go.Proofs.Try.f34) tt_ok (integer_Add.tab_ok k) follows Go.Proofs.Try.func34 rfl (name_ne (by kernel_rfl)) (by kernel_rfl) (Nat.le_of_ble_eq_true (by kernel_rfl)) (Nat.le_of_ble_eq_true (by kernel_rfl)) (annOK_nil _) (integer_Add.ev k)

theorem integer_Not_1.tab_ok  : ∀ E ∈ integer_Not_1.tab, SpecOK Go.Proofs.Try.prog E := forall_nil
theorem integer_Not_1.spec  : SpecOK Go.Proofs.Try.prog (integer_Not_1.E) :=
  fn_ok (c := bodyOf Go.Proofs.Try.f50) tt_ok (integer_Not_1.tab_ok) follows Go.Proofs.Try.func50 rfl (name_ne (by kernel_rfl)) (by kernel_rfl) (Nat.le_of_ble_eq_true (by kernel_rfl)) (Nat.le_of_ble_eq_true (by kernel_rfl)) (annOK_nil _) integer_Not_1.ev

theorem integer_bitwise_ddFinteger_Not_1.tab_ok (k : Nat) : ∀ E ∈ integer_bitwise_ddFinteger_Not_1.tab k, SpecOK Go.Proofs.Try.prog E := (forall_cons (integer_check.spec k) (forall_cons (integer_twos.spec k) (forall_cons integer_Not_1.spec (forall_cons (integer_back.spec k) forall_nil))))
theorem integer_bitwise_ddFinteger_Not_1.l0_ok (k : Nat) : LoopOK Go.Proofs.Try.prog Go.Proofs.Try.f46.ntmps (finOf tt integer_bitwise_ddFinteger_Not_1.B Go.Proofs.Try.f46.results.toList) (cAt [1, 1, 1, 1, 0, 1, 0, 0] (bodyOf Go.Proofs.Try.f46)) integer_bitwise_ddFinteger_Not_1.M0 integer_bitwise_ddFinteger_Not_1.O0 0 (fun x => integer_bitwise_ddFinteger_Not_1.l0 k k x.1 x.2.1 x.2.2.1 x.2.2.2.1 x.2.2.2.2.1 x.2.2.2.2.2.1 x.2.2.2.2.2.2) :=
  loop_ok (R0 := denB integer_bitwise_ddFinteger_Not_1.B) (M := integer_bitwise_ddFinteger_Not_1.M0) (O := integer_bitwise_ddFinteger_Not_1.O0) (L := fun m (x : integer_bitwise_ddFinteger_Not_1.M0.den) => integer_bitwise_ddFinteger_Not_1.l0 k m x.1 x.2.1 x.2.2.1 x.2.2.2.1 x.2.2.2.2.1 x.2.2.2.2.2.1 x.2.2.2.2.2.2) tt_ok (integer_bitwise_ddFinteger_Not_1.tab_ok k) follows (ann := .nil) (annOK_nil _) (fun _ => rfl) (fun m x => integer_bitwise_ddFinteger_Not_1.l0_ev k m x) k
theorem integer_bitwise_ddFinteger_Not_1.spec (k : Nat) : SpecOK Go.Proofs.Try.prog (integer_bitwise_ddFinteger_Not_1.E k) :=
  fn_ok (c := bodyOf Go.Proofs.Try.f46) tt_ok (integer_bitwise_ddFinteger_Not_1.tab_ok k) follows Go.Proofs.Try.func46 rfl (name_ne (by kernel_rfl)) (by kernel_rfl) (Nat.le_of_ble_eq_true (by kernel_rfl)) (Nat.le_of_ble_eq_true (by kernel_rfl)) (annOK_seq (annOK_nil _) (annOK_seq (annOK_nil _) (annOK_seq (annOK_nil _) (annOK_seq (annOK_nil _) (annOK_seq (annOK_seq (annOK_nil _) (annOK_block (annOK_loop (integer_bitwise_ddFinteger_Not_1.l0_ok k)))) (annOK_nil _)))))) (integer_bitwise_ddFinteger_Not_1.ev k)

theorem integer_Not.tab_ok (k : Nat) : ∀ E ∈ integer_Not.tab k, SpecOK Go.Proofs.Try.prog E := (forall_cons (integer_bitwise_ddFinteger_Not_1.spec k) forall_nil)
theorem integer_Not.spec (k : Nat) : SpecOK Go.Proofs.Try.prog (integer_Not.E k) :=
  fn_ok (c := bodyOf Go.Proofs.Try.f22) tt_ok (integer_Not.tab_ok k) follows Go.Proofs.Try.func22 rfl (name_ne (by kernel_rfl)) (by kernel_rfl) (Nat.le_of_ble_eq_true (by kernel_rfl)) (Nat.le_of_ble_eq_true (by kernel_rfl)) (annOK_nil _) (integer_Not.ev k)

theorem integer_Or_1.tab_ok  : ∀ E ∈ integer_Or_1.tab, SpecOK Go.Proofs.Try.prog E := forall_nil
theorem integer_Or_1.spec  : SpecOK Go.Proofs.Try.prog (integer_Or_1.E) :=
  fn_ok (c := bodyOf Go.Proofs.Try.f48) tt_ok (integer_Or_1.tab_ok) follows Go.Proofs.Try.func48 rfl (name_ne (by kernel_rfl)) (by kernel_rfl) (Nat.le_of_ble_eq_true (by kernel_rfl)) (Nat.le_of_ble_eq_true (by kernel_rfl)) (annOK_nil _) integer_Or_1.ev

theorem integer_bitwise_ddFinteger_Or_1.tab_ok (k : Nat) : ∀ E ∈ integer_bitwise_ddFinteger_Or_1.tab k, SpecOK Go.Proofs.Try.prog E := (forall_cons (integer_check.spec k) (forall_cons (integer_twos.spec k) (forall_cons integer_Or_1.spec (forall_cons (integer_back.spec k) forall_nil))))
theorem integer_bitwise_ddFinteger_Or_1.l0_ok (k : Nat) : LoopOK Go.Proofs.Try.prog Go.Proofs.Try.f46.ntmps (finOf tt integer_bitwise_ddFinteger_Or_1.B Go.Proofs.Try.f46.results.toList) (cAt [1, 1, 1, 1, 0, 1, 0, 0] (bodyOf Go.Proofs.Try.f46)) integer_bitwise_ddFinteger_Or_1.M0 integer_bitwise_ddFinteger_Or_1.O0 0 (fun x => integer_bitwise_ddFinteger_Or_1.l0 k k x.1 x.2.1 x.2.2.1 x.2.2.2.1 x.2.2.2.2.1 x.2.2.2.2.2.1 x.2.2.2.2.2.2) :=
  loop_ok (R0 := denB integer_bitwise_ddFinteger_Or_1.B) (M := integer_bitwise_ddFinteger_Or_1.M0) (O := integer_bitwise_ddFinteger_Or_1.O0) (L := fun m (x : integer_bitwise_ddFinteger_Or_1.M0.den) => integer_bitwise_ddFinteger_Or_1.l0 k m x.1 x.2.1 x.2.2.1 x.2.2.2.1 x.2.2.2.2.1 x.2.2.2.2.2.1 x.2.2.2.2.2.2) tt_ok (integer_bitwise_ddFinteger_Or_1.tab_ok k) follows (ann := .nil) (annOK_nil _) (fun _ => rfl) (fun m x => integer_bitwise_ddFinteger_Or_1.l0_ev k m x) k
theorem integer_bitwise_ddFinteger_Or_1.spec (k : Nat) : SpecOK Go.Proofs.Try.prog (integer_bitwise_ddFinteger_Or_1.E k) :=
  fn_ok (c := bodyOf Go.Proofs.Try.f46) tt_ok (integer_bitwise_ddFinteger_Or_1.tab_ok k) follows Go.Proofs.Try.func46 rfl (name_ne (by kernel_rfl)) (by kernel_rfl) (Nat.le_of_ble_eq_true (by kernel_rfl)) (Nat.le_of_ble_eq_true (by kernel_rfl)) (annOK_seq (annOK_nil _) (annOK_seq (annOK_nil _) (annOK_seq (annOK_nil _) (annOK_seq (annOK_nil _) (annOK_seq (annOK_seq (annOK_nil _) (annOK_block (annOK_loop (integer_bitwise_ddFinteger_Or_1.l0_ok k)))) (annOK_nil _)))))) (integer_bitwise_ddFinteger_Or_1.ev k)

theorem integer_Or.tab_ok (k : Nat) : ∀ E ∈ integer_Or.tab k, SpecOK Go.Proofs.Try.prog E := (forall_cons (integer_bitwise_ddFinteger_Or_1.spec k) forall_nil)
theorem integer_Or.spec (k : Nat) : SpecOK Go.Proofs.Try.prog (integer_Or.E k) :=
  fn_ok (c := bodyOf Go.Proofs.Try.f20) tt_ok (integer_Or.tab_ok k) follows Go.Proofs.Try.func20 rfl (name_ne (by kernel_rfl)) (by kernel_rfl) (Nat.le_of_ble_eq_true (by kernel_rfl)) (Nat.le_of_ble_eq_true (by kernel_rfl)) (annOK_nil _) (integer_Or.ev k)

theorem brindlewoodref3_SameInts.tab_ok (k : Nat) : ∀ E ∈ brindlewoodref3_SameInts.tab k, SpecOK Go.Proofs.Try.prog E := (forall_cons (brindlewoodref3_SameLimbs.spec k) forall_nil)
theorem brindlewoodref3_SameInts.spec (k : Nat) : SpecOK Go.Proofs.Try.prog (brindlewoodref3_SameInts.E k) :=
  fn_ok (c := bodyOf Go.Proofs.Try.f35) tt_ok (brindlewoodref3_SameInts.tab_ok k) follows Go.Proofs.Try.func35 rfl (name_ne (by kernel_rfl)) (by kernel_rfl) (Nat.le_of_ble_eq_true (by kernel_rfl)) (Nat.le_of_ble_eq_true (by kernel_rfl)) (annOK_nil _) (brindlewoodref3_SameInts.ev k)

theorem brindlewoodlaw3_IntegerBitSums.tab_ok (k : Nat) : ∀ E ∈ brindlewoodlaw3_IntegerBitSums.tab k, SpecOK Go.Proofs.Try.prog E := (forall_cons (brindlewoodlaw3_counts.spec k) (forall_cons (brindlewoodref3_Faults.spec k) (forall_cons (integer_Xor.spec k) (forall_cons (integer_And.spec k) (forall_cons (integer_Shift.spec k) (forall_cons (integer_Add.spec k) (forall_cons (integer_Not.spec k) (forall_cons (integer_Or.spec k) (forall_cons (brindlewoodref3_SameInts.spec k) forall_nil)))))))))
theorem brindlewoodlaw3_IntegerBitSums.spec (k : Nat) : SpecOK Go.Proofs.Try.prog (brindlewoodlaw3_IntegerBitSums.E k) :=
  fn_ok (c := bodyOf Go.Proofs.Try.f6) tt_ok (brindlewoodlaw3_IntegerBitSums.tab_ok k) follows Go.Proofs.Try.func6 rfl (name_ne (by kernel_rfl)) (by kernel_rfl) (Nat.le_of_ble_eq_true (by kernel_rfl)) (Nat.le_of_ble_eq_true (by kernel_rfl)) (annOK_seq (annOK_nil _) (annOK_seq (annOK_nil _) (annOK_jseq (annOK_nil _) (annOK_nil _)))) (brindlewoodlaw3_IntegerBitSums.ev k)
end Go.Sh
