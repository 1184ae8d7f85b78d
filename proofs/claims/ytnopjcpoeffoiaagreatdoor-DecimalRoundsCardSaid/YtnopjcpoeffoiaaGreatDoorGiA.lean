/- The place of a byte in a string keeps its word: a call of what the model stands in for.  Conditions: those that the theorem names, closed facts of the function's code. -/
import Derived.Test.YtnopjcpoeffoiaaGreatDoorE4
import Derived.Lib.Bytealg
set_option linter.unusedVariables false
namespace Go.Ev
open Go
section
variable {P : Program} {C : Ctx} {n : Nat} {T : TypeId → TI} {S S' : St} {a : Act} {w : World}
theorem one_op (TK : TypesOK P T) {all : List Oper} {o : Oper} {i : Nat} (hi : all[i]? = some o) (h : evalOps T [] n false all [o] [] [] S some = some S') (hR : Rel C n S a w) {rest : List Nat} {Q : Exit → Act → World → Prop}
    (hn : ∀ a' w', Rel C n S' a' w' → wpOps P all.toArray Q rest a' w') : wpOps P all.toArray Q (i :: rest) a w := by
  obtain ⟨tr, e1, e2, e3, _⟩ := evalOps_inv _ _ _ _ h
  obtain ⟨t1, rfl⟩ : ∃ t1, tr = [t1] := List.length_eq_one_iff.1 (by simpa using congrArg List.length e1)
  simp only [List.map_cons, List.map_nil, List.cons.injEq, and_true] at e1
  simp only [execAll, Option.some.injEq] at e3
  rw [wpOps_cons]
  refine step_wp (all := all) TK (forall_nil) e2.1 hR (by rw [e1]; exact hi) fun v1 w2 hR2 => ?_
  rw [e3] at hR2
  exact hn _ _ hR2
theorem ibyte_ok (TK : TypesOK P T) (hm : P.follows .mixedOrders = true) {f g : FuncId} {fn gn : Func} {c0 c2 : Code} {id : Nat} {o1 o2 o3 o4 : Oper} {ats : Array TypeId} {d i j : Tmp} (hf : P.funcs[f]? = some fn) (hg : P.funcs[g]? = some gn)
    (hb : fn.body = some (.seq c0 (.seq (.region id #[o1, o2, o3, o4] false) c2))) (hname : fn.name ≠ "runtime.NumGoroutine") (hgname : gn.name ≠ "runtime.NumGoroutine") (hgb : gn.body = none)
    (hgn : Extern.findNext gn = none) (hge : Extern.find gn = some Extern.BytealgIndexByte.indexByte)
    (ho3 : o3.op = .call { callee := .value (.func g), args := #[.tmp i, .tmp j], argTypes := ats }) (hd3 : o3.dst = some d) (hg3 : o3.guard = none) (hdn : Nat.blt d fn.ntmps = true) (hn : Nat.ble 2 fn.ntmps = true)
    {S1 S2 S3 : ByteArray × Int → St} {S4 : ByteArray × Int → Int → St}
    (h0 : ∀ x, runC T [] fn.ntmps (finOf T [.dat (.int .i64)] fn.results.toList) c0 (initAs 0 St.empty [.dat .str, .dat (.int .u8)] x) = some (S1 x))
    (h1 : ∀ x, evalOps T [] fn.ntmps false [o1, o2, o3, o4] [o1] [] [] (S1 x) some = some (S2 x))
    (h2 : ∀ x, evalOps T [] fn.ntmps false [o1, o2, o3, o4] [o2] [] [] (S2 x) some = some (S3 x))
    (hs : ∀ x, (S3 x).fr i = .one (.dat .str x.1)) (hs' : ∀ x, (S3 x).fr j = .one (.dat (.int .u8) x.2))
    (h4 : ∀ x v, evalOps T [] fn.ntmps false [o1, o2, o3, o4] [o4] [] [] ((S3 x).put (some d) (.one (.dat (.int .i64) v)) []) some = some (S4 x v))
    (hF : ∀ x v, evalC T [] fn.ntmps (finOf T [.dat (.int .i64)] fn.results.toList) c2 .nil (endF (finOf T [.dat (.int .i64)] fn.results.toList)) some (S4 x v) = some (v : denB [.dat (.int .i64)])) :
    SpecOK P ⟨f, [.dat .str, .dat (.int .u8)], [.dat (.int .i64)], fun x => some (Go.Lib.indexByte x.1.data.toList x.2.toNat.toUInt8)⟩ where
  run := fun x y w R args hrun hargs hlt hpw => by
    cases hrun
    refine calls_of_wp hf hb ?_
    have hrel := init_rel (n := fn.ntmps) hargs hlt hpw (Nat.le_of_ble_eq_true hn) (argsR_len hargs)
    have hfin : ∀ {S : St} {a : Act} {w' : World} {r : denB [.dat (.int .i64)]}, Rel (ctxOf w R [.dat .str, .dat (.int .u8)] args) fn.ntmps S a w' → finOf T [.dat (.int .i64)] fn.results.toList S = some r → a.defers = [] ∧ ∃ v, (results fn a.tmps).run P w' = .ok v w' ∧ CallPost w R [.dat .str, .dat (.int .u8)] [.dat (.int .i64)] args r v w' := fun h hy => fin_post TK rfl h hy
    generalize finOf T [.dat (.int .i64)] fn.results.toList = fin at *
    have hnp : (ctxOf w R [.dat .str, .dat (.int .u8)] args).np ≤ 1000 := by simp [ctxOf]
    have h0x := h0 x
    unfold runC at h0x
    refine wp_seq (wp_mono (evalC_sound TK (forall_nil) hm (C := ctxOf w R _ args) hnp c0 .nil _ _ _ _ _ w h0x (annOK_nil _) hrel) fun e0 a1 w1 hp => ?_)
    have hR1 : e0 = .normal ∧ Rel (ctxOf w R [.dat .str, .dat (.int .u8)] args) fn.ntmps (S1 x) a1 w1 := by
      rcases hp with ⟨S', hk, hR1⟩ | ⟨rfl, S', r0, g1, g2, hR1⟩
      · cases e0 <;> simp only [Option.some.injEq, reduceCtorEq] at hk
        subst hk; exact ⟨rfl, hR1⟩
      · cases g2
    clear hp
    obtain ⟨rfl, hR1⟩ := hR1
    refine wp_seq (wp_region ?_)
    show wpOps P [o1, o2, o3, o4].toArray _ [0, 1, 2, 3] a1 w1
    refine one_op TK rfl (h1 x) hR1 fun a2 w2 hR2 => ?_
    refine one_op TK rfl (h2 x) hR2 fun a3 w3 hR3 => ?_
    rw [wpOps_cons]
    obtain ⟨R3, ρ3, hR3⟩ := hR3
    unfold wpOp
    have hi2 : ([o1, o2, o3, o4].toArray)[2]? = some o3 := rfl
    rw [hi2]
    simp only
    have hyes : Region.wanted o3 (yielded [o1, o2, o3, o4].toArray a3.tmps) = true := by
      unfold Region.wanted; rw [hg3]
    rw [if_pos hyes]
    left
    have hvi : a3.eval (.tmp i) = .string x.1 := by
      have h5 := hR3.opnd (.tmp i)
      simp only [opnd, hs] at h5
      have h6 : CR w3 R3 .str x.1 [a3.eval (.tmp i)] := h5
      simpa [CR] using h6
    have hvj : a3.eval (.tmp j) = .int .u8 x.2 := by
      have h5 := hR3.opnd (.tmp j)
      simp only [opnd, hs'] at h5
      have h6 : CR w3 R3 (.int .u8) x.2 [a3.eval (.tmp j)] := h5
      simpa [CR] using h6
    have hvg : a3.eval (.func g) = .func (.func g) #[] #[] := rfl
    have hrun3 : (execOp a3.eval o3).run P w3 = .ok (.value (.int .i64 (Go.Lib.indexByte x.1.data.toList x.2.toNat.toUInt8))) w3 := by
      simp [execOp, ho3, resolve, hvg, Deferred.ofValue, invoke, callFunc, hg, hgname, hgb, hgn, hge, hvi, hvj, Go.Lib.run_indexByteString]
    have hdone : Done P (ctxOf w R [.dat .str, .dat (.int .u8)] args) fn.ntmps (S3 x) o3 a3 w3 (.one (.dat (.int .i64) (Go.Lib.indexByte x.1.data.toList x.2.toNat.toUInt8))) [] := done_value hR3 (dstIn_dIn (o := o3) (by unfold dstIn; rw [hd3]; exact hdn)) hrun3 (by show CR _ _ _ _ _; rfl) (by simp [AV.ids, Cel.ids])
    refine hdone.wp _ _ fun v4 w4 hR4 => ?_
    rw [hd3] at hR4 ⊢
    refine one_op TK rfl (h4 x _) hR4 fun a5 w5 hR5 => ?_
    show Exit.then _ _ .normal a5 w5
    refine wp_mono (evalC_sound TK (forall_nil) hm hnp c2 .nil _ _ _ _ _ w5 (hF x _) (annOK_nil _) hR5) fun e6 a6 w6 hp => ?_
    rcases hp with ⟨S', hk, hR6⟩ | ⟨rfl, S', r0, g1, g2, hR6⟩
    · cases e6 with
      | normal => exact hfin hR6 hk
      | _ => cases hk
    · cases g2; exact hfin hR6 g1
  fn := ⟨fn, hf, hname, by rw [hb]; rfl⟩
  wf := rfl
def ibS1 (T : TypeId → TI) (fn : Func) (c0 : Code) (x : ByteArray × Int) : St := stOf (runC T [] fn.ntmps (finOf T [.dat (.int .i64)] fn.results.toList) c0 (initAs 0 St.empty [.dat .str, .dat (.int .u8)] x))
def ibS2 (T : TypeId → TI) (fn : Func) (c0 : Code) (all : List Oper) (o1 : Oper) (x : ByteArray × Int) : St := stOf (evalOps T [] fn.ntmps false all [o1] [] [] (ibS1 T fn c0 x) some)
def ibS3 (T : TypeId → TI) (fn : Func) (c0 : Code) (all : List Oper) (o1 o2 : Oper) (x : ByteArray × Int) : St := stOf (evalOps T [] fn.ntmps false all [o2] [] [] (ibS2 T fn c0 all o1 x) some)
def ibS4 (T : TypeId → TI) (fn : Func) (c0 : Code) (all : List Oper) (o1 o2 o4 : Oper) (d : Tmp) (x : ByteArray × Int) (v : Int) : St := stOf (evalOps T [] fn.ntmps false all [o4] [] [] ((ibS3 T fn c0 all o1 o2 x).put (some d) (.one (.dat (.int .i64) v)) []) some)
theorem ibyte_ok' (TK : TypesOK P T) (hm : P.follows .mixedOrders = true) {f g : FuncId} {fn gn : Func} {c0 c2 : Code} {id : Nat} {o1 o2 o3 o4 : Oper} {ats : Array TypeId} {d i j : Tmp} (hf : P.funcs[f]? = some fn) (hg : P.funcs[g]? = some gn)
    (hb : fn.body = some (.seq c0 (.seq (.region id #[o1, o2, o3, o4] false) c2))) (hname : fn.name ≠ "runtime.NumGoroutine") (hgname : gn.name ≠ "runtime.NumGoroutine") (hgb : gn.body = none)
    (hgn : Extern.findNext gn = none) (hge : Extern.find gn = some Extern.BytealgIndexByte.indexByte)
    (ho3 : o3.op = .call { callee := .value (.func g), args := #[.tmp i, .tmp j], argTypes := ats }) (hd3 : o3.dst = some d) (hg3 : o3.guard = none) (hdn : Nat.blt d fn.ntmps = true) (hn : Nat.ble 2 fn.ntmps = true)
    (h0 : ∀ x, runC T [] fn.ntmps (finOf T [.dat (.int .i64)] fn.results.toList) c0 (initAs 0 St.empty [.dat .str, .dat (.int .u8)] x) = some (ibS1 T fn c0 x))
    (h1 : ∀ x, evalOps T [] fn.ntmps false [o1, o2, o3, o4] [o1] [] [] (ibS1 T fn c0 x) some = some (ibS2 T fn c0 [o1, o2, o3, o4] o1 x))
    (h2 : ∀ x, evalOps T [] fn.ntmps false [o1, o2, o3, o4] [o2] [] [] (ibS2 T fn c0 [o1, o2, o3, o4] o1 x) some = some (ibS3 T fn c0 [o1, o2, o3, o4] o1 o2 x))
    (hs : ∀ x, (ibS3 T fn c0 [o1, o2, o3, o4] o1 o2 x).fr i = .one (.dat .str x.1)) (hs' : ∀ x, (ibS3 T fn c0 [o1, o2, o3, o4] o1 o2 x).fr j = .one (.dat (.int .u8) x.2))
    (h4 : ∀ x v, evalOps T [] fn.ntmps false [o1, o2, o3, o4] [o4] [] [] ((ibS3 T fn c0 [o1, o2, o3, o4] o1 o2 x).put (some d) (.one (.dat (.int .i64) v)) []) some = some (ibS4 T fn c0 [o1, o2, o3, o4] o1 o2 o4 d x v))
    (hF : ∀ x v, evalC T [] fn.ntmps (finOf T [.dat (.int .i64)] fn.results.toList) c2 .nil (endF (finOf T [.dat (.int .i64)] fn.results.toList)) some (ibS4 T fn c0 [o1, o2, o3, o4] o1 o2 o4 d x v) = some (v : denB [.dat (.int .i64)])) :
    SpecOK P ⟨f, [.dat .str, .dat (.int .u8)], [.dat (.int .i64)], fun x => some (Go.Lib.indexByte x.1.data.toList x.2.toNat.toUInt8)⟩ := ibyte_ok TK hm hf hg hb hname hgname hgb hgn hge ho3 hd3 hg3 hdn hn h0 h1 h2 hs hs' h4 hF
end
end Go.Ev
