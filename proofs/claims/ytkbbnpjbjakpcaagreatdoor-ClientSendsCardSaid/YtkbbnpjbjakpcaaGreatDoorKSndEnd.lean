/- Proved: ropewalklaw23.ClientSends (the same is sent till it is answered; when it is committed, or aborted, the next one has the next number) returns true whatever the input, and the input reads as it did: the tied card. Conditions: none. By an AI agent. -/
import Derived.Test.YtkbbnpjbjakpcaaGreatDoorKSndD
import Derived.Test.YtkbbnpjbjakpcaaGreatDoorCards
import Derived.Test.YtkbbnpjbjakpcaaGreatDoorTie
import Derived.Lib.LaidIn
import Derived.Lib.LaidU8T
import Derived.Deep.DeepHandedRow
import Derived.Deep.DeepWitnessRowRef
import Derived.SizedLaws
import Derived.Carry
import Derived.ChangeMaps5
set_option linter.unusedVariables false
set_option linter.unusedSimpArgs false
set_option maxRecDepth 100000
namespace Go.Proofs.YtkbbnpjbjakpcaaGreatDoor.clientSends
open Go.ChangeMaps Go.ChangeShapes Go.WideShapes Go.ChangeAt Go.RowKit Go.Lib Go.Shelf
theorem own : ownKnob Tryz.prog.godebug = none:=by kernel_rfl
theorem laidOut : laidOutB Tryz.prog = true:=by kernel_rfl
/-- A world for the witness: the two tables laid. -/
noncomputable def laidWorld (os : Os) : World :=
  let w0:=World.holding Tryz.prog os ⟨#[],#[],[]⟩
  let put (h : Array Obj) (g : Nat) (cs : Array Value) : Array Obj:=h.modify g fun
    | .cells _ t frozen=>.cells cs t frozen
    | o=>o
  let h1:=put w0.heap 0 (Lib.firstTab.map fun z=>Value.int .u8 z).toArray
  let h2:=put h1 1 ((List.range 16).flatMap fun i=>[Value.int .u8 (Lib.accLo i),Value.int .u8 (Lib.accHi i)]).toArray
  { w0 with heap:=h2 }
theorem laid_is : Rows.clientSendsRow.laid = [("unicode/utf8.acceptRanges", Lib.acceptData),("unicode/utf8.first", Lib.firstData)]:=by kernel_rfl
theorem laid_met (os : Os) (args : Array Value) : laidMet Tryz.prog Rows.clientSendsRow.laid ((laidWorld os).forCall (fun _ _=>0) ⟨#[],args,[]⟩).memory:=by
  rw [laid_is];exact (LaidIn.of_run (l:=[("unicode/utf8.acceptRanges", Lib.acceptData),("unicode/utf8.first", Lib.firstData)]) [1,0] 8 (by kernel_rfl) (by kernel_rfl) (by kernel_rfl) (by kernel_rfl)).met
theorem tabs {W : World} (hL : laidMetH Tryz.prog Rows.clientSendsRow.laid W) : Tabs W:=by
  rw [laid_is] at hL;exact utf8Tabs_of_readsT (U8Types.of196 laysValid) ⟨by kernel_rfl,by kernel_rfl,by kernel_rfl,by kernel_rfl,by kernel_rfl,by kernel_rfl,by kernel_rfl⟩ (Lib.laidMet.reads hL (.tail _ (.head _))) (Lib.laidMet.reads hL (.head _))
theorem contract (H : Type) (enc : TypeId × Value→H) (W : World) (base : Nat) (args : Array Value) (ds gs : List (DataW H)) (before : List MemPlace)
    (hval : ∀ (j : Nat) t v,Tryz.f3.params[j]? = some t→args[j]? = some v→Value.okWide Tryz.prog W .any base t v)
    (hW : DataW.Whole enc Tryz.prog Tryz.f3.params.toList Rows.clientSendsSpec.vars false W args.toList ds gs before) (hL : laidMetH Tryz.prog Rows.clientSendsRow.laid W) :
    Calls Tryz.prog 3 args W fun e W'=>∃ v,e = .returned v∧Rows.clientSendsSpec.post enc Tryz.prog Tryz.f3 false true false false W args v W':=by
  have hW':=hW
  obtain ⟨p,q,hA0,hV,rfl,hfz,hnd⟩:=hW
  have hA : DataW.TrodAll enc Tryz.prog W 0 (fun _=>true) true Tryz.f3.params.toList args.toList ds p:=hA0
  rw [Tryz.params3] at hA hval;obtain ⟨v0,vs0,d0,ds0,p0,q0,hargs,rfl,rfl,h0,r0⟩:=trodAll_cons hA;obtain ⟨v1,vs1,d1,ds1,p1,q1,rfl,rfl,rfl,h1,r1⟩:=trodAll_cons r0;obtain ⟨v2,vs2,d2,ds2,p2,q2,rfl,rfl,rfl,h2,r2⟩:=trodAll_cons r1;obtain ⟨rfl,rfl,rfl⟩:=trodAll_nil r2;obtain rfl : args = #[v0,v1,v2]:=by cases args; simp_all
  obtain ⟨rfl,rfl⟩:=trodVars_none hV
  have hlt:=hW'.lt
  obtain ⟨m0,rfl,rfl,rfl,hm0⟩:=open_int Tryz.underlying3 (hval 0 3 v0 rfl rfl) h0;obtain ⟨A1,n1,c1,bs1,rfl,g1⟩:=given_int Tryz.underlying22 Tryz.underlying3 (by kernel_rfl) (hval 1 22 v1 rfl rfl) h1;obtain ⟨m2,rfl,rfl,rfl,hm2⟩:=open_int Tryz.underlying3 (hval 2 3 v2 rfl rfl) h2
  -- the call
  have hs : Sep W W [.rd kInt (.slice A1 n1 c1) bs1]:=(Sep.init W).old_ro (p:=fun Z=>kInt.sl Z (.slice A1 n1 c1) bs1) (m:=fun _ _ h=>Kd.sl_mono kInt h) g1
  refine (ClientSends_c (tabs hL) m0 m2 hs .here).mono fun e W' he=>?_
  cases e with
  | returned v=>
    obtain ⟨rfl,rs,hs2⟩ : v = .bool true∧_:=he
    have hb : Below W.heap.size W W':=hs2.below
    have t0 : DataW.Trod enc Tryz.prog W' 0 (fun b=>decide (b < W.heap.size)) true 3 (.int .i64 m0) (.lit (.int .i64 m0)) []:=shut_int Tryz.underlying3 hm0
    have e1 : ∀ x ∈ p1,x.block < W.heap.size:=fun x hx=>hlt x (by simp [hx])
    have t1:=Below.trod laidOut (by kernel_rfl) (of_decide_eq_true (by kernel_rfl)) h1 hb e1
    have t2 : DataW.Trod enc Tryz.prog W' 0 (fun b=>decide (b < W.heap.size)) true 3 (.int .i64 m2) (.lit (.int .i64 m2)) []:=shut_int Tryz.underlying3 hm2
    refine ⟨_,rfl,_,_,_,[],[]++(p1++([]++[])),[],hW',?_,?_,?_,hb.frame _,fun h=>by cases h⟩
    · exact trodAll_mk1 (shut_bool Tryz.underlying4 _)
    · exact (trodAll_cons_mk t0 (trodAll_cons_mk t1 (trodAll_cons_mk t2 trodAll_mk0)))
    · rfl
  | _=>exact he.elim
theorem witness_row (os : Os) {H : Type} (enc : TypeId × Value→H) :
    (OpenSpec.ofChange Rows.clientSendsSpec).preRow enc Tryz.prog Tryz.f3 Rows.clientSendsRow.domain false Rows.clientSendsRow.laid ((laidWorld os).forCall (fun _ _=>0) ⟨#[],#[.int .i64 0,.slice none 0 0,.int .i64 0],[]⟩).memory #[.int .i64 0,.slice none 0 0,.int .i64 0]:=by
  have hw : (DataW.whole enc Tryz.prog ((laidWorld os).forCall (fun _ _=>0) ⟨#[],#[.int .i64 0,.slice none 0 0,.int .i64 0],[]⟩).memory Tryz.f3.params.toList (OpenSpec.ofChange Rows.clientSendsSpec).vars false #[Value.int .i64 0,.slice none 0 0,.int .i64 0].toList 8).map (fun x=>(x.1,x.2.1)) =
      some ([.lit (.int .i64 0),.nil,.lit (.int .i64 0)],[]):=by kernel_rfl
  obtain ⟨⟨x1,x2,x3⟩,hx,hx1⟩:=Option.map_eq_some_iff.1 hw;simp only [Prod.mk.injEq] at hx1;obtain ⟨rfl,rfl⟩:=hx1;exact OpenSpec.preRow_of_cond 8 hx (by kernel_rfl) (fun k hk=>by cases hk) (by kernel_rfl) (laid_met os _)
set_option maxHeartbeats 2000000 in
theorem lifted (os : Os) (started : os.Started) (H : Type) (enc : TypeId × Value→H) (F : Stop.Interp) :
    ReturnsInHanded {} Tryz.checked os 3 .any ((OpenSpec.ofChange Rows.clientSendsSpec).preRow enc Tryz.prog Tryz.f3 Rows.clientSendsRow.domain false Rows.clientSendsRow.laid) (((OpenSpec.ofChange Rows.clientSendsSpec).at F).post enc Tryz.prog Tryz.f3 false true false false):=by
  refine returnsInHanded_of_row (C:=Tryz.checked) (s:=OpenSpec.ofChange Rows.clientSendsSpec) own started (by kernel_rfl) Tryz.func3
    (witness_row_atRef (enc:=enc) (C:=Tryz.checked) false (laidWorld os) #[.int .i64 0,.slice none 0 0,.int .i64 0] rfl (by kernel_rfl) (by kernel_rfl) (by kernel_rfl) (witness_row os enc)) ?_
  intro W base args ds gs before hval hW _ _ _ hL _ _;exact contract H enc W base args ds gs before hval hW hL
theorem said : Rows.ClientSendsSaid :=
  OpenClaim.holds_of_cond 3 Tryz.f3 rfl rfl rfl rfl rfl rfl rfl ⟨rfl,rfl,rfl,rfl,rfl⟩ rfl rfl rfl rfl rfl (by kernel_rfl) Tryz.func3 (by kernel_rfl)
    (of_decide_eq_true (by kernel_rfl)) (by unfold Func.isWrapper; (rw [if_neg (by decide +kernel)]; exact ⟨rfl,rfl⟩))
    (fun os started H enc _ F=>by rw [OpenClaim.pre_eq_preRow]; exact lifted os started H enc F)
/-- No parameter wants a stand-in; the program's own looks are off. -/
theorem plain (f : FuncId) (fn : Func) (hf : Tryz.pinned.checked.prog.funcNamed "ropewalk/ropewalklaw23.ClientSends" = some f) (hfn : Tryz.pinned.checked.prog.funcs[f]? = some fn) :
    true = Tryz.pinned.checked.prog.looks []∧∀ (j : Nat) t,fn.params[j]? = some t→Tryz.pinned.checked.prog.wantsStandIn t = false:=by
  obtain rfl : f = 3:=Option.some.inj ((show Tryz.prog.funcNamed "ropewalk/ropewalklaw23.ClientSends" = some 3 by kernel_rfl).symm.trans hf) |>.symm;obtain rfl : fn = Tryz.f3:=(Option.some.inj (Tryz.func3.symm.trans hfn)).symm;refine ⟨by kernel_rfl,fun j t ht=>?_⟩;rw [Tryz.params3] at ht
  have hm : t = 3∨t = 22:=by
    have:=Array.mem_of_getElem? ht
    simp only [List.mem_toArray,List.mem_cons,List.not_mem_nil,or_false] at this
    rcases this with h | h | h <;> simp [h]
  rcases hm with rfl | rfl
  · exact (show Tryz.prog.wantsStandIn 3 = false by kernel_rfl)
  · exact (show Tryz.prog.wantsStandIn 22 = false by kernel_rfl)
/-- THE CARD. -/
theorem card : Rows.ClientSendsCardSaid :=
  Claim7.holds_tied_plain_at .later [] _ _ _ _ said (fun _ h=>by cases h) (by kernel_rfl) (fun _ h=>by cases h) clientSends_row_tie rfl ⟨rfl,rfl⟩ (by kernel_rfl) rfl plain (by kernel_rfl)
end Go.Proofs.YtkbbnpjbjakpcaaGreatDoor.clientSends

