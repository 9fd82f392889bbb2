/- A part of the proof of ClientSnapshot (part 4 of 4): the words and the walks. -/
import Derived.Test.YtkbbnpjbjakpcaaGreatDoorKSnpC
set_option linter.unusedVariables false
set_option linter.unusedSimpArgs false
namespace Go.Proofs.YtkbbnpjbjakpcaaGreatDoor
open Go.RowKit Go.Lib Go.Proofs.YtkbbnpjbjakpcaaGreatDoorW.PrintLast
theorem bldClO37_0_1 {w : World} {l : List (Nat × Value)} {T : TypeId} {x0 x1 : Operand} {v0 : Value} (h0 : ev l x0 = some v0) {v1 : Value} (h1 : ev l x1 = some v1) (o0 : v0.cells = #[v0]:=by rfl) (o1 : v1.cells = #[v1]:=by rfl) : Yl Tryz.prog w l (.build 37 #[(0,x0),(1,x1)]) T (.agg #[v0,v1,.int .i64 0,.int .i64 0,.int .i64 0,.slice none 0 0,.slice none 0 0,.slice none 0 0,.int .i64 0]):=fun ρ o h ho _=>by
  have hf : Instr.fill (fun i=>([(0,1),(1,1),(2,1),(3,1),(4,1),(5,1),(6,1),(7,1),(8,1)] : List (Nat × Nat))[i]?) #[.int .i64 0,.int .i64 0,.int .i64 0,.int .i64 0,.int .i64 0,.slice none 0 0,.slice none 0 0,.slice none 0 0,.int .i64 0] [(0,v0),(1,v1)] = some #[v0,v1,.int .i64 0,.int .i64 0,.int .i64 0,.slice none 0 0,.slice none 0 0,.slice none 0 0,.int .i64 0]:=by
    refine (fill_v o0 rfl (by simp)).trans ?_;refine (fill_v o1 rfl (by simp)).trans ?_
    simp [Instr.fill]
  unfold execOp; rw [ho]
  simp [h _ _ h0,h _ _ h1,Instr.build,Tryz.zeroValue37,Tryz.runUnderlying37,Tryz.sizeOf3,Tryz.sizeOf33,Tryz.sizeOf34,Tryz.sizeOf35,agg_cells,hf]
theorem bldClO37_0_1_2_3 {w : World} {l : List (Nat × Value)} {T : TypeId} {x0 x1 x2 x3 : Operand} {v0 : Value} (h0 : ev l x0 = some v0) {v1 : Value} (h1 : ev l x1 = some v1) {v2 : Value} (h2 : ev l x2 = some v2) {v3 : Value} (h3 : ev l x3 = some v3) (o0 : v0.cells = #[v0]:=by rfl) (o1 : v1.cells = #[v1]:=by rfl) (o2 : v2.cells = #[v2]:=by rfl) (o3 : v3.cells = #[v3]:=by rfl) : Yl Tryz.prog w l (.build 37 #[(0,x0),(1,x1),(2,x2),(3,x3)]) T (.agg #[v0,v1,v2,v3,.int .i64 0,.slice none 0 0,.slice none 0 0,.slice none 0 0,.int .i64 0]):=fun ρ o h ho _=>by
  have hf : Instr.fill (fun i=>([(0,1),(1,1),(2,1),(3,1),(4,1),(5,1),(6,1),(7,1),(8,1)] : List (Nat × Nat))[i]?) #[.int .i64 0,.int .i64 0,.int .i64 0,.int .i64 0,.int .i64 0,.slice none 0 0,.slice none 0 0,.slice none 0 0,.int .i64 0] [(0,v0),(1,v1),(2,v2),(3,v3)] = some #[v0,v1,v2,v3,.int .i64 0,.slice none 0 0,.slice none 0 0,.slice none 0 0,.int .i64 0]:=by
    refine (fill_v o0 rfl (by simp)).trans ?_;refine (fill_v o1 rfl (by simp)).trans ?_;refine (fill_v o2 rfl (by simp)).trans ?_;refine (fill_v o3 rfl (by simp)).trans ?_
    simp [Instr.fill]
  unfold execOp; rw [ho]
  simp [h _ _ h0,h _ _ h1,h _ _ h2,h _ _ h3,Instr.build,Tryz.zeroValue37,Tryz.runUnderlying37,Tryz.sizeOf3,Tryz.sizeOf33,Tryz.sizeOf34,Tryz.sizeOf35,agg_cells,hf]
theorem bldClO37_0_1_3 {w : World} {l : List (Nat × Value)} {T : TypeId} {x0 x1 x3 : Operand} {v0 : Value} (h0 : ev l x0 = some v0) {v1 : Value} (h1 : ev l x1 = some v1) {v3 : Value} (h3 : ev l x3 = some v3) (o0 : v0.cells = #[v0]:=by rfl) (o1 : v1.cells = #[v1]:=by rfl) (o3 : v3.cells = #[v3]:=by rfl) : Yl Tryz.prog w l (.build 37 #[(0,x0),(1,x1),(3,x3)]) T (.agg #[v0,v1,.int .i64 0,v3,.int .i64 0,.slice none 0 0,.slice none 0 0,.slice none 0 0,.int .i64 0]):=fun ρ o h ho _=>by
  have hf : Instr.fill (fun i=>([(0,1),(1,1),(2,1),(3,1),(4,1),(5,1),(6,1),(7,1),(8,1)] : List (Nat × Nat))[i]?) #[.int .i64 0,.int .i64 0,.int .i64 0,.int .i64 0,.int .i64 0,.slice none 0 0,.slice none 0 0,.slice none 0 0,.int .i64 0] [(0,v0),(1,v1),(3,v3)] = some #[v0,v1,.int .i64 0,v3,.int .i64 0,.slice none 0 0,.slice none 0 0,.slice none 0 0,.int .i64 0]:=by
    refine (fill_v o0 rfl (by simp)).trans ?_;refine (fill_v o1 rfl (by simp)).trans ?_;refine (fill_v o3 rfl (by simp)).trans ?_
    simp [Instr.fill]
  unfold execOp; rw [ho]
  simp [h _ _ h0,h _ _ h1,h _ _ h3,Instr.build,Tryz.zeroValue37,Tryz.runUnderlying37,Tryz.sizeOf3,Tryz.sizeOf33,Tryz.sizeOf34,Tryz.sizeOf35,agg_cells,hf]
section
variable {W w : World} {cs r r2 : List Ch} {o : Bool} {bc : Nat} {q : Cli}
theorem COut_c (hc : okC q) (hs : Sep W w cs) (hk : Pick cs (.cli o bc q) r) :
    Calls Tryz.prog 9 #[.pointer (some ⟨bc,0,none⟩)] w (Rt fun v w'=>∃ es,v = .agg es.toArray∧Sep W w' (.el kMsg (cOutM q) es::.cli o bc (cOut q)::r)):=by
  obtain ⟨bt,bm,A,n,A',n',hl1,hl2,hs⟩:=hs.cli_open hk;obtain ⟨hla1,hla2⟩:=hc.last;refine enter Tryz.func9 Tryz.ntmps9 rfl rfl fun a (ha : Has a 85 [(0,_)])=>?_;refine wp_seq_k fun K1 hK1=>?_;refine wp_region_lit ?_;refine pAlloc (zs:=[.int .i64 0,.int .i64 0,.int .i64 0,.int .i64 0,.int .i64 0,.slice none 0 0,.slice none 0 0,.slice none 0 0,.int .i64 0]) ha Tryz.zeroValue37 rfl hs rfl fun bo w hs a ha=>?_;refine pZ ?_;refine hK1 _ _ ?_;refine wp_seq_k fun K2 hK2=>?_;refine wp_block ?_;refine wp_seq_k fun K3 hK3=>?_;refine wp_region_lit ?_;refine pY ha (yMove rfl) fun a ha=>?_;refine pC ha (nCall Tryz.call21 rfl) rfl (CNone_c hc.id hs pk1) ?_;rintro v w ⟨rfl,hs⟩ a ha;refine pY ha (yAssign rfl) fun a ha=>?_;refine pZ ?_;refine hK3 _ _ ?_;refine cFalse ha rfl ?_;refine wp_seq_k fun K4 hK4=>?_;refine wp_region_lit ?_;refine pY ha (yMove rfl) fun a ha=>?_;refine pY ha (yNilP rfl) fun a ha=>?_;refine pY ha (yFieldA Tryz.runUnderlying61 rfl Tryz.sizeOf4 rfl rfl) fun a ha=>?_;refine pY ha (yLoadB Tryz.isAgg4 hs rfl pk1 rfl) fun a ha=>?_;refine pY ha (yNot rfl) fun a ha=>?_;refine pY ha (yAssign rfl) fun a ha=>?_;refine pZ ?_;refine hK4 _ _ ?_;refine cSplit ha rfl (fun hc8=>?_) (fun hc8=>?_)
  · refine wp_seq_k fun K5 hK5=>?_;refine wp_region_lit ?_;refine pY ha (yMove rfl) fun a ha=>?_;refine pY ha (yNilP rfl) fun a ha=>?_;refine pY ha (yFieldA Tryz.runUnderlying61 rfl Tryz.sizeOf3 rfl rfl) fun a ha=>?_;refine pY ha (yLoadB Tryz.isAgg3 hs rfl pk1 rfl) fun a ha=>?_;refine pY ha (bldClO37_0_1 rfl rfl) fun a ha=>?_;refine pStoreA ha Tryz.sizeOf37 hs rfl rfl pk0 rfl rfl rfl fun w hs=>?_;refine pZ ?_;refine hK5 _ _ ?_;refine wp_ret ?_;show bodyPost Tryz.prog Tryz.f9 _ .ret _ _;refine retC rfl ha rfl Tryz.isAgg37 Tryz.sizeOf37 hs pk0 rfl ?_
    have hw : q.welcome = false:=by simpa using hc8
    have hM : cOutM q = { noM with kind:=1,client:=q.id }:=by unfold cOutM; rw [if_pos hw]
    have hO : cOut q = q:=by unfold cOut cOutK; rw [if_pos hw]; rfl
    rw [hM,hO];exact ⟨_,rfl,((hs.cli_shut (bt:=bt) (bm:=bm) (o:=o) (c:=q) (bc:=bc) pk1 pk1 pk1 pk1 pk1).msg_none 1 q.id 0 0 0 0).to (.cons .here (.cons .here (by repeat first | exact .refl | refine .skip ?_)))⟩
  · refine wp_seq_k fun K6 hK6=>?_;refine cutC (fun a w=>Has a 85 [(19,.bool (decide (q.l.length = 0∨q.told = true∨q.behind = true))),(0,.pointer (some ⟨bc,0,none⟩)),(2,.pointer (some ⟨bo,0,none⟩))]∧Sep W w (.blk bo 37 [.int .i64 0,.int .i64 0,.int .i64 0,.int .i64 0,.int .i64 0,.slice none 0 0,.slice none 0 0,.slice none 0 0,.int .i64 0]::.blk bc 61 (cliV q bt (.slice A q.l.length n) (.slice A' q.gone.length n'))::.blk bt 81 [.map (some bm)]::.mpN bm q.base::.pl o 66 (.slice A q.l.length n) q.l::.ol kPnd 47 (.slice A' q.gone.length n') q.gone::r)) ?_ ?_
    · refine wp_region_lit ?_;refine pY ha (yMove rfl) fun a ha=>?_;refine pY ha (yNilP rfl) fun a ha=>?_;refine pY ha (yFieldA Tryz.runUnderlying61 rfl Tryz.sizeOf59 rfl rfl) fun a ha=>?_;refine pY ha (yLoadB Tryz.isAgg59 hs rfl pk1 rfl) fun a ha=>?_;refine pY ha (yLenS Tryz.runUnderlying59 rfl) fun a ha=>?_;refine pY ha (yEql rfl rfl) fun a ha=>?_;refine pY ha (yMove rfl) fun a ha=>?_;refine gDec (t:=26) ha rfl (fun hg6 hp6=>?_) (fun hg6 hp6=>?_)
      · rw [hg6] at ha;refine gOn ha ?_;refine pY ha (yMove rfl) fun a ha=>?_;refine gOn ha ?_;refine pY ha (yNilP rfl) fun a ha=>?_;refine gOn ha ?_;refine pY ha (yFieldA Tryz.runUnderlying61 rfl Tryz.sizeOf4 rfl rfl) fun a ha=>?_;refine gOn ha ?_;refine pY ha (yLoadB Tryz.isAgg4 hs rfl pk1 rfl) fun a ha=>?_;refine pY ha (yPickF rfl rfl) fun a ha=>?_;refine pY ha (yMove rfl) fun a ha=>?_;refine gSplit (t:=32) ha rfl (fun hg12=>?_) (fun hg12=>?_)
        · rw [hg12] at ha;refine gOn ha ?_;refine pY ha (yMove rfl) fun a ha=>?_;refine gOn ha ?_;refine pY ha (yNilP rfl) fun a ha=>?_;refine gOn ha ?_;refine pY ha (yFieldA Tryz.runUnderlying61 rfl Tryz.sizeOf4 rfl rfl) fun a ha=>?_;refine gOn ha ?_;refine pY ha (yLoadB Tryz.isAgg4 hs rfl pk1 rfl) fun a ha=>?_;refine pY ha (yPickF rfl rfl) fun a ha=>?_;refine pY ha (yAssign rfl) fun a ha=>?_;refine pZ ⟨rfl,?_⟩;refine ⟨has3 ha ?_ rfl rfl,hs⟩;refine congrArg (fun b=>some (Value.bool b)) ?_;rw [Bool.eq_iff_iff]
          simp_all
        · rw [hg12] at ha;refine gOff ha fun a ha=>?_;refine gOff ha fun a ha=>?_;refine gOff ha fun a ha=>?_;refine gOff ha fun a ha=>?_;refine pY ha (yPickT rfl rfl) fun a ha=>?_;refine pY ha (yAssign rfl) fun a ha=>?_;refine pZ ⟨rfl,?_⟩;refine ⟨has3 ha ?_ rfl rfl,hs⟩;refine congrArg (fun b=>some (Value.bool b)) ?_;rw [Bool.eq_iff_iff]
          simp_all
      · rw [hg6] at ha;refine gOff ha fun a ha=>?_;refine gOff ha fun a ha=>?_;refine gOff ha fun a ha=>?_;refine gOff ha fun a ha=>?_;refine pY ha (yPickT rfl rfl) fun a ha=>?_;refine pY ha (yMove rfl) fun a ha=>?_;refine gOff ha fun a ha=>?_;refine gOff ha fun a ha=>?_;refine gOff ha fun a ha=>?_;refine gOff ha fun a ha=>?_;refine pY ha (yPickT rfl rfl) fun a ha=>?_;refine pY ha (yAssign rfl) fun a ha=>?_;refine pZ ⟨rfl,?_⟩;refine ⟨has3 ha ?_ rfl rfl,hs⟩;refine congrArg (fun b=>some (Value.bool b)) ?_;rw [Bool.eq_iff_iff]
        simp_all
    rintro a w ⟨ha,hs⟩;refine hK6 _ _ ?_;refine cDec ha rfl (fun hc19=>?_) (fun hc19=>?_)
    · refine wp_seq_k fun K7 hK7=>?_;refine dStart (fun w=>Sep W w _) [9] 1023 511 (by kernel_rfl) (by kernel_rfl) rfl (hs.drew) ?_
      have hs:=Sep.drew hs
      generalize World.drew _ = w at hs ⊢;refine dP 0 1 rfl ha (fun _=>yMove rfl) fun a ha=>?_;refine dP 1 3 rfl ha (fun _=>yNilP rfl) fun a ha=>?_;refine dP 2 7 rfl ha (fun _=>yFieldA Tryz.runUnderlying61 rfl Tryz.sizeOf3 rfl rfl) fun a ha=>?_;refine dT 3 15 rfl ha (fun _ hs=>yLoadB Tryz.isAgg3 hs rfl pk1 rfl) (hs) fun a ha=>?_;refine dP 4 31 rfl ha (fun _=>yMove rfl) fun a ha=>?_;refine dP 5 63 rfl ha (fun _=>yNilP rfl) fun a ha=>?_;refine dP 6 127 rfl ha (fun _=>yFieldA Tryz.runUnderlying61 rfl Tryz.sizeOf3 rfl rfl) fun a ha=>?_;refine dT 7 255 rfl ha (fun _ hs=>yLoadB Tryz.isAgg3 hs rfl pk1 rfl) (hs) fun a ha=>?_;refine dP 8 511 rfl ha (fun _=>bldClO37_0_1_3 rfl rfl rfl) fun a ha=>?_;refine dStoreAl 9 1023 rfl (by kernel_rfl) rfl ha won0 Tryz.sizeOf37 hs rfl rfl pk0 rfl rfl rfl fun w hs=>?_;refine dZ (by kernel_rfl) ?_;refine hK7 _ _ ?_;refine wp_ret ?_;show bodyPost Tryz.prog Tryz.f9 _ .ret _ _;refine retC rfl ha rfl Tryz.isAgg37 Tryz.sizeOf37 hs pk0 rfl ?_
      have hw : ¬ q.welcome = false:=by simpa using hc8
      have hM : cOutM q = { noM with kind:=3,client:=q.id,rev:=q.rev }:=by unfold cOutM; rw [if_neg hw,if_pos hc19]
      have hO : cOut q = q:=by unfold cOut cOutK; rw [if_neg hw,if_pos hc19]; rfl
      rw [hM,hO];exact ⟨_,rfl,((hs.cli_shut (bt:=bt) (bm:=bm) (o:=o) (c:=q) (bc:=bc) pk1 pk1 pk1 pk1 pk1).msg_none 3 q.id 0 q.rev 0 0).to (.cons .here (.cons .here (by repeat first | exact .refl | refine .skip ?_)))⟩
    · refine wp_skip ?_;refine hK2 _ _ ?_;refine wp_seq_k fun K8 hK8=>?_;refine wp_region_lit ?_;refine pY ha (yMove rfl) fun a ha=>?_;refine pY ha (yNilP rfl) fun a ha=>?_;refine pY ha (yFieldA Tryz.runUnderlying61 rfl Tryz.sizeOf4 rfl rfl) fun a ha=>?_;refine pStore ha Tryz.sizeOf4 hs rfl rfl rfl rfl pk1 rfl fun w hs=>?_;refine pZ ?_;refine hK8 _ _ ?_;refine wp_seq_k fun K9 hK9=>?_
      have hla3 : 0≤({ q with under:=true } : Cli).last:=hla1
      have hla4 : ({ q with under:=true } : Cli).last≤4000000000000000000:=hla2
      refine dStart (fun w=>∃ rs,Sep W w (.blk bc 61 (cliV { q with under:=true } bt (.slice A q.l.length n) (.slice A' q.gone.length n'))::rs)) [15] 65535 32767 (by kernel_rfl) (by kernel_rfl) rfl (⟨_,hs.drew.pick pk0⟩) ?_
      have hs:=Sep.drew hs
      generalize World.drew _ = w at hs ⊢;refine dP 0 1 rfl ha (fun _=>yMove rfl) fun a ha=>?_;refine dP 1 3 rfl ha (fun _=>yNilP rfl) fun a ha=>?_;refine dP 2 7 rfl ha (fun _=>yFieldA Tryz.runUnderlying61 rfl Tryz.sizeOf3 rfl rfl) fun a ha=>?_;refine dT 3 15 rfl ha (fun _ ⟨rs,hs⟩=>yLoadB Tryz.isAgg3 hs rfl pk0 rfl) (⟨_,hs.pick pk0⟩) fun a ha=>?_;refine dP 4 31 rfl ha (fun _=>yMove rfl) fun a ha=>?_;refine dP 5 63 rfl ha (fun _=>yNilP rfl) fun a ha=>?_;refine dP 6 127 rfl ha (fun _=>yFieldA Tryz.runUnderlying61 rfl Tryz.sizeOf3 rfl rfl) fun a ha=>?_;refine dT 7 255 rfl ha (fun _ ⟨rs,hs⟩=>yLoadB Tryz.isAgg3 hs rfl pk0 rfl) (⟨_,hs.pick pk0⟩) fun a ha=>?_;refine dP 8 511 rfl ha (fun _=>yAddN rfl rfl ⟨by omega,by omega⟩) fun a ha=>?_;refine dP 9 1023 rfl ha (fun _=>yMove rfl) fun a ha=>?_;refine dP 10 2047 rfl ha (fun _=>yNilP rfl) fun a ha=>?_;refine dP 11 4095 rfl ha (fun _=>yFieldA Tryz.runUnderlying61 rfl Tryz.sizeOf3 rfl rfl) fun a ha=>?_;refine dT 12 8191 rfl ha (fun _ ⟨rs,hs⟩=>yLoadB Tryz.isAgg3 hs rfl pk0 rfl) (⟨_,hs.pick pk0⟩) fun a ha=>?_;refine dP 13 16383 rfl ha (fun _=>bldClO37_0_1_2_3 rfl rfl rfl rfl) fun a ha=>?_;refine dAlloc (n:=0) 14 32767 rfl (by kernel_rfl) rfl (zs:=[.int .i64 0,.int .i64 0,.int .i64 0,.int .i64 0,.int .i64 0,.slice none 0 0,.slice none 0 0,.slice none 0 0,.int .i64 0]) ha won0 Tryz.zeroValue37 rfl hs rfl (fun _ _ hs=>⟨_,hs.pick pk1⟩) fun bn w hs a ha=>?_;refine dStoreAl 15 65535 rfl (by kernel_rfl) rfl ha won0 Tryz.sizeOf37 hs rfl rfl pk0 rfl rfl rfl fun w hs=>?_;refine dZ (by kernel_rfl) ?_;refine hK9 _ _ ?_;refine wp_seq_k fun K10 hK10=>?_;refine wp_seq_k fun K11 hK11=>?_;obtain ⟨x,hx⟩ : ∃ x,q.l[0]? = some x:=⟨_,List.getElem?_eq_getElem (by omega)⟩
      have hmem:=List.mem_of_getElem? hx
      refine wp_region_lit ?_;refine pY ha (yMove rfl) fun a ha=>?_;refine pY ha (yNilP rfl) fun a ha=>?_;refine pY ha (yFieldA Tryz.runUnderlying61 rfl Tryz.sizeOf59 rfl rfl) fun a ha=>?_;refine pY ha (yLoadB Tryz.isAgg59 hs rfl pk1 rfl) fun a ha=>?_;obtain ⟨b0,off,A2,n2,c2,rfl,hcell,hs⟩:=hs.pl_at pk5 hx;refine pY ha (yIndexA Tryz.runUnderlying59 Tryz.sizeOf66 rfl rfl (by omega) (by omega)) fun a ha=>?_;refine pY ha (yFieldA Tryz.runUnderlying66 rfl Tryz.sizeOf25 rfl rfl) fun a ha=>?_;refine pY ha (yLoad Tryz.isAgg25 rfl (hcell 1 _ rfl)) fun a ha=>?_;refine pY ha (yFieldA Tryz.runUnderlying37 rfl Tryz.sizeOf3 rfl rfl) fun a ha=>?_;refine pStore ha Tryz.sizeOf3 hs rfl rfl rfl rfl pk1 rfl fun w hs=>?_;refine pZ ?_;refine hK11 _ _ ?_;refine wp_seq_k fun K12 hK12=>?_;refine wp_region_lit ?_;refine pY ha (yFieldA Tryz.runUnderlying37 rfl Tryz.sizeOf3 rfl rfl) fun a ha=>?_;refine pY ha (yLoadB Tryz.isAgg3 hs rfl pk0 rfl) fun a ha=>?_;refine pY ha (yEql rfl rfl) fun a ha=>?_;refine pZ ?_;refine hK12 _ _ ?_;refine cDec ha rfl (fun hc74=>?_) (fun hc74=>?_)
      · refine wp_region_lit ?_;refine pY ha (yMove rfl) fun a ha=>?_;refine pY ha (yNilP rfl) fun a ha=>?_;refine pY ha (yFieldA Tryz.runUnderlying61 rfl Tryz.sizeOf59 rfl rfl) fun a ha=>?_;refine pY ha (yLoadB Tryz.isAgg59 hs rfl pk2 rfl) fun a ha=>?_;obtain ⟨b1,off1,A3,n3,c3,e,hcell,hs⟩:=hs.pl_at pk6 hx;simp only [Option.some.injEq,Addr.mk.injEq] at e;obtain ⟨rfl,rfl,_⟩:=e;refine pY ha (yIndexA Tryz.runUnderlying59 Tryz.sizeOf66 rfl rfl (by omega) (by omega)) fun a ha=>?_;refine pY ha (yFieldA Tryz.runUnderlying66 rfl Tryz.sizeOf33 rfl rfl) fun a ha=>?_;refine pY ha (yLoad Tryz.isAgg33 rfl (hcell 0 _ rfl)) fun a ha=>?_;refine pC ha (nCall Tryz.call23 rfl) rfl (Own_c (xs:=x.acts) hs pk0 (hc.acts x hmem).2 (fun y hy=>((hc.acts x hmem).1 y hy).2.2.1)) ?_;rintro v w ⟨A4,c4,rfl,hs⟩ a ha;refine pY ha (yFieldA Tryz.runUnderlying37 rfl Tryz.sizeOf33 rfl rfl) fun a ha=>?_;refine pStore ha Tryz.sizeOf33 hs rfl rfl rfl rfl pk2 rfl fun w hs=>?_;refine pZ ?_;refine hK10 _ _ ?_;refine wp_seq_k fun K13 hK13=>?_;refine wp_region_lit ?_;refine pY ha (yLoadBA Tryz.isAgg37 Tryz.sizeOf37 hs rfl pk0 rfl) fun a ha=>?_;refine pStoreA ha Tryz.sizeOf37 hs rfl rfl pk5 rfl rfl rfl fun w hs=>?_;refine pZ ?_;refine hK13 _ _ ?_;refine wp_ret ?_;show bodyPost Tryz.prog Tryz.f9 _ .ret _ _;refine retC rfl ha rfl Tryz.isAgg37 Tryz.sizeOf37 hs pk0 rfl ?_
        have hw : ¬ q.welcome = false:=by simpa using hc8
        have hh : headP q = x:=by unfold headP; rw [List.getD_eq_getElem?_getD,hx]; rfl
        have hM : cOutM q = ⟨2,q.id,q.last + 1,q.rev,x.e,x.acts,[],[],0⟩:=by unfold cOutM; rw [if_neg hw,if_neg hc19,hh,if_pos hc74]; rfl
        have hO : cOut q = { q with under:=true }:=by unfold cOut cOutK; rw [if_neg hw,if_neg hc19]; rfl
        rw [hM,hO]
        have hs:=((hs.cli_shut (bt:=bt) (bm:=bm) (o:=o) (c := { q with under:=true }) (bc:=bc) pk5 pk5 pk5 pk5 pk5).rd_nil (d:=kNod)).rd_nil (d:=kCmt)
        have hs:=hs.mk_msg (A:=A4) (n:=x.acts.length) (c:=c4) (A':=none) (n':=0) (c':=0) (B:=none) (m:=0) (d:=0) (x:=⟨2,q.id,q.last + 1,q.rev,x.e,x.acts,[],[],0⟩) pk5 pk0 pk0;exact ⟨_,rfl,hs.to (.cons .here (.cons pk0 (by repeat first | exact .refl | refine .skip ?_)))⟩
      · refine wp_skip ?_;refine hK10 _ _ ?_;refine wp_seq_k fun K14 hK14=>?_;refine wp_region_lit ?_;refine pY ha (yLoadBA Tryz.isAgg37 Tryz.sizeOf37 hs rfl pk0 rfl) fun a ha=>?_;refine pStoreA ha Tryz.sizeOf37 hs rfl rfl pk3 rfl rfl rfl fun w hs=>?_;refine pZ ?_;refine hK14 _ _ ?_;refine wp_ret ?_;show bodyPost Tryz.prog Tryz.f9 _ .ret _ _;refine retC rfl ha rfl Tryz.isAgg37 Tryz.sizeOf37 hs pk0 rfl ?_
        have hw : ¬ q.welcome = false:=by simpa using hc8
        have hh : headP q = x:=by unfold headP; rw [List.getD_eq_getElem?_getD,hx]; rfl
        have hM : cOutM q = ⟨2,q.id,q.last + 1,q.rev,x.e,[],[],[],0⟩:=by unfold cOutM; rw [if_neg hw,if_neg hc19,hh,if_neg hc74]; rfl
        have hO : cOut q = { q with under:=true }:=by unfold cOut cOutK; rw [if_neg hw,if_neg hc19]; rfl
        rw [hM,hO];exact ⟨_,rfl,((hs.cli_shut (bt:=bt) (bm:=bm) (o:=o) (c := { q with under:=true }) (bc:=bc) pk3 pk3 pk3 pk3 pk3).msg_none 2 q.id (q.last + 1) q.rev x.e 0).to (.cons .here (.cons .here (by repeat first | exact .refl | refine .skip ?_)))⟩
end
end Go.Proofs.YtkbbnpjbjakpcaaGreatDoor

set_option linter.unusedVariables false
set_option linter.unusedSimpArgs false
namespace Go.Proofs.YtkbbnpjbjakpcaaGreatDoor
open Go.RowKit Go.Lib Go.Proofs.YtkbbnpjbjakpcaaGreatDoorW.PrintLast
def cWel (q : Cli) (m : Msg) : Cli:=if m.client = q.id∧q.welcome = false then { q with welcome:=true,last:=m.last } else q
section
variable {W w : World} {cs r r2 : List Ch} {o : Bool} {bc : Nat} {q : Cli}
theorem CInW_c (hT : Tabs W) {es : List Value} {m : Msg} (h0 : q.id ≠ 0) (h4 : m.kind = 4) (hm : mM m) (hb : (wMsg m).1.length≤8796093022208) (hs : Sep W w cs) (hk : Pick cs (.cli o bc q) r) (hk2 : Pick r (.el kMsg m es) r2) :
    Calls Tryz.prog 10 #[.pointer (some ⟨bc,0,none⟩),.agg es.toArray] w (Rt fun v w'=>v = .int .i64 (if msgE m = 0 then 0 else 2)∧Sep W w' (.cli o bc (if msgE m = 0 then cWel q m else q)::r)):=by
  have hs:=hs.perm hk.perm
  have hk2 : Pick (.cli o bc q::r) (.el kMsg m es) (.cli o bc q::r2):=.there hk2
  have hs : Sep W w (.el kMsg m es::.cli o bc q::r):=hs.cp hk2
  obtain ⟨A1,n1,c1,A2,n2,c2,A3,n3,c3,rfl,hs⟩:=hs.el_msg .here;obtain ⟨bt,bm,A,n,A',n',hl1,hl2,hs⟩:=hs.cli_open (bc:=bc) (c:=q) (o:=o) (.there (.there (.there (.there .here))));refine enter Tryz.func10 Tryz.ntmps10 rfl rfl fun a (ha : Has a 144 [(0,_),(1,_)])=>?_;refine wp_seq_k fun K1 hK1=>?_;refine wp_region_lit ?_;refine pBox (es:=_) ha rfl rfl hs rfl fun b3 w hs a ha=>?_;refine pY ha (yAssign rfl) fun a ha=>?_;refine pZ ?_;refine hK1 _ _ ?_;refine scopeF 1 99999 ?_;refine wp_seq_k fun K2 hK2=>?_;refine wp_seq_k fun K3 hK3=>?_;refine wp_region_lit ?_;refine pY ha (yMove rfl) fun a ha=>?_;refine pC ha (nCall Tryz.call21 rfl) rfl (CNone_c h0 hs pk1) ?_;rintro v w ⟨rfl,hs⟩ a ha;refine pZ ?_;refine hK3 _ _ ?_;refine cFalse ha rfl ?_;refine wp_skip ?_;refine hK2 _ _ ?_;refine wp_seq_k fun K4 hK4=>?_;refine wp_seq_k fun K5 hK5=>?_;refine wp_region_lit ?_;refine pY ha (yLoadBA Tryz.isAgg37 Tryz.sizeOf37 hs rfl pk0 rfl) fun a ha=>?_;refine pC ha (nCall Tryz.call24 rfl) rfl (MCheck_c hT (x:=m) hm hb hs pk9) ?_;rintro v w ⟨rfl,hs⟩ a ha;refine pY ha (yNeq rfl rfl) fun a ha=>?_;refine pZ ?_;refine hK5 _ _ ?_;refine cNDec ha rfl (fun hc11=>?_) (fun hc11=>?_)
  · refine wp_seq_k fun K6 hK6=>?_;refine wp_region_lit ?_;refine pY ha (yAssign rfl) fun a ha=>?_;refine pZ ?_;refine hK6 _ _ ?_;refine wp_ret ?_;show bodyPost Tryz.prog Tryz.f10 _ .ret _ _;refine ret1 rfl ha rfl ?_;rw [if_neg hc11,if_neg hc11];exact ⟨rfl,(hs.cli_shut (bt:=bt) (bm:=bm) (o:=o) (c:=q) (bc:=bc) pk1 pk1 pk1 pk1 pk1).to (.cons .here (by repeat first | exact .refl | refine .skip ?_))⟩
  · refine wp_skip ?_;refine hK4 _ _ ?_;refine wp_seq_k fun K7 hK7=>?_;refine wp_seq_k fun K8 hK8=>?_;refine wp_region_lit ?_;refine pY ha (yFieldA Tryz.runUnderlying37 rfl Tryz.sizeOf3 rfl rfl) fun a ha=>?_;refine pY ha (yLoadB Tryz.isAgg3 hs rfl pk0 rfl) fun a ha=>?_;refine pZ ?_;refine hK8 _ _ ?_;refine wp_block ?_;refine wp_seq_k fun K9 hK9=>?_;refine wp_region_lit ?_;refine pY ha (yEql rfl rfl) fun a ha=>?_;refine pY ha (yAssign rfl) fun a ha=>?_;refine pZ ?_;refine hK9 _ _ ?_;refine cDec ha rfl (fun hc14=>?_) (fun hc14=>?_)
    · refine wp_seq_k fun K10 hK10=>?_;refine cutC (fun a w=>Has a 144 [(29,.bool (decide (m.client = q.id∧q.welcome = false))),(0,.pointer (some ⟨bc,0,none⟩)),(3,.pointer (some ⟨b3,0,none⟩)),(4,.int .i64 0)]∧Sep W w (.blk b3 37 [.int .i64 m.kind,.int .i64 m.client,.int .i64 m.seq,.int .i64 m.rev,.int .i64 m.code,.slice A1 n1 c1,.slice A2 n2 c2,.slice A3 n3 c3,.int .i64 m.last]::.blk bc 61 (cliV q bt (.slice A q.l.length n) (.slice A' q.gone.length n'))::.blk bt 81 [.map (some bm)]::.mpN bm q.base::.pl o 66 (.slice A q.l.length n) q.l::.ol kPnd 47 (.slice A' q.gone.length n') q.gone::r)) ?_ ?_
      · refine dStart (fun w=>Sep W w _) [] 16383 16383 (by kernel_rfl) (by kernel_rfl) rfl (hs.drew) ?_
        have hs:=Sep.drew hs
        generalize World.drew _ = w at hs ⊢;refine dP 0 1 rfl ha (fun _=>yFieldA Tryz.runUnderlying37 rfl Tryz.sizeOf3 rfl rfl) fun a ha=>?_;refine dT 1 3 rfl ha (fun _ hs=>yLoadB Tryz.isAgg3 hs rfl pk0 rfl) (hs) fun a ha=>?_;refine dP 2 7 rfl ha (fun _=>yMove rfl) fun a ha=>?_;refine dP 3 15 rfl ha (fun _=>yNilP rfl) fun a ha=>?_;refine dP 4 31 rfl ha (fun _=>yFieldA Tryz.runUnderlying61 rfl Tryz.sizeOf3 rfl rfl) fun a ha=>?_;refine dT 5 63 rfl ha (fun _ hs=>yLoadB Tryz.isAgg3 hs rfl pk1 rfl) (hs) fun a ha=>?_;refine dP 6 127 rfl ha (fun _=>yEql rfl rfl) fun a ha=>?_;refine dP 7 255 rfl ha (fun _=>yMove rfl) fun a ha=>?_;refine gDec (t:=23) ha rfl (fun hg7 hp7=>?_) (fun hg7 hp7=>?_)
        · rw [hg7] at ha;refine dOff 8 511 rfl ha fun a ha=>?_;refine dOff 9 1023 rfl ha fun a ha=>?_;refine dOff 10 2047 rfl ha fun a ha=>?_;refine dOff 11 4095 rfl ha fun a ha=>?_;refine dOff 12 8191 rfl ha fun a ha=>?_;refine dP 13 16383 rfl ha (fun _=>yPickF rfl rfl) fun a ha=>?_;refine dZ (by kernel_rfl) ?_;refine ⟨rfl,?_⟩;refine ⟨has4 ha ?_ rfl rfl rfl,(by exact hs.to (by repeat first | exact Picks.refl | refine Picks.cons (by first | exact pk0 | exact pk1 | exact pk2 | exact pk3 | exact pk4 | exact pk5 | exact pk6 | exact pk7 | exact pk8 | exact pk9 | exact pk10 | exact pk11 | exact pk12 | exact pk13 | exact pk14 | exact pk15 | exact pk16 | exact pk17 | exact pk18 | exact pk19 | exact pk20 | exact pk21 | exact pk22 | exact pk23 | exact pk24 | exact pk25 | exact pk26 | exact pk27 | exact pk28 | exact pk29 | exact pk30 | exact pk31) ?_ | refine Picks.skip ?_))⟩;refine congrArg (fun b=>some (Value.bool b)) ?_;rw [Bool.eq_iff_iff]
          simp_all
        · rw [hg7] at ha;refine dP 8 511 rfl ha (fun _=>yMove rfl) fun a ha=>?_;refine dP 9 1023 rfl ha (fun _=>yNilP rfl) fun a ha=>?_;refine dP 10 2047 rfl ha (fun _=>yFieldA Tryz.runUnderlying61 rfl Tryz.sizeOf4 rfl rfl) fun a ha=>?_;refine dT 11 4095 rfl ha (fun _ hs=>yLoadB Tryz.isAgg4 hs rfl pk1 rfl) (hs) fun a ha=>?_;refine dP 12 8191 rfl ha (fun _=>yNot rfl) fun a ha=>?_;refine dP 13 16383 rfl ha (fun _=>yPickT rfl rfl) fun a ha=>?_;refine dZ (by kernel_rfl) ?_;refine ⟨rfl,?_⟩;refine ⟨has4 ha ?_ rfl rfl rfl,(by exact hs.to (by repeat first | exact Picks.refl | refine Picks.cons (by first | exact pk0 | exact pk1 | exact pk2 | exact pk3 | exact pk4 | exact pk5 | exact pk6 | exact pk7 | exact pk8 | exact pk9 | exact pk10 | exact pk11 | exact pk12 | exact pk13 | exact pk14 | exact pk15 | exact pk16 | exact pk17 | exact pk18 | exact pk19 | exact pk20 | exact pk21 | exact pk22 | exact pk23 | exact pk24 | exact pk25 | exact pk26 | exact pk27 | exact pk28 | exact pk29 | exact pk30 | exact pk31) ?_ | refine Picks.skip ?_))⟩;refine congrArg (fun b=>some (Value.bool b)) ?_;rw [Bool.eq_iff_iff]
          simp_all
      rintro a w ⟨ha,hs⟩;refine hK10 _ _ ?_;refine cDec ha rfl (fun hc29=>?_) (fun hc29=>?_)
      · refine dStart (fun w=>∃ rs,Sep W w (.blk b3 37 [.int .i64 m.kind,.int .i64 m.client,.int .i64 m.seq,.int .i64 m.rev,.int .i64 m.code,.slice A1 n1 c1,.slice A2 n2 c2,.slice A3 n3 c3,.int .i64 m.last]::rs)) [9] 1023 511 (by kernel_rfl) (by kernel_rfl) rfl (⟨_,hs.drew.pick pk0⟩) ?_
        have hs:=Sep.drew hs
        generalize World.drew _ = w at hs ⊢;refine dP 0 1 rfl ha (fun _=>yMove rfl) fun a ha=>?_;refine dP 1 3 rfl ha (fun _=>yMove rfl) fun a ha=>?_;refine dP 2 7 rfl ha (fun _=>yFieldA Tryz.runUnderlying37 rfl Tryz.sizeOf3 rfl rfl) fun a ha=>?_;refine dT 3 15 rfl ha (fun _ ⟨rs,hs⟩=>yLoadB Tryz.isAgg3 hs rfl pk0 rfl) (⟨_,hs.pick pk0⟩) fun a ha=>?_;refine dP 4 31 rfl ha (fun _=>yNilP rfl) fun a ha=>?_;refine dP 5 63 rfl ha (fun _=>yFieldA Tryz.runUnderlying61 rfl Tryz.sizeOf4 rfl rfl) fun a ha=>?_;refine dStore 6 127 rfl (by kernel_rfl) rfl ha won0 Tryz.sizeOf4 hs rfl rfl rfl rfl pk1 rfl (fun _ hs=>⟨_,hs.pick pk1⟩) fun w hs=>?_;refine dP 7 255 rfl ha (fun _=>yNilP rfl) fun a ha=>?_;refine dP 8 511 rfl ha (fun _=>yFieldA Tryz.runUnderlying61 rfl Tryz.sizeOf3 rfl rfl) fun a ha=>?_;refine dStorel 9 1023 rfl (by kernel_rfl) rfl ha won0 Tryz.sizeOf3 hs rfl rfl rfl rfl pk0 rfl fun w hs=>?_;refine dZ (by kernel_rfl) ?_;refine hK7 _ _ ?_;refine wp_seq_k fun K11 hK11=>?_;refine wp_label ?_;refine hK11 _ _ ?_;refine wp_seq_k fun K12 hK12=>?_;refine wp_region_lit ?_;refine pY ha (yMove rfl) fun a ha=>?_;refine pY ha (yAssign rfl) fun a ha=>?_;refine pZ ?_;refine hK12 _ _ ?_;refine wp_ret ?_;show bodyPost Tryz.prog Tryz.f10 _ .ret _ _;refine ret1 rfl ha rfl ?_;rw [if_pos hc11,if_pos hc11,show cWel q m = { q with welcome:=true,last:=m.last } from if_pos hc29];exact ⟨rfl,(hs.cli_shut (bt:=bt) (bm:=bm) (o:=o) (c := { q with welcome:=true,last:=m.last }) (bc:=bc) pk0 pk1 pk1 pk1 pk1).to (.cons .here (by repeat first | exact .refl | refine .skip ?_))⟩
      · refine wp_skip ?_;refine hK7 _ _ ?_;refine wp_seq_k fun K13 hK13=>?_;refine wp_label ?_;refine hK13 _ _ ?_;refine wp_seq_k fun K14 hK14=>?_;refine wp_region_lit ?_;refine pY ha (yMove rfl) fun a ha=>?_;refine pY ha (yAssign rfl) fun a ha=>?_;refine pZ ?_;refine hK14 _ _ ?_;refine wp_ret ?_;show bodyPost Tryz.prog Tryz.f10 _ .ret _ _;refine ret1 rfl ha rfl ?_;rw [if_pos hc11,if_pos hc11,show cWel q m = q from if_neg hc29];exact ⟨rfl,(hs.cli_shut (bt:=bt) (bm:=bm) (o:=o) (c:=q) (bc:=bc) pk1 pk1 pk1 pk1 pk1).to (.cons .here (by repeat first | exact .refl | refine .skip ?_))⟩
    · exact absurd h4 hc14
end
end Go.Proofs.YtkbbnpjbjakpcaaGreatDoor

set_option linter.unusedVariables false
set_option linter.unusedSimpArgs false
namespace Go.Proofs.YtkbbnpjbjakpcaaGreatDoor
open Go.RowKit Go.Lib Go.Proofs.YtkbbnpjbjakpcaaGreatDoorW.PrintLast
theorem bldClG47_0_1 {w : World} {l : List (Nat × Value)} {T : TypeId} {x0 x1 : Operand} {v0 : Value} (h0 : ev l x0 = some v0) {v1 : Value} (h1 : ev l x1 = some v1) (o0 : v0.cells = #[v0]:=by rfl) (o1 : v1.cells = #[v1]:=by rfl) : Yl Tryz.prog w l (.build 47 #[(0,x0),(1,x1)]) T (.agg #[v0,v1]):=fun ρ o h ho _=>by
  have hf : Instr.fill (fun i=>([(0,1),(1,1)] : List (Nat × Nat))[i]?) #[.slice none 0 0,.int .i64 0] [(0,v0),(1,v1)] = some #[v0,v1]:=by
    refine (fill_v o0 rfl (by simp)).trans ?_;refine (fill_v o1 rfl (by simp)).trans ?_
    simp [Instr.fill]
  unfold execOp; rw [ho]
  simp [h _ _ h0,h _ _ h1,Instr.build,Tryz.zeroValue47,Tryz.runUnderlying47,Tryz.sizeOf3,Tryz.sizeOf33,agg_cells,hf]
theorem bslClG44_1_0 {w : World} {l : List (Nat × Value)} {T : TypeId} {x0 : Operand} {c0 : List Value} (h0 : ev l x0 = some (.agg c0.toArray)) (n0 : c0.length = 2:=by rfl) : Mk Tryz.prog w l (.buildSlice 44 1 #[(0,x0)]) T 47 1 c0:=fun ρ o h ho _=>by
  unfold execOp; rw [ho];exact mk1 (P:=Tryz.prog) w Tryz.runUnderlying44 Tryz.sizeOf47 Tryz.zeroValue47 (by decide) (by decide) n0 (h _ _ h0)
theorem elClG44 : ElemT Tryz.prog 44 47 2 32:=elemT_mk Tryz.underlying44 rfl (by kernel_rfl)
def mineB (q : Cli) (c s : Int) : Bool:=decide (c = q.id) && (decide (s = q.last + 1) && decide (0 < q.l.length))
def goesC (q : Cli) : Cli := { q with l:=q.l.drop 1,under:=false,told:=false,last:=q.last + 1 }
def lossK (p : Pnd) (code : Int) : Int:=if p.e ≠ 0 then p.e else code
def losesC (q : Cli) (p : Pnd) (code : Int) : Cli := { q with gone:=q.gone++[⟨p.acts,lossK p code⟩] }
section
variable {W w : World} {cs r r2 : List Ch} {o : Bool} {bc : Nat} {q : Cli}
theorem Sep.two {a b : Ch} (h : Sep W w cs) (h1 : Pick cs a r) (h2 : Pick r b r2) : Sep W w (a::b::r2):=h.perm (h1.perm.trans (h2.perm.cons _))
theorem Sep.three {a b c : Ch} {r3 : List Ch} (h : Sep W w cs) (h1 : Pick cs a r) (h2 : Pick r b r2) (h3 : Pick r2 c r3) : Sep W w (a::b::c::r3):=h.perm (h1.perm.trans ((h2.perm.trans (h3.perm.cons _)).cons _))
theorem Sep.rd_pnd {A : Option Addr} {n c i : Nat} {xs : List Pnd} {x : Pnd} (h : Sep W w cs) (hk : Pick cs (.rd kPnd (.slice A n c) xs) r) (hx : xs[i]? = some x) :
    ∃ b off A' n' c',A = some ⟨b,off,none⟩∧Sep W w (.at b (off + i * 2) [.slice A' n' c',.int .i64 x.e]::.rd kActn (.slice A' n' c') x.acts::cs):=by
  obtain ⟨b,off,c',es,he,hl,hs⟩:=h.rd_at hk hx;simp only [Value.slice.injEq] at he;obtain ⟨A',n',c2,hes⟩ : ∃ A' n' c2,es = [.slice A' n' c2,.int .i64 x.e]:=hs.know (.there .here) (fun Z _ ⟨A,n,c,e,_⟩=>⟨A,n,c,e⟩);subst hes
  have h2:=hs.perm (List.Perm.swap _ _ _)
  have h3:=h2.imp (x:=.rd kActn (.slice A' n' c2) x.acts) (fun Z _ _ hp=>by
    obtain ⟨A,n,c,e,hsl⟩:=hp;simp only [List.cons.injEq,Value.slice.injEq] at e;obtain ⟨⟨rfl,rfl,rfl⟩,_⟩:=e
    exact hsl)
  exact ⟨b,off,A',n',c2,he.1,h3.perm (List.Perm.swap _ _ _)⟩
theorem Sep.pl_rd {T : TypeId} {v : Value} {l : List Pnd} (h : Sep W w cs) (hk : Pick cs (.pl o T v l) r) : Sep W w (.rd kPnd v l::r):=by
  unfold Ch.pl at hk
  split at hk
  · exact h.ol_rd hk
  · exact h.pick hk
/-- What is pending is for reading alone. -/
theorem Sep.cli_weak (h : Sep W w cs) (hk : Pick cs (.cli o bc q) r) : Sep W w (.cli false bc q::r):=by
  obtain ⟨bt,bm,A,n,A',n',hl1,hl2,hs⟩:=h.cli_open hk;have hs:=hs.pl_rd (.there (.there (.there .here)));exact hs.cli_shut (bt:=bt) (bm:=bm) (o:=false) (c:=q) (bc:=bc) (.there .here) (.there .here) (.there .here) .here .here
theorem CMine_c {bt : Nat} {A : Option Addr} {n : Nat} {vg : Value} (hla : 0≤q.last∧q.last≤4000000000000000000) (c s : Int) (hs : Sep W w cs) (hk : Pick cs (.blk bc 61 (cliV q bt (.slice A q.l.length n) vg)) r) :
    Calls Tryz.prog 26 #[.pointer (some ⟨bc,0,none⟩),.int .i64 c,.int .i64 s] w (Rt fun v w'=>v = .bool (mineB q c s)∧Sep W w' (.blk bc 61 (cliV q bt (.slice A q.l.length n) vg)::r)):=by
  have hs:=hs.pick hk;obtain ⟨hla1,hla2⟩:=hla;refine enter Tryz.func26 Tryz.ntmps26 rfl rfl fun a (ha : Has a 30 [(0,_),(1,_),(2,_)])=>?_;refine wp_seq_k fun K1 hK1=>?_;refine wp_region_lit ?_;refine pY ha (yAssign rfl) fun a ha=>?_;refine pZ ?_;refine hK1 _ _ ?_;refine wp_seq_k fun K2 hK2=>?_;refine wp_region_lit ?_;refine pY ha (yMove rfl) fun a ha=>?_;refine pY ha (yMove rfl) fun a ha=>?_;refine pY ha (yNilP rfl) fun a ha=>?_;refine pY ha (yFieldA Tryz.runUnderlying61 rfl Tryz.sizeOf3 rfl rfl) fun a ha=>?_;refine pY ha (yLoadB Tryz.isAgg3 hs rfl pk0 rfl) fun a ha=>?_;refine pY ha (yEql rfl rfl) fun a ha=>?_;refine pY ha (yMove rfl) fun a ha=>?_;refine gDec (t:=13) ha rfl (fun hg6 hp6=>?_) (fun hg6 hp6=>?_)
  · rw [hg6] at ha;refine gOff ha fun a ha=>?_;refine gOff ha fun a ha=>?_;refine gOff ha fun a ha=>?_;refine gOff ha fun a ha=>?_;refine gOff ha fun a ha=>?_;refine gOff ha fun a ha=>?_;refine gOff ha fun a ha=>?_;refine pY ha (yPickF rfl rfl) fun a ha=>?_;refine pY ha (yMove rfl) fun a ha=>?_;refine gOff ha fun a ha=>?_;refine gOff ha fun a ha=>?_;refine gOff ha fun a ha=>?_;refine gOff ha fun a ha=>?_;refine gOff ha fun a ha=>?_;refine gOff ha fun a ha=>?_;refine pY ha (yPickF rfl rfl) fun a ha=>?_;refine pY ha (yAssign rfl) fun a ha=>?_;refine pZ ?_;refine hK2 _ _ ?_;refine wp_ret ?_;show bodyPost Tryz.prog Tryz.f26 _ .ret _ _;refine ret1 rfl ha rfl ?_;refine ⟨congrArg Value.bool ?_,hs⟩;unfold mineB
    (rw [hg6]; rfl)
  · rw [hg6] at ha;refine gOn ha ?_;refine pY ha (yMove rfl) fun a ha=>?_;refine gOn ha ?_;refine pY ha (yMove rfl) fun a ha=>?_;refine gOn ha ?_;refine pY ha (yNilP rfl) fun a ha=>?_;refine gOn ha ?_;refine pY ha (yFieldA Tryz.runUnderlying61 rfl Tryz.sizeOf3 rfl rfl) fun a ha=>?_;refine gOn ha ?_;refine pY ha (yLoadB Tryz.isAgg3 hs rfl pk0 rfl) fun a ha=>?_;refine gOn ha ?_;refine pY ha (yAddN rfl rfl ⟨by omega,by omega⟩) fun a ha=>?_;refine gOn ha ?_;refine pY ha (yEql rfl rfl) fun a ha=>?_;refine pY ha (yPickT rfl rfl) fun a ha=>?_;refine pY ha (yMove rfl) fun a ha=>?_;refine gSplit (t:=22) ha rfl (fun hg15=>?_) (fun hg15=>?_)
    · rw [hg15] at ha;refine gOff ha fun a ha=>?_;refine gOff ha fun a ha=>?_;refine gOff ha fun a ha=>?_;refine gOff ha fun a ha=>?_;refine gOff ha fun a ha=>?_;refine gOff ha fun a ha=>?_;refine pY ha (yPickF rfl rfl) fun a ha=>?_;refine pY ha (yAssign rfl) fun a ha=>?_;refine pZ ?_;refine hK2 _ _ ?_;refine wp_ret ?_;show bodyPost Tryz.prog Tryz.f26 _ .ret _ _;refine ret1 rfl ha rfl ?_;refine ⟨congrArg Value.bool ?_,hs⟩;unfold mineB
      (rw [hg6,hg15]; simp; done)
    · rw [hg15] at ha;refine gOn ha ?_;refine pY ha (yMove rfl) fun a ha=>?_;refine gOn ha ?_;refine pY ha (yNilP rfl) fun a ha=>?_;refine gOn ha ?_;refine pY ha (yFieldA Tryz.runUnderlying61 rfl Tryz.sizeOf59 rfl rfl) fun a ha=>?_;refine gOn ha ?_;refine pY ha (yLoadB Tryz.isAgg59 hs rfl pk0 rfl) fun a ha=>?_;refine gOn ha ?_;refine pY ha (yLenS Tryz.runUnderlying59 rfl) fun a ha=>?_;refine gOn ha ?_;refine pY ha (yGtr rfl rfl) fun a ha=>?_;refine pY ha (yPickT rfl rfl) fun a ha=>?_;refine pY ha (yAssign rfl) fun a ha=>?_;refine pZ ?_;refine hK2 _ _ ?_;refine wp_ret ?_;show bodyPost Tryz.prog Tryz.f26 _ .ret _ _;refine ret1 rfl ha rfl ?_;refine ⟨congrArg Value.bool ?_,hs⟩;unfold mineB
      (rw [hg6,hg15]; simp; done)
theorem CGoes_c (hla : 0≤q.last∧q.last≤4000000000000000000) (h0 : 0 < q.l.length) (hs : Sep W w cs) (hk : Pick cs (.cli o bc q) r) :
    Calls Tryz.prog 27 #[.pointer (some ⟨bc,0,none⟩)] w (Rt fun v w'=>v = .tuple #[]∧Sep W w' (.cli false bc (goesC q)::r)):=by
  obtain ⟨bt,bm,A,n,A',n',hl1,hl2,hs⟩:=hs.cli_open hk;have hs:=hs.pl_rd (.there (.there (.there .here)));obtain ⟨_,hcap,_⟩:=hs.rd_shape .here;have hs:=hs.rd_cut .here (show 1≤q.l.length from h0) (Nat.le_refl _);rw [List.take_length] at hs;obtain ⟨hla1,hla2⟩:=hla;refine enter Tryz.func27 Tryz.ntmps27 rfl rfl fun a (ha : Has a 23 [(0,_)])=>?_;refine wp_seq_k fun K1 hK1=>?_;refine wp_region_lit ?_;refine pY ha (yMove rfl) fun a ha=>?_;refine pY ha (yMove rfl) fun a ha=>?_;refine pY ha (yMove rfl) fun a ha=>?_;refine pY ha (yMove rfl) fun a ha=>?_;refine pY ha (yNilP rfl) fun a ha=>?_;refine pY ha (yFieldA Tryz.runUnderlying61 rfl Tryz.sizeOf59 rfl rfl) fun a ha=>?_;refine pY ha (yLoadB Tryz.isAgg59 hs rfl pk2 rfl) fun a ha=>?_;refine pY ha (ySlice (lo:=1) Tryz.runUnderlying59 Tryz.sizeOf66 rfl (.inr ⟨_,_,rfl,rfl⟩) (.inl ⟨rfl,rfl⟩) h0 hcap) fun a ha=>?_;refine pY ha (yNilP rfl) fun a ha=>?_;refine pY ha (yFieldA Tryz.runUnderlying61 rfl Tryz.sizeOf59 rfl rfl) fun a ha=>?_;refine pStore ha Tryz.sizeOf59 hs rfl rfl rfl rfl pk2 rfl fun w hs=>?_;refine pY ha (yNilP rfl) fun a ha=>?_;refine pY ha (yFieldA Tryz.runUnderlying61 rfl Tryz.sizeOf4 rfl rfl) fun a ha=>?_;refine pStore ha Tryz.sizeOf4 hs rfl rfl rfl rfl pk0 rfl fun w hs=>?_;refine pY ha (yNilP rfl) fun a ha=>?_;refine pY ha (yFieldA Tryz.runUnderlying61 rfl Tryz.sizeOf4 rfl rfl) fun a ha=>?_;refine pStore ha Tryz.sizeOf4 hs rfl rfl rfl rfl pk0 rfl fun w hs=>?_;refine pZ ?_;refine hK1 _ _ ?_;refine wp_region_lit ?_;refine pY ha (yMove rfl) fun a ha=>?_;refine pY ha (yNilP rfl) fun a ha=>?_;refine pY ha (yFieldA Tryz.runUnderlying61 rfl Tryz.sizeOf3 rfl rfl) fun a ha=>?_;refine pY ha (yLoadB Tryz.isAgg3 hs rfl pk0 rfl) fun a ha=>?_;refine pY ha (yAddN rfl rfl ⟨by omega,by omega⟩) fun a ha=>?_;refine pY ha (yNilP rfl) fun a ha=>?_;refine pY ha (yFieldA Tryz.runUnderlying61 rfl Tryz.sizeOf3 rfl rfl) fun a ha=>?_;refine pStore ha Tryz.sizeOf3 hs rfl rfl rfl rfl pk0 rfl fun w hs=>?_;refine pZ ?_;show bodyPost Tryz.prog Tryz.f27 _ .normal _ _;refine end0 rfl ha ?_;exact ⟨rfl,(hs.cli_shut (bt:=bt) (bm:=bm) (o:=false) (c:=goesC q) (bc:=bc) pk0 pk2 pk2 pk0 pk1).to (.cons .here (by repeat first | exact .refl | refine .skip ?_))⟩
theorem CLoses_c {A2 : Option Addr} {n2 c2 : Nat} (p : Pnd) (code : Int) (hlp : p.acts.length≤1000000000) (hop : ∀ x ∈ p.acts,x.ops.length≤1000000000) (hg : q.gone.length≤1000000) (hs : Sep W w cs) (hk : Pick cs (.cli o bc q) r) (hk2 : Pick r (.rd kActn (.slice A2 n2 c2) p.acts) r2) :
    Calls Tryz.prog 28 #[.pointer (some ⟨bc,0,none⟩),.agg [.slice A2 n2 c2,.int .i64 p.e].toArray,.int .i64 code] w (Rt fun v w'=>v = .tuple #[]∧Sep W w' (.cli o bc (losesC q p code)::r)):=by
  obtain ⟨rfl,hl⟩:=(hs.pick hk).rd_shape (.there hk2);have hs:=hs.pick hk
  have hk2 : Pick (.cli o bc q::r) (.rd kActn (.slice A2 p.acts.length c2) p.acts) (.cli o bc q::r2):=.there hk2
  have hs:=hs.cpR hk2;obtain ⟨bt,bm,A,n,A',n',hl1,hl2,hs⟩:=hs.cli_open (.there .here);refine enter Tryz.func28 Tryz.ntmps28 rfl rfl fun a (ha : Has a 25 [(0,_),(1,_),(2,_)])=>?_;refine wp_seq_k fun K1 hK1=>?_;refine wp_region_lit ?_;refine pBox (es:=_) ha rfl rfl hs rfl fun b4 w hs a ha=>?_;refine pZ ?_;refine hK1 _ _ ?_;refine wp_seq_k fun K2 hK2=>?_;refine wp_seq_k fun K3 hK3=>?_;refine wp_region_lit ?_;refine pY ha (yFieldA Tryz.runUnderlying66 rfl Tryz.sizeOf25 rfl rfl) fun a ha=>?_;refine pY ha (yLoadB Tryz.isAgg25 hs rfl pk0 rfl) fun a ha=>?_;refine pY ha (yNeq rfl rfl) fun a ha=>?_;refine pZ ?_;refine hK3 _ _ ?_;refine cNDec ha rfl (fun hc8=>?_) (fun hc8=>?_)
  · have hcd : lossK p code = p.e:=if_pos hc8
    refine wp_region_lit ?_;refine pY ha (yFieldA Tryz.runUnderlying66 rfl Tryz.sizeOf25 rfl rfl) fun a ha=>?_;refine pY ha (yLoadB Tryz.isAgg25 hs rfl pk0 rfl) fun a ha=>?_;refine pY ha (yAssign rfl) fun a ha=>?_;refine pZ ?_;refine hK2 _ _ ?_;refine dStart (fun w=>∃ rs,Sep W w (.blk b4 66 [.slice A2 p.acts.length c2,.int .i64 p.e]::.blk bc 61 (cliV q bt (.slice A q.l.length n) (.slice A' q.gone.length n'))::rs)) [11,14] 32767 2046 (by kernel_rfl) (by kernel_rfl) rfl (⟨_,hs.drew.two pk0 pk0⟩) ?_
    have hs:=Sep.drew hs
    generalize World.drew _ = w at hs ⊢;refine dP 0 1 rfl ha (fun _=>yMove rfl) fun a ha=>?_;refine dP 1 3 rfl ha (fun _=>yMove rfl) fun a ha=>?_;refine dP 2 7 rfl ha (fun _=>yNilP rfl) fun a ha=>?_;refine dP 3 15 rfl ha (fun _=>yFieldA Tryz.runUnderlying61 rfl Tryz.sizeOf44 rfl rfl) fun a ha=>?_;refine dT 4 31 rfl ha (fun _ ⟨rs,hs⟩=>yLoadB Tryz.isAgg44 hs rfl pk1 rfl) (⟨_,hs.two pk0 pk0⟩) fun a ha=>?_;refine dP 5 63 rfl ha (fun _=>yFieldA Tryz.runUnderlying66 rfl Tryz.sizeOf33 rfl rfl) fun a ha=>?_;refine dT 6 127 rfl ha (fun _ ⟨rs,hs⟩=>yLoadB Tryz.isAgg33 hs rfl pk0 rfl) (⟨_,hs.two pk0 pk0⟩) fun a ha=>?_;refine dP 8 383 rfl ha (fun _=>yMove rfl) fun a ha=>?_;refine dC 7 511 rfl (by kernel_rfl) rfl ha won0 (nCall Tryz.call23 rfl) rfl (Own_c (xs:=p.acts) hs pk6 hlp hop) ?_;rintro v w ⟨A3,c3,rfl,hs⟩;refine ⟨⟨_,hs.two pk1 pk1⟩,fun a ha=>?_⟩;have hs:=hs.mk_pnd ⟨p.acts,lossK p code⟩ .here;refine dP 9 1023 rfl ha (fun _=>bldClG47_0_1 rfl rfl) fun a ha=>?_;rw [← hcd] at ha;refine dMake 10 2047 rfl (by kernel_rfl) rfl ha won0 (bslClG44_1_0 rfl) hs rfl (fun _ _ hs=>⟨_,hs.two pk3 pk3⟩) fun b w hs a ha=>?_;refine dApp1l 11 4095 rfl (by kernel_rfl) rfl ha won0 elClG44 rfl rfl hs pk8 pk0 pk0 rfl (by (unfold maxLen; omega)) (by omega) rfl fun A c w hs a ha=>?_;refine dP 12 8191 rfl ha (fun _=>yNilP rfl) fun a ha=>?_;refine dP 13 16383 rfl ha (fun _=>yFieldA Tryz.runUnderlying61 rfl Tryz.sizeOf44 rfl rfl) fun a ha=>?_;refine dStorel 14 32767 rfl (by kernel_rfl) rfl ha won0 Tryz.sizeOf44 hs rfl rfl rfl rfl pk3 rfl fun w hs=>?_;refine dZ (by kernel_rfl) ?_;show bodyPost Tryz.prog Tryz.f28 _ .normal _ _;refine end0 rfl ha ?_;exact ⟨rfl,(hs.cli_shut (bt:=bt) (bm:=bm) (o:=o) (c:=losesC q p code) (bc:=bc) pk0 pk3 pk3 pk3 pk0).to (.cons .here (by repeat first | exact .refl | refine .skip ?_))⟩
  · have hcd : lossK p code = code:=if_neg (fun h=>h hc8)
    refine wp_skip ?_;refine hK2 _ _ ?_;refine dStart (fun w=>∃ rs,Sep W w (.blk b4 66 [.slice A2 p.acts.length c2,.int .i64 p.e]::.blk bc 61 (cliV q bt (.slice A q.l.length n) (.slice A' q.gone.length n'))::rs)) [11,14] 32767 2046 (by kernel_rfl) (by kernel_rfl) rfl (⟨_,hs.drew.two pk0 pk0⟩) ?_
    have hs:=Sep.drew hs
    generalize World.drew _ = w at hs ⊢;refine dP 0 1 rfl ha (fun _=>yMove rfl) fun a ha=>?_;refine dP 1 3 rfl ha (fun _=>yMove rfl) fun a ha=>?_;refine dP 2 7 rfl ha (fun _=>yNilP rfl) fun a ha=>?_;refine dP 3 15 rfl ha (fun _=>yFieldA Tryz.runUnderlying61 rfl Tryz.sizeOf44 rfl rfl) fun a ha=>?_;refine dT 4 31 rfl ha (fun _ ⟨rs,hs⟩=>yLoadB Tryz.isAgg44 hs rfl pk1 rfl) (⟨_,hs.two pk0 pk0⟩) fun a ha=>?_;refine dP 5 63 rfl ha (fun _=>yFieldA Tryz.runUnderlying66 rfl Tryz.sizeOf33 rfl rfl) fun a ha=>?_;refine dT 6 127 rfl ha (fun _ ⟨rs,hs⟩=>yLoadB Tryz.isAgg33 hs rfl pk0 rfl) (⟨_,hs.two pk0 pk0⟩) fun a ha=>?_;refine dP 8 383 rfl ha (fun _=>yMove rfl) fun a ha=>?_;refine dC 7 511 rfl (by kernel_rfl) rfl ha won0 (nCall Tryz.call23 rfl) rfl (Own_c (xs:=p.acts) hs pk6 hlp hop) ?_;rintro v w ⟨A3,c3,rfl,hs⟩;refine ⟨⟨_,hs.two pk1 pk1⟩,fun a ha=>?_⟩;have hs:=hs.mk_pnd ⟨p.acts,lossK p code⟩ .here;refine dP 9 1023 rfl ha (fun _=>bldClG47_0_1 rfl rfl) fun a ha=>?_;rw [← hcd] at ha;refine dMake 10 2047 rfl (by kernel_rfl) rfl ha won0 (bslClG44_1_0 rfl) hs rfl (fun _ _ hs=>⟨_,hs.two pk3 pk3⟩) fun b w hs a ha=>?_;refine dApp1l 11 4095 rfl (by kernel_rfl) rfl ha won0 elClG44 rfl rfl hs pk8 pk0 pk0 rfl (by (unfold maxLen; omega)) (by omega) rfl fun A c w hs a ha=>?_;refine dP 12 8191 rfl ha (fun _=>yNilP rfl) fun a ha=>?_;refine dP 13 16383 rfl ha (fun _=>yFieldA Tryz.runUnderlying61 rfl Tryz.sizeOf44 rfl rfl) fun a ha=>?_;refine dStorel 14 32767 rfl (by kernel_rfl) rfl ha won0 Tryz.sizeOf44 hs rfl rfl rfl rfl pk3 rfl fun w hs=>?_;refine dZ (by kernel_rfl) ?_;show bodyPost Tryz.prog Tryz.f28 _ .normal _ _;refine end0 rfl ha ?_;exact ⟨rfl,(hs.cli_shut (bt:=bt) (bm:=bm) (o:=o) (c:=losesC q p code) (bc:=bc) pk0 pk3 pk3 pk3 pk0).to (.cons .here (by repeat first | exact .refl | refine .skip ?_))⟩
theorem CLost_c (hid : q.id ≠ 0) (hm : ∀ p ∈ q.gone,p.acts.length≤1000000000∧∀ x ∈ p.acts,x.ops.length≤1000000000) (hb : q.gone.length≤1000000) (hs : Sep W w cs) (hk : Pick cs (.cli o bc q) r) : Calls Tryz.prog 13 #[.pointer (some ⟨bc,0,none⟩)] w (Rt fun v w'=>∃ B d,v = .slice B q.gone.length d∧Sep W w' (.rd kPnd (.slice B q.gone.length d) q.gone::.cli o bc q::r)):=by
  obtain ⟨bt,bm,A,n,A',n',hl1,hl2,hs⟩:=hs.cli_open hk;refine enter Tryz.func13 Tryz.ntmps13 rfl rfl fun a (ha : Has a 27 [(0,_)])=>?_;refine wp_seq_k fun K1 hK1=>?_;refine wp_region_lit ?_;refine pY ha (yAssign rfl) fun a ha=>?_;refine pZ ?_;refine hK1 _ _ ?_;refine wp_seq_k fun K2 hK2=>?_;refine wp_seq_k fun K3 hK3=>?_;refine wp_region_lit ?_;refine pY ha (yMove rfl) fun a ha=>?_;refine pC ha (nCall Tryz.call21 rfl) rfl (CNone_c hid hs pk0) ?_;rintro v w ⟨rfl,hs⟩ a ha;refine pZ ?_;refine hK3 _ _ ?_;refine cFalse ha rfl ?_;refine wp_skip ?_;refine hK2 _ _ ?_;refine wp_seq_k fun K4 hK4=>?_;refine wp_seq_k fun K5 hK5=>?_;refine wp_region_lit ?_;refine pY ha (yMove rfl) fun a ha=>?_;refine pY ha (yNilP rfl) fun a ha=>?_;refine pY ha (yFieldA Tryz.runUnderlying61 rfl Tryz.sizeOf44 rfl rfl) fun a ha=>?_;refine pY ha (yLoadB Tryz.isAgg44 hs rfl pk0 rfl) fun a ha=>?_;refine pY ha (yLenS Tryz.runUnderlying44 rfl) fun a ha=>?_;refine pY ha (yMove rfl) fun a ha=>?_;refine pZ ?_;refine hK5 _ _ ?_;refine wp_block ?_;refine loopI (ι:=Nat × Option Addr × Nat) (fun i a w=>i.1≤q.gone.length∧Has a 27 [(2,.slice i.2.1 i.1 i.2.2),(10,.slice A' q.gone.length n'),(11,.int .i64 q.gone.length),(12,.int .i64 i.1)]∧Sep W w (.ol kPnd 47 (.slice i.2.1 i.1 i.2.2) (q.gone.take i.1)::.blk bc 61 (cliV q bt (.slice A q.l.length n) (.slice A' q.gone.length n'))::.blk bt 81 [.map (some bm)]::.mpN bm q.base::.pl o 66 (.slice A q.l.length n) q.l::.ol kPnd 47 (.slice A' q.gone.length n') q.gone::r)) (fun i=>q.gone.length - i.1) ((0,none,0)) ?_ ?_
  · exact ⟨Nat.zero_le _,has4 ha rfl rfl rfl rfl,hs.ol_nil kPnd _ none⟩
  · rintro i a w ⟨h1,ha,hs⟩;obtain ⟨i,B,d⟩:=i; simp only at h1 ha hs;refine wp_seq_k fun K6 hK6=>?_;refine wp_region_lit ?_;refine pY ha (yLss rfl rfl) fun a ha=>?_;refine pZ ?_;refine hK6 _ _ ?_;refine wp_seq_k fun K7 hK7=>?_;refine cDec ha rfl (fun hc13=>?_) (fun hc13=>?_)
    · obtain ⟨x,hx⟩ : ∃ x,q.gone[i]? = some x:=⟨_,List.getElem?_eq_getElem (by omega)⟩
      have hmem:=List.mem_of_getElem? hx
      have htl : (q.gone.take i).length = i:=by simp; omega
      obtain ⟨b0,cap0,es0,he0,_,hcell,hs⟩:=hs.ol_at (show Pick _ (.ol kPnd 47 (.slice A' q.gone.length n') q.gone) _ from pk5) hx;simp only [Value.slice.injEq] at he0;obtain ⟨rfl,_,rfl⟩:=he0;obtain ⟨A2,n2,c2,hes,hs2⟩:=hs.el_pnd .here;subst hes;obtain ⟨rfl,_⟩:=hs2.rd_shape .here;have hs:=hs2
      have hcell2 : ∀ (j : Nat) (u : Value),[Value.slice A2 x.acts.length c2,.int .i64 x.e][j]? = some u→w.cell? ⟨b0,0 + i * 2 + j,none⟩ = some u:=fun j u h=>by rw [Nat.zero_add]; exact hcell j u h
      refine wp_skip ?_;refine hK7 _ _ ?_;refine wp_seq_k fun K8 hK8=>?_;refine wp_block ?_;refine wp_seq_k fun K9 hK9=>?_;refine wp_region_lit ?_;refine pY ha (yIndexA Tryz.runUnderlying44 Tryz.sizeOf47 rfl rfl (by omega) (by omega)) fun a ha=>?_;refine pY ha (yLoadA Tryz.isAgg47 Tryz.sizeOf47 rfl rfl hcell2) fun a ha=>?_;refine pAlloc (zs:=[.slice none 0 0,.int .i64 0]) ha Tryz.zeroValue47 rfl hs rfl fun bp w hs a ha=>?_;refine pStoreA ha Tryz.sizeOf47 hs rfl rfl pk0 rfl rfl rfl fun w hs=>?_;refine pZ ?_;refine hK9 _ _ ?_;refine dStart (fun w=>∃ rs,Sep W w (.blk bp 47 [.slice A2 x.acts.length c2,.int .i64 x.e]::rs)) [7,8] 1023 126 (by kernel_rfl) (by kernel_rfl) rfl (⟨_,hs.drew.pick pk0⟩) ?_
      have hs:=Sep.drew hs
      generalize World.drew _ = w at hs ⊢;refine dP 0 1 rfl ha (fun _=>yMove rfl) fun a ha=>?_;refine dP 1 3 rfl ha (fun _=>yFieldA Tryz.runUnderlying47 rfl Tryz.sizeOf33 rfl rfl) fun a ha=>?_;refine dT 2 7 rfl ha (fun _ ⟨rs,hs⟩=>yLoadB Tryz.isAgg33 hs rfl pk0 rfl) (⟨_,hs.pick pk0⟩) fun a ha=>?_;refine dP 4 23 rfl ha (fun _=>yFieldA Tryz.runUnderlying47 rfl Tryz.sizeOf3 rfl rfl) fun a ha=>?_;refine dT 5 55 rfl ha (fun _ ⟨rs,hs⟩=>yLoadB Tryz.isAgg3 hs rfl pk0 rfl) (⟨_,hs.pick pk0⟩) fun a ha=>?_;refine dC 3 63 rfl (by kernel_rfl) rfl ha won0 (nCall Tryz.call23 rfl) rfl (Own_c (xs:=x.acts) hs pk1 (hm x hmem).1 (hm x hmem).2) ?_;rintro v w ⟨A3,c3,rfl,hs⟩;refine ⟨⟨_,hs.pick pk1⟩,fun a ha=>?_⟩;have hs:=hs.mk_pnd x .here;refine dP 6 127 rfl ha (fun _=>bldClG47_0_1 rfl rfl) fun a ha=>?_;refine dMakel 7 255 rfl (by kernel_rfl) rfl ha won0 (bslClG44_1_0 rfl) hs rfl fun b w hs a ha=>?_;refine dApp1l 8 511 rfl (by kernel_rfl) rfl ha won0 elClG44 rfl rfl hs pk5 pk0 pk0 rfl (by omega) (by omega) rfl fun A c w hs a ha=>?_;rw [htl] at ha hs;refine dP 9 1023 rfl ha (fun _=>yAssign rfl) fun a ha=>?_;refine dZ (by kernel_rfl) ?_;refine hK8 _ _ ?_;refine wp_region_lit ?_;refine pY ha (yAddN rfl rfl ⟨by omega,by omega⟩) fun a ha=>?_;refine pY ha (yMove rfl) fun a ha=>?_;refine pZ ?_
      have e1 : q.gone.take (i + 1) = q.gone.take i++[x]:=by rw [List.take_add_one,hx]; rfl
      refine ⟨(i + 1,A,c),⟨by simp only; omega,has4 ha rfl rfl rfl rfl,?_⟩,by simp only; omega⟩;simp only; rw [e1]; exact (by exact hs.to (by repeat first | exact Picks.refl | refine Picks.cons (by first | exact pk0 | exact pk1 | exact pk2 | exact pk3 | exact pk4 | exact pk5 | exact pk6 | exact pk7 | exact pk8 | exact pk9 | exact pk10 | exact pk11 | exact pk12 | exact pk13 | exact pk14 | exact pk15 | exact pk16 | exact pk17 | exact pk18 | exact pk19 | exact pk20 | exact pk21 | exact pk22 | exact pk23 | exact pk24 | exact pk25 | exact pk26 | exact pk27 | exact pk28 | exact pk29 | exact pk30 | exact pk31) ?_ | refine Picks.skip ?_))
    · refine wp_exit ?_;refine hK4 _ _ ?_;refine wp_seq_k fun K10 hK10=>?_;refine wp_region_lit ?_;refine pY ha (yMove rfl) fun a ha=>?_;refine pY ha (yAssign rfl) fun a ha=>?_;refine pZ ?_;refine hK10 _ _ ?_;refine wp_ret ?_;show bodyPost Tryz.prog Tryz.f13 _ .ret _ _;refine ret1 rfl ha rfl ?_;obtain rfl : i = q.gone.length:=by omega
      rw [List.take_length] at hs;have hs:=hs.ol_rd .here;exact ⟨B,d,rfl,(hs.cli_shut (bt:=bt) (bm:=bm) (o:=o) (c:=q) (bc:=bc) pk1 pk1 pk1 pk1 pk1).to (.cons pk1 (.cons .here .refl))⟩
end
end Go.Proofs.YtkbbnpjbjakpcaaGreatDoor

set_option linter.unusedVariables false
set_option linter.unusedSimpArgs false
namespace Go.Proofs.YtkbbnpjbjakpcaaGreatDoor
open Go.RowKit Go.Lib Go.Proofs.YtkbbnpjbjakpcaaGreatDoorW.PrintLast
theorem bslClS59_1_0 {w : World} {l : List (Nat × Value)} {T : TypeId} {x0 : Operand} {c0 : List Value} (h0 : ev l x0 = some (.agg c0.toArray)) (n0 : c0.length = 2 := by rfl) : Mk Tryz.prog w l (.buildSlice 59 1 #[(0, x0)]) T 66 1 c0 := fun ρ o h ho _ => by
  unfold execOp; rw [ho]
  exact mk1 (P := Tryz.prog) w Tryz.runUnderlying59 Tryz.sizeOf66 Tryz.zeroValue66 (by decide) (by decide) n0 (h _ _ h0)
theorem elClS59 : ElemT Tryz.prog 59 66 2 32 := elemT_mk Tryz.underlying59 rfl (by kernel_rfl)
def snapP (p : Pnd) : Pnd := ⟨p.acts, if p.e = 0 then 14 else p.e⟩
def lossP (p : Pnd) : Pnd := ⟨p.acts, lossK p 14⟩
def keepL (u : Bool) (l : List Pnd) : List Pnd := if u = true then (l.take 1).map snapP else []
def goneL (u : Bool) (l : List Pnd) : List Pnd := if u = true then (l.drop 1).map lossP else l.map lossP
def snapS (q : Cli) (m : Msg) (i : Nat) : Cli := { q with base := m.nodes, rev := m.rev, behind := false, gone := q.gone ++ goneL q.under (q.l.take i) }
def snapC (q : Cli) (m : Msg) : Cli := { snapS q m q.l.length with l := keepL q.under q.l }
theorem goneL_nil (u : Bool) : goneL u [] = [] := by cases u <;> rfl
theorem keepL_nil (u : Bool) : keepL u [] = [] := by cases u <;> rfl
theorem gone_len (u : Bool) (l : List Pnd) : (goneL u l).length ≤ l.length := by cases u <;> simp [goneL]
theorem keep_len (u : Bool) (l : List Pnd) : (keepL u l).length ≤ 1 := by cases u <;> simp [keepL] <;> omega
theorem snapS_zero (q : Cli) (m : Msg) : snapS q m 0 = { q with base := m.nodes, rev := m.rev, behind := false } := by
  unfold snapS
  rw [List.take_zero, goneL_nil, List.append_nil]
theorem keep_skip {u : Bool} {l : List Pnd} {i : Nat} (h : 0 < i ∨ u = false) : keepL u (l.take (i + 1)) = keepL u (l.take i) := by
  unfold keepL
  cases u with
  | false => rfl
  | true =>
    have h0 : 0 < i := by simpa using h
    rw [if_pos rfl, if_pos rfl, List.take_take, List.take_take, Nat.min_eq_left (by omega), Nat.min_eq_left (by omega)]
theorem gone_skip {u : Bool} {l : List Pnd} {i : Nat} {x : Pnd} (h : 0 < i ∨ u = false) (hx : l[i]? = some x) : goneL u (l.take (i + 1)) = goneL u (l.take i) ++ [lossP x] := by
  have hi : i < l.length := (List.getElem?_eq_some_iff.1 hx).1
  unfold goneL
  rw [List.take_add_one, hx]
  cases u with
  | false => simp
  | true =>
    have h0 : 0 < i := by simpa using h
    rw [if_pos rfl, if_pos rfl, List.drop_append_of_le_length (by simp; omega)]
    simp
theorem snap_skip {q : Cli} {m : Msg} {i : Nat} {x : Pnd} (h : 0 < i ∨ q.under = false) (hx : q.l[i]? = some x) : losesC (snapS q m i) x 14 = snapS q m (i + 1) := by
  unfold losesC snapS
  simp only
  rw [gone_skip h hx, List.append_assoc]
  rfl
theorem keep_one {l : List Pnd} {x : Pnd} (hx : l[0]? = some x) : keepL true (l.take (0 + 1)) = [snapP x] ∧ goneL true (l.take (0 + 1)) = [] := by
  cases l with
  | nil => simp at hx
  | cons y r => simp at hx; subst hx; exact ⟨rfl, rfl⟩
theorem snap_one {q : Cli} {m : Msg} {x : Pnd} (hu : q.under = true) (hx : q.l[0]? = some x) : snapS q m (0 + 1) = snapS q m 0 := by
  unfold snapS
  rw [hu, (keep_one hx).2, List.take_zero, goneL_nil]
section
variable {W w : World} {cs r r2 : List Ch} {o : Bool} {bc : Nat} {q : Cli}
theorem CSnap_c (hT : Tabs W) {es : List Value} {m : Msg} (ht : q.told = false) (hlo : loadOk m.nodes = true) (hmn : ∀ x ∈ m.nodes, mN x) (hnl : m.nodes.length ≤ 1000000000) (hb : q.l.length ≤ 1000) (hg : q.gone.length ≤ 1000)
    (hp : ∀ p ∈ q.l, p.acts.length ≤ 1000000000 ∧ ∀ x ∈ p.acts, x.ops.length ≤ 1000000000) (hs : Sep W w cs) (hk : Pick cs (.cli o bc q) r) (hk2 : Pick r (.el kMsg m es) r2) :
    Calls Tryz.prog 29 #[.pointer (some ⟨bc, 0, none⟩), .agg es.toArray] w (Rt fun v w' => v = .tuple #[] ∧ Sep W w' (.cli true bc (snapC q m) :: r)) := by
  have hs := hs.perm hk.perm
  have hk2 : Pick (.cli o bc q :: r) (.el kMsg m es) (.cli o bc q :: r2) := .there hk2
  have hs : Sep W w (.el kMsg m es :: .cli o bc q :: r) := hs.cp hk2
  obtain ⟨A1, n1, c1, A2, n2, c2, A3, n3, c3, rfl, hs⟩ := hs.el_msg .here
  obtain ⟨bt, bm, A, n, A', n', hl1, hl2, hs⟩ := hs.cli_open (bc := bc) (c := q) (o := o) (.there (.there (.there (.there .here))))
  have hs := hs.pl_rd (.there (.there (.there .here)))
  have hs := hs.cpR .here
  refine enter Tryz.func29 Tryz.ntmps29 rfl rfl fun a (ha : Has a 67 [(0, _), (1, _)]) => ?_
  refine wp_seq_k fun K1 hK1 => ?_
  refine wp_region_lit ?_
  refine pBox (es := _) ha (by rfl) (by rfl) hs rfl fun b3 w hs a ha => ?_
  refine pZ ?_
  refine hK1 _ _ ?_
  refine wp_seq_k fun K2 hK2 => ?_
  refine wp_region_lit ?_
  refine pY ha (yMove (by rfl)) fun a ha => ?_
  refine pY ha (yFieldA Tryz.runUnderlying37 rfl Tryz.sizeOf35 rfl (by rfl)) fun a ha => ?_
  first | refine pY ha (yLoadB Tryz.isAgg35 hs (by rfl) (by repeat first | exact .here | apply Pick.there) (by rfl)) fun a ha => ?_ | refine pY ha (yLoadR Tryz.isAgg35 hs (by rfl) (by repeat first | exact .here | apply Pick.there) (by rfl)) fun a ha => ?_ | refine pY ha (yLoadR0 Tryz.isAgg35 hs (by rfl) (by repeat first | exact .here | apply Pick.there) (by rfl)) fun a ha => ?_
  refine pC ha (nCall Tryz.call47 (by rfl)) rfl (Load_c hT hmn hnl hs (show Pick _ (.rd kNod (.slice A3 n3 c3) m.nodes) _ from (by repeat first | exact .here | apply Pick.there))) ?_
  rintro v w hv a ha
  rw [if_pos hlo] at hv
  obtain ⟨b2, m2, rfl, hs⟩ := hv
  refine pY ha (yMove (by rfl)) fun a ha => ?_
  refine pY ha (yExtract (by rfl) (by rfl)) fun a ha => ?_
  refine pY ha (yExtract (by rfl) (by rfl)) fun a ha => ?_
  refine pY ha (yNilP (by rfl)) fun a ha => ?_
  refine pY ha (yFieldA Tryz.runUnderlying61 rfl Tryz.sizeOf54 rfl (by rfl)) fun a ha => ?_
  refine pStore ha Tryz.sizeOf54 hs (by rfl) (by rfl) rfl rfl (by repeat first | exact .here | apply Pick.there) (by rfl) fun w hs => ?_
  refine pZ ?_
  refine hK2 _ _ ?_
  refine wp_seq_k fun K3 hK3 => ?_
  refine wp_region_lit ?_
  refine pY ha (yMove (by rfl)) fun a ha => ?_
  refine pY ha (yMove (by rfl)) fun a ha => ?_
  refine pY ha (yFieldA Tryz.runUnderlying37 rfl Tryz.sizeOf3 rfl (by rfl)) fun a ha => ?_
  first | refine pY ha (yLoadB Tryz.isAgg3 hs (by rfl) (by repeat first | exact .here | apply Pick.there) (by rfl)) fun a ha => ?_ | refine pY ha (yLoadR Tryz.isAgg3 hs (by rfl) (by repeat first | exact .here | apply Pick.there) (by rfl)) fun a ha => ?_ | refine pY ha (yLoadR0 Tryz.isAgg3 hs (by rfl) (by repeat first | exact .here | apply Pick.there) (by rfl)) fun a ha => ?_
  refine pY ha (yNilP (by rfl)) fun a ha => ?_
  refine pY ha (yFieldA Tryz.runUnderlying61 rfl Tryz.sizeOf3 rfl (by rfl)) fun a ha => ?_
  refine pStore ha Tryz.sizeOf3 hs (by rfl) (by rfl) rfl rfl (by repeat first | exact .here | apply Pick.there) (by rfl) fun w hs => ?_
  refine pY ha (yNilP (by rfl)) fun a ha => ?_
  refine pY ha (yFieldA Tryz.runUnderlying61 rfl Tryz.sizeOf4 rfl (by rfl)) fun a ha => ?_
  refine pStore ha Tryz.sizeOf4 hs (by rfl) (by rfl) rfl rfl (by repeat first | exact .here | apply Pick.there) (by rfl) fun w hs => ?_
  refine pZ ?_
  refine hK3 _ _ ?_
  refine wp_seq_k fun K4 hK4 => ?_
  refine wp_seq_k fun K5 hK5 => ?_
  refine wp_region_lit ?_
  refine pY ha (yMove (by rfl)) fun a ha => ?_
  refine pY ha (yNilP (by rfl)) fun a ha => ?_
  refine pY ha (yFieldA Tryz.runUnderlying61 rfl Tryz.sizeOf4 rfl (by rfl)) fun a ha => ?_
  first | refine pY ha (yLoadB Tryz.isAgg4 hs (by rfl) (by repeat first | exact .here | apply Pick.there) (by rfl)) fun a ha => ?_ | refine pY ha (yLoadR Tryz.isAgg4 hs (by rfl) (by repeat first | exact .here | apply Pick.there) (by rfl)) fun a ha => ?_ | refine pY ha (yLoadR0 Tryz.isAgg4 hs (by rfl) (by repeat first | exact .here | apply Pick.there) (by rfl)) fun a ha => ?_
  refine pZ ?_
  refine hK5 _ _ ?_
  first | refine cNDec ha (by rfl) (fun hc27 => ?_) (fun hc27 => ?_) | refine cDec ha (by rfl) (fun hc27 => ?_) (fun hc27 => ?_) | refine cSplit ha (by rfl) (fun hc27 => ?_) (fun hc27 => ?_)
  · rw [ht] at hc27; cases hc27
  · refine wp_skip ?_
    refine hK4 _ _ ?_
    refine wp_seq_k fun K6 hK6 => ?_
    refine wp_region_lit ?_
    refine pY ha (yAssign (by rfl)) fun a ha => ?_
    refine pZ ?_
    refine hK6 _ _ ?_
    refine wp_seq_k fun K7 hK7 => ?_
    refine wp_seq_k fun K8 hK8 => ?_
    refine wp_region_lit ?_
    refine pY ha (yMove (by rfl)) fun a ha => ?_
    refine pY ha (yNilP (by rfl)) fun a ha => ?_
    refine pY ha (yFieldA Tryz.runUnderlying61 rfl Tryz.sizeOf59 rfl (by rfl)) fun a ha => ?_
    first | refine pY ha (yLoadB Tryz.isAgg59 hs (by rfl) (by repeat first | exact .here | apply Pick.there) (by rfl)) fun a ha => ?_ | refine pY ha (yLoadR Tryz.isAgg59 hs (by rfl) (by repeat first | exact .here | apply Pick.there) (by rfl)) fun a ha => ?_ | refine pY ha (yLoadR0 Tryz.isAgg59 hs (by rfl) (by repeat first | exact .here | apply Pick.there) (by rfl)) fun a ha => ?_
    refine pY ha (yLenS Tryz.runUnderlying59 (by rfl)) fun a ha => ?_
    refine pY ha (yMove (by rfl)) fun a ha => ?_
    refine pZ ?_
    refine hK8 _ _ ?_
    refine wp_block ?_
    refine loopI (ι := Nat × Option Addr × Nat) (fun i a w => i.1 ≤ q.l.length ∧ Has a 67 [(0, .pointer (some ⟨bc, 0, none⟩)), (4, .slice i.2.1 (keepL q.under (q.l.take i.1)).length i.2.2), (33, .slice A q.l.length n), (34, .int .i64 q.l.length), (35, .int .i64 i.1)] ∧ Sep W w (.ol kPnd 66 (.slice i.2.1 (keepL q.under (q.l.take i.1)).length i.2.2) (keepL q.under (q.l.take i.1)) :: .rd kPnd (.slice A q.l.length n) q.l :: .cli false bc (snapS q m i.1) :: r)) (fun i => q.l.length - i.1) ((0, none, 0)) ?_ ?_
    · rw [snapS_zero, List.take_zero, keepL_nil]
      have hs2 := hs.cli_shut (bt := b2) (bm := m2) (o := false) (c := { q with base := m.nodes, rev := m.rev, behind := false }) (bc := bc) (by repeat first | exact .here | apply Pick.there) (by repeat first | exact .here | apply Pick.there) (by repeat first | exact .here | apply Pick.there) (by repeat first | exact .here | apply Pick.there) (by repeat first | exact .here | apply Pick.there)
      have hs3 : Sep W _ (.cli false bc { q with base := m.nodes, rev := m.rev, behind := false } :: .rd kPnd (.slice A q.l.length n) q.l :: r) := hs2.to (.cons .here (.cons (by repeat first | exact .here | apply Pick.there) (by repeat first | exact .refl | refine .skip ?_)))
      exact ⟨Nat.zero_le _, has5 ha (by rfl) (by rfl) (by rfl) (by rfl) (by rfl), (hs3.ol_nil kPnd _ none).to (.cons .here (.cons (.there .here) (.cons .here .refl)))⟩
    · rintro i a w ⟨h1, ha, hs⟩
      obtain ⟨i, B, d⟩ := i; simp only at h1 ha hs
      refine wp_seq_k fun K9 hK9 => ?_
      refine wp_region_lit ?_
      refine pY ha (yLss (by rfl) (by rfl)) fun a ha => ?_
      refine pZ ?_
      refine hK9 _ _ ?_
      refine wp_seq_k fun K10 hK10 => ?_
      first | refine cDec ha (by rfl) (fun hc36 => ?_) (fun hc36 => ?_) | refine cSplit ha (by rfl) (fun hc36 => ?_) (fun hc36 => ?_)
      · obtain ⟨x, hx⟩ : ∃ x, q.l[i]? = some x := ⟨_, List.getElem?_eq_getElem (by omega)⟩
        have hmem := List.mem_of_getElem? hx
        have hkl := keep_len q.under (q.l.take i)
        obtain ⟨b0, off, A4, n4, c4, rfl, hs⟩ := hs.rd_pnd (.there .here) hx
        refine wp_skip ?_
        refine hK10 _ _ ?_
        refine wp_seq_k fun K11 hK11 => ?_
        refine wp_block ?_
        refine wp_seq_k fun K12 hK12 => ?_
        refine wp_region_lit ?_
        refine pY ha (yMove (by rfl)) fun a ha => ?_
        refine pY ha (yIndexA Tryz.runUnderlying59 Tryz.sizeOf66 (by rfl) (by rfl) (by omega) (by omega)) fun a ha => ?_
        first | refine pY ha (yLoadRA Tryz.isAgg66 Tryz.sizeOf66 hs (by rfl) (by repeat first | exact .here | apply Pick.there) (by rfl)) fun a ha => ?_ | refine pY ha (yLoadBA Tryz.isAgg66 Tryz.sizeOf66 hs (by rfl) (by repeat first | exact .here | apply Pick.there) (by rfl)) fun a ha => ?_
        refine pAlloc (zs := [.slice none 0 0, .int .i64 0]) ha Tryz.zeroValue66 (by rfl) hs rfl fun bp w hs a ha => ?_
        refine pY ha (yAssign (by rfl)) fun a ha => ?_
        refine pStoreA ha Tryz.sizeOf66 hs (by rfl) (by rfl) (by repeat first | exact .here | apply Pick.there) (by rfl) (by rfl) (by rfl) fun w hs => ?_
        refine pZ ?_
        refine hK12 _ _ ?_
        refine wp_seq_k fun K13 hK13 => ?_
        refine wp_block ?_
        refine wp_seq_k fun K14 hK14 => ?_
        obtain ⟨bt, bm, A, n, A', n', hl3, hl4, hs⟩ := hs.cli_open (bc := bc) (c := snapS q m i) (o := false) (by repeat first | exact .here | apply Pick.there)
        refine wp_region_lit ?_
        refine pY ha (yMove (by rfl)) fun a ha => ?_
        refine pY ha (yGtr (by rfl) (by rfl)) fun a ha => ?_
        refine pY ha (yMove (by rfl)) fun a ha => ?_
        refine gDec (t := 43) ha (by rfl) (fun hg2 hp2 => ?_) (fun hg2 hp2 => ?_)
        · rw [hg2] at ha
          refine gOn ha ?_
          refine pY ha (yMove (by rfl)) fun a ha => ?_
          refine gOn ha ?_
          refine pY ha (yNilP (by rfl)) fun a ha => ?_
          refine gOn ha ?_
          refine pY ha (yFieldA Tryz.runUnderlying61 rfl Tryz.sizeOf4 rfl (by rfl)) fun a ha => ?_
          refine gOn ha ?_
          first | refine pY ha (yLoadB Tryz.isAgg4 hs (by rfl) (by repeat first | exact .here | apply Pick.there) (by rfl)) fun a ha => ?_ | refine pY ha (yLoadR Tryz.isAgg4 hs (by rfl) (by repeat first | exact .here | apply Pick.there) (by rfl)) fun a ha => ?_ | refine pY ha (yLoadR0 Tryz.isAgg4 hs (by rfl) (by repeat first | exact .here | apply Pick.there) (by rfl)) fun a ha => ?_
          refine gOn ha ?_
          refine pY ha (yNot (by rfl)) fun a ha => ?_
          first | refine pY ha (yPickT (by rfl) (by rfl)) fun a ha => ?_ | refine pY ha (yPickF (by rfl) (by rfl)) fun a ha => ?_ | refine pY ha (yPick (by rfl) (by rfl) (by rfl)) fun a ha => ?_
          refine pY ha (yAssign (by rfl)) fun a ha => ?_
          refine pZ ?_
          refine hK14 _ _ ?_
          first | refine cNDec ha (by rfl) (fun hc40 => ?_) (fun hc40 => ?_) | refine cDec ha (by rfl) (fun hc40 => ?_) (fun hc40 => ?_) | refine cSplit ha (by rfl) (fun hc40 => ?_) (fun hc40 => ?_)
          · refine wp_seq_k fun K15 hK15 => ?_
            have hs := hs.cli_shut (bt := bt) (bm := bm) (o := false) (c := snapS q m i) (bc := bc) (by repeat first | exact .here | apply Pick.there) (by repeat first | exact .here | apply Pick.there) (by repeat first | exact .here | apply Pick.there) (by repeat first | exact .here | apply Pick.there) (by repeat first | exact .here | apply Pick.there)
            have hgl : (snapS q m i).gone.length ≤ 1000000 := by unfold snapS; simp only [List.length_append]; have := gone_len q.under (q.l.take i); have := List.length_take_le i q.l; omega
            refine wp_region_lit ?_
            refine pY ha (yMove (by rfl)) fun a ha => ?_
            first | refine pY ha (yLoadRA Tryz.isAgg66 Tryz.sizeOf66 hs (by rfl) (by repeat first | exact .here | apply Pick.there) (by rfl)) fun a ha => ?_ | refine pY ha (yLoadBA Tryz.isAgg66 Tryz.sizeOf66 hs (by rfl) (by repeat first | exact .here | apply Pick.there) (by rfl)) fun a ha => ?_
            refine pC ha (nCall Tryz.call28 (by rfl)) rfl (CLoses_c x 14 (hp x hmem).1 (hp x hmem).2 hgl hs (by repeat first | exact .here | apply Pick.there) (by repeat first | exact .here | apply Pick.there)) ?_
            rintro v w ⟨rfl, hs⟩ a ha
            refine pZ ?_
            refine hK15 _ _ ?_
            refine wp_exit ?_
            refine hK11 _ _ ?_
            refine wp_region_lit ?_
            first | refine pY ha (yAddN (by rfl) (by rfl) ⟨by omega, by omega⟩) fun a ha => ?_ | refine pY ha (yAdd (by rfl) (by rfl)) fun a ha => ?_
            refine pY ha (yMove (by rfl)) fun a ha => ?_
            refine pZ ?_
            first
              | (have hsk : 0 < i ∨ q.under = false := by first | exact .inl (by simpa using hg2) | exact .inr (by simpa [snapS] using hc40)
                 have e1 := keep_skip (l := q.l) hsk
                 rw [snap_skip hsk hx] at hs
                 refine ⟨(i + 1, B, d), ⟨by simp only; omega, ?_, ?_⟩, by simp only; omega⟩
                 · simp only; rw [e1]; exact has5 ha (by rfl) (by rfl) (by rfl) (by rfl) (by rfl)
                 · simp only; rw [e1]; exact (by first | exact hs | exact hs.to (by repeat first | exact Picks.refl | refine Picks.cons (by repeat first | exact .here | apply Pick.there) ?_ | refine Picks.skip ?_)))
              | (obtain rfl : i = 0 := by have : ¬ (0 < (i : Int)) := by simpa using hg2
                                          omega
                 have hu : q.under = true := by simpa [snapS] using hc40
                 have e1 : keepL q.under (q.l.take (0 + 1)) = keepL q.under (q.l.take 0) ++ [snapP x] := by rw [hu, (keep_one hx).1, List.take_zero, keepL_nil]; rfl
                 refine ⟨(0 + 1, A, c), ⟨by simp only; omega, ?_, ?_⟩, by simp only; omega⟩
                 · simp only; rw [e1, List.length_append]; exact has5 ha (by rfl) (by rfl) (by rfl) (by rfl) (by rfl)
                 · simp only; rw [e1, snap_one hu hx, List.length_append]; exact (by first | exact hs | exact hs.to (by repeat first | exact Picks.refl | refine Picks.cons (by repeat first | exact .here | apply Pick.there) ?_ | refine Picks.skip ?_)))
          · refine wp_seq_k fun K16 hK16 => ?_
            have hs := hs.cli_shut (bt := bt) (bm := bm) (o := false) (c := snapS q m i) (bc := bc) (by repeat first | exact .here | apply Pick.there) (by repeat first | exact .here | apply Pick.there) (by repeat first | exact .here | apply Pick.there) (by repeat first | exact .here | apply Pick.there) (by repeat first | exact .here | apply Pick.there)
            refine wp_region_lit ?_
            refine pY ha (yFieldA Tryz.runUnderlying66 rfl Tryz.sizeOf25 rfl (by rfl)) fun a ha => ?_
            first | refine pY ha (yLoadB Tryz.isAgg25 hs (by rfl) (by repeat first | exact .here | apply Pick.there) (by rfl)) fun a ha => ?_ | refine pY ha (yLoadR Tryz.isAgg25 hs (by rfl) (by repeat first | exact .here | apply Pick.there) (by rfl)) fun a ha => ?_ | refine pY ha (yLoadR0 Tryz.isAgg25 hs (by rfl) (by repeat first | exact .here | apply Pick.there) (by rfl)) fun a ha => ?_
            refine pY ha (yEql (by rfl) (by rfl)) fun a ha => ?_
            refine pY ha (yAssign (by rfl)) fun a ha => ?_
            refine pZ ?_
            refine hK16 _ _ ?_
            first | refine cDec ha (by rfl) (fun hc53 => ?_) (fun hc53 => ?_) | refine cSplit ha (by rfl) (fun hc53 => ?_) (fun hc53 => ?_)
            · have hk' : (14 : Int) = (snapP x).e := (if_pos hc53).symm
              refine wp_region_lit ?_
              refine pY ha (yFieldA Tryz.runUnderlying66 rfl Tryz.sizeOf25 rfl (by rfl)) fun a ha => ?_
              refine pStore ha Tryz.sizeOf25 hs (by rfl) (by rfl) rfl rfl (by repeat first | exact .here | apply Pick.there) (by rfl) fun w hs => ?_
              rw [hk'] at hs
              refine pZ ?_
              refine hK13 _ _ ?_
              refine wp_region_lit ?_
              refine pY ha (yMove (by rfl)) fun a ha => ?_
              first | refine pY ha (yLoadRA Tryz.isAgg66 Tryz.sizeOf66 hs (by rfl) (by repeat first | exact .here | apply Pick.there) (by rfl)) fun a ha => ?_ | refine pY ha (yLoadBA Tryz.isAgg66 Tryz.sizeOf66 hs (by rfl) (by repeat first | exact .here | apply Pick.there) (by rfl)) fun a ha => ?_
              refine pMake ha (bslClS59_1_0 (by rfl)) hs rfl fun b w hs a ha => ?_
              have hs := hs.mk_pnd (snapP x) (by repeat first | exact .here | apply Pick.there)
              first | refine pApp1 ha elClS59 (by rfl) (by rfl) hs (by repeat first | exact .here | apply Pick.there) (by repeat first | exact .here | apply Pick.there) (by repeat first | exact .here | apply Pick.there) (by rfl) (by first | omega | (unfold maxLen; omega) | (simp [maxLen]; done) | (simp [maxLen]; omega)) (by first | omega | (unfold maxLen; omega) | (simp [maxLen]; done) | (simp [maxLen]; omega)) rfl fun A c w hs a ha => ?_ | refine pAppRd ha elClS59 (by rfl) (by rfl) hs (by repeat first | exact .here | apply Pick.there) (by repeat first | exact .here | apply Pick.there) (by rfl) (by first | omega | (unfold maxLen; omega) | (simp [maxLen]; done) | (simp [maxLen]; omega)) (by first | omega | (unfold maxLen; omega) | (simp [maxLen]; done) | (simp [maxLen]; omega)) rfl fun A c w hs a ha => ?_ | refine pApp1F ha elClS59 (by rfl) (by rfl) hs (by repeat first | exact .here | apply Pick.there) (by repeat first | exact .here | apply Pick.there) (by intro Z; first | rfl | exact ⟨rfl, by omega, by omega⟩) (by rfl) (by first | omega | (unfold maxLen; omega) | (simp [maxLen]; done) | (simp [maxLen]; omega)) (by first | omega | (unfold maxLen; omega) | (simp [maxLen]; done) | (simp [maxLen]; omega)) rfl fun A c w hs a ha => ?_
              refine pY ha (yAssign (by rfl)) fun a ha => ?_
              refine pZ ?_
              refine hK11 _ _ ?_
              refine wp_region_lit ?_
              first | refine pY ha (yAddN (by rfl) (by rfl) ⟨by omega, by omega⟩) fun a ha => ?_ | refine pY ha (yAdd (by rfl) (by rfl)) fun a ha => ?_
              refine pY ha (yMove (by rfl)) fun a ha => ?_
              refine pZ ?_
              first
                | (have hsk : 0 < i ∨ q.under = false := by first | exact .inl (by simpa using hg2) | exact .inr (by simpa [snapS] using hc40)
                   have e1 := keep_skip (l := q.l) hsk
                   rw [snap_skip hsk hx] at hs
                   refine ⟨(i + 1, B, d), ⟨by simp only; omega, ?_, ?_⟩, by simp only; omega⟩
                   · simp only; rw [e1]; exact has5 ha (by rfl) (by rfl) (by rfl) (by rfl) (by rfl)
                   · simp only; rw [e1]; exact (by first | exact hs | exact hs.to (by repeat first | exact Picks.refl | refine Picks.cons (by repeat first | exact .here | apply Pick.there) ?_ | refine Picks.skip ?_)))
                | (obtain rfl : i = 0 := by have : ¬ (0 < (i : Int)) := by simpa using hg2
                                            omega
                   have hu : q.under = true := by simpa [snapS] using hc40
                   have e1 : keepL q.under (q.l.take (0 + 1)) = keepL q.under (q.l.take 0) ++ [snapP x] := by rw [hu, (keep_one hx).1, List.take_zero, keepL_nil]; rfl
                   refine ⟨(0 + 1, A, c), ⟨by simp only; omega, ?_, ?_⟩, by simp only; omega⟩
                   · simp only; rw [e1, List.length_append]; exact has5 ha (by rfl) (by rfl) (by rfl) (by rfl) (by rfl)
                   · simp only; rw [e1, snap_one hu hx, List.length_append]; exact (by first | exact hs | exact hs.to (by repeat first | exact Picks.refl | refine Picks.cons (by repeat first | exact .here | apply Pick.there) ?_ | refine Picks.skip ?_)))
            · have hk' : x.e = (snapP x).e := (if_neg hc53).symm
              rw [hk'] at hs
              refine wp_skip ?_
              refine hK13 _ _ ?_
              refine wp_region_lit ?_
              refine pY ha (yMove (by rfl)) fun a ha => ?_
              first | refine pY ha (yLoadRA Tryz.isAgg66 Tryz.sizeOf66 hs (by rfl) (by repeat first | exact .here | apply Pick.there) (by rfl)) fun a ha => ?_ | refine pY ha (yLoadBA Tryz.isAgg66 Tryz.sizeOf66 hs (by rfl) (by repeat first | exact .here | apply Pick.there) (by rfl)) fun a ha => ?_
              refine pMake ha (bslClS59_1_0 (by rfl)) hs rfl fun b w hs a ha => ?_
              have hs := hs.mk_pnd (snapP x) (by repeat first | exact .here | apply Pick.there)
              first | refine pApp1 ha elClS59 (by rfl) (by rfl) hs (by repeat first | exact .here | apply Pick.there) (by repeat first | exact .here | apply Pick.there) (by repeat first | exact .here | apply Pick.there) (by rfl) (by first | omega | (unfold maxLen; omega) | (simp [maxLen]; done) | (simp [maxLen]; omega)) (by first | omega | (unfold maxLen; omega) | (simp [maxLen]; done) | (simp [maxLen]; omega)) rfl fun A c w hs a ha => ?_ | refine pAppRd ha elClS59 (by rfl) (by rfl) hs (by repeat first | exact .here | apply Pick.there) (by repeat first | exact .here | apply Pick.there) (by rfl) (by first | omega | (unfold maxLen; omega) | (simp [maxLen]; done) | (simp [maxLen]; omega)) (by first | omega | (unfold maxLen; omega) | (simp [maxLen]; done) | (simp [maxLen]; omega)) rfl fun A c w hs a ha => ?_ | refine pApp1F ha elClS59 (by rfl) (by rfl) hs (by repeat first | exact .here | apply Pick.there) (by repeat first | exact .here | apply Pick.there) (by intro Z; first | rfl | exact ⟨rfl, by omega, by omega⟩) (by rfl) (by first | omega | (unfold maxLen; omega) | (simp [maxLen]; done) | (simp [maxLen]; omega)) (by first | omega | (unfold maxLen; omega) | (simp [maxLen]; done) | (simp [maxLen]; omega)) rfl fun A c w hs a ha => ?_
              refine pY ha (yAssign (by rfl)) fun a ha => ?_
              refine pZ ?_
              refine hK11 _ _ ?_
              refine wp_region_lit ?_
              first | refine pY ha (yAddN (by rfl) (by rfl) ⟨by omega, by omega⟩) fun a ha => ?_ | refine pY ha (yAdd (by rfl) (by rfl)) fun a ha => ?_
              refine pY ha (yMove (by rfl)) fun a ha => ?_
              refine pZ ?_
              first
                | (have hsk : 0 < i ∨ q.under = false := by first | exact .inl (by simpa using hg2) | exact .inr (by simpa [snapS] using hc40)
                   have e1 := keep_skip (l := q.l) hsk
                   rw [snap_skip hsk hx] at hs
                   refine ⟨(i + 1, B, d), ⟨by simp only; omega, ?_, ?_⟩, by simp only; omega⟩
                   · simp only; rw [e1]; exact has5 ha (by rfl) (by rfl) (by rfl) (by rfl) (by rfl)
                   · simp only; rw [e1]; exact (by first | exact hs | exact hs.to (by repeat first | exact Picks.refl | refine Picks.cons (by repeat first | exact .here | apply Pick.there) ?_ | refine Picks.skip ?_)))
                | (obtain rfl : i = 0 := by have : ¬ (0 < (i : Int)) := by simpa using hg2
                                            omega
                   have hu : q.under = true := by simpa [snapS] using hc40
                   have e1 : keepL q.under (q.l.take (0 + 1)) = keepL q.under (q.l.take 0) ++ [snapP x] := by rw [hu, (keep_one hx).1, List.take_zero, keepL_nil]; rfl
                   refine ⟨(0 + 1, A, c), ⟨by simp only; omega, ?_, ?_⟩, by simp only; omega⟩
                   · simp only; rw [e1, List.length_append]; exact has5 ha (by rfl) (by rfl) (by rfl) (by rfl) (by rfl)
                   · simp only; rw [e1, snap_one hu hx, List.length_append]; exact (by first | exact hs | exact hs.to (by repeat first | exact Picks.refl | refine Picks.cons (by repeat first | exact .here | apply Pick.there) ?_ | refine Picks.skip ?_)))
        · rw [hg2] at ha
          refine gOff ha fun a ha => ?_
          refine gOff ha fun a ha => ?_
          refine gOff ha fun a ha => ?_
          refine gOff ha fun a ha => ?_
          refine gOff ha fun a ha => ?_
          first | refine pY ha (yPickT (by rfl) (by rfl)) fun a ha => ?_ | refine pY ha (yPickF (by rfl) (by rfl)) fun a ha => ?_ | refine pY ha (yPick (by rfl) (by rfl) (by rfl)) fun a ha => ?_
          refine pY ha (yAssign (by rfl)) fun a ha => ?_
          refine pZ ?_
          refine hK14 _ _ ?_
          refine cTrue ha (by rfl) ?_
          refine wp_seq_k fun K17 hK17 => ?_
          have hs := hs.cli_shut (bt := bt) (bm := bm) (o := false) (c := snapS q m i) (bc := bc) (by repeat first | exact .here | apply Pick.there) (by repeat first | exact .here | apply Pick.there) (by repeat first | exact .here | apply Pick.there) (by repeat first | exact .here | apply Pick.there) (by repeat first | exact .here | apply Pick.there)
          have hgl : (snapS q m i).gone.length ≤ 1000000 := by unfold snapS; simp only [List.length_append]; have := gone_len q.under (q.l.take i); have := List.length_take_le i q.l; omega
          refine wp_region_lit ?_
          refine pY ha (yMove (by rfl)) fun a ha => ?_
          first | refine pY ha (yLoadRA Tryz.isAgg66 Tryz.sizeOf66 hs (by rfl) (by repeat first | exact .here | apply Pick.there) (by rfl)) fun a ha => ?_ | refine pY ha (yLoadBA Tryz.isAgg66 Tryz.sizeOf66 hs (by rfl) (by repeat first | exact .here | apply Pick.there) (by rfl)) fun a ha => ?_
          refine pC ha (nCall Tryz.call28 (by rfl)) rfl (CLoses_c x 14 (hp x hmem).1 (hp x hmem).2 hgl hs (by repeat first | exact .here | apply Pick.there) (by repeat first | exact .here | apply Pick.there)) ?_
          rintro v w ⟨rfl, hs⟩ a ha
          refine pZ ?_
          refine hK17 _ _ ?_
          refine wp_exit ?_
          refine hK11 _ _ ?_
          refine wp_region_lit ?_
          first | refine pY ha (yAddN (by rfl) (by rfl) ⟨by omega, by omega⟩) fun a ha => ?_ | refine pY ha (yAdd (by rfl) (by rfl)) fun a ha => ?_
          refine pY ha (yMove (by rfl)) fun a ha => ?_
          refine pZ ?_
          first
            | (have hsk : 0 < i ∨ q.under = false := by first | exact .inl (by simpa using hg2) | exact .inr (by simpa [snapS] using hc40)
               have e1 := keep_skip (l := q.l) hsk
               rw [snap_skip hsk hx] at hs
               refine ⟨(i + 1, B, d), ⟨by simp only; omega, ?_, ?_⟩, by simp only; omega⟩
               · simp only; rw [e1]; exact has5 ha (by rfl) (by rfl) (by rfl) (by rfl) (by rfl)
               · simp only; rw [e1]; exact (by first | exact hs | exact hs.to (by repeat first | exact Picks.refl | refine Picks.cons (by repeat first | exact .here | apply Pick.there) ?_ | refine Picks.skip ?_)))
            | (obtain rfl : i = 0 := by have : ¬ (0 < (i : Int)) := by simpa using hg2
                                        omega
               have hu : q.under = true := by simpa [snapS] using hc40
               have e1 : keepL q.under (q.l.take (0 + 1)) = keepL q.under (q.l.take 0) ++ [snapP x] := by rw [hu, (keep_one hx).1, List.take_zero, keepL_nil]; rfl
               refine ⟨(0 + 1, A, c), ⟨by simp only; omega, ?_, ?_⟩, by simp only; omega⟩
               · simp only; rw [e1, List.length_append]; exact has5 ha (by rfl) (by rfl) (by rfl) (by rfl) (by rfl)
               · simp only; rw [e1, snap_one hu hx, List.length_append]; exact (by first | exact hs | exact hs.to (by repeat first | exact Picks.refl | refine Picks.cons (by repeat first | exact .here | apply Pick.there) ?_ | refine Picks.skip ?_)))
      · refine wp_exit ?_
        refine hK7 _ _ ?_
        obtain rfl : i = q.l.length := by omega
        rw [List.take_length] at hs ha
        obtain ⟨bt, bm, A, n, A', n', hl3, hl4, hs⟩ := hs.cli_open (bc := bc) (c := snapS q m q.l.length) (o := false) (by repeat first | exact .here | apply Pick.there)
        refine wp_region_lit ?_
        refine pY ha (yMove (by rfl)) fun a ha => ?_
        refine pY ha (yMove (by rfl)) fun a ha => ?_
        refine pY ha (yNilP (by rfl)) fun a ha => ?_
        refine pY ha (yFieldA Tryz.runUnderlying61 rfl Tryz.sizeOf59 rfl (by rfl)) fun a ha => ?_
        refine pStore ha Tryz.sizeOf59 hs (by rfl) (by rfl) rfl rfl (by repeat first | exact .here | apply Pick.there) (by rfl) fun w hs => ?_
        refine pZ ?_
        show bodyPost Tryz.prog Tryz.f29 _ .normal _ _
        refine end0 rfl ha ?_
        exact ⟨rfl, (hs.cli_shut (bt := bt) (bm := bm) (o := true) (c := snapC q m) (bc := bc) (by repeat first | exact .here | apply Pick.there) (by repeat first | exact .here | apply Pick.there) (by repeat first | exact .here | apply Pick.there) (by repeat first | exact .here | apply Pick.there) (by repeat first | exact .here | apply Pick.there)).to (.cons .here (by repeat first | exact .refl | refine .skip ?_))⟩
end
end Go.Proofs.YtkbbnpjbjakpcaaGreatDoor

set_option linter.unusedVariables false
set_option linter.unusedSimpArgs false
namespace Go.Proofs.YtkbbnpjbjakpcaaGreatDoor
open Go.RowKit Go.Lib Go.Proofs.YtkbbnpjbjakpcaaGreatDoorW.PrintLast
def doneC (q : Cli) (m : Msg) : Cli := if mineB q m.client m.seq = true then (if m.rev ≤ q.rev then goesC q else { q with told := true }) else q
def abortC (q : Cli) (m : Msg) : Cli := if mineB q m.client m.seq = true then goesC (losesC q (headP q) m.code) else q
def refC (q : Cli) (m : Msg) : Cli := { q with behind := q.behind || decide (m.code = 14) }
def snapIn (q : Cli) (m : Msg) : Cli := if m.rev > q.rev then snapC q m else q
theorem mine_len {q : Cli} {c s : Int} (h : mineB q c s = true) : 0 < q.l.length := by
  unfold mineB at h
  simp only [Bool.and_eq_true, decide_eq_true_eq] at h
  exact h.2.2
section
variable {W w : World} {cs r r2 : List Ch} {o : Bool} {bc : Nat} {q : Cli}
theorem CInD_c (hT : Tabs W) {es : List Value} {m : Msg} (hc : okC q) (hk0 : m.kind = 5) (hm : mM m) (hb : (wMsg m).1.length ≤ 8796093022208) (hE : msgE m = 0) (hs : Sep W w cs) (hk : Pick cs (.cli o bc q) r) (hk2 : Pick r (.el kMsg m es) r2) :
    Calls Tryz.prog 10 #[.pointer (some ⟨bc, 0, none⟩), .agg es.toArray] w (Rt fun v w' => v = .int .i64 0 ∧ Sep W w' (.cli false bc (doneC q m) :: r)) := by
  have hs := hs.cli_weak hk
  have hk2 : Pick (.cli false bc q :: r) (.el kMsg m es) (.cli false bc q :: r2) := .there hk2
  have hs : Sep W w (.el kMsg m es :: .cli false bc q :: r) := hs.cp hk2
  have hs : Sep W w (.el kMsg m es :: .el kMsg m es :: .cli false bc q :: r) := hs.cp .here
  obtain ⟨A1, n1, c1, A2, n2, c2, A3, n3, c3, rfl, hs⟩ := hs.el_msg .here
  obtain ⟨bt, bm, A, n, A', n', hl1, hl2, hs⟩ := hs.cli_open (bc := bc) (c := q) (o := false) (.there (.there (.there (.there (.there .here)))))
  have hs := hs.pl_rd (.there (.there (.there .here)))
  obtain ⟨hla1, hla2⟩ := hc.last
  refine enter Tryz.func10 Tryz.ntmps10 rfl rfl fun a (ha : Has a 144 [(0, _), (1, _)]) => ?_
  refine wp_seq_k fun K1 hK1 => ?_
  refine wp_region_lit ?_
  refine pBox (es := _) ha (by rfl) (by rfl) hs rfl fun b3 w hs a ha => ?_
  refine pY ha (yAssign (by rfl)) fun a ha => ?_
  refine pZ ?_
  refine hK1 _ _ ?_
  refine scopeF 1 99999 ?_
  refine wp_seq_k fun K2 hK2 => ?_
  refine wp_seq_k fun K3 hK3 => ?_
  refine wp_region_lit ?_
  refine pY ha (yMove (by rfl)) fun a ha => ?_
  refine pC ha (nCall Tryz.call21 (by rfl)) rfl (CNone_c hc.id hs (by repeat first | exact .here | apply Pick.there)) ?_
  rintro v w ⟨rfl, hs⟩ a ha
  refine pZ ?_
  refine hK3 _ _ ?_
  refine cFalse ha (by rfl) ?_
  refine wp_skip ?_
  refine hK2 _ _ ?_
  refine wp_seq_k fun K4 hK4 => ?_
  refine wp_seq_k fun K5 hK5 => ?_
  refine wp_region_lit ?_
  first | refine pY ha (yLoadRA Tryz.isAgg37 Tryz.sizeOf37 hs (by rfl) (by repeat first | exact .here | apply Pick.there) (by rfl)) fun a ha => ?_ | refine pY ha (yLoadBA Tryz.isAgg37 Tryz.sizeOf37 hs (by rfl) (by repeat first | exact .here | apply Pick.there) (by rfl)) fun a ha => ?_
  refine pC ha (nCall Tryz.call24 (by rfl)) rfl (MCheck_c hT (x := m) hm hb hs (by repeat first | exact .here | apply Pick.there)) ?_
  rintro v w ⟨rfl, hs⟩ a ha
  rw [hE] at ha
  refine pY ha (yNeq (by rfl) (by rfl)) fun a ha => ?_
  refine pZ ?_
  refine hK5 _ _ ?_
  refine cFalse ha (by rfl) ?_
  refine wp_skip ?_
  refine hK4 _ _ ?_
  refine wp_seq_k fun K6 hK6 => ?_
  refine wp_seq_k fun K7 hK7 => ?_
  refine wp_region_lit ?_
  refine pY ha (yFieldA Tryz.runUnderlying37 rfl Tryz.sizeOf3 rfl (by rfl)) fun a ha => ?_
  first | refine pY ha (yLoadB Tryz.isAgg3 hs (by rfl) (by repeat first | exact .here | apply Pick.there) (by rfl)) fun a ha => ?_ | refine pY ha (yLoadR Tryz.isAgg3 hs (by rfl) (by repeat first | exact .here | apply Pick.there) (by rfl)) fun a ha => ?_ | refine pY ha (yLoadR0 Tryz.isAgg3 hs (by rfl) (by repeat first | exact .here | apply Pick.there) (by rfl)) fun a ha => ?_
  refine pZ ?_
  refine hK7 _ _ ?_
  refine wp_block ?_
  refine wp_seq_k fun K8 hK8 => ?_
  refine wp_region_lit ?_
  refine pY ha (yEql (by rfl) (by rfl)) fun a ha => ?_
  refine pY ha (yAssign (by rfl)) fun a ha => ?_
  refine pZ ?_
  refine hK8 _ _ ?_
  first | refine cDec ha (by rfl) (fun hc14 => ?_) (fun hc14 => ?_) | refine cSplit ha (by rfl) (fun hc14 => ?_) (fun hc14 => ?_)
  · exact absurd hc14 (by omega)
  · refine wp_seq_k fun K9 hK9 => ?_
    refine wp_region_lit ?_
    refine pY ha (yEql (by rfl) (by rfl)) fun a ha => ?_
    refine pY ha (yAssign (by rfl)) fun a ha => ?_
    refine pZ ?_
    refine hK9 _ _ ?_
    first | refine cDec ha (by rfl) (fun hc38 => ?_) (fun hc38 => ?_) | refine cSplit ha (by rfl) (fun hc38 => ?_) (fun hc38 => ?_)
    · exact absurd hc38 (by omega)
    · refine wp_seq_k fun K10 hK10 => ?_
      refine wp_region_lit ?_
      refine pY ha (yEql (by rfl) (by rfl)) fun a ha => ?_
      refine pY ha (yAssign (by rfl)) fun a ha => ?_
      refine pZ ?_
      refine hK10 _ _ ?_
      first | refine cDec ha (by rfl) (fun hc77 => ?_) (fun hc77 => ?_) | refine cSplit ha (by rfl) (fun hc77 => ?_) (fun hc77 => ?_)
      · refine wp_seq_k fun K11 hK11 => ?_
        refine wp_region_lit ?_
        refine pY ha (yMove (by rfl)) fun a ha => ?_
        refine pY ha (yFieldA Tryz.runUnderlying37 rfl Tryz.sizeOf3 rfl (by rfl)) fun a ha => ?_
        first | refine pY ha (yLoadB Tryz.isAgg3 hs (by rfl) (by repeat first | exact .here | apply Pick.there) (by rfl)) fun a ha => ?_ | refine pY ha (yLoadR Tryz.isAgg3 hs (by rfl) (by repeat first | exact .here | apply Pick.there) (by rfl)) fun a ha => ?_ | refine pY ha (yLoadR0 Tryz.isAgg3 hs (by rfl) (by repeat first | exact .here | apply Pick.there) (by rfl)) fun a ha => ?_
        refine pY ha (yFieldA Tryz.runUnderlying37 rfl Tryz.sizeOf3 rfl (by rfl)) fun a ha => ?_
        first | refine pY ha (yLoadB Tryz.isAgg3 hs (by rfl) (by repeat first | exact .here | apply Pick.there) (by rfl)) fun a ha => ?_ | refine pY ha (yLoadR Tryz.isAgg3 hs (by rfl) (by repeat first | exact .here | apply Pick.there) (by rfl)) fun a ha => ?_ | refine pY ha (yLoadR0 Tryz.isAgg3 hs (by rfl) (by repeat first | exact .here | apply Pick.there) (by rfl)) fun a ha => ?_
        refine pC ha (nCall Tryz.call26 (by rfl)) rfl (CMine_c (q := q) hc.last m.client m.seq hs (by repeat first | exact .here | apply Pick.there)) ?_
        rintro v w ⟨rfl, hs⟩ a ha
        refine pZ ?_
        refine hK11 _ _ ?_
        first | refine cNDec ha (by rfl) (fun hc84 => ?_) (fun hc84 => ?_) | refine cDec ha (by rfl) (fun hc84 => ?_) (fun hc84 => ?_) | refine cSplit ha (by rfl) (fun hc84 => ?_) (fun hc84 => ?_)
        · have hl0 := mine_len hc84
          refine wp_seq_k fun K12 hK12 => ?_
          refine wp_region_lit ?_
          refine pY ha (yMove (by rfl)) fun a ha => ?_
          refine pY ha (yNilP (by rfl)) fun a ha => ?_
          refine pY ha (yFieldA Tryz.runUnderlying61 rfl Tryz.sizeOf4 rfl (by rfl)) fun a ha => ?_
          refine pStore ha Tryz.sizeOf4 hs (by rfl) (by rfl) rfl rfl (by repeat first | exact .here | apply Pick.there) (by rfl) fun w hs => ?_
          refine pZ ?_
          refine hK12 _ _ ?_
          refine wp_seq_k fun K13 hK13 => ?_
          refine dStart (fun w => ∃ rs, Sep W w (.blk b3 37 [.int .i64 m.kind, .int .i64 m.client, .int .i64 m.seq, .int .i64 m.rev, .int .i64 m.code, .slice A1 n1 c1, .slice A2 n2 c2, .slice A3 n3 c3, .int .i64 m.last] :: .blk bc 61 (cliV { q with told := true } bt (.slice A q.l.length n) (.slice A' q.gone.length n')) :: rs)) [] 127 127 (by kernel_rfl) (by kernel_rfl) rfl (⟨_, hs.drew.two (by repeat first | exact .here | apply Pick.there) (by repeat first | exact .here | apply Pick.there)⟩) ?_
          have hs := Sep.drew hs
          generalize World.drew _ = w at hs ⊢
          refine dP 0 1 rfl ha (fun _ => yFieldA Tryz.runUnderlying37 rfl Tryz.sizeOf3 rfl (by rfl)) fun a ha => ?_
          first | refine dT 1 3 rfl ha (fun _ ⟨rs, hs⟩ => yLoadB Tryz.isAgg3 hs (by rfl) (by repeat first | exact .here | apply Pick.there) (by rfl)) (⟨_, hs.two (by repeat first | exact .here | apply Pick.there) (by repeat first | exact .here | apply Pick.there)⟩) fun a ha => ?_ | refine dT 1 3 rfl ha (fun _ ⟨rs, hs⟩ => yLoadR Tryz.isAgg3 hs (by rfl) (by repeat first | exact .here | apply Pick.there) (by rfl)) (⟨_, hs.two (by repeat first | exact .here | apply Pick.there) (by repeat first | exact .here | apply Pick.there)⟩) fun a ha => ?_ | refine dT 1 3 rfl ha (fun _ ⟨rs, hs⟩ => yLoadR0 Tryz.isAgg3 hs (by rfl) (by repeat first | exact .here | apply Pick.there) (by rfl)) (⟨_, hs.two (by repeat first | exact .here | apply Pick.there) (by repeat first | exact .here | apply Pick.there)⟩) fun a ha => ?_
          refine dP 2 7 rfl ha (fun _ => yMove (by rfl)) fun a ha => ?_
          refine dP 3 15 rfl ha (fun _ => yNilP (by rfl)) fun a ha => ?_
          refine dP 4 31 rfl ha (fun _ => yFieldA Tryz.runUnderlying61 rfl Tryz.sizeOf3 rfl (by rfl)) fun a ha => ?_
          first | refine dT 5 63 rfl ha (fun _ ⟨rs, hs⟩ => yLoadB Tryz.isAgg3 hs (by rfl) (by repeat first | exact .here | apply Pick.there) (by rfl)) (⟨_, hs.two (by repeat first | exact .here | apply Pick.there) (by repeat first | exact .here | apply Pick.there)⟩) fun a ha => ?_ | refine dT 5 63 rfl ha (fun _ ⟨rs, hs⟩ => yLoadR Tryz.isAgg3 hs (by rfl) (by repeat first | exact .here | apply Pick.there) (by rfl)) (⟨_, hs.two (by repeat first | exact .here | apply Pick.there) (by repeat first | exact .here | apply Pick.there)⟩) fun a ha => ?_ | refine dT 5 63 rfl ha (fun _ ⟨rs, hs⟩ => yLoadR0 Tryz.isAgg3 hs (by rfl) (by repeat first | exact .here | apply Pick.there) (by rfl)) (⟨_, hs.two (by repeat first | exact .here | apply Pick.there) (by repeat first | exact .here | apply Pick.there)⟩) fun a ha => ?_
          refine dP 6 127 rfl ha (fun _ => yLeq (by rfl) (by rfl)) fun a ha => ?_
          refine dZ (by kernel_rfl) ?_
          refine hK13 _ _ ?_
          first | refine cDec ha (by rfl) (fun hc94 => ?_) (fun hc94 => ?_) | refine cSplit ha (by rfl) (fun hc94 => ?_) (fun hc94 => ?_)
          · have hs := hs.cli_shut (bt := bt) (bm := bm) (o := false) (c := { q with told := true }) (bc := bc) (by repeat first | exact .here | apply Pick.there) (by repeat first | exact .here | apply Pick.there) (by repeat first | exact .here | apply Pick.there) (by repeat first | exact .here | apply Pick.there) (by repeat first | exact .here | apply Pick.there)
            refine wp_region_lit ?_
            refine pY ha (yMove (by rfl)) fun a ha => ?_
            refine pC ha (nCall Tryz.call27 (by rfl)) rfl (CGoes_c (q := { q with told := true }) hc.last hl0 hs (by repeat first | exact .here | apply Pick.there)) ?_
            rintro v w ⟨rfl, hs⟩ a ha
            refine pZ ?_
            refine hK6 _ _ ?_
            refine wp_seq_k fun K14 hK14 => ?_
            refine wp_label ?_
            refine hK14 _ _ ?_
            refine wp_seq_k fun K15 hK15 => ?_
            refine wp_region_lit ?_
            refine pY ha (yMove (by rfl)) fun a ha => ?_
            refine pY ha (yAssign (by rfl)) fun a ha => ?_
            refine pZ ?_
            refine hK15 _ _ ?_
            refine wp_ret ?_
            show bodyPost Tryz.prog Tryz.f10 _ .ret _ _
            refine ret1 rfl ha (by rfl) ?_
            rw [show doneC q m = goesC q by unfold doneC; rw [if_pos hc84, if_pos hc94]]
            exact ⟨rfl, hs.to (.cons .here (by repeat first | exact .refl | refine .skip ?_))⟩
          · refine wp_skip ?_
            refine hK6 _ _ ?_
            refine wp_seq_k fun K16 hK16 => ?_
            refine wp_label ?_
            refine hK16 _ _ ?_
            refine wp_seq_k fun K17 hK17 => ?_
            refine wp_region_lit ?_
            refine pY ha (yMove (by rfl)) fun a ha => ?_
            refine pY ha (yAssign (by rfl)) fun a ha => ?_
            refine pZ ?_
            refine hK17 _ _ ?_
            refine wp_ret ?_
            show bodyPost Tryz.prog Tryz.f10 _ .ret _ _
            refine ret1 rfl ha (by rfl) ?_
            rw [show doneC q m = { q with told := true } by unfold doneC; rw [if_pos hc84, if_neg hc94]]
            exact ⟨rfl, (hs.cli_shut (bt := bt) (bm := bm) (o := false) (c := { q with told := true }) (bc := bc) (by repeat first | exact .here | apply Pick.there) (by repeat first | exact .here | apply Pick.there) (by repeat first | exact .here | apply Pick.there) (by repeat first | exact .here | apply Pick.there) (by repeat first | exact .here | apply Pick.there)).to (.cons .here (by repeat first | exact .refl | refine .skip ?_))⟩
        · refine wp_skip ?_
          refine hK6 _ _ ?_
          refine wp_seq_k fun K18 hK18 => ?_
          refine wp_label ?_
          refine hK18 _ _ ?_
          refine wp_seq_k fun K19 hK19 => ?_
          refine wp_region_lit ?_
          refine pY ha (yMove (by rfl)) fun a ha => ?_
          refine pY ha (yAssign (by rfl)) fun a ha => ?_
          refine pZ ?_
          refine hK19 _ _ ?_
          refine wp_ret ?_
          show bodyPost Tryz.prog Tryz.f10 _ .ret _ _
          refine ret1 rfl ha (by rfl) ?_
          rw [show doneC q m = q by unfold doneC; rw [if_neg (by rw [hc84]; decide)]]
          exact ⟨rfl, (hs.cli_shut (bt := bt) (bm := bm) (o := false) (c := q) (bc := bc) (by repeat first | exact .here | apply Pick.there) (by repeat first | exact .here | apply Pick.there) (by repeat first | exact .here | apply Pick.there) (by repeat first | exact .here | apply Pick.there) (by repeat first | exact .here | apply Pick.there)).to (.cons .here (by repeat first | exact .refl | refine .skip ?_))⟩
      · exact absurd hk0 hc77
theorem CInA_c (hT : Tabs W) {es : List Value} {m : Msg} (hc : okC q) (hk0 : m.kind = 6) (hm : mM m) (hb : (wMsg m).1.length ≤ 8796093022208) (hE : msgE m = 0) (hg : q.gone.length ≤ 1000000) (hs : Sep W w cs) (hk : Pick cs (.cli o bc q) r) (hk2 : Pick r (.el kMsg m es) r2) :
    Calls Tryz.prog 10 #[.pointer (some ⟨bc, 0, none⟩), .agg es.toArray] w (Rt fun v w' => v = .int .i64 0 ∧ Sep W w' (.cli false bc (abortC q m) :: r)) := by
  have hs := hs.cli_weak hk
  have hk2 : Pick (.cli false bc q :: r) (.el kMsg m es) (.cli false bc q :: r2) := .there hk2
  have hs : Sep W w (.el kMsg m es :: .cli false bc q :: r) := hs.cp hk2
  have hs : Sep W w (.el kMsg m es :: .el kMsg m es :: .cli false bc q :: r) := hs.cp .here
  obtain ⟨A1, n1, c1, A2, n2, c2, A3, n3, c3, rfl, hs⟩ := hs.el_msg .here
  obtain ⟨bt, bm, A, n, A', n', hl1, hl2, hs⟩ := hs.cli_open (bc := bc) (c := q) (o := false) (.there (.there (.there (.there (.there .here)))))
  have hs := hs.pl_rd (.there (.there (.there .here)))
  obtain ⟨hla1, hla2⟩ := hc.last
  refine enter Tryz.func10 Tryz.ntmps10 rfl rfl fun a (ha : Has a 144 [(0, _), (1, _)]) => ?_
  refine wp_seq_k fun K1 hK1 => ?_
  refine wp_region_lit ?_
  refine pBox (es := _) ha (by rfl) (by rfl) hs rfl fun b3 w hs a ha => ?_
  refine pY ha (yAssign (by rfl)) fun a ha => ?_
  refine pZ ?_
  refine hK1 _ _ ?_
  refine scopeF 1 99999 ?_
  refine wp_seq_k fun K2 hK2 => ?_
  refine wp_seq_k fun K3 hK3 => ?_
  refine wp_region_lit ?_
  refine pY ha (yMove (by rfl)) fun a ha => ?_
  refine pC ha (nCall Tryz.call21 (by rfl)) rfl (CNone_c hc.id hs (by repeat first | exact .here | apply Pick.there)) ?_
  rintro v w ⟨rfl, hs⟩ a ha
  refine pZ ?_
  refine hK3 _ _ ?_
  refine cFalse ha (by rfl) ?_
  refine wp_skip ?_
  refine hK2 _ _ ?_
  refine wp_seq_k fun K4 hK4 => ?_
  refine wp_seq_k fun K5 hK5 => ?_
  refine wp_region_lit ?_
  first | refine pY ha (yLoadRA Tryz.isAgg37 Tryz.sizeOf37 hs (by rfl) (by repeat first | exact .here | apply Pick.there) (by rfl)) fun a ha => ?_ | refine pY ha (yLoadBA Tryz.isAgg37 Tryz.sizeOf37 hs (by rfl) (by repeat first | exact .here | apply Pick.there) (by rfl)) fun a ha => ?_
  refine pC ha (nCall Tryz.call24 (by rfl)) rfl (MCheck_c hT (x := m) hm hb hs (by repeat first | exact .here | apply Pick.there)) ?_
  rintro v w ⟨rfl, hs⟩ a ha
  rw [hE] at ha
  refine pY ha (yNeq (by rfl) (by rfl)) fun a ha => ?_
  refine pZ ?_
  refine hK5 _ _ ?_
  refine cFalse ha (by rfl) ?_
  refine wp_skip ?_
  refine hK4 _ _ ?_
  refine wp_seq_k fun K6 hK6 => ?_
  refine wp_seq_k fun K7 hK7 => ?_
  refine wp_region_lit ?_
  refine pY ha (yFieldA Tryz.runUnderlying37 rfl Tryz.sizeOf3 rfl (by rfl)) fun a ha => ?_
  first | refine pY ha (yLoadB Tryz.isAgg3 hs (by rfl) (by repeat first | exact .here | apply Pick.there) (by rfl)) fun a ha => ?_ | refine pY ha (yLoadR Tryz.isAgg3 hs (by rfl) (by repeat first | exact .here | apply Pick.there) (by rfl)) fun a ha => ?_ | refine pY ha (yLoadR0 Tryz.isAgg3 hs (by rfl) (by repeat first | exact .here | apply Pick.there) (by rfl)) fun a ha => ?_
  refine pZ ?_
  refine hK7 _ _ ?_
  refine wp_block ?_
  refine wp_seq_k fun K8 hK8 => ?_
  refine wp_region_lit ?_
  refine pY ha (yEql (by rfl) (by rfl)) fun a ha => ?_
  refine pY ha (yAssign (by rfl)) fun a ha => ?_
  refine pZ ?_
  refine hK8 _ _ ?_
  first | refine cDec ha (by rfl) (fun hc14 => ?_) (fun hc14 => ?_) | refine cSplit ha (by rfl) (fun hc14 => ?_) (fun hc14 => ?_)
  · exact absurd hc14 (by omega)
  · refine wp_seq_k fun K9 hK9 => ?_
    refine wp_region_lit ?_
    refine pY ha (yEql (by rfl) (by rfl)) fun a ha => ?_
    refine pY ha (yAssign (by rfl)) fun a ha => ?_
    refine pZ ?_
    refine hK9 _ _ ?_
    first | refine cDec ha (by rfl) (fun hc38 => ?_) (fun hc38 => ?_) | refine cSplit ha (by rfl) (fun hc38 => ?_) (fun hc38 => ?_)
    · exact absurd hc38 (by omega)
    · refine wp_seq_k fun K10 hK10 => ?_
      refine wp_region_lit ?_
      refine pY ha (yEql (by rfl) (by rfl)) fun a ha => ?_
      refine pY ha (yAssign (by rfl)) fun a ha => ?_
      refine pZ ?_
      refine hK10 _ _ ?_
      first | refine cDec ha (by rfl) (fun hc77 => ?_) (fun hc77 => ?_) | refine cSplit ha (by rfl) (fun hc77 => ?_) (fun hc77 => ?_)
      · exact absurd hc77 (by omega)
      · refine wp_seq_k fun K11 hK11 => ?_
        refine wp_region_lit ?_
        refine pY ha (yEql (by rfl) (by rfl)) fun a ha => ?_
        refine pY ha (yAssign (by rfl)) fun a ha => ?_
        refine pZ ?_
        refine hK11 _ _ ?_
        first | refine cDec ha (by rfl) (fun hc97 => ?_) (fun hc97 => ?_) | refine cSplit ha (by rfl) (fun hc97 => ?_) (fun hc97 => ?_)
        · refine wp_seq_k fun K12 hK12 => ?_
          refine wp_region_lit ?_
          refine pY ha (yMove (by rfl)) fun a ha => ?_
          refine pY ha (yFieldA Tryz.runUnderlying37 rfl Tryz.sizeOf3 rfl (by rfl)) fun a ha => ?_
          first | refine pY ha (yLoadB Tryz.isAgg3 hs (by rfl) (by repeat first | exact .here | apply Pick.there) (by rfl)) fun a ha => ?_ | refine pY ha (yLoadR Tryz.isAgg3 hs (by rfl) (by repeat first | exact .here | apply Pick.there) (by rfl)) fun a ha => ?_ | refine pY ha (yLoadR0 Tryz.isAgg3 hs (by rfl) (by repeat first | exact .here | apply Pick.there) (by rfl)) fun a ha => ?_
          refine pY ha (yFieldA Tryz.runUnderlying37 rfl Tryz.sizeOf3 rfl (by rfl)) fun a ha => ?_
          first | refine pY ha (yLoadB Tryz.isAgg3 hs (by rfl) (by repeat first | exact .here | apply Pick.there) (by rfl)) fun a ha => ?_ | refine pY ha (yLoadR Tryz.isAgg3 hs (by rfl) (by repeat first | exact .here | apply Pick.there) (by rfl)) fun a ha => ?_ | refine pY ha (yLoadR0 Tryz.isAgg3 hs (by rfl) (by repeat first | exact .here | apply Pick.there) (by rfl)) fun a ha => ?_
          refine pC ha (nCall Tryz.call26 (by rfl)) rfl (CMine_c (q := q) hc.last m.client m.seq hs (by repeat first | exact .here | apply Pick.there)) ?_
          rintro v w ⟨rfl, hs⟩ a ha
          refine pZ ?_
          refine hK12 _ _ ?_
          first | refine cNDec ha (by rfl) (fun hc104 => ?_) (fun hc104 => ?_) | refine cDec ha (by rfl) (fun hc104 => ?_) (fun hc104 => ?_) | refine cSplit ha (by rfl) (fun hc104 => ?_) (fun hc104 => ?_)
          · have hl0 := mine_len hc104
            obtain ⟨x, hx⟩ : ∃ x, q.l[0]? = some x := ⟨_, List.getElem?_eq_getElem hl0⟩
            have hmem := List.mem_of_getElem? hx
            have hh : headP q = x := by unfold headP; rw [List.getD_eq_getElem?_getD, hx]; rfl
            obtain ⟨b0, off, A4, n4, c4, rfl, hs⟩ := hs.rd_pnd (by repeat first | exact .here | apply Pick.there) hx
            refine wp_seq_k fun K13 hK13 => ?_
            refine dStart (fun w => ∃ rs, Sep W w (.blk b3 37 [.int .i64 m.kind, .int .i64 m.client, .int .i64 m.seq, .int .i64 m.rev, .int .i64 m.code, .slice A1 n1 c1, .slice A2 n2 c2, .slice A3 n3 c3, .int .i64 m.last] :: .blk bc 61 (cliV q bt (.slice (some ⟨b0, off, none⟩) q.l.length n) (.slice A' q.gone.length n')) :: .at b0 (off + 0 * 2) [.slice A4 n4 c4, .int .i64 x.e] :: rs)) [9] 1023 511 (by kernel_rfl) (by kernel_rfl) rfl (⟨_, hs.drew.three (by repeat first | exact .here | apply Pick.there) (by repeat first | exact .here | apply Pick.there) (by repeat first | exact .here | apply Pick.there)⟩) ?_
            have hs := Sep.drew hs
            generalize World.drew _ = w at hs ⊢
            refine dP 0 1 rfl ha (fun _ => yMove (by rfl)) fun a ha => ?_
            refine dP 1 3 rfl ha (fun _ => yMove (by rfl)) fun a ha => ?_
            refine dP 2 7 rfl ha (fun _ => yNilP (by rfl)) fun a ha => ?_
            refine dP 3 15 rfl ha (fun _ => yFieldA Tryz.runUnderlying61 rfl Tryz.sizeOf59 rfl (by rfl)) fun a ha => ?_
            first | refine dT 4 31 rfl ha (fun _ ⟨rs, hs⟩ => yLoadB Tryz.isAgg59 hs (by rfl) (by repeat first | exact .here | apply Pick.there) (by rfl)) (⟨_, hs.three (by repeat first | exact .here | apply Pick.there) (by repeat first | exact .here | apply Pick.there) (by repeat first | exact .here | apply Pick.there)⟩) fun a ha => ?_ | refine dT 4 31 rfl ha (fun _ ⟨rs, hs⟩ => yLoadR Tryz.isAgg59 hs (by rfl) (by repeat first | exact .here | apply Pick.there) (by rfl)) (⟨_, hs.three (by repeat first | exact .here | apply Pick.there) (by repeat first | exact .here | apply Pick.there) (by repeat first | exact .here | apply Pick.there)⟩) fun a ha => ?_ | refine dT 4 31 rfl ha (fun _ ⟨rs, hs⟩ => yLoadR0 Tryz.isAgg59 hs (by rfl) (by repeat first | exact .here | apply Pick.there) (by rfl)) (⟨_, hs.three (by repeat first | exact .here | apply Pick.there) (by repeat first | exact .here | apply Pick.there) (by repeat first | exact .here | apply Pick.there)⟩) fun a ha => ?_
            refine dP 5 63 rfl ha (fun _ => yIndexA Tryz.runUnderlying59 Tryz.sizeOf66 (by rfl) (by rfl) (by omega) (by omega)) fun a ha => ?_
            first | refine dT 6 127 rfl ha (fun _ ⟨rs, hs⟩ => yLoadRA Tryz.isAgg66 Tryz.sizeOf66 hs (by rfl) (by repeat first | exact .here | apply Pick.there) (by rfl)) (⟨_, hs.three (by repeat first | exact .here | apply Pick.there) (by repeat first | exact .here | apply Pick.there) (by repeat first | exact .here | apply Pick.there)⟩) fun a ha => ?_ | refine dT 6 127 rfl ha (fun _ ⟨rs, hs⟩ => yLoadBA Tryz.isAgg66 Tryz.sizeOf66 hs (by rfl) (by repeat first | exact .here | apply Pick.there) (by rfl)) (⟨_, hs.three (by repeat first | exact .here | apply Pick.there) (by repeat first | exact .here | apply Pick.there) (by repeat first | exact .here | apply Pick.there)⟩) fun a ha => ?_
            refine dP 7 255 rfl ha (fun _ => yFieldA Tryz.runUnderlying37 rfl Tryz.sizeOf3 rfl (by rfl)) fun a ha => ?_
            first | refine dT 8 511 rfl ha (fun _ ⟨rs, hs⟩ => yLoadB Tryz.isAgg3 hs (by rfl) (by repeat first | exact .here | apply Pick.there) (by rfl)) (⟨_, hs.three (by repeat first | exact .here | apply Pick.there) (by repeat first | exact .here | apply Pick.there) (by repeat first | exact .here | apply Pick.there)⟩) fun a ha => ?_ | refine dT 8 511 rfl ha (fun _ ⟨rs, hs⟩ => yLoadR Tryz.isAgg3 hs (by rfl) (by repeat first | exact .here | apply Pick.there) (by rfl)) (⟨_, hs.three (by repeat first | exact .here | apply Pick.there) (by repeat first | exact .here | apply Pick.there) (by repeat first | exact .here | apply Pick.there)⟩) fun a ha => ?_ | refine dT 8 511 rfl ha (fun _ ⟨rs, hs⟩ => yLoadR0 Tryz.isAgg3 hs (by rfl) (by repeat first | exact .here | apply Pick.there) (by rfl)) (⟨_, hs.three (by repeat first | exact .here | apply Pick.there) (by repeat first | exact .here | apply Pick.there) (by repeat first | exact .here | apply Pick.there)⟩) fun a ha => ?_
            have hs := hs.cli_shut (bt := bt) (bm := bm) (o := false) (c := q) (bc := bc) (by repeat first | exact .here | apply Pick.there) (by repeat first | exact .here | apply Pick.there) (by repeat first | exact .here | apply Pick.there) (by repeat first | exact .here | apply Pick.there) (by repeat first | exact .here | apply Pick.there)
            refine dCl 9 1023 rfl (by kernel_rfl) rfl ha won0 (nCall Tryz.call28 (by rfl)) rfl (CLoses_c x m.code (hc.acts x hmem).2 (fun y hy => ((hc.acts x hmem).1 y hy).2.2.1) hg hs (by repeat first | exact .here | apply Pick.there) (by repeat first | exact .here | apply Pick.there)) ?_
            rintro v w ⟨rfl, hs⟩ a ha
            refine dZ (by kernel_rfl) ?_
            refine hK13 _ _ ?_
            refine wp_region_lit ?_
            refine pY ha (yMove (by rfl)) fun a ha => ?_
            refine pC ha (nCall Tryz.call27 (by rfl)) rfl (CGoes_c (q := losesC q x m.code) hc.last hl0 hs (by repeat first | exact .here | apply Pick.there)) ?_
            rintro v w ⟨rfl, hs⟩ a ha
            refine pZ ?_
            refine hK6 _ _ ?_
            refine wp_seq_k fun K14 hK14 => ?_
            refine wp_label ?_
            refine hK14 _ _ ?_
            refine wp_seq_k fun K15 hK15 => ?_
            refine wp_region_lit ?_
            refine pY ha (yMove (by rfl)) fun a ha => ?_
            refine pY ha (yAssign (by rfl)) fun a ha => ?_
            refine pZ ?_
            refine hK15 _ _ ?_
            refine wp_ret ?_
            show bodyPost Tryz.prog Tryz.f10 _ .ret _ _
            refine ret1 rfl ha (by rfl) ?_
            rw [show abortC q m = goesC (losesC q x m.code) by unfold abortC; rw [if_pos hc104, hh]]
            exact ⟨rfl, hs.to (.cons .here (by repeat first | exact .refl | refine .skip ?_))⟩
          · refine wp_skip ?_
            refine hK6 _ _ ?_
            refine wp_seq_k fun K16 hK16 => ?_
            refine wp_label ?_
            refine hK16 _ _ ?_
            refine wp_seq_k fun K17 hK17 => ?_
            refine wp_region_lit ?_
            refine pY ha (yMove (by rfl)) fun a ha => ?_
            refine pY ha (yAssign (by rfl)) fun a ha => ?_
            refine pZ ?_
            refine hK17 _ _ ?_
            refine wp_ret ?_
            show bodyPost Tryz.prog Tryz.f10 _ .ret _ _
            refine ret1 rfl ha (by rfl) ?_
            rw [show abortC q m = q by unfold abortC; rw [if_neg (by rw [hc104]; decide)]]
            exact ⟨rfl, (hs.cli_shut (bt := bt) (bm := bm) (o := false) (c := q) (bc := bc) (by repeat first | exact .here | apply Pick.there) (by repeat first | exact .here | apply Pick.there) (by repeat first | exact .here | apply Pick.there) (by repeat first | exact .here | apply Pick.there) (by repeat first | exact .here | apply Pick.there)).to (.cons .here (by repeat first | exact .refl | refine .skip ?_))⟩
        · exact absurd hk0 hc97
theorem CInR_c (hT : Tabs W) {es : List Value} {m : Msg} (hc : okC q) (hk0 : m.kind = 9) (hm : mM m) (hb : (wMsg m).1.length ≤ 8796093022208) (hE : msgE m = 0) (hs : Sep W w cs) (hk : Pick cs (.cli o bc q) r) (hk2 : Pick r (.el kMsg m es) r2) :
    Calls Tryz.prog 10 #[.pointer (some ⟨bc, 0, none⟩), .agg es.toArray] w (Rt fun v w' => v = .int .i64 0 ∧ Sep W w' (.cli false bc (refC q m) :: r)) := by
  have hs := hs.cli_weak hk
  have hk2 : Pick (.cli false bc q :: r) (.el kMsg m es) (.cli false bc q :: r2) := .there hk2
  have hs : Sep W w (.el kMsg m es :: .cli false bc q :: r) := hs.cp hk2
  have hs : Sep W w (.el kMsg m es :: .el kMsg m es :: .cli false bc q :: r) := hs.cp .here
  obtain ⟨A1, n1, c1, A2, n2, c2, A3, n3, c3, rfl, hs⟩ := hs.el_msg .here
  obtain ⟨bt, bm, A, n, A', n', hl1, hl2, hs⟩ := hs.cli_open (bc := bc) (c := q) (o := false) (.there (.there (.there (.there (.there .here)))))
  have hs := hs.pl_rd (.there (.there (.there .here)))
  obtain ⟨hla1, hla2⟩ := hc.last
  refine enter Tryz.func10 Tryz.ntmps10 rfl rfl fun a (ha : Has a 144 [(0, _), (1, _)]) => ?_
  refine wp_seq_k fun K1 hK1 => ?_
  refine wp_region_lit ?_
  refine pBox (es := _) ha (by rfl) (by rfl) hs rfl fun b3 w hs a ha => ?_
  refine pY ha (yAssign (by rfl)) fun a ha => ?_
  refine pZ ?_
  refine hK1 _ _ ?_
  refine scopeF 1 99999 ?_
  refine wp_seq_k fun K2 hK2 => ?_
  refine wp_seq_k fun K3 hK3 => ?_
  refine wp_region_lit ?_
  refine pY ha (yMove (by rfl)) fun a ha => ?_
  refine pC ha (nCall Tryz.call21 (by rfl)) rfl (CNone_c hc.id hs (by repeat first | exact .here | apply Pick.there)) ?_
  rintro v w ⟨rfl, hs⟩ a ha
  refine pZ ?_
  refine hK3 _ _ ?_
  refine cFalse ha (by rfl) ?_
  refine wp_skip ?_
  refine hK2 _ _ ?_
  refine wp_seq_k fun K4 hK4 => ?_
  refine wp_seq_k fun K5 hK5 => ?_
  refine wp_region_lit ?_
  first | refine pY ha (yLoadRA Tryz.isAgg37 Tryz.sizeOf37 hs (by rfl) (by repeat first | exact .here | apply Pick.there) (by rfl)) fun a ha => ?_ | refine pY ha (yLoadBA Tryz.isAgg37 Tryz.sizeOf37 hs (by rfl) (by repeat first | exact .here | apply Pick.there) (by rfl)) fun a ha => ?_
  refine pC ha (nCall Tryz.call24 (by rfl)) rfl (MCheck_c hT (x := m) hm hb hs (by repeat first | exact .here | apply Pick.there)) ?_
  rintro v w ⟨rfl, hs⟩ a ha
  rw [hE] at ha
  refine pY ha (yNeq (by rfl) (by rfl)) fun a ha => ?_
  refine pZ ?_
  refine hK5 _ _ ?_
  refine cFalse ha (by rfl) ?_
  refine wp_skip ?_
  refine hK4 _ _ ?_
  refine wp_seq_k fun K6 hK6 => ?_
  refine wp_seq_k fun K7 hK7 => ?_
  refine wp_region_lit ?_
  refine pY ha (yFieldA Tryz.runUnderlying37 rfl Tryz.sizeOf3 rfl (by rfl)) fun a ha => ?_
  first | refine pY ha (yLoadB Tryz.isAgg3 hs (by rfl) (by repeat first | exact .here | apply Pick.there) (by rfl)) fun a ha => ?_ | refine pY ha (yLoadR Tryz.isAgg3 hs (by rfl) (by repeat first | exact .here | apply Pick.there) (by rfl)) fun a ha => ?_ | refine pY ha (yLoadR0 Tryz.isAgg3 hs (by rfl) (by repeat first | exact .here | apply Pick.there) (by rfl)) fun a ha => ?_
  refine pZ ?_
  refine hK7 _ _ ?_
  refine wp_block ?_
  refine wp_seq_k fun K8 hK8 => ?_
  refine wp_region_lit ?_
  refine pY ha (yEql (by rfl) (by rfl)) fun a ha => ?_
  refine pY ha (yAssign (by rfl)) fun a ha => ?_
  refine pZ ?_
  refine hK8 _ _ ?_
  first | refine cDec ha (by rfl) (fun hc14 => ?_) (fun hc14 => ?_) | refine cSplit ha (by rfl) (fun hc14 => ?_) (fun hc14 => ?_)
  · exact absurd hc14 (by omega)
  · refine wp_seq_k fun K9 hK9 => ?_
    refine wp_region_lit ?_
    refine pY ha (yEql (by rfl) (by rfl)) fun a ha => ?_
    refine pY ha (yAssign (by rfl)) fun a ha => ?_
    refine pZ ?_
    refine hK9 _ _ ?_
    first | refine cDec ha (by rfl) (fun hc38 => ?_) (fun hc38 => ?_) | refine cSplit ha (by rfl) (fun hc38 => ?_) (fun hc38 => ?_)
    · exact absurd hc38 (by omega)
    · refine wp_seq_k fun K10 hK10 => ?_
      refine wp_region_lit ?_
      refine pY ha (yEql (by rfl) (by rfl)) fun a ha => ?_
      refine pY ha (yAssign (by rfl)) fun a ha => ?_
      refine pZ ?_
      refine hK10 _ _ ?_
      first | refine cDec ha (by rfl) (fun hc77 => ?_) (fun hc77 => ?_) | refine cSplit ha (by rfl) (fun hc77 => ?_) (fun hc77 => ?_)
      · exact absurd hc77 (by omega)
      · refine wp_seq_k fun K11 hK11 => ?_
        refine wp_region_lit ?_
        refine pY ha (yEql (by rfl) (by rfl)) fun a ha => ?_
        refine pY ha (yAssign (by rfl)) fun a ha => ?_
        refine pZ ?_
        refine hK11 _ _ ?_
        first | refine cDec ha (by rfl) (fun hc97 => ?_) (fun hc97 => ?_) | refine cSplit ha (by rfl) (fun hc97 => ?_) (fun hc97 => ?_)
        · exact absurd hc97 (by omega)
        · refine wp_seq_k fun K12 hK12 => ?_
          refine wp_region_lit ?_
          refine pY ha (yEql (by rfl) (by rfl)) fun a ha => ?_
          refine pY ha (yAssign (by rfl)) fun a ha => ?_
          refine pZ ?_
          refine hK12 _ _ ?_
          first | refine cDec ha (by rfl) (fun hc117 => ?_) (fun hc117 => ?_) | refine cSplit ha (by rfl) (fun hc117 => ?_) (fun hc117 => ?_)
          · exact absurd hc117 (by omega)
          · refine wp_seq_k fun K13 hK13 => ?_
            refine wp_region_lit ?_
            refine pY ha (yEql (by rfl) (by rfl)) fun a ha => ?_
            refine pY ha (yAssign (by rfl)) fun a ha => ?_
            refine pZ ?_
            refine hK13 _ _ ?_
            first | refine cDec ha (by rfl) (fun hc129 => ?_) (fun hc129 => ?_) | refine cSplit ha (by rfl) (fun hc129 => ?_) (fun hc129 => ?_)
            · refine wp_region_lit ?_
              refine pY ha (yMove (by rfl)) fun a ha => ?_
              refine pY ha (yMove (by rfl)) fun a ha => ?_
              refine pY ha (yNilP (by rfl)) fun a ha => ?_
              refine pY ha (yFieldA Tryz.runUnderlying61 rfl Tryz.sizeOf4 rfl (by rfl)) fun a ha => ?_
              first | refine pY ha (yLoadB Tryz.isAgg4 hs (by rfl) (by repeat first | exact .here | apply Pick.there) (by rfl)) fun a ha => ?_ | refine pY ha (yLoadR Tryz.isAgg4 hs (by rfl) (by repeat first | exact .here | apply Pick.there) (by rfl)) fun a ha => ?_ | refine pY ha (yLoadR0 Tryz.isAgg4 hs (by rfl) (by repeat first | exact .here | apply Pick.there) (by rfl)) fun a ha => ?_
              refine pY ha (yMove (by rfl)) fun a ha => ?_
              refine gSplit (t := 136) ha (by rfl) (fun hg5 => ?_) (fun hg5 => ?_)
              · rw [hg5] at ha
                have hB : refC q m = { q with behind := decide (m.code = 14) } := by unfold refC; rw [hg5]; rfl
                refine gOn ha ?_
                refine pY ha (yFieldA Tryz.runUnderlying37 rfl Tryz.sizeOf3 rfl (by rfl)) fun a ha => ?_
                refine gOn ha ?_
                first | refine pY ha (yLoadB Tryz.isAgg3 hs (by rfl) (by repeat first | exact .here | apply Pick.there) (by rfl)) fun a ha => ?_ | refine pY ha (yLoadR Tryz.isAgg3 hs (by rfl) (by repeat first | exact .here | apply Pick.there) (by rfl)) fun a ha => ?_ | refine pY ha (yLoadR0 Tryz.isAgg3 hs (by rfl) (by repeat first | exact .here | apply Pick.there) (by rfl)) fun a ha => ?_
                refine gOn ha ?_
                refine pY ha (yEql (by rfl) (by rfl)) fun a ha => ?_
                first | refine pY ha (yPickT (by rfl) (by rfl)) fun a ha => ?_ | refine pY ha (yPickF (by rfl) (by rfl)) fun a ha => ?_ | refine pY ha (yPick (by rfl) (by rfl) (by rfl)) fun a ha => ?_
                refine pY ha (yNilP (by rfl)) fun a ha => ?_
                refine pY ha (yFieldA Tryz.runUnderlying61 rfl Tryz.sizeOf4 rfl (by rfl)) fun a ha => ?_
                refine pStore ha Tryz.sizeOf4 hs (by rfl) (by rfl) rfl rfl (by repeat first | exact .here | apply Pick.there) (by rfl) fun w hs => ?_
                refine pZ ?_
                refine hK6 _ _ ?_
                refine wp_seq_k fun K14 hK14 => ?_
                refine wp_label ?_
                refine hK14 _ _ ?_
                refine wp_seq_k fun K15 hK15 => ?_
                refine wp_region_lit ?_
                refine pY ha (yMove (by rfl)) fun a ha => ?_
                refine pY ha (yAssign (by rfl)) fun a ha => ?_
                refine pZ ?_
                refine hK15 _ _ ?_
                refine wp_ret ?_
                show bodyPost Tryz.prog Tryz.f10 _ .ret _ _
                refine ret1 rfl ha (by rfl) ?_
                rw [hB]
                first | exact ⟨rfl, (hs.cli_shut (bt := bt) (bm := bm) (o := false) (c := { q with behind := true }) (bc := bc) (by repeat first | exact .here | apply Pick.there) (by repeat first | exact .here | apply Pick.there) (by repeat first | exact .here | apply Pick.there) (by repeat first | exact .here | apply Pick.there) (by repeat first | exact .here | apply Pick.there)).to (.cons .here (by repeat first | exact .refl | refine .skip ?_))⟩ | exact ⟨rfl, (hs.cli_shut (bt := bt) (bm := bm) (o := false) (c := { q with behind := decide (m.code = 14) }) (bc := bc) (by repeat first | exact .here | apply Pick.there) (by repeat first | exact .here | apply Pick.there) (by repeat first | exact .here | apply Pick.there) (by repeat first | exact .here | apply Pick.there) (by repeat first | exact .here | apply Pick.there)).to (.cons .here (by repeat first | exact .refl | refine .skip ?_))⟩
              · rw [hg5] at ha
                have hB : refC q m = { q with behind := true } := by unfold refC; rw [hg5]; rfl
                refine gOff ha fun a ha => ?_
                refine gOff ha fun a ha => ?_
                refine gOff ha fun a ha => ?_
                first | refine pY ha (yPickT (by rfl) (by rfl)) fun a ha => ?_ | refine pY ha (yPickF (by rfl) (by rfl)) fun a ha => ?_ | refine pY ha (yPick (by rfl) (by rfl) (by rfl)) fun a ha => ?_
                refine pY ha (yNilP (by rfl)) fun a ha => ?_
                refine pY ha (yFieldA Tryz.runUnderlying61 rfl Tryz.sizeOf4 rfl (by rfl)) fun a ha => ?_
                refine pStore ha Tryz.sizeOf4 hs (by rfl) (by rfl) rfl rfl (by repeat first | exact .here | apply Pick.there) (by rfl) fun w hs => ?_
                refine pZ ?_
                refine hK6 _ _ ?_
                refine wp_seq_k fun K16 hK16 => ?_
                refine wp_label ?_
                refine hK16 _ _ ?_
                refine wp_seq_k fun K17 hK17 => ?_
                refine wp_region_lit ?_
                refine pY ha (yMove (by rfl)) fun a ha => ?_
                refine pY ha (yAssign (by rfl)) fun a ha => ?_
                refine pZ ?_
                refine hK17 _ _ ?_
                refine wp_ret ?_
                show bodyPost Tryz.prog Tryz.f10 _ .ret _ _
                refine ret1 rfl ha (by rfl) ?_
                rw [hB]
                first | exact ⟨rfl, (hs.cli_shut (bt := bt) (bm := bm) (o := false) (c := { q with behind := true }) (bc := bc) (by repeat first | exact .here | apply Pick.there) (by repeat first | exact .here | apply Pick.there) (by repeat first | exact .here | apply Pick.there) (by repeat first | exact .here | apply Pick.there) (by repeat first | exact .here | apply Pick.there)).to (.cons .here (by repeat first | exact .refl | refine .skip ?_))⟩ | exact ⟨rfl, (hs.cli_shut (bt := bt) (bm := bm) (o := false) (c := { q with behind := decide (m.code = 14) }) (bc := bc) (by repeat first | exact .here | apply Pick.there) (by repeat first | exact .here | apply Pick.there) (by repeat first | exact .here | apply Pick.there) (by repeat first | exact .here | apply Pick.there) (by repeat first | exact .here | apply Pick.there)).to (.cons .here (by repeat first | exact .refl | refine .skip ?_))⟩
            · exact absurd hk0 hc129
theorem CInS_c (hT : Tabs W) {es : List Value} {m : Msg} (hc : okC q) (hk0 : m.kind = 8) (hm : mM m) (hb : (wMsg m).1.length ≤ 8796093022208) (hE : msgE m = 0) (ht : q.told = false) (hlo : loadOk m.nodes = true) (hmn : ∀ x ∈ m.nodes, mN x) (hnl : m.nodes.length ≤ 1000000000) (hb2 : q.l.length ≤ 1000) (hg : q.gone.length ≤ 1000) (hs : Sep W w cs) (hk : Pick cs (.cli o bc q) r) (hk2 : Pick r (.el kMsg m es) r2) :
    Calls Tryz.prog 10 #[.pointer (some ⟨bc, 0, none⟩), .agg es.toArray] w (Rt fun v w' => v = .int .i64 0 ∧ Sep W w' (.cli false bc (snapIn q m) :: r)) := by
  have hs := hs.cli_weak hk
  have hk2 : Pick (.cli false bc q :: r) (.el kMsg m es) (.cli false bc q :: r2) := .there hk2
  have hs : Sep W w (.el kMsg m es :: .cli false bc q :: r) := hs.cp hk2
  have hs : Sep W w (.el kMsg m es :: .el kMsg m es :: .cli false bc q :: r) := hs.cp .here
  obtain ⟨A1, n1, c1, A2, n2, c2, A3, n3, c3, rfl, hs⟩ := hs.el_msg .here
  obtain ⟨bt, bm, A, n, A', n', hl1, hl2, hs⟩ := hs.cli_open (bc := bc) (c := q) (o := false) (.there (.there (.there (.there (.there .here)))))
  have hs := hs.pl_rd (.there (.there (.there .here)))
  obtain ⟨hla1, hla2⟩ := hc.last
  refine enter Tryz.func10 Tryz.ntmps10 rfl rfl fun a (ha : Has a 144 [(0, _), (1, _)]) => ?_
  refine wp_seq_k fun K1 hK1 => ?_
  refine wp_region_lit ?_
  refine pBox (es := _) ha (by rfl) (by rfl) hs rfl fun b3 w hs a ha => ?_
  refine pY ha (yAssign (by rfl)) fun a ha => ?_
  refine pZ ?_
  refine hK1 _ _ ?_
  refine scopeF 1 99999 ?_
  refine wp_seq_k fun K2 hK2 => ?_
  refine wp_seq_k fun K3 hK3 => ?_
  refine wp_region_lit ?_
  refine pY ha (yMove (by rfl)) fun a ha => ?_
  refine pC ha (nCall Tryz.call21 (by rfl)) rfl (CNone_c hc.id hs (by repeat first | exact .here | apply Pick.there)) ?_
  rintro v w ⟨rfl, hs⟩ a ha
  refine pZ ?_
  refine hK3 _ _ ?_
  refine cFalse ha (by rfl) ?_
  refine wp_skip ?_
  refine hK2 _ _ ?_
  refine wp_seq_k fun K4 hK4 => ?_
  refine wp_seq_k fun K5 hK5 => ?_
  refine wp_region_lit ?_
  first | refine pY ha (yLoadRA Tryz.isAgg37 Tryz.sizeOf37 hs (by rfl) (by repeat first | exact .here | apply Pick.there) (by rfl)) fun a ha => ?_ | refine pY ha (yLoadBA Tryz.isAgg37 Tryz.sizeOf37 hs (by rfl) (by repeat first | exact .here | apply Pick.there) (by rfl)) fun a ha => ?_
  refine pC ha (nCall Tryz.call24 (by rfl)) rfl (MCheck_c hT (x := m) hm hb hs (by repeat first | exact .here | apply Pick.there)) ?_
  rintro v w ⟨rfl, hs⟩ a ha
  rw [hE] at ha
  refine pY ha (yNeq (by rfl) (by rfl)) fun a ha => ?_
  refine pZ ?_
  refine hK5 _ _ ?_
  refine cFalse ha (by rfl) ?_
  refine wp_skip ?_
  refine hK4 _ _ ?_
  refine wp_seq_k fun K6 hK6 => ?_
  refine wp_seq_k fun K7 hK7 => ?_
  refine wp_region_lit ?_
  refine pY ha (yFieldA Tryz.runUnderlying37 rfl Tryz.sizeOf3 rfl (by rfl)) fun a ha => ?_
  first | refine pY ha (yLoadB Tryz.isAgg3 hs (by rfl) (by repeat first | exact .here | apply Pick.there) (by rfl)) fun a ha => ?_ | refine pY ha (yLoadR Tryz.isAgg3 hs (by rfl) (by repeat first | exact .here | apply Pick.there) (by rfl)) fun a ha => ?_ | refine pY ha (yLoadR0 Tryz.isAgg3 hs (by rfl) (by repeat first | exact .here | apply Pick.there) (by rfl)) fun a ha => ?_
  refine pZ ?_
  refine hK7 _ _ ?_
  refine wp_block ?_
  refine wp_seq_k fun K8 hK8 => ?_
  refine wp_region_lit ?_
  refine pY ha (yEql (by rfl) (by rfl)) fun a ha => ?_
  refine pY ha (yAssign (by rfl)) fun a ha => ?_
  refine pZ ?_
  refine hK8 _ _ ?_
  first | refine cDec ha (by rfl) (fun hc14 => ?_) (fun hc14 => ?_) | refine cSplit ha (by rfl) (fun hc14 => ?_) (fun hc14 => ?_)
  · exact absurd hc14 (by omega)
  · refine wp_seq_k fun K9 hK9 => ?_
    refine wp_region_lit ?_
    refine pY ha (yEql (by rfl) (by rfl)) fun a ha => ?_
    refine pY ha (yAssign (by rfl)) fun a ha => ?_
    refine pZ ?_
    refine hK9 _ _ ?_
    first | refine cDec ha (by rfl) (fun hc38 => ?_) (fun hc38 => ?_) | refine cSplit ha (by rfl) (fun hc38 => ?_) (fun hc38 => ?_)
    · exact absurd hc38 (by omega)
    · refine wp_seq_k fun K10 hK10 => ?_
      refine wp_region_lit ?_
      refine pY ha (yEql (by rfl) (by rfl)) fun a ha => ?_
      refine pY ha (yAssign (by rfl)) fun a ha => ?_
      refine pZ ?_
      refine hK10 _ _ ?_
      first | refine cDec ha (by rfl) (fun hc77 => ?_) (fun hc77 => ?_) | refine cSplit ha (by rfl) (fun hc77 => ?_) (fun hc77 => ?_)
      · exact absurd hc77 (by omega)
      · refine wp_seq_k fun K11 hK11 => ?_
        refine wp_region_lit ?_
        refine pY ha (yEql (by rfl) (by rfl)) fun a ha => ?_
        refine pY ha (yAssign (by rfl)) fun a ha => ?_
        refine pZ ?_
        refine hK11 _ _ ?_
        first | refine cDec ha (by rfl) (fun hc97 => ?_) (fun hc97 => ?_) | refine cSplit ha (by rfl) (fun hc97 => ?_) (fun hc97 => ?_)
        · exact absurd hc97 (by omega)
        · refine wp_seq_k fun K12 hK12 => ?_
          refine wp_region_lit ?_
          refine pY ha (yEql (by rfl) (by rfl)) fun a ha => ?_
          refine pY ha (yAssign (by rfl)) fun a ha => ?_
          refine pZ ?_
          refine hK12 _ _ ?_
          first | refine cDec ha (by rfl) (fun hc117 => ?_) (fun hc117 => ?_) | refine cSplit ha (by rfl) (fun hc117 => ?_) (fun hc117 => ?_)
          · refine wp_seq_k fun K13 hK13 => ?_
            refine dStart (fun w => ∃ rs, Sep W w (.blk b3 37 [.int .i64 m.kind, .int .i64 m.client, .int .i64 m.seq, .int .i64 m.rev, .int .i64 m.code, .slice A1 n1 c1, .slice A2 n2 c2, .slice A3 n3 c3, .int .i64 m.last] :: .blk bc 61 (cliV q bt (.slice A q.l.length n) (.slice A' q.gone.length n')) :: rs)) [] 127 127 (by kernel_rfl) (by kernel_rfl) rfl (⟨_, hs.drew.two (by repeat first | exact .here | apply Pick.there) (by repeat first | exact .here | apply Pick.there)⟩) ?_
            have hs := Sep.drew hs
            generalize World.drew _ = w at hs ⊢
            refine dP 0 1 rfl ha (fun _ => yFieldA Tryz.runUnderlying37 rfl Tryz.sizeOf3 rfl (by rfl)) fun a ha => ?_
            first | refine dT 1 3 rfl ha (fun _ ⟨rs, hs⟩ => yLoadB Tryz.isAgg3 hs (by rfl) (by repeat first | exact .here | apply Pick.there) (by rfl)) (⟨_, hs.two (by repeat first | exact .here | apply Pick.there) (by repeat first | exact .here | apply Pick.there)⟩) fun a ha => ?_ | refine dT 1 3 rfl ha (fun _ ⟨rs, hs⟩ => yLoadR Tryz.isAgg3 hs (by rfl) (by repeat first | exact .here | apply Pick.there) (by rfl)) (⟨_, hs.two (by repeat first | exact .here | apply Pick.there) (by repeat first | exact .here | apply Pick.there)⟩) fun a ha => ?_ | refine dT 1 3 rfl ha (fun _ ⟨rs, hs⟩ => yLoadR0 Tryz.isAgg3 hs (by rfl) (by repeat first | exact .here | apply Pick.there) (by rfl)) (⟨_, hs.two (by repeat first | exact .here | apply Pick.there) (by repeat first | exact .here | apply Pick.there)⟩) fun a ha => ?_
            refine dP 2 7 rfl ha (fun _ => yMove (by rfl)) fun a ha => ?_
            refine dP 3 15 rfl ha (fun _ => yNilP (by rfl)) fun a ha => ?_
            refine dP 4 31 rfl ha (fun _ => yFieldA Tryz.runUnderlying61 rfl Tryz.sizeOf3 rfl (by rfl)) fun a ha => ?_
            first | refine dT 5 63 rfl ha (fun _ ⟨rs, hs⟩ => yLoadB Tryz.isAgg3 hs (by rfl) (by repeat first | exact .here | apply Pick.there) (by rfl)) (⟨_, hs.two (by repeat first | exact .here | apply Pick.there) (by repeat first | exact .here | apply Pick.there)⟩) fun a ha => ?_ | refine dT 5 63 rfl ha (fun _ ⟨rs, hs⟩ => yLoadR Tryz.isAgg3 hs (by rfl) (by repeat first | exact .here | apply Pick.there) (by rfl)) (⟨_, hs.two (by repeat first | exact .here | apply Pick.there) (by repeat first | exact .here | apply Pick.there)⟩) fun a ha => ?_ | refine dT 5 63 rfl ha (fun _ ⟨rs, hs⟩ => yLoadR0 Tryz.isAgg3 hs (by rfl) (by repeat first | exact .here | apply Pick.there) (by rfl)) (⟨_, hs.two (by repeat first | exact .here | apply Pick.there) (by repeat first | exact .here | apply Pick.there)⟩) fun a ha => ?_
            refine dP 6 127 rfl ha (fun _ => yGtr (by rfl) (by rfl)) fun a ha => ?_
            refine dZ (by kernel_rfl) ?_
            refine hK13 _ _ ?_
            first | refine cDec ha (by rfl) (fun hc125 => ?_) (fun hc125 => ?_) | refine cSplit ha (by rfl) (fun hc125 => ?_) (fun hc125 => ?_)
            · have hs := hs.cli_shut (bt := bt) (bm := bm) (o := false) (c := q) (bc := bc) (by repeat first | exact .here | apply Pick.there) (by repeat first | exact .here | apply Pick.there) (by repeat first | exact .here | apply Pick.there) (by repeat first | exact .here | apply Pick.there) (by repeat first | exact .here | apply Pick.there)
              refine wp_region_lit ?_
              refine pY ha (yMove (by rfl)) fun a ha => ?_
              first | refine pY ha (yLoadRA Tryz.isAgg37 Tryz.sizeOf37 hs (by rfl) (by repeat first | exact .here | apply Pick.there) (by rfl)) fun a ha => ?_ | refine pY ha (yLoadBA Tryz.isAgg37 Tryz.sizeOf37 hs (by rfl) (by repeat first | exact .here | apply Pick.there) (by rfl)) fun a ha => ?_
              refine pC ha (nCall Tryz.call29 (by rfl)) rfl (CSnap_c hT ht hlo hmn hnl hb2 hg (fun p hp => ⟨(hc.acts p hp).2, fun y hy => ((hc.acts p hp).1 y hy).2.2.1⟩) hs (by repeat first | exact .here | apply Pick.there) (by repeat first | exact .here | apply Pick.there)) ?_
              rintro v w ⟨rfl, hs⟩ a ha
              refine pZ ?_
              refine hK6 _ _ ?_
              refine wp_seq_k fun K14 hK14 => ?_
              refine wp_label ?_
              refine hK14 _ _ ?_
              refine wp_seq_k fun K15 hK15 => ?_
              refine wp_region_lit ?_
              refine pY ha (yMove (by rfl)) fun a ha => ?_
              refine pY ha (yAssign (by rfl)) fun a ha => ?_
              refine pZ ?_
              refine hK15 _ _ ?_
              refine wp_ret ?_
              show bodyPost Tryz.prog Tryz.f10 _ .ret _ _
              refine ret1 rfl ha (by rfl) ?_
              rw [show snapIn q m = snapC q m by unfold snapIn; rw [if_pos hc125]]
              have hs := hs.cli_weak (by repeat first | exact .here | apply Pick.there)
              exact ⟨rfl, hs.to (.cons .here (by repeat first | exact .refl | refine .skip ?_))⟩
            · refine wp_skip ?_
              refine hK6 _ _ ?_
              refine wp_seq_k fun K16 hK16 => ?_
              refine wp_label ?_
              refine hK16 _ _ ?_
              refine wp_seq_k fun K17 hK17 => ?_
              refine wp_region_lit ?_
              refine pY ha (yMove (by rfl)) fun a ha => ?_
              refine pY ha (yAssign (by rfl)) fun a ha => ?_
              refine pZ ?_
              refine hK17 _ _ ?_
              refine wp_ret ?_
              show bodyPost Tryz.prog Tryz.f10 _ .ret _ _
              refine ret1 rfl ha (by rfl) ?_
              rw [show snapIn q m = q by unfold snapIn; rw [if_neg hc125]]
              exact ⟨rfl, (hs.cli_shut (bt := bt) (bm := bm) (o := false) (c := q) (bc := bc) (by repeat first | exact .here | apply Pick.there) (by repeat first | exact .here | apply Pick.there) (by repeat first | exact .here | apply Pick.there) (by repeat first | exact .here | apply Pick.there) (by repeat first | exact .here | apply Pick.there)).to (.cons .here (by repeat first | exact .refl | refine .skip ?_))⟩
          · exact absurd hk0 hc117
end
end Go.Proofs.YtkbbnpjbjakpcaaGreatDoor

set_option linter.unusedVariables false
set_option linter.unusedSimpArgs false
namespace Go.Proofs.YtkbbnpjbjakpcaaGreatDoor
open Go.RowKit Go.Lib
theorem idsOk_nil : idsOk []:=⟨List.Pairwise.nil,(fun x h=>by cases h),Nat.zero_le _⟩
end Go.Proofs.YtkbbnpjbjakpcaaGreatDoor

set_option linter.unusedVariables false
set_option linter.unusedSimpArgs false
namespace Go.Proofs.YtkbbnpjbjakpcaaGreatDoor
open Go.RowKit Go.Lib
/-- A message that may be sent. -/
theorem good_m {m : Msg} (hk : 1≤m.kind∧m.kind≤9) (hp : m = plainM m) (hf : fits m.client = true∧fits m.seq = true∧fits m.rev = true∧fits m.last = true∧fits m.code = true) (hg : gM m) (hw : tMsg m≤4000)
    (h1 : txnE m.acts = 0) (h2 : cmtsE m.commits = 0) (h3 : nodsE m.nodes = 0) : msgE m = 0∧mM m∧(wMsg m).1.length≤8796093022208:=by
  obtain ⟨l1,l2⟩:=light_M hg hw
  have hb : (bOut m).length≤65536:=by
    unfold bOut; split
    · simp
    · omega
  obtain ⟨f1,f2,f3,f4,f5⟩:=hf;refine ⟨?_,l1,by omega⟩;unfold msgE;rw [if_neg (by rw [f1,f2,f3,f4,f5]; simp only [not_or]; exact ⟨by omega,by omega,fun h=>h hp,by decide,by decide,by decide,by decide,by decide⟩)];rw [h1,h2,h3,if_neg (by decide),if_neg (by decide),if_neg (by decide),if_neg (by omega)]
section
variable (f : Nat→Actn)
def nodG (i : Nat) : List Nod:=(List.range i).map fun j=>creN (f j)
def penG (i : Nat) : List Pnd:=(List.range i).map fun j=>⟨[f j],0⟩
theorem nodG_succ (i : Nat) : nodG f (i + 1) = nodG f i++[creN (f i)]:=by
  unfold nodG; rw [List.range_succ,List.map_append]; rfl
theorem penG_succ (i : Nat) : penG f (i + 1) = penG f i++[⟨[f i],0⟩]:=by
  unfold penG; rw [List.range_succ,List.map_append]; rfl
theorem penG_len (i : Nat) : (penG f i).length = i:=by unfold penG; simp
theorem penG_mem {i : Nat} {p : Pnd} (h : p ∈ penG f i) : ∃ j,j < i∧p = ⟨[f j],0⟩:=by
  unfold penG at h;obtain ⟨j,hj,rfl⟩:=List.mem_map.1 h;exact ⟨j,List.mem_range.1 hj,rfl⟩
theorem penG_at {i j : Nat} (h : j < i) : (penG f i)[j]? = some ⟨[f j],0⟩:=by
  unfold penG;rw [List.getElem?_map,List.getElem?_range h]; rfl
variable {f}
theorem doE_one {xs : List Nod} {a : Actn} (h : doE xs [a] = 0) : (doL xs [a]).1 = xs++[creN a]∧txnE [a] = 0∧creE xs a = 0:=by
  unfold doE at h
  split at h
  · rename_i h2; exact absurd h h2
  · rename_i h2
    have h2 : txnE [a] = 0:=by simpa using h2
    simp only [doL] at h ⊢
    split
    · rename_i h3; rw [if_pos h3] at h; exact absurd h h3
    · rename_i h3; exact ⟨rfl,h2,by simpa using h3⟩
theorem viewG {N : Nat} (hD : ∀ i,i < N→doE (nodG f i) [f i] = 0) : ∀ i,i≤N→viewL [] (penG f i) = nodG f i
  | 0,_=>rfl
  | i + 1,h=>by
    have h1:=viewG hD i (by omega)
    rw [penG_succ];unfold viewL at h1 ⊢;rw [List.foldl_append,h1];show stepV (nodG f i) ⟨[f i],0⟩ = _;unfold stepV;rw [if_pos ⟨rfl,hD i (by omega)⟩,nodG_succ];exact (doE_one (hD i (by omega))).1
theorem editG {N : Nat} (hN : N≤50) (hD : ∀ i,i < N→doE (nodG f i) [f i] = 0) {i : Nat} (hi : i < N) {q : Cli} (hb : q.base = []) (hl : q.l = penG f i) : editE q [f i] = 0∧editC q [f i] = { q with l:=penG f (i + 1) }:=by
  have h1 : editE q [f i] = 0:=by
    unfold editE;rw [if_neg (by simp),hl,penG_len,if_neg (by omega),hb,viewG hD i (by omega)];exact hD i hi
  refine ⟨h1,?_⟩;unfold editC;rw [if_pos h1,hl,penG_succ]
end
theorem okG {f : Nat→Actn} {N : Nat} (hf : ∀ j,j < N→(f j).kind = 1∧mA (f j)) {q : Cli} (h0 : q.id ≠ 0) (hla : 0≤q.last∧q.last≤4000000000000000000) (hb : idsOk q.base) (hl : ∀ p ∈ q.l,∃ j e,j < N∧p = ⟨[f j],e⟩) : okC q:=by
  refine ⟨h0,hla,hb,fun p hp=>?_⟩;obtain ⟨j,e,hj,rfl⟩:=hl p hp;refine ⟨fun x hx=>?_,by simp⟩
  simp at hx
  subst hx;exact hf j hj
theorem out_sub {q : Cli} (hw : q.welcome = true) (hn : ¬ (q.l.length = 0∨q.told = true∨q.behind = true)) : cOutM q = ⟨2,q.id,q.last + 1,q.rev,(headP q).e,if (headP q).e = 0 then (headP q).acts else [],[],[],0⟩∧cOut q = { q with under:=true }:=by
  have h1 : ¬ q.welcome = false:=by rw [hw]; decide
  refine ⟨?_,?_⟩
  · unfold cOutM;rw [if_neg h1,if_neg hn]; rfl
  · unfold cOut cOutK;rw [if_neg h1,if_neg hn]; rfl
theorem out_pull {q : Cli} (hw : q.welcome = true) (hn : q.l.length = 0∨q.told = true∨q.behind = true) : cOutM q = ⟨3,q.id,0,q.rev,0,[],[],[],0⟩∧cOut q = q:=by
  have h1 : ¬ q.welcome = false:=by rw [hw]; decide
  refine ⟨?_,?_⟩
  · unfold cOutM;rw [if_neg h1,if_pos hn]; rfl
  · unfold cOut cOutK;rw [if_neg h1,if_pos hn]; rfl
def nameT (i : Nat) : ByteArray:=⟨#[102]⟩++⟨(blockL 2 (i : Int)).toArray⟩
def actT (i : Nat) : Actn:=⟨1,(i : Int) + 1,0,nameT i,false,[]⟩
theorem fullT : ∀ i,i < 10→doE (nodG actT i) [actT i] = 0:=by decide +kernel
theorem nameT_size (i : Nat) : (nameT i).size = 3:=by
  unfold nameT;rw [ByteArray.size_append]
  simp [ByteArray.size,blockL]
theorem mA_T (i : Nat) : (actT i).kind = 1∧mA (actT i) :=
  ⟨rfl,by show (nameT i).size≤_; rw [nameT_size]; decide,Nat.zero_le _,fun c hc=>by cases hc⟩
end Go.Proofs.YtkbbnpjbjakpcaaGreatDoor

set_option linter.unusedVariables false
set_option linter.unusedSimpArgs false
namespace Go.Proofs.YtkbbnpjbjakpcaaGreatDoor
open Go.RowKit
section
variable {W w : World} {cs r r2 r3 : List Ch}
theorem Kd.sl_nil {α : Type} (d : Kd α) (Z : Hp) : d.sl Z (.slice none 0 0) []:=⟨none,0,rfl,Nat.le_refl _,by unfold maxLen; omega,fun h=>by simp at h⟩
theorem Sep.one_rd {α : Type} {d : Kd α} {e : α} {es : List Value} {b : Nat} {T : TypeId} (hs : Sep W w cs) (hk : Pick cs (.blk b T es) r) (hk2 : Pick r (.el d e es) r2) : Sep W w (.rd d (.slice (some ⟨b,0,none⟩) 1 1) [e]::r2):=by
  have h1:=(hs.perm (hk.perm.trans (hk2.perm.cons _))).join
  refine h1.shut fun Z H hd hc=>?_;obtain ⟨H1,H2,g1,g2,gd,ho,hR⟩:=hc;refine ⟨_,1,rfl,Nat.le_refl _,by unfold maxLen; omega,fun _=>⟨b,0,es.toArray,T,(0,0),rfl,Hp.le_un_right hd _ _ (g1 _ _ ho),fun i x hx=>?_⟩⟩
  match i,hx with
  | 0,hx=>
    simp at hx
    subst hx;exact ⟨es,d.mono (Hp.le_un_left _ _) hR,fun j u hj=>by simpa using hj⟩
  | i + 1,hx=>simp at hx
end
end Go.Proofs.YtkbbnpjbjakpcaaGreatDoor

set_option linter.unusedVariables false
set_option linter.unusedSimpArgs false
namespace Go.Proofs.YtkbbnpjbjakpcaaGreatDoor
open Go.RowKit Go.Lib Go.Proofs.YtkbbnpjbjakpcaaGreatDoorW.PrintLast
theorem bldAwk2332_0_1_3 {w : World} {l : List (Nat × Value)} {T : TypeId} {x0 x1 x3 : Operand} {v0 : Value} (h0 : ev l x0 = some v0) {v1 : Value} (h1 : ev l x1 = some v1) {v3 : Value} (h3 : ev l x3 = some v3) (o0 : v0.cells = #[v0]:=by rfl) (o1 : v1.cells = #[v1]:=by rfl) (o3 : v3.cells = #[v3]:=by rfl) : Yl Tryz.prog w l (.build 32 #[(0,x0),(1,x1),(3,x3)]) T (.agg #[v0,v1,.int .i64 0,v3,.bool false,.slice none 0 0]):=fun ρ o h ho _=>by
  have hf : Instr.fill (fun i=>([(0,1),(1,1),(2,1),(3,1),(4,1),(5,1)] : List (Nat × Nat))[i]?) #[.int .i64 0,.int .i64 0,.int .i64 0,.string ⟨#[]⟩,.bool false,.slice none 0 0] [(0,v0),(1,v1),(3,v3)] = some #[v0,v1,.int .i64 0,v3,.bool false,.slice none 0 0]:=by
    refine (fill_v o0 rfl (by simp)).trans ?_;refine (fill_v o1 rfl (by simp)).trans ?_;refine (fill_v o3 rfl (by simp)).trans ?_
    simp [Instr.fill]
  unfold execOp; rw [ho]
  simp [h _ _ h0,h _ _ h1,h _ _ h3,Instr.build,Tryz.zeroValue32,Tryz.runUnderlying32,Tryz.sizeOf3,Tryz.sizeOf30,Tryz.sizeOf4,Tryz.sizeOf9,agg_cells,hf]
theorem bldAwk2337_0_1 {w : World} {l : List (Nat × Value)} {T : TypeId} {x0 x1 : Operand} {v0 : Value} (h0 : ev l x0 = some v0) {v1 : Value} (h1 : ev l x1 = some v1) (o0 : v0.cells = #[v0]:=by rfl) (o1 : v1.cells = #[v1]:=by rfl) : Yl Tryz.prog w l (.build 37 #[(0,x0),(1,x1)]) T (.agg #[v0,v1,.int .i64 0,.int .i64 0,.int .i64 0,.slice none 0 0,.slice none 0 0,.slice none 0 0,.int .i64 0]):=fun ρ o h ho _=>by
  have hf : Instr.fill (fun i=>([(0,1),(1,1),(2,1),(3,1),(4,1),(5,1),(6,1),(7,1),(8,1)] : List (Nat × Nat))[i]?) #[.int .i64 0,.int .i64 0,.int .i64 0,.int .i64 0,.int .i64 0,.slice none 0 0,.slice none 0 0,.slice none 0 0,.int .i64 0] [(0,v0),(1,v1)] = some #[v0,v1,.int .i64 0,.int .i64 0,.int .i64 0,.slice none 0 0,.slice none 0 0,.slice none 0 0,.int .i64 0]:=by
    refine (fill_v o0 rfl (by simp)).trans ?_;refine (fill_v o1 rfl (by simp)).trans ?_
    simp [Instr.fill]
  unfold execOp; rw [ho]
  simp [h _ _ h0,h _ _ h1,Instr.build,Tryz.zeroValue37,Tryz.runUnderlying37,Tryz.sizeOf3,Tryz.sizeOf33,Tryz.sizeOf34,Tryz.sizeOf35,agg_cells,hf]
theorem bslAwk2333_1_0 {w : World} {l : List (Nat × Value)} {T : TypeId} {x0 : Operand} {c0 : List Value} (h0 : ev l x0 = some (.agg c0.toArray)) (n0 : c0.length = 6:=by rfl) : Mk Tryz.prog w l (.buildSlice 33 1 #[(0,x0)]) T 32 1 c0:=fun ρ o h ho _=>by
  unfold execOp; rw [ho];exact mk1 (P:=Tryz.prog) w Tryz.runUnderlying33 Tryz.sizeOf32 Tryz.zeroValue32 (by decide) (by decide) n0 (h _ _ h0)
def awA : Actn:=⟨1,1,0,⟨#[97]⟩,false,[]⟩
def aw1 : Cli:=⟨3,0,[],0,false,false,false,false,[⟨[awA],0⟩],[]⟩
def aw2 : Cli:=⟨3,0,[],0,true,false,false,false,[⟨[awA],0⟩],[]⟩
def aw3 : Cli:=⟨3,0,[],0,true,false,true,false,[⟨[awA],0⟩],[]⟩
def awW : Msg:=⟨4,3,0,0,0,[],[],[],0⟩
theorem aw_m : mA awA:=⟨by decide,by decide,fun c hc=>by cases hc⟩
theorem aw_ok {q : Cli} (h : q = newC 3∨q = aw1∨q = aw2∨q = aw3) : okC q:=by
  rcases h with rfl | rfl | rfl | rfl <;> refine ⟨by decide,by decide,idsOk_nil,fun p hp=>?_⟩
  · cases hp
  all_goals
    simp [aw1,aw2,aw3] at hp
    subst hp;refine ⟨fun x hx=>?_,by simp⟩
    simp at hx
    subst hx;exact ⟨rfl,aw_m⟩
theorem aw_edit : editE (newC 3) [awA] = 0∧editC (newC 3) [awA] = aw1:=by
  have h : editE (newC 3) [awA] = 0:=by decide +kernel
  refine ⟨h,?_⟩;unfold editC;rw [if_pos h]
  rfl
theorem aw_view : (viewL aw3.base aw3.l).length = 1:=by decide +kernel
theorem aw_wel : msgE awW = 0:=bare_ok (by decide) rfl (by decide) rfl rfl rfl
section
variable {W w : World} {cs r r2 : List Ch}
theorem awake23_c (hT : Tabs W) (hs : Sep W w cs) : Calls P 5 #[] w (Rt fun v w'=>v = .bool true∧Sep W w' cs):=by
  have hmw:=bare_m (m:=awW) (by decide) rfl rfl rfl
  obtain ⟨he1,he2⟩:=aw_edit
  have hvo : idsOk (viewL aw3.base aw3.l):=idsOk_view (aw_ok (.inr (.inr (.inr rfl)))).base
  have hvl : (sortN (viewL aw3.base aw3.l)).length = 1:=by rw [sortN_len]; exact aw_view
  refine enter Tryz.func5 Tryz.ntmps5 rfl rfl fun a (ha : Has a 83 [])=>?_;refine wp_seq_k fun K1 hK1=>?_;refine wp_region_lit ?_;refine pY ha (yAssign rfl) fun a ha=>?_;refine pZ ?_;refine hK1 _ _ ?_;refine wp_seq_k fun K2 hK2=>?_;refine wp_region_lit ?_;refine pC ha (nCall Tryz.call6 rfl) rfl (CNew_c 3 hs) ?_;rintro v w hd a ha;obtain ⟨_,_,bc,rfl,hs⟩:=hd.resolve_right (fun h=>h.1 (by decide));refine pY ha (yMove rfl) fun a ha=>?_;refine pY ha (yExtract rfl rfl) fun a ha=>?_;refine pY ha (yExtract rfl rfl) fun a ha=>?_;refine pY ha (yAssign rfl) fun a ha=>?_;refine pY ha (yAssign rfl) fun a ha=>?_;refine pZ ?_;refine hK2 _ _ ?_;refine wp_seq_k fun K3 hK3=>?_;refine wp_region_lit ?_;refine pC ha (nCall Tryz.call6 rfl) rfl (CNew_c 0 hs) ?_;rintro v w hd a ha;obtain ⟨_,rfl,hs⟩:=hd.resolve_left (fun h=>absurd h.1 (by decide));refine pY ha (yMove rfl) fun a ha=>?_;refine pY ha (yExtract rfl rfl) fun a ha=>?_;refine pY ha (yExtract rfl rfl) fun a ha=>?_;refine pY ha (yAssign rfl) fun a ha=>?_;refine pY ha (yAssign rfl) fun a ha=>?_;refine pZ ?_;refine hK3 _ _ ?_;refine wp_seq_k fun K4 hK4=>?_;refine wp_seq_k fun K5 hK5=>?_;refine wp_region_lit ?_;refine pY ha (yMove rfl) fun a ha=>?_;refine pY ha (yNeq rfl rfl) fun a ha=>?_;refine pY ha (yMove rfl) fun a ha=>?_;refine gOn ha ?_;refine pY ha (yMove rfl) fun a ha=>?_;refine gOn ha ?_;refine pY ha (yPtrEqlN Tryz.underlying24 rfl rfl) fun a ha=>?_;refine pY ha (yPickF rfl rfl) fun a ha=>?_;refine pY ha (yMove rfl) fun a ha=>?_;refine gOn ha ?_;refine pY ha (yMove rfl) fun a ha=>?_;refine gOn ha ?_;refine pY ha (yNeq rfl rfl) fun a ha=>?_;refine pY ha (yPickF rfl rfl) fun a ha=>?_;refine pZ ?_;refine hK5 _ _ ?_;refine cFalse ha rfl ?_;refine wp_skip ?_;refine hK4 _ _ ?_;refine wp_seq_k fun K6 hK6=>?_;refine wp_region_lit ?_;refine pY ha (yMove rfl) fun a ha=>?_;refine pY ha (bldAwk2332_0_1_3 rfl rfl rfl) fun a ha=>?_;refine pMake ha (bslAwk2333_1_0 rfl) hs rfl fun ba w hs a ha=>?_
  have hs:=(hs.add (x:=.el kActn awA [.int .i64 1,.int .i64 1,.int .i64 0,.string ⟨#[97]⟩,.bool false,.slice none 0 0]) (fun Z=>⟨none,0,0,rfl,Kd.sl_nil _ _⟩)).one_rd (.there .here) .here
  refine pC ha (nCall Tryz.call7 rfl) rfl (CEdit_c hT (l:=[awA]) (aw_ok (.inl rfl)) (by decide) (by simp [awA]) (by simp [aw_m]) (by simp) hs pk1 pk0) ?_;rintro v w ⟨rfl,hs⟩ a ha;rw [he1,he2] at *;refine pY ha (yAssign rfl) fun a ha=>?_;refine pZ ?_;refine hK6 _ _ ?_;refine wp_seq_k fun K7 hK7=>?_;refine wp_region_lit ?_;refine pY ha (yMove rfl) fun a ha=>?_;refine pC ha (nCall Tryz.call9 rfl) rfl (COut_c (aw_ok (.inr (.inl rfl))) hs pk0) ?_;rintro v w ⟨es,rfl,hs⟩ a ha;obtain ⟨B1,p1,q1,B2,p2,q2,B3,p3,q3,rfl,hs⟩:=hs.el_msg .here;rw [show cOut aw1 = aw1 from rfl] at hs;rw [show cOutM aw1 = ⟨1,3,0,0,0,[],[],[],0⟩ from rfl] at *;refine pAlloc (zs:=[.int .i64 0,.int .i64 0,.int .i64 0,.int .i64 0,.int .i64 0,.slice none 0 0,.slice none 0 0,.slice none 0 0,.int .i64 0]) ha Tryz.zeroValue37 rfl hs rfl fun b6 w hs a ha=>?_;refine pStoreA ha Tryz.sizeOf37 hs rfl rfl pk0 rfl rfl rfl fun w hs=>?_;refine pZ ?_;refine hK7 _ _ ?_;refine wp_seq_k fun K8 hK8=>?_;refine wp_region_lit ?_;refine pY ha (yMove rfl) fun a ha=>?_;refine pY ha (bldAwk2337_0_1 rfl rfl) fun a ha=>?_;have hs:=hs.msg_none 4 3 0 0 0 0;refine pC ha (nCall Tryz.call10 rfl) rfl (CInW_c hT (m:=awW) (q:=aw1) (by decide) rfl hmw.1 hmw.2 hs pk6 pk0) ?_;rintro v w ⟨rfl,hs⟩ a ha;rw [aw_wel] at *;rw [if_pos rfl] at *;rw [show cWel aw1 awW = aw2 from rfl] at hs;refine pY ha (yAssign rfl) fun a ha=>?_;refine pZ ?_;refine hK8 _ _ ?_;refine wp_seq_k fun K9 hK9=>?_;refine wp_region_lit ?_;refine pY ha (yMove rfl) fun a ha=>?_;refine pC ha (nCall Tryz.call9 rfl) rfl (COut_c (aw_ok (.inr (.inr (.inl rfl)))) hs pk0) ?_;rintro v w ⟨es,rfl,hs⟩ a ha;obtain ⟨D1,s1,t1,D2,s2,t2,D3,s3,t3,rfl,hs⟩:=hs.el_msg .here;rw [show cOut aw2 = aw3 from rfl] at hs;rw [show cOutM aw2 = ⟨2,3,1,0,0,[awA],[],[],0⟩ from rfl] at *;obtain ⟨rfl,_⟩:=hs.rd_shape (show Pick _ (.rd kActn (.slice D1 _ _) [awA]) _ from .here);refine pAlloc (zs:=[.int .i64 0,.int .i64 0,.int .i64 0,.int .i64 0,.int .i64 0,.slice none 0 0,.slice none 0 0,.slice none 0 0,.int .i64 0]) ha Tryz.zeroValue37 rfl hs rfl fun b8 w hs a ha=>?_;refine pStoreA ha Tryz.sizeOf37 hs rfl rfl pk0 rfl rfl rfl fun w hs=>?_;refine pZ ?_;refine hK9 _ _ ?_;refine wp_seq_k fun K10 hK10=>?_;refine wp_region_lit ?_;refine pY ha (yMove rfl) fun a ha=>?_;refine pC ha (nCall Tryz.call16 rfl) rfl (CView_c hT (aw_ok (.inr (.inr (.inr rfl)))) hs pk5) ?_;rintro v w ⟨bv,bm,rfl,hs⟩ a ha;refine pY ha (yAssign rfl) fun a ha=>?_;refine pZ ?_;refine hK10 _ _ ?_;refine wp_seq_k fun K11 hK11=>?_;refine wp_region_lit ?_;refine pY ha (yMove rfl) fun a ha=>?_;refine pY ha (yEql rfl rfl) fun a ha=>?_;refine pY ha (yMove rfl) fun a ha=>?_;refine gOn ha ?_;refine pY ha (yFieldA Tryz.runUnderlying37 rfl Tryz.sizeOf3 rfl rfl) fun a ha=>?_;refine gOn ha ?_;refine pY ha (yLoadB Tryz.isAgg3 hs rfl pk9 rfl) fun a ha=>?_;refine gOn ha ?_;refine pY ha (yEql rfl rfl) fun a ha=>?_;refine pY ha (yPickT rfl rfl) fun a ha=>?_;refine pY ha (yMove rfl) fun a ha=>?_;refine gOn ha ?_;refine pY ha (yMove rfl) fun a ha=>?_;refine gOn ha ?_
  refine pY ha (yEql rfl rfl) fun a ha=>?_;refine pY ha (yPickT rfl rfl) fun a ha=>?_;refine pY ha (yMove rfl) fun a ha=>?_;refine gOn ha ?_;refine pY ha (yFieldA Tryz.runUnderlying37 rfl Tryz.sizeOf3 rfl rfl) fun a ha=>?_;refine gOn ha ?_;refine pY ha (yLoadB Tryz.isAgg3 hs rfl pk3 rfl) fun a ha=>?_;refine gOn ha ?_;refine pY ha (yEql rfl rfl) fun a ha=>?_;refine pY ha (yPickT rfl rfl) fun a ha=>?_;refine pY ha (yMove rfl) fun a ha=>?_;refine gOn ha ?_;refine pY ha (yFieldA Tryz.runUnderlying37 rfl Tryz.sizeOf3 rfl rfl) fun a ha=>?_;refine gOn ha ?_;refine pY ha (yLoadB Tryz.isAgg3 hs rfl pk3 rfl) fun a ha=>?_;refine gOn ha ?_;refine pY ha (yEql rfl rfl) fun a ha=>?_;refine pY ha (yPickT rfl rfl) fun a ha=>?_;refine pY ha (yMove rfl) fun a ha=>?_;refine gOn ha ?_;refine pY ha (yFieldA Tryz.runUnderlying37 rfl Tryz.sizeOf33 rfl rfl) fun a ha=>?_;refine gOn ha ?_;refine pY ha (yLoadB Tryz.isAgg33 hs rfl pk3 rfl) fun a ha=>?_;refine gOn ha ?_;refine pY ha (yLenS Tryz.runUnderlying33 rfl) fun a ha=>?_;refine gOn ha ?_;refine pY ha (yEql rfl rfl) fun a ha=>?_;refine pY ha (yPickT rfl rfl) fun a ha=>?_;refine pY ha (yMove rfl) fun a ha=>?_;refine gOn ha ?_;refine pY ha (yMove rfl) fun a ha=>?_;refine gOn ha ?_;refine pY ha (yPtrNeqN Tryz.underlying54 rfl rfl) fun a ha=>?_;refine pY ha (yPickT rfl rfl) fun a ha=>?_;refine pY ha (yMove rfl) fun a ha=>?_;refine gOn ha ?_;refine pY ha (yMove rfl) fun a ha=>?_;refine gOn ha ?_;refine pC ha (nCall Tryz.call18 rfl) rfl (TNodes_c hvo hs pk0 pk0) ?_;rintro v w ⟨A,n,rfl,hs⟩ a ha;rw [hvl] at ha;refine gOn ha ?_;refine pY ha (yLenS Tryz.runUnderlying35 rfl) fun a ha=>?_;refine gOn ha ?_;refine pY ha (yEql rfl rfl) fun a ha=>?_;refine pY ha (yPickT rfl rfl) fun a ha=>?_;refine pY ha (yMove rfl) fun a ha=>?_;refine gOn ha ?_;refine pY ha (yMove rfl) fun a ha=>?_;refine gOn ha ?_;refine pC ha (nCall Tryz.call19 rfl) rfl (CIdle_c (c:=aw3) (by decide) hs pk3) ?_;rintro v w ⟨rfl,hs⟩ a ha;refine gOn ha ?_;refine pY ha (yNot rfl) fun a ha=>?_;refine pY ha (yPickT rfl rfl) fun a ha=>?_;refine pY ha (yAssign rfl) fun a ha=>?_;refine pZ ?_;refine hK11 _ _ ?_;refine wp_ret ?_;show bodyPost Tryz.prog Tryz.f5 _ .ret _ _;refine ret1 rfl ha rfl ?_;exact ⟨rfl,by repeat first | with_reducible exact hs | replace hs:=hs.drop⟩
end
end Go.Proofs.YtkbbnpjbjakpcaaGreatDoor

set_option linter.unusedVariables false
set_option linter.unusedSimpArgs false
namespace Go.Proofs.YtkbbnpjbjakpcaaGreatDoor
open Go.RowKit Go.Lib
def n50 : Nod:=⟨50,0,⟨#[115]⟩,false,⟨#[115,110,97,112]⟩⟩
def tC (i : Nat) : Cli:=⟨1,0,[],4,true,false,false,false,penG actT i,[]⟩
def tU (i : Nat) : Cli:=⟨1,0,[],4,true,false,true,false,penG actT i,[]⟩
def tB (i : Nat) : Cli:=⟨1,0,[],4,true,true,true,false,penG actT i,[]⟩
def tS (u : Bool) (i : Nat) (rev : Int) : Cli:=⟨1,rev,[n50],4,true,false,u,false,keepL u (penG actT i),goneL u (penG actT i)⟩
def tA (i : Nat) (rev : Int) : Cli:=⟨1,rev,[n50],5,true,false,false,false,[],goneL true (penG actT i)++[⟨[actT 0],14⟩]⟩
def tD (i : Nat) (rev : Int) : Cli:=⟨1,rev,[n50],5,true,false,false,false,[],goneL true (penG actT i)⟩
def mTW : Msg:=⟨4,1,0,0,0,[],[],[],4⟩
def mTR : Msg:=⟨9,0,0,0,14,[],[],[],0⟩
def mTS (rev : Int) : Msg:=⟨8,0,0,rev,0,[],[],[n50],0⟩
def mT0 (rev : Int) : Msg:=⟨8,0,0,rev,0,[],[],[],0⟩
def mTA : Msg:=⟨6,1,5,0,14,[],[],[],0⟩
def mTD (rev : Int) : Msg:=⟨5,1,5,rev,0,[],[],[],0⟩
theorem bare_g {m : Msg} (hk : 1≤m.kind∧m.kind≤9) (hp : m = plainM m) (hf : fits m.client = true∧fits m.seq = true∧fits m.rev = true∧fits m.last = true∧fits m.code = true) (h1 : m.acts = []) (h2 : m.commits = []) (h3 : m.nodes = []) (h0 : i64 m.client∧i64 m.seq∧i64 m.rev∧i64 m.last∧i64 m.code) : msgE m = 0∧mM m∧(wMsg m).1.length≤8796093022208 :=
  ⟨bare_ok hk hp hf h1 h2 h3,bare_m h0 h1 h2 h3⟩
theorem tW_ok : msgE mTW = 0∧mM mTW∧(wMsg mTW).1.length≤8796093022208:=bare_g (by decide) rfl (by decide) rfl rfl rfl (by decide)
theorem tR_ok : msgE mTR = 0∧mM mTR∧(wMsg mTR).1.length≤8796093022208:=bare_g (by decide) rfl (by decide) rfl rfl rfl (by decide)
theorem tA_ok : msgE mTA = 0∧mM mTA∧(wMsg mTA).1.length≤8796093022208:=bare_g (by decide) rfl (by decide) rfl rfl rfl (by decide)
theorem i64_s {r : Int} (h : 0≤r∧r≤1099511627776) : i64 r:=⟨by omega,by omega⟩
theorem z_64 : i64 0:=by decide
theorem tD_ok {rev : Int} (h : 1≤rev∧rev≤1000) : msgE (mTD rev) = 0∧mM (mTD rev)∧(wMsg (mTD rev)).1.length≤8796093022208 :=
  bare_g (show (1 : Int)≤5∧(5 : Int)≤9 by decide) rfl ⟨rfl,rfl,fits_of (n:=rev) (by omega) (by omega),rfl,rfl⟩ rfl rfl rfl ⟨show i64 1 by decide,show i64 5 by decide,i64_s (r:=rev) ⟨by omega,by omega⟩,z_64,z_64⟩
theorem t0_ok {rev : Int} (h : 1≤rev∧rev≤1000) : msgE (mT0 rev) = 0∧mM (mT0 rev)∧(wMsg (mT0 rev)).1.length≤8796093022208 :=
  bare_g (show (1 : Int)≤8∧(8 : Int)≤9 by decide) rfl ⟨rfl,rfl,fits_of (n:=rev) (by omega) (by omega),rfl,rfl⟩ rfl rfl rfl ⟨z_64,z_64,i64_s (r:=rev) ⟨by omega,by omega⟩,z_64,z_64⟩
theorem n50_load : loadOk [n50] = true:=by decide +kernel
theorem tS_ok {rev : Int} (h : 1≤rev∧rev≤1000) : msgE (mTS rev) = 0∧mM (mTS rev)∧(wMsg (mTS rev)).1.length≤8796093022208 :=
  good_m (show (1 : Int)≤8∧(8 : Int)≤9 by decide) rfl ⟨rfl,rfl,fits_of (n:=rev) (by omega) (by omega),rfl,rfl⟩
    ⟨⟨z_64,z_64,i64_s (r:=rev) ⟨by omega,by omega⟩,z_64,z_64⟩,fun a h=>(by cases h),fun a h=>(by cases h),fun a h=>by
      obtain rfl : a = n50:=by simpa [mTS] using h
      exact ⟨by decide,by decide⟩⟩
    (show tActns [] + tNods [n50] + tCmts []≤4000 by decide) (show txnE [] = 0 by decide) (show cmtsE [] = 0 by decide) (show nodsE [n50] = 0 by decide +kernel)
theorem ids50 : idsOk [n50]:=⟨by simp,fun x hx=>by simp at hx; subst hx; decide,by decide⟩
theorem sort50 : sortN [n50] = [n50]:=by decide +kernel
theorem keep_true {l : List Pnd} {x : Pnd} (hx : l[0]? = some x) : keepL true l = [snapP x]:=by
  cases l with
  | nil=>simp at hx
  | cons y r=>simp at hx; subst hx; rfl
theorem keepT {i : Nat} (h : 1≤i) : keepL true (penG actT i) = [⟨[actT 0],14⟩]:=by
  rw [keep_true (penG_at actT (show 0 < i by omega))]; rfl
theorem goneT_len (u : Bool) (i : Nat) : (goneL u (penG actT i)).length = if u = true then i - 1 else i:=by
  cases u <;> simp [goneL,penG_len]
theorem goneT_all {u : Bool} {i : Nat} (hi : i≤10) {p : Pnd} (h : p ∈ goneL u (penG actT i)) : ∃ j,j < 10∧p = ⟨[actT j],14⟩:=by
  have h2 : p ∈ (penG actT i).map lossP:=by
    unfold goneL at h
    split at h
    · obtain ⟨y,hy,rfl⟩:=List.mem_map.1 h;exact List.mem_map.2 ⟨y,List.mem_of_mem_drop hy,rfl⟩
    · exact h
  obtain ⟨y,hy,rfl⟩:=List.mem_map.1 h2;obtain ⟨j,hj,rfl⟩:=penG_mem actT hy;exact ⟨j,by omega,rfl⟩
theorem tS_l (u : Bool) {i : Nat} (hi : 1≤i) : (tS u i 0).l = if u = true then [⟨[actT 0],14⟩] else []:=by
  cases u
  · rfl
  · exact keepT hi
theorem tS_ok2 (u : Bool) {i : Nat} (hi : 1≤i) (rev : Int) : okC (tS u i rev):=by
  refine okG (f:=actT) (N:=10) (fun j _=>mA_T j) (show (1 : Int) ≠ 0 by decide) (show (0 : Int)≤4∧(4 : Int)≤4000000000000000000 by decide) ids50 fun p hp=>?_
  have hp : p ∈ (tS u i 0).l:=hp
  rw [tS_l u hi] at hp
  cases u
  · cases hp
  · simp at hp; exact ⟨0,14,by decide,hp⟩
theorem tC_ok {i : Nat} (hi : i≤10) {q : Cli} (h : q = tC i∨q = tU i∨q = tB i∨q = newC 1) : okC q:=by
  have : q.id ≠ 0∧(0≤q.last∧q.last≤4000000000000000000)∧q.base = []∧(q.l = penG actT i∨q.l = []):=by
    rcases h with rfl | rfl | rfl | rfl <;> exact ⟨show (1 : Int) ≠ 0 by decide,(by first | exact (show (0 : Int)≤4∧(4 : Int)≤4000000000000000000 by decide) | exact (show (0 : Int)≤0∧(0 : Int)≤4000000000000000000 by decide)),rfl,by first | exact .inl rfl | exact .inr rfl⟩
  obtain ⟨a,b,c,d⟩:=this;refine okG (f:=actT) (N:=10) (fun j _=>mA_T j) a b (by rw [c]; exact idsOk_nil) fun p hp=>?_
  rcases d with d | d <;> rw [d] at hp
  · obtain ⟨j,hj,rfl⟩:=penG_mem actT hp;exact ⟨j,0,by omega,rfl⟩
  · cases hp
theorem tF_ok {i : Nat} {rev : Int} {q : Cli} (h : q = tA i rev∨q = tD i rev) : okC q:=by
  rcases h with rfl | rfl <;> exact okG (f:=actT) (N:=10) (fun j _=>mA_T j) (show (1 : Int) ≠ 0 by decide) (show (0 : Int)≤5∧(5 : Int)≤4000000000000000000 by decide) ids50 fun p hp=>by cases hp
theorem view_skip {t : List Nod} : ∀ {l : List Pnd},(∀ p ∈ l,p.e ≠ 0)→viewL t l = t
  | [],_=>rfl
  | p::r,h=>by
    have h1 : stepV t p = t:=by unfold stepV; rw [if_neg (fun g=>h p (by simp) g.1)]
    show viewL (stepV t p) r = t;rw [h1];exact view_skip fun x hx=>h x (by simp [hx])
theorem tS_view (u : Bool) {i : Nat} (hi : 1≤i) (rev : Int) : viewL (tS u i rev).base (tS u i rev).l = [n50]:=by
  refine view_skip fun p hp=>?_
  have hp : p ∈ (tS u i 0).l:=hp
  rw [tS_l u hi] at hp
  cases u
  · cases hp
  · simp at hp; subst hp; decide
theorem tS_in (u : Bool) {i : Nat} {rev : Int} (h : 1≤rev) {q : Cli} (hq : q = if u = true then tB i else tC i) : snapIn q (mTS rev) = tS u i rev:=by
  subst hq
  have h1 : ∀ q : Cli,q.rev = 0→(mTS rev).rev > q.rev:=fun q h0=>by rw [h0]; show rev > 0; omega
  cases u
  · rw [if_neg (by decide)];unfold snapIn;rw [if_pos (h1 _ rfl)];unfold snapC snapS;rw [List.take_length]
    rfl
  · rw [if_pos rfl];unfold snapIn;rw [if_pos (h1 _ rfl)];unfold snapC snapS;rw [List.take_length]
    rfl
theorem tS_same (u : Bool) (i : Nat) (rev : Int) : snapIn (tS u i rev) (mT0 rev) = tS u i rev:=by
  unfold snapIn;rw [if_neg (by show ¬ rev > rev; omega)]
theorem tU_out {i : Nat} (hi : 1≤i) : cOutM (tC i) = ⟨2,1,5,0,0,[actT 0],[],[],0⟩∧cOut (tC i) = tU i:=by
  have hh : headP (tC i) = ⟨[actT 0],0⟩:=by
    unfold headP;rw [List.getD_eq_getElem?_getD,show (tC i).l[0]? = some ⟨[actT 0],0⟩ from penG_at actT (by omega)]; rfl
  have hl : (tC i).l.length = i:=penG_len actT i
  have hn : ¬ ((tC i).l.length = 0∨(tC i).told = true∨(tC i).behind = true):=by
    rw [hl]; rintro (h | h | h)
    · omega
    · cases h
    · cases h
  obtain ⟨h1,h2⟩:=out_sub (q:=tC i) rfl hn;rw [h1,h2,hh];exact ⟨rfl,rfl⟩
theorem tB_out (i : Nat) : cOutM (tB i) = ⟨3,1,0,0,0,[],[],[],0⟩∧cOut (tB i) = tB i:=by
  have hn : ((tB i).l.length = 0∨(tB i).told = true∨(tB i).behind = true):=.inr (.inr rfl)
  exact out_pull (q:=tB i) rfl hn
theorem tS_out {i : Nat} (hi : 1≤i) (rev : Int) : cOutM (tS true i rev) = ⟨2,1,5,rev,14,[],[],[],0⟩∧cOut (tS true i rev) = tS true i rev:=by
  have hl : (tS true i rev).l = [⟨[actT 0],14⟩]:=keepT hi
  have hh : headP (tS true i rev) = ⟨[actT 0],14⟩:=by unfold headP; rw [hl]; rfl
  have hn : ¬ ((tS true i rev).l.length = 0∨(tS true i rev).told = true∨(tS true i rev).behind = true):=by
    rw [hl]; rintro (h | h | h)
    · cases h
    · cases h
    · cases h
  obtain ⟨h1,h2⟩:=out_sub (q:=tS true i rev) rfl hn;rw [h1,h2,hh];exact ⟨rfl,rfl⟩
theorem tS_mine {i : Nat} (hi : 1≤i) (rev : Int) : mineB (tS true i rev) 1 5 = true:=by
  unfold mineB;rw [show (tS true i rev).l = [⟨[actT 0],14⟩] from keepT hi]; rfl
theorem tA_in {i : Nat} (hi : 1≤i) (rev : Int) : abortC (tS true i rev) mTA = tA i rev:=by
  have hl : (tS true i rev).l = [⟨[actT 0],14⟩]:=keepT hi
  have hh : headP (tS true i rev) = ⟨[actT 0],14⟩:=by unfold headP; rw [hl]; rfl
  unfold abortC;rw [if_pos (show mineB (tS true i rev) mTA.client mTA.seq = true from tS_mine hi rev),hh];unfold goesC losesC;simp only [hl]
  rfl
theorem tD_in {i : Nat} (hi : 1≤i) (rev : Int) : doneC (tS true i rev) (mTD rev) = tD i rev:=by
  have hl : (tS true i rev).l = [⟨[actT 0],14⟩]:=keepT hi
  unfold doneC;rw [if_pos (show mineB (tS true i rev) (mTD rev).client (mTD rev).seq = true from tS_mine hi rev),if_pos (by show rev≤rev; omega)];unfold goesC;simp only [hl]
  rfl
end Go.Proofs.YtkbbnpjbjakpcaaGreatDoor

set_option linter.unusedVariables false
set_option linter.unusedSimpArgs false
namespace Go.Proofs.YtkbbnpjbjakpcaaGreatDoor
open Go.RowKit
section
variable {W w : World} {cs r r' : List Ch}
theorem RSameN_c {A A' : Option Addr} {n n' c c' : Nat} {xs ys : List Nod} (hs : Sep W w cs) (hk : Pick cs (.rd kNod (.slice A n c) xs) r) (hk' : Pick cs (.rd kNod (.slice A' n' c') ys) r') :
    Calls P 17 #[.slice A n c,.slice A' n' c'] w (Rt fun v w'=>v = .bool (decide (xs = ys))∧Sep W w' cs):=by
  obtain ⟨rfl,hl⟩:=hs.rd_shape hk;obtain ⟨rfl,hl'⟩:=hs.rd_shape hk';unfold maxLen at hl hl'
  have hs:=(hs.cpR hk).cpR (.there hk')
  refine enter Tryz.func17 Tryz.ntmps17 rfl rfl fun a (ha : Has a 26 [(0,_),(1,_)])=>?_;refine wp_seq_k fun K1 hK1=>?_;refine wp_region_lit ?_;refine pY ha (yAssign rfl) fun a ha=>?_;refine pZ ?_;refine hK1 _ _ ?_;refine wp_seq_k fun K2 hK2=>?_;refine wp_seq_k fun K3 hK3=>?_;refine wp_region_lit ?_;refine pY ha (yMove rfl) fun a ha=>?_;refine pY ha (yLenS Tryz.runUnderlying35 rfl) fun a ha=>?_;refine pY ha (yMove rfl) fun a ha=>?_;refine pY ha (yLenS Tryz.runUnderlying35 rfl) fun a ha=>?_;refine pY ha (yNeq rfl rfl) fun a ha=>?_;refine pZ ?_;refine hK3 _ _ ?_;refine cNDec ha rfl (fun hc10=>?_) (fun hc10=>?_)
  · refine wp_seq_k fun K4 hK4=>?_;refine wp_region_lit ?_;refine pY ha (yAssign rfl) fun a ha=>?_;refine pZ ?_;refine hK4 _ _ ?_;refine wp_ret ?_;show bodyPost Tryz.prog Tryz.f17 _ .ret _ _;refine ret1 rfl ha rfl ?_;exact ⟨congrArg Value.bool (decide_eq_false (by rintro rfl; exact hc10 rfl)).symm,hs.drop.drop⟩
  · refine wp_skip ?_;refine hK2 _ _ ?_;refine wp_seq_k fun K5 hK5=>?_;refine wp_seq_k fun K6 hK6=>?_;refine wp_region_lit ?_;refine pY ha (yAssign rfl) fun a ha=>?_;refine pZ ?_;refine hK6 _ _ ?_;refine wp_block ?_;refine loopI (ι:=Nat) (fun i a w=>i≤xs.length∧xs.take i = ys.take i∧Has a 26 [(0,.slice A xs.length c),(1,.slice A' ys.length c'),(5,.int .i64 i)]∧Sep W w (.rd kNod (.slice A' ys.length c') ys::.rd kNod (.slice A xs.length c) xs::cs)) (fun i=>xs.length - i) (0) ?_ ?_
    · exact ⟨Nat.zero_le _,rfl,has3 ha rfl rfl rfl,hs⟩
    · rintro i a w ⟨h1,h2,ha,hs⟩;refine wp_seq_k fun K7 hK7=>?_;refine wp_seq_k fun K8 hK8=>?_;refine wp_region_lit ?_;refine pY ha (yMove rfl) fun a ha=>?_;refine pY ha (yMove rfl) fun a ha=>?_;refine pY ha (yLenS Tryz.runUnderlying35 rfl) fun a ha=>?_;refine pY ha (yLss rfl rfl) fun a ha=>?_;refine pZ ?_;refine hK8 _ _ ?_;refine cDec ha rfl (fun hc14=>?_) (fun hc14=>?_)
      · refine wp_skip ?_;refine hK7 _ _ ?_;refine wp_seq_k fun K9 hK9=>?_;refine wp_block ?_;refine wp_seq_k fun K10 hK10=>?_;obtain ⟨x,hx⟩ : ∃ x,xs[i]? = some x:=⟨_,List.getElem?_eq_getElem (by omega)⟩;obtain ⟨y,hy⟩ : ∃ y,ys[i]? = some y:=⟨_,List.getElem?_eq_getElem (by omega)⟩;obtain ⟨b,off,rfl,hs⟩:=hs.rd_nod (.there .here) hx;obtain ⟨b',off',rfl,hs⟩:=hs.rd_nod (.there .here) hy;refine dStart (fun w=>Sep W w _) [] 511 511 (by kernel_rfl) (by kernel_rfl) rfl (hs.drew) ?_
        have hs:=Sep.drew hs
        generalize World.drew _ = w at hs ⊢;refine dP 0 1 rfl ha (fun _=>yMove rfl) fun a ha=>?_;refine dP 1 3 rfl ha (fun _=>yMove rfl) fun a ha=>?_;refine dP 2 7 rfl ha (fun _=>yIndexA Tryz.runUnderlying35 Tryz.sizeOf53 rfl rfl (by omega) (by omega)) fun a ha=>?_;refine dT 3 15 rfl ha (fun _ hs=>yLoadRA Tryz.isAgg53 Tryz.sizeOf53 hs rfl pk1 rfl) (hs) fun a ha=>?_;refine dP 4 31 rfl ha (fun _=>yMove rfl) fun a ha=>?_;refine dP 5 63 rfl ha (fun _=>yMove rfl) fun a ha=>?_;refine dP 6 127 rfl ha (fun _=>yIndexA Tryz.runUnderlying35 Tryz.sizeOf53 rfl rfl (by omega) (by omega)) fun a ha=>?_;refine dT 7 255 rfl ha (fun _ hs=>yLoadRA Tryz.isAgg53 Tryz.sizeOf53 hs rfl pk0 rfl) (hs) fun a ha=>?_;refine dP 8 511 rfl ha (fun _=>yNodNeq2 (a:=x) (b:=y) rfl rfl) fun a ha=>?_;refine dZ (by kernel_rfl) ?_;refine hK10 _ _ ?_;refine cNDec ha rfl (fun hc25=>?_) (fun hc25=>?_)
        · refine wp_seq_k fun K11 hK11=>?_;refine wp_region_lit ?_;refine pY ha (yAssign rfl) fun a ha=>?_;refine pZ ?_;refine hK11 _ _ ?_;refine wp_ret ?_;show bodyPost Tryz.prog Tryz.f17 _ .ret _ _;refine ret1 rfl ha rfl ?_;exact ⟨congrArg Value.bool (decide_eq_false (take_ne hx hy (by simpa using hc25))).symm,hs.drop.drop.drop.drop⟩
        · refine wp_skip ?_;refine hK9 _ _ ?_;refine wp_region_lit ?_;refine pY ha (yMove rfl) fun a ha=>?_;refine pY ha (yAddN rfl rfl ⟨by omega,by omega⟩) fun a ha=>?_;refine pY ha (yAssign rfl) fun a ha=>?_;refine pZ ?_;exact ⟨i + 1,⟨by omega,take_more h2 hx hy (by simpa using hc25),has3 ha rfl rfl rfl,hs.drop.drop⟩,by omega⟩
      · refine wp_exit ?_;refine hK5 _ _ ?_;refine wp_seq_k fun K12 hK12=>?_;refine wp_region_lit ?_;refine pY ha (yAssign rfl) fun a ha=>?_;refine pZ ?_;refine hK12 _ _ ?_;refine wp_ret ?_;show bodyPost Tryz.prog Tryz.f17 _ .ret _ _;refine ret1 rfl ha rfl ?_
        (rw [List.take_of_length_le (by omega),List.take_of_length_le (by omega)] at h2; exact ⟨congrArg Value.bool (decide_eq_true h2).symm,hs.drop.drop⟩)
end
end Go.Proofs.YtkbbnpjbjakpcaaGreatDoor

set_option linter.unusedVariables false
set_option linter.unusedSimpArgs false
namespace Go.Proofs.YtkbbnpjbjakpcaaGreatDoor
open Go.RowKit Go.Lib Go.Proofs.YtkbbnpjbjakpcaaGreatDoorW.PrintLast
theorem bldSnpW32_0_1_3 {w : World} {l : List (Nat × Value)} {T : TypeId} {x0 x1 x3 : Operand} {v0 : Value} (h0 : ev l x0 = some v0) {v1 : Value} (h1 : ev l x1 = some v1) {v3 : Value} (h3 : ev l x3 = some v3) (o0 : v0.cells = #[v0]:=by rfl) (o1 : v1.cells = #[v1]:=by rfl) (o3 : v3.cells = #[v3]:=by rfl) : Yl Tryz.prog w l (.build 32 #[(0,x0),(1,x1),(3,x3)]) T (.agg #[v0,v1,.int .i64 0,v3,.bool false,.slice none 0 0]):=fun ρ o h ho _=>by
  have hf : Instr.fill (fun i=>([(0,1),(1,1),(2,1),(3,1),(4,1),(5,1)] : List (Nat × Nat))[i]?) #[.int .i64 0,.int .i64 0,.int .i64 0,.string ⟨#[]⟩,.bool false,.slice none 0 0] [(0,v0),(1,v1),(3,v3)] = some #[v0,v1,.int .i64 0,v3,.bool false,.slice none 0 0]:=by
    refine (fill_v o0 rfl (by simp)).trans ?_;refine (fill_v o1 rfl (by simp)).trans ?_;refine (fill_v o3 rfl (by simp)).trans ?_
    simp [Instr.fill]
  unfold execOp; rw [ho]
  simp [h _ _ h0,h _ _ h1,h _ _ h3,Instr.build,Tryz.zeroValue32,Tryz.runUnderlying32,Tryz.sizeOf3,Tryz.sizeOf30,Tryz.sizeOf4,Tryz.sizeOf9,agg_cells,hf]
theorem bldSnpW37_0_1_2_3 {w : World} {l : List (Nat × Value)} {T : TypeId} {x0 x1 x2 x3 : Operand} {v0 : Value} (h0 : ev l x0 = some v0) {v1 : Value} (h1 : ev l x1 = some v1) {v2 : Value} (h2 : ev l x2 = some v2) {v3 : Value} (h3 : ev l x3 = some v3) (o0 : v0.cells = #[v0]:=by rfl) (o1 : v1.cells = #[v1]:=by rfl) (o2 : v2.cells = #[v2]:=by rfl) (o3 : v3.cells = #[v3]:=by rfl) : Yl Tryz.prog w l (.build 37 #[(0,x0),(1,x1),(2,x2),(3,x3)]) T (.agg #[v0,v1,v2,v3,.int .i64 0,.slice none 0 0,.slice none 0 0,.slice none 0 0,.int .i64 0]):=fun ρ o h ho _=>by
  have hf : Instr.fill (fun i=>([(0,1),(1,1),(2,1),(3,1),(4,1),(5,1),(6,1),(7,1),(8,1)] : List (Nat × Nat))[i]?) #[.int .i64 0,.int .i64 0,.int .i64 0,.int .i64 0,.int .i64 0,.slice none 0 0,.slice none 0 0,.slice none 0 0,.int .i64 0] [(0,v0),(1,v1),(2,v2),(3,v3)] = some #[v0,v1,v2,v3,.int .i64 0,.slice none 0 0,.slice none 0 0,.slice none 0 0,.int .i64 0]:=by
    refine (fill_v o0 rfl (by simp)).trans ?_;refine (fill_v o1 rfl (by simp)).trans ?_;refine (fill_v o2 rfl (by simp)).trans ?_;refine (fill_v o3 rfl (by simp)).trans ?_
    simp [Instr.fill]
  unfold execOp; rw [ho]
  simp [h _ _ h0,h _ _ h1,h _ _ h2,h _ _ h3,Instr.build,Tryz.zeroValue37,Tryz.runUnderlying37,Tryz.sizeOf3,Tryz.sizeOf33,Tryz.sizeOf34,Tryz.sizeOf35,agg_cells,hf]
theorem bldSnpW37_0_1_2_4 {w : World} {l : List (Nat × Value)} {T : TypeId} {x0 x1 x2 x4 : Operand} {v0 : Value} (h0 : ev l x0 = some v0) {v1 : Value} (h1 : ev l x1 = some v1) {v2 : Value} (h2 : ev l x2 = some v2) {v4 : Value} (h4 : ev l x4 = some v4) (o0 : v0.cells = #[v0]:=by rfl) (o1 : v1.cells = #[v1]:=by rfl) (o2 : v2.cells = #[v2]:=by rfl) (o4 : v4.cells = #[v4]:=by rfl) : Yl Tryz.prog w l (.build 37 #[(0,x0),(1,x1),(2,x2),(4,x4)]) T (.agg #[v0,v1,v2,.int .i64 0,v4,.slice none 0 0,.slice none 0 0,.slice none 0 0,.int .i64 0]):=fun ρ o h ho _=>by
  have hf : Instr.fill (fun i=>([(0,1),(1,1),(2,1),(3,1),(4,1),(5,1),(6,1),(7,1),(8,1)] : List (Nat × Nat))[i]?) #[.int .i64 0,.int .i64 0,.int .i64 0,.int .i64 0,.int .i64 0,.slice none 0 0,.slice none 0 0,.slice none 0 0,.int .i64 0] [(0,v0),(1,v1),(2,v2),(4,v4)] = some #[v0,v1,v2,.int .i64 0,v4,.slice none 0 0,.slice none 0 0,.slice none 0 0,.int .i64 0]:=by
    refine (fill_v o0 rfl (by simp)).trans ?_;refine (fill_v o1 rfl (by simp)).trans ?_;refine (fill_v o2 rfl (by simp)).trans ?_;refine (fill_v o4 rfl (by simp)).trans ?_
    simp [Instr.fill]
  unfold execOp; rw [ho]
  simp [h _ _ h0,h _ _ h1,h _ _ h2,h _ _ h4,Instr.build,Tryz.zeroValue37,Tryz.runUnderlying37,Tryz.sizeOf3,Tryz.sizeOf33,Tryz.sizeOf34,Tryz.sizeOf35,agg_cells,hf]
theorem bldSnpW37_0_1_8 {w : World} {l : List (Nat × Value)} {T : TypeId} {x0 x1 x8 : Operand} {v0 : Value} (h0 : ev l x0 = some v0) {v1 : Value} (h1 : ev l x1 = some v1) {v8 : Value} (h8 : ev l x8 = some v8) (o0 : v0.cells = #[v0]:=by rfl) (o1 : v1.cells = #[v1]:=by rfl) (o8 : v8.cells = #[v8]:=by rfl) : Yl Tryz.prog w l (.build 37 #[(0,x0),(1,x1),(8,x8)]) T (.agg #[v0,v1,.int .i64 0,.int .i64 0,.int .i64 0,.slice none 0 0,.slice none 0 0,.slice none 0 0,v8]):=fun ρ o h ho _=>by
  have hf : Instr.fill (fun i=>([(0,1),(1,1),(2,1),(3,1),(4,1),(5,1),(6,1),(7,1),(8,1)] : List (Nat × Nat))[i]?) #[.int .i64 0,.int .i64 0,.int .i64 0,.int .i64 0,.int .i64 0,.slice none 0 0,.slice none 0 0,.slice none 0 0,.int .i64 0] [(0,v0),(1,v1),(8,v8)] = some #[v0,v1,.int .i64 0,.int .i64 0,.int .i64 0,.slice none 0 0,.slice none 0 0,.slice none 0 0,v8]:=by
    refine (fill_v o0 rfl (by simp)).trans ?_;refine (fill_v o1 rfl (by simp)).trans ?_;refine (fill_v o8 rfl (by simp)).trans ?_
    simp [Instr.fill]
  unfold execOp; rw [ho]
  simp [h _ _ h0,h _ _ h1,h _ _ h8,Instr.build,Tryz.zeroValue37,Tryz.runUnderlying37,Tryz.sizeOf3,Tryz.sizeOf33,Tryz.sizeOf34,Tryz.sizeOf35,agg_cells,hf]
theorem bldSnpW37_0_3 {w : World} {l : List (Nat × Value)} {T : TypeId} {x0 x3 : Operand} {v0 : Value} (h0 : ev l x0 = some v0) {v3 : Value} (h3 : ev l x3 = some v3) (o0 : v0.cells = #[v0]:=by rfl) (o3 : v3.cells = #[v3]:=by rfl) : Yl Tryz.prog w l (.build 37 #[(0,x0),(3,x3)]) T (.agg #[v0,.int .i64 0,.int .i64 0,v3,.int .i64 0,.slice none 0 0,.slice none 0 0,.slice none 0 0,.int .i64 0]):=fun ρ o h ho _=>by
  have hf : Instr.fill (fun i=>([(0,1),(1,1),(2,1),(3,1),(4,1),(5,1),(6,1),(7,1),(8,1)] : List (Nat × Nat))[i]?) #[.int .i64 0,.int .i64 0,.int .i64 0,.int .i64 0,.int .i64 0,.slice none 0 0,.slice none 0 0,.slice none 0 0,.int .i64 0] [(0,v0),(3,v3)] = some #[v0,.int .i64 0,.int .i64 0,v3,.int .i64 0,.slice none 0 0,.slice none 0 0,.slice none 0 0,.int .i64 0]:=by
    refine (fill_v o0 rfl (by simp)).trans ?_;refine (fill_v o3 rfl (by simp)).trans ?_
    simp [Instr.fill]
  unfold execOp; rw [ho]
  simp [h _ _ h0,h _ _ h3,Instr.build,Tryz.zeroValue37,Tryz.runUnderlying37,Tryz.sizeOf3,Tryz.sizeOf33,Tryz.sizeOf34,Tryz.sizeOf35,agg_cells,hf]
theorem bldSnpW37_0_3_7 {w : World} {l : List (Nat × Value)} {T : TypeId} {x0 x3 x7 : Operand} {v0 : Value} (h0 : ev l x0 = some v0) {v3 : Value} (h3 : ev l x3 = some v3) {v7 : Value} (h7 : ev l x7 = some v7) (o0 : v0.cells = #[v0]:=by rfl) (o3 : v3.cells = #[v3]:=by rfl) (o7 : v7.cells = #[v7]:=by rfl) : Yl Tryz.prog w l (.build 37 #[(0,x0),(3,x3),(7,x7)]) T (.agg #[v0,.int .i64 0,.int .i64 0,v3,.int .i64 0,.slice none 0 0,.slice none 0 0,v7,.int .i64 0]):=fun ρ o h ho _=>by
  have hf : Instr.fill (fun i=>([(0,1),(1,1),(2,1),(3,1),(4,1),(5,1),(6,1),(7,1),(8,1)] : List (Nat × Nat))[i]?) #[.int .i64 0,.int .i64 0,.int .i64 0,.int .i64 0,.int .i64 0,.slice none 0 0,.slice none 0 0,.slice none 0 0,.int .i64 0] [(0,v0),(3,v3),(7,v7)] = some #[v0,.int .i64 0,.int .i64 0,v3,.int .i64 0,.slice none 0 0,.slice none 0 0,v7,.int .i64 0]:=by
    refine (fill_v o0 rfl (by simp)).trans ?_;refine (fill_v o3 rfl (by simp)).trans ?_;refine (fill_v o7 rfl (by simp)).trans ?_
    simp [Instr.fill]
  unfold execOp; rw [ho]
  simp [h _ _ h0,h _ _ h3,h _ _ h7,Instr.build,Tryz.zeroValue37,Tryz.runUnderlying37,Tryz.sizeOf3,Tryz.sizeOf33,Tryz.sizeOf34,Tryz.sizeOf35,agg_cells,hf]
theorem bldSnpW37_0_4 {w : World} {l : List (Nat × Value)} {T : TypeId} {x0 x4 : Operand} {v0 : Value} (h0 : ev l x0 = some v0) {v4 : Value} (h4 : ev l x4 = some v4) (o0 : v0.cells = #[v0]:=by rfl) (o4 : v4.cells = #[v4]:=by rfl) : Yl Tryz.prog w l (.build 37 #[(0,x0),(4,x4)]) T (.agg #[v0,.int .i64 0,.int .i64 0,.int .i64 0,v4,.slice none 0 0,.slice none 0 0,.slice none 0 0,.int .i64 0]):=fun ρ o h ho _=>by
  have hf : Instr.fill (fun i=>([(0,1),(1,1),(2,1),(3,1),(4,1),(5,1),(6,1),(7,1),(8,1)] : List (Nat × Nat))[i]?) #[.int .i64 0,.int .i64 0,.int .i64 0,.int .i64 0,.int .i64 0,.slice none 0 0,.slice none 0 0,.slice none 0 0,.int .i64 0] [(0,v0),(4,v4)] = some #[v0,.int .i64 0,.int .i64 0,.int .i64 0,v4,.slice none 0 0,.slice none 0 0,.slice none 0 0,.int .i64 0]:=by
    refine (fill_v o0 rfl (by simp)).trans ?_;refine (fill_v o4 rfl (by simp)).trans ?_
    simp [Instr.fill]
  unfold execOp; rw [ho]
  simp [h _ _ h0,h _ _ h4,Instr.build,Tryz.zeroValue37,Tryz.runUnderlying37,Tryz.sizeOf3,Tryz.sizeOf33,Tryz.sizeOf34,Tryz.sizeOf35,agg_cells,hf]
theorem bldSnpW53_0_2_4 {w : World} {l : List (Nat × Value)} {T : TypeId} {x0 x2 x4 : Operand} {v0 : Value} (h0 : ev l x0 = some v0) {v2 : Value} (h2 : ev l x2 = some v2) {v4 : Value} (h4 : ev l x4 = some v4) (o0 : v0.cells = #[v0]:=by rfl) (o2 : v2.cells = #[v2]:=by rfl) (o4 : v4.cells = #[v4]:=by rfl) : Yl Tryz.prog w l (.build 53 #[(0,x0),(2,x2),(4,x4)]) T (.agg #[v0,.int .i64 0,v2,.bool false,v4]):=fun ρ o h ho _=>by
  have hf : Instr.fill (fun i=>([(0,1),(1,1),(2,1),(3,1),(4,1)] : List (Nat × Nat))[i]?) #[.int .i64 0,.int .i64 0,.string ⟨#[]⟩,.bool false,.string ⟨#[]⟩] [(0,v0),(2,v2),(4,v4)] = some #[v0,.int .i64 0,v2,.bool false,v4]:=by
    refine (fill_v o0 rfl (by simp)).trans ?_;refine (fill_v o2 rfl (by simp)).trans ?_;refine (fill_v o4 rfl (by simp)).trans ?_
    simp [Instr.fill]
  unfold execOp; rw [ho]
  simp [h _ _ h0,h _ _ h2,h _ _ h4,Instr.build,Tryz.zeroValue53,Tryz.runUnderlying53,Tryz.sizeOf3,Tryz.sizeOf4,Tryz.sizeOf9,agg_cells,hf]
theorem bslSnpW33_1_0 {w : World} {l : List (Nat × Value)} {T : TypeId} {x0 : Operand} {c0 : List Value} (h0 : ev l x0 = some (.agg c0.toArray)) (n0 : c0.length = 6:=by rfl) : Mk Tryz.prog w l (.buildSlice 33 1 #[(0,x0)]) T 32 1 c0:=fun ρ o h ho _=>by
  unfold execOp; rw [ho];exact mk1 (P:=Tryz.prog) w Tryz.runUnderlying33 Tryz.sizeOf32 Tryz.zeroValue32 (by decide) (by decide) n0 (h _ _ h0)
theorem bslSnpW35_1_0 {w : World} {l : List (Nat × Value)} {T : TypeId} {x0 : Operand} {c0 : List Value} (h0 : ev l x0 = some (.agg c0.toArray)) (n0 : c0.length = 5:=by rfl) : Mk Tryz.prog w l (.buildSlice 35 1 #[(0,x0)]) T 53 1 c0:=fun ρ o h ho _=>by
  unfold execOp; rw [ho];exact mk1 (P:=Tryz.prog) w Tryz.runUnderlying35 Tryz.sizeOf53 Tryz.zeroValue53 (by decide) (by decide) n0 (h _ _ h0)
section
variable {P : Program} {w : World} {l : List (Nat × Value)} {x y : Operand} {T U U' : TypeId}
theorem yStrAdd {s t : ByteArray} (hx : ev l x = some (.string s)) (hy : ev l y = some (.string t)) (hb : s.size + t.size≤1000000000) : Yl P w l (.binOp .add U x y U') T (.string (s++t)) :=
  yBin hx hy (fun _ _=>by rw [eqGuard_at_string]; rfl) (by
    have h : ¬ IntKind.i64.max < ((s.size : Int) + (t.size : Int)):=by rw [show IntKind.i64.max = 9223372036854775807 from rfl]; omega
    simp [binOp,Op.stringOp]
    omega)
end
theorem block_size (m : Nat) (k : Int) : (⟨(blockL m k).toArray⟩ : ByteArray).size = m:=by simp [ByteArray.size,blockL]
section
variable {W w : World} {cs r r2 : List Ch}
set_option maxHeartbeats 1000000 in
theorem SnapF_c (hT : Tabs W) (n rev : Int) (d : Bool) (hs : Sep W w cs) :
    Calls Tryz.prog 4 #[.int .i64 n,.bool false,.bool d,.int .i64 rev] w (Rt fun v w'=>v = .bool true∧∃ rs,Sep W w' rs):=by
  refine enter Tryz.func4 Tryz.ntmps4 rfl rfl fun a (ha : Has a 218 [(0,_),(1,_),(2,_),(3,_)])=>?_;refine wp_seq_k fun K1 hK1=>?_;refine wp_region_lit ?_;refine pY ha (yAssign rfl) fun a ha=>?_;refine pZ ?_;refine hK1 _ _ ?_;refine wp_seq_k fun K2 hK2=>?_;refine wp_seq_k fun K3 hK3=>?_;refine cutC (fun a w=>∃ g : Bool,(g = false→(1≤n∧n≤10)∧1≤rev∧rev≤1000)∧Has a 218 [(33,.bool g),(0,.int .i64 n),(1,.bool false),(2,.bool d),(3,.int .i64 rev)]∧Sep W w cs) ?_ ?_
  · refine wp_region_lit ?_;refine pY ha (yMove rfl) fun a ha=>?_;refine pY ha (yLss rfl rfl) fun a ha=>?_;refine pY ha (yMove rfl) fun a ha=>?_;refine gDec (t:=22) ha rfl (fun hg2 hp2=>?_) (fun hg2 hp2=>?_)
    · rw [hg2] at ha;refine gOn ha ?_;refine pY ha (yMove rfl) fun a ha=>?_;refine gOn ha ?_;refine pY ha (yGtr rfl rfl) fun a ha=>?_;refine pY ha (yPickF rfl rfl) fun a ha=>?_;refine pY ha (yMove rfl) fun a ha=>?_;refine gSplit (t:=26) ha rfl (fun hg6=>?_) (fun hg6=>?_)
      · rw [hg6] at ha;refine gOn ha ?_;refine pY ha (yMove rfl) fun a ha=>?_;refine gOn ha ?_;refine pY ha (yLss rfl rfl) fun a ha=>?_;refine pY ha (yPickF rfl rfl) fun a ha=>?_;refine pY ha (yMove rfl) fun a ha=>?_;refine gSplit (t:=30) ha rfl (fun hg10=>?_) (fun hg10=>?_)
        · rw [hg10] at ha;refine gOn ha ?_;refine pY ha (yMove rfl) fun a ha=>?_;refine gOn ha ?_;refine pY ha (yGtr rfl rfl) fun a ha=>?_;refine pY ha (yPickF rfl rfl) fun a ha=>?_;refine pZ ⟨rfl,?_⟩;refine ⟨_,fun h=>?_,has5 ha rfl rfl rfl rfl rfl,hs⟩;exact ⟨⟨by simpa using hg2,by simpa using hg6⟩,by simpa using hg10,by simpa using h⟩
        · rw [hg10] at ha;refine gOff ha fun a ha=>?_;refine gOff ha fun a ha=>?_;refine pY ha (yPickT rfl rfl) fun a ha=>?_;refine pZ ⟨rfl,?_⟩;refine ⟨_,fun h=>?_,has5 ha rfl rfl rfl rfl rfl,hs⟩
          (cases h; done)
      · rw [hg6] at ha;refine gOff ha fun a ha=>?_;refine gOff ha fun a ha=>?_;refine pY ha (yPickT rfl rfl) fun a ha=>?_;refine pY ha (yMove rfl) fun a ha=>?_;refine gOff ha fun a ha=>?_;refine gOff ha fun a ha=>?_;refine pY ha (yPickT rfl rfl) fun a ha=>?_;refine pZ ⟨rfl,?_⟩;refine ⟨_,fun h=>?_,has5 ha rfl rfl rfl rfl rfl,hs⟩
        (cases h; done)
    · rw [hg2] at ha;refine gOff ha fun a ha=>?_;refine gOff ha fun a ha=>?_;refine pY ha (yPickT rfl rfl) fun a ha=>?_;refine pY ha (yMove rfl) fun a ha=>?_;refine gOff ha fun a ha=>?_;refine gOff ha fun a ha=>?_;refine pY ha (yPickT rfl rfl) fun a ha=>?_;refine pY ha (yMove rfl) fun a ha=>?_;refine gOff ha fun a ha=>?_;refine gOff ha fun a ha=>?_;refine pY ha (yPickT rfl rfl) fun a ha=>?_;refine pZ ⟨rfl,?_⟩;refine ⟨_,fun h=>?_,has5 ha rfl rfl rfl rfl rfl,hs⟩
      (cases h; done)
  rintro a w ⟨g,hg33,ha,hs⟩;refine hK3 _ _ ?_;refine cSplit ha rfl (fun hc33=>?_) (fun hc33=>?_)
  · refine wp_seq_k fun K4 hK4=>?_;refine wp_region_lit ?_;refine pC ha (nCall Tryz.call5 rfl) rfl (awake23_c hT hs) ?_;rintro v w ⟨rfl,hs⟩ a ha;refine pY ha (yAssign rfl) fun a ha=>?_;refine pZ ?_;refine hK4 _ _ ?_;refine wp_ret ?_;show bodyPost Tryz.prog Tryz.f4 _ .ret _ _;refine ret1 rfl ha rfl ?_;exact ⟨rfl,_,hs⟩
  · obtain ⟨⟨hn1,hn10⟩,hrev⟩:=hg33 hc33;obtain ⟨k,rfl⟩ : ∃ k : Nat,n = (k : Int):=⟨n.toNat,by omega⟩
    have hk1 : 1≤k:=by omega
    have hk10 : k≤10:=by omega
    have hgl : (goneL false (penG actT k)).length = k:=goneT_len false k
    have hpl : (penG actT k).length = k:=penG_len actT k
    refine wp_skip ?_;refine hK2 _ _ ?_;refine wp_seq_k fun K5 hK5=>?_;refine wp_region_lit ?_;refine pC ha (nCall Tryz.call6 rfl) rfl (CNew_c 1 hs) ?_;rintro v w hd0 a ha;obtain ⟨_,_,bc,rfl,hs⟩:=hd0.resolve_right (fun h=>h.1 (by decide));have hs:=hs.msg_none 4 1 0 0 0 4;refine pY ha (yMove rfl) fun a ha=>?_;refine pY ha (yExtract rfl rfl) fun a ha=>?_;refine pY ha (yExtract rfl rfl) fun a ha=>?_;refine pY ha (yAssign rfl) fun a ha=>?_;refine pY ha (yAssign rfl) fun a ha=>?_;refine pZ ?_;refine hK5 _ _ ?_;refine wp_seq_k fun K6 hK6=>?_;refine wp_seq_k fun K7 hK7=>?_;refine wp_region_lit ?_;refine pY ha (yMove rfl) fun a ha=>?_;refine pY ha (yNeq rfl rfl) fun a ha=>?_;refine pY ha (yMove rfl) fun a ha=>?_;refine gOn ha ?_;refine pY ha (yMove rfl) fun a ha=>?_;refine gOn ha ?_;refine pY ha (yPtrEqlN Tryz.underlying24 rfl rfl) fun a ha=>?_;refine pY ha (yPickF rfl rfl) fun a ha=>?_;refine pY ha (yMove rfl) fun a ha=>?_;refine gOn ha ?_;refine pY ha (yMove rfl) fun a ha=>?_;refine gOn ha ?_;refine pY ha (bldSnpW37_0_1_8 rfl rfl rfl) fun a ha=>?_;refine gOn ha ?_;refine pC ha (nCall Tryz.call10 rfl) rfl (CInW_c hT (q:=newC 1) (m:=mTW) (by decide) rfl tW_ok.2.1 tW_ok.2.2 hs pk1 pk0) ?_;rintro v w ⟨rfl,hs⟩ a ha;rw [tW_ok.1] at *;rw [if_pos rfl] at *;rw [show cWel (newC 1) mTW = tC 0 from rfl] at hs;refine gOn ha ?_;refine pY ha (yNeq rfl rfl) fun a ha=>?_;refine pY ha (yPickF rfl rfl) fun a ha=>?_;refine pZ ?_;refine hK7 _ _ ?_;refine cFalse ha rfl ?_;refine wp_skip ?_;refine hK6 _ _ ?_;refine wp_seq_k fun K8 hK8=>?_;refine wp_seq_k fun K9 hK9=>?_;refine wp_region_lit ?_;refine pY ha (yAssign rfl) fun a ha=>?_;refine pZ ?_;refine hK9 _ _ ?_;refine wp_block ?_;refine loopI (ι:=Nat) (fun i a w=>i≤k∧Has a 218 [(0,.int .i64 k),(1,.bool false),(2,.bool d),(3,.int .i64 rev),(9,.pointer (some ⟨bc,0,none⟩)),(11,.int .i64 i)]∧Sep W w (.cli true bc (tC i)::cs)) (fun i=>k - i) (0) ?_ ?_
    · exact ⟨Nat.zero_le _,has6 ha rfl rfl rfl rfl rfl rfl,(by exact hs.to (by repeat first | with_reducible exact Picks.refl | (with_reducible apply Picks.cons; · with_reducible repeat first | exact .here | apply Pick.there) | with_reducible refine Picks.skip ?_))⟩
    · rintro i a w ⟨h1,ha,hs⟩;refine wp_seq_k fun K10 hK10=>?_;refine wp_seq_k fun K11 hK11=>?_;refine wp_region_lit ?_;refine pY ha (yMove rfl) fun a ha=>?_;refine pY ha (yMove rfl) fun a ha=>?_;refine pY ha (yLss rfl rfl) fun a ha=>?_;refine pZ ?_;refine hK11 _ _ ?_;refine cDec ha rfl (fun hc53=>?_) (fun hc53=>?_)
      · refine wp_skip ?_;refine hK10 _ _ ?_;refine wp_seq_k fun K12 hK12=>?_;refine wp_block ?_;refine wp_seq_k fun K13 hK13=>?_;refine wp_region_lit ?_;refine pY ha (yMove rfl) fun a ha=>?_;refine pY ha (yMove rfl) fun a ha=>?_;refine pY ha (yAddN rfl rfl ⟨by omega,by omega⟩) fun a ha=>?_;refine pY ha (yMove rfl) fun a ha=>?_;refine pC ha (nCall Tryz.call8 rfl) rfl (Block_c 2 (i : Int) (by decide) (by omega) (by omega) hs) ?_;rintro v w ⟨rfl,hs⟩ a ha;refine pY ha (yStrAdd rfl rfl (by rw [block_size]; decide)) fun a ha=>?_;refine pY ha (bldSnpW32_0_1_3 rfl rfl rfl) fun a ha=>?_;refine pMake ha (bslSnpW33_1_0 rfl) hs rfl fun ba w hs a ha=>?_
        have hs:=(hs.add (x:=.el kActn (actT i) [.int .i64 1,.int .i64 ((i : Int) + 1),.int .i64 0,.string (nameT i),.bool false,.slice none 0 0]) (fun Z=>⟨none,0,0,rfl,Kd.sl_nil _ _⟩)).one_rd (.there .here) .here
        obtain ⟨hE1,hE2⟩:=editG (N:=10) (by decide) fullT (show i < 10 by omega) (q:=tC i) rfl rfl
        have hE2 : editC (tC i) [actT i] = tC (i + 1):=hE2
        have hok:=tC_ok (i:=i) (by omega) (.inl rfl)
        have hpi : (tC i).l.length = i:=penG_len actT i
        refine pC ha (nCall Tryz.call7 rfl) rfl (CEdit_c hT (q:=tC i) (l:=[actT i]) hok (by omega) (by simp [actT]) (by simp [(mA_T i).2]) (by simp) hs pk1 pk0) ?_;rintro v w ⟨rfl,hs⟩ a ha;rw [hE1] at ha;rw [hE2] at hs;refine pY ha (yNeq rfl rfl) fun a ha=>?_;refine pZ ?_;refine hK13 _ _ ?_;refine cFalse ha rfl ?_;refine wp_skip ?_;refine hK12 _ _ ?_;refine wp_region_lit ?_;refine pY ha (yMove rfl) fun a ha=>?_;refine pY ha (yAddN rfl rfl ⟨by omega,by omega⟩) fun a ha=>?_;refine pY ha (yAssign rfl) fun a ha=>?_;refine pZ ?_;exact ⟨i + 1,⟨by omega,has6 ha rfl rfl rfl rfl rfl rfl,(by exact hs.to (by repeat first | with_reducible exact Picks.refl | (with_reducible apply Picks.cons; · with_reducible repeat first | exact .here | apply Pick.there) | with_reducible refine Picks.skip ?_))⟩,by omega⟩
      · refine wp_exit ?_;refine hK8 _ _ ?_;refine wp_seq_k fun K14 hK14=>?_;refine wp_seq_k fun K15 hK15=>?_;obtain rfl : i = k:=by omega
        refine wp_region_lit ?_;refine pY ha (yMove rfl) fun a ha=>?_;refine pZ ?_;refine hK15 _ _ ?_;refine cFalse ha rfl ?_;refine wp_skip ?_;refine hK14 _ _ ?_;refine wp_seq_k fun K16 hK16=>?_
        have hs : Sep W w (.cli true bc (tC i)::cs):=(by exact hs)
        refine wp_region_lit ?_;refine pY ha (bldSnpW53_0_2_4 rfl rfl rfl) fun a ha=>?_;refine pMake ha (bslSnpW35_1_0 rfl) hs rfl fun bn w hs a ha=>?_
        have hs:=(hs.add (x:=.el kNod n50 [.int .i64 50,.int .i64 0,.string ⟨#[115]⟩,.bool false,.string ⟨#[115,110,97,112]⟩]) (fun Z=>rfl)).one_rd (.there .here) .here
        refine pY ha (yAssign rfl) fun a ha=>?_;refine pZ ?_;refine hK16 _ _ ?_;refine wp_seq_k fun K17 hK17=>?_;refine wp_seq_k fun K18 hK18=>?_;have hs:=hs.cpR (show Pick _ (.rd kNod (.slice (some ⟨bn,0,none⟩) 1 1) [n50]) _ from pk0)
        have hs:=((hs.rd_nil (d:=kCmt)).rd_nil (d:=kActn)).mk_msg (x:=mTS rev) .here .here (show Pick _ (.rd kNod (.slice (some ⟨bn,0,none⟩) 1 1) [n50]) _ from pk0)
        have hs:=hs.msg_none 8 0 0 rev 0 0;obtain ⟨e1,e2,e3⟩:=tS_ok hrev;obtain ⟨f1,f2,f3⟩:=t0_ok hrev
        have hin : snapIn (tC i) (mTS rev) = tS false i rev:=tS_in false hrev.1 rfl
        have hin2:=tS_same false i rev
        have hql : (tC i).l.length = i:=penG_len actT i
        have hsl : (tS false i rev).l.length = 0:=by rw [show (tS false i rev).l = (tS false i 0).l from rfl,tS_l false hk1]; rfl
        have hsg : (tS false i rev).gone.length = i:=hgl
        refine wp_region_lit ?_;refine pY ha (yMove rfl) fun a ha=>?_;refine pY ha (yMove rfl) fun a ha=>?_;refine pY ha (yMove rfl) fun a ha=>?_;refine pY ha (bldSnpW37_0_3_7 rfl rfl rfl) fun a ha=>?_;refine pC ha (nCall Tryz.call10 rfl) rfl (CInS_c hT (q:=tC i) (m:=mTS rev) (tC_ok hk10 (.inl rfl)) rfl e2 e3 e1 rfl n50_load (by intro x hx; exact e2.2.2.2.1 x hx) (show [n50].length≤1000000000 by decide) (by omega) (show (0 : Nat)≤1000 by decide) hs pk3 pk1) ?_;rintro v w ⟨rfl,hs⟩ a ha;rw [hin] at hs;refine pY ha (yNeq rfl rfl) fun a ha=>?_;refine pY ha (yMove rfl) fun a ha=>?_;refine gOn ha ?_;refine pY ha (yMove rfl) fun a ha=>?_;refine gOn ha ?_;refine pY ha (yMove rfl) fun a ha=>?_;refine gOn ha ?_;refine pY ha (bldSnpW37_0_3 rfl rfl) fun a ha=>?_;refine gOn ha ?_;refine pC ha (nCall Tryz.call10 rfl) rfl (CInS_c hT (q:=tS false i rev) (m:=mT0 rev) (tS_ok2 false hk1 rev) rfl f2 f3 f1 rfl (show loadOk [] = true by decide) (by intro x hx; cases hx) (show (0 : Nat)≤1000000000 by decide) (by omega) (by omega) hs pk0 pk0) ?_;rintro v w ⟨rfl,hs⟩ a ha;rw [hin2] at hs;refine gOn ha ?_;refine pY ha (yNeq rfl rfl) fun a ha=>?_;refine pY ha (yPickF rfl rfl) fun a ha=>?_;refine pZ ?_;refine hK18 _ _ ?_;refine cFalse ha rfl ?_;refine wp_skip ?_;refine hK17 _ _ ?_;refine wp_seq_k fun K19 hK19=>?_
        have hs : Sep W w (.cli false bc (tS false i rev)::.rd kNod (.slice (some ⟨bn,0,none⟩) 1 1) [n50]::cs):=(by exact hs.to (by repeat first | with_reducible exact Picks.refl | (with_reducible apply Picks.cons; · with_reducible repeat first | exact .here | apply Pick.there) | with_reducible refine Picks.skip ?_))
        refine wp_region_lit ?_;refine pY ha (yMove rfl) fun a ha=>?_;refine pC ha (nCall Tryz.call16 rfl) rfl (CView_c hT (tS_ok2 false hk1 rev) hs pk0) ?_;rintro v w ⟨bv,bm,rfl,hs⟩ a ha;rw [tS_view false hk1 rev] at hs;refine pY ha (yAssign rfl) fun a ha=>?_;refine pZ ?_;refine hK19 _ _ ?_;refine wp_seq_k fun K20 hK20=>?_;refine wp_seq_k fun K21 hK21=>?_;refine wp_region_lit ?_;refine pY ha (yMove rfl) fun a ha=>?_;refine pY ha (yPtrEqlN Tryz.underlying54 rfl rfl) fun a ha=>?_;refine pY ha (yMove rfl) fun a ha=>?_;refine gOn ha ?_;refine pY ha (yMove rfl) fun a ha=>?_;refine gOn ha ?_;refine pC ha (nCall Tryz.call18 rfl) rfl (TNodes_c ids50 hs pk0 pk0) ?_;rintro v w ⟨A,c,rfl,hs⟩ a ha;have hs:=hs.ol_rd .here;rw [sort50] at ha hs;refine gOn ha ?_;refine pY ha (yMove rfl) fun a ha=>?_;refine gOn ha ?_;refine pC ha (nCall Tryz.call17 rfl) rfl (RSameN_c (xs:=[n50]) (ys:=[n50]) hs pk0 (show Pick _ (.rd kNod (.slice (some ⟨bn,0,none⟩) 1 1) [n50]) _ from pk4)) ?_;rintro v w ⟨rfl,hs⟩ a ha;rw [show decide ([n50] = [n50]) = true from decide_eq_true rfl] at ha;refine gOn ha ?_;refine pY ha (yNot rfl) fun a ha=>?_;refine pY ha (yPickF rfl rfl) fun a ha=>?_;refine pY ha (yMove rfl) fun a ha=>?_;refine gOn ha ?_;refine pY ha (yMove rfl) fun a ha=>?_;refine gOn ha ?_;refine pC ha (nCall Tryz.call14 rfl) rfl (CRev_c (c:=tS false i rev) (show (1 : Int) ≠ 0 by decide) hs pk3) ?_;rintro v w ⟨rfl,hs⟩ a ha;refine gOn ha ?_;refine pY ha (yMove rfl) fun a ha=>?_;refine gOn ha ?_;refine pY ha (yNeq rfl rfl) fun a ha=>?_;refine pY ha (yPickF rfl rfl) fun a ha=>?_;refine pZ ?_;refine hK21 _ _ ?_;refine cNDec ha rfl (fun hc120=>?_) (fun hc120=>?_)
        · exact absurd rfl hc120
        · refine wp_skip ?_;refine hK20 _ _ ?_;refine wp_seq_k fun K22 hK22=>?_;refine wp_region_lit ?_;refine pY ha (yAssign rfl) fun a ha=>?_;refine pZ ?_;refine hK22 _ _ ?_;refine wp_seq_k fun K23 hK23=>?_;refine wp_seq_k fun K24 hK24=>?_;refine wp_region_lit ?_;refine pY ha (yMove rfl) fun a ha=>?_;refine pZ ?_;refine hK24 _ _ ?_;refine cFalse ha rfl ?_;refine wp_skip ?_;refine hK23 _ _ ?_;refine wp_seq_k fun K25 hK25=>?_;refine wp_seq_k fun K26 hK26=>?_
          have hs : Sep W w (.cli false bc (tS false i rev)::cs):=(by exact hs.to (by repeat first | with_reducible exact Picks.refl | (with_reducible apply Picks.cons; · with_reducible repeat first | exact .here | apply Pick.there) | with_reducible refine Picks.skip ?_))
          refine wp_region_lit ?_;refine pY ha (yMove rfl) fun a ha=>?_;refine pC ha (nCall Tryz.call15 rfl) rfl (CPend_c (q:=tS false i rev) (tS_ok2 false hk1 rev) (by omega) hs pk0) ?_;rintro v w ⟨B,d1,rfl,hs⟩ a ha;rw [hsl] at ha hs;refine pY ha (yLenS Tryz.runUnderlying49 rfl) fun a ha=>?_;refine pY ha (yMove rfl) fun a ha=>?_;refine pY ha (yNeq rfl rfl) fun a ha=>?_;refine pY ha (yMove rfl) fun a ha=>?_;refine gOn ha ?_;refine pY ha (yMove rfl) fun a ha=>?_;refine gOn ha ?_
          refine pC ha (nCall Tryz.call13 rfl) rfl (CLost_c (q:=tS false i rev) (show (1 : Int) ≠ 0 by decide) (fun p hp=>by
            obtain ⟨j,_,rfl⟩:=goneT_all (u:=false) (i:=i) hk10 hp
            exact ⟨by simp,fun x hx=>by simp at hx; subst hx; exact (mA_T j).2.2.1⟩) (by omega) hs pk1) ?_
          rintro v w ⟨B2,d2,rfl,hs⟩ a ha;rw [hsg] at ha hs;refine gOn ha ?_;refine pY ha (yLenS Tryz.runUnderlying44 rfl) fun a ha=>?_;refine gOn ha ?_;refine pY ha (yMove rfl) fun a ha=>?_;refine gOn ha ?_;refine pY ha (yMove rfl) fun a ha=>?_;refine gOn ha ?_;refine pY ha (ySubN rfl rfl ⟨by omega,by omega⟩) fun a ha=>?_;refine gOn ha ?_;refine pY ha (yNeq rfl rfl) fun a ha=>?_;refine pY ha (yPickF rfl rfl) fun a ha=>?_;refine pZ ?_;refine hK26 _ _ ?_;refine cNDec ha rfl (fun hc135=>?_) (fun hc135=>?_)
          · omega
          · refine wp_skip ?_;refine hK25 _ _ ?_;refine wp_seq_k fun K27 hK27=>?_;refine wp_seq_k fun K28 hK28=>?_
            have hs : Sep W w (.cli false bc (tS false i rev)::cs):=(by exact hs.to (by repeat first | with_reducible exact Picks.refl | (with_reducible apply Picks.cons; · with_reducible repeat first | exact .here | apply Pick.there) | with_reducible refine Picks.skip ?_))
            refine wp_region_lit ?_;refine pY ha (yMove rfl) fun a ha=>?_;refine pZ ?_;refine hK28 _ _ ?_;refine cFalse ha rfl ?_;refine wp_skip ?_;refine hK27 _ _ ?_;refine wp_seq_k fun K29 hK29=>?_
            have hs : Sep W w (.cli false bc (tS false i rev)::cs):=(by exact hs)
            have hfg : (tS false i rev).gone.length = i:=hgl
            have hfa : ∀ p ∈ (tS false i rev).gone,∃ j,j < 10∧p = ⟨[actT j],14⟩:=fun p hp=>goneT_all (u:=false) (i:=i) hk10 hp
            refine wp_region_lit ?_;refine pY ha (yMove rfl) fun a ha=>?_
            refine pC ha (nCall Tryz.call13 rfl) rfl (CLost_c (q:=tS false i rev) (show (1 : Int) ≠ 0 by decide) (fun p hp=>by
              obtain ⟨j,_,rfl⟩:=hfa p hp
              exact ⟨by simp,fun x hx=>by simp at hx; subst hx; exact (mA_T j).2.2.1⟩) (by omega) hs pk0) ?_
            rintro v w ⟨B3,d3,rfl,hs⟩ a ha;rw [hfg] at ha hs;refine pY ha (yAssign rfl) fun a ha=>?_;refine pZ ?_;refine hK29 _ _ ?_;refine wp_seq_k fun K30 hK30=>?_;refine wp_seq_k fun K31 hK31=>?_;refine wp_region_lit ?_;refine pY ha (yAssign rfl) fun a ha=>?_;refine pZ ?_;refine hK31 _ _ ?_;refine wp_block ?_;refine loopI (ι:=Nat) (fun j a w=>j≤i∧Has a 218 [(0,.int .i64 i),(9,.pointer (some ⟨bc,0,none⟩)),(15,.int .i64 0),(18,.slice B3 (i) d3),(19,.int .i64 j)]∧Sep W w (.rd kPnd (.slice B3 (i) d3) (tS false i rev).gone::.cli false bc (tS false i rev)::cs)) (fun j=>i - j) (0) ?_ ?_
            · exact ⟨Nat.zero_le _,has5 ha rfl rfl rfl rfl rfl,(by exact hs)⟩
            · rintro j a w ⟨h2,ha,hs⟩;refine wp_seq_k fun K32 hK32=>?_;refine wp_seq_k fun K33 hK33=>?_;refine wp_region_lit ?_;refine pY ha (yMove rfl) fun a ha=>?_;refine pY ha (yMove rfl) fun a ha=>?_;refine pY ha (yLenS Tryz.runUnderlying44 rfl) fun a ha=>?_;refine pY ha (yLss rfl rfl) fun a ha=>?_;refine pZ ?_;refine hK33 _ _ ?_;refine cDec ha rfl (fun hc181=>?_) (fun hc181=>?_)
              · obtain ⟨x,hx⟩ : ∃ x,(tS false i rev).gone[j]? = some x:=⟨_,List.getElem?_eq_getElem (by omega)⟩;obtain ⟨jj,_,hxe⟩:=hfa x (List.mem_of_getElem? hx);obtain ⟨b0,off,A5,n5,c5,rfl,hs⟩:=hs.rd_pnd .here hx;obtain ⟨rfl,_⟩:=hs.rd_shape (show Pick _ (.rd kActn (.slice A5 n5 c5) x.acts) _ from .there .here);subst hxe;refine wp_skip ?_;refine hK32 _ _ ?_;refine wp_seq_k fun K34 hK34=>?_;refine wp_block ?_;refine wp_seq_k fun K35 hK35=>?_;refine wp_region_lit ?_;refine pY ha (yMove rfl) fun a ha=>?_;refine pY ha (yMove rfl) fun a ha=>?_;refine pY ha (yIndexA Tryz.runUnderlying44 Tryz.sizeOf47 rfl rfl (by omega) (by omega)) fun a ha=>?_;refine pY ha (yFieldA Tryz.runUnderlying47 rfl Tryz.sizeOf3 rfl rfl) fun a ha=>?_;refine pY ha (yLoadR Tryz.isAgg3 hs rfl pk0 rfl) fun a ha=>?_;refine pY ha (yNeq rfl rfl) fun a ha=>?_;refine pY ha (yMove rfl) fun a ha=>?_;refine gSplit (t:=190) ha rfl (fun hg6=>?_) (fun hg6=>?_)
                · rw [hg6] at ha;refine gOn ha ?_;refine pY ha (yMove rfl) fun a ha=>?_;refine gOn ha ?_;refine pY ha (yMove rfl) fun a ha=>?_;refine gOn ha ?_;refine pY ha (yIndexA Tryz.runUnderlying44 Tryz.sizeOf47 rfl rfl (by omega) (by omega)) fun a ha=>?_;refine gOn ha ?_;refine pY ha (yFieldA Tryz.runUnderlying47 rfl Tryz.sizeOf33 rfl rfl) fun a ha=>?_;refine gOn ha ?_;refine pY ha (yLoadR Tryz.isAgg33 hs rfl pk0 rfl) fun a ha=>?_;refine gOn ha ?_;refine pY ha (yLenS Tryz.runUnderlying33 rfl) fun a ha=>?_;refine gOn ha ?_;refine pY ha (yNeq rfl rfl) fun a ha=>?_;refine pY ha (yPickF rfl rfl) fun a ha=>?_;refine pZ ?_;refine hK35 _ _ ?_;refine cNDec ha rfl (fun hc198=>?_) (fun hc198=>?_)
                  · simp at hc198
                  · refine wp_skip ?_;refine hK34 _ _ ?_;refine wp_region_lit ?_;refine pY ha (yMove rfl) fun a ha=>?_;refine pY ha (yAddN rfl rfl ⟨by omega,by omega⟩) fun a ha=>?_;refine pY ha (yAssign rfl) fun a ha=>?_;refine pZ ?_;exact ⟨j + 1,⟨by omega,has5 ha rfl rfl rfl rfl rfl,(by exact hs.to (by repeat first | with_reducible exact Picks.refl | (with_reducible apply Picks.cons; · with_reducible repeat first | exact .here | apply Pick.there) | with_reducible refine Picks.skip ?_))⟩,by omega⟩
                · simp at hg6
              · refine wp_exit ?_;refine hK30 _ _ ?_;refine wp_seq_k fun K36 hK36=>?_
                have hs : Sep W w (.rd kPnd (.slice B3 (i) d3) (tS false i rev).gone::.cli false bc (tS false i rev)::cs):=(by exact hs)
                obtain ⟨ho7,ho8⟩:=out_pull (q:=tS false i rev) rfl (.inl rfl);refine wp_region_lit ?_;refine pY ha (yMove rfl) fun a ha=>?_;refine pC ha (nCall Tryz.call19 rfl) rfl (CIdle_c (c:=tS false i rev) (show (1 : Int) ≠ 0 by decide) hs pk1) ?_;rintro v w ⟨rfl,hs⟩ a ha;refine pY ha (yMove rfl) fun a ha=>?_;refine gOn ha ?_;refine pY ha (yMove rfl) fun a ha=>?_;refine gOn ha ?_;refine pY ha (yLenS Tryz.runUnderlying44 rfl) fun a ha=>?_;refine gOn ha ?_;refine pY ha (yMove rfl) fun a ha=>?_;refine gOn ha ?_;refine pY ha (yMove rfl) fun a ha=>?_;refine gOn ha ?_;refine pY ha (ySubN rfl rfl ⟨by omega,by omega⟩) fun a ha=>?_;refine gOn ha ?_;refine pY ha (yEql rfl rfl) fun a ha=>?_;refine pY ha (yPickT rfl rfl) fun a ha=>?_;refine pY ha (yMove rfl) fun a ha=>?_;refine gSplit (t:=209) ha rfl (fun hg10=>?_) (fun hg10=>?_)
                · (have:=of_decide_eq_false hg10; omega)
                · rw [hg10] at ha;refine gOn ha ?_;refine pY ha (yMove rfl) fun a ha=>?_;refine gOn ha ?_;refine pC ha (nCall Tryz.call9 rfl) rfl (COut_c (q:=tS false i rev) (tS_ok2 false hk1 rev) hs pk0) ?_;rintro v w ⟨es,rfl,hs⟩ a ha;obtain ⟨G1,x4,y4,G2,x5,y5,G3,x6,y6,rfl,hs⟩:=hs.el_msg .here;rw [ho7] at ha;refine gOn ha ?_;refine pY ha (yField Tryz.runUnderlying37 rfl Tryz.isAgg3 rfl rfl) fun a ha=>?_;refine gOn ha ?_;refine pY ha (yEql rfl rfl) fun a ha=>?_;refine pY ha (yPickT rfl rfl) fun a ha=>?_;refine pY ha (yMove rfl) fun a ha=>?_;refine gOn ha ?_;refine pC ha (nCall Tryz.call5 rfl) rfl (awake23_c hT hs) ?_;rintro v w ⟨rfl,hs⟩ a ha;refine pY ha (yPickT rfl rfl) fun a ha=>?_;refine pY ha (yAssign rfl) fun a ha=>?_;refine pZ ?_;refine hK36 _ _ ?_;refine wp_ret ?_;show bodyPost Tryz.prog Tryz.f4 _ .ret _ _;refine ret1 rfl ha rfl ?_;exact ⟨rfl,_,hs⟩
set_option maxHeartbeats 1000000 in
theorem SnapT_c (hT : Tabs W) (n rev : Int) (hs : Sep W w cs) :
    Calls Tryz.prog 4 #[.int .i64 n,.bool true,.bool true,.int .i64 rev] w (Rt fun v w'=>v = .bool true∧∃ rs,Sep W w' rs):=by
  refine enter Tryz.func4 Tryz.ntmps4 rfl rfl fun a (ha : Has a 218 [(0,_),(1,_),(2,_),(3,_)])=>?_;refine wp_seq_k fun K1 hK1=>?_;refine wp_region_lit ?_;refine pY ha (yAssign rfl) fun a ha=>?_;refine pZ ?_;refine hK1 _ _ ?_;refine wp_seq_k fun K2 hK2=>?_;refine wp_seq_k fun K3 hK3=>?_;refine cutC (fun a w=>∃ g : Bool,(g = false→(1≤n∧n≤10)∧1≤rev∧rev≤1000)∧Has a 218 [(33,.bool g),(0,.int .i64 n),(1,.bool true),(2,.bool true),(3,.int .i64 rev)]∧Sep W w cs) ?_ ?_
  · refine wp_region_lit ?_;refine pY ha (yMove rfl) fun a ha=>?_;refine pY ha (yLss rfl rfl) fun a ha=>?_;refine pY ha (yMove rfl) fun a ha=>?_;refine gDec (t:=22) ha rfl (fun hg2 hp2=>?_) (fun hg2 hp2=>?_)
    · rw [hg2] at ha;refine gOn ha ?_;refine pY ha (yMove rfl) fun a ha=>?_;refine gOn ha ?_;refine pY ha (yGtr rfl rfl) fun a ha=>?_;refine pY ha (yPickF rfl rfl) fun a ha=>?_;refine pY ha (yMove rfl) fun a ha=>?_;refine gSplit (t:=26) ha rfl (fun hg6=>?_) (fun hg6=>?_)
      · rw [hg6] at ha;refine gOn ha ?_;refine pY ha (yMove rfl) fun a ha=>?_;refine gOn ha ?_;refine pY ha (yLss rfl rfl) fun a ha=>?_;refine pY ha (yPickF rfl rfl) fun a ha=>?_;refine pY ha (yMove rfl) fun a ha=>?_;refine gSplit (t:=30) ha rfl (fun hg10=>?_) (fun hg10=>?_)
        · rw [hg10] at ha;refine gOn ha ?_;refine pY ha (yMove rfl) fun a ha=>?_;refine gOn ha ?_;refine pY ha (yGtr rfl rfl) fun a ha=>?_;refine pY ha (yPickF rfl rfl) fun a ha=>?_;refine pZ ⟨rfl,?_⟩;refine ⟨_,fun h=>?_,has5 ha rfl rfl rfl rfl rfl,hs⟩;exact ⟨⟨by simpa using hg2,by simpa using hg6⟩,by simpa using hg10,by simpa using h⟩
        · rw [hg10] at ha;refine gOff ha fun a ha=>?_;refine gOff ha fun a ha=>?_;refine pY ha (yPickT rfl rfl) fun a ha=>?_;refine pZ ⟨rfl,?_⟩;refine ⟨_,fun h=>?_,has5 ha rfl rfl rfl rfl rfl,hs⟩
          (cases h; done)
      · rw [hg6] at ha;refine gOff ha fun a ha=>?_;refine gOff ha fun a ha=>?_;refine pY ha (yPickT rfl rfl) fun a ha=>?_;refine pY ha (yMove rfl) fun a ha=>?_;refine gOff ha fun a ha=>?_;refine gOff ha fun a ha=>?_;refine pY ha (yPickT rfl rfl) fun a ha=>?_;refine pZ ⟨rfl,?_⟩;refine ⟨_,fun h=>?_,has5 ha rfl rfl rfl rfl rfl,hs⟩
        (cases h; done)
    · rw [hg2] at ha;refine gOff ha fun a ha=>?_;refine gOff ha fun a ha=>?_;refine pY ha (yPickT rfl rfl) fun a ha=>?_;refine pY ha (yMove rfl) fun a ha=>?_;refine gOff ha fun a ha=>?_;refine gOff ha fun a ha=>?_;refine pY ha (yPickT rfl rfl) fun a ha=>?_;refine pY ha (yMove rfl) fun a ha=>?_;refine gOff ha fun a ha=>?_;refine gOff ha fun a ha=>?_;refine pY ha (yPickT rfl rfl) fun a ha=>?_;refine pZ ⟨rfl,?_⟩;refine ⟨_,fun h=>?_,has5 ha rfl rfl rfl rfl rfl,hs⟩
      (cases h; done)
  rintro a w ⟨g,hg33,ha,hs⟩;refine hK3 _ _ ?_;refine cSplit ha rfl (fun hc33=>?_) (fun hc33=>?_)
  · refine wp_seq_k fun K4 hK4=>?_;refine wp_region_lit ?_;refine pC ha (nCall Tryz.call5 rfl) rfl (awake23_c hT hs) ?_;rintro v w ⟨rfl,hs⟩ a ha;refine pY ha (yAssign rfl) fun a ha=>?_;refine pZ ?_;refine hK4 _ _ ?_;refine wp_ret ?_;show bodyPost Tryz.prog Tryz.f4 _ .ret _ _;refine ret1 rfl ha rfl ?_;exact ⟨rfl,_,hs⟩
  · obtain ⟨⟨hn1,hn10⟩,hrev⟩:=hg33 hc33;obtain ⟨k,rfl⟩ : ∃ k : Nat,n = (k : Int):=⟨n.toNat,by omega⟩
    have hk1 : 1≤k:=by omega
    have hk10 : k≤10:=by omega
    have hgl : (goneL true (penG actT k)).length = k - 1:=goneT_len true k
    have hpl : (penG actT k).length = k:=penG_len actT k
    refine wp_skip ?_;refine hK2 _ _ ?_;refine wp_seq_k fun K5 hK5=>?_;refine wp_region_lit ?_;refine pC ha (nCall Tryz.call6 rfl) rfl (CNew_c 1 hs) ?_;rintro v w hd0 a ha;obtain ⟨_,_,bc,rfl,hs⟩:=hd0.resolve_right (fun h=>h.1 (by decide));have hs:=hs.msg_none 4 1 0 0 0 4;refine pY ha (yMove rfl) fun a ha=>?_;refine pY ha (yExtract rfl rfl) fun a ha=>?_;refine pY ha (yExtract rfl rfl) fun a ha=>?_;refine pY ha (yAssign rfl) fun a ha=>?_;refine pY ha (yAssign rfl) fun a ha=>?_;refine pZ ?_;refine hK5 _ _ ?_;refine wp_seq_k fun K6 hK6=>?_;refine wp_seq_k fun K7 hK7=>?_;refine wp_region_lit ?_;refine pY ha (yMove rfl) fun a ha=>?_;refine pY ha (yNeq rfl rfl) fun a ha=>?_;refine pY ha (yMove rfl) fun a ha=>?_;refine gOn ha ?_;refine pY ha (yMove rfl) fun a ha=>?_;refine gOn ha ?_;refine pY ha (yPtrEqlN Tryz.underlying24 rfl rfl) fun a ha=>?_;refine pY ha (yPickF rfl rfl) fun a ha=>?_;refine pY ha (yMove rfl) fun a ha=>?_;refine gOn ha ?_;refine pY ha (yMove rfl) fun a ha=>?_;refine gOn ha ?_;refine pY ha (bldSnpW37_0_1_8 rfl rfl rfl) fun a ha=>?_;refine gOn ha ?_;refine pC ha (nCall Tryz.call10 rfl) rfl (CInW_c hT (q:=newC 1) (m:=mTW) (by decide) rfl tW_ok.2.1 tW_ok.2.2 hs pk1 pk0) ?_;rintro v w ⟨rfl,hs⟩ a ha;rw [tW_ok.1] at *;rw [if_pos rfl] at *;rw [show cWel (newC 1) mTW = tC 0 from rfl] at hs;refine gOn ha ?_;refine pY ha (yNeq rfl rfl) fun a ha=>?_;refine pY ha (yPickF rfl rfl) fun a ha=>?_;refine pZ ?_;refine hK7 _ _ ?_;refine cFalse ha rfl ?_;refine wp_skip ?_;refine hK6 _ _ ?_;refine wp_seq_k fun K8 hK8=>?_;refine wp_seq_k fun K9 hK9=>?_;refine wp_region_lit ?_;refine pY ha (yAssign rfl) fun a ha=>?_;refine pZ ?_;refine hK9 _ _ ?_;refine wp_block ?_;refine loopI (ι:=Nat) (fun i a w=>i≤k∧Has a 218 [(0,.int .i64 k),(1,.bool true),(2,.bool true),(3,.int .i64 rev),(9,.pointer (some ⟨bc,0,none⟩)),(11,.int .i64 i)]∧Sep W w (.cli true bc (tC i)::cs)) (fun i=>k - i) (0) ?_ ?_
    · exact ⟨Nat.zero_le _,has6 ha rfl rfl rfl rfl rfl rfl,(by exact hs.to (by repeat first | with_reducible exact Picks.refl | (with_reducible apply Picks.cons; · with_reducible repeat first | exact .here | apply Pick.there) | with_reducible refine Picks.skip ?_))⟩
    · rintro i a w ⟨h1,ha,hs⟩;refine wp_seq_k fun K10 hK10=>?_;refine wp_seq_k fun K11 hK11=>?_;refine wp_region_lit ?_;refine pY ha (yMove rfl) fun a ha=>?_;refine pY ha (yMove rfl) fun a ha=>?_;refine pY ha (yLss rfl rfl) fun a ha=>?_;refine pZ ?_;refine hK11 _ _ ?_;refine cDec ha rfl (fun hc53=>?_) (fun hc53=>?_)
      · refine wp_skip ?_;refine hK10 _ _ ?_;refine wp_seq_k fun K12 hK12=>?_;refine wp_block ?_;refine wp_seq_k fun K13 hK13=>?_;refine wp_region_lit ?_;refine pY ha (yMove rfl) fun a ha=>?_;refine pY ha (yMove rfl) fun a ha=>?_;refine pY ha (yAddN rfl rfl ⟨by omega,by omega⟩) fun a ha=>?_;refine pY ha (yMove rfl) fun a ha=>?_;refine pC ha (nCall Tryz.call8 rfl) rfl (Block_c 2 (i : Int) (by decide) (by omega) (by omega) hs) ?_;rintro v w ⟨rfl,hs⟩ a ha;refine pY ha (yStrAdd rfl rfl (by rw [block_size]; decide)) fun a ha=>?_;refine pY ha (bldSnpW32_0_1_3 rfl rfl rfl) fun a ha=>?_;refine pMake ha (bslSnpW33_1_0 rfl) hs rfl fun ba w hs a ha=>?_
        have hs:=(hs.add (x:=.el kActn (actT i) [.int .i64 1,.int .i64 ((i : Int) + 1),.int .i64 0,.string (nameT i),.bool false,.slice none 0 0]) (fun Z=>⟨none,0,0,rfl,Kd.sl_nil _ _⟩)).one_rd (.there .here) .here
        obtain ⟨hE1,hE2⟩:=editG (N:=10) (by decide) fullT (show i < 10 by omega) (q:=tC i) rfl rfl
        have hE2 : editC (tC i) [actT i] = tC (i + 1):=hE2
        have hok:=tC_ok (i:=i) (by omega) (.inl rfl)
        have hpi : (tC i).l.length = i:=penG_len actT i
        refine pC ha (nCall Tryz.call7 rfl) rfl (CEdit_c hT (q:=tC i) (l:=[actT i]) hok (by omega) (by simp [actT]) (by simp [(mA_T i).2]) (by simp) hs pk1 pk0) ?_;rintro v w ⟨rfl,hs⟩ a ha;rw [hE1] at ha;rw [hE2] at hs;refine pY ha (yNeq rfl rfl) fun a ha=>?_;refine pZ ?_;refine hK13 _ _ ?_;refine cFalse ha rfl ?_;refine wp_skip ?_;refine hK12 _ _ ?_;refine wp_region_lit ?_;refine pY ha (yMove rfl) fun a ha=>?_;refine pY ha (yAddN rfl rfl ⟨by omega,by omega⟩) fun a ha=>?_;refine pY ha (yAssign rfl) fun a ha=>?_;refine pZ ?_;exact ⟨i + 1,⟨by omega,has6 ha rfl rfl rfl rfl rfl rfl,(by exact hs.to (by repeat first | with_reducible exact Picks.refl | (with_reducible apply Picks.cons; · with_reducible repeat first | exact .here | apply Pick.there) | with_reducible refine Picks.skip ?_))⟩,by omega⟩
      · refine wp_exit ?_;refine hK8 _ _ ?_;refine wp_seq_k fun K14 hK14=>?_;refine wp_seq_k fun K15 hK15=>?_;obtain rfl : i = k:=by omega
        obtain ⟨ho1,ho2⟩:=tU_out hk1;obtain ⟨ho3,ho4⟩:=tB_out i;refine wp_region_lit ?_;refine pY ha (yMove rfl) fun a ha=>?_;refine pZ ?_;refine hK15 _ _ ?_;refine cTrue ha rfl ?_;refine wp_seq_k fun K16 hK16=>?_;refine wp_region_lit ?_;refine pY ha (yMove rfl) fun a ha=>?_;refine pC ha (nCall Tryz.call9 rfl) rfl (COut_c (q:=tC i) (tC_ok hk10 (.inl rfl)) hs pk0) ?_;rintro v w ⟨es,rfl,hs⟩ a ha;obtain ⟨B1,p1,q1,B2,p2,q2,B3,p3,q3,rfl,hs⟩:=hs.el_msg .here;rw [ho2] at hs;rw [ho1] at ha hs;refine pAlloc (zs:=[.int .i64 0,.int .i64 0,.int .i64 0,.int .i64 0,.int .i64 0,.slice none 0 0,.slice none 0 0,.slice none 0 0,.int .i64 0]) ha Tryz.zeroValue37 rfl hs rfl fun b12 w hs a ha=>?_;refine pStoreA ha Tryz.sizeOf37 hs rfl rfl pk0 rfl rfl rfl fun w hs=>?_;refine pZ ?_;refine hK16 _ _ ?_;refine wp_seq_k fun K17 hK17=>?_;have hs:=hs.msg_none 9 0 0 0 14 0;refine wp_region_lit ?_;refine pY ha (yFieldA Tryz.runUnderlying37 rfl Tryz.sizeOf3 rfl rfl) fun a ha=>?_;refine pY ha (yLoadB Tryz.isAgg3 hs rfl pk1 rfl) fun a ha=>?_;refine pY ha (yNeq rfl rfl) fun a ha=>?_;refine pY ha (yMove rfl) fun a ha=>?_;refine gOn ha ?_;refine pY ha (yFieldA Tryz.runUnderlying37 rfl Tryz.sizeOf3 rfl rfl) fun a ha=>?_;refine gOn ha ?_;refine pY ha (yLoadB Tryz.isAgg3 hs rfl pk1 rfl) fun a ha=>?_;refine gOn ha ?_;refine pY ha (yNeq rfl rfl) fun a ha=>?_;refine pY ha (yPickF rfl rfl) fun a ha=>?_;refine pY ha (yMove rfl) fun a ha=>?_;refine gOn ha ?_;refine pY ha (yMove rfl) fun a ha=>?_;refine gOn ha ?_;refine pY ha (bldSnpW37_0_4 rfl rfl) fun a ha=>?_;refine gOn ha ?_;refine pC ha (nCall Tryz.call10 rfl) rfl (CInR_c hT (q:=tU i) (m:=mTR) (tC_ok hk10 (.inr (.inl rfl))) rfl tR_ok.2.1 tR_ok.2.2 tR_ok.1 hs pk6 pk0) ?_;rintro v w ⟨rfl,hs⟩ a ha;rw [show refC (tU i) mTR = tB i from rfl] at hs;refine gOn ha ?_;refine pY ha (yNeq rfl rfl) fun a ha=>?_;refine pY ha (yPickF rfl rfl) fun a ha=>?_;refine pY ha (yMove rfl) fun a ha=>?_;refine gOn ha ?_;refine pY ha (yMove rfl) fun a ha=>?_;refine gOn ha ?_;refine pC ha (nCall Tryz.call9 rfl) rfl (COut_c (q:=tB i) (tC_ok hk10 (.inr (.inr (.inl rfl)))) hs pk0) ?_;rintro v w ⟨es,rfl,hs⟩ a ha;obtain ⟨D1,s1,t1,D2,s2,t2,D3,s3,t3,rfl,hs⟩:=hs.el_msg .here;rw [ho4] at hs;rw [ho3] at ha hs;refine gOn ha ?_;refine pY ha (yField Tryz.runUnderlying37 rfl Tryz.isAgg3 rfl rfl) fun a ha=>?_;refine gOn ha ?_;refine pY ha (yNeq rfl rfl) fun a ha=>?_;refine pY ha (yPickF rfl rfl) fun a ha=>?_;refine pZ ?_;refine hK17 _ _ ?_;refine cFalse ha rfl ?_;refine wp_skip ?_;refine hK14 _ _ ?_;refine wp_seq_k fun K18 hK18=>?_
        have hs : Sep W w (.cli false bc (tB i)::cs):=(by exact hs.to (by repeat first | with_reducible exact Picks.refl | (with_reducible apply Picks.cons; · with_reducible repeat first | exact .here | apply Pick.there) | with_reducible refine Picks.skip ?_))
        refine wp_region_lit ?_;refine pY ha (bldSnpW53_0_2_4 rfl rfl rfl) fun a ha=>?_;refine pMake ha (bslSnpW35_1_0 rfl) hs rfl fun bn w hs a ha=>?_
        have hs:=(hs.add (x:=.el kNod n50 [.int .i64 50,.int .i64 0,.string ⟨#[115]⟩,.bool false,.string ⟨#[115,110,97,112]⟩]) (fun Z=>rfl)).one_rd (.there .here) .here
        refine pY ha (yAssign rfl) fun a ha=>?_;refine pZ ?_;refine hK18 _ _ ?_;refine wp_seq_k fun K19 hK19=>?_;refine wp_seq_k fun K20 hK20=>?_;have hs:=hs.cpR (show Pick _ (.rd kNod (.slice (some ⟨bn,0,none⟩) 1 1) [n50]) _ from pk0)
        have hs:=((hs.rd_nil (d:=kCmt)).rd_nil (d:=kActn)).mk_msg (x:=mTS rev) .here .here (show Pick _ (.rd kNod (.slice (some ⟨bn,0,none⟩) 1 1) [n50]) _ from pk0)
        have hs:=hs.msg_none 8 0 0 rev 0 0;obtain ⟨e1,e2,e3⟩:=tS_ok hrev;obtain ⟨f1,f2,f3⟩:=t0_ok hrev
        have hin : snapIn (tB i) (mTS rev) = tS true i rev:=tS_in true hrev.1 rfl
        have hin2:=tS_same true i rev
        have hql : (tB i).l.length = i:=penG_len actT i
        have hsl : (tS true i rev).l.length = 1:=by rw [show (tS true i rev).l = (tS true i 0).l from rfl,tS_l true hk1]; rfl
        have hsg : (tS true i rev).gone.length = i - 1:=hgl
        refine wp_region_lit ?_;refine pY ha (yMove rfl) fun a ha=>?_;refine pY ha (yMove rfl) fun a ha=>?_;refine pY ha (yMove rfl) fun a ha=>?_;refine pY ha (bldSnpW37_0_3_7 rfl rfl rfl) fun a ha=>?_;refine pC ha (nCall Tryz.call10 rfl) rfl (CInS_c hT (q:=tB i) (m:=mTS rev) (tC_ok hk10 (.inr (.inr (.inl rfl)))) rfl e2 e3 e1 rfl n50_load (by intro x hx; exact e2.2.2.2.1 x hx) (show [n50].length≤1000000000 by decide) (by omega) (show (0 : Nat)≤1000 by decide) hs pk3 pk1) ?_;rintro v w ⟨rfl,hs⟩ a ha;rw [hin] at hs;refine pY ha (yNeq rfl rfl) fun a ha=>?_;refine pY ha (yMove rfl) fun a ha=>?_;refine gOn ha ?_;refine pY ha (yMove rfl) fun a ha=>?_;refine gOn ha ?_;refine pY ha (yMove rfl) fun a ha=>?_;refine gOn ha ?_;refine pY ha (bldSnpW37_0_3 rfl rfl) fun a ha=>?_;refine gOn ha ?_;refine pC ha (nCall Tryz.call10 rfl) rfl (CInS_c hT (q:=tS true i rev) (m:=mT0 rev) (tS_ok2 true hk1 rev) rfl f2 f3 f1 rfl (show loadOk [] = true by decide) (by intro x hx; cases hx) (show (0 : Nat)≤1000000000 by decide) (by omega) (by omega) hs pk0 pk0) ?_;rintro v w ⟨rfl,hs⟩ a ha;rw [hin2] at hs;refine gOn ha ?_;refine pY ha (yNeq rfl rfl) fun a ha=>?_;refine pY ha (yPickF rfl rfl) fun a ha=>?_;refine pZ ?_;refine hK20 _ _ ?_;refine cFalse ha rfl ?_;refine wp_skip ?_;refine hK19 _ _ ?_;refine wp_seq_k fun K21 hK21=>?_
        have hs : Sep W w (.cli false bc (tS true i rev)::.rd kNod (.slice (some ⟨bn,0,none⟩) 1 1) [n50]::cs):=(by exact hs.to (by repeat first | with_reducible exact Picks.refl | (with_reducible apply Picks.cons; · with_reducible repeat first | exact .here | apply Pick.there) | with_reducible refine Picks.skip ?_))
        refine wp_region_lit ?_;refine pY ha (yMove rfl) fun a ha=>?_;refine pC ha (nCall Tryz.call16 rfl) rfl (CView_c hT (tS_ok2 true hk1 rev) hs pk0) ?_;rintro v w ⟨bv,bm,rfl,hs⟩ a ha;rw [tS_view true hk1 rev] at hs;refine pY ha (yAssign rfl) fun a ha=>?_;refine pZ ?_;refine hK21 _ _ ?_;refine wp_seq_k fun K22 hK22=>?_;refine wp_seq_k fun K23 hK23=>?_;refine wp_region_lit ?_;refine pY ha (yMove rfl) fun a ha=>?_;refine pY ha (yPtrEqlN Tryz.underlying54 rfl rfl) fun a ha=>?_;refine pY ha (yMove rfl) fun a ha=>?_;refine gOn ha ?_;refine pY ha (yMove rfl) fun a ha=>?_;refine gOn ha ?_;refine pC ha (nCall Tryz.call18 rfl) rfl (TNodes_c ids50 hs pk0 pk0) ?_;rintro v w ⟨A,c,rfl,hs⟩ a ha;have hs:=hs.ol_rd .here;rw [sort50] at ha hs;refine gOn ha ?_;refine pY ha (yMove rfl) fun a ha=>?_;refine gOn ha ?_;refine pC ha (nCall Tryz.call17 rfl) rfl (RSameN_c (xs:=[n50]) (ys:=[n50]) hs pk0 (show Pick _ (.rd kNod (.slice (some ⟨bn,0,none⟩) 1 1) [n50]) _ from pk4)) ?_;rintro v w ⟨rfl,hs⟩ a ha;rw [show decide ([n50] = [n50]) = true from decide_eq_true rfl] at ha;refine gOn ha ?_;refine pY ha (yNot rfl) fun a ha=>?_;refine pY ha (yPickF rfl rfl) fun a ha=>?_;refine pY ha (yMove rfl) fun a ha=>?_;refine gOn ha ?_;refine pY ha (yMove rfl) fun a ha=>?_;refine gOn ha ?_;refine pC ha (nCall Tryz.call14 rfl) rfl (CRev_c (c:=tS true i rev) (show (1 : Int) ≠ 0 by decide) hs pk3) ?_;rintro v w ⟨rfl,hs⟩ a ha;refine gOn ha ?_;refine pY ha (yMove rfl) fun a ha=>?_;refine gOn ha ?_;refine pY ha (yNeq rfl rfl) fun a ha=>?_;refine pY ha (yPickF rfl rfl) fun a ha=>?_;refine pZ ?_;refine hK23 _ _ ?_;refine cNDec ha rfl (fun hc120=>?_) (fun hc120=>?_)
        · exact absurd rfl hc120
        · refine wp_skip ?_;refine hK22 _ _ ?_;refine wp_seq_k fun K24 hK24=>?_;refine wp_region_lit ?_;refine pY ha (yAssign rfl) fun a ha=>?_;refine pZ ?_;refine hK24 _ _ ?_;refine wp_seq_k fun K25 hK25=>?_;refine wp_seq_k fun K26 hK26=>?_;refine wp_region_lit ?_;refine pY ha (yMove rfl) fun a ha=>?_;refine pZ ?_;refine hK26 _ _ ?_;refine cTrue ha rfl ?_;refine wp_region_lit ?_;refine pY ha (yAssign rfl) fun a ha=>?_;refine pZ ?_;refine hK25 _ _ ?_;refine wp_seq_k fun K27 hK27=>?_;refine wp_seq_k fun K28 hK28=>?_
          have hs : Sep W w (.cli false bc (tS true i rev)::cs):=(by exact hs.to (by repeat first | with_reducible exact Picks.refl | (with_reducible apply Picks.cons; · with_reducible repeat first | exact .here | apply Pick.there) | with_reducible refine Picks.skip ?_))
          refine wp_region_lit ?_;refine pY ha (yMove rfl) fun a ha=>?_;refine pC ha (nCall Tryz.call15 rfl) rfl (CPend_c (q:=tS true i rev) (tS_ok2 true hk1 rev) (by omega) hs pk0) ?_;rintro v w ⟨B,d1,rfl,hs⟩ a ha;rw [hsl] at ha hs;refine pY ha (yLenS Tryz.runUnderlying49 rfl) fun a ha=>?_;refine pY ha (yMove rfl) fun a ha=>?_;refine pY ha (yNeq rfl rfl) fun a ha=>?_;refine pY ha (yMove rfl) fun a ha=>?_;refine gOn ha ?_;refine pY ha (yMove rfl) fun a ha=>?_;refine gOn ha ?_
          refine pC ha (nCall Tryz.call13 rfl) rfl (CLost_c (q:=tS true i rev) (show (1 : Int) ≠ 0 by decide) (fun p hp=>by
            obtain ⟨j,_,rfl⟩:=goneT_all (u:=true) (i:=i) hk10 hp
            exact ⟨by simp,fun x hx=>by simp at hx; subst hx; exact (mA_T j).2.2.1⟩) (by omega) hs pk1) ?_
          rintro v w ⟨B2,d2,rfl,hs⟩ a ha;rw [hsg] at ha hs;refine gOn ha ?_;refine pY ha (yLenS Tryz.runUnderlying44 rfl) fun a ha=>?_;refine gOn ha ?_;refine pY ha (yMove rfl) fun a ha=>?_;refine gOn ha ?_;refine pY ha (yMove rfl) fun a ha=>?_;refine gOn ha ?_;refine pY ha (ySubN rfl rfl ⟨by omega,by omega⟩) fun a ha=>?_;refine gOn ha ?_;refine pY ha (yNeq rfl rfl) fun a ha=>?_;refine pY ha (yPickF rfl rfl) fun a ha=>?_;refine pZ ?_;refine hK28 _ _ ?_;refine cNDec ha rfl (fun hc135=>?_) (fun hc135=>?_)
          · omega
          · refine wp_skip ?_;refine hK27 _ _ ?_;refine wp_seq_k fun K29 hK29=>?_;refine wp_seq_k fun K30 hK30=>?_
            have hs : Sep W w (.cli false bc (tS true i rev)::cs):=(by exact hs.to (by repeat first | with_reducible exact Picks.refl | (with_reducible apply Picks.cons; · with_reducible repeat first | exact .here | apply Pick.there) | with_reducible refine Picks.skip ?_))
            refine wp_region_lit ?_;refine pY ha (yMove rfl) fun a ha=>?_;refine pZ ?_;refine hK30 _ _ ?_;refine cTrue ha rfl ?_;refine wp_seq_k fun K31 hK31=>?_;obtain ⟨ho5,ho6⟩:=tS_out hk1 rev;refine wp_region_lit ?_;refine pY ha (yMove rfl) fun a ha=>?_;refine pC ha (nCall Tryz.call9 rfl) rfl (COut_c (q:=tS true i rev) (tS_ok2 true hk1 rev) hs pk0) ?_;rintro v w ⟨es,rfl,hs⟩ a ha;obtain ⟨E1,x1,y1,E2,x2,y2,E3,x3,y3,rfl,hs⟩:=hs.el_msg .here;rw [ho6] at hs;rw [ho5] at ha hs;obtain ⟨rfl,_⟩:=hs.rd_shape (show Pick _ (.rd kActn (.slice E1 _ _) []) _ from .here);refine pAlloc (zs:=[.int .i64 0,.int .i64 0,.int .i64 0,.int .i64 0,.int .i64 0,.slice none 0 0,.slice none 0 0,.slice none 0 0,.int .i64 0]) ha Tryz.zeroValue37 rfl hs rfl fun b27 w hs a ha=>?_;refine pStoreA ha Tryz.sizeOf37 hs rfl rfl pk0 rfl rfl rfl fun w hs=>?_;refine pZ ?_;refine hK31 _ _ ?_;refine wp_seq_k fun K32 hK32=>?_;refine wp_seq_k fun K33 hK33=>?_;refine wp_region_lit ?_;refine pY ha (yFieldA Tryz.runUnderlying37 rfl Tryz.sizeOf3 rfl rfl) fun a ha=>?_;refine pY ha (yLoadB Tryz.isAgg3 hs rfl pk0 rfl) fun a ha=>?_;refine pY ha (yNeq rfl rfl) fun a ha=>?_;refine pY ha (yMove rfl) fun a ha=>?_;refine gOn ha ?_;refine pY ha (yFieldA Tryz.runUnderlying37 rfl Tryz.sizeOf3 rfl rfl) fun a ha=>?_;refine gOn ha ?_;refine pY ha (yLoadB Tryz.isAgg3 hs rfl pk0 rfl) fun a ha=>?_;refine gOn ha ?_;refine pY ha (yNeq rfl rfl) fun a ha=>?_;refine pY ha (yPickF rfl rfl) fun a ha=>?_;refine pY ha (yMove rfl) fun a ha=>?_;refine gOn ha ?_;refine pY ha (yFieldA Tryz.runUnderlying37 rfl Tryz.sizeOf3 rfl rfl) fun a ha=>?_;refine gOn ha ?_;refine pY ha (yLoadB Tryz.isAgg3 hs rfl pk0 rfl) fun a ha=>?_;refine gOn ha ?_;refine pY ha (yMove rfl) fun a ha=>?_;refine gOn ha ?_;refine pY ha (yNeq rfl rfl) fun a ha=>?_;refine pY ha (yPickF rfl rfl) fun a ha=>?_;refine pY ha (yMove rfl) fun a ha=>?_;refine gSplit (t:=153) ha rfl (fun hg14=>?_) (fun hg14=>?_)
            · rw [hg14] at ha;refine gOn ha ?_;refine pY ha (yFieldA Tryz.runUnderlying37 rfl Tryz.sizeOf33 rfl rfl) fun a ha=>?_;refine gOn ha ?_;refine pY ha (yLoadB Tryz.isAgg33 hs rfl pk0 rfl) fun a ha=>?_;refine gOn ha ?_;refine pY ha (yLenS Tryz.runUnderlying33 rfl) fun a ha=>?_;refine gOn ha ?_;refine pY ha (yNeq rfl rfl) fun a ha=>?_;refine pY ha (yPickF rfl rfl) fun a ha=>?_;refine pY ha (yMove rfl) fun a ha=>?_;refine gOn ha ?_;refine pY ha (yFieldA Tryz.runUnderlying37 rfl Tryz.sizeOf3 rfl rfl) fun a ha=>?_;refine gOn ha ?_;refine pY ha (yLoadB Tryz.isAgg3 hs rfl pk0 rfl) fun a ha=>?_;refine gOn ha ?_;refine pY ha (yNeq rfl rfl) fun a ha=>?_;refine pY ha (yPickF rfl rfl) fun a ha=>?_;refine pZ ?_;refine hK33 _ _ ?_;refine cFalse ha rfl ?_;refine wp_skip ?_;refine hK32 _ _ ?_;refine wp_seq_k fun K34 hK34=>?_;refine wp_region_lit ?_;refine pY ha (yFieldA Tryz.runUnderlying37 rfl Tryz.sizeOf3 rfl rfl) fun a ha=>?_;refine pY ha (yLoadB Tryz.isAgg3 hs rfl pk0 rfl) fun a ha=>?_;refine pY ha (bldSnpW37_0_1_2_4 rfl rfl rfl rfl) fun a ha=>?_;refine pAlloc (zs:=[.int .i64 0,.int .i64 0,.int .i64 0,.int .i64 0,.int .i64 0,.slice none 0 0,.slice none 0 0,.slice none 0 0,.int .i64 0]) ha Tryz.zeroValue37 rfl hs rfl fun b30 w hs a ha=>?_;refine pStoreA ha Tryz.sizeOf37 hs rfl rfl pk0 rfl rfl rfl fun w hs=>?_;refine pZ ?_;refine hK34 _ _ ?_;refine wp_seq_k fun K35 hK35=>?_;refine wp_seq_k fun K36 hK36=>?_;refine wp_region_lit ?_;refine pY ha (yMove rfl) fun a ha=>?_;refine pZ ?_;refine hK36 _ _ ?_;refine cTrue ha rfl ?_;refine wp_region_lit ?_;refine pY ha (yMove rfl) fun a ha=>?_;refine pY ha (bldSnpW37_0_1_2_3 rfl rfl rfl rfl) fun a ha=>?_;refine pStoreA ha Tryz.sizeOf37 hs rfl rfl pk0 rfl rfl rfl fun w hs=>?_;refine pZ ?_;refine hK35 _ _ ?_;refine wp_seq_k fun K37 hK37=>?_;refine wp_seq_k fun K38 hK38=>?_
              have hs : Sep W w (.blk b30 37 [.int .i64 5,.int .i64 1,.int .i64 5,.int .i64 rev,.int .i64 0,.slice none 0 0,.slice none 0 0,.slice none 0 0,.int .i64 0]::.cli false bc (tS true i rev)::cs):=(by exact hs.to (by repeat first | with_reducible exact Picks.refl | (with_reducible apply Picks.cons; · with_reducible repeat first | exact .here | apply Pick.there) | with_reducible refine Picks.skip ?_))
              have hs:=hs.msg_none 5 1 5 rev 0 0;obtain ⟨u1,u2,u3⟩:=tD_ok hrev;refine wp_region_lit ?_;refine pY ha (yMove rfl) fun a ha=>?_;refine pY ha (yLoadBA Tryz.isAgg37 Tryz.sizeOf37 hs rfl pk1 rfl) fun a ha=>?_;refine pC ha (nCall Tryz.call10 rfl) rfl (CInD_c hT (q:=tS true i rev) (m:=(mTD rev)) (tS_ok2 true hk1 rev) rfl u2 u3 u1 hs pk2 pk0) ?_;rintro v w ⟨rfl,hs⟩ a ha;rw [tD_in hk1 rev] at hs;refine pY ha (yNeq rfl rfl) fun a ha=>?_;refine pZ ?_;refine hK38 _ _ ?_;refine cFalse ha rfl ?_;refine wp_skip ?_;refine hK37 _ _ ?_;refine wp_seq_k fun K39 hK39=>?_;refine wp_region_lit ?_;refine pY ha (yMove rfl) fun a ha=>?_;refine pY ha (yNot rfl) fun a ha=>?_;refine pZ ?_;refine hK39 _ _ ?_;refine cFalse ha rfl ?_;refine wp_skip ?_;refine hK29 _ _ ?_;refine wp_seq_k fun K40 hK40=>?_
              have hs : Sep W w (.cli false bc (tD i rev)::cs):=(by exact hs.to (by repeat first | with_reducible exact Picks.refl | (with_reducible apply Picks.cons; · with_reducible repeat first | exact .here | apply Pick.there) | with_reducible refine Picks.skip ?_))
              have hfg : (tD i rev).gone.length = i - 1:=hgl
              have hfa : ∀ p ∈ (tD i rev).gone,∃ j,j < 10∧p = ⟨[actT j],14⟩:=fun p hp=>goneT_all (u:=true) (i:=i) hk10 hp
              refine wp_region_lit ?_;refine pY ha (yMove rfl) fun a ha=>?_
              refine pC ha (nCall Tryz.call13 rfl) rfl (CLost_c (q:=tD i rev) (show (1 : Int) ≠ 0 by decide) (fun p hp=>by
                obtain ⟨j,_,rfl⟩:=hfa p hp
                exact ⟨by simp,fun x hx=>by simp at hx; subst hx; exact (mA_T j).2.2.1⟩) (by omega) hs pk0) ?_
              rintro v w ⟨B3,d3,rfl,hs⟩ a ha;rw [hfg] at ha hs;refine pY ha (yAssign rfl) fun a ha=>?_;refine pZ ?_;refine hK40 _ _ ?_;refine wp_seq_k fun K41 hK41=>?_;refine wp_seq_k fun K42 hK42=>?_;refine wp_region_lit ?_;refine pY ha (yAssign rfl) fun a ha=>?_;refine pZ ?_;refine hK42 _ _ ?_;refine wp_block ?_;refine loopI (ι:=Nat) (fun j a w=>j≤i - 1∧Has a 218 [(0,.int .i64 i),(9,.pointer (some ⟨bc,0,none⟩)),(15,.int .i64 1),(18,.slice B3 (i - 1) d3),(19,.int .i64 j)]∧Sep W w (.rd kPnd (.slice B3 (i - 1) d3) (tD i rev).gone::.cli false bc (tD i rev)::cs)) (fun j=>i - 1 - j) (0) ?_ ?_
              · exact ⟨Nat.zero_le _,has5 ha rfl rfl rfl rfl rfl,(by exact hs)⟩
              · rintro j a w ⟨h2,ha,hs⟩;refine wp_seq_k fun K43 hK43=>?_;refine wp_seq_k fun K44 hK44=>?_;refine wp_region_lit ?_;refine pY ha (yMove rfl) fun a ha=>?_;refine pY ha (yMove rfl) fun a ha=>?_;refine pY ha (yLenS Tryz.runUnderlying44 rfl) fun a ha=>?_;refine pY ha (yLss rfl rfl) fun a ha=>?_;refine pZ ?_;refine hK44 _ _ ?_;refine cDec ha rfl (fun hc181=>?_) (fun hc181=>?_)
                · obtain ⟨x,hx⟩ : ∃ x,(tD i rev).gone[j]? = some x:=⟨_,List.getElem?_eq_getElem (by omega)⟩;obtain ⟨jj,_,hxe⟩:=hfa x (List.mem_of_getElem? hx);obtain ⟨b0,off,A5,n5,c5,rfl,hs⟩:=hs.rd_pnd .here hx;obtain ⟨rfl,_⟩:=hs.rd_shape (show Pick _ (.rd kActn (.slice A5 n5 c5) x.acts) _ from .there .here);subst hxe;refine wp_skip ?_;refine hK43 _ _ ?_;refine wp_seq_k fun K45 hK45=>?_;refine wp_block ?_;refine wp_seq_k fun K46 hK46=>?_;refine wp_region_lit ?_;refine pY ha (yMove rfl) fun a ha=>?_;refine pY ha (yMove rfl) fun a ha=>?_;refine pY ha (yIndexA Tryz.runUnderlying44 Tryz.sizeOf47 rfl rfl (by omega) (by omega)) fun a ha=>?_;refine pY ha (yFieldA Tryz.runUnderlying47 rfl Tryz.sizeOf3 rfl rfl) fun a ha=>?_;refine pY ha (yLoadR Tryz.isAgg3 hs rfl pk0 rfl) fun a ha=>?_;refine pY ha (yNeq rfl rfl) fun a ha=>?_;refine pY ha (yMove rfl) fun a ha=>?_;refine gSplit (t:=190) ha rfl (fun hg6=>?_) (fun hg6=>?_)
                  · rw [hg6] at ha;refine gOn ha ?_;refine pY ha (yMove rfl) fun a ha=>?_;refine gOn ha ?_;refine pY ha (yMove rfl) fun a ha=>?_;refine gOn ha ?_;refine pY ha (yIndexA Tryz.runUnderlying44 Tryz.sizeOf47 rfl rfl (by omega) (by omega)) fun a ha=>?_;refine gOn ha ?_;refine pY ha (yFieldA Tryz.runUnderlying47 rfl Tryz.sizeOf33 rfl rfl) fun a ha=>?_;refine gOn ha ?_;refine pY ha (yLoadR Tryz.isAgg33 hs rfl pk0 rfl) fun a ha=>?_;refine gOn ha ?_;refine pY ha (yLenS Tryz.runUnderlying33 rfl) fun a ha=>?_;refine gOn ha ?_;refine pY ha (yNeq rfl rfl) fun a ha=>?_;refine pY ha (yPickF rfl rfl) fun a ha=>?_;refine pZ ?_;refine hK46 _ _ ?_;refine cNDec ha rfl (fun hc198=>?_) (fun hc198=>?_)
                    · simp at hc198
                    · refine wp_skip ?_;refine hK45 _ _ ?_;refine wp_region_lit ?_;refine pY ha (yMove rfl) fun a ha=>?_;refine pY ha (yAddN rfl rfl ⟨by omega,by omega⟩) fun a ha=>?_;refine pY ha (yAssign rfl) fun a ha=>?_;refine pZ ?_;exact ⟨j + 1,⟨by omega,has5 ha rfl rfl rfl rfl rfl,(by exact hs.to (by repeat first | with_reducible exact Picks.refl | (with_reducible apply Picks.cons; · with_reducible repeat first | exact .here | apply Pick.there) | with_reducible refine Picks.skip ?_))⟩,by omega⟩
                  · simp at hg6
                · refine wp_exit ?_;refine hK41 _ _ ?_;refine wp_seq_k fun K47 hK47=>?_
                  have hs : Sep W w (.rd kPnd (.slice B3 (i - 1) d3) (tD i rev).gone::.cli false bc (tD i rev)::cs):=(by exact hs)
                  obtain ⟨ho7,ho8⟩:=out_pull (q:=tD i rev) rfl (.inl rfl);refine wp_region_lit ?_;refine pY ha (yMove rfl) fun a ha=>?_;refine pC ha (nCall Tryz.call19 rfl) rfl (CIdle_c (c:=tD i rev) (show (1 : Int) ≠ 0 by decide) hs pk1) ?_;rintro v w ⟨rfl,hs⟩ a ha;refine pY ha (yMove rfl) fun a ha=>?_;refine gOn ha ?_;refine pY ha (yMove rfl) fun a ha=>?_;refine gOn ha ?_;refine pY ha (yLenS Tryz.runUnderlying44 rfl) fun a ha=>?_;refine gOn ha ?_;refine pY ha (yMove rfl) fun a ha=>?_;refine gOn ha ?_;refine pY ha (yMove rfl) fun a ha=>?_;refine gOn ha ?_;refine pY ha (ySubN rfl rfl ⟨by omega,by omega⟩) fun a ha=>?_;refine gOn ha ?_;refine pY ha (yEql rfl rfl) fun a ha=>?_;refine pY ha (yPickT rfl rfl) fun a ha=>?_;refine pY ha (yMove rfl) fun a ha=>?_;refine gSplit (t:=209) ha rfl (fun hg10=>?_) (fun hg10=>?_)
                  · (have:=of_decide_eq_false hg10; omega)
                  · rw [hg10] at ha;refine gOn ha ?_;refine pY ha (yMove rfl) fun a ha=>?_;refine gOn ha ?_;refine pC ha (nCall Tryz.call9 rfl) rfl (COut_c (q:=tD i rev) (tF_ok (i:=i) (rev:=rev) (.inr rfl)) hs pk0) ?_;rintro v w ⟨es,rfl,hs⟩ a ha;obtain ⟨G1,x4,y4,G2,x5,y5,G3,x6,y6,rfl,hs⟩:=hs.el_msg .here;rw [ho7] at ha;refine gOn ha ?_;refine pY ha (yField Tryz.runUnderlying37 rfl Tryz.isAgg3 rfl rfl) fun a ha=>?_;refine gOn ha ?_;refine pY ha (yEql rfl rfl) fun a ha=>?_;refine pY ha (yPickT rfl rfl) fun a ha=>?_;refine pY ha (yMove rfl) fun a ha=>?_;refine gOn ha ?_;refine pC ha (nCall Tryz.call5 rfl) rfl (awake23_c hT hs) ?_;rintro v w ⟨rfl,hs⟩ a ha;refine pY ha (yPickT rfl rfl) fun a ha=>?_;refine pY ha (yAssign rfl) fun a ha=>?_;refine pZ ?_;refine hK47 _ _ ?_;refine wp_ret ?_;show bodyPost Tryz.prog Tryz.f4 _ .ret _ _;refine ret1 rfl ha rfl ?_;exact ⟨rfl,_,hs⟩
            · simp at hg14
set_option maxHeartbeats 1000000 in
theorem SnapA_c (hT : Tabs W) (n rev : Int) (hs : Sep W w cs) :
    Calls Tryz.prog 4 #[.int .i64 n,.bool true,.bool false,.int .i64 rev] w (Rt fun v w'=>v = .bool true∧∃ rs,Sep W w' rs):=by
  refine enter Tryz.func4 Tryz.ntmps4 rfl rfl fun a (ha : Has a 218 [(0,_),(1,_),(2,_),(3,_)])=>?_;refine wp_seq_k fun K1 hK1=>?_;refine wp_region_lit ?_;refine pY ha (yAssign rfl) fun a ha=>?_;refine pZ ?_;refine hK1 _ _ ?_;refine wp_seq_k fun K2 hK2=>?_;refine wp_seq_k fun K3 hK3=>?_;refine cutC (fun a w=>∃ g : Bool,(g = false→(1≤n∧n≤10)∧1≤rev∧rev≤1000)∧Has a 218 [(33,.bool g),(0,.int .i64 n),(1,.bool true),(2,.bool false),(3,.int .i64 rev)]∧Sep W w cs) ?_ ?_
  · refine wp_region_lit ?_;refine pY ha (yMove rfl) fun a ha=>?_;refine pY ha (yLss rfl rfl) fun a ha=>?_;refine pY ha (yMove rfl) fun a ha=>?_;refine gDec (t:=22) ha rfl (fun hg2 hp2=>?_) (fun hg2 hp2=>?_)
    · rw [hg2] at ha;refine gOn ha ?_;refine pY ha (yMove rfl) fun a ha=>?_;refine gOn ha ?_;refine pY ha (yGtr rfl rfl) fun a ha=>?_;refine pY ha (yPickF rfl rfl) fun a ha=>?_;refine pY ha (yMove rfl) fun a ha=>?_;refine gSplit (t:=26) ha rfl (fun hg6=>?_) (fun hg6=>?_)
      · rw [hg6] at ha;refine gOn ha ?_;refine pY ha (yMove rfl) fun a ha=>?_;refine gOn ha ?_;refine pY ha (yLss rfl rfl) fun a ha=>?_;refine pY ha (yPickF rfl rfl) fun a ha=>?_;refine pY ha (yMove rfl) fun a ha=>?_;refine gSplit (t:=30) ha rfl (fun hg10=>?_) (fun hg10=>?_)
        · rw [hg10] at ha;refine gOn ha ?_;refine pY ha (yMove rfl) fun a ha=>?_;refine gOn ha ?_;refine pY ha (yGtr rfl rfl) fun a ha=>?_;refine pY ha (yPickF rfl rfl) fun a ha=>?_;refine pZ ⟨rfl,?_⟩;refine ⟨_,fun h=>?_,has5 ha rfl rfl rfl rfl rfl,hs⟩;exact ⟨⟨by simpa using hg2,by simpa using hg6⟩,by simpa using hg10,by simpa using h⟩
        · rw [hg10] at ha;refine gOff ha fun a ha=>?_;refine gOff ha fun a ha=>?_;refine pY ha (yPickT rfl rfl) fun a ha=>?_;refine pZ ⟨rfl,?_⟩;refine ⟨_,fun h=>?_,has5 ha rfl rfl rfl rfl rfl,hs⟩
          (cases h; done)
      · rw [hg6] at ha;refine gOff ha fun a ha=>?_;refine gOff ha fun a ha=>?_;refine pY ha (yPickT rfl rfl) fun a ha=>?_;refine pY ha (yMove rfl) fun a ha=>?_;refine gOff ha fun a ha=>?_;refine gOff ha fun a ha=>?_;refine pY ha (yPickT rfl rfl) fun a ha=>?_;refine pZ ⟨rfl,?_⟩;refine ⟨_,fun h=>?_,has5 ha rfl rfl rfl rfl rfl,hs⟩
        (cases h; done)
    · rw [hg2] at ha;refine gOff ha fun a ha=>?_;refine gOff ha fun a ha=>?_;refine pY ha (yPickT rfl rfl) fun a ha=>?_;refine pY ha (yMove rfl) fun a ha=>?_;refine gOff ha fun a ha=>?_;refine gOff ha fun a ha=>?_;refine pY ha (yPickT rfl rfl) fun a ha=>?_;refine pY ha (yMove rfl) fun a ha=>?_;refine gOff ha fun a ha=>?_;refine gOff ha fun a ha=>?_;refine pY ha (yPickT rfl rfl) fun a ha=>?_;refine pZ ⟨rfl,?_⟩;refine ⟨_,fun h=>?_,has5 ha rfl rfl rfl rfl rfl,hs⟩
      (cases h; done)
  rintro a w ⟨g,hg33,ha,hs⟩;refine hK3 _ _ ?_;refine cSplit ha rfl (fun hc33=>?_) (fun hc33=>?_)
  · refine wp_seq_k fun K4 hK4=>?_;refine wp_region_lit ?_;refine pC ha (nCall Tryz.call5 rfl) rfl (awake23_c hT hs) ?_;rintro v w ⟨rfl,hs⟩ a ha;refine pY ha (yAssign rfl) fun a ha=>?_;refine pZ ?_;refine hK4 _ _ ?_;refine wp_ret ?_;show bodyPost Tryz.prog Tryz.f4 _ .ret _ _;refine ret1 rfl ha rfl ?_;exact ⟨rfl,_,hs⟩
  · obtain ⟨⟨hn1,hn10⟩,hrev⟩:=hg33 hc33;obtain ⟨k,rfl⟩ : ∃ k : Nat,n = (k : Int):=⟨n.toNat,by omega⟩
    have hk1 : 1≤k:=by omega
    have hk10 : k≤10:=by omega
    have hgl : (goneL true (penG actT k)).length = k - 1:=goneT_len true k
    have hpl : (penG actT k).length = k:=penG_len actT k
    refine wp_skip ?_;refine hK2 _ _ ?_;refine wp_seq_k fun K5 hK5=>?_;refine wp_region_lit ?_;refine pC ha (nCall Tryz.call6 rfl) rfl (CNew_c 1 hs) ?_;rintro v w hd0 a ha;obtain ⟨_,_,bc,rfl,hs⟩:=hd0.resolve_right (fun h=>h.1 (by decide));have hs:=hs.msg_none 4 1 0 0 0 4;refine pY ha (yMove rfl) fun a ha=>?_;refine pY ha (yExtract rfl rfl) fun a ha=>?_;refine pY ha (yExtract rfl rfl) fun a ha=>?_;refine pY ha (yAssign rfl) fun a ha=>?_;refine pY ha (yAssign rfl) fun a ha=>?_;refine pZ ?_;refine hK5 _ _ ?_;refine wp_seq_k fun K6 hK6=>?_;refine wp_seq_k fun K7 hK7=>?_;refine wp_region_lit ?_;refine pY ha (yMove rfl) fun a ha=>?_;refine pY ha (yNeq rfl rfl) fun a ha=>?_;refine pY ha (yMove rfl) fun a ha=>?_;refine gOn ha ?_;refine pY ha (yMove rfl) fun a ha=>?_;refine gOn ha ?_;refine pY ha (yPtrEqlN Tryz.underlying24 rfl rfl) fun a ha=>?_;refine pY ha (yPickF rfl rfl) fun a ha=>?_;refine pY ha (yMove rfl) fun a ha=>?_;refine gOn ha ?_;refine pY ha (yMove rfl) fun a ha=>?_;refine gOn ha ?_;refine pY ha (bldSnpW37_0_1_8 rfl rfl rfl) fun a ha=>?_;refine gOn ha ?_;refine pC ha (nCall Tryz.call10 rfl) rfl (CInW_c hT (q:=newC 1) (m:=mTW) (by decide) rfl tW_ok.2.1 tW_ok.2.2 hs pk1 pk0) ?_;rintro v w ⟨rfl,hs⟩ a ha;rw [tW_ok.1] at *;rw [if_pos rfl] at *;rw [show cWel (newC 1) mTW = tC 0 from rfl] at hs;refine gOn ha ?_;refine pY ha (yNeq rfl rfl) fun a ha=>?_;refine pY ha (yPickF rfl rfl) fun a ha=>?_;refine pZ ?_;refine hK7 _ _ ?_;refine cFalse ha rfl ?_;refine wp_skip ?_;refine hK6 _ _ ?_;refine wp_seq_k fun K8 hK8=>?_;refine wp_seq_k fun K9 hK9=>?_;refine wp_region_lit ?_;refine pY ha (yAssign rfl) fun a ha=>?_;refine pZ ?_;refine hK9 _ _ ?_;refine wp_block ?_;refine loopI (ι:=Nat) (fun i a w=>i≤k∧Has a 218 [(0,.int .i64 k),(1,.bool true),(2,.bool false),(3,.int .i64 rev),(9,.pointer (some ⟨bc,0,none⟩)),(11,.int .i64 i)]∧Sep W w (.cli true bc (tC i)::cs)) (fun i=>k - i) (0) ?_ ?_
    · exact ⟨Nat.zero_le _,has6 ha rfl rfl rfl rfl rfl rfl,(by exact hs.to (by repeat first | with_reducible exact Picks.refl | (with_reducible apply Picks.cons; · with_reducible repeat first | exact .here | apply Pick.there) | with_reducible refine Picks.skip ?_))⟩
    · rintro i a w ⟨h1,ha,hs⟩;refine wp_seq_k fun K10 hK10=>?_;refine wp_seq_k fun K11 hK11=>?_;refine wp_region_lit ?_;refine pY ha (yMove rfl) fun a ha=>?_;refine pY ha (yMove rfl) fun a ha=>?_;refine pY ha (yLss rfl rfl) fun a ha=>?_;refine pZ ?_;refine hK11 _ _ ?_;refine cDec ha rfl (fun hc53=>?_) (fun hc53=>?_)
      · refine wp_skip ?_;refine hK10 _ _ ?_;refine wp_seq_k fun K12 hK12=>?_;refine wp_block ?_;refine wp_seq_k fun K13 hK13=>?_;refine wp_region_lit ?_;refine pY ha (yMove rfl) fun a ha=>?_;refine pY ha (yMove rfl) fun a ha=>?_;refine pY ha (yAddN rfl rfl ⟨by omega,by omega⟩) fun a ha=>?_;refine pY ha (yMove rfl) fun a ha=>?_;refine pC ha (nCall Tryz.call8 rfl) rfl (Block_c 2 (i : Int) (by decide) (by omega) (by omega) hs) ?_;rintro v w ⟨rfl,hs⟩ a ha;refine pY ha (yStrAdd rfl rfl (by rw [block_size]; decide)) fun a ha=>?_;refine pY ha (bldSnpW32_0_1_3 rfl rfl rfl) fun a ha=>?_;refine pMake ha (bslSnpW33_1_0 rfl) hs rfl fun ba w hs a ha=>?_
        have hs:=(hs.add (x:=.el kActn (actT i) [.int .i64 1,.int .i64 ((i : Int) + 1),.int .i64 0,.string (nameT i),.bool false,.slice none 0 0]) (fun Z=>⟨none,0,0,rfl,Kd.sl_nil _ _⟩)).one_rd (.there .here) .here
        obtain ⟨hE1,hE2⟩:=editG (N:=10) (by decide) fullT (show i < 10 by omega) (q:=tC i) rfl rfl
        have hE2 : editC (tC i) [actT i] = tC (i + 1):=hE2
        have hok:=tC_ok (i:=i) (by omega) (.inl rfl)
        have hpi : (tC i).l.length = i:=penG_len actT i
        refine pC ha (nCall Tryz.call7 rfl) rfl (CEdit_c hT (q:=tC i) (l:=[actT i]) hok (by omega) (by simp [actT]) (by simp [(mA_T i).2]) (by simp) hs pk1 pk0) ?_;rintro v w ⟨rfl,hs⟩ a ha;rw [hE1] at ha;rw [hE2] at hs;refine pY ha (yNeq rfl rfl) fun a ha=>?_;refine pZ ?_;refine hK13 _ _ ?_;refine cFalse ha rfl ?_;refine wp_skip ?_;refine hK12 _ _ ?_;refine wp_region_lit ?_;refine pY ha (yMove rfl) fun a ha=>?_;refine pY ha (yAddN rfl rfl ⟨by omega,by omega⟩) fun a ha=>?_;refine pY ha (yAssign rfl) fun a ha=>?_;refine pZ ?_;exact ⟨i + 1,⟨by omega,has6 ha rfl rfl rfl rfl rfl rfl,(by exact hs.to (by repeat first | with_reducible exact Picks.refl | (with_reducible apply Picks.cons; · with_reducible repeat first | exact .here | apply Pick.there) | with_reducible refine Picks.skip ?_))⟩,by omega⟩
      · refine wp_exit ?_;refine hK8 _ _ ?_;refine wp_seq_k fun K14 hK14=>?_;refine wp_seq_k fun K15 hK15=>?_;obtain rfl : i = k:=by omega
        obtain ⟨ho1,ho2⟩:=tU_out hk1;obtain ⟨ho3,ho4⟩:=tB_out i;refine wp_region_lit ?_;refine pY ha (yMove rfl) fun a ha=>?_;refine pZ ?_;refine hK15 _ _ ?_;refine cTrue ha rfl ?_;refine wp_seq_k fun K16 hK16=>?_;refine wp_region_lit ?_;refine pY ha (yMove rfl) fun a ha=>?_;refine pC ha (nCall Tryz.call9 rfl) rfl (COut_c (q:=tC i) (tC_ok hk10 (.inl rfl)) hs pk0) ?_;rintro v w ⟨es,rfl,hs⟩ a ha;obtain ⟨B1,p1,q1,B2,p2,q2,B3,p3,q3,rfl,hs⟩:=hs.el_msg .here;rw [ho2] at hs;rw [ho1] at ha hs;refine pAlloc (zs:=[.int .i64 0,.int .i64 0,.int .i64 0,.int .i64 0,.int .i64 0,.slice none 0 0,.slice none 0 0,.slice none 0 0,.int .i64 0]) ha Tryz.zeroValue37 rfl hs rfl fun b12 w hs a ha=>?_;refine pStoreA ha Tryz.sizeOf37 hs rfl rfl pk0 rfl rfl rfl fun w hs=>?_;refine pZ ?_;refine hK16 _ _ ?_;refine wp_seq_k fun K17 hK17=>?_;have hs:=hs.msg_none 9 0 0 0 14 0;refine wp_region_lit ?_;refine pY ha (yFieldA Tryz.runUnderlying37 rfl Tryz.sizeOf3 rfl rfl) fun a ha=>?_;refine pY ha (yLoadB Tryz.isAgg3 hs rfl pk1 rfl) fun a ha=>?_;refine pY ha (yNeq rfl rfl) fun a ha=>?_;refine pY ha (yMove rfl) fun a ha=>?_;refine gOn ha ?_;refine pY ha (yFieldA Tryz.runUnderlying37 rfl Tryz.sizeOf3 rfl rfl) fun a ha=>?_;refine gOn ha ?_;refine pY ha (yLoadB Tryz.isAgg3 hs rfl pk1 rfl) fun a ha=>?_;refine gOn ha ?_;refine pY ha (yNeq rfl rfl) fun a ha=>?_;refine pY ha (yPickF rfl rfl) fun a ha=>?_;refine pY ha (yMove rfl) fun a ha=>?_;refine gOn ha ?_;refine pY ha (yMove rfl) fun a ha=>?_;refine gOn ha ?_;refine pY ha (bldSnpW37_0_4 rfl rfl) fun a ha=>?_;refine gOn ha ?_;refine pC ha (nCall Tryz.call10 rfl) rfl (CInR_c hT (q:=tU i) (m:=mTR) (tC_ok hk10 (.inr (.inl rfl))) rfl tR_ok.2.1 tR_ok.2.2 tR_ok.1 hs pk6 pk0) ?_;rintro v w ⟨rfl,hs⟩ a ha;rw [show refC (tU i) mTR = tB i from rfl] at hs;refine gOn ha ?_;refine pY ha (yNeq rfl rfl) fun a ha=>?_;refine pY ha (yPickF rfl rfl) fun a ha=>?_;refine pY ha (yMove rfl) fun a ha=>?_;refine gOn ha ?_;refine pY ha (yMove rfl) fun a ha=>?_;refine gOn ha ?_;refine pC ha (nCall Tryz.call9 rfl) rfl (COut_c (q:=tB i) (tC_ok hk10 (.inr (.inr (.inl rfl)))) hs pk0) ?_;rintro v w ⟨es,rfl,hs⟩ a ha;obtain ⟨D1,s1,t1,D2,s2,t2,D3,s3,t3,rfl,hs⟩:=hs.el_msg .here;rw [ho4] at hs;rw [ho3] at ha hs;refine gOn ha ?_;refine pY ha (yField Tryz.runUnderlying37 rfl Tryz.isAgg3 rfl rfl) fun a ha=>?_;refine gOn ha ?_;refine pY ha (yNeq rfl rfl) fun a ha=>?_;refine pY ha (yPickF rfl rfl) fun a ha=>?_;refine pZ ?_;refine hK17 _ _ ?_;refine cFalse ha rfl ?_;refine wp_skip ?_;refine hK14 _ _ ?_;refine wp_seq_k fun K18 hK18=>?_
        have hs : Sep W w (.cli false bc (tB i)::cs):=(by exact hs.to (by repeat first | with_reducible exact Picks.refl | (with_reducible apply Picks.cons; · with_reducible repeat first | exact .here | apply Pick.there) | with_reducible refine Picks.skip ?_))
        refine wp_region_lit ?_;refine pY ha (bldSnpW53_0_2_4 rfl rfl rfl) fun a ha=>?_;refine pMake ha (bslSnpW35_1_0 rfl) hs rfl fun bn w hs a ha=>?_
        have hs:=(hs.add (x:=.el kNod n50 [.int .i64 50,.int .i64 0,.string ⟨#[115]⟩,.bool false,.string ⟨#[115,110,97,112]⟩]) (fun Z=>rfl)).one_rd (.there .here) .here
        refine pY ha (yAssign rfl) fun a ha=>?_;refine pZ ?_;refine hK18 _ _ ?_;refine wp_seq_k fun K19 hK19=>?_;refine wp_seq_k fun K20 hK20=>?_;have hs:=hs.cpR (show Pick _ (.rd kNod (.slice (some ⟨bn,0,none⟩) 1 1) [n50]) _ from pk0)
        have hs:=((hs.rd_nil (d:=kCmt)).rd_nil (d:=kActn)).mk_msg (x:=mTS rev) .here .here (show Pick _ (.rd kNod (.slice (some ⟨bn,0,none⟩) 1 1) [n50]) _ from pk0)
        have hs:=hs.msg_none 8 0 0 rev 0 0;obtain ⟨e1,e2,e3⟩:=tS_ok hrev;obtain ⟨f1,f2,f3⟩:=t0_ok hrev
        have hin : snapIn (tB i) (mTS rev) = tS true i rev:=tS_in true hrev.1 rfl
        have hin2:=tS_same true i rev
        have hql : (tB i).l.length = i:=penG_len actT i
        have hsl : (tS true i rev).l.length = 1:=by rw [show (tS true i rev).l = (tS true i 0).l from rfl,tS_l true hk1]; rfl
        have hsg : (tS true i rev).gone.length = i - 1:=hgl
        refine wp_region_lit ?_;refine pY ha (yMove rfl) fun a ha=>?_;refine pY ha (yMove rfl) fun a ha=>?_;refine pY ha (yMove rfl) fun a ha=>?_;refine pY ha (bldSnpW37_0_3_7 rfl rfl rfl) fun a ha=>?_;refine pC ha (nCall Tryz.call10 rfl) rfl (CInS_c hT (q:=tB i) (m:=mTS rev) (tC_ok hk10 (.inr (.inr (.inl rfl)))) rfl e2 e3 e1 rfl n50_load (by intro x hx; exact e2.2.2.2.1 x hx) (show [n50].length≤1000000000 by decide) (by omega) (show (0 : Nat)≤1000 by decide) hs pk3 pk1) ?_;rintro v w ⟨rfl,hs⟩ a ha;rw [hin] at hs;refine pY ha (yNeq rfl rfl) fun a ha=>?_;refine pY ha (yMove rfl) fun a ha=>?_;refine gOn ha ?_;refine pY ha (yMove rfl) fun a ha=>?_;refine gOn ha ?_;refine pY ha (yMove rfl) fun a ha=>?_;refine gOn ha ?_;refine pY ha (bldSnpW37_0_3 rfl rfl) fun a ha=>?_;refine gOn ha ?_;refine pC ha (nCall Tryz.call10 rfl) rfl (CInS_c hT (q:=tS true i rev) (m:=mT0 rev) (tS_ok2 true hk1 rev) rfl f2 f3 f1 rfl (show loadOk [] = true by decide) (by intro x hx; cases hx) (show (0 : Nat)≤1000000000 by decide) (by omega) (by omega) hs pk0 pk0) ?_;rintro v w ⟨rfl,hs⟩ a ha;rw [hin2] at hs;refine gOn ha ?_;refine pY ha (yNeq rfl rfl) fun a ha=>?_;refine pY ha (yPickF rfl rfl) fun a ha=>?_;refine pZ ?_;refine hK20 _ _ ?_;refine cFalse ha rfl ?_;refine wp_skip ?_;refine hK19 _ _ ?_;refine wp_seq_k fun K21 hK21=>?_
        have hs : Sep W w (.cli false bc (tS true i rev)::.rd kNod (.slice (some ⟨bn,0,none⟩) 1 1) [n50]::cs):=(by exact hs.to (by repeat first | with_reducible exact Picks.refl | (with_reducible apply Picks.cons; · with_reducible repeat first | exact .here | apply Pick.there) | with_reducible refine Picks.skip ?_))
        refine wp_region_lit ?_;refine pY ha (yMove rfl) fun a ha=>?_;refine pC ha (nCall Tryz.call16 rfl) rfl (CView_c hT (tS_ok2 true hk1 rev) hs pk0) ?_;rintro v w ⟨bv,bm,rfl,hs⟩ a ha;rw [tS_view true hk1 rev] at hs;refine pY ha (yAssign rfl) fun a ha=>?_;refine pZ ?_;refine hK21 _ _ ?_;refine wp_seq_k fun K22 hK22=>?_;refine wp_seq_k fun K23 hK23=>?_;refine wp_region_lit ?_;refine pY ha (yMove rfl) fun a ha=>?_;refine pY ha (yPtrEqlN Tryz.underlying54 rfl rfl) fun a ha=>?_;refine pY ha (yMove rfl) fun a ha=>?_;refine gOn ha ?_;refine pY ha (yMove rfl) fun a ha=>?_;refine gOn ha ?_;refine pC ha (nCall Tryz.call18 rfl) rfl (TNodes_c ids50 hs pk0 pk0) ?_;rintro v w ⟨A,c,rfl,hs⟩ a ha;have hs:=hs.ol_rd .here;rw [sort50] at ha hs;refine gOn ha ?_;refine pY ha (yMove rfl) fun a ha=>?_;refine gOn ha ?_;refine pC ha (nCall Tryz.call17 rfl) rfl (RSameN_c (xs:=[n50]) (ys:=[n50]) hs pk0 (show Pick _ (.rd kNod (.slice (some ⟨bn,0,none⟩) 1 1) [n50]) _ from pk4)) ?_;rintro v w ⟨rfl,hs⟩ a ha;rw [show decide ([n50] = [n50]) = true from decide_eq_true rfl] at ha;refine gOn ha ?_;refine pY ha (yNot rfl) fun a ha=>?_;refine pY ha (yPickF rfl rfl) fun a ha=>?_;refine pY ha (yMove rfl) fun a ha=>?_;refine gOn ha ?_;refine pY ha (yMove rfl) fun a ha=>?_;refine gOn ha ?_;refine pC ha (nCall Tryz.call14 rfl) rfl (CRev_c (c:=tS true i rev) (show (1 : Int) ≠ 0 by decide) hs pk3) ?_;rintro v w ⟨rfl,hs⟩ a ha;refine gOn ha ?_;refine pY ha (yMove rfl) fun a ha=>?_;refine gOn ha ?_;refine pY ha (yNeq rfl rfl) fun a ha=>?_;refine pY ha (yPickF rfl rfl) fun a ha=>?_;refine pZ ?_;refine hK23 _ _ ?_;refine cNDec ha rfl (fun hc120=>?_) (fun hc120=>?_)
        · exact absurd rfl hc120
        · refine wp_skip ?_;refine hK22 _ _ ?_;refine wp_seq_k fun K24 hK24=>?_;refine wp_region_lit ?_;refine pY ha (yAssign rfl) fun a ha=>?_;refine pZ ?_;refine hK24 _ _ ?_;refine wp_seq_k fun K25 hK25=>?_;refine wp_seq_k fun K26 hK26=>?_;refine wp_region_lit ?_;refine pY ha (yMove rfl) fun a ha=>?_;refine pZ ?_;refine hK26 _ _ ?_;refine cTrue ha rfl ?_;refine wp_region_lit ?_;refine pY ha (yAssign rfl) fun a ha=>?_;refine pZ ?_;refine hK25 _ _ ?_;refine wp_seq_k fun K27 hK27=>?_;refine wp_seq_k fun K28 hK28=>?_
          have hs : Sep W w (.cli false bc (tS true i rev)::cs):=(by exact hs.to (by repeat first | with_reducible exact Picks.refl | (with_reducible apply Picks.cons; · with_reducible repeat first | exact .here | apply Pick.there) | with_reducible refine Picks.skip ?_))
          refine wp_region_lit ?_;refine pY ha (yMove rfl) fun a ha=>?_;refine pC ha (nCall Tryz.call15 rfl) rfl (CPend_c (q:=tS true i rev) (tS_ok2 true hk1 rev) (by omega) hs pk0) ?_;rintro v w ⟨B,d1,rfl,hs⟩ a ha;rw [hsl] at ha hs;refine pY ha (yLenS Tryz.runUnderlying49 rfl) fun a ha=>?_;refine pY ha (yMove rfl) fun a ha=>?_;refine pY ha (yNeq rfl rfl) fun a ha=>?_;refine pY ha (yMove rfl) fun a ha=>?_;refine gOn ha ?_;refine pY ha (yMove rfl) fun a ha=>?_;refine gOn ha ?_
          refine pC ha (nCall Tryz.call13 rfl) rfl (CLost_c (q:=tS true i rev) (show (1 : Int) ≠ 0 by decide) (fun p hp=>by
            obtain ⟨j,_,rfl⟩:=goneT_all (u:=true) (i:=i) hk10 hp
            exact ⟨by simp,fun x hx=>by simp at hx; subst hx; exact (mA_T j).2.2.1⟩) (by omega) hs pk1) ?_
          rintro v w ⟨B2,d2,rfl,hs⟩ a ha;rw [hsg] at ha hs;refine gOn ha ?_;refine pY ha (yLenS Tryz.runUnderlying44 rfl) fun a ha=>?_;refine gOn ha ?_;refine pY ha (yMove rfl) fun a ha=>?_;refine gOn ha ?_;refine pY ha (yMove rfl) fun a ha=>?_;refine gOn ha ?_;refine pY ha (ySubN rfl rfl ⟨by omega,by omega⟩) fun a ha=>?_;refine gOn ha ?_;refine pY ha (yNeq rfl rfl) fun a ha=>?_;refine pY ha (yPickF rfl rfl) fun a ha=>?_;refine pZ ?_;refine hK28 _ _ ?_;refine cNDec ha rfl (fun hc135=>?_) (fun hc135=>?_)
          · omega
          · refine wp_skip ?_;refine hK27 _ _ ?_;refine wp_seq_k fun K29 hK29=>?_;refine wp_seq_k fun K30 hK30=>?_
            have hs : Sep W w (.cli false bc (tS true i rev)::cs):=(by exact hs.to (by repeat first | with_reducible exact Picks.refl | (with_reducible apply Picks.cons; · with_reducible repeat first | exact .here | apply Pick.there) | with_reducible refine Picks.skip ?_))
            refine wp_region_lit ?_;refine pY ha (yMove rfl) fun a ha=>?_;refine pZ ?_;refine hK30 _ _ ?_;refine cTrue ha rfl ?_;refine wp_seq_k fun K31 hK31=>?_;obtain ⟨ho5,ho6⟩:=tS_out hk1 rev;refine wp_region_lit ?_;refine pY ha (yMove rfl) fun a ha=>?_;refine pC ha (nCall Tryz.call9 rfl) rfl (COut_c (q:=tS true i rev) (tS_ok2 true hk1 rev) hs pk0) ?_;rintro v w ⟨es,rfl,hs⟩ a ha;obtain ⟨E1,x1,y1,E2,x2,y2,E3,x3,y3,rfl,hs⟩:=hs.el_msg .here;rw [ho6] at hs;rw [ho5] at ha hs;obtain ⟨rfl,_⟩:=hs.rd_shape (show Pick _ (.rd kActn (.slice E1 _ _) []) _ from .here);refine pAlloc (zs:=[.int .i64 0,.int .i64 0,.int .i64 0,.int .i64 0,.int .i64 0,.slice none 0 0,.slice none 0 0,.slice none 0 0,.int .i64 0]) ha Tryz.zeroValue37 rfl hs rfl fun b27 w hs a ha=>?_;refine pStoreA ha Tryz.sizeOf37 hs rfl rfl pk0 rfl rfl rfl fun w hs=>?_;refine pZ ?_;refine hK31 _ _ ?_;refine wp_seq_k fun K32 hK32=>?_;refine wp_seq_k fun K33 hK33=>?_;refine wp_region_lit ?_;refine pY ha (yFieldA Tryz.runUnderlying37 rfl Tryz.sizeOf3 rfl rfl) fun a ha=>?_;refine pY ha (yLoadB Tryz.isAgg3 hs rfl pk0 rfl) fun a ha=>?_;refine pY ha (yNeq rfl rfl) fun a ha=>?_;refine pY ha (yMove rfl) fun a ha=>?_;refine gOn ha ?_;refine pY ha (yFieldA Tryz.runUnderlying37 rfl Tryz.sizeOf3 rfl rfl) fun a ha=>?_;refine gOn ha ?_;refine pY ha (yLoadB Tryz.isAgg3 hs rfl pk0 rfl) fun a ha=>?_;refine gOn ha ?_;refine pY ha (yNeq rfl rfl) fun a ha=>?_;refine pY ha (yPickF rfl rfl) fun a ha=>?_;refine pY ha (yMove rfl) fun a ha=>?_;refine gOn ha ?_;refine pY ha (yFieldA Tryz.runUnderlying37 rfl Tryz.sizeOf3 rfl rfl) fun a ha=>?_;refine gOn ha ?_;refine pY ha (yLoadB Tryz.isAgg3 hs rfl pk0 rfl) fun a ha=>?_;refine gOn ha ?_;refine pY ha (yMove rfl) fun a ha=>?_;refine gOn ha ?_;refine pY ha (yNeq rfl rfl) fun a ha=>?_;refine pY ha (yPickF rfl rfl) fun a ha=>?_;refine pY ha (yMove rfl) fun a ha=>?_;refine gSplit (t:=153) ha rfl (fun hg14=>?_) (fun hg14=>?_)
            · rw [hg14] at ha;refine gOn ha ?_;refine pY ha (yFieldA Tryz.runUnderlying37 rfl Tryz.sizeOf33 rfl rfl) fun a ha=>?_;refine gOn ha ?_;refine pY ha (yLoadB Tryz.isAgg33 hs rfl pk0 rfl) fun a ha=>?_;refine gOn ha ?_;refine pY ha (yLenS Tryz.runUnderlying33 rfl) fun a ha=>?_;refine gOn ha ?_;refine pY ha (yNeq rfl rfl) fun a ha=>?_;refine pY ha (yPickF rfl rfl) fun a ha=>?_;refine pY ha (yMove rfl) fun a ha=>?_;refine gOn ha ?_;refine pY ha (yFieldA Tryz.runUnderlying37 rfl Tryz.sizeOf3 rfl rfl) fun a ha=>?_;refine gOn ha ?_;refine pY ha (yLoadB Tryz.isAgg3 hs rfl pk0 rfl) fun a ha=>?_;refine gOn ha ?_;refine pY ha (yNeq rfl rfl) fun a ha=>?_;refine pY ha (yPickF rfl rfl) fun a ha=>?_;refine pZ ?_;refine hK33 _ _ ?_;refine cFalse ha rfl ?_;refine wp_skip ?_;refine hK32 _ _ ?_;refine wp_seq_k fun K34 hK34=>?_;refine wp_region_lit ?_;refine pY ha (yFieldA Tryz.runUnderlying37 rfl Tryz.sizeOf3 rfl rfl) fun a ha=>?_;refine pY ha (yLoadB Tryz.isAgg3 hs rfl pk0 rfl) fun a ha=>?_;refine pY ha (bldSnpW37_0_1_2_4 rfl rfl rfl rfl) fun a ha=>?_;refine pAlloc (zs:=[.int .i64 0,.int .i64 0,.int .i64 0,.int .i64 0,.int .i64 0,.slice none 0 0,.slice none 0 0,.slice none 0 0,.int .i64 0]) ha Tryz.zeroValue37 rfl hs rfl fun b30 w hs a ha=>?_;refine pStoreA ha Tryz.sizeOf37 hs rfl rfl pk0 rfl rfl rfl fun w hs=>?_;refine pZ ?_;refine hK34 _ _ ?_;refine wp_seq_k fun K35 hK35=>?_;refine wp_seq_k fun K36 hK36=>?_;refine wp_region_lit ?_;refine pY ha (yMove rfl) fun a ha=>?_;refine pZ ?_;refine hK36 _ _ ?_;refine cFalse ha rfl ?_;refine wp_skip ?_;refine hK35 _ _ ?_;refine wp_seq_k fun K37 hK37=>?_;refine wp_seq_k fun K38 hK38=>?_
              have hs : Sep W w (.blk b30 37 [.int .i64 6,.int .i64 1,.int .i64 5,.int .i64 0,.int .i64 14,.slice none 0 0,.slice none 0 0,.slice none 0 0,.int .i64 0]::.cli false bc (tS true i rev)::cs):=(by exact hs.to (by repeat first | with_reducible exact Picks.refl | (with_reducible apply Picks.cons; · with_reducible repeat first | exact .here | apply Pick.there) | with_reducible refine Picks.skip ?_))
              have hs:=hs.msg_none 6 1 5 0 14 0;obtain ⟨u1,u2,u3⟩:=tA_ok;refine wp_region_lit ?_;refine pY ha (yMove rfl) fun a ha=>?_;refine pY ha (yLoadBA Tryz.isAgg37 Tryz.sizeOf37 hs rfl pk1 rfl) fun a ha=>?_;refine pC ha (nCall Tryz.call10 rfl) rfl (CInA_c hT (q:=tS true i rev) (m:=mTA) (tS_ok2 true hk1 rev) rfl u2 u3 u1 (by omega) hs pk2 pk0) ?_;rintro v w ⟨rfl,hs⟩ a ha;rw [tA_in hk1 rev] at hs;refine pY ha (yNeq rfl rfl) fun a ha=>?_;refine pZ ?_;refine hK38 _ _ ?_;refine cFalse ha rfl ?_;refine wp_skip ?_;refine hK37 _ _ ?_;refine wp_seq_k fun K39 hK39=>?_;refine wp_region_lit ?_;refine pY ha (yMove rfl) fun a ha=>?_;refine pY ha (yNot rfl) fun a ha=>?_;refine pZ ?_;refine hK39 _ _ ?_;refine cTrue ha rfl ?_;refine wp_region_lit ?_;refine pY ha (yAssign rfl) fun a ha=>?_;refine pZ ?_;refine hK29 _ _ ?_;refine wp_seq_k fun K40 hK40=>?_
              have hs : Sep W w (.cli false bc (tA i rev)::cs):=(by exact hs.to (by repeat first | with_reducible exact Picks.refl | (with_reducible apply Picks.cons; · with_reducible repeat first | exact .here | apply Pick.there) | with_reducible refine Picks.skip ?_))
              have hfg : (tA i rev).gone.length = i:=by show (goneL true (penG actT i)++[_]).length = i; rw [List.length_append,hgl]; simp; omega
              have hfa : ∀ p ∈ (tA i rev).gone,∃ j,j < 10∧p = ⟨[actT j],14⟩:=fun p hp=>(List.mem_append.1 (show p ∈ goneL true (penG actT i)++[⟨[actT 0],14⟩] from hp)).elim (fun h=>goneT_all hk10 h) (fun h=>⟨0,by decide,by simpa using h⟩)
              refine wp_region_lit ?_;refine pY ha (yMove rfl) fun a ha=>?_
              refine pC ha (nCall Tryz.call13 rfl) rfl (CLost_c (q:=tA i rev) (show (1 : Int) ≠ 0 by decide) (fun p hp=>by
                obtain ⟨j,_,rfl⟩:=hfa p hp
                exact ⟨by simp,fun x hx=>by simp at hx; subst hx; exact (mA_T j).2.2.1⟩) (by omega) hs pk0) ?_
              rintro v w ⟨B3,d3,rfl,hs⟩ a ha;rw [hfg] at ha hs;refine pY ha (yAssign rfl) fun a ha=>?_;refine pZ ?_;refine hK40 _ _ ?_;refine wp_seq_k fun K41 hK41=>?_;refine wp_seq_k fun K42 hK42=>?_;refine wp_region_lit ?_;refine pY ha (yAssign rfl) fun a ha=>?_;refine pZ ?_;refine hK42 _ _ ?_;refine wp_block ?_;refine loopI (ι:=Nat) (fun j a w=>j≤i∧Has a 218 [(0,.int .i64 i),(9,.pointer (some ⟨bc,0,none⟩)),(15,.int .i64 0),(18,.slice B3 (i) d3),(19,.int .i64 j)]∧Sep W w (.rd kPnd (.slice B3 (i) d3) (tA i rev).gone::.cli false bc (tA i rev)::cs)) (fun j=>i - j) (0) ?_ ?_
              · exact ⟨Nat.zero_le _,has5 ha rfl rfl rfl rfl rfl,(by exact hs)⟩
              · rintro j a w ⟨h2,ha,hs⟩;refine wp_seq_k fun K43 hK43=>?_;refine wp_seq_k fun K44 hK44=>?_;refine wp_region_lit ?_;refine pY ha (yMove rfl) fun a ha=>?_;refine pY ha (yMove rfl) fun a ha=>?_;refine pY ha (yLenS Tryz.runUnderlying44 rfl) fun a ha=>?_;refine pY ha (yLss rfl rfl) fun a ha=>?_;refine pZ ?_;refine hK44 _ _ ?_;refine cDec ha rfl (fun hc181=>?_) (fun hc181=>?_)
                · obtain ⟨x,hx⟩ : ∃ x,(tA i rev).gone[j]? = some x:=⟨_,List.getElem?_eq_getElem (by omega)⟩;obtain ⟨jj,_,hxe⟩:=hfa x (List.mem_of_getElem? hx);obtain ⟨b0,off,A5,n5,c5,rfl,hs⟩:=hs.rd_pnd .here hx;obtain ⟨rfl,_⟩:=hs.rd_shape (show Pick _ (.rd kActn (.slice A5 n5 c5) x.acts) _ from .there .here);subst hxe;refine wp_skip ?_;refine hK43 _ _ ?_;refine wp_seq_k fun K45 hK45=>?_;refine wp_block ?_;refine wp_seq_k fun K46 hK46=>?_;refine wp_region_lit ?_;refine pY ha (yMove rfl) fun a ha=>?_;refine pY ha (yMove rfl) fun a ha=>?_;refine pY ha (yIndexA Tryz.runUnderlying44 Tryz.sizeOf47 rfl rfl (by omega) (by omega)) fun a ha=>?_;refine pY ha (yFieldA Tryz.runUnderlying47 rfl Tryz.sizeOf3 rfl rfl) fun a ha=>?_;refine pY ha (yLoadR Tryz.isAgg3 hs rfl pk0 rfl) fun a ha=>?_;refine pY ha (yNeq rfl rfl) fun a ha=>?_;refine pY ha (yMove rfl) fun a ha=>?_;refine gSplit (t:=190) ha rfl (fun hg6=>?_) (fun hg6=>?_)
                  · rw [hg6] at ha;refine gOn ha ?_;refine pY ha (yMove rfl) fun a ha=>?_;refine gOn ha ?_;refine pY ha (yMove rfl) fun a ha=>?_;refine gOn ha ?_;refine pY ha (yIndexA Tryz.runUnderlying44 Tryz.sizeOf47 rfl rfl (by omega) (by omega)) fun a ha=>?_;refine gOn ha ?_;refine pY ha (yFieldA Tryz.runUnderlying47 rfl Tryz.sizeOf33 rfl rfl) fun a ha=>?_;refine gOn ha ?_;refine pY ha (yLoadR Tryz.isAgg33 hs rfl pk0 rfl) fun a ha=>?_;refine gOn ha ?_;refine pY ha (yLenS Tryz.runUnderlying33 rfl) fun a ha=>?_;refine gOn ha ?_;refine pY ha (yNeq rfl rfl) fun a ha=>?_;refine pY ha (yPickF rfl rfl) fun a ha=>?_;refine pZ ?_;refine hK46 _ _ ?_;refine cNDec ha rfl (fun hc198=>?_) (fun hc198=>?_)
                    · simp at hc198
                    · refine wp_skip ?_;refine hK45 _ _ ?_;refine wp_region_lit ?_;refine pY ha (yMove rfl) fun a ha=>?_;refine pY ha (yAddN rfl rfl ⟨by omega,by omega⟩) fun a ha=>?_;refine pY ha (yAssign rfl) fun a ha=>?_;refine pZ ?_;exact ⟨j + 1,⟨by omega,has5 ha rfl rfl rfl rfl rfl,(by exact hs.to (by repeat first | with_reducible exact Picks.refl | (with_reducible apply Picks.cons; · with_reducible repeat first | exact .here | apply Pick.there) | with_reducible refine Picks.skip ?_))⟩,by omega⟩
                  · simp at hg6
                · refine wp_exit ?_;refine hK41 _ _ ?_;refine wp_seq_k fun K47 hK47=>?_
                  have hs : Sep W w (.rd kPnd (.slice B3 (i) d3) (tA i rev).gone::.cli false bc (tA i rev)::cs):=(by exact hs)
                  obtain ⟨ho7,ho8⟩:=out_pull (q:=tA i rev) rfl (.inl rfl);refine wp_region_lit ?_;refine pY ha (yMove rfl) fun a ha=>?_;refine pC ha (nCall Tryz.call19 rfl) rfl (CIdle_c (c:=tA i rev) (show (1 : Int) ≠ 0 by decide) hs pk1) ?_;rintro v w ⟨rfl,hs⟩ a ha;refine pY ha (yMove rfl) fun a ha=>?_;refine gOn ha ?_;refine pY ha (yMove rfl) fun a ha=>?_;refine gOn ha ?_;refine pY ha (yLenS Tryz.runUnderlying44 rfl) fun a ha=>?_;refine gOn ha ?_;refine pY ha (yMove rfl) fun a ha=>?_;refine gOn ha ?_;refine pY ha (yMove rfl) fun a ha=>?_;refine gOn ha ?_;refine pY ha (ySubN rfl rfl ⟨by omega,by omega⟩) fun a ha=>?_;refine gOn ha ?_;refine pY ha (yEql rfl rfl) fun a ha=>?_;refine pY ha (yPickT rfl rfl) fun a ha=>?_;refine pY ha (yMove rfl) fun a ha=>?_;refine gSplit (t:=209) ha rfl (fun hg10=>?_) (fun hg10=>?_)
                  · (have:=of_decide_eq_false hg10; omega)
                  · rw [hg10] at ha;refine gOn ha ?_;refine pY ha (yMove rfl) fun a ha=>?_;refine gOn ha ?_;refine pC ha (nCall Tryz.call9 rfl) rfl (COut_c (q:=tA i rev) (tF_ok (i:=i) (rev:=rev) (.inl rfl)) hs pk0) ?_;rintro v w ⟨es,rfl,hs⟩ a ha;obtain ⟨G1,x4,y4,G2,x5,y5,G3,x6,y6,rfl,hs⟩:=hs.el_msg .here;rw [ho7] at ha;refine gOn ha ?_;refine pY ha (yField Tryz.runUnderlying37 rfl Tryz.isAgg3 rfl rfl) fun a ha=>?_;refine gOn ha ?_;refine pY ha (yEql rfl rfl) fun a ha=>?_;refine pY ha (yPickT rfl rfl) fun a ha=>?_;refine pY ha (yMove rfl) fun a ha=>?_;refine gOn ha ?_;refine pC ha (nCall Tryz.call5 rfl) rfl (awake23_c hT hs) ?_;rintro v w ⟨rfl,hs⟩ a ha;refine pY ha (yPickT rfl rfl) fun a ha=>?_;refine pY ha (yAssign rfl) fun a ha=>?_;refine pZ ?_;refine hK47 _ _ ?_;refine wp_ret ?_;show bodyPost Tryz.prog Tryz.f4 _ .ret _ _;refine ret1 rfl ha rfl ?_;exact ⟨rfl,_,hs⟩
            · simp at hg14
end
end Go.Proofs.YtkbbnpjbjakpcaaGreatDoor

set_option linter.unusedVariables false
namespace Go.Proofs.YtkbbnpjbjakpcaaGreatDoor
open Go.RowKit Go.Lib
section
variable {W w : World} {cs : List Ch}
theorem ClientSnapshot_c (hT : Tabs W) (n rev : Int) (s d : Bool) (hs : Sep W w cs) :
    Calls Tryz.prog 4 #[.int .i64 n,.bool s,.bool d,.int .i64 rev] w (Rt fun v w'=>v = .bool true∧∃ rs,Sep W w' rs):=by
  cases s
  · exact SnapF_c hT n rev d hs
  · cases d
    · exact SnapA_c hT n rev hs
    · exact SnapT_c hT n rev hs
end
end Go.Proofs.YtkbbnpjbjakpcaaGreatDoor

