/- A part of the proof of ClientSends (part 4 of 4): the words and the walks. -/
import Derived.Test.YtkbbnpjbjakpcaaGreatDoorKSndC
set_option linter.unusedVariables false
set_option linter.unusedSimpArgs false
namespace Go.Proofs.YtkbbnpjbjakpcaaGreatDoor
open Go.RowKit Go.Lib Go.Proofs.YtkbbnpjbjakpcaaGreatDoorW.PrintLast
theorem bldClG47_0_1 {w : World} {l : List (Nat × Value)} {T : TypeId} {x0 x1 : Operand} {v0 : Value} (h0 : ev l x0 = some v0) {v1 : Value} (h1 : ev l x1 = some v1) (o0 : v0.cells = #[v0]:=by rfl) (o1 : v1.cells = #[v1]:=by rfl) : Yl Tryz.prog w l (.build 47 #[(0,x0),(1,x1)]) T (.agg #[v0,v1]):=fun ρ o h ho _=>by
  have hf : Instr.fill (fun i=>([(0,1),(1,1)] : List (Nat × Nat))[i]?) #[.slice none 0 0,.int .i64 0] [(0,v0),(1,v1)] = some #[v0,v1]:=by
    refine (fill_v o0 rfl (by simp)).trans ?_;refine (fill_v o1 rfl (by simp)).trans ?_
    simp [Instr.fill]
  unfold execOp; rw [ho]
  simp [h _ _ h0,h _ _ h1,Instr.build,Tryz.zeroValue47,Tryz.runUnderlying47,Tryz.sizeOf3,Tryz.sizeOf33,agg_cells,hf]
theorem bslClG44_1_0 {w : World} {l : List (Nat × Value)} {T : TypeId} {x0 : Operand} {c0 : List Value} (h0 : ev l x0 = some (.agg c0.toArray)) (n0 : c0.length = 2:=by rfl) : Mk Tryz.prog w l (.buildSlice 44 1 #[(0,x0)]) T 47 1 c0:=fun ρ o h ho _=>by
  unfold execOp; rw [ho];exact mk1 (P:=Tryz.prog) w Tryz.runUnderlying44 Tryz.sizeOf47 Tryz.zeroValue47 (by decide) (by decide) n0 (h _ _ h0)
theorem elClG44 : ElemT Tryz.prog 44 47 2 32:=elemT_mk Tryz.underlying44 rfl (by kernel_rfl)
def mineB (q : Cli) (c s : Int) : Bool:=decide (c = q.id) && (decide (s = q.last + 1) && decide (0 < q.l.length))
def goesC (q : Cli) : Cli := { q with l:=q.l.drop 1,under:=false,told:=false,last:=q.last + 1 }
def lossK (p : Pnd) (code : Int) : Int:=if p.e ≠ 0 then p.e else code
def losesC (q : Cli) (p : Pnd) (code : Int) : Cli := { q with gone:=q.gone++[⟨p.acts,lossK p code⟩] }
def takeC (q : Cli) (x : Cmt) : Cli := { q with base:=(doL q.base x.acts).1,rev:=x.rev,behind:=false }
section
variable {W w : World} {cs r r2 : List Ch} {o : Bool} {bc : Nat} {q : Cli}
theorem Sep.two {a b : Ch} (h : Sep W w cs) (h1 : Pick cs a r) (h2 : Pick r b r2) : Sep W w (a::b::r2):=h.perm (h1.perm.trans (h2.perm.cons _))
theorem Sep.three {a b c : Ch} {r3 : List Ch} (h : Sep W w cs) (h1 : Pick cs a r) (h2 : Pick r b r2) (h3 : Pick r2 c r3) : Sep W w (a::b::c::r3):=h.perm (h1.perm.trans ((h2.perm.trans (h3.perm.cons _)).cons _))
theorem Sep.rd_pnd {A : Option Addr} {n c i : Nat} {xs : List Pnd} {x : Pnd} (h : Sep W w cs) (hk : Pick cs (.rd kPnd (.slice A n c) xs) r) (hx : xs[i]? = some x) :
    ∃ b off A' n' c',A = some ⟨b,off,none⟩∧Sep W w (.at b (off + i * 2) [.slice A' n' c',.int .i64 x.e]::.rd kActn (.slice A' n' c') x.acts::cs):=by
  obtain ⟨b,off,c',es,he,hl,hs⟩:=h.rd_at hk hx;simp only [Value.slice.injEq] at he;obtain ⟨A',n',c2,hes⟩ : ∃ A' n' c2,es = [.slice A' n' c2,.int .i64 x.e]:=hs.know (.there .here) (fun Z _ ⟨A,n,c,e,_⟩=>⟨A,n,c,e⟩);subst hes
  have h2:=hs.perm (List.Perm.swap _ _ _)
  have h3:=h2.imp (x:=.rd kActn (.slice A' n' c2) x.acts) (fun Z _ _ hp=>by
    obtain ⟨A,n,c,e,hsl⟩:=hp;simp only [List.cons.injEq,Value.slice.injEq] at e;obtain ⟨⟨rfl,rfl,rfl⟩,_⟩:=e
    exact hsl)
  exact ⟨b,off,A',n',c2,he.1,h3.perm (List.Perm.swap _ _ _)⟩
theorem Sep.pl_rd {T : TypeId} {v : Value} {l : List Pnd} (h : Sep W w cs) (hk : Pick cs (.pl o T v l) r) : Sep W w (.rd kPnd v l::r):=by
  unfold Ch.pl at hk
  split at hk
  · exact h.ol_rd hk
  · exact h.pick hk
/-- What is pending is for reading alone. -/
theorem Sep.cli_weak (h : Sep W w cs) (hk : Pick cs (.cli o bc q) r) : Sep W w (.cli false bc q::r):=by
  obtain ⟨bt,bm,A,n,A',n',hl1,hl2,hs⟩:=h.cli_open hk;have hs:=hs.pl_rd (.there (.there (.there .here)));exact hs.cli_shut (bt:=bt) (bm:=bm) (o:=false) (c:=q) (bc:=bc) (.there .here) (.there .here) (.there .here) .here .here
theorem CMine_c {bt : Nat} {A : Option Addr} {n : Nat} {vg : Value} (hla : 0≤q.last∧q.last≤4000000000000000000) (c s : Int) (hs : Sep W w cs) (hk : Pick cs (.blk bc 61 (cliV q bt (.slice A q.l.length n) vg)) r) :
    Calls Tryz.prog 26 #[.pointer (some ⟨bc,0,none⟩),.int .i64 c,.int .i64 s] w (Rt fun v w'=>v = .bool (mineB q c s)∧Sep W w' (.blk bc 61 (cliV q bt (.slice A q.l.length n) vg)::r)):=by
  have hs:=hs.pick hk;obtain ⟨hla1,hla2⟩:=hla;refine enter Tryz.func26 Tryz.ntmps26 rfl rfl fun a (ha : Has a 30 [(0,_),(1,_),(2,_)])=>?_;refine wp_seq_k fun K1 hK1=>?_;refine wp_region_lit ?_;refine pY ha (yAssign rfl) fun a ha=>?_;refine pZ ?_;refine hK1 _ _ ?_;refine wp_seq_k fun K2 hK2=>?_;refine wp_region_lit ?_;refine pY ha (yMove rfl) fun a ha=>?_;refine pY ha (yMove rfl) fun a ha=>?_;refine pY ha (yNilP rfl) fun a ha=>?_;refine pY ha (yFieldA Tryz.runUnderlying61 rfl Tryz.sizeOf3 rfl rfl) fun a ha=>?_;refine pY ha (yLoadB Tryz.isAgg3 hs rfl pk0 rfl) fun a ha=>?_;refine pY ha (yEql rfl rfl) fun a ha=>?_;refine pY ha (yMove rfl) fun a ha=>?_;refine gDec (t:=13) ha rfl (fun hg6 hp6=>?_) (fun hg6 hp6=>?_)
  · rw [hg6] at ha;refine gOff ha fun a ha=>?_;refine gOff ha fun a ha=>?_;refine gOff ha fun a ha=>?_;refine gOff ha fun a ha=>?_;refine gOff ha fun a ha=>?_;refine gOff ha fun a ha=>?_;refine gOff ha fun a ha=>?_;refine pY ha (yPickF rfl rfl) fun a ha=>?_;refine pY ha (yMove rfl) fun a ha=>?_;refine gOff ha fun a ha=>?_;refine gOff ha fun a ha=>?_;refine gOff ha fun a ha=>?_;refine gOff ha fun a ha=>?_;refine gOff ha fun a ha=>?_;refine gOff ha fun a ha=>?_;refine pY ha (yPickF rfl rfl) fun a ha=>?_;refine pY ha (yAssign rfl) fun a ha=>?_;refine pZ ?_;refine hK2 _ _ ?_;refine wp_ret ?_;show bodyPost Tryz.prog Tryz.f26 _ .ret _ _;refine ret1 rfl ha rfl ?_;refine ⟨congrArg Value.bool ?_,hs⟩;unfold mineB
    (rw [hg6]; rfl)
  · rw [hg6] at ha;refine gOn ha ?_;refine pY ha (yMove rfl) fun a ha=>?_;refine gOn ha ?_;refine pY ha (yMove rfl) fun a ha=>?_;refine gOn ha ?_;refine pY ha (yNilP rfl) fun a ha=>?_;refine gOn ha ?_;refine pY ha (yFieldA Tryz.runUnderlying61 rfl Tryz.sizeOf3 rfl rfl) fun a ha=>?_;refine gOn ha ?_;refine pY ha (yLoadB Tryz.isAgg3 hs rfl pk0 rfl) fun a ha=>?_;refine gOn ha ?_;refine pY ha (yAddN rfl rfl ⟨by omega,by omega⟩) fun a ha=>?_;refine gOn ha ?_;refine pY ha (yEql rfl rfl) fun a ha=>?_;refine pY ha (yPickT rfl rfl) fun a ha=>?_;refine pY ha (yMove rfl) fun a ha=>?_;refine gSplit (t:=22) ha rfl (fun hg15=>?_) (fun hg15=>?_)
    · rw [hg15] at ha;refine gOff ha fun a ha=>?_;refine gOff ha fun a ha=>?_;refine gOff ha fun a ha=>?_;refine gOff ha fun a ha=>?_;refine gOff ha fun a ha=>?_;refine gOff ha fun a ha=>?_;refine pY ha (yPickF rfl rfl) fun a ha=>?_;refine pY ha (yAssign rfl) fun a ha=>?_;refine pZ ?_;refine hK2 _ _ ?_;refine wp_ret ?_;show bodyPost Tryz.prog Tryz.f26 _ .ret _ _;refine ret1 rfl ha rfl ?_;refine ⟨congrArg Value.bool ?_,hs⟩;unfold mineB
      (rw [hg6,hg15]; simp; done)
    · rw [hg15] at ha;refine gOn ha ?_;refine pY ha (yMove rfl) fun a ha=>?_;refine gOn ha ?_;refine pY ha (yNilP rfl) fun a ha=>?_;refine gOn ha ?_;refine pY ha (yFieldA Tryz.runUnderlying61 rfl Tryz.sizeOf59 rfl rfl) fun a ha=>?_;refine gOn ha ?_;refine pY ha (yLoadB Tryz.isAgg59 hs rfl pk0 rfl) fun a ha=>?_;refine gOn ha ?_;refine pY ha (yLenS Tryz.runUnderlying59 rfl) fun a ha=>?_;refine gOn ha ?_;refine pY ha (yGtr rfl rfl) fun a ha=>?_;refine pY ha (yPickT rfl rfl) fun a ha=>?_;refine pY ha (yAssign rfl) fun a ha=>?_;refine pZ ?_;refine hK2 _ _ ?_;refine wp_ret ?_;show bodyPost Tryz.prog Tryz.f26 _ .ret _ _;refine ret1 rfl ha rfl ?_;refine ⟨congrArg Value.bool ?_,hs⟩;unfold mineB
      (rw [hg6,hg15]; simp; done)
theorem CGoes_c (hla : 0≤q.last∧q.last≤4000000000000000000) (h0 : 0 < q.l.length) (hs : Sep W w cs) (hk : Pick cs (.cli o bc q) r) :
    Calls Tryz.prog 27 #[.pointer (some ⟨bc,0,none⟩)] w (Rt fun v w'=>v = .tuple #[]∧Sep W w' (.cli false bc (goesC q)::r)):=by
  obtain ⟨bt,bm,A,n,A',n',hl1,hl2,hs⟩:=hs.cli_open hk;have hs:=hs.pl_rd (.there (.there (.there .here)));obtain ⟨_,hcap,_⟩:=hs.rd_shape .here;have hs:=hs.rd_cut .here (show 1≤q.l.length from h0) (Nat.le_refl _);rw [List.take_length] at hs;obtain ⟨hla1,hla2⟩:=hla;refine enter Tryz.func27 Tryz.ntmps27 rfl rfl fun a (ha : Has a 23 [(0,_)])=>?_;refine wp_seq_k fun K1 hK1=>?_;refine wp_region_lit ?_;refine pY ha (yMove rfl) fun a ha=>?_;refine pY ha (yMove rfl) fun a ha=>?_;refine pY ha (yMove rfl) fun a ha=>?_;refine pY ha (yMove rfl) fun a ha=>?_;refine pY ha (yNilP rfl) fun a ha=>?_;refine pY ha (yFieldA Tryz.runUnderlying61 rfl Tryz.sizeOf59 rfl rfl) fun a ha=>?_;refine pY ha (yLoadB Tryz.isAgg59 hs rfl pk2 rfl) fun a ha=>?_;refine pY ha (ySlice (lo:=1) Tryz.runUnderlying59 Tryz.sizeOf66 rfl (.inr ⟨_,_,rfl,rfl⟩) (.inl ⟨rfl,rfl⟩) h0 hcap) fun a ha=>?_;refine pY ha (yNilP rfl) fun a ha=>?_;refine pY ha (yFieldA Tryz.runUnderlying61 rfl Tryz.sizeOf59 rfl rfl) fun a ha=>?_;refine pStore ha Tryz.sizeOf59 hs rfl rfl rfl rfl pk2 rfl fun w hs=>?_;refine pY ha (yNilP rfl) fun a ha=>?_;refine pY ha (yFieldA Tryz.runUnderlying61 rfl Tryz.sizeOf4 rfl rfl) fun a ha=>?_;refine pStore ha Tryz.sizeOf4 hs rfl rfl rfl rfl pk0 rfl fun w hs=>?_;refine pY ha (yNilP rfl) fun a ha=>?_;refine pY ha (yFieldA Tryz.runUnderlying61 rfl Tryz.sizeOf4 rfl rfl) fun a ha=>?_;refine pStore ha Tryz.sizeOf4 hs rfl rfl rfl rfl pk0 rfl fun w hs=>?_;refine pZ ?_;refine hK1 _ _ ?_;refine wp_region_lit ?_;refine pY ha (yMove rfl) fun a ha=>?_;refine pY ha (yNilP rfl) fun a ha=>?_;refine pY ha (yFieldA Tryz.runUnderlying61 rfl Tryz.sizeOf3 rfl rfl) fun a ha=>?_;refine pY ha (yLoadB Tryz.isAgg3 hs rfl pk0 rfl) fun a ha=>?_;refine pY ha (yAddN rfl rfl ⟨by omega,by omega⟩) fun a ha=>?_;refine pY ha (yNilP rfl) fun a ha=>?_;refine pY ha (yFieldA Tryz.runUnderlying61 rfl Tryz.sizeOf3 rfl rfl) fun a ha=>?_;refine pStore ha Tryz.sizeOf3 hs rfl rfl rfl rfl pk0 rfl fun w hs=>?_;refine pZ ?_;show bodyPost Tryz.prog Tryz.f27 _ .normal _ _;refine end0 rfl ha ?_;exact ⟨rfl,(hs.cli_shut (bt:=bt) (bm:=bm) (o:=false) (c:=goesC q) (bc:=bc) pk0 pk2 pk2 pk0 pk1).to (.cons .here (by repeat first | exact .refl | refine .skip ?_))⟩
theorem CLoses_c {A2 : Option Addr} {n2 c2 : Nat} (p : Pnd) (code : Int) (hlp : p.acts.length≤1000000000) (hop : ∀ x ∈ p.acts,x.ops.length≤1000000000) (hg : q.gone.length≤1000000) (hs : Sep W w cs) (hk : Pick cs (.cli o bc q) r) (hk2 : Pick r (.rd kActn (.slice A2 n2 c2) p.acts) r2) :
    Calls Tryz.prog 28 #[.pointer (some ⟨bc,0,none⟩),.agg [.slice A2 n2 c2,.int .i64 p.e].toArray,.int .i64 code] w (Rt fun v w'=>v = .tuple #[]∧Sep W w' (.cli o bc (losesC q p code)::r)):=by
  obtain ⟨rfl,hl⟩:=(hs.pick hk).rd_shape (.there hk2);have hs:=hs.pick hk
  have hk2 : Pick (.cli o bc q::r) (.rd kActn (.slice A2 p.acts.length c2) p.acts) (.cli o bc q::r2):=.there hk2
  have hs:=hs.cpR hk2;obtain ⟨bt,bm,A,n,A',n',hl1,hl2,hs⟩:=hs.cli_open (.there .here);refine enter Tryz.func28 Tryz.ntmps28 rfl rfl fun a (ha : Has a 25 [(0,_),(1,_),(2,_)])=>?_;refine wp_seq_k fun K1 hK1=>?_;refine wp_region_lit ?_;refine pBox (es:=_) ha rfl rfl hs rfl fun b4 w hs a ha=>?_;refine pZ ?_;refine hK1 _ _ ?_;refine wp_seq_k fun K2 hK2=>?_;refine wp_seq_k fun K3 hK3=>?_;refine wp_region_lit ?_;refine pY ha (yFieldA Tryz.runUnderlying66 rfl Tryz.sizeOf25 rfl rfl) fun a ha=>?_;refine pY ha (yLoadB Tryz.isAgg25 hs rfl pk0 rfl) fun a ha=>?_;refine pY ha (yNeq rfl rfl) fun a ha=>?_;refine pZ ?_;refine hK3 _ _ ?_;refine cNDec ha rfl (fun hc8=>?_) (fun hc8=>?_)
  · have hcd : lossK p code = p.e:=if_pos hc8
    refine wp_region_lit ?_;refine pY ha (yFieldA Tryz.runUnderlying66 rfl Tryz.sizeOf25 rfl rfl) fun a ha=>?_;refine pY ha (yLoadB Tryz.isAgg25 hs rfl pk0 rfl) fun a ha=>?_;refine pY ha (yAssign rfl) fun a ha=>?_;refine pZ ?_;refine hK2 _ _ ?_;refine dStart (fun w=>∃ rs,Sep W w (.blk b4 66 [.slice A2 p.acts.length c2,.int .i64 p.e]::.blk bc 61 (cliV q bt (.slice A q.l.length n) (.slice A' q.gone.length n'))::rs)) [11,14] 32767 2046 (by kernel_rfl) (by kernel_rfl) rfl (⟨_,hs.drew.two pk0 pk0⟩) ?_
    have hs:=Sep.drew hs
    generalize World.drew _ = w at hs ⊢;refine dP 0 1 rfl ha (fun _=>yMove rfl) fun a ha=>?_;refine dP 1 3 rfl ha (fun _=>yMove rfl) fun a ha=>?_;refine dP 2 7 rfl ha (fun _=>yNilP rfl) fun a ha=>?_;refine dP 3 15 rfl ha (fun _=>yFieldA Tryz.runUnderlying61 rfl Tryz.sizeOf44 rfl rfl) fun a ha=>?_;refine dT 4 31 rfl ha (fun _ ⟨rs,hs⟩=>yLoadB Tryz.isAgg44 hs rfl pk1 rfl) (⟨_,hs.two pk0 pk0⟩) fun a ha=>?_;refine dP 5 63 rfl ha (fun _=>yFieldA Tryz.runUnderlying66 rfl Tryz.sizeOf33 rfl rfl) fun a ha=>?_;refine dT 6 127 rfl ha (fun _ ⟨rs,hs⟩=>yLoadB Tryz.isAgg33 hs rfl pk0 rfl) (⟨_,hs.two pk0 pk0⟩) fun a ha=>?_;refine dP 8 383 rfl ha (fun _=>yMove rfl) fun a ha=>?_;refine dC 7 511 rfl (by kernel_rfl) rfl ha won0 (nCall Tryz.call23 rfl) rfl (Own_c (xs:=p.acts) hs pk6 hlp hop) ?_;rintro v w ⟨A3,c3,rfl,hs⟩;refine ⟨⟨_,hs.two pk1 pk1⟩,fun a ha=>?_⟩;have hs:=hs.mk_pnd ⟨p.acts,lossK p code⟩ .here;refine dP 9 1023 rfl ha (fun _=>bldClG47_0_1 rfl rfl) fun a ha=>?_;rw [← hcd] at ha;refine dMake 10 2047 rfl (by kernel_rfl) rfl ha won0 (bslClG44_1_0 rfl) hs rfl (fun _ _ hs=>⟨_,hs.two pk3 pk3⟩) fun b w hs a ha=>?_;refine dApp1l 11 4095 rfl (by kernel_rfl) rfl ha won0 elClG44 rfl rfl hs pk8 pk0 pk0 rfl (by (unfold maxLen; omega)) (by omega) rfl fun A c w hs a ha=>?_;refine dP 12 8191 rfl ha (fun _=>yNilP rfl) fun a ha=>?_;refine dP 13 16383 rfl ha (fun _=>yFieldA Tryz.runUnderlying61 rfl Tryz.sizeOf44 rfl rfl) fun a ha=>?_;refine dStorel 14 32767 rfl (by kernel_rfl) rfl ha won0 Tryz.sizeOf44 hs rfl rfl rfl rfl pk3 rfl fun w hs=>?_;refine dZ (by kernel_rfl) ?_;show bodyPost Tryz.prog Tryz.f28 _ .normal _ _;refine end0 rfl ha ?_;exact ⟨rfl,(hs.cli_shut (bt:=bt) (bm:=bm) (o:=o) (c:=losesC q p code) (bc:=bc) pk0 pk3 pk3 pk3 pk0).to (.cons .here (by repeat first | exact .refl | refine .skip ?_))⟩
  · have hcd : lossK p code = code:=if_neg (fun h=>h hc8)
    refine wp_skip ?_;refine hK2 _ _ ?_;refine dStart (fun w=>∃ rs,Sep W w (.blk b4 66 [.slice A2 p.acts.length c2,.int .i64 p.e]::.blk bc 61 (cliV q bt (.slice A q.l.length n) (.slice A' q.gone.length n'))::rs)) [11,14] 32767 2046 (by kernel_rfl) (by kernel_rfl) rfl (⟨_,hs.drew.two pk0 pk0⟩) ?_
    have hs:=Sep.drew hs
    generalize World.drew _ = w at hs ⊢;refine dP 0 1 rfl ha (fun _=>yMove rfl) fun a ha=>?_;refine dP 1 3 rfl ha (fun _=>yMove rfl) fun a ha=>?_;refine dP 2 7 rfl ha (fun _=>yNilP rfl) fun a ha=>?_;refine dP 3 15 rfl ha (fun _=>yFieldA Tryz.runUnderlying61 rfl Tryz.sizeOf44 rfl rfl) fun a ha=>?_;refine dT 4 31 rfl ha (fun _ ⟨rs,hs⟩=>yLoadB Tryz.isAgg44 hs rfl pk1 rfl) (⟨_,hs.two pk0 pk0⟩) fun a ha=>?_;refine dP 5 63 rfl ha (fun _=>yFieldA Tryz.runUnderlying66 rfl Tryz.sizeOf33 rfl rfl) fun a ha=>?_;refine dT 6 127 rfl ha (fun _ ⟨rs,hs⟩=>yLoadB Tryz.isAgg33 hs rfl pk0 rfl) (⟨_,hs.two pk0 pk0⟩) fun a ha=>?_;refine dP 8 383 rfl ha (fun _=>yMove rfl) fun a ha=>?_;refine dC 7 511 rfl (by kernel_rfl) rfl ha won0 (nCall Tryz.call23 rfl) rfl (Own_c (xs:=p.acts) hs pk6 hlp hop) ?_;rintro v w ⟨A3,c3,rfl,hs⟩;refine ⟨⟨_,hs.two pk1 pk1⟩,fun a ha=>?_⟩;have hs:=hs.mk_pnd ⟨p.acts,lossK p code⟩ .here;refine dP 9 1023 rfl ha (fun _=>bldClG47_0_1 rfl rfl) fun a ha=>?_;rw [← hcd] at ha;refine dMake 10 2047 rfl (by kernel_rfl) rfl ha won0 (bslClG44_1_0 rfl) hs rfl (fun _ _ hs=>⟨_,hs.two pk3 pk3⟩) fun b w hs a ha=>?_;refine dApp1l 11 4095 rfl (by kernel_rfl) rfl ha won0 elClG44 rfl rfl hs pk8 pk0 pk0 rfl (by (unfold maxLen; omega)) (by omega) rfl fun A c w hs a ha=>?_;refine dP 12 8191 rfl ha (fun _=>yNilP rfl) fun a ha=>?_;refine dP 13 16383 rfl ha (fun _=>yFieldA Tryz.runUnderlying61 rfl Tryz.sizeOf44 rfl rfl) fun a ha=>?_;refine dStorel 14 32767 rfl (by kernel_rfl) rfl ha won0 Tryz.sizeOf44 hs rfl rfl rfl rfl pk3 rfl fun w hs=>?_;refine dZ (by kernel_rfl) ?_;show bodyPost Tryz.prog Tryz.f28 _ .normal _ _;refine end0 rfl ha ?_;exact ⟨rfl,(hs.cli_shut (bt:=bt) (bm:=bm) (o:=o) (c:=losesC q p code) (bc:=bc) pk0 pk3 pk3 pk3 pk0).to (.cons .here (by repeat first | exact .refl | refine .skip ?_))⟩
theorem CCommitOwn_c (hT : Tabs W) {A2 : Option Addr} {n2 c2 : Nat} {x : Cmt} (hc : okC q) (h1 : ∀ a ∈ x.acts,a.kind = 1) (hm : ∀ a ∈ x.acts,mA a) (hok : doE q.base x.acts = 0) (hmine : mineB q x.client x.seq = true) (hs : Sep W w cs) (hk : Pick cs (.cli o bc q) r) (hk2 : Pick r (.rd kActn (.slice A2 n2 c2) x.acts) r2) :
    Calls Tryz.prog 25 #[.pointer (some ⟨bc,0,none⟩),.agg [.int .i64 x.rev,.int .i64 x.client,.int .i64 x.seq,.slice A2 n2 c2].toArray] w (Rt fun v w'=>v = .int .i64 0∧Sep W w' (.cli false bc (goesC (takeC q x))::r)):=by
  obtain ⟨rfl,hl⟩:=(hs.pick hk).rd_shape (.there hk2);have hs:=hs.pick hk
  have hk2 : Pick (.cli o bc q::r) (.rd kActn (.slice A2 x.acts.length c2) x.acts) (.cli o bc q::r2):=.there hk2
  have hs:=hs.cpR hk2;obtain ⟨bt,bm,A,n,A',n',hl1,hl2,hs⟩:=hs.cli_open (.there .here)
  have hl0 : 0 < q.l.length:=by
    unfold mineB at hmine;simp only [Bool.and_eq_true,decide_eq_true_eq] at hmine;exact hmine.2.2
  have hmt : mineB (takeC q x) x.client x.seq = true:=hmine
  refine enter Tryz.func25 Tryz.ntmps25 rfl rfl fun a (ha : Has a 91 [(0,_),(1,_)])=>?_;refine wp_seq_k fun K1 hK1=>?_;refine wp_region_lit ?_;refine pBox (es:=_) ha rfl rfl hs rfl fun b3 w hs a ha=>?_;refine pY ha (yAssign rfl) fun a ha=>?_;refine pZ ?_;refine hK1 _ _ ?_;refine wp_seq_k fun K2 hK2=>?_;refine dStart (fun w=>∃ rs,Sep W w (.blk b3 43 [.int .i64 x.rev,.int .i64 x.client,.int .i64 x.seq,.slice A2 x.acts.length c2]::.blk bc 61 (cliV q bt (.slice A q.l.length n) (.slice A' q.gone.length n'))::rs)) [6] 16383 63 (by kernel_rfl) (by kernel_rfl) rfl (⟨_,hs.drew.two pk0 pk0⟩) ?_
  have hs:=Sep.drew hs
  generalize World.drew _ = w at hs ⊢;refine dP 0 1 rfl ha (fun _=>yMove rfl) fun a ha=>?_;refine dP 1 3 rfl ha (fun _=>yNilP rfl) fun a ha=>?_;refine dP 2 7 rfl ha (fun _=>yFieldA Tryz.runUnderlying61 rfl Tryz.sizeOf54 rfl rfl) fun a ha=>?_;refine dT 3 15 rfl ha (fun _ ⟨rs,hs⟩=>yLoadB Tryz.isAgg54 hs rfl pk1 rfl) (⟨_,hs.two pk0 pk0⟩) fun a ha=>?_;refine dP 4 31 rfl ha (fun _=>yFieldA Tryz.runUnderlying43 rfl Tryz.sizeOf33 rfl rfl) fun a ha=>?_;refine dT 5 63 rfl ha (fun _ ⟨rs,hs⟩=>yLoadB Tryz.isAgg33 hs rfl pk0 rfl) (⟨_,hs.two pk0 pk0⟩) fun a ha=>?_;refine dCl 6 127 rfl (by kernel_rfl) rfl ha won0 (nCall Tryz.call22 rfl) rfl (TxnDo_c hT (l:=x.acts) (xs:=q.base) (bt:=bt) (bm:=bm) h1 hm hc.base hs pk2 pk2 pk4) ?_;rintro v w ⟨k,p,rfl,hd⟩ a ha;obtain ⟨_,b2,m2,rfl,hs⟩:=hd.resolve_right (fun h=>h.1 hok);rw [hok] at ha;refine dP 7 255 rfl ha (fun _=>yMove rfl) fun a ha=>?_;refine dP 8 511 rfl ha (fun _=>yExtract rfl rfl) fun a ha=>?_;refine dP 9 1023 rfl ha (fun _=>yExtract rfl rfl) fun a ha=>?_;refine dP 10 2047 rfl ha (fun _=>yExtract rfl rfl) fun a ha=>?_;refine dP 11 4095 rfl ha (fun _=>yAssign rfl) fun a ha=>?_;refine dP 12 8191 rfl ha (fun _=>yAssign rfl) fun a ha=>?_;refine dP 13 16383 rfl ha (fun _=>yAssign rfl) fun a ha=>?_;refine dZ (by kernel_rfl) ?_;refine hK2 _ _ ?_;refine wp_seq_k fun K3 hK3=>?_;refine wp_seq_k fun K4 hK4=>?_;refine wp_region_lit ?_;refine pY ha (yMove rfl) fun a ha=>?_;refine pY ha (yNeq rfl rfl) fun a ha=>?_;refine pZ ?_;refine hK4 _ _ ?_;refine cFalse ha rfl ?_;refine wp_skip ?_;refine hK3 _ _ ?_;refine wp_seq_k fun K5 hK5=>?_;refine dStart (fun w=>∃ rs,Sep W w (.blk b3 43 [.int .i64 x.rev,.int .i64 x.client,.int .i64 x.seq,.slice A2 x.acts.length c2]::rs)) [11,14] 32767 2043 (by kernel_rfl) (by kernel_rfl) rfl (⟨_,hs.drew.pick pk4⟩) ?_
  have hs:=Sep.drew hs
  generalize World.drew _ = w at hs ⊢;refine dP 0 1 rfl ha (fun _=>yMove rfl) fun a ha=>?_;refine dP 1 3 rfl ha (fun _=>yMove rfl) fun a ha=>?_;refine dP 2 7 rfl ha (fun _=>yMove rfl) fun a ha=>?_;refine dP 3 15 rfl ha (fun _=>yMove rfl) fun a ha=>?_;refine dP 4 31 rfl ha (fun _=>yFieldA Tryz.runUnderlying43 rfl Tryz.sizeOf3 rfl rfl) fun a ha=>?_;refine dT 5 63 rfl ha (fun _ ⟨rs,hs⟩=>yLoadB Tryz.isAgg3 hs rfl pk0 rfl) (⟨_,hs.pick pk4⟩) fun a ha=>?_;refine dP 6 127 rfl ha (fun _=>yNilP rfl) fun a ha=>?_;refine dP 7 255 rfl ha (fun _=>yFieldA Tryz.runUnderlying61 rfl Tryz.sizeOf54 rfl rfl) fun a ha=>?_;refine dStore 8 511 rfl (by kernel_rfl) rfl ha won0 Tryz.sizeOf54 hs rfl rfl rfl rfl pk5 rfl (fun _ hs=>⟨_,hs.pick pk5⟩) fun w hs=>?_;refine dP 9 1023 rfl ha (fun _=>yNilP rfl) fun a ha=>?_;refine dP 10 2047 rfl ha (fun _=>yFieldA Tryz.runUnderlying61 rfl Tryz.sizeOf3 rfl rfl) fun a ha=>?_;refine dStorel 11 4095 rfl (by kernel_rfl) rfl ha won0 Tryz.sizeOf3 hs rfl rfl rfl rfl pk0 rfl fun w hs=>?_;refine dP 12 8191 rfl ha (fun _=>yNilP rfl) fun a ha=>?_;refine dP 13 16383 rfl ha (fun _=>yFieldA Tryz.runUnderlying61 rfl Tryz.sizeOf4 rfl rfl) fun a ha=>?_;refine dStorel 14 32767 rfl (by kernel_rfl) rfl ha won0 Tryz.sizeOf4 hs rfl rfl rfl rfl pk0 rfl fun w hs=>?_;refine dZ (by kernel_rfl) ?_;refine hK5 _ _ ?_;refine wp_seq_k fun K6 hK6=>?_;refine wp_seq_k fun K7 hK7=>?_;refine wp_region_lit ?_;refine pY ha (yMove rfl) fun a ha=>?_;refine pY ha (yFieldA Tryz.runUnderlying43 rfl Tryz.sizeOf3 rfl rfl) fun a ha=>?_;refine pY ha (yLoadB Tryz.isAgg3 hs rfl pk5 rfl) fun a ha=>?_;refine pY ha (yFieldA Tryz.runUnderlying43 rfl Tryz.sizeOf3 rfl rfl) fun a ha=>?_;refine pY ha (yLoadB Tryz.isAgg3 hs rfl pk5 rfl) fun a ha=>?_;refine pC ha (nCall Tryz.call26 rfl) rfl (CMine_c (q:=takeC q x) (bt:=b2) (A:=A) (n:=n) (vg:=.slice A' q.gone.length n') hc.last x.client x.seq hs pk0) ?_;rintro v w ⟨rfl,hs⟩ a ha;rw [hmt] at ha;refine pZ ?_;refine hK7 _ _ ?_;refine cTrue ha rfl ?_;refine wp_seq_k fun K8 hK8=>?_;have hs:=hs.cli_shut (bt:=b2) (bm:=m2) (o:=o) (c:=takeC q x) (bc:=bc) pk0 pk0 pk0 pk3 pk3;refine wp_region_lit ?_;refine pY ha (yMove rfl) fun a ha=>?_;refine pC ha (nCall Tryz.call27 rfl) rfl (CGoes_c (q:=takeC q x) hc.last hl0 hs pk0) ?_;rintro v w ⟨rfl,hs⟩ a ha;refine pZ ?_;refine hK8 _ _ ?_;refine wp_seq_k fun K9 hK9=>?_;refine wp_region_lit ?_;refine pY ha (yAssign rfl) fun a ha=>?_;refine pZ ?_;refine hK9 _ _ ?_;refine wp_ret ?_;show bodyPost Tryz.prog Tryz.f25 _ .ret _ _;refine ret1 rfl ha rfl ?_;exact ⟨rfl,(by exact hs.to (by repeat first | exact Picks.refl | (apply Picks.cons; · repeat first | exact .here | apply Pick.there) | refine Picks.skip ?_))⟩
theorem CLost_c (hid : q.id ≠ 0) (hm : ∀ p ∈ q.gone,p.acts.length≤1000000000∧∀ x ∈ p.acts,x.ops.length≤1000000000) (hb : q.gone.length≤1000000) (hs : Sep W w cs) (hk : Pick cs (.cli o bc q) r) : Calls Tryz.prog 13 #[.pointer (some ⟨bc,0,none⟩)] w (Rt fun v w'=>∃ B d,v = .slice B q.gone.length d∧Sep W w' (.rd kPnd (.slice B q.gone.length d) q.gone::.cli o bc q::r)):=by
  obtain ⟨bt,bm,A,n,A',n',hl1,hl2,hs⟩:=hs.cli_open hk;refine enter Tryz.func13 Tryz.ntmps13 rfl rfl fun a (ha : Has a 27 [(0,_)])=>?_;refine wp_seq_k fun K1 hK1=>?_;refine wp_region_lit ?_;refine pY ha (yAssign rfl) fun a ha=>?_;refine pZ ?_;refine hK1 _ _ ?_;refine wp_seq_k fun K2 hK2=>?_;refine wp_seq_k fun K3 hK3=>?_;refine wp_region_lit ?_;refine pY ha (yMove rfl) fun a ha=>?_;refine pC ha (nCall Tryz.call21 rfl) rfl (CNone_c hid hs pk0) ?_;rintro v w ⟨rfl,hs⟩ a ha;refine pZ ?_;refine hK3 _ _ ?_;refine cFalse ha rfl ?_;refine wp_skip ?_;refine hK2 _ _ ?_;refine wp_seq_k fun K4 hK4=>?_;refine wp_seq_k fun K5 hK5=>?_;refine wp_region_lit ?_;refine pY ha (yMove rfl) fun a ha=>?_;refine pY ha (yNilP rfl) fun a ha=>?_;refine pY ha (yFieldA Tryz.runUnderlying61 rfl Tryz.sizeOf44 rfl rfl) fun a ha=>?_;refine pY ha (yLoadB Tryz.isAgg44 hs rfl pk0 rfl) fun a ha=>?_;refine pY ha (yLenS Tryz.runUnderlying44 rfl) fun a ha=>?_;refine pY ha (yMove rfl) fun a ha=>?_;refine pZ ?_;refine hK5 _ _ ?_;refine wp_block ?_;refine loopI (ι:=Nat × Option Addr × Nat) (fun i a w=>i.1≤q.gone.length∧Has a 27 [(2,.slice i.2.1 i.1 i.2.2),(10,.slice A' q.gone.length n'),(11,.int .i64 q.gone.length),(12,.int .i64 i.1)]∧Sep W w (.ol kPnd 47 (.slice i.2.1 i.1 i.2.2) (q.gone.take i.1)::.blk bc 61 (cliV q bt (.slice A q.l.length n) (.slice A' q.gone.length n'))::.blk bt 81 [.map (some bm)]::.mpN bm q.base::.pl o 66 (.slice A q.l.length n) q.l::.ol kPnd 47 (.slice A' q.gone.length n') q.gone::r)) (fun i=>q.gone.length - i.1) ((0,none,0)) ?_ ?_
  · exact ⟨Nat.zero_le _,has4 ha rfl rfl rfl rfl,hs.ol_nil kPnd _ none⟩
  · rintro i a w ⟨h1,ha,hs⟩;obtain ⟨i,B,d⟩:=i; simp only at h1 ha hs;refine wp_seq_k fun K6 hK6=>?_;refine wp_region_lit ?_;refine pY ha (yLss rfl rfl) fun a ha=>?_;refine pZ ?_;refine hK6 _ _ ?_;refine wp_seq_k fun K7 hK7=>?_;refine cDec ha rfl (fun hc13=>?_) (fun hc13=>?_)
    · obtain ⟨x,hx⟩ : ∃ x,q.gone[i]? = some x:=⟨_,List.getElem?_eq_getElem (by omega)⟩
      have hmem:=List.mem_of_getElem? hx
      have htl : (q.gone.take i).length = i:=by simp; omega
      obtain ⟨b0,cap0,es0,he0,_,hcell,hs⟩:=hs.ol_at (show Pick _ (.ol kPnd 47 (.slice A' q.gone.length n') q.gone) _ from pk5) hx;simp only [Value.slice.injEq] at he0;obtain ⟨rfl,_,rfl⟩:=he0;obtain ⟨A2,n2,c2,hes,hs2⟩:=hs.el_pnd .here;subst hes;obtain ⟨rfl,_⟩:=hs2.rd_shape .here;have hs:=hs2
      have hcell2 : ∀ (j : Nat) (u : Value),[Value.slice A2 x.acts.length c2,.int .i64 x.e][j]? = some u→w.cell? ⟨b0,0 + i * 2 + j,none⟩ = some u:=fun j u h=>by rw [Nat.zero_add]; exact hcell j u h
      refine wp_skip ?_;refine hK7 _ _ ?_;refine wp_seq_k fun K8 hK8=>?_;refine wp_block ?_;refine wp_seq_k fun K9 hK9=>?_;refine wp_region_lit ?_;refine pY ha (yIndexA Tryz.runUnderlying44 Tryz.sizeOf47 rfl rfl (by omega) (by omega)) fun a ha=>?_;refine pY ha (yLoadA Tryz.isAgg47 Tryz.sizeOf47 rfl rfl hcell2) fun a ha=>?_;refine pAlloc (zs:=[.slice none 0 0,.int .i64 0]) ha Tryz.zeroValue47 rfl hs rfl fun bp w hs a ha=>?_;refine pStoreA ha Tryz.sizeOf47 hs rfl rfl pk0 rfl rfl rfl fun w hs=>?_;refine pZ ?_;refine hK9 _ _ ?_;refine dStart (fun w=>∃ rs,Sep W w (.blk bp 47 [.slice A2 x.acts.length c2,.int .i64 x.e]::rs)) [7,8] 1023 126 (by kernel_rfl) (by kernel_rfl) rfl (⟨_,hs.drew.pick pk0⟩) ?_
      have hs:=Sep.drew hs
      generalize World.drew _ = w at hs ⊢;refine dP 0 1 rfl ha (fun _=>yMove rfl) fun a ha=>?_;refine dP 1 3 rfl ha (fun _=>yFieldA Tryz.runUnderlying47 rfl Tryz.sizeOf33 rfl rfl) fun a ha=>?_;refine dT 2 7 rfl ha (fun _ ⟨rs,hs⟩=>yLoadB Tryz.isAgg33 hs rfl pk0 rfl) (⟨_,hs.pick pk0⟩) fun a ha=>?_;refine dP 4 23 rfl ha (fun _=>yFieldA Tryz.runUnderlying47 rfl Tryz.sizeOf3 rfl rfl) fun a ha=>?_;refine dT 5 55 rfl ha (fun _ ⟨rs,hs⟩=>yLoadB Tryz.isAgg3 hs rfl pk0 rfl) (⟨_,hs.pick pk0⟩) fun a ha=>?_;refine dC 3 63 rfl (by kernel_rfl) rfl ha won0 (nCall Tryz.call23 rfl) rfl (Own_c (xs:=x.acts) hs pk1 (hm x hmem).1 (hm x hmem).2) ?_;rintro v w ⟨A3,c3,rfl,hs⟩;refine ⟨⟨_,hs.pick pk1⟩,fun a ha=>?_⟩;have hs:=hs.mk_pnd x .here;refine dP 6 127 rfl ha (fun _=>bldClG47_0_1 rfl rfl) fun a ha=>?_;refine dMakel 7 255 rfl (by kernel_rfl) rfl ha won0 (bslClG44_1_0 rfl) hs rfl fun b w hs a ha=>?_;refine dApp1l 8 511 rfl (by kernel_rfl) rfl ha won0 elClG44 rfl rfl hs pk5 pk0 pk0 rfl (by omega) (by omega) rfl fun A c w hs a ha=>?_;rw [htl] at ha hs;refine dP 9 1023 rfl ha (fun _=>yAssign rfl) fun a ha=>?_;refine dZ (by kernel_rfl) ?_;refine hK8 _ _ ?_;refine wp_region_lit ?_;refine pY ha (yAddN rfl rfl ⟨by omega,by omega⟩) fun a ha=>?_;refine pY ha (yMove rfl) fun a ha=>?_;refine pZ ?_
      have e1 : q.gone.take (i + 1) = q.gone.take i++[x]:=by rw [List.take_add_one,hx]; rfl
      refine ⟨(i + 1,A,c),⟨by simp only; omega,has4 ha rfl rfl rfl rfl,?_⟩,by simp only; omega⟩;simp only; rw [e1]; exact (by exact hs.to (by repeat first | exact Picks.refl | (apply Picks.cons; · repeat first | exact .here | apply Pick.there) | refine Picks.skip ?_))
    · refine wp_exit ?_;refine hK4 _ _ ?_;refine wp_seq_k fun K10 hK10=>?_;refine wp_region_lit ?_;refine pY ha (yMove rfl) fun a ha=>?_;refine pY ha (yAssign rfl) fun a ha=>?_;refine pZ ?_;refine hK10 _ _ ?_;refine wp_ret ?_;show bodyPost Tryz.prog Tryz.f13 _ .ret _ _;refine ret1 rfl ha rfl ?_;obtain rfl : i = q.gone.length:=by omega
      rw [List.take_length] at hs;have hs:=hs.ol_rd .here;exact ⟨B,d,rfl,(hs.cli_shut (bt:=bt) (bm:=bm) (o:=o) (c:=q) (bc:=bc) pk1 pk1 pk1 pk1 pk1).to (.cons pk1 (.cons .here .refl))⟩
end
end Go.Proofs.YtkbbnpjbjakpcaaGreatDoor

set_option linter.unusedVariables false
set_option linter.unusedSimpArgs false
namespace Go.Proofs.YtkbbnpjbjakpcaaGreatDoor
open Go.RowKit Go.Lib Go.Proofs.YtkbbnpjbjakpcaaGreatDoorW.PrintLast
def doneC (q : Cli) (m : Msg) : Cli:=if mineB q m.client m.seq = true then (if m.rev≤q.rev then goesC q else { q with told:=true }) else q
def abortC (q : Cli) (m : Msg) : Cli:=if mineB q m.client m.seq = true then goesC (losesC q (headP q) m.code) else q
theorem mine_len {q : Cli} {c s : Int} (h : mineB q c s = true) : 0 < q.l.length:=by
  unfold mineB at h;simp only [Bool.and_eq_true,decide_eq_true_eq] at h;exact h.2.2
section
variable {W w : World} {cs r r2 : List Ch} {o : Bool} {bc : Nat} {q : Cli}
theorem CInD_c (hT : Tabs W) {es : List Value} {m : Msg} (hc : okC q) (hk0 : m.kind = 5) (hm : mM m) (hb : (wMsg m).1.length≤8796093022208) (hE : msgE m = 0) (hs : Sep W w cs) (hk : Pick cs (.cli o bc q) r) (hk2 : Pick r (.el kMsg m es) r2) :
    Calls Tryz.prog 10 #[.pointer (some ⟨bc,0,none⟩),.agg es.toArray] w (Rt fun v w'=>v = .int .i64 0∧Sep W w' (.cli false bc (doneC q m)::r)):=by
  have hs:=hs.cli_weak hk
  have hk2 : Pick (.cli false bc q::r) (.el kMsg m es) (.cli false bc q::r2):=.there hk2
  have hs : Sep W w (.el kMsg m es::.cli false bc q::r):=hs.cp hk2
  have hs : Sep W w (.el kMsg m es::.el kMsg m es::.cli false bc q::r):=hs.cp .here
  obtain ⟨A1,n1,c1,A2,n2,c2,A3,n3,c3,rfl,hs⟩:=hs.el_msg .here;obtain ⟨bt,bm,A,n,A',n',hl1,hl2,hs⟩:=hs.cli_open (bc:=bc) (c:=q) (o:=false) (.there (.there (.there (.there (.there .here)))));have hs:=hs.pl_rd (.there (.there (.there .here)));obtain ⟨hla1,hla2⟩:=hc.last;refine enter Tryz.func10 Tryz.ntmps10 rfl rfl fun a (ha : Has a 144 [(0,_),(1,_)])=>?_;refine wp_seq_k fun K1 hK1=>?_;refine wp_region_lit ?_;refine pBox (es:=_) ha rfl rfl hs rfl fun b3 w hs a ha=>?_;refine pY ha (yAssign rfl) fun a ha=>?_;refine pZ ?_;refine hK1 _ _ ?_;refine scopeF 1 99999 ?_;refine wp_seq_k fun K2 hK2=>?_;refine wp_seq_k fun K3 hK3=>?_;refine wp_region_lit ?_;refine pY ha (yMove rfl) fun a ha=>?_;refine pC ha (nCall Tryz.call21 rfl) rfl (CNone_c hc.id hs pk2) ?_;rintro v w ⟨rfl,hs⟩ a ha;refine pZ ?_;refine hK3 _ _ ?_;refine cFalse ha rfl ?_;refine wp_skip ?_;refine hK2 _ _ ?_;refine wp_seq_k fun K4 hK4=>?_;refine wp_seq_k fun K5 hK5=>?_;refine wp_region_lit ?_;refine pY ha (yLoadBA Tryz.isAgg37 Tryz.sizeOf37 hs rfl pk0 rfl) fun a ha=>?_;refine pC ha (nCall Tryz.call24 rfl) rfl (MCheck_c hT (x:=m) hm hb hs pk9) ?_;rintro v w ⟨rfl,hs⟩ a ha;rw [hE] at ha;refine pY ha (yNeq rfl rfl) fun a ha=>?_;refine pZ ?_;refine hK5 _ _ ?_;refine cFalse ha rfl ?_;refine wp_skip ?_;refine hK4 _ _ ?_;refine wp_seq_k fun K6 hK6=>?_;refine wp_seq_k fun K7 hK7=>?_;refine wp_region_lit ?_;refine pY ha (yFieldA Tryz.runUnderlying37 rfl Tryz.sizeOf3 rfl rfl) fun a ha=>?_;refine pY ha (yLoadB Tryz.isAgg3 hs rfl pk0 rfl) fun a ha=>?_;refine pZ ?_;refine hK7 _ _ ?_;refine wp_block ?_;refine wp_seq_k fun K8 hK8=>?_;refine wp_region_lit ?_;refine pY ha (yEql rfl rfl) fun a ha=>?_;refine pY ha (yAssign rfl) fun a ha=>?_;refine pZ ?_;refine hK8 _ _ ?_;refine cDec ha rfl (fun hc14=>?_) (fun hc14=>?_)
  · exact absurd hc14 (by omega)
  · refine wp_seq_k fun K9 hK9=>?_;refine wp_region_lit ?_;refine pY ha (yEql rfl rfl) fun a ha=>?_;refine pY ha (yAssign rfl) fun a ha=>?_;refine pZ ?_;refine hK9 _ _ ?_;refine cDec ha rfl (fun hc38=>?_) (fun hc38=>?_)
    · exact absurd hc38 (by omega)
    · refine wp_seq_k fun K10 hK10=>?_;refine wp_region_lit ?_;refine pY ha (yEql rfl rfl) fun a ha=>?_;refine pY ha (yAssign rfl) fun a ha=>?_;refine pZ ?_;refine hK10 _ _ ?_;refine cDec ha rfl (fun hc77=>?_) (fun hc77=>?_)
      · refine wp_seq_k fun K11 hK11=>?_;refine wp_region_lit ?_;refine pY ha (yMove rfl) fun a ha=>?_;refine pY ha (yFieldA Tryz.runUnderlying37 rfl Tryz.sizeOf3 rfl rfl) fun a ha=>?_;refine pY ha (yLoadB Tryz.isAgg3 hs rfl pk0 rfl) fun a ha=>?_;refine pY ha (yFieldA Tryz.runUnderlying37 rfl Tryz.sizeOf3 rfl rfl) fun a ha=>?_;refine pY ha (yLoadB Tryz.isAgg3 hs rfl pk0 rfl) fun a ha=>?_;refine pC ha (nCall Tryz.call26 rfl) rfl (CMine_c (q:=q) hc.last m.client m.seq hs pk2) ?_;rintro v w ⟨rfl,hs⟩ a ha;refine pZ ?_;refine hK11 _ _ ?_;refine cSplit ha rfl (fun hc84=>?_) (fun hc84=>?_)
        · have hl0:=mine_len hc84
          refine wp_seq_k fun K12 hK12=>?_;refine wp_region_lit ?_;refine pY ha (yMove rfl) fun a ha=>?_;refine pY ha (yNilP rfl) fun a ha=>?_;refine pY ha (yFieldA Tryz.runUnderlying61 rfl Tryz.sizeOf4 rfl rfl) fun a ha=>?_;refine pStore ha Tryz.sizeOf4 hs rfl rfl rfl rfl pk0 rfl fun w hs=>?_;refine pZ ?_;refine hK12 _ _ ?_;refine wp_seq_k fun K13 hK13=>?_;refine dStart (fun w=>∃ rs,Sep W w (.blk b3 37 [.int .i64 m.kind,.int .i64 m.client,.int .i64 m.seq,.int .i64 m.rev,.int .i64 m.code,.slice A1 n1 c1,.slice A2 n2 c2,.slice A3 n3 c3,.int .i64 m.last]::.blk bc 61 (cliV { q with told:=true } bt (.slice A q.l.length n) (.slice A' q.gone.length n'))::rs)) [] 127 127 (by kernel_rfl) (by kernel_rfl) rfl (⟨_,hs.drew.two pk1 pk0⟩) ?_
          have hs:=Sep.drew hs
          generalize World.drew _ = w at hs ⊢;refine dP 0 1 rfl ha (fun _=>yFieldA Tryz.runUnderlying37 rfl Tryz.sizeOf3 rfl rfl) fun a ha=>?_;refine dT 1 3 rfl ha (fun _ ⟨rs,hs⟩=>yLoadB Tryz.isAgg3 hs rfl pk0 rfl) (⟨_,hs.two pk1 pk0⟩) fun a ha=>?_;refine dP 2 7 rfl ha (fun _=>yMove rfl) fun a ha=>?_;refine dP 3 15 rfl ha (fun _=>yNilP rfl) fun a ha=>?_;refine dP 4 31 rfl ha (fun _=>yFieldA Tryz.runUnderlying61 rfl Tryz.sizeOf3 rfl rfl) fun a ha=>?_;refine dT 5 63 rfl ha (fun _ ⟨rs,hs⟩=>yLoadB Tryz.isAgg3 hs rfl pk1 rfl) (⟨_,hs.two pk1 pk0⟩) fun a ha=>?_;refine dP 6 127 rfl ha (fun _=>yLeq rfl rfl) fun a ha=>?_;refine dZ (by kernel_rfl) ?_;refine hK13 _ _ ?_;refine cDec ha rfl (fun hc94=>?_) (fun hc94=>?_)
          · have hs:=hs.cli_shut (bt:=bt) (bm:=bm) (o:=false) (c := { q with told:=true }) (bc:=bc) pk0 pk2 pk2 pk1 pk1;refine wp_region_lit ?_;refine pY ha (yMove rfl) fun a ha=>?_;refine pC ha (nCall Tryz.call27 rfl) rfl (CGoes_c (q := { q with told:=true }) hc.last hl0 hs pk0) ?_;rintro v w ⟨rfl,hs⟩ a ha;refine pZ ?_;refine hK6 _ _ ?_;refine wp_seq_k fun K14 hK14=>?_;refine wp_label ?_;refine hK14 _ _ ?_;refine wp_seq_k fun K15 hK15=>?_;refine wp_region_lit ?_;refine pY ha (yMove rfl) fun a ha=>?_;refine pY ha (yAssign rfl) fun a ha=>?_;refine pZ ?_;refine hK15 _ _ ?_;refine wp_ret ?_;show bodyPost Tryz.prog Tryz.f10 _ .ret _ _;refine ret1 rfl ha rfl ?_;rw [show doneC q m = goesC q by unfold doneC; rw [if_pos hc84,if_pos hc94]];exact ⟨rfl,hs.to (.cons .here (by repeat first | exact .refl | refine .skip ?_))⟩
          · refine wp_skip ?_;refine hK6 _ _ ?_;refine wp_seq_k fun K16 hK16=>?_;refine wp_label ?_;refine hK16 _ _ ?_;refine wp_seq_k fun K17 hK17=>?_;refine wp_region_lit ?_;refine pY ha (yMove rfl) fun a ha=>?_;refine pY ha (yAssign rfl) fun a ha=>?_;refine pZ ?_;refine hK17 _ _ ?_;refine wp_ret ?_;show bodyPost Tryz.prog Tryz.f10 _ .ret _ _;refine ret1 rfl ha rfl ?_;rw [show doneC q m = { q with told:=true } by unfold doneC; rw [if_pos hc84,if_neg hc94]];exact ⟨rfl,(hs.cli_shut (bt:=bt) (bm:=bm) (o:=false) (c := { q with told:=true }) (bc:=bc) pk0 pk2 pk2 pk1 pk1).to (.cons .here (by repeat first | exact .refl | refine .skip ?_))⟩
        · refine wp_skip ?_;refine hK6 _ _ ?_;refine wp_seq_k fun K18 hK18=>?_;refine wp_label ?_;refine hK18 _ _ ?_;refine wp_seq_k fun K19 hK19=>?_;refine wp_region_lit ?_;refine pY ha (yMove rfl) fun a ha=>?_;refine pY ha (yAssign rfl) fun a ha=>?_;refine pZ ?_;refine hK19 _ _ ?_;refine wp_ret ?_;show bodyPost Tryz.prog Tryz.f10 _ .ret _ _;refine ret1 rfl ha rfl ?_;rw [show doneC q m = q by unfold doneC; rw [if_neg (by rw [hc84]; decide)]];exact ⟨rfl,(hs.cli_shut (bt:=bt) (bm:=bm) (o:=false) (c:=q) (bc:=bc) pk0 pk2 pk2 pk1 pk1).to (.cons .here (by repeat first | exact .refl | refine .skip ?_))⟩
      · exact absurd hk0 hc77
theorem CInA_c (hT : Tabs W) {es : List Value} {m : Msg} (hc : okC q) (hk0 : m.kind = 6) (hm : mM m) (hb : (wMsg m).1.length≤8796093022208) (hE : msgE m = 0) (hg : q.gone.length≤1000000) (hs : Sep W w cs) (hk : Pick cs (.cli o bc q) r) (hk2 : Pick r (.el kMsg m es) r2) :
    Calls Tryz.prog 10 #[.pointer (some ⟨bc,0,none⟩),.agg es.toArray] w (Rt fun v w'=>v = .int .i64 0∧Sep W w' (.cli false bc (abortC q m)::r)):=by
  have hs:=hs.cli_weak hk
  have hk2 : Pick (.cli false bc q::r) (.el kMsg m es) (.cli false bc q::r2):=.there hk2
  have hs : Sep W w (.el kMsg m es::.cli false bc q::r):=hs.cp hk2
  have hs : Sep W w (.el kMsg m es::.el kMsg m es::.cli false bc q::r):=hs.cp .here
  obtain ⟨A1,n1,c1,A2,n2,c2,A3,n3,c3,rfl,hs⟩:=hs.el_msg .here;obtain ⟨bt,bm,A,n,A',n',hl1,hl2,hs⟩:=hs.cli_open (bc:=bc) (c:=q) (o:=false) (.there (.there (.there (.there (.there .here)))));have hs:=hs.pl_rd (.there (.there (.there .here)));obtain ⟨hla1,hla2⟩:=hc.last;refine enter Tryz.func10 Tryz.ntmps10 rfl rfl fun a (ha : Has a 144 [(0,_),(1,_)])=>?_;refine wp_seq_k fun K1 hK1=>?_;refine wp_region_lit ?_;refine pBox (es:=_) ha rfl rfl hs rfl fun b3 w hs a ha=>?_;refine pY ha (yAssign rfl) fun a ha=>?_;refine pZ ?_;refine hK1 _ _ ?_;refine scopeF 1 99999 ?_;refine wp_seq_k fun K2 hK2=>?_;refine wp_seq_k fun K3 hK3=>?_;refine wp_region_lit ?_;refine pY ha (yMove rfl) fun a ha=>?_;refine pC ha (nCall Tryz.call21 rfl) rfl (CNone_c hc.id hs pk2) ?_;rintro v w ⟨rfl,hs⟩ a ha;refine pZ ?_;refine hK3 _ _ ?_;refine cFalse ha rfl ?_;refine wp_skip ?_;refine hK2 _ _ ?_;refine wp_seq_k fun K4 hK4=>?_;refine wp_seq_k fun K5 hK5=>?_;refine wp_region_lit ?_;refine pY ha (yLoadBA Tryz.isAgg37 Tryz.sizeOf37 hs rfl pk0 rfl) fun a ha=>?_;refine pC ha (nCall Tryz.call24 rfl) rfl (MCheck_c hT (x:=m) hm hb hs pk9) ?_;rintro v w ⟨rfl,hs⟩ a ha;rw [hE] at ha;refine pY ha (yNeq rfl rfl) fun a ha=>?_;refine pZ ?_;refine hK5 _ _ ?_;refine cFalse ha rfl ?_;refine wp_skip ?_;refine hK4 _ _ ?_;refine wp_seq_k fun K6 hK6=>?_;refine wp_seq_k fun K7 hK7=>?_;refine wp_region_lit ?_;refine pY ha (yFieldA Tryz.runUnderlying37 rfl Tryz.sizeOf3 rfl rfl) fun a ha=>?_;refine pY ha (yLoadB Tryz.isAgg3 hs rfl pk0 rfl) fun a ha=>?_;refine pZ ?_;refine hK7 _ _ ?_;refine wp_block ?_;refine wp_seq_k fun K8 hK8=>?_;refine wp_region_lit ?_;refine pY ha (yEql rfl rfl) fun a ha=>?_;refine pY ha (yAssign rfl) fun a ha=>?_;refine pZ ?_;refine hK8 _ _ ?_;refine cDec ha rfl (fun hc14=>?_) (fun hc14=>?_)
  · exact absurd hc14 (by omega)
  · refine wp_seq_k fun K9 hK9=>?_;refine wp_region_lit ?_;refine pY ha (yEql rfl rfl) fun a ha=>?_;refine pY ha (yAssign rfl) fun a ha=>?_;refine pZ ?_;refine hK9 _ _ ?_;refine cDec ha rfl (fun hc38=>?_) (fun hc38=>?_)
    · exact absurd hc38 (by omega)
    · refine wp_seq_k fun K10 hK10=>?_;refine wp_region_lit ?_;refine pY ha (yEql rfl rfl) fun a ha=>?_;refine pY ha (yAssign rfl) fun a ha=>?_;refine pZ ?_;refine hK10 _ _ ?_;refine cDec ha rfl (fun hc77=>?_) (fun hc77=>?_)
      · exact absurd hc77 (by omega)
      · refine wp_seq_k fun K11 hK11=>?_;refine wp_region_lit ?_;refine pY ha (yEql rfl rfl) fun a ha=>?_;refine pY ha (yAssign rfl) fun a ha=>?_;refine pZ ?_;refine hK11 _ _ ?_;refine cDec ha rfl (fun hc97=>?_) (fun hc97=>?_)
        · refine wp_seq_k fun K12 hK12=>?_;refine wp_region_lit ?_;refine pY ha (yMove rfl) fun a ha=>?_;refine pY ha (yFieldA Tryz.runUnderlying37 rfl Tryz.sizeOf3 rfl rfl) fun a ha=>?_;refine pY ha (yLoadB Tryz.isAgg3 hs rfl pk0 rfl) fun a ha=>?_;refine pY ha (yFieldA Tryz.runUnderlying37 rfl Tryz.sizeOf3 rfl rfl) fun a ha=>?_;refine pY ha (yLoadB Tryz.isAgg3 hs rfl pk0 rfl) fun a ha=>?_;refine pC ha (nCall Tryz.call26 rfl) rfl (CMine_c (q:=q) hc.last m.client m.seq hs pk2) ?_;rintro v w ⟨rfl,hs⟩ a ha;refine pZ ?_;refine hK12 _ _ ?_;refine cSplit ha rfl (fun hc104=>?_) (fun hc104=>?_)
          · have hl0:=mine_len hc104
            obtain ⟨x,hx⟩ : ∃ x,q.l[0]? = some x:=⟨_,List.getElem?_eq_getElem hl0⟩
            have hmem:=List.mem_of_getElem? hx
            have hh : headP q = x:=by unfold headP; rw [List.getD_eq_getElem?_getD,hx]; rfl
            obtain ⟨b0,off,A4,n4,c4,rfl,hs⟩:=hs.rd_pnd pk2 hx;refine wp_seq_k fun K13 hK13=>?_;refine dStart (fun w=>∃ rs,Sep W w (.blk b3 37 [.int .i64 m.kind,.int .i64 m.client,.int .i64 m.seq,.int .i64 m.rev,.int .i64 m.code,.slice A1 n1 c1,.slice A2 n2 c2,.slice A3 n3 c3,.int .i64 m.last]::.blk bc 61 (cliV q bt (.slice (some ⟨b0,off,none⟩) q.l.length n) (.slice A' q.gone.length n'))::.at b0 (off + 0 * 2) [.slice A4 n4 c4,.int .i64 x.e]::rs)) [9] 1023 511 (by kernel_rfl) (by kernel_rfl) rfl (⟨_,hs.drew.three pk3 pk2 pk0⟩) ?_
            have hs:=Sep.drew hs
            generalize World.drew _ = w at hs ⊢;refine dP 0 1 rfl ha (fun _=>yMove rfl) fun a ha=>?_;refine dP 1 3 rfl ha (fun _=>yMove rfl) fun a ha=>?_;refine dP 2 7 rfl ha (fun _=>yNilP rfl) fun a ha=>?_;refine dP 3 15 rfl ha (fun _=>yFieldA Tryz.runUnderlying61 rfl Tryz.sizeOf59 rfl rfl) fun a ha=>?_;refine dT 4 31 rfl ha (fun _ ⟨rs,hs⟩=>yLoadB Tryz.isAgg59 hs rfl pk1 rfl) (⟨_,hs.three pk3 pk2 pk0⟩) fun a ha=>?_;refine dP 5 63 rfl ha (fun _=>yIndexA Tryz.runUnderlying59 Tryz.sizeOf66 rfl rfl (by omega) (by omega)) fun a ha=>?_;refine dT 6 127 rfl ha (fun _ ⟨rs,hs⟩=>yLoadRA Tryz.isAgg66 Tryz.sizeOf66 hs rfl pk2 rfl) (⟨_,hs.three pk3 pk2 pk0⟩) fun a ha=>?_;refine dP 7 255 rfl ha (fun _=>yFieldA Tryz.runUnderlying37 rfl Tryz.sizeOf3 rfl rfl) fun a ha=>?_;refine dT 8 511 rfl ha (fun _ ⟨rs,hs⟩=>yLoadB Tryz.isAgg3 hs rfl pk0 rfl) (⟨_,hs.three pk3 pk2 pk0⟩) fun a ha=>?_;have hs:=hs.cli_shut (bt:=bt) (bm:=bm) (o:=false) (c:=q) (bc:=bc) pk2 pk4 pk4 pk3 pk3;refine dCl 9 1023 rfl (by kernel_rfl) rfl ha won0 (nCall Tryz.call28 rfl) rfl (CLoses_c x m.code (hc.acts x hmem).2 (fun y hy=>((hc.acts x hmem).1 y hy).2.2.1) hg hs pk0 pk1) ?_;rintro v w ⟨rfl,hs⟩ a ha;refine dZ (by kernel_rfl) ?_;refine hK13 _ _ ?_;refine wp_region_lit ?_;refine pY ha (yMove rfl) fun a ha=>?_;refine pC ha (nCall Tryz.call27 rfl) rfl (CGoes_c (q:=losesC q x m.code) hc.last hl0 hs pk0) ?_;rintro v w ⟨rfl,hs⟩ a ha;refine pZ ?_;refine hK6 _ _ ?_;refine wp_seq_k fun K14 hK14=>?_;refine wp_label ?_;refine hK14 _ _ ?_;refine wp_seq_k fun K15 hK15=>?_;refine wp_region_lit ?_;refine pY ha (yMove rfl) fun a ha=>?_;refine pY ha (yAssign rfl) fun a ha=>?_;refine pZ ?_;refine hK15 _ _ ?_;refine wp_ret ?_;show bodyPost Tryz.prog Tryz.f10 _ .ret _ _;refine ret1 rfl ha rfl ?_;rw [show abortC q m = goesC (losesC q x m.code) by unfold abortC; rw [if_pos hc104,hh]];exact ⟨rfl,hs.to (.cons .here (by repeat first | exact .refl | refine .skip ?_))⟩
          · refine wp_skip ?_;refine hK6 _ _ ?_;refine wp_seq_k fun K16 hK16=>?_;refine wp_label ?_;refine hK16 _ _ ?_;refine wp_seq_k fun K17 hK17=>?_;refine wp_region_lit ?_;refine pY ha (yMove rfl) fun a ha=>?_;refine pY ha (yAssign rfl) fun a ha=>?_;refine pZ ?_;refine hK17 _ _ ?_;refine wp_ret ?_;show bodyPost Tryz.prog Tryz.f10 _ .ret _ _;refine ret1 rfl ha rfl ?_;rw [show abortC q m = q by unfold abortC; rw [if_neg (by rw [hc104]; decide)]];exact ⟨rfl,(hs.cli_shut (bt:=bt) (bm:=bm) (o:=false) (c:=q) (bc:=bc) pk0 pk2 pk2 pk1 pk1).to (.cons .here (by repeat first | exact .refl | refine .skip ?_))⟩
        · exact absurd hk0 hc97
theorem CInC_c (hT : Tabs W) {es : List Value} {m : Msg} (hc : okC q) (hk0 : m.kind = 7) (hm : mM m) (hb : (wMsg m).1.length≤8796093022208) (hE : msgE m = 0) {x : Cmt} (hcm : m.commits = [x]) (hrev : x.rev = q.rev + 1) (hrv : 0≤q.rev∧q.rev≤4000000000000000000) (h1 : ∀ a ∈ x.acts,a.kind = 1) (hma : ∀ a ∈ x.acts,mA a) (hok : doE q.base x.acts = 0) (hmine : mineB q x.client x.seq = true) (hs : Sep W w cs) (hk : Pick cs (.cli o bc q) r) (hk2 : Pick r (.el kMsg m es) r2) :
    Calls Tryz.prog 10 #[.pointer (some ⟨bc,0,none⟩),.agg es.toArray] w (Rt fun v w'=>v = .int .i64 0∧Sep W w' (.cli false bc (goesC (takeC q x))::r)):=by
  have hs:=hs.cli_weak hk
  have hk2 : Pick (.cli false bc q::r) (.el kMsg m es) (.cli false bc q::r2):=.there hk2
  have hs : Sep W w (.el kMsg m es::.cli false bc q::r):=hs.cp hk2
  have hs : Sep W w (.el kMsg m es::.el kMsg m es::.cli false bc q::r):=hs.cp .here
  obtain ⟨A1,n1,c1,A2,n2,c2,A3,n3,c3,rfl,hs⟩:=hs.el_msg .here;obtain ⟨bt,bm,A,n,A',n',hl1,hl2,hs⟩:=hs.cli_open (bc:=bc) (c:=q) (o:=false) (.there (.there (.there (.there (.there .here)))));have hs:=hs.pl_rd (.there (.there (.there .here)));obtain ⟨hla1,hla2⟩:=hc.last;obtain ⟨rfl,_⟩:=hs.rd_shape (show Pick _ (.rd kCmt (.slice A2 n2 c2) m.commits) _ from pk6)
  have hcl : m.commits.length = 1:=by rw [hcm]; rfl
  have hcx : m.commits[0]? = some x:=by rw [hcm]; rfl
  obtain ⟨hrv1,hrv2⟩:=hrv;refine enter Tryz.func10 Tryz.ntmps10 rfl rfl fun a (ha : Has a 144 [(0,_),(1,_)])=>?_;refine wp_seq_k fun K1 hK1=>?_;refine wp_region_lit ?_;refine pBox (es:=_) ha rfl rfl hs rfl fun b3 w hs a ha=>?_;refine pY ha (yAssign rfl) fun a ha=>?_;refine pZ ?_;refine hK1 _ _ ?_;refine scopeF 1 99999 ?_;refine wp_seq_k fun K2 hK2=>?_;refine wp_seq_k fun K3 hK3=>?_;refine wp_region_lit ?_;refine pY ha (yMove rfl) fun a ha=>?_;refine pC ha (nCall Tryz.call21 rfl) rfl (CNone_c hc.id hs pk2) ?_;rintro v w ⟨rfl,hs⟩ a ha;refine pZ ?_;refine hK3 _ _ ?_;refine cFalse ha rfl ?_;refine wp_skip ?_;refine hK2 _ _ ?_;refine wp_seq_k fun K4 hK4=>?_;refine wp_seq_k fun K5 hK5=>?_;refine wp_region_lit ?_;refine pY ha (yLoadBA Tryz.isAgg37 Tryz.sizeOf37 hs rfl pk0 rfl) fun a ha=>?_;refine pC ha (nCall Tryz.call24 rfl) rfl (MCheck_c hT (x:=m) hm hb hs pk9) ?_;rintro v w ⟨rfl,hs⟩ a ha;rw [hE] at ha;refine pY ha (yNeq rfl rfl) fun a ha=>?_;refine pZ ?_;refine hK5 _ _ ?_;refine cFalse ha rfl ?_;refine wp_skip ?_;refine hK4 _ _ ?_;refine wp_seq_k fun K6 hK6=>?_;refine wp_seq_k fun K7 hK7=>?_;refine wp_region_lit ?_;refine pY ha (yFieldA Tryz.runUnderlying37 rfl Tryz.sizeOf3 rfl rfl) fun a ha=>?_;refine pY ha (yLoadB Tryz.isAgg3 hs rfl pk0 rfl) fun a ha=>?_;refine pZ ?_;refine hK7 _ _ ?_;refine wp_block ?_;refine wp_seq_k fun K8 hK8=>?_;refine wp_region_lit ?_;refine pY ha (yEql rfl rfl) fun a ha=>?_;refine pY ha (yAssign rfl) fun a ha=>?_;refine pZ ?_;refine hK8 _ _ ?_;refine cDec ha rfl (fun hc14=>?_) (fun hc14=>?_)
  · exact absurd hc14 (by omega)
  · refine wp_seq_k fun K9 hK9=>?_;refine wp_region_lit ?_;refine pY ha (yEql rfl rfl) fun a ha=>?_;refine pY ha (yAssign rfl) fun a ha=>?_;refine pZ ?_;refine hK9 _ _ ?_;refine cDec ha rfl (fun hc38=>?_) (fun hc38=>?_)
    · refine wp_seq_k fun K10 hK10=>?_;refine wp_seq_k fun K11 hK11=>?_;have hs:=hs.cli_shut (bt:=bt) (bm:=bm) (o:=false) (c:=q) (bc:=bc) pk2 pk2 pk2 pk1 pk1;refine wp_region_lit ?_;refine pY ha (yFieldA Tryz.runUnderlying37 rfl Tryz.sizeOf34 rfl rfl) fun a ha=>?_;refine pY ha (yLoadB Tryz.isAgg34 hs rfl pk1 rfl) fun a ha=>?_;refine pY ha (yLenS Tryz.runUnderlying34 rfl) fun a ha=>?_;refine pY ha (yMove rfl) fun a ha=>?_;refine pZ ?_;refine hK11 _ _ ?_;refine wp_block ?_;refine loopI (ι:=Nat) (fun i a w=>i≤1∧Has a 144 [(0,.pointer (some ⟨bc,0,none⟩)),(3,.pointer (some ⟨b3,0,none⟩)),(4,.int .i64 0),(41,.slice A2 m.commits.length c2),(42,.int .i64 m.commits.length),(43,.int .i64 i)]∧Sep W w (.cli false bc (if i = 0 then q else goesC (takeC q x))::.rd kCmt (.slice A2 m.commits.length c2) m.commits::.blk b3 37 [.int .i64 m.kind,.int .i64 m.client,.int .i64 m.seq,.int .i64 m.rev,.int .i64 m.code,.slice A1 n1 c1,.slice A2 m.commits.length c2,.slice A3 n3 c3,.int .i64 m.last]::r)) (fun i=>1 - i) (0) ?_ ?_
      · exact ⟨Nat.zero_le _,has6 ha rfl rfl rfl rfl rfl rfl,by rw [if_pos rfl]; exact (by exact hs.to (by repeat first | exact Picks.refl | (apply Picks.cons; · repeat first | exact .here | apply Pick.there) | refine Picks.skip ?_))⟩
      · rintro i a w ⟨h2,ha,hs⟩;refine wp_seq_k fun K12 hK12=>?_;refine wp_region_lit ?_;refine pY ha (yLss rfl rfl) fun a ha=>?_;refine pZ ?_;refine hK12 _ _ ?_;refine wp_seq_k fun K13 hK13=>?_;refine cDec ha rfl (fun hc44=>?_) (fun hc44=>?_)
        · obtain rfl : i = 0:=by omega
          rw [if_pos rfl] at hs;obtain ⟨b0,off,A5,n5,c5,rfl,hs⟩:=hs.rd_cmt (i:=0) (x:=x) (show Pick _ (.rd kCmt (.slice A2 m.commits.length c2) m.commits) _ from pk1) hcx;refine wp_skip ?_;refine hK13 _ _ ?_;refine wp_seq_k fun K14 hK14=>?_;refine wp_block ?_;refine wp_seq_k fun K15 hK15=>?_;refine wp_region_lit ?_;refine pY ha (yIndexA Tryz.runUnderlying34 Tryz.sizeOf43 rfl rfl (by omega) (by omega)) fun a ha=>?_;refine pY ha (yLoadRA Tryz.isAgg43 Tryz.sizeOf43 hs rfl pk0 rfl) fun a ha=>?_;refine pAlloc (zs:=[.int .i64 0,.int .i64 0,.int .i64 0,.slice none 0 0]) ha Tryz.zeroValue43 rfl hs rfl fun b6 w hs a ha=>?_;refine pStoreA ha Tryz.sizeOf43 hs rfl rfl pk0 rfl rfl rfl fun w hs=>?_;refine pZ ?_;refine hK15 _ _ ?_;refine wp_seq_k fun K16 hK16=>?_;refine wp_seq_k fun K17 hK17=>?_;obtain ⟨bt,bm,A,n,A',n',hl1,hl2,hs⟩:=hs.cli_open (bc:=bc) (c:=q) (o:=false) pk3;refine dStart (fun w=>∃ rs,Sep W w (.blk b6 43 [.int .i64 x.rev,.int .i64 x.client,.int .i64 x.seq,.slice A5 n5 c5]::.blk bc 61 (cliV q bt (.slice A q.l.length n) (.slice A' q.gone.length n'))::rs)) [] 255 255 (by kernel_rfl) (by kernel_rfl) rfl (⟨_,hs.drew.two pk5 pk0⟩) ?_
          have hs:=Sep.drew hs
          generalize World.drew _ = w at hs ⊢;refine dP 0 1 rfl ha (fun _=>yFieldA Tryz.runUnderlying43 rfl Tryz.sizeOf3 rfl rfl) fun a ha=>?_;refine dT 1 3 rfl ha (fun _ ⟨rs,hs⟩=>yLoadB Tryz.isAgg3 hs rfl pk0 rfl) (⟨_,hs.two pk5 pk0⟩) fun a ha=>?_;refine dP 2 7 rfl ha (fun _=>yMove rfl) fun a ha=>?_;refine dP 3 15 rfl ha (fun _=>yNilP rfl) fun a ha=>?_;refine dP 4 31 rfl ha (fun _=>yFieldA Tryz.runUnderlying61 rfl Tryz.sizeOf3 rfl rfl) fun a ha=>?_;refine dT 5 63 rfl ha (fun _ ⟨rs,hs⟩=>yLoadB Tryz.isAgg3 hs rfl pk1 rfl) (⟨_,hs.two pk5 pk0⟩) fun a ha=>?_;refine dP 6 127 rfl ha (fun _=>yAddN rfl rfl ⟨by omega,by omega⟩) fun a ha=>?_;refine dP 7 255 rfl ha (fun _=>yNeq rfl rfl) fun a ha=>?_;refine dZ (by kernel_rfl) ?_;refine hK17 _ _ ?_;refine cNDec ha rfl (fun hc54=>?_) (fun hc54=>?_)
          · exact absurd hrev hc54
          · refine wp_skip ?_;refine hK16 _ _ ?_;refine wp_seq_k fun K18 hK18=>?_;have hs:=hs.cli_shut (bt:=bt) (bm:=bm) (o:=false) (c:=q) (bc:=bc) pk0 pk0 pk0 pk0 pk0;refine wp_region_lit ?_;refine pY ha (yMove rfl) fun a ha=>?_;refine pY ha (yLoadBA Tryz.isAgg43 Tryz.sizeOf43 hs rfl pk1 rfl) fun a ha=>?_;refine pC ha (nCall Tryz.call25 rfl) rfl (CCommitOwn_c hT hc h1 hma hok hmine hs pk0 pk2) ?_;rintro v w ⟨rfl,hs⟩ a ha;refine pY ha (yAssign rfl) fun a ha=>?_;refine pZ ?_;refine hK18 _ _ ?_;refine wp_seq_k fun K19 hK19=>?_;refine wp_region_lit ?_;refine pY ha (yMove rfl) fun a ha=>?_;refine pY ha (yNeq rfl rfl) fun a ha=>?_;refine pZ ?_;refine hK19 _ _ ?_;refine cFalse ha rfl ?_;refine wp_skip ?_;refine hK14 _ _ ?_;refine wp_region_lit ?_;refine pY ha (yAddN rfl rfl ⟨by omega,by omega⟩) fun a ha=>?_;refine pY ha (yMove rfl) fun a ha=>?_;refine pZ ?_;exact ⟨1,⟨by omega,has6 ha rfl rfl rfl rfl rfl rfl,by rw [if_neg (by decide)]; exact (by exact hs.to (by repeat first | exact Picks.refl | (apply Picks.cons; · repeat first | exact .here | apply Pick.there) | refine Picks.skip ?_))⟩,by omega⟩
        · refine wp_exit ?_;refine hK10 _ _ ?_;obtain rfl : i = 1:=by omega
          rw [if_neg (by decide)] at hs;obtain ⟨bt,bm,A,n,A',n',hl1,hl2,hs⟩:=hs.cli_open (bc:=bc) (c:=goesC (takeC q x)) (o:=false) pk0;refine dStart (fun w=>∃ rs,Sep W w (.blk b3 37 [.int .i64 m.kind,.int .i64 m.client,.int .i64 m.seq,.int .i64 m.rev,.int .i64 m.code,.slice A1 n1 c1,.slice A2 m.commits.length c2,.slice A3 n3 c3,.int .i64 m.last]::.blk bc 61 (cliV (goesC (takeC q x)) bt (.slice A (goesC (takeC q x)).l.length n) (.slice A' (goesC (takeC q x)).gone.length n'))::rs)) [16] 131071 65535 (by kernel_rfl) (by kernel_rfl) rfl (⟨_,hs.drew.two pk6 pk0⟩) ?_
          have hs:=Sep.drew hs
          generalize World.drew _ = w at hs ⊢;refine dP 0 1 rfl ha (fun _=>yMove rfl) fun a ha=>?_;refine dP 1 3 rfl ha (fun _=>yMove rfl) fun a ha=>?_;refine dP 2 7 rfl ha (fun _=>yNilP rfl) fun a ha=>?_;refine dP 3 15 rfl ha (fun _=>yFieldA Tryz.runUnderlying61 rfl Tryz.sizeOf4 rfl rfl) fun a ha=>?_;refine dT 4 31 rfl ha (fun _ ⟨rs,hs⟩=>yLoadB Tryz.isAgg4 hs rfl pk1 rfl) (⟨_,hs.two pk6 pk0⟩) fun a ha=>?_;refine dP 5 63 rfl ha (fun _=>yMove rfl) fun a ha=>?_;refine dOff 6 127 rfl ha fun a ha=>?_;refine dOff 7 255 rfl ha fun a ha=>?_;refine dOff 8 511 rfl ha fun a ha=>?_;refine dOff 9 1023 rfl ha fun a ha=>?_;refine dOff 10 2047 rfl ha fun a ha=>?_;refine dOff 11 4095 rfl ha fun a ha=>?_;refine dOff 12 8191 rfl ha fun a ha=>?_;refine dP 13 16383 rfl ha (fun _=>yPickF rfl rfl) fun a ha=>?_;refine dP 14 32767 rfl ha (fun _=>yNilP rfl) fun a ha=>?_;refine dP 15 65535 rfl ha (fun _=>yFieldA Tryz.runUnderlying61 rfl Tryz.sizeOf4 rfl rfl) fun a ha=>?_;refine dStorel 16 131071 rfl (by kernel_rfl) rfl ha won0 Tryz.sizeOf4 hs rfl rfl rfl rfl pk0 rfl fun w hs=>?_;refine dZ (by kernel_rfl) ?_;refine hK6 _ _ ?_;refine wp_seq_k fun K20 hK20=>?_;refine wp_label ?_;refine hK20 _ _ ?_;refine wp_seq_k fun K21 hK21=>?_;refine wp_region_lit ?_;refine pY ha (yMove rfl) fun a ha=>?_;refine pY ha (yAssign rfl) fun a ha=>?_;refine pZ ?_;refine hK21 _ _ ?_;refine wp_ret ?_;show bodyPost Tryz.prog Tryz.f10 _ .ret _ _;refine ret1 rfl ha rfl ?_;exact ⟨rfl,(hs.cli_shut (bt:=bt) (bm:=bm) (o:=false) (c:=goesC (takeC q x)) (bc:=bc) pk0 pk0 pk0 pk0 pk0).to (.cons .here (by repeat first | exact .refl | refine .skip ?_))⟩
    · exact absurd hk0 hc38
end
end Go.Proofs.YtkbbnpjbjakpcaaGreatDoor

set_option linter.unusedVariables false
set_option linter.unusedSimpArgs false
namespace Go.Proofs.YtkbbnpjbjakpcaaGreatDoor
open Go.RowKit Go.Lib
theorem idsOk_nil : idsOk []:=⟨List.Pairwise.nil,(fun x h=>by cases h),Nat.zero_le _⟩
end Go.Proofs.YtkbbnpjbjakpcaaGreatDoor

set_option linter.unusedVariables false
set_option linter.unusedSimpArgs false
namespace Go.Proofs.YtkbbnpjbjakpcaaGreatDoor
open Go.RowKit Go.Lib
/-- A message that may be sent. -/
theorem good_m {m : Msg} (hk : 1≤m.kind∧m.kind≤9) (hp : m = plainM m) (hf : fits m.client = true∧fits m.seq = true∧fits m.rev = true∧fits m.last = true∧fits m.code = true) (hg : gM m) (hw : tMsg m≤4000)
    (h1 : txnE m.acts = 0) (h2 : cmtsE m.commits = 0) (h3 : nodsE m.nodes = 0) : msgE m = 0∧mM m∧(wMsg m).1.length≤8796093022208:=by
  obtain ⟨l1,l2⟩:=light_M hg hw
  have hb : (bOut m).length≤65536:=by
    unfold bOut; split
    · simp
    · omega
  obtain ⟨f1,f2,f3,f4,f5⟩:=hf;refine ⟨?_,l1,by omega⟩;unfold msgE;rw [if_neg (by rw [f1,f2,f3,f4,f5]; simp only [not_or]; exact ⟨by omega,by omega,fun h=>h hp,by decide,by decide,by decide,by decide,by decide⟩)];rw [h1,h2,h3,if_neg (by decide),if_neg (by decide),if_neg (by decide),if_neg (by omega)]
section
variable (f : Nat→Actn)
def nodG (i : Nat) : List Nod:=(List.range i).map fun j=>creN (f j)
def penG (i : Nat) : List Pnd:=(List.range i).map fun j=>⟨[f j],0⟩
theorem nodG_succ (i : Nat) : nodG f (i + 1) = nodG f i++[creN (f i)]:=by
  unfold nodG; rw [List.range_succ,List.map_append]; rfl
theorem penG_succ (i : Nat) : penG f (i + 1) = penG f i++[⟨[f i],0⟩]:=by
  unfold penG; rw [List.range_succ,List.map_append]; rfl
theorem penG_len (i : Nat) : (penG f i).length = i:=by unfold penG; simp
theorem penG_mem {i : Nat} {p : Pnd} (h : p ∈ penG f i) : ∃ j,j < i∧p = ⟨[f j],0⟩:=by
  unfold penG at h;obtain ⟨j,hj,rfl⟩:=List.mem_map.1 h;exact ⟨j,List.mem_range.1 hj,rfl⟩
theorem penG_at {i j : Nat} (h : j < i) : (penG f i)[j]? = some ⟨[f j],0⟩:=by
  unfold penG;rw [List.getElem?_map,List.getElem?_range h]; rfl
variable {f}
theorem doE_one {xs : List Nod} {a : Actn} (h : doE xs [a] = 0) : (doL xs [a]).1 = xs++[creN a]∧txnE [a] = 0∧creE xs a = 0:=by
  unfold doE at h
  split at h
  · rename_i h2; exact absurd h h2
  · rename_i h2
    have h2 : txnE [a] = 0:=by simpa using h2
    simp only [doL] at h ⊢
    split
    · rename_i h3; rw [if_pos h3] at h; exact absurd h h3
    · rename_i h3; exact ⟨rfl,h2,by simpa using h3⟩
theorem viewG {N : Nat} (hD : ∀ i,i < N→doE (nodG f i) [f i] = 0) : ∀ i,i≤N→viewL [] (penG f i) = nodG f i
  | 0,_=>rfl
  | i + 1,h=>by
    have h1:=viewG hD i (by omega)
    rw [penG_succ];unfold viewL at h1 ⊢;rw [List.foldl_append,h1];show stepV (nodG f i) ⟨[f i],0⟩ = _;unfold stepV;rw [if_pos ⟨rfl,hD i (by omega)⟩,nodG_succ];exact (doE_one (hD i (by omega))).1
theorem editG {N : Nat} (hN : N≤50) (hD : ∀ i,i < N→doE (nodG f i) [f i] = 0) {i : Nat} (hi : i < N) {q : Cli} (hb : q.base = []) (hl : q.l = penG f i) : editE q [f i] = 0∧editC q [f i] = { q with l:=penG f (i + 1) }:=by
  have h1 : editE q [f i] = 0:=by
    unfold editE;rw [if_neg (by simp),hl,penG_len,if_neg (by omega),hb,viewG hD i (by omega)];exact hD i hi
  refine ⟨h1,?_⟩;unfold editC;rw [if_pos h1,hl,penG_succ]
end
theorem okG {f : Nat→Actn} {N : Nat} (hf : ∀ j,j < N→(f j).kind = 1∧mA (f j)) {q : Cli} (h0 : q.id ≠ 0) (hla : 0≤q.last∧q.last≤4000000000000000000) (hb : idsOk q.base) (hl : ∀ p ∈ q.l,∃ j e,j < N∧p = ⟨[f j],e⟩) : okC q:=by
  refine ⟨h0,hla,hb,fun p hp=>?_⟩;obtain ⟨j,e,hj,rfl⟩:=hl p hp;refine ⟨fun x hx=>?_,by simp⟩
  simp at hx
  subst hx;exact hf j hj
theorem out_sub {q : Cli} (hw : q.welcome = true) (hn : ¬ (q.l.length = 0∨q.told = true∨q.behind = true)) : cOutM q = ⟨2,q.id,q.last + 1,q.rev,(headP q).e,if (headP q).e = 0 then (headP q).acts else [],[],[],0⟩∧cOut q = { q with under:=true }:=by
  have h1 : ¬ q.welcome = false:=by rw [hw]; decide
  refine ⟨?_,?_⟩
  · unfold cOutM;rw [if_neg h1,if_neg hn]; rfl
  · unfold cOut cOutK;rw [if_neg h1,if_neg hn]; rfl
theorem out_pull {q : Cli} (hw : q.welcome = true) (hn : q.l.length = 0∨q.told = true∨q.behind = true) : cOutM q = ⟨3,q.id,0,q.rev,0,[],[],[],0⟩∧cOut q = q:=by
  have h1 : ¬ q.welcome = false:=by rw [hw]; decide
  refine ⟨?_,?_⟩
  · unfold cOutM;rw [if_neg h1,if_pos hn]; rfl
  · unfold cOut cOutK;rw [if_neg h1,if_pos hn]; rfl
def nameS (i : Nat) : ByteArray:=⟨#[102]⟩++⟨(blockL 3 (i : Int)).toArray⟩
def actS (i : Nat) : Actn:=⟨1,(i : Int) + 1,0,nameS i,decide ((i : Int) % 2 = 0),[]⟩
theorem fullS : ∀ i,i < 20→doE (nodG actS i) [actS i] = 0:=by decide +kernel
theorem nameS_size (i : Nat) : (nameS i).size = 4:=by
  unfold nameS;rw [ByteArray.size_append]
  simp [ByteArray.size,blockL]
theorem mA_S (i : Nat) : (actS i).kind = 1∧mA (actS i) :=
  ⟨rfl,by show (nameS i).size≤_; rw [nameS_size]; decide,Nat.zero_le _,fun c hc=>by cases hc⟩
end Go.Proofs.YtkbbnpjbjakpcaaGreatDoor

set_option linter.unusedVariables false
set_option linter.unusedSimpArgs false
namespace Go.Proofs.YtkbbnpjbjakpcaaGreatDoor
open Go.RowKit
section
variable {W w : World} {cs r r2 r3 : List Ch}
theorem Kd.sl_nil {α : Type} (d : Kd α) (Z : Hp) : d.sl Z (.slice none 0 0) []:=⟨none,0,rfl,Nat.le_refl _,by unfold maxLen; omega,fun h=>by simp at h⟩
theorem Sep.one_rd {α : Type} {d : Kd α} {e : α} {es : List Value} {b : Nat} {T : TypeId} (hs : Sep W w cs) (hk : Pick cs (.blk b T es) r) (hk2 : Pick r (.el d e es) r2) : Sep W w (.rd d (.slice (some ⟨b,0,none⟩) 1 1) [e]::r2):=by
  have h1:=(hs.perm (hk.perm.trans (hk2.perm.cons _))).join
  refine h1.shut fun Z H hd hc=>?_;obtain ⟨H1,H2,g1,g2,gd,ho,hR⟩:=hc;refine ⟨_,1,rfl,Nat.le_refl _,by unfold maxLen; omega,fun _=>⟨b,0,es.toArray,T,(0,0),rfl,Hp.le_un_right hd _ _ (g1 _ _ ho),fun i x hx=>?_⟩⟩
  match i,hx with
  | 0,hx=>
    simp at hx
    subst hx;exact ⟨es,d.mono (Hp.le_un_left _ _) hR,fun j u hj=>by simpa using hj⟩
  | i + 1,hx=>simp at hx
end
end Go.Proofs.YtkbbnpjbjakpcaaGreatDoor

set_option linter.unusedVariables false
set_option linter.unusedSimpArgs false
namespace Go.Proofs.YtkbbnpjbjakpcaaGreatDoor
open Go.RowKit Go.Lib Go.Proofs.YtkbbnpjbjakpcaaGreatDoorW.PrintLast
theorem bldAwk2332_0_1_3 {w : World} {l : List (Nat × Value)} {T : TypeId} {x0 x1 x3 : Operand} {v0 : Value} (h0 : ev l x0 = some v0) {v1 : Value} (h1 : ev l x1 = some v1) {v3 : Value} (h3 : ev l x3 = some v3) (o0 : v0.cells = #[v0]:=by rfl) (o1 : v1.cells = #[v1]:=by rfl) (o3 : v3.cells = #[v3]:=by rfl) : Yl Tryz.prog w l (.build 32 #[(0,x0),(1,x1),(3,x3)]) T (.agg #[v0,v1,.int .i64 0,v3,.bool false,.slice none 0 0]):=fun ρ o h ho _=>by
  have hf : Instr.fill (fun i=>([(0,1),(1,1),(2,1),(3,1),(4,1),(5,1)] : List (Nat × Nat))[i]?) #[.int .i64 0,.int .i64 0,.int .i64 0,.string ⟨#[]⟩,.bool false,.slice none 0 0] [(0,v0),(1,v1),(3,v3)] = some #[v0,v1,.int .i64 0,v3,.bool false,.slice none 0 0]:=by
    refine (fill_v o0 rfl (by simp)).trans ?_;refine (fill_v o1 rfl (by simp)).trans ?_;refine (fill_v o3 rfl (by simp)).trans ?_
    simp [Instr.fill]
  unfold execOp; rw [ho]
  simp [h _ _ h0,h _ _ h1,h _ _ h3,Instr.build,Tryz.zeroValue32,Tryz.runUnderlying32,Tryz.sizeOf3,Tryz.sizeOf30,Tryz.sizeOf4,Tryz.sizeOf9,agg_cells,hf]
theorem bldAwk2337_0_1 {w : World} {l : List (Nat × Value)} {T : TypeId} {x0 x1 : Operand} {v0 : Value} (h0 : ev l x0 = some v0) {v1 : Value} (h1 : ev l x1 = some v1) (o0 : v0.cells = #[v0]:=by rfl) (o1 : v1.cells = #[v1]:=by rfl) : Yl Tryz.prog w l (.build 37 #[(0,x0),(1,x1)]) T (.agg #[v0,v1,.int .i64 0,.int .i64 0,.int .i64 0,.slice none 0 0,.slice none 0 0,.slice none 0 0,.int .i64 0]):=fun ρ o h ho _=>by
  have hf : Instr.fill (fun i=>([(0,1),(1,1),(2,1),(3,1),(4,1),(5,1),(6,1),(7,1),(8,1)] : List (Nat × Nat))[i]?) #[.int .i64 0,.int .i64 0,.int .i64 0,.int .i64 0,.int .i64 0,.slice none 0 0,.slice none 0 0,.slice none 0 0,.int .i64 0] [(0,v0),(1,v1)] = some #[v0,v1,.int .i64 0,.int .i64 0,.int .i64 0,.slice none 0 0,.slice none 0 0,.slice none 0 0,.int .i64 0]:=by
    refine (fill_v o0 rfl (by simp)).trans ?_;refine (fill_v o1 rfl (by simp)).trans ?_
    simp [Instr.fill]
  unfold execOp; rw [ho]
  simp [h _ _ h0,h _ _ h1,Instr.build,Tryz.zeroValue37,Tryz.runUnderlying37,Tryz.sizeOf3,Tryz.sizeOf33,Tryz.sizeOf34,Tryz.sizeOf35,agg_cells,hf]
theorem bslAwk2333_1_0 {w : World} {l : List (Nat × Value)} {T : TypeId} {x0 : Operand} {c0 : List Value} (h0 : ev l x0 = some (.agg c0.toArray)) (n0 : c0.length = 6:=by rfl) : Mk Tryz.prog w l (.buildSlice 33 1 #[(0,x0)]) T 32 1 c0:=fun ρ o h ho _=>by
  unfold execOp; rw [ho];exact mk1 (P:=Tryz.prog) w Tryz.runUnderlying33 Tryz.sizeOf32 Tryz.zeroValue32 (by decide) (by decide) n0 (h _ _ h0)
def awA : Actn:=⟨1,1,0,⟨#[97]⟩,false,[]⟩
def aw1 : Cli:=⟨3,0,[],0,false,false,false,false,[⟨[awA],0⟩],[]⟩
def aw2 : Cli:=⟨3,0,[],0,true,false,false,false,[⟨[awA],0⟩],[]⟩
def aw3 : Cli:=⟨3,0,[],0,true,false,true,false,[⟨[awA],0⟩],[]⟩
def awW : Msg:=⟨4,3,0,0,0,[],[],[],0⟩
theorem aw_m : mA awA:=⟨by decide,by decide,fun c hc=>by cases hc⟩
theorem aw_ok {q : Cli} (h : q = newC 3∨q = aw1∨q = aw2∨q = aw3) : okC q:=by
  rcases h with rfl | rfl | rfl | rfl <;> refine ⟨by decide,by decide,idsOk_nil,fun p hp=>?_⟩
  · cases hp
  all_goals
    simp [aw1,aw2,aw3] at hp
    subst hp;refine ⟨fun x hx=>?_,by simp⟩
    simp at hx
    subst hx;exact ⟨rfl,aw_m⟩
theorem aw_edit : editE (newC 3) [awA] = 0∧editC (newC 3) [awA] = aw1:=by
  have h : editE (newC 3) [awA] = 0:=by decide +kernel
  refine ⟨h,?_⟩;unfold editC;rw [if_pos h]
  rfl
theorem aw_view : (viewL aw3.base aw3.l).length = 1:=by decide +kernel
theorem aw_wel : msgE awW = 0:=bare_ok (by decide) rfl (by decide) rfl rfl rfl
section
variable {W w : World} {cs r r2 : List Ch}
theorem awake23_c (hT : Tabs W) (hs : Sep W w cs) : Calls P 5 #[] w (Rt fun v w'=>v = .bool true∧Sep W w' cs):=by
  have hmw:=bare_m (m:=awW) (by decide) rfl rfl rfl
  obtain ⟨he1,he2⟩:=aw_edit
  have hvo : idsOk (viewL aw3.base aw3.l):=idsOk_view (aw_ok (.inr (.inr (.inr rfl)))).base
  have hvl : (sortN (viewL aw3.base aw3.l)).length = 1:=by rw [sortN_len]; exact aw_view
  refine enter Tryz.func5 Tryz.ntmps5 rfl rfl fun a (ha : Has a 83 [])=>?_;refine wp_seq_k fun K1 hK1=>?_;refine wp_region_lit ?_;refine pY ha (yAssign rfl) fun a ha=>?_;refine pZ ?_;refine hK1 _ _ ?_;refine wp_seq_k fun K2 hK2=>?_;refine wp_region_lit ?_;refine pC ha (nCall Tryz.call6 rfl) rfl (CNew_c 3 hs) ?_;rintro v w hd a ha;obtain ⟨_,_,bc,rfl,hs⟩:=hd.resolve_right (fun h=>h.1 (by decide));refine pY ha (yMove rfl) fun a ha=>?_;refine pY ha (yExtract rfl rfl) fun a ha=>?_;refine pY ha (yExtract rfl rfl) fun a ha=>?_;refine pY ha (yAssign rfl) fun a ha=>?_;refine pY ha (yAssign rfl) fun a ha=>?_;refine pZ ?_;refine hK2 _ _ ?_;refine wp_seq_k fun K3 hK3=>?_;refine wp_region_lit ?_;refine pC ha (nCall Tryz.call6 rfl) rfl (CNew_c 0 hs) ?_;rintro v w hd a ha;obtain ⟨_,rfl,hs⟩:=hd.resolve_left (fun h=>absurd h.1 (by decide));refine pY ha (yMove rfl) fun a ha=>?_;refine pY ha (yExtract rfl rfl) fun a ha=>?_;refine pY ha (yExtract rfl rfl) fun a ha=>?_;refine pY ha (yAssign rfl) fun a ha=>?_;refine pY ha (yAssign rfl) fun a ha=>?_;refine pZ ?_;refine hK3 _ _ ?_;refine wp_seq_k fun K4 hK4=>?_;refine wp_seq_k fun K5 hK5=>?_;refine wp_region_lit ?_;refine pY ha (yMove rfl) fun a ha=>?_;refine pY ha (yNeq rfl rfl) fun a ha=>?_;refine pY ha (yMove rfl) fun a ha=>?_;refine gOn ha ?_;refine pY ha (yMove rfl) fun a ha=>?_;refine gOn ha ?_;refine pY ha (yPtrEqlN Tryz.underlying24 rfl rfl) fun a ha=>?_;refine pY ha (yPickF rfl rfl) fun a ha=>?_;refine pY ha (yMove rfl) fun a ha=>?_;refine gOn ha ?_;refine pY ha (yMove rfl) fun a ha=>?_;refine gOn ha ?_;refine pY ha (yNeq rfl rfl) fun a ha=>?_;refine pY ha (yPickF rfl rfl) fun a ha=>?_;refine pZ ?_;refine hK5 _ _ ?_;refine cFalse ha rfl ?_;refine wp_skip ?_;refine hK4 _ _ ?_;refine wp_seq_k fun K6 hK6=>?_;refine wp_region_lit ?_;refine pY ha (yMove rfl) fun a ha=>?_;refine pY ha (bldAwk2332_0_1_3 rfl rfl rfl) fun a ha=>?_;refine pMake ha (bslAwk2333_1_0 rfl) hs rfl fun ba w hs a ha=>?_
  have hs:=(hs.add (x:=.el kActn awA [.int .i64 1,.int .i64 1,.int .i64 0,.string ⟨#[97]⟩,.bool false,.slice none 0 0]) (fun Z=>⟨none,0,0,rfl,Kd.sl_nil _ _⟩)).one_rd (.there .here) .here
  refine pC ha (nCall Tryz.call7 rfl) rfl (CEdit_c hT (l:=[awA]) (aw_ok (.inl rfl)) (by decide) (by simp [awA]) (by simp [aw_m]) (by simp) hs pk1 pk0) ?_;rintro v w ⟨rfl,hs⟩ a ha;rw [he1,he2] at *;refine pY ha (yAssign rfl) fun a ha=>?_;refine pZ ?_;refine hK6 _ _ ?_;refine wp_seq_k fun K7 hK7=>?_;refine wp_region_lit ?_;refine pY ha (yMove rfl) fun a ha=>?_;refine pC ha (nCall Tryz.call9 rfl) rfl (COut_c (aw_ok (.inr (.inl rfl))) hs pk0) ?_;rintro v w ⟨es,rfl,hs⟩ a ha;obtain ⟨B1,p1,q1,B2,p2,q2,B3,p3,q3,rfl,hs⟩:=hs.el_msg .here;rw [show cOut aw1 = aw1 from rfl] at hs;rw [show cOutM aw1 = ⟨1,3,0,0,0,[],[],[],0⟩ from rfl] at *;refine pAlloc (zs:=[.int .i64 0,.int .i64 0,.int .i64 0,.int .i64 0,.int .i64 0,.slice none 0 0,.slice none 0 0,.slice none 0 0,.int .i64 0]) ha Tryz.zeroValue37 rfl hs rfl fun b6 w hs a ha=>?_;refine pStoreA ha Tryz.sizeOf37 hs rfl rfl pk0 rfl rfl rfl fun w hs=>?_;refine pZ ?_;refine hK7 _ _ ?_;refine wp_seq_k fun K8 hK8=>?_;refine wp_region_lit ?_;refine pY ha (yMove rfl) fun a ha=>?_;refine pY ha (bldAwk2337_0_1 rfl rfl) fun a ha=>?_;have hs:=hs.msg_none 4 3 0 0 0 0;refine pC ha (nCall Tryz.call10 rfl) rfl (CInW_c hT (m:=awW) (q:=aw1) (by decide) rfl hmw.1 hmw.2 hs pk6 pk0) ?_;rintro v w ⟨rfl,hs⟩ a ha;rw [aw_wel] at *;rw [if_pos rfl] at *;rw [show cWel aw1 awW = aw2 from rfl] at hs;refine pY ha (yAssign rfl) fun a ha=>?_;refine pZ ?_;refine hK8 _ _ ?_;refine wp_seq_k fun K9 hK9=>?_;refine wp_region_lit ?_;refine pY ha (yMove rfl) fun a ha=>?_;refine pC ha (nCall Tryz.call9 rfl) rfl (COut_c (aw_ok (.inr (.inr (.inl rfl)))) hs pk0) ?_;rintro v w ⟨es,rfl,hs⟩ a ha;obtain ⟨D1,s1,t1,D2,s2,t2,D3,s3,t3,rfl,hs⟩:=hs.el_msg .here;rw [show cOut aw2 = aw3 from rfl] at hs;rw [show cOutM aw2 = ⟨2,3,1,0,0,[awA],[],[],0⟩ from rfl] at *;obtain ⟨rfl,_⟩:=hs.rd_shape (show Pick _ (.rd kActn (.slice D1 _ _) [awA]) _ from .here);refine pAlloc (zs:=[.int .i64 0,.int .i64 0,.int .i64 0,.int .i64 0,.int .i64 0,.slice none 0 0,.slice none 0 0,.slice none 0 0,.int .i64 0]) ha Tryz.zeroValue37 rfl hs rfl fun b8 w hs a ha=>?_;refine pStoreA ha Tryz.sizeOf37 hs rfl rfl pk0 rfl rfl rfl fun w hs=>?_;refine pZ ?_;refine hK9 _ _ ?_;refine wp_seq_k fun K10 hK10=>?_;refine wp_region_lit ?_;refine pY ha (yMove rfl) fun a ha=>?_;refine pC ha (nCall Tryz.call16 rfl) rfl (CView_c hT (aw_ok (.inr (.inr (.inr rfl)))) hs pk5) ?_;rintro v w ⟨bv,bm,rfl,hs⟩ a ha;refine pY ha (yAssign rfl) fun a ha=>?_;refine pZ ?_;refine hK10 _ _ ?_;refine wp_seq_k fun K11 hK11=>?_;refine wp_region_lit ?_;refine pY ha (yMove rfl) fun a ha=>?_;refine pY ha (yEql rfl rfl) fun a ha=>?_;refine pY ha (yMove rfl) fun a ha=>?_;refine gOn ha ?_;refine pY ha (yFieldA Tryz.runUnderlying37 rfl Tryz.sizeOf3 rfl rfl) fun a ha=>?_;refine gOn ha ?_;refine pY ha (yLoadB Tryz.isAgg3 hs rfl pk9 rfl) fun a ha=>?_;refine gOn ha ?_;refine pY ha (yEql rfl rfl) fun a ha=>?_;refine pY ha (yPickT rfl rfl) fun a ha=>?_;refine pY ha (yMove rfl) fun a ha=>?_;refine gOn ha ?_;refine pY ha (yMove rfl) fun a ha=>?_;refine gOn ha ?_
  refine pY ha (yEql rfl rfl) fun a ha=>?_;refine pY ha (yPickT rfl rfl) fun a ha=>?_;refine pY ha (yMove rfl) fun a ha=>?_;refine gOn ha ?_;refine pY ha (yFieldA Tryz.runUnderlying37 rfl Tryz.sizeOf3 rfl rfl) fun a ha=>?_;refine gOn ha ?_;refine pY ha (yLoadB Tryz.isAgg3 hs rfl pk3 rfl) fun a ha=>?_;refine gOn ha ?_;refine pY ha (yEql rfl rfl) fun a ha=>?_;refine pY ha (yPickT rfl rfl) fun a ha=>?_;refine pY ha (yMove rfl) fun a ha=>?_;refine gOn ha ?_;refine pY ha (yFieldA Tryz.runUnderlying37 rfl Tryz.sizeOf3 rfl rfl) fun a ha=>?_;refine gOn ha ?_;refine pY ha (yLoadB Tryz.isAgg3 hs rfl pk3 rfl) fun a ha=>?_;refine gOn ha ?_;refine pY ha (yEql rfl rfl) fun a ha=>?_;refine pY ha (yPickT rfl rfl) fun a ha=>?_;refine pY ha (yMove rfl) fun a ha=>?_;refine gOn ha ?_;refine pY ha (yFieldA Tryz.runUnderlying37 rfl Tryz.sizeOf33 rfl rfl) fun a ha=>?_;refine gOn ha ?_;refine pY ha (yLoadB Tryz.isAgg33 hs rfl pk3 rfl) fun a ha=>?_;refine gOn ha ?_;refine pY ha (yLenS Tryz.runUnderlying33 rfl) fun a ha=>?_;refine gOn ha ?_;refine pY ha (yEql rfl rfl) fun a ha=>?_;refine pY ha (yPickT rfl rfl) fun a ha=>?_;refine pY ha (yMove rfl) fun a ha=>?_;refine gOn ha ?_;refine pY ha (yMove rfl) fun a ha=>?_;refine gOn ha ?_;refine pY ha (yPtrNeqN Tryz.underlying54 rfl rfl) fun a ha=>?_;refine pY ha (yPickT rfl rfl) fun a ha=>?_;refine pY ha (yMove rfl) fun a ha=>?_;refine gOn ha ?_;refine pY ha (yMove rfl) fun a ha=>?_;refine gOn ha ?_;refine pC ha (nCall Tryz.call18 rfl) rfl (TNodes_c hvo hs pk0 pk0) ?_;rintro v w ⟨A,n,rfl,hs⟩ a ha;rw [hvl] at ha;refine gOn ha ?_;refine pY ha (yLenS Tryz.runUnderlying35 rfl) fun a ha=>?_;refine gOn ha ?_;refine pY ha (yEql rfl rfl) fun a ha=>?_;refine pY ha (yPickT rfl rfl) fun a ha=>?_;refine pY ha (yMove rfl) fun a ha=>?_;refine gOn ha ?_;refine pY ha (yMove rfl) fun a ha=>?_;refine gOn ha ?_;refine pC ha (nCall Tryz.call19 rfl) rfl (CIdle_c (c:=aw3) (by decide) hs pk3) ?_;rintro v w ⟨rfl,hs⟩ a ha;refine gOn ha ?_;refine pY ha (yNot rfl) fun a ha=>?_;refine pY ha (yPickT rfl rfl) fun a ha=>?_;refine pY ha (yAssign rfl) fun a ha=>?_;refine pZ ?_;refine hK11 _ _ ?_;refine wp_ret ?_;show bodyPost Tryz.prog Tryz.f5 _ .ret _ _;refine ret1 rfl ha rfl ?_;exact ⟨rfl,by repeat first | with_reducible exact hs | replace hs:=hs.drop⟩
end
end Go.Proofs.YtkbbnpjbjakpcaaGreatDoor

set_option linter.unusedVariables false
set_option linter.unusedSimpArgs false
namespace Go.Proofs.YtkbbnpjbjakpcaaGreatDoor
open Go.RowKit Go.Lib
theorem bare_g {m : Msg} (hk : 1≤m.kind∧m.kind≤9) (hp : m = plainM m) (hf : fits m.client = true∧fits m.seq = true∧fits m.rev = true∧fits m.last = true∧fits m.code = true) (h1 : m.acts = []) (h2 : m.commits = []) (h3 : m.nodes = []) (h0 : i64 m.client∧i64 m.seq∧i64 m.rev∧i64 m.last∧i64 m.code) : msgE m = 0∧mM m∧(wMsg m).1.length≤8796093022208 :=
  ⟨bare_ok hk hp hf h1 h2 h3,bare_m h0 h1 h2 h3⟩
theorem i64_s {r : Int} (h : 0≤r∧r≤1099511627776) : i64 r:=⟨by omega,by omega⟩
theorem z_64 : i64 0:=by decide
end Go.Proofs.YtkbbnpjbjakpcaaGreatDoor

set_option linter.unusedVariables false
set_option linter.unusedSimpArgs false
namespace Go.Proofs.YtkbbnpjbjakpcaaGreatDoor
open Go.RowKit Go.Lib
section
variable (r : Nat→Bool)
/-- What is committed, what is lost, how many: behind so many answers. -/
def sB : Nat→List Nod
  | 0=>[]
  | i + 1=>if r i = true then sB i++[creN (actS i)] else sB i
def sG : Nat→List Pnd
  | 0=>[]
  | i + 1=>if r i = true then sG i else sG i++[⟨[actS i],13⟩]
def sV : Nat→Int
  | 0=>0
  | i + 1=>if r i = true then sV i + 1 else sV i
def sL : Nat→Int
  | 0=>0
  | i + 1=>if r i = true then sL i else sL i + 1
theorem sV_le : ∀ i,0≤sV r i∧sV r i≤i
  | 0=>⟨Int.le_refl _,Int.le_refl _⟩
  | i + 1=>by
    have:=sV_le i
    simp only [sV]
    split <;> omega
theorem sL_len : ∀ i,((sG r i).length : Int) = sL r i∧(sG r i).length≤i
  | 0=>⟨rfl,Nat.le_refl _⟩
  | i + 1=>by
    have:=sL_len i
    simp only [sG,sL]
    split
    · exact ⟨this.1,by omega⟩
    · rw [List.length_append]
      simp
      omega
theorem sG_all : ∀ i,i≤20→∀ p ∈ sG r i,∃ j,j < 20∧p = ⟨[actS j],13⟩
  | 0,_,p,h=>by cases h
  | i + 1,hi,p,h=>by
    simp only [sG] at h
    split at h
    · exact sG_all i (by omega) p h
    · rcases List.mem_append.1 h with h | h
      · exact sG_all i (by omega) p h
      · exact ⟨i,by omega,by simpa using h⟩
theorem sB_mem : ∀ i,(∀ x ∈ sB r i,x ∈ nodG actS i)∧(sB r i).length≤i
  | 0=>⟨(fun x h=>by cases h),Nat.le_refl _⟩
  | i + 1=>by
    obtain ⟨h1,h2⟩:=sB_mem i;rw [nodG_succ];simp only [sB]
    split
    · refine ⟨fun x hx=>?_,by simp; omega⟩
      rcases List.mem_append.1 hx with hx | hx
      · exact List.mem_append.2 (.inl (h1 x hx))
      · exact List.mem_append.2 (.inr hx)
    · exact ⟨fun x hx=>List.mem_append.2 (.inl (h1 x hx)),by omega⟩
theorem sub_doE {xs ys : List Nod} {a : Actn} (hp : a.parent = 0) (hs : ∀ x ∈ xs,x ∈ ys) (hl : xs.length < 100) (h : doE ys [a] = 0) : doE xs [a] = 0:=by
  obtain ⟨_,h1,h2⟩:=doE_one h;obtain ⟨k1,k2,k3,k4,k5,k6⟩:=creE_ok h2
  have e1 : hasId xs a.id = false:=by
    unfold hasId at k3 ⊢;rw [List.any_eq_false] at k3 ⊢;exact fun x hx=>k3 x (hs x hx)
  have e2 : hasCh xs a.parent a.name = false:=by
    unfold hasCh at k5 ⊢;rw [List.any_eq_false] at k5 ⊢;exact fun x hx=>k5 x (hs x hx)
  have e3 : dirE xs a.parent = 0:=by rw [hp]; rfl
  have e4 : creE xs a = 0:=by
    unfold creE;rw [if_neg (by rw [k2]; simp; omega),if_neg (by rw [e1]; decide),if_neg (by rw [e3]; decide),if_neg (by rw [e2]; decide),if_neg (by omega)]
  unfold doE;rw [if_neg (by rw [h1]; decide)];simp only [doL];rw [if_neg (by rw [e4]; decide)]
theorem sB_do {i : Nat} (hi : i < 20) : doE (sB r i) [actS i] = 0 :=
  sub_doE rfl (sB_mem r i).1 (by have:=(sB_mem r i).2; omega) (fullS i hi)
theorem sB_ids : ∀ i,i≤20→idsOk (sB r i)
  | 0,_=>idsOk_nil
  | i + 1,hi=>by
    have h:=sB_ids i (by omega)
    simp only [sB]
    split
    · rw [← (doE_one (sB_do r (show i < 20 by omega))).1];exact idsOk_do _ h
    · exact h
def sS (k i : Nat) : Cli:=⟨4,sV r i,sB r i,6 + (i : Int),true,false,false,false,(penG actS k).drop i,sG r i⟩
def sU (k i : Nat) : Cli:=⟨4,sV r i,sB r i,6 + (i : Int),true,false,true,false,(penG actS k).drop i,sG r i⟩
def sT (k i : Nat) : Cli:=⟨4,sV r i,sB r i,6 + (i : Int),true,false,true,true,(penG actS k).drop i,sG r i⟩
def sM (i : Nat) : Msg:=⟨2,4,6 + (i : Int) + 1,sV r i,0,[actS i],[],[],0⟩
def mSA (i : Nat) : Msg:=⟨6,4,7 + (i : Int),0,13,[],[],[],0⟩
def mSD (i : Nat) : Msg:=⟨5,4,7 + (i : Int),sV r i + 1,0,[],[],[],0⟩
def xS (i : Nat) : Cmt:=⟨sV r i + 1,4,7 + (i : Int),[actS i]⟩
def mSC (i : Nat) : Msg:=⟨7,0,0,sV r i + 1,0,[],[xS r i],[],0⟩
def mSW : Msg:=⟨4,4,0,0,0,[],[],[],6⟩
def sE (i : Nat) : Cli:=⟨4,0,[],0,false,false,false,false,penG actS i,[]⟩
theorem sE_ok {i : Nat} (hi : i≤20) : okC (sE i) :=
  okG (f:=actS) (N:=20) (fun j _=>mA_S j) (show (4 : Int) ≠ 0 by decide) (show (0 : Int)≤0∧(0 : Int)≤4000000000000000000 by decide) idsOk_nil fun p hp=>by
    obtain ⟨j,hj,rfl⟩:=penG_mem actS hp;exact ⟨j,0,by omega,rfl⟩
theorem sX_ok {k i : Nat} (hk : k≤20) (hi : i≤20) {q : Cli} (h : q = sS r k i∨q = sU r k i∨q = sT r k i) : okC q:=by
  have : q.id = 4∧q.last = 6 + (i : Int)∧q.base = sB r i∧q.l = (penG actS k).drop i:=by
    rcases h with rfl | rfl | rfl <;> exact ⟨rfl,rfl,rfl,rfl⟩
  obtain ⟨a,b,c,d⟩:=this;refine okG (f:=actS) (N:=20) (fun j _=>mA_S j) (by omega) (by omega) (by rw [c]; exact sB_ids r i hi) fun p hp=>?_;rw [d] at hp;obtain ⟨j,hj,rfl⟩:=penG_mem actS (List.mem_of_mem_drop hp);exact ⟨j,0,by omega,rfl⟩
theorem dropG_at {k i : Nat} (h : i < k) : ((penG actS k).drop i)[0]? = some ⟨[actS i],0⟩:=by
  rw [List.getElem?_drop];exact penG_at actS h
theorem dropG_len (k i : Nat) : ((penG actS k).drop i).length = k - i:=by simp [penG_len]
theorem sX_head {k i : Nat} (h : i < k) {q : Cli} (hq : q = sS r k i∨q = sU r k i∨q = sT r k i) : headP q = ⟨[actS i],0⟩:=by
  have hl : q.l = (penG actS k).drop i:=by rcases hq with rfl | rfl | rfl <;> rfl
  unfold headP;rw [hl,List.getD_eq_getElem?_getD,dropG_at h]; rfl
theorem sS_out {k i : Nat} (h : i < k) {q : Cli} (hq : q = sS r k i∨q = sU r k i) : cOutM q = sM r i∧cOut q = sU r k i:=by
  have hn : ¬ (q.l.length = 0∨q.told = true∨q.behind = true):=by
    rcases hq with rfl | rfl
    · rintro (h2 | h2 | h2)
      · have : ((penG actS k).drop i).length = 0:=h2
        rw [dropG_len] at this; omega
      · cases h2
      · cases h2
    · rintro (h2 | h2 | h2)
      · have : ((penG actS k).drop i).length = 0:=h2
        rw [dropG_len] at this; omega
      · cases h2
      · cases h2
  have hh:=sX_head r h (q:=q) (by rcases hq with h | h; exact .inl h; exact .inr (.inl h))
  obtain ⟨h1,h2⟩:=out_sub (q:=q) (by rcases hq with rfl | rfl <;> rfl) hn;rw [h1,h2,hh]
  rcases hq with rfl | rfl <;> exact ⟨rfl,rfl⟩
theorem sT_out (k i : Nat) : cOutM (sT r k i) = ⟨3,4,0,sV r i,0,[],[],[],0⟩∧cOut (sT r k i) = sT r k i :=
  out_pull (q:=sT r k i) rfl (.inr (.inl rfl))
theorem sU_mine {k i : Nat} (h : i < k) {q : Cli} (hq : q = sU r k i∨q = sT r k i) : mineB q 4 (7 + (i : Int)) = true:=by
  have h1 : q.id = 4∧q.last = 6 + (i : Int)∧q.l.length = k - i:=by
    rcases hq with rfl | rfl <;> exact ⟨rfl,rfl,dropG_len k i⟩
  obtain ⟨a,b,c⟩:=h1;unfold mineB;rw [a,b,c]
  simp
  omega
theorem sA_in {k i : Nat} (h : i < k) (hr : r i = false) : abortC (sU r k i) (mSA i) = sS r k (i + 1):=by
  unfold abortC;rw [if_pos (show mineB (sU r k i) (mSA i).client (mSA i).seq = true from sU_mine r h (.inl rfl)),sX_head r h (.inr (.inl rfl))]
  have e1 : sV r (i + 1) = sV r i:=by simp [sV,hr]
  have e2 : sB r (i + 1) = sB r i:=by simp [sB,hr]
  have e3 : sG r (i + 1) = sG r i++[⟨[actS i],13⟩]:=by simp [sG,hr]
  unfold sS;rw [e1,e2,e3]
  have e4 : (6 : Int) + ((i + 1 : Nat) : Int) = 6 + (i : Int) + 1:=by omega
  have e5 : (penG actS k).drop (i + 1) = ((penG actS k).drop i).drop 1:=by rw [List.drop_drop]
  rw [e4,e5]
  rfl
theorem sD_in {k i : Nat} (h : i < k) : doneC (sU r k i) (mSD r i) = sT r k i:=by
  unfold doneC;rw [if_pos (show mineB (sU r k i) (mSD r i).client (mSD r i).seq = true from sU_mine r h (.inl rfl)),if_neg (by show ¬ sV r i + 1≤sV r i; omega)]
  rfl
theorem sC_in {k i : Nat} (hi : i < 20) (hr : r i = true) {q : Cli} (hq : q = sU r k i∨q = sT r k i) : goesC (takeC q (xS r i)) = sS r k (i + 1):=by
  have e1 : sV r (i + 1) = sV r i + 1:=by simp [sV,hr]
  have e2 : sB r (i + 1) = sB r i++[creN (actS i)]:=by simp [sB,hr]
  have e3 : sG r (i + 1) = sG r i:=by simp [sG,hr]
  have e4 : (6 : Int) + ((i + 1 : Nat) : Int) = 6 + (i : Int) + 1:=by omega
  have e5 : (penG actS k).drop (i + 1) = ((penG actS k).drop i).drop 1:=by rw [List.drop_drop]
  have e6:=(doE_one (sB_do r hi)).1
  unfold sS goesC takeC;rw [e1,e2,e3,e4,e5,← e6]
  rcases hq with rfl | rfl <;> rfl
theorem sD_again (k i : Nat) : doneC (sS r k (i + 1)) (mSD r i) = sS r k (i + 1):=by
  unfold doneC;rw [if_neg];unfold mineB
  have : ¬ ((mSD r i).seq = (sS r k (i + 1)).last + 1):=by
    show ¬ (7 + (i : Int) = 6 + ((i + 1 : Nat) : Int) + 1)
    omega
  rw [decide_eq_false this]
  simp
theorem mSW_ok : msgE mSW = 0∧mM mSW∧(wMsg mSW).1.length≤8796093022208:=bare_g (by decide) rfl (by decide) rfl rfl rfl (by decide)
theorem mSA_ok {i : Nat} (hi : i≤20) : msgE (mSA i) = 0∧mM (mSA i)∧(wMsg (mSA i)).1.length≤8796093022208 :=
  bare_g (show (1 : Int)≤6∧(6 : Int)≤9 by decide) rfl ⟨rfl,fits_of (n:=7 + (i : Int)) (by omega) (by omega),rfl,rfl,rfl⟩ rfl rfl rfl ⟨show i64 4 by decide,i64_s (r:=7 + (i : Int)) ⟨by omega,by omega⟩,z_64,z_64,show i64 13 by decide⟩
theorem mSD_ok {i : Nat} (hi : i≤20) : msgE (mSD r i) = 0∧mM (mSD r i)∧(wMsg (mSD r i)).1.length≤8796093022208:=by
  have hv:=sV_le r i
  exact bare_g (show (1 : Int)≤5∧(5 : Int)≤9 by decide) rfl ⟨rfl,fits_of (n:=7 + (i : Int)) (by omega) (by omega),fits_of (n:=sV r i + 1) (by omega) (by omega),rfl,rfl⟩ rfl rfl rfl ⟨show i64 4 by decide,i64_s (r:=7 + (i : Int)) ⟨by omega,by omega⟩,i64_s (r:=sV r i + 1) ⟨by omega,by omega⟩,z_64,z_64⟩
theorem gA_S (i : Nat) : gA (actS i):=⟨by show (nameS i).size≤_; rw [nameS_size]; decide,fun c hc=>by cases hc⟩
theorem tA_S (i : Nat) : tActns [actS i] = 7:=by
  unfold tActns;simp only [List.map_cons,List.map_nil,List.sum_cons,List.sum_nil];show (nameS i).size + tComps [] + 3 + 0 = 7;rw [nameS_size]; rfl
theorem mSC_ok {i : Nat} (hi : i < 20) : msgE (mSC r i) = 0∧mM (mSC r i)∧(wMsg (mSC r i)).1.length≤8796093022208:=by
  have hv:=sV_le r i
  have ht:=(doE_one (fullS i hi)).2.1
  have hc : cmtE (xS r i) = 0:=by
    unfold cmtE;rw [if_neg]
    · exact ht
    · rw [show fits (xS r i).rev = true from fits_of (n:=sV r i + 1) (by omega) (by omega),show fits (xS r i).client = true from rfl,show fits (xS r i).seq = true from fits_of (n:=7 + (i : Int)) (by omega) (by omega)]
      decide
  refine good_m (show (1 : Int)≤7∧(7 : Int)≤9 by decide) rfl ⟨rfl,rfl,fits_of (n:=sV r i + 1) (by omega) (by omega),rfl,rfl⟩
    ⟨⟨z_64,z_64,i64_s (r:=sV r i + 1) ⟨by omega,by omega⟩,z_64,z_64⟩,fun a h=>(by cases h),fun a h=>?_,fun a h=>(by cases h)⟩
    (show tActns [] + tNods [] + tCmts [xS r i]≤4000 from ?_) (show txnE [] = 0 by decide) (show cmtsE [xS r i] = 0 from ?_) (show nodsE [] = 0 by decide)
  · obtain rfl : a = xS r i:=by simpa [mSC] using h
    exact ⟨⟨i64_s (r:=sV r i + 1) ⟨by omega,by omega⟩,show i64 4 by decide,i64_s (r:=7 + (i : Int)) ⟨by omega,by omega⟩⟩,fun b hb=>by
      obtain rfl : b = actS i:=by simpa [xS] using hb
      exact gA_S i⟩
  · unfold tCmts;simp only [List.map_cons,List.map_nil,List.sum_cons,List.sum_nil];rw [show (xS r i).acts = [actS i] from rfl,tA_S]
    decide
  · unfold cmtsE;rw [if_neg (by show ¬ 1 > 20; decide)];show fe (fun j=>cmtE ([xS r i].getD j noCm)) 1 = 0;unfold fe
    simp [hc,fe]
end
end Go.Proofs.YtkbbnpjbjakpcaaGreatDoor

set_option linter.unusedVariables false
set_option linter.unusedSimpArgs false
namespace Go.Proofs.YtkbbnpjbjakpcaaGreatDoor
open Go.RowKit Go.Lib Go.Proofs.YtkbbnpjbjakpcaaGreatDoorW.PrintLast
section
variable {P : Program} {w : World} {l : List (Nat × Value)} {x y : Operand} {T U U' : TypeId}
theorem yStrAdd {s t : ByteArray} (hx : ev l x = some (.string s)) (hy : ev l y = some (.string t)) (hb : s.size + t.size≤1000000000) : Yl P w l (.binOp .add U x y U') T (.string (s++t)) :=
  yBin hx hy (fun _ _=>by rw [eqGuard_at_string]; rfl) (by
    have h : ¬ IntKind.i64.max < ((s.size : Int) + (t.size : Int)):=by rw [show IntKind.i64.max = 9223372036854775807 from rfl]; omega
    simp [binOp,Op.stringOp]
    omega)
end
theorem block_size (m : Nat) (k : Int) : (⟨(blockL m k).toArray⟩ : ByteArray).size = m:=by simp [ByteArray.size,blockL]
section
variable {W w : World} {cs r r2 : List Ch}
end
end Go.Proofs.YtkbbnpjbjakpcaaGreatDoor

set_option linter.unusedVariables false
set_option linter.unusedSimpArgs false
namespace Go.Proofs.YtkbbnpjbjakpcaaGreatDoor
open Go.RowKit Go.Lib Go.Proofs.YtkbbnpjbjakpcaaGreatDoorW.PrintLast
theorem bldSndW32_0_1_3_4 {w : World} {l : List (Nat × Value)} {T : TypeId} {x0 x1 x3 x4 : Operand} {v0 : Value} (h0 : ev l x0 = some v0) {v1 : Value} (h1 : ev l x1 = some v1) {v3 : Value} (h3 : ev l x3 = some v3) {v4 : Value} (h4 : ev l x4 = some v4) (o0 : v0.cells = #[v0]:=by rfl) (o1 : v1.cells = #[v1]:=by rfl) (o3 : v3.cells = #[v3]:=by rfl) (o4 : v4.cells = #[v4]:=by rfl) : Yl Tryz.prog w l (.build 32 #[(0,x0),(1,x1),(3,x3),(4,x4)]) T (.agg #[v0,v1,.int .i64 0,v3,v4,.slice none 0 0]):=fun ρ o h ho _=>by
  have hf : Instr.fill (fun i=>([(0,1),(1,1),(2,1),(3,1),(4,1),(5,1)] : List (Nat × Nat))[i]?) #[.int .i64 0,.int .i64 0,.int .i64 0,.string ⟨#[]⟩,.bool false,.slice none 0 0] [(0,v0),(1,v1),(3,v3),(4,v4)] = some #[v0,v1,.int .i64 0,v3,v4,.slice none 0 0]:=by
    refine (fill_v o0 rfl (by simp)).trans ?_;refine (fill_v o1 rfl (by simp)).trans ?_;refine (fill_v o3 rfl (by simp)).trans ?_;refine (fill_v o4 rfl (by simp)).trans ?_
    simp [Instr.fill]
  unfold execOp; rw [ho]
  simp [h _ _ h0,h _ _ h1,h _ _ h3,h _ _ h4,Instr.build,Tryz.zeroValue32,Tryz.runUnderlying32,Tryz.sizeOf3,Tryz.sizeOf30,Tryz.sizeOf4,Tryz.sizeOf9,agg_cells,hf]
theorem bldSndW37_0_1_2_3 {w : World} {l : List (Nat × Value)} {T : TypeId} {x0 x1 x2 x3 : Operand} {v0 : Value} (h0 : ev l x0 = some v0) {v1 : Value} (h1 : ev l x1 = some v1) {v2 : Value} (h2 : ev l x2 = some v2) {v3 : Value} (h3 : ev l x3 = some v3) (o0 : v0.cells = #[v0]:=by rfl) (o1 : v1.cells = #[v1]:=by rfl) (o2 : v2.cells = #[v2]:=by rfl) (o3 : v3.cells = #[v3]:=by rfl) : Yl Tryz.prog w l (.build 37 #[(0,x0),(1,x1),(2,x2),(3,x3)]) T (.agg #[v0,v1,v2,v3,.int .i64 0,.slice none 0 0,.slice none 0 0,.slice none 0 0,.int .i64 0]):=fun ρ o h ho _=>by
  have hf : Instr.fill (fun i=>([(0,1),(1,1),(2,1),(3,1),(4,1),(5,1),(6,1),(7,1),(8,1)] : List (Nat × Nat))[i]?) #[.int .i64 0,.int .i64 0,.int .i64 0,.int .i64 0,.int .i64 0,.slice none 0 0,.slice none 0 0,.slice none 0 0,.int .i64 0] [(0,v0),(1,v1),(2,v2),(3,v3)] = some #[v0,v1,v2,v3,.int .i64 0,.slice none 0 0,.slice none 0 0,.slice none 0 0,.int .i64 0]:=by
    refine (fill_v o0 rfl (by simp)).trans ?_;refine (fill_v o1 rfl (by simp)).trans ?_;refine (fill_v o2 rfl (by simp)).trans ?_;refine (fill_v o3 rfl (by simp)).trans ?_
    simp [Instr.fill]
  unfold execOp; rw [ho]
  simp [h _ _ h0,h _ _ h1,h _ _ h2,h _ _ h3,Instr.build,Tryz.zeroValue37,Tryz.runUnderlying37,Tryz.sizeOf3,Tryz.sizeOf33,Tryz.sizeOf34,Tryz.sizeOf35,agg_cells,hf]
theorem bldSndW37_0_1_2_4 {w : World} {l : List (Nat × Value)} {T : TypeId} {x0 x1 x2 x4 : Operand} {v0 : Value} (h0 : ev l x0 = some v0) {v1 : Value} (h1 : ev l x1 = some v1) {v2 : Value} (h2 : ev l x2 = some v2) {v4 : Value} (h4 : ev l x4 = some v4) (o0 : v0.cells = #[v0]:=by rfl) (o1 : v1.cells = #[v1]:=by rfl) (o2 : v2.cells = #[v2]:=by rfl) (o4 : v4.cells = #[v4]:=by rfl) : Yl Tryz.prog w l (.build 37 #[(0,x0),(1,x1),(2,x2),(4,x4)]) T (.agg #[v0,v1,v2,.int .i64 0,v4,.slice none 0 0,.slice none 0 0,.slice none 0 0,.int .i64 0]):=fun ρ o h ho _=>by
  have hf : Instr.fill (fun i=>([(0,1),(1,1),(2,1),(3,1),(4,1),(5,1),(6,1),(7,1),(8,1)] : List (Nat × Nat))[i]?) #[.int .i64 0,.int .i64 0,.int .i64 0,.int .i64 0,.int .i64 0,.slice none 0 0,.slice none 0 0,.slice none 0 0,.int .i64 0] [(0,v0),(1,v1),(2,v2),(4,v4)] = some #[v0,v1,v2,.int .i64 0,v4,.slice none 0 0,.slice none 0 0,.slice none 0 0,.int .i64 0]:=by
    refine (fill_v o0 rfl (by simp)).trans ?_;refine (fill_v o1 rfl (by simp)).trans ?_;refine (fill_v o2 rfl (by simp)).trans ?_;refine (fill_v o4 rfl (by simp)).trans ?_
    simp [Instr.fill]
  unfold execOp; rw [ho]
  simp [h _ _ h0,h _ _ h1,h _ _ h2,h _ _ h4,Instr.build,Tryz.zeroValue37,Tryz.runUnderlying37,Tryz.sizeOf3,Tryz.sizeOf33,Tryz.sizeOf34,Tryz.sizeOf35,agg_cells,hf]
theorem bldSndW37_0_1_8 {w : World} {l : List (Nat × Value)} {T : TypeId} {x0 x1 x8 : Operand} {v0 : Value} (h0 : ev l x0 = some v0) {v1 : Value} (h1 : ev l x1 = some v1) {v8 : Value} (h8 : ev l x8 = some v8) (o0 : v0.cells = #[v0]:=by rfl) (o1 : v1.cells = #[v1]:=by rfl) (o8 : v8.cells = #[v8]:=by rfl) : Yl Tryz.prog w l (.build 37 #[(0,x0),(1,x1),(8,x8)]) T (.agg #[v0,v1,.int .i64 0,.int .i64 0,.int .i64 0,.slice none 0 0,.slice none 0 0,.slice none 0 0,v8]):=fun ρ o h ho _=>by
  have hf : Instr.fill (fun i=>([(0,1),(1,1),(2,1),(3,1),(4,1),(5,1),(6,1),(7,1),(8,1)] : List (Nat × Nat))[i]?) #[.int .i64 0,.int .i64 0,.int .i64 0,.int .i64 0,.int .i64 0,.slice none 0 0,.slice none 0 0,.slice none 0 0,.int .i64 0] [(0,v0),(1,v1),(8,v8)] = some #[v0,v1,.int .i64 0,.int .i64 0,.int .i64 0,.slice none 0 0,.slice none 0 0,.slice none 0 0,v8]:=by
    refine (fill_v o0 rfl (by simp)).trans ?_;refine (fill_v o1 rfl (by simp)).trans ?_;refine (fill_v o8 rfl (by simp)).trans ?_
    simp [Instr.fill]
  unfold execOp; rw [ho]
  simp [h _ _ h0,h _ _ h1,h _ _ h8,Instr.build,Tryz.zeroValue37,Tryz.runUnderlying37,Tryz.sizeOf3,Tryz.sizeOf33,Tryz.sizeOf34,Tryz.sizeOf35,agg_cells,hf]
theorem bldSndW37_0_3_6 {w : World} {l : List (Nat × Value)} {T : TypeId} {x0 x3 x6 : Operand} {v0 : Value} (h0 : ev l x0 = some v0) {v3 : Value} (h3 : ev l x3 = some v3) {v6 : Value} (h6 : ev l x6 = some v6) (o0 : v0.cells = #[v0]:=by rfl) (o3 : v3.cells = #[v3]:=by rfl) (o6 : v6.cells = #[v6]:=by rfl) : Yl Tryz.prog w l (.build 37 #[(0,x0),(3,x3),(6,x6)]) T (.agg #[v0,.int .i64 0,.int .i64 0,v3,.int .i64 0,.slice none 0 0,v6,.slice none 0 0,.int .i64 0]):=fun ρ o h ho _=>by
  have hf : Instr.fill (fun i=>([(0,1),(1,1),(2,1),(3,1),(4,1),(5,1),(6,1),(7,1),(8,1)] : List (Nat × Nat))[i]?) #[.int .i64 0,.int .i64 0,.int .i64 0,.int .i64 0,.int .i64 0,.slice none 0 0,.slice none 0 0,.slice none 0 0,.int .i64 0] [(0,v0),(3,v3),(6,v6)] = some #[v0,.int .i64 0,.int .i64 0,v3,.int .i64 0,.slice none 0 0,v6,.slice none 0 0,.int .i64 0]:=by
    refine (fill_v o0 rfl (by simp)).trans ?_;refine (fill_v o3 rfl (by simp)).trans ?_;refine (fill_v o6 rfl (by simp)).trans ?_
    simp [Instr.fill]
  unfold execOp; rw [ho]
  simp [h _ _ h0,h _ _ h3,h _ _ h6,Instr.build,Tryz.zeroValue37,Tryz.runUnderlying37,Tryz.sizeOf3,Tryz.sizeOf33,Tryz.sizeOf34,Tryz.sizeOf35,agg_cells,hf]
theorem bldSndW43_0_1_2_3 {w : World} {l : List (Nat × Value)} {T : TypeId} {x0 x1 x2 x3 : Operand} {v0 : Value} (h0 : ev l x0 = some v0) {v1 : Value} (h1 : ev l x1 = some v1) {v2 : Value} (h2 : ev l x2 = some v2) {v3 : Value} (h3 : ev l x3 = some v3) (o0 : v0.cells = #[v0]:=by rfl) (o1 : v1.cells = #[v1]:=by rfl) (o2 : v2.cells = #[v2]:=by rfl) (o3 : v3.cells = #[v3]:=by rfl) : Yl Tryz.prog w l (.build 43 #[(0,x0),(1,x1),(2,x2),(3,x3)]) T (.agg #[v0,v1,v2,v3]):=fun ρ o h ho _=>by
  have hf : Instr.fill (fun i=>([(0,1),(1,1),(2,1),(3,1)] : List (Nat × Nat))[i]?) #[.int .i64 0,.int .i64 0,.int .i64 0,.slice none 0 0] [(0,v0),(1,v1),(2,v2),(3,v3)] = some #[v0,v1,v2,v3]:=by
    refine (fill_v o0 rfl (by simp)).trans ?_;refine (fill_v o1 rfl (by simp)).trans ?_;refine (fill_v o2 rfl (by simp)).trans ?_;refine (fill_v o3 rfl (by simp)).trans ?_
    simp [Instr.fill]
  unfold execOp; rw [ho]
  simp [h _ _ h0,h _ _ h1,h _ _ h2,h _ _ h3,Instr.build,Tryz.zeroValue43,Tryz.runUnderlying43,Tryz.sizeOf3,Tryz.sizeOf33,agg_cells,hf]
theorem bslSndW33_1_0 {w : World} {l : List (Nat × Value)} {T : TypeId} {x0 : Operand} {c0 : List Value} (h0 : ev l x0 = some (.agg c0.toArray)) (n0 : c0.length = 6:=by rfl) : Mk Tryz.prog w l (.buildSlice 33 1 #[(0,x0)]) T 32 1 c0:=fun ρ o h ho _=>by
  unfold execOp; rw [ho];exact mk1 (P:=Tryz.prog) w Tryz.runUnderlying33 Tryz.sizeOf32 Tryz.zeroValue32 (by decide) (by decide) n0 (h _ _ h0)
theorem bslSndW34_1_0 {w : World} {l : List (Nat × Value)} {T : TypeId} {x0 : Operand} {c0 : List Value} (h0 : ev l x0 = some (.agg c0.toArray)) (n0 : c0.length = 4:=by rfl) : Mk Tryz.prog w l (.buildSlice 34 1 #[(0,x0)]) T 43 1 c0:=fun ρ o h ho _=>by
  unfold execOp; rw [ho];exact mk1 (P:=Tryz.prog) w Tryz.runUnderlying34 Tryz.sizeOf43 Tryz.zeroValue43 (by decide) (by decide) n0 (h _ _ h0)
theorem has9 {N : Nat} {a : Act} {l : List (Nat × Value)} {t1 t2 t3 t4 t5 t6 t7 t8 t9 : Nat} {v1 v2 v3 v4 v5 v6 v7 v8 v9 : Value} (ha : Has a N l) (h1 : lk l t1 = some v1) (h2 : lk l t2 = some v2) (h3 : lk l t3 = some v3) (h4 : lk l t4 = some v4) (h5 : lk l t5 = some v5) (h6 : lk l t6 = some v6) (h7 : lk l t7 = some v7) (h8 : lk l t8 = some v8) (h9 : lk l t9 = some v9) :
    Has a N [(t1,v1),(t2,v2),(t3,v3),(t4,v4),(t5,v5),(t6,v6),(t7,v7),(t8,v8),(t9,v9)]:=ha.cons (has8 ha h2 h3 h4 h5 h6 h7 h8 h9) h1
section
variable {W w : World} {cs r2 : List Ch}
set_option maxHeartbeats 2000000 in
theorem ClientSends_c (hT : Tabs W) {A1 : Option Addr} {n1 c1 : Nat} {zs : List Int} (n ag : Int) (hs : Sep W w cs) (hk2 : Pick cs (.rd kInt (.slice A1 n1 c1) zs) r2) :
    Calls Tryz.prog 3 #[.int .i64 n,.slice A1 n1 c1,.int .i64 ag] w (Rt fun v w'=>v = .bool true∧∃ rs,Sep W w' rs):=by
  obtain ⟨rfl,hl4⟩:=hs.rd_shape hk2;unfold maxLen at hl4;have hs:=hs.pick hk2;obtain ⟨r,hr⟩ : ∃ r : Nat→Bool,∀ j,r j = decide (zs.getD j 0 % 3 ≠ 0):=⟨_,fun _=>rfl⟩;refine enter Tryz.func3 Tryz.ntmps3 rfl rfl fun a (ha : Has a 233 [(0,_),(1,_),(2,_)])=>?_;refine wp_seq_k fun K1 hK1=>?_;refine wp_region_lit ?_;refine pY ha (yAssign rfl) fun a ha=>?_;refine pZ ?_;refine hK1 _ _ ?_;refine wp_seq_k fun K2 hK2=>?_;refine wp_seq_k fun K3 hK3=>?_;refine cutC (fun a w=>∃ g : Bool,(g = false→(1≤n∧n≤20)∧zs.length≤20∧0≤ag∧ag≤5)∧Has a 233 [(37,.bool g),(0,.int .i64 n),(1,.slice A1 zs.length c1),(2,.int .i64 ag)]∧Sep W w (.rd kInt (.slice A1 zs.length c1) zs::r2)) ?_ ?_
  · refine wp_region_lit ?_;refine pY ha (yMove rfl) fun a ha=>?_;refine pY ha (yLss rfl rfl) fun a ha=>?_;refine pY ha (yMove rfl) fun a ha=>?_;refine gDec (t:=21) ha rfl (fun hg2 hp2=>?_) (fun hg2 hp2=>?_)
    · rw [hg2] at ha;refine gOn ha ?_;refine pY ha (yMove rfl) fun a ha=>?_;refine gOn ha ?_;refine pY ha (yGtr rfl rfl) fun a ha=>?_;refine pY ha (yPickF rfl rfl) fun a ha=>?_;refine pY ha (yMove rfl) fun a ha=>?_;refine gSplit (t:=25) ha rfl (fun hg6=>?_) (fun hg6=>?_)
      · rw [hg6] at ha;refine gOn ha ?_;refine pY ha (yMove rfl) fun a ha=>?_;refine gOn ha ?_;refine pY ha (yLenS Tryz.runUnderlying22 rfl) fun a ha=>?_;refine gOn ha ?_;refine pY ha (yGtr rfl rfl) fun a ha=>?_;refine pY ha (yPickF rfl rfl) fun a ha=>?_;refine pY ha (yMove rfl) fun a ha=>?_;refine gSplit (t:=30) ha rfl (fun hg11=>?_) (fun hg11=>?_)
        · rw [hg11] at ha;refine gOn ha ?_;refine pY ha (yMove rfl) fun a ha=>?_;refine gOn ha ?_;refine pY ha (yLss rfl rfl) fun a ha=>?_;refine pY ha (yPickF rfl rfl) fun a ha=>?_;refine pY ha (yMove rfl) fun a ha=>?_;refine gSplit (t:=34) ha rfl (fun hg15=>?_) (fun hg15=>?_)
          · rw [hg15] at ha;refine gOn ha ?_;refine pY ha (yMove rfl) fun a ha=>?_;refine gOn ha ?_;refine pY ha (yGtr rfl rfl) fun a ha=>?_;refine pY ha (yPickF rfl rfl) fun a ha=>?_;refine pZ ⟨rfl,?_⟩;refine ⟨_,fun h=>?_,has4 ha rfl rfl rfl rfl,hs⟩;exact ⟨⟨by simpa using hg2,by simpa using hg6⟩,by have:=of_decide_eq_false hg11; omega,by simpa using hg15,by simpa using h⟩
          · rw [hg15] at ha;refine gOff ha fun a ha=>?_;refine gOff ha fun a ha=>?_;refine pY ha (yPickT rfl rfl) fun a ha=>?_;refine pZ ⟨rfl,?_⟩;refine ⟨_,fun h=>?_,has4 ha rfl rfl rfl rfl,hs⟩
            (cases h; done)
        · rw [hg11] at ha;refine gOff ha fun a ha=>?_;refine gOff ha fun a ha=>?_;refine pY ha (yPickT rfl rfl) fun a ha=>?_;refine pY ha (yMove rfl) fun a ha=>?_;refine gOff ha fun a ha=>?_;refine gOff ha fun a ha=>?_;refine pY ha (yPickT rfl rfl) fun a ha=>?_;refine pZ ⟨rfl,?_⟩;refine ⟨_,fun h=>?_,has4 ha rfl rfl rfl rfl,hs⟩
          (cases h; done)
      · rw [hg6] at ha;refine gOff ha fun a ha=>?_;refine gOff ha fun a ha=>?_;refine gOff ha fun a ha=>?_;refine pY ha (yPickT rfl rfl) fun a ha=>?_;refine pY ha (yMove rfl) fun a ha=>?_;refine gOff ha fun a ha=>?_;refine gOff ha fun a ha=>?_;refine pY ha (yPickT rfl rfl) fun a ha=>?_;refine pY ha (yMove rfl) fun a ha=>?_;refine gOff ha fun a ha=>?_;refine gOff ha fun a ha=>?_;refine pY ha (yPickT rfl rfl) fun a ha=>?_;refine pZ ⟨rfl,?_⟩;refine ⟨_,fun h=>?_,has4 ha rfl rfl rfl rfl,hs⟩
        (cases h; done)
    · rw [hg2] at ha;refine gOff ha fun a ha=>?_;refine gOff ha fun a ha=>?_;refine pY ha (yPickT rfl rfl) fun a ha=>?_;refine pY ha (yMove rfl) fun a ha=>?_;refine gOff ha fun a ha=>?_;refine gOff ha fun a ha=>?_;refine gOff ha fun a ha=>?_;refine pY ha (yPickT rfl rfl) fun a ha=>?_;refine pY ha (yMove rfl) fun a ha=>?_;refine gOff ha fun a ha=>?_;refine gOff ha fun a ha=>?_;refine pY ha (yPickT rfl rfl) fun a ha=>?_;refine pY ha (yMove rfl) fun a ha=>?_;refine gOff ha fun a ha=>?_;refine gOff ha fun a ha=>?_;refine pY ha (yPickT rfl rfl) fun a ha=>?_;refine pZ ⟨rfl,?_⟩;refine ⟨_,fun h=>?_,has4 ha rfl rfl rfl rfl,hs⟩
      (cases h; done)
  rintro a w ⟨g,hg37,ha,hs⟩;refine hK3 _ _ ?_;refine cSplit ha rfl (fun hc37=>?_) (fun hc37=>?_)
  · refine wp_seq_k fun K4 hK4=>?_;refine wp_region_lit ?_;refine pC ha (nCall Tryz.call5 rfl) rfl (awake23_c hT hs) ?_;rintro v w ⟨rfl,hs⟩ a ha;refine pY ha (yAssign rfl) fun a ha=>?_;refine pZ ?_;refine hK4 _ _ ?_;refine wp_ret ?_;show bodyPost Tryz.prog Tryz.f3 _ .ret _ _;refine ret1 rfl ha rfl ?_;exact ⟨rfl,_,hs⟩
  · obtain ⟨⟨hn1,hn20⟩,hz20,hag0,hag5⟩:=hg37 hc37;obtain ⟨k,rfl⟩ : ∃ k : Nat,n = (k : Int):=⟨n.toNat,by omega⟩
    have hk1 : 1≤k:=by omega
    have hk20 : k≤20:=by omega
    refine wp_skip ?_;refine hK2 _ _ ?_;refine wp_seq_k fun K5 hK5=>?_;refine wp_region_lit ?_;refine pC ha (nCall Tryz.call6 rfl) rfl (CNew_c 4 hs) ?_;rintro v w hd0 a ha;obtain ⟨_,_,bc,rfl,hs⟩:=hd0.resolve_right (fun h=>h.1 (by decide));refine pY ha (yMove rfl) fun a ha=>?_;refine pY ha (yExtract rfl rfl) fun a ha=>?_;refine pY ha (yExtract rfl rfl) fun a ha=>?_;refine pY ha (yAssign rfl) fun a ha=>?_;refine pY ha (yAssign rfl) fun a ha=>?_;refine pZ ?_;refine hK5 _ _ ?_;refine wp_seq_k fun K6 hK6=>?_;refine wp_seq_k fun K7 hK7=>?_;refine wp_region_lit ?_;refine pY ha (yMove rfl) fun a ha=>?_;refine pY ha (yNeq rfl rfl) fun a ha=>?_;refine pY ha (yMove rfl) fun a ha=>?_;refine gOn ha ?_;refine pY ha (yMove rfl) fun a ha=>?_;refine gOn ha ?_;refine pY ha (yPtrEqlN Tryz.underlying24 rfl rfl) fun a ha=>?_;refine pY ha (yPickF rfl rfl) fun a ha=>?_;refine pZ ?_;refine hK7 _ _ ?_;refine cFalse ha rfl ?_;refine wp_skip ?_;refine hK6 _ _ ?_;refine wp_seq_k fun K8 hK8=>?_;refine wp_seq_k fun K9 hK9=>?_;refine wp_region_lit ?_;refine pY ha (yAssign rfl) fun a ha=>?_;refine pZ ?_;refine hK9 _ _ ?_;refine wp_block ?_;refine loopI (ι:=Nat) (fun i a w=>i≤k∧Has a 233 [(0,.int .i64 k),(1,.slice A1 zs.length c1),(2,.int .i64 ag),(7,.pointer (some ⟨bc,0,none⟩)),(9,.int .i64 i)]∧Sep W w (.cli true bc (sE i)::.rd kInt (.slice A1 zs.length c1) zs::r2)) (fun i=>k - i) (0) ?_ ?_
    · exact ⟨Nat.zero_le _,has5 ha rfl rfl rfl rfl rfl,hs⟩
    · rintro i a w ⟨h1,ha,hs⟩;refine wp_seq_k fun K10 hK10=>?_;refine wp_seq_k fun K11 hK11=>?_;refine wp_region_lit ?_;refine pY ha (yMove rfl) fun a ha=>?_;refine pY ha (yMove rfl) fun a ha=>?_;refine pY ha (yLss rfl rfl) fun a ha=>?_;refine pZ ?_;refine hK11 _ _ ?_;refine cDec ha rfl (fun hc51=>?_) (fun hc51=>?_)
      · refine wp_skip ?_;refine hK10 _ _ ?_;refine wp_seq_k fun K12 hK12=>?_;refine wp_block ?_;refine wp_seq_k fun K13 hK13=>?_;refine wp_region_lit ?_;refine pY ha (yMove rfl) fun a ha=>?_;refine pY ha (yMove rfl) fun a ha=>?_;refine pY ha (yAddN rfl rfl ⟨by omega,by omega⟩) fun a ha=>?_;refine pY ha (yMove rfl) fun a ha=>?_;refine pC ha (nCall Tryz.call8 rfl) rfl (Block_c 3 (i : Int) (by decide) (by omega) (by omega) hs) ?_;rintro v w ⟨rfl,hs⟩ a ha;refine pY ha (yStrAdd rfl rfl (by rw [block_size]; decide)) fun a ha=>?_;refine pY ha (yMove rfl) fun a ha=>?_;refine pY ha (yRem rfl rfl (by omega) (by omega) (by omega)) fun a ha=>?_;refine pY ha (yEql rfl rfl) fun a ha=>?_;refine pY ha (bldSndW32_0_1_3_4 rfl rfl rfl rfl) fun a ha=>?_;refine pMake ha (bslSndW33_1_0 rfl) hs rfl fun ba w hs a ha=>?_
        have hs:=(hs.add (x:=.el kActn (actS i) [.int .i64 1,.int .i64 ((i : Int) + 1),.int .i64 0,.string (nameS i),.bool (decide ((i : Int) % 2 = 0)),.slice none 0 0]) (fun Z=>⟨none,0,0,rfl,Kd.sl_nil _ _⟩)).one_rd (.there .here) .here
        obtain ⟨hE1,hE2⟩:=editG (N:=20) (by decide) fullS (show i < 20 by omega) (q:=sE i) rfl rfl
        have hE2 : editC (sE i) [actS i] = sE (i + 1):=hE2
        have hok:=sE_ok (i:=i) (by omega)
        have hpi : (sE i).l.length = i:=penG_len actS i
        refine pC ha (nCall Tryz.call7 rfl) rfl (CEdit_c hT (q:=sE i) (l:=[actS i]) hok (by omega) (by simp [actS]) (by simp [(mA_S i).2]) (by simp) hs pk1 pk0) ?_;rintro v w ⟨rfl,hs⟩ a ha;rw [hE1] at ha;rw [hE2] at hs;refine pY ha (yNeq rfl rfl) fun a ha=>?_;refine pZ ?_;refine hK13 _ _ ?_;refine cFalse ha rfl ?_;refine wp_skip ?_;refine hK12 _ _ ?_;refine wp_region_lit ?_;refine pY ha (yMove rfl) fun a ha=>?_;refine pY ha (yAddN rfl rfl ⟨by omega,by omega⟩) fun a ha=>?_;refine pY ha (yAssign rfl) fun a ha=>?_;refine pZ ?_;exact ⟨i + 1,⟨by omega,has5 ha rfl rfl rfl rfl rfl,(by exact hs.to (by repeat first | with_reducible exact Picks.refl | (with_reducible apply Picks.cons; · with_reducible repeat first | exact .here | apply Pick.there) | with_reducible refine Picks.skip ?_))⟩,by omega⟩
      · refine wp_exit ?_;refine hK8 _ _ ?_;refine wp_seq_k fun K14 hK14=>?_;refine wp_seq_k fun K15 hK15=>?_;obtain rfl : i = k:=by omega
        have hs:=hs.msg_none 4 4 0 0 0 6;refine wp_region_lit ?_;refine pY ha (yMove rfl) fun a ha=>?_;refine pC ha (nCall Tryz.call9 rfl) rfl (COut_c (q:=sE i) (sE_ok hk20) hs pk1) ?_;rintro v w ⟨es,rfl,hs⟩ a ha;obtain ⟨D1,s1,t1,D2,s2,t2,D3,s3,t3,rfl,hs⟩:=hs.el_msg .here;rw [show cOut (sE i) = sE i from rfl] at hs;rw [show cOutM (sE i) = ⟨1,4,0,0,0,[],[],[],0⟩ from rfl] at ha hs;refine pY ha (yField Tryz.runUnderlying37 rfl Tryz.isAgg3 rfl rfl) fun a ha=>?_;refine pY ha (yNeq rfl rfl) fun a ha=>?_;refine pY ha (yMove rfl) fun a ha=>?_;refine gOn ha ?_;refine pY ha (yMove rfl) fun a ha=>?_;refine gOn ha ?_;refine pY ha (bldSndW37_0_1_8 rfl rfl rfl) fun a ha=>?_;refine gOn ha ?_;refine pC ha (nCall Tryz.call10 rfl) rfl (CInW_c hT (q:=sE i) (m:=mSW) (show (4 : Int) ≠ 0 by decide) rfl mSW_ok.2.1 mSW_ok.2.2 hs pk4 pk4) ?_;rintro v w ⟨rfl,hs⟩ a ha;rw [mSW_ok.1] at ha hs;rw [if_pos rfl] at ha hs;rw [show cWel (sE i) mSW = sS r i 0 from rfl] at hs;have hs:=hs.cli_weak pk0;refine gOn ha ?_;refine pY ha (yNeq rfl rfl) fun a ha=>?_;refine pY ha (yPickF rfl rfl) fun a ha=>?_;refine pZ ?_;refine hK15 _ _ ?_;refine cFalse ha rfl ?_;refine wp_skip ?_;refine hK14 _ _ ?_;refine wp_seq_k fun K16 hK16=>?_;refine wp_region_lit ?_;refine pY ha (yAssign rfl) fun a ha=>?_;refine pY ha (yAssign rfl) fun a ha=>?_;refine pZ ?_;refine hK16 _ _ ?_;refine wp_seq_k fun K17 hK17=>?_;refine wp_seq_k fun K18 hK18=>?_;refine wp_region_lit ?_;refine pY ha (yAssign rfl) fun a ha=>?_;refine pZ ?_;refine hK18 _ _ ?_;refine wp_block ?_;refine loopI (ι:=Nat) (fun y a w=>y≤i∧y≤zs.length∧Has a 233 [(0,.int .i64 i),(1,.slice A1 zs.length c1),(2,.int .i64 ag),(7,.pointer (some ⟨bc,0,none⟩)),(10,.int .i64 (sV r y)),(11,.int .i64 (sL r y)),(12,.int .i64 y)]∧Sep W w (.cli false bc (sS r i y)::.rd kInt (.slice A1 zs.length c1) zs::r2)) (fun y=>i - y) (0) ?_ ?_
        · exact ⟨Nat.zero_le _,Nat.zero_le _,has7 ha rfl rfl rfl rfl rfl rfl rfl,(by exact hs.to (by repeat first | with_reducible exact Picks.refl | (with_reducible apply Picks.cons; · with_reducible repeat first | exact .here | apply Pick.there) | with_reducible refine Picks.skip ?_))⟩
        · rintro y a w ⟨h2,h3,ha,hs⟩;refine wp_seq_k fun K19 hK19=>?_;refine wp_seq_k fun K20 hK20=>?_;refine wp_region_lit ?_;refine pY ha (yMove rfl) fun a ha=>?_;refine pY ha (yMove rfl) fun a ha=>?_;refine pY ha (yMove rfl) fun a ha=>?_;refine pY ha (yLenS Tryz.runUnderlying22 rfl) fun a ha=>?_;refine pY ha (yMin2 rfl rfl) fun a ha=>?_;refine pY ha (yLss rfl rfl) fun a ha=>?_;refine pZ ?_;refine hK20 _ _ ?_;refine cDec ha rfl (fun hc82=>?_) (fun hc82=>?_)
          · have hik : y < i:=by split at hc82 <;> omega
            have hil : y < zs.length:=by split at hc82 <;> omega
            obtain ⟨hv0,hv1⟩:=sV_le r y;obtain ⟨hsl1,hsl2⟩:=sL_len r y
            have hki : i≤20:=hk20
            have ok1:=sX_ok r hki (show y≤20 by omega) (.inl (rfl : sS r i y = _))
            have ok2:=sX_ok r hki (show y≤20 by omega) (.inr (.inl (rfl : sU r i y = _)))
            have ok3:=sX_ok r hki (show y≤20 by omega) (.inr (.inr (rfl : sT r i y = _)))
            obtain ⟨ho1,ho2⟩:=sS_out r hik (.inl (rfl : sS r i y = _));obtain ⟨ho3,ho4⟩:=sS_out r hik (.inr (rfl : sU r i y = _));refine wp_skip ?_;refine hK19 _ _ ?_;refine wp_seq_k fun K21 hK21=>?_;refine wp_block ?_;refine wp_seq_k fun K22 hK22=>?_;refine wp_region_lit ?_;refine pY ha (yMove rfl) fun a ha=>?_;refine pC ha (nCall Tryz.call9 rfl) rfl (COut_c (q:=sS r i y) ok1 hs pk0) ?_;rintro v w ⟨es,rfl,hs⟩ a ha;obtain ⟨B1,p1,q1,B2,p2,q2,B3,p3,q3,rfl,hs⟩:=hs.el_msg .here;rw [ho2] at hs;rw [ho1] at ha hs;simp only [sM] at ha hs;obtain ⟨hp1,_⟩:=hs.rd_shape (show Pick _ (.rd kActn (.slice B1 _ _) [actS y]) _ from .here)
            have hp1 : p1 = 1:=hp1
            subst hp1;obtain ⟨b3,off3,F1,x2,y2,rfl,hs⟩:=hs.rd_actn (show Pick _ (.rd kActn (.slice B1 1 q1) [actS y]) _ from pk0) (i:=0) (x:=actS y) rfl;have hs:=hs.drop.drop;refine pAlloc (zs:=[.int .i64 0,.int .i64 0,.int .i64 0,.int .i64 0,.int .i64 0,.slice none 0 0,.slice none 0 0,.slice none 0 0,.int .i64 0]) ha Tryz.zeroValue37 rfl hs rfl fun b13 w hs a ha=>?_;refine pStoreA ha Tryz.sizeOf37 hs rfl rfl pk0 rfl rfl rfl fun w hs=>?_;refine pZ ?_;refine hK22 _ _ ?_;refine wp_seq_k fun K23 hK23=>?_;refine wp_seq_k fun K24 hK24=>?_;refine wp_region_lit ?_;refine pY ha (yAssign rfl) fun a ha=>?_;refine pZ ?_;refine hK24 _ _ ?_;refine wp_block ?_;refine loopI (ι:=Nat) (fun j a w=>(j : Int)≤ag∧Has a 233 [(0,.int .i64 i),(1,.slice A1 zs.length c1),(2,.int .i64 ag),(7,.pointer (some ⟨bc,0,none⟩)),(10,.int .i64 (sV r y)),(11,.int .i64 (sL r y)),(12,.int .i64 y),(13,.pointer (some ⟨b13,0,none⟩)),(14,.int .i64 j)]∧Sep W w (.cli false bc (sU r i y)::.blk b13 37 [.int .i64 2,.int .i64 4,.int .i64 (6 + (y : Int) + 1),.int .i64 (sV r y),.int .i64 0,.slice (some ⟨b3,off3,none⟩) 1 q1,.slice B2 p2 q2,.slice B3 p3 q3,.int .i64 0]::.rd kActn (.slice (some ⟨b3,off3,none⟩) 1 q1) [actS y]::.rd kCmt (.slice B2 p2 q2) []::.rd kNod (.slice B3 p3 q3) []::.rd kInt (.slice A1 zs.length c1) zs::r2)) (fun j=>10 - j) (0) ?_ ?_
            · exact ⟨hag0,has9 ha rfl rfl rfl rfl rfl rfl rfl rfl rfl,(by exact hs.to (by repeat first | with_reducible exact Picks.refl | (with_reducible apply Picks.cons; · with_reducible repeat first | exact .here | apply Pick.there) | with_reducible refine Picks.skip ?_))⟩
            · rintro j a w ⟨h4,ha,hs⟩;refine wp_seq_k fun K25 hK25=>?_;refine wp_seq_k fun K26 hK26=>?_;refine wp_region_lit ?_;refine pY ha (yMove rfl) fun a ha=>?_;refine pY ha (yMove rfl) fun a ha=>?_;refine pY ha (yLss rfl rfl) fun a ha=>?_;refine pZ ?_;refine hK26 _ _ ?_;refine cDec ha rfl (fun hc89=>?_) (fun hc89=>?_)
              · refine wp_skip ?_;refine hK25 _ _ ?_;refine wp_seq_k fun K27 hK27=>?_;refine wp_block ?_;refine wp_seq_k fun K28 hK28=>?_;refine dStart (fun w=>∃ rs,Sep W w (.blk b13 37 [.int .i64 2,.int .i64 4,.int .i64 (6 + (y : Int) + 1),.int .i64 (sV r y),.int .i64 0,.slice (some ⟨b3,off3,none⟩) 1 q1,.slice B2 p2 q2,.slice B3 p3 q3,.int .i64 0]::rs)) [3] 31 7 (by kernel_rfl) (by kernel_rfl) rfl (⟨_,hs.drew.pick pk1⟩) ?_
                have hs:=Sep.drew hs
                generalize World.drew _ = w at hs ⊢;refine dP 0 1 rfl ha (fun _=>yMove rfl) fun a ha=>?_;refine dT 2 5 rfl ha (fun _ ⟨rs,hs⟩=>yLoadBA Tryz.isAgg37 Tryz.sizeOf37 hs rfl pk0 rfl) (⟨_,hs.pick pk1⟩) fun a ha=>?_
                have hs:=((hs.cpR (show Pick _ (.rd kActn (.slice (some ⟨b3,off3,none⟩) 1 q1) [actS y]) _ from pk2)).cpR (show Pick _ (.rd kCmt (.slice B2 p2 q2) []) _ from pk4)).cpR (show Pick _ (.rd kNod (.slice B3 p3 q3) []) _ from pk6)
                have hs:=hs.mk_msg (x:=sM r y) (show Pick _ (.rd kActn (.slice (some ⟨b3,off3,none⟩) 1 q1) [actS y]) _ from pk2) (show Pick _ (.rd kCmt (.slice B2 p2 q2) []) _ from pk1) (show Pick _ (.rd kNod (.slice B3 p3 q3) []) _ from pk0);refine dC 1 7 rfl (by kernel_rfl) rfl ha won0 (nCall Tryz.call9 rfl) rfl (COut_c (q:=sU r i y) ok2 hs pk1) ?_;rintro v w ⟨es,rfl,hs⟩;refine ⟨⟨_,hs.pick pk3⟩,fun a ha=>?_⟩;rw [ho4,ho3] at hs;refine dCl 3 15 rfl (by kernel_rfl) rfl ha won0 (nCall Tryz.call11 rfl) rfl (SameM_c (x:=sM r y) (y:=sM r y) hs pk0 pk2) ?_;rintro v w ⟨rfl,hs⟩ a ha;rw [show decide (sM r y = sM r y) = true from decide_eq_true rfl] at ha;refine dP 4 31 rfl ha (fun _=>yNot rfl) fun a ha=>?_;refine dZ (by kernel_rfl) ?_;refine hK28 _ _ ?_;refine cFalse ha rfl ?_;refine wp_skip ?_;refine hK27 _ _ ?_;refine wp_region_lit ?_;refine pY ha (yMove rfl) fun a ha=>?_;refine pY ha (yAddN rfl rfl ⟨by omega,by omega⟩) fun a ha=>?_;refine pY ha (yAssign rfl) fun a ha=>?_;refine pZ ?_;exact ⟨j + 1,⟨by omega,has9 ha rfl rfl rfl rfl rfl rfl rfl rfl rfl,(by exact hs.to (by repeat first | with_reducible exact Picks.refl | (with_reducible apply Picks.cons; · with_reducible repeat first | exact .here | apply Pick.there) | with_reducible refine Picks.skip ?_))⟩,by omega⟩
              · refine wp_exit ?_;refine hK23 _ _ ?_;refine wp_seq_k fun K29 hK29=>?_;refine wp_seq_k fun K30 hK30=>?_;obtain ⟨b4,off4,F2,x3,y3,he4,hs⟩:=hs.rd_actn (show Pick _ (.rd kActn (.slice (some ⟨b3,off3,none⟩) 1 q1) [actS y]) _ from pk2) (i:=0) (x:=actS y) rfl;simp only [Option.some.injEq,Addr.mk.injEq,and_true] at he4;obtain ⟨rfl,rfl⟩:=he4;refine wp_region_lit ?_;refine pY ha (yFieldA Tryz.runUnderlying37 rfl Tryz.sizeOf3 rfl rfl) fun a ha=>?_;refine pY ha (yLoadB Tryz.isAgg3 hs rfl pk3 rfl) fun a ha=>?_;refine pY ha (yNeq rfl rfl) fun a ha=>?_;refine pY ha (yMove rfl) fun a ha=>?_;refine gOn ha ?_;refine pY ha (yFieldA Tryz.runUnderlying37 rfl Tryz.sizeOf3 rfl rfl) fun a ha=>?_;refine gOn ha ?_;refine pY ha (yLoadB Tryz.isAgg3 hs rfl pk3 rfl) fun a ha=>?_;refine gOn ha ?_;refine pY ha (yNeq rfl rfl) fun a ha=>?_;refine pY ha (yPickF rfl rfl) fun a ha=>?_;refine pY ha (yMove rfl) fun a ha=>?_;refine gOn ha ?_;refine pY ha (yFieldA Tryz.runUnderlying37 rfl Tryz.sizeOf3 rfl rfl) fun a ha=>?_;refine gOn ha ?_;refine pY ha (yLoadB Tryz.isAgg3 hs rfl pk3 rfl) fun a ha=>?_;refine gOn ha ?_;refine pY ha (yMove rfl) fun a ha=>?_;refine gOn ha ?_;refine pY ha (yAddN rfl rfl ⟨by omega,by omega⟩) fun a ha=>?_;refine gOn ha ?_;refine pY ha (yNeq rfl rfl) fun a ha=>?_;refine pY ha (yPickF rfl rfl) fun a ha=>?_;refine pY ha (yMove rfl) fun a ha=>?_;refine gSplit (t:=112) ha rfl (fun hg15=>?_) (fun hg15=>?_)
                · rw [hg15] at ha;refine gOn ha ?_;refine pY ha (yFieldA Tryz.runUnderlying37 rfl Tryz.sizeOf3 rfl rfl) fun a ha=>?_;refine gOn ha ?_;refine pY ha (yLoadB Tryz.isAgg3 hs rfl pk3 rfl) fun a ha=>?_;refine gOn ha ?_;refine pY ha (yMove rfl) fun a ha=>?_;refine gOn ha ?_;refine pY ha (yNeq rfl rfl) fun a ha=>?_;refine pY ha (yPickF rfl rfl) fun a ha=>?_;refine pY ha (yMove rfl) fun a ha=>?_;refine gSplit (t:=118) ha rfl (fun hg21=>?_) (fun hg21=>?_)
                  · rw [hg21] at ha;refine gOn ha ?_;refine pY ha (yFieldA Tryz.runUnderlying37 rfl Tryz.sizeOf33 rfl rfl) fun a ha=>?_;refine gOn ha ?_;refine pY ha (yLoadB Tryz.isAgg33 hs rfl pk3 rfl) fun a ha=>?_;refine gOn ha ?_;refine pY ha (yLenS Tryz.runUnderlying33 rfl) fun a ha=>?_;refine gOn ha ?_;refine pY ha (yNeq rfl rfl) fun a ha=>?_;refine pY ha (yPickF rfl rfl) fun a ha=>?_;refine pY ha (yMove rfl) fun a ha=>?_;refine gOn ha ?_;refine pY ha (yFieldA Tryz.runUnderlying37 rfl Tryz.sizeOf33 rfl rfl) fun a ha=>?_;refine gOn ha ?_;refine pY ha (yLoadB Tryz.isAgg33 hs rfl pk3 rfl) fun a ha=>?_;refine gOn ha ?_;refine pY ha (yIndexA Tryz.runUnderlying33 Tryz.sizeOf32 rfl rfl (by omega) (by omega)) fun a ha=>?_;refine gOn ha ?_;refine pY ha (yFieldA Tryz.runUnderlying32 rfl Tryz.sizeOf3 rfl rfl) fun a ha=>?_;refine gOn ha ?_;refine pY ha (yLoadR Tryz.isAgg3 hs rfl pk0 rfl) fun a ha=>?_;refine gOn ha ?_;refine pY ha (yMove rfl) fun a ha=>?_;refine gOn ha ?_;refine pY ha (yAddN rfl rfl ⟨by omega,by omega⟩) fun a ha=>?_;refine gOn ha ?_;refine pY ha (yNeq rfl rfl) fun a ha=>?_;refine pY ha (yPickF rfl rfl) fun a ha=>?_;refine pZ ?_;refine hK30 _ _ ?_;refine cNDec ha rfl (fun hc133=>?_) (fun hc133=>?_)
                    · exact absurd rfl hc133
                    · refine wp_skip ?_;refine hK29 _ _ ?_;refine wp_seq_k fun K31 hK31=>?_;refine wp_seq_k fun K32 hK32=>?_;obtain ⟨x,hx⟩ : ∃ x,zs[y]? = some x:=⟨_,List.getElem?_eq_getElem hil⟩;obtain ⟨b2,off,rfl,hxr,hs⟩:=hs.rd_int (show Pick _ (.rd kInt (.slice A1 zs.length c1) zs) _ from pk7) hx
                      have hgx : zs.getD y 0 = x:=by rw [List.getD_eq_getElem?_getD,hx]; rfl
                      have hrx : r y = decide (x % 3 ≠ 0):=by rw [hr,hgx]
                      refine wp_region_lit ?_;refine pY ha (yMove rfl) fun a ha=>?_;refine pY ha (yMove rfl) fun a ha=>?_;refine pY ha (yIndexA Tryz.runUnderlying22 Tryz.sizeOf3 rfl rfl (by omega) (by omega)) fun a ha=>?_;refine pY ha (yLoadR0 Tryz.isAgg3 hs rfl pk0 rfl) fun a ha=>?_;refine pC ha (nCall Tryz.call12 rfl) rfl (Round_c x 3 (by decide) (by decide) hxr hs) ?_;rintro v w ⟨rfl,hs⟩ a ha;refine pY ha (yEql rfl rfl) fun a ha=>?_;refine pZ ?_;refine hK32 _ _ ?_;refine cDec ha rfl (fun hc139=>?_) (fun hc139=>?_)
                      · have hri : r y = false:=by rw [hrx]; simp [hc139]
                        obtain ⟨a1,a2,a3⟩:=mSA_ok (i:=y) (by omega)
                        have hgo : (sU r i y).gone.length≤1000000:=by show (sG r y).length≤_; omega
                        have hs:=hs.msg_none 6 4 (7 + (y : Int)) 0 13 0;refine wp_seq_k fun K33 hK33=>?_;refine wp_seq_k fun K34 hK34=>?_;refine wp_region_lit ?_;refine pY ha (yMove rfl) fun a ha=>?_;refine pY ha (yMove rfl) fun a ha=>?_;refine pY ha (yAddN rfl rfl ⟨by omega,by omega⟩) fun a ha=>?_;refine pY ha (bldSndW37_0_1_2_4 rfl rfl rfl rfl) fun a ha=>?_;refine pC ha (nCall Tryz.call10 rfl) rfl (CInA_c hT (q:=sU r i y) (m:=mSA y) ok2 rfl a2 a3 a1 hgo hs pk4 pk0) ?_;rintro v w ⟨rfl,hs⟩ a ha;rw [sA_in r hik hri] at hs;refine pY ha (yNeq rfl rfl) fun a ha=>?_;refine pZ ?_;refine hK34 _ _ ?_;refine cFalse ha rfl ?_;refine wp_skip ?_;refine hK33 _ _ ?_;refine wp_seq_k fun K35 hK35=>?_;refine wp_region_lit ?_;refine pY ha (yMove rfl) fun a ha=>?_;refine pY ha (yAddN rfl rfl ⟨by omega,by omega⟩) fun a ha=>?_;refine pY ha (yAssign rfl) fun a ha=>?_;refine pZ ?_;refine hK35 _ _ ?_;refine wp_exit ?_;refine hK21 _ _ ?_;refine wp_region_lit ?_;refine pY ha (yMove rfl) fun a ha=>?_;refine pY ha (yAddN rfl rfl ⟨by omega,by omega⟩) fun a ha=>?_;refine pY ha (yAssign rfl) fun a ha=>?_;refine pZ ?_
                        (have hri0 : r y = false:=hri
                         have e1 : sV r (y + 1) = sV r y:=by simp [sV,hri]
                         have e2 : sL r (y + 1) = sL r y + 1:=by simp [sL,hri]
                         refine ⟨y + 1,⟨by omega,by omega,?_,(by exact hs.to (by repeat first | with_reducible exact Picks.refl | (with_reducible apply Picks.cons; · with_reducible repeat first | exact .here | apply Pick.there) | with_reducible refine Picks.skip ?_))⟩,by omega⟩;rw [e1,e2]
                         exact has7 ha rfl rfl rfl rfl rfl rfl rfl)
                      · have hri : r y = true:=by rw [hrx]; simp [hc139]
                        obtain ⟨d1,d2,d3⟩:=mSD_ok r (i:=y) (by omega);obtain ⟨g1,g2,g3⟩:=mSC_ok r (i:=y) (by omega);refine wp_skip ?_;refine hK31 _ _ ?_;refine wp_seq_k fun K36 hK36=>?_;refine wp_region_lit ?_;refine pY ha (yMove rfl) fun a ha=>?_;refine pY ha (yAddN rfl rfl ⟨by omega,by omega⟩) fun a ha=>?_;refine pY ha (yMove rfl) fun a ha=>?_;refine pY ha (yAddN rfl rfl ⟨by omega,by omega⟩) fun a ha=>?_;refine pY ha (bldSndW37_0_1_2_3 rfl rfl rfl rfl) fun a ha=>?_;refine pAlloc (zs:=[.int .i64 0,.int .i64 0,.int .i64 0,.int .i64 0,.int .i64 0,.slice none 0 0,.slice none 0 0,.slice none 0 0,.int .i64 0]) ha Tryz.zeroValue37 rfl hs rfl fun b15 w hs a ha=>?_;refine pStoreA ha Tryz.sizeOf37 hs rfl rfl pk0 rfl rfl rfl fun w hs=>?_;refine pZ ?_;refine hK36 _ _ ?_;refine wp_seq_k fun K37 hK37=>?_;refine wp_seq_k fun K38 hK38=>?_;refine wp_region_lit ?_;refine pY ha (yMove rfl) fun a ha=>?_;refine pY ha (yMove rfl) fun a ha=>?_;refine pY ha (yIndexA Tryz.runUnderlying22 Tryz.sizeOf3 rfl rfl (by omega) (by omega)) fun a ha=>?_;refine pY ha (yLoadR0 Tryz.isAgg3 hs rfl pk1 rfl) fun a ha=>?_;refine pC ha (nCall Tryz.call12 rfl) rfl (Round_c x 3 (by decide) (by decide) hxr hs) ?_;rintro v w ⟨rfl,hs⟩ a ha;refine pY ha (yEql rfl rfl) fun a ha=>?_;refine pZ ?_;refine hK38 _ _ ?_;refine cDec ha rfl (fun hc158=>?_) (fun hc158=>?_)
                        · refine wp_seq_k fun K39 hK39=>?_;refine wp_seq_k fun K40 hK40=>?_;have hs:=hs.msg_none 5 4 (7 + (y : Int)) (sV r y + 1) 0 0;refine wp_region_lit ?_;refine pY ha (yMove rfl) fun a ha=>?_;refine pY ha (yLoadBA Tryz.isAgg37 Tryz.sizeOf37 hs rfl pk1 rfl) fun a ha=>?_;refine pC ha (nCall Tryz.call10 rfl) rfl (CInD_c hT (q:=sU r i y) (m:=mSD r y) ok2 rfl d2 d3 d1 hs pk5 pk0) ?_;rintro v w ⟨rfl,hs⟩ a ha;rw [sD_in r hik] at hs;refine pY ha (yNeq rfl rfl) fun a ha=>?_;refine pZ ?_;refine hK40 _ _ ?_;refine cFalse ha rfl ?_;refine wp_skip ?_;refine hK39 _ _ ?_;refine wp_seq_k fun K41 hK41=>?_;refine wp_region_lit ?_;refine pY ha (yMove rfl) fun a ha=>?_;refine pC ha (nCall Tryz.call9 rfl) rfl (COut_c (q:=sT r i y) ok3 hs pk0) ?_;rintro v w ⟨es,rfl,hs⟩ a ha;obtain ⟨D1,s1,t1,D2,s2,t2,D3,s3,t3,rfl,hs⟩:=hs.el_msg .here;rw [(sT_out r i y).2] at hs;rw [(sT_out r i y).1] at ha hs;refine pAlloc (zs:=[.int .i64 0,.int .i64 0,.int .i64 0,.int .i64 0,.int .i64 0,.slice none 0 0,.slice none 0 0,.slice none 0 0,.int .i64 0]) ha Tryz.zeroValue37 rfl hs rfl fun b16 w hs a ha=>?_;refine pStoreA ha Tryz.sizeOf37 hs rfl rfl pk0 rfl rfl rfl fun w hs=>?_;refine pZ ?_;refine hK41 _ _ ?_;refine wp_seq_k fun K42 hK42=>?_;refine wp_region_lit ?_;refine pY ha (yFieldA Tryz.runUnderlying37 rfl Tryz.sizeOf3 rfl rfl) fun a ha=>?_;refine pY ha (yLoadB Tryz.isAgg3 hs rfl pk0 rfl) fun a ha=>?_;refine pY ha (yNeq rfl rfl) fun a ha=>?_;refine pY ha (yMove rfl) fun a ha=>?_;refine gOn ha ?_;refine pY ha (yFieldA Tryz.runUnderlying37 rfl Tryz.sizeOf3 rfl rfl) fun a ha=>?_;refine gOn ha ?_;refine pY ha (yLoadB Tryz.isAgg3 hs rfl pk0 rfl) fun a ha=>?_;refine gOn ha ?_;refine pY ha (yMove rfl) fun a ha=>?_;refine gOn ha ?_;refine pY ha (yNeq rfl rfl) fun a ha=>?_;refine pY ha (yPickF rfl rfl) fun a ha=>?_;refine pZ ?_;refine hK42 _ _ ?_;refine cNDec ha rfl (fun hc173=>?_) (fun hc173=>?_)
                          · simp at hc173
                          · obtain ⟨X,hX,hs⟩ : ∃ X,(X = sU r i y∨X = sT r i y)∧Sep W w (.cli false bc X::.blk b13 37 [.int .i64 2,.int .i64 4,.int .i64 (6 + (y : Int) + 1),.int .i64 (sV r y),.int .i64 0,.slice (some ⟨b3,off3,none⟩) 1 q1,.slice B2 p2 q2,.slice B3 p3 q3,.int .i64 0]::.blk b15 37 [.int .i64 5,.int .i64 4,.int .i64 (7 + (y : Int)),.int .i64 (sV r y + 1),.int .i64 0,.slice none 0 0,.slice none 0 0,.slice none 0 0,.int .i64 0]::.rd kActn (.slice (some ⟨b3,off3,none⟩) 1 q1) [actS y]::.rd kInt (.slice (some ⟨b2,off,none⟩) zs.length c1) zs::r2):=by
                              exact ⟨_,.inr rfl,(by exact hs.to (by repeat first | with_reducible exact Picks.refl | (with_reducible apply Picks.cons; · with_reducible repeat first | exact .here | apply Pick.there) | with_reducible refine Picks.skip ?_))⟩
                            refine wp_skip ?_;refine hK37 _ _ ?_;refine wp_seq_k fun K43 hK43=>?_
                            have hXr : X.rev = sV r y:=by rcases hX with rfl | rfl <;> rfl
                            have hXb : X.base = sB r y:=by rcases hX with rfl | rfl <;> rfl
                            have okX : okC X:=sX_ok r hki (show y≤20 by omega) (.inr hX)
                            have hdX : doE X.base (xS r y).acts = 0:=by rw [hXb]; exact sB_do r (by omega)
                            have hmX : mineB X (xS r y).client (xS r y).seq = true:=sU_mine r hik hX
                            have ok4 : okC (sS r i (y + 1)):=sX_ok r hki (show y + 1≤20 by omega) (.inl rfl)
                            refine wp_region_lit ?_;refine pY ha (yMove rfl) fun a ha=>?_;refine pY ha (yAddN rfl rfl ⟨by omega,by omega⟩) fun a ha=>?_;refine pY ha (yAssign rfl) fun a ha=>?_;refine pZ ?_;refine hK43 _ _ ?_;refine wp_seq_k fun K44 hK44=>?_;refine wp_region_lit ?_;refine pY ha (yMove rfl) fun a ha=>?_;refine pY ha (yMove rfl) fun a ha=>?_;refine pY ha (yMove rfl) fun a ha=>?_;refine pY ha (yMove rfl) fun a ha=>?_;refine pY ha (yAddN rfl rfl ⟨by omega,by omega⟩) fun a ha=>?_;refine pY ha (yFieldA Tryz.runUnderlying37 rfl Tryz.sizeOf33 rfl rfl) fun a ha=>?_;refine pY ha (yLoadB Tryz.isAgg33 hs rfl pk1 rfl) fun a ha=>?_;refine pY ha (bldSndW43_0_1_2_3 rfl rfl rfl rfl) fun a ha=>?_;refine pMake ha (bslSndW34_1_0 rfl) hs rfl fun b37 w hs a ha=>?_;have hs:=hs.with_ro (p:=fun Z=>kActn.sl Z (.slice (some ⟨b3,off3,none⟩) 1 q1) [actS y]) (show Pick _ (.rd kActn (.slice (some ⟨b3,off3,none⟩) 1 q1) [actS y]) _ from pk4) (q:=fun Z=>kCmt.R Z (xS r y) [.int .i64 (sV r y + 1),.int .i64 4,.int .i64 (7 + (y : Int)),.slice (some ⟨b3,off3,none⟩) 1 q1]) (m':=fun _ _ h=>kCmt.mono h) (fun Z hp=>⟨_,_,_,rfl,hp⟩);have hs:=hs.one_rd (d:=kCmt) (e:=xS r y) (es:=[.int .i64 (sV r y + 1),.int .i64 4,.int .i64 (7 + (y : Int)),.slice (some ⟨b3,off3,none⟩) 1 q1]) (.there .here) .here
                            have hs:=((hs.rd_nil (d:=kNod)).rd_nil (d:=kActn)).mk_msg (x:=mSC r y) .here (show Pick _ (.rd kCmt (.slice (some ⟨b37,0,none⟩) 1 1) [xS r y]) _ from pk1) .here
                            have hs:=hs.msg_none 5 4 (7 + (y : Int)) (sV r y + 1) 0 0;refine pY ha (bldSndW37_0_3_6 rfl rfl rfl) fun a ha=>?_;refine pC ha (nCall Tryz.call10 rfl) rfl (CInC_c hT (q:=X) (m:=mSC r y) (x:=xS r y) okX rfl g2 g3 g1 rfl (by rw [hXr]; rfl) (by rw [hXr]; omega) (by intro a ha; rw [show (xS r y).acts = [actS y] from rfl,List.mem_singleton] at ha; rw [ha]; rfl) (by intro a ha; rw [show (xS r y).acts = [actS y] from rfl,List.mem_singleton] at ha; rw [ha]; exact (mA_S y).2) hdX hmX hs pk2 pk1) ?_;rintro v w ⟨rfl,hs⟩ a ha;rw [sC_in r (by omega) hri hX] at hs;refine pY ha (yNeq rfl rfl) fun a ha=>?_;refine pY ha (yMove rfl) fun a ha=>?_;refine gOn ha ?_;refine pY ha (yMove rfl) fun a ha=>?_;refine gOn ha ?_;refine pY ha (yLoadBA Tryz.isAgg37 Tryz.sizeOf37 hs rfl pk4 rfl) fun a ha=>?_;refine gOn ha ?_;refine pC ha (nCall Tryz.call10 rfl) rfl (CInD_c hT (q:=sS r i (y + 1)) (m:=mSD r y) ok4 rfl d2 d3 d1 hs pk0 pk0) ?_;rintro v w ⟨rfl,hs⟩ a ha;rw [sD_again] at hs;refine gOn ha ?_;refine pY ha (yNeq rfl rfl) fun a ha=>?_;refine pY ha (yPickF rfl rfl) fun a ha=>?_;refine pZ ?_;refine hK44 _ _ ?_;refine cFalse ha rfl ?_;refine wp_skip ?_;refine hK21 _ _ ?_;refine wp_region_lit ?_;refine pY ha (yMove rfl) fun a ha=>?_;refine pY ha (yAddN rfl rfl ⟨by omega,by omega⟩) fun a ha=>?_;refine pY ha (yAssign rfl) fun a ha=>?_;refine pZ ?_
                            (have e1 : sV r (y + 1) = sV r y + 1:=by simp [sV,hri]
                             have e2 : sL r (y + 1) = sL r y:=by simp [sL,hri]
                             refine ⟨y + 1,⟨by omega,by omega,?_,(by exact hs.to (by repeat first | with_reducible exact Picks.refl | (with_reducible apply Picks.cons; · with_reducible repeat first | exact .here | apply Pick.there) | with_reducible refine Picks.skip ?_))⟩,by omega⟩;rw [e1,e2]
                             exact has7 ha rfl rfl rfl rfl rfl rfl rfl)
                        · obtain ⟨X,hX,hs⟩ : ∃ X,(X = sU r i y∨X = sT r i y)∧Sep W w (.cli false bc X::.blk b13 37 [.int .i64 2,.int .i64 4,.int .i64 (6 + (y : Int) + 1),.int .i64 (sV r y),.int .i64 0,.slice (some ⟨b3,off3,none⟩) 1 q1,.slice B2 p2 q2,.slice B3 p3 q3,.int .i64 0]::.blk b15 37 [.int .i64 5,.int .i64 4,.int .i64 (7 + (y : Int)),.int .i64 (sV r y + 1),.int .i64 0,.slice none 0 0,.slice none 0 0,.slice none 0 0,.int .i64 0]::.rd kActn (.slice (some ⟨b3,off3,none⟩) 1 q1) [actS y]::.rd kInt (.slice (some ⟨b2,off,none⟩) zs.length c1) zs::r2):=by
                            exact ⟨_,.inl rfl,(by exact hs.to (by repeat first | with_reducible exact Picks.refl | (with_reducible apply Picks.cons; · with_reducible repeat first | exact .here | apply Pick.there) | with_reducible refine Picks.skip ?_))⟩
                          refine wp_skip ?_;refine hK37 _ _ ?_;refine wp_seq_k fun K45 hK45=>?_
                          have hXr : X.rev = sV r y:=by rcases hX with rfl | rfl <;> rfl
                          have hXb : X.base = sB r y:=by rcases hX with rfl | rfl <;> rfl
                          have okX : okC X:=sX_ok r hki (show y≤20 by omega) (.inr hX)
                          have hdX : doE X.base (xS r y).acts = 0:=by rw [hXb]; exact sB_do r (by omega)
                          have hmX : mineB X (xS r y).client (xS r y).seq = true:=sU_mine r hik hX
                          have ok4 : okC (sS r i (y + 1)):=sX_ok r hki (show y + 1≤20 by omega) (.inl rfl)
                          refine wp_region_lit ?_;refine pY ha (yMove rfl) fun a ha=>?_;refine pY ha (yAddN rfl rfl ⟨by omega,by omega⟩) fun a ha=>?_;refine pY ha (yAssign rfl) fun a ha=>?_;refine pZ ?_;refine hK45 _ _ ?_;refine wp_seq_k fun K46 hK46=>?_;refine wp_region_lit ?_;refine pY ha (yMove rfl) fun a ha=>?_;refine pY ha (yMove rfl) fun a ha=>?_;refine pY ha (yMove rfl) fun a ha=>?_;refine pY ha (yMove rfl) fun a ha=>?_;refine pY ha (yAddN rfl rfl ⟨by omega,by omega⟩) fun a ha=>?_;refine pY ha (yFieldA Tryz.runUnderlying37 rfl Tryz.sizeOf33 rfl rfl) fun a ha=>?_;refine pY ha (yLoadB Tryz.isAgg33 hs rfl pk1 rfl) fun a ha=>?_;refine pY ha (bldSndW43_0_1_2_3 rfl rfl rfl rfl) fun a ha=>?_;refine pMake ha (bslSndW34_1_0 rfl) hs rfl fun b37 w hs a ha=>?_;have hs:=hs.with_ro (p:=fun Z=>kActn.sl Z (.slice (some ⟨b3,off3,none⟩) 1 q1) [actS y]) (show Pick _ (.rd kActn (.slice (some ⟨b3,off3,none⟩) 1 q1) [actS y]) _ from pk4) (q:=fun Z=>kCmt.R Z (xS r y) [.int .i64 (sV r y + 1),.int .i64 4,.int .i64 (7 + (y : Int)),.slice (some ⟨b3,off3,none⟩) 1 q1]) (m':=fun _ _ h=>kCmt.mono h) (fun Z hp=>⟨_,_,_,rfl,hp⟩);have hs:=hs.one_rd (d:=kCmt) (e:=xS r y) (es:=[.int .i64 (sV r y + 1),.int .i64 4,.int .i64 (7 + (y : Int)),.slice (some ⟨b3,off3,none⟩) 1 q1]) (.there .here) .here
                          have hs:=((hs.rd_nil (d:=kNod)).rd_nil (d:=kActn)).mk_msg (x:=mSC r y) .here (show Pick _ (.rd kCmt (.slice (some ⟨b37,0,none⟩) 1 1) [xS r y]) _ from pk1) .here
                          have hs:=hs.msg_none 5 4 (7 + (y : Int)) (sV r y + 1) 0 0;refine pY ha (bldSndW37_0_3_6 rfl rfl rfl) fun a ha=>?_;refine pC ha (nCall Tryz.call10 rfl) rfl (CInC_c hT (q:=X) (m:=mSC r y) (x:=xS r y) okX rfl g2 g3 g1 rfl (by rw [hXr]; rfl) (by rw [hXr]; omega) (by intro a ha; rw [show (xS r y).acts = [actS y] from rfl,List.mem_singleton] at ha; rw [ha]; rfl) (by intro a ha; rw [show (xS r y).acts = [actS y] from rfl,List.mem_singleton] at ha; rw [ha]; exact (mA_S y).2) hdX hmX hs pk2 pk1) ?_;rintro v w ⟨rfl,hs⟩ a ha;rw [sC_in r (by omega) hri hX] at hs;refine pY ha (yNeq rfl rfl) fun a ha=>?_;refine pY ha (yMove rfl) fun a ha=>?_;refine gOn ha ?_;refine pY ha (yMove rfl) fun a ha=>?_;refine gOn ha ?_;refine pY ha (yLoadBA Tryz.isAgg37 Tryz.sizeOf37 hs rfl pk4 rfl) fun a ha=>?_;refine gOn ha ?_;refine pC ha (nCall Tryz.call10 rfl) rfl (CInD_c hT (q:=sS r i (y + 1)) (m:=mSD r y) ok4 rfl d2 d3 d1 hs pk0 pk0) ?_;rintro v w ⟨rfl,hs⟩ a ha;rw [sD_again] at hs;refine gOn ha ?_;refine pY ha (yNeq rfl rfl) fun a ha=>?_;refine pY ha (yPickF rfl rfl) fun a ha=>?_;refine pZ ?_;refine hK46 _ _ ?_;refine cFalse ha rfl ?_;refine wp_skip ?_;refine hK21 _ _ ?_;refine wp_region_lit ?_;refine pY ha (yMove rfl) fun a ha=>?_;refine pY ha (yAddN rfl rfl ⟨by omega,by omega⟩) fun a ha=>?_;refine pY ha (yAssign rfl) fun a ha=>?_;refine pZ ?_
                          (have e1 : sV r (y + 1) = sV r y + 1:=by simp [sV,hri]
                           have e2 : sL r (y + 1) = sL r y:=by simp [sL,hri]
                           refine ⟨y + 1,⟨by omega,by omega,?_,(by exact hs.to (by repeat first | with_reducible exact Picks.refl | (with_reducible apply Picks.cons; · with_reducible repeat first | exact .here | apply Pick.there) | with_reducible refine Picks.skip ?_))⟩,by omega⟩;rw [e1,e2]
                           exact has7 ha rfl rfl rfl rfl rfl rfl rfl)
                  · simp at hg21
                · (simp at hg15; omega)
          · refine wp_exit ?_;refine hK17 _ _ ?_;refine wp_seq_k fun K47 hK47=>?_
            have him : y = min i zs.length:=by split at hc82 <;> omega
            obtain ⟨hsl1,hsl2⟩:=sL_len r y
            have hga:=sG_all r y (by omega)
            have ok5:=sX_ok r hk20 (show y≤20 by omega) (.inl (rfl : sS r i y = _))
            refine wp_region_lit ?_;refine pY ha (yMove rfl) fun a ha=>?_
            refine pC ha (nCall Tryz.call13 rfl) rfl (CLost_c (q:=sS r i y) (show (4 : Int) ≠ 0 by decide) (fun p hp=>by
              obtain ⟨j,_,rfl⟩:=hga p hp
              exact ⟨by simp,fun x hx=>by simp at hx; subst hx; exact (mA_S j).2.2.1⟩) (by show (sG r y).length≤_; omega) hs pk0) ?_
            rintro v w ⟨B5,d5,rfl,hs⟩ a ha;rw [show (sS r i y).gone = sG r y from rfl] at ha hs;refine pY ha (yAssign rfl) fun a ha=>?_;refine pZ ?_;refine hK47 _ _ ?_;refine wp_seq_k fun K48 hK48=>?_;refine wp_seq_k fun K49 hK49=>?_;refine wp_region_lit ?_;refine pY ha (yAssign rfl) fun a ha=>?_;refine pZ ?_;refine hK49 _ _ ?_;refine wp_block ?_;refine loopI (ι:=Nat) (fun z a w=>z≤(sG r y).length∧Has a 233 [(0,.int .i64 i),(1,.slice A1 zs.length c1),(7,.pointer (some ⟨bc,0,none⟩)),(10,.int .i64 (sV r y)),(11,.int .i64 (sL r y)),(17,.slice B5 (sG r y).length d5),(18,.int .i64 z)]∧Sep W w (.rd kPnd (.slice B5 (sG r y).length d5) (sG r y)::.cli false bc (sS r i y)::r2)) (fun z=>(sG r y).length - z) (0) ?_ ?_
            · exact ⟨Nat.zero_le _,has7 ha rfl rfl rfl rfl rfl rfl rfl,(by exact hs.to (by repeat first | with_reducible exact Picks.refl | (with_reducible apply Picks.cons; · with_reducible repeat first | exact .here | apply Pick.there) | with_reducible refine Picks.skip ?_))⟩
            · rintro z a w ⟨h5,ha,hs⟩;refine wp_seq_k fun K50 hK50=>?_;refine wp_seq_k fun K51 hK51=>?_;refine wp_region_lit ?_;refine pY ha (yMove rfl) fun a ha=>?_;refine pY ha (yMove rfl) fun a ha=>?_;refine pY ha (yLenS Tryz.runUnderlying44 rfl) fun a ha=>?_;refine pY ha (yLss rfl rfl) fun a ha=>?_;refine pZ ?_;refine hK51 _ _ ?_;refine cDec ha rfl (fun hc199=>?_) (fun hc199=>?_)
              · obtain ⟨x,hx⟩ : ∃ x,(sG r y)[z]? = some x:=⟨_,List.getElem?_eq_getElem (by omega)⟩;obtain ⟨jj,_,hxe⟩:=hga x (List.mem_of_getElem? hx);obtain ⟨b0,off,A5,n5,c5,rfl,hs⟩:=hs.rd_pnd .here hx;subst hxe;refine wp_skip ?_;refine hK50 _ _ ?_;refine wp_seq_k fun K52 hK52=>?_;refine wp_block ?_;refine wp_seq_k fun K53 hK53=>?_;refine wp_region_lit ?_;refine pY ha (yMove rfl) fun a ha=>?_;refine pY ha (yMove rfl) fun a ha=>?_;refine pY ha (yIndexA Tryz.runUnderlying44 Tryz.sizeOf47 rfl rfl (by omega) (by omega)) fun a ha=>?_;refine pY ha (yFieldA Tryz.runUnderlying47 rfl Tryz.sizeOf3 rfl rfl) fun a ha=>?_;refine pY ha (yLoadR Tryz.isAgg3 hs rfl pk0 rfl) fun a ha=>?_;refine pY ha (yNeq rfl rfl) fun a ha=>?_;refine pZ ?_;refine hK53 _ _ ?_;refine cNDec ha rfl (fun hc207=>?_) (fun hc207=>?_)
                · exact absurd rfl hc207
                · refine wp_skip ?_;refine hK52 _ _ ?_;refine wp_region_lit ?_;refine pY ha (yMove rfl) fun a ha=>?_;refine pY ha (yAddN rfl rfl ⟨by omega,by omega⟩) fun a ha=>?_;refine pY ha (yAssign rfl) fun a ha=>?_;refine pZ ?_;exact ⟨z + 1,⟨by omega,has7 ha rfl rfl rfl rfl rfl rfl rfl,(by exact hs.to (by repeat first | with_reducible exact Picks.refl | (with_reducible apply Picks.cons; · with_reducible repeat first | exact .here | apply Pick.there) | with_reducible refine Picks.skip ?_))⟩,by omega⟩
              · refine wp_exit ?_;refine hK48 _ _ ?_;refine wp_seq_k fun K54 hK54=>?_
                have hpl : (sS r i y).l.length = i - y:=dropG_len i y
                refine wp_region_lit ?_;refine pY ha (yMove rfl) fun a ha=>?_;refine pC ha (nCall Tryz.call14 rfl) rfl (CRev_c (c:=sS r i y) (show (4 : Int) ≠ 0 by decide) hs pk1) ?_;rintro v w ⟨rfl,hs⟩ a ha;refine pY ha (yMove rfl) fun a ha=>?_;refine pY ha (yEql rfl rfl) fun a ha=>?_;refine pY ha (yMove rfl) fun a ha=>?_;refine gDec (t:=212) ha rfl (fun hg4 hp4=>?_) (fun hg4 hp4=>?_)
                · (have:=of_decide_eq_false hg4; exact absurd rfl this)
                · rw [hg4] at ha;refine gOn ha ?_;refine pY ha (yMove rfl) fun a ha=>?_;refine gOn ha ?_;refine pY ha (yLenS Tryz.runUnderlying44 rfl) fun a ha=>?_;refine gOn ha ?_;refine pY ha (yMove rfl) fun a ha=>?_;refine gOn ha ?_;refine pY ha (yEql rfl rfl) fun a ha=>?_;refine pY ha (yPickT rfl rfl) fun a ha=>?_;refine pY ha (yMove rfl) fun a ha=>?_;refine gSplit (t:=218) ha rfl (fun hg10=>?_) (fun hg10=>?_)
                  · (have:=of_decide_eq_false hg10; omega)
                  · rw [hg10] at ha;refine gOn ha ?_;refine pY ha (yMove rfl) fun a ha=>?_;refine gOn ha ?_;refine pC ha (nCall Tryz.call15 rfl) rfl (CPend_c (q:=sS r i y) ok5 (by omega) hs pk0) ?_;rintro v w ⟨B6,d6,rfl,hs⟩ a ha;rw [hpl] at ha hs;refine gOn ha ?_;refine pY ha (yLenS Tryz.runUnderlying49 rfl) fun a ha=>?_;refine gOn ha ?_;refine pY ha (yMove rfl) fun a ha=>?_;refine gOn ha ?_;refine pY ha (yMove rfl) fun a ha=>?_;refine gOn ha ?_;refine pY ha (yMove rfl) fun a ha=>?_;refine gOn ha ?_;refine pY ha (yLenS Tryz.runUnderlying22 rfl) fun a ha=>?_;refine gOn ha ?_;refine pY ha (yMin2 rfl rfl) fun a ha=>?_;refine gOn ha ?_;refine pY ha (ySubN rfl rfl ⟨by omega,by omega⟩) fun a ha=>?_;refine gOn ha ?_;refine pY ha (yEql rfl rfl) fun a ha=>?_;refine pY ha (yPickT rfl rfl) fun a ha=>?_;refine pY ha (yMove rfl) fun a ha=>?_;refine gSplit (t:=230) ha rfl (fun hg22=>?_) (fun hg22=>?_)
                    · (have:=of_decide_eq_false hg22; split at this <;> omega)
                    · rw [hg22] at ha;refine gOn ha ?_;refine pC ha (nCall Tryz.call5 rfl) rfl (awake23_c hT hs) ?_;rintro v w ⟨rfl,hs⟩ a ha;refine pY ha (yPickT rfl rfl) fun a ha=>?_;refine pY ha (yAssign rfl) fun a ha=>?_;refine pZ ?_;refine hK54 _ _ ?_;refine wp_ret ?_;show bodyPost Tryz.prog Tryz.f3 _ .ret _ _;refine ret1 rfl ha rfl ?_;exact ⟨rfl,_,hs⟩
end
end Go.Proofs.YtkbbnpjbjakpcaaGreatDoor

