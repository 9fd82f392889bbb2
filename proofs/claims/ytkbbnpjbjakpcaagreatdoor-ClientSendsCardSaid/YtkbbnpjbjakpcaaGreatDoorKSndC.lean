/- A part of the proof of ClientSends (part 3 of 4): the words and the walks. -/
import Derived.Test.YtkbbnpjbjakpcaaGreatDoorKSndB
set_option linter.unusedVariables false
set_option linter.unusedSimpArgs false
namespace Go.Proofs.YtkbbnpjbjakpcaaGreatDoor
open Go.RowKit Go.Lib
theorem bslChk22_3_0_1_2 {w : World} {l : List (Nat × Value)} {T : TypeId} {x0 x1 x2 : Operand} {v0 : Value} (h0 : ev l x0 = some v0) {v1 : Value} (h1 : ev l x1 = some v1) {v2 : Value} (h2 : ev l x2 = some v2) (o0 : v0.cells = #[v0]:=by rfl) (o1 : v1.cells = #[v1]:=by rfl) (o2 : v2.cells = #[v2]:=by rfl) : Mk Tryz.prog w l (.buildSlice 22 3 #[(0,x0),(1,x1),(2,x2)]) T 3 3 [v0,v1,v2]:=fun ρ o h ho _=>by
  have hm:=mkvs (P:=Tryz.prog) [v0,v1,v2] w Tryz.runUnderlying22 Tryz.sizeOf3 Tryz.zeroValue3 (by intro v hv; simp at hv; rcases hv with rfl | rfl | rfl <;> assumption) (by simp) (by simp)
  unfold execOp; rw [ho];simp only [h _ _ h0,h _ _ h1,h _ _ h2,List.map_toArray,List.map_cons,List.map_nil];simp only [List.length_cons,List.length_nil,prt] at hm
  simp at hm
  simp [hm]
theorem txn_err {l : List Actn} {i : Nat} (hn : l.length≤20) (h0 : fe (actE l) i = 0) (hi : i < l.length) (h : actE l i ≠ 0) : txnE l = actE l i:=by
  unfold txnE
  have:=fe_at h0 h hi
  rw [if_neg (by omega),this,if_pos h]
theorem txn_end {l : List Actn} (hn : l.length≤20) (h0 : fe (actE l) l.length = 0) : txnE l = if putsA l > 2000 then 3 else 0:=by
  unfold txnE;rw [if_neg (by omega),h0]; simp
theorem actE_at {l : List Actn} {i : Nat} {x : Actn} (hx : l[i]? = some x) : actE l i = if oneE x ≠ 0 then oneE x else if x.kind = 4∧twinA (l.take i) x = true then 1 else 0:=by
  unfold actE;rw [List.getD_eq_getElem?_getD,hx]; rfl
theorem one_sound {a : Actn} (h : oneE a = 0) : a.ops.length≤100∧∀ c ∈ a.ops,sndC c = true:=by
  obtain ⟨hb,ho⟩:=one_ok h
  by_cases k4 : a.kind = 4
  · exact op_ok (ho k4)
  · unfold badA at hb;simp only [not_or] at hb
    have b3 : a = plainA a:=Classical.not_not.1 hb.2.2.1
    have : a.ops = []:=by
      rw [b3]; unfold plainA
      repeat' split
      all_goals rfl
    rw [this];exact ⟨by simp,fun c hc=>by cases hc⟩
theorem fit_of {a : Actn} (hm : mA a) (h : oneE a = 0) : fitA a:=by
  obtain ⟨h1,h2⟩:=one_sound h;refine ⟨h1,fun c hc=>⟨(hm.2.2 c hc).2,fun hk=>?_⟩⟩
  rcases snd_ok (h2 c hc) with ⟨_,e⟩ | ⟨e,_⟩
  · exact e
  · exact absurd hk e
theorem fe_one {l : List Actn} (h0 : fe (actE l) l.length = 0) : ∀ a ∈ l,oneE a = 0:=fun a ha=>by
  obtain ⟨i,hi,rfl⟩:=List.mem_iff_getElem.1 ha
  have:=fe_zero h0 i hi
  rw [actE_at (List.getElem?_eq_getElem hi)] at this
  split at this
  · rename_i h4; exact absurd this h4
  · rename_i h4; simpa using h4
section
variable {W w : World} {cs r r2 : List Ch}
theorem TxnCheck_c (hT : Tabs W) {A : Option Addr} {n c : Nat} {xs : List Actn} (hm : ∀ x ∈ xs,mA x) (hs : Sep W w cs) (hk : Pick cs (.rd kActn (.slice A n c) xs) r) :
    Calls P 37 #[.slice A n c] w (Rt fun v w'=>v = .int .i64 (txnE xs)∧Sep W w' cs):=by
  obtain ⟨rfl,hl⟩:=hs.rd_shape hk;unfold maxLen at hl;have hs:=hs.cpR hk;refine enter Tryz.func37 Tryz.ntmps37 rfl rfl fun a (ha : Has a 34 [(0,_)])=>?_;refine wp_seq_k fun K1 hK1=>?_;refine wp_region_lit ?_;refine pY ha (yAssign rfl) fun a ha=>?_;refine pZ ?_;refine hK1 _ _ ?_;refine scopeF 1 99999 ?_;refine wp_seq_k fun K2 hK2=>?_;refine wp_seq_k fun K3 hK3=>?_;refine wp_region_lit ?_;refine pY ha (yMove rfl) fun a ha=>?_;refine pY ha (yLenS Tryz.runUnderlying33 rfl) fun a ha=>?_;refine pY ha (yGtr rfl rfl) fun a ha=>?_;refine pZ ?_;refine hK3 _ _ ?_;refine cDec ha rfl (fun hc7=>?_) (fun hc7=>?_)
  · refine wp_seq_k fun K4 hK4=>?_;refine wp_region_lit ?_;refine pY ha (yAssign rfl) fun a ha=>?_;refine pZ ?_;refine hK4 _ _ ?_;refine wp_ret ?_;show bodyPost Tryz.prog Tryz.f37 _ .ret _ _;refine ret1 rfl ha rfl ?_
    (refine ⟨congrArg (Value.int .i64) ?_,hs.drop⟩; unfold txnE; rw [if_pos (by omega)])
  · have hn20 : xs.length≤20:=by omega
    refine wp_skip ?_;refine hK2 _ _ ?_;refine wp_seq_k fun K5 hK5=>?_;refine wp_seq_k fun K6 hK6=>?_;refine wp_region_lit ?_;refine pY ha (yMove rfl) fun a ha=>?_;refine pY ha (yLenS Tryz.runUnderlying33 rfl) fun a ha=>?_;refine pY ha (yMove rfl) fun a ha=>?_;refine pZ ?_;refine hK6 _ _ ?_;refine wp_block ?_;refine loopI (ι:=Nat) (fun i a w=>i≤xs.length∧fe (actE xs) i = 0∧Has a 34 [(0,.slice A xs.length c),(2,.int .i64 0),(8,.slice A xs.length c),(9,.int .i64 xs.length),(10,.int .i64 i)]∧Sep W w (.rd kActn (.slice A xs.length c) xs::cs)) (fun i=>xs.length - i) (0) ?_ ?_
    · exact ⟨Nat.zero_le _,rfl,has5 ha rfl rfl rfl rfl rfl,hs⟩
    · rintro i a w ⟨h1,h2,ha,hs⟩;refine wp_seq_k fun K7 hK7=>?_;refine wp_region_lit ?_;refine pY ha (yLss rfl rfl) fun a ha=>?_;refine pZ ?_;refine hK7 _ _ ?_;refine wp_seq_k fun K8 hK8=>?_;refine cDec ha rfl (fun hc11=>?_) (fun hc11=>?_)
      · obtain ⟨x,hx⟩ : ∃ x,xs[i]? = some x:=⟨_,List.getElem?_eq_getElem (by omega)⟩
        have hmx:=hm x (List.mem_of_getElem? hx)
        obtain ⟨b0,off,A',n',c',rfl,hs⟩:=hs.rd_actn .here hx;refine wp_skip ?_;refine hK8 _ _ ?_;refine wp_seq_k fun K9 hK9=>?_;refine wp_block ?_;refine wp_seq_k fun K10 hK10=>?_;refine wp_region_lit ?_;refine pY ha (yMove rfl) fun a ha=>?_;refine pY ha (yIndexA Tryz.runUnderlying33 Tryz.sizeOf32 rfl rfl (by omega) (by omega)) fun a ha=>?_;refine pY ha (yLoadRA Tryz.isAgg32 Tryz.sizeOf32 hs rfl pk0 rfl) fun a ha=>?_;refine pAlloc (zs:=[.int .i64 0,.int .i64 0,.int .i64 0,.string ⟨#[]⟩,.bool false,.slice none 0 0]) ha Tryz.zeroValue32 rfl hs rfl fun ba w hs a ha=>?_;refine pY ha (yAssign rfl) fun a ha=>?_;refine pStoreA ha Tryz.sizeOf32 hs rfl rfl pk0 rfl rfl rfl fun w hs=>?_;refine pZ ?_;refine hK10 _ _ ?_;refine wp_seq_k fun K11 hK11=>?_;refine wp_seq_k fun K12 hK12=>?_;refine wp_region_lit ?_;refine pY ha (yLoadBA Tryz.isAgg32 Tryz.sizeOf32 hs rfl pk0 rfl) fun a ha=>?_;refine pC ha (nCall Tryz.call54 rfl) rfl (One_c hT (x:=x) hmx hs pk2) ?_;rintro v w ⟨rfl,hs⟩ a ha;refine pY ha (yAssign rfl) fun a ha=>?_;refine pZ ?_;refine hK12 _ _ ?_;refine wp_seq_k fun K13 hK13=>?_;refine wp_region_lit ?_;refine pY ha (yMove rfl) fun a ha=>?_;refine pY ha (yNeq rfl rfl) fun a ha=>?_;refine pZ ?_;refine hK13 _ _ ?_;refine cNDec ha rfl (fun hc18=>?_) (fun hc18=>?_)
        · refine wp_goto ?_
          repeat (with_reducible first | refine gThen ?_ | refine gBlock ?_)
          refine gxF rfl rfl ?_;refine wp_seq_k fun K14 hK14=>?_;refine wp_skip ?_;refine hK14 _ _ ?_;refine wp_seq_k fun K15 hK15=>?_;refine wp_region_lit ?_;refine pY ha (yMove rfl) fun a ha=>?_;refine pY ha (yAssign rfl) fun a ha=>?_;refine pZ ?_;refine hK15 _ _ ?_;refine wp_ret ?_;show bodyPost Tryz.prog Tryz.f37 _ .ret _ _;refine ret1 rfl ha rfl ?_
          (refine ⟨congrArg (Value.int .i64) ?_,hs.drop.drop.drop.drop⟩; rw [txn_err hn20 h2 (by omega) (by rw [actE_at hx,if_pos hc18]; exact hc18),actE_at hx,if_pos hc18])
        · refine wp_skip ?_;refine hK11 _ _ ?_;refine wp_seq_k fun K16 hK16=>?_;refine wp_region_lit ?_;refine pY ha (yFieldA Tryz.runUnderlying32 rfl Tryz.sizeOf3 rfl rfl) fun a ha=>?_;refine pY ha (yLoadB Tryz.isAgg3 hs rfl pk0 rfl) fun a ha=>?_;refine pY ha (yEql rfl rfl) fun a ha=>?_;refine pY ha (yMove rfl) fun a ha=>?_;refine gDec (t:=22) ha rfl (fun hg3 hp3=>?_) (fun hg3 hp3=>?_)
          · rw [hg3] at ha;refine gOff ha fun a ha=>?_;refine gOff ha fun a ha=>?_;refine gOff ha fun a ha=>?_;refine gOff ha fun a ha=>?_;refine gOff ha fun a ha=>?_;refine pY ha (yPickF rfl rfl) fun a ha=>?_;refine pZ ?_;refine hK16 _ _ ?_;refine cFalse ha rfl ?_;refine wp_skip ?_;refine hK9 _ _ ?_;refine wp_region_lit ?_;refine pY ha (yAddN rfl rfl ⟨by omega,by omega⟩) fun a ha=>?_;refine pY ha (yMove rfl) fun a ha=>?_;refine pZ ?_
            have hz : actE xs i = 0:=by
              rw [actE_at hx,if_neg (by simpa using hc18)]
              (rw [if_neg (fun h=>of_decide_eq_false hg3 h.1)])
            rw [hc18] at ha;exact ⟨i + 1,⟨by omega,fe_next h2 hz,has5 ha rfl rfl rfl rfl rfl,by exact hs.drop.drop.drop⟩,by omega⟩
          · rw [hg3] at ha;refine gOn ha ?_;refine pY ha (yMove rfl) fun a ha=>?_;refine gOn ha ?_;refine pY ha (yMove rfl) fun a ha=>?_;refine gOn ha ?_;refine pY ha (ySlice Tryz.runUnderlying33 Tryz.sizeOf32 rfl (.inl ⟨rfl,rfl⟩) (.inr ⟨_,_,rfl,rfl⟩) (by omega) (by omega)) fun a ha=>?_;refine gOn ha ?_;refine pY ha (yMakeF rfl) fun a ha=>?_;refine gOn ha ?_;refine pC ha (nCall Tryz.call55 rfl) rfl (ContainsA_c (a0:=x) (hs.rd_cut (xs:=xs) (lo:=0) (hi:=i) pk3 (by omega) (by omega)) .here pk1) ?_;rintro v w ⟨rfl,hs⟩ a ha;have hs:=hs.drop;rw [List.drop_zero] at ha;refine pY ha (yPickT rfl rfl) fun a ha=>?_;refine pZ ?_;refine hK16 _ _ ?_;refine cSplit ha rfl (fun hc28=>?_) (fun hc28=>?_)
            · refine wp_seq_k fun K17 hK17=>?_;refine wp_region_lit ?_;refine pY ha (yAssign rfl) fun a ha=>?_;refine pZ ?_;refine hK17 _ _ ?_;refine wp_goto ?_
              repeat (with_reducible first | refine gThen ?_ | refine gBlock ?_)
              refine gxF rfl rfl ?_;refine wp_seq_k fun K18 hK18=>?_;refine wp_skip ?_;refine hK18 _ _ ?_;refine wp_seq_k fun K19 hK19=>?_;refine wp_region_lit ?_;refine pY ha (yMove rfl) fun a ha=>?_;refine pY ha (yAssign rfl) fun a ha=>?_;refine pZ ?_;refine hK19 _ _ ?_;refine wp_ret ?_;show bodyPost Tryz.prog Tryz.f37 _ .ret _ _;refine ret1 rfl ha rfl ?_
              (refine ⟨congrArg (Value.int .i64) ?_,hs.drop.drop.drop.drop⟩; have he : actE xs i = 1:=by (rw [actE_at hx,if_neg (by simpa using hc18),if_pos ⟨of_decide_eq_true hg3,hc28⟩])
               rw [txn_err hn20 h2 (by omega) (by rw [he]; decide),he])
            · refine wp_skip ?_;refine hK9 _ _ ?_;refine wp_region_lit ?_;refine pY ha (yAddN rfl rfl ⟨by omega,by omega⟩) fun a ha=>?_;refine pY ha (yMove rfl) fun a ha=>?_;refine pZ ?_
              have hz : actE xs i = 0:=by
                rw [actE_at hx,if_neg (by simpa using hc18)]
                (rw [if_neg (fun h=>by rw [h.2] at hc28; cases hc28)])
              rw [hc18] at ha;exact ⟨i + 1,⟨by omega,fe_next h2 hz,has5 ha rfl rfl rfl rfl rfl,by exact hs.drop.drop.drop⟩,by omega⟩
      · refine wp_exit ?_;refine hK5 _ _ ?_;refine wp_seq_k fun K20 hK20=>?_;refine wp_seq_k fun K21 hK21=>?_;refine wp_region_lit ?_;refine pY ha (yMove rfl) fun a ha=>?_;refine pC ha (nCall Tryz.call57 rfl) rfl (Puts_c (xs:=xs) hn20 (fun x hx=>fit_of (hm x hx) (fe_one (by rwa [show i = xs.length by omega] at h2) x hx)) hs .here) ?_;rintro v w ⟨rfl,hs⟩ a ha;refine pY ha (yGtr rfl rfl) fun a ha=>?_;refine pZ ?_;refine hK21 _ _ ?_;refine cDec ha rfl (fun hc32=>?_) (fun hc32=>?_)
        · refine wp_region_lit ?_;refine pY ha (yAssign rfl) fun a ha=>?_;refine pZ ?_;refine hK20 _ _ ?_;refine wp_seq_k fun K22 hK22=>?_;refine wp_label ?_;refine hK22 _ _ ?_;refine wp_seq_k fun K23 hK23=>?_;refine wp_region_lit ?_;refine pY ha (yMove rfl) fun a ha=>?_;refine pY ha (yAssign rfl) fun a ha=>?_;refine pZ ?_;refine hK23 _ _ ?_;refine wp_ret ?_;show bodyPost Tryz.prog Tryz.f37 _ .ret _ _;refine ret1 rfl ha rfl ?_
          (obtain rfl : i = xs.length:=by omega
           refine ⟨congrArg (Value.int .i64) ?_,hs.drop⟩;rw [txn_end hn20 h2]
           rw [if_pos (by omega)])
        · refine wp_skip ?_;refine hK20 _ _ ?_;refine wp_seq_k fun K24 hK24=>?_;refine wp_label ?_;refine hK24 _ _ ?_;refine wp_seq_k fun K25 hK25=>?_;refine wp_region_lit ?_;refine pY ha (yMove rfl) fun a ha=>?_;refine pY ha (yAssign rfl) fun a ha=>?_;refine pZ ?_;refine hK25 _ _ ?_;refine wp_ret ?_;show bodyPost Tryz.prog Tryz.f37 _ .ret _ _;refine ret1 rfl ha rfl ?_
          (obtain rfl : i = xs.length:=by omega
           refine ⟨congrArg (Value.int .i64) ?_,hs.drop⟩;rw [txn_end hn20 h2]
           rw [if_neg (by omega)])
theorem FitsF_c (n : Int) (hs : Sep W w cs) : Calls P 65 #[.int .i64 n] w (Rt fun v w'=>v = .bool (!fits n)∧Sep W w' cs):=by
  refine enter Tryz.func65 Tryz.ntmps65 rfl rfl fun a (ha : Has a 6 [(0,_)])=>?_;refine wp_seq_k fun K1 hK1=>?_;refine wp_region_lit ?_;refine pY ha (yAssign rfl) fun a ha=>?_;refine pZ ?_;refine hK1 _ _ ?_;refine wp_seq_k fun K2 hK2=>?_;refine wp_region_lit ?_;refine pY ha (yMove rfl) fun a ha=>?_;refine pC ha (nCall Tryz.call66 rfl) rfl (Fits_c _ hs) ?_;rintro v w ⟨rfl,hs⟩ a ha;refine pY ha (yNot rfl) fun a ha=>?_;refine pY ha (yAssign rfl) fun a ha=>?_;refine pZ ?_;refine hK2 _ _ ?_;refine wp_ret ?_;show bodyPost Tryz.prog Tryz.f65 _ .ret _ _;refine ret1 rfl ha rfl ?_;exact ⟨rfl,hs⟩
theorem IndexI_c {A : Option Addr} {n c : Nat} {xs : List Int} (hs : Sep W w cs) (hk : Pick cs (.rd kInt (.slice A n c) xs) r) :
    Calls P 100 #[.slice A n c,.func (.func 65) #[] #[]] w (Rt fun v w'=>∃ k : Int,v = .int .i64 k∧(0≤k ↔ xs.any (fun x=>!fits x) = true)∧Sep W w' cs):=by
  obtain ⟨rfl,hl⟩:=hs.rd_shape hk;unfold maxLen at hl;have hs:=hs.cpR hk;refine enter Tryz.func100 Tryz.ntmps100 rfl rfl fun a (ha : Has a 19 [(0,_),(1,_)])=>?_;refine wp_seq_k fun K1 hK1=>?_;refine wp_region_lit ?_;refine pY ha (yAssign rfl) fun a ha=>?_;refine pZ ?_;refine hK1 _ _ ?_;refine wp_seq_k fun K2 hK2=>?_;refine wp_seq_k fun K3 hK3=>?_;refine wp_region_lit ?_;refine pY ha (yMove rfl) fun a ha=>?_;refine pY ha (yLenS Tryz.runUnderlying22 rfl) fun a ha=>?_;refine pY ha (yMove rfl) fun a ha=>?_;refine pZ ?_;refine hK3 _ _ ?_;refine wp_block ?_;refine loopI (ι:=Nat) (fun i a w=>i≤xs.length∧(xs.take i).any (fun x=>!fits x) = false∧Has a 19 [(0,.slice A xs.length c),(1,.func (.func 65) #[] #[]),(7,.int .i64 xs.length),(8,.int .i64 i)]∧Sep W w (.rd kInt (.slice A xs.length c) xs::cs)) (fun i=>xs.length - i) (0) ?_ ?_
  · exact ⟨Nat.zero_le _,rfl,has4 ha rfl rfl rfl rfl,hs⟩
  · rintro i a w ⟨h1,h2,ha,hs⟩;refine wp_seq_k fun K4 hK4=>?_;refine wp_region_lit ?_;refine pY ha (yLss rfl rfl) fun a ha=>?_;refine pZ ?_;refine hK4 _ _ ?_;refine wp_seq_k fun K5 hK5=>?_;refine cDec ha rfl (fun hc9=>?_) (fun hc9=>?_)
    · obtain ⟨x,hx⟩ : ∃ x,xs[i]? = some x:=⟨_,List.getElem?_eq_getElem (by omega)⟩;obtain ⟨b0,off,rfl,hxr,hs⟩:=hs.rd_int .here hx;refine wp_skip ?_;refine hK5 _ _ ?_;refine wp_seq_k fun K6 hK6=>?_;refine wp_block ?_;refine wp_seq_k fun K7 hK7=>?_;refine wp_region_lit ?_;refine pY ha (yMove rfl) fun a ha=>?_;refine pY ha (yAssign rfl) fun a ha=>?_;refine pZ ?_;refine hK7 _ _ ?_;refine wp_seq_k fun K8 hK8=>?_;refine wp_region_lit ?_;refine pY ha (yMove rfl) fun a ha=>?_;refine pY ha (yMove rfl) fun a ha=>?_;refine pY ha (yMove rfl) fun a ha=>?_;refine pY ha (yIndexA Tryz.runUnderlying22 Tryz.sizeOf3 rfl rfl (by omega) (by omega)) fun a ha=>?_;refine pY ha (yLoadR0 Tryz.isAgg3 hs rfl pk0 rfl) fun a ha=>?_;refine pC ha (nCallV (cl:=[]) Tryz.call65 rfl rfl rfl) rfl (FitsF_c x hs) ?_;rintro v w ⟨rfl,hs⟩ a ha;refine pZ ?_;refine hK8 _ _ ?_;refine cSplit ha rfl (fun hc16=>?_) (fun hc16=>?_)
      · refine wp_seq_k fun K9 hK9=>?_;refine wp_region_lit ?_;refine pY ha (yMove rfl) fun a ha=>?_;refine pY ha (yAssign rfl) fun a ha=>?_;refine pZ ?_;refine hK9 _ _ ?_;refine wp_ret ?_;show bodyPost Tryz.prog Tryz.f100 _ .ret _ _;refine ret1 rfl ha rfl ?_;exact ⟨i,rfl,⟨fun _=>any_yes hx hc16,fun _=>by omega⟩,hs.drop.drop⟩
      · refine wp_skip ?_;refine hK6 _ _ ?_;refine wp_region_lit ?_;refine pY ha (yAddN rfl rfl ⟨by omega,by omega⟩) fun a ha=>?_;refine pY ha (yMove rfl) fun a ha=>?_;refine pZ ?_;exact ⟨i + 1,⟨by omega,any_at h2 hx hc16,has4 ha rfl rfl rfl rfl,hs.drop⟩,by omega⟩
    · refine wp_exit ?_;refine hK2 _ _ ?_;refine wp_seq_k fun K10 hK10=>?_;refine wp_region_lit ?_;refine pY ha (yAssign rfl) fun a ha=>?_;refine pZ ?_;refine hK10 _ _ ?_;refine wp_ret ?_;show bodyPost Tryz.prog Tryz.f100 _ .ret _ _;refine ret1 rfl ha rfl ?_;rw [List.take_of_length_le (by omega)] at h2; exact ⟨-1,rfl,⟨fun h=>absurd h (by decide),fun h=>by rw [h2] at h; cases h⟩,hs.drop⟩
theorem ContainsI_c {A : Option Addr} {n c : Nat} {xs : List Int} (hs : Sep W w cs) (hk : Pick cs (.rd kInt (.slice A n c) xs) r) :
    Calls P 64 #[.slice A n c,.func (.func 65) #[] #[]] w (Rt fun v w'=>v = .bool (xs.any (fun x=>!fits x))∧Sep W w' cs):=by
  refine enter Tryz.func64 Tryz.ntmps64 rfl rfl fun a (ha : Has a 9 [(0,_),(1,_)])=>?_;refine wp_seq_k fun K1 hK1=>?_;refine wp_region_lit ?_;refine pY ha (yAssign rfl) fun a ha=>?_;refine pZ ?_;refine hK1 _ _ ?_;refine wp_seq_k fun K2 hK2=>?_;refine wp_region_lit ?_;refine pY ha (yMove rfl) fun a ha=>?_;refine pY ha (yMove rfl) fun a ha=>?_;refine pC ha (nCall Tryz.call100 rfl) rfl (IndexI_c hs hk) ?_;rintro v w ⟨k,rfl,hkk,hs⟩ a ha;refine pY ha (yGeq rfl rfl) fun a ha=>?_;refine pY ha (yAssign rfl) fun a ha=>?_;refine pZ ?_;refine hK2 _ _ ?_;refine wp_ret ?_;show bodyPost Tryz.prog Tryz.f64 _ .ret _ _;refine ret1 rfl ha rfl ?_;refine ⟨congrArg Value.bool ?_,hs⟩;rw [Bool.eq_iff_iff,decide_eq_true_eq]; exact hkk
theorem WFits_c {A : Option Addr} {n c : Nat} {xs : List Int} (hs : Sep W w cs) (hk : Pick cs (.rd kInt (.slice A n c) xs) r) :
    Calls P 41 #[.slice A n c] w (Rt fun v w'=>v = .bool (xs.all fits)∧Sep W w' cs):=by
  refine enter Tryz.func41 Tryz.ntmps41 rfl rfl fun a (ha : Has a 6 [(0,_)])=>?_;refine wp_seq_k fun K1 hK1=>?_;refine wp_region_lit ?_;refine pY ha (yAssign rfl) fun a ha=>?_;refine pZ ?_;refine hK1 _ _ ?_;refine wp_seq_k fun K2 hK2=>?_;refine wp_region_lit ?_;refine pY ha (yMove rfl) fun a ha=>?_;refine pC ha (nCall Tryz.call64 rfl) rfl (ContainsI_c hs hk) ?_;rintro v w ⟨rfl,hs⟩ a ha;refine pY ha (yNot rfl) fun a ha=>?_;refine pY ha (yAssign rfl) fun a ha=>?_;refine pZ ?_;refine hK2 _ _ ?_;refine wp_ret ?_;show bodyPost Tryz.prog Tryz.f41 _ .ret _ _;refine ret1 rfl ha rfl ?_;refine ⟨congrArg Value.bool ?_,hs⟩;rw [Bool.eq_iff_iff]
  simp
/-- Numbers of the machine. -/
def i64 (n : Int) : Prop:=-9223372036854775808≤n∧n≤9223372036854775807
def mCm (x : Cmt) : Prop:=i64 x.rev∧i64 x.client∧i64 x.seq∧∀ a ∈ x.acts,mA a
theorem Commits_c (hT : Tabs W) {A : Option Addr} {n c : Nat} {xs : List Cmt} (hm : ∀ x ∈ xs,mCm x) (hs : Sep W w cs) (hk : Pick cs (.rd kCmt (.slice A n c) xs) r) :
    Calls P 42 #[.slice A n c] w (Rt fun v w'=>v = .int .i64 (cmtsE xs)∧Sep W w' cs):=by
  obtain ⟨rfl,hl⟩:=hs.rd_shape hk;unfold maxLen at hl;have hs:=hs.cpR hk;refine enter Tryz.func42 Tryz.ntmps42 rfl rfl fun a (ha : Has a 31 [(0,_)])=>?_;refine wp_seq_k fun K1 hK1=>?_;refine wp_region_lit ?_;refine pY ha (yAssign rfl) fun a ha=>?_;refine pZ ?_;refine hK1 _ _ ?_;refine wp_seq_k fun K2 hK2=>?_;refine wp_seq_k fun K3 hK3=>?_;refine wp_region_lit ?_;refine pY ha (yMove rfl) fun a ha=>?_;refine pY ha (yLenS Tryz.runUnderlying34 rfl) fun a ha=>?_;refine pY ha (yGtr rfl rfl) fun a ha=>?_;refine pZ ?_;refine hK3 _ _ ?_;refine cDec ha rfl (fun hc8=>?_) (fun hc8=>?_)
  · refine wp_seq_k fun K4 hK4=>?_;refine wp_region_lit ?_;refine pY ha (yAssign rfl) fun a ha=>?_;refine pZ ?_;refine hK4 _ _ ?_;refine wp_ret ?_;show bodyPost Tryz.prog Tryz.f42 _ .ret _ _;refine ret1 rfl ha rfl ?_
    (refine ⟨congrArg (Value.int .i64) ?_,hs.drop⟩; unfold cmtsE; rw [if_pos (by omega)])
  · have hn20 : xs.length≤20:=by omega
    have hcE : cmtsE xs = fe (fun i=>cmtE (xs.getD i noCm)) xs.length:=by unfold cmtsE; rw [if_neg (by omega)]
    refine wp_skip ?_;refine hK2 _ _ ?_;refine wp_seq_k fun K5 hK5=>?_;refine wp_seq_k fun K6 hK6=>?_;refine wp_region_lit ?_;refine pY ha (yMove rfl) fun a ha=>?_;refine pY ha (yLenS Tryz.runUnderlying34 rfl) fun a ha=>?_;refine pY ha (yMove rfl) fun a ha=>?_;refine pZ ?_;refine hK6 _ _ ?_;refine wp_block ?_;refine loopI (ι:=Nat) (fun i a w=>i≤xs.length∧fe (fun i=>cmtE (xs.getD i noCm)) i = 0∧Has a 31 [(9,.slice A xs.length c),(10,.int .i64 xs.length),(11,.int .i64 i)]∧Sep W w (.rd kCmt (.slice A xs.length c) xs::cs)) (fun i=>xs.length - i) (0) ?_ ?_
    · exact ⟨Nat.zero_le _,rfl,has3 ha rfl rfl rfl,hs⟩
    · rintro i a w ⟨h1,h2,ha,hs⟩;refine wp_seq_k fun K7 hK7=>?_;refine wp_region_lit ?_;refine pY ha (yLss rfl rfl) fun a ha=>?_;refine pZ ?_;refine hK7 _ _ ?_;refine wp_seq_k fun K8 hK8=>?_;refine cDec ha rfl (fun hc12=>?_) (fun hc12=>?_)
      · obtain ⟨x,hx⟩ : ∃ x,xs[i]? = some x:=⟨_,List.getElem?_eq_getElem (by omega)⟩
        have hmx:=hm x (List.mem_of_getElem? hx)
        obtain ⟨m1,m2,m3,m4⟩:=hmx;unfold i64 at m1 m2 m3
        have hgx : xs.getD i noCm = x:=by rw [List.getD_eq_getElem?_getD,hx]; rfl
        obtain ⟨b0,off,A',n',c',rfl,hs⟩:=hs.rd_cmt .here hx;refine wp_skip ?_;refine hK8 _ _ ?_;refine wp_seq_k fun K9 hK9=>?_;refine wp_block ?_;refine wp_seq_k fun K10 hK10=>?_;refine wp_region_lit ?_;refine pY ha (yIndexA Tryz.runUnderlying34 Tryz.sizeOf43 rfl rfl (by omega) (by omega)) fun a ha=>?_;refine pY ha (yLoadRA Tryz.isAgg43 Tryz.sizeOf43 hs rfl pk0 rfl) fun a ha=>?_;refine pAlloc (zs:=[.int .i64 0,.int .i64 0,.int .i64 0,.slice none 0 0]) ha Tryz.zeroValue43 rfl hs rfl fun b w hs a ha=>?_;refine pStoreA ha Tryz.sizeOf43 hs rfl rfl pk0 rfl rfl rfl fun w hs=>?_;refine pZ ?_;refine hK10 _ _ ?_;refine wp_seq_k fun K11 hK11=>?_;refine wp_seq_k fun K12 hK12=>?_;refine wp_region_lit ?_;refine pY ha (yFieldA Tryz.runUnderlying43 rfl Tryz.sizeOf3 rfl rfl) fun a ha=>?_;refine pY ha (yLoadB Tryz.isAgg3 hs rfl pk0 rfl) fun a ha=>?_;refine pY ha (yFieldA Tryz.runUnderlying43 rfl Tryz.sizeOf3 rfl rfl) fun a ha=>?_;refine pY ha (yLoadB Tryz.isAgg3 hs rfl pk0 rfl) fun a ha=>?_;refine pY ha (yFieldA Tryz.runUnderlying43 rfl Tryz.sizeOf3 rfl rfl) fun a ha=>?_;refine pY ha (yLoadB Tryz.isAgg3 hs rfl pk0 rfl) fun a ha=>?_;refine pMake ha (bslChk22_3_0_1_2 rfl rfl rfl) hs rfl fun b w hs a ha=>?_;have hs:=hs.ints_rd (xs:=[x.rev,x.client,x.seq]) .here (by intro y hy; simp at hy; rcases hy with rfl | rfl | rfl <;> assumption);refine pC ha (nCall Tryz.call41 rfl) rfl (WFits_c hs .here) ?_;rintro v w ⟨rfl,hs⟩ a ha;refine pY ha (yNot rfl) fun a ha=>?_;refine pZ ?_;refine hK12 _ _ ?_;refine cSplit ha rfl (fun hc23=>?_) (fun hc23=>?_)
        · have hge : cmtE (xs.getD i noCm) = 1:=by
            rw [hgx]; unfold cmtE;rw [if_pos];simp only [List.all_cons,List.all_nil,Bool.and_true,Bool.not_eq_true',Bool.and_eq_false_iff] at hc23;exact hc23
          refine wp_seq_k fun K13 hK13=>?_;refine wp_region_lit ?_;refine pY ha (yAssign rfl) fun a ha=>?_;refine pZ ?_;refine hK13 _ _ ?_;refine wp_ret ?_;show bodyPost Tryz.prog Tryz.f42 _ .ret _ _;refine ret1 rfl ha rfl ?_
          (refine ⟨congrArg (Value.int .i64) ?_,hs.drop.drop.drop.drop.drop⟩; rw [hcE,fe_at h2 (show (fun i=>cmtE (xs.getD i noCm)) i ≠ 0 by simp only [hge]; decide) (show i < xs.length by omega)]; exact hge.symm)
        · have hge : cmtE (xs.getD i noCm) = txnE x.acts:=by
            rw [hgx]; unfold cmtE;simp only [List.all_cons,List.all_nil,Bool.and_true,Bool.not_eq_false',Bool.and_eq_true] at hc23;rw [if_neg (by rw [hc23.1,hc23.2.1,hc23.2.2]; simp)]
          refine wp_skip ?_;refine hK11 _ _ ?_;refine wp_seq_k fun K14 hK14=>?_;refine wp_region_lit ?_;refine pY ha (yFieldA Tryz.runUnderlying43 rfl Tryz.sizeOf33 rfl rfl) fun a ha=>?_;refine pY ha (yLoadB Tryz.isAgg33 hs rfl pk1 rfl) fun a ha=>?_;refine pC ha (nCall Tryz.call37 rfl) rfl (TxnCheck_c hT (xs:=x.acts) m4 hs pk3) ?_;rintro v w ⟨rfl,hs⟩ a ha;refine pY ha (yAssign rfl) fun a ha=>?_;refine pZ ?_;refine hK14 _ _ ?_;refine wp_seq_k fun K15 hK15=>?_;refine wp_region_lit ?_;refine pY ha (yMove rfl) fun a ha=>?_;refine pY ha (yNeq rfl rfl) fun a ha=>?_;refine pZ ?_;refine hK15 _ _ ?_;refine cNDec ha rfl (fun hc28=>?_) (fun hc28=>?_)
          · refine wp_seq_k fun K16 hK16=>?_;refine wp_region_lit ?_;refine pY ha (yMove rfl) fun a ha=>?_;refine pY ha (yAssign rfl) fun a ha=>?_;refine pZ ?_;refine hK16 _ _ ?_;refine wp_ret ?_;show bodyPost Tryz.prog Tryz.f42 _ .ret _ _;refine ret1 rfl ha rfl ?_
            (refine ⟨congrArg (Value.int .i64) ?_,hs.drop.drop.drop.drop.drop⟩; rw [hcE,fe_at h2 (show (fun i=>cmtE (xs.getD i noCm)) i ≠ 0 by simp only [hge]; exact hc28) (show i < xs.length by omega)]; exact hge.symm)
          · refine wp_skip ?_;refine hK9 _ _ ?_;refine wp_region_lit ?_;refine pY ha (yAddN rfl rfl ⟨by omega,by omega⟩) fun a ha=>?_;refine pY ha (yMove rfl) fun a ha=>?_;refine pZ ?_
            have hz : cmtE (xs.getD i noCm) = 0:=by rw [hge]; exact hc28
            exact ⟨i + 1,⟨by omega,fe_next h2 hz,has3 ha rfl rfl rfl,hs.drop.drop.drop.drop⟩,by omega⟩
      · refine wp_exit ?_;refine hK5 _ _ ?_;refine wp_seq_k fun K17 hK17=>?_;refine wp_region_lit ?_;refine pY ha (yAssign rfl) fun a ha=>?_;refine pZ ?_;refine hK17 _ _ ?_;refine wp_ret ?_;show bodyPost Tryz.prog Tryz.f42 _ .ret _ _;refine ret1 rfl ha rfl ?_
        (obtain rfl : i = xs.length:=by omega
         exact ⟨congrArg (Value.int .i64) (by rw [hcE,h2]),hs.drop⟩)
end
end Go.Proofs.YtkbbnpjbjakpcaaGreatDoor

set_option linter.unusedVariables false
set_option linter.unusedSimpArgs false
namespace Go.Proofs.YtkbbnpjbjakpcaaGreatDoor
def sortI (l : List Int) : List Int:=l.mergeSort fun x y=>decide (x≤y)
end Go.Proofs.YtkbbnpjbjakpcaaGreatDoor

set_option linter.unusedVariables false
set_option linter.unusedSimpArgs false
namespace Go.Proofs.YtkbbnpjbjakpcaaGreatDoor
open Go.RowKit Go.Maps Go.Sort Go.Shelf
open Go.WideElems (Fit rd rg rd_mk rg_of)
/-- The entries of a map whose keys are ints. -/
def iE : Nat→List (Int × Value)→List MapEntry
  | _,[]=>[]
  | i,x::r=>⟨.int .i64 x.1,x.2,i⟩::iE (i + 1) r
def Ch.mpI (b : Nat) (l : List (Int × Value)) : Ch:=.own b (.map (iE 0 l).toArray l.length)
theorem iE_length : ∀ (i : Nat) (l : List (Int × Value)),(iE i l).length = l.length
  | i,[]=>rfl
  | i,y::r=>by simp only [iE,List.length_cons,iE_length (i + 1) r]
theorem iE_mem : ∀ (i : Nat) (l : List (Int × Value)) (e : MapEntry),e ∈ iE i l→(∃ x ∈ l,e.key = .int .i64 x.1∧e.val = x.2)∧i≤e.born∧e.born < i + l.length
  | i,[],e,h=>by cases h
  | i,y::r,e,h=>by
    simp only [iE,List.mem_cons] at h
    rcases h with rfl | h
    · exact ⟨⟨y,by simp,rfl,rfl⟩,Nat.le_refl _,by simp⟩
    · obtain ⟨⟨x,hx,h1⟩,h2,h3⟩:=iE_mem (i + 1) r e h;exact ⟨⟨x,by simp [hx],h1⟩,by omega,by simp only [List.length_cons]; omega⟩
theorem iE_nodup : ∀ (i : Nat) (l : List (Int × Value)),((iE i l).map (·.born)).Nodup
  | i,[]=>by simp [iE]
  | i,y::r=>by
    simp only [iE,List.map_cons,List.nodup_cons];refine ⟨fun h=>?_,iE_nodup (i + 1) r⟩;obtain ⟨e,he,h1⟩:=List.mem_map.1 h
    have:=(iE_mem (i + 1) r e he).2.1
    omega
theorem iE_keys : ∀ (i : Nat) (l : List (Int × Value)),(iE i l).map (·.key) = (l.map (·.1)).map (Value.int .i64)
  | i,[]=>rfl
  | i,y::r=>by simp only [iE,List.map_cons,iE_keys (i + 1) r]
theorem mE_iE : ∀ (i : Nat) (xs : List Nod),mE i xs = iE i (xs.map fun x=>(x.id,.agg (cN x).toArray))
  | i,[]=>rfl
  | i,y::r=>by simp only [mE,iE,List.map_cons,mE_iE (i + 1) r]
theorem mpN_mpI (b : Nat) (xs : List Nod) : Ch.mpN b xs = .mpI b (xs.map fun x=>(x.id,.agg (cN x).toArray)):=by
  unfold Ch.mpN Ch.mpI; rw [mE_iE]; simp
def anyR (v : Value) : Option (DataW Unit × List MemPlace):=some (.nil,[])
theorem rd_iE {x : MapEntry} {k : Int} (h : x.key = .int .i64 k) (hk : i64 k) : rd P 3 anyR x = some (.int .i64 k,.nil):=by
  obtain ⟨key,val,born⟩:=x;subst h;exact rd_mk (R:=anyR) (yv:=(.nil,[])) (keyOf_int_mk Tryz.underlying3 (by unfold i64 at hk; simp [Lit.wf,IntKind.min,IntKind.max,IntKind.signed,IntKind.bits]; omega)) rfl
section
variable {W w w' : World} {cs r r2 : List Ch} {b : Nat}
theorem Sep.owns {l : List (Int × Value)} (hs : Sep W w cs) (hk : Pick cs (.mpI b l) r) (hi : ∀ x ∈ l,i64 x.1) (hn : (l.map (·.1)).Nodup) (hl : l.length≤maxLen) :
    ∃ D : DataW Unit,w.ownsMap P 3 anyR b l.length D∧(intKeys D).Perm (l.map (·.1))∧Maps.size D = l.length:=by
  have hb:=hs.own_at hk
  have hrd : ∀ x ∈ iE 0 l,∃ k,i64 k∧x.key = .int .i64 k∧rd P 3 anyR x = some (.int .i64 k,.nil):=fun x hx=>by
    obtain ⟨⟨y,hy,h1,_⟩,_⟩:=iE_mem 0 l x hx;exact ⟨y.1,hi y hy,h1,rd_iE h1 (hi y hy)⟩
  refine ⟨.map (((iE 0 l).toArray.toList.map (rg P 3 anyR)).foldr DataW.insert []),⟨_,_,hb,⟨?_,⟨?_,?_,?_⟩,?_⟩,?_,rfl⟩,?_,?_⟩
  · simp [iE_length]; omega
  · intro x hx
    have:=(iE_mem 0 l x (by simpa using hx)).2.2
    omega
  · simpa using iE_nodup 0 l
  · have h1:=iE_keys 0 l
    show ((iE 0 l).map (·.key)).Nodup;rw [h1];exact List.pairwise_map.2 (hn.imp fun h e=>h (by simpa using e))
  · intro x hx;obtain ⟨k,_,_,h⟩:=hrd x (by simpa using hx);exact ⟨_,h⟩
  · simp [iE_length]
  · show ((((iE 0 l).toArray.toList.map (rg P 3 anyR)).foldr DataW.insert []).map fun p=>Go.intOf p.1).Perm _;refine ((Go.WideShapes.sorted_perm _).map _).trans ?_
    have : ((iE 0 l).toArray.toList.map (rg P 3 anyR)).map (fun p=>Go.intOf p.1) = l.map (·.1):=by
      have h2 : ∀ x ∈ iE 0 l,(fun p : Lit × DataW Unit=>Go.intOf p.1) (rg P 3 anyR x) = (match x.key with | .int _ k=>k | _=>0):=fun x hx=>by
        obtain ⟨k,_,h1,h⟩:=hrd x hx;rw [rg_of h,h1]; rfl
      simp only [List.map_map];rw [show ((iE 0 l).toArray.toList.map ((fun p : Lit × DataW Unit=>Go.intOf p.1) ∘ rg P 3 anyR)) = (iE 0 l).map (fun x=>match x.key with | .int _ k=>k | _=>0) from List.map_congr_left (by simpa using h2)]
      have h3:=congrArg (List.map fun v : Value=>match v with | .int _ k=>k | _=>0) (iE_keys 0 l)
      simp only [List.map_map] at h3;exact h3.trans (by simp [Function.comp_def])
    rw [this]
  · simp [Maps.size,length_sorted,iE_length]
/-- Nothing that lay in w has turned. -/
theorem Sep.after (hs : Sep W w cs) (hb : Below w.heap.size w w') : Sep W w' cs:=by
  obtain ⟨h0,Z,H,hd,hz,hh,hw,ha⟩:=hs
  have up : ∀ A : Hp,A.le (hp w)→A.le (hp w'):=fun A hA i o ho=>by
    have h1:=hA i o ho
    have hi : i < w.heap.size:=(Array.getElem?_eq_some_iff.1 h1).1
    exact (hb.block i hi).trans h1
  exact ⟨⟨hb.os.trans h0.1,hb.tape.trans h0.2.1,hb.output.trans h0.2.2⟩,Z,H,hd,up Z hz,up H hh,hw,ha⟩
/-- .. and a new block. -/
theorem Sep.after_new {g : Nat} {o : Obj} (hs : Sep W w cs) (hb : Below w.heap.size w w') (hg : w.heap.size≤g) (ho : w'.heap[g]? = some o) : Sep W w' (.own g o::cs):=by
  obtain ⟨h0,Z,H,hd,hz,hh,hw,ha⟩:=hs
  have up : ∀ A : Hp,A.le (hp w)→A.le (hp w'):=fun A hA i o ho=>by
    have h1:=hA i o ho
    have hi : i < w.heap.size:=(Array.getElem?_eq_some_iff.1 h1).1
    exact (hb.block i hi).trans h1
  have fresh : ∀ (A : Hp),A.le (hp w)→A g = none:=fun A hA=>by
    cases hx : A g with
    | none=>rfl
    | some x=>have h1:=(Array.getElem?_eq_some_iff.1 (hA _ _ hx)).1; omega
  have d1 : ∀ (A : Hp),A.le (hp w)→(Hp.one g o).dj A:=fun A hA i x hx=>by
    unfold Hp.one at hx
    split at hx
    · rename_i hi; subst hi; exact fresh A hA
    · cases hx
  exact ⟨⟨hb.os.trans h0.1,hb.tape.trans h0.2.1,hb.output.trans h0.2.2⟩,Z,(Hp.one g o).un H,Hp.dj_symm (Hp.un_dj (d1 Z hz) (Hp.dj_symm hd)),up Z hz,Hp.un_le (Hp.one_le ho) (up H hh),hw,
    Hp.one g o,H,Hp.le_un_left _ _,Hp.le_un_right (d1 H hh),d1 H hh,by simp [Ch.on,Hp.one],ha⟩
/-- A slice that the library has made. -/
theorem Sep.after_row {v : Value} {xs : List Int} (hs : Sep W w cs) (hb : Below w.heap.size w w') (hx : ∀ x ∈ xs,i64 x) (hr : w'.ownsRow w.heap.size 3 1 v xs.length (xs.map encZ)) :
    ∃ A c,v = .slice A xs.length c∧Sep W w' (.rd kInt (.slice A xs.length c) xs::cs):=by
  rcases hr.2 with ⟨rfl,hz⟩ | ⟨g,cap,cur,rfl,hbase,hgb,r1,r2,r3,r4⟩
  · obtain rfl : xs = []:=List.eq_nil_of_length_eq_zero hz;exact ⟨none,0,rfl,(hs.after hb).rd_nil⟩
  · refine ⟨_,cap,rfl,?_⟩
    have h1:=hs.after_new hb hbase hgb
    refine Sep.ol_rd (d:=kInt) (T:=3) (Sep.ol_shut ?_ r1 r2 r3) .here;refine (h1.add (x:=.ro (fun Z=>kInt.row Z cur 0 xs) (fun _ _ h=>kInt.row_mono h)) (fun Z i x hi=>?_)).perm (List.Perm.swap _ _ _);refine ⟨[.int .i64 x],⟨rfl,hx x (List.mem_of_getElem? hi)⟩,fun j u hj=>?_⟩
    match j,hj with
    | 0,hj=>
      simp at hj; subst hj
      have h2 : (cur.toList.take (xs.length * 1))[i]? = some (encZ x):=by rw [r4]; simp [hi]
      rw [List.getElem?_take] at h2
      split at h2
      · show cur[0 + i * 1 + 0]? = _;simp only [Nat.zero_add,Nat.mul_one,Nat.add_zero]
        simpa using h2
      · cases h2
    | j + 1,hj=>simp at hj
theorem sorts (m : Nat) : AnyZI.SortsIn P laySorted_ren Fence.wide m :=
  ⟨fun blk off cap ss W hH hblk hsz=>callsIn_wide.2 (AnyM.slices_Sort_int laySort blk off cap ss W hH hblk hsz),
   fun p cap W=>callsIn_wide.2 (AnyM.slices_Sort_int_none laySort p cap W)⟩
theorem sortI_perm {l l' : List Int} (h : l.Perm l') : sortI l = sortI l':=mergeSort_of_perm_i h
theorem sortI_mem {l : List Int} {x : Int} : x ∈ sortI l ↔ x ∈ l:=(List.mergeSort_perm l _).mem_iff
theorem sortI_length (l : List Int) : (sortI l).length = l.length:=(List.mergeSort_perm l _).length_eq
theorem sorted_of {g : Nat} {lb : Array Value} {D : DataW Unit} {keys : List Int} (hseq : SeqGives Fence.wide 2 P g lb encZ (fun ss=>ss.Perm (intKeys D)) (Maps.size D) w)
    (eg : ∀ args w,(callFunc g args).run P w = .ok (.enter g args) w) (hp : (intKeys D).Perm keys) (hi : ∀ x ∈ keys,i64 x) (hl : Maps.size D≤1000000000) (hs : Sep W w cs) :
    Calls P 35 #[.func (.func g) #[] lb] w (Rt fun v w'=>∃ A c,v = .slice A keys.length c∧Sep W w' (.rd kInt (.slice A keys.length c) (sortI keys)::cs)):=by
  have cS:=AnyZI.sorted_in laySorted Fence.wide 5 trivial trivial trivial trivial rfl (by omega) (sorts _) (enters_of Tryz.func52 (by kernel_rfl) rfl) g lb trivial eg _ _ (by unfold maxLen; omega) (by omega) _ hseq
  refine (callsIn_wide.1 cS).mono ?_;rintro e w' ⟨v,ss,rfl,hS,hrow,hnil,hb⟩
  have hperm:=hS.trans hp
  have e1 : ss.mergeSort (fun x y=>decide (x≤y)) = sortI keys:=sortI_perm hperm
  rw [e1,hperm.length_eq,← sortI_length keys] at hrow;obtain ⟨A,c,rfl,h⟩:=hs.after_row hb (fun x hx=>hi x (sortI_mem.1 hx)) hrow;rw [sortI_length] at h ⊢;exact ⟨A,c,rfl,h⟩
theorem KeysN_c (hs : Sep W w cs) : Calls P 36 #[.map (some b)] w
    (Rt fun v w'=>∃ bb,v = .func (.func 53) #[] #[.pointer (some ⟨bb,0,none⟩)]∧Sep W w' (.blk bb 79 [.map (some b)]::cs)):=by
  refine (callsIn_wide.1 (AnyZI.keys_in layKN Fence.wide 5 trivial rfl (some b) w)).mono ?_;rintro e w' ⟨rfl,rfl⟩;exact ⟨w.heap.size,rfl,hs.blk_alloc #[.map (some b)] 79⟩
theorem SortedN_c {bb : Nat} {l : List (Int × Value)} (hi : ∀ x ∈ l,i64 x.1) (hn : (l.map (·.1)).Nodup) (hl : l.length≤1000000000) (hs : Sep W w cs) (hk : Pick cs (.blk bb 79 [.map (some b)]) r) (hk2 : Pick cs (.mpI b l) r2) :
    Calls P 35 #[.func (.func 53) #[] #[.pointer (some ⟨bb,0,none⟩)]] w
      (Rt fun v w'=>∃ A c,v = .slice A l.length c∧Sep W w' (.rd kInt (.slice A l.length c) (sortI (l.map (·.1)))::cs)):=by
  obtain ⟨D,h1,h2,h3⟩:=hs.owns hk2 hi hn (by unfold maxLen; omega)
  have hbl:=(Array.getElem?_eq_some_iff.1 (hs.own_at hk)).1
  have hseq:=AnyZI.keys_gives (ρ:=layKN_ren) { layKN with } Fence.wide 2 trivial rfl (by omega) bb b l.length D w hbl (hs.blk_cell hk rfl) h1
  have:=sorted_of (g:=53) hseq (enters_of Tryz.func53 (by kernel_rfl) rfl) h2 (fun x hx=>by
    obtain ⟨y,hy,rfl⟩:=List.mem_map.1 hx
    exact hi y hy) (by omega) hs
  simpa using this
end
end Go.Proofs.YtkbbnpjbjakpcaaGreatDoor

set_option linter.unusedVariables false
set_option linter.unusedSimpArgs false
namespace Go.Proofs.YtkbbnpjbjakpcaaGreatDoor
open Go.RowKit Go.Lib
def idsOk (xs : List Nod) : Prop:=(xs.map (·.id)).Nodup∧(∀ x ∈ xs,i64 x.id)∧xs.length≤1000000
def sortN (xs : List Nod) : List Nod:=(sortI (xs.map (·.id))).map fun k=>findN xs k
def hasId (xs : List Nod) (id : Int) : Bool:=xs.any fun n=>decide (n.id = id)
def dirE (xs : List Nod) (p : Int) : Int:=if p = 0 then 0 else if hasId xs p = false then 5 else if (findN xs p).dir = false then 8 else 0
def hasCh (xs : List Nod) (p : Int) (s : ByteArray) : Bool:=xs.any fun n=>decide (n.parent = p) && decide (n.name = s)
def creE (xs : List Nod) (a : Actn) : Int :=
  if a.id < 1∨a.id > 1099511627776∨nameOk a.name = false then 1
  else if hasId xs a.id = true then 6
  else if dirE xs a.parent ≠ 0 then dirE xs a.parent
  else if hasCh xs a.parent a.name = true then 6
  else if xs.length ≥ 100 then 4 else 0
def creN (a : Actn) : Nod:=⟨a.id,a.parent,a.name,a.dir,emp⟩
def doL : List Nod→List Actn→List Nod × Int
  | xs,[]=>(xs,0)
  | xs,a::r=>if creE xs a ≠ 0 then (xs,creE xs a) else doL (xs++[creN a]) r
def doE (xs : List Nod) (l : List Actn) : Int:=if txnE l ≠ 0 then txnE l else (doL xs l).2
theorem hasId_iff {xs : List Nod} {id : Int} : hasId xs id = true ↔ id ∈ xs.map (·.id):=by
  simp [hasId]
theorem creE_ok {xs : List Nod} {a : Actn} (h : creE xs a = 0) : (1≤a.id∧a.id≤1099511627776)∧nameOk a.name = true∧hasId xs a.id = false∧dirE xs a.parent = 0∧hasCh xs a.parent a.name = false∧xs.length < 100:=by
  unfold creE at h
  split at h
  · cases h
  · rename_i h1
    simp only [not_or,Bool.not_eq_false] at h1
    split at h
    · cases h
    · rename_i h2
      split at h
      · rename_i h3; exact absurd h h3
      · rename_i h3
        split at h
        · cases h
        · rename_i h4
          split at h
          · cases h
          · rename_i h5
            exact ⟨⟨by omega,by omega⟩,h1.2.2,by simpa using h2,by simpa using h3,by simpa using h4,by omega⟩
theorem idsOk_cre {xs : List Nod} {a : Actn} (h : idsOk xs) (hc : creE xs a = 0) : idsOk (xs++[creN a]):=by
  obtain ⟨h1,h2,h3⟩:=h;obtain ⟨⟨k1,k2⟩,k3,k4,k5,k6,k7⟩:=creE_ok hc;refine ⟨?_,fun x hx=>?_,by simp; omega⟩
  · rw [List.map_append,List.nodup_append];refine ⟨h1,by simp,fun x hx y hy e=>?_⟩
    simp [creN] at hy
    subst hy; subst e;rw [hasId_iff.2 hx] at k4; cases k4
  · rcases List.mem_append.1 hx with hx | hx
    · exact h2 x hx
    · simp at hx; subst hx
      exact ⟨by show _≤a.id; omega,by show a.id≤_; omega⟩
theorem idsOk_do : ∀ (l : List Actn) {xs : List Nod},idsOk xs→idsOk (doL xs l).1
  | [],_,h=>h
  | a::r,xs,h=>by
    simp only [doL]
    split
    · exact h
    · rename_i hc
      exact idsOk_do r (idsOk_cre h (by simpa using hc))
theorem findN_mem {xs : List Nod} {k : Int} (h : k ∈ xs.map (·.id)) : findN xs k ∈ xs∧(findN xs k).id = k:=by
  unfold findN
  cases hf : xs.find? fun x=>decide (x.id = k) with
  | none=>
    obtain ⟨x,hx,rfl⟩:=List.mem_map.1 h
    have:=List.find?_eq_none.1 hf x hx
    simp at this
  | some y=>
    exact ⟨List.mem_of_find?_eq_some hf,by have:=List.find?_some hf; simpa using this⟩
theorem findN_self {xs : List Nod} (hn : (xs.map (·.id)).Nodup) {x : Nod} (hx : x ∈ xs) : findN xs x.id = x:=by
  obtain ⟨h1,h2⟩:=findN_mem (List.mem_map.2 ⟨x,hx,rfl⟩);obtain ⟨i,hi,e1⟩:=List.mem_iff_getElem.1 h1;obtain ⟨j,hj,e2⟩:=List.mem_iff_getElem.1 hx
  have h3 : (xs.map (·.id))[i]'(by simpa using hi) = (xs.map (·.id))[j]'(by simpa using hj):=by
    simp only [List.getElem_map];rw [e1,e2,h2]
  have:=(List.getElem_inj hn).1 h3
  subst this;rw [← e1,e2]
theorem sortN_mem {xs : List Nod} (hn : (xs.map (·.id)).Nodup) {x : Nod} : x ∈ sortN xs ↔ x ∈ xs:=by
  have hp : ∀ k,k ∈ sortI (xs.map (·.id)) ↔ k ∈ xs.map (·.id):=fun k=>(List.mergeSort_perm _ _).mem_iff
  unfold sortN
  constructor
  · intro h;obtain ⟨k,hk,rfl⟩:=List.mem_map.1 h;exact (findN_mem ((hp k).1 hk)).1
  · intro h;exact List.mem_map.2 ⟨x.id,(hp _).2 (List.mem_map.2 ⟨x,h,rfl⟩),findN_self hn h⟩
theorem sortN_any {xs : List Nod} (hn : (xs.map (·.id)).Nodup) (p : Nod→Bool) : (sortN xs).any p = xs.any p:=by
  rw [Bool.eq_iff_iff];simp only [List.any_eq_true];exact ⟨fun ⟨x,h1,h2⟩=>⟨x,(sortN_mem hn).1 h1,h2⟩,fun ⟨x,h1,h2⟩=>⟨x,(sortN_mem hn).2 h1,h2⟩⟩
theorem sortN_len (xs : List Nod) : (sortN xs).length = xs.length:=by
  unfold sortN sortI
  simp
theorem doL_append : ∀ (a b : List Actn) (xs : List Nod),doL xs (a++b) = if (doL xs a).2 ≠ 0 then doL xs a else doL (doL xs a).1 b
  | [],b,xs=>by simp [doL]
  | x::r,b,xs=>by
    simp only [List.cons_append,doL]
    by_cases h : creE xs x ≠ 0
    · simp [h]
    · simp only [if_neg h];exact doL_append r b _
theorem doL_take {xs : List Nod} {l : List Actn} {i : Nat} {x : Actn} (h0 : (doL xs (l.take i)).2 = 0) (hx : l[i]? = some x) (hc : creE (doL xs (l.take i)).1 x = 0) :
    doL xs (l.take (i + 1)) = ((doL xs (l.take i)).1++[creN x],0):=by
  rw [List.take_add_one,hx,Option.toList_some,doL_append,if_neg (by simpa using h0)]
  simp [doL,hc]
theorem doL_bad {xs : List Nod} {l : List Actn} {i : Nat} {x : Actn} (h0 : (doL xs (l.take i)).2 = 0) (hx : l[i]? = some x) (hc : creE (doL xs (l.take i)).1 x ≠ 0) :
    (doL xs l).2 = creE (doL xs (l.take i)).1 x:=by
  obtain ⟨hi,rfl⟩:=List.getElem?_eq_some_iff.1 hx
  have h1 : l = l.take i++l[i]::l.drop (i + 1):=by
    rw [← List.drop_eq_getElem_cons hi,List.take_append_drop]
  have h2 : (doL xs l).2 = (doL xs (l.take i++l[i]::l.drop (i + 1))).2:=congrArg (fun z=>(doL xs z).2) h1
  rw [h2,doL_append,if_neg (by simpa using h0)]
  simp [doL,hc]
end Go.Proofs.YtkbbnpjbjakpcaaGreatDoor

set_option linter.unusedVariables false
set_option linter.unusedSimpArgs false
namespace Go.Proofs.YtkbbnpjbjakpcaaGreatDoor
open Go.RowKit Go.Lib Go.Proofs.YtkbbnpjbjakpcaaGreatDoorW.PrintLast
theorem bldTre81_0 {w : World} {l : List (Nat × Value)} {T : TypeId} {x0 : Operand} {v0 : Value} (h0 : ev l x0 = some v0) (o0 : v0.cells = #[v0]:=by rfl) : Yl Tryz.prog w l (.build 81 #[(0,x0)]) T (.agg #[v0]):=fun ρ o h ho _=>by
  have hf : Instr.fill (fun i=>([(0,1)] : List (Nat × Nat))[i]?) #[.map none] [(0,v0)] = some #[v0]:=by
    refine (fill_v o0 rfl (by simp)).trans ?_
    simp [Instr.fill]
  unfold execOp; rw [ho]
  simp [h _ _ h0,Instr.build,Tryz.zeroValue81,Tryz.runUnderlying81,Tryz.sizeOf79,agg_cells,hf]
theorem bslTre35_1_0 {w : World} {l : List (Nat × Value)} {T : TypeId} {x0 : Operand} {c0 : List Value} (h0 : ev l x0 = some (.agg c0.toArray)) (n0 : c0.length = 5:=by rfl) : Mk Tryz.prog w l (.buildSlice 35 1 #[(0,x0)]) T 53 1 c0:=fun ρ o h ho _=>by
  unfold execOp; rw [ho];exact mk1 (P:=Tryz.prog) w Tryz.runUnderlying35 Tryz.sizeOf53 Tryz.zeroValue53 (by decide) (by decide) n0 (h _ _ h0)
theorem elTre35 : ElemT Tryz.prog 35 53 5 56:=elemT_mk Tryz.underlying35 rfl (by kernel_rfl)
section
variable {W w : World} {cs r r2 : List Ch} {bt bm bh : Nat} {xs : List Nod}
theorem CloneM_c (hs : Sep W w cs) (hk : Pick cs (.mpN bm xs) r) : Calls Tryz.prog 50 #[.map (some bm)] w (Rt fun v w'=>∃ b,v = .map (some b)∧Sep W w' (.mpN b xs::cs)):=by
  refine (AnyW.maps_Clone layCl bm _ _ w (hs.own_at hk)).mono ?_;rintro e w' ⟨rfl,rfl⟩;exact ⟨_,rfl,hs.alloc _⟩
theorem Copy_c (hs : Sep W w cs) (hk : Pick cs (.blk bt 81 [.map (some bm)]) r) (hk2 : Pick r (.mpN bm xs) r2) :
    Calls Tryz.prog 34 #[.pointer (some ⟨bt,0,none⟩)] w (Rt fun v w'=>∃ b m,v = .pointer (some ⟨b,0,none⟩)∧Sep W w' (.blk b 81 [.map (some m)]::.mpN m xs::.blk bt 81 [.map (some bm)]::.mpN bm xs::r2)):=by
  have hs:=hs.perm (hk.perm.trans (hk2.perm.cons _));refine enter Tryz.func34 Tryz.ntmps34 rfl rfl fun a (ha : Has a 12 [(0,_)])=>?_;refine wp_seq_k fun K1 hK1=>?_;refine wp_region_lit ?_;refine pY ha (yAssign rfl) fun a ha=>?_;refine pZ ?_;refine hK1 _ _ ?_;refine wp_seq_k fun K2 hK2=>?_;refine wp_seq_k fun K3 hK3=>?_;refine wp_region_lit ?_;refine pY ha (yMove rfl) fun a ha=>?_;refine pY ha (yPtrEqlN Tryz.underlying54 rfl rfl) fun a ha=>?_;refine pZ ?_;refine hK3 _ _ ?_;refine cFalse ha rfl ?_;refine wp_skip ?_;refine hK2 _ _ ?_;refine wp_seq_k fun K4 hK4=>?_;refine wp_region_lit ?_;refine pY ha (yMove rfl) fun a ha=>?_;refine pY ha (yNilP rfl) fun a ha=>?_;refine pY ha (yFieldA Tryz.runUnderlying81 rfl Tryz.sizeOf79 rfl rfl) fun a ha=>?_;refine pY ha (yLoadB Tryz.isAgg79 hs rfl pk0 rfl) fun a ha=>?_;refine pC ha (nCall Tryz.call50 rfl) rfl (CloneM_c hs (.there .here)) ?_;rintro v w ⟨m,rfl,hs⟩ a ha;refine pY ha (bldTre81_0 rfl) fun a ha=>?_;refine pBox (es:=_) ha rfl rfl hs rfl fun b w hs a ha=>?_;refine pY ha (yAssign rfl) fun a ha=>?_;refine pZ ?_;refine hK4 _ _ ?_;refine wp_ret ?_;show bodyPost Tryz.prog Tryz.f34 _ .ret _ _;refine ret1 rfl ha rfl ?_;exact ⟨b,m,rfl,hs⟩
theorem TNodes_c (ho : idsOk xs) (hs : Sep W w cs) (hk : Pick cs (.blk bt 81 [.map (some bm)]) r) (hk2 : Pick r (.mpN bm xs) r2) :
    Calls Tryz.prog 18 #[.pointer (some ⟨bt,0,none⟩)] w (Rt fun v w'=>∃ A c,v = .slice A (sortN xs).length c∧Sep W w' (.ol kNod 53 (.slice A (sortN xs).length c) (sortN xs)::.blk bt 81 [.map (some bm)]::.mpN bm xs::r2)):=by
  have hs:=hs.perm (hk.perm.trans (hk2.perm.cons _));obtain ⟨o1,o2,o3⟩:=ho;obtain ⟨ks,hks⟩ : ∃ ks,sortI (xs.map (·.id)) = ks:=⟨_,rfl⟩
  have hkl : ks.length = xs.length:=by rw [← hks,sortI_length]; simp
  have hsn : sortN xs = ks.map fun k=>findN xs k:=by unfold sortN; rw [hks]
  have hi : ∀ x ∈ xs.map (fun x=>(x.id,Value.agg (cN x).toArray)),i64 x.1:=fun x hx=>by
    obtain ⟨y,hy,rfl⟩:=List.mem_map.1 hx;exact o2 y hy
  have hkk : (xs.map (fun x=>(x.id,Value.agg (cN x).toArray))).map (·.1) = xs.map (·.id):=by simp [Function.comp_def]
  have hn : ((xs.map (fun x=>(x.id,Value.agg (cN x).toArray))).map (·.1)).Nodup:=by rw [hkk]; exact o1
  have hll : (xs.map (fun x=>(x.id,Value.agg (cN x).toArray))).length = xs.length:=by simp
  refine enter Tryz.func18 Tryz.ntmps18 rfl rfl fun a (ha : Has a 29 [(0,_)])=>?_;refine wp_seq_k fun K1 hK1=>?_;refine wp_region_lit ?_;refine pY ha (yAssign rfl) fun a ha=>?_;refine pZ ?_;refine hK1 _ _ ?_;refine wp_seq_k fun K2 hK2=>?_;refine wp_seq_k fun K3 hK3=>?_;refine wp_region_lit ?_;refine pY ha (yMove rfl) fun a ha=>?_;refine pY ha (yPtrEqlN Tryz.underlying54 rfl rfl) fun a ha=>?_;refine pZ ?_;refine hK3 _ _ ?_;refine cFalse ha rfl ?_;refine wp_skip ?_;refine hK2 _ _ ?_;refine wp_seq_k fun K4 hK4=>?_;refine wp_seq_k fun K5 hK5=>?_;refine wp_region_lit ?_;refine pY ha (yMove rfl) fun a ha=>?_;refine pY ha (yNilP rfl) fun a ha=>?_;refine pY ha (yFieldA Tryz.runUnderlying81 rfl Tryz.sizeOf79 rfl rfl) fun a ha=>?_;refine pY ha (yLoadB Tryz.isAgg79 hs rfl pk0 rfl) fun a ha=>?_;refine pC ha (nCall Tryz.call36 rfl) rfl (KeysN_c hs) ?_;rintro v w ⟨bb,rfl,hs⟩ a ha;rw [mpN_mpI] at hs;refine pC ha (nCall Tryz.call35 rfl) rfl (SortedN_c hi hn (by omega) hs .here pk2) ?_;rintro v w ⟨A,c,rfl,hs⟩ a ha;rw [hll] at ha hs;rw [hkk,hks,← mpN_mpI] at hs;have hs:=hs.drop2;refine pY ha (yLenS Tryz.runUnderlying22 rfl) fun a ha=>?_;refine pY ha (yMove rfl) fun a ha=>?_;refine pZ ?_;refine hK5 _ _ ?_;refine wp_block ?_;refine loopI (ι:=Nat × Option Addr × Nat) (fun i a w=>i.1≤xs.length∧Has a 29 [(0,.pointer (some ⟨bt,0,none⟩)),(2,.slice i.2.1 i.1 i.2.2),(12,.slice A xs.length c),(13,.int .i64 xs.length),(14,.int .i64 i.1)]∧Sep W w (.ol kNod 53 (.slice i.2.1 i.1 i.2.2) ((ks.take i.1).map fun k=>findN xs k)::.rd kInt (.slice A xs.length c) ks::.blk bt 81 [.map (some bm)]::.mpN bm xs::r2)) (fun i=>xs.length - i.1) ((0,none,0)) ?_ ?_
  · exact ⟨Nat.zero_le _,has5 ha rfl rfl rfl rfl rfl,hs.ol_nil kNod _ none⟩
  · rintro i a w ⟨h1,ha,hs⟩;obtain ⟨i,D,d⟩:=i; simp only at h1 ha hs;refine wp_seq_k fun K6 hK6=>?_;refine wp_region_lit ?_;refine pY ha (yLss rfl rfl) fun a ha=>?_;refine pZ ?_;refine hK6 _ _ ?_;refine wp_seq_k fun K7 hK7=>?_;refine cDec ha rfl (fun hc15=>?_) (fun hc15=>?_)
    · obtain ⟨k,hk⟩ : ∃ k,ks[i]? = some k:=⟨_,List.getElem?_eq_getElem (by omega)⟩;obtain ⟨b0,off,rfl,hk64,hs⟩:=hs.rd_int (.there .here) hk
      have htl : ((ks.take i).map fun k=>findN xs k).length = i:=by simp; omega
      refine wp_skip ?_;refine hK7 _ _ ?_;refine wp_seq_k fun K8 hK8=>?_;refine wp_block ?_;refine wp_seq_k fun K9 hK9=>?_;refine wp_region_lit ?_;refine pY ha (yIndexA Tryz.runUnderlying22 Tryz.sizeOf3 rfl rfl (by omega) (by omega)) fun a ha=>?_;refine pY ha (yLoadR0 Tryz.isAgg3 hs rfl pk0 rfl) fun a ha=>?_;have hs:=hs.drop;refine pY ha (yAssign rfl) fun a ha=>?_;refine pZ ?_;refine hK9 _ _ ?_;refine wp_region_lit ?_;refine pY ha (yMove rfl) fun a ha=>?_;refine pY ha (yMove rfl) fun a ha=>?_;refine pY ha (yNilP rfl) fun a ha=>?_;refine pY ha (yFieldA Tryz.runUnderlying81 rfl Tryz.sizeOf79 rfl rfl) fun a ha=>?_;refine pY ha (yLoadB Tryz.isAgg79 hs rfl pk2 rfl) fun a ha=>?_;refine pY ha (yMove rfl) fun a ha=>?_;refine pY ha (yLookN hs rfl pk3 rfl) fun a ha=>?_;refine pMake ha (bslTre35_1_0 rfl) hs rfl fun b w hs a ha=>?_;refine pApp1F ha elTre35 rfl rfl hs pk1 pk0 (by intro Z; rfl) rfl (by (unfold maxLen; omega)) (by omega) rfl fun A c w hs a ha=>?_;rw [htl] at ha hs;refine pY ha (yAssign rfl) fun a ha=>?_;refine pZ ?_;refine hK8 _ _ ?_;refine wp_region_lit ?_;refine pY ha (yAddN rfl rfl ⟨by omega,by omega⟩) fun a ha=>?_;refine pY ha (yMove rfl) fun a ha=>?_;refine pZ ?_;refine ⟨(i + 1,A,c),⟨by simp only; omega,has5 ha rfl rfl rfl rfl rfl,?_⟩,by simp only; omega⟩;simp only;rw [List.take_add_one,hk,Option.toList_some,List.map_append,List.map_singleton];exact hs
    · refine wp_exit ?_;refine hK4 _ _ ?_;refine wp_seq_k fun K10 hK10=>?_;refine wp_region_lit ?_;refine pY ha (yMove rfl) fun a ha=>?_;refine pY ha (yAssign rfl) fun a ha=>?_;refine pZ ?_;refine hK10 _ _ ?_;refine wp_ret ?_;show bodyPost Tryz.prog Tryz.f18 _ .ret _ _;refine ret1 rfl ha rfl ?_;obtain rfl : i = xs.length:=by omega
      rw [← hkl,List.take_length,← hsn] at hs
      have hl2 : ks.length = (sortN xs).length:=by rw [hsn]; simp
      rw [hl2] at hs;exact ⟨D,d,by rw [← hl2,hkl],hs.drop2⟩
end
end Go.Proofs.YtkbbnpjbjakpcaaGreatDoor

set_option linter.unusedVariables false
set_option linter.unusedSimpArgs false
namespace Go.Proofs.YtkbbnpjbjakpcaaGreatDoor
open Go.RowKit Go.Proofs.YtkbbnpjbjakpcaaGreatDoorW.PrintLast
/-- What is wanted is picked, one by one; the rest is dropped. -/
inductive Picks : List Ch→List Ch→Prop
  | refl {cs : List Ch} : Picks cs cs
  | cons {cs r t : List Ch} {c : Ch} : Pick cs c r→Picks r t→Picks cs (c::t)
  | skip {cs t : List Ch} {c : Ch} : Picks cs t→Picks (c::cs) t
theorem Picks.perm {cs t : List Ch} (h : Picks cs t) : ∃ d,cs.Perm (d++t):=by
  induction h with
  | refl=>exact ⟨[],.refl _⟩
  | cons hk _ ih=>
    obtain ⟨d,hd⟩:=ih;exact ⟨d,hk.perm.trans ((hd.cons _).trans List.perm_middle.symm)⟩
  | skip _ ih=>
    obtain ⟨d,hd⟩:=ih;exact ⟨_::d,hd.cons _⟩
theorem Sep.dropAll {W w : World} {t : List Ch} : ∀ (d : List Ch),Sep W w (d++t)→Sep W w t
  | [],h=>h
  | _::d,h=>Sep.dropAll d h.drop
theorem Sep.to {W w : World} {cs t : List Ch} (h : Sep W w cs) (hp : Picks cs t) : Sep W w t :=
  let ⟨d,hd⟩:=hp.perm
  Sep.dropAll d (h.perm hd)
section
variable {P : Program} {a : Act} {w : World} {N : Nat} {l : List (Nat × Value)} {fn : Func} {Φ : Value→World→Prop} {W : World} {cs r : List Ch} {T E : TypeId} {b : Nat} {es : List Value}
end
section
variable {W w : World} {N d : Nat} {a : Act} {ops : Array Oper} {Q : Exit→Act→World→Prop} {S : World→Prop} {ds : List Nat} {fuel : Nat} {mq mr m0 : Nat} {ps : String} {af : Array Edge}
  {l : List (Nat × Value)} {T U E : TypeId} {g : Option (Nat × Bool)} {cs r : List Ch} {x y : Operand} {b : Nat} {es vs : List Value}
theorem dStoreAl {sz : Nat} (i mB : Nat) (hi : ops[i]? = some ⟨none,.store U x y,T,ps,af,g⟩) (hc : loneB ops m0 mB i = true) (hds : ds.contains i = true) (ha : Has a N l) (hg : Won ops l g)
    (hz : ∀ w,(sizeOf U).run P w = .ok sz w) (hs : Sep W w cs) (hx : ev l x = some (.pointer (some ⟨b,0,none⟩))) (hy : ev l y = some (.agg vs.toArray)) (hk : Pick cs (.blk b E es) r) (hl : vs.length = sz) (hl2 : es.length = sz) (h1 : vs.all (·.oneCell') = true)
    (h : ∀ w',Sep W w' (.blk b E vs::r)→D P ops Q S ds mq mr fuel mB a w') : D P ops Q S ds mq mr (fuel + 1) m0 a w :=
  let ⟨_,h2,h3⟩:=sStoreA (P:=P) (T:=T) (l:=l) hz hs hx hy hk hl hl2 h1
  dSl i mB hi hc hds ha hg h2 (h _ h3)
end
section
variable {P : Program} {w : World} {l : List (Nat × Value)} {x y : Operand} {T U U' K E : TypeId} {m : Option Nat}
theorem yMapEql (hu : P.underlying U = some (.map K E)) (hx : ev l x = some (.map m)) (hy : ev l y = some (.map none)) : Yl P w l (.binOp .eql U x y U') T (.bool m.isNone) :=
  yBin hx hy (fun _ _=>by rw [eqGuard_at_map]; rfl) (run_eql_map_nil _ U K E m hu)
end
end Go.Proofs.YtkbbnpjbjakpcaaGreatDoor

set_option linter.unusedVariables false
set_option linter.unusedSimpArgs false
namespace Go.Proofs.YtkbbnpjbjakpcaaGreatDoor
open Go.RowKit Go.Lib Go.Proofs.YtkbbnpjbjakpcaaGreatDoorW.PrintLast
theorem bldTree53_1_2 {w : World} {l : List (Nat × Value)} {T : TypeId} {x1 x2 : Operand} {v1 : Value} (h1 : ev l x1 = some v1) {v2 : Value} (h2 : ev l x2 = some v2) (o1 : v1.cells = #[v1]:=by rfl) (o2 : v2.cells = #[v2]:=by rfl) : Yl Tryz.prog w l (.build 53 #[(1,x1),(2,x2)]) T (.agg #[.int .i64 0,v1,v2,.bool false,.string ⟨#[]⟩]):=fun ρ o h ho _=>by
  have hf : Instr.fill (fun i=>([(0,1),(1,1),(2,1),(3,1),(4,1)] : List (Nat × Nat))[i]?) #[.int .i64 0,.int .i64 0,.string ⟨#[]⟩,.bool false,.string ⟨#[]⟩] [(1,v1),(2,v2)] = some #[.int .i64 0,v1,v2,.bool false,.string ⟨#[]⟩]:=by
    refine (fill_v o1 rfl (by simp)).trans ?_;refine (fill_v o2 rfl (by simp)).trans ?_
    simp [Instr.fill]
  unfold execOp; rw [ho]
  simp [h _ _ h1,h _ _ h2,Instr.build,Tryz.zeroValue53,Tryz.runUnderlying53,Tryz.sizeOf3,Tryz.sizeOf4,Tryz.sizeOf9,agg_cells,hf]
theorem bldTree81_0 {w : World} {l : List (Nat × Value)} {T : TypeId} {x0 : Operand} {v0 : Value} (h0 : ev l x0 = some v0) (o0 : v0.cells = #[v0]:=by rfl) : Yl Tryz.prog w l (.build 81 #[(0,x0)]) T (.agg #[v0]):=fun ρ o h ho _=>by
  have hf : Instr.fill (fun i=>([(0,1)] : List (Nat × Nat))[i]?) #[.map none] [(0,v0)] = some #[v0]:=by
    refine (fill_v o0 rfl (by simp)).trans ?_
    simp [Instr.fill]
  unfold execOp; rw [ho]
  simp [h _ _ h0,Instr.build,Tryz.zeroValue81,Tryz.runUnderlying81,Tryz.sizeOf79,agg_cells,hf]
def wtE (e : MapEntry) : Nat:=match e.val with
  | .agg cs=>(match (cs[4]? : Option Value) with
    | some (Value.string s)=>cnt s.data.toList
    | _=>0)
  | _=>0
theorem sum_mE : ∀ (i : Nat) (xs : List Nod),((mE i xs).map wtE).sum = sumN xs
  | i,[]=>rfl
  | i,x::r=>by
    simp only [mE,List.map_cons,List.sum_cons,sumN,sum_mE (i + 1) r]
    rfl
theorem sum_drop {wt : MapEntry→Nat} {e : MapEntry} : ∀ (L : List MapEntry),(L.map (·.born)).Nodup→e ∈ L→(L.map wt).sum = wt e + ((L.filter fun x=>x.born != e.born).map wt).sum∧(L.filter fun x=>x.born != e.born).length < L.length
  | [],_,h=>by cases h
  | y::r,hn,h=>by
    simp only [List.map_cons,List.nodup_cons] at hn
    rcases List.mem_cons.1 h with rfl | h
    · have : (r.filter fun x=>x.born != e.born) = r:=List.filter_eq_self.2 fun x hx=>by
        have : x.born ≠ e.born:=fun e1=>hn.1 (List.mem_map.2 ⟨x,hx,e1⟩)
        simpa using this
      simp [this]
    · have hy : y.born ≠ e.born:=fun e1=>hn.1 (List.mem_map.2 ⟨e,h,e1.symm⟩)
      obtain ⟨h1,h2⟩:=sum_drop (wt:=wt) r hn.2 h
      have hb : (y.born != e.born) = true:=by simpa using hy
      rw [List.filter_cons,if_pos hb];simp only [List.map_cons,List.sum_cons,List.length_cons]
      omega
theorem left_push (es : Array MapEntry) (seen : Array Nat) (b : Nat) : (leftOf es (seen.push b)).toList = (leftOf es seen).toList.filter fun x=>x.born != b:=by
  unfold leftOf;rw [Array.toList_filter,Array.toList_filter,List.filter_filter]
  apply List.filter_congr
  intro x _;rw [Bool.eq_iff_iff]
  simp
  constructor
  · rintro ⟨h1,h2⟩; exact ⟨h2,h1⟩
  · rintro ⟨h1,h2⟩; exact ⟨h2,h1⟩
theorem left_start (es : Array MapEntry) : leftOf es #[] = es:=by
  unfold leftOf
  simp
theorem left_mem {es : Array MapEntry} {seen : Array Nat} {e : MapEntry} (h : e ∈ (leftOf es seen).toList) : e ∈ es.toList:=by
  unfold leftOf at h;rw [Array.toList_filter] at h;exact (List.mem_filter.1 h).1
theorem left_nodup {es : Array MapEntry} (seen : Array Nat) (h : (es.toList.map (·.born)).Nodup) : ((leftOf es seen).toList.map (·.born)).Nodup:=by
  unfold leftOf;rw [Array.toList_filter];exact (List.filter_sublist.map _).nodup h
theorem left_step {es : Array MapEntry} {seen : Array Nat} {e : MapEntry} (hn : (es.toList.map (·.born)).Nodup) (he : e ∈ (leftOf es seen).toList) :
    ((leftOf es seen).toList.map wtE).sum = wtE e + ((leftOf es (seen.push e.born)).toList.map wtE).sum∧(leftOf es (seen.push e.born)).size < (leftOf es seen).size:=by
  have h:=sum_drop (wt:=wtE) _ (left_nodup seen hn) he
  rw [← left_push] at h;exact ⟨h.1,by have:=h.2; simpa using this⟩
def lastN (xs : List Nod) (i : Nat) : Int:=if i = 0 then 0 else (xs.getD (i - 1) noN).id
theorem good_at {xs : List Nod} {i : Nat} {x : Nod} (hx : xs[i]? = some x) : goodN xs i = (sndN x && decide (lastN xs i < x.id)):=by
  unfold goodN lastN;rw [show xs.getD i noN = x by rw [List.getD_eq_getElem?_getD,hx]; rfl]
theorem last_next {xs : List Nod} {i : Nat} {x : Nod} (hx : xs[i]? = some x) : lastN xs (i + 1) = x.id:=by
  unfold lastN;rw [if_neg (by omega),Nat.add_sub_cancel,List.getD_eq_getElem?_getD,hx]; rfl
theorem rising {xs : List Nod} : ∀ {i : Nat} {y : Int},i≤xs.length→allN (goodN xs) i = true→lastN xs i < y→∀ m ∈ xs.take i,m.id < y
  | 0,y,_,_,_,m,hm=>by simp at hm
  | i + 1,y,hi,h,hl,m,hm=>by
    obtain ⟨x,hx⟩ : ∃ x,xs[i]? = some x:=⟨_,List.getElem?_eq_getElem (by omega)⟩;simp only [allN,Bool.and_eq_true] at h;rw [good_at hx] at h;simp only [Bool.and_eq_true,decide_eq_true_eq] at h;rw [last_next hx] at hl;rw [List.take_add_one,hx] at hm;simp only [Option.toList,List.mem_append,List.mem_singleton] at hm
    rcases hm with hm | rfl
    · have:=rising (by omega) h.1 h.2.2 m hm; omega
    · exact hl
def keysN (l : List Nod) : List Key:=(l.map keyN).foldl addK []
theorem keys_next {xs : List Nod} {i : Nat} {x : Nod} (hx : xs[i]? = some x) : keysN (xs.take (i + 1)) = addK (keysN (xs.take i)) (keyN x):=by
  unfold keysN;rw [List.take_add_one,hx]
  simp
theorem mem_addK {ks : List Key} {k q : Key} : q ∈ addK ks k ↔ q ∈ ks∨q = k:=by
  unfold addK
  split
  · rename_i h
    exact ⟨.inl,fun h2=>h2.elim id fun e=>by rw [e]; exact hasK_iff.1 h⟩
  · simp
theorem mem_fold : ∀ (l : List Key) (ks : List Key) (q : Key),q ∈ l.foldl addK ks ↔ q ∈ ks∨q ∈ l
  | [],ks,q=>by simp
  | k::r,ks,q=>by
    rw [List.foldl_cons,mem_fold r,mem_addK,List.mem_cons,or_assoc]
theorem keys_len {xs : List Nod} : ∀ {i : Nat},i≤xs.length→(keysN (xs.take i)).length≤i∧((keysN (xs.take i)).length = i ↔ allN (aloneN xs) i = true)
  | 0,_=>⟨by simp [keysN],by simp [keysN,allN]⟩
  | i + 1,hi=>by
    obtain ⟨x,hx⟩ : ∃ x,xs[i]? = some x:=⟨_,List.getElem?_eq_getElem (by omega)⟩;obtain ⟨h1,h2⟩:=keys_len (xs:=xs) (i:=i) (by omega)
    have hg : xs.getD i noN = x:=by rw [List.getD_eq_getElem?_getD,hx]; rfl
    have ha : aloneN xs i = !hasK (keysN (xs.take i)) (keyN x):=by
      unfold aloneN;rw [hg]
      congr 1
      rw [Bool.eq_iff_iff,hasK_iff,List.any_eq_true];unfold keysN;rw [mem_fold];simp only [List.not_mem_nil,false_or,List.mem_map,decide_eq_true_eq]
    rw [keys_next hx];simp only [allN,Bool.and_eq_true,ha];unfold addK
    by_cases hk : hasK (keysN (xs.take i)) (keyN x) = true
    · rw [if_pos hk,hk];exact ⟨by omega,⟨fun h=>by omega,fun h=>by simp at h⟩⟩
    · rw [if_neg hk]
      have hk' : hasK (keysN (xs.take i)) (keyN x) = false:=by simpa using hk
      rw [hk'];simp only [List.length_append,List.length_cons,List.length_nil,Nat.zero_add,Bool.not_false,and_true];exact ⟨by omega,by rw [← h2]; omega⟩
theorem sumN_le {B : Nat} : ∀ (l : List Nod),(∀ x ∈ l,cnt x.text.data.toList≤B)→sumN l≤l.length * B
  | [],_=>by simp [sumN]
  | x::r,h=>by
    have h1:=sumN_le r (fun y hy=>h y (by simp [hy]))
    have h2:=h x (by simp)
    simp only [sumN,List.length_cons,Nat.add_mul,Nat.one_mul]
    omega
/-- A node as the machine holds it. -/
def mN (x : Nod) : Prop:=x.name.size≤1000000000∧x.text.size≤1000000000
section
variable {W w : World} {cs r r2 : List Ch}
theorem New_c (hs : Sep W w cs) : Calls P 20 #[] w (Rt fun v w'=>∃ b bm,v = .pointer (some ⟨b,0,none⟩)∧Sep W w' (.blk b 81 [.map (some bm)]::.mpN bm []::cs)):=by
  refine enter Tryz.func20 Tryz.ntmps20 rfl rfl fun a (ha : Has a 4 [])=>?_;refine wp_seq_k fun K1 hK1=>?_;refine wp_region_lit ?_;refine pY ha (yAssign rfl) fun a ha=>?_;refine pZ ?_;refine hK1 _ _ ?_;refine wp_seq_k fun K2 hK2=>?_;refine wp_region_lit ?_;refine pMakeMap ha hs rfl fun bm w hs a ha=>?_;refine pY ha (bldTree81_0 rfl) fun a ha=>?_;refine pBox (es:=_) ha rfl rfl hs rfl fun bt w hs a ha=>?_;refine pY ha (yAssign rfl) fun a ha=>?_;refine pZ ?_;refine hK2 _ _ ?_;refine wp_ret ?_;show bodyPost Tryz.prog Tryz.f20 _ .ret _ _;refine ret1 rfl ha rfl ?_;exact ⟨bt,bm,rfl,hs⟩
theorem TreeSound_c (hT : Tabs W) (x : Nod) (hm : mN x) (hs : Sep W w cs) : Calls P 81 #[.agg (cN x).toArray] w (Rt fun v w'=>v = .bool (sndN x)∧Sep W w' cs):=by
  obtain ⟨hm1,hm2⟩:=hm;unfold cN;refine enter Tryz.func81 Tryz.ntmps81 rfl rfl fun a (ha : Has a 42 [(0,_)])=>?_;refine wp_seq_k fun K1 hK1=>?_;refine wp_region_lit ?_;refine pBox (es:=_) ha rfl rfl hs rfl fun b w hs a ha=>?_;refine pY ha (yAssign rfl) fun a ha=>?_;refine pZ ?_;refine hK1 _ _ ?_;refine wp_seq_k fun K2 hK2=>?_;refine wp_region_lit ?_;refine pY ha (yFieldA Tryz.runUnderlying53 rfl Tryz.sizeOf9 rfl rfl) fun a ha=>?_;refine pY ha (yLoadB Tryz.isAgg9 hs rfl pk0 rfl) fun a ha=>?_;refine pC ha (nCall Tryz.call99 rfl) rfl (Count_c hT x.text (by omega) hs) ?_;rintro v w ⟨rfl,hs⟩ a ha;refine pY ha (yMove rfl) fun a ha=>?_
  by_cases hok : okText x.text.data.toList = true
  · rw [if_pos hok] at ha;refine pY ha (yExtract rfl rfl) fun a ha=>?_;refine pY ha (yExtract rfl rfl) fun a ha=>?_;refine pY ha (yAssign rfl) fun a ha=>?_;refine pY ha (yAssign rfl) fun a ha=>?_;refine pZ ?_;refine hK2 _ _ ?_;refine wp_seq_k fun K3 hK3=>?_;refine cutC (fun a w=>Has a 42 [(2,.bool (sndN x))]∧Sep W w cs) ?_ ?_
    · refine wp_region_lit ?_;refine pY ha (yFieldA Tryz.runUnderlying53 rfl Tryz.sizeOf3 rfl rfl) fun a ha=>?_;refine pY ha (yLoadB Tryz.isAgg3 hs rfl pk0 rfl) fun a ha=>?_;refine pY ha (yGeq rfl rfl) fun a ha=>?_;refine pY ha (yMove rfl) fun a ha=>?_;refine gDec (t:=14) ha rfl (fun hg3 hp3=>?_) (fun hg3 hp3=>?_)
      · rw [hg3] at ha;refine gOff ha fun a ha=>?_;refine gOff ha fun a ha=>?_;refine gOff ha fun a ha=>?_;refine pY ha (yPickF rfl rfl) fun a ha=>?_;refine pY ha (yMove rfl) fun a ha=>?_;refine gOff ha fun a ha=>?_;refine gOff ha fun a ha=>?_;refine gOff ha fun a ha=>?_;refine pY ha (yPickF rfl rfl) fun a ha=>?_;refine pY ha (yMove rfl) fun a ha=>?_;refine gOff ha fun a ha=>?_;refine gOff ha fun a ha=>?_;refine pY ha (yPickF rfl rfl) fun a ha=>?_;refine pY ha (yMove rfl) fun a ha=>?_;refine gOff ha fun a ha=>?_;refine gOff ha fun a ha=>?_;refine pY ha (yPickF rfl rfl) fun a ha=>?_;refine pY ha (yMove rfl) fun a ha=>?_;refine gOff ha fun a ha=>?_;refine gOff ha fun a ha=>?_;refine gOff ha fun a ha=>?_;refine gOff ha fun a ha=>?_;refine gOffU ha fun a ha=>?_;refine gOffU ha fun a ha=>?_;refine gOffU ha fun a ha=>?_;refine gOff ha fun a ha=>?_;refine pY ha (yPickF rfl rfl) fun a ha=>?_;refine pY ha (yAssign rfl) fun a ha=>?_;refine pZ ⟨rfl,?_⟩;refine ⟨has1 ha ?_,hs.drop⟩;refine congrArg (fun b=>some (Value.bool b)) ?_;unfold sndN emp;rw [Bool.eq_iff_iff]
        have hok':=hok
        have hc0 : cnt ([] : List UInt8) = 0:=rfl
        simp only [decide_eq_true_eq,decide_eq_false_iff_not,Bool.and_eq_true,Bool.or_eq_true,Bool.not_eq_true',Bool.not_eq_false',Bool.and_eq_false_iff,Bool.or_eq_false_iff,Bool.false_eq_true,true_iff,false_iff,iff_true,iff_false,Bool.not_eq_eq_eq_not,Bool.not_true,Bool.not_false,Bool.not_eq_true] at *
        omega
      · rw [hg3] at ha;refine gOn ha ?_;refine pY ha (yFieldA Tryz.runUnderlying53 rfl Tryz.sizeOf3 rfl rfl) fun a ha=>?_;refine gOn ha ?_;refine pY ha (yLoadB Tryz.isAgg3 hs rfl pk0 rfl) fun a ha=>?_;refine gOn ha ?_;refine pY ha (yLeq rfl rfl) fun a ha=>?_;refine pY ha (yPickT rfl rfl) fun a ha=>?_;refine pY ha (yMove rfl) fun a ha=>?_;refine gSplit (t:=19) ha rfl (fun hg8=>?_) (fun hg8=>?_)
        · rw [hg8] at ha;refine gOff ha fun a ha=>?_;refine gOff ha fun a ha=>?_;refine gOff ha fun a ha=>?_;refine pY ha (yPickF rfl rfl) fun a ha=>?_;refine pY ha (yMove rfl) fun a ha=>?_;refine gOff ha fun a ha=>?_;refine gOff ha fun a ha=>?_;refine pY ha (yPickF rfl rfl) fun a ha=>?_;refine pY ha (yMove rfl) fun a ha=>?_;refine gOff ha fun a ha=>?_;refine gOff ha fun a ha=>?_;refine pY ha (yPickF rfl rfl) fun a ha=>?_;refine pY ha (yMove rfl) fun a ha=>?_;refine gOff ha fun a ha=>?_;refine gOff ha fun a ha=>?_;refine gOff ha fun a ha=>?_;refine gOff ha fun a ha=>?_;refine gOffU ha fun a ha=>?_;refine gOffU ha fun a ha=>?_;refine gOffU ha fun a ha=>?_;refine gOff ha fun a ha=>?_;refine pY ha (yPickF rfl rfl) fun a ha=>?_;refine pY ha (yAssign rfl) fun a ha=>?_;refine pZ ⟨rfl,?_⟩;refine ⟨has1 ha ?_,hs.drop⟩;refine congrArg (fun b=>some (Value.bool b)) ?_;unfold sndN emp;rw [Bool.eq_iff_iff]
          have hok':=hok
          have hc0 : cnt ([] : List UInt8) = 0:=rfl
          simp only [decide_eq_true_eq,decide_eq_false_iff_not,Bool.and_eq_true,Bool.or_eq_true,Bool.not_eq_true',Bool.not_eq_false',Bool.and_eq_false_iff,Bool.or_eq_false_iff,Bool.false_eq_true,true_iff,false_iff,iff_true,iff_false,Bool.not_eq_eq_eq_not,Bool.not_true,Bool.not_false,Bool.not_eq_true] at *
          omega
        · rw [hg8] at ha;refine gOn ha ?_;refine pY ha (yFieldA Tryz.runUnderlying53 rfl Tryz.sizeOf9 rfl rfl) fun a ha=>?_;refine gOn ha ?_;refine pY ha (yLoadB Tryz.isAgg9 hs rfl pk0 rfl) fun a ha=>?_;refine gOn ha ?_;refine pC ha (nCall Tryz.call91 rfl) rfl (Name_c x.name hm1 hs) ?_;rintro v w ⟨rfl,hs⟩ a ha;refine pY ha (yPickT rfl rfl) fun a ha=>?_;refine pY ha (yMove rfl) fun a ha=>?_;refine gSplit (t:=24) ha rfl (fun hg13=>?_) (fun hg13=>?_)
          · rw [hg13] at ha;refine gOff ha fun a ha=>?_;refine gOff ha fun a ha=>?_;refine pY ha (yPickF rfl rfl) fun a ha=>?_;refine pY ha (yMove rfl) fun a ha=>?_;refine gOff ha fun a ha=>?_;refine gOff ha fun a ha=>?_;refine pY ha (yPickF rfl rfl) fun a ha=>?_;refine pY ha (yMove rfl) fun a ha=>?_;refine gOff ha fun a ha=>?_;refine gOff ha fun a ha=>?_;refine gOff ha fun a ha=>?_;refine gOff ha fun a ha=>?_;refine gOffU ha fun a ha=>?_;refine gOffU ha fun a ha=>?_;refine gOffU ha fun a ha=>?_;refine gOff ha fun a ha=>?_;refine pY ha (yPickF rfl rfl) fun a ha=>?_;refine pY ha (yAssign rfl) fun a ha=>?_;refine pZ ⟨rfl,?_⟩;refine ⟨has1 ha ?_,hs.drop⟩;refine congrArg (fun b=>some (Value.bool b)) ?_;unfold sndN emp;rw [Bool.eq_iff_iff]
            have hok':=hok
            have hc0 : cnt ([] : List UInt8) = 0:=rfl
            simp only [decide_eq_true_eq,decide_eq_false_iff_not,Bool.and_eq_true,Bool.or_eq_true,Bool.not_eq_true',Bool.not_eq_false',Bool.and_eq_false_iff,Bool.or_eq_false_iff,Bool.false_eq_true,true_iff,false_iff,iff_true,iff_false,Bool.not_eq_eq_eq_not,Bool.not_true,Bool.not_false,Bool.not_eq_true] at *
            (simp_all; done)
          · rw [hg13] at ha;refine gOn ha ?_;refine pY ha (yMove rfl) fun a ha=>?_;refine gOn ha ?_;refine pY ha (yEql rfl rfl) fun a ha=>?_;refine pY ha (yPickT rfl rfl) fun a ha=>?_;refine pY ha (yMove rfl) fun a ha=>?_;refine gSplit (t:=28) ha rfl (fun hg17=>?_) (fun hg17=>?_)
            · rw [hg17] at ha;refine gOff ha fun a ha=>?_;refine gOff ha fun a ha=>?_;refine pY ha (yPickF rfl rfl) fun a ha=>?_;refine pY ha (yMove rfl) fun a ha=>?_;refine gOff ha fun a ha=>?_;refine gOff ha fun a ha=>?_;refine gOff ha fun a ha=>?_;refine gOff ha fun a ha=>?_;refine gOffU ha fun a ha=>?_;refine gOffU ha fun a ha=>?_;refine gOffU ha fun a ha=>?_;refine gOff ha fun a ha=>?_;refine pY ha (yPickF rfl rfl) fun a ha=>?_;refine pY ha (yAssign rfl) fun a ha=>?_;refine pZ ⟨rfl,?_⟩;refine ⟨has1 ha ?_,hs.drop⟩;refine congrArg (fun b=>some (Value.bool b)) ?_;unfold sndN emp;rw [Bool.eq_iff_iff]
              have hok':=hok
              have hc0 : cnt ([] : List UInt8) = 0:=rfl
              simp only [decide_eq_true_eq,decide_eq_false_iff_not,Bool.and_eq_true,Bool.or_eq_true,Bool.not_eq_true',Bool.not_eq_false',Bool.and_eq_false_iff,Bool.or_eq_false_iff,Bool.false_eq_true,true_iff,false_iff,iff_true,iff_false,Bool.not_eq_eq_eq_not,Bool.not_true,Bool.not_false,Bool.not_eq_true] at *
              (simp_all; done)
            · rw [hg17] at ha;refine gOn ha ?_;refine pY ha (yMove rfl) fun a ha=>?_;refine gOn ha ?_;refine pY ha (yLeq rfl rfl) fun a ha=>?_;refine pY ha (yPickT rfl rfl) fun a ha=>?_;refine pY ha (yMove rfl) fun a ha=>?_;refine gSplit (t:=32) ha rfl (fun hg21=>?_) (fun hg21=>?_)
              · rw [hg21] at ha;refine gOff ha fun a ha=>?_;refine gOff ha fun a ha=>?_;refine gOff ha fun a ha=>?_;refine gOff ha fun a ha=>?_;refine gOffU ha fun a ha=>?_;refine gOffU ha fun a ha=>?_;refine gOffU ha fun a ha=>?_;refine gOff ha fun a ha=>?_;refine pY ha (yPickF rfl rfl) fun a ha=>?_;refine pY ha (yAssign rfl) fun a ha=>?_;refine pZ ⟨rfl,?_⟩;refine ⟨has1 ha ?_,hs.drop⟩;refine congrArg (fun b=>some (Value.bool b)) ?_;unfold sndN emp;rw [Bool.eq_iff_iff]
                have hok':=hok
                have hc0 : cnt ([] : List UInt8) = 0:=rfl
                simp only [decide_eq_true_eq,decide_eq_false_iff_not,Bool.and_eq_true,Bool.or_eq_true,Bool.not_eq_true',Bool.not_eq_false',Bool.and_eq_false_iff,Bool.or_eq_false_iff,Bool.false_eq_true,true_iff,false_iff,iff_true,iff_false,Bool.not_eq_eq_eq_not,Bool.not_true,Bool.not_false,Bool.not_eq_true] at *
                omega
              · rw [hg21] at ha;refine gOn ha ?_;refine pY ha (yFieldA Tryz.runUnderlying53 rfl Tryz.sizeOf4 rfl rfl) fun a ha=>?_;refine gOn ha ?_;refine pY ha (yLoadB Tryz.isAgg4 hs rfl pk0 rfl) fun a ha=>?_;refine gOn ha ?_;refine pY ha (yNot rfl) fun a ha=>?_;refine gOn ha ?_;refine pY ha (yMove rfl) fun a ha=>?_;refine gSplit (t:=36) ha rfl (fun hg25=>?_) (fun hg25=>?_)
                · rw [hg25] at ha;refine gOn ha ?_;refine pY ha (yFieldA Tryz.runUnderlying53 rfl Tryz.sizeOf9 rfl rfl) fun a ha=>?_;refine gOn ha ?_;refine pY ha (yLoadB Tryz.isAgg9 hs rfl pk0 rfl) fun a ha=>?_;refine gOn ha ?_;refine pY ha (yStrEql rfl rfl) fun a ha=>?_;refine gOn ha ?_;refine pY ha (yPickF rfl rfl) fun a ha=>?_;refine pY ha (yPickT rfl rfl) fun a ha=>?_;refine pY ha (yAssign rfl) fun a ha=>?_;refine pZ ⟨rfl,?_⟩;refine ⟨has1 ha ?_,hs.drop⟩;refine congrArg (fun b=>some (Value.bool b)) ?_;unfold sndN emp;rw [Bool.eq_iff_iff]
                  have hok':=hok
                  have hc0 : cnt ([] : List UInt8) = 0:=rfl
                  simp only [decide_eq_true_eq,decide_eq_false_iff_not,Bool.and_eq_true,Bool.or_eq_true,Bool.not_eq_true',Bool.not_eq_false',Bool.and_eq_false_iff,Bool.or_eq_false_iff,Bool.false_eq_true,true_iff,false_iff,iff_true,iff_false,Bool.not_eq_eq_eq_not,Bool.not_true,Bool.not_false,Bool.not_eq_true] at *
                  (simp_all; done)
                · rw [hg25] at ha;refine gOff ha fun a ha=>?_;refine gOff ha fun a ha=>?_;refine gOff ha fun a ha=>?_;refine gOn ha ?_;refine pY ha (yPickT rfl rfl) fun a ha=>?_;refine pY ha (yPickT rfl rfl) fun a ha=>?_;refine pY ha (yAssign rfl) fun a ha=>?_;refine pZ ⟨rfl,?_⟩;refine ⟨has1 ha ?_,hs.drop⟩;refine congrArg (fun b=>some (Value.bool b)) ?_;unfold sndN emp;rw [Bool.eq_iff_iff]
                  have hok':=hok
                  have hc0 : cnt ([] : List UInt8) = 0:=rfl
                  simp only [decide_eq_true_eq,decide_eq_false_iff_not,Bool.and_eq_true,Bool.or_eq_true,Bool.not_eq_true',Bool.not_eq_false',Bool.and_eq_false_iff,Bool.or_eq_false_iff,Bool.false_eq_true,true_iff,false_iff,iff_true,iff_false,Bool.not_eq_eq_eq_not,Bool.not_true,Bool.not_false,Bool.not_eq_true] at *
                  (simp_all; omega)
    rintro a w ⟨ha,hs⟩;refine hK3 _ _ ?_;refine wp_ret ?_;show bodyPost Tryz.prog Tryz.f81 _ .ret _ _;refine ret1 rfl ha rfl ?_;exact ⟨rfl,hs⟩
  · rw [if_neg hok] at ha;refine pY ha (yExtract rfl rfl) fun a ha=>?_;refine pY ha (yExtract rfl rfl) fun a ha=>?_;refine pY ha (yAssign rfl) fun a ha=>?_;refine pY ha (yAssign rfl) fun a ha=>?_;refine pZ ?_;refine hK2 _ _ ?_;refine wp_seq_k fun K4 hK4=>?_;refine cutC (fun a w=>Has a 42 [(2,.bool (sndN x))]∧Sep W w cs) ?_ ?_
    · refine wp_region_lit ?_;refine pY ha (yFieldA Tryz.runUnderlying53 rfl Tryz.sizeOf3 rfl rfl) fun a ha=>?_;refine pY ha (yLoadB Tryz.isAgg3 hs rfl pk0 rfl) fun a ha=>?_;refine pY ha (yGeq rfl rfl) fun a ha=>?_;refine pY ha (yMove rfl) fun a ha=>?_;refine gDec (t:=14) ha rfl (fun hg3 hp3=>?_) (fun hg3 hp3=>?_)
      · rw [hg3] at ha;refine gOff ha fun a ha=>?_;refine gOff ha fun a ha=>?_;refine gOff ha fun a ha=>?_;refine pY ha (yPickF rfl rfl) fun a ha=>?_;refine pY ha (yMove rfl) fun a ha=>?_;refine gOff ha fun a ha=>?_;refine gOff ha fun a ha=>?_;refine gOff ha fun a ha=>?_;refine pY ha (yPickF rfl rfl) fun a ha=>?_;refine pY ha (yMove rfl) fun a ha=>?_;refine gOff ha fun a ha=>?_;refine gOff ha fun a ha=>?_;refine pY ha (yPickF rfl rfl) fun a ha=>?_;refine pY ha (yMove rfl) fun a ha=>?_;refine gOff ha fun a ha=>?_;refine gOff ha fun a ha=>?_;refine pY ha (yPickF rfl rfl) fun a ha=>?_;refine pY ha (yMove rfl) fun a ha=>?_;refine gOff ha fun a ha=>?_;refine gOff ha fun a ha=>?_;refine gOff ha fun a ha=>?_;refine gOff ha fun a ha=>?_;refine gOffU ha fun a ha=>?_;refine gOffU ha fun a ha=>?_;refine gOffU ha fun a ha=>?_;refine gOff ha fun a ha=>?_;refine pY ha (yPickF rfl rfl) fun a ha=>?_;refine pY ha (yAssign rfl) fun a ha=>?_;refine pZ ⟨rfl,?_⟩;refine ⟨has1 ha ?_,hs.drop⟩;refine congrArg (fun b=>some (Value.bool b)) ?_;unfold sndN emp;rw [Bool.eq_iff_iff]
        have hok':=hok
        have hc0 : cnt ([] : List UInt8) = 0:=rfl
        simp only [decide_eq_true_eq,decide_eq_false_iff_not,Bool.and_eq_true,Bool.or_eq_true,Bool.not_eq_true',Bool.not_eq_false',Bool.and_eq_false_iff,Bool.or_eq_false_iff,Bool.false_eq_true,true_iff,false_iff,iff_true,iff_false,Bool.not_eq_eq_eq_not,Bool.not_true,Bool.not_false,Bool.not_eq_true] at *
        omega
      · rw [hg3] at ha;refine gOn ha ?_;refine pY ha (yFieldA Tryz.runUnderlying53 rfl Tryz.sizeOf3 rfl rfl) fun a ha=>?_;refine gOn ha ?_;refine pY ha (yLoadB Tryz.isAgg3 hs rfl pk0 rfl) fun a ha=>?_;refine gOn ha ?_;refine pY ha (yLeq rfl rfl) fun a ha=>?_;refine pY ha (yPickT rfl rfl) fun a ha=>?_;refine pY ha (yMove rfl) fun a ha=>?_;refine gSplit (t:=19) ha rfl (fun hg8=>?_) (fun hg8=>?_)
        · rw [hg8] at ha;refine gOff ha fun a ha=>?_;refine gOff ha fun a ha=>?_;refine gOff ha fun a ha=>?_;refine pY ha (yPickF rfl rfl) fun a ha=>?_;refine pY ha (yMove rfl) fun a ha=>?_;refine gOff ha fun a ha=>?_;refine gOff ha fun a ha=>?_;refine pY ha (yPickF rfl rfl) fun a ha=>?_;refine pY ha (yMove rfl) fun a ha=>?_;refine gOff ha fun a ha=>?_;refine gOff ha fun a ha=>?_;refine pY ha (yPickF rfl rfl) fun a ha=>?_;refine pY ha (yMove rfl) fun a ha=>?_;refine gOff ha fun a ha=>?_;refine gOff ha fun a ha=>?_;refine gOff ha fun a ha=>?_;refine gOff ha fun a ha=>?_;refine gOffU ha fun a ha=>?_;refine gOffU ha fun a ha=>?_;refine gOffU ha fun a ha=>?_;refine gOff ha fun a ha=>?_;refine pY ha (yPickF rfl rfl) fun a ha=>?_;refine pY ha (yAssign rfl) fun a ha=>?_;refine pZ ⟨rfl,?_⟩;refine ⟨has1 ha ?_,hs.drop⟩;refine congrArg (fun b=>some (Value.bool b)) ?_;unfold sndN emp;rw [Bool.eq_iff_iff]
          have hok':=hok
          have hc0 : cnt ([] : List UInt8) = 0:=rfl
          simp only [decide_eq_true_eq,decide_eq_false_iff_not,Bool.and_eq_true,Bool.or_eq_true,Bool.not_eq_true',Bool.not_eq_false',Bool.and_eq_false_iff,Bool.or_eq_false_iff,Bool.false_eq_true,true_iff,false_iff,iff_true,iff_false,Bool.not_eq_eq_eq_not,Bool.not_true,Bool.not_false,Bool.not_eq_true] at *
          omega
        · rw [hg8] at ha;refine gOn ha ?_;refine pY ha (yFieldA Tryz.runUnderlying53 rfl Tryz.sizeOf9 rfl rfl) fun a ha=>?_;refine gOn ha ?_;refine pY ha (yLoadB Tryz.isAgg9 hs rfl pk0 rfl) fun a ha=>?_;refine gOn ha ?_;refine pC ha (nCall Tryz.call91 rfl) rfl (Name_c x.name hm1 hs) ?_;rintro v w ⟨rfl,hs⟩ a ha;refine pY ha (yPickT rfl rfl) fun a ha=>?_;refine pY ha (yMove rfl) fun a ha=>?_;refine gSplit (t:=24) ha rfl (fun hg13=>?_) (fun hg13=>?_)
          · rw [hg13] at ha;refine gOff ha fun a ha=>?_;refine gOff ha fun a ha=>?_;refine pY ha (yPickF rfl rfl) fun a ha=>?_;refine pY ha (yMove rfl) fun a ha=>?_;refine gOff ha fun a ha=>?_;refine gOff ha fun a ha=>?_;refine pY ha (yPickF rfl rfl) fun a ha=>?_;refine pY ha (yMove rfl) fun a ha=>?_;refine gOff ha fun a ha=>?_;refine gOff ha fun a ha=>?_;refine gOff ha fun a ha=>?_;refine gOff ha fun a ha=>?_;refine gOffU ha fun a ha=>?_;refine gOffU ha fun a ha=>?_;refine gOffU ha fun a ha=>?_;refine gOff ha fun a ha=>?_;refine pY ha (yPickF rfl rfl) fun a ha=>?_;refine pY ha (yAssign rfl) fun a ha=>?_;refine pZ ⟨rfl,?_⟩;refine ⟨has1 ha ?_,hs.drop⟩;refine congrArg (fun b=>some (Value.bool b)) ?_;unfold sndN emp;rw [Bool.eq_iff_iff]
            have hok':=hok
            have hc0 : cnt ([] : List UInt8) = 0:=rfl
            simp only [decide_eq_true_eq,decide_eq_false_iff_not,Bool.and_eq_true,Bool.or_eq_true,Bool.not_eq_true',Bool.not_eq_false',Bool.and_eq_false_iff,Bool.or_eq_false_iff,Bool.false_eq_true,true_iff,false_iff,iff_true,iff_false,Bool.not_eq_eq_eq_not,Bool.not_true,Bool.not_false,Bool.not_eq_true] at *
            (simp_all; done)
          · rw [hg13] at ha;refine gOn ha ?_;refine pY ha (yMove rfl) fun a ha=>?_;refine gOn ha ?_;refine pY ha (yEql rfl rfl) fun a ha=>?_;refine pY ha (yPickT rfl rfl) fun a ha=>?_;refine pY ha (yMove rfl) fun a ha=>?_;refine gSplit (t:=28) ha rfl (fun hg17=>?_) (fun hg17=>?_)
            · rw [hg17] at ha;refine gOff ha fun a ha=>?_;refine gOff ha fun a ha=>?_;refine pY ha (yPickF rfl rfl) fun a ha=>?_;refine pY ha (yMove rfl) fun a ha=>?_;refine gOff ha fun a ha=>?_;refine gOff ha fun a ha=>?_;refine gOff ha fun a ha=>?_;refine gOff ha fun a ha=>?_;refine gOffU ha fun a ha=>?_;refine gOffU ha fun a ha=>?_;refine gOffU ha fun a ha=>?_;refine gOff ha fun a ha=>?_;refine pY ha (yPickF rfl rfl) fun a ha=>?_;refine pY ha (yAssign rfl) fun a ha=>?_;refine pZ ⟨rfl,?_⟩;refine ⟨has1 ha ?_,hs.drop⟩;refine congrArg (fun b=>some (Value.bool b)) ?_;unfold sndN emp;rw [Bool.eq_iff_iff]
              have hok':=hok
              have hc0 : cnt ([] : List UInt8) = 0:=rfl
              simp only [decide_eq_true_eq,decide_eq_false_iff_not,Bool.and_eq_true,Bool.or_eq_true,Bool.not_eq_true',Bool.not_eq_false',Bool.and_eq_false_iff,Bool.or_eq_false_iff,Bool.false_eq_true,true_iff,false_iff,iff_true,iff_false,Bool.not_eq_eq_eq_not,Bool.not_true,Bool.not_false,Bool.not_eq_true] at *
              (simp_all; done)
            · rw [hg17] at ha;refine gOn ha ?_;refine pY ha (yMove rfl) fun a ha=>?_;refine gOn ha ?_;refine pY ha (yLeq rfl rfl) fun a ha=>?_;refine pY ha (yPickT rfl rfl) fun a ha=>?_;refine pY ha (yMove rfl) fun a ha=>?_;refine gSplit (t:=32) ha rfl (fun hg21=>?_) (fun hg21=>?_)
              · rw [hg21] at ha;refine gOff ha fun a ha=>?_;refine gOff ha fun a ha=>?_;refine gOff ha fun a ha=>?_;refine gOff ha fun a ha=>?_;refine gOffU ha fun a ha=>?_;refine gOffU ha fun a ha=>?_;refine gOffU ha fun a ha=>?_;refine gOff ha fun a ha=>?_;refine pY ha (yPickF rfl rfl) fun a ha=>?_;refine pY ha (yAssign rfl) fun a ha=>?_;refine pZ ⟨rfl,?_⟩;refine ⟨has1 ha ?_,hs.drop⟩;refine congrArg (fun b=>some (Value.bool b)) ?_;unfold sndN emp;rw [Bool.eq_iff_iff]
                have hok':=hok
                have hc0 : cnt ([] : List UInt8) = 0:=rfl
                simp only [decide_eq_true_eq,decide_eq_false_iff_not,Bool.and_eq_true,Bool.or_eq_true,Bool.not_eq_true',Bool.not_eq_false',Bool.and_eq_false_iff,Bool.or_eq_false_iff,Bool.false_eq_true,true_iff,false_iff,iff_true,iff_false,Bool.not_eq_eq_eq_not,Bool.not_true,Bool.not_false,Bool.not_eq_true] at *
                omega
              · rw [hg21] at ha;refine gOn ha ?_;refine pY ha (yFieldA Tryz.runUnderlying53 rfl Tryz.sizeOf4 rfl rfl) fun a ha=>?_;refine gOn ha ?_;refine pY ha (yLoadB Tryz.isAgg4 hs rfl pk0 rfl) fun a ha=>?_;refine gOn ha ?_;refine pY ha (yNot rfl) fun a ha=>?_;refine gOn ha ?_;refine pY ha (yMove rfl) fun a ha=>?_;refine gSplit (t:=36) ha rfl (fun hg25=>?_) (fun hg25=>?_)
                · rw [hg25] at ha;refine gOn ha ?_;refine pY ha (yFieldA Tryz.runUnderlying53 rfl Tryz.sizeOf9 rfl rfl) fun a ha=>?_;refine gOn ha ?_;refine pY ha (yLoadB Tryz.isAgg9 hs rfl pk0 rfl) fun a ha=>?_;refine gOn ha ?_;refine pY ha (yStrEql rfl rfl) fun a ha=>?_;refine gOn ha ?_;refine pY ha (yPickF rfl rfl) fun a ha=>?_;refine pY ha (yPickT rfl rfl) fun a ha=>?_;refine pY ha (yAssign rfl) fun a ha=>?_;refine pZ ⟨rfl,?_⟩;refine ⟨has1 ha ?_,hs.drop⟩;refine congrArg (fun b=>some (Value.bool b)) ?_;unfold sndN emp;rw [Bool.eq_iff_iff]
                  have hok':=hok
                  have hc0 : cnt ([] : List UInt8) = 0:=rfl
                  simp only [decide_eq_true_eq,decide_eq_false_iff_not,Bool.and_eq_true,Bool.or_eq_true,Bool.not_eq_true',Bool.not_eq_false',Bool.and_eq_false_iff,Bool.or_eq_false_iff,Bool.false_eq_true,true_iff,false_iff,iff_true,iff_false,Bool.not_eq_eq_eq_not,Bool.not_true,Bool.not_false,Bool.not_eq_true] at *
                  omega
                · rw [hg25] at ha;refine gOff ha fun a ha=>?_;refine gOff ha fun a ha=>?_;refine gOff ha fun a ha=>?_;refine gOn ha ?_;refine pY ha (yPickT rfl rfl) fun a ha=>?_;refine pY ha (yPickT rfl rfl) fun a ha=>?_;refine pY ha (yAssign rfl) fun a ha=>?_;refine pZ ⟨rfl,?_⟩;refine ⟨has1 ha ?_,hs.drop⟩;refine congrArg (fun b=>some (Value.bool b)) ?_;unfold sndN emp;rw [Bool.eq_iff_iff]
                  have hok':=hok
                  have hc0 : cnt ([] : List UInt8) = 0:=rfl
                  simp only [decide_eq_true_eq,decide_eq_false_iff_not,Bool.and_eq_true,Bool.or_eq_true,Bool.not_eq_true',Bool.not_eq_false',Bool.and_eq_false_iff,Bool.or_eq_false_iff,Bool.false_eq_true,true_iff,false_iff,iff_true,iff_false,Bool.not_eq_eq_eq_not,Bool.not_true,Bool.not_false,Bool.not_eq_true] at *
                  omega
    rintro a w ⟨ha,hs⟩;refine hK4 _ _ ?_;refine wp_ret ?_;show bodyPost Tryz.prog Tryz.f81 _ .ret _ _;refine ret1 rfl ha rfl ?_;exact ⟨rfl,hs⟩
theorem Rooted_c {bt bm : Nat} {xs : List Nod} (id : Int) (hl : xs.length≤1000000000) (hs : Sep W w cs) (hk : Pick cs (.blk bt 81 [.map (some bm)]) r) (hk2 : Pick r (.mpN bm xs) r2) :
    Calls P 82 #[.pointer (some ⟨bt,0,none⟩),.int .i64 id] w (Rt fun v w'=>v = .bool (rooted xs xs.length id)∧Sep W w' cs):=by
  have hp:=hk.perm.trans (hk2.perm.cons _)
  have hs:=hs.perm hp;refine enter Tryz.func82 Tryz.ntmps82 rfl rfl fun a (ha : Has a 24 [(0,_),(1,_)])=>?_;refine wp_seq_k fun K1 hK1=>?_;refine wp_region_lit ?_;refine pY ha (yAssign rfl) fun a ha=>?_;refine pZ ?_;refine hK1 _ _ ?_;refine scopeN (ι:=Nat × Int) 0 (fun i a w=>i.1≤xs.length∧rooted xs xs.length id = rooted xs (xs.length - i.1) i.2∧Has a 24 [(0,.pointer (some ⟨bt,0,none⟩)),(1,.int .i64 i.2),(5,.int .i64 i.1)]∧Sep W w (.blk bt 81 [.map (some bm)]::.mpN bm xs::r2)) (fun i=>xs.length - i.1) 0 ?_ ?_
  · refine wp_seq_k fun K2 hK2=>?_;refine wp_region_lit ?_;refine pY ha (yAssign rfl) fun a ha=>?_;refine pZ ?_;refine hK2 _ _ ?_;refine wp_seq_k fun K3 hK3=>?_;refine wp_label ?_;refine hK3 _ _ ?_;refine wp_seq_k fun K4 hK4=>?_;refine wp_seq_k fun K5 hK5=>?_
    (obtain ⟨n,hn0⟩ : ∃ n : Nat,(0 : Int) = n:=⟨0,rfl⟩
     have ha : Has a 24 [(0,.pointer (some ⟨bt,0,none⟩)),(1,.int .i64 id),(5,.int .i64 n)]:=has3 ha rfl rfl (by rw [← hn0]; rfl)
     obtain ⟨d,hd⟩ : ∃ d,d = id:=⟨_,rfl⟩;rw [← hd] at ha
     have h1 : n≤xs.length:=by omega
     have h2 : rooted xs xs.length id = rooted xs (xs.length - n) d:=by rw [hd,show n = 0 by omega]; rfl)
    refine wp_region_lit ?_;refine pY ha (yMove rfl) fun a ha=>?_;refine pY ha (yEql rfl rfl) fun a ha=>?_;refine pZ ?_;refine hK5 _ _ ?_;refine cDec ha rfl (fun hc7=>?_) (fun hc7=>?_)
    · refine wp_seq_k fun K6 hK6=>?_;refine wp_region_lit ?_;refine pY ha (yAssign rfl) fun a ha=>?_;refine pZ ?_;refine hK6 _ _ ?_;refine wp_ret ?_;show bodyPost Tryz.prog Tryz.f82 _ .ret _ _;refine ret1 rfl ha rfl ?_;refine ⟨congrArg Value.bool ?_,hs.perm hp.symm⟩;rw [h2]
      (cases xs.length - n <;> (simp [rooted,hc7]; done))
    · have hr0 : ∀ k,rooted xs (k + 1) d = rooted xs k (findN xs d).parent:=fun k=>by rw [rooted,decide_eq_false hc7]; rfl
      refine wp_skip ?_;refine hK4 _ _ ?_;refine wp_seq_k fun K7 hK7=>?_;refine wp_seq_k fun K8 hK8=>?_;refine wp_region_lit ?_;refine pY ha (yMove rfl) fun a ha=>?_;refine pY ha (yAddN rfl rfl ⟨by omega,by omega⟩) fun a ha=>?_;refine pY ha (yAssign rfl) fun a ha=>?_;refine pZ ?_;refine hK8 _ _ ?_;refine wp_seq_k fun K9 hK9=>?_;refine wp_region_lit ?_;refine pY ha (yMove rfl) fun a ha=>?_;refine pY ha (yMove rfl) fun a ha=>?_;refine pY ha (yNilP rfl) fun a ha=>?_;refine pY ha (yFieldA Tryz.runUnderlying81 rfl Tryz.sizeOf79 rfl rfl) fun a ha=>?_;refine pY ha (yLoadB Tryz.isAgg79 hs rfl pk0 rfl) fun a ha=>?_;refine pY ha (yLenN hs rfl pk1) fun a ha=>?_;refine pY ha (yGtr rfl rfl) fun a ha=>?_;refine pZ ?_;refine hK9 _ _ ?_;refine cDec ha rfl (fun hc16=>?_) (fun hc16=>?_)
      · refine wp_seq_k fun K10 hK10=>?_;refine wp_region_lit ?_;refine pY ha (yAssign rfl) fun a ha=>?_;refine pZ ?_;refine hK10 _ _ ?_;refine wp_ret ?_;show bodyPost Tryz.prog Tryz.f82 _ .ret _ _;refine ret1 rfl ha rfl ?_;refine ⟨congrArg Value.bool ?_,hs.perm hp.symm⟩;rw [h2]
        (rw [show xs.length - n = 0 by omega,rooted,decide_eq_false hc7])
      · have hr : rooted xs xs.length id = rooted xs (xs.length - (n + 1)) (findN xs d).parent:=by rw [h2,show xs.length - n = xs.length - (n + 1) + 1 by omega,hr0]
        refine wp_skip ?_;refine hK7 _ _ ?_;refine wp_seq_k fun K11 hK11=>?_;refine wp_region_lit ?_;refine pY ha (yMove rfl) fun a ha=>?_;refine pY ha (yNilP rfl) fun a ha=>?_;refine pY ha (yFieldA Tryz.runUnderlying81 rfl Tryz.sizeOf79 rfl rfl) fun a ha=>?_;refine pY ha (yLoadB Tryz.isAgg79 hs rfl pk0 rfl) fun a ha=>?_;refine pY ha (yMove rfl) fun a ha=>?_;refine pY ha (yLookN hs rfl pk1 rfl) fun a ha=>?_;refine pY ha (yField Tryz.runUnderlying53 rfl Tryz.isAgg3 rfl rfl) fun a ha=>?_;refine pY ha (yAssign rfl) fun a ha=>?_;refine pZ ?_;refine hK11 _ _ ?_;refine wp_goto ?_
        repeat (with_reducible first | refine gThen ?_ | refine gBlock ?_)
        refine gxL ?_;refine ⟨(n + 1,(findN xs d).parent),by simp only; omega,hr,has3 ha rfl rfl rfl,hs⟩
  · rintro i a w ⟨h1,h2,ha,hs⟩;refine ⟨_,rfl,?_⟩;refine wp_seq_k fun K12 hK12=>?_;refine wp_skip ?_;refine hK12 _ _ ?_;refine wp_seq_k fun K13 hK13=>?_;refine wp_seq_k fun K14 hK14=>?_
    (obtain ⟨n,d⟩:=i; simp only at h1 h2 ha hs; obtain hnn : n = n:=rfl)
    refine wp_region_lit ?_;refine pY ha (yMove rfl) fun a ha=>?_;refine pY ha (yEql rfl rfl) fun a ha=>?_;refine pZ ?_;refine hK14 _ _ ?_;refine cDec ha rfl (fun hc7=>?_) (fun hc7=>?_)
    · refine wp_seq_k fun K15 hK15=>?_;refine wp_region_lit ?_;refine pY ha (yAssign rfl) fun a ha=>?_;refine pZ ?_;refine hK15 _ _ ?_;refine wp_ret ?_;show bodyPost Tryz.prog Tryz.f82 _ .ret _ _;refine ret1 rfl ha rfl ?_;refine ⟨congrArg Value.bool ?_,hs.perm hp.symm⟩;rw [h2]
      (cases xs.length - n <;> (simp [rooted,hc7]; done))
    · have hr0 : ∀ k,rooted xs (k + 1) d = rooted xs k (findN xs d).parent:=fun k=>by rw [rooted,decide_eq_false hc7]; rfl
      refine wp_skip ?_;refine hK13 _ _ ?_;refine wp_seq_k fun K16 hK16=>?_;refine wp_seq_k fun K17 hK17=>?_;refine wp_region_lit ?_;refine pY ha (yMove rfl) fun a ha=>?_;refine pY ha (yAddN rfl rfl ⟨by omega,by omega⟩) fun a ha=>?_;refine pY ha (yAssign rfl) fun a ha=>?_;refine pZ ?_;refine hK17 _ _ ?_;refine wp_seq_k fun K18 hK18=>?_;refine wp_region_lit ?_;refine pY ha (yMove rfl) fun a ha=>?_;refine pY ha (yMove rfl) fun a ha=>?_;refine pY ha (yNilP rfl) fun a ha=>?_;refine pY ha (yFieldA Tryz.runUnderlying81 rfl Tryz.sizeOf79 rfl rfl) fun a ha=>?_;refine pY ha (yLoadB Tryz.isAgg79 hs rfl pk0 rfl) fun a ha=>?_;refine pY ha (yLenN hs rfl pk1) fun a ha=>?_;refine pY ha (yGtr rfl rfl) fun a ha=>?_;refine pZ ?_;refine hK18 _ _ ?_;refine cDec ha rfl (fun hc16=>?_) (fun hc16=>?_)
      · refine wp_seq_k fun K19 hK19=>?_;refine wp_region_lit ?_;refine pY ha (yAssign rfl) fun a ha=>?_;refine pZ ?_;refine hK19 _ _ ?_;refine wp_ret ?_;show bodyPost Tryz.prog Tryz.f82 _ .ret _ _;refine ret1 rfl ha rfl ?_;refine ⟨congrArg Value.bool ?_,hs.perm hp.symm⟩;rw [h2]
        (rw [show xs.length - n = 0 by omega,rooted,decide_eq_false hc7])
      · have hr : rooted xs xs.length id = rooted xs (xs.length - (n + 1)) (findN xs d).parent:=by rw [h2,show xs.length - n = xs.length - (n + 1) + 1 by omega,hr0]
        refine wp_skip ?_;refine hK16 _ _ ?_;refine wp_seq_k fun K20 hK20=>?_;refine wp_region_lit ?_;refine pY ha (yMove rfl) fun a ha=>?_;refine pY ha (yNilP rfl) fun a ha=>?_;refine pY ha (yFieldA Tryz.runUnderlying81 rfl Tryz.sizeOf79 rfl rfl) fun a ha=>?_;refine pY ha (yLoadB Tryz.isAgg79 hs rfl pk0 rfl) fun a ha=>?_;refine pY ha (yMove rfl) fun a ha=>?_;refine pY ha (yLookN hs rfl pk1 rfl) fun a ha=>?_;refine pY ha (yField Tryz.runUnderlying53 rfl Tryz.isAgg3 rfl rfl) fun a ha=>?_;refine pY ha (yAssign rfl) fun a ha=>?_;refine pZ ?_;refine hK20 _ _ ?_;refine wp_goto ?_
        repeat (with_reducible first | refine gThen ?_ | refine gBlock ?_)
        refine gxL ?_;refine ⟨(n + 1,(findN xs d).parent),⟨by simp only; omega,hr,has3 ha rfl rfl rfl,hs⟩,by simp only; omega⟩
theorem All_c (hT : Tabs W) {bt bm : Nat} {xs : List Nod} (hl : xs.length≤1000000000) (hok : ∀ x ∈ xs,okText x.text.data.toList = true∧cnt x.text.data.toList≤2000∧x.text.size≤1000000000) (hs : Sep W w cs) (hk : Pick cs (.blk bt 81 [.map (some bm)]) r) (hk2 : Pick r (.mpN bm xs) r2) :
    Calls P 83 #[.pointer (some ⟨bt,0,none⟩)] w (Rt fun v w'=>v = .int .i64 (sumN xs)∧Sep W w' cs):=by
  have hp:=hk.perm.trans (hk2.perm.cons _)
  have hs:=hs.perm hp
  have hsum:=sumN_le (B:=2000) xs (fun x hx=>(hok x hx).2.1)
  have hnd:=mE_nodup 0 xs
  refine enter Tryz.func83 Tryz.ntmps83 rfl rfl fun a (ha : Has a 26 [(0,_)])=>?_;refine wp_seq_k fun K1 hK1=>?_;refine wp_region_lit ?_;refine pY ha (yAssign rfl) fun a ha=>?_;refine pZ ?_;refine hK1 _ _ ?_;refine wp_seq_k fun K2 hK2=>?_;refine wp_seq_k fun K3 hK3=>?_;refine wp_region_lit ?_;refine pY ha (yMove rfl) fun a ha=>?_;refine pY ha (yNilP rfl) fun a ha=>?_;refine pY ha (yFieldA Tryz.runUnderlying81 rfl Tryz.sizeOf79 rfl rfl) fun a ha=>?_;refine pY ha (yLoadB Tryz.isAgg79 hs rfl pk0 rfl) fun a ha=>?_;refine pRangeM ha Tryz.runUnderlying79 hs rfl (.there .here) rfl fun bi w hs a ha=>?_;refine pZ ?_;refine hK3 _ _ ?_;refine wp_block ?_;refine loopI (ι:=Nat × Array Nat) (fun i a w=>i.1 + ((leftOf (mE 0 xs).toArray i.2).toList.map wtE).sum = sumN xs∧Has a 26 [(2,.int .i64 i.1),(11,.pointer (some ⟨bi,0,none⟩))]∧Sep W w (.own bi (.mapIter (some bm) xs.length i.2 xs.length)::.blk bt 81 [.map (some bm)]::.mpN bm xs::r2)) (fun i=>(leftOf (mE 0 xs).toArray i.2).size) ((0,#[])) ?_ ?_
  · exact ⟨by rw [left_start]; simp [sum_mE],has2 ha rfl rfl,hs⟩
  · rintro i a w ⟨h1,ha,hs⟩;obtain ⟨n,seen⟩:=i; simp only at h1 ha hs;refine wp_seq_k fun K4 hK4=>?_;refine wp_region_lit ?_;refine pNextM ha hs rfl .here (.there .here) (fun e he=>by have:=(mE_mem 0 xs e (by simpa using he)).2.2; omega) rfl (fun h0 a ha=>?_) (fun e he w hs a ha=>?_)
    · skip
      refine pY ha (yExtract rfl rfl) fun a ha=>?_;refine pZ ?_;refine hK4 _ _ ?_;refine wp_seq_k fun K5 hK5=>?_;refine cFalse ha rfl ?_;refine wp_exit ?_;refine hK2 _ _ ?_;refine wp_seq_k fun K6 hK6=>?_
      have h3 : (leftOf (mE 0 xs).toArray seen).toList = []:=by
        apply List.eq_nil_of_length_eq_zero
        simpa using h0
      rw [h3] at h1;simp only [List.map_nil,List.sum_nil,Nat.add_zero] at h1;refine wp_region_lit ?_;refine pY ha (yMove rfl) fun a ha=>?_;refine pY ha (yAssign rfl) fun a ha=>?_;refine pZ ?_;refine hK6 _ _ ?_;refine wp_ret ?_;show bodyPost Tryz.prog Tryz.f83 _ .ret _ _;refine ret1 rfl ha rfl ?_;rw [← h1]; exact ⟨rfl,hs.drop.perm hp.symm⟩
    · obtain ⟨⟨x,hx,hk1,hv1⟩,_⟩:=mE_mem 0 xs e (by simpa using left_mem he)
      have hee:=left_mem he
      obtain ⟨hs1,hs2⟩:=left_step (es:=(mE 0 xs).toArray) (by simpa using hnd) he;obtain ⟨ek,evv,eb⟩:=e;simp only at hk1 hv1;subst hk1;subst hv1
      change ((leftOf (mE 0 xs).toArray seen).toList.map wtE).sum = cnt x.text.data.toList + ((leftOf (mE 0 xs).toArray (seen.push eb)).toList.map wtE).sum at hs1
      change (leftOf (mE 0 xs).toArray (seen.push eb)).size < _ at hs2
      obtain ⟨hx1,hx2,hx3⟩:=hok x hx
      skip
      refine pY ha (yExtract rfl rfl) fun a ha=>?_;refine pZ ?_;refine hK4 _ _ ?_;refine wp_seq_k fun K7 hK7=>?_;refine cTrue ha rfl ?_;refine wp_skip ?_;refine hK7 _ _ ?_;refine wp_block ?_;refine wp_seq_k fun K8 hK8=>?_;refine wp_region_lit ?_;refine pY ha (yEntry (e:=⟨.int .i64 x.id,.agg (cN x).toArray,eb⟩) hs rfl .here (.there .here) hee (by simpa using hnd)) fun a ha=>?_;refine pY ha (yExtract rfl rfl) fun a ha=>?_;refine pAlloc (zs:=[.int .i64 0,.int .i64 0,.string ⟨#[]⟩,.bool false,.string ⟨#[]⟩]) ha Tryz.zeroValue53 rfl hs rfl fun b w hs a ha=>?_;unfold cN at ha;refine pStoreA ha Tryz.sizeOf53 hs rfl rfl pk0 rfl rfl rfl fun w hs=>?_;refine pZ ?_;refine hK8 _ _ ?_;refine wp_seq_k fun K9 hK9=>?_;refine wp_region_lit ?_;refine pY ha (yFieldA Tryz.runUnderlying53 rfl Tryz.sizeOf9 rfl rfl) fun a ha=>?_;refine pY ha (yLoadB Tryz.isAgg9 hs rfl pk0 rfl) fun a ha=>?_;refine pC ha (nCall Tryz.call99 rfl) rfl (Count_c hT x.text (by omega) hs) ?_;rintro v w ⟨rfl,hs⟩ a ha;rw [if_pos hx1] at ha;refine pY ha (yMove rfl) fun a ha=>?_;refine pY ha (yExtract rfl rfl) fun a ha=>?_;refine pY ha (yExtract rfl rfl) fun a ha=>?_;refine pY ha (yAssign rfl) fun a ha=>?_;refine pY ha (yAssign rfl) fun a ha=>?_;refine pZ ?_;refine hK9 _ _ ?_;refine wp_region_lit ?_;refine pY ha (yMove rfl) fun a ha=>?_;refine pY ha (yMove rfl) fun a ha=>?_;refine pY ha (yAddN rfl rfl ⟨by omega,by omega⟩) fun a ha=>?_;refine pY ha (yAssign rfl) fun a ha=>?_;refine pZ ?_;exact ⟨(n + cnt x.text.data.toList,seen.push eb),⟨by simp only; omega,has2 ha rfl rfl,hs.drop⟩,hs2⟩
theorem has8 {N : Nat} {a : Act} {l : List (Nat × Value)} {t1 t2 t3 t4 t5 t6 t7 t8 : Nat} {v1 v2 v3 v4 v5 v6 v7 v8 : Value} (ha : Has a N l) (h1 : lk l t1 = some v1) (h2 : lk l t2 = some v2) (h3 : lk l t3 = some v3) (h4 : lk l t4 = some v4) (h5 : lk l t5 = some v5) (h6 : lk l t6 = some v6) (h7 : lk l t7 = some v7) (h8 : lk l t8 = some v8) :
    Has a N [(t1,v1),(t2,v2),(t3,v3),(t4,v4),(t5,v5),(t6,v6),(t7,v7),(t8,v8)]:=ha.cons (ha.cons (has6 ha h3 h4 h5 h6 h7 h8) h2) h1
theorem has7 {N : Nat} {a : Act} {l : List (Nat × Value)} {t1 t2 t3 t4 t5 t6 t7 : Nat} {v1 v2 v3 v4 v5 v6 v7 : Value} (ha : Has a N l) (h1 : lk l t1 = some v1) (h2 : lk l t2 = some v2) (h3 : lk l t3 = some v3) (h4 : lk l t4 = some v4) (h5 : lk l t5 = some v5) (h6 : lk l t6 = some v6) (h7 : lk l t7 = some v7) :
    Has a N [(t1,v1),(t2,v2),(t3,v3),(t4,v4),(t5,v5),(t6,v6),(t7,v7)]:=ha.cons (has6 ha h2 h3 h4 h5 h6 h7) h1
/-- What a loaded tree comes to. -/
theorem load_yes {xs : List Nod} (h1 : allN (goodN xs) xs.length = true) (h2 : allN (fun i=>standN xs (xs.getD i noN)) xs.length = true) : loadOk xs = (decide ((keysN xs).length = xs.length) && decide (xs.length≤100) && decide (sumN xs≤10000)):=by
  have hk:=(keys_len (xs:=xs) (Nat.le_refl _)).2
  rw [List.take_length] at hk;unfold loadOk;rw [h1,h2]
  have : allN (aloneN xs) xs.length = decide ((keysN xs).length = xs.length):=by
    rw [Bool.eq_iff_iff,decide_eq_true_eq]; exact hk.symm
  rw [this]; rfl
theorem Load_c (hT : Tabs W) {A : Option Addr} {n c : Nat} {xs : List Nod} (hm : ∀ x ∈ xs,mN x) (hlen : xs.length≤1000000000) (hs : Sep W w cs) (hk : Pick cs (.rd kNod (.slice A n c) xs) r) :
    Calls P 47 #[.slice A n c] w (Rt fun v w'=>if loadOk xs = true then ∃ b bm,v = .tuple #[.pointer (some ⟨b,0,none⟩),.int .i64 0]∧Sep W w' (.blk b 81 [.map (some bm)]::.mpN bm xs::cs) else v = .tuple #[.pointer none,.int .i64 1]∧Sep W w' cs):=by
  obtain ⟨rfl,hl⟩:=hs.rd_shape hk;have hs:=hs.cpR hk;refine enter Tryz.func47 Tryz.ntmps47 rfl rfl fun a (ha : Has a 92 [(0,_)])=>?_;refine wp_seq_k fun K1 hK1=>?_;refine wp_region_lit ?_;refine pY ha (yAssign rfl) fun a ha=>?_;refine pY ha (yAssign rfl) fun a ha=>?_;refine pZ ?_;refine hK1 _ _ ?_;refine wp_seq_k fun K2 hK2=>?_;refine wp_region_lit ?_;refine pC ha (nCall Tryz.call20 rfl) rfl (New_c hs) ?_;rintro v w ⟨bt,bm,rfl,hs⟩ a ha;refine pY ha (yAssign rfl) fun a ha=>?_;refine pZ ?_;refine hK2 _ _ ?_;refine wp_seq_k fun K3 hK3=>?_;refine wp_region_lit ?_;refine pY ha (yAssign rfl) fun a ha=>?_;refine pZ ?_;refine hK3 _ _ ?_;refine wp_seq_k fun K4 hK4=>?_;refine wp_seq_k fun K5 hK5=>?_;refine wp_region_lit ?_;refine pY ha (yMove rfl) fun a ha=>?_;refine pY ha (yLenS Tryz.runUnderlying35 rfl) fun a ha=>?_;refine pY ha (yMove rfl) fun a ha=>?_;refine pZ ?_;refine hK5 _ _ ?_;refine wp_block ?_;refine loopI (ι:=Nat) (fun i a w=>i≤xs.length∧allN (goodN xs) i = true∧Has a 92 [(0,.slice A xs.length c),(4,.pointer (some ⟨bt,0,none⟩)),(5,.int .i64 (lastN xs i)),(12,.slice A xs.length c),(13,.int .i64 xs.length),(14,.int .i64 i)]∧Sep W w (.blk bt 81 [.map (some bm)]::.mpN bm (xs.take i)::.rd kNod (.slice A xs.length c) xs::cs)) (fun i=>xs.length - i) (0) ?_ ?_
  · exact ⟨Nat.zero_le _,rfl,has6 ha rfl rfl rfl rfl rfl rfl,hs⟩
  · rintro i a w ⟨h1,h2,ha,hs⟩;refine wp_seq_k fun K6 hK6=>?_;refine wp_region_lit ?_;refine pY ha (yLss rfl rfl) fun a ha=>?_;refine pZ ?_;refine hK6 _ _ ?_;refine wp_seq_k fun K7 hK7=>?_;refine cDec ha rfl (fun hc15=>?_) (fun hc15=>?_)
    · obtain ⟨x,hx⟩ : ∃ x,xs[i]? = some x:=⟨_,List.getElem?_eq_getElem (by omega)⟩
      have hmx:=hm x (List.mem_of_getElem? hx)
      obtain ⟨b0,off,rfl,hs⟩:=hs.rd_nod (.there (.there .here)) hx;refine wp_skip ?_;refine hK7 _ _ ?_;refine wp_seq_k fun K8 hK8=>?_;refine wp_block ?_;refine wp_seq_k fun K9 hK9=>?_;refine wp_region_lit ?_;refine pY ha (yIndexA Tryz.runUnderlying35 Tryz.sizeOf53 rfl rfl (by omega) (by omega)) fun a ha=>?_;refine pY ha (yLoadRA Tryz.isAgg53 Tryz.sizeOf53 hs rfl pk0 rfl) fun a ha=>?_;refine pAlloc (zs:=[.int .i64 0,.int .i64 0,.string ⟨#[]⟩,.bool false,.string ⟨#[]⟩]) ha Tryz.zeroValue53 rfl hs rfl fun bx w hs a ha=>?_;refine pStoreA ha Tryz.sizeOf53 hs rfl rfl pk0 rfl rfl rfl fun w hs=>?_;refine pZ ?_;have hs:=hs.drop2;refine hK9 _ _ ?_;refine wp_seq_k fun K10 hK10=>?_;refine wp_seq_k fun K11 hK11=>?_;refine wp_region_lit ?_;refine pY ha (yLoadBA Tryz.isAgg53 Tryz.sizeOf53 hs rfl pk0 rfl) fun a ha=>?_;refine pC ha (nCall Tryz.call81 rfl) rfl (TreeSound_c hT x hmx hs) ?_;rintro v w ⟨rfl,hs⟩ a ha;refine pY ha (yNot rfl) fun a ha=>?_;refine pY ha (yMove rfl) fun a ha=>?_;refine gSplit (t:=21) ha rfl (fun hg3=>?_) (fun hg3=>?_)
      · rw [hg3] at ha
        have hsn : sndN x = true:=by simpa using hg3
        refine gOn ha ?_;refine pY ha (yFieldA Tryz.runUnderlying53 rfl Tryz.sizeOf3 rfl rfl) fun a ha=>?_;refine gOn ha ?_;refine pY ha (yLoadB Tryz.isAgg3 hs rfl pk0 rfl) fun a ha=>?_;refine gOn ha ?_;refine pY ha (yMove rfl) fun a ha=>?_;refine gOn ha ?_;refine pY ha (yLeq rfl rfl) fun a ha=>?_;refine pY ha (yPickF rfl rfl) fun a ha=>?_;refine pZ ?_;refine hK11 _ _ ?_;refine cDec ha rfl (fun hc26=>?_) (fun hc26=>?_)
        · have hb1 : goodN xs i = false:=by rw [good_at hx,decide_eq_false (by omega)]; simp
          refine wp_seq_k fun K12 hK12=>?_;refine wp_region_lit ?_;refine pY ha (yAssign rfl) fun a ha=>?_;refine pY ha (yAssign rfl) fun a ha=>?_;refine pZ ?_;refine hK12 _ _ ?_;refine wp_ret ?_;show bodyPost Tryz.prog Tryz.f47 _ .ret _ _;refine ret2 rfl ha rfl rfl ?_
          (rw [if_neg (by intro hh; unfold loadOk at hh; rw [allN_no (i:=i) (n:=xs.length) (by omega) hb1] at hh; simp at hh)]; exact ⟨rfl,hs.drop.drop.drop.drop⟩)
        · have hgood : goodN xs i = true:=by rw [good_at hx,hsn,decide_eq_true (by omega)]; rfl
          refine wp_skip ?_;refine hK10 _ _ ?_;refine wp_seq_k fun K13 hK13=>?_;refine wp_region_lit ?_;refine pY ha (yFieldA Tryz.runUnderlying53 rfl Tryz.sizeOf3 rfl rfl) fun a ha=>?_;refine pY ha (yLoadB Tryz.isAgg3 hs rfl pk0 rfl) fun a ha=>?_;refine pY ha (yAssign rfl) fun a ha=>?_;refine pZ ?_;refine hK13 _ _ ?_
          have hris:=rising (xs:=xs) (i:=i) (y:=x.id) h1 h2 (by rw [good_at hx] at hgood; simp only [Bool.and_eq_true,decide_eq_true_eq] at hgood; exact hgood.2)
          refine dStart (fun w=>∃ rs,Sep W w (.blk bx 53 [.int .i64 x.id,.int .i64 x.parent,.string x.name,.bool x.dir,.string x.text]::.blk bt 81 [.map (some bm)]::rs)) [7] 255 127 (by kernel_rfl) (by kernel_rfl) rfl (⟨_,hs.drew.pick pk0⟩) ?_
          have hs:=Sep.drew hs
          generalize World.drew _ = w at hs ⊢;refine dP 0 1 rfl ha (fun _=>yMove rfl) fun a ha=>?_;refine dP 1 3 rfl ha (fun _=>yNilP rfl) fun a ha=>?_;refine dP 2 7 rfl ha (fun _=>yFieldA Tryz.runUnderlying81 rfl Tryz.sizeOf79 rfl rfl) fun a ha=>?_;refine dT 3 15 rfl ha (fun _ ⟨rs,hs⟩=>yLoadB Tryz.isAgg79 hs rfl pk1 rfl) (⟨_,hs.pick pk0⟩) fun a ha=>?_;refine dP 4 31 rfl ha (fun _=>yFieldA Tryz.runUnderlying53 rfl Tryz.sizeOf3 rfl rfl) fun a ha=>?_;refine dT 5 63 rfl ha (fun _ ⟨rs,hs⟩=>yLoadB Tryz.isAgg3 hs rfl pk0 rfl) (⟨_,hs.pick pk0⟩) fun a ha=>?_;refine dT 6 127 rfl ha (fun _ ⟨rs,hs⟩=>yLoadBA Tryz.isAgg53 Tryz.sizeOf53 hs rfl pk0 rfl) (⟨_,hs.pick pk0⟩) fun a ha=>?_;refine dMapNewl (n:=x) 7 255 rfl (by kernel_rfl) rfl ha won0 hs rfl pk2 rfl rfl (fun m hm=>by have:=hris m hm; omega) ?_;intro w hs;refine dZ (by kernel_rfl) ?_;refine hK8 _ _ ?_;refine wp_region_lit ?_;refine pY ha (yAddN rfl rfl ⟨by omega,by omega⟩) fun a ha=>?_;refine pY ha (yMove rfl) fun a ha=>?_;refine pZ ?_
          have e1 : xs.take (i + 1) = xs.take i++[x]:=by rw [List.take_add_one,hx]; rfl
          refine ⟨i + 1,⟨by omega,by simp only [allN,h2,hgood,Bool.and_self],has6 ha rfl rfl (by rw [last_next hx]; rfl) rfl rfl rfl,?_⟩,by omega⟩;rw [e1];exact (hs.drop2).pick (.there .here)
      · rw [hg3] at ha
        have hb1 : goodN xs i = false:=by rw [good_at hx]; simp at hg3; rw [hg3]; rfl
        refine gOff ha fun a ha=>?_;refine gOff ha fun a ha=>?_;refine gOff ha fun a ha=>?_;refine gOff ha fun a ha=>?_;refine pY ha (yPickT rfl rfl) fun a ha=>?_;refine pZ ?_;refine hK11 _ _ ?_;refine cTrue ha rfl ?_;refine wp_seq_k fun K14 hK14=>?_;refine wp_region_lit ?_;refine pY ha (yAssign rfl) fun a ha=>?_;refine pY ha (yAssign rfl) fun a ha=>?_;refine pZ ?_;refine hK14 _ _ ?_;refine wp_ret ?_;show bodyPost Tryz.prog Tryz.f47 _ .ret _ _;refine ret2 rfl ha rfl rfl ?_
        (rw [if_neg (by intro hh; unfold loadOk at hh; rw [allN_no (i:=i) (n:=xs.length) (by omega) hb1] at hh; simp at hh)]; exact ⟨rfl,hs.drop.drop.drop.drop⟩)
    · refine wp_exit ?_;refine hK4 _ _ ?_;refine wp_seq_k fun K15 hK15=>?_
      have hi : i = xs.length:=by omega
      rw [List.take_of_length_le (by omega)] at hs;rw [hi] at h2
      have hgo:=h2
      have hsnd : ∀ x ∈ xs,okText x.text.data.toList = true∧cnt x.text.data.toList≤2000∧x.text.size≤1000000000:=fun x hx=>by
        obtain ⟨j,hj,rfl⟩:=List.mem_iff_getElem.1 hx
        have hg:=allN_iff.1 hgo j hj
        rw [good_at (List.getElem?_eq_getElem hj)] at hg;unfold sndN at hg;simp only [Bool.and_eq_true,decide_eq_true_eq] at hg;exact ⟨hg.1.1.1.2,hg.1.1.2,(hm _ hx).2⟩
      refine wp_region_lit ?_;refine pMakeMap ha hs rfl fun bn w hs a ha=>?_;refine pY ha (yAssign rfl) fun a ha=>?_;refine pZ ?_
      have hs : Sep W w (.mpK bn []::_):=Sep.pack (f:=fun vs : {vs : List Int // vs.length = ([] : List Key).length}=>.mpV bn [] vs.1) ⟨[],rfl⟩ hs
      refine hK15 _ _ ?_;refine wp_seq_k fun K16 hK16=>?_;refine wp_seq_k fun K17 hK17=>?_;refine wp_region_lit ?_;refine pY ha (yMove rfl) fun a ha=>?_;refine pY ha (yLenS Tryz.runUnderlying35 rfl) fun a ha=>?_;refine pY ha (yMove rfl) fun a ha=>?_;refine pZ ?_;refine hK17 _ _ ?_;refine wp_block ?_;refine loopI (ι:=Nat) (fun j a w=>j≤xs.length∧allN (fun i=>standN xs (xs.getD i noN)) j = true∧Has a 92 [(0,.slice A xs.length c),(4,.pointer (some ⟨bt,0,none⟩)),(8,.map (some bn)),(38,.slice A xs.length c),(39,.int .i64 xs.length),(40,.int .i64 j)]∧Sep W w (.mpK bn (keysN (xs.take j))::.blk bt 81 [.map (some bm)]::.mpN bm xs::.rd kNod (.slice A xs.length c) xs::cs)) (fun j=>xs.length - j) (0) ?_ ?_
      · exact ⟨Nat.zero_le _,rfl,has6 ha rfl rfl rfl rfl rfl rfl,hs⟩
      · rintro j a w ⟨g1,g2,ha,hs⟩;refine wp_seq_k fun K18 hK18=>?_;refine wp_region_lit ?_;refine pY ha (yLss rfl rfl) fun a ha=>?_;refine pZ ?_;refine hK18 _ _ ?_;refine wp_seq_k fun K19 hK19=>?_;refine cDec ha rfl (fun hc41=>?_) (fun hc41=>?_)
        · obtain ⟨x,hx⟩ : ∃ x,xs[j]? = some x:=⟨_,List.getElem?_eq_getElem (by omega)⟩
          have hgx : xs.getD j noN = x:=by rw [List.getD_eq_getElem?_getD,hx]; rfl
          obtain ⟨b0,off,rfl,hs⟩:=hs.rd_nod (.there (.there (.there .here))) hx;refine wp_skip ?_;refine hK19 _ _ ?_;refine wp_seq_k fun K20 hK20=>?_;refine wp_block ?_;refine wp_seq_k fun K21 hK21=>?_;refine wp_region_lit ?_;refine pY ha (yIndexA Tryz.runUnderlying35 Tryz.sizeOf53 rfl rfl (by omega) (by omega)) fun a ha=>?_;refine pY ha (yLoadRA Tryz.isAgg53 Tryz.sizeOf53 hs rfl pk0 rfl) fun a ha=>?_;refine pAlloc (zs:=[.int .i64 0,.int .i64 0,.string ⟨#[]⟩,.bool false,.string ⟨#[]⟩]) ha Tryz.zeroValue53 rfl hs rfl fun bx w hs a ha=>?_;refine pStoreA ha Tryz.sizeOf53 hs rfl rfl pk0 rfl rfl rfl fun w hs=>?_;refine pZ ?_
          have hs:=(hs.drop2).pick (.there .here)
          refine hK21 _ _ ?_;refine wp_seq_k fun K22 hK22=>?_;refine wp_seq_k fun K23 hK23=>?_;refine cutC (fun a w=>Has a 92 [(64,.bool (!standN xs x)),(0,.slice (some ⟨b0,off,none⟩) xs.length c),(4,.pointer (some ⟨bt,0,none⟩)),(8,.map (some bn)),(10,.pointer (some ⟨bx,0,none⟩)),(38,.slice (some ⟨b0,off,none⟩) xs.length c),(39,.int .i64 xs.length),(40,.int .i64 j)]∧Sep W w (.mpK bn (keysN (xs.take j))::.blk bx 53 [.int .i64 x.id,.int .i64 x.parent,.string x.name,.bool x.dir,.string x.text]::.blk bt 81 [.map (some bm)]::.mpN bm xs::.rd kNod (.slice (some ⟨b0,off,none⟩) xs.length c) xs::cs)) ?_ ?_
          · refine dStart (fun w=>∃ rs,Sep W w (.mpK bn (keysN (xs.take j))::.blk bx 53 [.int .i64 x.id,.int .i64 x.parent,.string x.name,.bool x.dir,.string x.text]::.blk bt 81 [.map (some bm)]::.mpN bm xs::rs)) [18] 2097151 262143 (by kernel_rfl) (by kernel_rfl) rfl (⟨_,hs.drew.pick pk0⟩) ?_
            have hs:=Sep.drew hs
            generalize World.drew _ = w at hs ⊢;refine dP 0 1 rfl ha (fun _=>yFieldA Tryz.runUnderlying53 rfl Tryz.sizeOf3 rfl rfl) fun a ha=>?_;refine dT 1 3 rfl ha (fun _ ⟨rs,hs⟩=>yLoadB Tryz.isAgg3 hs rfl pk1 rfl) (⟨_,hs.pick pk0⟩) fun a ha=>?_;refine dP 2 7 rfl ha (fun _=>yNeq rfl rfl) fun a ha=>?_;refine dP 3 15 rfl ha (fun _=>yMove rfl) fun a ha=>?_;refine gSplit (t:=47) ha rfl (fun hg3=>?_) (fun hg3=>?_)
            · rw [hg3] at ha;refine dOff 4 31 rfl ha fun a ha=>?_;refine dOff 5 63 rfl ha fun a ha=>?_;refine dOff 6 127 rfl ha fun a ha=>?_;refine dOff 7 255 rfl ha fun a ha=>?_;refine dOff 8 511 rfl ha fun a ha=>?_;refine dOff 9 1023 rfl ha fun a ha=>?_;refine dOff 10 2047 rfl ha fun a ha=>?_;refine dOff 11 4095 rfl ha fun a ha=>?_;refine dOff 12 8191 rfl ha fun a ha=>?_;refine dP 13 16383 rfl ha (fun _=>yPickF rfl rfl) fun a ha=>?_;refine dP 14 32767 rfl ha (fun _=>yMove rfl) fun a ha=>?_;refine dP 15 65535 rfl ha (fun _=>yMove rfl) fun a ha=>?_;refine dP 16 131071 rfl ha (fun _=>yFieldA Tryz.runUnderlying53 rfl Tryz.sizeOf3 rfl rfl) fun a ha=>?_;refine dT 17 262143 rfl ha (fun _ ⟨rs,hs⟩=>yLoadB Tryz.isAgg3 hs rfl pk1 rfl) (⟨_,hs.pick pk0⟩) fun a ha=>?_;refine dCl 18 524287 rfl (by kernel_rfl) rfl ha (won1 rfl rfl rfl) (nCall Tryz.call82 rfl) rfl (Rooted_c x.id hlen hs pk2 pk2) ?_;rintro v w ⟨rfl,hs⟩ a ha;refine dP 19 1048575 rfl ha (fun _=>yNot rfl) fun a ha=>?_;refine dP 20 2097151 rfl ha (fun _=>yPickF rfl rfl) fun a ha=>?_;refine dZ (by kernel_rfl) ?_;refine ⟨rfl,?_⟩;refine ⟨has8 ha ?_ rfl rfl rfl rfl rfl rfl rfl,hs⟩;refine congrArg (fun b=>some (Value.bool b)) ?_;unfold standN
              (rw [decide_eq_true (show x.parent = 0 by simpa using hg3)]; simp; done)
            · rw [hg3] at ha;refine dP 4 31 rfl ha (fun _=>yMove rfl) fun a ha=>?_;refine dP 5 63 rfl ha (fun _=>yNilP rfl) fun a ha=>?_;refine dP 6 127 rfl ha (fun _=>yFieldA Tryz.runUnderlying81 rfl Tryz.sizeOf79 rfl rfl) fun a ha=>?_;refine dT 7 255 rfl ha (fun _ ⟨rs,hs⟩=>yLoadB Tryz.isAgg79 hs rfl pk2 rfl) (⟨_,hs.pick pk0⟩) fun a ha=>?_;refine dP 8 511 rfl ha (fun _=>yFieldA Tryz.runUnderlying53 rfl Tryz.sizeOf3 rfl rfl) fun a ha=>?_;refine dT 9 1023 rfl ha (fun _ ⟨rs,hs⟩=>yLoadB Tryz.isAgg3 hs rfl pk1 rfl) (⟨_,hs.pick pk0⟩) fun a ha=>?_;refine dT 10 2047 rfl ha (fun _ ⟨rs,hs⟩=>yLookN hs rfl pk3 rfl) (⟨_,hs.pick pk0⟩) fun a ha=>?_;refine dP 11 4095 rfl ha (fun _=>yField Tryz.runUnderlying53 rfl Tryz.isAgg4 rfl rfl) fun a ha=>?_;refine dP 12 8191 rfl ha (fun _=>yNot rfl) fun a ha=>?_;refine dP 13 16383 rfl ha (fun _=>yPickT rfl rfl) fun a ha=>?_;refine dP 14 32767 rfl ha (fun _=>yMove rfl) fun a ha=>?_;refine gSplit (t:=58) ha rfl (fun hg14=>?_) (fun hg14=>?_)
              · rw [hg14] at ha;refine dP 15 65535 rfl ha (fun _=>yMove rfl) fun a ha=>?_;refine dP 16 131071 rfl ha (fun _=>yFieldA Tryz.runUnderlying53 rfl Tryz.sizeOf3 rfl rfl) fun a ha=>?_;refine dT 17 262143 rfl ha (fun _ ⟨rs,hs⟩=>yLoadB Tryz.isAgg3 hs rfl pk1 rfl) (⟨_,hs.pick pk0⟩) fun a ha=>?_;refine dCl 18 524287 rfl (by kernel_rfl) rfl ha (won1 rfl rfl rfl) (nCall Tryz.call82 rfl) rfl (Rooted_c x.id hlen hs pk2 pk2) ?_;rintro v w ⟨rfl,hs⟩ a ha;refine dP 19 1048575 rfl ha (fun _=>yNot rfl) fun a ha=>?_;refine dP 20 2097151 rfl ha (fun _=>yPickF rfl rfl) fun a ha=>?_;refine dZ (by kernel_rfl) ?_;refine ⟨rfl,?_⟩;refine ⟨has8 ha ?_ rfl rfl rfl rfl rfl rfl rfl,hs⟩;refine congrArg (fun b=>some (Value.bool b)) ?_;unfold standN
                (rw [decide_eq_false (show ¬ x.parent = 0 by simpa using hg3)]; simp at hg14; rw [hg14]; rfl)
              · rw [hg14] at ha;refine dOff 15 65535 rfl ha fun a ha=>?_;refine dOff 16 131071 rfl ha fun a ha=>?_;refine dOff 17 262143 rfl ha fun a ha=>?_;refine dOff 18 524287 rfl ha fun a ha=>?_;refine dOff 19 1048575 rfl ha fun a ha=>?_;refine dP 20 2097151 rfl ha (fun _=>yPickT rfl rfl) fun a ha=>?_;refine dZ (by kernel_rfl) ?_;refine ⟨rfl,?_⟩;refine ⟨has8 ha ?_ rfl rfl rfl rfl rfl rfl rfl,hs⟩;refine congrArg (fun b=>some (Value.bool b)) ?_;unfold standN
                (rw [decide_eq_false (show ¬ x.parent = 0 by simpa using hg3)]; simp at hg14; rw [hg14]; rfl)
          rintro a w ⟨ha,hs⟩;refine hK23 _ _ ?_;refine cSplit ha rfl (fun hc64=>?_) (fun hc64=>?_)
          · have hst : standN xs x = false:=by simpa using hc64
            refine wp_seq_k fun K24 hK24=>?_;refine wp_region_lit ?_;refine pY ha (yAssign rfl) fun a ha=>?_;refine pY ha (yAssign rfl) fun a ha=>?_;refine pZ ?_;refine hK24 _ _ ?_;refine wp_ret ?_;show bodyPost Tryz.prog Tryz.f47 _ .ret _ _;refine ret2 rfl ha rfl rfl ?_
            (rw [if_neg (by intro hh; unfold loadOk at hh; rw [allN_no (g:=fun i=>standN xs (xs.getD i noN)) (i:=j) (n:=xs.length) (by omega) (by simp only [hgx,hst])] at hh; simp at hh)]; exact ⟨rfl,hs.drop.drop.drop.drop.drop⟩)
          · have hst : standN xs x = true:=by simpa using hc64
            refine wp_skip ?_;refine hK22 _ _ ?_;obtain ⟨vs,hvl,hs⟩:=hs.mpK_open .here;obtain ⟨c0,hc0⟩ : ∃ c0,lookK (keysN (xs.take j)) vs (keyN x) = c0:=⟨_,rfl⟩;refine dStart (fun w=>∃ ks' vs' rs,vs'.length = ks'.length∧lookK ks' vs' (keyN x) = c0∧Sep W w (.mpV bn ks' vs'::.blk bx 53 [.int .i64 x.id,.int .i64 x.parent,.string x.name,.bool x.dir,.string x.text]::rs)) [10] 2047 1023 (by kernel_rfl) (by kernel_rfl) rfl (⟨_,_,_,hvl,hc0,hs.drew.pick pk0⟩) ?_
            have hs:=Sep.drew hs
            generalize World.drew _ = w at hs ⊢;refine dP 0 1 rfl ha (fun _=>yMove rfl) fun a ha=>?_;refine dP 1 3 rfl ha (fun _=>yFieldA Tryz.runUnderlying53 rfl Tryz.sizeOf3 rfl rfl) fun a ha=>?_;refine dT 2 7 rfl ha (fun _ ⟨ks',vs',rs,hl',hc',hs⟩=>yLoadB Tryz.isAgg3 hs rfl pk1 rfl) (⟨_,_,_,hvl,hc0,hs.pick pk0⟩) fun a ha=>?_;refine dP 3 15 rfl ha (fun _=>yFieldA Tryz.runUnderlying53 rfl Tryz.sizeOf9 rfl rfl) fun a ha=>?_;refine dT 4 31 rfl ha (fun _ ⟨ks',vs',rs,hl',hc',hs⟩=>yLoadB Tryz.isAgg9 hs rfl pk1 rfl) (⟨_,_,_,hvl,hc0,hs.pick pk0⟩) fun a ha=>?_;refine dP 5 63 rfl ha (fun _=>bldTree53_1_2 rfl rfl) fun a ha=>?_;refine dT 6 127 rfl ha (fun _ ⟨ks',vs',rs,hl',hc',hs⟩=>hc' ▸ yLookK (k:=keyN x) hl' hs rfl .here rfl) (⟨_,_,_,hvl,hc0,hs.pick pk0⟩) fun a ha=>?_;refine dP 7 255 rfl ha (fun _=>yAdd rfl rfl) fun a ha=>?_;refine dEntry (k:=keyN x) hvl 8 511 rfl (by kernel_rfl) rfl ha won0 hs rfl pk0 rfl rfl (fun w hs=>⟨_,_,_,entV_len (keyN x) hvl,(entV_look (keyN x) hvl).trans hc0,hs⟩) ?_;intro w u nn hn1 hs a ha;refine dP 9 1023 rfl ha (fun _=>yExtract rfl rfl) fun a ha=>?_;refine dEntStl (entV_len (keyN x) hvl) hn1 10 2047 rfl (by kernel_rfl) rfl ha won0 hs rfl pk0 rfl rfl ?_;intro w hs;refine dZ (by kernel_rfl) ?_;refine hK20 _ _ ?_;refine wp_region_lit ?_;refine pY ha (yAddN rfl rfl ⟨by omega,by omega⟩) fun a ha=>?_;refine pY ha (yMove rfl) fun a ha=>?_;refine pZ ?_;refine ⟨j + 1,⟨by omega,by simp only [allN,g2,hgx,hst,Bool.and_self],has6 ha rfl rfl rfl rfl rfl rfl,?_⟩,by omega⟩;rw [keys_next hx];exact hs.drop2
        · refine wp_exit ?_;refine hK16 _ _ ?_;refine wp_seq_k fun K25 hK25=>?_;refine wp_seq_k fun K26 hK26=>?_;rw [List.take_of_length_le (by omega)] at hs;rw [show j = xs.length by omega] at g2;obtain ⟨vs,hvl,hs⟩:=hs.mpK_open .here
          have hly:=load_yes hgo g2
          have hkl:=(keys_len (xs:=xs) (Nat.le_refl _)).1
          rw [List.take_length] at hkl;refine wp_region_lit ?_;refine pY ha (yMove rfl) fun a ha=>?_;refine pY ha (yLenK hvl hs rfl pk0) fun a ha=>?_;refine pY ha (yMove rfl) fun a ha=>?_;refine pY ha (yLenS Tryz.runUnderlying35 rfl) fun a ha=>?_;refine pY ha (yLss rfl rfl) fun a ha=>?_;refine pY ha (yMove rfl) fun a ha=>?_;refine gDec (t:=81) ha rfl (fun hg5 hp5=>?_) (fun hg5 hp5=>?_)
          · rw [hg5] at ha
            have hp5:=of_decide_eq_false hg5
            refine gOn ha ?_;refine pY ha (yMove rfl) fun a ha=>?_;refine gOn ha ?_;refine pY ha (yLenS Tryz.runUnderlying35 rfl) fun a ha=>?_;refine gOn ha ?_;refine pY ha (yGtr rfl rfl) fun a ha=>?_;refine pY ha (yPickF rfl rfl) fun a ha=>?_;refine pY ha (yMove rfl) fun a ha=>?_;refine gSplit (t:=86) ha rfl (fun hg10=>?_) (fun hg10=>?_)
            · rw [hg10] at ha
              have hp10:=of_decide_eq_false hg10
              refine gOn ha ?_;refine pY ha (yMove rfl) fun a ha=>?_;refine gOn ha ?_;refine pC ha (nCall Tryz.call83 rfl) rfl (All_c hT hlen hsnd hs pk1 pk1) ?_;rintro v w ⟨rfl,hs⟩ a ha;refine gOn ha ?_;refine pY ha (yGtr rfl rfl) fun a ha=>?_;refine pY ha (yPickF rfl rfl) fun a ha=>?_;refine pZ ?_;refine hK26 _ _ ?_;refine cDec ha rfl (fun hc90=>?_) (fun hc90=>?_)
              · refine wp_seq_k fun K27 hK27=>?_;refine wp_region_lit ?_;refine pY ha (yAssign rfl) fun a ha=>?_;refine pY ha (yAssign rfl) fun a ha=>?_;refine pZ ?_;refine hK27 _ _ ?_;refine wp_ret ?_;show bodyPost Tryz.prog Tryz.f47 _ .ret _ _;refine ret2 rfl ha rfl rfl ?_
                (rw [if_neg (by rw [hly]; simp only [Bool.and_eq_true,decide_eq_true_eq]; omega)]; exact ⟨rfl,hs.drop.drop.drop.drop⟩)
              · refine wp_skip ?_;refine hK25 _ _ ?_;refine wp_seq_k fun K28 hK28=>?_;refine wp_region_lit ?_;refine pY ha (yMove rfl) fun a ha=>?_;refine pY ha (yAssign rfl) fun a ha=>?_;refine pY ha (yAssign rfl) fun a ha=>?_;refine pZ ?_;refine hK28 _ _ ?_;refine wp_ret ?_;show bodyPost Tryz.prog Tryz.f47 _ .ret _ _;refine ret2 rfl ha rfl rfl ?_
                (rw [if_pos (by rw [hly]; simp only [Bool.and_eq_true,decide_eq_true_eq]; omega)]; exact ⟨bt,bm,rfl,(hs.drop.pick (.there (.there .here))).drop⟩)
            · rw [hg10] at ha
              have hp10:=of_decide_eq_true hg10
              refine gOff ha fun a ha=>?_;refine gOff ha fun a ha=>?_;refine gOff ha fun a ha=>?_;refine pY ha (yPickT rfl rfl) fun a ha=>?_;refine pZ ?_;refine hK26 _ _ ?_;refine cTrue ha rfl ?_;refine wp_seq_k fun K29 hK29=>?_;refine wp_region_lit ?_;refine pY ha (yAssign rfl) fun a ha=>?_;refine pY ha (yAssign rfl) fun a ha=>?_;refine pZ ?_;refine hK29 _ _ ?_;refine wp_ret ?_;show bodyPost Tryz.prog Tryz.f47 _ .ret _ _;refine ret2 rfl ha rfl rfl ?_
              (rw [if_neg (by rw [hly]; simp only [Bool.and_eq_true,decide_eq_true_eq]; omega)]; exact ⟨rfl,hs.drop.drop.drop.drop⟩)
          · rw [hg5] at ha
            have hp5:=of_decide_eq_true hg5
            refine gOff ha fun a ha=>?_;refine gOff ha fun a ha=>?_;refine gOff ha fun a ha=>?_;refine pY ha (yPickT rfl rfl) fun a ha=>?_;refine pY ha (yMove rfl) fun a ha=>?_;refine gOff ha fun a ha=>?_;refine gOff ha fun a ha=>?_;refine gOff ha fun a ha=>?_;refine pY ha (yPickT rfl rfl) fun a ha=>?_;refine pZ ?_;refine hK26 _ _ ?_;refine cTrue ha rfl ?_;refine wp_seq_k fun K30 hK30=>?_;refine wp_region_lit ?_;refine pY ha (yAssign rfl) fun a ha=>?_;refine pY ha (yAssign rfl) fun a ha=>?_;refine pZ ?_;refine hK30 _ _ ?_;refine wp_ret ?_;show bodyPost Tryz.prog Tryz.f47 _ .ret _ _;refine ret2 rfl ha rfl rfl ?_
            (rw [if_neg (by rw [hly]; simp only [Bool.and_eq_true,decide_eq_true_eq]; omega)]; exact ⟨rfl,hs.drop.drop.drop.drop⟩)
end
end Go.Proofs.YtkbbnpjbjakpcaaGreatDoor

set_option linter.unusedVariables false
set_option linter.unusedSimpArgs false
namespace Go.Proofs.YtkbbnpjbjakpcaaGreatDoor
open Go.RowKit Go.Lib Go.Proofs.YtkbbnpjbjakpcaaGreatDoorW.PrintLast
theorem bldCrW53_0_1_2_3 {w : World} {l : List (Nat × Value)} {T : TypeId} {x0 x1 x2 x3 : Operand} {v0 : Value} (h0 : ev l x0 = some v0) {v1 : Value} (h1 : ev l x1 = some v1) {v2 : Value} (h2 : ev l x2 = some v2) {v3 : Value} (h3 : ev l x3 = some v3) (o0 : v0.cells = #[v0]:=by rfl) (o1 : v1.cells = #[v1]:=by rfl) (o2 : v2.cells = #[v2]:=by rfl) (o3 : v3.cells = #[v3]:=by rfl) : Yl Tryz.prog w l (.build 53 #[(0,x0),(1,x1),(2,x2),(3,x3)]) T (.agg #[v0,v1,v2,v3,.string ⟨#[]⟩]):=fun ρ o h ho _=>by
  have hf : Instr.fill (fun i=>([(0,1),(1,1),(2,1),(3,1),(4,1)] : List (Nat × Nat))[i]?) #[.int .i64 0,.int .i64 0,.string ⟨#[]⟩,.bool false,.string ⟨#[]⟩] [(0,v0),(1,v1),(2,v2),(3,v3)] = some #[v0,v1,v2,v3,.string ⟨#[]⟩]:=by
    refine (fill_v o0 rfl (by simp)).trans ?_;refine (fill_v o1 rfl (by simp)).trans ?_;refine (fill_v o2 rfl (by simp)).trans ?_;refine (fill_v o3 rfl (by simp)).trans ?_
    simp [Instr.fill]
  unfold execOp; rw [ho]
  simp [h _ _ h0,h _ _ h1,h _ _ h2,h _ _ h3,Instr.build,Tryz.zeroValue53,Tryz.runUnderlying53,Tryz.sizeOf3,Tryz.sizeOf4,Tryz.sizeOf9,agg_cells,hf]
section
variable {W w : World} {N : Nat} {a : Act} {l : List (Nat × Value)} {cs r : List Ch} {x y : Operand} {T U U' : TypeId} {b : Nat} {xs : List Nod}
theorem yLookOk {id : Int} (hs : Sep W w cs) (hx : ev l x = some (.map (some b))) (hk : Pick cs (.mpN b xs) r) (hy : ev l y = some (.int .i64 id)) :
    Yl Tryz.prog w l (.lookup 79 x y true) T (.tuple #[.agg (cN (findN xs id)).toArray,.bool (hasId xs id)]):=fun ρ o h ho _=>by
  have hb:=hs.own_at hk
  obtain ⟨o',h1,h2⟩:=find_mE (q:=.i64) id xs 0 0
  have hf:=MapKept.run_findKey (P:=Tryz.prog) (w:=w) Tryz.underlying3 h1
  have hc : ∀ e,(Instr.checkKey e 10000 3 (.int .i64 id)).run Tryz.prog w = .ok () w:=fun e=>by
    rw [Instr.checkKey]; simp [Tryz.runUnderlying3]
  unfold execOp; rw [ho]
  cases hq : xs.find? fun x=>decide (x.id = id) with
  | none=>
    rw [hq] at h2
    have : o' = none:=by simpa using h2
    subst this
    have e : findN xs id = noN:=by unfold findN; rw [hq]; rfl
    have e2 : hasId xs id = false:=by
      unfold hasId;rw [List.any_eq_false];exact List.find?_eq_none.1 hq
    rw [e,e2]
    simp [h _ _ hx,h _ _ hy,Instr.lookup,Tryz.runUnderlying79,MapKept.run_getObj_map hb,hc,hf,Tryz.zeroValue53]
    rfl
  | some n=>
    rw [hq] at h2;obtain ⟨p,hp,hp2⟩ : ∃ p,o' = some p∧p.2 = .agg (cN n).toArray:=by
      cases o' with
      | none=>simp at h2
      | some p=>exact ⟨p,rfl,by simpa using h2⟩
    subst hp
    have e : findN xs id = n:=by unfold findN; rw [hq]; rfl
    have e2 : hasId xs id = true:=by
      unfold hasId;rw [List.any_eq_true];exact ⟨n,List.mem_of_find?_eq_some hq,by have:=List.find?_some hq; simpa using this⟩
    rw [e,e2]
    simp [h _ _ hx,h _ _ hy,Instr.lookup,Tryz.runUnderlying79,MapKept.run_getObj_map hb,hc,hf,hp2]
end
section
variable {W w : World} {cs r r2 : List Ch} {bt bm : Nat} {xs : List Nod}
theorem TDir_c (p : Int) (hs : Sep W w cs) (hk : Pick cs (.blk bt 81 [.map (some bm)]) r) (hk2 : Pick r (.mpN bm xs) r2) :
    Calls Tryz.prog 95 #[.pointer (some ⟨bt,0,none⟩),.int .i64 p] w (Rt fun v w'=>v = .int .i64 (dirE xs p)∧Sep W w' (.blk bt 81 [.map (some bm)]::.mpN bm xs::r2)):=by
  have hs:=hs.perm (hk.perm.trans (hk2.perm.cons _));refine enter Tryz.func95 Tryz.ntmps95 rfl rfl fun a (ha : Has a 26 [(0,_),(1,_)])=>?_;refine wp_seq_k fun K1 hK1=>?_;refine wp_region_lit ?_;refine pY ha (yAssign rfl) fun a ha=>?_;refine pZ ?_;refine hK1 _ _ ?_;refine wp_seq_k fun K2 hK2=>?_;refine wp_region_lit ?_;refine pY ha (yMove rfl) fun a ha=>?_;refine pY ha (yNilP rfl) fun a ha=>?_;refine pY ha (yFieldA Tryz.runUnderlying81 rfl Tryz.sizeOf79 rfl rfl) fun a ha=>?_;refine pY ha (yLoadB Tryz.isAgg79 hs rfl pk0 rfl) fun a ha=>?_;refine pY ha (yMove rfl) fun a ha=>?_;refine pY ha (yLookOk hs rfl pk1 rfl) fun a ha=>?_;refine pY ha (yMove rfl) fun a ha=>?_;refine pY ha (yExtract rfl rfl) fun a ha=>?_;refine pY ha (yExtract rfl rfl) fun a ha=>?_;refine pAlloc (zs:=[.int .i64 0,.int .i64 0,.string ⟨#[]⟩,.bool false,.string ⟨#[]⟩]) ha Tryz.zeroValue53 rfl hs rfl fun b w hs a ha=>?_;refine pStoreA ha Tryz.sizeOf53 hs rfl rfl pk0 rfl rfl rfl fun w hs=>?_;refine pY ha (yAssign rfl) fun a ha=>?_;refine pZ ?_;refine hK2 _ _ ?_;refine wp_seq_k fun K3 hK3=>?_;refine wp_block ?_;refine wp_seq_k fun K4 hK4=>?_;refine wp_region_lit ?_;refine pY ha (yMove rfl) fun a ha=>?_;refine pY ha (yEql rfl rfl) fun a ha=>?_;refine pY ha (yAssign rfl) fun a ha=>?_;refine pZ ?_;refine hK4 _ _ ?_;refine cDec ha rfl (fun hc16=>?_) (fun hc16=>?_)
  · refine wp_seq_k fun K5 hK5=>?_;refine wp_region_lit ?_;refine pY ha (yAssign rfl) fun a ha=>?_;refine pZ ?_;refine hK5 _ _ ?_;refine wp_ret ?_;show bodyPost Tryz.prog Tryz.f95 _ .ret _ _;refine ret1 rfl ha rfl ?_;refine ⟨congrArg (Value.int .i64) ?_,(by exact hs.drop)⟩;unfold dirE
    try simp only [Bool.not_eq_true',Bool.not_eq_false'] at *
    simp [*]
  · refine wp_seq_k fun K6 hK6=>?_;refine wp_region_lit ?_;refine pY ha (yMove rfl) fun a ha=>?_;refine pY ha (yNot rfl) fun a ha=>?_;refine pY ha (yAssign rfl) fun a ha=>?_;refine pZ ?_;refine hK6 _ _ ?_;refine cSplit ha rfl (fun hc19=>?_) (fun hc19=>?_)
    · refine wp_seq_k fun K7 hK7=>?_;refine wp_region_lit ?_;refine pY ha (yAssign rfl) fun a ha=>?_;refine pZ ?_;refine hK7 _ _ ?_;refine wp_ret ?_;show bodyPost Tryz.prog Tryz.f95 _ .ret _ _;refine ret1 rfl ha rfl ?_;refine ⟨congrArg (Value.int .i64) ?_,(by exact hs.drop)⟩;unfold dirE
      try simp only [Bool.not_eq_true',Bool.not_eq_false'] at *
      simp [*]
    · refine wp_seq_k fun K8 hK8=>?_;refine wp_region_lit ?_;refine pY ha (yFieldA Tryz.runUnderlying53 rfl Tryz.sizeOf4 rfl rfl) fun a ha=>?_;refine pY ha (yLoadB Tryz.isAgg4 hs rfl pk0 rfl) fun a ha=>?_;refine pY ha (yNot rfl) fun a ha=>?_;refine pY ha (yAssign rfl) fun a ha=>?_;refine pZ ?_;refine hK8 _ _ ?_;refine cSplit ha rfl (fun hc22=>?_) (fun hc22=>?_)
      · refine wp_seq_k fun K9 hK9=>?_;refine wp_region_lit ?_;refine pY ha (yAssign rfl) fun a ha=>?_;refine pZ ?_;refine hK9 _ _ ?_;refine wp_ret ?_;show bodyPost Tryz.prog Tryz.f95 _ .ret _ _;refine ret1 rfl ha rfl ?_;refine ⟨congrArg (Value.int .i64) ?_,(by exact hs.drop)⟩;unfold dirE
        try simp only [Bool.not_eq_true',Bool.not_eq_false'] at *
        simp [*]
      · refine wp_skip ?_;refine hK3 _ _ ?_;refine wp_seq_k fun K10 hK10=>?_;refine wp_region_lit ?_;refine pY ha (yAssign rfl) fun a ha=>?_;refine pZ ?_;refine hK10 _ _ ?_;refine wp_ret ?_;show bodyPost Tryz.prog Tryz.f95 _ .ret _ _;refine ret1 rfl ha rfl ?_;refine ⟨congrArg (Value.int .i64) ?_,(by exact hs.drop)⟩;unfold dirE
        try simp only [Bool.not_eq_true',Bool.not_eq_false'] at *
        simp [*]
def chP (p : Int) (s : ByteArray) (x : Nod) : Bool:=decide (x.parent = p) && decide (x.name = s)
def chN (xs : List Nod) (p : Int) (s : ByteArray) : Nod:=((sortN xs).find? (chP p s)).getD noN
theorem hasCh_eq {xs : List Nod} (ho : idsOk xs) (p : Int) (s : ByteArray) : hasCh xs p s = (sortN xs).any (chP p s):=(sortN_any ho.1 (chP p s)).symm
theorem chN_yes {xs : List Nod} (ho : idsOk xs) {p : Int} {s : ByteArray} {i : Nat} {x : Nod} (h : ((sortN xs).take i).any (chP p s) = false) (hx : (sortN xs)[i]? = some x) (hf : chP p s x = true) : chN xs p s = x∧hasCh xs p s = true:=by
  refine ⟨?_,by rw [hasCh_eq ho]; exact List.any_eq_true.2 ⟨x,List.mem_of_getElem? hx,hf⟩⟩;obtain ⟨hi,rfl⟩:=List.getElem?_eq_some_iff.1 hx
  have h1 : sortN xs = (sortN xs).take i++(sortN xs)[i]::(sortN xs).drop (i + 1):=by
    rw [← List.drop_eq_getElem_cons hi,List.take_append_drop]
  have h2 : ((sortN xs).take i).find? (chP p s) = none:=by
    rw [List.find?_eq_none];rw [List.any_eq_false] at h;exact h
  have h3 : (sortN xs).find? (chP p s) = some (sortN xs)[i]:=by
    refine (congrArg (List.find? (chP p s)) h1).trans ?_;rw [List.find?_append,h2,List.find?_cons]
    simp [hf]
  unfold chN;rw [h3]; rfl
theorem chN_no {xs : List Nod} (ho : idsOk xs) {p : Int} {s : ByteArray} (h : (sortN xs).any (chP p s) = false) : chN xs p s = noN∧hasCh xs p s = false:=by
  refine ⟨?_,by rw [hasCh_eq ho]; exact h⟩;unfold chN;rw [List.any_eq_false] at h;rw [List.find?_eq_none.2 h]; rfl
theorem TChild_c (p : Int) (s : ByteArray) (ho : idsOk xs) (hs : Sep W w cs) (hk : Pick cs (.blk bt 81 [.map (some bm)]) r) (hk2 : Pick r (.mpN bm xs) r2) :
    Calls Tryz.prog 96 #[.pointer (some ⟨bt,0,none⟩),.int .i64 p,.string s] w (Rt fun v w'=>v = .tuple #[.int .i64 (chN xs p s).id,.bool (hasCh xs p s)]∧Sep W w' (.blk bt 81 [.map (some bm)]::.mpN bm xs::r2)):=by
  have hs:=hs.perm (hk.perm.trans (hk2.perm.cons _))
  have hsl:=sortN_len xs
  have hle:=ho.2.2
  refine enter Tryz.func96 Tryz.ntmps96 rfl rfl fun a (ha : Has a 30 [(0,_),(1,_),(2,_)])=>?_;refine wp_seq_k fun K1 hK1=>?_;refine wp_region_lit ?_;refine pY ha (yAssign rfl) fun a ha=>?_;refine pY ha (yAssign rfl) fun a ha=>?_;refine pZ ?_;refine hK1 _ _ ?_;refine wp_seq_k fun K2 hK2=>?_;refine wp_seq_k fun K3 hK3=>?_;refine wp_region_lit ?_;refine pY ha (yMove rfl) fun a ha=>?_;refine pC ha (nCall Tryz.call18 rfl) rfl (TNodes_c ho hs .here .here) ?_;rintro v w ⟨A,c,rfl,hs⟩ a ha;have hs:=hs.ol_rd .here;refine pY ha (yLenS Tryz.runUnderlying35 rfl) fun a ha=>?_;refine pY ha (yMove rfl) fun a ha=>?_;refine pZ ?_;refine hK3 _ _ ?_;refine wp_block ?_;refine loopI (ι:=Nat) (fun i a w=>i≤xs.length∧((sortN xs).take i).any (chP p s) = false∧Has a 30 [(1,.int .i64 p),(2,.string s),(11,.slice A (sortN xs).length c),(12,.int .i64 (sortN xs).length),(13,.int .i64 i)]∧Sep W w (.rd kNod (.slice A (sortN xs).length c) (sortN xs)::.blk bt 81 [.map (some bm)]::.mpN bm xs::r2)) (fun i=>xs.length - i) (0) ?_ ?_
  · exact ⟨Nat.zero_le _,rfl,has5 ha rfl rfl rfl rfl rfl,hs⟩
  · rintro i a w ⟨h1,h2,ha,hs⟩;refine wp_seq_k fun K4 hK4=>?_;refine wp_region_lit ?_;refine pY ha (yLss rfl rfl) fun a ha=>?_;refine pZ ?_;refine hK4 _ _ ?_;refine wp_seq_k fun K5 hK5=>?_;refine cDec ha rfl (fun hc14=>?_) (fun hc14=>?_)
    · obtain ⟨x,hx⟩ : ∃ x,(sortN xs)[i]? = some x:=⟨_,List.getElem?_eq_getElem (by omega)⟩;obtain ⟨b0,off,rfl,hs⟩:=hs.rd_nod .here hx;refine wp_skip ?_;refine hK5 _ _ ?_;refine wp_seq_k fun K6 hK6=>?_;refine wp_block ?_;refine wp_seq_k fun K7 hK7=>?_;refine wp_region_lit ?_;refine pY ha (yIndexA Tryz.runUnderlying35 Tryz.sizeOf53 rfl rfl (by omega) (by omega)) fun a ha=>?_;refine pY ha (yLoadRA Tryz.isAgg53 Tryz.sizeOf53 hs rfl pk0 rfl) fun a ha=>?_;refine pAlloc (zs:=[.int .i64 0,.int .i64 0,.string ⟨#[]⟩,.bool false,.string ⟨#[]⟩]) ha Tryz.zeroValue53 rfl hs rfl fun b w hs a ha=>?_;refine pStoreA ha Tryz.sizeOf53 hs rfl rfl pk0 rfl rfl rfl fun w hs=>?_;refine pZ ?_;refine hK7 _ _ ?_;refine wp_seq_k fun K8 hK8=>?_;refine wp_region_lit ?_;refine pY ha (yFieldA Tryz.runUnderlying53 rfl Tryz.sizeOf3 rfl rfl) fun a ha=>?_;refine pY ha (yLoadB Tryz.isAgg3 hs rfl pk0 rfl) fun a ha=>?_;refine pY ha (yMove rfl) fun a ha=>?_;refine pY ha (yEql rfl rfl) fun a ha=>?_;refine pY ha (yMove rfl) fun a ha=>?_;refine gDec (t:=21) ha rfl (fun hg4 hp4=>?_) (fun hg4 hp4=>?_)
      · rw [hg4] at ha;refine gOff ha fun a ha=>?_;refine gOff ha fun a ha=>?_;refine gOff ha fun a ha=>?_;refine gOff ha fun a ha=>?_;refine pY ha (yPickF rfl rfl) fun a ha=>?_;refine pZ ?_;refine hK8 _ _ ?_;refine cFalse ha rfl ?_;refine wp_skip ?_;refine hK6 _ _ ?_;refine wp_region_lit ?_;refine pY ha (yAddN rfl rfl ⟨by omega,by omega⟩) fun a ha=>?_;refine pY ha (yMove rfl) fun a ha=>?_;refine pZ ?_;refine ⟨i + 1,⟨by omega,any_at h2 hx ?_,has5 ha rfl rfl rfl rfl rfl,hs.drop.drop⟩,by omega⟩;unfold chP
        (rw [decide_eq_false hp4]; rfl)
      · rw [hg4] at ha;refine gOn ha ?_;refine pY ha (yFieldA Tryz.runUnderlying53 rfl Tryz.sizeOf9 rfl rfl) fun a ha=>?_;refine gOn ha ?_;refine pY ha (yLoadB Tryz.isAgg9 hs rfl pk0 rfl) fun a ha=>?_;refine gOn ha ?_;refine pY ha (yMove rfl) fun a ha=>?_;refine gOn ha ?_;refine pY ha (yStrEql rfl rfl) fun a ha=>?_;refine pY ha (yPickT rfl rfl) fun a ha=>?_;refine pZ ?_;refine hK8 _ _ ?_;refine cDec ha rfl (fun hc26=>?_) (fun hc26=>?_)
        · refine wp_seq_k fun K9 hK9=>?_;refine wp_region_lit ?_;refine pY ha (yFieldA Tryz.runUnderlying53 rfl Tryz.sizeOf3 rfl rfl) fun a ha=>?_;refine pY ha (yLoadB Tryz.isAgg3 hs rfl pk0 rfl) fun a ha=>?_;refine pY ha (yAssign rfl) fun a ha=>?_;refine pY ha (yAssign rfl) fun a ha=>?_;refine pZ ?_;refine hK9 _ _ ?_;refine wp_ret ?_;show bodyPost Tryz.prog Tryz.f96 _ .ret _ _;refine ret2 rfl ha rfl rfl ?_;obtain ⟨e1,e2⟩:=chN_yes ho h2 hx (by unfold chP; rw [decide_eq_true hp4,decide_eq_true hc26]; rfl);rw [e1,e2];exact ⟨rfl,hs.drop.drop.drop⟩
        · refine wp_skip ?_;refine hK6 _ _ ?_;refine wp_region_lit ?_;refine pY ha (yAddN rfl rfl ⟨by omega,by omega⟩) fun a ha=>?_;refine pY ha (yMove rfl) fun a ha=>?_;refine pZ ?_;refine ⟨i + 1,⟨by omega,any_at h2 hx ?_,has5 ha rfl rfl rfl rfl rfl,hs.drop.drop⟩,by omega⟩;unfold chP
          (rw [decide_eq_false hc26,Bool.and_false])
    · refine wp_exit ?_;refine hK2 _ _ ?_;refine wp_seq_k fun K10 hK10=>?_;refine wp_region_lit ?_;refine pY ha (yAssign rfl) fun a ha=>?_;refine pY ha (yAssign rfl) fun a ha=>?_;refine pZ ?_;refine hK10 _ _ ?_;refine wp_ret ?_;show bodyPost Tryz.prog Tryz.f96 _ .ret _ _;refine ret2 rfl ha rfl rfl ?_;rw [List.take_of_length_le (by omega)] at h2;obtain ⟨e1,e2⟩:=chN_no ho h2;rw [e1,e2];exact ⟨rfl,hs.drop⟩
theorem TCre_c {A : Option Addr} {n c : Nat} (x : Actn) (hm : x.name.size≤1000000000) (ho : idsOk xs) (hs : Sep W w cs) (hk : Pick cs (.blk bt 81 [.map (some bm)]) r) (hk2 : Pick r (.mpN bm xs) r2) :
    Calls Tryz.prog 58 #[.pointer (some ⟨bt,0,none⟩),.agg [.int .i64 x.kind,.int .i64 x.id,.int .i64 x.parent,.string x.name,.bool x.dir,.slice A n c].toArray] w (Rt fun v w'=>v = .int .i64 (creE xs x)∧Sep W w' (.blk bt 81 [.map (some bm)]::.mpN bm (if creE xs x = 0 then xs++[creN x] else xs)::r2)):=by
  have hs:=hs.perm (hk.perm.trans (hk2.perm.cons _))
  have hle:=ho.2.2
  refine enter Tryz.func58 Tryz.ntmps58 rfl rfl fun a (ha : Has a 73 [(0,_),(1,_)])=>?_;refine wp_seq_k fun K1 hK1=>?_;refine wp_region_lit ?_;refine pBox (es:=_) ha rfl rfl hs rfl fun b3 w hs a ha=>?_;refine pY ha (yAssign rfl) fun a ha=>?_;refine pZ ?_;refine hK1 _ _ ?_;refine wp_seq_k fun K2 hK2=>?_;refine wp_seq_k fun K3 hK3=>?_;refine cutC (fun a w=>Has a 73 [(23,.bool (decide (x.id < 1∨x.id > 1099511627776∨nameOk x.name = false))),(0,.pointer (some ⟨bt,0,none⟩)),(3,.pointer (some ⟨b3,0,none⟩))]∧Sep W w (.blk b3 32 [.int .i64 x.kind,.int .i64 x.id,.int .i64 x.parent,.string x.name,.bool x.dir,.slice A n c]::.blk bt 81 [.map (some bm)]::.mpN bm xs::r2)) ?_ ?_
  · refine wp_region_lit ?_;refine pY ha (yFieldA Tryz.runUnderlying32 rfl Tryz.sizeOf3 rfl rfl) fun a ha=>?_;refine pY ha (yLoadB Tryz.isAgg3 hs rfl pk0 rfl) fun a ha=>?_;refine pY ha (yLss rfl rfl) fun a ha=>?_;refine pY ha (yMove rfl) fun a ha=>?_;refine gDec (t:=13) ha rfl (fun hg3 hp3=>?_) (fun hg3 hp3=>?_)
    · rw [hg3] at ha;refine gOn ha ?_;refine pY ha (yFieldA Tryz.runUnderlying32 rfl Tryz.sizeOf3 rfl rfl) fun a ha=>?_;refine gOn ha ?_;refine pY ha (yLoadB Tryz.isAgg3 hs rfl pk0 rfl) fun a ha=>?_;refine gOn ha ?_;refine pY ha (yGtr rfl rfl) fun a ha=>?_;refine pY ha (yPickF rfl rfl) fun a ha=>?_;refine pY ha (yMove rfl) fun a ha=>?_;refine gSplit (t:=18) ha rfl (fun hg8=>?_) (fun hg8=>?_)
      · rw [hg8] at ha
        have hp8:=of_decide_eq_false hg8
        refine gOn ha ?_;refine pY ha (yFieldA Tryz.runUnderlying32 rfl Tryz.sizeOf9 rfl rfl) fun a ha=>?_;refine gOn ha ?_;refine pY ha (yLoadB Tryz.isAgg9 hs rfl pk0 rfl) fun a ha=>?_;refine gOn ha ?_;refine pC ha (nCall Tryz.call91 rfl) rfl (Name_c x.name hm hs) ?_;rintro v w ⟨rfl,hs⟩ a ha;refine gOn ha ?_;refine pY ha (yNot rfl) fun a ha=>?_;refine pY ha (yPickF rfl rfl) fun a ha=>?_;refine pZ ⟨rfl,?_⟩;refine ⟨has3 ha ?_ rfl rfl,hs⟩;refine congrArg (fun b=>some (Value.bool b)) ?_;rw [Bool.eq_iff_iff]
        rcases Bool.eq_false_or_eq_true (nameOk x.name) with hN | hN <;> simp [hN] <;> omega
      · rw [hg8] at ha
        have hp8:=of_decide_eq_true hg8
        refine gOff ha fun a ha=>?_;refine gOff ha fun a ha=>?_;refine gOff ha fun a ha=>?_;refine gOff ha fun a ha=>?_;refine pY ha (yPickT rfl rfl) fun a ha=>?_;refine pZ ⟨rfl,?_⟩;refine ⟨has3 ha ?_ rfl rfl,hs⟩;refine congrArg (fun b=>some (Value.bool b)) ?_;rw [Bool.eq_iff_iff]
        rcases Bool.eq_false_or_eq_true (nameOk x.name) with hN | hN <;> simp [hN] <;> omega
    · rw [hg3] at ha;refine gOff ha fun a ha=>?_;refine gOff ha fun a ha=>?_;refine gOff ha fun a ha=>?_;refine pY ha (yPickT rfl rfl) fun a ha=>?_;refine pY ha (yMove rfl) fun a ha=>?_;refine gOff ha fun a ha=>?_;refine gOff ha fun a ha=>?_;refine gOff ha fun a ha=>?_;refine gOff ha fun a ha=>?_;refine pY ha (yPickT rfl rfl) fun a ha=>?_;refine pZ ⟨rfl,?_⟩;refine ⟨has3 ha ?_ rfl rfl,hs⟩;refine congrArg (fun b=>some (Value.bool b)) ?_;rw [Bool.eq_iff_iff]
      rcases Bool.eq_false_or_eq_true (nameOk x.name) with hN | hN <;> simp [hN] <;> omega
  rintro a w ⟨ha,hs⟩;refine hK3 _ _ ?_;refine cDec ha rfl (fun hc23=>?_) (fun hc23=>?_)
  · refine wp_seq_k fun K4 hK4=>?_;refine wp_region_lit ?_;refine pY ha (yAssign rfl) fun a ha=>?_;refine pZ ?_;refine hK4 _ _ ?_;refine wp_ret ?_;show bodyPost Tryz.prog Tryz.f58 _ .ret _ _;refine ret1 rfl ha rfl ?_
    have hE : creE xs x = 1:=by unfold creE; rw [if_pos hc23]
    rw [hE];exact ⟨rfl,(by exact hs.to (by repeat first | exact Picks.refl | (apply Picks.cons; · repeat first | exact .here | apply Pick.there) | refine Picks.skip ?_))⟩
  · refine wp_skip ?_;refine hK2 _ _ ?_;refine wp_seq_k fun K5 hK5=>?_;refine wp_seq_k fun K6 hK6=>?_;refine dStart (fun w=>∃ rs,Sep W w (.blk b3 32 [.int .i64 x.kind,.int .i64 x.id,.int .i64 x.parent,.string x.name,.bool x.dir,.slice A n c]::.blk bt 81 [.map (some bm)]::.mpN bm xs::rs)) [11] 8191 1535 (by kernel_rfl) (by kernel_rfl) rfl (⟨_,hs.drew⟩) ?_
    have hs:=Sep.drew hs
    generalize World.drew _ = w at hs ⊢;refine dP 0 1 rfl ha (fun _=>yMove rfl) fun a ha=>?_;refine dP 1 3 rfl ha (fun _=>yNilP rfl) fun a ha=>?_;refine dP 2 7 rfl ha (fun _=>yFieldA Tryz.runUnderlying81 rfl Tryz.sizeOf79 rfl rfl) fun a ha=>?_;refine dT 3 15 rfl ha (fun _ ⟨rs,hs⟩=>yLoadB Tryz.isAgg79 hs rfl pk1 rfl) ((by exact ⟨_,hs⟩)) fun a ha=>?_;refine dP 4 31 rfl ha (fun _=>yFieldA Tryz.runUnderlying32 rfl Tryz.sizeOf3 rfl rfl) fun a ha=>?_;refine dT 5 63 rfl ha (fun _ ⟨rs,hs⟩=>yLoadB Tryz.isAgg3 hs rfl pk0 rfl) ((by exact ⟨_,hs⟩)) fun a ha=>?_;refine dT 6 127 rfl ha (fun _ ⟨rs,hs⟩=>yLookOk hs rfl pk2 rfl) ((by exact ⟨_,hs⟩)) fun a ha=>?_;refine dP 7 255 rfl ha (fun _=>yMove rfl) fun a ha=>?_;refine dP 8 511 rfl ha (fun _=>yExtract rfl rfl) fun a ha=>?_;refine dP 9 1023 rfl ha (fun _=>yExtract rfl rfl) fun a ha=>?_;refine dAlloc (n:=0) 10 2047 rfl (by kernel_rfl) rfl (zs:=[.int .i64 0,.int .i64 0,.string ⟨#[]⟩,.bool false,.string ⟨#[]⟩]) ha won0 Tryz.zeroValue53 rfl hs rfl (fun _ _ hs=>(by exact ⟨_,hs.drop⟩)) fun b w hs a ha=>?_;refine dStoreAl 11 4095 rfl (by kernel_rfl) rfl ha won0 Tryz.sizeOf53 hs rfl rfl pk0 rfl rfl rfl fun w hs=>?_;refine dP 12 8191 rfl ha (fun _=>yAssign rfl) fun a ha=>?_;refine dZ (by kernel_rfl) ?_;refine hK6 _ _ ?_;refine wp_seq_k fun K7 hK7=>?_;refine wp_region_lit ?_;refine pY ha (yMove rfl) fun a ha=>?_;refine pZ ?_;refine hK7 _ _ ?_;refine cSplit ha rfl (fun hc34=>?_) (fun hc34=>?_)
    · refine wp_seq_k fun K8 hK8=>?_;refine wp_region_lit ?_;refine pY ha (yAssign rfl) fun a ha=>?_;refine pZ ?_;refine hK8 _ _ ?_;refine wp_ret ?_;show bodyPost Tryz.prog Tryz.f58 _ .ret _ _;refine ret1 rfl ha rfl ?_
      have hE : creE xs x = 6:=by unfold creE; rw [if_neg hc23,if_pos hc34]
      rw [hE];exact ⟨rfl,(by exact hs.to (by repeat first | exact Picks.refl | (apply Picks.cons; · repeat first | exact .here | apply Pick.there) | refine Picks.skip ?_))⟩
    · have hN6 : hasId xs x.id = false:=hc34
      refine wp_skip ?_;refine hK5 _ _ ?_;refine wp_seq_k fun K9 hK9=>?_;refine wp_seq_k fun K10 hK10=>?_;refine wp_region_lit ?_;refine pY ha (yMove rfl) fun a ha=>?_;refine pY ha (yFieldA Tryz.runUnderlying32 rfl Tryz.sizeOf3 rfl rfl) fun a ha=>?_;refine pY ha (yLoadB Tryz.isAgg3 hs rfl pk1 rfl) fun a ha=>?_;refine pC ha (nCall Tryz.call95 rfl) rfl (TDir_c x.parent hs pk2 pk2) ?_;rintro v w ⟨rfl,hs⟩ a ha;refine pY ha (yAssign rfl) fun a ha=>?_;refine pZ ?_;refine hK10 _ _ ?_;refine wp_seq_k fun K11 hK11=>?_;refine wp_region_lit ?_;refine pY ha (yMove rfl) fun a ha=>?_;refine pY ha (yNeq rfl rfl) fun a ha=>?_;refine pZ ?_;refine hK11 _ _ ?_;refine cNDec ha rfl (fun hc40=>?_) (fun hc40=>?_)
      · refine wp_seq_k fun K12 hK12=>?_;refine wp_region_lit ?_;refine pY ha (yMove rfl) fun a ha=>?_;refine pY ha (yAssign rfl) fun a ha=>?_;refine pZ ?_;refine hK12 _ _ ?_;refine wp_ret ?_;show bodyPost Tryz.prog Tryz.f58 _ .ret _ _;refine ret1 rfl ha rfl ?_
        have hE : creE xs x = dirE xs x.parent:=by unfold creE; rw [if_neg hc23,if_neg (by rw [hc34]; decide),if_pos hc40]
        rw [hE];rw [if_neg hc40];exact ⟨rfl,(by exact hs.to (by repeat first | exact Picks.refl | (apply Picks.cons; · repeat first | exact .here | apply Pick.there) | refine Picks.skip ?_))⟩
      · refine wp_skip ?_;refine hK9 _ _ ?_;refine wp_seq_k fun K13 hK13=>?_;refine wp_seq_k fun K14 hK14=>?_;refine wp_region_lit ?_;refine pY ha (yMove rfl) fun a ha=>?_;refine pY ha (yFieldA Tryz.runUnderlying32 rfl Tryz.sizeOf3 rfl rfl) fun a ha=>?_;refine pY ha (yLoadB Tryz.isAgg3 hs rfl pk3 rfl) fun a ha=>?_;refine pY ha (yFieldA Tryz.runUnderlying32 rfl Tryz.sizeOf9 rfl rfl) fun a ha=>?_;refine pY ha (yLoadB Tryz.isAgg9 hs rfl pk3 rfl) fun a ha=>?_;refine pC ha (nCall Tryz.call96 rfl) rfl (TChild_c x.parent x.name ho hs pk0 pk0) ?_;rintro v w ⟨rfl,hs⟩ a ha;refine pY ha (yMove rfl) fun a ha=>?_;refine pY ha (yExtract rfl rfl) fun a ha=>?_;refine pY ha (yExtract rfl rfl) fun a ha=>?_;refine pY ha (yAssign rfl) fun a ha=>?_;refine pY ha (yAssign rfl) fun a ha=>?_;refine pZ ?_;refine hK14 _ _ ?_;refine wp_seq_k fun K15 hK15=>?_;refine wp_region_lit ?_;refine pY ha (yMove rfl) fun a ha=>?_;refine pZ ?_;refine hK15 _ _ ?_;refine cSplit ha rfl (fun hc51=>?_) (fun hc51=>?_)
        · refine wp_seq_k fun K16 hK16=>?_;refine wp_region_lit ?_;refine pY ha (yAssign rfl) fun a ha=>?_;refine pZ ?_;refine hK16 _ _ ?_;refine wp_ret ?_;show bodyPost Tryz.prog Tryz.f58 _ .ret _ _;refine ret1 rfl ha rfl ?_
          have hE : creE xs x = 6:=by unfold creE; rw [if_neg hc23,if_neg (by rw [hc34]; decide),if_neg (fun h=>h hc40),if_pos hc51]
          rw [hE];exact ⟨rfl,(by exact hs.to (by repeat first | exact Picks.refl | (apply Picks.cons; · repeat first | exact .here | apply Pick.there) | refine Picks.skip ?_))⟩
        · refine wp_skip ?_;refine hK13 _ _ ?_;refine wp_seq_k fun K17 hK17=>?_;refine wp_seq_k fun K18 hK18=>?_;refine wp_region_lit ?_;refine pY ha (yMove rfl) fun a ha=>?_;refine pY ha (yNilP rfl) fun a ha=>?_;refine pY ha (yFieldA Tryz.runUnderlying81 rfl Tryz.sizeOf79 rfl rfl) fun a ha=>?_;refine pY ha (yLoadB Tryz.isAgg79 hs rfl pk0 rfl) fun a ha=>?_;refine pY ha (yLenN hs rfl pk1) fun a ha=>?_;refine pY ha (yGeq rfl rfl) fun a ha=>?_;refine pZ ?_;refine hK18 _ _ ?_;refine cDec ha rfl (fun hc57=>?_) (fun hc57=>?_)
          · refine wp_seq_k fun K19 hK19=>?_;refine wp_region_lit ?_;refine pY ha (yAssign rfl) fun a ha=>?_;refine pZ ?_;refine hK19 _ _ ?_;refine wp_ret ?_;show bodyPost Tryz.prog Tryz.f58 _ .ret _ _;refine ret1 rfl ha rfl ?_
            have hE : creE xs x = 4:=by unfold creE; rw [if_neg hc23,if_neg (by rw [hc34]; decide),if_neg (fun h=>h hc40),if_neg (by rw [hc51]; decide),if_pos (by omega)]
            rw [hE];exact ⟨rfl,(by exact hs.to (by repeat first | exact Picks.refl | (apply Picks.cons; · repeat first | exact .here | apply Pick.there) | refine Picks.skip ?_))⟩
          · refine wp_skip ?_;refine hK17 _ _ ?_;refine wp_seq_k fun K20 hK20=>?_;refine dStart (fun w=>Sep W w _) [15] 65535 32767 (by kernel_rfl) (by kernel_rfl) rfl (hs.drew) ?_
            have hs:=Sep.drew hs
            generalize World.drew _ = w at hs ⊢;refine dP 0 1 rfl ha (fun _=>yMove rfl) fun a ha=>?_;refine dP 1 3 rfl ha (fun _=>yNilP rfl) fun a ha=>?_;refine dP 2 7 rfl ha (fun _=>yFieldA Tryz.runUnderlying81 rfl Tryz.sizeOf79 rfl rfl) fun a ha=>?_;refine dT 3 15 rfl ha (fun _ hs=>yLoadB Tryz.isAgg79 hs rfl pk0 rfl) (hs) fun a ha=>?_;refine dP 4 31 rfl ha (fun _=>yFieldA Tryz.runUnderlying32 rfl Tryz.sizeOf3 rfl rfl) fun a ha=>?_;refine dT 5 63 rfl ha (fun _ hs=>yLoadB Tryz.isAgg3 hs rfl pk3 rfl) (hs) fun a ha=>?_;refine dP 6 127 rfl ha (fun _=>yFieldA Tryz.runUnderlying32 rfl Tryz.sizeOf3 rfl rfl) fun a ha=>?_;refine dT 7 255 rfl ha (fun _ hs=>yLoadB Tryz.isAgg3 hs rfl pk3 rfl) (hs) fun a ha=>?_;refine dP 8 511 rfl ha (fun _=>yFieldA Tryz.runUnderlying32 rfl Tryz.sizeOf3 rfl rfl) fun a ha=>?_;refine dT 9 1023 rfl ha (fun _ hs=>yLoadB Tryz.isAgg3 hs rfl pk3 rfl) (hs) fun a ha=>?_;refine dP 10 2047 rfl ha (fun _=>yFieldA Tryz.runUnderlying32 rfl Tryz.sizeOf9 rfl rfl) fun a ha=>?_;refine dT 11 4095 rfl ha (fun _ hs=>yLoadB Tryz.isAgg9 hs rfl pk3 rfl) (hs) fun a ha=>?_;refine dP 12 8191 rfl ha (fun _=>yFieldA Tryz.runUnderlying32 rfl Tryz.sizeOf4 rfl rfl) fun a ha=>?_;refine dT 13 16383 rfl ha (fun _ hs=>yLoadB Tryz.isAgg4 hs rfl pk3 rfl) (hs) fun a ha=>?_;refine dP 14 32767 rfl ha (fun _=>bldCrW53_0_1_2_3 rfl rfl rfl rfl) fun a ha=>?_;refine dMapNewl (n:=creN x) 15 65535 rfl (by kernel_rfl) rfl ha won0 hs rfl pk1 rfl rfl (fun m hm e=>?_) ?_
            · refine absurd ?_ (by rw [Bool.not_eq_true]; exact hN6 : ¬ hasId xs x.id = true);rw [hasId_iff]; exact List.mem_map.2 ⟨m,hm,e⟩
            intro w hs;refine dZ (by kernel_rfl) ?_;refine hK20 _ _ ?_;refine wp_seq_k fun K21 hK21=>?_;refine wp_region_lit ?_;refine pY ha (yAssign rfl) fun a ha=>?_;refine pZ ?_;refine hK21 _ _ ?_;refine wp_ret ?_;show bodyPost Tryz.prog Tryz.f58 _ .ret _ _;refine ret1 rfl ha rfl ?_
            have hE : creE xs x = 0:=by unfold creE; rw [if_neg hc23,if_neg (by rw [hc34]; decide),if_neg (fun h=>h hc40),if_neg (by rw [hc51]; decide),if_neg (by omega)]
            rw [hE];exact ⟨rfl,(by exact hs.to (by repeat first | exact Picks.refl | (apply Picks.cons; · repeat first | exact .here | apply Pick.there) | refine Picks.skip ?_))⟩
theorem TDo1_c {A : Option Addr} {n c : Nat} (x : Actn) (h1 : x.kind = 1) (hm : x.name.size≤1000000000) (ho : idsOk xs) (hs : Sep W w cs) (hk : Pick cs (.blk bt 81 [.map (some bm)]) r) (hk2 : Pick r (.mpN bm xs) r2) :
    Calls Tryz.prog 38 #[.pointer (some ⟨bt,0,none⟩),.agg [.int .i64 x.kind,.int .i64 x.id,.int .i64 x.parent,.string x.name,.bool x.dir,.slice A n c].toArray] w (Rt fun v w'=>v = .int .i64 (creE xs x)∧Sep W w' (.blk bt 81 [.map (some bm)]::.mpN bm (if creE xs x = 0 then xs++[creN x] else xs)::r2)):=by
  have hs:=hs.perm (hk.perm.trans (hk2.perm.cons _));refine enter Tryz.func38 Tryz.ntmps38 rfl rfl fun a (ha : Has a 45 [(0,_),(1,_)])=>?_;refine wp_seq_k fun K1 hK1=>?_;refine wp_region_lit ?_;refine pBox (es:=_) ha rfl rfl hs rfl fun b3 w hs a ha=>?_;refine pY ha (yAssign rfl) fun a ha=>?_;refine pZ ?_;refine hK1 _ _ ?_;refine wp_seq_k fun K2 hK2=>?_;refine wp_seq_k fun K3 hK3=>?_;refine wp_region_lit ?_;refine pY ha (yFieldA Tryz.runUnderlying32 rfl Tryz.sizeOf3 rfl rfl) fun a ha=>?_;refine pY ha (yLoadB Tryz.isAgg3 hs rfl pk0 rfl) fun a ha=>?_;refine pY ha (yLss rfl rfl) fun a ha=>?_;refine pY ha (yMove rfl) fun a ha=>?_;refine gDec (t:=8) ha rfl (fun hg3 hp3=>?_) (fun hg3 hp3=>?_)
  · rw [hg3] at ha;refine gOn ha ?_;refine pY ha (yFieldA Tryz.runUnderlying32 rfl Tryz.sizeOf3 rfl rfl) fun a ha=>?_;refine gOn ha ?_;refine pY ha (yLoadB Tryz.isAgg3 hs rfl pk0 rfl) fun a ha=>?_;refine gOn ha ?_;refine pY ha (yGtr rfl rfl) fun a ha=>?_;refine pY ha (yPickF rfl rfl) fun a ha=>?_;refine pZ ?_;refine hK3 _ _ ?_;refine cDec ha rfl (fun hc12=>?_) (fun hc12=>?_)
    · exact absurd hc12 (by omega)
    · refine wp_skip ?_;refine hK2 _ _ ?_;refine wp_seq_k fun K4 hK4=>?_;refine wp_seq_k fun K5 hK5=>?_;refine wp_region_lit ?_;refine pY ha (yMove rfl) fun a ha=>?_;refine pY ha (yPtrEqlN Tryz.underlying54 rfl rfl) fun a ha=>?_;refine pZ ?_;refine hK5 _ _ ?_;refine cFalse ha rfl ?_;refine wp_skip ?_;refine hK4 _ _ ?_;refine wp_seq_k fun K6 hK6=>?_;refine wp_seq_k fun K7 hK7=>?_;refine wp_region_lit ?_;refine pY ha (yMove rfl) fun a ha=>?_;refine pY ha (yNilP rfl) fun a ha=>?_;refine pY ha (yFieldA Tryz.runUnderlying81 rfl Tryz.sizeOf79 rfl rfl) fun a ha=>?_;refine pY ha (yLoadB Tryz.isAgg79 hs rfl pk1 rfl) fun a ha=>?_;refine pY ha (yMapEql Tryz.underlying79 rfl rfl) fun a ha=>?_;refine pZ ?_;refine hK7 _ _ ?_;refine cFalse ha rfl ?_;refine wp_skip ?_;refine hK6 _ _ ?_;refine wp_seq_k fun K8 hK8=>?_;refine wp_seq_k fun K9 hK9=>?_;refine wp_region_lit ?_;refine pY ha (yFieldA Tryz.runUnderlying32 rfl Tryz.sizeOf3 rfl rfl) fun a ha=>?_;refine pY ha (yLoadB Tryz.isAgg3 hs rfl pk0 rfl) fun a ha=>?_;refine pZ ?_;refine hK9 _ _ ?_;refine wp_block ?_;refine wp_seq_k fun K10 hK10=>?_;refine wp_region_lit ?_;refine pY ha (yEql rfl rfl) fun a ha=>?_;refine pY ha (yAssign rfl) fun a ha=>?_;refine pZ ?_;refine hK10 _ _ ?_;refine cDec ha rfl (fun hc26=>?_) (fun hc26=>?_)
      · refine wp_seq_k fun K11 hK11=>?_;refine wp_region_lit ?_;refine pY ha (yMove rfl) fun a ha=>?_;refine pY ha (yLoadBA Tryz.isAgg32 Tryz.sizeOf32 hs rfl pk0 rfl) fun a ha=>?_;refine pC ha (nCall Tryz.call58 rfl) rfl (TCre_c x hm ho hs pk1 pk1) ?_;rintro v w ⟨rfl,hs⟩ a ha;refine pY ha (yAssign rfl) fun a ha=>?_;refine pZ ?_;refine hK11 _ _ ?_;refine wp_ret ?_;show bodyPost Tryz.prog Tryz.f38 _ .ret _ _;refine ret1 rfl ha rfl ?_;exact ⟨rfl,(by exact hs.to (by repeat first | exact Picks.refl | (apply Picks.cons; · repeat first | exact .here | apply Pick.there) | refine Picks.skip ?_))⟩
      · exact absurd h1 hc26
  · exact absurd hp3 (by omega)
theorem TxnDo_c (hT : Tabs W) {A : Option Addr} {n c : Nat} {l : List Actn} (h1 : ∀ x ∈ l,x.kind = 1) (hm : ∀ x ∈ l,mA x) (ho : idsOk xs) (hs : Sep W w cs) (hk : Pick cs (.blk bt 81 [.map (some bm)]) r) (hk2 : Pick r (.mpN bm xs) r2) {r3 : List Ch} (hk3 : Pick r2 (.rd kActn (.slice A n c) l) r3) :
    Calls Tryz.prog 22 #[.pointer (some ⟨bt,0,none⟩),.slice A n c] w (Rt fun v w'=>∃ k p,v = .tuple #[.pointer p,.int .i64 k,.int .i64 (doE xs l)] ∧
      ((doE xs l = 0∧∃ b m,p = some ⟨b,0,none⟩∧Sep W w' (.blk b 81 [.map (some m)]::.mpN m (doL xs l).1::.blk bt 81 [.map (some bm)]::.mpN bm xs::r2)) ∨
       (doE xs l ≠ 0∧p = none∧Sep W w' (.blk bt 81 [.map (some bm)]::.mpN bm xs::r2)))):=by
  have hs:=hs.perm (hk.perm.trans (hk2.perm.cons _));obtain ⟨rfl,hl⟩:=hs.rd_shape (.there (.there hk3));unfold maxLen at hl;have hs:=hs.cpR (.there (.there hk3));refine enter Tryz.func22 Tryz.ntmps22 rfl rfl fun a (ha : Has a 33 [(0,_),(1,_)])=>?_;refine wp_seq_k fun K1 hK1=>?_;refine wp_region_lit ?_;refine pY ha (yAssign rfl) fun a ha=>?_;refine pY ha (yAssign rfl) fun a ha=>?_;refine pY ha (yAssign rfl) fun a ha=>?_;refine pZ ?_;refine hK1 _ _ ?_;refine scopeF 1 99999 ?_;refine wp_seq_k fun K2 hK2=>?_;refine wp_seq_k fun K3 hK3=>?_;refine wp_region_lit ?_;refine pY ha (yMove rfl) fun a ha=>?_;refine pC ha (nCall Tryz.call37 rfl) rfl (TxnCheck_c hT hm hs .here) ?_;rintro v w ⟨rfl,hs⟩ a ha;refine pY ha (yAssign rfl) fun a ha=>?_;refine pZ ?_;refine hK3 _ _ ?_;refine wp_seq_k fun K4 hK4=>?_;refine wp_region_lit ?_;refine pY ha (yMove rfl) fun a ha=>?_;refine pY ha (yNeq rfl rfl) fun a ha=>?_;refine pZ ?_;refine hK4 _ _ ?_;refine cNDec ha rfl (fun hc10=>?_) (fun hc10=>?_)
  · refine wp_seq_k fun K5 hK5=>?_;refine wp_region_lit ?_;refine pY ha (yMove rfl) fun a ha=>?_;refine pY ha (yAssign rfl) fun a ha=>?_;refine pY ha (yAssign rfl) fun a ha=>?_;refine pY ha (yAssign rfl) fun a ha=>?_;refine pZ ?_;refine hK5 _ _ ?_;refine wp_ret ?_;show bodyPost Tryz.prog Tryz.f22 _ .ret _ _;refine ret3 rfl ha rfl rfl rfl ?_
    have hE : doE xs l = txnE l:=by unfold doE; rw [if_pos hc10]
    rw [hE];exact ⟨_,none,rfl,.inr ⟨hc10,rfl,(by exact hs.to (by repeat first | exact Picks.refl | (apply Picks.cons; · repeat first | exact .here | apply Pick.there) | refine Picks.skip ?_))⟩⟩
  · refine wp_skip ?_;refine hK2 _ _ ?_;refine wp_seq_k fun K6 hK6=>?_;refine wp_region_lit ?_;refine pY ha (yMove rfl) fun a ha=>?_;refine pC ha (nCall Tryz.call34 rfl) rfl (Copy_c hs pk1 pk1) ?_;rintro v w ⟨b,m,rfl,hs⟩ a ha;refine pY ha (yAssign rfl) fun a ha=>?_;refine pZ ?_;refine hK6 _ _ ?_;refine wp_seq_k fun K7 hK7=>?_;refine wp_seq_k fun K8 hK8=>?_;refine wp_region_lit ?_;refine pY ha (yMove rfl) fun a ha=>?_;refine pY ha (yLenS Tryz.runUnderlying33 rfl) fun a ha=>?_;refine pY ha (yMove rfl) fun a ha=>?_;refine pZ ?_;refine hK8 _ _ ?_;refine wp_block ?_;refine loopI (ι:=Nat) (fun i a w=>i≤l.length∧(doL xs (l.take i)).2 = 0∧Has a 33 [(1,.slice A l.length c),(4,.pointer (some ⟨b,0,none⟩)),(15,.int .i64 l.length),(16,.int .i64 i)]∧Sep W w (.blk b 81 [.map (some m)]::.mpN m (doL xs (l.take i)).1::.rd kActn (.slice A l.length c) l::.blk bt 81 [.map (some bm)]::.mpN bm xs::r2)) (fun i=>l.length - i) (0) ?_ ?_
    · exact ⟨Nat.zero_le _,rfl,has4 ha rfl rfl rfl rfl,(by exact hs.to (by repeat first | exact Picks.refl | (apply Picks.cons; · repeat first | exact .here | apply Pick.there) | refine Picks.skip ?_))⟩
    · rintro i a w ⟨h2,h3,ha,hs⟩;refine wp_seq_k fun K9 hK9=>?_;refine wp_region_lit ?_;refine pY ha (yLss rfl rfl) fun a ha=>?_;refine pZ ?_;refine hK9 _ _ ?_;refine wp_seq_k fun K10 hK10=>?_;refine cDec ha rfl (fun hc17=>?_) (fun hc17=>?_)
      · obtain ⟨x,hx⟩ : ∃ x,l[i]? = some x:=⟨_,List.getElem?_eq_getElem (by omega)⟩
        have hmem:=List.mem_of_getElem? hx
        obtain ⟨b0,off,A',n',c',rfl,hs⟩:=hs.rd_actn (.there (.there .here)) hx;refine wp_skip ?_;refine hK10 _ _ ?_;refine wp_seq_k fun K11 hK11=>?_;refine wp_block ?_;refine wp_seq_k fun K12 hK12=>?_;refine wp_region_lit ?_;refine pY ha (yMove rfl) fun a ha=>?_;refine pY ha (yAssign rfl) fun a ha=>?_;refine pZ ?_;refine hK12 _ _ ?_;refine wp_seq_k fun K13 hK13=>?_;refine wp_region_lit ?_;refine pY ha (yMove rfl) fun a ha=>?_;refine pY ha (yMove rfl) fun a ha=>?_;refine pY ha (yMove rfl) fun a ha=>?_;refine pY ha (yIndexA Tryz.runUnderlying33 Tryz.sizeOf32 rfl rfl (by omega) (by omega)) fun a ha=>?_;refine pY ha (yLoadRA Tryz.isAgg32 Tryz.sizeOf32 hs rfl pk0 rfl) fun a ha=>?_;refine pC ha (nCall Tryz.call38 rfl) rfl (TDo1_c x (h1 x hmem) (hm x hmem).1 (idsOk_do _ ho) hs pk2 pk2) ?_;rintro v w ⟨rfl,hs⟩ a ha;refine pY ha (yAssign rfl) fun a ha=>?_;refine pZ ?_;refine hK13 _ _ ?_;refine wp_seq_k fun K14 hK14=>?_;refine wp_region_lit ?_;refine pY ha (yMove rfl) fun a ha=>?_;refine pY ha (yNeq rfl rfl) fun a ha=>?_;refine pZ ?_;refine hK14 _ _ ?_;refine cNDec ha rfl (fun hc26=>?_) (fun hc26=>?_)
        · refine wp_goto ?_
          repeat (with_reducible first | refine gThen ?_ | refine gBlock ?_)
          refine gxF rfl rfl ?_;refine wp_seq_k fun K15 hK15=>?_;refine wp_skip ?_;refine hK15 _ _ ?_;refine wp_seq_k fun K16 hK16=>?_;refine wp_region_lit ?_;refine pY ha (yMove rfl) fun a ha=>?_;refine pY ha (yMove rfl) fun a ha=>?_;refine pY ha (yAssign rfl) fun a ha=>?_;refine pY ha (yAssign rfl) fun a ha=>?_;refine pY ha (yAssign rfl) fun a ha=>?_;refine pZ ?_;refine hK16 _ _ ?_;refine wp_ret ?_;show bodyPost Tryz.prog Tryz.f22 _ .ret _ _;refine ret3 rfl ha rfl rfl rfl ?_
          have hE : doE xs l = creE (doL xs (l.take i)).1 x:=by unfold doE; rw [if_neg (fun h=>h hc10)]; exact doL_bad h3 hx hc26
          rw [hE];exact ⟨_,none,rfl,.inr ⟨hc26,rfl,(by exact hs.to (by repeat first | exact Picks.refl | (apply Picks.cons; · repeat first | exact .here | apply Pick.there) | refine Picks.skip ?_))⟩⟩
        · refine wp_skip ?_;refine hK11 _ _ ?_;refine wp_region_lit ?_;refine pY ha (yAddN rfl rfl ⟨by omega,by omega⟩) fun a ha=>?_;refine pY ha (yMove rfl) fun a ha=>?_;refine pZ ?_
          have hce : creE (doL xs (l.take i)).1 x = 0:=by simpa using hc26
          have hdt:=doL_take h3 hx hce
          rw [if_pos hce] at hs;refine ⟨i + 1,⟨by omega,by rw [hdt],has4 ha rfl rfl rfl rfl,?_⟩,by omega⟩;rw [hdt];exact (by exact hs.to (by repeat first | exact Picks.refl | (apply Picks.cons; · repeat first | exact .here | apply Pick.there) | refine Picks.skip ?_))
      · refine wp_exit ?_;refine hK7 _ _ ?_;refine wp_seq_k fun K17 hK17=>?_;refine wp_seq_k fun K18 hK18=>?_;refine wp_region_lit ?_;refine pY ha (yMove rfl) fun a ha=>?_;refine pY ha (yMove rfl) fun a ha=>?_;refine pY ha (yLenS Tryz.runUnderlying33 rfl) fun a ha=>?_;refine pY ha (yAssign rfl) fun a ha=>?_;refine pY ha (yAssign rfl) fun a ha=>?_;refine pY ha (yAssign rfl) fun a ha=>?_;refine pZ ?_;refine hK18 _ _ ?_;refine wp_ret ?_;show bodyPost Tryz.prog Tryz.f22 _ .ret _ _;refine ret3 rfl ha rfl rfl rfl ?_;rw [List.take_of_length_le (by omega)] at h3 hs
        have hE : doE xs l = 0:=by unfold doE; rw [if_neg (fun h=>h hc10)]; exact h3
        rw [hE];exact ⟨_,_,rfl,.inl ⟨rfl,b,m,rfl,(by exact hs.to (by repeat first | exact Picks.refl | (apply Picks.cons; · repeat first | exact .here | apply Pick.there) | refine Picks.skip ?_))⟩⟩
end
end Go.Proofs.YtkbbnpjbjakpcaaGreatDoor

set_option linter.unusedVariables false
set_option linter.unusedSimpArgs false
namespace Go.Proofs.YtkbbnpjbjakpcaaGreatDoor
open Go.RowKit Go.Lib Go.Proofs.YtkbbnpjbjakpcaaGreatDoorW.PrintLast
/-- A message as the machine holds it. -/
def mM (x : Msg) : Prop:=(i64 x.client∧i64 x.seq∧i64 x.rev∧i64 x.last∧i64 x.code)∧(∀ a ∈ x.acts,mA a)∧(∀ c ∈ x.commits,mCm c)∧(∀ n ∈ x.nodes,mN n)∧shortM x
def badM (m : Msg) : Prop:=m.kind < 1∨m.kind > 9∨m ≠ plainM m∨fits m.client = false∨fits m.seq = false∨fits m.rev = false∨fits m.last = false∨fits m.code = false
instance (m : Msg) : Decidable (badM m):=by unfold badM; infer_instance
section
variable {W w : World} {cs r r2 : List Ch}
theorem Nodes_c (hT : Tabs W) {A : Option Addr} {n c : Nat} {xs : List Nod} (hm : ∀ x ∈ xs,mN x) (hs : Sep W w cs) (hk : Pick cs (.rd kNod (.slice A n c) xs) r) :
    Calls P 43 #[.slice A n c] w (Rt fun v w'=>v = .int .i64 (nodsE xs)∧Sep W w' cs):=by
  obtain ⟨rfl,hl⟩:=hs.rd_shape hk;unfold maxLen at hl;refine enter Tryz.func43 Tryz.ntmps43 rfl rfl fun a (ha : Has a 14 [(0,_)])=>?_;refine wp_seq_k fun K1 hK1=>?_;refine wp_region_lit ?_;refine pY ha (yAssign rfl) fun a ha=>?_;refine pZ ?_;refine hK1 _ _ ?_;refine wp_seq_k fun K2 hK2=>?_;refine wp_seq_k fun K3 hK3=>?_;refine wp_region_lit ?_;refine pY ha (yMove rfl) fun a ha=>?_;refine pY ha (yLenS Tryz.runUnderlying35 rfl) fun a ha=>?_;refine pY ha (yGtr rfl rfl) fun a ha=>?_;refine pZ ?_;refine hK3 _ _ ?_;refine cDec ha rfl (fun hc7=>?_) (fun hc7=>?_)
  · refine wp_seq_k fun K4 hK4=>?_;refine wp_region_lit ?_;refine pY ha (yAssign rfl) fun a ha=>?_;refine pZ ?_;refine hK4 _ _ ?_;refine wp_ret ?_;show bodyPost Tryz.prog Tryz.f43 _ .ret _ _;refine ret1 rfl ha rfl ?_
    (refine ⟨congrArg (Value.int .i64) ?_,hs⟩; unfold nodsE; rw [if_pos (by omega)]; done)
  · refine wp_skip ?_;refine hK2 _ _ ?_;refine wp_seq_k fun K5 hK5=>?_;refine wp_region_lit ?_;refine pY ha (yMove rfl) fun a ha=>?_;refine pC ha (nCall Tryz.call47 rfl) rfl (Load_c hT (xs:=xs) hm (by omega) hs hk) ?_;rintro v w hv a ha
    rcases Bool.eq_false_or_eq_true (loadOk xs) with hok | hok
    · rw [if_pos hok] at hv;obtain ⟨b,bm,rfl,hs⟩:=hv;refine pY ha (yMove rfl) fun a ha=>?_;refine pY ha (yExtract rfl rfl) fun a ha=>?_;refine pY ha (yExtract rfl rfl) fun a ha=>?_;refine pY ha (yAssign rfl) fun a ha=>?_;refine pY ha (yAssign rfl) fun a ha=>?_;refine pZ ?_;refine hK5 _ _ ?_;refine wp_seq_k fun K6 hK6=>?_;refine wp_region_lit ?_;refine pY ha (yMove rfl) fun a ha=>?_;refine pY ha (yAssign rfl) fun a ha=>?_;refine pZ ?_;refine hK6 _ _ ?_;refine wp_ret ?_;show bodyPost Tryz.prog Tryz.f43 _ .ret _ _;refine ret1 rfl ha rfl ?_
      (refine ⟨congrArg (Value.int .i64) ?_,hs.drop.drop⟩; unfold nodsE; rw [if_neg (by omega),if_pos hok]; done)
    · rw [if_neg (by rw [hok]; decide)] at hv;obtain ⟨rfl,hs⟩:=hv;refine pY ha (yMove rfl) fun a ha=>?_;refine pY ha (yExtract rfl rfl) fun a ha=>?_;refine pY ha (yExtract rfl rfl) fun a ha=>?_;refine pY ha (yAssign rfl) fun a ha=>?_;refine pY ha (yAssign rfl) fun a ha=>?_;refine pZ ?_;refine hK5 _ _ ?_;refine wp_seq_k fun K7 hK7=>?_;refine wp_region_lit ?_;refine pY ha (yMove rfl) fun a ha=>?_;refine pY ha (yAssign rfl) fun a ha=>?_;refine pZ ?_;refine hK7 _ _ ?_;refine wp_ret ?_;show bodyPost Tryz.prog Tryz.f43 _ .ret _ _;refine ret1 rfl ha rfl ?_
      (refine ⟨congrArg (Value.int .i64) ?_,hs⟩; unfold nodsE; rw [if_neg (by omega),if_neg (by rw [hok]; decide)]; done)
theorem Write_c (hT : Tabs W) {es : List Value} {x : Msg} (hb : (wMsg x).1.length≤8796093022208) (hs : Sep W w cs) (hk : Pick cs (.el kMsg x es) r) :
    Calls P 44 #[.agg es.toArray] w (Rt fun v w'=>∃ A c,v = .slice A (bOut x).length c∧Sep W w' (.rd kU8 (.slice A (bOut x).length c) (bOut x)::cs)):=by
  obtain ⟨A,n,c,A',n',c',B,m,d,rfl,hs⟩:=hs.el_msg hk;obtain ⟨rfl,hl⟩:=hs.rd_shape (.there .here);unfold maxLen at hl
  have q1:=wNum_le ([],false) x.kind
  have q2:=wNum_le (wNum ([],false) x.kind) x.client
  have q3:=wNum_le (wNum (wNum ([],false) x.kind) x.client) x.seq
  have q4:=wNum_le (wNum (wNum (wNum ([],false) x.kind) x.client) x.seq) x.rev
  have q5:=wNum_le (wNum (wNum (wNum (wNum ([],false) x.kind) x.client) x.seq) x.rev) x.code
  have q6:=wNum_le (wNum (wNum (wNum (wNum (wNum ([],false) x.kind) x.client) x.seq) x.rev) x.code) x.last
  have q7 : (wNum (wNum (wNum (wNum (wNum (wNum ([],false) x.kind) x.client) x.seq) x.rev) x.code) x.last).1.length≤(wHead ([],false) x).1.length:=wActns_le _ x.acts
  have q8 : (wNum (wHead ([],false) x) x.commits.length).1.length≤(wCmts (wHead ([],false) x) x.commits).1.length:=fold_le wCmt_le x.commits _
  have q9 : (wCmts (wHead ([],false) x) x.commits).1.length≤(wMsg x).1.length:=wNods_le _ x.nodes
  have q10:=wNum_le (wHead ([],false) x) x.commits.length
  refine enter Tryz.func44 Tryz.ntmps44 rfl rfl fun a (ha : Has a 64 [(0,_)])=>?_;refine wp_seq_k fun K1 hK1=>?_;refine wp_region_lit ?_;refine pBox (es:=_) ha rfl rfl hs rfl fun b1 w hs a ha=>?_;refine pY ha (yAssign rfl) fun a ha=>?_;refine pZ ?_;refine hK1 _ _ ?_;refine wp_seq_k fun K2 hK2=>?_;refine dStart (fun w=>∃ rs,Sep W w (.blk b1 37 [.int .i64 x.kind,.int .i64 x.client,.int .i64 x.seq,.int .i64 x.rev,.int .i64 x.code,.slice A n c,.slice A' x.commits.length c',.slice B m d,.int .i64 x.last]::rs)) [25] 134217727 33554431 (by kernel_rfl) (by kernel_rfl) rfl (⟨_,hs.drew.pick pk0⟩) ?_
  have hs:=Sep.drew hs
  generalize World.drew _ = w at hs ⊢;refine dP 1 2 rfl ha (fun _=>yFieldA Tryz.runUnderlying37 rfl Tryz.sizeOf3 rfl rfl) fun a ha=>?_;refine dT 2 6 rfl ha (fun _ ⟨rs,hs⟩=>yLoadB Tryz.isAgg3 hs rfl pk0 rfl) (⟨_,hs.pick pk0⟩) fun a ha=>?_;refine dP 4 22 rfl ha (fun _=>yFieldA Tryz.runUnderlying37 rfl Tryz.sizeOf3 rfl rfl) fun a ha=>?_;refine dT 5 54 rfl ha (fun _ ⟨rs,hs⟩=>yLoadB Tryz.isAgg3 hs rfl pk0 rfl) (⟨_,hs.pick pk0⟩) fun a ha=>?_;refine dP 7 182 rfl ha (fun _=>yFieldA Tryz.runUnderlying37 rfl Tryz.sizeOf3 rfl rfl) fun a ha=>?_;refine dT 8 438 rfl ha (fun _ ⟨rs,hs⟩=>yLoadB Tryz.isAgg3 hs rfl pk0 rfl) (⟨_,hs.pick pk0⟩) fun a ha=>?_;refine dP 10 1462 rfl ha (fun _=>yFieldA Tryz.runUnderlying37 rfl Tryz.sizeOf3 rfl rfl) fun a ha=>?_;refine dT 11 3510 rfl ha (fun _ ⟨rs,hs⟩=>yLoadB Tryz.isAgg3 hs rfl pk0 rfl) (⟨_,hs.pick pk0⟩) fun a ha=>?_;refine dP 13 11702 rfl ha (fun _=>yFieldA Tryz.runUnderlying37 rfl Tryz.sizeOf3 rfl rfl) fun a ha=>?_;refine dT 14 28086 rfl ha (fun _ ⟨rs,hs⟩=>yLoadB Tryz.isAgg3 hs rfl pk0 rfl) (⟨_,hs.pick pk0⟩) fun a ha=>?_;refine dP 16 93622 rfl ha (fun _=>yFieldA Tryz.runUnderlying37 rfl Tryz.sizeOf3 rfl rfl) fun a ha=>?_;refine dT 17 224694 rfl ha (fun _ ⟨rs,hs⟩=>yLoadB Tryz.isAgg3 hs rfl pk0 rfl) (⟨_,hs.pick pk0⟩) fun a ha=>?_;refine dP 19 748982 rfl ha (fun _=>yFieldA Tryz.runUnderlying37 rfl Tryz.sizeOf33 rfl rfl) fun a ha=>?_;refine dT 20 1797558 rfl ha (fun _ ⟨rs,hs⟩=>yLoadB Tryz.isAgg33 hs rfl pk0 rfl) (⟨_,hs.pick pk0⟩) fun a ha=>?_;refine dP 22 5991862 rfl ha (fun _=>yFieldA Tryz.runUnderlying37 rfl Tryz.sizeOf34 rfl rfl) fun a ha=>?_;refine dT 23 14380470 rfl ha (fun _ ⟨rs,hs⟩=>yLoadB Tryz.isAgg34 hs rfl pk0 rfl) (⟨_,hs.pick pk0⟩) fun a ha=>?_;refine dP 24 31157686 rfl ha (fun _=>yLenS Tryz.runUnderlying34 rfl) fun a ha=>?_;refine dAlloc (n:=0) 0 31157687 rfl (by kernel_rfl) rfl (zs:=[.slice none 0 0,.bool false]) ha won0 Tryz.zeroValue112 rfl hs rfl (fun _ _ hs=>⟨_,hs.pick pk1⟩) fun bw w hs a ha=>?_
  have hs:=((hs.ol_nil kU8 5 none).perm (List.Perm.swap _ _ _)).wtr_shut .here .here
  refine dC 3 31157695 rfl (by kernel_rfl) rfl ha won0 (nCall Tryz.call67 rfl) rfl (WrNum_c (st:=([],false)) x.kind (by omega) hs pk0) ?_;rintro v w ⟨rfl,hs⟩;refine ⟨⟨_,hs.pick pk1⟩,fun a ha=>?_⟩;refine dC 6 31157759 rfl (by kernel_rfl) rfl ha won0 (nCall Tryz.call67 rfl) rfl (WrNum_c (st:=wNum ([],false) x.kind) x.client (by omega) hs pk0) ?_;rintro v w ⟨rfl,hs⟩;refine ⟨⟨_,hs.pick pk1⟩,fun a ha=>?_⟩;refine dC 9 31158271 rfl (by kernel_rfl) rfl ha won0 (nCall Tryz.call67 rfl) rfl (WrNum_c (st:=wNum (wNum ([],false) x.kind) x.client) x.seq (by omega) hs pk0) ?_;rintro v w ⟨rfl,hs⟩;refine ⟨⟨_,hs.pick pk1⟩,fun a ha=>?_⟩;refine dC 12 31162367 rfl (by kernel_rfl) rfl ha won0 (nCall Tryz.call67 rfl) rfl (WrNum_c (st:=wNum (wNum (wNum ([],false) x.kind) x.client) x.seq) x.rev (by omega) hs pk0) ?_;rintro v w ⟨rfl,hs⟩;refine ⟨⟨_,hs.pick pk1⟩,fun a ha=>?_⟩;refine dC 15 31195135 rfl (by kernel_rfl) rfl ha won0 (nCall Tryz.call67 rfl) rfl (WrNum_c (st:=wNum (wNum (wNum (wNum ([],false) x.kind) x.client) x.seq) x.rev) x.code (by omega) hs pk0) ?_;rintro v w ⟨rfl,hs⟩;refine ⟨⟨_,hs.pick pk1⟩,fun a ha=>?_⟩;refine dC 18 31457279 rfl (by kernel_rfl) rfl ha won0 (nCall Tryz.call67 rfl) rfl (WrNum_c (st:=wNum (wNum (wNum (wNum (wNum ([],false) x.kind) x.client) x.seq) x.rev) x.code) x.last (by omega) hs pk0) ?_;rintro v w ⟨rfl,hs⟩;refine ⟨⟨_,hs.pick pk1⟩,fun a ha=>?_⟩;refine dC 21 33554431 rfl (by kernel_rfl) rfl ha won0 (nCall Tryz.call68 rfl) rfl (WrActns_c (st:=wNum (wNum (wNum (wNum (wNum (wNum ([],false) x.kind) x.client) x.seq) x.rev) x.code) x.last) (xs:=x.acts) hT (show (wHead ([],false) x).1.length≤_ by omega) hs pk0 pk1) ?_;rintro v w ⟨rfl,hs⟩;refine ⟨⟨_,hs.pick pk1⟩,fun a ha=>?_⟩;refine dCl 25 67108863 rfl (by kernel_rfl) rfl ha won0 (nCall Tryz.call67 rfl) rfl (WrNum_c (st:=wHead ([],false) x) x.commits.length (by omega) hs pk0) ?_;rintro v w ⟨rfl,hs⟩ a ha;refine dP 26 134217727 rfl ha (fun _=>yAssign rfl) fun a ha=>?_;refine dZ (by kernel_rfl) ?_;refine hK2 _ _ ?_;refine wp_seq_k fun K3 hK3=>?_;refine wp_seq_k fun K4 hK4=>?_;refine wp_region_lit ?_;refine pY ha (yFieldA Tryz.runUnderlying37 rfl Tryz.sizeOf34 rfl rfl) fun a ha=>?_;refine pY ha (yLoadB Tryz.isAgg34 hs rfl pk1 rfl) fun a ha=>?_;refine pY ha (yLenS Tryz.runUnderlying34 rfl) fun a ha=>?_;refine pY ha (yMove rfl) fun a ha=>?_;refine pZ ?_;refine hK4 _ _ ?_;refine wp_block ?_;refine loopI (ι:=Nat) (fun i a w=>i≤x.commits.length∧Has a 64 [(1,.pointer (some ⟨b1,0,none⟩)),(3,.pointer (some ⟨bw,0,none⟩)),(35,.slice A' x.commits.length c'),(36,.int .i64 x.commits.length),(37,.int .i64 i)]∧Sep W w (.wtr bw 112 ((x.commits.take i).foldl wCmt (wNum (wHead ([],false) x) x.commits.length))::.blk b1 37 [.int .i64 x.kind,.int .i64 x.client,.int .i64 x.seq,.int .i64 x.rev,.int .i64 x.code,.slice A n c,.slice A' x.commits.length c',.slice B m d,.int .i64 x.last]::.rd kActn (.slice A n c) x.acts::.rd kCmt (.slice A' x.commits.length c') x.commits::.rd kNod (.slice B m d) x.nodes::cs)) (fun i=>x.commits.length - i) (0) ?_ ?_
  · exact ⟨Nat.zero_le _,has5 ha rfl rfl rfl rfl rfl,hs⟩
  · rintro i a w ⟨h1,ha,hs⟩;refine wp_seq_k fun K5 hK5=>?_;refine wp_region_lit ?_;refine pY ha (yLss rfl rfl) fun a ha=>?_;refine pZ ?_;refine hK5 _ _ ?_;refine wp_seq_k fun K6 hK6=>?_;refine cDec ha rfl (fun hc38=>?_) (fun hc38=>?_)
    · obtain ⟨y,hy⟩ : ∃ y,x.commits[i]? = some y:=⟨_,List.getElem?_eq_getElem (by omega)⟩;obtain ⟨hf1,hf2⟩:=fold_at (f:=wCmt) wCmt_le (s0:=wNum (wHead ([],false) x) x.commits.length) hy
      have hf0 : (x.commits.foldl wCmt (wNum (wHead ([],false) x) x.commits.length)).1.length≤8796093022208:=Nat.le_trans q9 hb
      generalize (x.commits.take i).foldl wCmt (wNum (wHead ([],false) x) x.commits.length) = s0 at hs hf1 hf2;obtain ⟨b0,off,D,e,f,rfl,hs⟩:=hs.rd_cmt (.there (.there (.there .here))) hy
      have p1:=wNum_le s0 y.rev
      have p2:=wNum_le (wNum s0 y.rev) y.client
      have p3:=wNum_le (wNum (wNum s0 y.rev) y.client) y.seq
      have p4:=wActns_le (wNum (wNum (wNum s0 y.rev) y.client) y.seq) y.acts
      have hf3 : (wActns (wNum (wNum (wNum s0 y.rev) y.client) y.seq) y.acts).1.length≤8796093022208:=Nat.le_trans hf2 hf0
      refine wp_skip ?_;refine hK6 _ _ ?_;refine wp_seq_k fun K7 hK7=>?_;refine wp_block ?_;refine wp_seq_k fun K8 hK8=>?_;refine wp_region_lit ?_;refine pY ha (yIndexA Tryz.runUnderlying34 Tryz.sizeOf43 rfl rfl (by omega) (by omega)) fun a ha=>?_;refine pY ha (yLoadRA Tryz.isAgg43 Tryz.sizeOf43 hs rfl pk0 rfl) fun a ha=>?_;refine pAlloc (zs:=[.int .i64 0,.int .i64 0,.int .i64 0,.slice none 0 0]) ha Tryz.zeroValue43 rfl hs rfl fun b5 w hs a ha=>?_;refine pStoreA ha Tryz.sizeOf43 hs rfl rfl pk0 rfl rfl rfl fun w hs=>?_;refine pZ ?_;refine hK8 _ _ ?_;refine dStart (fun w=>∃ rs,Sep W w (.blk b5 43 [.int .i64 y.rev,.int .i64 y.client,.int .i64 y.seq,.slice D e f]::rs)) [12] 8191 4095 (by kernel_rfl) (by kernel_rfl) rfl (⟨_,hs.drew.pick pk0⟩) ?_
      have hs:=Sep.drew hs
      generalize World.drew _ = w at hs ⊢;refine dP 0 1 rfl ha (fun _=>yMove rfl) fun a ha=>?_;refine dP 1 3 rfl ha (fun _=>yFieldA Tryz.runUnderlying43 rfl Tryz.sizeOf3 rfl rfl) fun a ha=>?_;refine dT 2 7 rfl ha (fun _ ⟨rs,hs⟩=>yLoadB Tryz.isAgg3 hs rfl pk0 rfl) (⟨_,hs.pick pk0⟩) fun a ha=>?_;refine dP 4 23 rfl ha (fun _=>yFieldA Tryz.runUnderlying43 rfl Tryz.sizeOf3 rfl rfl) fun a ha=>?_;refine dT 5 55 rfl ha (fun _ ⟨rs,hs⟩=>yLoadB Tryz.isAgg3 hs rfl pk0 rfl) (⟨_,hs.pick pk0⟩) fun a ha=>?_;refine dP 7 183 rfl ha (fun _=>yFieldA Tryz.runUnderlying43 rfl Tryz.sizeOf3 rfl rfl) fun a ha=>?_;refine dT 8 439 rfl ha (fun _ ⟨rs,hs⟩=>yLoadB Tryz.isAgg3 hs rfl pk0 rfl) (⟨_,hs.pick pk0⟩) fun a ha=>?_;refine dP 10 1463 rfl ha (fun _=>yFieldA Tryz.runUnderlying43 rfl Tryz.sizeOf33 rfl rfl) fun a ha=>?_;refine dT 11 3511 rfl ha (fun _ ⟨rs,hs⟩=>yLoadB Tryz.isAgg33 hs rfl pk0 rfl) (⟨_,hs.pick pk0⟩) fun a ha=>?_;refine dC 3 3519 rfl (by kernel_rfl) rfl ha won0 (nCall Tryz.call67 rfl) rfl (WrNum_c (st:=s0) y.rev (by omega) hs pk3) ?_;rintro v w ⟨rfl,hs⟩;refine ⟨⟨_,hs.pick pk1⟩,fun a ha=>?_⟩;refine dC 6 3583 rfl (by kernel_rfl) rfl ha won0 (nCall Tryz.call67 rfl) rfl (WrNum_c (st:=wNum s0 y.rev) y.client (by omega) hs pk0) ?_;rintro v w ⟨rfl,hs⟩;refine ⟨⟨_,hs.pick pk1⟩,fun a ha=>?_⟩;refine dC 9 4095 rfl (by kernel_rfl) rfl ha won0 (nCall Tryz.call67 rfl) rfl (WrNum_c (st:=wNum (wNum s0 y.rev) y.client) y.seq (by omega) hs pk0) ?_;rintro v w ⟨rfl,hs⟩;refine ⟨⟨_,hs.pick pk1⟩,fun a ha=>?_⟩;refine dCl 12 8191 rfl (by kernel_rfl) rfl ha won0 (nCall Tryz.call68 rfl) rfl (WrActns_c (st:=wNum (wNum (wNum s0 y.rev) y.client) y.seq) (xs:=y.acts) hT hf3 hs pk0 pk2) ?_;rintro v w ⟨rfl,hs⟩ a ha;refine dZ (by kernel_rfl) ?_;refine hK7 _ _ ?_;refine wp_region_lit ?_;refine pY ha (yAddN rfl rfl ⟨by omega,by omega⟩) fun a ha=>?_;refine pY ha (yMove rfl) fun a ha=>?_;refine pZ ?_;refine ⟨i + 1,⟨by omega,has5 ha rfl rfl rfl rfl rfl,?_⟩,by omega⟩;rw [hf1];exact hs.drop2.drop2.drop2
    · refine wp_exit ?_;refine hK3 _ _ ?_;refine wp_seq_k fun K9 hK9=>?_;rw [List.take_of_length_le (by omega)] at hs;refine wp_region_lit ?_;refine pY ha (yMove rfl) fun a ha=>?_;refine pY ha (yFieldA Tryz.runUnderlying37 rfl Tryz.sizeOf35 rfl rfl) fun a ha=>?_;refine pY ha (yLoadB Tryz.isAgg35 hs rfl pk1 rfl) fun a ha=>?_;refine pC ha (nCall Tryz.call69 rfl) rfl (WrNods_c (st:=wCmts (wHead ([],false) x) x.commits) (xs:=x.nodes) hT hb hs pk0 pk3) ?_;rintro v w ⟨rfl,hs⟩ a ha;refine pC ha (nCall Tryz.call70 rfl) rfl (WrDone_c (st:=wMsg x) (by omega) hs pk0) ?_;rintro v w hv a ha
      rcases Bool.eq_false_or_eq_true (wMsg x).2 with hbad | hbad
      · rw [if_pos hbad] at hv;obtain ⟨rfl,hs⟩:=hv;refine pY ha (yMove rfl) fun a ha=>?_;refine pY ha (yExtract rfl rfl) fun a ha=>?_;refine pY ha (yExtract rfl rfl) fun a ha=>?_;refine pY ha (yAssign rfl) fun a ha=>?_;refine pY ha (yAssign rfl) fun a ha=>?_;refine pZ ?_;refine hK9 _ _ ?_;refine wp_seq_k fun K10 hK10=>?_;refine wp_region_lit ?_;refine pY ha (yMove rfl) fun a ha=>?_;refine pY ha (yAssign rfl) fun a ha=>?_;refine pZ ?_;refine hK10 _ _ ?_;refine wp_ret ?_;show bodyPost Tryz.prog Tryz.f44 _ .ret _ _;refine ret1 rfl ha rfl ?_
        (rw [show bOut x = [] by unfold bOut; rw [if_pos hbad]]; exact ⟨none,0,rfl,(hs.drop.drop.drop.drop.drop).rd_nil⟩)
      · rw [if_neg (by rw [hbad]; decide)] at hv;obtain ⟨Q,q,rfl,hs⟩:=hv;refine pY ha (yMove rfl) fun a ha=>?_;refine pY ha (yExtract rfl rfl) fun a ha=>?_;refine pY ha (yExtract rfl rfl) fun a ha=>?_;refine pY ha (yAssign rfl) fun a ha=>?_;refine pY ha (yAssign rfl) fun a ha=>?_;refine pZ ?_;refine hK9 _ _ ?_;refine wp_seq_k fun K11 hK11=>?_;refine wp_region_lit ?_;refine pY ha (yMove rfl) fun a ha=>?_;refine pY ha (yAssign rfl) fun a ha=>?_;refine pZ ?_;refine hK11 _ _ ?_;refine wp_ret ?_;show bodyPost Tryz.prog Tryz.f44 _ .ret _ _;refine ret1 rfl ha rfl ?_
        (rw [show bOut x = (wMsg x).1 by unfold bOut; rw [if_neg (by rw [hbad]; decide)]]; exact ⟨Q,q,rfl,(hs.ol_rd .here).drop2.drop2.drop2.drop2⟩)
end
end Go.Proofs.YtkbbnpjbjakpcaaGreatDoor

set_option linter.unusedVariables false
set_option linter.unusedSimpArgs false
namespace Go.Proofs.YtkbbnpjbjakpcaaGreatDoor
open Go.RowKit Go.Lib Go.Proofs.YtkbbnpjbjakpcaaGreatDoorW.PrintLast
theorem bslEnc22_5_0_1_2_3_4 {w : World} {l : List (Nat × Value)} {T : TypeId} {x0 x1 x2 x3 x4 : Operand} {v0 : Value} (h0 : ev l x0 = some v0) {v1 : Value} (h1 : ev l x1 = some v1) {v2 : Value} (h2 : ev l x2 = some v2) {v3 : Value} (h3 : ev l x3 = some v3) {v4 : Value} (h4 : ev l x4 = some v4) (o0 : v0.cells = #[v0]:=by rfl) (o1 : v1.cells = #[v1]:=by rfl) (o2 : v2.cells = #[v2]:=by rfl) (o3 : v3.cells = #[v3]:=by rfl) (o4 : v4.cells = #[v4]:=by rfl) : Mk Tryz.prog w l (.buildSlice 22 5 #[(0,x0),(1,x1),(2,x2),(3,x3),(4,x4)]) T 3 5 [v0,v1,v2,v3,v4]:=fun ρ o h ho _=>by
  have hm:=mkvs (P:=Tryz.prog) [v0,v1,v2,v3,v4] w Tryz.runUnderlying22 Tryz.sizeOf3 Tryz.zeroValue3 (by intro v hv; simp at hv; rcases hv with rfl | rfl | rfl | rfl | rfl <;> assumption) (by simp) (by simp)
  unfold execOp; rw [ho];simp only [h _ _ h0,h _ _ h1,h _ _ h2,h _ _ h3,h _ _ h4,List.map_toArray,List.map_cons,List.map_nil];simp only [List.length_cons,List.length_nil,prt] at hm
  simp at hm
  simp [hm]
section
variable {W w : World} {cs r r2 : List Ch}
theorem msg_bad (x : Msg) (h : badM x) : msgE x = 1:=by unfold msgE; unfold badM at h; rw [if_pos h]
theorem msg_ok (x : Msg) (h : ¬ badM x) : msgE x = if txnE x.acts ≠ 0 then txnE x.acts else if cmtsE x.commits ≠ 0 then cmtsE x.commits else if nodsE x.nodes ≠ 0 then nodsE x.nodes else if (bOut x).length > 65536 then 3 else 0:=by unfold msgE; unfold badM at h; rw [if_neg h]
theorem MCheck_c (hT : Tabs W) {es : List Value} {x : Msg} (hm : mM x) (hb : (wMsg x).1.length≤8796093022208) (hs : Sep W w cs) (hk : Pick cs (.el kMsg x es) r) :
    Calls P 24 #[.agg es.toArray] w (Rt fun v w'=>v = .int .i64 (msgE x)∧Sep W w' cs):=by
  obtain ⟨⟨m1,m2,m3,m4,m5⟩,ma,mc,mn,msh⟩:=hm;unfold i64 at m1 m2 m3 m4 m5;obtain ⟨A,n,c,A',n',c',B,m,d,rfl,hs⟩:=hs.el_msg hk;refine enter Tryz.func24 Tryz.ntmps24 rfl rfl fun a (ha : Has a 53 [(0,_)])=>?_;refine wp_seq_k fun K1 hK1=>?_;refine wp_region_lit ?_;refine pBox (es:=_) ha rfl rfl hs rfl fun b1 w hs a ha=>?_;refine pY ha (yAssign rfl) fun a ha=>?_;refine pZ ?_;refine hK1 _ _ ?_;refine scopeF 1 99999 ?_;refine wp_seq_k fun K2 hK2=>?_;refine wp_seq_k fun K3 hK3=>?_;refine cutC (fun a w=>Has a 53 [(32,.bool (decide (badM x))),(1,.pointer (some ⟨b1,0,none⟩)),(2,.int .i64 0)]∧Sep W w (.blk b1 37 [.int .i64 x.kind,.int .i64 x.client,.int .i64 x.seq,.int .i64 x.rev,.int .i64 x.code,.slice A n c,.slice A' n' c',.slice B m d,.int .i64 x.last]::.rd kActn (.slice A n c) x.acts::.rd kCmt (.slice A' n' c') x.commits::.rd kNod (.slice B m d) x.nodes::cs)) ?_ ?_
  · refine dStart (fun w=>∃ rs,Sep W w (.blk b1 37 [.int .i64 x.kind,.int .i64 x.client,.int .i64 x.seq,.int .i64 x.rev,.int .i64 x.code,.slice A n c,.slice A' n' c',.slice B m d,.int .i64 x.last]::rs)) [26,27] 1073741823 67108863 (by kernel_rfl) (by kernel_rfl) rfl (⟨_,hs.drew.pick pk0⟩) ?_
    have hs:=Sep.drew hs
    generalize World.drew _ = w at hs ⊢;refine dP 0 1 rfl ha (fun _=>yFieldA Tryz.runUnderlying37 rfl Tryz.sizeOf3 rfl rfl) fun a ha=>?_;refine dT 1 3 rfl ha (fun _ ⟨rs,hs⟩=>yLoadB Tryz.isAgg3 hs rfl pk0 rfl) (⟨_,hs.pick pk0⟩) fun a ha=>?_;refine dP 2 7 rfl ha (fun _=>yLss rfl rfl) fun a ha=>?_;refine dP 3 15 rfl ha (fun _=>yMove rfl) fun a ha=>?_;refine gDec (t:=6) ha rfl (fun hg3 hp3=>?_) (fun hg3 hp3=>?_)
    · rw [hg3] at ha;refine dP 4 31 rfl ha (fun _=>yFieldA Tryz.runUnderlying37 rfl Tryz.sizeOf3 rfl rfl) fun a ha=>?_;refine dT 5 63 rfl ha (fun _ ⟨rs,hs⟩=>yLoadB Tryz.isAgg3 hs rfl pk0 rfl) (⟨_,hs.pick pk0⟩) fun a ha=>?_;refine dP 6 127 rfl ha (fun _=>yGtr rfl rfl) fun a ha=>?_;refine dP 7 255 rfl ha (fun _=>yPickF rfl rfl) fun a ha=>?_;refine dP 8 511 rfl ha (fun _=>yMove rfl) fun a ha=>?_;refine gSplit (t:=11) ha rfl (fun hg8=>?_) (fun hg8=>?_)
      · rw [hg8] at ha
        have hp8:=of_decide_eq_false hg8
        refine dT 9 1023 rfl ha (fun _ ⟨rs,hs⟩=>yLoadBA Tryz.isAgg37 Tryz.sizeOf37 hs rfl pk0 rfl) (⟨_,hs.pick pk0⟩) fun a ha=>?_;refine dT 10 2047 rfl ha (fun _ ⟨rs,hs⟩=>yLoadBA Tryz.isAgg37 Tryz.sizeOf37 hs rfl pk0 rfl) (⟨_,hs.pick pk0⟩) fun a ha=>?_;refine dC 11 4095 rfl (by kernel_rfl) rfl ha (won1 rfl rfl rfl) (nCall Tryz.call40 rfl) rfl (PlainM_c (x:=x) msh hs (.there (.there (.there (.there hk))))) ?_;rintro v w ⟨es',rfl,hs⟩;refine ⟨⟨_,hs.pick pk1⟩,fun a ha=>?_⟩;refine dC 12 8191 rfl (by kernel_rfl) rfl ha (won1 rfl rfl rfl) (nCall Tryz.call11 rfl) rfl (SameM_c (x:=x) (y:=plainM x) hs (.there (.there (.there (.there (.there hk))))) .here) ?_;rintro v w ⟨rfl,hs⟩;refine ⟨⟨_,hs.pick pk1⟩,fun a ha=>?_⟩;refine dP 13 16383 rfl ha (fun _=>yNot rfl) fun a ha=>?_;refine dP 14 32767 rfl ha (fun _=>yPickF rfl rfl) fun a ha=>?_;refine dP 15 65535 rfl ha (fun _=>yMove rfl) fun a ha=>?_;refine gSplit (t:=18) ha rfl (fun hg15=>?_) (fun hg15=>?_)
        · rw [hg15] at ha
          have hp15 : x = plainM x:=by simpa using hg15
          refine dP 16 131071 rfl ha (fun _=>yFieldA Tryz.runUnderlying37 rfl Tryz.sizeOf3 rfl rfl) fun a ha=>?_;refine dT 17 262143 rfl ha (fun _ ⟨rs,hs⟩=>yLoadB Tryz.isAgg3 hs rfl pk0 rfl) (⟨_,hs.pick pk1⟩) fun a ha=>?_;refine dP 18 524287 rfl ha (fun _=>yFieldA Tryz.runUnderlying37 rfl Tryz.sizeOf3 rfl rfl) fun a ha=>?_;refine dT 19 1048575 rfl ha (fun _ ⟨rs,hs⟩=>yLoadB Tryz.isAgg3 hs rfl pk0 rfl) (⟨_,hs.pick pk1⟩) fun a ha=>?_;refine dP 20 2097151 rfl ha (fun _=>yFieldA Tryz.runUnderlying37 rfl Tryz.sizeOf3 rfl rfl) fun a ha=>?_;refine dT 21 4194303 rfl ha (fun _ ⟨rs,hs⟩=>yLoadB Tryz.isAgg3 hs rfl pk0 rfl) (⟨_,hs.pick pk1⟩) fun a ha=>?_;refine dP 22 8388607 rfl ha (fun _=>yFieldA Tryz.runUnderlying37 rfl Tryz.sizeOf3 rfl rfl) fun a ha=>?_;refine dT 23 16777215 rfl ha (fun _ ⟨rs,hs⟩=>yLoadB Tryz.isAgg3 hs rfl pk0 rfl) (⟨_,hs.pick pk1⟩) fun a ha=>?_;refine dP 24 33554431 rfl ha (fun _=>yFieldA Tryz.runUnderlying37 rfl Tryz.sizeOf3 rfl rfl) fun a ha=>?_;refine dT 25 67108863 rfl ha (fun _ ⟨rs,hs⟩=>yLoadB Tryz.isAgg3 hs rfl pk0 rfl) (⟨_,hs.pick pk1⟩) fun a ha=>?_;refine dMakel 26 134217727 rfl (by kernel_rfl) rfl ha (won1 rfl rfl rfl) (bslEnc22_5_0_1_2_3_4 rfl rfl rfl rfl rfl) hs rfl fun b w hs a ha=>?_;have hs:=hs.ints_rd (xs:=[x.client,x.seq,x.rev,x.last,x.code]) .here (by intro y hy; simp at hy; rcases hy with rfl | rfl | rfl | rfl | rfl <;> assumption);refine dCl 27 268435455 rfl (by kernel_rfl) rfl ha (won1 rfl rfl rfl) (nCall Tryz.call41 rfl) rfl (WFits_c hs .here) ?_;rintro v w ⟨rfl,hs⟩ a ha;refine dP 28 536870911 rfl ha (fun _=>yNot rfl) fun a ha=>?_;refine dP 29 1073741823 rfl ha (fun _=>yPickF rfl rfl) fun a ha=>?_;refine dZ (by kernel_rfl) ?_;refine ⟨rfl,?_⟩;refine ⟨has3 ha (bN ⟨fun h=>.inr (.inr (.inr ?_)),fun h=>?_⟩) rfl rfl,hs.drop.drop⟩
          · simpa [Bool.and_eq_false_iff] using h
          · have h2:=((h.resolve_left hp3).resolve_left hp8).resolve_left (fun q=>q hp15)
            simpa [Bool.and_eq_false_iff] using h2
        · rw [hg15] at ha
          have hp15 : x ≠ plainM x:=by simpa using hg15
          refine dOff 16 131071 rfl ha fun a ha=>?_;refine dOff 17 262143 rfl ha fun a ha=>?_;refine dOff 18 524287 rfl ha fun a ha=>?_;refine dOff 19 1048575 rfl ha fun a ha=>?_;refine dOff 20 2097151 rfl ha fun a ha=>?_;refine dOff 21 4194303 rfl ha fun a ha=>?_;refine dOff 22 8388607 rfl ha fun a ha=>?_;refine dOff 23 16777215 rfl ha fun a ha=>?_;refine dOff 24 33554431 rfl ha fun a ha=>?_;refine dOff 25 67108863 rfl ha fun a ha=>?_;refine dOff 26 134217727 rfl ha fun a ha=>?_;refine dOff 27 268435455 rfl ha fun a ha=>?_;refine dOff 28 536870911 rfl ha fun a ha=>?_;refine dP 29 1073741823 rfl ha (fun _=>yPickT rfl rfl) fun a ha=>?_;refine dZ (by kernel_rfl) ?_;refine ⟨rfl,?_⟩;exact ⟨has3 ha (bY (.inr (.inr (.inl hp15)))) rfl rfl,hs.drop⟩
      · rw [hg8] at ha
        have hp8:=of_decide_eq_true hg8
        refine dOff 9 1023 rfl ha fun a ha=>?_;refine dOff 10 2047 rfl ha fun a ha=>?_;refine dOff 11 4095 rfl ha fun a ha=>?_;refine dOff 12 8191 rfl ha fun a ha=>?_;refine dOff 13 16383 rfl ha fun a ha=>?_;refine dP 14 32767 rfl ha (fun _=>yPickT rfl rfl) fun a ha=>?_;refine dP 15 65535 rfl ha (fun _=>yMove rfl) fun a ha=>?_;refine dOff 16 131071 rfl ha fun a ha=>?_;refine dOff 17 262143 rfl ha fun a ha=>?_;refine dOff 18 524287 rfl ha fun a ha=>?_;refine dOff 19 1048575 rfl ha fun a ha=>?_;refine dOff 20 2097151 rfl ha fun a ha=>?_;refine dOff 21 4194303 rfl ha fun a ha=>?_;refine dOff 22 8388607 rfl ha fun a ha=>?_;refine dOff 23 16777215 rfl ha fun a ha=>?_;refine dOff 24 33554431 rfl ha fun a ha=>?_;refine dOff 25 67108863 rfl ha fun a ha=>?_;refine dOff 26 134217727 rfl ha fun a ha=>?_;refine dOff 27 268435455 rfl ha fun a ha=>?_;refine dOff 28 536870911 rfl ha fun a ha=>?_;refine dP 29 1073741823 rfl ha (fun _=>yPickT rfl rfl) fun a ha=>?_;refine dZ (by kernel_rfl) ?_;refine ⟨rfl,?_⟩;exact ⟨has3 ha (bY (.inr (.inl hp8))) rfl rfl,hs⟩
    · rw [hg3] at ha;refine dOff 4 31 rfl ha fun a ha=>?_;refine dOff 5 63 rfl ha fun a ha=>?_;refine dOff 6 127 rfl ha fun a ha=>?_;refine dP 7 255 rfl ha (fun _=>yPickT rfl rfl) fun a ha=>?_;refine dP 8 511 rfl ha (fun _=>yMove rfl) fun a ha=>?_;refine dOff 9 1023 rfl ha fun a ha=>?_;refine dOff 10 2047 rfl ha fun a ha=>?_;refine dOff 11 4095 rfl ha fun a ha=>?_;refine dOff 12 8191 rfl ha fun a ha=>?_;refine dOff 13 16383 rfl ha fun a ha=>?_;refine dP 14 32767 rfl ha (fun _=>yPickT rfl rfl) fun a ha=>?_;refine dP 15 65535 rfl ha (fun _=>yMove rfl) fun a ha=>?_;refine dOff 16 131071 rfl ha fun a ha=>?_;refine dOff 17 262143 rfl ha fun a ha=>?_;refine dOff 18 524287 rfl ha fun a ha=>?_;refine dOff 19 1048575 rfl ha fun a ha=>?_;refine dOff 20 2097151 rfl ha fun a ha=>?_;refine dOff 21 4194303 rfl ha fun a ha=>?_;refine dOff 22 8388607 rfl ha fun a ha=>?_;refine dOff 23 16777215 rfl ha fun a ha=>?_;refine dOff 24 33554431 rfl ha fun a ha=>?_;refine dOff 25 67108863 rfl ha fun a ha=>?_;refine dOff 26 134217727 rfl ha fun a ha=>?_;refine dOff 27 268435455 rfl ha fun a ha=>?_;refine dOff 28 536870911 rfl ha fun a ha=>?_;refine dP 29 1073741823 rfl ha (fun _=>yPickT rfl rfl) fun a ha=>?_;refine dZ (by kernel_rfl) ?_;refine ⟨rfl,?_⟩;exact ⟨has3 ha (bY (.inl hp3)) rfl rfl,hs⟩
  rintro a w ⟨ha,hs⟩;refine hK3 _ _ ?_;refine cDec ha rfl (fun hc32=>?_) (fun hc32=>?_)
  · refine wp_seq_k fun K4 hK4=>?_;refine wp_region_lit ?_;refine pY ha (yAssign rfl) fun a ha=>?_;refine pZ ?_;refine hK4 _ _ ?_;refine wp_goto ?_
    repeat (with_reducible first | refine gThen ?_ | refine gBlock ?_)
    refine gxF rfl rfl ?_;refine wp_seq_k fun K5 hK5=>?_;refine wp_skip ?_;refine hK5 _ _ ?_;refine wp_seq_k fun K6 hK6=>?_;refine wp_region_lit ?_;refine pY ha (yMove rfl) fun a ha=>?_;refine pY ha (yAssign rfl) fun a ha=>?_;refine pZ ?_;refine hK6 _ _ ?_;refine wp_ret ?_;show bodyPost Tryz.prog Tryz.f24 _ .ret _ _;refine ret1 rfl ha rfl ?_
    (refine ⟨congrArg (Value.int .i64) (msg_bad x hc32).symm,hs.drop.drop.drop.drop⟩; done)
  · refine wp_skip ?_;refine hK2 _ _ ?_;refine wp_seq_k fun K7 hK7=>?_;refine wp_seq_k fun K8 hK8=>?_;refine wp_region_lit ?_;refine pY ha (yFieldA Tryz.runUnderlying37 rfl Tryz.sizeOf33 rfl rfl) fun a ha=>?_;refine pY ha (yLoadB Tryz.isAgg33 hs rfl pk0 rfl) fun a ha=>?_;refine pC ha (nCall Tryz.call37 rfl) rfl (TxnCheck_c hT (xs:=x.acts) ma hs pk1) ?_;rintro v w ⟨rfl,hs⟩ a ha;refine pY ha (yAssign rfl) fun a ha=>?_;refine pZ ?_;refine hK8 _ _ ?_;refine wp_seq_k fun K9 hK9=>?_;refine wp_region_lit ?_;refine pY ha (yMove rfl) fun a ha=>?_;refine pY ha (yNeq rfl rfl) fun a ha=>?_;refine pZ ?_;refine hK9 _ _ ?_;refine cNDec ha rfl (fun hc37=>?_) (fun hc37=>?_)
    · refine wp_goto ?_
      repeat (with_reducible first | refine gThen ?_ | refine gBlock ?_)
      refine gxF rfl rfl ?_;refine wp_seq_k fun K10 hK10=>?_;refine wp_skip ?_;refine hK10 _ _ ?_;refine wp_seq_k fun K11 hK11=>?_;refine wp_region_lit ?_;refine pY ha (yMove rfl) fun a ha=>?_;refine pY ha (yAssign rfl) fun a ha=>?_;refine pZ ?_;refine hK11 _ _ ?_;refine wp_ret ?_;show bodyPost Tryz.prog Tryz.f24 _ .ret _ _;refine ret1 rfl ha rfl ?_
      (refine ⟨congrArg (Value.int .i64) ?_,hs.drop.drop.drop.drop⟩; rw [msg_ok x hc32,if_pos hc37]; done)
    · refine wp_skip ?_;refine hK7 _ _ ?_;refine wp_seq_k fun K12 hK12=>?_;refine wp_seq_k fun K13 hK13=>?_;refine wp_region_lit ?_;refine pY ha (yFieldA Tryz.runUnderlying37 rfl Tryz.sizeOf34 rfl rfl) fun a ha=>?_;refine pY ha (yLoadB Tryz.isAgg34 hs rfl pk0 rfl) fun a ha=>?_;refine pC ha (nCall Tryz.call42 rfl) rfl (Commits_c hT (xs:=x.commits) mc hs pk2) ?_;rintro v w ⟨rfl,hs⟩ a ha;refine pY ha (yAssign rfl) fun a ha=>?_;refine pZ ?_;refine hK13 _ _ ?_;refine wp_seq_k fun K14 hK14=>?_;refine wp_region_lit ?_;refine pY ha (yMove rfl) fun a ha=>?_;refine pY ha (yNeq rfl rfl) fun a ha=>?_;refine pZ ?_;refine hK14 _ _ ?_;refine cNDec ha rfl (fun hc42=>?_) (fun hc42=>?_)
      · refine wp_goto ?_
        repeat (with_reducible first | refine gThen ?_ | refine gBlock ?_)
        refine gxF rfl rfl ?_;refine wp_seq_k fun K15 hK15=>?_;refine wp_skip ?_;refine hK15 _ _ ?_;refine wp_seq_k fun K16 hK16=>?_;refine wp_region_lit ?_;refine pY ha (yMove rfl) fun a ha=>?_;refine pY ha (yAssign rfl) fun a ha=>?_;refine pZ ?_;refine hK16 _ _ ?_;refine wp_ret ?_;show bodyPost Tryz.prog Tryz.f24 _ .ret _ _;refine ret1 rfl ha rfl ?_
        (refine ⟨congrArg (Value.int .i64) ?_,hs.drop.drop.drop.drop⟩; rw [msg_ok x hc32,if_neg (by simpa using hc37),if_pos hc42]; done)
      · refine wp_skip ?_;refine hK12 _ _ ?_;refine wp_seq_k fun K17 hK17=>?_;refine wp_seq_k fun K18 hK18=>?_;refine wp_region_lit ?_;refine pY ha (yFieldA Tryz.runUnderlying37 rfl Tryz.sizeOf35 rfl rfl) fun a ha=>?_;refine pY ha (yLoadB Tryz.isAgg35 hs rfl pk0 rfl) fun a ha=>?_;refine pC ha (nCall Tryz.call43 rfl) rfl (Nodes_c hT (xs:=x.nodes) mn hs pk3) ?_;rintro v w ⟨rfl,hs⟩ a ha;refine pY ha (yAssign rfl) fun a ha=>?_;refine pZ ?_;refine hK18 _ _ ?_;refine wp_seq_k fun K19 hK19=>?_;refine wp_region_lit ?_;refine pY ha (yMove rfl) fun a ha=>?_;refine pY ha (yNeq rfl rfl) fun a ha=>?_;refine pZ ?_;refine hK19 _ _ ?_;refine cNDec ha rfl (fun hc47=>?_) (fun hc47=>?_)
        · refine wp_goto ?_
          repeat (with_reducible first | refine gThen ?_ | refine gBlock ?_)
          refine gxF rfl rfl ?_;refine wp_seq_k fun K20 hK20=>?_;refine wp_skip ?_;refine hK20 _ _ ?_;refine wp_seq_k fun K21 hK21=>?_;refine wp_region_lit ?_;refine pY ha (yMove rfl) fun a ha=>?_;refine pY ha (yAssign rfl) fun a ha=>?_;refine pZ ?_;refine hK21 _ _ ?_;refine wp_ret ?_;show bodyPost Tryz.prog Tryz.f24 _ .ret _ _;refine ret1 rfl ha rfl ?_
          (refine ⟨congrArg (Value.int .i64) ?_,hs.drop.drop.drop.drop⟩; rw [msg_ok x hc32,if_neg (by simpa using hc37),if_neg (by simpa using hc42),if_pos hc47]; done)
        · refine wp_skip ?_;refine hK17 _ _ ?_;refine wp_seq_k fun K22 hK22=>?_;refine wp_seq_k fun K23 hK23=>?_;refine wp_region_lit ?_;refine pY ha (yLoadBA Tryz.isAgg37 Tryz.sizeOf37 hs rfl pk0 rfl) fun a ha=>?_;refine pC ha (nCall Tryz.call44 rfl) rfl (Write_c hT hb hs (.there (.there (.there (.there hk))))) ?_;rintro v w ⟨Q,q,rfl,hs⟩ a ha;refine pY ha (yLenS Tryz.runUnderlying67 rfl) fun a ha=>?_;refine pY ha (yGtr rfl rfl) fun a ha=>?_;refine pZ ?_;refine hK23 _ _ ?_;refine cDec ha rfl (fun hc51=>?_) (fun hc51=>?_)
          · refine wp_region_lit ?_;refine pY ha (yAssign rfl) fun a ha=>?_;refine pZ ?_;refine hK22 _ _ ?_;refine wp_seq_k fun K24 hK24=>?_;refine wp_label ?_;refine hK24 _ _ ?_;refine wp_seq_k fun K25 hK25=>?_;refine wp_region_lit ?_;refine pY ha (yMove rfl) fun a ha=>?_;refine pY ha (yAssign rfl) fun a ha=>?_;refine pZ ?_;refine hK25 _ _ ?_;refine wp_ret ?_;show bodyPost Tryz.prog Tryz.f24 _ .ret _ _;refine ret1 rfl ha rfl ?_
            (refine ⟨congrArg (Value.int .i64) ?_,hs.drop.drop.drop.drop.drop⟩; rw [msg_ok x hc32,if_neg (by simpa using hc37),if_neg (by simpa using hc42),if_neg (by simpa using hc47),if_pos (by omega)]; done)
          · refine wp_skip ?_;refine hK22 _ _ ?_;refine wp_seq_k fun K26 hK26=>?_;refine wp_label ?_;refine hK26 _ _ ?_;refine wp_seq_k fun K27 hK27=>?_;refine wp_region_lit ?_;refine pY ha (yMove rfl) fun a ha=>?_;refine pY ha (yAssign rfl) fun a ha=>?_;refine pZ ?_;refine hK27 _ _ ?_;refine wp_ret ?_;show bodyPost Tryz.prog Tryz.f24 _ .ret _ _;refine ret1 rfl ha rfl ?_
            (refine ⟨congrArg (Value.int .i64) ?_,hs.drop.drop.drop.drop.drop⟩; rw [msg_ok x hc32,if_neg (by simpa using hc37),if_neg (by simpa using hc42),if_neg (by simpa using hc47),if_neg (by omega)]; exact hc47)
end
end Go.Proofs.YtkbbnpjbjakpcaaGreatDoor

set_option linter.unusedVariables false
set_option linter.unusedSimpArgs false
namespace Go.Proofs.YtkbbnpjbjakpcaaGreatDoor
open Go.RowKit Go.Lib Go.Proofs.YtkbbnpjbjakpcaaGreatDoorW.PrintLast
/-- Acts with a number: what is pending (its error), what was lost (its code). -/
structure Pnd where
  acts : List Actn
  e : Int
structure Cli where
  id : Int
  rev : Int
  base : List Nod
  last : Int
  welcome : Bool
  behind : Bool
  under : Bool
  told : Bool
  l : List Pnd
  gone : List Pnd
def kPnd : Kd Pnd where
  sz:=2
  R:=fun Z x cs=>∃ A n c,cs = [.slice A n c,.int .i64 x.e]∧kActn.sl Z (.slice A n c) x.acts
  mono:=fun h ⟨A,n,c,e,hs⟩=>⟨A,n,c,e,Kd.sl_mono kActn h hs⟩
  len:=fun ⟨A,n,c,h,_⟩=>by subst h; rfl
  one:=fun ⟨A,n,c,h,_⟩ u hu=>by subst h; simp at hu; rcases hu with rfl | rfl <;> rfl
def Ch.pl (o : Bool) (T : TypeId) (v : Value) (l : List Pnd) : Ch:=if o = true then .ol kPnd T v l else .rd kPnd v l
def cliV (c : Cli) (bt : Nat) (vl vg : Value) : List Value:=[.int .i64 c.id,.int .i64 c.rev,.pointer (some ⟨bt,0,none⟩),.int .i64 c.last,.bool c.welcome,.bool c.behind,.bool c.under,.bool c.told,vl,vg]
def Ch.cli (o : Bool) (bc : Nat) (c : Cli) : Ch :=
  .ex (Nat × Nat × Value × Value) fun q=>.star (.blk bc 61 (cliV c q.1 q.2.2.1 q.2.2.2)) (.star (.blk q.1 81 [.map (some q.2.1)]) (.star (.mpN q.2.1 c.base) (.star (.pl o 66 q.2.2.1 c.l) (.ol kPnd 47 q.2.2.2 c.gone))))
section
variable {W w : World} {cs r r2 : List Ch} {α : Type} {d : Kd α} {xs : List α} {x : α} {v : Value} {T : TypeId} {i : Nat}
/-- An element of a slice of one's own. -/
theorem Sep.ol_at (h : Sep W w cs) (hk : Pick cs (.ol d T v xs) r) (hx : xs[i]? = some x) : ∃ b c es,v = .slice (some ⟨b,0,none⟩) xs.length c∧es.length = d.sz∧(∀ j u,es[j]? = some u→w.cell? ⟨b,i * d.sz + j,none⟩ = some u)∧Sep W w (.el d x es::cs):=by
  obtain ⟨h0,Z,H,hd,hz,hh,hw,ha⟩:=h;obtain ⟨H1,H2,h1,h2,hd2,⟨o,hc⟩,hr⟩:=Ch.all_perm hk.perm ha
  match o with
  | none=>
    obtain ⟨_,rfl⟩:=hc
    simp at hx
  | some (b,cap,arr)=>
    obtain ⟨G1,G2,g1,g2,gd,ho,rfl,e1,e2,e3,e4⟩:=hc;obtain ⟨es,hR,hcells⟩:=e4 i x hx
    have hb : w.heap[b]? = some (.cells arr T (0,0)):=hh b _ (h1 b _ (g1 b _ ho))
    refine ⟨b,cap,es,rfl,d.len hR,fun j u hj=>?_,h0,Z,H,hd,hz,hh,hw,Hp.none,H,Hp.none_le _,Hp.le_refl _,Hp.none_dj _,hR,ha⟩
    have:=hcells j u hj
    rw [Nat.zero_add] at this
    simp [World.cell?,hb,this]
theorem Sep.rd_at2 (h : Sep W w cs) (hk : Pick cs (.rd d v xs) r) (hx : xs[i]? = some x) : ∃ b off c es,v = .slice (some ⟨b,off,none⟩) xs.length c∧es.length = d.sz∧(∀ j u,es[j]? = some u→w.cell? ⟨b,off + i * d.sz + j,none⟩ = some u)∧Sep W w (.el d x es::cs):=by
  obtain ⟨b,off,c,es,he,hl,hs⟩:=h.rd_at hk hx;exact ⟨b,off,c,es,he,hl,fun j u hj=>hs.at_cell .here hj,hs.drop⟩
theorem Sep.el_pnd {x : Pnd} {es : List Value} (h : Sep W w cs) (hk : Pick cs (.el kPnd x es) r) : ∃ A n c,es = [.slice A n c,.int .i64 x.e]∧Sep W w (.rd kActn (.slice A n c) x.acts::r):=by
  obtain ⟨A,n,c,hes⟩ : ∃ A n c,es = [.slice A n c,.int .i64 x.e]:=h.know hk (fun Z _ ⟨A,n,c,e,_⟩=>⟨A,n,c,e⟩);subst hes;refine ⟨A,n,c,rfl,(h.pick hk).imp (x:=.rd kActn (.slice A n c) x.acts) (fun Z _ _ hp=>?_)⟩;obtain ⟨A',n',c',e,hsl⟩:=hp;simp only [List.cons.injEq,Value.slice.injEq] at e;obtain ⟨⟨rfl,rfl,rfl⟩,_⟩:=e;exact hsl
theorem Sep.mk_pnd {A : Option Addr} {n c : Nat} (x : Pnd) (h : Sep W w cs) (hk : Pick cs (.rd kActn (.slice A n c) x.acts) r) : Sep W w (.el kPnd x [.slice A n c,.int .i64 x.e]::cs) :=
  h.with_ro (q:=fun Z=>kPnd.R Z x [.slice A n c,.int .i64 x.e]) (m':=fun _ _ h hp=>kPnd.mono h hp) hk fun Z hp=>⟨A,n,c,rfl,hp⟩
/-- What is pending, read. -/
theorem Sep.pl_at {o : Bool} {l : List Pnd} {x : Pnd} {A : Option Addr} {n c : Nat} (h : Sep W w cs) (hk : Pick cs (.pl o T (.slice A n c) l) r) (hx : l[i]? = some x) : ∃ b off A' n' c',A = some ⟨b,off,none⟩∧(∀ j u,[Value.slice A' n' c',.int .i64 x.e][j]? = some u→w.cell? ⟨b,off + i * 2 + j,none⟩ = some u)∧Sep W w (.rd kActn (.slice A' n' c') x.acts::cs):=by
  unfold Ch.pl at hk
  split at hk
  · obtain ⟨b,c',es,he,hl,hc,hs⟩:=h.ol_at hk hx;simp only [Value.slice.injEq] at he;obtain ⟨rfl,_,_⟩:=he;obtain ⟨A',n',c2,rfl,hs2⟩:=hs.el_pnd .here;exact ⟨b,0,A',n',c2,rfl,by rw [Nat.zero_add]; exact hc,hs2⟩
  · obtain ⟨b,off,c',es,he,hl,hc,hs⟩:=h.rd_at2 hk hx;simp only [Value.slice.injEq] at he;obtain ⟨rfl,_,_⟩:=he;obtain ⟨A',n',c2,rfl,hs2⟩:=hs.el_pnd .here;exact ⟨b,off,A',n',c2,rfl,hc,hs2⟩
theorem Sep.pl_len {o : Bool} {l : List Pnd} (h : Sep W w cs) (hk : Pick cs (.pl o T v l) r) : ∃ A c,v = .slice A l.length c∧l.length≤maxLen:=by
  unfold Ch.pl at hk
  split at hk
  · obtain ⟨A,c,e,h1,h2⟩:=h.ol_len hk;exact ⟨A,c,e,by omega⟩
  · exact h.rd_len hk
theorem Sep.cli_open {o : Bool} {bc : Nat} {c : Cli} (h : Sep W w cs) (hk : Pick cs (.cli o bc c) r) : ∃ bt bm A n A' n',c.l.length≤maxLen∧c.gone.length≤maxLen ∧
    Sep W w (.blk bc 61 (cliV c bt (.slice A c.l.length n) (.slice A' c.gone.length n'))::.blk bt 81 [.map (some bm)]::.mpN bm c.base::.pl o 66 (.slice A c.l.length n) c.l::.ol kPnd 47 (.slice A' c.gone.length n') c.gone::r):=by
  obtain ⟨⟨bt,bm,vl,vg⟩,h1⟩:=(h.pick hk).open_
  have h2:=(h1.split.perm (List.Perm.swap _ _ _)).split
  have h3 : Sep W w (.star (.mpN bm c.base) (.star (.pl o 66 vl c.l) (.ol kPnd 47 vg c.gone))::.blk bc 61 (cliV c bt vl vg)::.blk bt 81 [.map (some bm)]::r):=h2.to (.cons (.there .here) (.cons (.there .here) (.cons .here .refl)))
  have h4 : Sep W w (.star (.pl o 66 vl c.l) (.ol kPnd 47 vg c.gone)::.mpN bm c.base::.blk bc 61 (cliV c bt vl vg)::.blk bt 81 [.map (some bm)]::r):=h3.split.perm (List.Perm.swap _ _ _)
  have h5:=h4.split
  obtain ⟨A,n,rfl,e1⟩:=h5.pl_len .here;obtain ⟨A',n',rfl,e2,e3⟩:=h5.ol_len (.there .here);exact ⟨bt,bm,A,n,A',n',e1,by omega,h5.to (.cons (.there (.there (.there .here))) (.cons (.there (.there (.there .here))) (.cons (.there (.there .here)) (.cons .here (.cons .here .refl)))))⟩
theorem Sep.cli_shut {o : Bool} {bc bt bm : Nat} {c : Cli} {vl vg : Value} {r1 r2 r3 r4 r5 : List Ch} (h : Sep W w cs) (h1 : Pick cs (.blk bc 61 (cliV c bt vl vg)) r1) (h2 : Pick r1 (.blk bt 81 [.map (some bm)]) r2) (h3 : Pick r2 (.mpN bm c.base) r3) (h4 : Pick r3 (.pl o 66 vl c.l) r4) (h5 : Pick r4 (.ol kPnd 47 vg c.gone) r5) : Sep W w (.cli o bc c::r5):=by
  have g1 : Sep W w (.pl o 66 vl c.l::.ol kPnd 47 vg c.gone::.mpN bm c.base::.blk bt 81 [.map (some bm)]::.blk bc 61 (cliV c bt vl vg)::r5) :=
    (h.to (.cons h1 (.cons h2 (.cons h3 (.cons h4 (.cons h5 .refl)))))).to (.cons (.there (.there (.there .here))) (.cons (.there (.there (.there .here))) (.cons (.there (.there .here)) (.cons (.there .here) (.cons .here .refl)))))
  have g2:=(g1.join.perm (List.Perm.swap _ _ _)).join
  have g3:=(g2.perm (List.Perm.swap _ _ _)).join
  have g4:=(g3.perm (List.Perm.swap _ _ _)).join
  exact Sep.pack (bt,bm,vl,vg) g4
end
def stepV (t : List Nod) (p : Pnd) : List Nod:=if p.e = 0∧doE t p.acts = 0 then (doL t p.acts).1 else t
def viewL (t : List Nod) (l : List Pnd) : List Nod:=l.foldl stepV t
theorem viewL_at {t : List Nod} {l : List Pnd} {i : Nat} {p : Pnd} (hp : l[i]? = some p) : viewL t (l.take (i + 1)) = stepV (viewL t (l.take i)) p:=by
  unfold viewL;rw [List.take_add_one,hp,Option.toList_some,List.foldl_append]; rfl
theorem idsOk_step {t : List Nod} {p : Pnd} (h : idsOk t) : idsOk (stepV t p):=by
  unfold stepV
  split
  · exact idsOk_do _ h
  · exact h
theorem idsOk_view : ∀ {l : List Pnd} {t : List Nod},idsOk t→idsOk (viewL t l)
  | [],_,h=>h
  | p::r,_,h=>idsOk_view (l:=r) (idsOk_step h)
/-- Clients of acts that create alone, within the machine's bounds. -/
structure okC (c : Cli) : Prop where
  id : c.id ≠ 0
  last : 0≤c.last∧c.last≤4000000000000000000
  base : idsOk c.base
  acts : ∀ p ∈ c.l,(∀ x ∈ p.acts,x.kind = 1∧mA x)∧p.acts.length≤1000000000
end Go.Proofs.YtkbbnpjbjakpcaaGreatDoor

set_option linter.unusedVariables false
set_option linter.unusedSimpArgs false
namespace Go.Proofs.YtkbbnpjbjakpcaaGreatDoor
open Go.RowKit Go.Lib Go.Proofs.YtkbbnpjbjakpcaaGreatDoorW.PrintLast
def tCmts (l : List Cmt) : Nat:=(l.map fun x=>tActns x.acts + 3).sum
theorem wCmt_len (st : Wt) (x : Cmt) : (wCmt st x).1.length≤st.1.length + 12 * (tActns x.acts + 3):=by
  have h1:=wNum_len st x.rev; have h2:=wNum_len (wNum st x.rev) x.client; have h3:=wNum_len (wNum (wNum st x.rev) x.client) x.seq; have h4:=wActns_len (wNum (wNum (wNum st x.rev) x.client) x.seq) x.acts
  unfold wCmt; omega
theorem wCmts_len (st : Wt) (l : List Cmt) : (wCmts st l).1.length≤st.1.length + 6 + 12 * tCmts l:=by
  have h1:=wNum_len st l.length; have h2:=fold_len (g:=fun x : Cmt=>tActns x.acts + 3) wCmt_len l (wNum st l.length)
  unfold wCmts tCmts; omega
theorem wMsg_len (m : Msg) : (wMsg m).1.length≤54 + 12 * (tActns m.acts + tCmts m.commits + tNods m.nodes):=by
  have h1:=wNum_len ([],false) m.kind; have h2:=wNum_len (wNum ([],false) m.kind) m.client; have h3:=wNum_len (wNum (wNum ([],false) m.kind) m.client) m.seq
  have h4:=wNum_len (wNum (wNum (wNum ([],false) m.kind) m.client) m.seq) m.rev; have h5:=wNum_len (wNum (wNum (wNum (wNum ([],false) m.kind) m.client) m.seq) m.rev) m.code
  have h6:=wNum_len (wNum (wNum (wNum (wNum (wNum ([],false) m.kind) m.client) m.seq) m.rev) m.code) m.last
  have h7:=wActns_len (wNum (wNum (wNum (wNum (wNum (wNum ([],false) m.kind) m.client) m.seq) m.rev) m.code) m.last) m.acts
  have h8:=wCmts_len (wHead ([],false) m) m.commits
  have h9:=wNods_len (wCmts (wHead ([],false) m) m.commits) m.nodes
  unfold wMsg;unfold wHead at h8 h9 ⊢;simp only [List.length_nil] at h1
  omega
section
variable {W w : World} {cs r r2 : List Ch}
end
end Go.Proofs.YtkbbnpjbjakpcaaGreatDoor

set_option linter.unusedVariables false
set_option linter.unusedSimpArgs false
namespace Go.Proofs.YtkbbnpjbjakpcaaGreatDoor
open Go.Lib
theorem fits_of {n : Int} (h : 0≤n) (h2 : n≤1099511627776) : fits n = true:=by simp [fits]; omega
end Go.Proofs.YtkbbnpjbjakpcaaGreatDoor

set_option linter.unusedVariables false
set_option linter.unusedSimpArgs false
namespace Go.Proofs.YtkbbnpjbjakpcaaGreatDoor
open Go.RowKit Go.Lib Go.Proofs.YtkbbnpjbjakpcaaGreatDoorW.PrintLast
def tMsg (m : Msg) : Nat:=tActns m.acts + tNods m.nodes + tCmts m.commits
/-- A message as it comes in. -/
def gC (x : Comp) : Prop:=i64 x.n∧x.text.size≤9223372036854775807
def gA (x : Actn) : Prop:=x.name.size≤9223372036854775807∧∀ c ∈ x.ops,gC c
def gN (x : Nod) : Prop:=x.name.size≤9223372036854775807∧x.text.size≤9223372036854775807
def gCm (x : Cmt) : Prop:=(i64 x.rev∧i64 x.client∧i64 x.seq)∧∀ a ∈ x.acts,gA a
def gM (x : Msg) : Prop:=(i64 x.client∧i64 x.seq∧i64 x.rev∧i64 x.last∧i64 x.code)∧(∀ a ∈ x.acts,gA a)∧(∀ c ∈ x.commits,gCm c)∧∀ n ∈ x.nodes,gN n
theorem sum_one {α : Type} {f : α→Nat} {l : List α} {x : α} (h : x ∈ l) : f x≤(l.map f).sum:=by
  induction l with
  | nil=>cases h
  | cons y r ih=>
    simp only [List.map_cons,List.sum_cons]
    rcases List.mem_cons.1 h with rfl | h
    · omega
    · have:=ih h; omega
theorem sum_len {α : Type} {f : α→Nat} {l : List α} (h : ∀ x,1≤f x) : l.length≤(l.map f).sum:=by
  induction l with
  | nil=>simp
  | cons y r ih=>
    have:=h y
    simp only [List.map_cons,List.sum_cons,List.length_cons]; omega
theorem light_A {l : List Actn} (hg : ∀ a ∈ l,gA a) (hw : tActns l≤4000) : l.length≤4000∧(∀ a ∈ l,mA a)∧∀ a ∈ l,a.ops.length≤4000:=by
  unfold tActns at hw
  have hl:=sum_len (f:=fun x : Actn=>x.name.size + tComps x.ops + 3) (l:=l) (fun x=>by omega)
  refine ⟨by omega,fun a ha=>?_,fun a ha=>?_⟩
  · have h1 : a.name.size + tComps a.ops + 3≤(l.map fun x=>x.name.size + tComps x.ops + 3).sum:=sum_one (f:=fun x : Actn=>x.name.size + tComps x.ops + 3) ha
    have h2 : a.ops.length≤tComps a.ops:=sum_len (f:=fun x : Comp=>x.text.size + 2) (l:=a.ops) (fun x=>by omega)
    refine ⟨by omega,by omega,fun c hc=>⟨((hg a ha).2 c hc).1.2,?_⟩⟩
    have h3 : c.text.size + 2≤tComps a.ops:=sum_one (f:=fun x : Comp=>x.text.size + 2) hc
    omega
  · have h1 : a.name.size + tComps a.ops + 3≤(l.map fun x=>x.name.size + tComps x.ops + 3).sum:=sum_one (f:=fun x : Actn=>x.name.size + tComps x.ops + 3) ha
    have h2 : a.ops.length≤tComps a.ops:=sum_len (f:=fun x : Comp=>x.text.size + 2) (l:=a.ops) (fun x=>by omega)
    omega
theorem light_M {m : Msg} (hg : gM m) (hw : tMsg m≤4000) : mM m∧(wMsg m).1.length≤48054:=by
  obtain ⟨h0,ha,hc,hn⟩:=hg;unfold tMsg at hw;obtain ⟨a1,a2,a3⟩:=light_A ha (by omega)
  have hcl:=sum_len (f:=fun x : Cmt=>tActns x.acts + 3) (l:=m.commits) (fun x=>by omega)
  have hc2 : ∀ c ∈ m.commits,tActns c.acts≤4000:=fun c q=>by
    have:=sum_one (f:=fun x : Cmt=>tActns x.acts + 3) q
    unfold tCmts at hw; omega
  have hnl:=sum_len (f:=fun x : Nod=>x.name.size + x.text.size + 3) (l:=m.nodes) (fun x=>by omega)
  unfold tCmts tNods at hw;refine ⟨⟨h0,a2,fun c q=>?_,fun x q=>?_,?_⟩,?_⟩
  · obtain ⟨⟨k1,k2,k3⟩,k4⟩:=hc c q;exact ⟨k1,k2,k3,(light_A k4 (hc2 c q)).2.1⟩
  · have:=sum_one (f:=fun x : Nod=>x.name.size + x.text.size + 3) q
    exact ⟨by omega,by omega⟩
  · refine ⟨by omega,fun a q=>by have:=a3 a q; omega,by omega,fun c q=>by have:=(light_A (hc c q).2 (hc2 c q)).1; omega,fun c q a z=>by have:=(light_A (hc c q).2 (hc2 c q)).2.2 a z; omega,by omega⟩
  · have:=wMsg_len m
    unfold tCmts tNods at this; omega
section
variable {W w : World} {cs r r2 : List Ch}
end
end Go.Proofs.YtkbbnpjbjakpcaaGreatDoor

set_option linter.unusedVariables false
set_option linter.unusedSimpArgs false
namespace Go.Proofs.YtkbbnpjbjakpcaaGreatDoor
open Go.RowKit Go.Lib
instance (n : Int) : Decidable (i64 n):=by unfold i64; infer_instance
/-- A message without lists. -/
theorem bare_ok {m : Msg} (hk : 1≤m.kind∧m.kind≤9) (hp : m = plainM m) (hf : fits m.client = true∧fits m.seq = true∧fits m.rev = true∧fits m.last = true∧fits m.code = true) (h1 : m.acts = []) (h2 : m.commits = []) (h3 : m.nodes = []) : msgE m = 0:=by
  have hl:=wMsg_len m
  rw [h1,h2,h3] at hl;simp only [tActns,tCmts,tNods,List.map_nil,List.sum_nil] at hl
  have hb : (bOut m).length≤65536:=by
    unfold bOut; split
    · simp
    · omega
  obtain ⟨f1,f2,f3,f4,f5⟩:=hf;unfold msgE;rw [if_neg (by rw [f1,f2,f3,f4,f5]; simp only [not_or]; exact ⟨by omega,by omega,fun h=>h hp,by decide,by decide,by decide,by decide,by decide⟩)];rw [h1,h2,h3];rw [if_neg (by decide),if_neg (by decide),if_neg (by decide),if_neg (by omega)]
section
variable {W w : World} {cs r r2 : List Ch}
theorem Sep.msg_none (hs : Sep W w cs) (k c s rv o l : Int) : Sep W w (.el kMsg ⟨k,c,s,rv,o,[],[],[],l⟩ [.int .i64 k,.int .i64 c,.int .i64 s,.int .i64 rv,.int .i64 o,.slice none 0 0,.slice none 0 0,.slice none 0 0,.int .i64 l]::cs) :=
  ((((hs.rd_nil (d:=kNod)).rd_nil (d:=kCmt)).rd_nil (d:=kActn)).mk_msg (x:=⟨k,c,s,rv,o,[],[],[],l⟩) .here .here .here)
theorem bare_m {m : Msg} (h0 : i64 m.client∧i64 m.seq∧i64 m.rev∧i64 m.last∧i64 m.code) (h1 : m.acts = []) (h2 : m.commits = []) (h3 : m.nodes = []) : mM m∧(wMsg m).1.length≤8796093022208:=by
  have hg : gM m:=⟨h0,by rw [h1]; simp,by rw [h2]; simp,by rw [h3]; simp⟩
  have:=light_M hg (by unfold tMsg; rw [h1,h2,h3]; decide)
  exact ⟨this.1,by omega⟩
end
end Go.Proofs.YtkbbnpjbjakpcaaGreatDoor

set_option linter.unusedVariables false
set_option linter.unusedSimpArgs false
namespace Go.Proofs.YtkbbnpjbjakpcaaGreatDoor
open Go.RowKit Go.Lib Go.Proofs.YtkbbnpjbjakpcaaGreatDoorW.PrintLast
theorem bldClW61_0_2 {w : World} {l : List (Nat × Value)} {T : TypeId} {x0 x2 : Operand} {v0 : Value} (h0 : ev l x0 = some v0) {v2 : Value} (h2 : ev l x2 = some v2) (o0 : v0.cells = #[v0]:=by rfl) (o2 : v2.cells = #[v2]:=by rfl) : Yl Tryz.prog w l (.build 61 #[(0,x0),(2,x2)]) T (.agg #[v0,.int .i64 0,v2,.int .i64 0,.bool false,.bool false,.bool false,.bool false,.slice none 0 0,.slice none 0 0]):=fun ρ o h ho _=>by
  have hf : Instr.fill (fun i=>([(0,1),(1,1),(2,1),(3,1),(4,1),(5,1),(6,1),(7,1),(8,1),(9,1)] : List (Nat × Nat))[i]?) #[.int .i64 0,.int .i64 0,.pointer none,.int .i64 0,.bool false,.bool false,.bool false,.bool false,.slice none 0 0,.slice none 0 0] [(0,v0),(2,v2)] = some #[v0,.int .i64 0,v2,.int .i64 0,.bool false,.bool false,.bool false,.bool false,.slice none 0 0,.slice none 0 0]:=by
    refine (fill_v o0 rfl (by simp)).trans ?_;refine (fill_v o2 rfl (by simp)).trans ?_
    simp [Instr.fill]
  unfold execOp; rw [ho]
  simp [h _ _ h0,h _ _ h2,Instr.build,Tryz.zeroValue61,Tryz.runUnderlying61,Tryz.sizeOf3,Tryz.sizeOf4,Tryz.sizeOf44,Tryz.sizeOf54,Tryz.sizeOf59,agg_cells,hf]
/-- A transaction. -/
def kTx : Kd (List Actn) where
  sz:=1
  R:=fun Z x cs=>∃ A n c,cs = [.slice A n c]∧kActn.sl Z (.slice A n c) x
  mono:=fun h ⟨A,n,c,e,hs⟩=>⟨A,n,c,e,Kd.sl_mono kActn h hs⟩
  len:=fun ⟨A,n,c,h,_⟩=>by subst h; rfl
  one:=fun ⟨A,n,c,h,_⟩ u hu=>by subst h; simp at hu; rcases hu with rfl <;> rfl
section
variable {W w : World} {cs r r2 : List Ch} {o : Bool} {bc : Nat} {c : Cli}
theorem Sep.mk_tx {A : Option Addr} {n c : Nat} {x : List Actn} (h : Sep W w cs) (hk : Pick cs (.rd kActn (.slice A n c) x) r) : Sep W w (.el kTx x [.slice A n c]::cs) :=
  h.with_ro (q:=fun Z=>kTx.R Z x [.slice A n c]) (m':=fun _ _ h hp=>kTx.mono h hp) hk fun Z hp=>⟨A,n,c,rfl,hp⟩
theorem CNone_c {bt : Nat} {vl vg : Value} (h0 : c.id ≠ 0) (hs : Sep W w cs) (hk : Pick cs (.blk bc 61 (cliV c bt vl vg)) r) :
    Calls Tryz.prog 21 #[.pointer (some ⟨bc,0,none⟩)] w (Rt fun v w'=>v = .bool false∧Sep W w' cs):=by
  have hkc:=hk
  refine enter Tryz.func21 Tryz.ntmps21 rfl rfl fun a (ha : Has a 12 [(0,_)])=>?_;refine wp_seq_k fun K1 hK1=>?_;refine wp_region_lit ?_;refine pY ha (yAssign rfl) fun a ha=>?_;refine pZ ?_;refine hK1 _ _ ?_;refine wp_seq_k fun K2 hK2=>?_;refine wp_region_lit ?_;refine pY ha (yMove rfl) fun a ha=>?_;refine pY ha (yPtrEqlN Tryz.underlying24 rfl rfl) fun a ha=>?_;refine pY ha (yMove rfl) fun a ha=>?_;refine gOn ha ?_;refine pY ha (yMove rfl) fun a ha=>?_;refine gOn ha ?_;refine pY ha (yNilP rfl) fun a ha=>?_;refine gOn ha ?_;refine pY ha (yFieldA Tryz.runUnderlying61 rfl Tryz.sizeOf3 rfl rfl) fun a ha=>?_;refine gOn ha ?_;refine pY ha (yLoadB (E:=61) Tryz.isAgg3 hs rfl hkc rfl) fun a ha=>?_;refine gOn ha ?_;refine pY ha (yEql rfl rfl) fun a ha=>?_;refine pY ha (yPickF rfl rfl) fun a ha=>?_;refine pY ha (yAssign rfl) fun a ha=>?_;refine pZ ?_;refine hK2 _ _ ?_;refine wp_ret ?_;show bodyPost Tryz.prog Tryz.f21 _ .ret _ _;refine ret1 rfl ha rfl ?_;exact ⟨congrArg Value.bool (decide_eq_false h0),hs⟩
def newC (id : Int) : Cli:=⟨id,0,[],0,false,false,false,false,[],[]⟩
theorem CNew_c (id : Int) (hs : Sep W w cs) : Calls Tryz.prog 6 #[.int .i64 id] w (Rt fun v w'=>
    (1≤id∧id≤20∧∃ b,v = .tuple #[.pointer (some ⟨b,0,none⟩),.int .i64 0]∧Sep W w' (.cli true b (newC id)::cs))∨(¬ (1≤id∧id≤20)∧v = .tuple #[.pointer none,.int .i64 1]∧Sep W w' cs)):=by
  refine enter Tryz.func6 Tryz.ntmps6 rfl rfl fun a (ha : Has a 14 [(0,_)])=>?_;refine wp_seq_k fun K1 hK1=>?_;refine wp_region_lit ?_;refine pY ha (yAssign rfl) fun a ha=>?_;refine pY ha (yAssign rfl) fun a ha=>?_;refine pZ ?_;refine hK1 _ _ ?_;refine wp_seq_k fun K2 hK2=>?_;refine wp_seq_k fun K3 hK3=>?_;refine cutC (fun a w=>Has a 14 [(9,.bool (decide (¬ (1≤id∧id≤20)))),(0,.int .i64 id)]∧Sep W w cs) ?_ ?_
  · refine wp_region_lit ?_;refine pY ha (yMove rfl) fun a ha=>?_;refine pY ha (yLss rfl rfl) fun a ha=>?_;refine pY ha (yMove rfl) fun a ha=>?_;refine gDec (t:=6) ha rfl (fun hg2 hp2=>?_) (fun hg2 hp2=>?_)
    · rw [hg2] at ha;refine gOn ha ?_;refine pY ha (yMove rfl) fun a ha=>?_;refine gOn ha ?_;refine pY ha (yGtr rfl rfl) fun a ha=>?_;refine pY ha (yPickF rfl rfl) fun a ha=>?_;refine pZ ⟨rfl,?_⟩;refine ⟨has2 ha ?_ rfl,hs⟩;refine congrArg (fun b=>some (Value.bool b)) ?_;rw [Bool.eq_iff_iff]
      simp
      omega
    · rw [hg2] at ha;refine gOff ha fun a ha=>?_;refine gOff ha fun a ha=>?_;refine pY ha (yPickT rfl rfl) fun a ha=>?_;refine pZ ⟨rfl,?_⟩;refine ⟨has2 ha ?_ rfl,hs⟩;refine congrArg (fun b=>some (Value.bool b)) ?_;rw [Bool.eq_iff_iff]
      simp
      omega
  rintro a w ⟨ha,hs⟩;refine hK3 _ _ ?_;refine cDec ha rfl (fun hc9=>?_) (fun hc9=>?_)
  · refine wp_seq_k fun K4 hK4=>?_;refine wp_region_lit ?_;refine pY ha (yAssign rfl) fun a ha=>?_;refine pY ha (yAssign rfl) fun a ha=>?_;refine pZ ?_;refine hK4 _ _ ?_;refine wp_ret ?_;show bodyPost Tryz.prog Tryz.f6 _ .ret _ _;refine ret2 rfl ha rfl rfl ?_;exact .inr ⟨hc9,rfl,hs⟩
  · refine wp_skip ?_;refine hK2 _ _ ?_;refine wp_seq_k fun K5 hK5=>?_;refine wp_region_lit ?_;refine pY ha (yMove rfl) fun a ha=>?_;refine pC ha (nCall Tryz.call20 rfl) rfl (New_c hs) ?_;rintro v w ⟨bt,bm,rfl,hs⟩ a ha;refine pY ha (bldClW61_0_2 rfl rfl) fun a ha=>?_;refine pBox (es:=_) ha rfl rfl hs rfl fun bc w hs a ha=>?_;refine pY ha (yAssign rfl) fun a ha=>?_;refine pY ha (yAssign rfl) fun a ha=>?_;refine pZ ?_;refine hK5 _ _ ?_;refine wp_ret ?_;show bodyPost Tryz.prog Tryz.f6 _ .ret _ _;refine ret2 rfl ha rfl rfl ?_
    have hs:=(hs.ol_nil kPnd 66 none).ol_nil kPnd 47 none
    refine .inl ⟨by omega,by omega,bc,rfl,?_⟩;exact hs.cli_shut (o:=true) (c:=newC id) (bt:=bt) (bm:=bm) (vl:=.slice none 0 0) (vg:=.slice none 0 0) pk2 pk2 pk2 pk1 pk0
theorem CRev_c (h0 : c.id ≠ 0) (hs : Sep W w cs) (hk : Pick cs (.cli o bc c) r) : Calls Tryz.prog 14 #[.pointer (some ⟨bc,0,none⟩)] w (Rt fun v w'=>v = .int .i64 c.rev∧Sep W w' (.cli o bc c::r)):=by
  obtain ⟨bt,bm,A,n,A',n',hl1,hl2,hs⟩:=hs.cli_open hk;refine enter Tryz.func14 Tryz.ntmps14 rfl rfl fun a (ha : Has a 9 [(0,_)])=>?_;refine wp_seq_k fun K1 hK1=>?_;refine wp_region_lit ?_;refine pY ha (yAssign rfl) fun a ha=>?_;refine pZ ?_;refine hK1 _ _ ?_;refine wp_seq_k fun K2 hK2=>?_;refine wp_seq_k fun K3 hK3=>?_;refine wp_region_lit ?_;refine pY ha (yMove rfl) fun a ha=>?_;refine pC ha (nCall Tryz.call21 rfl) rfl (CNone_c h0 hs pk0) ?_;rintro v w ⟨rfl,hs⟩ a ha;refine pZ ?_;refine hK3 _ _ ?_;refine cFalse ha rfl ?_;refine wp_skip ?_;refine hK2 _ _ ?_;refine wp_seq_k fun K4 hK4=>?_;refine wp_region_lit ?_;refine pY ha (yMove rfl) fun a ha=>?_;refine pY ha (yNilP rfl) fun a ha=>?_;refine pY ha (yFieldA Tryz.runUnderlying61 rfl Tryz.sizeOf3 rfl rfl) fun a ha=>?_;refine pY ha (yLoadB Tryz.isAgg3 hs rfl pk0 rfl) fun a ha=>?_;refine pY ha (yAssign rfl) fun a ha=>?_;refine pZ ?_;refine hK4 _ _ ?_;refine wp_ret ?_;show bodyPost Tryz.prog Tryz.f14 _ .ret _ _;refine ret1 rfl ha rfl ?_;exact ⟨rfl,hs.cli_shut pk0 pk0 pk0 pk0 pk0⟩
theorem CIdle_c (h0 : c.id ≠ 0) (hs : Sep W w cs) (hk : Pick cs (.cli o bc c) r) : Calls Tryz.prog 19 #[.pointer (some ⟨bc,0,none⟩)] w (Rt fun v w'=>v = .bool (decide (c.l.length = 0))∧Sep W w' (.cli o bc c::r)):=by
  obtain ⟨bt,bm,A,n,A',n',hl1,hl2,hs⟩:=hs.cli_open hk;refine enter Tryz.func19 Tryz.ntmps19 rfl rfl fun a (ha : Has a 13 [(0,_)])=>?_;refine wp_seq_k fun K1 hK1=>?_;refine wp_region_lit ?_;refine pY ha (yAssign rfl) fun a ha=>?_;refine pZ ?_;refine hK1 _ _ ?_;refine wp_seq_k fun K2 hK2=>?_;refine wp_region_lit ?_;refine pY ha (yMove rfl) fun a ha=>?_;refine pC ha (nCall Tryz.call21 rfl) rfl (CNone_c h0 hs pk0) ?_;rintro v w ⟨rfl,hs⟩ a ha;refine pY ha (yMove rfl) fun a ha=>?_;refine gOn ha ?_;refine pY ha (yMove rfl) fun a ha=>?_;refine gOn ha ?_;refine pY ha (yNilP rfl) fun a ha=>?_;refine gOn ha ?_;refine pY ha (yFieldA Tryz.runUnderlying61 rfl Tryz.sizeOf59 rfl rfl) fun a ha=>?_;refine gOn ha ?_;refine pY ha (yLoadB Tryz.isAgg59 hs rfl pk0 rfl) fun a ha=>?_;refine gOn ha ?_;refine pY ha (yLenS Tryz.runUnderlying59 rfl) fun a ha=>?_;refine gOn ha ?_;refine pY ha (yEql rfl rfl) fun a ha=>?_;refine pY ha (yPickF rfl rfl) fun a ha=>?_;refine pY ha (yAssign rfl) fun a ha=>?_;refine pZ ?_;refine hK2 _ _ ?_;refine wp_ret ?_;show bodyPost Tryz.prog Tryz.f19 _ .ret _ _;refine ret1 rfl ha rfl ?_;exact ⟨congrArg Value.bool (decide_eq_decide.2 (by omega)),hs.cli_shut pk0 pk0 pk0 pk0 pk0⟩
theorem CView_c (hT : Tabs W) (hc : okC c) (hs : Sep W w cs) (hk : Pick cs (.cli o bc c) r) : Calls Tryz.prog 16 #[.pointer (some ⟨bc,0,none⟩)] w (Rt fun v w'=>∃ b m,v = .pointer (some ⟨b,0,none⟩)∧Sep W w' (.blk b 81 [.map (some m)]::.mpN m (viewL c.base c.l)::.cli o bc c::r)):=by
  obtain ⟨bt,bm,A,n,A',n',hl1,hl2,hs⟩:=hs.cli_open hk;unfold maxLen at hl1;refine enter Tryz.func16 Tryz.ntmps16 rfl rfl fun a (ha : Has a 41 [(0,_)])=>?_;refine wp_seq_k fun K1 hK1=>?_;refine wp_region_lit ?_;refine pY ha (yAssign rfl) fun a ha=>?_;refine pZ ?_;refine hK1 _ _ ?_;refine wp_seq_k fun K2 hK2=>?_;refine wp_seq_k fun K3 hK3=>?_;refine wp_region_lit ?_;refine pY ha (yMove rfl) fun a ha=>?_;refine pC ha (nCall Tryz.call21 rfl) rfl (CNone_c hc.id hs pk0) ?_;rintro v w ⟨rfl,hs⟩ a ha;refine pZ ?_;refine hK3 _ _ ?_;refine cFalse ha rfl ?_;refine wp_skip ?_;refine hK2 _ _ ?_;refine wp_seq_k fun K4 hK4=>?_;refine wp_region_lit ?_;refine pY ha (yMove rfl) fun a ha=>?_;refine pY ha (yNilP rfl) fun a ha=>?_;refine pY ha (yFieldA Tryz.runUnderlying61 rfl Tryz.sizeOf54 rfl rfl) fun a ha=>?_;refine pY ha (yLoadB Tryz.isAgg54 hs rfl pk0 rfl) fun a ha=>?_;refine pC ha (nCall Tryz.call34 rfl) rfl (Copy_c hs pk1 pk1) ?_;rintro v w ⟨b,m,rfl,hs⟩ a ha;refine pY ha (yAssign rfl) fun a ha=>?_;refine pZ ?_;refine hK4 _ _ ?_;refine wp_seq_k fun K5 hK5=>?_;refine wp_seq_k fun K6 hK6=>?_;refine wp_region_lit ?_;refine pY ha (yMove rfl) fun a ha=>?_;refine pY ha (yNilP rfl) fun a ha=>?_;refine pY ha (yFieldA Tryz.runUnderlying61 rfl Tryz.sizeOf59 rfl rfl) fun a ha=>?_;refine pY ha (yLoadB Tryz.isAgg59 hs rfl pk4 rfl) fun a ha=>?_;refine pY ha (yLenS Tryz.runUnderlying59 rfl) fun a ha=>?_;refine pY ha (yMove rfl) fun a ha=>?_;refine pZ ?_;refine hK6 _ _ ?_;refine wp_block ?_;refine loopI (ι:=Nat) (fun i a w=>∃ b m,i≤c.l.length∧Has a 41 [(3,.pointer (some ⟨b,0,none⟩)),(19,.slice A c.l.length n),(20,.int .i64 c.l.length),(21,.int .i64 i)]∧Sep W w (.blk b 81 [.map (some m)]::.mpN m (viewL c.base (c.l.take i))::.blk bc 61 (cliV c bt (.slice A c.l.length n) (.slice A' c.gone.length n'))::.blk bt 81 [.map (some bm)]::.mpN bm c.base::.pl o 66 (.slice A c.l.length n) c.l::.ol kPnd 47 (.slice A' c.gone.length n') c.gone::r)) (fun i=>c.l.length - i) (0) ?_ ?_
  · exact ⟨b,m,Nat.zero_le _,has4 ha rfl rfl rfl rfl,(by exact hs.to (by repeat first | exact Picks.refl | (apply Picks.cons; · repeat first | exact .here | apply Pick.there) | refine Picks.skip ?_))⟩
  · rintro i a w ⟨b,m,h1,ha,hs⟩;refine wp_seq_k fun K7 hK7=>?_;refine wp_region_lit ?_;refine pY ha (yLss rfl rfl) fun a ha=>?_;refine pZ ?_;refine hK7 _ _ ?_;refine wp_seq_k fun K8 hK8=>?_;refine cDec ha rfl (fun hc22=>?_) (fun hc22=>?_)
    · obtain ⟨x,hx⟩ : ∃ x,c.l[i]? = some x:=⟨_,List.getElem?_eq_getElem (by omega)⟩
      have hmem:=List.mem_of_getElem? hx
      obtain ⟨b0,off,A2,n2,c2,rfl,hcell,hs⟩:=hs.pl_at pk5 hx;refine wp_skip ?_;refine hK8 _ _ ?_;refine wp_seq_k fun K9 hK9=>?_;refine wp_block ?_;refine wp_seq_k fun K10 hK10=>?_;refine wp_region_lit ?_;refine pY ha (yIndexA Tryz.runUnderlying59 Tryz.sizeOf66 rfl rfl (by omega) (by omega)) fun a ha=>?_;refine pY ha (yLoadA Tryz.isAgg66 Tryz.sizeOf66 rfl rfl hcell) fun a ha=>?_;refine pAlloc (zs:=[.slice none 0 0,.int .i64 0]) ha Tryz.zeroValue66 rfl hs rfl fun bp w hs a ha=>?_;refine pStoreA ha Tryz.sizeOf66 hs rfl rfl pk0 rfl rfl rfl fun w hs=>?_;refine pZ ?_;refine hK10 _ _ ?_;refine wp_seq_k fun K11 hK11=>?_;refine wp_seq_k fun K12 hK12=>?_;refine wp_region_lit ?_;refine pY ha (yFieldA Tryz.runUnderlying66 rfl Tryz.sizeOf25 rfl rfl) fun a ha=>?_;refine pY ha (yLoadB Tryz.isAgg25 hs rfl pk0 rfl) fun a ha=>?_;refine pY ha (yNeq rfl rfl) fun a ha=>?_;refine pZ ?_;refine hK12 _ _ ?_;refine cNDec ha rfl (fun hc27=>?_) (fun hc27=>?_)
      · refine wp_exit ?_;refine hK9 _ _ ?_;refine wp_region_lit ?_;refine pY ha (yAddN rfl rfl ⟨by omega,by omega⟩) fun a ha=>?_;refine pY ha (yMove rfl) fun a ha=>?_;refine pZ ?_
        have e1:=viewL_at (t:=c.base) hx
        (rw [show stepV (viewL c.base (c.l.take i)) x = viewL c.base (c.l.take i) from if_neg (fun h=>hc27 h.1)] at e1
         refine ⟨i + 1,⟨b,m,by omega,has4 ha rfl rfl rfl rfl,?_⟩,by omega⟩;rw [e1]
         exact (by exact hs.to (by repeat first | exact Picks.refl | (apply Picks.cons; · repeat first | exact .here | apply Pick.there) | refine Picks.skip ?_)))
      · refine wp_skip ?_;refine hK11 _ _ ?_;refine wp_seq_k fun K13 hK13=>?_;refine wp_region_lit ?_;refine pY ha (yMove rfl) fun a ha=>?_;refine pY ha (yFieldA Tryz.runUnderlying66 rfl Tryz.sizeOf33 rfl rfl) fun a ha=>?_;refine pY ha (yLoadB Tryz.isAgg33 hs rfl pk0 rfl) fun a ha=>?_;refine pC ha (nCall Tryz.call22 rfl) rfl (TxnDo_c hT (l:=x.acts) (xs:=viewL c.base (c.l.take i)) (bt:=b) (bm:=m) (fun y hy=>((hc.acts x hmem).1 y hy).1) (fun y hy=>((hc.acts x hmem).1 y hy).2) (idsOk_view hc.base) hs pk2 pk2 pk1) ?_;rintro v w ⟨k,p,rfl,hd⟩ a ha;refine pY ha (yMove rfl) fun a ha=>?_;refine pY ha (yExtract rfl rfl) fun a ha=>?_;refine pY ha (yExtract rfl rfl) fun a ha=>?_;refine pY ha (yExtract rfl rfl) fun a ha=>?_;refine pY ha (yAssign rfl) fun a ha=>?_;refine pY ha (yAssign rfl) fun a ha=>?_;refine pY ha (yAssign rfl) fun a ha=>?_;refine pZ ?_;refine hK13 _ _ ?_;refine wp_seq_k fun K14 hK14=>?_;refine wp_region_lit ?_;refine pY ha (yMove rfl) fun a ha=>?_;refine pY ha (yEql rfl rfl) fun a ha=>?_;refine pZ ?_;refine hK14 _ _ ?_;refine cDec ha rfl (fun hc37=>?_) (fun hc37=>?_)
        · obtain ⟨_,b2,m2,rfl,hs⟩:=hd.resolve_right (fun h=>h.1 hc37);refine wp_region_lit ?_;refine pY ha (yMove rfl) fun a ha=>?_;refine pY ha (yAssign rfl) fun a ha=>?_;refine pZ ?_;refine hK9 _ _ ?_;refine wp_region_lit ?_;refine pY ha (yAddN rfl rfl ⟨by omega,by omega⟩) fun a ha=>?_;refine pY ha (yMove rfl) fun a ha=>?_;refine pZ ?_
          have e1:=viewL_at (t:=c.base) hx
          (rw [show stepV (viewL c.base (c.l.take i)) x = (doL (viewL c.base (c.l.take i)) x.acts).1 from if_pos ⟨hc27,hc37⟩] at e1
           exact ⟨i + 1,⟨b2,m2,by omega,has4 ha rfl rfl rfl rfl,by rw [e1]; exact (by exact hs.to (by repeat first | exact Picks.refl | (apply Picks.cons; · repeat first | exact .here | apply Pick.there) | refine Picks.skip ?_))⟩,by omega⟩)
        · obtain ⟨_,_,hs⟩:=hd.resolve_left (fun h=>hc37 h.1);refine wp_skip ?_;refine hK9 _ _ ?_;refine wp_region_lit ?_;refine pY ha (yAddN rfl rfl ⟨by omega,by omega⟩) fun a ha=>?_;refine pY ha (yMove rfl) fun a ha=>?_;refine pZ ?_
          have e1:=viewL_at (t:=c.base) hx
          (rw [show stepV (viewL c.base (c.l.take i)) x = viewL c.base (c.l.take i) from if_neg (fun h=>hc37 h.2)] at e1
           exact ⟨i + 1,⟨b,m,by omega,has4 ha rfl rfl rfl rfl,by rw [e1]; exact (by exact hs.to (by repeat first | exact Picks.refl | (apply Picks.cons; · repeat first | exact .here | apply Pick.there) | refine Picks.skip ?_))⟩,by omega⟩)
    · refine wp_exit ?_;refine hK5 _ _ ?_;refine wp_seq_k fun K15 hK15=>?_;refine wp_region_lit ?_;refine pY ha (yMove rfl) fun a ha=>?_;refine pY ha (yAssign rfl) fun a ha=>?_;refine pZ ?_;refine hK15 _ _ ?_;refine wp_ret ?_;show bodyPost Tryz.prog Tryz.f16 _ .ret _ _;refine ret1 rfl ha rfl ?_;rw [List.take_of_length_le (by omega)] at hs;exact ⟨b,m,rfl,(hs.cli_shut (bt:=bt) (bm:=bm) (o:=o) (c:=c) (bc:=bc) pk2 pk2 pk2 pk2 pk2).to (.cons pk1 (.cons pk1 (.cons .here .refl)))⟩
end
end Go.Proofs.YtkbbnpjbjakpcaaGreatDoor

set_option linter.unusedVariables false
set_option linter.unusedSimpArgs false
namespace Go.Proofs.YtkbbnpjbjakpcaaGreatDoor
open Go.RowKit Go.Lib Go.Proofs.YtkbbnpjbjakpcaaGreatDoorW.PrintLast
theorem bldClE66_0 {w : World} {l : List (Nat × Value)} {T : TypeId} {x0 : Operand} {v0 : Value} (h0 : ev l x0 = some v0) (o0 : v0.cells = #[v0]:=by rfl) : Yl Tryz.prog w l (.build 66 #[(0,x0)]) T (.agg #[v0,.int .i64 0]):=fun ρ o h ho _=>by
  have hf : Instr.fill (fun i=>([(0,1),(1,1)] : List (Nat × Nat))[i]?) #[.slice none 0 0,.int .i64 0] [(0,v0)] = some #[v0,.int .i64 0]:=by
    refine (fill_v o0 rfl (by simp)).trans ?_
    simp [Instr.fill]
  unfold execOp; rw [ho]
  simp [h _ _ h0,Instr.build,Tryz.zeroValue66,Tryz.runUnderlying66,Tryz.sizeOf25,Tryz.sizeOf33,agg_cells,hf]
theorem bslClE49_1_0 {w : World} {l : List (Nat × Value)} {T : TypeId} {x0 : Operand} {v0 : Value} (h0 : ev l x0 = some v0) (o0 : v0.cells = #[v0]:=by rfl) : Mk Tryz.prog w l (.buildSlice 49 1 #[(0,x0)]) T 33 1 [v0]:=fun ρ o h ho _=>by
  unfold execOp; rw [ho];exact mk1v (P:=Tryz.prog) w Tryz.runUnderlying49 Tryz.sizeOf33 Tryz.zeroValue33 rfl o0 (h _ _ h0)
theorem bslClE59_1_0 {w : World} {l : List (Nat × Value)} {T : TypeId} {x0 : Operand} {c0 : List Value} (h0 : ev l x0 = some (.agg c0.toArray)) (n0 : c0.length = 2:=by rfl) : Mk Tryz.prog w l (.buildSlice 59 1 #[(0,x0)]) T 66 1 c0:=fun ρ o h ho _=>by
  unfold execOp; rw [ho];exact mk1 (P:=Tryz.prog) w Tryz.runUnderlying59 Tryz.sizeOf66 Tryz.zeroValue66 (by decide) (by decide) n0 (h _ _ h0)
theorem elClE49 : ElemT Tryz.prog 49 33 1 24:=elemT_mk Tryz.underlying49 rfl (by kernel_rfl)
theorem elClE59 : ElemT Tryz.prog 59 66 2 32:=elemT_mk Tryz.underlying59 rfl (by kernel_rfl)
theorem pl_true (T : TypeId) (v : Value) (l : List Pnd) : Ch.pl true T v l = .ol kPnd T v l:=rfl
/-- What Edit does, and tells. -/
def editE (c : Cli) (l : List Actn) : Int:=if l.length = 0 then 1 else if c.l.length ≥ 50 then 4 else doE (viewL c.base c.l) l
def editC (c : Cli) (l : List Actn) : Cli:=if editE c l = 0 then { c with l:=c.l++[⟨l,0⟩] } else c
def cOutK (c : Cli) : Int:=if c.welcome = false then 1 else if c.l.length = 0∨c.told = true∨c.behind = true then 3 else 2
def headP (c : Cli) : Pnd:=c.l.getD 0 ⟨[],0⟩
def cOutM (c : Cli) : Msg:=if c.welcome = false then { noM with kind:=1,client:=c.id } else if c.l.length = 0∨c.told = true∨c.behind = true then { noM with kind:=3,client:=c.id,rev:=c.rev }
  else { noM with kind:=2,client:=c.id,seq:=c.last + 1,rev:=c.rev,code:=(headP c).e,acts:=if (headP c).e = 0 then (headP c).acts else [] }
def cOut (c : Cli) : Cli:=if cOutK c = 2 then { c with under:=true } else c
section
variable {W w : World} {cs r r2 : List Ch} {o : Bool} {bc : Nat} {q : Cli}
theorem CPend_c (hc : okC q) (hb : q.l.length≤1000000) (hs : Sep W w cs) (hk : Pick cs (.cli o bc q) r) : Calls Tryz.prog 15 #[.pointer (some ⟨bc,0,none⟩)] w (Rt fun v w'=>∃ B d,v = .slice B q.l.length d∧Sep W w' (.rd kTx (.slice B q.l.length d) (q.l.map (·.acts))::.cli o bc q::r)):=by
  obtain ⟨bt,bm,A,n,A',n',hl1,hl2,hs⟩:=hs.cli_open hk;refine enter Tryz.func15 Tryz.ntmps15 rfl rfl fun a (ha : Has a 24 [(0,_)])=>?_;refine wp_seq_k fun K1 hK1=>?_;refine wp_region_lit ?_;refine pY ha (yAssign rfl) fun a ha=>?_;refine pZ ?_;refine hK1 _ _ ?_;refine wp_seq_k fun K2 hK2=>?_;refine wp_seq_k fun K3 hK3=>?_;refine wp_region_lit ?_;refine pY ha (yMove rfl) fun a ha=>?_;refine pC ha (nCall Tryz.call21 rfl) rfl (CNone_c hc.id hs pk0) ?_;rintro v w ⟨rfl,hs⟩ a ha;refine pZ ?_;refine hK3 _ _ ?_;refine cFalse ha rfl ?_;refine wp_skip ?_;refine hK2 _ _ ?_;refine wp_seq_k fun K4 hK4=>?_;refine wp_seq_k fun K5 hK5=>?_;refine wp_region_lit ?_;refine pY ha (yMove rfl) fun a ha=>?_;refine pY ha (yNilP rfl) fun a ha=>?_;refine pY ha (yFieldA Tryz.runUnderlying61 rfl Tryz.sizeOf59 rfl rfl) fun a ha=>?_;refine pY ha (yLoadB Tryz.isAgg59 hs rfl pk0 rfl) fun a ha=>?_;refine pY ha (yLenS Tryz.runUnderlying59 rfl) fun a ha=>?_;refine pY ha (yMove rfl) fun a ha=>?_;refine pZ ?_;refine hK5 _ _ ?_;refine wp_block ?_;refine loopI (ι:=Nat × Option Addr × Nat) (fun i a w=>i.1≤q.l.length∧Has a 24 [(2,.slice i.2.1 i.1 i.2.2),(10,.slice A q.l.length n),(11,.int .i64 q.l.length),(12,.int .i64 i.1)]∧Sep W w (.ol kTx 33 (.slice i.2.1 i.1 i.2.2) ((q.l.take i.1).map (·.acts))::.blk bc 61 (cliV q bt (.slice A q.l.length n) (.slice A' q.gone.length n'))::.blk bt 81 [.map (some bm)]::.mpN bm q.base::.pl o 66 (.slice A q.l.length n) q.l::.ol kPnd 47 (.slice A' q.gone.length n') q.gone::r)) (fun i=>q.l.length - i.1) ((0,none,0)) ?_ ?_
  · exact ⟨Nat.zero_le _,has4 ha rfl rfl rfl rfl,hs.ol_nil kTx _ none⟩
  · rintro i a w ⟨h1,ha,hs⟩;obtain ⟨i,B,d⟩:=i; simp only at h1 ha hs;refine wp_seq_k fun K6 hK6=>?_;refine wp_region_lit ?_;refine pY ha (yLss rfl rfl) fun a ha=>?_;refine pZ ?_;refine hK6 _ _ ?_;refine wp_seq_k fun K7 hK7=>?_;refine cDec ha rfl (fun hc13=>?_) (fun hc13=>?_)
    · obtain ⟨x,hx⟩ : ∃ x,q.l[i]? = some x:=⟨_,List.getElem?_eq_getElem (by omega)⟩
      have hmem:=List.mem_of_getElem? hx
      have htl : ((q.l.take i).map (·.acts)).length = i:=by simp; omega
      obtain ⟨b0,off,A2,n2,c2,rfl,hcell,hs⟩:=hs.pl_at pk4 hx;refine wp_skip ?_;refine hK7 _ _ ?_;refine wp_seq_k fun K8 hK8=>?_;refine wp_block ?_;refine wp_seq_k fun K9 hK9=>?_;refine wp_region_lit ?_;refine pY ha (yIndexA Tryz.runUnderlying59 Tryz.sizeOf66 rfl rfl (by omega) (by omega)) fun a ha=>?_;refine pY ha (yLoadA Tryz.isAgg66 Tryz.sizeOf66 rfl rfl hcell) fun a ha=>?_;refine pAlloc (zs:=[.slice none 0 0,.int .i64 0]) ha Tryz.zeroValue66 rfl hs rfl fun bp w hs a ha=>?_;refine pStoreA ha Tryz.sizeOf66 hs rfl rfl pk0 rfl rfl rfl fun w hs=>?_;refine pZ ?_;refine hK9 _ _ ?_;refine wp_region_lit ?_;refine pY ha (yMove rfl) fun a ha=>?_;refine pY ha (yFieldA Tryz.runUnderlying66 rfl Tryz.sizeOf33 rfl rfl) fun a ha=>?_;refine pY ha (yLoadB Tryz.isAgg33 hs rfl pk0 rfl) fun a ha=>?_;refine pC ha (nCall Tryz.call23 rfl) rfl (Own_c (xs:=x.acts) hs pk1 (hc.acts x hmem).2 (fun y hy=>((hc.acts x hmem).1 y hy).2.2.1)) ?_;rintro v w ⟨A3,c3,rfl,hs⟩ a ha;have hs:=hs.mk_tx (x:=x.acts) .here;refine pMake ha (bslClE49_1_0 rfl) hs rfl fun b w hs a ha=>?_;refine pApp1 ha elClE49 rfl rfl hs pk5 pk0 pk0 rfl (by omega) (by omega) rfl fun A c w hs a ha=>?_;rw [htl] at ha hs;refine pY ha (yAssign rfl) fun a ha=>?_;refine pZ ?_;refine hK8 _ _ ?_;refine wp_region_lit ?_;refine pY ha (yAddN rfl rfl ⟨by omega,by omega⟩) fun a ha=>?_;refine pY ha (yMove rfl) fun a ha=>?_;refine pZ ?_
      have e1 : (q.l.take (i + 1)).map (·.acts) = (q.l.take i).map (·.acts)++[x.acts]:=by rw [List.take_add_one,hx]; simp
      refine ⟨(i + 1,A,c),⟨by simp only; omega,has4 ha rfl rfl rfl rfl,?_⟩,by simp only; omega⟩;simp only; rw [e1]; exact (by exact hs.to (by repeat first | exact Picks.refl | (apply Picks.cons; · repeat first | exact .here | apply Pick.there) | refine Picks.skip ?_))
    · refine wp_exit ?_;refine hK4 _ _ ?_;refine wp_seq_k fun K10 hK10=>?_;refine wp_region_lit ?_;refine pY ha (yMove rfl) fun a ha=>?_;refine pY ha (yAssign rfl) fun a ha=>?_;refine pZ ?_;refine hK10 _ _ ?_;refine wp_ret ?_;show bodyPost Tryz.prog Tryz.f15 _ .ret _ _;refine ret1 rfl ha rfl ?_;obtain rfl : i = q.l.length:=by omega
      rw [List.take_length] at hs
      have hl3 : (q.l.map (·.acts)).length = q.l.length:=by simp
      have hs:=hs.ol_rd .here;exact ⟨B,d,rfl,(hs.cli_shut (bt:=bt) (bm:=bm) (o:=o) (c:=q) (bc:=bc) pk1 pk1 pk1 pk1 pk1).to (.cons pk1 (.cons .here .refl))⟩
theorem CEdit_c (hT : Tabs W) {A0 : Option Addr} {n0 c0 : Nat} {l : List Actn} (hc : okC q) (hb : q.l.length≤1000000) (h1 : ∀ x ∈ l,x.kind = 1) (hm : ∀ x ∈ l,mA x) (hlen : l.length≤1000000000) (hs : Sep W w cs) (hk : Pick cs (.cli true bc q) r) (hkl : Pick r (.rd kActn (.slice A0 n0 c0) l) r2) :
    Calls Tryz.prog 7 #[.pointer (some ⟨bc,0,none⟩),.slice A0 n0 c0] w (Rt fun v w'=>v = .int .i64 (editE q l)∧Sep W w' (.cli true bc (editC q l)::r)):=by
  obtain ⟨rfl,hl⟩:=(hs.pick hk).rd_shape (.there hkl);have hs:=hs.pick hk
  have hkl : Pick (.cli true bc q::r) (.rd kActn (.slice A0 l.length c0) l) (.cli true bc q::r2):=.there hkl
  have hs:=hs.cpR hkl;obtain ⟨bt,bm,A,n,A',n',hl1,hl2,hs⟩:=hs.cli_open (.there .here);refine enter Tryz.func7 Tryz.ntmps7 rfl rfl fun a (ha : Has a 44 [(0,_),(1,_)])=>?_;refine wp_seq_k fun K1 hK1=>?_;refine wp_region_lit ?_;refine pY ha (yAssign rfl) fun a ha=>?_;refine pZ ?_;refine hK1 _ _ ?_;refine wp_seq_k fun K2 hK2=>?_;refine wp_seq_k fun K3 hK3=>?_;refine wp_region_lit ?_;refine pY ha (yMove rfl) fun a ha=>?_;refine pC ha (nCall Tryz.call21 rfl) rfl (CNone_c hc.id hs pk0) ?_;rintro v w ⟨rfl,hs⟩ a ha;refine pY ha (yMove rfl) fun a ha=>?_;refine gOn ha ?_;refine pY ha (yMove rfl) fun a ha=>?_;refine gOn ha ?_;refine pY ha (yLenS Tryz.runUnderlying33 rfl) fun a ha=>?_;refine gOn ha ?_;refine pY ha (yEql rfl rfl) fun a ha=>?_;refine pY ha (yPickF rfl rfl) fun a ha=>?_;refine pZ ?_;refine hK3 _ _ ?_;refine cDec ha rfl (fun hc14=>?_) (fun hc14=>?_)
  · refine wp_seq_k fun K4 hK4=>?_;refine wp_region_lit ?_;refine pY ha (yAssign rfl) fun a ha=>?_;refine pZ ?_;refine hK4 _ _ ?_;refine wp_ret ?_;show bodyPost Tryz.prog Tryz.f7 _ .ret _ _;refine ret1 rfl ha rfl ?_
    have hE : editE q l = 1:=by unfold editE; rw [if_pos (by omega)]
    have hC : editC q l = q:=by unfold editC; rw [hE]; rfl
    rw [hE,hC];exact ⟨rfl,(hs.cli_shut (bt:=bt) (bm:=bm) (o:=true) (c:=q) (bc:=bc) pk0 pk0 pk0 pk0 pk0).to (.cons .here (by repeat first | exact .refl | refine .skip ?_))⟩
  · refine wp_skip ?_;refine hK2 _ _ ?_;refine wp_seq_k fun K5 hK5=>?_;refine wp_seq_k fun K6 hK6=>?_;refine wp_region_lit ?_;refine pY ha (yMove rfl) fun a ha=>?_;refine pY ha (yNilP rfl) fun a ha=>?_;refine pY ha (yFieldA Tryz.runUnderlying61 rfl Tryz.sizeOf59 rfl rfl) fun a ha=>?_;refine pY ha (yLoadB Tryz.isAgg59 hs rfl pk0 rfl) fun a ha=>?_;refine pY ha (yLenS Tryz.runUnderlying59 rfl) fun a ha=>?_;refine pY ha (yGeq rfl rfl) fun a ha=>?_;refine pZ ?_;refine hK6 _ _ ?_;refine cDec ha rfl (fun hc20=>?_) (fun hc20=>?_)
    · refine wp_seq_k fun K7 hK7=>?_;refine wp_region_lit ?_;refine pY ha (yAssign rfl) fun a ha=>?_;refine pZ ?_;refine hK7 _ _ ?_;refine wp_ret ?_;show bodyPost Tryz.prog Tryz.f7 _ .ret _ _;refine ret1 rfl ha rfl ?_
      have hE : editE q l = 4:=by unfold editE; rw [if_neg (by omega),if_pos (by omega)]
      have hC : editC q l = q:=by unfold editC; rw [hE]; rfl
      rw [hE,hC];exact ⟨rfl,(hs.cli_shut (bt:=bt) (bm:=bm) (o:=true) (c:=q) (bc:=bc) pk0 pk0 pk0 pk0 pk0).to (.cons .here (by repeat first | exact .refl | refine .skip ?_))⟩
    · refine wp_skip ?_;refine hK5 _ _ ?_;refine wp_seq_k fun K8 hK8=>?_;refine wp_seq_k fun K9 hK9=>?_;have hs:=hs.cli_shut (bt:=bt) (bm:=bm) (o:=true) (c:=q) (bc:=bc) pk0 pk0 pk0 pk0 pk0;refine wp_region_lit ?_;refine pY ha (yMove rfl) fun a ha=>?_;refine pC ha (nCall Tryz.call16 rfl) rfl (CView_c hT hc hs .here) ?_;rintro v w ⟨b,m,rfl,hs⟩ a ha;refine pY ha (yMove rfl) fun a ha=>?_;refine pC ha (nCall Tryz.call22 rfl) rfl (TxnDo_c hT (l:=l) (xs:=viewL q.base q.l) (bt:=b) (bm:=m) h1 hm (idsOk_view hc.base) hs pk0 pk0 pk1) ?_;rintro v w ⟨k,p,rfl,hd⟩ a ha;refine pY ha (yMove rfl) fun a ha=>?_;refine pY ha (yExtract rfl rfl) fun a ha=>?_;refine pY ha (yExtract rfl rfl) fun a ha=>?_;refine pY ha (yExtract rfl rfl) fun a ha=>?_;refine pY ha (yAssign rfl) fun a ha=>?_;refine pY ha (yAssign rfl) fun a ha=>?_;refine pY ha (yAssign rfl) fun a ha=>?_;refine pZ ?_;refine hK9 _ _ ?_;refine wp_seq_k fun K10 hK10=>?_;refine wp_region_lit ?_;refine pY ha (yMove rfl) fun a ha=>?_;refine pY ha (yNeq rfl rfl) fun a ha=>?_;refine pZ ?_;refine hK10 _ _ ?_;refine cNDec ha rfl (fun hc30=>?_) (fun hc30=>?_)
      · obtain ⟨_,_,hs⟩:=hd.resolve_left (fun h=>hc30 h.1);refine wp_seq_k fun K11 hK11=>?_;refine wp_region_lit ?_;refine pY ha (yMove rfl) fun a ha=>?_;refine pY ha (yAssign rfl) fun a ha=>?_;refine pZ ?_;refine hK11 _ _ ?_;refine wp_ret ?_;show bodyPost Tryz.prog Tryz.f7 _ .ret _ _;refine ret1 rfl ha rfl ?_
        have hE : editE q l = doE (viewL q.base q.l) l:=by unfold editE; rw [if_neg (by omega),if_neg (by omega)]
        have hC : editC q l = q:=by unfold editC; rw [hE,if_neg hc30]
        rw [hE,hC];exact ⟨rfl,(by exact hs.to (by repeat first | exact Picks.refl | (apply Picks.cons; · repeat first | exact .here | apply Pick.there) | refine Picks.skip ?_))⟩
      · obtain ⟨_,b2,m2,rfl,hs⟩:=hd.resolve_right (fun h=>h.1 hc30);refine wp_skip ?_;refine hK8 _ _ ?_;refine wp_seq_k fun K12 hK12=>?_;obtain ⟨bt,bm,A,n,A',n',hl1,hl2,hs⟩:=hs.cli_open (bc:=bc) (c:=q) (o:=true) pk4;rw [pl_true] at hs;refine dStart (fun w=>∃ rs,Sep W w (.blk bc 61 (cliV q bt (.slice A q.l.length n) (.slice A' q.gone.length n'))::rs)) [9,12] 8191 510 (by kernel_rfl) (by kernel_rfl) rfl (⟨_,hs.drew.pick pk0⟩) ?_
        have hs:=Sep.drew hs
        generalize World.drew _ = w at hs ⊢;refine dP 0 1 rfl ha (fun _=>yMove rfl) fun a ha=>?_;refine dP 1 3 rfl ha (fun _=>yMove rfl) fun a ha=>?_;refine dP 2 7 rfl ha (fun _=>yNilP rfl) fun a ha=>?_;refine dP 3 15 rfl ha (fun _=>yFieldA Tryz.runUnderlying61 rfl Tryz.sizeOf59 rfl rfl) fun a ha=>?_;refine dT 4 31 rfl ha (fun _ ⟨rs,hs⟩=>yLoadB Tryz.isAgg59 hs rfl pk0 rfl) (⟨_,hs.pick pk0⟩) fun a ha=>?_;refine dP 5 63 rfl ha (fun _=>yMove rfl) fun a ha=>?_;refine dC 6 127 rfl (by kernel_rfl) rfl ha won0 (nCall Tryz.call23 rfl) rfl (Own_c (xs:=l) hs pk9 hlen (fun y hy=>(hm y hy).2.1)) ?_;rintro v w ⟨A3,c3,rfl,hs⟩;refine ⟨⟨_,hs.pick pk1⟩,fun a ha=>?_⟩;have hs:=hs.mk_pnd ⟨l,0⟩ .here;refine dP 7 255 rfl ha (fun _=>bldClE66_0 rfl) fun a ha=>?_;refine dMake 8 511 rfl (by kernel_rfl) rfl ha won0 (bslClE59_1_0 rfl) hs rfl (fun _ _ hs=>⟨_,hs.pick pk3⟩) fun b w hs a ha=>?_;refine dApp1l 9 1023 rfl (by kernel_rfl) rfl ha won0 elClE59 rfl rfl hs pk6 pk0 pk0 rfl (by (unfold maxLen; omega)) (by omega) rfl fun A c w hs a ha=>?_;refine dP 10 2047 rfl ha (fun _=>yNilP rfl) fun a ha=>?_;refine dP 11 4095 rfl ha (fun _=>yFieldA Tryz.runUnderlying61 rfl Tryz.sizeOf59 rfl rfl) fun a ha=>?_;refine dStorel 12 8191 rfl (by kernel_rfl) rfl ha won0 Tryz.sizeOf59 hs rfl rfl rfl rfl pk2 rfl fun w hs=>?_;refine dZ (by kernel_rfl) ?_;refine hK12 _ _ ?_;refine wp_seq_k fun K13 hK13=>?_;refine wp_region_lit ?_;refine pY ha (yAssign rfl) fun a ha=>?_;refine pZ ?_;refine hK13 _ _ ?_;refine wp_ret ?_;show bodyPost Tryz.prog Tryz.f7 _ .ret _ _;refine ret1 rfl ha rfl ?_
        have hE : editE q l = 0:=by unfold editE; rw [if_neg (by omega),if_neg (by omega)]; exact hc30
        have hC : editC q l = { q with l:=q.l++[⟨l,0⟩] }:=by unfold editC; rw [if_pos hE]
        rw [hE,hC];have hs:=hs.cli_shut (bt:=bt) (bm:=bm) (o:=true) (c := { q with l:=q.l++[⟨l,0⟩] }) (bc:=bc) pk0 pk2 pk2 pk0 pk1;exact ⟨rfl,hs.to (.cons .here (by repeat first | exact .refl | refine .skip ?_))⟩
end
end Go.Proofs.YtkbbnpjbjakpcaaGreatDoor

set_option linter.unusedVariables false
set_option linter.unusedSimpArgs false
namespace Go.Proofs.YtkbbnpjbjakpcaaGreatDoor
open Go.RowKit Go.Lib Go.Proofs.YtkbbnpjbjakpcaaGreatDoorW.PrintLast
theorem bldClO37_0_1 {w : World} {l : List (Nat × Value)} {T : TypeId} {x0 x1 : Operand} {v0 : Value} (h0 : ev l x0 = some v0) {v1 : Value} (h1 : ev l x1 = some v1) (o0 : v0.cells = #[v0]:=by rfl) (o1 : v1.cells = #[v1]:=by rfl) : Yl Tryz.prog w l (.build 37 #[(0,x0),(1,x1)]) T (.agg #[v0,v1,.int .i64 0,.int .i64 0,.int .i64 0,.slice none 0 0,.slice none 0 0,.slice none 0 0,.int .i64 0]):=fun ρ o h ho _=>by
  have hf : Instr.fill (fun i=>([(0,1),(1,1),(2,1),(3,1),(4,1),(5,1),(6,1),(7,1),(8,1)] : List (Nat × Nat))[i]?) #[.int .i64 0,.int .i64 0,.int .i64 0,.int .i64 0,.int .i64 0,.slice none 0 0,.slice none 0 0,.slice none 0 0,.int .i64 0] [(0,v0),(1,v1)] = some #[v0,v1,.int .i64 0,.int .i64 0,.int .i64 0,.slice none 0 0,.slice none 0 0,.slice none 0 0,.int .i64 0]:=by
    refine (fill_v o0 rfl (by simp)).trans ?_;refine (fill_v o1 rfl (by simp)).trans ?_
    simp [Instr.fill]
  unfold execOp; rw [ho]
  simp [h _ _ h0,h _ _ h1,Instr.build,Tryz.zeroValue37,Tryz.runUnderlying37,Tryz.sizeOf3,Tryz.sizeOf33,Tryz.sizeOf34,Tryz.sizeOf35,agg_cells,hf]
theorem bldClO37_0_1_2_3 {w : World} {l : List (Nat × Value)} {T : TypeId} {x0 x1 x2 x3 : Operand} {v0 : Value} (h0 : ev l x0 = some v0) {v1 : Value} (h1 : ev l x1 = some v1) {v2 : Value} (h2 : ev l x2 = some v2) {v3 : Value} (h3 : ev l x3 = some v3) (o0 : v0.cells = #[v0]:=by rfl) (o1 : v1.cells = #[v1]:=by rfl) (o2 : v2.cells = #[v2]:=by rfl) (o3 : v3.cells = #[v3]:=by rfl) : Yl Tryz.prog w l (.build 37 #[(0,x0),(1,x1),(2,x2),(3,x3)]) T (.agg #[v0,v1,v2,v3,.int .i64 0,.slice none 0 0,.slice none 0 0,.slice none 0 0,.int .i64 0]):=fun ρ o h ho _=>by
  have hf : Instr.fill (fun i=>([(0,1),(1,1),(2,1),(3,1),(4,1),(5,1),(6,1),(7,1),(8,1)] : List (Nat × Nat))[i]?) #[.int .i64 0,.int .i64 0,.int .i64 0,.int .i64 0,.int .i64 0,.slice none 0 0,.slice none 0 0,.slice none 0 0,.int .i64 0] [(0,v0),(1,v1),(2,v2),(3,v3)] = some #[v0,v1,v2,v3,.int .i64 0,.slice none 0 0,.slice none 0 0,.slice none 0 0,.int .i64 0]:=by
    refine (fill_v o0 rfl (by simp)).trans ?_;refine (fill_v o1 rfl (by simp)).trans ?_;refine (fill_v o2 rfl (by simp)).trans ?_;refine (fill_v o3 rfl (by simp)).trans ?_
    simp [Instr.fill]
  unfold execOp; rw [ho]
  simp [h _ _ h0,h _ _ h1,h _ _ h2,h _ _ h3,Instr.build,Tryz.zeroValue37,Tryz.runUnderlying37,Tryz.sizeOf3,Tryz.sizeOf33,Tryz.sizeOf34,Tryz.sizeOf35,agg_cells,hf]
theorem bldClO37_0_1_3 {w : World} {l : List (Nat × Value)} {T : TypeId} {x0 x1 x3 : Operand} {v0 : Value} (h0 : ev l x0 = some v0) {v1 : Value} (h1 : ev l x1 = some v1) {v3 : Value} (h3 : ev l x3 = some v3) (o0 : v0.cells = #[v0]:=by rfl) (o1 : v1.cells = #[v1]:=by rfl) (o3 : v3.cells = #[v3]:=by rfl) : Yl Tryz.prog w l (.build 37 #[(0,x0),(1,x1),(3,x3)]) T (.agg #[v0,v1,.int .i64 0,v3,.int .i64 0,.slice none 0 0,.slice none 0 0,.slice none 0 0,.int .i64 0]):=fun ρ o h ho _=>by
  have hf : Instr.fill (fun i=>([(0,1),(1,1),(2,1),(3,1),(4,1),(5,1),(6,1),(7,1),(8,1)] : List (Nat × Nat))[i]?) #[.int .i64 0,.int .i64 0,.int .i64 0,.int .i64 0,.int .i64 0,.slice none 0 0,.slice none 0 0,.slice none 0 0,.int .i64 0] [(0,v0),(1,v1),(3,v3)] = some #[v0,v1,.int .i64 0,v3,.int .i64 0,.slice none 0 0,.slice none 0 0,.slice none 0 0,.int .i64 0]:=by
    refine (fill_v o0 rfl (by simp)).trans ?_;refine (fill_v o1 rfl (by simp)).trans ?_;refine (fill_v o3 rfl (by simp)).trans ?_
    simp [Instr.fill]
  unfold execOp; rw [ho]
  simp [h _ _ h0,h _ _ h1,h _ _ h3,Instr.build,Tryz.zeroValue37,Tryz.runUnderlying37,Tryz.sizeOf3,Tryz.sizeOf33,Tryz.sizeOf34,Tryz.sizeOf35,agg_cells,hf]
section
variable {W w : World} {cs r r2 : List Ch} {o : Bool} {bc : Nat} {q : Cli}
theorem COut_c (hc : okC q) (hs : Sep W w cs) (hk : Pick cs (.cli o bc q) r) :
    Calls Tryz.prog 9 #[.pointer (some ⟨bc,0,none⟩)] w (Rt fun v w'=>∃ es,v = .agg es.toArray∧Sep W w' (.el kMsg (cOutM q) es::.cli o bc (cOut q)::r)):=by
  obtain ⟨bt,bm,A,n,A',n',hl1,hl2,hs⟩:=hs.cli_open hk;obtain ⟨hla1,hla2⟩:=hc.last;refine enter Tryz.func9 Tryz.ntmps9 rfl rfl fun a (ha : Has a 85 [(0,_)])=>?_;refine wp_seq_k fun K1 hK1=>?_;refine wp_region_lit ?_;refine pAlloc (zs:=[.int .i64 0,.int .i64 0,.int .i64 0,.int .i64 0,.int .i64 0,.slice none 0 0,.slice none 0 0,.slice none 0 0,.int .i64 0]) ha Tryz.zeroValue37 rfl hs rfl fun bo w hs a ha=>?_;refine pZ ?_;refine hK1 _ _ ?_;refine wp_seq_k fun K2 hK2=>?_;refine wp_block ?_;refine wp_seq_k fun K3 hK3=>?_;refine wp_region_lit ?_;refine pY ha (yMove rfl) fun a ha=>?_;refine pC ha (nCall Tryz.call21 rfl) rfl (CNone_c hc.id hs pk1) ?_;rintro v w ⟨rfl,hs⟩ a ha;refine pY ha (yAssign rfl) fun a ha=>?_;refine pZ ?_;refine hK3 _ _ ?_;refine cFalse ha rfl ?_;refine wp_seq_k fun K4 hK4=>?_;refine wp_region_lit ?_;refine pY ha (yMove rfl) fun a ha=>?_;refine pY ha (yNilP rfl) fun a ha=>?_;refine pY ha (yFieldA Tryz.runUnderlying61 rfl Tryz.sizeOf4 rfl rfl) fun a ha=>?_;refine pY ha (yLoadB Tryz.isAgg4 hs rfl pk1 rfl) fun a ha=>?_;refine pY ha (yNot rfl) fun a ha=>?_;refine pY ha (yAssign rfl) fun a ha=>?_;refine pZ ?_;refine hK4 _ _ ?_;refine cSplit ha rfl (fun hc8=>?_) (fun hc8=>?_)
  · refine wp_seq_k fun K5 hK5=>?_;refine wp_region_lit ?_;refine pY ha (yMove rfl) fun a ha=>?_;refine pY ha (yNilP rfl) fun a ha=>?_;refine pY ha (yFieldA Tryz.runUnderlying61 rfl Tryz.sizeOf3 rfl rfl) fun a ha=>?_;refine pY ha (yLoadB Tryz.isAgg3 hs rfl pk1 rfl) fun a ha=>?_;refine pY ha (bldClO37_0_1 rfl rfl) fun a ha=>?_;refine pStoreA ha Tryz.sizeOf37 hs rfl rfl pk0 rfl rfl rfl fun w hs=>?_;refine pZ ?_;refine hK5 _ _ ?_;refine wp_ret ?_;show bodyPost Tryz.prog Tryz.f9 _ .ret _ _;refine retC rfl ha rfl Tryz.isAgg37 Tryz.sizeOf37 hs pk0 rfl ?_
    have hw : q.welcome = false:=by simpa using hc8
    have hM : cOutM q = { noM with kind:=1,client:=q.id }:=by unfold cOutM; rw [if_pos hw]
    have hO : cOut q = q:=by unfold cOut cOutK; rw [if_pos hw]; rfl
    rw [hM,hO];exact ⟨_,rfl,((hs.cli_shut (bt:=bt) (bm:=bm) (o:=o) (c:=q) (bc:=bc) pk1 pk1 pk1 pk1 pk1).msg_none 1 q.id 0 0 0 0).to (.cons .here (.cons .here (by repeat first | exact .refl | refine .skip ?_)))⟩
  · refine wp_seq_k fun K6 hK6=>?_;refine cutC (fun a w=>Has a 85 [(19,.bool (decide (q.l.length = 0∨q.told = true∨q.behind = true))),(0,.pointer (some ⟨bc,0,none⟩)),(2,.pointer (some ⟨bo,0,none⟩))]∧Sep W w (.blk bo 37 [.int .i64 0,.int .i64 0,.int .i64 0,.int .i64 0,.int .i64 0,.slice none 0 0,.slice none 0 0,.slice none 0 0,.int .i64 0]::.blk bc 61 (cliV q bt (.slice A q.l.length n) (.slice A' q.gone.length n'))::.blk bt 81 [.map (some bm)]::.mpN bm q.base::.pl o 66 (.slice A q.l.length n) q.l::.ol kPnd 47 (.slice A' q.gone.length n') q.gone::r)) ?_ ?_
    · refine wp_region_lit ?_;refine pY ha (yMove rfl) fun a ha=>?_;refine pY ha (yNilP rfl) fun a ha=>?_;refine pY ha (yFieldA Tryz.runUnderlying61 rfl Tryz.sizeOf59 rfl rfl) fun a ha=>?_;refine pY ha (yLoadB Tryz.isAgg59 hs rfl pk1 rfl) fun a ha=>?_;refine pY ha (yLenS Tryz.runUnderlying59 rfl) fun a ha=>?_;refine pY ha (yEql rfl rfl) fun a ha=>?_;refine pY ha (yMove rfl) fun a ha=>?_;refine gDec (t:=26) ha rfl (fun hg6 hp6=>?_) (fun hg6 hp6=>?_)
      · rw [hg6] at ha;refine gOn ha ?_;refine pY ha (yMove rfl) fun a ha=>?_;refine gOn ha ?_;refine pY ha (yNilP rfl) fun a ha=>?_;refine gOn ha ?_;refine pY ha (yFieldA Tryz.runUnderlying61 rfl Tryz.sizeOf4 rfl rfl) fun a ha=>?_;refine gOn ha ?_;refine pY ha (yLoadB Tryz.isAgg4 hs rfl pk1 rfl) fun a ha=>?_;refine pY ha (yPickF rfl rfl) fun a ha=>?_;refine pY ha (yMove rfl) fun a ha=>?_;refine gSplit (t:=32) ha rfl (fun hg12=>?_) (fun hg12=>?_)
        · rw [hg12] at ha;refine gOn ha ?_;refine pY ha (yMove rfl) fun a ha=>?_;refine gOn ha ?_;refine pY ha (yNilP rfl) fun a ha=>?_;refine gOn ha ?_;refine pY ha (yFieldA Tryz.runUnderlying61 rfl Tryz.sizeOf4 rfl rfl) fun a ha=>?_;refine gOn ha ?_;refine pY ha (yLoadB Tryz.isAgg4 hs rfl pk1 rfl) fun a ha=>?_;refine pY ha (yPickF rfl rfl) fun a ha=>?_;refine pY ha (yAssign rfl) fun a ha=>?_;refine pZ ⟨rfl,?_⟩;refine ⟨has3 ha ?_ rfl rfl,hs⟩;refine congrArg (fun b=>some (Value.bool b)) ?_;rw [Bool.eq_iff_iff]
          simp_all
        · rw [hg12] at ha;refine gOff ha fun a ha=>?_;refine gOff ha fun a ha=>?_;refine gOff ha fun a ha=>?_;refine gOff ha fun a ha=>?_;refine pY ha (yPickT rfl rfl) fun a ha=>?_;refine pY ha (yAssign rfl) fun a ha=>?_;refine pZ ⟨rfl,?_⟩;refine ⟨has3 ha ?_ rfl rfl,hs⟩;refine congrArg (fun b=>some (Value.bool b)) ?_;rw [Bool.eq_iff_iff]
          simp_all
      · rw [hg6] at ha;refine gOff ha fun a ha=>?_;refine gOff ha fun a ha=>?_;refine gOff ha fun a ha=>?_;refine gOff ha fun a ha=>?_;refine pY ha (yPickT rfl rfl) fun a ha=>?_;refine pY ha (yMove rfl) fun a ha=>?_;refine gOff ha fun a ha=>?_;refine gOff ha fun a ha=>?_;refine gOff ha fun a ha=>?_;refine gOff ha fun a ha=>?_;refine pY ha (yPickT rfl rfl) fun a ha=>?_;refine pY ha (yAssign rfl) fun a ha=>?_;refine pZ ⟨rfl,?_⟩;refine ⟨has3 ha ?_ rfl rfl,hs⟩;refine congrArg (fun b=>some (Value.bool b)) ?_;rw [Bool.eq_iff_iff]
        simp_all
    rintro a w ⟨ha,hs⟩;refine hK6 _ _ ?_;refine cDec ha rfl (fun hc19=>?_) (fun hc19=>?_)
    · refine wp_seq_k fun K7 hK7=>?_;refine dStart (fun w=>Sep W w _) [9] 1023 511 (by kernel_rfl) (by kernel_rfl) rfl (hs.drew) ?_
      have hs:=Sep.drew hs
      generalize World.drew _ = w at hs ⊢;refine dP 0 1 rfl ha (fun _=>yMove rfl) fun a ha=>?_;refine dP 1 3 rfl ha (fun _=>yNilP rfl) fun a ha=>?_;refine dP 2 7 rfl ha (fun _=>yFieldA Tryz.runUnderlying61 rfl Tryz.sizeOf3 rfl rfl) fun a ha=>?_;refine dT 3 15 rfl ha (fun _ hs=>yLoadB Tryz.isAgg3 hs rfl pk1 rfl) (hs) fun a ha=>?_;refine dP 4 31 rfl ha (fun _=>yMove rfl) fun a ha=>?_;refine dP 5 63 rfl ha (fun _=>yNilP rfl) fun a ha=>?_;refine dP 6 127 rfl ha (fun _=>yFieldA Tryz.runUnderlying61 rfl Tryz.sizeOf3 rfl rfl) fun a ha=>?_;refine dT 7 255 rfl ha (fun _ hs=>yLoadB Tryz.isAgg3 hs rfl pk1 rfl) (hs) fun a ha=>?_;refine dP 8 511 rfl ha (fun _=>bldClO37_0_1_3 rfl rfl rfl) fun a ha=>?_;refine dStoreAl 9 1023 rfl (by kernel_rfl) rfl ha won0 Tryz.sizeOf37 hs rfl rfl pk0 rfl rfl rfl fun w hs=>?_;refine dZ (by kernel_rfl) ?_;refine hK7 _ _ ?_;refine wp_ret ?_;show bodyPost Tryz.prog Tryz.f9 _ .ret _ _;refine retC rfl ha rfl Tryz.isAgg37 Tryz.sizeOf37 hs pk0 rfl ?_
      have hw : ¬ q.welcome = false:=by simpa using hc8
      have hM : cOutM q = { noM with kind:=3,client:=q.id,rev:=q.rev }:=by unfold cOutM; rw [if_neg hw,if_pos hc19]
      have hO : cOut q = q:=by unfold cOut cOutK; rw [if_neg hw,if_pos hc19]; rfl
      rw [hM,hO];exact ⟨_,rfl,((hs.cli_shut (bt:=bt) (bm:=bm) (o:=o) (c:=q) (bc:=bc) pk1 pk1 pk1 pk1 pk1).msg_none 3 q.id 0 q.rev 0 0).to (.cons .here (.cons .here (by repeat first | exact .refl | refine .skip ?_)))⟩
    · refine wp_skip ?_;refine hK2 _ _ ?_;refine wp_seq_k fun K8 hK8=>?_;refine wp_region_lit ?_;refine pY ha (yMove rfl) fun a ha=>?_;refine pY ha (yNilP rfl) fun a ha=>?_;refine pY ha (yFieldA Tryz.runUnderlying61 rfl Tryz.sizeOf4 rfl rfl) fun a ha=>?_;refine pStore ha Tryz.sizeOf4 hs rfl rfl rfl rfl pk1 rfl fun w hs=>?_;refine pZ ?_;refine hK8 _ _ ?_;refine wp_seq_k fun K9 hK9=>?_
      have hla3 : 0≤({ q with under:=true } : Cli).last:=hla1
      have hla4 : ({ q with under:=true } : Cli).last≤4000000000000000000:=hla2
      refine dStart (fun w=>∃ rs,Sep W w (.blk bc 61 (cliV { q with under:=true } bt (.slice A q.l.length n) (.slice A' q.gone.length n'))::rs)) [15] 65535 32767 (by kernel_rfl) (by kernel_rfl) rfl (⟨_,hs.drew.pick pk0⟩) ?_
      have hs:=Sep.drew hs
      generalize World.drew _ = w at hs ⊢;refine dP 0 1 rfl ha (fun _=>yMove rfl) fun a ha=>?_;refine dP 1 3 rfl ha (fun _=>yNilP rfl) fun a ha=>?_;refine dP 2 7 rfl ha (fun _=>yFieldA Tryz.runUnderlying61 rfl Tryz.sizeOf3 rfl rfl) fun a ha=>?_;refine dT 3 15 rfl ha (fun _ ⟨rs,hs⟩=>yLoadB Tryz.isAgg3 hs rfl pk0 rfl) (⟨_,hs.pick pk0⟩) fun a ha=>?_;refine dP 4 31 rfl ha (fun _=>yMove rfl) fun a ha=>?_;refine dP 5 63 rfl ha (fun _=>yNilP rfl) fun a ha=>?_;refine dP 6 127 rfl ha (fun _=>yFieldA Tryz.runUnderlying61 rfl Tryz.sizeOf3 rfl rfl) fun a ha=>?_;refine dT 7 255 rfl ha (fun _ ⟨rs,hs⟩=>yLoadB Tryz.isAgg3 hs rfl pk0 rfl) (⟨_,hs.pick pk0⟩) fun a ha=>?_;refine dP 8 511 rfl ha (fun _=>yAddN rfl rfl ⟨by omega,by omega⟩) fun a ha=>?_;refine dP 9 1023 rfl ha (fun _=>yMove rfl) fun a ha=>?_;refine dP 10 2047 rfl ha (fun _=>yNilP rfl) fun a ha=>?_;refine dP 11 4095 rfl ha (fun _=>yFieldA Tryz.runUnderlying61 rfl Tryz.sizeOf3 rfl rfl) fun a ha=>?_;refine dT 12 8191 rfl ha (fun _ ⟨rs,hs⟩=>yLoadB Tryz.isAgg3 hs rfl pk0 rfl) (⟨_,hs.pick pk0⟩) fun a ha=>?_;refine dP 13 16383 rfl ha (fun _=>bldClO37_0_1_2_3 rfl rfl rfl rfl) fun a ha=>?_;refine dAlloc (n:=0) 14 32767 rfl (by kernel_rfl) rfl (zs:=[.int .i64 0,.int .i64 0,.int .i64 0,.int .i64 0,.int .i64 0,.slice none 0 0,.slice none 0 0,.slice none 0 0,.int .i64 0]) ha won0 Tryz.zeroValue37 rfl hs rfl (fun _ _ hs=>⟨_,hs.pick pk1⟩) fun bn w hs a ha=>?_;refine dStoreAl 15 65535 rfl (by kernel_rfl) rfl ha won0 Tryz.sizeOf37 hs rfl rfl pk0 rfl rfl rfl fun w hs=>?_;refine dZ (by kernel_rfl) ?_;refine hK9 _ _ ?_;refine wp_seq_k fun K10 hK10=>?_;refine wp_seq_k fun K11 hK11=>?_;obtain ⟨x,hx⟩ : ∃ x,q.l[0]? = some x:=⟨_,List.getElem?_eq_getElem (by omega)⟩
      have hmem:=List.mem_of_getElem? hx
      refine wp_region_lit ?_;refine pY ha (yMove rfl) fun a ha=>?_;refine pY ha (yNilP rfl) fun a ha=>?_;refine pY ha (yFieldA Tryz.runUnderlying61 rfl Tryz.sizeOf59 rfl rfl) fun a ha=>?_;refine pY ha (yLoadB Tryz.isAgg59 hs rfl pk1 rfl) fun a ha=>?_;obtain ⟨b0,off,A2,n2,c2,rfl,hcell,hs⟩:=hs.pl_at pk5 hx;refine pY ha (yIndexA Tryz.runUnderlying59 Tryz.sizeOf66 rfl rfl (by omega) (by omega)) fun a ha=>?_;refine pY ha (yFieldA Tryz.runUnderlying66 rfl Tryz.sizeOf25 rfl rfl) fun a ha=>?_;refine pY ha (yLoad Tryz.isAgg25 rfl (hcell 1 _ rfl)) fun a ha=>?_;refine pY ha (yFieldA Tryz.runUnderlying37 rfl Tryz.sizeOf3 rfl rfl) fun a ha=>?_;refine pStore ha Tryz.sizeOf3 hs rfl rfl rfl rfl pk1 rfl fun w hs=>?_;refine pZ ?_;refine hK11 _ _ ?_;refine wp_seq_k fun K12 hK12=>?_;refine wp_region_lit ?_;refine pY ha (yFieldA Tryz.runUnderlying37 rfl Tryz.sizeOf3 rfl rfl) fun a ha=>?_;refine pY ha (yLoadB Tryz.isAgg3 hs rfl pk0 rfl) fun a ha=>?_;refine pY ha (yEql rfl rfl) fun a ha=>?_;refine pZ ?_;refine hK12 _ _ ?_;refine cDec ha rfl (fun hc74=>?_) (fun hc74=>?_)
      · refine wp_region_lit ?_;refine pY ha (yMove rfl) fun a ha=>?_;refine pY ha (yNilP rfl) fun a ha=>?_;refine pY ha (yFieldA Tryz.runUnderlying61 rfl Tryz.sizeOf59 rfl rfl) fun a ha=>?_;refine pY ha (yLoadB Tryz.isAgg59 hs rfl pk2 rfl) fun a ha=>?_;obtain ⟨b1,off1,A3,n3,c3,e,hcell,hs⟩:=hs.pl_at pk6 hx;simp only [Option.some.injEq,Addr.mk.injEq] at e;obtain ⟨rfl,rfl,_⟩:=e;refine pY ha (yIndexA Tryz.runUnderlying59 Tryz.sizeOf66 rfl rfl (by omega) (by omega)) fun a ha=>?_;refine pY ha (yFieldA Tryz.runUnderlying66 rfl Tryz.sizeOf33 rfl rfl) fun a ha=>?_;refine pY ha (yLoad Tryz.isAgg33 rfl (hcell 0 _ rfl)) fun a ha=>?_;refine pC ha (nCall Tryz.call23 rfl) rfl (Own_c (xs:=x.acts) hs pk0 (hc.acts x hmem).2 (fun y hy=>((hc.acts x hmem).1 y hy).2.2.1)) ?_;rintro v w ⟨A4,c4,rfl,hs⟩ a ha;refine pY ha (yFieldA Tryz.runUnderlying37 rfl Tryz.sizeOf33 rfl rfl) fun a ha=>?_;refine pStore ha Tryz.sizeOf33 hs rfl rfl rfl rfl pk2 rfl fun w hs=>?_;refine pZ ?_;refine hK10 _ _ ?_;refine wp_seq_k fun K13 hK13=>?_;refine wp_region_lit ?_;refine pY ha (yLoadBA Tryz.isAgg37 Tryz.sizeOf37 hs rfl pk0 rfl) fun a ha=>?_;refine pStoreA ha Tryz.sizeOf37 hs rfl rfl pk5 rfl rfl rfl fun w hs=>?_;refine pZ ?_;refine hK13 _ _ ?_;refine wp_ret ?_;show bodyPost Tryz.prog Tryz.f9 _ .ret _ _;refine retC rfl ha rfl Tryz.isAgg37 Tryz.sizeOf37 hs pk0 rfl ?_
        have hw : ¬ q.welcome = false:=by simpa using hc8
        have hh : headP q = x:=by unfold headP; rw [List.getD_eq_getElem?_getD,hx]; rfl
        have hM : cOutM q = ⟨2,q.id,q.last + 1,q.rev,x.e,x.acts,[],[],0⟩:=by unfold cOutM; rw [if_neg hw,if_neg hc19,hh,if_pos hc74]; rfl
        have hO : cOut q = { q with under:=true }:=by unfold cOut cOutK; rw [if_neg hw,if_neg hc19]; rfl
        rw [hM,hO]
        have hs:=((hs.cli_shut (bt:=bt) (bm:=bm) (o:=o) (c := { q with under:=true }) (bc:=bc) pk5 pk5 pk5 pk5 pk5).rd_nil (d:=kNod)).rd_nil (d:=kCmt)
        have hs:=hs.mk_msg (A:=A4) (n:=x.acts.length) (c:=c4) (A':=none) (n':=0) (c':=0) (B:=none) (m:=0) (d:=0) (x:=⟨2,q.id,q.last + 1,q.rev,x.e,x.acts,[],[],0⟩) pk5 pk0 pk0;exact ⟨_,rfl,hs.to (.cons .here (.cons pk0 (by repeat first | exact .refl | refine .skip ?_)))⟩
      · refine wp_skip ?_;refine hK10 _ _ ?_;refine wp_seq_k fun K14 hK14=>?_;refine wp_region_lit ?_;refine pY ha (yLoadBA Tryz.isAgg37 Tryz.sizeOf37 hs rfl pk0 rfl) fun a ha=>?_;refine pStoreA ha Tryz.sizeOf37 hs rfl rfl pk3 rfl rfl rfl fun w hs=>?_;refine pZ ?_;refine hK14 _ _ ?_;refine wp_ret ?_;show bodyPost Tryz.prog Tryz.f9 _ .ret _ _;refine retC rfl ha rfl Tryz.isAgg37 Tryz.sizeOf37 hs pk0 rfl ?_
        have hw : ¬ q.welcome = false:=by simpa using hc8
        have hh : headP q = x:=by unfold headP; rw [List.getD_eq_getElem?_getD,hx]; rfl
        have hM : cOutM q = ⟨2,q.id,q.last + 1,q.rev,x.e,[],[],[],0⟩:=by unfold cOutM; rw [if_neg hw,if_neg hc19,hh,if_neg hc74]; rfl
        have hO : cOut q = { q with under:=true }:=by unfold cOut cOutK; rw [if_neg hw,if_neg hc19]; rfl
        rw [hM,hO];exact ⟨_,rfl,((hs.cli_shut (bt:=bt) (bm:=bm) (o:=o) (c := { q with under:=true }) (bc:=bc) pk3 pk3 pk3 pk3 pk3).msg_none 2 q.id (q.last + 1) q.rev x.e 0).to (.cons .here (.cons .here (by repeat first | exact .refl | refine .skip ?_)))⟩
end
end Go.Proofs.YtkbbnpjbjakpcaaGreatDoor

set_option linter.unusedVariables false
set_option linter.unusedSimpArgs false
namespace Go.Proofs.YtkbbnpjbjakpcaaGreatDoor
open Go.RowKit Go.Lib Go.Proofs.YtkbbnpjbjakpcaaGreatDoorW.PrintLast
def cWel (q : Cli) (m : Msg) : Cli:=if m.client = q.id∧q.welcome = false then { q with welcome:=true,last:=m.last } else q
section
variable {W w : World} {cs r r2 : List Ch} {o : Bool} {bc : Nat} {q : Cli}
theorem CInW_c (hT : Tabs W) {es : List Value} {m : Msg} (h0 : q.id ≠ 0) (h4 : m.kind = 4) (hm : mM m) (hb : (wMsg m).1.length≤8796093022208) (hs : Sep W w cs) (hk : Pick cs (.cli o bc q) r) (hk2 : Pick r (.el kMsg m es) r2) :
    Calls Tryz.prog 10 #[.pointer (some ⟨bc,0,none⟩),.agg es.toArray] w (Rt fun v w'=>v = .int .i64 (if msgE m = 0 then 0 else 2)∧Sep W w' (.cli o bc (if msgE m = 0 then cWel q m else q)::r)):=by
  have hs:=hs.perm hk.perm
  have hk2 : Pick (.cli o bc q::r) (.el kMsg m es) (.cli o bc q::r2):=.there hk2
  have hs : Sep W w (.el kMsg m es::.cli o bc q::r):=hs.cp hk2
  obtain ⟨A1,n1,c1,A2,n2,c2,A3,n3,c3,rfl,hs⟩:=hs.el_msg .here;obtain ⟨bt,bm,A,n,A',n',hl1,hl2,hs⟩:=hs.cli_open (bc:=bc) (c:=q) (o:=o) (.there (.there (.there (.there .here))));refine enter Tryz.func10 Tryz.ntmps10 rfl rfl fun a (ha : Has a 144 [(0,_),(1,_)])=>?_;refine wp_seq_k fun K1 hK1=>?_;refine wp_region_lit ?_;refine pBox (es:=_) ha rfl rfl hs rfl fun b3 w hs a ha=>?_;refine pY ha (yAssign rfl) fun a ha=>?_;refine pZ ?_;refine hK1 _ _ ?_;refine scopeF 1 99999 ?_;refine wp_seq_k fun K2 hK2=>?_;refine wp_seq_k fun K3 hK3=>?_;refine wp_region_lit ?_;refine pY ha (yMove rfl) fun a ha=>?_;refine pC ha (nCall Tryz.call21 rfl) rfl (CNone_c h0 hs pk1) ?_;rintro v w ⟨rfl,hs⟩ a ha;refine pZ ?_;refine hK3 _ _ ?_;refine cFalse ha rfl ?_;refine wp_skip ?_;refine hK2 _ _ ?_;refine wp_seq_k fun K4 hK4=>?_;refine wp_seq_k fun K5 hK5=>?_;refine wp_region_lit ?_;refine pY ha (yLoadBA Tryz.isAgg37 Tryz.sizeOf37 hs rfl pk0 rfl) fun a ha=>?_;refine pC ha (nCall Tryz.call24 rfl) rfl (MCheck_c hT (x:=m) hm hb hs pk9) ?_;rintro v w ⟨rfl,hs⟩ a ha;refine pY ha (yNeq rfl rfl) fun a ha=>?_;refine pZ ?_;refine hK5 _ _ ?_;refine cNDec ha rfl (fun hc11=>?_) (fun hc11=>?_)
  · refine wp_seq_k fun K6 hK6=>?_;refine wp_region_lit ?_;refine pY ha (yAssign rfl) fun a ha=>?_;refine pZ ?_;refine hK6 _ _ ?_;refine wp_ret ?_;show bodyPost Tryz.prog Tryz.f10 _ .ret _ _;refine ret1 rfl ha rfl ?_;rw [if_neg hc11,if_neg hc11];exact ⟨rfl,(hs.cli_shut (bt:=bt) (bm:=bm) (o:=o) (c:=q) (bc:=bc) pk1 pk1 pk1 pk1 pk1).to (.cons .here (by repeat first | exact .refl | refine .skip ?_))⟩
  · refine wp_skip ?_;refine hK4 _ _ ?_;refine wp_seq_k fun K7 hK7=>?_;refine wp_seq_k fun K8 hK8=>?_;refine wp_region_lit ?_;refine pY ha (yFieldA Tryz.runUnderlying37 rfl Tryz.sizeOf3 rfl rfl) fun a ha=>?_;refine pY ha (yLoadB Tryz.isAgg3 hs rfl pk0 rfl) fun a ha=>?_;refine pZ ?_;refine hK8 _ _ ?_;refine wp_block ?_;refine wp_seq_k fun K9 hK9=>?_;refine wp_region_lit ?_;refine pY ha (yEql rfl rfl) fun a ha=>?_;refine pY ha (yAssign rfl) fun a ha=>?_;refine pZ ?_;refine hK9 _ _ ?_;refine cDec ha rfl (fun hc14=>?_) (fun hc14=>?_)
    · refine wp_seq_k fun K10 hK10=>?_;refine cutC (fun a w=>Has a 144 [(29,.bool (decide (m.client = q.id∧q.welcome = false))),(0,.pointer (some ⟨bc,0,none⟩)),(3,.pointer (some ⟨b3,0,none⟩)),(4,.int .i64 0)]∧Sep W w (.blk b3 37 [.int .i64 m.kind,.int .i64 m.client,.int .i64 m.seq,.int .i64 m.rev,.int .i64 m.code,.slice A1 n1 c1,.slice A2 n2 c2,.slice A3 n3 c3,.int .i64 m.last]::.blk bc 61 (cliV q bt (.slice A q.l.length n) (.slice A' q.gone.length n'))::.blk bt 81 [.map (some bm)]::.mpN bm q.base::.pl o 66 (.slice A q.l.length n) q.l::.ol kPnd 47 (.slice A' q.gone.length n') q.gone::r)) ?_ ?_
      · refine dStart (fun w=>Sep W w _) [] 16383 16383 (by kernel_rfl) (by kernel_rfl) rfl (hs.drew) ?_
        have hs:=Sep.drew hs
        generalize World.drew _ = w at hs ⊢;refine dP 0 1 rfl ha (fun _=>yFieldA Tryz.runUnderlying37 rfl Tryz.sizeOf3 rfl rfl) fun a ha=>?_;refine dT 1 3 rfl ha (fun _ hs=>yLoadB Tryz.isAgg3 hs rfl pk0 rfl) (hs) fun a ha=>?_;refine dP 2 7 rfl ha (fun _=>yMove rfl) fun a ha=>?_;refine dP 3 15 rfl ha (fun _=>yNilP rfl) fun a ha=>?_;refine dP 4 31 rfl ha (fun _=>yFieldA Tryz.runUnderlying61 rfl Tryz.sizeOf3 rfl rfl) fun a ha=>?_;refine dT 5 63 rfl ha (fun _ hs=>yLoadB Tryz.isAgg3 hs rfl pk1 rfl) (hs) fun a ha=>?_;refine dP 6 127 rfl ha (fun _=>yEql rfl rfl) fun a ha=>?_;refine dP 7 255 rfl ha (fun _=>yMove rfl) fun a ha=>?_;refine gDec (t:=23) ha rfl (fun hg7 hp7=>?_) (fun hg7 hp7=>?_)
        · rw [hg7] at ha;refine dOff 8 511 rfl ha fun a ha=>?_;refine dOff 9 1023 rfl ha fun a ha=>?_;refine dOff 10 2047 rfl ha fun a ha=>?_;refine dOff 11 4095 rfl ha fun a ha=>?_;refine dOff 12 8191 rfl ha fun a ha=>?_;refine dP 13 16383 rfl ha (fun _=>yPickF rfl rfl) fun a ha=>?_;refine dZ (by kernel_rfl) ?_;refine ⟨rfl,?_⟩;refine ⟨has4 ha ?_ rfl rfl rfl,(by exact hs.to (by repeat first | exact Picks.refl | refine Picks.cons (by first | exact pk0 | exact pk1 | exact pk2 | exact pk3 | exact pk4 | exact pk5 | exact pk6 | exact pk7 | exact pk8 | exact pk9 | exact pk10 | exact pk11 | exact pk12 | exact pk13 | exact pk14 | exact pk15 | exact pk16 | exact pk17 | exact pk18 | exact pk19 | exact pk20 | exact pk21 | exact pk22 | exact pk23 | exact pk24 | exact pk25 | exact pk26 | exact pk27 | exact pk28 | exact pk29 | exact pk30 | exact pk31) ?_ | refine Picks.skip ?_))⟩;refine congrArg (fun b=>some (Value.bool b)) ?_;rw [Bool.eq_iff_iff]
          simp_all
        · rw [hg7] at ha;refine dP 8 511 rfl ha (fun _=>yMove rfl) fun a ha=>?_;refine dP 9 1023 rfl ha (fun _=>yNilP rfl) fun a ha=>?_;refine dP 10 2047 rfl ha (fun _=>yFieldA Tryz.runUnderlying61 rfl Tryz.sizeOf4 rfl rfl) fun a ha=>?_;refine dT 11 4095 rfl ha (fun _ hs=>yLoadB Tryz.isAgg4 hs rfl pk1 rfl) (hs) fun a ha=>?_;refine dP 12 8191 rfl ha (fun _=>yNot rfl) fun a ha=>?_;refine dP 13 16383 rfl ha (fun _=>yPickT rfl rfl) fun a ha=>?_;refine dZ (by kernel_rfl) ?_;refine ⟨rfl,?_⟩;refine ⟨has4 ha ?_ rfl rfl rfl,(by exact hs.to (by repeat first | exact Picks.refl | refine Picks.cons (by first | exact pk0 | exact pk1 | exact pk2 | exact pk3 | exact pk4 | exact pk5 | exact pk6 | exact pk7 | exact pk8 | exact pk9 | exact pk10 | exact pk11 | exact pk12 | exact pk13 | exact pk14 | exact pk15 | exact pk16 | exact pk17 | exact pk18 | exact pk19 | exact pk20 | exact pk21 | exact pk22 | exact pk23 | exact pk24 | exact pk25 | exact pk26 | exact pk27 | exact pk28 | exact pk29 | exact pk30 | exact pk31) ?_ | refine Picks.skip ?_))⟩;refine congrArg (fun b=>some (Value.bool b)) ?_;rw [Bool.eq_iff_iff]
          simp_all
      rintro a w ⟨ha,hs⟩;refine hK10 _ _ ?_;refine cDec ha rfl (fun hc29=>?_) (fun hc29=>?_)
      · refine dStart (fun w=>∃ rs,Sep W w (.blk b3 37 [.int .i64 m.kind,.int .i64 m.client,.int .i64 m.seq,.int .i64 m.rev,.int .i64 m.code,.slice A1 n1 c1,.slice A2 n2 c2,.slice A3 n3 c3,.int .i64 m.last]::rs)) [9] 1023 511 (by kernel_rfl) (by kernel_rfl) rfl (⟨_,hs.drew.pick pk0⟩) ?_
        have hs:=Sep.drew hs
        generalize World.drew _ = w at hs ⊢;refine dP 0 1 rfl ha (fun _=>yMove rfl) fun a ha=>?_;refine dP 1 3 rfl ha (fun _=>yMove rfl) fun a ha=>?_;refine dP 2 7 rfl ha (fun _=>yFieldA Tryz.runUnderlying37 rfl Tryz.sizeOf3 rfl rfl) fun a ha=>?_;refine dT 3 15 rfl ha (fun _ ⟨rs,hs⟩=>yLoadB Tryz.isAgg3 hs rfl pk0 rfl) (⟨_,hs.pick pk0⟩) fun a ha=>?_;refine dP 4 31 rfl ha (fun _=>yNilP rfl) fun a ha=>?_;refine dP 5 63 rfl ha (fun _=>yFieldA Tryz.runUnderlying61 rfl Tryz.sizeOf4 rfl rfl) fun a ha=>?_;refine dStore 6 127 rfl (by kernel_rfl) rfl ha won0 Tryz.sizeOf4 hs rfl rfl rfl rfl pk1 rfl (fun _ hs=>⟨_,hs.pick pk1⟩) fun w hs=>?_;refine dP 7 255 rfl ha (fun _=>yNilP rfl) fun a ha=>?_;refine dP 8 511 rfl ha (fun _=>yFieldA Tryz.runUnderlying61 rfl Tryz.sizeOf3 rfl rfl) fun a ha=>?_;refine dStorel 9 1023 rfl (by kernel_rfl) rfl ha won0 Tryz.sizeOf3 hs rfl rfl rfl rfl pk0 rfl fun w hs=>?_;refine dZ (by kernel_rfl) ?_;refine hK7 _ _ ?_;refine wp_seq_k fun K11 hK11=>?_;refine wp_label ?_;refine hK11 _ _ ?_;refine wp_seq_k fun K12 hK12=>?_;refine wp_region_lit ?_;refine pY ha (yMove rfl) fun a ha=>?_;refine pY ha (yAssign rfl) fun a ha=>?_;refine pZ ?_;refine hK12 _ _ ?_;refine wp_ret ?_;show bodyPost Tryz.prog Tryz.f10 _ .ret _ _;refine ret1 rfl ha rfl ?_;rw [if_pos hc11,if_pos hc11,show cWel q m = { q with welcome:=true,last:=m.last } from if_pos hc29];exact ⟨rfl,(hs.cli_shut (bt:=bt) (bm:=bm) (o:=o) (c := { q with welcome:=true,last:=m.last }) (bc:=bc) pk0 pk1 pk1 pk1 pk1).to (.cons .here (by repeat first | exact .refl | refine .skip ?_))⟩
      · refine wp_skip ?_;refine hK7 _ _ ?_;refine wp_seq_k fun K13 hK13=>?_;refine wp_label ?_;refine hK13 _ _ ?_;refine wp_seq_k fun K14 hK14=>?_;refine wp_region_lit ?_;refine pY ha (yMove rfl) fun a ha=>?_;refine pY ha (yAssign rfl) fun a ha=>?_;refine pZ ?_;refine hK14 _ _ ?_;refine wp_ret ?_;show bodyPost Tryz.prog Tryz.f10 _ .ret _ _;refine ret1 rfl ha rfl ?_;rw [if_pos hc11,if_pos hc11,show cWel q m = q from if_neg hc29];exact ⟨rfl,(hs.cli_shut (bt:=bt) (bm:=bm) (o:=o) (c:=q) (bc:=bc) pk1 pk1 pk1 pk1 pk1).to (.cons .here (by repeat first | exact .refl | refine .skip ?_))⟩
    · exact absurd h4 hc14
end
end Go.Proofs.YtkbbnpjbjakpcaaGreatDoor

