/- A part of the proof of SnapBack (part 3 of 4): the words and the walks. -/
import Derived.Test.YtldgdjilchnceaaGreatDoorKSnpB
import Derived.Shelf.SlMaps.Clone
import Derived.Ground.SlmcProg
import Derived.Test.YtldgdjilchnceaaGreatDoorProg
import Derived.Shelf.SlIterI.Nil
import Derived.Shelf.SortM.Plain
import Derived.Shelf.SortM.SortNone
import Derived.Ground.GgzProg
import Derived.Ground.SlgmProg
import Derived.Ground.NamesProg
import Derived.Shelf.Strings.Builder1
import Derived.Shelf.Small.Strs
set_option linter.unusedVariables false
set_option linter.unusedSimpArgs false
namespace Go.Proofs.YtldgdjilchnceaaGreatDoor
open Go.RowKit Go.Lib
theorem txn_err {l : List Actn} {i : Nat} (hn : l.length≤20) (h0 : fe (actE l) i = 0) (hi : i < l.length) (h : actE l i ≠ 0) : txnE l = actE l i:=by
  unfold txnE
  have:=fe_at h0 h hi
  rw [if_neg (by omega),this,if_pos h]
theorem txn_end {l : List Actn} (hn : l.length≤20) (h0 : fe (actE l) l.length = 0) : txnE l = if putsA l > 2000 then 3 else 0:=by
  unfold txnE;rw [if_neg (by omega),h0]; simp
theorem actE_at {l : List Actn} {i : Nat} {x : Actn} (hx : l[i]? = some x) : actE l i = if oneE x ≠ 0 then oneE x else if x.kind = 4∧twinA (l.take i) x = true then 1 else 0:=by
  unfold actE;rw [List.getD_eq_getElem?_getD,hx]; rfl
theorem one_sound {a : Actn} (h : oneE a = 0) : a.ops.length≤100∧∀ c ∈ a.ops,sndC c = true:=by
  obtain ⟨hb,ho⟩:=one_ok h
  by_cases k4 : a.kind = 4
  · exact op_ok (ho k4)
  · unfold badA at hb;simp only [not_or] at hb
    have b3 : a = plainA a:=Classical.not_not.1 hb.2.2.1
    have : a.ops = []:=by
      rw [b3]; unfold plainA
      repeat' split
      all_goals rfl
    rw [this];exact ⟨by simp,fun c hc=>by cases hc⟩
theorem fit_of {a : Actn} (hm : mA a) (h : oneE a = 0) : fitA a:=by
  obtain ⟨h1,h2⟩:=one_sound h;refine ⟨h1,fun c hc=>⟨(hm.2.2 c hc).2,fun hk=>?_⟩⟩
  rcases snd_ok (h2 c hc) with ⟨_,e⟩ | ⟨e,_⟩
  · exact e
  · exact absurd hk e
theorem fe_one {l : List Actn} (h0 : fe (actE l) l.length = 0) : ∀ a ∈ l,oneE a = 0:=fun a ha=>by
  obtain ⟨i,hi,rfl⟩:=List.mem_iff_getElem.1 ha
  have:=fe_zero h0 i hi
  rw [actE_at (List.getElem?_eq_getElem hi)] at this
  split at this
  · rename_i h4; exact absurd this h4
  · rename_i h4; simpa using h4
section
variable {W w : World} {cs r r2 : List Ch}
theorem TxnCheck_c (hT : Tabs W) {A : Option Addr} {n c : Nat} {xs : List Actn} (hm : ∀ x ∈ xs,mA x) (hs : Sep W w cs) (hk : Pick cs (.rd kActn (.slice A n c) xs) r) :
    Calls P 43 #[.slice A n c] w (Rt fun v w'=>v = .int .i64 (txnE xs)∧Sep W w' cs):=by
  obtain ⟨rfl,hl⟩:=hs.rd_shape hk;unfold maxLen at hl;have hs:=hs.cpR hk;refine enter Tryz.func43 Tryz.ntmps43 rfl rfl fun a (ha : Has a 34 [(0,_)])=>?_;refine wp_seq_k fun K1 hK1=>?_;refine wp_region_lit ?_;refine pY ha (yAssign rfl) fun a ha=>?_;refine pZ ?_;refine hK1 _ _ ?_;refine scopeF 1 99999 ?_;refine wp_seq_k fun K2 hK2=>?_;refine wp_seq_k fun K3 hK3=>?_;refine wp_region_lit ?_;refine pY ha (yMove rfl) fun a ha=>?_;refine pY ha (yLenS Tryz.runUnderlying27 rfl) fun a ha=>?_;refine pY ha (yGtr rfl rfl) fun a ha=>?_;refine pZ ?_;refine hK3 _ _ ?_;refine cDec ha rfl (fun hc7=>?_) (fun hc7=>?_)
  · refine wp_seq_k fun K4 hK4=>?_;refine wp_region_lit ?_;refine pY ha (yAssign rfl) fun a ha=>?_;refine pZ ?_;refine hK4 _ _ ?_;refine wp_ret ?_;show bodyPost Tryz.prog Tryz.f43 _ .ret _ _;refine ret1 rfl ha rfl ?_
    (refine ⟨congrArg (Value.int .i64) ?_,hs.drop⟩; unfold txnE; rw [if_pos (by omega)])
  · have hn20 : xs.length≤20:=by omega
    refine wp_skip ?_;refine hK2 _ _ ?_;refine wp_seq_k fun K5 hK5=>?_;refine wp_seq_k fun K6 hK6=>?_;refine wp_region_lit ?_;refine pY ha (yMove rfl) fun a ha=>?_;refine pY ha (yLenS Tryz.runUnderlying27 rfl) fun a ha=>?_;refine pY ha (yMove rfl) fun a ha=>?_;refine pZ ?_;refine hK6 _ _ ?_;refine wp_block ?_;refine loopI (ι:=Nat) (fun i a w=>i≤xs.length∧fe (actE xs) i = 0∧Has a 34 [(0,.slice A xs.length c),(2,.int .i64 0),(8,.slice A xs.length c),(9,.int .i64 xs.length),(10,.int .i64 i)]∧Sep W w (.rd kActn (.slice A xs.length c) xs::cs)) (fun i=>xs.length - i) (0) ?_ ?_
    · exact ⟨Nat.zero_le _,rfl,has5 ha rfl rfl rfl rfl rfl,hs⟩
    · rintro i a w ⟨h1,h2,ha,hs⟩;refine wp_seq_k fun K7 hK7=>?_;refine wp_region_lit ?_;refine pY ha (yLss rfl rfl) fun a ha=>?_;refine pZ ?_;refine hK7 _ _ ?_;refine wp_seq_k fun K8 hK8=>?_;refine cDec ha rfl (fun hc11=>?_) (fun hc11=>?_)
      · obtain ⟨x,hx⟩ : ∃ x,xs[i]? = some x:=⟨_,List.getElem?_eq_getElem (by omega)⟩
        have hmx:=hm x (List.mem_of_getElem? hx)
        obtain ⟨b0,off,A',n',c',rfl,hs⟩:=hs.rd_actn .here hx;refine wp_skip ?_;refine hK8 _ _ ?_;refine wp_seq_k fun K9 hK9=>?_;refine wp_block ?_;refine wp_seq_k fun K10 hK10=>?_;refine wp_region_lit ?_;refine pY ha (yMove rfl) fun a ha=>?_;refine pY ha (yIndexA Tryz.runUnderlying27 Tryz.sizeOf54 rfl rfl (by omega) (by omega)) fun a ha=>?_;refine pY ha (yLoadRA Tryz.isAgg54 Tryz.sizeOf54 hs rfl pk0 rfl) fun a ha=>?_;refine pAlloc (zs:=[.int .i64 0,.int .i64 0,.int .i64 0,.string ⟨#[]⟩,.bool false,.slice none 0 0]) ha Tryz.zeroValue54 rfl hs rfl fun ba w hs a ha=>?_;refine pY ha (yAssign rfl) fun a ha=>?_;refine pStoreA ha Tryz.sizeOf54 hs rfl rfl pk0 rfl rfl rfl fun w hs=>?_;refine pZ ?_;refine hK10 _ _ ?_;refine wp_seq_k fun K11 hK11=>?_;refine wp_seq_k fun K12 hK12=>?_;refine wp_region_lit ?_;refine pY ha (yLoadBA Tryz.isAgg54 Tryz.sizeOf54 hs rfl pk0 rfl) fun a ha=>?_;refine pC ha (nCall Tryz.call70 rfl) rfl (One_c hT (x:=x) hmx hs pk2) ?_;rintro v w ⟨rfl,hs⟩ a ha;refine pY ha (yAssign rfl) fun a ha=>?_;refine pZ ?_;refine hK12 _ _ ?_;refine wp_seq_k fun K13 hK13=>?_;refine wp_region_lit ?_;refine pY ha (yMove rfl) fun a ha=>?_;refine pY ha (yNeq rfl rfl) fun a ha=>?_;refine pZ ?_;refine hK13 _ _ ?_;refine cNDec ha rfl (fun hc18=>?_) (fun hc18=>?_)
        · refine wp_goto ?_
          repeat (with_reducible first | refine gThen ?_ | refine gBlock ?_)
          refine gxF rfl rfl ?_;refine wp_seq_k fun K14 hK14=>?_;refine wp_skip ?_;refine hK14 _ _ ?_;refine wp_seq_k fun K15 hK15=>?_;refine wp_region_lit ?_;refine pY ha (yMove rfl) fun a ha=>?_;refine pY ha (yAssign rfl) fun a ha=>?_;refine pZ ?_;refine hK15 _ _ ?_;refine wp_ret ?_;show bodyPost Tryz.prog Tryz.f43 _ .ret _ _;refine ret1 rfl ha rfl ?_
          (refine ⟨congrArg (Value.int .i64) ?_,hs.drop.drop.drop.drop⟩; rw [txn_err hn20 h2 (by omega) (by rw [actE_at hx,if_pos hc18]; exact hc18),actE_at hx,if_pos hc18])
        · refine wp_skip ?_;refine hK11 _ _ ?_;refine wp_seq_k fun K16 hK16=>?_;refine wp_region_lit ?_;refine pY ha (yFieldA Tryz.runUnderlying54 rfl Tryz.sizeOf3 rfl rfl) fun a ha=>?_;refine pY ha (yLoadB Tryz.isAgg3 hs rfl pk0 rfl) fun a ha=>?_;refine pY ha (yEql rfl rfl) fun a ha=>?_;refine pY ha (yMove rfl) fun a ha=>?_;refine gDec (t:=22) ha rfl (fun hg3 hp3=>?_) (fun hg3 hp3=>?_)
          · rw [hg3] at ha;refine gOff ha fun a ha=>?_;refine gOff ha fun a ha=>?_;refine gOff ha fun a ha=>?_;refine gOff ha fun a ha=>?_;refine gOff ha fun a ha=>?_;refine pY ha (yPickF rfl rfl) fun a ha=>?_;refine pZ ?_;refine hK16 _ _ ?_;refine cFalse ha rfl ?_;refine wp_skip ?_;refine hK9 _ _ ?_;refine wp_region_lit ?_;refine pY ha (yAddN rfl rfl ⟨by omega,by omega⟩) fun a ha=>?_;refine pY ha (yMove rfl) fun a ha=>?_;refine pZ ?_
            have hz : actE xs i = 0:=by
              rw [actE_at hx,if_neg (by simpa using hc18)]
              (rw [if_neg (fun h=>of_decide_eq_false hg3 h.1)])
            rw [hc18] at ha;exact ⟨i + 1,⟨by omega,fe_next h2 hz,has5 ha rfl rfl rfl rfl rfl,by exact hs.drop.drop.drop⟩,by omega⟩
          · rw [hg3] at ha;refine gOn ha ?_;refine pY ha (yMove rfl) fun a ha=>?_;refine gOn ha ?_;refine pY ha (yMove rfl) fun a ha=>?_;refine gOn ha ?_;refine pY ha (ySlice Tryz.runUnderlying27 Tryz.sizeOf54 rfl (.inl ⟨rfl,rfl⟩) (.inr ⟨_,_,rfl,rfl⟩) (by omega) (by omega)) fun a ha=>?_;refine gOn ha ?_;refine pY ha (yMakeF rfl) fun a ha=>?_;refine gOn ha ?_;refine pC ha (nCall Tryz.call71 rfl) rfl (ContainsA_c (a0:=x) (hs.rd_cut (xs:=xs) (lo:=0) (hi:=i) pk3 (by omega) (by omega)) .here pk1) ?_;rintro v w ⟨rfl,hs⟩ a ha;have hs:=hs.drop;rw [List.drop_zero] at ha;refine pY ha (yPickT rfl rfl) fun a ha=>?_;refine pZ ?_;refine hK16 _ _ ?_;refine cSplit ha rfl (fun hc28=>?_) (fun hc28=>?_)
            · refine wp_seq_k fun K17 hK17=>?_;refine wp_region_lit ?_;refine pY ha (yAssign rfl) fun a ha=>?_;refine pZ ?_;refine hK17 _ _ ?_;refine wp_goto ?_
              repeat (with_reducible first | refine gThen ?_ | refine gBlock ?_)
              refine gxF rfl rfl ?_;refine wp_seq_k fun K18 hK18=>?_;refine wp_skip ?_;refine hK18 _ _ ?_;refine wp_seq_k fun K19 hK19=>?_;refine wp_region_lit ?_;refine pY ha (yMove rfl) fun a ha=>?_;refine pY ha (yAssign rfl) fun a ha=>?_;refine pZ ?_;refine hK19 _ _ ?_;refine wp_ret ?_;show bodyPost Tryz.prog Tryz.f43 _ .ret _ _;refine ret1 rfl ha rfl ?_
              (refine ⟨congrArg (Value.int .i64) ?_,hs.drop.drop.drop.drop⟩; have he : actE xs i = 1:=by (rw [actE_at hx,if_neg (by simpa using hc18),if_pos ⟨of_decide_eq_true hg3,hc28⟩])
               rw [txn_err hn20 h2 (by omega) (by rw [he]; decide),he])
            · refine wp_skip ?_;refine hK9 _ _ ?_;refine wp_region_lit ?_;refine pY ha (yAddN rfl rfl ⟨by omega,by omega⟩) fun a ha=>?_;refine pY ha (yMove rfl) fun a ha=>?_;refine pZ ?_
              have hz : actE xs i = 0:=by
                rw [actE_at hx,if_neg (by simpa using hc18)]
                (rw [if_neg (fun h=>by rw [h.2] at hc28; cases hc28)])
              rw [hc18] at ha;exact ⟨i + 1,⟨by omega,fe_next h2 hz,has5 ha rfl rfl rfl rfl rfl,by exact hs.drop.drop.drop⟩,by omega⟩
      · refine wp_exit ?_;refine hK5 _ _ ?_;refine wp_seq_k fun K20 hK20=>?_;refine wp_seq_k fun K21 hK21=>?_;refine wp_region_lit ?_;refine pY ha (yMove rfl) fun a ha=>?_;refine pC ha (nCall Tryz.call73 rfl) rfl (Puts_c (xs:=xs) hn20 (fun x hx=>fit_of (hm x hx) (fe_one (by rwa [show i = xs.length by omega] at h2) x hx)) hs .here) ?_;rintro v w ⟨rfl,hs⟩ a ha;refine pY ha (yGtr rfl rfl) fun a ha=>?_;refine pZ ?_;refine hK21 _ _ ?_;refine cDec ha rfl (fun hc32=>?_) (fun hc32=>?_)
        · refine wp_region_lit ?_;refine pY ha (yAssign rfl) fun a ha=>?_;refine pZ ?_;refine hK20 _ _ ?_;refine wp_seq_k fun K22 hK22=>?_;refine wp_label ?_;refine hK22 _ _ ?_;refine wp_seq_k fun K23 hK23=>?_;refine wp_region_lit ?_;refine pY ha (yMove rfl) fun a ha=>?_;refine pY ha (yAssign rfl) fun a ha=>?_;refine pZ ?_;refine hK23 _ _ ?_;refine wp_ret ?_;show bodyPost Tryz.prog Tryz.f43 _ .ret _ _;refine ret1 rfl ha rfl ?_
          (obtain rfl : i = xs.length:=by omega
           refine ⟨congrArg (Value.int .i64) ?_,hs.drop⟩;rw [txn_end hn20 h2]
           rw [if_pos (by omega)])
        · refine wp_skip ?_;refine hK20 _ _ ?_;refine wp_seq_k fun K24 hK24=>?_;refine wp_label ?_;refine hK24 _ _ ?_;refine wp_seq_k fun K25 hK25=>?_;refine wp_region_lit ?_;refine pY ha (yMove rfl) fun a ha=>?_;refine pY ha (yAssign rfl) fun a ha=>?_;refine pZ ?_;refine hK25 _ _ ?_;refine wp_ret ?_;show bodyPost Tryz.prog Tryz.f43 _ .ret _ _;refine ret1 rfl ha rfl ?_
          (obtain rfl : i = xs.length:=by omega
           refine ⟨congrArg (Value.int .i64) ?_,hs.drop⟩;rw [txn_end hn20 h2]
           rw [if_neg (by omega)])
/-- Numbers of the machine. -/
def i64 (n : Int) : Prop:=-9223372036854775808≤n∧n≤9223372036854775807
def mCm (x : Cmt) : Prop:=i64 x.rev∧i64 x.client∧i64 x.seq∧∀ a ∈ x.acts,mA a
end
end Go.Proofs.YtldgdjilchnceaaGreatDoor

set_option linter.unusedVariables false
set_option linter.unusedSimpArgs false
namespace Go.Proofs.YtldgdjilchnceaaGreatDoor
open Go.RowKit Go.Lib Go.Proofs.YtldgdjilchnceaaGreatDoorW.PrintLast
theorem bldTree103_0 {w : World} {l : List (Nat × Value)} {T : TypeId} {x0 : Operand} {v0 : Value} (h0 : ev l x0 = some v0) (o0 : v0.cells = #[v0]:=by rfl) : Yl Tryz.prog w l (.build 103 #[(0,x0)]) T (.agg #[v0]):=fun ρ o h ho _=>by
  have hf : Instr.fill (fun i=>([(0,1)] : List (Nat × Nat))[i]?) #[.map none] [(0,v0)] = some #[v0]:=by
    refine (fill_v o0 rfl (by simp)).trans ?_
    simp [Instr.fill]
  unfold execOp; rw [ho]
  simp [h _ _ h0,Instr.build,Tryz.zeroValue103,Tryz.runUnderlying103,Tryz.sizeOf101,agg_cells,hf]
theorem bldTree116_1_2 {w : World} {l : List (Nat × Value)} {T : TypeId} {x1 x2 : Operand} {v1 : Value} (h1 : ev l x1 = some v1) {v2 : Value} (h2 : ev l x2 = some v2) (o1 : v1.cells = #[v1]:=by rfl) (o2 : v2.cells = #[v2]:=by rfl) : Yl Tryz.prog w l (.build 116 #[(1,x1),(2,x2)]) T (.agg #[.int .i64 0,v1,v2,.bool false,.string ⟨#[]⟩]):=fun ρ o h ho _=>by
  have hf : Instr.fill (fun i=>([(0,1),(1,1),(2,1),(3,1),(4,1)] : List (Nat × Nat))[i]?) #[.int .i64 0,.int .i64 0,.string ⟨#[]⟩,.bool false,.string ⟨#[]⟩] [(1,v1),(2,v2)] = some #[.int .i64 0,v1,v2,.bool false,.string ⟨#[]⟩]:=by
    refine (fill_v o1 rfl (by simp)).trans ?_;refine (fill_v o2 rfl (by simp)).trans ?_
    simp [Instr.fill]
  unfold execOp; rw [ho]
  simp [h _ _ h1,h _ _ h2,Instr.build,Tryz.zeroValue116,Tryz.runUnderlying116,Tryz.sizeOf3,Tryz.sizeOf4,Tryz.sizeOf9,agg_cells,hf]
def wtE (e : MapEntry) : Nat:=match e.val with
  | .agg cs=>(match (cs[4]? : Option Value) with
    | some (Value.string s)=>cnt s.data.toList
    | _=>0)
  | _=>0
theorem sum_mE : ∀ (i : Nat) (xs : List Nod),((mE i xs).map wtE).sum = sumN xs
  | i,[]=>rfl
  | i,x::r=>by
    simp only [mE,List.map_cons,List.sum_cons,sumN,sum_mE (i + 1) r]
    rfl
theorem sum_drop {wt : MapEntry→Nat} {e : MapEntry} : ∀ (L : List MapEntry),(L.map (·.born)).Nodup→e ∈ L→(L.map wt).sum = wt e + ((L.filter fun x=>x.born != e.born).map wt).sum∧(L.filter fun x=>x.born != e.born).length < L.length
  | [],_,h=>by cases h
  | y::r,hn,h=>by
    simp only [List.map_cons,List.nodup_cons] at hn
    rcases List.mem_cons.1 h with rfl | h
    · have : (r.filter fun x=>x.born != e.born) = r:=List.filter_eq_self.2 fun x hx=>by
        have : x.born ≠ e.born:=fun e1=>hn.1 (List.mem_map.2 ⟨x,hx,e1⟩)
        simpa using this
      simp [this]
    · have hy : y.born ≠ e.born:=fun e1=>hn.1 (List.mem_map.2 ⟨e,h,e1.symm⟩)
      obtain ⟨h1,h2⟩:=sum_drop (wt:=wt) r hn.2 h
      have hb : (y.born != e.born) = true:=by simpa using hy
      rw [List.filter_cons,if_pos hb];simp only [List.map_cons,List.sum_cons,List.length_cons]
      omega
theorem left_push (es : Array MapEntry) (seen : Array Nat) (b : Nat) : (leftOf es (seen.push b)).toList = (leftOf es seen).toList.filter fun x=>x.born != b:=by
  unfold leftOf;rw [Array.toList_filter,Array.toList_filter,List.filter_filter]
  apply List.filter_congr
  intro x _;rw [Bool.eq_iff_iff]
  simp
  constructor
  · rintro ⟨h1,h2⟩; exact ⟨h2,h1⟩
  · rintro ⟨h1,h2⟩; exact ⟨h2,h1⟩
theorem left_start (es : Array MapEntry) : leftOf es #[] = es:=by
  unfold leftOf
  simp
theorem left_mem {es : Array MapEntry} {seen : Array Nat} {e : MapEntry} (h : e ∈ (leftOf es seen).toList) : e ∈ es.toList:=by
  unfold leftOf at h;rw [Array.toList_filter] at h;exact (List.mem_filter.1 h).1
theorem left_nodup {es : Array MapEntry} (seen : Array Nat) (h : (es.toList.map (·.born)).Nodup) : ((leftOf es seen).toList.map (·.born)).Nodup:=by
  unfold leftOf;rw [Array.toList_filter];exact (List.filter_sublist.map _).nodup h
theorem left_step {es : Array MapEntry} {seen : Array Nat} {e : MapEntry} (hn : (es.toList.map (·.born)).Nodup) (he : e ∈ (leftOf es seen).toList) :
    ((leftOf es seen).toList.map wtE).sum = wtE e + ((leftOf es (seen.push e.born)).toList.map wtE).sum∧(leftOf es (seen.push e.born)).size < (leftOf es seen).size:=by
  have h:=sum_drop (wt:=wtE) _ (left_nodup seen hn) he
  rw [← left_push] at h;exact ⟨h.1,by have:=h.2; simpa using this⟩
def lastN (xs : List Nod) (i : Nat) : Int:=if i = 0 then 0 else (xs.getD (i - 1) noN).id
theorem good_at {xs : List Nod} {i : Nat} {x : Nod} (hx : xs[i]? = some x) : goodN xs i = (sndN x && decide (lastN xs i < x.id)):=by
  unfold goodN lastN;rw [show xs.getD i noN = x by rw [List.getD_eq_getElem?_getD,hx]; rfl]
theorem last_next {xs : List Nod} {i : Nat} {x : Nod} (hx : xs[i]? = some x) : lastN xs (i + 1) = x.id:=by
  unfold lastN;rw [if_neg (by omega),Nat.add_sub_cancel,List.getD_eq_getElem?_getD,hx]; rfl
theorem rising {xs : List Nod} : ∀ {i : Nat} {y : Int},i≤xs.length→allN (goodN xs) i = true→lastN xs i < y→∀ m ∈ xs.take i,m.id < y
  | 0,y,_,_,_,m,hm=>by simp at hm
  | i + 1,y,hi,h,hl,m,hm=>by
    obtain ⟨x,hx⟩ : ∃ x,xs[i]? = some x:=⟨_,List.getElem?_eq_getElem (by omega)⟩;simp only [allN,Bool.and_eq_true] at h;rw [good_at hx] at h;simp only [Bool.and_eq_true,decide_eq_true_eq] at h;rw [last_next hx] at hl;rw [List.take_add_one,hx] at hm;simp only [Option.toList,List.mem_append,List.mem_singleton] at hm
    rcases hm with hm | rfl
    · have:=rising (by omega) h.1 h.2.2 m hm; omega
    · exact hl
def keysN (l : List Nod) : List Key:=(l.map keyN).foldl addK []
theorem keys_next {xs : List Nod} {i : Nat} {x : Nod} (hx : xs[i]? = some x) : keysN (xs.take (i + 1)) = addK (keysN (xs.take i)) (keyN x):=by
  unfold keysN;rw [List.take_add_one,hx]
  simp
theorem mem_addK {ks : List Key} {k q : Key} : q ∈ addK ks k ↔ q ∈ ks∨q = k:=by
  unfold addK
  split
  · rename_i h
    exact ⟨.inl,fun h2=>h2.elim id fun e=>by rw [e]; exact hasK_iff.1 h⟩
  · simp
theorem mem_fold : ∀ (l : List Key) (ks : List Key) (q : Key),q ∈ l.foldl addK ks ↔ q ∈ ks∨q ∈ l
  | [],ks,q=>by simp
  | k::r,ks,q=>by
    rw [List.foldl_cons,mem_fold r,mem_addK,List.mem_cons,or_assoc]
theorem keys_len {xs : List Nod} : ∀ {i : Nat},i≤xs.length→(keysN (xs.take i)).length≤i∧((keysN (xs.take i)).length = i ↔ allN (aloneN xs) i = true)
  | 0,_=>⟨by simp [keysN],by simp [keysN,allN]⟩
  | i + 1,hi=>by
    obtain ⟨x,hx⟩ : ∃ x,xs[i]? = some x:=⟨_,List.getElem?_eq_getElem (by omega)⟩;obtain ⟨h1,h2⟩:=keys_len (xs:=xs) (i:=i) (by omega)
    have hg : xs.getD i noN = x:=by rw [List.getD_eq_getElem?_getD,hx]; rfl
    have ha : aloneN xs i = !hasK (keysN (xs.take i)) (keyN x):=by
      unfold aloneN;rw [hg]
      congr 1
      rw [Bool.eq_iff_iff,hasK_iff,List.any_eq_true];unfold keysN;rw [mem_fold];simp only [List.not_mem_nil,false_or,List.mem_map,decide_eq_true_eq]
    rw [keys_next hx];simp only [allN,Bool.and_eq_true,ha];unfold addK
    by_cases hk : hasK (keysN (xs.take i)) (keyN x) = true
    · rw [if_pos hk,hk];exact ⟨by omega,⟨fun h=>by omega,fun h=>by simp at h⟩⟩
    · rw [if_neg hk]
      have hk' : hasK (keysN (xs.take i)) (keyN x) = false:=by simpa using hk
      rw [hk'];simp only [List.length_append,List.length_cons,List.length_nil,Nat.zero_add,Bool.not_false,and_true];exact ⟨by omega,by rw [← h2]; omega⟩
theorem sumN_le {B : Nat} : ∀ (l : List Nod),(∀ x ∈ l,cnt x.text.data.toList≤B)→sumN l≤l.length * B
  | [],_=>by simp [sumN]
  | x::r,h=>by
    have h1:=sumN_le r (fun y hy=>h y (by simp [hy]))
    have h2:=h x (by simp)
    simp only [sumN,List.length_cons,Nat.add_mul,Nat.one_mul]
    omega
/-- A node as the machine holds it. -/
def mN (x : Nod) : Prop:=x.name.size≤1000000000∧x.text.size≤1000000000
section
variable {W w : World} {cs r r2 : List Ch}
theorem New_c (hs : Sep W w cs) : Calls P 20 #[] w (Rt fun v w'=>∃ b bm,v = .pointer (some ⟨b,0,none⟩)∧Sep W w' (.blk b 103 [.map (some bm)]::.mpN bm []::cs)):=by
  refine enter Tryz.func20 Tryz.ntmps20 rfl rfl fun a (ha : Has a 4 [])=>?_;refine wp_seq_k fun K1 hK1=>?_;refine wp_region_lit ?_;refine pY ha (yAssign rfl) fun a ha=>?_;refine pZ ?_;refine hK1 _ _ ?_;refine wp_seq_k fun K2 hK2=>?_;refine wp_region_lit ?_;refine pMakeMap ha hs rfl fun bm w hs a ha=>?_;refine pY ha (bldTree103_0 rfl) fun a ha=>?_;refine pBox (es:=_) ha rfl rfl hs rfl fun bt w hs a ha=>?_;refine pY ha (yAssign rfl) fun a ha=>?_;refine pZ ?_;refine hK2 _ _ ?_;refine wp_ret ?_;show bodyPost Tryz.prog Tryz.f20 _ .ret _ _;refine ret1 rfl ha rfl ?_;exact ⟨bt,bm,rfl,hs⟩
theorem TreeSound_c (hT : Tabs W) (x : Nod) (hm : mN x) (hs : Sep W w cs) : Calls P 80 #[.agg (cN x).toArray] w (Rt fun v w'=>v = .bool (sndN x)∧Sep W w' cs):=by
  obtain ⟨hm1,hm2⟩:=hm;unfold cN;refine enter Tryz.func80 Tryz.ntmps80 rfl rfl fun a (ha : Has a 42 [(0,_)])=>?_;refine wp_seq_k fun K1 hK1=>?_;refine wp_region_lit ?_;refine pBox (es:=_) ha rfl rfl hs rfl fun b w hs a ha=>?_;refine pY ha (yAssign rfl) fun a ha=>?_;refine pZ ?_;refine hK1 _ _ ?_;refine wp_seq_k fun K2 hK2=>?_;refine wp_region_lit ?_;refine pY ha (yFieldA Tryz.runUnderlying116 rfl Tryz.sizeOf9 rfl rfl) fun a ha=>?_;refine pY ha (yLoadB Tryz.isAgg9 hs rfl pk0 rfl) fun a ha=>?_;refine pC ha (nCall Tryz.call100 rfl) rfl (Count_c hT x.text (by omega) hs) ?_;rintro v w ⟨rfl,hs⟩ a ha;refine pY ha (yMove rfl) fun a ha=>?_
  by_cases hok : okText x.text.data.toList = true
  · rw [if_pos hok] at ha;refine pY ha (yExtract rfl rfl) fun a ha=>?_;refine pY ha (yExtract rfl rfl) fun a ha=>?_;refine pY ha (yAssign rfl) fun a ha=>?_;refine pY ha (yAssign rfl) fun a ha=>?_;refine pZ ?_;refine hK2 _ _ ?_;refine wp_seq_k fun K3 hK3=>?_;refine cutC (fun a w=>Has a 42 [(2,.bool (sndN x))]∧Sep W w cs) ?_ ?_
    · refine wp_region_lit ?_;refine pY ha (yFieldA Tryz.runUnderlying116 rfl Tryz.sizeOf3 rfl rfl) fun a ha=>?_;refine pY ha (yLoadB Tryz.isAgg3 hs rfl pk0 rfl) fun a ha=>?_;refine pY ha (yGeq rfl rfl) fun a ha=>?_;refine pY ha (yMove rfl) fun a ha=>?_;refine gDec (t:=14) ha rfl (fun hg3 hp3=>?_) (fun hg3 hp3=>?_)
      · rw [hg3] at ha;refine gOff ha fun a ha=>?_;refine gOff ha fun a ha=>?_;refine gOff ha fun a ha=>?_;refine pY ha (yPickF rfl rfl) fun a ha=>?_;refine pY ha (yMove rfl) fun a ha=>?_;refine gOff ha fun a ha=>?_;refine gOff ha fun a ha=>?_;refine gOff ha fun a ha=>?_;refine pY ha (yPickF rfl rfl) fun a ha=>?_;refine pY ha (yMove rfl) fun a ha=>?_;refine gOff ha fun a ha=>?_;refine gOff ha fun a ha=>?_;refine pY ha (yPickF rfl rfl) fun a ha=>?_;refine pY ha (yMove rfl) fun a ha=>?_;refine gOff ha fun a ha=>?_;refine gOff ha fun a ha=>?_;refine pY ha (yPickF rfl rfl) fun a ha=>?_;refine pY ha (yMove rfl) fun a ha=>?_;refine gOff ha fun a ha=>?_;refine gOff ha fun a ha=>?_;refine gOff ha fun a ha=>?_;refine gOff ha fun a ha=>?_;refine gOffU ha fun a ha=>?_;refine gOffU ha fun a ha=>?_;refine gOffU ha fun a ha=>?_;refine gOff ha fun a ha=>?_;refine pY ha (yPickF rfl rfl) fun a ha=>?_;refine pY ha (yAssign rfl) fun a ha=>?_;refine pZ ⟨rfl,?_⟩;refine ⟨has1 ha ?_,hs.drop⟩;refine congrArg (fun b=>some (Value.bool b)) ?_;unfold sndN emp;rw [Bool.eq_iff_iff]
        have hok':=hok
        have hc0 : cnt ([] : List UInt8) = 0:=rfl
        simp only [decide_eq_true_eq,decide_eq_false_iff_not,Bool.and_eq_true,Bool.or_eq_true,Bool.not_eq_true',Bool.not_eq_false',Bool.and_eq_false_iff,Bool.or_eq_false_iff,Bool.false_eq_true,true_iff,false_iff,iff_true,iff_false,Bool.not_eq_eq_eq_not,Bool.not_true,Bool.not_false,Bool.not_eq_true] at *
        omega
      · rw [hg3] at ha;refine gOn ha ?_;refine pY ha (yFieldA Tryz.runUnderlying116 rfl Tryz.sizeOf3 rfl rfl) fun a ha=>?_;refine gOn ha ?_;refine pY ha (yLoadB Tryz.isAgg3 hs rfl pk0 rfl) fun a ha=>?_;refine gOn ha ?_;refine pY ha (yLeq rfl rfl) fun a ha=>?_;refine pY ha (yPickT rfl rfl) fun a ha=>?_;refine pY ha (yMove rfl) fun a ha=>?_;refine gSplit (t:=19) ha rfl (fun hg8=>?_) (fun hg8=>?_)
        · rw [hg8] at ha;refine gOff ha fun a ha=>?_;refine gOff ha fun a ha=>?_;refine gOff ha fun a ha=>?_;refine pY ha (yPickF rfl rfl) fun a ha=>?_;refine pY ha (yMove rfl) fun a ha=>?_;refine gOff ha fun a ha=>?_;refine gOff ha fun a ha=>?_;refine pY ha (yPickF rfl rfl) fun a ha=>?_;refine pY ha (yMove rfl) fun a ha=>?_;refine gOff ha fun a ha=>?_;refine gOff ha fun a ha=>?_;refine pY ha (yPickF rfl rfl) fun a ha=>?_;refine pY ha (yMove rfl) fun a ha=>?_;refine gOff ha fun a ha=>?_;refine gOff ha fun a ha=>?_;refine gOff ha fun a ha=>?_;refine gOff ha fun a ha=>?_;refine gOffU ha fun a ha=>?_;refine gOffU ha fun a ha=>?_;refine gOffU ha fun a ha=>?_;refine gOff ha fun a ha=>?_;refine pY ha (yPickF rfl rfl) fun a ha=>?_;refine pY ha (yAssign rfl) fun a ha=>?_;refine pZ ⟨rfl,?_⟩;refine ⟨has1 ha ?_,hs.drop⟩;refine congrArg (fun b=>some (Value.bool b)) ?_;unfold sndN emp;rw [Bool.eq_iff_iff]
          have hok':=hok
          have hc0 : cnt ([] : List UInt8) = 0:=rfl
          simp only [decide_eq_true_eq,decide_eq_false_iff_not,Bool.and_eq_true,Bool.or_eq_true,Bool.not_eq_true',Bool.not_eq_false',Bool.and_eq_false_iff,Bool.or_eq_false_iff,Bool.false_eq_true,true_iff,false_iff,iff_true,iff_false,Bool.not_eq_eq_eq_not,Bool.not_true,Bool.not_false,Bool.not_eq_true] at *
          omega
        · rw [hg8] at ha;refine gOn ha ?_;refine pY ha (yFieldA Tryz.runUnderlying116 rfl Tryz.sizeOf9 rfl rfl) fun a ha=>?_;refine gOn ha ?_;refine pY ha (yLoadB Tryz.isAgg9 hs rfl pk0 rfl) fun a ha=>?_;refine gOn ha ?_;refine pC ha (nCall Tryz.call91 rfl) rfl (Name_c x.name hm1 hs) ?_;rintro v w ⟨rfl,hs⟩ a ha;refine pY ha (yPickT rfl rfl) fun a ha=>?_;refine pY ha (yMove rfl) fun a ha=>?_;refine gSplit (t:=24) ha rfl (fun hg13=>?_) (fun hg13=>?_)
          · rw [hg13] at ha;refine gOff ha fun a ha=>?_;refine gOff ha fun a ha=>?_;refine pY ha (yPickF rfl rfl) fun a ha=>?_;refine pY ha (yMove rfl) fun a ha=>?_;refine gOff ha fun a ha=>?_;refine gOff ha fun a ha=>?_;refine pY ha (yPickF rfl rfl) fun a ha=>?_;refine pY ha (yMove rfl) fun a ha=>?_;refine gOff ha fun a ha=>?_;refine gOff ha fun a ha=>?_;refine gOff ha fun a ha=>?_;refine gOff ha fun a ha=>?_;refine gOffU ha fun a ha=>?_;refine gOffU ha fun a ha=>?_;refine gOffU ha fun a ha=>?_;refine gOff ha fun a ha=>?_;refine pY ha (yPickF rfl rfl) fun a ha=>?_;refine pY ha (yAssign rfl) fun a ha=>?_;refine pZ ⟨rfl,?_⟩;refine ⟨has1 ha ?_,hs.drop⟩;refine congrArg (fun b=>some (Value.bool b)) ?_;unfold sndN emp;rw [Bool.eq_iff_iff]
            have hok':=hok
            have hc0 : cnt ([] : List UInt8) = 0:=rfl
            simp only [decide_eq_true_eq,decide_eq_false_iff_not,Bool.and_eq_true,Bool.or_eq_true,Bool.not_eq_true',Bool.not_eq_false',Bool.and_eq_false_iff,Bool.or_eq_false_iff,Bool.false_eq_true,true_iff,false_iff,iff_true,iff_false,Bool.not_eq_eq_eq_not,Bool.not_true,Bool.not_false,Bool.not_eq_true] at *
            (simp_all; done)
          · rw [hg13] at ha;refine gOn ha ?_;refine pY ha (yMove rfl) fun a ha=>?_;refine gOn ha ?_;refine pY ha (yEql rfl rfl) fun a ha=>?_;refine pY ha (yPickT rfl rfl) fun a ha=>?_;refine pY ha (yMove rfl) fun a ha=>?_;refine gSplit (t:=28) ha rfl (fun hg17=>?_) (fun hg17=>?_)
            · rw [hg17] at ha;refine gOff ha fun a ha=>?_;refine gOff ha fun a ha=>?_;refine pY ha (yPickF rfl rfl) fun a ha=>?_;refine pY ha (yMove rfl) fun a ha=>?_;refine gOff ha fun a ha=>?_;refine gOff ha fun a ha=>?_;refine gOff ha fun a ha=>?_;refine gOff ha fun a ha=>?_;refine gOffU ha fun a ha=>?_;refine gOffU ha fun a ha=>?_;refine gOffU ha fun a ha=>?_;refine gOff ha fun a ha=>?_;refine pY ha (yPickF rfl rfl) fun a ha=>?_;refine pY ha (yAssign rfl) fun a ha=>?_;refine pZ ⟨rfl,?_⟩;refine ⟨has1 ha ?_,hs.drop⟩;refine congrArg (fun b=>some (Value.bool b)) ?_;unfold sndN emp;rw [Bool.eq_iff_iff]
              have hok':=hok
              have hc0 : cnt ([] : List UInt8) = 0:=rfl
              simp only [decide_eq_true_eq,decide_eq_false_iff_not,Bool.and_eq_true,Bool.or_eq_true,Bool.not_eq_true',Bool.not_eq_false',Bool.and_eq_false_iff,Bool.or_eq_false_iff,Bool.false_eq_true,true_iff,false_iff,iff_true,iff_false,Bool.not_eq_eq_eq_not,Bool.not_true,Bool.not_false,Bool.not_eq_true] at *
              (simp_all; done)
            · rw [hg17] at ha;refine gOn ha ?_;refine pY ha (yMove rfl) fun a ha=>?_;refine gOn ha ?_;refine pY ha (yLeq rfl rfl) fun a ha=>?_;refine pY ha (yPickT rfl rfl) fun a ha=>?_;refine pY ha (yMove rfl) fun a ha=>?_;refine gSplit (t:=32) ha rfl (fun hg21=>?_) (fun hg21=>?_)
              · rw [hg21] at ha;refine gOff ha fun a ha=>?_;refine gOff ha fun a ha=>?_;refine gOff ha fun a ha=>?_;refine gOff ha fun a ha=>?_;refine gOffU ha fun a ha=>?_;refine gOffU ha fun a ha=>?_;refine gOffU ha fun a ha=>?_;refine gOff ha fun a ha=>?_;refine pY ha (yPickF rfl rfl) fun a ha=>?_;refine pY ha (yAssign rfl) fun a ha=>?_;refine pZ ⟨rfl,?_⟩;refine ⟨has1 ha ?_,hs.drop⟩;refine congrArg (fun b=>some (Value.bool b)) ?_;unfold sndN emp;rw [Bool.eq_iff_iff]
                have hok':=hok
                have hc0 : cnt ([] : List UInt8) = 0:=rfl
                simp only [decide_eq_true_eq,decide_eq_false_iff_not,Bool.and_eq_true,Bool.or_eq_true,Bool.not_eq_true',Bool.not_eq_false',Bool.and_eq_false_iff,Bool.or_eq_false_iff,Bool.false_eq_true,true_iff,false_iff,iff_true,iff_false,Bool.not_eq_eq_eq_not,Bool.not_true,Bool.not_false,Bool.not_eq_true] at *
                omega
              · rw [hg21] at ha;refine gOn ha ?_;refine pY ha (yFieldA Tryz.runUnderlying116 rfl Tryz.sizeOf4 rfl rfl) fun a ha=>?_;refine gOn ha ?_;refine pY ha (yLoadB Tryz.isAgg4 hs rfl pk0 rfl) fun a ha=>?_;refine gOn ha ?_;refine pY ha (yNot rfl) fun a ha=>?_;refine gOn ha ?_;refine pY ha (yMove rfl) fun a ha=>?_;refine gSplit (t:=36) ha rfl (fun hg25=>?_) (fun hg25=>?_)
                · rw [hg25] at ha;refine gOn ha ?_;refine pY ha (yFieldA Tryz.runUnderlying116 rfl Tryz.sizeOf9 rfl rfl) fun a ha=>?_;refine gOn ha ?_;refine pY ha (yLoadB Tryz.isAgg9 hs rfl pk0 rfl) fun a ha=>?_;refine gOn ha ?_;refine pY ha (yStrEql rfl rfl) fun a ha=>?_;refine gOn ha ?_;refine pY ha (yPickF rfl rfl) fun a ha=>?_;refine pY ha (yPickT rfl rfl) fun a ha=>?_;refine pY ha (yAssign rfl) fun a ha=>?_;refine pZ ⟨rfl,?_⟩;refine ⟨has1 ha ?_,hs.drop⟩;refine congrArg (fun b=>some (Value.bool b)) ?_;unfold sndN emp;rw [Bool.eq_iff_iff]
                  have hok':=hok
                  have hc0 : cnt ([] : List UInt8) = 0:=rfl
                  simp only [decide_eq_true_eq,decide_eq_false_iff_not,Bool.and_eq_true,Bool.or_eq_true,Bool.not_eq_true',Bool.not_eq_false',Bool.and_eq_false_iff,Bool.or_eq_false_iff,Bool.false_eq_true,true_iff,false_iff,iff_true,iff_false,Bool.not_eq_eq_eq_not,Bool.not_true,Bool.not_false,Bool.not_eq_true] at *
                  (simp_all; done)
                · rw [hg25] at ha;refine gOff ha fun a ha=>?_;refine gOff ha fun a ha=>?_;refine gOff ha fun a ha=>?_;refine gOn ha ?_;refine pY ha (yPickT rfl rfl) fun a ha=>?_;refine pY ha (yPickT rfl rfl) fun a ha=>?_;refine pY ha (yAssign rfl) fun a ha=>?_;refine pZ ⟨rfl,?_⟩;refine ⟨has1 ha ?_,hs.drop⟩;refine congrArg (fun b=>some (Value.bool b)) ?_;unfold sndN emp;rw [Bool.eq_iff_iff]
                  have hok':=hok
                  have hc0 : cnt ([] : List UInt8) = 0:=rfl
                  simp only [decide_eq_true_eq,decide_eq_false_iff_not,Bool.and_eq_true,Bool.or_eq_true,Bool.not_eq_true',Bool.not_eq_false',Bool.and_eq_false_iff,Bool.or_eq_false_iff,Bool.false_eq_true,true_iff,false_iff,iff_true,iff_false,Bool.not_eq_eq_eq_not,Bool.not_true,Bool.not_false,Bool.not_eq_true] at *
                  (simp_all; omega)
    rintro a w ⟨ha,hs⟩;refine hK3 _ _ ?_;refine wp_ret ?_;show bodyPost Tryz.prog Tryz.f80 _ .ret _ _;refine ret1 rfl ha rfl ?_;exact ⟨rfl,hs⟩
  · rw [if_neg hok] at ha;refine pY ha (yExtract rfl rfl) fun a ha=>?_;refine pY ha (yExtract rfl rfl) fun a ha=>?_;refine pY ha (yAssign rfl) fun a ha=>?_;refine pY ha (yAssign rfl) fun a ha=>?_;refine pZ ?_;refine hK2 _ _ ?_;refine wp_seq_k fun K4 hK4=>?_;refine cutC (fun a w=>Has a 42 [(2,.bool (sndN x))]∧Sep W w cs) ?_ ?_
    · refine wp_region_lit ?_;refine pY ha (yFieldA Tryz.runUnderlying116 rfl Tryz.sizeOf3 rfl rfl) fun a ha=>?_;refine pY ha (yLoadB Tryz.isAgg3 hs rfl pk0 rfl) fun a ha=>?_;refine pY ha (yGeq rfl rfl) fun a ha=>?_;refine pY ha (yMove rfl) fun a ha=>?_;refine gDec (t:=14) ha rfl (fun hg3 hp3=>?_) (fun hg3 hp3=>?_)
      · rw [hg3] at ha;refine gOff ha fun a ha=>?_;refine gOff ha fun a ha=>?_;refine gOff ha fun a ha=>?_;refine pY ha (yPickF rfl rfl) fun a ha=>?_;refine pY ha (yMove rfl) fun a ha=>?_;refine gOff ha fun a ha=>?_;refine gOff ha fun a ha=>?_;refine gOff ha fun a ha=>?_;refine pY ha (yPickF rfl rfl) fun a ha=>?_;refine pY ha (yMove rfl) fun a ha=>?_;refine gOff ha fun a ha=>?_;refine gOff ha fun a ha=>?_;refine pY ha (yPickF rfl rfl) fun a ha=>?_;refine pY ha (yMove rfl) fun a ha=>?_;refine gOff ha fun a ha=>?_;refine gOff ha fun a ha=>?_;refine pY ha (yPickF rfl rfl) fun a ha=>?_;refine pY ha (yMove rfl) fun a ha=>?_;refine gOff ha fun a ha=>?_;refine gOff ha fun a ha=>?_;refine gOff ha fun a ha=>?_;refine gOff ha fun a ha=>?_;refine gOffU ha fun a ha=>?_;refine gOffU ha fun a ha=>?_;refine gOffU ha fun a ha=>?_;refine gOff ha fun a ha=>?_;refine pY ha (yPickF rfl rfl) fun a ha=>?_;refine pY ha (yAssign rfl) fun a ha=>?_;refine pZ ⟨rfl,?_⟩;refine ⟨has1 ha ?_,hs.drop⟩;refine congrArg (fun b=>some (Value.bool b)) ?_;unfold sndN emp;rw [Bool.eq_iff_iff]
        have hok':=hok
        have hc0 : cnt ([] : List UInt8) = 0:=rfl
        simp only [decide_eq_true_eq,decide_eq_false_iff_not,Bool.and_eq_true,Bool.or_eq_true,Bool.not_eq_true',Bool.not_eq_false',Bool.and_eq_false_iff,Bool.or_eq_false_iff,Bool.false_eq_true,true_iff,false_iff,iff_true,iff_false,Bool.not_eq_eq_eq_not,Bool.not_true,Bool.not_false,Bool.not_eq_true] at *
        omega
      · rw [hg3] at ha;refine gOn ha ?_;refine pY ha (yFieldA Tryz.runUnderlying116 rfl Tryz.sizeOf3 rfl rfl) fun a ha=>?_;refine gOn ha ?_;refine pY ha (yLoadB Tryz.isAgg3 hs rfl pk0 rfl) fun a ha=>?_;refine gOn ha ?_;refine pY ha (yLeq rfl rfl) fun a ha=>?_;refine pY ha (yPickT rfl rfl) fun a ha=>?_;refine pY ha (yMove rfl) fun a ha=>?_;refine gSplit (t:=19) ha rfl (fun hg8=>?_) (fun hg8=>?_)
        · rw [hg8] at ha;refine gOff ha fun a ha=>?_;refine gOff ha fun a ha=>?_;refine gOff ha fun a ha=>?_;refine pY ha (yPickF rfl rfl) fun a ha=>?_;refine pY ha (yMove rfl) fun a ha=>?_;refine gOff ha fun a ha=>?_;refine gOff ha fun a ha=>?_;refine pY ha (yPickF rfl rfl) fun a ha=>?_;refine pY ha (yMove rfl) fun a ha=>?_;refine gOff ha fun a ha=>?_;refine gOff ha fun a ha=>?_;refine pY ha (yPickF rfl rfl) fun a ha=>?_;refine pY ha (yMove rfl) fun a ha=>?_;refine gOff ha fun a ha=>?_;refine gOff ha fun a ha=>?_;refine gOff ha fun a ha=>?_;refine gOff ha fun a ha=>?_;refine gOffU ha fun a ha=>?_;refine gOffU ha fun a ha=>?_;refine gOffU ha fun a ha=>?_;refine gOff ha fun a ha=>?_;refine pY ha (yPickF rfl rfl) fun a ha=>?_;refine pY ha (yAssign rfl) fun a ha=>?_;refine pZ ⟨rfl,?_⟩;refine ⟨has1 ha ?_,hs.drop⟩;refine congrArg (fun b=>some (Value.bool b)) ?_;unfold sndN emp;rw [Bool.eq_iff_iff]
          have hok':=hok
          have hc0 : cnt ([] : List UInt8) = 0:=rfl
          simp only [decide_eq_true_eq,decide_eq_false_iff_not,Bool.and_eq_true,Bool.or_eq_true,Bool.not_eq_true',Bool.not_eq_false',Bool.and_eq_false_iff,Bool.or_eq_false_iff,Bool.false_eq_true,true_iff,false_iff,iff_true,iff_false,Bool.not_eq_eq_eq_not,Bool.not_true,Bool.not_false,Bool.not_eq_true] at *
          omega
        · rw [hg8] at ha;refine gOn ha ?_;refine pY ha (yFieldA Tryz.runUnderlying116 rfl Tryz.sizeOf9 rfl rfl) fun a ha=>?_;refine gOn ha ?_;refine pY ha (yLoadB Tryz.isAgg9 hs rfl pk0 rfl) fun a ha=>?_;refine gOn ha ?_;refine pC ha (nCall Tryz.call91 rfl) rfl (Name_c x.name hm1 hs) ?_;rintro v w ⟨rfl,hs⟩ a ha;refine pY ha (yPickT rfl rfl) fun a ha=>?_;refine pY ha (yMove rfl) fun a ha=>?_;refine gSplit (t:=24) ha rfl (fun hg13=>?_) (fun hg13=>?_)
          · rw [hg13] at ha;refine gOff ha fun a ha=>?_;refine gOff ha fun a ha=>?_;refine pY ha (yPickF rfl rfl) fun a ha=>?_;refine pY ha (yMove rfl) fun a ha=>?_;refine gOff ha fun a ha=>?_;refine gOff ha fun a ha=>?_;refine pY ha (yPickF rfl rfl) fun a ha=>?_;refine pY ha (yMove rfl) fun a ha=>?_;refine gOff ha fun a ha=>?_;refine gOff ha fun a ha=>?_;refine gOff ha fun a ha=>?_;refine gOff ha fun a ha=>?_;refine gOffU ha fun a ha=>?_;refine gOffU ha fun a ha=>?_;refine gOffU ha fun a ha=>?_;refine gOff ha fun a ha=>?_;refine pY ha (yPickF rfl rfl) fun a ha=>?_;refine pY ha (yAssign rfl) fun a ha=>?_;refine pZ ⟨rfl,?_⟩;refine ⟨has1 ha ?_,hs.drop⟩;refine congrArg (fun b=>some (Value.bool b)) ?_;unfold sndN emp;rw [Bool.eq_iff_iff]
            have hok':=hok
            have hc0 : cnt ([] : List UInt8) = 0:=rfl
            simp only [decide_eq_true_eq,decide_eq_false_iff_not,Bool.and_eq_true,Bool.or_eq_true,Bool.not_eq_true',Bool.not_eq_false',Bool.and_eq_false_iff,Bool.or_eq_false_iff,Bool.false_eq_true,true_iff,false_iff,iff_true,iff_false,Bool.not_eq_eq_eq_not,Bool.not_true,Bool.not_false,Bool.not_eq_true] at *
            (simp_all; done)
          · rw [hg13] at ha;refine gOn ha ?_;refine pY ha (yMove rfl) fun a ha=>?_;refine gOn ha ?_;refine pY ha (yEql rfl rfl) fun a ha=>?_;refine pY ha (yPickT rfl rfl) fun a ha=>?_;refine pY ha (yMove rfl) fun a ha=>?_;refine gSplit (t:=28) ha rfl (fun hg17=>?_) (fun hg17=>?_)
            · rw [hg17] at ha;refine gOff ha fun a ha=>?_;refine gOff ha fun a ha=>?_;refine pY ha (yPickF rfl rfl) fun a ha=>?_;refine pY ha (yMove rfl) fun a ha=>?_;refine gOff ha fun a ha=>?_;refine gOff ha fun a ha=>?_;refine gOff ha fun a ha=>?_;refine gOff ha fun a ha=>?_;refine gOffU ha fun a ha=>?_;refine gOffU ha fun a ha=>?_;refine gOffU ha fun a ha=>?_;refine gOff ha fun a ha=>?_;refine pY ha (yPickF rfl rfl) fun a ha=>?_;refine pY ha (yAssign rfl) fun a ha=>?_;refine pZ ⟨rfl,?_⟩;refine ⟨has1 ha ?_,hs.drop⟩;refine congrArg (fun b=>some (Value.bool b)) ?_;unfold sndN emp;rw [Bool.eq_iff_iff]
              have hok':=hok
              have hc0 : cnt ([] : List UInt8) = 0:=rfl
              simp only [decide_eq_true_eq,decide_eq_false_iff_not,Bool.and_eq_true,Bool.or_eq_true,Bool.not_eq_true',Bool.not_eq_false',Bool.and_eq_false_iff,Bool.or_eq_false_iff,Bool.false_eq_true,true_iff,false_iff,iff_true,iff_false,Bool.not_eq_eq_eq_not,Bool.not_true,Bool.not_false,Bool.not_eq_true] at *
              (simp_all; done)
            · rw [hg17] at ha;refine gOn ha ?_;refine pY ha (yMove rfl) fun a ha=>?_;refine gOn ha ?_;refine pY ha (yLeq rfl rfl) fun a ha=>?_;refine pY ha (yPickT rfl rfl) fun a ha=>?_;refine pY ha (yMove rfl) fun a ha=>?_;refine gSplit (t:=32) ha rfl (fun hg21=>?_) (fun hg21=>?_)
              · rw [hg21] at ha;refine gOff ha fun a ha=>?_;refine gOff ha fun a ha=>?_;refine gOff ha fun a ha=>?_;refine gOff ha fun a ha=>?_;refine gOffU ha fun a ha=>?_;refine gOffU ha fun a ha=>?_;refine gOffU ha fun a ha=>?_;refine gOff ha fun a ha=>?_;refine pY ha (yPickF rfl rfl) fun a ha=>?_;refine pY ha (yAssign rfl) fun a ha=>?_;refine pZ ⟨rfl,?_⟩;refine ⟨has1 ha ?_,hs.drop⟩;refine congrArg (fun b=>some (Value.bool b)) ?_;unfold sndN emp;rw [Bool.eq_iff_iff]
                have hok':=hok
                have hc0 : cnt ([] : List UInt8) = 0:=rfl
                simp only [decide_eq_true_eq,decide_eq_false_iff_not,Bool.and_eq_true,Bool.or_eq_true,Bool.not_eq_true',Bool.not_eq_false',Bool.and_eq_false_iff,Bool.or_eq_false_iff,Bool.false_eq_true,true_iff,false_iff,iff_true,iff_false,Bool.not_eq_eq_eq_not,Bool.not_true,Bool.not_false,Bool.not_eq_true] at *
                omega
              · rw [hg21] at ha;refine gOn ha ?_;refine pY ha (yFieldA Tryz.runUnderlying116 rfl Tryz.sizeOf4 rfl rfl) fun a ha=>?_;refine gOn ha ?_;refine pY ha (yLoadB Tryz.isAgg4 hs rfl pk0 rfl) fun a ha=>?_;refine gOn ha ?_;refine pY ha (yNot rfl) fun a ha=>?_;refine gOn ha ?_;refine pY ha (yMove rfl) fun a ha=>?_;refine gSplit (t:=36) ha rfl (fun hg25=>?_) (fun hg25=>?_)
                · rw [hg25] at ha;refine gOn ha ?_;refine pY ha (yFieldA Tryz.runUnderlying116 rfl Tryz.sizeOf9 rfl rfl) fun a ha=>?_;refine gOn ha ?_;refine pY ha (yLoadB Tryz.isAgg9 hs rfl pk0 rfl) fun a ha=>?_;refine gOn ha ?_;refine pY ha (yStrEql rfl rfl) fun a ha=>?_;refine gOn ha ?_;refine pY ha (yPickF rfl rfl) fun a ha=>?_;refine pY ha (yPickT rfl rfl) fun a ha=>?_;refine pY ha (yAssign rfl) fun a ha=>?_;refine pZ ⟨rfl,?_⟩;refine ⟨has1 ha ?_,hs.drop⟩;refine congrArg (fun b=>some (Value.bool b)) ?_;unfold sndN emp;rw [Bool.eq_iff_iff]
                  have hok':=hok
                  have hc0 : cnt ([] : List UInt8) = 0:=rfl
                  simp only [decide_eq_true_eq,decide_eq_false_iff_not,Bool.and_eq_true,Bool.or_eq_true,Bool.not_eq_true',Bool.not_eq_false',Bool.and_eq_false_iff,Bool.or_eq_false_iff,Bool.false_eq_true,true_iff,false_iff,iff_true,iff_false,Bool.not_eq_eq_eq_not,Bool.not_true,Bool.not_false,Bool.not_eq_true] at *
                  omega
                · rw [hg25] at ha;refine gOff ha fun a ha=>?_;refine gOff ha fun a ha=>?_;refine gOff ha fun a ha=>?_;refine gOn ha ?_;refine pY ha (yPickT rfl rfl) fun a ha=>?_;refine pY ha (yPickT rfl rfl) fun a ha=>?_;refine pY ha (yAssign rfl) fun a ha=>?_;refine pZ ⟨rfl,?_⟩;refine ⟨has1 ha ?_,hs.drop⟩;refine congrArg (fun b=>some (Value.bool b)) ?_;unfold sndN emp;rw [Bool.eq_iff_iff]
                  have hok':=hok
                  have hc0 : cnt ([] : List UInt8) = 0:=rfl
                  simp only [decide_eq_true_eq,decide_eq_false_iff_not,Bool.and_eq_true,Bool.or_eq_true,Bool.not_eq_true',Bool.not_eq_false',Bool.and_eq_false_iff,Bool.or_eq_false_iff,Bool.false_eq_true,true_iff,false_iff,iff_true,iff_false,Bool.not_eq_eq_eq_not,Bool.not_true,Bool.not_false,Bool.not_eq_true] at *
                  omega
    rintro a w ⟨ha,hs⟩;refine hK4 _ _ ?_;refine wp_ret ?_;show bodyPost Tryz.prog Tryz.f80 _ .ret _ _;refine ret1 rfl ha rfl ?_;exact ⟨rfl,hs⟩
theorem Rooted_c {bt bm : Nat} {xs : List Nod} (id : Int) (hl : xs.length≤1000000000) (hs : Sep W w cs) (hk : Pick cs (.blk bt 103 [.map (some bm)]) r) (hk2 : Pick r (.mpN bm xs) r2) :
    Calls P 81 #[.pointer (some ⟨bt,0,none⟩),.int .i64 id] w (Rt fun v w'=>v = .bool (rooted xs xs.length id)∧Sep W w' cs):=by
  have hp:=hk.perm.trans (hk2.perm.cons _)
  have hs:=hs.perm hp;refine enter Tryz.func81 Tryz.ntmps81 rfl rfl fun a (ha : Has a 24 [(0,_),(1,_)])=>?_;refine wp_seq_k fun K1 hK1=>?_;refine wp_region_lit ?_;refine pY ha (yAssign rfl) fun a ha=>?_;refine pZ ?_;refine hK1 _ _ ?_;refine scopeN (ι:=Nat × Int) 0 (fun i a w=>i.1≤xs.length∧rooted xs xs.length id = rooted xs (xs.length - i.1) i.2∧Has a 24 [(0,.pointer (some ⟨bt,0,none⟩)),(1,.int .i64 i.2),(5,.int .i64 i.1)]∧Sep W w (.blk bt 103 [.map (some bm)]::.mpN bm xs::r2)) (fun i=>xs.length - i.1) 0 ?_ ?_
  · refine wp_seq_k fun K2 hK2=>?_;refine wp_region_lit ?_;refine pY ha (yAssign rfl) fun a ha=>?_;refine pZ ?_;refine hK2 _ _ ?_;refine wp_seq_k fun K3 hK3=>?_;refine wp_label ?_;refine hK3 _ _ ?_;refine wp_seq_k fun K4 hK4=>?_;refine wp_seq_k fun K5 hK5=>?_
    (obtain ⟨n,hn0⟩ : ∃ n : Nat,(0 : Int) = n:=⟨0,rfl⟩
     have ha : Has a 24 [(0,.pointer (some ⟨bt,0,none⟩)),(1,.int .i64 id),(5,.int .i64 n)]:=has3 ha rfl rfl (by rw [← hn0]; rfl)
     obtain ⟨d,hd⟩ : ∃ d,d = id:=⟨_,rfl⟩;rw [← hd] at ha
     have h1 : n≤xs.length:=by omega
     have h2 : rooted xs xs.length id = rooted xs (xs.length - n) d:=by rw [hd,show n = 0 by omega]; rfl)
    refine wp_region_lit ?_;refine pY ha (yMove rfl) fun a ha=>?_;refine pY ha (yEql rfl rfl) fun a ha=>?_;refine pZ ?_;refine hK5 _ _ ?_;refine cDec ha rfl (fun hc7=>?_) (fun hc7=>?_)
    · refine wp_seq_k fun K6 hK6=>?_;refine wp_region_lit ?_;refine pY ha (yAssign rfl) fun a ha=>?_;refine pZ ?_;refine hK6 _ _ ?_;refine wp_ret ?_;show bodyPost Tryz.prog Tryz.f81 _ .ret _ _;refine ret1 rfl ha rfl ?_;refine ⟨congrArg Value.bool ?_,hs.perm hp.symm⟩;rw [h2]
      (cases xs.length - n <;> (simp [rooted,hc7]; done))
    · have hr0 : ∀ k,rooted xs (k + 1) d = rooted xs k (findN xs d).parent:=fun k=>by rw [rooted,decide_eq_false hc7]; rfl
      refine wp_skip ?_;refine hK4 _ _ ?_;refine wp_seq_k fun K7 hK7=>?_;refine wp_seq_k fun K8 hK8=>?_;refine wp_region_lit ?_;refine pY ha (yMove rfl) fun a ha=>?_;refine pY ha (yAddN rfl rfl ⟨by omega,by omega⟩) fun a ha=>?_;refine pY ha (yAssign rfl) fun a ha=>?_;refine pZ ?_;refine hK8 _ _ ?_;refine wp_seq_k fun K9 hK9=>?_;refine wp_region_lit ?_;refine pY ha (yMove rfl) fun a ha=>?_;refine pY ha (yMove rfl) fun a ha=>?_;refine pY ha (yNilP rfl) fun a ha=>?_;refine pY ha (yFieldA Tryz.runUnderlying103 rfl Tryz.sizeOf101 rfl rfl) fun a ha=>?_;refine pY ha (yLoadB Tryz.isAgg101 hs rfl pk0 rfl) fun a ha=>?_;refine pY ha (yLenN hs rfl pk1) fun a ha=>?_;refine pY ha (yGtr rfl rfl) fun a ha=>?_;refine pZ ?_;refine hK9 _ _ ?_;refine cDec ha rfl (fun hc16=>?_) (fun hc16=>?_)
      · refine wp_seq_k fun K10 hK10=>?_;refine wp_region_lit ?_;refine pY ha (yAssign rfl) fun a ha=>?_;refine pZ ?_;refine hK10 _ _ ?_;refine wp_ret ?_;show bodyPost Tryz.prog Tryz.f81 _ .ret _ _;refine ret1 rfl ha rfl ?_;refine ⟨congrArg Value.bool ?_,hs.perm hp.symm⟩;rw [h2]
        (rw [show xs.length - n = 0 by omega,rooted,decide_eq_false hc7])
      · have hr : rooted xs xs.length id = rooted xs (xs.length - (n + 1)) (findN xs d).parent:=by rw [h2,show xs.length - n = xs.length - (n + 1) + 1 by omega,hr0]
        refine wp_skip ?_;refine hK7 _ _ ?_;refine wp_seq_k fun K11 hK11=>?_;refine wp_region_lit ?_;refine pY ha (yMove rfl) fun a ha=>?_;refine pY ha (yNilP rfl) fun a ha=>?_;refine pY ha (yFieldA Tryz.runUnderlying103 rfl Tryz.sizeOf101 rfl rfl) fun a ha=>?_;refine pY ha (yLoadB Tryz.isAgg101 hs rfl pk0 rfl) fun a ha=>?_;refine pY ha (yMove rfl) fun a ha=>?_;refine pY ha (yLookN hs rfl pk1 rfl) fun a ha=>?_;refine pY ha (yField Tryz.runUnderlying116 rfl Tryz.isAgg3 rfl rfl) fun a ha=>?_;refine pY ha (yAssign rfl) fun a ha=>?_;refine pZ ?_;refine hK11 _ _ ?_;refine wp_goto ?_
        repeat (with_reducible first | refine gThen ?_ | refine gBlock ?_)
        refine gxL ?_;refine ⟨(n + 1,(findN xs d).parent),by simp only; omega,hr,has3 ha rfl rfl rfl,hs⟩
  · rintro i a w ⟨h1,h2,ha,hs⟩;refine ⟨_,rfl,?_⟩;refine wp_seq_k fun K12 hK12=>?_;refine wp_skip ?_;refine hK12 _ _ ?_;refine wp_seq_k fun K13 hK13=>?_;refine wp_seq_k fun K14 hK14=>?_
    (obtain ⟨n,d⟩:=i; simp only at h1 h2 ha hs; obtain hnn : n = n:=rfl)
    refine wp_region_lit ?_;refine pY ha (yMove rfl) fun a ha=>?_;refine pY ha (yEql rfl rfl) fun a ha=>?_;refine pZ ?_;refine hK14 _ _ ?_;refine cDec ha rfl (fun hc7=>?_) (fun hc7=>?_)
    · refine wp_seq_k fun K15 hK15=>?_;refine wp_region_lit ?_;refine pY ha (yAssign rfl) fun a ha=>?_;refine pZ ?_;refine hK15 _ _ ?_;refine wp_ret ?_;show bodyPost Tryz.prog Tryz.f81 _ .ret _ _;refine ret1 rfl ha rfl ?_;refine ⟨congrArg Value.bool ?_,hs.perm hp.symm⟩;rw [h2]
      (cases xs.length - n <;> (simp [rooted,hc7]; done))
    · have hr0 : ∀ k,rooted xs (k + 1) d = rooted xs k (findN xs d).parent:=fun k=>by rw [rooted,decide_eq_false hc7]; rfl
      refine wp_skip ?_;refine hK13 _ _ ?_;refine wp_seq_k fun K16 hK16=>?_;refine wp_seq_k fun K17 hK17=>?_;refine wp_region_lit ?_;refine pY ha (yMove rfl) fun a ha=>?_;refine pY ha (yAddN rfl rfl ⟨by omega,by omega⟩) fun a ha=>?_;refine pY ha (yAssign rfl) fun a ha=>?_;refine pZ ?_;refine hK17 _ _ ?_;refine wp_seq_k fun K18 hK18=>?_;refine wp_region_lit ?_;refine pY ha (yMove rfl) fun a ha=>?_;refine pY ha (yMove rfl) fun a ha=>?_;refine pY ha (yNilP rfl) fun a ha=>?_;refine pY ha (yFieldA Tryz.runUnderlying103 rfl Tryz.sizeOf101 rfl rfl) fun a ha=>?_;refine pY ha (yLoadB Tryz.isAgg101 hs rfl pk0 rfl) fun a ha=>?_;refine pY ha (yLenN hs rfl pk1) fun a ha=>?_;refine pY ha (yGtr rfl rfl) fun a ha=>?_;refine pZ ?_;refine hK18 _ _ ?_;refine cDec ha rfl (fun hc16=>?_) (fun hc16=>?_)
      · refine wp_seq_k fun K19 hK19=>?_;refine wp_region_lit ?_;refine pY ha (yAssign rfl) fun a ha=>?_;refine pZ ?_;refine hK19 _ _ ?_;refine wp_ret ?_;show bodyPost Tryz.prog Tryz.f81 _ .ret _ _;refine ret1 rfl ha rfl ?_;refine ⟨congrArg Value.bool ?_,hs.perm hp.symm⟩;rw [h2]
        (rw [show xs.length - n = 0 by omega,rooted,decide_eq_false hc7])
      · have hr : rooted xs xs.length id = rooted xs (xs.length - (n + 1)) (findN xs d).parent:=by rw [h2,show xs.length - n = xs.length - (n + 1) + 1 by omega,hr0]
        refine wp_skip ?_;refine hK16 _ _ ?_;refine wp_seq_k fun K20 hK20=>?_;refine wp_region_lit ?_;refine pY ha (yMove rfl) fun a ha=>?_;refine pY ha (yNilP rfl) fun a ha=>?_;refine pY ha (yFieldA Tryz.runUnderlying103 rfl Tryz.sizeOf101 rfl rfl) fun a ha=>?_;refine pY ha (yLoadB Tryz.isAgg101 hs rfl pk0 rfl) fun a ha=>?_;refine pY ha (yMove rfl) fun a ha=>?_;refine pY ha (yLookN hs rfl pk1 rfl) fun a ha=>?_;refine pY ha (yField Tryz.runUnderlying116 rfl Tryz.isAgg3 rfl rfl) fun a ha=>?_;refine pY ha (yAssign rfl) fun a ha=>?_;refine pZ ?_;refine hK20 _ _ ?_;refine wp_goto ?_
        repeat (with_reducible first | refine gThen ?_ | refine gBlock ?_)
        refine gxL ?_;refine ⟨(n + 1,(findN xs d).parent),⟨by simp only; omega,hr,has3 ha rfl rfl rfl,hs⟩,by simp only; omega⟩
theorem All_c (hT : Tabs W) {bt bm : Nat} {xs : List Nod} (hl : xs.length≤1000000000) (hok : ∀ x ∈ xs,okText x.text.data.toList = true∧cnt x.text.data.toList≤2000∧x.text.size≤1000000000) (hs : Sep W w cs) (hk : Pick cs (.blk bt 103 [.map (some bm)]) r) (hk2 : Pick r (.mpN bm xs) r2) :
    Calls P 82 #[.pointer (some ⟨bt,0,none⟩)] w (Rt fun v w'=>v = .int .i64 (sumN xs)∧Sep W w' cs):=by
  have hp:=hk.perm.trans (hk2.perm.cons _)
  have hs:=hs.perm hp
  have hsum:=sumN_le (B:=2000) xs (fun x hx=>(hok x hx).2.1)
  have hnd:=mE_nodup 0 xs
  refine enter Tryz.func82 Tryz.ntmps82 rfl rfl fun a (ha : Has a 26 [(0,_)])=>?_;refine wp_seq_k fun K1 hK1=>?_;refine wp_region_lit ?_;refine pY ha (yAssign rfl) fun a ha=>?_;refine pZ ?_;refine hK1 _ _ ?_;refine wp_seq_k fun K2 hK2=>?_;refine wp_seq_k fun K3 hK3=>?_;refine wp_region_lit ?_;refine pY ha (yMove rfl) fun a ha=>?_;refine pY ha (yNilP rfl) fun a ha=>?_;refine pY ha (yFieldA Tryz.runUnderlying103 rfl Tryz.sizeOf101 rfl rfl) fun a ha=>?_;refine pY ha (yLoadB Tryz.isAgg101 hs rfl pk0 rfl) fun a ha=>?_;refine pRangeM ha Tryz.runUnderlying101 hs rfl (.there .here) rfl fun bi w hs a ha=>?_;refine pZ ?_;refine hK3 _ _ ?_;refine wp_block ?_;refine loopI (ι:=Nat × Array Nat) (fun i a w=>i.1 + ((leftOf (mE 0 xs).toArray i.2).toList.map wtE).sum = sumN xs∧Has a 26 [(2,.int .i64 i.1),(11,.pointer (some ⟨bi,0,none⟩))]∧Sep W w (.own bi (.mapIter (some bm) xs.length i.2 xs.length)::.blk bt 103 [.map (some bm)]::.mpN bm xs::r2)) (fun i=>(leftOf (mE 0 xs).toArray i.2).size) ((0,#[])) ?_ ?_
  · exact ⟨by rw [left_start]; simp [sum_mE],has2 ha rfl rfl,hs⟩
  · rintro i a w ⟨h1,ha,hs⟩;obtain ⟨n,seen⟩:=i; simp only at h1 ha hs;refine wp_seq_k fun K4 hK4=>?_;refine wp_region_lit ?_;refine pNextM ha hs rfl .here (.there .here) (fun e he=>by have:=(mE_mem 0 xs e (by simpa using he)).2.2; omega) rfl (fun h0 a ha=>?_) (fun e he w hs a ha=>?_)
    · skip
      refine pY ha (yExtract rfl rfl) fun a ha=>?_;refine pZ ?_;refine hK4 _ _ ?_;refine wp_seq_k fun K5 hK5=>?_;refine cFalse ha rfl ?_;refine wp_exit ?_;refine hK2 _ _ ?_;refine wp_seq_k fun K6 hK6=>?_
      have h3 : (leftOf (mE 0 xs).toArray seen).toList = []:=by
        apply List.eq_nil_of_length_eq_zero
        simpa using h0
      rw [h3] at h1;simp only [List.map_nil,List.sum_nil,Nat.add_zero] at h1;refine wp_region_lit ?_;refine pY ha (yMove rfl) fun a ha=>?_;refine pY ha (yAssign rfl) fun a ha=>?_;refine pZ ?_;refine hK6 _ _ ?_;refine wp_ret ?_;show bodyPost Tryz.prog Tryz.f82 _ .ret _ _;refine ret1 rfl ha rfl ?_;rw [← h1]; exact ⟨rfl,hs.drop.perm hp.symm⟩
    · obtain ⟨⟨x,hx,hk1,hv1⟩,_⟩:=mE_mem 0 xs e (by simpa using left_mem he)
      have hee:=left_mem he
      obtain ⟨hs1,hs2⟩:=left_step (es:=(mE 0 xs).toArray) (by simpa using hnd) he;obtain ⟨ek,evv,eb⟩:=e;simp only at hk1 hv1;subst hk1;subst hv1
      change ((leftOf (mE 0 xs).toArray seen).toList.map wtE).sum = cnt x.text.data.toList + ((leftOf (mE 0 xs).toArray (seen.push eb)).toList.map wtE).sum at hs1
      change (leftOf (mE 0 xs).toArray (seen.push eb)).size < _ at hs2
      obtain ⟨hx1,hx2,hx3⟩:=hok x hx
      skip
      refine pY ha (yExtract rfl rfl) fun a ha=>?_;refine pZ ?_;refine hK4 _ _ ?_;refine wp_seq_k fun K7 hK7=>?_;refine cTrue ha rfl ?_;refine wp_skip ?_;refine hK7 _ _ ?_;refine wp_block ?_;refine wp_seq_k fun K8 hK8=>?_;refine wp_region_lit ?_;refine pY ha (yEntry (e:=⟨.int .i64 x.id,.agg (cN x).toArray,eb⟩) hs rfl .here (.there .here) hee (by simpa using hnd)) fun a ha=>?_;refine pY ha (yExtract rfl rfl) fun a ha=>?_;refine pAlloc (zs:=[.int .i64 0,.int .i64 0,.string ⟨#[]⟩,.bool false,.string ⟨#[]⟩]) ha Tryz.zeroValue116 rfl hs rfl fun b w hs a ha=>?_;unfold cN at ha;refine pStoreA ha Tryz.sizeOf116 hs rfl rfl pk0 rfl rfl rfl fun w hs=>?_;refine pZ ?_;refine hK8 _ _ ?_;refine wp_seq_k fun K9 hK9=>?_;refine wp_region_lit ?_;refine pY ha (yFieldA Tryz.runUnderlying116 rfl Tryz.sizeOf9 rfl rfl) fun a ha=>?_;refine pY ha (yLoadB Tryz.isAgg9 hs rfl pk0 rfl) fun a ha=>?_;refine pC ha (nCall Tryz.call100 rfl) rfl (Count_c hT x.text (by omega) hs) ?_;rintro v w ⟨rfl,hs⟩ a ha;rw [if_pos hx1] at ha;refine pY ha (yMove rfl) fun a ha=>?_;refine pY ha (yExtract rfl rfl) fun a ha=>?_;refine pY ha (yExtract rfl rfl) fun a ha=>?_;refine pY ha (yAssign rfl) fun a ha=>?_;refine pY ha (yAssign rfl) fun a ha=>?_;refine pZ ?_;refine hK9 _ _ ?_;refine wp_region_lit ?_;refine pY ha (yMove rfl) fun a ha=>?_;refine pY ha (yMove rfl) fun a ha=>?_;refine pY ha (yAddN rfl rfl ⟨by omega,by omega⟩) fun a ha=>?_;refine pY ha (yAssign rfl) fun a ha=>?_;refine pZ ?_;exact ⟨(n + cnt x.text.data.toList,seen.push eb),⟨by simp only; omega,has2 ha rfl rfl,hs.drop⟩,hs2⟩
theorem has8 {N : Nat} {a : Act} {l : List (Nat × Value)} {t1 t2 t3 t4 t5 t6 t7 t8 : Nat} {v1 v2 v3 v4 v5 v6 v7 v8 : Value} (ha : Has a N l) (h1 : lk l t1 = some v1) (h2 : lk l t2 = some v2) (h3 : lk l t3 = some v3) (h4 : lk l t4 = some v4) (h5 : lk l t5 = some v5) (h6 : lk l t6 = some v6) (h7 : lk l t7 = some v7) (h8 : lk l t8 = some v8) :
    Has a N [(t1,v1),(t2,v2),(t3,v3),(t4,v4),(t5,v5),(t6,v6),(t7,v7),(t8,v8)]:=ha.cons (ha.cons (has6 ha h3 h4 h5 h6 h7 h8) h2) h1
theorem has7 {N : Nat} {a : Act} {l : List (Nat × Value)} {t1 t2 t3 t4 t5 t6 t7 : Nat} {v1 v2 v3 v4 v5 v6 v7 : Value} (ha : Has a N l) (h1 : lk l t1 = some v1) (h2 : lk l t2 = some v2) (h3 : lk l t3 = some v3) (h4 : lk l t4 = some v4) (h5 : lk l t5 = some v5) (h6 : lk l t6 = some v6) (h7 : lk l t7 = some v7) :
    Has a N [(t1,v1),(t2,v2),(t3,v3),(t4,v4),(t5,v5),(t6,v6),(t7,v7)]:=ha.cons (has6 ha h2 h3 h4 h5 h6 h7) h1
/-- What a loaded tree comes to. -/
theorem load_yes {xs : List Nod} (h1 : allN (goodN xs) xs.length = true) (h2 : allN (fun i=>standN xs (xs.getD i noN)) xs.length = true) : loadOk xs = (decide ((keysN xs).length = xs.length) && decide (xs.length≤100) && decide (sumN xs≤10000)):=by
  have hk:=(keys_len (xs:=xs) (Nat.le_refl _)).2
  rw [List.take_length] at hk;unfold loadOk;rw [h1,h2]
  have : allN (aloneN xs) xs.length = decide ((keysN xs).length = xs.length):=by
    rw [Bool.eq_iff_iff,decide_eq_true_eq]; exact hk.symm
  rw [this]; rfl
theorem Load_c (hT : Tabs W) {A : Option Addr} {n c : Nat} {xs : List Nod} (hm : ∀ x ∈ xs,mN x) (hlen : xs.length≤1000000000) (hs : Sep W w cs) (hk : Pick cs (.rd kNod (.slice A n c) xs) r) :
    Calls P 56 #[.slice A n c] w (Rt fun v w'=>if loadOk xs = true then ∃ b bm,v = .tuple #[.pointer (some ⟨b,0,none⟩),.int .i64 0]∧Sep W w' (.blk b 103 [.map (some bm)]::.mpN bm xs::cs) else v = .tuple #[.pointer none,.int .i64 1]∧Sep W w' cs):=by
  obtain ⟨rfl,hl⟩:=hs.rd_shape hk;have hs:=hs.cpR hk;refine enter Tryz.func56 Tryz.ntmps56 rfl rfl fun a (ha : Has a 92 [(0,_)])=>?_;refine wp_seq_k fun K1 hK1=>?_;refine wp_region_lit ?_;refine pY ha (yAssign rfl) fun a ha=>?_;refine pY ha (yAssign rfl) fun a ha=>?_;refine pZ ?_;refine hK1 _ _ ?_;refine wp_seq_k fun K2 hK2=>?_;refine wp_region_lit ?_;refine pC ha (nCall Tryz.call20 rfl) rfl (New_c hs) ?_;rintro v w ⟨bt,bm,rfl,hs⟩ a ha;refine pY ha (yAssign rfl) fun a ha=>?_;refine pZ ?_;refine hK2 _ _ ?_;refine wp_seq_k fun K3 hK3=>?_;refine wp_region_lit ?_;refine pY ha (yAssign rfl) fun a ha=>?_;refine pZ ?_;refine hK3 _ _ ?_;refine wp_seq_k fun K4 hK4=>?_;refine wp_seq_k fun K5 hK5=>?_;refine wp_region_lit ?_;refine pY ha (yMove rfl) fun a ha=>?_;refine pY ha (yLenS Tryz.runUnderlying22 rfl) fun a ha=>?_;refine pY ha (yMove rfl) fun a ha=>?_;refine pZ ?_;refine hK5 _ _ ?_;refine wp_block ?_;refine loopI (ι:=Nat) (fun i a w=>i≤xs.length∧allN (goodN xs) i = true∧Has a 92 [(0,.slice A xs.length c),(4,.pointer (some ⟨bt,0,none⟩)),(5,.int .i64 (lastN xs i)),(12,.slice A xs.length c),(13,.int .i64 xs.length),(14,.int .i64 i)]∧Sep W w (.blk bt 103 [.map (some bm)]::.mpN bm (xs.take i)::.rd kNod (.slice A xs.length c) xs::cs)) (fun i=>xs.length - i) (0) ?_ ?_
  · exact ⟨Nat.zero_le _,rfl,has6 ha rfl rfl rfl rfl rfl rfl,hs⟩
  · rintro i a w ⟨h1,h2,ha,hs⟩;refine wp_seq_k fun K6 hK6=>?_;refine wp_region_lit ?_;refine pY ha (yLss rfl rfl) fun a ha=>?_;refine pZ ?_;refine hK6 _ _ ?_;refine wp_seq_k fun K7 hK7=>?_;refine cDec ha rfl (fun hc15=>?_) (fun hc15=>?_)
    · obtain ⟨x,hx⟩ : ∃ x,xs[i]? = some x:=⟨_,List.getElem?_eq_getElem (by omega)⟩
      have hmx:=hm x (List.mem_of_getElem? hx)
      obtain ⟨b0,off,rfl,hs⟩:=hs.rd_nod (.there (.there .here)) hx;refine wp_skip ?_;refine hK7 _ _ ?_;refine wp_seq_k fun K8 hK8=>?_;refine wp_block ?_;refine wp_seq_k fun K9 hK9=>?_;refine wp_region_lit ?_;refine pY ha (yIndexA Tryz.runUnderlying22 Tryz.sizeOf116 rfl rfl (by omega) (by omega)) fun a ha=>?_;refine pY ha (yLoadRA Tryz.isAgg116 Tryz.sizeOf116 hs rfl pk0 rfl) fun a ha=>?_;refine pAlloc (zs:=[.int .i64 0,.int .i64 0,.string ⟨#[]⟩,.bool false,.string ⟨#[]⟩]) ha Tryz.zeroValue116 rfl hs rfl fun bx w hs a ha=>?_;refine pStoreA ha Tryz.sizeOf116 hs rfl rfl pk0 rfl rfl rfl fun w hs=>?_;refine pZ ?_;have hs:=hs.drop2;refine hK9 _ _ ?_;refine wp_seq_k fun K10 hK10=>?_;refine wp_seq_k fun K11 hK11=>?_;refine wp_region_lit ?_;refine pY ha (yLoadBA Tryz.isAgg116 Tryz.sizeOf116 hs rfl pk0 rfl) fun a ha=>?_;refine pC ha (nCall Tryz.call80 rfl) rfl (TreeSound_c hT x hmx hs) ?_;rintro v w ⟨rfl,hs⟩ a ha;refine pY ha (yNot rfl) fun a ha=>?_;refine pY ha (yMove rfl) fun a ha=>?_;refine gSplit (t:=21) ha rfl (fun hg3=>?_) (fun hg3=>?_)
      · rw [hg3] at ha
        have hsn : sndN x = true:=by simpa using hg3
        refine gOn ha ?_;refine pY ha (yFieldA Tryz.runUnderlying116 rfl Tryz.sizeOf3 rfl rfl) fun a ha=>?_;refine gOn ha ?_;refine pY ha (yLoadB Tryz.isAgg3 hs rfl pk0 rfl) fun a ha=>?_;refine gOn ha ?_;refine pY ha (yMove rfl) fun a ha=>?_;refine gOn ha ?_;refine pY ha (yLeq rfl rfl) fun a ha=>?_;refine pY ha (yPickF rfl rfl) fun a ha=>?_;refine pZ ?_;refine hK11 _ _ ?_;refine cDec ha rfl (fun hc26=>?_) (fun hc26=>?_)
        · have hb1 : goodN xs i = false:=by rw [good_at hx,decide_eq_false (by omega)]; simp
          refine wp_seq_k fun K12 hK12=>?_;refine wp_region_lit ?_;refine pY ha (yAssign rfl) fun a ha=>?_;refine pY ha (yAssign rfl) fun a ha=>?_;refine pZ ?_;refine hK12 _ _ ?_;refine wp_ret ?_;show bodyPost Tryz.prog Tryz.f56 _ .ret _ _;refine ret2 rfl ha rfl rfl ?_
          (rw [if_neg (by intro hh; unfold loadOk at hh; rw [allN_no (i:=i) (n:=xs.length) (by omega) hb1] at hh; simp at hh)]; exact ⟨rfl,hs.drop.drop.drop.drop⟩)
        · have hgood : goodN xs i = true:=by rw [good_at hx,hsn,decide_eq_true (by omega)]; rfl
          refine wp_skip ?_;refine hK10 _ _ ?_;refine wp_seq_k fun K13 hK13=>?_;refine wp_region_lit ?_;refine pY ha (yFieldA Tryz.runUnderlying116 rfl Tryz.sizeOf3 rfl rfl) fun a ha=>?_;refine pY ha (yLoadB Tryz.isAgg3 hs rfl pk0 rfl) fun a ha=>?_;refine pY ha (yAssign rfl) fun a ha=>?_;refine pZ ?_;refine hK13 _ _ ?_
          have hris:=rising (xs:=xs) (i:=i) (y:=x.id) h1 h2 (by rw [good_at hx] at hgood; simp only [Bool.and_eq_true,decide_eq_true_eq] at hgood; exact hgood.2)
          refine dStart (fun w=>∃ rs,Sep W w (.blk bx 116 [.int .i64 x.id,.int .i64 x.parent,.string x.name,.bool x.dir,.string x.text]::.blk bt 103 [.map (some bm)]::rs)) [7] 255 127 (by kernel_rfl) (by kernel_rfl) rfl (⟨_,hs.drew.pick pk0⟩) ?_
          have hs:=Sep.drew hs
          generalize World.drew _ = w at hs ⊢;refine dP 0 1 rfl ha (fun _=>yMove rfl) fun a ha=>?_;refine dP 1 3 rfl ha (fun _=>yNilP rfl) fun a ha=>?_;refine dP 2 7 rfl ha (fun _=>yFieldA Tryz.runUnderlying103 rfl Tryz.sizeOf101 rfl rfl) fun a ha=>?_;refine dT 3 15 rfl ha (fun _ ⟨rs,hs⟩=>yLoadB Tryz.isAgg101 hs rfl pk1 rfl) (⟨_,hs.pick pk0⟩) fun a ha=>?_;refine dP 4 31 rfl ha (fun _=>yFieldA Tryz.runUnderlying116 rfl Tryz.sizeOf3 rfl rfl) fun a ha=>?_;refine dT 5 63 rfl ha (fun _ ⟨rs,hs⟩=>yLoadB Tryz.isAgg3 hs rfl pk0 rfl) (⟨_,hs.pick pk0⟩) fun a ha=>?_;refine dT 6 127 rfl ha (fun _ ⟨rs,hs⟩=>yLoadBA Tryz.isAgg116 Tryz.sizeOf116 hs rfl pk0 rfl) (⟨_,hs.pick pk0⟩) fun a ha=>?_;refine dMapNewl (n:=x) 7 255 rfl (by kernel_rfl) rfl ha won0 hs rfl pk2 rfl rfl (fun m hm=>by have:=hris m hm; omega) ?_;intro w hs;refine dZ (by kernel_rfl) ?_;refine hK8 _ _ ?_;refine wp_region_lit ?_;refine pY ha (yAddN rfl rfl ⟨by omega,by omega⟩) fun a ha=>?_;refine pY ha (yMove rfl) fun a ha=>?_;refine pZ ?_
          have e1 : xs.take (i + 1) = xs.take i++[x]:=by rw [List.take_add_one,hx]; rfl
          refine ⟨i + 1,⟨by omega,by simp only [allN,h2,hgood,Bool.and_self],has6 ha rfl rfl (by rw [last_next hx]; rfl) rfl rfl rfl,?_⟩,by omega⟩;rw [e1];exact (hs.drop2).pick (.there .here)
      · rw [hg3] at ha
        have hb1 : goodN xs i = false:=by rw [good_at hx]; simp at hg3; rw [hg3]; rfl
        refine gOff ha fun a ha=>?_;refine gOff ha fun a ha=>?_;refine gOff ha fun a ha=>?_;refine gOff ha fun a ha=>?_;refine pY ha (yPickT rfl rfl) fun a ha=>?_;refine pZ ?_;refine hK11 _ _ ?_;refine cTrue ha rfl ?_;refine wp_seq_k fun K14 hK14=>?_;refine wp_region_lit ?_;refine pY ha (yAssign rfl) fun a ha=>?_;refine pY ha (yAssign rfl) fun a ha=>?_;refine pZ ?_;refine hK14 _ _ ?_;refine wp_ret ?_;show bodyPost Tryz.prog Tryz.f56 _ .ret _ _;refine ret2 rfl ha rfl rfl ?_
        (rw [if_neg (by intro hh; unfold loadOk at hh; rw [allN_no (i:=i) (n:=xs.length) (by omega) hb1] at hh; simp at hh)]; exact ⟨rfl,hs.drop.drop.drop.drop⟩)
    · refine wp_exit ?_;refine hK4 _ _ ?_;refine wp_seq_k fun K15 hK15=>?_
      have hi : i = xs.length:=by omega
      rw [List.take_of_length_le (by omega)] at hs;rw [hi] at h2
      have hgo:=h2
      have hsnd : ∀ x ∈ xs,okText x.text.data.toList = true∧cnt x.text.data.toList≤2000∧x.text.size≤1000000000:=fun x hx=>by
        obtain ⟨j,hj,rfl⟩:=List.mem_iff_getElem.1 hx
        have hg:=allN_iff.1 hgo j hj
        rw [good_at (List.getElem?_eq_getElem hj)] at hg;unfold sndN at hg;simp only [Bool.and_eq_true,decide_eq_true_eq] at hg;exact ⟨hg.1.1.1.2,hg.1.1.2,(hm _ hx).2⟩
      refine wp_region_lit ?_;refine pMakeMap ha hs rfl fun bn w hs a ha=>?_;refine pY ha (yAssign rfl) fun a ha=>?_;refine pZ ?_
      have hs : Sep W w (.mpK bn []::_):=Sep.pack (f:=fun vs : {vs : List Int // vs.length = ([] : List Key).length}=>.mpV bn [] vs.1) ⟨[],rfl⟩ hs
      refine hK15 _ _ ?_;refine wp_seq_k fun K16 hK16=>?_;refine wp_seq_k fun K17 hK17=>?_;refine wp_region_lit ?_;refine pY ha (yMove rfl) fun a ha=>?_;refine pY ha (yLenS Tryz.runUnderlying22 rfl) fun a ha=>?_;refine pY ha (yMove rfl) fun a ha=>?_;refine pZ ?_;refine hK17 _ _ ?_;refine wp_block ?_;refine loopI (ι:=Nat) (fun j a w=>j≤xs.length∧allN (fun i=>standN xs (xs.getD i noN)) j = true∧Has a 92 [(0,.slice A xs.length c),(4,.pointer (some ⟨bt,0,none⟩)),(8,.map (some bn)),(38,.slice A xs.length c),(39,.int .i64 xs.length),(40,.int .i64 j)]∧Sep W w (.mpK bn (keysN (xs.take j))::.blk bt 103 [.map (some bm)]::.mpN bm xs::.rd kNod (.slice A xs.length c) xs::cs)) (fun j=>xs.length - j) (0) ?_ ?_
      · exact ⟨Nat.zero_le _,rfl,has6 ha rfl rfl rfl rfl rfl rfl,hs⟩
      · rintro j a w ⟨g1,g2,ha,hs⟩;refine wp_seq_k fun K18 hK18=>?_;refine wp_region_lit ?_;refine pY ha (yLss rfl rfl) fun a ha=>?_;refine pZ ?_;refine hK18 _ _ ?_;refine wp_seq_k fun K19 hK19=>?_;refine cDec ha rfl (fun hc41=>?_) (fun hc41=>?_)
        · obtain ⟨x,hx⟩ : ∃ x,xs[j]? = some x:=⟨_,List.getElem?_eq_getElem (by omega)⟩
          have hgx : xs.getD j noN = x:=by rw [List.getD_eq_getElem?_getD,hx]; rfl
          obtain ⟨b0,off,rfl,hs⟩:=hs.rd_nod (.there (.there (.there .here))) hx;refine wp_skip ?_;refine hK19 _ _ ?_;refine wp_seq_k fun K20 hK20=>?_;refine wp_block ?_;refine wp_seq_k fun K21 hK21=>?_;refine wp_region_lit ?_;refine pY ha (yIndexA Tryz.runUnderlying22 Tryz.sizeOf116 rfl rfl (by omega) (by omega)) fun a ha=>?_;refine pY ha (yLoadRA Tryz.isAgg116 Tryz.sizeOf116 hs rfl pk0 rfl) fun a ha=>?_;refine pAlloc (zs:=[.int .i64 0,.int .i64 0,.string ⟨#[]⟩,.bool false,.string ⟨#[]⟩]) ha Tryz.zeroValue116 rfl hs rfl fun bx w hs a ha=>?_;refine pStoreA ha Tryz.sizeOf116 hs rfl rfl pk0 rfl rfl rfl fun w hs=>?_;refine pZ ?_
          have hs:=(hs.drop2).pick (.there .here)
          refine hK21 _ _ ?_;refine wp_seq_k fun K22 hK22=>?_;refine wp_seq_k fun K23 hK23=>?_;refine cutC (fun a w=>Has a 92 [(64,.bool (!standN xs x)),(0,.slice (some ⟨b0,off,none⟩) xs.length c),(4,.pointer (some ⟨bt,0,none⟩)),(8,.map (some bn)),(10,.pointer (some ⟨bx,0,none⟩)),(38,.slice (some ⟨b0,off,none⟩) xs.length c),(39,.int .i64 xs.length),(40,.int .i64 j)]∧Sep W w (.mpK bn (keysN (xs.take j))::.blk bx 116 [.int .i64 x.id,.int .i64 x.parent,.string x.name,.bool x.dir,.string x.text]::.blk bt 103 [.map (some bm)]::.mpN bm xs::.rd kNod (.slice (some ⟨b0,off,none⟩) xs.length c) xs::cs)) ?_ ?_
          · refine dStart (fun w=>∃ rs,Sep W w (.mpK bn (keysN (xs.take j))::.blk bx 116 [.int .i64 x.id,.int .i64 x.parent,.string x.name,.bool x.dir,.string x.text]::.blk bt 103 [.map (some bm)]::.mpN bm xs::rs)) [18] 2097151 262143 (by kernel_rfl) (by kernel_rfl) rfl (⟨_,hs.drew.pick pk0⟩) ?_
            have hs:=Sep.drew hs
            generalize World.drew _ = w at hs ⊢;refine dP 0 1 rfl ha (fun _=>yFieldA Tryz.runUnderlying116 rfl Tryz.sizeOf3 rfl rfl) fun a ha=>?_;refine dT 1 3 rfl ha (fun _ ⟨rs,hs⟩=>yLoadB Tryz.isAgg3 hs rfl pk1 rfl) (⟨_,hs.pick pk0⟩) fun a ha=>?_;refine dP 2 7 rfl ha (fun _=>yNeq rfl rfl) fun a ha=>?_;refine dP 3 15 rfl ha (fun _=>yMove rfl) fun a ha=>?_;refine gSplit (t:=47) ha rfl (fun hg3=>?_) (fun hg3=>?_)
            · rw [hg3] at ha;refine dOff 4 31 rfl ha fun a ha=>?_;refine dOff 5 63 rfl ha fun a ha=>?_;refine dOff 6 127 rfl ha fun a ha=>?_;refine dOff 7 255 rfl ha fun a ha=>?_;refine dOff 8 511 rfl ha fun a ha=>?_;refine dOff 9 1023 rfl ha fun a ha=>?_;refine dOff 10 2047 rfl ha fun a ha=>?_;refine dOff 11 4095 rfl ha fun a ha=>?_;refine dOff 12 8191 rfl ha fun a ha=>?_;refine dP 13 16383 rfl ha (fun _=>yPickF rfl rfl) fun a ha=>?_;refine dP 14 32767 rfl ha (fun _=>yMove rfl) fun a ha=>?_;refine dP 15 65535 rfl ha (fun _=>yMove rfl) fun a ha=>?_;refine dP 16 131071 rfl ha (fun _=>yFieldA Tryz.runUnderlying116 rfl Tryz.sizeOf3 rfl rfl) fun a ha=>?_;refine dT 17 262143 rfl ha (fun _ ⟨rs,hs⟩=>yLoadB Tryz.isAgg3 hs rfl pk1 rfl) (⟨_,hs.pick pk0⟩) fun a ha=>?_;refine dCl 18 524287 rfl (by kernel_rfl) rfl ha (won1 rfl rfl rfl) (nCall Tryz.call81 rfl) rfl (Rooted_c x.id hlen hs pk2 pk2) ?_;rintro v w ⟨rfl,hs⟩ a ha;refine dP 19 1048575 rfl ha (fun _=>yNot rfl) fun a ha=>?_;refine dP 20 2097151 rfl ha (fun _=>yPickF rfl rfl) fun a ha=>?_;refine dZ (by kernel_rfl) ?_;refine ⟨rfl,?_⟩;refine ⟨has8 ha ?_ rfl rfl rfl rfl rfl rfl rfl,hs⟩;refine congrArg (fun b=>some (Value.bool b)) ?_;unfold standN
              (rw [decide_eq_true (show x.parent = 0 by simpa using hg3)]; simp; done)
            · rw [hg3] at ha;refine dP 4 31 rfl ha (fun _=>yMove rfl) fun a ha=>?_;refine dP 5 63 rfl ha (fun _=>yNilP rfl) fun a ha=>?_;refine dP 6 127 rfl ha (fun _=>yFieldA Tryz.runUnderlying103 rfl Tryz.sizeOf101 rfl rfl) fun a ha=>?_;refine dT 7 255 rfl ha (fun _ ⟨rs,hs⟩=>yLoadB Tryz.isAgg101 hs rfl pk2 rfl) (⟨_,hs.pick pk0⟩) fun a ha=>?_;refine dP 8 511 rfl ha (fun _=>yFieldA Tryz.runUnderlying116 rfl Tryz.sizeOf3 rfl rfl) fun a ha=>?_;refine dT 9 1023 rfl ha (fun _ ⟨rs,hs⟩=>yLoadB Tryz.isAgg3 hs rfl pk1 rfl) (⟨_,hs.pick pk0⟩) fun a ha=>?_;refine dT 10 2047 rfl ha (fun _ ⟨rs,hs⟩=>yLookN hs rfl pk3 rfl) (⟨_,hs.pick pk0⟩) fun a ha=>?_;refine dP 11 4095 rfl ha (fun _=>yField Tryz.runUnderlying116 rfl Tryz.isAgg4 rfl rfl) fun a ha=>?_;refine dP 12 8191 rfl ha (fun _=>yNot rfl) fun a ha=>?_;refine dP 13 16383 rfl ha (fun _=>yPickT rfl rfl) fun a ha=>?_;refine dP 14 32767 rfl ha (fun _=>yMove rfl) fun a ha=>?_;refine gSplit (t:=58) ha rfl (fun hg14=>?_) (fun hg14=>?_)
              · rw [hg14] at ha;refine dP 15 65535 rfl ha (fun _=>yMove rfl) fun a ha=>?_;refine dP 16 131071 rfl ha (fun _=>yFieldA Tryz.runUnderlying116 rfl Tryz.sizeOf3 rfl rfl) fun a ha=>?_;refine dT 17 262143 rfl ha (fun _ ⟨rs,hs⟩=>yLoadB Tryz.isAgg3 hs rfl pk1 rfl) (⟨_,hs.pick pk0⟩) fun a ha=>?_;refine dCl 18 524287 rfl (by kernel_rfl) rfl ha (won1 rfl rfl rfl) (nCall Tryz.call81 rfl) rfl (Rooted_c x.id hlen hs pk2 pk2) ?_;rintro v w ⟨rfl,hs⟩ a ha;refine dP 19 1048575 rfl ha (fun _=>yNot rfl) fun a ha=>?_;refine dP 20 2097151 rfl ha (fun _=>yPickF rfl rfl) fun a ha=>?_;refine dZ (by kernel_rfl) ?_;refine ⟨rfl,?_⟩;refine ⟨has8 ha ?_ rfl rfl rfl rfl rfl rfl rfl,hs⟩;refine congrArg (fun b=>some (Value.bool b)) ?_;unfold standN
                (rw [decide_eq_false (show ¬ x.parent = 0 by simpa using hg3)]; simp at hg14; rw [hg14]; rfl)
              · rw [hg14] at ha;refine dOff 15 65535 rfl ha fun a ha=>?_;refine dOff 16 131071 rfl ha fun a ha=>?_;refine dOff 17 262143 rfl ha fun a ha=>?_;refine dOff 18 524287 rfl ha fun a ha=>?_;refine dOff 19 1048575 rfl ha fun a ha=>?_;refine dP 20 2097151 rfl ha (fun _=>yPickT rfl rfl) fun a ha=>?_;refine dZ (by kernel_rfl) ?_;refine ⟨rfl,?_⟩;refine ⟨has8 ha ?_ rfl rfl rfl rfl rfl rfl rfl,hs⟩;refine congrArg (fun b=>some (Value.bool b)) ?_;unfold standN
                (rw [decide_eq_false (show ¬ x.parent = 0 by simpa using hg3)]; simp at hg14; rw [hg14]; rfl)
          rintro a w ⟨ha,hs⟩;refine hK23 _ _ ?_;refine cSplit ha rfl (fun hc64=>?_) (fun hc64=>?_)
          · have hst : standN xs x = false:=by simpa using hc64
            refine wp_seq_k fun K24 hK24=>?_;refine wp_region_lit ?_;refine pY ha (yAssign rfl) fun a ha=>?_;refine pY ha (yAssign rfl) fun a ha=>?_;refine pZ ?_;refine hK24 _ _ ?_;refine wp_ret ?_;show bodyPost Tryz.prog Tryz.f56 _ .ret _ _;refine ret2 rfl ha rfl rfl ?_
            (rw [if_neg (by intro hh; unfold loadOk at hh; rw [allN_no (g:=fun i=>standN xs (xs.getD i noN)) (i:=j) (n:=xs.length) (by omega) (by simp only [hgx,hst])] at hh; simp at hh)]; exact ⟨rfl,hs.drop.drop.drop.drop.drop⟩)
          · have hst : standN xs x = true:=by simpa using hc64
            refine wp_skip ?_;refine hK22 _ _ ?_;obtain ⟨vs,hvl,hs⟩:=hs.mpK_open .here;obtain ⟨c0,hc0⟩ : ∃ c0,lookK (keysN (xs.take j)) vs (keyN x) = c0:=⟨_,rfl⟩;refine dStart (fun w=>∃ ks' vs' rs,vs'.length = ks'.length∧lookK ks' vs' (keyN x) = c0∧Sep W w (.mpV bn ks' vs'::.blk bx 116 [.int .i64 x.id,.int .i64 x.parent,.string x.name,.bool x.dir,.string x.text]::rs)) [10] 2047 1023 (by kernel_rfl) (by kernel_rfl) rfl (⟨_,_,_,hvl,hc0,hs.drew.pick pk0⟩) ?_
            have hs:=Sep.drew hs
            generalize World.drew _ = w at hs ⊢;refine dP 0 1 rfl ha (fun _=>yMove rfl) fun a ha=>?_;refine dP 1 3 rfl ha (fun _=>yFieldA Tryz.runUnderlying116 rfl Tryz.sizeOf3 rfl rfl) fun a ha=>?_;refine dT 2 7 rfl ha (fun _ ⟨ks',vs',rs,hl',hc',hs⟩=>yLoadB Tryz.isAgg3 hs rfl pk1 rfl) (⟨_,_,_,hvl,hc0,hs.pick pk0⟩) fun a ha=>?_;refine dP 3 15 rfl ha (fun _=>yFieldA Tryz.runUnderlying116 rfl Tryz.sizeOf9 rfl rfl) fun a ha=>?_;refine dT 4 31 rfl ha (fun _ ⟨ks',vs',rs,hl',hc',hs⟩=>yLoadB Tryz.isAgg9 hs rfl pk1 rfl) (⟨_,_,_,hvl,hc0,hs.pick pk0⟩) fun a ha=>?_;refine dP 5 63 rfl ha (fun _=>bldTree116_1_2 rfl rfl) fun a ha=>?_;refine dT 6 127 rfl ha (fun _ ⟨ks',vs',rs,hl',hc',hs⟩=>hc' ▸ yLookK (k:=keyN x) hl' hs rfl .here rfl) (⟨_,_,_,hvl,hc0,hs.pick pk0⟩) fun a ha=>?_;refine dP 7 255 rfl ha (fun _=>yAdd rfl rfl) fun a ha=>?_;refine dEntry (k:=keyN x) hvl 8 511 rfl (by kernel_rfl) rfl ha won0 hs rfl pk0 rfl rfl (fun w hs=>⟨_,_,_,entV_len (keyN x) hvl,(entV_look (keyN x) hvl).trans hc0,hs⟩) ?_;intro w u nn hn1 hs a ha;refine dP 9 1023 rfl ha (fun _=>yExtract rfl rfl) fun a ha=>?_;refine dEntStl (entV_len (keyN x) hvl) hn1 10 2047 rfl (by kernel_rfl) rfl ha won0 hs rfl pk0 rfl rfl ?_;intro w hs;refine dZ (by kernel_rfl) ?_;refine hK20 _ _ ?_;refine wp_region_lit ?_;refine pY ha (yAddN rfl rfl ⟨by omega,by omega⟩) fun a ha=>?_;refine pY ha (yMove rfl) fun a ha=>?_;refine pZ ?_;refine ⟨j + 1,⟨by omega,by simp only [allN,g2,hgx,hst,Bool.and_self],has6 ha rfl rfl rfl rfl rfl rfl,?_⟩,by omega⟩;rw [keys_next hx];exact hs.drop2
        · refine wp_exit ?_;refine hK16 _ _ ?_;refine wp_seq_k fun K25 hK25=>?_;refine wp_seq_k fun K26 hK26=>?_;rw [List.take_of_length_le (by omega)] at hs;rw [show j = xs.length by omega] at g2;obtain ⟨vs,hvl,hs⟩:=hs.mpK_open .here
          have hly:=load_yes hgo g2
          have hkl:=(keys_len (xs:=xs) (Nat.le_refl _)).1
          rw [List.take_length] at hkl;refine wp_region_lit ?_;refine pY ha (yMove rfl) fun a ha=>?_;refine pY ha (yLenK hvl hs rfl pk0) fun a ha=>?_;refine pY ha (yMove rfl) fun a ha=>?_;refine pY ha (yLenS Tryz.runUnderlying22 rfl) fun a ha=>?_;refine pY ha (yLss rfl rfl) fun a ha=>?_;refine pY ha (yMove rfl) fun a ha=>?_;refine gDec (t:=81) ha rfl (fun hg5 hp5=>?_) (fun hg5 hp5=>?_)
          · rw [hg5] at ha
            have hp5:=of_decide_eq_false hg5
            refine gOn ha ?_;refine pY ha (yMove rfl) fun a ha=>?_;refine gOn ha ?_;refine pY ha (yLenS Tryz.runUnderlying22 rfl) fun a ha=>?_;refine gOn ha ?_;refine pY ha (yGtr rfl rfl) fun a ha=>?_;refine pY ha (yPickF rfl rfl) fun a ha=>?_;refine pY ha (yMove rfl) fun a ha=>?_;refine gSplit (t:=86) ha rfl (fun hg10=>?_) (fun hg10=>?_)
            · rw [hg10] at ha
              have hp10:=of_decide_eq_false hg10
              refine gOn ha ?_;refine pY ha (yMove rfl) fun a ha=>?_;refine gOn ha ?_;refine pC ha (nCall Tryz.call82 rfl) rfl (All_c hT hlen hsnd hs pk1 pk1) ?_;rintro v w ⟨rfl,hs⟩ a ha;refine gOn ha ?_;refine pY ha (yGtr rfl rfl) fun a ha=>?_;refine pY ha (yPickF rfl rfl) fun a ha=>?_;refine pZ ?_;refine hK26 _ _ ?_;refine cDec ha rfl (fun hc90=>?_) (fun hc90=>?_)
              · refine wp_seq_k fun K27 hK27=>?_;refine wp_region_lit ?_;refine pY ha (yAssign rfl) fun a ha=>?_;refine pY ha (yAssign rfl) fun a ha=>?_;refine pZ ?_;refine hK27 _ _ ?_;refine wp_ret ?_;show bodyPost Tryz.prog Tryz.f56 _ .ret _ _;refine ret2 rfl ha rfl rfl ?_
                (rw [if_neg (by rw [hly]; simp only [Bool.and_eq_true,decide_eq_true_eq]; omega)]; exact ⟨rfl,hs.drop.drop.drop.drop⟩)
              · refine wp_skip ?_;refine hK25 _ _ ?_;refine wp_seq_k fun K28 hK28=>?_;refine wp_region_lit ?_;refine pY ha (yMove rfl) fun a ha=>?_;refine pY ha (yAssign rfl) fun a ha=>?_;refine pY ha (yAssign rfl) fun a ha=>?_;refine pZ ?_;refine hK28 _ _ ?_;refine wp_ret ?_;show bodyPost Tryz.prog Tryz.f56 _ .ret _ _;refine ret2 rfl ha rfl rfl ?_
                (rw [if_pos (by rw [hly]; simp only [Bool.and_eq_true,decide_eq_true_eq]; omega)]; exact ⟨bt,bm,rfl,(hs.drop.pick (.there (.there .here))).drop⟩)
            · rw [hg10] at ha
              have hp10:=of_decide_eq_true hg10
              refine gOff ha fun a ha=>?_;refine gOff ha fun a ha=>?_;refine gOff ha fun a ha=>?_;refine pY ha (yPickT rfl rfl) fun a ha=>?_;refine pZ ?_;refine hK26 _ _ ?_;refine cTrue ha rfl ?_;refine wp_seq_k fun K29 hK29=>?_;refine wp_region_lit ?_;refine pY ha (yAssign rfl) fun a ha=>?_;refine pY ha (yAssign rfl) fun a ha=>?_;refine pZ ?_;refine hK29 _ _ ?_;refine wp_ret ?_;show bodyPost Tryz.prog Tryz.f56 _ .ret _ _;refine ret2 rfl ha rfl rfl ?_
              (rw [if_neg (by rw [hly]; simp only [Bool.and_eq_true,decide_eq_true_eq]; omega)]; exact ⟨rfl,hs.drop.drop.drop.drop⟩)
          · rw [hg5] at ha
            have hp5:=of_decide_eq_true hg5
            refine gOff ha fun a ha=>?_;refine gOff ha fun a ha=>?_;refine gOff ha fun a ha=>?_;refine pY ha (yPickT rfl rfl) fun a ha=>?_;refine pY ha (yMove rfl) fun a ha=>?_;refine gOff ha fun a ha=>?_;refine gOff ha fun a ha=>?_;refine gOff ha fun a ha=>?_;refine pY ha (yPickT rfl rfl) fun a ha=>?_;refine pZ ?_;refine hK26 _ _ ?_;refine cTrue ha rfl ?_;refine wp_seq_k fun K30 hK30=>?_;refine wp_region_lit ?_;refine pY ha (yAssign rfl) fun a ha=>?_;refine pY ha (yAssign rfl) fun a ha=>?_;refine pZ ?_;refine hK30 _ _ ?_;refine wp_ret ?_;show bodyPost Tryz.prog Tryz.f56 _ .ret _ _;refine ret2 rfl ha rfl rfl ?_
            (rw [if_neg (by rw [hly]; simp only [Bool.and_eq_true,decide_eq_true_eq]; omega)]; exact ⟨rfl,hs.drop.drop.drop.drop⟩)
end
end Go.Proofs.YtldgdjilchnceaaGreatDoor

set_option linter.unusedVariables false
set_option linter.unusedSimpArgs false
namespace Go.Proofs.YtldgdjilchnceaaGreatDoor
open Go.RowKit Go.Lib Go.Proofs.YtldgdjilchnceaaGreatDoorW.PrintLast
/-- A message as the machine holds it. -/
def mM (x : Msg) : Prop:=(i64 x.client∧i64 x.seq∧i64 x.rev∧i64 x.last∧i64 x.code)∧(∀ a ∈ x.acts,mA a)∧(∀ c ∈ x.commits,mCm c)∧(∀ n ∈ x.nodes,mN n)∧shortM x
def badM (m : Msg) : Prop:=m.kind < 1∨m.kind > 9∨m ≠ plainM m∨fits m.client = false∨fits m.seq = false∨fits m.rev = false∨fits m.last = false∨fits m.code = false
instance (m : Msg) : Decidable (badM m):=by unfold badM; infer_instance
section
variable {W w : World} {cs r r2 : List Ch}
end
end Go.Proofs.YtldgdjilchnceaaGreatDoor

set_option linter.unusedVariables false
set_option linter.unusedSimpArgs false
namespace Go.Proofs.YtldgdjilchnceaaGreatDoor
open Go.RowKit Go.Lib Go.Proofs.YtldgdjilchnceaaGreatDoorW.PrintLast
section
variable {W w : World} {cs r r2 : List Ch}
theorem BytesEq_c {A A' : Option Addr} {n n' c c' : Nat} {xs ys : List UInt8} (hs : Sep W w cs) (hk : Pick cs (.rd kU8 (.slice A n c) xs) r) (hk' : Pick cs (.rd kU8 (.slice A' n' c') ys) r2) :
    Calls P 38 #[.slice A n c,.slice A' n' c'] w (Rt fun v w'=>v = .bool (decide (xs = ys))∧Sep W w' cs):=by
  have hs:=(hs.cpR hk).cpR (.there hk')
  obtain ⟨rfl,_⟩:=hs.rd_shape (.there .here);obtain ⟨rfl,_⟩:=hs.rd_shape .here;refine enter Tryz.func38 Tryz.ntmps38 rfl rfl fun a (ha : Has a 10 [(0,_),(1,_)])=>?_;refine wp_seq_k fun K1 hK1=>?_;refine wp_region_lit ?_;refine pY ha (yAssign rfl) fun a ha=>?_;refine pZ ?_;refine hK1 _ _ ?_;refine wp_seq_k fun K2 hK2=>?_;refine wp_region_lit ?_;refine pY ha (yMove rfl) fun a ha=>?_;refine pY ha (yBytesStr (bs:=xs) Tryz.underlying24 Tryz.underlying5 Tryz.underlying9 hs rfl (.there .here)) fun a ha=>?_;refine pY ha (yMove rfl) fun a ha=>?_;refine pY ha (yBytesStr (bs:=ys) Tryz.underlying24 Tryz.underlying5 Tryz.underlying9 hs rfl .here) fun a ha=>?_;refine pY ha (yStrEql rfl rfl) fun a ha=>?_;refine pY ha (yAssign rfl) fun a ha=>?_;refine pZ ?_;refine hK2 _ _ ?_;refine wp_ret ?_;show bodyPost Tryz.prog Tryz.f38 _ .ret _ _;refine ret1 rfl ha rfl ?_;refine ⟨congrArg Value.bool ?_,hs.drop.drop⟩;rw [decide_eq_decide]
  constructor
  · intro h
    injection h with h
    have:=congrArg Array.toList h
    simpa using this
  · rintro rfl; rfl
end
end Go.Proofs.YtldgdjilchnceaaGreatDoor

set_option linter.unusedVariables false
set_option linter.unusedSimpArgs false
namespace Go.Proofs.YtldgdjilchnceaaGreatDoor
open Go.RowKit Go.Lib Go.Proofs.YtldgdjilchnceaaGreatDoorW.PrintLast
theorem rList_all {α : Type} {f : St→α × St} {p : α→Prop} (h : ∀ st,p (f st).1) : ∀ (k : Nat) (st : St),∀ x ∈ (rList f k st).1,p x
  | 0,st,x,hx=>by simp [rList] at hx
  | k + 1,st,x,hx=>by
    simp only [rList,List.mem_cons] at hx
    rcases hx with rfl | hx
    · exact h st
    · exact rList_all h k _ x hx
theorem rAll_all {α : Type} {f : St→α × St} {p : α→Prop} {most : Nat} (h : ∀ st,p (f st).1) (st : St) : (rAll f most st).1.length≤most∧∀ x ∈ (rAll f most st).1,p x:=by
  have hv:=rMany_val (most : Int) (by omega) st
  unfold rAll;simp only
  split
  · exact ⟨Nat.zero_le _,fun x hx=>by cases hx⟩
  · exact ⟨by rw [rList_len]; omega,rList_all h _ _⟩
def bC (c : Comp) : Prop:=c.text.size≤8000∧c.n≤1099511627776
def bA (a : Actn) : Prop:=a.name.size≤100∧a.ops.length≤100∧∀ c ∈ a.ops,bC c
def bNd (x : Nod) : Prop:=x.name.size≤100∧x.text.size≤8000
theorem rComp_b (st : St) : bC (rComp st).1:=⟨rText_len (most:=8000) (by decide) _,(rNum_val _).2⟩
theorem rActn_b (st : St) : bA (rActn st).1:=by
  have:=rAll_all (most:=100) rComp_b (rFlag (rText 100 (rNum (rNum (rNum st).2).2).2).2).2
  exact ⟨rText_len (most:=100) (by decide) _,this.1,this.2⟩
theorem rNod_b (st : St) : bNd (rNod st).1:=⟨rText_len (most:=100) (by decide) _,rText_len (most:=8000) (by decide) _⟩
def n40 (n : Int) : Prop:=0≤n∧n≤1099511627776
def bAs (l : List Actn) : Prop:=l.length≤20∧∀ a ∈ l,bA a
theorem rActns_b (st : St) : bAs (rActns st).1:=rAll_all (most:=20) rActn_b st
theorem rNods_b (st : St) : (rNods st).1.length≤100∧∀ x ∈ (rNods st).1,bNd x:=rAll_all (most:=100) rNod_b st
theorem bC_m {c : Comp} (h : bC c) : mC c:=⟨by have:=h.2; omega,by have:=h.1; omega⟩
theorem bA_m {a : Actn} (h : bA a) : mA a:=⟨by have:=h.1; omega,by have:=h.2.1; omega,fun c hc=>bC_m (h.2.2 c hc)⟩
theorem n40_64 {n : Int} (h : n40 n) : i64 n:=⟨by have:=h.1; omega,by have:=h.2; omega⟩
theorem sum_le {α : Type} {f : α→Nat} {B : Nat} : ∀ (l : List α),(∀ x ∈ l,f x≤B)→(l.map f).sum≤l.length * B
  | [],_=>by simp
  | x::r,h=>by
    have h1:=sum_le r (fun y hy=>h y (by simp [hy]))
    have h2:=h x (by simp)
    simp only [List.map_cons,List.sum_cons,List.length_cons,Nat.add_mul,Nat.one_mul]
    omega
def tCmts (l : List Cmt) : Nat:=(l.map fun x=>tActns x.acts + 3).sum
theorem wCmt_len (st : Wt) (x : Cmt) : (wCmt st x).1.length≤st.1.length + 12 * (tActns x.acts + 3):=by
  have h1:=wNum_len st x.rev; have h2:=wNum_len (wNum st x.rev) x.client; have h3:=wNum_len (wNum (wNum st x.rev) x.client) x.seq; have h4:=wActns_len (wNum (wNum (wNum st x.rev) x.client) x.seq) x.acts
  unfold wCmt; omega
theorem wCmts_len (st : Wt) (l : List Cmt) : (wCmts st l).1.length≤st.1.length + 6 + 12 * tCmts l:=by
  have h1:=wNum_len st l.length; have h2:=fold_len (g:=fun x : Cmt=>tActns x.acts + 3) wCmt_len l (wNum st l.length)
  unfold wCmts tCmts; omega
theorem wMsg_len (m : Msg) : (wMsg m).1.length≤54 + 12 * (tActns m.acts + tCmts m.commits + tNods m.nodes):=by
  have h1:=wNum_len ([],false) m.kind; have h2:=wNum_len (wNum ([],false) m.kind) m.client; have h3:=wNum_len (wNum (wNum ([],false) m.kind) m.client) m.seq
  have h4:=wNum_len (wNum (wNum (wNum ([],false) m.kind) m.client) m.seq) m.rev; have h5:=wNum_len (wNum (wNum (wNum (wNum ([],false) m.kind) m.client) m.seq) m.rev) m.code
  have h6:=wNum_len (wNum (wNum (wNum (wNum (wNum ([],false) m.kind) m.client) m.seq) m.rev) m.code) m.last
  have h7:=wActns_len (wNum (wNum (wNum (wNum (wNum (wNum ([],false) m.kind) m.client) m.seq) m.rev) m.code) m.last) m.acts
  have h8:=wCmts_len (wHead ([],false) m) m.commits
  have h9:=wNods_len (wCmts (wHead ([],false) m) m.commits) m.nodes
  unfold wMsg;unfold wHead at h8 h9 ⊢;simp only [List.length_nil] at h1
  omega
theorem tA_b {a : Actn} (h : bA a) : a.name.size + tComps a.ops + 3≤800303:=by
  have h1:=sum_le (B:=8002) (f:=fun x : Comp=>x.text.size + 2) a.ops (fun c hc=>by have:=(h.2.2 c hc).1; omega)
  have h2 : a.ops.length * 8002≤100 * 8002:=Nat.mul_le_mul_right _ h.2.1
  have:=h.1
  unfold tComps; omega
theorem tAs_b {l : List Actn} (h : bAs l) : tActns l≤16006060:=by
  have h1:=sum_le (B:=800303) (f:=fun x : Actn=>x.name.size + tComps x.ops + 3) l (fun a ha=>tA_b (h.2 a ha))
  have h2 : l.length * 800303≤20 * 800303:=Nat.mul_le_mul_right _ h.1
  unfold tActns; omega
section
variable {W w : World} {cs r r2 : List Ch}
end
end Go.Proofs.YtldgdjilchnceaaGreatDoor

set_option linter.unusedVariables false
set_option linter.unusedSimpArgs false
namespace Go.Proofs.YtldgdjilchnceaaGreatDoor
open Go.Lib
theorem fits_of {n : Int} (h : 0≤n) (h2 : n≤1099511627776) : fits n = true:=by simp [fits]; omega
theorem wNum_good {st : Wt} {n : Int} (h : st.2 = false) (hn : fits n = true) : (wNum st n).2 = false:=by simp [wNum,h,hn]
theorem wText_good {st : Wt} {s : ByteArray} (h : st.2 = false) (ho : okText s.data.toList = true) (hs : s.size≤1099511627776) : (wText st s).2 = false:=by
  show (wNum (st.1,st.2 || !okText s.data.toList) s.size).2 = false;exact wNum_good (by simp [h,ho]) (fits_of (by omega) (by omega))
theorem wFlag_good {st : Wt} {b : Bool} (h : st.2 = false) : (wFlag st b).2 = false:=wNum_good h (by cases b <;> decide)
theorem fold_good {α : Type} {f : Wt→α→Wt} : ∀ (l : List α) (st : Wt),(∀ x ∈ l,∀ st : Wt,st.2 = false→(f st x).2 = false)→st.2 = false→(l.foldl f st).2 = false
  | [],st,_,h=>h
  | x::r,st,hf,h=>fold_good r (f st x) (fun y hy=>hf y (by simp [hy])) (hf x (by simp) st h)
theorem text_size {s : ByteArray} (h : okText s.data.toList = true) (hc : cnt s.data.toList≤2000) : s.size≤8000:=by
  have:=cnt_four _ s.data.toList (Nat.le_refl _) h
  have h2 : s.data.toList.length = s.size:=by simp
  omega
theorem comp_n {c : Comp} (h : sndC c = true) (hb : c.n≤1099511627776) : fits c.kind = true∧fits c.n = true:=by
  unfold sndC at h
  split at h
  · rename_i h1; simp only [Bool.and_eq_true,decide_eq_true_eq] at h; exact ⟨by rw [h1]; decide,by rw [h.1.1]; decide⟩
  · split at h
    · rename_i h1 h2
      simp only [Bool.and_eq_true,decide_eq_true_eq] at h;exact ⟨by rcases h2 with e | e <;> rw [e] <;> decide,fits_of (by omega) hb⟩
    · cases h
theorem base_le : ∀ (l : List Comp) (n : Int),0≤n→n≤1099511627776→n≤baseC l n∧baseC l n≤1099511627776∧∀ c ∈ l,c.kind = 1∨c.kind = 3→c.n≤baseC l n∨baseC l n = 1099511627776
  | [],n,h0,h1=>⟨Int.le_refl _,h1,fun c hc=>by cases hc⟩
  | c::r,n,h0,h1=>by
    have hs : 0≤(if c.kind = 1∨c.kind = 3 then addC n (max c.n 0) else n)∧(if c.kind = 1∨c.kind = 3 then addC n (max c.n 0) else n)≤1099511627776∧n≤(if c.kind = 1∨c.kind = 3 then addC n (max c.n 0) else n):=by
      unfold addC
      split
      · split <;> omega
      · omega
    obtain ⟨h2,h3,h4⟩:=base_le r _ hs.1 hs.2.1;rw [baseC];refine ⟨by omega,h3,fun d hd hk=>?_⟩
    rcases List.mem_cons.1 hd with rfl | hd
    · rw [if_pos hk] at h2 h3 hs ⊢;unfold addC at *
      split at h2
      · rename_i h5; rw [if_pos h5] at h3 ⊢; right; omega
      · rename_i h5; rw [if_neg h5] at h3 ⊢; left; omega
    · exact h4 d hd hk
theorem op_n {l : List Comp} (h : opE l = 0) : ∀ c ∈ l,fits c.kind = true∧fits c.n = true:=fun c hc=>by
  have hs:=(op_ok h).2 c hc
  by_cases hk : c.kind = 1∨c.kind = 3
  · have hb:=base_le l 0 (Int.le_refl _) (by decide)
    have hb2 : baseC l 0≤2000:=by
      unfold opE at h
      split at h
      · simp at h
      · split at h
        · simp at h
        · split at h
          · simp at h
          · omega
    have:=hb.2.2 c hc hk
    exact comp_n hs (by omega)
  · unfold sndC at hs
    split at hs
    · rename_i h1; simp only [Bool.and_eq_true,decide_eq_true_eq] at hs; exact ⟨by rw [h1]; decide,by rw [hs.1.1]; decide⟩
    · cases hs
/-- Acts that may be are written well. -/
theorem acts_full {l : List Actn} (h : txnE l = 0) : l.length≤20∧∀ a ∈ l,(fits a.kind = true∧fits a.id = true∧fits a.parent = true)∧a.name.size≤20∧okText a.name.data.toList = true∧a.ops.length≤100∧∀ c ∈ a.ops,(fits c.kind = true∧fits c.n = true)∧c.text.size≤8000∧okText c.text.data.toList = true:=by
  obtain ⟨h1,h2,h3⟩:=act_ok h;refine ⟨h1,fun a ha=>?_⟩;obtain ⟨k1,k2,k3,k4,k5,k6,k7⟩:=act_sound h ha;refine ⟨⟨k1,k2,k3⟩,k4,k5,k6,fun c hc=>?_⟩;obtain ⟨j1,j2,j3⟩:=k7 c hc;refine ⟨?_,text_size j3 j2,j3⟩;obtain ⟨hb,ho⟩:=one_ok (h3 a ha)
  by_cases k : a.kind = 4
  · exact op_n (ho k) c hc
  · have : a.ops = []:=by
      unfold badA at hb;simp only [not_or] at hb
      have b3 : a = plainA a:=Classical.not_not.1 hb.2.2.1
      rw [b3]; unfold plainA
      repeat' split
      all_goals rfl
    rw [this] at hc; cases hc
theorem acts_back {l : List Actn} (h : txnE l = 0) : Back wActns rActns l:=by
  obtain ⟨h1,h2⟩:=acts_full h;exact back_actns l h1 fun a ha=>⟨by have:=(h2 a ha).2.1; omega,(h2 a ha).2.2.2.1,fun c hc=>((h2 a ha).2.2.2.2 c hc).2.1⟩
theorem nods_full {l : List Nod} (h : nodsE l = 0) : l.length≤100∧∀ x ∈ l,(fits x.id = true∧fits x.parent = true)∧x.name.size≤20∧okText x.name.data.toList = true∧x.text.size≤8000∧okText x.text.data.toList = true:=by
  unfold nodsE at h
  split at h
  · simp at h
  · split at h
    · rename_i h1 h2
      unfold loadOk at h2;simp only [Bool.and_eq_true,decide_eq_true_eq] at h2;obtain ⟨⟨⟨⟨g1,g2⟩,g3⟩,g4⟩,g5⟩:=h2
      have hsn : ∀ x ∈ l,sndN x = true:=fun x hx=>by
        obtain ⟨i,hi,rfl⟩:=List.mem_iff_getElem.1 hx
        have:=allN_iff.1 g1 i hi
        unfold goodN at this;rw [Bool.and_eq_true,List.getD_eq_getElem?_getD,List.getElem?_eq_getElem hi,Option.getD_some] at this;exact this.1
      refine ⟨g4,fun x hx=>?_⟩
      have hid : ∀ y ∈ l,fits y.id = true:=fun y hy=>by
        have:=hsn y hy
        unfold sndN at this;simp only [Bool.and_eq_true,decide_eq_true_eq] at this;exact fits_of (by omega) (by omega)
      have hs:=hsn x hx;unfold sndN at hs;simp only [Bool.and_eq_true,decide_eq_true_eq] at hs;refine ⟨⟨hid x hx,?_⟩,name_size hs.1.1.1.2,name_ok hs.1.1.1.2,text_size hs.1.1.2 hs.1.2,hs.1.1.2⟩;obtain ⟨i,hi,rfl⟩:=List.mem_iff_getElem.1 hx
      have:=allN_iff.1 g2 i hi
      simp only [List.getD_eq_getElem?_getD,List.getElem?_eq_getElem hi,Option.getD_some] at this;unfold standN at this;simp only [Bool.and_eq_true,Bool.or_eq_true,decide_eq_true_eq] at this
      rcases this.1 with e | e
      · rw [e]; decide
      · unfold findN at e
        cases hf : l.find? fun y=>decide (y.id = l[i].parent) with
        | none=>rw [hf] at e; cases e
        | some y=>
          have h3:=List.find?_some hf
          have h4:=List.mem_of_find?_eq_some hf
          have h5 : y.id = l[i].parent:=of_decide_eq_true h3
          rw [← h5];exact hid y h4
    · simp at h
theorem nods_back {l : List Nod} (h : nodsE l = 0) : Back wNods rNods l:=by
  obtain ⟨h1,h2⟩:=nods_full h;exact back_nods l h1 fun x hx=>⟨by have:=(h2 x hx).2.1; omega,(h2 x hx).2.2.2.1⟩
theorem nods_good {l : List Nod} (h : nodsE l = 0) {st : Wt} (hst : st.2 = false) : (wNods st l).2 = false:=by
  obtain ⟨hl,hc⟩:=nods_full h;refine fold_good l _ (fun x q st hs=>?_) (wNum_good hst (fits_of (by omega) (by omega)));obtain ⟨⟨k1,k2⟩,k3,k4,k5,k6⟩:=hc x q;exact wText_good (wFlag_good (wText_good (wNum_good (wNum_good hs k1) k2) k4 (by omega))) k6 (by omega)
end Go.Proofs.YtldgdjilchnceaaGreatDoor

set_option linter.unusedVariables false
set_option linter.unusedSimpArgs false
namespace Go.Proofs.YtldgdjilchnceaaGreatDoor
open Go.RowKit Go.Lib Go.Proofs.YtldgdjilchnceaaGreatDoorW.PrintLast
theorem bslWgM96_1_0 {w : World} {l : List (Nat × Value)} {T : TypeId} {x0 : Operand} {v0 : Value} (h0 : ev l x0 = some v0) (o0 : v0.cells = #[v0]:=by rfl) : Mk Tryz.prog w l (.buildSlice 96 1 #[(0,x0)]) T 3 1 [v0]:=fun ρ o h ho _=>by
  unfold execOp; rw [ho];exact mk1v (P:=Tryz.prog) w Tryz.runUnderlying96 Tryz.sizeOf3 Tryz.zeroValue3 rfl o0 (h _ _ h0)
theorem bslWgM96_2_0_1 {w : World} {l : List (Nat × Value)} {T : TypeId} {x0 x1 : Operand} {v0 : Value} (h0 : ev l x0 = some v0) {v1 : Value} (h1 : ev l x1 = some v1) (o0 : v0.cells = #[v0]:=by rfl) (o1 : v1.cells = #[v1]:=by rfl) : Mk Tryz.prog w l (.buildSlice 96 2 #[(0,x0),(1,x1)]) T 3 2 [v0,v1]:=fun ρ o h ho _=>by
  have hm:=mkvs (P:=Tryz.prog) [v0,v1] w Tryz.runUnderlying96 Tryz.sizeOf3 Tryz.zeroValue3 (by intro v hv; simp at hv; rcases hv with rfl | rfl <;> assumption) (by simp) (by simp)
  unfold execOp; rw [ho];simp only [h _ _ h0,h _ _ h1,List.map_toArray,List.map_cons,List.map_nil];simp only [List.length_cons,List.length_nil,prt] at hm
  simp at hm
  simp [hm]
def tMsg (m : Msg) : Nat:=tActns m.acts + tNods m.nodes + tCmts m.commits
/-- A message as it comes in. -/
def gC (x : Comp) : Prop:=i64 x.n∧x.text.size≤9223372036854775807
def gA (x : Actn) : Prop:=x.name.size≤9223372036854775807∧∀ c ∈ x.ops,gC c
def gN (x : Nod) : Prop:=x.name.size≤9223372036854775807∧x.text.size≤9223372036854775807
def gCm (x : Cmt) : Prop:=(i64 x.rev∧i64 x.client∧i64 x.seq)∧∀ a ∈ x.acts,gA a
def gM (x : Msg) : Prop:=(i64 x.client∧i64 x.seq∧i64 x.rev∧i64 x.last∧i64 x.code)∧(∀ a ∈ x.acts,gA a)∧(∀ c ∈ x.commits,gCm c)∧∀ n ∈ x.nodes,gN n
theorem sum_one {α : Type} {f : α→Nat} {l : List α} {x : α} (h : x ∈ l) : f x≤(l.map f).sum:=by
  induction l with
  | nil=>cases h
  | cons y r ih=>
    simp only [List.map_cons,List.sum_cons]
    rcases List.mem_cons.1 h with rfl | h
    · omega
    · have:=ih h; omega
theorem sum_len {α : Type} {f : α→Nat} {l : List α} (h : ∀ x,1≤f x) : l.length≤(l.map f).sum:=by
  induction l with
  | nil=>simp
  | cons y r ih=>
    have:=h y
    simp only [List.map_cons,List.sum_cons,List.length_cons]; omega
theorem light_A {l : List Actn} (hg : ∀ a ∈ l,gA a) (hw : tActns l≤4000) : l.length≤4000∧(∀ a ∈ l,mA a)∧∀ a ∈ l,a.ops.length≤4000:=by
  unfold tActns at hw
  have hl:=sum_len (f:=fun x : Actn=>x.name.size + tComps x.ops + 3) (l:=l) (fun x=>by omega)
  refine ⟨by omega,fun a ha=>?_,fun a ha=>?_⟩
  · have h1 : a.name.size + tComps a.ops + 3≤(l.map fun x=>x.name.size + tComps x.ops + 3).sum:=sum_one (f:=fun x : Actn=>x.name.size + tComps x.ops + 3) ha
    have h2 : a.ops.length≤tComps a.ops:=sum_len (f:=fun x : Comp=>x.text.size + 2) (l:=a.ops) (fun x=>by omega)
    refine ⟨by omega,by omega,fun c hc=>⟨((hg a ha).2 c hc).1.2,?_⟩⟩
    have h3 : c.text.size + 2≤tComps a.ops:=sum_one (f:=fun x : Comp=>x.text.size + 2) hc
    omega
  · have h1 : a.name.size + tComps a.ops + 3≤(l.map fun x=>x.name.size + tComps x.ops + 3).sum:=sum_one (f:=fun x : Actn=>x.name.size + tComps x.ops + 3) ha
    have h2 : a.ops.length≤tComps a.ops:=sum_len (f:=fun x : Comp=>x.text.size + 2) (l:=a.ops) (fun x=>by omega)
    omega
theorem light_M {m : Msg} (hg : gM m) (hw : tMsg m≤4000) : mM m∧(wMsg m).1.length≤48054:=by
  obtain ⟨h0,ha,hc,hn⟩:=hg;unfold tMsg at hw;obtain ⟨a1,a2,a3⟩:=light_A ha (by omega)
  have hcl:=sum_len (f:=fun x : Cmt=>tActns x.acts + 3) (l:=m.commits) (fun x=>by omega)
  have hc2 : ∀ c ∈ m.commits,tActns c.acts≤4000:=fun c q=>by
    have:=sum_one (f:=fun x : Cmt=>tActns x.acts + 3) q
    unfold tCmts at hw; omega
  have hnl:=sum_len (f:=fun x : Nod=>x.name.size + x.text.size + 3) (l:=m.nodes) (fun x=>by omega)
  unfold tCmts tNods at hw;refine ⟨⟨h0,a2,fun c q=>?_,fun x q=>?_,?_⟩,?_⟩
  · obtain ⟨⟨k1,k2,k3⟩,k4⟩:=hc c q;exact ⟨k1,k2,k3,(light_A k4 (hc2 c q)).2.1⟩
  · have:=sum_one (f:=fun x : Nod=>x.name.size + x.text.size + 3) q
    exact ⟨by omega,by omega⟩
  · refine ⟨by omega,fun a q=>by have:=a3 a q; omega,by omega,fun c q=>by have:=(light_A (hc c q).2 (hc2 c q)).1; omega,fun c q a z=>by have:=(light_A (hc c q).2 (hc2 c q)).2.2 a z; omega,by omega⟩
  · have:=wMsg_len m
    unfold tCmts tNods at this; omega
section
variable {W w : World} {cs r r2 : List Ch}
theorem WgMsg_c {es : List Value} {x : Msg} {lim : Nat} (hlim : lim≤100000) (hg : gM x) (hs : Sep W w cs) (hk : Pick cs (.el kMsg x es) r) :
    Calls P 16 #[.agg es.toArray,.int .i64 lim] w (Rt fun v w'=>∃ R : Nat,v = .int .i64 R∧R≤1099511627776∧(R≤lim→tMsg x = R)∧Sep W w' cs):=by
  obtain ⟨_,ga,gc,gn⟩:=hg
  have ga' : ∀ a ∈ x.acts,a.name.size≤9223372036854775807∧∀ y ∈ a.ops,y.text.size≤9223372036854775807:=fun a q=>⟨(ga a q).1,fun y z=>((ga a q).2 y z).2⟩
  obtain ⟨A,n,c,A',n',c',B,m,d,rfl,hs⟩:=hs.el_msg hk;obtain ⟨rfl,hl⟩:=hs.rd_shape (.there .here);unfold maxLen at hl;refine enter Tryz.func16 Tryz.ntmps16 rfl rfl fun a (ha : Has a 41 [(0,_),(1,_)])=>?_;refine wp_seq_k fun K1 hK1=>?_;refine wp_region_lit ?_;refine pBox (es:=_) ha rfl rfl hs rfl fun b1 w hs a ha=>?_;refine pY ha (yAssign rfl) fun a ha=>?_;refine pZ ?_;refine hK1 _ _ ?_;refine wp_seq_k fun K2 hK2=>?_;refine dStart (fun w=>∃ rs,Sep W w (.blk b1 50 [.int .i64 x.kind,.int .i64 x.client,.int .i64 x.seq,.int .i64 x.rev,.int .i64 x.code,.slice A n c,.slice A' x.commits.length c',.slice B m d,.int .i64 x.last]::rs)) [7,8,9] 2047 127 (by kernel_rfl) (by kernel_rfl) rfl (⟨_,hs.drew.pick pk0⟩) ?_
  have hs:=Sep.drew hs
  generalize World.drew _ = w at hs ⊢;refine dP 0 1 rfl ha (fun _=>yFieldA Tryz.runUnderlying50 rfl Tryz.sizeOf27 rfl rfl) fun a ha=>?_;refine dT 1 3 rfl ha (fun _ ⟨rs,hs⟩=>yLoadB Tryz.isAgg27 hs rfl pk0 rfl) (⟨_,hs.pick pk0⟩) fun a ha=>?_;refine dP 2 7 rfl ha (fun _=>yMove rfl) fun a ha=>?_;refine dP 4 23 rfl ha (fun _=>yFieldA Tryz.runUnderlying50 rfl Tryz.sizeOf22 rfl rfl) fun a ha=>?_;refine dT 5 55 rfl ha (fun _ ⟨rs,hs⟩=>yLoadB Tryz.isAgg22 hs rfl pk0 rfl) (⟨_,hs.pick pk0⟩) fun a ha=>?_;refine dP 6 119 rfl ha (fun _=>yMove rfl) fun a ha=>?_;refine dC 3 127 rfl (by kernel_rfl) rfl ha won0 (nCall Tryz.call5 rfl) rfl (WgActns_c (xs:=x.acts) hlim ga' hs pk1) ?_;rintro v w ⟨Ra,rfl,hA1,hA2,hs⟩;refine ⟨⟨_,hs.pick pk0⟩,fun a ha=>?_⟩;refine dCl 7 255 rfl (by kernel_rfl) rfl ha won0 (nCall Tryz.call48 rfl) rfl (WgNods_c (xs:=x.nodes) hlim gn hs pk3) ?_;rintro v w ⟨Rn,rfl,hN1,hN2,hs⟩ a ha;refine dMakel 8 511 rfl (by kernel_rfl) rfl ha won0 (bslWgM96_1_0 rfl) hs rfl fun b w hs a ha=>?_;have hs:=hs.ints_rd (xs:=[(Rn : Int)]) .here (by intro y hy; simp at hy; omega);refine dCl 9 1023 rfl (by kernel_rfl) rfl ha won0 (nCall Tryz.call17 rfl) rfl (Sum_c hA1 (by intro y hy; simp at hy; omega) hs .here) ?_;rintro v w ⟨rfl,hs⟩ a ha;refine dP 10 2047 rfl ha (fun _=>yAssign rfl) fun a ha=>?_;refine dZ (by kernel_rfl) ?_;obtain ⟨q0,hq0,hq1,hq2⟩:=min_nat Ra (s:=sumL [(Rn : Int)]) (by simp only [sumL]; omega);rw [hq0] at ha;have hs:=hs.drop;refine hK2 _ _ ?_;refine wp_seq_k fun K3 hK3=>?_;refine wp_seq_k fun K4 hK4=>?_;refine wp_region_lit ?_;refine pY ha (yAssign rfl) fun a ha=>?_;refine pZ ?_;refine hK4 _ _ ?_;refine wp_block ?_;refine loopI (ι:=Nat × Nat) (fun i a w=>i.1≤x.commits.length∧i.2≤1099511627776∧(i.2≤lim→tActns x.acts + tNods x.nodes + tCmts (x.commits.take i.1) = i.2)∧Has a 41 [(1,.int .i64 lim),(2,.pointer (some ⟨b1,0,none⟩)),(5,.int .i64 i.2),(6,.int .i64 i.1)]∧Sep W w (.blk b1 50 [.int .i64 x.kind,.int .i64 x.client,.int .i64 x.seq,.int .i64 x.rev,.int .i64 x.code,.slice A n c,.slice A' x.commits.length c',.slice B m d,.int .i64 x.last]::.rd kActn (.slice A n c) x.acts::.rd kCmt (.slice A' x.commits.length c') x.commits::.rd kNod (.slice B m d) x.nodes::cs)) (fun i=>x.commits.length - i.1) ((0,q0)) ?_ ?_
  · refine ⟨Nat.zero_le _,hq1,fun hle=>?_,has4 ha rfl rfl rfl rfl,hs⟩;simp only at hle ⊢
    have:=hq2 (by omega)
    simp only [sumL] at this;rw [hA2 (by omega),hN2 (by omega)]
    simp [tCmts]; omega
  · rintro i a w ⟨h1,h2,h3,ha,hs⟩;obtain ⟨i,k⟩:=i; simp only at h1 h2 h3 ha hs;refine wp_seq_k fun K5 hK5=>?_;refine wp_seq_k fun K6 hK6=>?_;refine wp_region_lit ?_;refine pY ha (yMove rfl) fun a ha=>?_;refine pY ha (yFieldA Tryz.runUnderlying50 rfl Tryz.sizeOf23 rfl rfl) fun a ha=>?_;refine pY ha (yLoadB Tryz.isAgg23 hs rfl pk0 rfl) fun a ha=>?_;refine pY ha (yLenS Tryz.runUnderlying23 rfl) fun a ha=>?_;refine pY ha (yLss rfl rfl) fun a ha=>?_;refine pY ha (yMove rfl) fun a ha=>?_;refine gDec (t:=22) ha rfl (fun hg5 hp5=>?_) (fun hg5 hp5=>?_)
    · rw [hg5] at ha
      have hp5:=of_decide_eq_false hg5
      refine gOff ha fun a ha=>?_;refine gOff ha fun a ha=>?_;refine gOff ha fun a ha=>?_;refine pY ha (yPickF rfl rfl) fun a ha=>?_;refine pZ ?_;refine hK6 _ _ ?_;refine cFalse ha rfl ?_;refine wp_exit ?_;refine hK3 _ _ ?_;refine wp_seq_k fun K7 hK7=>?_;refine wp_region_lit ?_;refine pY ha (yMove rfl) fun a ha=>?_;refine pY ha (yAssign rfl) fun a ha=>?_;refine pZ ?_;refine hK7 _ _ ?_;refine wp_ret ?_;show bodyPost Tryz.prog Tryz.f16 _ .ret _ _;refine ret1 rfl ha rfl ?_
      (exact ⟨k,rfl,h2,fun hle=>by unfold tMsg; have:=h3 hle; rw [List.take_of_length_le (by omega)] at this; exact this,hs.drop.drop.drop.drop⟩)
    · rw [hg5] at ha
      have hp5:=of_decide_eq_true hg5
      refine gOn ha ?_;refine pY ha (yMove rfl) fun a ha=>?_;refine gOn ha ?_;refine pY ha (yMove rfl) fun a ha=>?_;refine gOn ha ?_;refine pY ha (yLeq rfl rfl) fun a ha=>?_;refine pY ha (yPickT rfl rfl) fun a ha=>?_;refine pZ ?_;refine hK6 _ _ ?_;refine cDec ha rfl (fun hc26=>?_) (fun hc26=>?_)
      · obtain ⟨y,hy⟩ : ∃ y,x.commits[i]? = some y:=⟨_,List.getElem?_eq_getElem (by omega)⟩
        have hyg:=(gc y (List.mem_of_getElem? hy)).2
        have hsum:=sum_at (f:=fun x : Cmt=>tActns x.acts + 3) hy
        obtain ⟨b0,off,D,e,f,rfl,hs⟩:=hs.rd_cmt (.there (.there .here)) hy;refine wp_skip ?_;refine hK5 _ _ ?_;refine wp_seq_k fun K8 hK8=>?_;refine wp_block ?_;refine wp_region_lit ?_;refine pY ha (yMove rfl) fun a ha=>?_;refine pY ha (yFieldA Tryz.runUnderlying50 rfl Tryz.sizeOf23 rfl rfl) fun a ha=>?_;refine pY ha (yLoadB Tryz.isAgg23 hs rfl pk2 rfl) fun a ha=>?_;refine pY ha (yMove rfl) fun a ha=>?_;refine pY ha (yIndexA Tryz.runUnderlying23 Tryz.sizeOf71 rfl rfl (by omega) (by omega)) fun a ha=>?_;refine pY ha (yFieldA Tryz.runUnderlying71 rfl Tryz.sizeOf27 rfl rfl) fun a ha=>?_;refine pY ha (yLoadR Tryz.isAgg27 hs rfl pk0 rfl) fun a ha=>?_;refine pY ha (yMove rfl) fun a ha=>?_;refine pC ha (nCall Tryz.call5 rfl) rfl (WgActns_c (xs:=y.acts) hlim (fun a q=>⟨(hyg a q).1,fun z zz=>((hyg a q).2 z zz).2⟩) hs pk1) ?_;rintro v w ⟨R,rfl,hR1,hR2,hs⟩ a ha;refine pMake ha (bslWgM96_2_0_1 rfl rfl) hs rfl fun b w hs a ha=>?_;have hs:=hs.ints_rd (xs:=[(R : Int),3]) .here (by intro y hy; simp at hy; omega);refine pC ha (nCall Tryz.call17 rfl) rfl (Sum_c h2 (by intro y hy; simp at hy; omega) hs .here) ?_;rintro v w ⟨rfl,hs⟩ a ha;refine pY ha (yAssign rfl) fun a ha=>?_;refine pZ ?_;refine hK8 _ _ ?_;refine wp_region_lit ?_;refine pY ha (yMove rfl) fun a ha=>?_;refine pY ha (yAddN rfl rfl ⟨by omega,by omega⟩) fun a ha=>?_;refine pY ha (yAssign rfl) fun a ha=>?_;refine pZ ?_;obtain ⟨q,hq,hq1,hq2⟩:=min_nat k (s:=sumL [(R : Int),3]) (by simp only [sumL]; omega);rw [hq] at ha;refine ⟨(i + 1,q),⟨by simp only; omega,hq1,?_,has4 ha rfl rfl rfl rfl,hs.drop.drop.drop⟩,by simp only; omega⟩;intro hle;simp only at hle ⊢
        have hq3:=hq2 (by omega)
        simp only [sumL] at hq3;unfold tCmts at h3 ⊢
        have h4:=h3 (by omega)
        have h5:=hR2 (by omega)
        omega
      · refine wp_exit ?_;refine hK3 _ _ ?_;refine wp_seq_k fun K9 hK9=>?_;refine wp_region_lit ?_;refine pY ha (yMove rfl) fun a ha=>?_;refine pY ha (yAssign rfl) fun a ha=>?_;refine pZ ?_;refine hK9 _ _ ?_;refine wp_ret ?_;show bodyPost Tryz.prog Tryz.f16 _ .ret _ _;refine ret1 rfl ha rfl ?_
        (exact ⟨k,rfl,h2,fun hle=>by unfold tMsg; have:=h3 hle; rw [List.take_of_length_le (by omega)] at this; exact this,hs.drop.drop.drop.drop⟩)
end
end Go.Proofs.YtldgdjilchnceaaGreatDoor

set_option linter.unusedVariables false
set_option linter.unusedSimpArgs false
set_option maxRecDepth 100000
namespace Go.Proofs.YtldgdjilchnceaaGreatDoor
open Go.ChangeShapes Go.WideShapes Go.ChangeAt Go.RowKit
section
variable {H : Type} {enc : TypeId × Value→H} {W : World}
theorem k_cmts : Tryz.prog.cellsOf 23 = 1:=by kernel_rfl
theorem wf_64 {n : Int} (h : (Lit.int .i64 n).wf = true) : i64 n:=by
  simp [Lit.wf,IntKind.min,IntKind.max,IntKind.signed,IntKind.bits] at h
  unfold i64; omega
theorem gm_comp (n : Nat) (cs : List Value) (y : DataW H × List MemPlace) (h : DataW.trod enc Tryz.prog W 0 (fun _=>true) true n 98 cs = some y) : ∃ x : Comp,gC x∧Old W (fun Z=>kComp.R Z x cs):=by
  obtain ⟨hl,m,hf⟩:=st_field Tryz.underlying98 h;rw [show Tryz.prog.cellsOf 98 = 3 by kernel_rfl] at hl
  match cs,hl with
  | [a,b,c],_=>
    obtain ⟨z0,h0⟩ : ∃ z,DataW.trod enc Tryz.prog W 0 (fun _=>true) true m 3 ((List.drop 0 [a,b,c]).take (Tryz.prog.cellsOf 3)) = some z:=hf 0 _ rfl;obtain ⟨z1,h1⟩ : ∃ z,DataW.trod enc Tryz.prog W 0 (fun _=>true) true m 3 ((List.drop 1 [a,b,c]).take (Tryz.prog.cellsOf 3)) = some z:=hf 1 _ rfl;obtain ⟨z2,h2⟩ : ∃ z,DataW.trod enc Tryz.prog W 0 (fun _=>true) true m 9 ((List.drop 2 [a,b,c]).take (Tryz.prog.cellsOf 9)) = some z:=hf 2 _ rfl;simp only [k_int,k_str,List.drop_zero,List.drop_succ_cons,List.take_succ_cons,List.take_zero] at h0 h1 h2;obtain ⟨k0,e0,_,_⟩:=DataW.trod_int Tryz.underlying3 h0;obtain ⟨k1,e1,w1,v1⟩:=DataW.trod_int Tryz.underlying3 h1;obtain ⟨s2,e2,_,hs2⟩:=DataW.trod_string Tryz.underlying9 h2;simp only [List.cons.injEq,and_true] at e0 e1 e2;subst e0; subst e1; subst e2;exact ⟨⟨k0,k1,s2⟩,⟨wf_64 (by assumption),Nat.le_trans hs2 big⟩,fun Z _=>rfl⟩
theorem gm_actn (n : Nat) (cs : List Value) (y : DataW H × List MemPlace) (h : DataW.trod enc Tryz.prog W 0 (fun _=>true) true n 54 cs = some y) : ∃ x : Actn,gA x∧Old W (fun Z=>kActn.R Z x cs):=by
  obtain ⟨hl,m,hf⟩:=st_field Tryz.underlying54 h;rw [show Tryz.prog.cellsOf 54 = 6 by kernel_rfl] at hl
  match cs,hl with
  | [a,b,c,d,e,f],_=>
    obtain ⟨z0,h0⟩ : ∃ z,DataW.trod enc Tryz.prog W 0 (fun _=>true) true m 3 ((List.drop 0 [a,b,c,d,e,f]).take (Tryz.prog.cellsOf 3)) = some z:=hf 0 _ rfl;obtain ⟨z1,h1⟩ : ∃ z,DataW.trod enc Tryz.prog W 0 (fun _=>true) true m 3 ((List.drop 1 [a,b,c,d,e,f]).take (Tryz.prog.cellsOf 3)) = some z:=hf 1 _ rfl;obtain ⟨z2,h2⟩ : ∃ z,DataW.trod enc Tryz.prog W 0 (fun _=>true) true m 3 ((List.drop 2 [a,b,c,d,e,f]).take (Tryz.prog.cellsOf 3)) = some z:=hf 2 _ rfl;obtain ⟨z3,h3⟩ : ∃ z,DataW.trod enc Tryz.prog W 0 (fun _=>true) true m 9 ((List.drop 3 [a,b,c,d,e,f]).take (Tryz.prog.cellsOf 9)) = some z:=hf 3 _ rfl;obtain ⟨z4,h4⟩ : ∃ z,DataW.trod enc Tryz.prog W 0 (fun _=>true) true m 4 ((List.drop 4 [a,b,c,d,e,f]).take (Tryz.prog.cellsOf 4)) = some z:=hf 4 _ rfl;obtain ⟨z5,h5⟩ : ∃ z,DataW.trod enc Tryz.prog W 0 (fun _=>true) true m 52 ((List.drop 5 [a,b,c,d,e,f]).take (Tryz.prog.cellsOf 52)) = some z:=hf 5 _ rfl;simp only [k_int,k_str,k_bool,k_comps,k_acts,k_nods,k_cmts,List.drop_zero,List.drop_succ_cons,List.take_succ_cons,List.take_zero] at h0 h1 h2 h3 h4 h5;obtain ⟨k0,e0,_,v0⟩:=DataW.trod_int Tryz.underlying3 h0;obtain ⟨k1,e1,_,v1⟩:=DataW.trod_int Tryz.underlying3 h1;obtain ⟨k2,e2,_,v2⟩:=DataW.trod_int Tryz.underlying3 h2;obtain ⟨k3,e3,_,g3⟩:=DataW.trod_string Tryz.underlying9 h3;obtain ⟨k4,e4,_⟩:=DataW.trod_bool Tryz.underlying4 h4;obtain ⟨A5,n5,c5,k5,e5,o5,g5⟩:=given_sl (d:=kComp) Tryz.underlying52 (by kernel_rfl) (by decide) gm_comp h5;simp only [List.cons.injEq,and_true] at e0 e1 e2 e3 e4 e5;subst e0; subst e1; subst e2; subst e3; subst e4; subst e5;exact ⟨⟨k0,k1,k2,k3,k4,k5⟩,⟨Nat.le_trans g3 big,g5⟩,fun Z hZ=>⟨A5,n5,c5,rfl,o5 Z hZ⟩⟩
theorem gm_nod (n : Nat) (cs : List Value) (y : DataW H × List MemPlace) (h : DataW.trod enc Tryz.prog W 0 (fun _=>true) true n 116 cs = some y) : ∃ x : Nod,gN x∧Old W (fun Z=>kNod.R Z x cs):=by
  obtain ⟨hl,m,hf⟩:=st_field Tryz.underlying116 h;rw [show Tryz.prog.cellsOf 116 = 5 by kernel_rfl] at hl
  match cs,hl with
  | [a,b,c,d,e],_=>
    obtain ⟨z0,h0⟩ : ∃ z,DataW.trod enc Tryz.prog W 0 (fun _=>true) true m 3 ((List.drop 0 [a,b,c,d,e]).take (Tryz.prog.cellsOf 3)) = some z:=hf 0 _ rfl;obtain ⟨z1,h1⟩ : ∃ z,DataW.trod enc Tryz.prog W 0 (fun _=>true) true m 3 ((List.drop 1 [a,b,c,d,e]).take (Tryz.prog.cellsOf 3)) = some z:=hf 1 _ rfl;obtain ⟨z2,h2⟩ : ∃ z,DataW.trod enc Tryz.prog W 0 (fun _=>true) true m 9 ((List.drop 2 [a,b,c,d,e]).take (Tryz.prog.cellsOf 9)) = some z:=hf 2 _ rfl;obtain ⟨z3,h3⟩ : ∃ z,DataW.trod enc Tryz.prog W 0 (fun _=>true) true m 4 ((List.drop 3 [a,b,c,d,e]).take (Tryz.prog.cellsOf 4)) = some z:=hf 3 _ rfl;obtain ⟨z4,h4⟩ : ∃ z,DataW.trod enc Tryz.prog W 0 (fun _=>true) true m 9 ((List.drop 4 [a,b,c,d,e]).take (Tryz.prog.cellsOf 9)) = some z:=hf 4 _ rfl;simp only [k_int,k_str,k_bool,k_comps,k_acts,k_nods,k_cmts,List.drop_zero,List.drop_succ_cons,List.take_succ_cons,List.take_zero] at h0 h1 h2 h3 h4;obtain ⟨k0,e0,_,v0⟩:=DataW.trod_int Tryz.underlying3 h0;obtain ⟨k1,e1,_,v1⟩:=DataW.trod_int Tryz.underlying3 h1;obtain ⟨k2,e2,_,g2⟩:=DataW.trod_string Tryz.underlying9 h2;obtain ⟨k3,e3,_⟩:=DataW.trod_bool Tryz.underlying4 h3;obtain ⟨k4,e4,_,g4⟩:=DataW.trod_string Tryz.underlying9 h4;simp only [List.cons.injEq,and_true] at e0 e1 e2 e3 e4;subst e0; subst e1; subst e2; subst e3; subst e4;exact ⟨⟨k0,k1,k2,k3,k4⟩,⟨Nat.le_trans g2 big,Nat.le_trans g4 big⟩,fun Z _=>rfl⟩
theorem gm_cmt (n : Nat) (cs : List Value) (y : DataW H × List MemPlace) (h : DataW.trod enc Tryz.prog W 0 (fun _=>true) true n 71 cs = some y) : ∃ x : Cmt,gCm x∧Old W (fun Z=>kCmt.R Z x cs):=by
  obtain ⟨hl,m,hf⟩:=st_field Tryz.underlying71 h;rw [show Tryz.prog.cellsOf 71 = 4 by kernel_rfl] at hl
  match cs,hl with
  | [a,b,c,d],_=>
    obtain ⟨z0,h0⟩ : ∃ z,DataW.trod enc Tryz.prog W 0 (fun _=>true) true m 3 ((List.drop 0 [a,b,c,d]).take (Tryz.prog.cellsOf 3)) = some z:=hf 0 _ rfl;obtain ⟨z1,h1⟩ : ∃ z,DataW.trod enc Tryz.prog W 0 (fun _=>true) true m 3 ((List.drop 1 [a,b,c,d]).take (Tryz.prog.cellsOf 3)) = some z:=hf 1 _ rfl;obtain ⟨z2,h2⟩ : ∃ z,DataW.trod enc Tryz.prog W 0 (fun _=>true) true m 3 ((List.drop 2 [a,b,c,d]).take (Tryz.prog.cellsOf 3)) = some z:=hf 2 _ rfl;obtain ⟨z3,h3⟩ : ∃ z,DataW.trod enc Tryz.prog W 0 (fun _=>true) true m 27 ((List.drop 3 [a,b,c,d]).take (Tryz.prog.cellsOf 27)) = some z:=hf 3 _ rfl;simp only [k_int,k_str,k_bool,k_comps,k_acts,k_nods,k_cmts,List.drop_zero,List.drop_succ_cons,List.take_succ_cons,List.take_zero] at h0 h1 h2 h3;obtain ⟨k0,e0,_,v0⟩:=DataW.trod_int Tryz.underlying3 h0;obtain ⟨k1,e1,_,v1⟩:=DataW.trod_int Tryz.underlying3 h1;obtain ⟨k2,e2,_,v2⟩:=DataW.trod_int Tryz.underlying3 h2;obtain ⟨A3,n3,c3,k3,e3,o3,g3⟩:=given_sl (d:=kActn) Tryz.underlying27 (by kernel_rfl) (by decide) gm_actn h3;simp only [List.cons.injEq,and_true] at e0 e1 e2 e3;subst e0; subst e1; subst e2; subst e3;exact ⟨⟨k0,k1,k2,k3⟩,⟨⟨wf_64 v0,wf_64 v1,wf_64 v2⟩,g3⟩,fun Z hZ=>⟨A3,n3,c3,rfl,o3 Z hZ⟩⟩
end
end Go.Proofs.YtldgdjilchnceaaGreatDoor

namespace Go.Proofs.YtldgdjilchnceaaGreatDoor
open Go.Shelf
def layCl_ren : Go.Shelf.Ren:=⟨fun | 5=>75 | 7=>95 | n=>n,fun | 23=>101 | 25=>3 | 3=>116 | 4=>4 | 20=>20 | n=>n,fun | n=>n⟩
theorem layCl : Go.Proofs.SlLaysW.n5 Tryz.prog layCl_ren := {
  mixed:=by kernel_rfl
  f5:=⟨Tryz.f75.name,by decide,Tryz.func75.trans (congrArg some (by kernel_rfl))⟩
  f7:=Tryz.func95.trans (congrArg some (by kernel_rfl))
  t4:=Tryz.underlying4
  a4:=Tryz.isAgg4
  z4:=Tryz.sizeOf4
  v4:=Tryz.zeroValue4
  t20:=Tryz.underlying20
  a20:=Tryz.isAgg20
  z20:=Tryz.sizeOf20
  v20:=Tryz.zeroValue20
  t23:=Tryz.underlying101
  a23:=Tryz.isAgg101
  z23:=Tryz.sizeOf101
  v23:=Tryz.zeroValue101 }
end Go.Proofs.YtldgdjilchnceaaGreatDoor

namespace Go.Proofs.YtldgdjilchnceaaGreatDoor
open Go.Shelf
def layKA_ren : Go.Shelf.Ren:=⟨fun | 7=>99 | 10=>114 | n=>n,fun | 23=>105 | 26=>3 | 3=>43 | 28=>144 | 0=>0 | 27=>143 | 33=>108 | 4=>4 | n=>n,fun | n=>n⟩
theorem layKA : Go.Proofs.SlLaysZI.n7 Tryz.prog layKA_ren := {
  mixed:=by kernel_rfl
  f7:=⟨Tryz.f99.name,by decide,Tryz.func99.trans (congrArg some (by kernel_rfl))⟩
  f10:=⟨Tryz.f114.name,by decide,Tryz.func114.trans (congrArg some (by kernel_rfl))⟩
  t0:=Tryz.underlying0
  a0:=Tryz.isAgg0
  z0:=Tryz.sizeOf0
  v0:=Tryz.zeroValue0
  t4:=Tryz.underlying4
  a4:=Tryz.isAgg4
  z4:=Tryz.sizeOf4
  v4:=Tryz.zeroValue4
  t23:=Tryz.underlying105
  a23:=Tryz.isAgg105
  z23:=Tryz.sizeOf105
  v23:=Tryz.zeroValue105
  t26:=Tryz.underlying3
  a26:=Tryz.isAgg3
  z26:=Tryz.sizeOf3
  v26:=Tryz.zeroValue3
  t27:=Tryz.underlying143
  a27:=Tryz.isAgg143
  z27:=Tryz.sizeOf143
  v27:=Tryz.zeroValue143
  t28:=Tryz.underlying144
  a28:=Tryz.isAgg144
  z28:=Tryz.sizeOf144
  v28:=Tryz.zeroValue144
  t33:=Tryz.underlying108
  a33:=Tryz.isAgg108
  z33:=Tryz.sizeOf108
  v33:=Tryz.zeroValue108 }
def layKN_ren : Go.Shelf.Ren:=⟨fun | 7=>78 | 10=>98 | n=>n,fun | 23=>101 | 26=>3 | 3=>116 | 28=>144 | 0=>0 | 27=>143 | 33=>108 | 4=>4 | n=>n,fun | n=>n⟩
theorem layKN : Go.Proofs.SlLaysZI.n7 Tryz.prog layKN_ren := {
  mixed:=by kernel_rfl
  f7:=⟨Tryz.f78.name,by decide,Tryz.func78.trans (congrArg some (by kernel_rfl))⟩
  f10:=⟨Tryz.f98.name,by decide,Tryz.func98.trans (congrArg some (by kernel_rfl))⟩
  t0:=Tryz.underlying0
  a0:=Tryz.isAgg0
  z0:=Tryz.sizeOf0
  v0:=Tryz.zeroValue0
  t4:=Tryz.underlying4
  a4:=Tryz.isAgg4
  z4:=Tryz.sizeOf4
  v4:=Tryz.zeroValue4
  t23:=Tryz.underlying101
  a23:=Tryz.isAgg101
  z23:=Tryz.sizeOf101
  v23:=Tryz.zeroValue101
  t26:=Tryz.underlying3
  a26:=Tryz.isAgg3
  z26:=Tryz.sizeOf3
  v26:=Tryz.zeroValue3
  t27:=Tryz.underlying143
  a27:=Tryz.isAgg143
  z27:=Tryz.sizeOf143
  v27:=Tryz.zeroValue143
  t28:=Tryz.underlying144
  a28:=Tryz.isAgg144
  z28:=Tryz.sizeOf144
  v28:=Tryz.zeroValue144
  t33:=Tryz.underlying108
  a33:=Tryz.isAgg108
  z33:=Tryz.sizeOf108
  v33:=Tryz.zeroValue108 }
def laySorted_ren : Go.Shelf.Ren:=⟨fun | 6=>77 | 8=>96 | 9=>97 | 11=>111 | 13=>113 | 12=>112 | 23=>128 | 24=>129 | 14=>119 | 15=>120 | 16=>121 | 17=>122 | 18=>123 | 19=>124 | 20=>125 | 21=>126 | 22=>127 | 25=>133 | 26=>134 | 27=>135 | 28=>136 | 29=>137 | 30=>138 | 31=>140 | n=>n,fun | 26=>3 | 28=>144 | 24=>96 | 0=>0 | 3=>3 | 37=>125 | 48=>188 | 50=>176 | 4=>4 | 40=>180 | 39=>179 | 45=>185 | 5=>5 | 9=>9 | 51=>190 | 55=>194 | 57=>198 | 58=>199 | 33=>108 | n=>n,fun | n=>n⟩
theorem laySorted : Go.Proofs.SlLaysZI.n6 Tryz.prog laySorted_ren := {
  mixed:=by kernel_rfl
  f6:=⟨Tryz.f77.name,by decide,Tryz.func77.trans (congrArg some (by kernel_rfl))⟩
  f8:=⟨Tryz.f96.name,by decide,Tryz.func96.trans (congrArg some (by kernel_rfl))⟩
  f11:=⟨Tryz.f111.name,by decide,Tryz.func111.trans (congrArg some (by kernel_rfl))⟩
  t0:=Tryz.underlying0
  a0:=Tryz.isAgg0
  z0:=Tryz.sizeOf0
  v0:=Tryz.zeroValue0
  t24:=Tryz.underlying96
  a24:=Tryz.isAgg96
  z24:=Tryz.sizeOf96
  v24:=Tryz.zeroValue96
  t26:=Tryz.underlying3
  a26:=Tryz.isAgg3
  z26:=Tryz.sizeOf3
  v26:=Tryz.zeroValue3
  t28:=Tryz.underlying144
  a28:=Tryz.isAgg144
  z28:=Tryz.sizeOf144
  v28:=Tryz.zeroValue144
  i26:=by kernel_rfl }
def laySort_ren : Go.Shelf.Ren:=⟨fun | 5=>97 | 8=>113 | 7=>112 | 19=>128 | 20=>129 | 10=>119 | 11=>120 | 12=>121 | 13=>122 | 14=>123 | 15=>124 | 16=>125 | 17=>126 | 18=>127 | 30=>133 | 31=>134 | 32=>135 | 33=>136 | 34=>137 | 35=>138 | 40=>140 | n=>n,fun | 23=>96 | 25=>3 | 3=>3 | 32=>125 | 22=>96 | 0=>0 | 44=>188 | 46=>176 | 4=>4 | 36=>180 | 35=>179 | 41=>185 | 5=>5 | 9=>9 | 53=>190 | 57=>194 | 63=>198 | 64=>199 | n=>n,fun | n=>n⟩
theorem laySort : Go.Proofs.SlLaysM.n5 Tryz.prog laySort_ren := {
  mixed:=by kernel_rfl
  f5:=⟨Tryz.f97.name,by decide,Tryz.func97.trans (congrArg some (by kernel_rfl))⟩
  f7:=⟨Tryz.f112.name,by decide,Tryz.func112.trans (congrArg some (by kernel_rfl))⟩
  f8:=Tryz.func113.trans (congrArg some (by kernel_rfl))
  f10:=⟨Tryz.f119.name,by decide,Tryz.func119.trans (congrArg some (by kernel_rfl))⟩
  f11:=⟨Tryz.f120.name,by decide,Tryz.func120.trans (congrArg some (by kernel_rfl))⟩
  f12:=⟨Tryz.f121.name,by decide,Tryz.func121.trans (congrArg some (by kernel_rfl))⟩
  f13:=⟨Tryz.f122.name,by decide,Tryz.func122.trans (congrArg some (by kernel_rfl))⟩
  f14:=⟨Tryz.f123.name,by decide,Tryz.func123.trans (congrArg some (by kernel_rfl))⟩
  f15:=⟨Tryz.f124.name,by decide,Tryz.func124.trans (congrArg some (by kernel_rfl))⟩
  f16:=⟨Tryz.f125.name,by decide,Tryz.func125.trans (congrArg some (by kernel_rfl))⟩
  f17:=⟨Tryz.f126.name,by decide,Tryz.func126.trans (congrArg some (by kernel_rfl))⟩
  f18:=⟨Tryz.f127.name,by decide,Tryz.func127.trans (congrArg some (by kernel_rfl))⟩
  f19:=Tryz.func128.trans (congrArg some (by kernel_rfl))
  f20:=Tryz.func129.trans (congrArg some (by kernel_rfl))
  f30:=⟨Tryz.f133.name,by decide,Tryz.func133.trans (congrArg some (by kernel_rfl))⟩
  f31:=Tryz.func134.trans (congrArg some (by kernel_rfl))
  f32:=Tryz.func135.trans (congrArg some (by kernel_rfl))
  f33:=⟨Tryz.f136.name,by decide,Tryz.func136.trans (congrArg some (by kernel_rfl))⟩
  f34:=⟨Tryz.f137.name,by decide,Tryz.func137.trans (congrArg some (by kernel_rfl))⟩
  f35:=⟨Tryz.f138.name,by decide,Tryz.func138.trans (congrArg some (by kernel_rfl))⟩
  f40:=⟨Tryz.f140.name,by decide,Tryz.func140.trans (congrArg some (by kernel_rfl))⟩
  t0:=Tryz.underlying0
  a0:=Tryz.isAgg0
  z0:=Tryz.sizeOf0
  v0:=Tryz.zeroValue0
  t3:=Tryz.underlying3
  a3:=Tryz.isAgg3
  z3:=Tryz.sizeOf3
  v3:=Tryz.zeroValue3
  t4:=Tryz.underlying4
  a4:=Tryz.isAgg4
  z4:=Tryz.sizeOf4
  v4:=Tryz.zeroValue4
  t5:=Tryz.underlying5
  a5:=Tryz.isAgg5
  z5:=Tryz.sizeOf5
  v5:=Tryz.zeroValue5
  t9:=Tryz.underlying9
  a9:=Tryz.isAgg9
  z9:=Tryz.sizeOf9
  v9:=Tryz.zeroValue9
  t22:=Tryz.underlying96
  a22:=Tryz.isAgg96
  z22:=Tryz.sizeOf96
  v22:=Tryz.zeroValue96
  t23:=Tryz.underlying96
  a23:=Tryz.isAgg96
  z23:=Tryz.sizeOf96
  v23:=Tryz.zeroValue96
  t25:=Tryz.underlying3
  a25:=Tryz.isAgg3
  z25:=Tryz.sizeOf3
  v25:=Tryz.zeroValue3
  t32:=Tryz.underlying125
  a32:=Tryz.isAgg125
  z32:=Tryz.sizeOf125
  v32:=Tryz.zeroValue125
  t35:=Tryz.underlying179
  a35:=Tryz.isAgg179
  z35:=Tryz.sizeOf179
  v35:=Tryz.zeroValue179
  t36:=Tryz.underlying180
  a36:=Tryz.isAgg180
  z36:=Tryz.sizeOf180
  v36:=Tryz.zeroValue180
  t41:=Tryz.underlying185
  a41:=Tryz.isAgg185
  z41:=Tryz.sizeOf185
  v41:=Tryz.zeroValue185
  t44:=Tryz.underlying188
  a44:=Tryz.isAgg188
  z44:=Tryz.sizeOf188
  v44:=Tryz.zeroValue188
  t46:=Tryz.underlying176
  a46:=Tryz.isAgg176
  z46:=Tryz.sizeOf176
  v46:=Tryz.zeroValue176
  t53:=Tryz.underlying190
  a53:=Tryz.isAgg190
  z53:=Tryz.sizeOf190
  v53:=Tryz.zeroValue190
  t57:=Tryz.underlying194
  a57:=Tryz.isAgg194
  z57:=Tryz.sizeOf194
  v57:=Tryz.zeroValue194
  t63:=Tryz.underlying198
  a63:=Tryz.isAgg198
  z63:=Tryz.sizeOf198
  v63:=Tryz.zeroValue198
  t64:=Tryz.underlying199
  a64:=Tryz.isAgg199
  z64:=Tryz.sizeOf199
  v64:=Tryz.zeroValue199 }
def layBS_ren : Go.Shelf.Ren:=⟨fun | 169=>62 | n=>n,fun | 70=>119 | 9=>9 | 0=>0 | 72=>121 | 37=>24 | 127=>151 | 3=>3 | 5=>5 | n=>n,fun | n=>n⟩
theorem layBS : Go.Proofs.Lays.n169 Tryz.prog layBS_ren := {
  mixed:=by kernel_rfl
  f169:=Tryz.func62.trans (congrArg some (by kernel_rfl))
  t0:=Tryz.underlying0
  a0:=Tryz.isAgg0
  z0:=Tryz.sizeOf0
  v0:=Tryz.zeroValue0
  t3:=Tryz.underlying3
  a3:=Tryz.isAgg3
  z3:=Tryz.sizeOf3
  v3:=Tryz.zeroValue3
  t9:=Tryz.underlying9
  a9:=Tryz.isAgg9
  z9:=Tryz.sizeOf9
  v9:=Tryz.zeroValue9
  t37:=Tryz.underlying24
  a37:=Tryz.isAgg24
  z37:=Tryz.sizeOf24
  v37:=Tryz.zeroValue24
  t70:=Tryz.underlying119
  a70:=Tryz.isAgg119
  z70:=Tryz.sizeOf119
  v70:=Tryz.zeroValue119
  t72:=Tryz.underlying121
  a72:=Tryz.isAgg121
  z72:=Tryz.sizeOf121
  v72:=Tryz.zeroValue121
  t127:=Tryz.underlying151
  a127:=Tryz.isAgg151
  z127:=Tryz.sizeOf151
  v127:=Tryz.zeroValue151 }
def layIB_ren : Go.Shelf.Ren:=⟨fun | 137=>67 | 217=>87 | 266=>104 | n=>n,fun | 9=>9 | 5=>5 | 3=>3 | n=>n,fun | n=>n⟩
theorem layIB : Go.Proofs.Lays.n137 Tryz.prog layIB_ren := {
  mixed:=by kernel_rfl
  f137:=Tryz.func67.trans (congrArg some (by kernel_rfl))
  f217:=Tryz.func87.trans (congrArg some (by kernel_rfl))
  f266:=Tryz.func104.trans (congrArg some (by kernel_rfl))
  t3:=Tryz.underlying3
  a3:=Tryz.isAgg3
  z3:=Tryz.sizeOf3
  v3:=Tryz.zeroValue3
  t5:=Tryz.underlying5
  a5:=Tryz.isAgg5
  z5:=Tryz.sizeOf5
  v5:=Tryz.zeroValue5
  t9:=Tryz.underlying9
  a9:=Tryz.isAgg9
  z9:=Tryz.sizeOf9
  v9:=Tryz.zeroValue9 }
end Go.Proofs.YtldgdjilchnceaaGreatDoor

set_option linter.unusedVariables false
set_option linter.unusedSimpArgs false
namespace Go.Proofs.YtldgdjilchnceaaGreatDoor
open Go.RowKit Go.Lib
structure Ans where
  seq : Int
  done : Bool
  rev : Int
  code : Int
abbrev Row:=Int × Ans
def noAns : Ans:=⟨0,false,0,0⟩
def mayC (c : Int) : Bool:=decide (1≤c) && decide (c≤20)
def sndAn (a : Ans) : Bool:=if a.done = true then decide (0≤a.rev) && decide (a.code = 0) else decide (0≤a.code) && decide (a.rev = 0)
def putT (c : Int) (a : Ans) : List Row→List Row
  | []=>[(c,a)]
  | x::r=>if x.1 = c then (c,a)::r else x::putT c a r
def getT (l : List Row) (c : Int) : Ans:=((l.find? fun x=>decide (x.1 = c)).map (·.2)).getD noAns
def sortI (l : List Int) : List Int:=l.mergeSort fun x y=>decide (x≤y)
def wRow (st : Wt) (x : Row) : Wt:=wNum (wNum (wFlag (wNum (wNum st x.1) x.2.seq) x.2.done) x.2.rev) x.2.code
def rowsT (l : List Row) : List Row:=(sortI (l.map (·.1))).map fun c=>(c,getT l c)
def wTbl (l : List Row) : Wt:=(rowsT l).foldl wRow (wNum ([],false) l.length)
def bTbl (l : List Row) : List UInt8:=if (wTbl l).2 = true then [] else (wTbl l).1
def rAns (st : St) : Ans × St:=let a:=rNum st; let b:=rFlag a.2; let c:=rNum b.2; let d:=rNum c.2; (⟨a.1,b.1,c.1,d.1⟩,d.2)
def rRow (st : St) : Row × St:=let a:=rNum st; let b:=rAns a.2; ((a.1,b.1),b.2)
def badRow (q : Row × St) : Prop:=q.2.2 ≠ 0∨mayC q.1.1 = false∨q.1.2.seq < 1∨sndAn q.1.2 = false
instance (q : Row × St) : Decidable (badRow q):=by unfold badRow; infer_instance
def goT : Nat→St→List Row→Option (List Row × St)
  | 0,st,l=>some (l,st)
  | n + 1,st,l=>if badRow (rRow st) then none else goT n (rRow st).2 (putT (rRow st).1.1 (rRow st).1.2 l)
def tblF (b : List UInt8) : Option (List Row × St)→Int
  | none=>2
  | some q=>if q.2.2 ≠ 0∨bTbl q.1 ≠ b then 2 else 0
def tblE (b : List UInt8) : Int:=tblF b (goT (rMany 20 (b,0)).1.toNat (rMany 20 (b,0)).2 [])
def dig (n : Nat) : UInt8:=if n < 10 then UInt8.ofNat (48 + n) else UInt8.ofNat (87 + n)
def ixD (c : UInt8) : Nat:=if 48≤c.toNat∧c.toNat≤57 then c.toNat - 48 else if 97≤c.toNat∧c.toNat≤102 then c.toNat - 87 else 15
def hexB : List UInt8→List UInt8
  | []=>[]
  | c::r=>dig (c.toNat / 16)::dig (c.toNat % 16)::hexB r
def unhexB : List UInt8→List UInt8
  | a::b::r=>UInt8.ofNat (16 * ixD a + ixD b)::unhexB r
  | _=>[]
theorem ix_dig : ∀ n : Fin 16,ixD (dig n.1) = n.1∧1≤(dig n.1).toNat∧(dig n.1).toNat < 128:=by decide
theorem unhex_hex : ∀ l : List UInt8,unhexB (hexB l) = l
  | []=>rfl
  | c::r=>by
    have h:=UInt8.toNat_lt c
    have h1:=(ix_dig ⟨c.toNat / 16,by omega⟩).1
    have h2:=(ix_dig ⟨c.toNat % 16,by omega⟩).1
    simp only at h1 h2;simp only [hexB,unhexB,unhex_hex r,h1,h2];rw [show 16 * (c.toNat / 16) + c.toNat % 16 = c.toNat by omega]
    simp
theorem hex_len : ∀ l : List UInt8,(hexB l).length = 2 * l.length
  | []=>rfl
  | c::r=>by simp only [hexB,List.length_cons,hex_len r]; omega
theorem unhex_len : ∀ l : List UInt8,2 * (unhexB l).length≤l.length
  | []=>by simp [unhexB]
  | [a]=>by simp [unhexB]
  | a::b::r=>by simp only [unhexB,List.length_cons]; have:=unhex_len r; omega
theorem hex_ok (l : List UInt8) : okText (hexB l) = true:=by
  refine ascii_ok ?_
  induction l with
  | nil=>intro b hb; cases hb
  | cons c r ih=>
    intro b hb
    have h:=UInt8.toNat_lt c
    simp only [hexB,List.mem_cons] at hb
    rcases hb with rfl | rfl | hb
    · exact (ix_dig ⟨c.toNat / 16,by omega⟩).2
    · exact (ix_dig ⟨c.toNat % 16,by omega⟩).2
    · exact ih b hb
structure Snp where
  rev : Int
  nodes : List Nod
  commits : List Cmt
  table : List UInt8
def noS : Snp:=⟨0,[],[],[]⟩
def okC (rev : Int) (c : Cmt) : Bool:=decide (1≤c.client) && decide (1≤c.seq) && decide (c.rev = rev) && decide (txnE c.acts = 0)
def okCs : Int→List Cmt→Bool
  | _,[]=>true
  | rev,c::r=>okC (rev + 1) c && okCs (rev + 1) r
def cmtsOk (rev : Int) (l : List Cmt) : Bool:=okCs rev l && decide (l.length≤1000)
def snpE (s : Snp) : Int:=if fits s.rev = false∨cmtsOk s.rev s.commits = false then 1 else if loadOk s.nodes = false then 1 else if tblE s.table ≠ 0 then 1 else 0
def hexS (t : List UInt8) : ByteArray:=⟨(hexB t).toArray⟩
def wTri (st : Wt) (x : Cmt) : Wt:=wActns (wNum (wNum st x.client) x.seq) x.acts
def wSnp0 (s : Snp) : Wt:=s.commits.foldl wTri (wNum (wNods (wNum ([],false) s.rev) s.nodes) s.commits.length)
def wSnp (s : Snp) : Wt:=wText (wSnp0 s) (hexS s.table)
def encS (s : Snp) : List UInt8 × Int:=if snpE s ≠ 0 then ([],snpE s) else if (wSnp s).2 = true then ([],1) else ((wSnp s).1,0)
/-- A commit is read; its revision is told. -/
def rTri (rev : Int) (st : St) : Cmt × St:=let a:=rNum st; let b:=rNum a.2; let c:=rActns b.2; (⟨rev,a.1,b.1,c.1⟩,c.2)
def rTris : Nat→Int→St→List Cmt × St
  | 0,_,st=>([],st)
  | n + 1,rev,st=>let a:=rTri (rev + 1) st; let r:=rTris n (rev + 1) a.2; (a.1::r.1,r.2)
def rSnp (st : St) : Snp × St :=
  let a:=rNum st; let b:=rNods a.2; let c:=rMany 1000 b.2; let d:=rTris c.1.toNat a.1 c.2; let e:=rText 65536 d.2
  (⟨a.1,b.1,d.1,unhexB e.1.data.toList⟩,e.2)
def decS (b : List UInt8) : Snp × Int :=
  let q:=rSnp (b,0)
  if q.2.2 ≠ 0∨(encS q.1).2 ≠ 0∨(encS q.1).1 ≠ b then (noS,2) else (q.1,0)
def recOk (x : Row) (l : List Actn) : Bool:=mayC x.1 && decide (1≤x.2.seq) && sndAn x.2 && (l.isEmpty || x.2.done) && decide (txnE l = 0)
def wRec (x : Row) (l : List Actn) : Wt:=wActns (wRow ([],false) x) l
def encR (x : Row) (l : List Actn) : List UInt8 × Int:=if recOk x l = false∨(wRec x l).2 = true then ([],1) else ((wRec x l).1,0)
def rRec (st : St) : (Row × List Actn) × St:=let a:=rRow st; let b:=rActns a.2; ((a.1,b.1),b.2)
def decR (b : List UInt8) : (Row × List Actn) × Int :=
  let q:=rRec (b,0)
  if q.2.2 ≠ 0∨(encR q.1.1 q.1.2).2 ≠ 0∨(encR q.1.1 q.1.2).1 ≠ b then (((0,noAns),[]),2) else (q.1,0)
theorem load_nods {l : List Nod} (h : loadOk l = true) : nodsE l = 0:=by
  have h1 : l.length≤100:=by unfold loadOk at h; simp only [Bool.and_eq_true,decide_eq_true_eq] at h; omega
  unfold nodsE; rw [if_neg (by omega),if_pos h]
theorem back_tris : ∀ (l : List Cmt) (rev : Int) (st : Wt),okCs rev l = true→(l.foldl wTri st).2 = false→st.2 = false∧∃ bs,(l.foldl wTri st).1 = st.1++bs∧∀ rest,rTris l.length rev (bs++rest,0) = (l,(rest,0))
  | [],rev,st,_,h=>⟨h,[],by simp,fun rest=>rfl⟩
  | x::r,rev,st,hc,h=>by
    simp only [okCs,okC,Bool.and_eq_true,decide_eq_true_eq] at hc;obtain ⟨h1,b1,h2,h3⟩:=back_tris r (rev + 1) (wTri st x) hc.2 h;obtain ⟨h6,l6,e6,r6⟩:=acts_back hc.1.2 _ h1;obtain ⟨h5,l5,e5,r5⟩:=back_num x.seq _ h6;obtain ⟨h4,l4,e4,r4⟩:=back_num x.client _ h5;refine ⟨h4,l4++l5++l6++b1,?_,fun rest=>?_⟩
    · rw [List.foldl_cons,h2];show (wActns (wNum (wNum st x.client) x.seq) x.acts).1++b1 = _;rw [e6,e5,e4]; simp
    · simp only [List.length_cons,rTris,rTri,List.append_assoc,r4,r5,r6,h3];rw [← hc.1.1.2]
theorem snp_ok {s : Snp} (h : snpE s = 0) : fits s.rev = true∧okCs s.rev s.commits = true∧s.commits.length≤1000∧loadOk s.nodes = true∧tblE s.table = 0:=by
  unfold snpE at h
  split at h
  · cases h
  · rename_i h1
    simp only [not_or,Bool.not_eq_false,cmtsOk,Bool.and_eq_true,decide_eq_true_eq] at h1
    split at h
    · cases h
    · rename_i h2
      split at h
      · cases h
      · rename_i h3
        exact ⟨h1.1,h1.2.1,h1.2.2,by simpa using h2,by simpa using h3⟩
theorem snp_back {s : Snp} (h : snpE s = 0) (hw : (wSnp s).2 = false) (ht : s.table.length≤32768) (rest : List UInt8) : rSnp ((wSnp s).1++rest,0) = (s,(rest,0)):=by
  obtain ⟨k1,k2,k3,k4,k5⟩:=snp_ok h
  have hz : (hexS s.table).size = 2 * s.table.length:=by unfold hexS; rw [size_mk,hex_len]
  obtain ⟨h5,l5,e5,r5⟩:=back_text 65536 (hexS s.table) (by omega) _ hw;obtain ⟨h4,l4,e4,r4⟩:=back_tris s.commits s.rev _ k2 h5;obtain ⟨h3,l3,e3,r3⟩:=back_num s.commits.length _ h4;obtain ⟨h2,l2,e2,r2⟩:=nods_back (load_nods k4) _ h3;obtain ⟨h1,l1,e1,r1⟩:=back_num s.rev _ h2
  have e : (wSnp s).1 = l1++l2++l3++l4++l5:=by
    show (wText (wSnp0 s) (hexS s.table)).1 = _;rw [e5];show (s.commits.foldl wTri (wNum (wNods (wNum ([],false) s.rev) s.nodes) s.commits.length)).1++l5 = _;rw [e4,e3,e2,e1]; simp
  have hM : ∀ rest,rMany 1000 (l3++rest,0) = ((s.commits.length : Int),(rest,0)):=fun rest=>by
    simp only [rMany,r3]; rw [if_neg (by omega)]
  have r5' : ∀ rest,rText 65536 (l5++rest,0) = (hexS s.table,rest,0):=r5
  rw [e];simp only [rSnp,List.append_assoc,r1,r2,hM,Int.toNat_natCast,r4,r5']
  have : unhexB (hexS s.table).data.toList = s.table:=by unfold hexS; simp [unhex_hex]
  rw [this]
theorem enc_ok {s : Snp} (h : (encS s).2 = 0) : snpE s = 0∧(wSnp s).2 = false∧encS s = ((wSnp s).1,0):=by
  unfold encS at h
  split at h
  · rename_i h1; exact absurd h h1
  · rename_i h1
    split at h
    · cases h
    · rename_i h2
      refine ⟨by simpa using h1,by simpa using h2,?_⟩;unfold encS; rw [if_neg h1,if_neg h2]
theorem decS_back {s : Snp} (h : (encS s).2 = 0) (ht : s.table.length≤32768) : decS (encS s).1 = (s,0):=by
  obtain ⟨h1,h2,h3⟩:=enc_ok h
  have hb:=snp_back h1 h2 ht []
  rw [List.append_nil] at hb;rw [h3];unfold decS;simp only [hb];rw [if_neg (by rw [h3]; simp)]
theorem decS_more {s : Snp} (h : (encS s).2 = 0) (ht : s.table.length≤32768) (x : UInt8) : (decS ((encS s).1++[x])).2 = 2:=by
  obtain ⟨h1,h2,h3⟩:=enc_ok h
  have hb:=snp_back h1 h2 ht [x]
  rw [h3];unfold decS;simp only [hb]
  rw [if_pos (.inr (.inr (by
    rw [h3]; intro e
    have:=congrArg List.length e
    simp at this)))]
theorem rSnp_table (st : St) : (rSnp st).1.table.length≤32768:=by
  have h1:=unhex_len (rText 65536 (rTris (rMany 1000 (rNods (rNum st).2).2).1.toNat (rNum st).1 (rMany 1000 (rNods (rNum st).2).2).2).2).1.data.toList
  have h2:=rText_len (most:=65536) (by decide) (rTris (rMany 1000 (rNods (rNum st).2).2).1.toNat (rNum st).1 (rMany 1000 (rNods (rNum st).2).2).2).2
  have h3 : ∀ s : ByteArray,s.data.toList.length = s.size:=fun s=>by simp
  rw [h3] at h1;show (unhexB _).length≤32768
  omega
theorem decS_less {s : Snp} (h : (encS s).2 = 0) (ht : s.table.length≤32768) {k : Nat} (hk : k < (encS s).1.length) : (decS ((encS s).1.take k)).2 = 2:=by
  obtain ⟨h1,h2,h3⟩:=enc_ok h
  by_cases hd : (decS ((encS s).1.take k)).2 = 2
  · exact hd
  · exfalso
    unfold decS at hd;simp only at hd
    split at hd
    · exact hd rfl
    · rename_i h4
      simp only [not_or,ne_eq,Classical.not_not] at h4;obtain ⟨a1,a2,a3⟩:=h4;obtain ⟨g1,g2,g3⟩:=enc_ok a2
      have b1:=snp_back g1 g2 (rSnp_table _) ((encS s).1.drop k)
      rw [g3] at a3;simp only at a3;rw [a3,List.take_append_drop] at b1
      have b2:=snp_back h1 h2 ht []
      rw [List.append_nil] at b2;rw [h3] at b1 hk;simp only at b1 hk;rw [b2] at b1
      have:=congrArg (fun q=>q.2.1.length) b1
      simp at this
      omega
theorem snp_pos {s : Snp} (h : (encS s).2 = 0) (ht : s.table.length≤32768) : 0 < (encS s).1.length:=by
  obtain ⟨h1,h2,h3⟩:=enc_ok h
  rcases Nat.eq_zero_or_pos (encS s).1.length with h0 | h0
  · have e : (encS s).1 = []:=List.eq_nil_of_length_eq_zero h0
    have hb:=snp_back h1 h2 ht []
    rw [h3] at e;simp only at e;rw [e] at hb
    have h4 : (rSnp (([] : List UInt8),(0 : Int))).2.2 ≠ 0:=by decide
    exact absurd (by rw [List.append_nil] at hb; rw [hb]) h4
  · exact h0
theorem back_row (x : Row) : Back wRow rRow x:=fun st hb=>by
  obtain ⟨h5,l5,e5,r5⟩:=back_num x.2.code _ hb;obtain ⟨h4,l4,e4,r4⟩:=back_num x.2.rev _ h5;obtain ⟨h3,l3,e3,r3⟩:=back_flag x.2.done _ h4;obtain ⟨h2,l2,e2,r2⟩:=back_num x.2.seq _ h3;obtain ⟨h1,l1,e1,r1⟩:=back_num x.1 _ h2;refine ⟨h1,l1++l2++l3++l4++l5,by show (wNum (wNum (wFlag (wNum (wNum st x.1) x.2.seq) x.2.done) x.2.rev) x.2.code).1 = _; rw [e5,e4,e3,e2,e1]; simp,fun rest=>?_⟩;simp only [rRow,rAns,List.append_assoc,r1,r2,r3,r4,r5]
theorem encR_ok {x : Row} {l : List Actn} (h : (encR x l).2 = 0) : recOk x l = true∧(wRec x l).2 = false∧encR x l = ((wRec x l).1,0):=by
  unfold encR at h
  split at h
  · cases h
  · rename_i h1
    have h2:=h1
    simp only [not_or,Bool.not_eq_false,Bool.not_eq_true] at h1;exact ⟨h1.1,h1.2,by unfold encR; rw [if_neg h2]⟩
theorem rec_back {x : Row} {l : List Actn} (h : (encR x l).2 = 0) (rest : List UInt8) : rRec ((wRec x l).1++rest,0) = ((x,l),(rest,0)):=by
  obtain ⟨h1,h2,h3⟩:=encR_ok h;simp only [recOk,Bool.and_eq_true,decide_eq_true_eq] at h1;obtain ⟨h5,l5,e5,r5⟩:=acts_back h1.2 _ h2;obtain ⟨h4,l4,e4,r4⟩:=back_row x _ h5
  have e : (wRec x l).1 = l4++l5:=by
    show (wActns (wRow ([],false) x) l).1 = _;rw [e5,e4]; simp
  rw [e];simp only [rRec,List.append_assoc,r4,r5]
theorem decR_back {x : Row} {l : List Actn} (h : (encR x l).2 = 0) : decR (encR x l).1 = ((x,l),0):=by
  obtain ⟨h1,h2,h3⟩:=encR_ok h
  have hb:=rec_back h []
  rw [List.append_nil] at hb;rw [h3];unfold decR;simp only [hb];rw [if_neg (by rw [h3]; simp)]
theorem decR_more {x : Row} {l : List Actn} (h : (encR x l).2 = 0) (y : UInt8) : (decR ((encR x l).1++[y])).2 = 2:=by
  obtain ⟨h1,h2,h3⟩:=encR_ok h
  have hb:=rec_back h [y]
  rw [h3];unfold decR;simp only [hb]
  rw [if_pos (.inr (.inr (by
    rw [h3]; intro e
    have:=congrArg List.length e
    simp at this)))]
theorem decR_less {x : Row} {l : List Actn} (h : (encR x l).2 = 0) {k : Nat} (hk : k < (encR x l).1.length) : (decR ((encR x l).1.take k)).2 = 2:=by
  obtain ⟨h1,h2,h3⟩:=encR_ok h
  by_cases hd : (decR ((encR x l).1.take k)).2 = 2
  · exact hd
  · exfalso
    unfold decR at hd;simp only at hd
    split at hd
    · exact hd rfl
    · rename_i h4
      simp only [not_or,ne_eq,Classical.not_not] at h4;obtain ⟨a1,a2,a3⟩:=h4;obtain ⟨g1,g2,g3⟩:=encR_ok a2
      have b1:=rec_back a2 ((encR x l).1.drop k)
      rw [g3] at a3;simp only at a3;rw [a3,List.take_append_drop] at b1
      have b2:=rec_back h []
      rw [List.append_nil] at b2;rw [h3] at b1 hk;simp only at b1 hk;rw [b2] at b1
      have:=congrArg (fun q=>q.2.1.length) b1
      simp at this
      omega
end Go.Proofs.YtldgdjilchnceaaGreatDoor

set_option linter.unusedVariables false
set_option linter.unusedSimpArgs false
namespace Go.Proofs.YtldgdjilchnceaaGreatDoor
open Go.RowKit Go.Maps Go.Sort Go.Shelf
open Go.WideElems (Fit rd rg rd_mk rg_of)
/-- The entries of a map whose keys are ints. -/
def iE : Nat→List (Int × Value)→List MapEntry
  | _,[]=>[]
  | i,x::r=>⟨.int .i64 x.1,x.2,i⟩::iE (i + 1) r
def Ch.mpI (b : Nat) (l : List (Int × Value)) : Ch:=.own b (.map (iE 0 l).toArray l.length)
theorem iE_length : ∀ (i : Nat) (l : List (Int × Value)),(iE i l).length = l.length
  | i,[]=>rfl
  | i,y::r=>by simp only [iE,List.length_cons,iE_length (i + 1) r]
theorem iE_mem : ∀ (i : Nat) (l : List (Int × Value)) (e : MapEntry),e ∈ iE i l→(∃ x ∈ l,e.key = .int .i64 x.1∧e.val = x.2)∧i≤e.born∧e.born < i + l.length
  | i,[],e,h=>by cases h
  | i,y::r,e,h=>by
    simp only [iE,List.mem_cons] at h
    rcases h with rfl | h
    · exact ⟨⟨y,by simp,rfl,rfl⟩,Nat.le_refl _,by simp⟩
    · obtain ⟨⟨x,hx,h1⟩,h2,h3⟩:=iE_mem (i + 1) r e h;exact ⟨⟨x,by simp [hx],h1⟩,by omega,by simp only [List.length_cons]; omega⟩
theorem iE_nodup : ∀ (i : Nat) (l : List (Int × Value)),((iE i l).map (·.born)).Nodup
  | i,[]=>by simp [iE]
  | i,y::r=>by
    simp only [iE,List.map_cons,List.nodup_cons];refine ⟨fun h=>?_,iE_nodup (i + 1) r⟩;obtain ⟨e,he,h1⟩:=List.mem_map.1 h
    have:=(iE_mem (i + 1) r e he).2.1
    omega
theorem iE_keys : ∀ (i : Nat) (l : List (Int × Value)),(iE i l).map (·.key) = (l.map (·.1)).map (Value.int .i64)
  | i,[]=>rfl
  | i,y::r=>by simp only [iE,List.map_cons,iE_keys (i + 1) r]
theorem mE_iE : ∀ (i : Nat) (xs : List Nod),mE i xs = iE i (xs.map fun x=>(x.id,.agg (cN x).toArray))
  | i,[]=>rfl
  | i,y::r=>by simp only [mE,iE,List.map_cons,mE_iE (i + 1) r]
theorem mpN_mpI (b : Nat) (xs : List Nod) : Ch.mpN b xs = .mpI b (xs.map fun x=>(x.id,.agg (cN x).toArray)):=by
  unfold Ch.mpN Ch.mpI; rw [mE_iE]; simp
def anyR (v : Value) : Option (DataW Unit × List MemPlace):=some (.nil,[])
theorem rd_iE {x : MapEntry} {k : Int} (h : x.key = .int .i64 k) (hk : i64 k) : rd P 3 anyR x = some (.int .i64 k,.nil):=by
  obtain ⟨key,val,born⟩:=x;subst h;exact rd_mk (R:=anyR) (yv:=(.nil,[])) (keyOf_int_mk Tryz.underlying3 (by unfold i64 at hk; simp [Lit.wf,IntKind.min,IntKind.max,IntKind.signed,IntKind.bits]; omega)) rfl
section
variable {W w w' : World} {cs r r2 : List Ch} {b : Nat}
theorem Sep.owns {l : List (Int × Value)} (hs : Sep W w cs) (hk : Pick cs (.mpI b l) r) (hi : ∀ x ∈ l,i64 x.1) (hn : (l.map (·.1)).Nodup) (hl : l.length≤maxLen) :
    ∃ D : DataW Unit,w.ownsMap P 3 anyR b l.length D∧(intKeys D).Perm (l.map (·.1))∧Maps.size D = l.length:=by
  have hb:=hs.own_at hk
  have hrd : ∀ x ∈ iE 0 l,∃ k,i64 k∧x.key = .int .i64 k∧rd P 3 anyR x = some (.int .i64 k,.nil):=fun x hx=>by
    obtain ⟨⟨y,hy,h1,_⟩,_⟩:=iE_mem 0 l x hx;exact ⟨y.1,hi y hy,h1,rd_iE h1 (hi y hy)⟩
  refine ⟨.map (((iE 0 l).toArray.toList.map (rg P 3 anyR)).foldr DataW.insert []),⟨_,_,hb,⟨?_,⟨?_,?_,?_⟩,?_⟩,?_,rfl⟩,?_,?_⟩
  · simp [iE_length]; omega
  · intro x hx
    have:=(iE_mem 0 l x (by simpa using hx)).2.2
    omega
  · simpa using iE_nodup 0 l
  · have h1:=iE_keys 0 l
    show ((iE 0 l).map (·.key)).Nodup;rw [h1];exact List.pairwise_map.2 (hn.imp fun h e=>h (by simpa using e))
  · intro x hx;obtain ⟨k,_,_,h⟩:=hrd x (by simpa using hx);exact ⟨_,h⟩
  · simp [iE_length]
  · show ((((iE 0 l).toArray.toList.map (rg P 3 anyR)).foldr DataW.insert []).map fun p=>Go.intOf p.1).Perm _;refine ((Go.WideShapes.sorted_perm _).map _).trans ?_
    have : ((iE 0 l).toArray.toList.map (rg P 3 anyR)).map (fun p=>Go.intOf p.1) = l.map (·.1):=by
      have h2 : ∀ x ∈ iE 0 l,(fun p : Lit × DataW Unit=>Go.intOf p.1) (rg P 3 anyR x) = (match x.key with | .int _ k=>k | _=>0):=fun x hx=>by
        obtain ⟨k,_,h1,h⟩:=hrd x hx;rw [rg_of h,h1]; rfl
      simp only [List.map_map];rw [show ((iE 0 l).toArray.toList.map ((fun p : Lit × DataW Unit=>Go.intOf p.1) ∘ rg P 3 anyR)) = (iE 0 l).map (fun x=>match x.key with | .int _ k=>k | _=>0) from List.map_congr_left (by simpa using h2)]
      have h3:=congrArg (List.map fun v : Value=>match v with | .int _ k=>k | _=>0) (iE_keys 0 l)
      simp only [List.map_map] at h3;exact h3.trans (by simp [Function.comp_def])
    rw [this]
  · simp [Maps.size,length_sorted,iE_length]
/-- Nothing that lay in w has turned. -/
theorem Sep.after (hs : Sep W w cs) (hb : Below w.heap.size w w') : Sep W w' cs:=by
  obtain ⟨h0,Z,H,hd,hz,hh,hw,ha⟩:=hs
  have up : ∀ A : Hp,A.le (hp w)→A.le (hp w'):=fun A hA i o ho=>by
    have h1:=hA i o ho
    have hi : i < w.heap.size:=(Array.getElem?_eq_some_iff.1 h1).1
    exact (hb.block i hi).trans h1
  exact ⟨⟨hb.os.trans h0.1,hb.tape.trans h0.2.1,hb.output.trans h0.2.2⟩,Z,H,hd,up Z hz,up H hh,hw,ha⟩
/-- .. and a new block. -/
theorem Sep.after_new {g : Nat} {o : Obj} (hs : Sep W w cs) (hb : Below w.heap.size w w') (hg : w.heap.size≤g) (ho : w'.heap[g]? = some o) : Sep W w' (.own g o::cs):=by
  obtain ⟨h0,Z,H,hd,hz,hh,hw,ha⟩:=hs
  have up : ∀ A : Hp,A.le (hp w)→A.le (hp w'):=fun A hA i o ho=>by
    have h1:=hA i o ho
    have hi : i < w.heap.size:=(Array.getElem?_eq_some_iff.1 h1).1
    exact (hb.block i hi).trans h1
  have fresh : ∀ (A : Hp),A.le (hp w)→A g = none:=fun A hA=>by
    cases hx : A g with
    | none=>rfl
    | some x=>have h1:=(Array.getElem?_eq_some_iff.1 (hA _ _ hx)).1; omega
  have d1 : ∀ (A : Hp),A.le (hp w)→(Hp.one g o).dj A:=fun A hA i x hx=>by
    unfold Hp.one at hx
    split at hx
    · rename_i hi; subst hi; exact fresh A hA
    · cases hx
  exact ⟨⟨hb.os.trans h0.1,hb.tape.trans h0.2.1,hb.output.trans h0.2.2⟩,Z,(Hp.one g o).un H,Hp.dj_symm (Hp.un_dj (d1 Z hz) (Hp.dj_symm hd)),up Z hz,Hp.un_le (Hp.one_le ho) (up H hh),hw,
    Hp.one g o,H,Hp.le_un_left _ _,Hp.le_un_right (d1 H hh),d1 H hh,by simp [Ch.on,Hp.one],ha⟩
/-- A slice that the library has made. -/
theorem Sep.after_row {v : Value} {xs : List Int} (hs : Sep W w cs) (hb : Below w.heap.size w w') (hx : ∀ x ∈ xs,i64 x) (hr : w'.ownsRow w.heap.size 3 1 v xs.length (xs.map encZ)) :
    ∃ A c,v = .slice A xs.length c∧Sep W w' (.rd kInt (.slice A xs.length c) xs::cs):=by
  rcases hr.2 with ⟨rfl,hz⟩ | ⟨g,cap,cur,rfl,hbase,hgb,r1,r2,r3,r4⟩
  · obtain rfl : xs = []:=List.eq_nil_of_length_eq_zero hz;exact ⟨none,0,rfl,(hs.after hb).rd_nil⟩
  · refine ⟨_,cap,rfl,?_⟩
    have h1:=hs.after_new hb hbase hgb
    refine Sep.ol_rd (d:=kInt) (T:=3) (Sep.ol_shut ?_ r1 r2 r3) .here;refine (h1.add (x:=.ro (fun Z=>kInt.row Z cur 0 xs) (fun _ _ h=>kInt.row_mono h)) (fun Z i x hi=>?_)).perm (List.Perm.swap _ _ _);refine ⟨[.int .i64 x],⟨rfl,hx x (List.mem_of_getElem? hi)⟩,fun j u hj=>?_⟩
    match j,hj with
    | 0,hj=>
      simp at hj; subst hj
      have h2 : (cur.toList.take (xs.length * 1))[i]? = some (encZ x):=by rw [r4]; simp [hi]
      rw [List.getElem?_take] at h2
      split at h2
      · show cur[0 + i * 1 + 0]? = _;simp only [Nat.zero_add,Nat.mul_one,Nat.add_zero]
        simpa using h2
      · cases h2
    | j + 1,hj=>simp at hj
theorem sorts (m : Nat) : AnyZI.SortsIn P laySorted_ren Fence.wide m :=
  ⟨fun blk off cap ss W hH hblk hsz=>callsIn_wide.2 (AnyM.slices_Sort_int laySort blk off cap ss W hH hblk hsz),
   fun p cap W=>callsIn_wide.2 (AnyM.slices_Sort_int_none laySort p cap W)⟩
theorem sortI_perm {l l' : List Int} (h : l.Perm l') : sortI l = sortI l':=mergeSort_of_perm_i h
theorem sortI_mem {l : List Int} {x : Int} : x ∈ sortI l ↔ x ∈ l:=(List.mergeSort_perm l _).mem_iff
theorem sortI_length (l : List Int) : (sortI l).length = l.length:=(List.mergeSort_perm l _).length_eq
theorem sorted_of {g : Nat} {lb : Array Value} {D : DataW Unit} {keys : List Int} (hseq : SeqGives Fence.wide 2 P g lb encZ (fun ss=>ss.Perm (intKeys D)) (Maps.size D) w)
    (eg : ∀ args w,(callFunc g args).run P w = .ok (.enter g args) w) (hp : (intKeys D).Perm keys) (hi : ∀ x ∈ keys,i64 x) (hl : Maps.size D≤1000000000) (hs : Sep W w cs) :
    Calls P 77 #[.func (.func g) #[] lb] w (Rt fun v w'=>∃ A c,v = .slice A keys.length c∧Sep W w' (.rd kInt (.slice A keys.length c) (sortI keys)::cs)):=by
  have cS:=AnyZI.sorted_in laySorted Fence.wide 5 trivial trivial trivial trivial rfl (by omega) (sorts _) (enters_of Tryz.func97 (by kernel_rfl) rfl) g lb trivial eg _ _ (by unfold maxLen; omega) (by omega) _ hseq
  refine (callsIn_wide.1 cS).mono ?_;rintro e w' ⟨v,ss,rfl,hS,hrow,hnil,hb⟩
  have hperm:=hS.trans hp
  have e1 : ss.mergeSort (fun x y=>decide (x≤y)) = sortI keys:=sortI_perm hperm
  rw [e1,hperm.length_eq,← sortI_length keys] at hrow;obtain ⟨A,c,rfl,h⟩:=hs.after_row hb (fun x hx=>hi x (sortI_mem.1 hx)) hrow;rw [sortI_length] at h ⊢;exact ⟨A,c,rfl,h⟩
theorem KeysA_c (hs : Sep W w cs) : Calls P 99 #[.map (some b)] w
    (Rt fun v w'=>∃ bb,v = .func (.func 114) #[] #[.pointer (some ⟨bb,0,none⟩)]∧Sep W w' (.blk bb 105 [.map (some b)]::cs)):=by
  refine (callsIn_wide.1 (AnyZI.keys_in layKA Fence.wide 5 trivial rfl (some b) w)).mono ?_;rintro e w' ⟨rfl,rfl⟩;exact ⟨w.heap.size,rfl,hs.blk_alloc #[.map (some b)] 105⟩
theorem KeysN_c (hs : Sep W w cs) : Calls P 78 #[.map (some b)] w
    (Rt fun v w'=>∃ bb,v = .func (.func 98) #[] #[.pointer (some ⟨bb,0,none⟩)]∧Sep W w' (.blk bb 101 [.map (some b)]::cs)):=by
  refine (callsIn_wide.1 (AnyZI.keys_in layKN Fence.wide 5 trivial rfl (some b) w)).mono ?_;rintro e w' ⟨rfl,rfl⟩;exact ⟨w.heap.size,rfl,hs.blk_alloc #[.map (some b)] 101⟩
theorem SortedA_c {bb : Nat} {l : List (Int × Value)} (hi : ∀ x ∈ l,i64 x.1) (hn : (l.map (·.1)).Nodup) (hl : l.length≤1000000000) (hs : Sep W w cs) (hk : Pick cs (.blk bb 105 [.map (some b)]) r) (hk2 : Pick cs (.mpI b l) r2) :
    Calls P 77 #[.func (.func 114) #[] #[.pointer (some ⟨bb,0,none⟩)]] w
      (Rt fun v w'=>∃ A c,v = .slice A l.length c∧Sep W w' (.rd kInt (.slice A l.length c) (sortI (l.map (·.1)))::cs)):=by
  obtain ⟨D,h1,h2,h3⟩:=hs.owns hk2 hi hn (by unfold maxLen; omega)
  have hbl:=(Array.getElem?_eq_some_iff.1 (hs.own_at hk)).1
  have hseq:=AnyZI.keys_gives (ρ:=layKA_ren) { layKA with } Fence.wide 2 trivial rfl (by omega) bb b l.length D w hbl (hs.blk_cell hk rfl) h1
  have:=sorted_of (g:=114) hseq (enters_of Tryz.func114 (by kernel_rfl) rfl) h2 (fun x hx=>by
    obtain ⟨y,hy,rfl⟩:=List.mem_map.1 hx
    exact hi y hy) (by omega) hs
  simpa using this
theorem SortedN_c {bb : Nat} {l : List (Int × Value)} (hi : ∀ x ∈ l,i64 x.1) (hn : (l.map (·.1)).Nodup) (hl : l.length≤1000000000) (hs : Sep W w cs) (hk : Pick cs (.blk bb 101 [.map (some b)]) r) (hk2 : Pick cs (.mpI b l) r2) :
    Calls P 77 #[.func (.func 98) #[] #[.pointer (some ⟨bb,0,none⟩)]] w
      (Rt fun v w'=>∃ A c,v = .slice A l.length c∧Sep W w' (.rd kInt (.slice A l.length c) (sortI (l.map (·.1)))::cs)):=by
  obtain ⟨D,h1,h2,h3⟩:=hs.owns hk2 hi hn (by unfold maxLen; omega)
  have hbl:=(Array.getElem?_eq_some_iff.1 (hs.own_at hk)).1
  have hseq:=AnyZI.keys_gives (ρ:=layKN_ren) { layKN with } Fence.wide 2 trivial rfl (by omega) bb b l.length D w hbl (hs.blk_cell hk rfl) h1
  have:=sorted_of (g:=98) hseq (enters_of Tryz.func98 (by kernel_rfl) rfl) h2 (fun x hx=>by
    obtain ⟨y,hy,rfl⟩:=List.mem_map.1 hx
    exact hi y hy) (by omega) hs
  simpa using this
end
end Go.Proofs.YtldgdjilchnceaaGreatDoor

set_option linter.unusedVariables false
set_option linter.unusedSimpArgs false
namespace Go.Proofs.YtldgdjilchnceaaGreatDoor
open Go.RowKit Go.Proofs.YtldgdjilchnceaaGreatDoorW.PrintLast
def putI (c : Int) (v : Value) : List (Int × Value)→List (Int × Value)
  | []=>[(c,v)]
  | x::r=>if x.1 = c then (c,v)::r else x::putI c v r
def getI (l : List (Int × Value)) (c : Int) : Option Value:=(l.find? fun x=>decide (x.1 = c)).map (·.2)
theorem iE_append : ∀ (i : Nat) (l : List (Int × Value)) (x : Int × Value),iE i (l++[x]) = iE i l++[⟨.int .i64 x.1,x.2,i + l.length⟩]
  | i,[],x=>by simp [iE]
  | i,y::r,x=>by
    simp only [List.cons_append,iE,iE_append (i + 1) r x,List.length_cons];rw [show i + 1 + r.length = i + (r.length + 1) by omega]
theorem find_iE (c : Int) (u : Value) : ∀ (l : List (Int × Value)) (i j : Nat),
    (Instr.findNow (.int .i64) (.int .i64 c) (iE i l) j = some none∧getI l c = none∧putI c u l = l++[(c,u)]) ∨
    ∃ k v,Instr.findNow (.int .i64) (.int .i64 c) (iE i l) j = some (some (j + k,v))∧getI l c = some v∧l[k]? = some (c,v)∧putI c u l = l.set k (c,u)
  | [],i,j=>.inl ⟨rfl,rfl,rfl⟩
  | x::r,i,j=>by
    by_cases h : x.1 = c
    · refine .inr ⟨0,x.2,?_,?_,?_,?_⟩
      · simp [iE,Instr.findNow,Instr.sameNow,h]
      · simp [getI,h]
      · simp [← h]
      · simp [putI,h]
    · have h' : ¬ c = x.1:=fun e=>h e.symm
      have hb : (c == x.1) = false:=by simpa using h'
      rcases find_iE c u r (i + 1) (j + 1) with ⟨h1,h2,h3⟩ | ⟨k,v,h1,h2,h3,h4⟩
      · refine .inl ⟨by simp [iE,Instr.findNow,Instr.sameNow,hb,h1],?_,by simp [putI,h,h3]⟩;unfold getI at h2 ⊢;rw [List.find?_cons_of_neg (by simpa using h)]; exact h2
      · refine .inr ⟨k + 1,v,?_,?_,by simpa using h3,by simp [putI,h,h4]⟩
        · simp [iE,Instr.findNow,Instr.sameNow,hb,h1]; omega
        · unfold getI at h2 ⊢;rw [List.find?_cons_of_neg (by simpa using h)]; exact h2
theorem iE_set : ∀ (i k : Nat) (l : List (Int × Value)) (c : Int) (u : Value),(iE i l).modify k (fun e=>⟨.int .i64 c,u,e.born⟩) = iE i (l.set k (c,u))
  | i,k,[],c,u=>by cases k <;> rfl
  | i,0,x::r,c,u=>rfl
  | i,k + 1,x::r,c,u=>by
    simp only [iE,List.modify_succ_cons,List.set_cons_succ,iE_set (i + 1) k r c u]
theorem iE_at : ∀ (i k : Nat) (l : List (Int × Value)) (x : Int × Value),l[k]? = some x→(iE i l)[k]? = some ⟨.int .i64 x.1,x.2,i + k⟩
  | i,k,[],x,h=>by simp at h
  | i,0,y::r,x,h=>by simp at h; subst h; rfl
  | i,k + 1,y::r,x,h=>by
    simp only [iE,List.getElem?_cons_succ] at h ⊢;rw [iE_at (i + 1) k r x h,show i + 1 + k = i + (k + 1) by omega]
section
variable {W w w' : World} {N d dd : Nat} {a : Act} {ops : Array Oper} {Q : Exit→Act→World→Prop} {S : World→Prop} {ds : List Nat} {fuel : Nat} {mq mr m0 : Nat} {rest : List Oper} {ps : String} {af : Array Edge}
  {l : List (Nat × Value)} {v zv : Value} {T U E : TypeId} {g : Option (Nat × Bool)} {cs r r2 : List Ch} {x y z : Operand} {b : Nat} {m : List (Int × Value)} {c : Int}
theorem key_ok (w : World) (e : Bool) (c : Int) : (Instr.checkKey e 10000 3 (.int .i64 c)).run P w = .ok () w:=by
  rw [Instr.checkKey]; simp [Tryz.runUnderlying3]
theorem yLookI (hu : ∀ w,(underlying U).run P w = .ok (.map 3 E) w) (hz : ∀ w,(zeroValue E).run P w = .ok zv w) (hs : Sep W w cs) (hx : ev l x = some (.map (some b))) (hk : Pick cs (.mpI b m) r) (hy : ev l y = some (.int .i64 c)) :
    Yl P w l (.lookup U x y false) T ((getI m c).getD zv):=fun ρ o h ho _=>by
  have hb:=hs.own_at hk
  unfold execOp; rw [ho]
  rcases find_iE c zv m 0 0 with ⟨h1,h2,_⟩ | ⟨k,v,h1,h2,_,_⟩
  · have hf:=MapKept.run_findKey (P:=P) (w:=w) Tryz.underlying3 h1
    rw [h2]
    simp [h _ _ hx,h _ _ hy,Instr.lookup,hu,MapKept.run_getObj_map hb,key_ok,hf,hz]
  · have hf:=MapKept.run_findKey (P:=P) (w:=w) Tryz.underlying3 h1
    rw [h2]
    simp [h _ _ hx,h _ _ hy,Instr.lookup,hu,MapKept.run_getObj_map hb,key_ok,hf]
theorem sPutI (hu : ∀ w,(underlying U).run P w = .ok (.map 3 E) w) (v : Value) (hs : Sep W w cs) (hk : Pick cs (.mpI b m) r) : ∃ w',(Instr.mapUpdate U (.map (some b)) (.int .i64 c) v).run P w = .ok () w'∧Sep W w' (.mpI b (putI c v m)::r):=by
  have hb:=hs.own_at hk
  have hset : ∀ o',(({ w with heap:=w.heap.setIfInBounds b o' } : World).heap[b]? = some o')∧∀ i,i ≠ b→({ w with heap:=w.heap.setIfInBounds b o' } : World).heap[i]? = w.heap[i]?:=fun o'=>MapKept.heap_set hb
  rcases find_iE c v m 0 0 with ⟨h1,h2,h3⟩ | ⟨k,u,h1,h2,h3,h4⟩
  · have hf:=MapKept.run_findKey (P:=P) (w:=w) Tryz.underlying3 h1
    have e : (iE 0 m).toArray.push ⟨.int .i64 c,v,m.length⟩ = (iE 0 (m++[(c,v)])).toArray:=by rw [iE_append]; simp
    refine ⟨{ w with heap:=w.heap.setIfInBounds b (.map (iE 0 (putI c v m)).toArray (putI c v m).length) },?_,(hs.pick hk).change rfl rfl rfl (hset _).1 (hset _).2⟩;rw [h3]
    simp [Instr.mapUpdate,hu,MapKept.run_getObj_map hb,key_ok,hf,MapKept.run_setObj_map _ hb,e]
  · rw [Nat.zero_add] at h1
    have hf:=MapKept.run_findKey (P:=P) (w:=w) Tryz.underlying3 h1
    have h5:=iE_at 0 k m _ h3
    have h6 : (Instr.keyThatStays (.int .i64 c) (.int .i64 c)).run P w = .ok (.int .i64 c) w:=MapKept.run_keyThatStays (d:=.int .i64) (by simp [MapKept.IsKey])
    have e:=iE_set 0 k m c v
    refine ⟨{ w with heap:=w.heap.setIfInBounds b (.map (iE 0 (putI c v m)).toArray (putI c v m).length) },?_,(hs.pick hk).change rfl rfl rfl (hset _).1 (hset _).2⟩;rw [h4]
    simp [Instr.mapUpdate,hu,MapKept.run_getObj_map hb,key_ok,hf,h5,h6,MapKept.run_setObj_map _ hb,e]
theorem dPutIl (i mB : Nat) (hi : ops[i]? = some ⟨none,.mapUpdate U x y z,T,ps,af,g⟩) (hc : loneB ops m0 mB i = true) (hds : ds.contains i = true) (ha : Has a N l) (hg : Won ops l g)
    (hu : ∀ w,(underlying U).run P w = .ok (.map 3 E) w) (hs : Sep W w cs) (hx : ev l x = some (.map (some b))) (hk : Pick cs (.mpI b m) r) (hy : ev l y = some (.int .i64 c)) (hz : ev l z = some v)
    (h : ∀ w',Sep W w' (.mpI b (putI c v m)::r)→D P ops Q S ds mq mr fuel mB a w') : D P ops Q S ds mq mr (fuel + 1) m0 a w:=by
  obtain ⟨w',h1,h2⟩:=sPutI hu v hs hk;refine dSl (w':=w') i mB hi hc hds ha hg (fun ρ o hE ho hT=>?_) (h _ h2);unfold execOp; rw [ho]
  simp [hE _ _ hx,hE _ _ hy,hE _ _ hz,h1]
end
end Go.Proofs.YtldgdjilchnceaaGreatDoor

set_option linter.unusedVariables false
set_option linter.unusedSimpArgs false
namespace Go.Proofs.YtldgdjilchnceaaGreatDoor
open Go.RowKit Go.Shelf Go.Lib
def layWB_ren : Go.Shelf.Ren:=⟨fun | 167=>61 | 240=>86 | 276=>103 | n=>n,fun | 70=>119 | 72=>121 | 37=>24 | 75=>123 | 80=>126 | 164=>167 | 0=>0 | 4=>4 | 5=>5 | 9=>9 | 20=>20 | n=>n,fun | n=>n⟩
theorem layWB : Go.Proofs.Lays.n167 Tryz.prog layWB_ren := {
  mixed:=by kernel_rfl
  f167:=Tryz.func61.trans (congrArg some (by kernel_rfl))
  f240:=Tryz.func86.trans (congrArg some (by kernel_rfl))
  f276:=Tryz.func103.trans (congrArg some (by kernel_rfl))
  t0:=Tryz.underlying0
  a0:=Tryz.isAgg0
  z0:=Tryz.sizeOf0
  v0:=Tryz.zeroValue0
  t4:=Tryz.underlying4
  a4:=Tryz.isAgg4
  z4:=Tryz.sizeOf4
  v4:=Tryz.zeroValue4
  t5:=Tryz.underlying5
  a5:=Tryz.isAgg5
  z5:=Tryz.sizeOf5
  v5:=Tryz.zeroValue5
  t9:=Tryz.underlying9
  a9:=Tryz.isAgg9
  z9:=Tryz.sizeOf9
  v9:=Tryz.zeroValue9
  t20:=Tryz.underlying20
  a20:=Tryz.isAgg20
  z20:=Tryz.sizeOf20
  v20:=Tryz.zeroValue20
  t37:=Tryz.underlying24
  a37:=Tryz.isAgg24
  z37:=Tryz.sizeOf24
  v37:=Tryz.zeroValue24
  t70:=Tryz.underlying119
  a70:=Tryz.isAgg119
  z70:=Tryz.sizeOf119
  v70:=Tryz.zeroValue119
  t72:=Tryz.underlying121
  a72:=Tryz.isAgg121
  z72:=Tryz.sizeOf121
  v72:=Tryz.zeroValue121
  t75:=Tryz.underlying123
  a75:=Tryz.isAgg123
  z75:=Tryz.sizeOf123
  v75:=Tryz.zeroValue123
  t164:=Tryz.underlying167
  a164:=Tryz.isAgg167
  z164:=Tryz.sizeOf167
  v164:=Tryz.zeroValue167
  }
theorem bslHex24_1_0 {w : World} {l : List (Nat × Value)} {T : TypeId} {x0 : Operand} {v0 : Value} (h0 : ev l x0 = some v0) (o0 : v0.cells = #[v0]:=by rfl) : Mk Tryz.prog w l (.buildSlice 24 1 #[(0,x0)]) T 5 1 [v0]:=fun ρ o h ho _=>by
  unfold execOp; rw [ho];exact mk1v (P:=Tryz.prog) w Tryz.runUnderlying24 Tryz.sizeOf5 Tryz.zeroValue5 rfl o0 (h _ _ h0)
theorem elHex24 : ElemT Tryz.prog 24 5 1 1:=elemT_mk Tryz.underlying24 rfl (by kernel_rfl)
theorem extraW : Builder.Extra Tryz.prog layWB_ren where
  sizeBuilder:=by kernel_rfl
  liesBuilder:=by kernel_rfl
  t5:=Tryz.underlying5
  a5:=Tryz.isAgg5
  z5:=Tryz.sizeOf5
  v5:=Tryz.zeroValue5
  infoByte:=by kernel_rfl
  cellsByte:=by kernel_rfl
  sizeByte:=by kernel_rfl
  neB5:=by decide
theorem extraS : Builder.Extra Tryz.prog layBS_ren where
  sizeBuilder:=by kernel_rfl
  liesBuilder:=by kernel_rfl
  t5:=Tryz.underlying5
  a5:=Tryz.isAgg5
  z5:=Tryz.sizeOf5
  v5:=Tryz.zeroValue5
  infoByte:=by kernel_rfl
  cellsByte:=by kernel_rfl
  sizeByte:=by kernel_rfl
  neB5:=by decide
abbrev digs : ByteArray:=⟨#[48,49,50,51,52,53,54,55,56,57,97,98,99,100,101,102]⟩
theorem digs_at : ∀ n : Fin 16,digs.data.toList[n.1]? = some (dig n.1):=by decide
theorem dig_at {m : Int} {n : Nat} (h : m = n) (h1 : n < 16) : digs.data.toList[m.toNat]? = some (dig n):=by
  subst h
  simpa using digs_at ⟨n,h1⟩
theorem ix_all : ∀ n : Fin 256,(indexByte digs.data.toList (UInt8.ofNat n.1) = -1∧ixD (UInt8.ofNat n.1) = 15)∨(indexByte digs.data.toList (UInt8.ofNat n.1) = ixD (UInt8.ofNat n.1)∧ixD (UInt8.ofNat n.1) < 16):=by decide +kernel
theorem ix_is (c : UInt8) : (indexByte digs.data.toList c = -1∧ixD c = 15)∨(indexByte digs.data.toList c = ixD c∧ixD c < 16):=by
  have:=ix_all ⟨c.toNat,UInt8.toNat_lt c⟩
  simpa using this
theorem ix_in (c : UInt8) : -1≤indexByte digs.data.toList c∧indexByte digs.data.toList c≤15:=by
  rcases ix_is c with ⟨h,_⟩ | ⟨h,h2⟩ <;> rw [h] <;> omega
theorem nib_all : ∀ a b : Fin 17,IntKind.u8.wrap (bits .or .i64 (((a.1 : Int) - 1) * 16) (bits .and .i64 ((b.1 : Int) - 1) 15)) = ((16 * (if a.1 = 0 then 15 else a.1 - 1) + (if b.1 = 0 then 15 else b.1 - 1) : Nat) : Int):=by decide +kernel
theorem nib_is (c d : UInt8) : IntKind.u8.wrap (bits .or .i64 (indexByte digs.data.toList c * 16) (bits .and .i64 (indexByte digs.data.toList d) 15)) = ((UInt8.ofNat (16 * ixD c + ixD d)).toNat : Int):=by
  have key : ∀ c : UInt8,∃ a : Fin 17,indexByte digs.data.toList c = (a.1 : Int) - 1∧ixD c = (if a.1 = 0 then 15 else a.1 - 1):=fun c=>by
    rcases ix_is c with ⟨h,h2⟩ | ⟨h,h2⟩
    · exact ⟨0,by rw [h]; rfl,h2⟩
    · exact ⟨⟨ixD c + 1,by omega⟩,by rw [h]; simp,by simp⟩
  obtain ⟨a,h1,h2⟩:=key c;obtain ⟨b,h3,h4⟩:=key d
  have h5 : ixD c < 16:=by rw [h2]; split <;> omega
  have h6 : ixD d < 16:=by rw [h4]; split <;> omega
  rw [h1,h3,nib_all,← h2,← h4]
  simp
  omega
section
variable {P : Program} {w : World} {l : List (Nat × Value)} {x y : Operand} {T U U' : TypeId} {k : IntKind} {m n : Int}
theorem yAndB (hx : ev l x = some (.int k m)) (hy : ev l y = some (.int k n)) : Yl P w l (.binOp .and U x y U') T (.int k (bits .and k m n)) :=
  yBin hx hy (fun _ _=>eqg_int) (by rw [binOp_and,intBits_and]; rfl)
theorem yOrB (hx : ev l x = some (.int k m)) (hy : ev l y = some (.int k n)) : Yl P w l (.binOp .or U x y U') T (.int k (bits .or k m n)) :=
  yBin hx hy (fun _ _=>eqg_int) (by rw [binOp_or,intBits_or]; rfl)
end
section
variable {W w : World} {cs r r2 : List Ch}
theorem Sep.base {α : Type} {d : Kd α} {v : Value} {xs : List α} (hs : Sep W w cs) (hk : Pick cs (.rd d v xs) r) : Sep w w [.rd d v xs]:=by
  obtain ⟨Z0,hz,h⟩ : ∃ Z : Hp,Z.le (hp w)∧d.sl Z v xs:=hs.know hk fun Z hz hp=>⟨Z,hz,hp⟩;refine (Sep.init w).old_ro (p:=fun Z=>d.sl Z v xs) fun Z hZ=>d.sl_mono (fun i o ho=>?_) h
  have h1:=hz i o ho
  have hi : i < w.heap.size:=(Array.getElem?_eq_some_iff.1 h1).1
  rw [hZ i hi]; exact h1
theorem IndexB_c (c : UInt8) (hs : Sep W w cs) : Calls Tryz.prog 67 #[.string digs,.int .u8 c.toNat] w (Rt fun v w'=>v = .int .i64 (indexByte digs.data.toList c)∧Sep W w' cs):=by
  refine (Any.strings_IndexByte layIB digs c.toNat w).mono ?_;rintro e w' ⟨rfl,rfl⟩;exact ⟨by simp,hs⟩
theorem WriteB_c {w0 : World} {b : Nat} {l : List UInt8} (c : UInt8) (hb : Below w0.heap.size w0 w) (hB : IsBuilder 121 5 w0.heap.size b (byteCells l) w) (hl : l.length≤1000000000) :
    Calls Tryz.prog 61 #[.pointer (some ⟨b,0,none⟩),.int .u8 c.toNat] w (Rt fun v w'=>IsBuilder 121 5 w0.heap.size b (byteCells (l++[c])) w'∧Below w0.heap.size w0 w'):=by
  refine (Any.Builder_WriteByte layWB extraW w0.heap.size b (byteCells l) c.toNat w hB (by simp [byteCells]; omega) hb.size).mono ?_;rintro e w' ⟨rfl,h1,h2⟩
  have h3 : BuilderAt 121 5 w0.heap.size b (.pointer (some ⟨b,0,none⟩)) (byteCells l++[.int .u8 c.toNat]) w':=h1
  exact ⟨.inr (by simpa [byteCells] using h3),hb.trans h2⟩
theorem BString_c {w0 : World} {b : Nat} {l : List UInt8} (hb : Below w0.heap.size w0 w) (hB : IsBuilder 121 5 w0.heap.size b (byteCells l) w) :
    Calls Tryz.prog 62 #[.pointer (some ⟨b,0,none⟩)] w (Rt fun v w'=>v = .string ⟨l.toArray⟩∧Below w0.heap.size w0 w'):=by
  refine (Any.Builder_String_any layBS extraS w0.heap.size b l w hB hb.size).mono ?_;rintro e w' ⟨rfl,h2⟩;exact ⟨rfl,hb.trans h2⟩
theorem hexB_snoc : ∀ (l : List UInt8) (c : UInt8),hexB (l++[c]) = hexB l++[dig (c.toNat / 16)]++[dig (c.toNat % 16)]
  | [],c=>rfl
  | x::r,c=>by simp only [List.cons_append,hexB,hexB_snoc r c]
theorem hex_raw {w0 : World} {A : Option Addr} {c : Nat} {t : List UInt8} (hl : t.length≤100000000) (h0 : Sep w0 w0 [.rd kU8 (.slice A t.length c) t]) :
    Calls Tryz.prog 28 #[.slice A t.length c] w0 (Rt fun v w'=>v = .string (hexS t)∧Below w0.heap.size w0 w'):=by
  have hs:=h0
  refine enter Tryz.func28 Tryz.ntmps28 rfl rfl fun a (ha : Has a 22 [(0,_)])=>?_;refine wp_seq_k fun K1 hK1=>?_;refine wp_region_lit ?_;refine pY ha (yAssign rfl) fun a ha=>?_;refine pZ ?_;refine hK1 _ _ ?_;refine wp_seq_k fun K2 hK2=>?_;refine wp_region_lit ?_;refine pAlloc (zs:=[.pointer none,.slice none 0 0]) ha Tryz.zeroValue121 rfl hs rfl fun b w hs a ha=>?_
  have hb:=hs.below
  have hB : IsBuilder 121 5 w0.heap.size b (byteCells []) w:=.inl ⟨hs.own_ge,_,hs.own_at .here,⟨rfl,.inl ⟨rfl,rfl⟩⟩,by simp [Value.ownBlock]⟩
  refine pZ ?_;refine hK2 _ _ ?_;refine wp_seq_k fun K3 hK3=>?_;refine wp_seq_k fun K4 hK4=>?_;refine wp_region_lit ?_;refine pY ha (yMove rfl) fun a ha=>?_;refine pY ha (yLenS Tryz.runUnderlying24 rfl) fun a ha=>?_;refine pY ha (yMove rfl) fun a ha=>?_;refine pZ ?_;refine hK4 _ _ ?_;refine wp_block ?_;refine loopI (ι:=Nat) (fun i a w=>i≤t.length∧Has a 22 [(0,.slice A t.length c),(3,.pointer (some ⟨b,0,none⟩)),(6,.slice A t.length c),(7,.int .i64 t.length),(8,.int .i64 i)]∧IsBuilder 121 5 w0.heap.size b (byteCells (hexB (t.take i))) w∧Below w0.heap.size w0 w) (fun i=>t.length - i) (0) ?_ ?_
  · exact ⟨Nat.zero_le _,has5 ha rfl rfl rfl rfl rfl,by simpa [hexB] using hB,hb⟩
  · rintro i a w ⟨h1,ha,hB,hb⟩;refine wp_seq_k fun K5 hK5=>?_;refine wp_region_lit ?_;refine pY ha (yLss rfl rfl) fun a ha=>?_;refine pZ ?_;refine hK5 _ _ ?_;refine wp_seq_k fun K6 hK6=>?_;refine cDec ha rfl (fun hc9=>?_) (fun hc9=>?_)
    · have hi : i < t.length:=by omega
      have hs:=h0.after hb
      obtain ⟨x,hx⟩ : ∃ x,t[i]? = some x:=⟨_,List.getElem?_eq_getElem hi⟩
      have hl2:=hex_len (t.take i)
      have hxb:=UInt8.toNat_lt x
      obtain ⟨b2,off2,rfl,hs⟩:=hs.rd_byte .here hx;refine wp_skip ?_;refine hK6 _ _ ?_;refine wp_seq_k fun K7 hK7=>?_;refine wp_block ?_;refine wp_seq_k fun K8 hK8=>?_;refine wp_region_lit ?_;refine pY ha (yIndexA Tryz.runUnderlying24 Tryz.sizeOf5 rfl rfl (by omega) (by omega)) fun a ha=>?_;refine pY ha (yLoadR0 Tryz.isAgg5 hs rfl pk0 rfl) fun a ha=>?_;refine pY ha (yAssign rfl) fun a ha=>?_;refine pZ ?_;refine hK8 _ _ ?_;refine wp_seq_k fun K9 hK9=>?_;refine wp_region_lit ?_;refine pY ha (yMove rfl) fun a ha=>?_;refine pY ha (yShrC (q:=16) rfl rfl (by decide) (by decide) (by decide)) fun a ha=>?_;refine pY ha (yIndexSb Tryz.runUnderlying9 rfl rfl (by omega) (dig_at (n:=x.toNat / 16) (by omega) (by omega))) fun a ha=>?_;refine pC ha (nCall Tryz.call61 rfl) rfl (WriteB_c (dig (x.toNat / 16)) hb hB (by simp at hl2; omega)) ?_;rintro v w ⟨hB,hb⟩ a ha;refine pZ ?_;refine hK9 _ _ ?_;refine wp_region_lit ?_;refine pY ha (yMove rfl) fun a ha=>?_;refine pY ha (yAndM (q:=16) 4 rfl rfl (by decide) (by decide) (by decide) (by omega) (by simp only [roomy]; omega)) fun a ha=>?_;refine pY ha (yIndexSb Tryz.runUnderlying9 rfl rfl (by omega) (dig_at (n:=x.toNat % 16) (by omega) (by omega))) fun a ha=>?_;refine pC ha (nCall Tryz.call61 rfl) rfl (WriteB_c (dig (x.toNat % 16)) hb hB (by simp at hl2 ⊢; omega)) ?_;rintro v w ⟨hB,hb⟩ a ha;refine pZ ?_;refine hK7 _ _ ?_;refine wp_region_lit ?_;refine pY ha (yAddN rfl rfl ⟨by omega,by omega⟩) fun a ha=>?_;refine pY ha (yMove rfl) fun a ha=>?_;refine pZ ?_;refine ⟨i + 1,⟨by omega,has5 ha rfl rfl rfl rfl rfl,?_,hb⟩,by omega⟩;rw [List.take_add_one,hx,Option.toList_some,hexB_snoc]; exact hB
    · refine wp_exit ?_;refine hK3 _ _ ?_;refine wp_seq_k fun K10 hK10=>?_;obtain rfl : i = t.length:=by omega
      rw [List.take_length] at hB;refine wp_region_lit ?_;refine pC ha (nCall Tryz.call62 rfl) rfl (BString_c hb hB) ?_;rintro v w ⟨rfl,hb⟩ a ha;refine pY ha (yAssign rfl) fun a ha=>?_;refine pZ ?_;refine hK10 _ _ ?_;refine wp_ret ?_;show bodyPost Tryz.prog Tryz.f28 _ .ret _ _;refine ret1 rfl ha rfl ?_;exact ⟨rfl,hb⟩
theorem Hex_c {A : Option Addr} {n c : Nat} {t : List UInt8} (hl : t.length≤100000000) (hs : Sep W w cs) (hk : Pick cs (.rd kU8 (.slice A n c) t) r) :
    Calls Tryz.prog 28 #[.slice A n c] w (Rt fun v w'=>v = .string (hexS t)∧Sep W w' cs):=by
  obtain ⟨rfl,_⟩:=hs.rd_shape hk;exact (hex_raw hl (hs.base hk)).mono (Rt.mono fun v w' ⟨h1,h2⟩=>⟨h1,hs.after h2⟩)
theorem Unhex_c (s : ByteArray) (hsz : s.size≤1000000000) (hs : Sep W w cs) :
    Calls Tryz.prog 36 #[.string s] w (Rt fun v w'=>∃ A c,v = .slice A (unhexB s.data.toList).length c∧Sep W w' (.ol kU8 5 (.slice A (unhexB s.data.toList).length c) (unhexB s.data.toList)::cs)):=by
  have hlen : s.data.toList.length = s.size:=by simp
  refine enter Tryz.func36 Tryz.ntmps36 rfl rfl fun a (ha : Has a 28 [(0,_)])=>?_;refine wp_seq_k fun K1 hK1=>?_;refine wp_region_lit ?_;refine pY ha (yAssign rfl) fun a ha=>?_;refine pZ ?_;refine hK1 _ _ ?_;refine wp_seq_k fun K2 hK2=>?_;refine wp_seq_k fun K3 hK3=>?_;refine wp_region_lit ?_;refine pY ha (yAssign rfl) fun a ha=>?_;refine pZ ?_;refine hK3 _ _ ?_;refine wp_block ?_;refine loopI (ι:=Nat × Option Addr × Nat × List UInt8) (fun i a w=>i.2.2.2.length≤i.1∧i.2.2.2++unhexB (s.data.toList.drop i.1) = unhexB s.data.toList∧Has a 28 [(0,.string s),(2,.slice i.2.1 i.2.2.2.length i.2.2.1),(3,.int .i64 i.1)]∧i.1≤s.size + 1∧Sep W w (.ol kU8 5 (.slice i.2.1 i.2.2.2.length i.2.2.1) i.2.2.2::cs)) (fun i=>s.size + 2 - i.1) ((0,none,0,[])) ?_ ?_
  · exact ⟨Nat.le_refl _,rfl,has3 ha rfl rfl rfl,by omega,hs.ol_nil kU8 _ none⟩
  · rintro i a w ⟨h1,h2,ha,h3,hs⟩;obtain ⟨i,A,c,xs⟩:=i; simp only at h1 h2 ha h3 hs;refine wp_seq_k fun K4 hK4=>?_;refine wp_seq_k fun K5 hK5=>?_;refine wp_region_lit ?_;refine pY ha (yMove rfl) fun a ha=>?_;refine pY ha (yAddN rfl rfl ⟨by omega,by omega⟩) fun a ha=>?_;refine pY ha (yMove rfl) fun a ha=>?_;refine pY ha (yLenStr Tryz.runUnderlying9 rfl) fun a ha=>?_;refine pY ha (yLss rfl rfl) fun a ha=>?_;refine pZ ?_;refine hK5 _ _ ?_;refine cDec ha rfl (fun hc8=>?_) (fun hc8=>?_)
    · obtain ⟨x,hx⟩ : ∃ x,s.data.toList[i]? = some x:=⟨_,List.getElem?_eq_getElem (by omega)⟩;obtain ⟨y,hy⟩ : ∃ y,s.data.toList[i + 1]? = some y:=⟨_,List.getElem?_eq_getElem (by omega)⟩
      have hx' : s.data.toList[((i : Nat) : Int).toNat]? = some x:=by simpa using hx
      have hy' : s.data.toList[(((i : Nat) : Int) + 1).toNat]? = some y:=by rw [show (((i : Nat) : Int) + 1).toNat = i + 1 by omega]; exact hy
      have hd : s.data.toList.drop i = x::y::s.data.toList.drop (i + 2):=by
        rw [List.drop_eq_getElem_cons (by omega : i < s.data.toList.length),List.drop_eq_getElem_cons (by omega : i + 1 < s.data.toList.length)];rw [(List.getElem?_eq_some_iff.1 hx).2,(List.getElem?_eq_some_iff.1 hy).2]
      have hix:=ix_in x
      have hiy:=ix_in y
      refine wp_skip ?_;refine hK4 _ _ ?_;refine wp_seq_k fun K6 hK6=>?_;refine wp_block ?_;refine dStart (fun w=>Sep W w _) [4,10,14,15] 131071 14 (by kernel_rfl) (by kernel_rfl) rfl (hs.drew) ?_
      have hs:=Sep.drew hs
      generalize World.drew _ = w at hs ⊢;refine dP 0 1 rfl ha (fun _=>yMove rfl) fun a ha=>?_;refine dP 1 3 rfl ha (fun _=>yMove rfl) fun a ha=>?_;refine dP 2 7 rfl ha (fun _=>yMove rfl) fun a ha=>?_;refine dP 3 15 rfl ha (fun _=>yIndexSb Tryz.runUnderlying9 rfl rfl (by omega) hx') fun a ha=>?_;refine dP 6 79 rfl ha (fun _=>yMove rfl) fun a ha=>?_;refine dP 7 207 rfl ha (fun _=>yMove rfl) fun a ha=>?_;refine dP 8 463 rfl ha (fun _=>yAddN rfl rfl ⟨by omega,by omega⟩) fun a ha=>?_;refine dP 9 975 rfl ha (fun _=>yIndexSb Tryz.runUnderlying9 rfl rfl (by omega) hy') fun a ha=>?_;refine dCl 4 991 rfl (by kernel_rfl) rfl ha won0 (nCall Tryz.call67 rfl) rfl (IndexB_c x hs) ?_;rintro v w ⟨rfl,hs⟩ a ha;refine dP 5 1023 rfl ha (fun _=>yShlC (q:=16) rfl rfl (by decide) (by decide) (by decide) ⟨by omega,by omega⟩) fun a ha=>?_;refine dCl 10 2047 rfl (by kernel_rfl) rfl ha won0 (nCall Tryz.call67 rfl) rfl (IndexB_c y hs) ?_;rintro v w ⟨rfl,hs⟩ a ha;refine dP 11 4095 rfl ha (fun _=>yAndB rfl rfl) fun a ha=>?_;refine dP 12 8191 rfl ha (fun _=>yOrB rfl rfl) fun a ha=>?_;refine dP 13 16383 rfl ha (fun _=>yConvInt (fun w=>⟨_,Tryz.runUnderlying3 w⟩) Tryz.runUnderlying5 rfl) fun a ha=>?_;rw [nib_is] at ha;refine dMakel 14 32767 rfl (by kernel_rfl) rfl ha won0 (bslHex24_1_0 rfl) hs rfl fun b w hs a ha=>?_;refine dApp1Fl 15 65535 rfl (by kernel_rfl) rfl ha won0 elHex24 rfl rfl hs pk1 pk0 (by intro Z; rfl) rfl (by (unfold maxLen; omega)) (by omega) rfl fun A c w hs a ha=>?_;refine dP 16 131071 rfl ha (fun _=>yAssign rfl) fun a ha=>?_;refine dZ (by kernel_rfl) ?_;refine hK6 _ _ ?_;refine wp_region_lit ?_;refine pY ha (yMove rfl) fun a ha=>?_;refine pY ha (yAddN rfl rfl ⟨by omega,by omega⟩) fun a ha=>?_;refine pY ha (yAssign rfl) fun a ha=>?_;refine pZ ?_;refine ⟨(i + 2,A,c,xs++[UInt8.ofNat (16 * ixD x + ixD y)]),⟨by simp; omega,?_,?_,by simp only; omega,?_⟩,by simp only; omega⟩
      · rw [hd] at h2; simpa [unhexB] using h2
      · simp only [List.length_append,List.length_cons,List.length_nil]; exact has3 ha rfl rfl rfl
      · simp only [List.length_append,List.length_cons,List.length_nil]; exact hs
    · refine wp_exit ?_;refine hK2 _ _ ?_;refine wp_seq_k fun K7 hK7=>?_;refine wp_region_lit ?_;refine pY ha (yMove rfl) fun a ha=>?_;refine pY ha (yAssign rfl) fun a ha=>?_;refine pZ ?_;refine hK7 _ _ ?_;refine wp_ret ?_;show bodyPost Tryz.prog Tryz.f36 _ .ret _ _;refine ret1 rfl ha rfl ?_
      have hn : unhexB (s.data.toList.drop i) = []:=by
        have h4 : (s.data.toList.drop i).length≤1:=by simp; omega
        generalize s.data.toList.drop i = q at h4
        match q,h4 with
        | [],_=>rfl
        | [a],_=>rfl
        | _::_::_,h=>simp at h
      rw [hn,List.append_nil] at h2;subst h2;exact ⟨A,c,rfl,hs⟩
end
end Go.Proofs.YtldgdjilchnceaaGreatDoor

set_option linter.unusedVariables false
set_option linter.unusedSimpArgs false
namespace Go.Proofs.YtldgdjilchnceaaGreatDoor
open Go.RowKit Go.Lib Go.Proofs.YtldgdjilchnceaaGreatDoorW.PrintLast
theorem bldTab107_0 {w : World} {l : List (Nat × Value)} {T : TypeId} {x0 : Operand} {v0 : Value} (h0 : ev l x0 = some v0) (o0 : v0.cells = #[v0]:=by rfl) : Yl Tryz.prog w l (.build 107 #[(0,x0)]) T (.agg #[v0]):=fun ρ o h ho _=>by
  have hf : Instr.fill (fun i=>([(0,1)] : List (Nat × Nat))[i]?) #[.map none] [(0,v0)] = some #[v0]:=by
    refine (fill_v o0 rfl (by simp)).trans ?_
    simp [Instr.fill]
  unfold execOp; rw [ho]
  simp [h _ _ h0,Instr.build,Tryz.zeroValue107,Tryz.runUnderlying107,Tryz.sizeOf105,agg_cells,hf]
theorem bldTab43_ {w : World} {l : List (Nat × Value)} {T : TypeId} : Yl Tryz.prog w l (.build 43 #[]) T (.agg #[.int .i64 0,.bool false,.int .i64 0,.int .i64 0]):=fun ρ o h ho _=>by
  unfold execOp; rw [ho]
  simp [Instr.build,Instr.fill,Tryz.zeroValue43,Tryz.runUnderlying43,Tryz.sizeOf3,Tryz.sizeOf4,agg_cells]
theorem bldTab43_0_1_2_3 {w : World} {l : List (Nat × Value)} {T : TypeId} {x0 x1 x2 x3 : Operand} {v0 : Value} (h0 : ev l x0 = some v0) {v1 : Value} (h1 : ev l x1 = some v1) {v2 : Value} (h2 : ev l x2 = some v2) {v3 : Value} (h3 : ev l x3 = some v3) (o0 : v0.cells = #[v0]:=by rfl) (o1 : v1.cells = #[v1]:=by rfl) (o2 : v2.cells = #[v2]:=by rfl) (o3 : v3.cells = #[v3]:=by rfl) : Yl Tryz.prog w l (.build 43 #[(0,x0),(1,x1),(2,x2),(3,x3)]) T (.agg #[v0,v1,v2,v3]):=fun ρ o h ho _=>by
  have hf : Instr.fill (fun i=>([(0,1),(1,1),(2,1),(3,1)] : List (Nat × Nat))[i]?) #[.int .i64 0,.bool false,.int .i64 0,.int .i64 0] [(0,v0),(1,v1),(2,v2),(3,v3)] = some #[v0,v1,v2,v3]:=by
    refine (fill_v o0 rfl (by simp)).trans ?_;refine (fill_v o1 rfl (by simp)).trans ?_;refine (fill_v o2 rfl (by simp)).trans ?_;refine (fill_v o3 rfl (by simp)).trans ?_
    simp [Instr.fill]
  unfold execOp; rw [ho]
  simp [h _ _ h0,h _ _ h1,h _ _ h2,h _ _ h3,Instr.build,Tryz.zeroValue43,Tryz.runUnderlying43,Tryz.sizeOf3,Tryz.sizeOf4,agg_cells,hf]
section
variable {P : Program} {a : Act} {w : World} {N : Nat} {l : List (Nat × Value)} {fn : Func} {Φ : Value→World→Prop} {W : World} {cs r : List Ch} {T E : TypeId} {b : Nat} {es : List Value}
theorem retC2 {t u s sz : Nat} {v2 v3 : Value} (hr : fn.results = #[.cell t T,.tmp u,.tmp s]) (ha : Has a N l) (hv : lk l t = some (.pointer (some ⟨b,0,none⟩))) (hu : lk l u = some v2) (hs3 : lk l s = some v3) (hA : ∀ w,(isAgg T).run P w = .ok true w) (hz : ∀ w,(sizeOf T).run P w = .ok sz w)
    (hs : Sep W w cs) (hk : Pick cs (.blk b E es) r) (hl : es.length = sz) (h : Φ (.tuple #[.agg es.toArray,v2,v3]) w) : bodyPost P fn (Rt Φ) .ret a w:=by
  subst hl;refine ⟨ha.defers,.tuple #[.agg es.toArray,v2,v3],?_,h⟩
  have e1:=ha.ev (x:=.tmp t) hv
  have e2:=ha.ev (x:=.tmp u) hu
  have e3:=ha.ev (x:=.tmp s) hs3
  simp [Act.eval] at e1 e2 e3
  have:=run_loadCells_list (P:=P) w ⟨b,0,none⟩ es (fun j u hj=>by rw [add_at,Nat.zero_add]; exact hs.blk_cell hk hj)
  simp [results,hr,e1,e2,e3,asAddr,loadVar,hA,hz,this]
theorem retT1 {q t u s sz : Nat} {v1 v2 v3 : Value} (hr : fn.results = #[.tmp q,.cell t T,.tmp u,.tmp s]) (ha : Has a N l) (hq : lk l q = some v1) (hv : lk l t = some (.pointer (some ⟨b,0,none⟩))) (hu : lk l u = some v2) (hs3 : lk l s = some v3) (hA : ∀ w,(isAgg T).run P w = .ok true w) (hz : ∀ w,(sizeOf T).run P w = .ok sz w)
    (hs : Sep W w cs) (hk : Pick cs (.blk b E es) r) (hl : es.length = sz) (h : Φ (.tuple #[v1,.agg es.toArray,v2,v3]) w) : bodyPost P fn (Rt Φ) .ret a w:=by
  subst hl;refine ⟨ha.defers,.tuple #[v1,.agg es.toArray,v2,v3],?_,h⟩
  have e0:=ha.ev (x:=.tmp q) hq
  have e1:=ha.ev (x:=.tmp t) hv
  have e2:=ha.ev (x:=.tmp u) hu
  have e3:=ha.ev (x:=.tmp s) hs3
  simp [Act.eval] at e0 e1 e2 e3
  have:=run_loadCells_list (P:=P) w ⟨b,0,none⟩ es (fun j u hj=>by rw [add_at,Nat.zero_add]; exact hs.blk_cell hk hj)
  simp [results,hr,e0,e1,e2,e3,asAddr,loadVar,hA,hz,this]
end
section
variable {W w : World} {N d : Nat} {a : Act} {ops : Array Oper} {Q : Exit→Act→World→Prop} {S : World→Prop} {ds : List Nat} {fuel : Nat} {mq mr m0 : Nat} {ps : String} {af : Array Edge}
  {l : List (Nat × Value)} {T U E : TypeId} {g : Option (Nat × Bool)} {cs r : List Ch} {x y : Operand} {b : Nat} {es vs : List Value}
theorem dStoreAl {sz : Nat} (i mB : Nat) (hi : ops[i]? = some ⟨none,.store U x y,T,ps,af,g⟩) (hc : loneB ops m0 mB i = true) (hds : ds.contains i = true) (ha : Has a N l) (hg : Won ops l g)
    (hz : ∀ w,(sizeOf U).run P w = .ok sz w) (hs : Sep W w cs) (hx : ev l x = some (.pointer (some ⟨b,0,none⟩))) (hy : ev l y = some (.agg vs.toArray)) (hk : Pick cs (.blk b E es) r) (hl : vs.length = sz) (hl2 : es.length = sz) (h1 : vs.all (·.oneCell') = true)
    (h : ∀ w',Sep W w' (.blk b E vs::r)→D P ops Q S ds mq mr fuel mB a w') : D P ops Q S ds mq mr (fuel + 1) m0 a w :=
  let ⟨_,h2,h3⟩:=sStoreA (P:=P) (T:=T) (l:=l) hz hs hx hy hk hl hl2 h1
  dSl i mB hi hc hds ha hg h2 (h _ h3)
end
section
variable {P : Program} {w : World} {l : List (Nat × Value)} {x y : Operand} {T U U' K E : TypeId} {m : Option Nat}
theorem yMapEql (hu : P.underlying U = some (.map K E)) (hx : ev l x = some (.map m)) (hy : ev l y = some (.map none)) : Yl P w l (.binOp .eql U x y U') T (.bool m.isNone) :=
  yBin hx hy (fun _ _=>by rw [eqGuard_at_map]; rfl) (run_eql_map_nil _ U K E m hu)
end
def cAn (a : Ans) : List Value:=[.int .i64 a.seq,.bool a.done,.int .i64 a.rev,.int .i64 a.code]
def vT (l : List Row) : List (Int × Value):=l.map fun x=>(x.1,.agg (cAn x.2).toArray)
theorem vT_keys (l : List Row) : (vT l).map (·.1) = l.map (·.1):=by simp [vT,Function.comp_def]
theorem vT_len (l : List Row) : (vT l).length = l.length:=by simp [vT]
theorem vT_put (c : Int) (a : Ans) : ∀ l : List Row,putI c (.agg (cAn a).toArray) (vT l) = vT (putT c a l)
  | []=>rfl
  | x::r=>by
    have ih:=vT_put c a r
    unfold vT at ih ⊢;simp only [List.map_cons,putI,putT]
    split
    · rfl
    · rw [ih]; rfl
theorem vT_get (l : List Row) (c : Int) : (getI (vT l) c).getD (.agg (cAn noAns).toArray) = .agg (cAn (getT l c)).toArray:=by
  unfold getI getT vT;rw [List.find?_map];simp only [Function.comp_def]
  cases l.find? fun x=>decide (x.1 = c) <;> rfl
theorem putT_keys (c : Int) (a : Ans) : ∀ l : List Row,(putT c a l).map (·.1) = if c ∈ l.map (·.1) then l.map (·.1) else l.map (·.1)++[c]
  | []=>by simp [putT]
  | x::r=>by
    have ih:=putT_keys c a r
    by_cases h : x.1 = c
    · simp [putT,h]
    · have h' : ¬ c = x.1:=fun e=>h e.symm
      simp only [putT,if_neg h,List.map_cons,ih,List.mem_cons,h',false_or]
      split <;> rfl
/-- A table that may be: its clients and what was answered. -/
def okT (l : List Row) : Prop:=(l.map (·.1)).Nodup∧∀ x ∈ l,mayC x.1 = true∧1≤x.2.seq∧x.2.seq≤1099511627776∧x.2.rev≤1099511627776∧x.2.code≤1099511627776∧sndAn x.2 = true
theorem putT_mem {c : Int} {a : Ans} : ∀ {l : List Row} {x : Row},x ∈ putT c a l→x = (c,a)∨x ∈ l
  | [],x,h=>by simp [putT] at h; exact .inl h
  | y::r,x,h=>by
    simp only [putT] at h
    split at h
    · rcases List.mem_cons.1 h with h | h
      · exact .inl h
      · exact .inr (by simp [h])
    · rcases List.mem_cons.1 h with h | h
      · exact .inr (by simp [h])
      · rcases putT_mem h with h | h
        · exact .inl h
        · exact .inr (by simp [h])
theorem okT_put {l : List Row} {c : Int} {a : Ans} (h : okT l) (h1 : mayC c = true) (h2 : 1≤a.seq) (h3 : a.seq≤1099511627776) (h4 : a.rev≤1099511627776) (h5 : a.code≤1099511627776) (h6 : sndAn a = true) : okT (putT c a l):=by
  refine ⟨?_,fun x hx=>?_⟩
  · rw [putT_keys]
    split
    · exact h.1
    · rename_i hn
      exact List.nodup_append.2 ⟨h.1,by simp,fun x hx y hy e=>hn (by simp at hy; subst hy; rw [← e]; exact hx)⟩
  · rcases putT_mem hx with rfl | hx
    · exact ⟨h1,h2,h3,h4,h5,h6⟩
    · exact h.2 x hx
theorem nodup_le : ∀ (n : Nat) (l : List Int),l.Nodup→(∀ x ∈ l,1≤x∧x≤n)→l.length≤n
  | 0,[],_,_=>by simp
  | 0,x::r,_,h=>by have:=h x (by simp); omega
  | n + 1,l,hn,h=>by
    have h1:=nodup_le n (l.erase ((n + 1 : Nat) : Int)) (hn.erase _) fun x hx=>by
      have h2:=(hn.mem_erase_iff).1 hx
      have h3:=h x h2.2
      have h4:=h2.1
      omega
    rw [List.length_erase] at h1
    split at h1 <;> omega
theorem okT_len {l : List Row} (h : okT l) : l.length≤20:=by
  have:=nodup_le 20 (l.map (·.1)) h.1 fun x hx=>by
    obtain ⟨y,hy,rfl⟩:=List.mem_map.1 hx
    have:=(h.2 y hy).1
    simpa [mayC] using this
  simpa using this
theorem okT_nil : okT []:=⟨by simp,fun x hx=>by cases hx⟩
theorem getT_in {l : List Row} (h : okT l) (c : Int) : 0≤(getT l c).seq∧(getT l c).seq≤1099511627776:=by
  unfold getT
  cases hf : l.find? fun x=>decide (x.1 = c) with
  | none=>simp [noAns]
  | some x=>
    have:=h.2 x (List.mem_of_find?_eq_some hf)
    simp; omega
section
variable {W w : World} {cs r r2 : List Ch} {bt bm : Nat} {l : List Row}
theorem yLookA {ls : List (Nat × Value)} {T : TypeId} {x y : Operand} {c : Int} (hs : Sep W w cs) (hx : ev ls x = some (.map (some bm))) (hk : Pick cs (.mpI bm (vT l)) r) (hy : ev ls y = some (.int .i64 c)) :
    Yl Tryz.prog w ls (.lookup 105 x y false) T (.agg (cAn (getT l c)).toArray):=by
  have:=yLookI (T:=T) (zv:=.agg (cAn noAns).toArray) Tryz.runUnderlying105 Tryz.zeroValue43 hs hx hk hy
  rwa [vT_get] at this
theorem May_c (c : Int) (hs : Sep W w cs) : Calls Tryz.prog 68 #[.int .i64 c] w (Rt fun v w'=>v = .bool (mayC c)∧Sep W w' cs):=by
  refine enter Tryz.func68 Tryz.ntmps68 rfl rfl fun a (ha : Has a 9 [(0,_)])=>?_;refine wp_seq_k fun K1 hK1=>?_;refine wp_region_lit ?_;refine pY ha (yAssign rfl) fun a ha=>?_;refine pZ ?_;refine hK1 _ _ ?_;refine wp_seq_k fun K2 hK2=>?_;refine wp_region_lit ?_;refine pY ha (yMove rfl) fun a ha=>?_;refine pY ha (yGeq rfl rfl) fun a ha=>?_;refine pY ha (yMove rfl) fun a ha=>?_;refine gDec (t:=5) ha rfl (fun hg2 hp2=>?_) (fun hg2 hp2=>?_)
  · rw [hg2] at ha;refine gOff ha fun a ha=>?_;refine gOff ha fun a ha=>?_;refine pY ha (yPickF rfl rfl) fun a ha=>?_;refine pY ha (yAssign rfl) fun a ha=>?_;refine pZ ?_;refine hK2 _ _ ?_;refine wp_ret ?_;show bodyPost Tryz.prog Tryz.f68 _ .ret _ _;refine ret1 rfl ha rfl ?_;exact ⟨by (unfold mayC; simp; omega),hs⟩
  · rw [hg2] at ha;refine gOn ha ?_;refine pY ha (yMove rfl) fun a ha=>?_;refine gOn ha ?_;refine pY ha (yLeq rfl rfl) fun a ha=>?_;refine pY ha (yPickT rfl rfl) fun a ha=>?_;refine pY ha (yAssign rfl) fun a ha=>?_;refine pZ ?_;refine hK2 _ _ ?_;refine wp_ret ?_;show bodyPost Tryz.prog Tryz.f68 _ .ret _ _;refine ret1 rfl ha rfl ?_;exact ⟨by (unfold mayC; simp; omega),hs⟩
theorem ASound_c (a : Ans) (hs : Sep W w cs) : Calls Tryz.prog 69 #[.agg (cAn a).toArray] w (Rt fun v w'=>v = .bool (sndAn a)∧Sep W w' cs):=by
  unfold cAn;refine enter Tryz.func69 Tryz.ntmps69 rfl rfl fun a (ha : Has a 21 [(0,_)])=>?_;refine wp_seq_k fun K1 hK1=>?_;refine wp_region_lit ?_;refine pBox (es:=_) ha rfl rfl hs rfl fun b w hs a ha=>?_;refine pY ha (yAssign rfl) fun a ha=>?_;refine pZ ?_;refine hK1 _ _ ?_;refine wp_seq_k fun K2 hK2=>?_;refine wp_seq_k fun K3 hK3=>?_;refine wp_region_lit ?_;refine pY ha (yFieldA Tryz.runUnderlying43 rfl Tryz.sizeOf4 rfl rfl) fun a ha=>?_;refine pY ha (yLoadB Tryz.isAgg4 hs rfl pk0 rfl) fun a ha=>?_;refine pZ ?_;refine hK3 _ _ ?_;refine cSplit ha rfl (fun hc4=>?_) (fun hc4=>?_)
  · refine wp_seq_k fun K4 hK4=>?_;refine wp_region_lit ?_;refine pY ha (yFieldA Tryz.runUnderlying43 rfl Tryz.sizeOf3 rfl rfl) fun a ha=>?_;refine pY ha (yLoadB Tryz.isAgg3 hs rfl pk0 rfl) fun a ha=>?_;refine pY ha (yGeq rfl rfl) fun a ha=>?_;refine pY ha (yMove rfl) fun a ha=>?_;refine gDec (t:=8) ha rfl (fun hg3 hp3=>?_) (fun hg3 hp3=>?_)
    · rw [hg3] at ha;refine gOff ha fun a ha=>?_;refine gOff ha fun a ha=>?_;refine gOff ha fun a ha=>?_;refine pY ha (yPickF rfl rfl) fun a ha=>?_;refine pY ha (yAssign rfl) fun a ha=>?_;refine pZ ?_;refine hK4 _ _ ?_;refine wp_ret ?_;show bodyPost Tryz.prog Tryz.f69 _ .ret _ _;refine ret1 rfl ha rfl ?_;refine ⟨?_,hs.drop⟩;unfold sndAn
      simp [*] <;> omega
    · rw [hg3] at ha;refine gOn ha ?_;refine pY ha (yFieldA Tryz.runUnderlying43 rfl Tryz.sizeOf3 rfl rfl) fun a ha=>?_;refine gOn ha ?_;refine pY ha (yLoadB Tryz.isAgg3 hs rfl pk0 rfl) fun a ha=>?_;refine gOn ha ?_;refine pY ha (yEql rfl rfl) fun a ha=>?_;refine pY ha (yPickT rfl rfl) fun a ha=>?_;refine pY ha (yAssign rfl) fun a ha=>?_;refine pZ ?_;refine hK4 _ _ ?_;refine wp_ret ?_;show bodyPost Tryz.prog Tryz.f69 _ .ret _ _;refine ret1 rfl ha rfl ?_;refine ⟨?_,hs.drop⟩;unfold sndAn
      simp [*] <;> omega
  · refine wp_skip ?_;refine hK2 _ _ ?_;refine wp_seq_k fun K5 hK5=>?_;refine wp_region_lit ?_;refine pY ha (yFieldA Tryz.runUnderlying43 rfl Tryz.sizeOf3 rfl rfl) fun a ha=>?_;refine pY ha (yLoadB Tryz.isAgg3 hs rfl pk0 rfl) fun a ha=>?_;refine pY ha (yGeq rfl rfl) fun a ha=>?_;refine pY ha (yMove rfl) fun a ha=>?_;refine gDec (t:=16) ha rfl (fun hg3 hp3=>?_) (fun hg3 hp3=>?_)
    · rw [hg3] at ha;refine gOff ha fun a ha=>?_;refine gOff ha fun a ha=>?_;refine gOff ha fun a ha=>?_;refine pY ha (yPickF rfl rfl) fun a ha=>?_;refine pY ha (yAssign rfl) fun a ha=>?_;refine pZ ?_;refine hK5 _ _ ?_;refine wp_ret ?_;show bodyPost Tryz.prog Tryz.f69 _ .ret _ _;refine ret1 rfl ha rfl ?_;refine ⟨?_,hs.drop⟩;unfold sndAn
      simp [*] <;> omega
    · rw [hg3] at ha;refine gOn ha ?_;refine pY ha (yFieldA Tryz.runUnderlying43 rfl Tryz.sizeOf3 rfl rfl) fun a ha=>?_;refine gOn ha ?_;refine pY ha (yLoadB Tryz.isAgg3 hs rfl pk0 rfl) fun a ha=>?_;refine gOn ha ?_;refine pY ha (yEql rfl rfl) fun a ha=>?_;refine pY ha (yPickT rfl rfl) fun a ha=>?_;refine pY ha (yAssign rfl) fun a ha=>?_;refine pZ ?_;refine hK5 _ _ ?_;refine wp_ret ?_;show bodyPost Tryz.prog Tryz.f69 _ .ret _ _;refine ret1 rfl ha rfl ?_;refine ⟨?_,hs.drop⟩;unfold sndAn
      simp [*] <;> omega
theorem DNew_c (hs : Sep W w cs) : Calls Tryz.prog 22 #[] w (Rt fun v w'=>∃ bt bm,v = .pointer (some ⟨bt,0,none⟩)∧Sep W w' (.blk bt 107 [.map (some bm)]::.mpI bm (vT [])::cs)):=by
  refine enter Tryz.func22 Tryz.ntmps22 rfl rfl fun a (ha : Has a 4 [])=>?_;refine wp_seq_k fun K1 hK1=>?_;refine wp_region_lit ?_;refine pY ha (yAssign rfl) fun a ha=>?_;refine pZ ?_;refine hK1 _ _ ?_;refine wp_seq_k fun K2 hK2=>?_;refine wp_region_lit ?_;refine pMakeMap ha hs rfl fun bm w hs a ha=>?_;refine pY ha (bldTab107_0 rfl) fun a ha=>?_;refine pBox (es:=_) ha rfl rfl hs rfl fun bt w hs a ha=>?_;refine pY ha (yAssign rfl) fun a ha=>?_;refine pZ ?_;refine hK2 _ _ ?_;refine wp_ret ?_;show bodyPost Tryz.prog Tryz.f22 _ .ret _ _;refine ret1 rfl ha rfl ?_;exact ⟨bt,bm,rfl,hs⟩
def askE (l : List Row) (c s : Int) : Ans × Bool × Int :=
  if mayC c = false∨s < 1 then (noAns,false,1) else if s = (getT l c).seq then (getT l c,true,0) else if s = (getT l c).seq + 1 then (noAns,false,0) else (noAns,false,16)
theorem Ask_c (ho : okT l) (c s : Int) (hs : Sep W w cs) (hk : Pick cs (.blk bt 107 [.map (some bm)]) r) (hk2 : Pick r (.mpI bm (vT l)) r2) :
    Calls Tryz.prog 41 #[.pointer (some ⟨bt,0,none⟩),.int .i64 c,.int .i64 s] w (Rt fun v w'=>v = .tuple #[.agg (cAn (askE l c s).1).toArray,.bool (askE l c s).2.1,.int .i64 (askE l c s).2.2]∧Sep W w' (.blk bt 107 [.map (some bm)]::.mpI bm (vT l)::r2)):=by
  have hg:=getT_in ho c
  have hs:=hs.perm (hk.perm.trans (hk2.perm.cons _));refine enter Tryz.func41 Tryz.ntmps41 rfl rfl fun a (ha : Has a 40 [(0,_),(1,_),(2,_)])=>?_;refine wp_seq_k fun K1 hK1=>?_;refine wp_region_lit ?_;refine pAlloc (zs:=[.int .i64 0,.bool false,.int .i64 0,.int .i64 0]) ha Tryz.zeroValue43 rfl hs rfl fun b w hs a ha=>?_;refine pY ha (yAssign rfl) fun a ha=>?_;refine pY ha (yAssign rfl) fun a ha=>?_;refine pZ ?_;refine hK1 _ _ ?_;refine wp_seq_k fun K2 hK2=>?_;refine wp_seq_k fun K3 hK3=>?_;refine wp_region_lit ?_;refine pY ha (yMove rfl) fun a ha=>?_;refine pY ha (yPtrEqlN Tryz.underlying62 rfl rfl) fun a ha=>?_;refine pY ha (yMove rfl) fun a ha=>?_;refine gSplit (t:=11) ha rfl (fun hg2=>?_) (fun hg2=>?_)
  · rw [hg2] at ha;refine gOn ha ?_;refine pY ha (yMove rfl) fun a ha=>?_;refine gOn ha ?_;refine pC ha (nCall Tryz.call68 rfl) rfl (May_c c hs) ?_;rintro v w ⟨rfl,hs⟩ a ha;refine gOn ha ?_;refine pY ha (yNot rfl) fun a ha=>?_;refine pY ha (yPickF rfl rfl) fun a ha=>?_;refine pY ha (yMove rfl) fun a ha=>?_;refine gSplit (t:=16) ha rfl (fun hg7=>?_) (fun hg7=>?_)
    · rw [hg7] at ha
      have hmay : mayC c = true:=by simpa using hg7
      refine gOn ha ?_;refine pY ha (yMove rfl) fun a ha=>?_;refine gOn ha ?_;refine pY ha (yLss rfl rfl) fun a ha=>?_;refine pY ha (yPickF rfl rfl) fun a ha=>?_;refine pZ ?_;refine hK3 _ _ ?_;refine cDec ha rfl (fun hc19=>?_) (fun hc19=>?_)
      · refine wp_seq_k fun K4 hK4=>?_;refine wp_region_lit ?_;refine pY ha (bldTab43_ ) fun a ha=>?_;refine pStoreA ha Tryz.sizeOf43 hs rfl rfl pk0 rfl rfl rfl fun w hs=>?_;refine pY ha (yAssign rfl) fun a ha=>?_;refine pY ha (yAssign rfl) fun a ha=>?_;refine pZ ?_;refine hK4 _ _ ?_;refine wp_ret ?_;show bodyPost Tryz.prog Tryz.f41 _ .ret _ _;refine retC2 rfl ha rfl rfl rfl Tryz.isAgg43 Tryz.sizeOf43 hs pk0 rfl ?_;exact ⟨by unfold askE; rw [if_pos (.inr hc19)] <;> rfl,hs.drop⟩
      · refine wp_skip ?_;refine hK2 _ _ ?_;refine wp_seq_k fun K5 hK5=>?_;refine wp_region_lit ?_;refine pY ha (yMove rfl) fun a ha=>?_;refine pY ha (yNilP rfl) fun a ha=>?_;refine pY ha (yFieldA Tryz.runUnderlying107 rfl Tryz.sizeOf105 rfl rfl) fun a ha=>?_;refine pY ha (yLoadB Tryz.isAgg105 hs rfl pk1 rfl) fun a ha=>?_;refine pY ha (yMove rfl) fun a ha=>?_;refine pY ha (yLookA hs rfl pk2 rfl) fun a ha=>?_;refine pStoreA ha Tryz.sizeOf43 hs rfl rfl pk0 rfl rfl rfl fun w hs=>?_;refine pZ ?_;refine hK5 _ _ ?_;refine wp_seq_k fun K6 hK6=>?_;refine wp_seq_k fun K7 hK7=>?_;refine wp_region_lit ?_;refine pY ha (yMove rfl) fun a ha=>?_;refine pZ ?_;refine hK7 _ _ ?_;refine wp_block ?_;refine wp_seq_k fun K8 hK8=>?_;refine wp_region_lit ?_;refine pY ha (yFieldA Tryz.runUnderlying43 rfl Tryz.sizeOf3 rfl rfl) fun a ha=>?_;refine pY ha (yLoadB Tryz.isAgg3 hs rfl pk0 rfl) fun a ha=>?_;refine pY ha (yEql rfl rfl) fun a ha=>?_;refine pY ha (yAssign rfl) fun a ha=>?_;refine pZ ?_;refine hK8 _ _ ?_;refine cDec ha rfl (fun hc28=>?_) (fun hc28=>?_)
        · refine wp_seq_k fun K9 hK9=>?_;refine wp_region_lit ?_;refine pY ha (yLoadBA Tryz.isAgg43 Tryz.sizeOf43 hs rfl pk0 rfl) fun a ha=>?_;refine pStoreA ha Tryz.sizeOf43 hs rfl rfl pk0 rfl rfl rfl fun w hs=>?_;refine pY ha (yAssign rfl) fun a ha=>?_;refine pY ha (yAssign rfl) fun a ha=>?_;refine pZ ?_;refine hK9 _ _ ?_;refine wp_ret ?_;show bodyPost Tryz.prog Tryz.f41 _ .ret _ _;refine retC2 rfl ha rfl rfl rfl Tryz.isAgg43 Tryz.sizeOf43 hs pk0 rfl ?_;exact ⟨by unfold askE; rw [if_neg (by simp [hmay]; omega),if_pos hc28] <;> rfl,hs.drop⟩
        · refine wp_seq_k fun K10 hK10=>?_;refine wp_region_lit ?_;refine pY ha (yFieldA Tryz.runUnderlying43 rfl Tryz.sizeOf3 rfl rfl) fun a ha=>?_;refine pY ha (yLoadB Tryz.isAgg3 hs rfl pk0 rfl) fun a ha=>?_;refine pY ha (yAddN rfl rfl ⟨by omega,by omega⟩) fun a ha=>?_;refine pY ha (yEql rfl rfl) fun a ha=>?_;refine pY ha (yAssign rfl) fun a ha=>?_;refine pZ ?_;refine hK10 _ _ ?_;refine cDec ha rfl (fun hc33=>?_) (fun hc33=>?_)
          · refine wp_seq_k fun K11 hK11=>?_;refine wp_region_lit ?_;refine pY ha (bldTab43_ ) fun a ha=>?_;refine pStoreA ha Tryz.sizeOf43 hs rfl rfl pk0 rfl rfl rfl fun w hs=>?_;refine pY ha (yAssign rfl) fun a ha=>?_;refine pY ha (yAssign rfl) fun a ha=>?_;refine pZ ?_;refine hK11 _ _ ?_;refine wp_ret ?_;show bodyPost Tryz.prog Tryz.f41 _ .ret _ _;refine retC2 rfl ha rfl rfl rfl Tryz.isAgg43 Tryz.sizeOf43 hs pk0 rfl ?_;exact ⟨by unfold askE; rw [if_neg (by simp [hmay]; omega),if_neg hc28,if_pos hc33] <;> rfl,hs.drop⟩
          · refine wp_skip ?_;refine hK6 _ _ ?_;refine wp_seq_k fun K12 hK12=>?_;refine wp_region_lit ?_;refine pY ha (bldTab43_ ) fun a ha=>?_;refine pStoreA ha Tryz.sizeOf43 hs rfl rfl pk0 rfl rfl rfl fun w hs=>?_;refine pY ha (yAssign rfl) fun a ha=>?_;refine pY ha (yAssign rfl) fun a ha=>?_;refine pZ ?_;refine hK12 _ _ ?_;refine wp_ret ?_;show bodyPost Tryz.prog Tryz.f41 _ .ret _ _;refine retC2 rfl ha rfl rfl rfl Tryz.isAgg43 Tryz.sizeOf43 hs pk0 rfl ?_;exact ⟨by unfold askE; rw [if_neg (by simp [hmay]; omega),if_neg hc28,if_neg hc33] <;> rfl,hs.drop⟩
    · rw [hg7] at ha
      have hmay : mayC c = false:=by simpa using hg7
      refine gOff ha fun a ha=>?_;refine gOff ha fun a ha=>?_;refine pY ha (yPickT rfl rfl) fun a ha=>?_;refine pZ ?_;refine hK3 _ _ ?_;refine cTrue ha rfl ?_;refine wp_seq_k fun K13 hK13=>?_;refine wp_region_lit ?_;refine pY ha (bldTab43_ ) fun a ha=>?_;refine pStoreA ha Tryz.sizeOf43 hs rfl rfl pk0 rfl rfl rfl fun w hs=>?_;refine pY ha (yAssign rfl) fun a ha=>?_;refine pY ha (yAssign rfl) fun a ha=>?_;refine pZ ?_;refine hK13 _ _ ?_;refine wp_ret ?_;show bodyPost Tryz.prog Tryz.f41 _ .ret _ _;refine retC2 rfl ha rfl rfl rfl Tryz.isAgg43 Tryz.sizeOf43 hs pk0 rfl ?_;exact ⟨by unfold askE; rw [if_pos (.inl hmay)] <;> rfl,hs.drop⟩
  · simp at hg2
def tellE (l : List Row) (c : Int) (x : Ans) : Int:=if mayC c = false then 1 else if x.seq ≠ (getT l c).seq + 1 then 16 else if sndAn x = false then 1 else 0
def tellT (l : List Row) (c : Int) (x : Ans) : List Row:=if tellE l c x = 0 then putT c x l else l
theorem Tell_c (ho : okT l) (c : Int) (x : Ans) (hs : Sep W w cs) (hk : Pick cs (.blk bt 107 [.map (some bm)]) r) (hk2 : Pick r (.mpI bm (vT l)) r2) :
    Calls Tryz.prog 42 #[.pointer (some ⟨bt,0,none⟩),.int .i64 c,.agg (cAn x).toArray] w (Rt fun v w'=>v = .int .i64 (tellE l c x)∧Sep W w' (.blk bt 107 [.map (some bm)]::.mpI bm (vT (tellT l c x))::r2)):=by
  have hg:=getT_in ho c
  have hs:=hs.perm (hk.perm.trans (hk2.perm.cons _));refine enter Tryz.func42 Tryz.ntmps42 rfl rfl fun a (ha : Has a 46 [(0,_),(1,_),(2,_)])=>?_;refine wp_seq_k fun K1 hK1=>?_;refine wp_region_lit ?_;refine pBox (es:=_) ha rfl rfl hs rfl fun ba w hs a ha=>?_;refine pY ha (yAssign rfl) fun a ha=>?_;refine pZ ?_;refine hK1 _ _ ?_;refine wp_seq_k fun K2 hK2=>?_;refine wp_block ?_;refine wp_seq_k fun K3 hK3=>?_;refine wp_region_lit ?_;refine pY ha (yMove rfl) fun a ha=>?_;refine pY ha (yPtrEqlN Tryz.underlying62 rfl rfl) fun a ha=>?_;refine pY ha (yMove rfl) fun a ha=>?_;refine gSplit (t:=10) ha rfl (fun hg2=>?_) (fun hg2=>?_)
  · rw [hg2] at ha;refine gOn ha ?_;refine pY ha (yMove rfl) fun a ha=>?_;refine gOn ha ?_;refine pC ha (nCall Tryz.call68 rfl) rfl (May_c c hs) ?_;rintro v w ⟨rfl,hs⟩ a ha;refine gOn ha ?_;refine pY ha (yNot rfl) fun a ha=>?_;refine pY ha (yPickF rfl rfl) fun a ha=>?_;refine pY ha (yAssign rfl) fun a ha=>?_;refine pZ ?_;refine hK3 _ _ ?_;refine cSplit ha rfl (fun hc7=>?_) (fun hc7=>?_)
    · refine wp_seq_k fun K4 hK4=>?_;refine wp_region_lit ?_;refine pY ha (yAssign rfl) fun a ha=>?_;refine pZ ?_;refine hK4 _ _ ?_;refine wp_ret ?_;show bodyPost Tryz.prog Tryz.f42 _ .ret _ _;refine ret1 rfl ha rfl ?_
      have e : tellE l c x = 1:=by unfold tellE; rw [if_pos (by simpa using hc7)]
      exact ⟨by rw [e],by unfold tellT; rw [e,if_neg (by decide)]; exact hs.drop⟩
    · refine wp_seq_k fun K5 hK5=>?_;refine dStart (fun w=>Sep W w _) [] 4095 4095 (by kernel_rfl) (by kernel_rfl) rfl (hs.drew) ?_
      have hs:=Sep.drew hs
      generalize World.drew _ = w at hs ⊢;refine dP 0 1 rfl ha (fun _=>yFieldA Tryz.runUnderlying43 rfl Tryz.sizeOf3 rfl rfl) fun a ha=>?_;refine dT 1 3 rfl ha (fun _ hs=>yLoadB Tryz.isAgg3 hs rfl pk0 rfl) (hs) fun a ha=>?_;refine dP 2 7 rfl ha (fun _=>yMove rfl) fun a ha=>?_;refine dP 3 15 rfl ha (fun _=>yNilP rfl) fun a ha=>?_;refine dP 4 31 rfl ha (fun _=>yFieldA Tryz.runUnderlying107 rfl Tryz.sizeOf105 rfl rfl) fun a ha=>?_;refine dT 5 63 rfl ha (fun _ hs=>yLoadB Tryz.isAgg105 hs rfl pk1 rfl) (hs) fun a ha=>?_;refine dP 6 127 rfl ha (fun _=>yMove rfl) fun a ha=>?_;refine dT 7 255 rfl ha (fun _ hs=>yLookA hs rfl pk2 rfl) (hs) fun a ha=>?_;refine dP 8 511 rfl ha (fun _=>yField Tryz.runUnderlying43 rfl Tryz.isAgg3 rfl rfl) fun a ha=>?_;refine dP 9 1023 rfl ha (fun _=>yAddN rfl rfl ⟨by omega,by omega⟩) fun a ha=>?_;refine dP 10 2047 rfl ha (fun _=>yNeq rfl rfl) fun a ha=>?_;refine dP 11 4095 rfl ha (fun _=>yAssign rfl) fun a ha=>?_;refine dZ (by kernel_rfl) ?_;refine hK5 _ _ ?_;refine cNDec ha rfl (fun hc15=>?_) (fun hc15=>?_)
      · refine wp_seq_k fun K6 hK6=>?_;refine wp_region_lit ?_;refine pY ha (yAssign rfl) fun a ha=>?_;refine pZ ?_;refine hK6 _ _ ?_;refine wp_ret ?_;show bodyPost Tryz.prog Tryz.f42 _ .ret _ _;refine ret1 rfl ha rfl ?_
        have e : tellE l c x = 16:=by unfold tellE; rw [if_neg (by simpa using hc7),if_pos hc15]
        exact ⟨by rw [e],by unfold tellT; rw [e,if_neg (by decide)]; exact hs.drop⟩
      · refine wp_seq_k fun K7 hK7=>?_;refine wp_region_lit ?_;refine pY ha (yLoadBA Tryz.isAgg43 Tryz.sizeOf43 hs rfl pk0 rfl) fun a ha=>?_;refine pC ha (nCall Tryz.call69 rfl) rfl (ASound_c x hs) ?_;rintro v w ⟨rfl,hs⟩ a ha;refine pY ha (yNot rfl) fun a ha=>?_;refine pY ha (yAssign rfl) fun a ha=>?_;refine pZ ?_;refine hK7 _ _ ?_;refine cSplit ha rfl (fun hc27=>?_) (fun hc27=>?_)
        · refine wp_seq_k fun K8 hK8=>?_;refine wp_region_lit ?_;refine pY ha (yAssign rfl) fun a ha=>?_;refine pZ ?_;refine hK8 _ _ ?_;refine wp_ret ?_;show bodyPost Tryz.prog Tryz.f42 _ .ret _ _;refine ret1 rfl ha rfl ?_
          have e : tellE l c x = 1:=by unfold tellE; rw [if_neg (by simpa using hc7),if_neg (by simpa using hc15),if_pos (by simpa using hc27)]
          exact ⟨by rw [e],by unfold tellT; rw [e,if_neg (by decide)]; exact hs.drop⟩
        · refine wp_skip ?_;refine hK2 _ _ ?_;refine wp_seq_k fun K9 hK9=>?_;refine wp_seq_k fun K10 hK10=>?_;refine wp_region_lit ?_;refine pY ha (yMove rfl) fun a ha=>?_;refine pY ha (yNilP rfl) fun a ha=>?_;refine pY ha (yFieldA Tryz.runUnderlying107 rfl Tryz.sizeOf105 rfl rfl) fun a ha=>?_;refine pY ha (yLoadB Tryz.isAgg105 hs rfl pk1 rfl) fun a ha=>?_;refine pY ha (yMapEql Tryz.underlying105 rfl rfl) fun a ha=>?_;refine pZ ?_;refine hK10 _ _ ?_;refine cSplit ha rfl (fun hc35=>?_) (fun hc35=>?_)
          · simp at hc35
          · refine wp_skip ?_;refine hK9 _ _ ?_;refine wp_seq_k fun K11 hK11=>?_;refine dStart (fun w=>Sep W w _) [6] 127 63 (by kernel_rfl) (by kernel_rfl) rfl (hs.drew) ?_
            have hs:=Sep.drew hs
            generalize World.drew _ = w at hs ⊢;refine dP 0 1 rfl ha (fun _=>yMove rfl) fun a ha=>?_;refine dP 1 3 rfl ha (fun _=>yNilP rfl) fun a ha=>?_;refine dP 2 7 rfl ha (fun _=>yFieldA Tryz.runUnderlying107 rfl Tryz.sizeOf105 rfl rfl) fun a ha=>?_;refine dT 3 15 rfl ha (fun _ hs=>yLoadB Tryz.isAgg105 hs rfl pk1 rfl) (hs) fun a ha=>?_;refine dP 4 31 rfl ha (fun _=>yMove rfl) fun a ha=>?_;refine dT 5 63 rfl ha (fun _ hs=>yLoadBA Tryz.isAgg43 Tryz.sizeOf43 hs rfl pk0 rfl) (hs) fun a ha=>?_;refine dPutIl (m:=vT l) (c:=c) (v:=.agg (cAn x).toArray) 6 127 rfl (by kernel_rfl) rfl ha won0 Tryz.runUnderlying105 hs rfl pk2 rfl rfl ?_;intro w hs;rw [vT_put] at hs;refine dZ (by kernel_rfl) ?_;refine hK11 _ _ ?_;refine wp_seq_k fun K12 hK12=>?_;refine wp_region_lit ?_;refine pY ha (yAssign rfl) fun a ha=>?_;refine pZ ?_;refine hK12 _ _ ?_;refine wp_ret ?_;show bodyPost Tryz.prog Tryz.f42 _ .ret _ _;refine ret1 rfl ha rfl ?_
            have e : tellE l c x = 0:=by unfold tellE; rw [if_neg (by simpa using hc7),if_neg (by simpa using hc15),if_neg (by simpa using hc27)]
            exact ⟨by rw [e],by unfold tellT; rw [e,if_pos rfl]; exact (hs.drop2).perm (List.Perm.swap _ _ _)⟩
  · simp at hg2
theorem Clients_c (ho : okT l) (hs : Sep W w cs) (hk : Pick cs (.blk bt 107 [.map (some bm)]) r) (hk2 : Pick r (.mpI bm (vT l)) r2) :
    Calls Tryz.prog 79 #[.pointer (some ⟨bt,0,none⟩)] w (Rt fun v w'=>∃ A c,v = .slice A l.length c∧Sep W w' (.rd kInt (.slice A l.length c) (sortI (l.map (·.1)))::.blk bt 107 [.map (some bm)]::.mpI bm (vT l)::r2)):=by
  have hs:=hs.perm (hk.perm.trans (hk2.perm.cons _))
  have hlen:=okT_len ho
  have hi : ∀ x ∈ vT l,i64 x.1:=fun x hx=>by
    obtain ⟨y,hy,rfl⟩:=List.mem_map.1 hx
    have:=(ho.2 y hy).1
    simp [mayC] at this
    exact ⟨by omega,by omega⟩
  have hn : ((vT l).map (·.1)).Nodup:=by rw [vT_keys]; exact ho.1
  have hll:=vT_len l
  have hkk:=vT_keys l
  refine enter Tryz.func79 Tryz.ntmps79 rfl rfl fun a (ha : Has a 11 [(0,_)])=>?_;refine wp_seq_k fun K1 hK1=>?_;refine wp_region_lit ?_;refine pY ha (yAssign rfl) fun a ha=>?_;refine pZ ?_;refine hK1 _ _ ?_;refine wp_seq_k fun K2 hK2=>?_;refine wp_seq_k fun K3 hK3=>?_;refine wp_region_lit ?_;refine pY ha (yMove rfl) fun a ha=>?_;refine pY ha (yPtrEqlN Tryz.underlying62 rfl rfl) fun a ha=>?_;refine pZ ?_;refine hK3 _ _ ?_;refine cFalse ha rfl ?_;refine wp_skip ?_;refine hK2 _ _ ?_;refine wp_seq_k fun K4 hK4=>?_;refine wp_region_lit ?_;refine pY ha (yMove rfl) fun a ha=>?_;refine pY ha (yNilP rfl) fun a ha=>?_;refine pY ha (yFieldA Tryz.runUnderlying107 rfl Tryz.sizeOf105 rfl rfl) fun a ha=>?_;refine pY ha (yLoadB Tryz.isAgg105 hs rfl pk0 rfl) fun a ha=>?_;refine pC ha (nCall Tryz.call99 rfl) rfl (KeysA_c hs) ?_;rintro v w ⟨bb,rfl,hs⟩ a ha;refine pC ha (nCall Tryz.call77 rfl) rfl (SortedA_c hi hn (by omega) hs .here pk2) ?_;rintro v w ⟨A,c,rfl,hs⟩ a ha;rw [hll] at ha hs;rw [hkk] at hs;refine pY ha (yAssign rfl) fun a ha=>?_;refine pZ ?_;refine hK4 _ _ ?_;refine wp_ret ?_;show bodyPost Tryz.prog Tryz.f79 _ .ret _ _;refine ret1 rfl ha rfl ?_;exact ⟨A,c,rfl,hs.drop2⟩
theorem wRow_le (st : Wt) (x : Row) : st.1.length≤(wRow st x).1.length:=by
  have h1:=wNum_le st x.1; have h2:=wNum_le (wNum st x.1) x.2.seq; have h3:=wFlag_le (wNum (wNum st x.1) x.2.seq) x.2.done
  have h4:=wNum_le (wFlag (wNum (wNum st x.1) x.2.seq) x.2.done) x.2.rev; have h5:=wNum_le (wNum (wFlag (wNum (wNum st x.1) x.2.seq) x.2.done) x.2.rev) x.2.code
  unfold wRow; omega
theorem wRow_len (st : Wt) (x : Row) : (wRow st x).1.length≤st.1.length + 30:=by
  have h0 : ∀ (st : Wt) (n : Int),(wNum st n).1.length≤st.1.length + 6:=fun st n=>wNum_len st n
  have h1:=h0 st x.1; have h2:=h0 (wNum st x.1) x.2.seq; have h3:=h0 (wNum (wNum st x.1) x.2.seq) (if x.2.done then 1 else 0)
  have h4:=h0 (wFlag (wNum (wNum st x.1) x.2.seq) x.2.done) x.2.rev; have h5:=h0 (wNum (wFlag (wNum (wNum st x.1) x.2.seq) x.2.done) x.2.rev) x.2.code
  unfold wRow
  have h3' : (wFlag (wNum (wNum st x.1) x.2.seq) x.2.done).1.length≤(wNum (wNum st x.1) x.2.seq).1.length + 6:=h3
  omega
theorem fold_row : ∀ (q : List Row) (st : Wt),(q.foldl wRow st).1.length≤st.1.length + 30 * q.length
  | [],st=>by simp
  | x::r,st=>by
    have h1:=fold_row r (wRow st x)
    have h2:=wRow_len st x
    simp only [List.foldl_cons,List.length_cons]; omega
theorem TEncode_c (ho : okT l) (hs : Sep W w cs) (hk : Pick cs (.blk bt 107 [.map (some bm)]) r) (hk2 : Pick r (.mpI bm (vT l)) r2) :
    Calls Tryz.prog 53 #[.pointer (some ⟨bt,0,none⟩)] w (Rt fun v w'=>∃ A c,v = .slice A (bTbl l).length c∧Sep W w' (.rd kU8 (.slice A (bTbl l).length c) (bTbl l)::.blk bt 107 [.map (some bm)]::.mpI bm (vT l)::r2)):=by
  have hs:=hs.perm (hk.perm.trans (hk2.perm.cons _))
  have hlen:=okT_len ho
  obtain ⟨ks,hks⟩ : ∃ ks,sortI (l.map (·.1)) = ks:=⟨_,rfl⟩
  have hkl : ks.length = l.length:=by rw [← hks,sortI_length]; simp
  have hq : rowsT l = ks.map fun c=>(c,getT l c):=by unfold rowsT; rw [hks]
  have hql : (rowsT l).length = l.length:=by rw [hq]; simp [hkl]
  have h0:=wNum_len ([],false) l.length
  have hf:=fold_row (rowsT l) (wNum ([],false) l.length)
  simp only [List.length_nil] at h0;rw [hql] at hf;refine enter Tryz.func53 Tryz.ntmps53 rfl rfl fun a (ha : Has a 50 [(0,_)])=>?_;refine wp_seq_k fun K1 hK1=>?_;refine wp_region_lit ?_;refine pY ha (yAssign rfl) fun a ha=>?_;refine pZ ?_;refine hK1 _ _ ?_;refine wp_seq_k fun K2 hK2=>?_;refine wp_region_lit ?_;refine pY ha (yMove rfl) fun a ha=>?_;refine pC ha (nCall Tryz.call79 rfl) rfl (Clients_c ho hs .here .here) ?_;rintro v w ⟨A,c,rfl,hs⟩ a ha;rw [hks] at hs;refine pY ha (yAssign rfl) fun a ha=>?_;refine pZ ?_;refine hK2 _ _ ?_;refine wp_seq_k fun K3 hK3=>?_;refine wp_region_lit ?_;refine pAlloc (zs:=[.slice none 0 0,.bool false]) ha Tryz.zeroValue67 rfl hs rfl fun bw w hs a ha=>?_;refine pY ha (yMove rfl) fun a ha=>?_;refine pY ha (yLenS Tryz.runUnderlying96 rfl) fun a ha=>?_
  have hs:=((hs.ol_nil kU8 5 none).perm (List.Perm.swap _ _ _)).wtr_shut .here .here
  refine pC ha (nCall Tryz.call24 rfl) rfl (WrNum_c (st:=([],false)) l.length (by omega) hs .here) ?_;rintro v w ⟨rfl,hs⟩ a ha;refine pY ha (yAssign rfl) fun a ha=>?_;refine pZ ?_;refine hK3 _ _ ?_;refine wp_seq_k fun K4 hK4=>?_;refine wp_seq_k fun K5 hK5=>?_;refine wp_region_lit ?_;refine pY ha (yMove rfl) fun a ha=>?_;refine pY ha (yLenS Tryz.runUnderlying96 rfl) fun a ha=>?_;refine pY ha (yMove rfl) fun a ha=>?_;refine pZ ?_;refine hK5 _ _ ?_;refine wp_block ?_;refine loopI (ι:=Nat) (fun i a w=>i≤l.length∧Has a 50 [(0,.pointer (some ⟨bt,0,none⟩)),(4,.pointer (some ⟨bw,0,none⟩)),(16,.slice A l.length c),(17,.int .i64 l.length),(18,.int .i64 i)]∧Sep W w (.wtr bw 67 (((rowsT l).take i).foldl wRow (wNum ([],false) l.length))::.rd kInt (.slice A l.length c) ks::.blk bt 107 [.map (some bm)]::.mpI bm (vT l)::r2)) (fun i=>l.length - i) (0) ?_ ?_
  · exact ⟨Nat.zero_le _,has5 ha rfl rfl rfl rfl rfl,hs⟩
  · rintro i a w ⟨h1,ha,hs⟩;refine wp_seq_k fun K6 hK6=>?_;refine wp_region_lit ?_;refine pY ha (yLss rfl rfl) fun a ha=>?_;refine pZ ?_;refine hK6 _ _ ?_;refine wp_seq_k fun K7 hK7=>?_;refine cDec ha rfl (fun hc19=>?_) (fun hc19=>?_)
    · obtain ⟨k,hk⟩ : ∃ k,ks[i]? = some k:=⟨_,List.getElem?_eq_getElem (by omega)⟩
      have hy : (rowsT l)[i]? = some (k,getT l k):=by rw [hq,List.getElem?_map,hk]; rfl
      obtain ⟨hf1,hf2⟩:=fold_at (f:=wRow) wRow_le (s0:=wNum ([],false) l.length) hy;generalize ((rowsT l).take i).foldl wRow (wNum ([],false) l.length) = s0 at hs hf1 hf2
      have p1:=wNum_le s0 k
      have p2:=wNum_le (wNum s0 k) (getT l k).seq
      have p3:=wFlag_le (wNum (wNum s0 k) (getT l k).seq) (getT l k).done
      have p4:=wNum_le (wFlag (wNum (wNum s0 k) (getT l k).seq) (getT l k).done) (getT l k).rev
      have hf3 : (wNum (wNum (wFlag (wNum (wNum s0 k) (getT l k).seq) (getT l k).done) (getT l k).rev) (getT l k).code).1.length≤1000:=Nat.le_trans hf2 (by omega)
      have p5:=wNum_le (wNum (wFlag (wNum (wNum s0 k) (getT l k).seq) (getT l k).done) (getT l k).rev) (getT l k).code
      obtain ⟨b0,off,rfl,hk64,hs⟩:=hs.rd_int (.there .here) hk;refine wp_skip ?_;refine hK7 _ _ ?_;refine wp_seq_k fun K8 hK8=>?_;refine wp_block ?_;refine wp_seq_k fun K9 hK9=>?_;refine wp_region_lit ?_;refine pY ha (yIndexA Tryz.runUnderlying96 Tryz.sizeOf3 rfl rfl (by omega) (by omega)) fun a ha=>?_;refine pY ha (yLoadR0 Tryz.isAgg3 hs rfl pk0 rfl) fun a ha=>?_;refine pY ha (yAssign rfl) fun a ha=>?_;have hs:=hs.drop;refine pZ ?_;refine hK9 _ _ ?_;refine wp_seq_k fun K10 hK10=>?_;refine wp_region_lit ?_;refine pY ha (yMove rfl) fun a ha=>?_;refine pY ha (yNilP rfl) fun a ha=>?_;refine pY ha (yFieldA Tryz.runUnderlying107 rfl Tryz.sizeOf105 rfl rfl) fun a ha=>?_;refine pY ha (yLoadB Tryz.isAgg105 hs rfl pk2 rfl) fun a ha=>?_;refine pY ha (yMove rfl) fun a ha=>?_;refine pY ha (yLookA hs rfl pk3 rfl) fun a ha=>?_;refine pAlloc (zs:=[.int .i64 0,.bool false,.int .i64 0,.int .i64 0]) ha Tryz.zeroValue43 rfl hs rfl fun b7 w hs a ha=>?_;refine pStoreA ha Tryz.sizeOf43 hs rfl rfl pk0 rfl rfl rfl fun w hs=>?_;refine pZ ?_;refine hK10 _ _ ?_;refine dStart (fun w=>∃ rs,Sep W w (.blk b7 43 (cAn (getT l k))::rs)) [14] 32767 16383 (by kernel_rfl) (by kernel_rfl) rfl (⟨_,hs.drew.pick pk0⟩) ?_
      have hs:=Sep.drew hs
      generalize World.drew _ = w at hs ⊢;refine dP 0 1 rfl ha (fun _=>yMove rfl) fun a ha=>?_;refine dP 1 3 rfl ha (fun _=>yMove rfl) fun a ha=>?_;refine dP 3 11 rfl ha (fun _=>yFieldA Tryz.runUnderlying43 rfl Tryz.sizeOf3 rfl rfl) fun a ha=>?_;refine dT 4 27 rfl ha (fun _ ⟨rs,hs⟩=>yLoadB Tryz.isAgg3 hs rfl pk0 rfl) (⟨_,hs.pick pk0⟩) fun a ha=>?_;refine dP 6 91 rfl ha (fun _=>yFieldA Tryz.runUnderlying43 rfl Tryz.sizeOf4 rfl rfl) fun a ha=>?_;refine dT 7 219 rfl ha (fun _ ⟨rs,hs⟩=>yLoadB Tryz.isAgg4 hs rfl pk0 rfl) (⟨_,hs.pick pk0⟩) fun a ha=>?_;refine dP 9 731 rfl ha (fun _=>yFieldA Tryz.runUnderlying43 rfl Tryz.sizeOf3 rfl rfl) fun a ha=>?_;refine dT 10 1755 rfl ha (fun _ ⟨rs,hs⟩=>yLoadB Tryz.isAgg3 hs rfl pk0 rfl) (⟨_,hs.pick pk0⟩) fun a ha=>?_;refine dP 12 5851 rfl ha (fun _=>yFieldA Tryz.runUnderlying43 rfl Tryz.sizeOf3 rfl rfl) fun a ha=>?_;refine dT 13 14043 rfl ha (fun _ ⟨rs,hs⟩=>yLoadB Tryz.isAgg3 hs rfl pk0 rfl) (⟨_,hs.pick pk0⟩) fun a ha=>?_;refine dC 2 14047 rfl (by kernel_rfl) rfl ha won0 (nCall Tryz.call24 rfl) rfl (WrNum_c (st:=s0) k (by omega) hs pk1) ?_;rintro v w ⟨rfl,hs⟩;refine ⟨⟨_,hs.pick pk1⟩,fun a ha=>?_⟩;refine dC 5 14079 rfl (by kernel_rfl) rfl ha won0 (nCall Tryz.call24 rfl) rfl (WrNum_c (st:=wNum s0 k) (getT l k).seq (by omega) hs pk0) ?_;rintro v w ⟨rfl,hs⟩;refine ⟨⟨_,hs.pick pk1⟩,fun a ha=>?_⟩;refine dC 8 14335 rfl (by kernel_rfl) rfl ha won0 (nCall Tryz.call44 rfl) rfl (WrFlag_c (st:=wNum (wNum s0 k) (getT l k).seq) (getT l k).done (by omega) hs pk0) ?_;rintro v w ⟨rfl,hs⟩;refine ⟨⟨_,hs.pick pk1⟩,fun a ha=>?_⟩;refine dC 11 16383 rfl (by kernel_rfl) rfl ha won0 (nCall Tryz.call24 rfl) rfl (WrNum_c (st:=wFlag (wNum (wNum s0 k) (getT l k).seq) (getT l k).done) (getT l k).rev (by omega) hs pk0) ?_;rintro v w ⟨rfl,hs⟩;refine ⟨⟨_,hs.pick pk1⟩,fun a ha=>?_⟩;refine dCl 14 32767 rfl (by kernel_rfl) rfl ha won0 (nCall Tryz.call24 rfl) rfl (WrNum_c (st:=wNum (wFlag (wNum (wNum s0 k) (getT l k).seq) (getT l k).done) (getT l k).rev) (getT l k).code (by omega) hs pk0) ?_;rintro v w ⟨rfl,hs⟩ a ha;refine dZ (by kernel_rfl) ?_;refine hK8 _ _ ?_;refine wp_region_lit ?_;refine pY ha (yAddN rfl rfl ⟨by omega,by omega⟩) fun a ha=>?_;refine pY ha (yMove rfl) fun a ha=>?_;refine pZ ?_;refine ⟨i + 1,⟨by omega,has5 ha rfl rfl rfl rfl rfl,?_⟩,by omega⟩;rw [hf1];exact hs.drop2
    · refine wp_exit ?_;refine hK4 _ _ ?_;refine wp_seq_k fun K11 hK11=>?_;rw [List.take_of_length_le (by omega)] at hs;refine wp_region_lit ?_;refine pY ha (yMove rfl) fun a ha=>?_;refine pC ha (nCall Tryz.call29 rfl) rfl (WrDone_c (st:=wTbl l) (by unfold wTbl; omega) hs pk0) ?_;rintro v w hv a ha
      rcases Bool.eq_false_or_eq_true (wTbl l).2 with hbad | hbad
      · rw [if_pos hbad] at hv;obtain ⟨rfl,hs⟩:=hv;refine pY ha (yMove rfl) fun a ha=>?_;refine pY ha (yExtract rfl rfl) fun a ha=>?_;refine pY ha (yExtract rfl rfl) fun a ha=>?_;refine pY ha (yAssign rfl) fun a ha=>?_;refine pY ha (yAssign rfl) fun a ha=>?_;refine pZ ?_;refine hK11 _ _ ?_;refine wp_seq_k fun K12 hK12=>?_;refine wp_region_lit ?_;refine pY ha (yMove rfl) fun a ha=>?_;refine pY ha (yAssign rfl) fun a ha=>?_;refine pZ ?_;refine hK12 _ _ ?_;refine wp_ret ?_;show bodyPost Tryz.prog Tryz.f53 _ .ret _ _;refine ret1 rfl ha rfl ?_
        (rw [show bTbl l = [] by unfold bTbl; rw [if_pos hbad]]; exact ⟨none,0,rfl,hs.drop2.drop.rd_nil⟩)
      · rw [if_neg (by rw [hbad]; decide)] at hv;obtain ⟨Q,q,rfl,hs⟩:=hv;refine pY ha (yMove rfl) fun a ha=>?_;refine pY ha (yExtract rfl rfl) fun a ha=>?_;refine pY ha (yExtract rfl rfl) fun a ha=>?_;refine pY ha (yAssign rfl) fun a ha=>?_;refine pY ha (yAssign rfl) fun a ha=>?_;refine pZ ?_;refine hK11 _ _ ?_;refine wp_seq_k fun K13 hK13=>?_;refine wp_region_lit ?_;refine pY ha (yMove rfl) fun a ha=>?_;refine pY ha (yAssign rfl) fun a ha=>?_;refine pZ ?_;refine hK13 _ _ ?_;refine wp_ret ?_;show bodyPost Tryz.prog Tryz.f53 _ .ret _ _;refine ret1 rfl ha rfl ?_
        (rw [show bTbl l = (wTbl l).1 by unfold bTbl; rw [if_neg (by rw [hbad]; decide)]]; exact ⟨Q,q,rfl,(hs.ol_rd .here).drop2⟩)
theorem badRow_b (q : Row × St) : decide (badRow q) = ((!decide (q.2.2 = 0)) || ((!mayC q.1.1) || (decide (q.1.2.seq < 1) || !sndAn q.1.2))):=by
  rw [Bool.eq_iff_iff,decide_eq_true_iff];unfold badRow
  simp
theorem rRow_b (st : St) : (rRow st).1.2.seq≤1099511627776∧(rRow st).1.2.rev≤1099511627776∧(rRow st).1.2.code≤1099511627776:=⟨(rNum_val _).2,(rNum_val _).2,(rNum_val _).2⟩
theorem TDecode_c {A : Option Addr} {n c : Nat} {bs : List UInt8} (hb : bs.length≤140737488355328) (hs : Sep W w cs) (hk : Pick cs (.rd kU8 (.slice A n c) bs) r) :
    Calls Tryz.prog 57 #[.slice A n c] w (Rt fun v w'=>∃ p,v = .tuple #[.pointer p,.int .i64 (tblE bs)]∧Sep W w' cs):=by
  obtain ⟨G,hG⟩ : ∃ G,goT (rMany 20 (bs,0)).1.toNat (rMany 20 (bs,0)).2 [] = G:=⟨_,rfl⟩
  have hE : tblE bs = tblF bs G:=by unfold tblE; rw [hG]
  have hs:=hs.cpR hk
  have hM:=rMany_val 20 (by decide) (bs,0)
  refine enter Tryz.func57 Tryz.ntmps57 rfl rfl fun a (ha : Has a 64 [(0,_)])=>?_;refine wp_seq_k fun K1 hK1=>?_;refine wp_region_lit ?_;refine pY ha (yAssign rfl) fun a ha=>?_;refine pY ha (yAssign rfl) fun a ha=>?_;refine pZ ?_;refine hK1 _ _ ?_;refine scopeN (ι:=Nat × St × List Row × Ans × Nat × Nat × Nat × Nat) 1 (fun i a w=>i.1≤20∧goT i.1 i.2.1 i.2.2.1 = G∧okT i.2.2.1∧Has a 64 [(0,.slice A n c),(4,.pointer (some ⟨i.2.2.2.2.1,0,none⟩)),(5,.pointer (some ⟨i.2.2.2.2.2.1,0,none⟩)),(6,.int .i64 i.1),(8,.pointer (some ⟨i.2.2.2.2.2.2.1,0,none⟩))]∧Sep W w (.blk i.2.2.2.2.2.2.1 43 (cAn i.2.2.2.1)::.rdr i.2.2.2.2.2.1 129 i.2.1::.blk i.2.2.2.2.1 107 [.map (some i.2.2.2.2.2.2.2)]::.mpI i.2.2.2.2.2.2.2 (vT i.2.2.1)::.rd kU8 (.slice A n c) bs::cs)) (fun i=>i.1) 1 ?_ ?_
  · refine wp_seq_k fun K2 hK2=>?_;refine wp_region_lit ?_;refine pC ha (nCall Tryz.call22 rfl) rfl (DNew_c hs) ?_;rintro v w ⟨bt,bm,rfl,hs⟩ a ha;refine pY ha (yMove rfl) fun a ha=>?_;refine pC ha (nCall Tryz.call30 rfl) rfl (NewReader_c hs pk2 hb) ?_;rintro v w ⟨br,rfl,hs⟩ a ha;refine pY ha (yAssign rfl) fun a ha=>?_;refine pY ha (yAssign rfl) fun a ha=>?_;refine pZ ?_;refine hK2 _ _ ?_;refine wp_seq_k fun K3 hK3=>?_;refine wp_region_lit ?_;refine pY ha (yMove rfl) fun a ha=>?_;refine pC ha (nCall Tryz.call33 rfl) rfl (Many_c 20 hs pk0) ?_;rintro v w ⟨rfl,hs⟩ a ha;refine pY ha (yAssign rfl) fun a ha=>?_;refine pY ha (yAssign rfl) fun a ha=>?_;refine pZ ?_;refine hK3 _ _ ?_;refine wp_seq_k fun K4 hK4=>?_;refine wp_region_lit ?_;refine pAlloc (zs:=[.int .i64 0,.bool false,.int .i64 0,.int .i64 0]) ha Tryz.zeroValue43 rfl hs rfl fun b8 w hs a ha=>?_;refine pZ ?_;refine hK4 _ _ ?_;refine wp_seq_k fun K5 hK5=>?_;refine wp_label ?_;refine hK5 _ _ ?_;refine wp_seq_k fun K6 hK6=>?_;refine wp_seq_k fun K7 hK7=>?_
    (obtain ⟨k,hkk⟩:=Int.eq_ofNat_of_zero_le hM.1
     obtain ⟨st,hst⟩ : ∃ st,(rMany 20 (bs,0)).2 = st:=⟨_,rfl⟩;rw [hkk] at ha;rw [hst] at hs
     have h1 : k≤20:=by omega
     obtain ⟨l,hl0⟩ : ∃ l : List Row,l = []:=⟨_,rfl⟩
     have hgo : goT k st l = G:=by rw [hl0,← hG,hkk,hst]; rfl
     have hok : okT l:=hl0 ▸ okT_nil
     obtain ⟨a0,ha0⟩ : ∃ a0,a0 = noAns:=⟨_,rfl⟩
     have hs : Sep W w (.blk b8 43 (cAn a0)::.rdr br 129 st::.blk bt 107 [.map (some bm)]::.mpI bm (vT l)::.rd kU8 (.slice A n c) bs::cs):=by rw [ha0,hl0]; exact hs)
    refine wp_region_lit ?_;refine pY ha (yMove rfl) fun a ha=>?_;refine pY ha (yEql rfl rfl) fun a ha=>?_;refine pZ ?_;refine hK7 _ _ ?_;refine cDec ha rfl (fun hc15=>?_) (fun hc15=>?_)
    · obtain rfl : k = 0:=by omega
      have hG0 : G = some (l,st):=hgo.symm
      rw [hG0] at hE;simp only [tblF] at hE;refine wp_goto ?_
      repeat (with_reducible first | refine gThen ?_ | refine gBlock ?_)
      refine gxF rfl rfl ?_;refine wp_seq_k fun K8 hK8=>?_;refine wp_skip ?_;refine hK8 _ _ ?_;refine wp_seq_k fun K9 hK9=>?_;refine wp_seq_k fun K10 hK10=>?_;refine wp_region_lit ?_;refine pY ha (yMove rfl) fun a ha=>?_;refine pC ha (nCall Tryz.call35 rfl) rfl (ErrK_c hs pk1) ?_;rintro v w ⟨rfl,hs⟩ a ha;refine pY ha (yNeq rfl rfl) fun a ha=>?_;refine pY ha (yMove rfl) fun a ha=>?_;refine gSplit (t:=56) ha rfl (fun hg3=>?_) (fun hg3=>?_)
      · rw [hg3] at ha;refine gOn ha ?_;refine pY ha (yMove rfl) fun a ha=>?_;refine gOn ha ?_;refine pC ha (nCall Tryz.call53 rfl) rfl (TEncode_c hok hs pk2 pk2) ?_;rintro v w ⟨A2,c2,rfl,hs⟩ a ha;refine gOn ha ?_;refine pY ha (yMove rfl) fun a ha=>?_;refine gOn ha ?_;refine pC ha (nCall Tryz.call38 rfl) rfl (BytesEq_c hs pk0 pk5) ?_;rintro v w ⟨rfl,hs⟩ a ha;refine gOn ha ?_;refine pY ha (yNot rfl) fun a ha=>?_;refine pY ha (yPickF rfl rfl) fun a ha=>?_;refine pZ ?_;refine hK10 _ _ ?_;refine cNDec ha rfl (fun hc62=>?_) (fun hc62=>?_)
        · refine wp_seq_k fun K11 hK11=>?_;refine wp_region_lit ?_;refine pY ha (yAssign rfl) fun a ha=>?_;refine pY ha (yAssign rfl) fun a ha=>?_;refine pZ ?_;refine hK11 _ _ ?_;refine wp_ret ?_;show bodyPost Tryz.prog Tryz.f57 _ .ret _ _;refine ret2 rfl ha rfl rfl ?_;refine ⟨none,?_,(by exact hs.drop.drop.drop.drop.drop.drop)⟩;rw [hE]
          (rw [if_pos (by exact .inr hc62)]; done)
        · refine wp_skip ?_;refine hK9 _ _ ?_;refine wp_seq_k fun K12 hK12=>?_;refine wp_region_lit ?_;refine pY ha (yMove rfl) fun a ha=>?_;refine pY ha (yAssign rfl) fun a ha=>?_;refine pY ha (yAssign rfl) fun a ha=>?_;refine pZ ?_;refine hK12 _ _ ?_;refine wp_ret ?_;show bodyPost Tryz.prog Tryz.f57 _ .ret _ _;refine ret2 rfl ha rfl rfl ?_;exact ⟨_,by rw [hE,if_neg (by rw [not_or]; exact ⟨by simpa using hg3,by simpa using hc62⟩)],(by exact hs.drop.drop.drop.drop.drop.drop)⟩
      · rw [hg3] at ha;refine gOff ha fun a ha=>?_;refine gOff ha fun a ha=>?_;refine gOff ha fun a ha=>?_;refine gOff ha fun a ha=>?_;refine gOff ha fun a ha=>?_;refine pY ha (yPickT rfl rfl) fun a ha=>?_;refine pZ ?_;refine hK10 _ _ ?_;refine cTrue ha rfl ?_;refine wp_seq_k fun K13 hK13=>?_;refine wp_region_lit ?_;refine pY ha (yAssign rfl) fun a ha=>?_;refine pY ha (yAssign rfl) fun a ha=>?_;refine pZ ?_;refine hK13 _ _ ?_;refine wp_ret ?_;show bodyPost Tryz.prog Tryz.f57 _ .ret _ _;refine ret2 rfl ha rfl rfl ?_;refine ⟨none,?_,(by exact hs.drop.drop.drop.drop.drop)⟩;rw [hE]
        (rw [if_pos (by exact .inl (by simpa using hg3))]; done)
    · obtain ⟨k,rfl⟩ : ∃ k',k = k' + 1:=⟨k - 1,by omega⟩;refine wp_skip ?_;refine hK6 _ _ ?_;refine wp_seq_k fun K14 hK14=>?_;refine wp_region_lit ?_;refine pY ha (yMove rfl) fun a ha=>?_;refine pY ha (ySubN rfl rfl ⟨by omega,by omega⟩) fun a ha=>?_;rw [show (((k + 1 : Nat) : Int) - 1) = (k : Int) by omega] at ha;refine pY ha (yAssign rfl) fun a ha=>?_;refine pZ ?_;refine hK14 _ _ ?_;refine wp_seq_k fun K15 hK15=>?_;refine wp_region_lit ?_;refine pY ha (yMove rfl) fun a ha=>?_;refine pC ha (nCall Tryz.call31 rfl) rfl (RdNum_c hs pk1) ?_;rintro v w ⟨rfl,hs⟩ a ha;refine pY ha (yAssign rfl) fun a ha=>?_;refine pZ ?_;refine hK15 _ _ ?_;refine wp_seq_k fun K16 hK16=>?_;refine wp_region_lit ?_;refine pY ha (yMove rfl) fun a ha=>?_;refine pC ha (nCall Tryz.call31 rfl) rfl (RdNum_c hs pk0) ?_;rintro v w ⟨rfl,hs⟩ a ha;refine pY ha (yMove rfl) fun a ha=>?_;refine pC ha (nCall Tryz.call45 rfl) rfl (RdFlag_c hs pk0) ?_;rintro v w ⟨rfl,hs⟩ a ha;refine pY ha (yMove rfl) fun a ha=>?_;refine pC ha (nCall Tryz.call31 rfl) rfl (RdNum_c hs pk0) ?_;rintro v w ⟨rfl,hs⟩ a ha;refine pY ha (yMove rfl) fun a ha=>?_;refine pC ha (nCall Tryz.call31 rfl) rfl (RdNum_c hs pk0) ?_;rintro v w ⟨rfl,hs⟩ a ha;refine pY ha (bldTab43_0_1_2_3 rfl rfl rfl rfl) fun a ha=>?_;refine pStoreA ha Tryz.sizeOf43 hs rfl rfl pk1 rfl rfl rfl fun w hs=>?_;refine pZ ?_;refine hK16 _ _ ?_;refine wp_seq_k fun K17 hK17=>?_;refine wp_seq_k fun K18 hK18=>?_
      have hs : Sep W w (.blk b8 43 (cAn (rRow st).1.2)::.rdr br 129 (rRow st).2::.blk bt 107 [.map (some bm)]::.mpI bm (vT l)::.rd kU8 (.slice A n c) bs::cs):=by exact hs
      refine cutC (fun a w=>Has a 64 [(0,.slice A n c),(4,.pointer (some ⟨bt,0,none⟩)),(5,.pointer (some ⟨br,0,none⟩)),(6,.int .i64 k),(7,.int .i64 (rRow st).1.1),(8,.pointer (some ⟨b8,0,none⟩)),(46,.bool (decide (badRow (rRow st))))]∧Sep W w (.blk b8 43 (cAn (rRow st).1.2)::.rdr br 129 (rRow st).2::.blk bt 107 [.map (some bm)]::.mpI bm (vT l)::.rd kU8 (.slice A n c) bs::cs)) ?_ ?_
      · refine wp_region_lit ?_;refine pY ha (yMove rfl) fun a ha=>?_;refine pC ha (nCall Tryz.call35 rfl) rfl (ErrK_c hs (.there .here)) ?_;rintro v w ⟨rfl,hs⟩ a ha;refine pY ha (yNeq rfl rfl) fun a ha=>?_;refine pY ha (yMove rfl) fun a ha=>?_;refine gSplit (t:=32) ha rfl (fun hg3=>?_) (fun hg3=>?_)
        · rw [hg3] at ha;refine gOn ha ?_;refine pY ha (yMove rfl) fun a ha=>?_;refine gOn ha ?_;refine pC ha (nCall Tryz.call68 rfl) rfl (May_c (rRow st).1.1 hs) ?_;rintro v w ⟨rfl,hs⟩ a ha;refine gOn ha ?_;refine pY ha (yNot rfl) fun a ha=>?_;refine pY ha (yPickF rfl rfl) fun a ha=>?_;refine pY ha (yMove rfl) fun a ha=>?_;refine gSplit (t:=37) ha rfl (fun hg8=>?_) (fun hg8=>?_)
          · rw [hg8] at ha;refine gOn ha ?_;refine pY ha (yFieldA Tryz.runUnderlying43 rfl Tryz.sizeOf3 rfl rfl) fun a ha=>?_;refine gOn ha ?_;refine pY ha (yLoadB Tryz.isAgg3 hs rfl pk1 rfl) fun a ha=>?_;refine gOn ha ?_;refine pY ha (yLss rfl rfl) fun a ha=>?_;refine pY ha (yPickF rfl rfl) fun a ha=>?_;refine pY ha (yMove rfl) fun a ha=>?_;refine gSplit (t:=42) ha rfl (fun hg13=>?_) (fun hg13=>?_)
            · rw [hg13] at ha;refine gOn ha ?_;refine pY ha (yLoadBA Tryz.isAgg43 Tryz.sizeOf43 hs rfl pk1 rfl) fun a ha=>?_;refine gOn ha ?_;refine pC ha (nCall Tryz.call69 rfl) rfl (ASound_c (rRow st).1.2 hs) ?_;rintro v w ⟨rfl,hs⟩ a ha;refine gOn ha ?_;refine pY ha (yNot rfl) fun a ha=>?_;refine pY ha (yPickF rfl rfl) fun a ha=>?_;refine pZ ⟨rfl,?_⟩;refine ⟨has7 ha rfl rfl rfl rfl rfl rfl ?_,hs.perm (List.Perm.swap _ _ _)⟩;refine congrArg (fun b=>some (Value.bool b)) ?_;rw [badRow_b]
              (rw [hg3,hg8,hg13] <;> rfl)
            · rw [hg13] at ha;refine gOff ha fun a ha=>?_;refine gOff ha fun a ha=>?_;refine gOff ha fun a ha=>?_;refine pY ha (yPickT rfl rfl) fun a ha=>?_;refine pZ ⟨rfl,?_⟩;refine ⟨has7 ha rfl rfl rfl rfl rfl rfl ?_,hs.perm (List.Perm.swap _ _ _)⟩;refine congrArg (fun b=>some (Value.bool b)) ?_;rw [badRow_b]
              (rw [hg3,hg8,hg13] <;> rfl)
          · rw [hg8] at ha;refine gOff ha fun a ha=>?_;refine gOff ha fun a ha=>?_;refine gOff ha fun a ha=>?_;refine pY ha (yPickT rfl rfl) fun a ha=>?_;refine pY ha (yMove rfl) fun a ha=>?_;refine gOff ha fun a ha=>?_;refine gOff ha fun a ha=>?_;refine gOff ha fun a ha=>?_;refine pY ha (yPickT rfl rfl) fun a ha=>?_;refine pZ ⟨rfl,?_⟩;refine ⟨has7 ha rfl rfl rfl rfl rfl rfl ?_,hs.perm (List.Perm.swap _ _ _)⟩;refine congrArg (fun b=>some (Value.bool b)) ?_;rw [badRow_b]
            (rw [hg3,hg8] <;> rfl)
        · rw [hg3] at ha;refine gOff ha fun a ha=>?_;refine gOff ha fun a ha=>?_;refine gOff ha fun a ha=>?_;refine pY ha (yPickT rfl rfl) fun a ha=>?_;refine pY ha (yMove rfl) fun a ha=>?_;refine gOff ha fun a ha=>?_;refine gOff ha fun a ha=>?_;refine gOff ha fun a ha=>?_;refine pY ha (yPickT rfl rfl) fun a ha=>?_;refine pY ha (yMove rfl) fun a ha=>?_;refine gOff ha fun a ha=>?_;refine gOff ha fun a ha=>?_;refine gOff ha fun a ha=>?_;refine pY ha (yPickT rfl rfl) fun a ha=>?_;refine pZ ⟨rfl,?_⟩;refine ⟨has7 ha rfl rfl rfl rfl rfl rfl ?_,hs.perm (List.Perm.swap _ _ _)⟩;refine congrArg (fun b=>some (Value.bool b)) ?_;rw [badRow_b]
          (rw [hg3] <;> rfl)
      rintro a w ⟨ha,hs⟩;refine hK18 _ _ ?_;refine cDec ha rfl (fun hc46=>?_) (fun hc46=>?_)
      · have hgn : G = none:=by rw [← hgo]; show (if badRow (rRow st) then none else _) = none; rw [if_pos hc46]
        rw [hgn] at hE;simp only [tblF] at hE;refine wp_seq_k fun K19 hK19=>?_;refine wp_region_lit ?_;refine pY ha (yAssign rfl) fun a ha=>?_;refine pY ha (yAssign rfl) fun a ha=>?_;refine pZ ?_;refine hK19 _ _ ?_;refine wp_ret ?_;show bodyPost Tryz.prog Tryz.f57 _ .ret _ _;refine ret2 rfl ha rfl rfl ?_;refine ⟨none,?_,(by exact hs.drop.drop.drop.drop.drop)⟩;rw [hE]
        done
      · have hg2 : goT k (rRow st).2 (putT (rRow st).1.1 (rRow st).1.2 l) = G:=by rw [← hgo]; show _ = (if badRow (rRow st) then none else _); rw [if_neg hc46]
        have hbb:=rRow_b st
        have hnb:=hc46
        simp only [badRow,not_or,Bool.not_eq_false] at hnb
        have hok2:=okT_put (c:=(rRow st).1.1) (a:=(rRow st).1.2) hok hnb.2.1 (by omega) hbb.1 hbb.2.1 hbb.2.2 hnb.2.2.2
        refine wp_skip ?_;refine hK17 _ _ ?_;refine wp_seq_k fun K20 hK20=>?_;refine dStart (fun w=>Sep W w _) [6] 127 63 (by kernel_rfl) (by kernel_rfl) rfl (hs.drew) ?_
        have hs:=Sep.drew hs
        generalize World.drew _ = w at hs ⊢;refine dP 0 1 rfl ha (fun _=>yMove rfl) fun a ha=>?_;refine dP 1 3 rfl ha (fun _=>yNilP rfl) fun a ha=>?_;refine dP 2 7 rfl ha (fun _=>yFieldA Tryz.runUnderlying107 rfl Tryz.sizeOf105 rfl rfl) fun a ha=>?_;refine dT 3 15 rfl ha (fun _ hs=>yLoadB Tryz.isAgg105 hs rfl pk2 rfl) (hs) fun a ha=>?_;refine dP 4 31 rfl ha (fun _=>yMove rfl) fun a ha=>?_;refine dT 5 63 rfl ha (fun _ hs=>yLoadBA Tryz.isAgg43 Tryz.sizeOf43 hs rfl pk0 rfl) (hs) fun a ha=>?_;refine dPutIl (m:=vT l) (c:=(rRow st).1.1) (v:=.agg (cAn (rRow st).1.2).toArray) 6 127 rfl (by kernel_rfl) rfl ha won0 Tryz.runUnderlying105 hs rfl pk3 rfl rfl ?_;intro w hs;rw [vT_put] at hs;have hs:=hs.unpick (show Pick (.blk b8 43 (cAn (rRow st).1.2)::.rdr br 129 (rRow st).2::.blk bt 107 [.map (some bm)]::.mpI bm (vT (putT (rRow st).1.1 (rRow st).1.2 l))::.rd kU8 (.slice A n c) bs::cs) _ _ from .there (.there (.there .here)));refine dZ (by kernel_rfl) ?_;refine hK20 _ _ ?_;refine wp_seq_k fun K21 hK21=>?_;refine wp_goto ?_
        repeat (with_reducible first | refine gThen ?_ | refine gBlock ?_)
        refine gxL ?_;refine ⟨(k,(rRow st).2,putT (rRow st).1.1 (rRow st).1.2 l,(rRow st).1.2,bt,br,b8,bm),by simp only; omega,hg2,hok2,has5 ha rfl rfl rfl rfl rfl,hs⟩
  · rintro i a w ⟨h1,hgo,hok,ha,hs⟩;refine ⟨_,rfl,?_⟩;refine wp_seq_k fun K22 hK22=>?_;refine wp_skip ?_;refine hK22 _ _ ?_;refine wp_seq_k fun K23 hK23=>?_;refine wp_seq_k fun K24 hK24=>?_
    (obtain ⟨k,st,l,a0,bt,br,b8,bm⟩:=i; simp only at h1 hgo hok ha hs)
    refine wp_region_lit ?_;refine pY ha (yMove rfl) fun a ha=>?_;refine pY ha (yEql rfl rfl) fun a ha=>?_;refine pZ ?_;refine hK24 _ _ ?_;refine cDec ha rfl (fun hc15=>?_) (fun hc15=>?_)
    · obtain rfl : k = 0:=by omega
      have hG0 : G = some (l,st):=hgo.symm
      rw [hG0] at hE;simp only [tblF] at hE;refine wp_goto ?_
      repeat (with_reducible first | refine gThen ?_ | refine gBlock ?_)
      refine gxF rfl rfl ?_;refine wp_seq_k fun K25 hK25=>?_;refine wp_skip ?_;refine hK25 _ _ ?_;refine wp_seq_k fun K26 hK26=>?_;refine wp_seq_k fun K27 hK27=>?_;refine wp_region_lit ?_;refine pY ha (yMove rfl) fun a ha=>?_;refine pC ha (nCall Tryz.call35 rfl) rfl (ErrK_c hs pk1) ?_;rintro v w ⟨rfl,hs⟩ a ha;refine pY ha (yNeq rfl rfl) fun a ha=>?_;refine pY ha (yMove rfl) fun a ha=>?_;refine gSplit (t:=56) ha rfl (fun hg3=>?_) (fun hg3=>?_)
      · rw [hg3] at ha;refine gOn ha ?_;refine pY ha (yMove rfl) fun a ha=>?_;refine gOn ha ?_;refine pC ha (nCall Tryz.call53 rfl) rfl (TEncode_c hok hs pk2 pk2) ?_;rintro v w ⟨A2,c2,rfl,hs⟩ a ha;refine gOn ha ?_;refine pY ha (yMove rfl) fun a ha=>?_;refine gOn ha ?_;refine pC ha (nCall Tryz.call38 rfl) rfl (BytesEq_c hs pk0 pk5) ?_;rintro v w ⟨rfl,hs⟩ a ha;refine gOn ha ?_;refine pY ha (yNot rfl) fun a ha=>?_;refine pY ha (yPickF rfl rfl) fun a ha=>?_;refine pZ ?_;refine hK27 _ _ ?_;refine cNDec ha rfl (fun hc62=>?_) (fun hc62=>?_)
        · refine wp_seq_k fun K28 hK28=>?_;refine wp_region_lit ?_;refine pY ha (yAssign rfl) fun a ha=>?_;refine pY ha (yAssign rfl) fun a ha=>?_;refine pZ ?_;refine hK28 _ _ ?_;refine wp_ret ?_;show bodyPost Tryz.prog Tryz.f57 _ .ret _ _;refine ret2 rfl ha rfl rfl ?_;refine ⟨none,?_,(by exact hs.drop.drop.drop.drop.drop.drop)⟩;rw [hE]
          (rw [if_pos (by exact .inr hc62)]; done)
        · refine wp_skip ?_;refine hK26 _ _ ?_;refine wp_seq_k fun K29 hK29=>?_;refine wp_region_lit ?_;refine pY ha (yMove rfl) fun a ha=>?_;refine pY ha (yAssign rfl) fun a ha=>?_;refine pY ha (yAssign rfl) fun a ha=>?_;refine pZ ?_;refine hK29 _ _ ?_;refine wp_ret ?_;show bodyPost Tryz.prog Tryz.f57 _ .ret _ _;refine ret2 rfl ha rfl rfl ?_;exact ⟨_,by rw [hE,if_neg (by rw [not_or]; exact ⟨by simpa using hg3,by simpa using hc62⟩)],(by exact hs.drop.drop.drop.drop.drop.drop)⟩
      · rw [hg3] at ha;refine gOff ha fun a ha=>?_;refine gOff ha fun a ha=>?_;refine gOff ha fun a ha=>?_;refine gOff ha fun a ha=>?_;refine gOff ha fun a ha=>?_;refine pY ha (yPickT rfl rfl) fun a ha=>?_;refine pZ ?_;refine hK27 _ _ ?_;refine cTrue ha rfl ?_;refine wp_seq_k fun K30 hK30=>?_;refine wp_region_lit ?_;refine pY ha (yAssign rfl) fun a ha=>?_;refine pY ha (yAssign rfl) fun a ha=>?_;refine pZ ?_;refine hK30 _ _ ?_;refine wp_ret ?_;show bodyPost Tryz.prog Tryz.f57 _ .ret _ _;refine ret2 rfl ha rfl rfl ?_;refine ⟨none,?_,(by exact hs.drop.drop.drop.drop.drop)⟩;rw [hE]
        (rw [if_pos (by exact .inl (by simpa using hg3))]; done)
    · obtain ⟨k,rfl⟩ : ∃ k',k = k' + 1:=⟨k - 1,by omega⟩;refine wp_skip ?_;refine hK23 _ _ ?_;refine wp_seq_k fun K31 hK31=>?_;refine wp_region_lit ?_;refine pY ha (yMove rfl) fun a ha=>?_;refine pY ha (ySubN rfl rfl ⟨by omega,by omega⟩) fun a ha=>?_;rw [show (((k + 1 : Nat) : Int) - 1) = (k : Int) by omega] at ha;refine pY ha (yAssign rfl) fun a ha=>?_;refine pZ ?_;refine hK31 _ _ ?_;refine wp_seq_k fun K32 hK32=>?_;refine wp_region_lit ?_;refine pY ha (yMove rfl) fun a ha=>?_;refine pC ha (nCall Tryz.call31 rfl) rfl (RdNum_c hs pk1) ?_;rintro v w ⟨rfl,hs⟩ a ha;refine pY ha (yAssign rfl) fun a ha=>?_;refine pZ ?_;refine hK32 _ _ ?_;refine wp_seq_k fun K33 hK33=>?_;refine wp_region_lit ?_;refine pY ha (yMove rfl) fun a ha=>?_;refine pC ha (nCall Tryz.call31 rfl) rfl (RdNum_c hs pk0) ?_;rintro v w ⟨rfl,hs⟩ a ha;refine pY ha (yMove rfl) fun a ha=>?_;refine pC ha (nCall Tryz.call45 rfl) rfl (RdFlag_c hs pk0) ?_;rintro v w ⟨rfl,hs⟩ a ha;refine pY ha (yMove rfl) fun a ha=>?_;refine pC ha (nCall Tryz.call31 rfl) rfl (RdNum_c hs pk0) ?_;rintro v w ⟨rfl,hs⟩ a ha;refine pY ha (yMove rfl) fun a ha=>?_;refine pC ha (nCall Tryz.call31 rfl) rfl (RdNum_c hs pk0) ?_;rintro v w ⟨rfl,hs⟩ a ha;refine pY ha (bldTab43_0_1_2_3 rfl rfl rfl rfl) fun a ha=>?_;refine pStoreA ha Tryz.sizeOf43 hs rfl rfl pk1 rfl rfl rfl fun w hs=>?_;refine pZ ?_;refine hK33 _ _ ?_;refine wp_seq_k fun K34 hK34=>?_;refine wp_seq_k fun K35 hK35=>?_
      have hs : Sep W w (.blk b8 43 (cAn (rRow st).1.2)::.rdr br 129 (rRow st).2::.blk bt 107 [.map (some bm)]::.mpI bm (vT l)::.rd kU8 (.slice A n c) bs::cs):=by exact hs
      refine cutC (fun a w=>Has a 64 [(0,.slice A n c),(4,.pointer (some ⟨bt,0,none⟩)),(5,.pointer (some ⟨br,0,none⟩)),(6,.int .i64 k),(7,.int .i64 (rRow st).1.1),(8,.pointer (some ⟨b8,0,none⟩)),(46,.bool (decide (badRow (rRow st))))]∧Sep W w (.blk b8 43 (cAn (rRow st).1.2)::.rdr br 129 (rRow st).2::.blk bt 107 [.map (some bm)]::.mpI bm (vT l)::.rd kU8 (.slice A n c) bs::cs)) ?_ ?_
      · refine wp_region_lit ?_;refine pY ha (yMove rfl) fun a ha=>?_;refine pC ha (nCall Tryz.call35 rfl) rfl (ErrK_c hs (.there .here)) ?_;rintro v w ⟨rfl,hs⟩ a ha;refine pY ha (yNeq rfl rfl) fun a ha=>?_;refine pY ha (yMove rfl) fun a ha=>?_;refine gSplit (t:=32) ha rfl (fun hg3=>?_) (fun hg3=>?_)
        · rw [hg3] at ha;refine gOn ha ?_;refine pY ha (yMove rfl) fun a ha=>?_;refine gOn ha ?_;refine pC ha (nCall Tryz.call68 rfl) rfl (May_c (rRow st).1.1 hs) ?_;rintro v w ⟨rfl,hs⟩ a ha;refine gOn ha ?_;refine pY ha (yNot rfl) fun a ha=>?_;refine pY ha (yPickF rfl rfl) fun a ha=>?_;refine pY ha (yMove rfl) fun a ha=>?_;refine gSplit (t:=37) ha rfl (fun hg8=>?_) (fun hg8=>?_)
          · rw [hg8] at ha;refine gOn ha ?_;refine pY ha (yFieldA Tryz.runUnderlying43 rfl Tryz.sizeOf3 rfl rfl) fun a ha=>?_;refine gOn ha ?_;refine pY ha (yLoadB Tryz.isAgg3 hs rfl pk1 rfl) fun a ha=>?_;refine gOn ha ?_;refine pY ha (yLss rfl rfl) fun a ha=>?_;refine pY ha (yPickF rfl rfl) fun a ha=>?_;refine pY ha (yMove rfl) fun a ha=>?_;refine gSplit (t:=42) ha rfl (fun hg13=>?_) (fun hg13=>?_)
            · rw [hg13] at ha;refine gOn ha ?_;refine pY ha (yLoadBA Tryz.isAgg43 Tryz.sizeOf43 hs rfl pk1 rfl) fun a ha=>?_;refine gOn ha ?_;refine pC ha (nCall Tryz.call69 rfl) rfl (ASound_c (rRow st).1.2 hs) ?_;rintro v w ⟨rfl,hs⟩ a ha;refine gOn ha ?_;refine pY ha (yNot rfl) fun a ha=>?_;refine pY ha (yPickF rfl rfl) fun a ha=>?_;refine pZ ⟨rfl,?_⟩;refine ⟨has7 ha rfl rfl rfl rfl rfl rfl ?_,hs.perm (List.Perm.swap _ _ _)⟩;refine congrArg (fun b=>some (Value.bool b)) ?_;rw [badRow_b]
              (rw [hg3,hg8,hg13] <;> rfl)
            · rw [hg13] at ha;refine gOff ha fun a ha=>?_;refine gOff ha fun a ha=>?_;refine gOff ha fun a ha=>?_;refine pY ha (yPickT rfl rfl) fun a ha=>?_;refine pZ ⟨rfl,?_⟩;refine ⟨has7 ha rfl rfl rfl rfl rfl rfl ?_,hs.perm (List.Perm.swap _ _ _)⟩;refine congrArg (fun b=>some (Value.bool b)) ?_;rw [badRow_b]
              (rw [hg3,hg8,hg13] <;> rfl)
          · rw [hg8] at ha;refine gOff ha fun a ha=>?_;refine gOff ha fun a ha=>?_;refine gOff ha fun a ha=>?_;refine pY ha (yPickT rfl rfl) fun a ha=>?_;refine pY ha (yMove rfl) fun a ha=>?_;refine gOff ha fun a ha=>?_;refine gOff ha fun a ha=>?_;refine gOff ha fun a ha=>?_;refine pY ha (yPickT rfl rfl) fun a ha=>?_;refine pZ ⟨rfl,?_⟩;refine ⟨has7 ha rfl rfl rfl rfl rfl rfl ?_,hs.perm (List.Perm.swap _ _ _)⟩;refine congrArg (fun b=>some (Value.bool b)) ?_;rw [badRow_b]
            (rw [hg3,hg8] <;> rfl)
        · rw [hg3] at ha;refine gOff ha fun a ha=>?_;refine gOff ha fun a ha=>?_;refine gOff ha fun a ha=>?_;refine pY ha (yPickT rfl rfl) fun a ha=>?_;refine pY ha (yMove rfl) fun a ha=>?_;refine gOff ha fun a ha=>?_;refine gOff ha fun a ha=>?_;refine gOff ha fun a ha=>?_;refine pY ha (yPickT rfl rfl) fun a ha=>?_;refine pY ha (yMove rfl) fun a ha=>?_;refine gOff ha fun a ha=>?_;refine gOff ha fun a ha=>?_;refine gOff ha fun a ha=>?_;refine pY ha (yPickT rfl rfl) fun a ha=>?_;refine pZ ⟨rfl,?_⟩;refine ⟨has7 ha rfl rfl rfl rfl rfl rfl ?_,hs.perm (List.Perm.swap _ _ _)⟩;refine congrArg (fun b=>some (Value.bool b)) ?_;rw [badRow_b]
          (rw [hg3] <;> rfl)
      rintro a w ⟨ha,hs⟩;refine hK35 _ _ ?_;refine cDec ha rfl (fun hc46=>?_) (fun hc46=>?_)
      · have hgn : G = none:=by rw [← hgo]; show (if badRow (rRow st) then none else _) = none; rw [if_pos hc46]
        rw [hgn] at hE;simp only [tblF] at hE;refine wp_seq_k fun K36 hK36=>?_;refine wp_region_lit ?_;refine pY ha (yAssign rfl) fun a ha=>?_;refine pY ha (yAssign rfl) fun a ha=>?_;refine pZ ?_;refine hK36 _ _ ?_;refine wp_ret ?_;show bodyPost Tryz.prog Tryz.f57 _ .ret _ _;refine ret2 rfl ha rfl rfl ?_;refine ⟨none,?_,(by exact hs.drop.drop.drop.drop.drop)⟩;rw [hE]
        done
      · have hg2 : goT k (rRow st).2 (putT (rRow st).1.1 (rRow st).1.2 l) = G:=by rw [← hgo]; show _ = (if badRow (rRow st) then none else _); rw [if_neg hc46]
        have hbb:=rRow_b st
        have hnb:=hc46
        simp only [badRow,not_or,Bool.not_eq_false] at hnb
        have hok2:=okT_put (c:=(rRow st).1.1) (a:=(rRow st).1.2) hok hnb.2.1 (by omega) hbb.1 hbb.2.1 hbb.2.2 hnb.2.2.2
        refine wp_skip ?_;refine hK34 _ _ ?_;refine wp_seq_k fun K37 hK37=>?_;refine dStart (fun w=>Sep W w _) [6] 127 63 (by kernel_rfl) (by kernel_rfl) rfl (hs.drew) ?_
        have hs:=Sep.drew hs
        generalize World.drew _ = w at hs ⊢;refine dP 0 1 rfl ha (fun _=>yMove rfl) fun a ha=>?_;refine dP 1 3 rfl ha (fun _=>yNilP rfl) fun a ha=>?_;refine dP 2 7 rfl ha (fun _=>yFieldA Tryz.runUnderlying107 rfl Tryz.sizeOf105 rfl rfl) fun a ha=>?_;refine dT 3 15 rfl ha (fun _ hs=>yLoadB Tryz.isAgg105 hs rfl pk2 rfl) (hs) fun a ha=>?_;refine dP 4 31 rfl ha (fun _=>yMove rfl) fun a ha=>?_;refine dT 5 63 rfl ha (fun _ hs=>yLoadBA Tryz.isAgg43 Tryz.sizeOf43 hs rfl pk0 rfl) (hs) fun a ha=>?_;refine dPutIl (m:=vT l) (c:=(rRow st).1.1) (v:=.agg (cAn (rRow st).1.2).toArray) 6 127 rfl (by kernel_rfl) rfl ha won0 Tryz.runUnderlying105 hs rfl pk3 rfl rfl ?_;intro w hs;rw [vT_put] at hs;have hs:=hs.unpick (show Pick (.blk b8 43 (cAn (rRow st).1.2)::.rdr br 129 (rRow st).2::.blk bt 107 [.map (some bm)]::.mpI bm (vT (putT (rRow st).1.1 (rRow st).1.2 l))::.rd kU8 (.slice A n c) bs::cs) _ _ from .there (.there (.there .here)));refine dZ (by kernel_rfl) ?_;refine hK37 _ _ ?_;refine wp_seq_k fun K38 hK38=>?_;refine wp_goto ?_
        repeat (with_reducible first | refine gThen ?_ | refine gBlock ?_)
        refine gxL ?_;refine ⟨(k,(rRow st).2,putT (rRow st).1.1 (rRow st).1.2 l,(rRow st).1.2,bt,br,b8,bm),⟨by simp only; omega,hg2,hok2,has5 ha rfl rfl rfl rfl rfl,hs⟩,by simp only; omega⟩
end
end Go.Proofs.YtldgdjilchnceaaGreatDoor

set_option linter.unusedVariables false
set_option linter.unusedSimpArgs false
namespace Go.Proofs.YtldgdjilchnceaaGreatDoor
open Go.RowKit Go.Lib Go.Proofs.YtldgdjilchnceaaGreatDoorW.PrintLast
def kSnp : Kd Snp where
  sz:=4
  R:=fun Z x cs=>∃ A n c A' n' c' B m d,cs = [.int .i64 x.rev,.slice A n c,.slice A' n' c',.slice B m d]∧kNod.sl Z (.slice A n c) x.nodes∧kCmt.sl Z (.slice A' n' c') x.commits∧kU8.sl Z (.slice B m d) x.table
  mono:=fun h ⟨A,n,c,A',n',c',B,m,d,e,h1,h2,h3⟩=>⟨A,n,c,A',n',c',B,m,d,e,Kd.sl_mono kNod h h1,Kd.sl_mono kCmt h h2,Kd.sl_mono kU8 h h3⟩
  len:=fun ⟨A,n,c,A',n',c',B,m,d,h,_⟩=>by subst h; rfl
  one:=fun ⟨A,n,c,A',n',c',B,m,d,h,_⟩ u hu=>by subst h; simp at hu; rcases hu with rfl | rfl | rfl | rfl <;> rfl
/-- What a writer gives. -/
def outW (st : Wt) : List UInt8:=if st.2 = true then [] else st.1
/-- Numbers of the machine, sizes of a memory. -/
def mS (s : Snp) : Prop:=(∀ x ∈ s.nodes,mN x)∧(∀ c ∈ s.commits,mCm c)∧s.nodes.length≤1000000000∧s.commits.length≤1000000000∧s.table.length≤100000000
theorem okCs_append : ∀ (l : List Cmt) (rev : Int) (m : List Cmt),okCs rev (l++m) = (okCs rev l && okCs (rev + l.length) m)
  | [],rev,m=>by simp [okCs]
  | x::r,rev,m=>by
    simp only [List.cons_append,okCs,okCs_append r (rev + 1) m,List.length_cons,Bool.and_assoc];rw [show rev + 1 + (r.length : Int) = rev + ((r.length + 1 : Nat) : Int) by omega]
theorem okC_b (rev : Int) (x : Cmt) : (!okC rev x) = (decide (x.client < 1) || (decide (x.seq < 1) || ((!decide (x.rev = rev)) || !decide (txnE x.acts = 0)))):=by
  rw [Bool.eq_iff_iff];unfold okC
  simp [or_assoc]
section
variable {W w : World} {cs r r2 : List Ch} {st : Wt} {p : Nat}
theorem WrDoneR_c (hb : st.1.length≤140737488355328) (hs : Sep W w cs) (hk : Pick cs (.wtr p 67 st) r) :
    Calls Tryz.prog 29 #[.pointer (some ⟨p,0,none⟩)] w (Rt fun v w'=>∃ A c,v = .tuple #[.slice A (outW st).length c,.bool (!st.2)]∧Sep W w' (.rd kU8 (.slice A (outW st).length c) (outW st)::r)):=by
  refine (WrDone_c hb hs hk).mono (Rt.mono fun v w' h=>?_);unfold outW
  by_cases hbad : st.2 = true
  · rw [if_pos hbad] at h ⊢;obtain ⟨rfl,h⟩:=h;exact ⟨none,0,by rw [hbad]; rfl,h.drop.rd_nil⟩
  · rw [if_neg hbad] at h ⊢;obtain ⟨A,c,rfl,h⟩:=h;exact ⟨A,c,by rw [Bool.not_eq_true] at hbad; rw [hbad]; rfl,h.ol_rd .here⟩
theorem Sep.el_snp {es : List Value} {x : Snp} (h : Sep W w cs) (hk : Pick cs (.el kSnp x es) r) :
    ∃ A n c A' n' c' B m d,es = [.int .i64 x.rev,.slice A n c,.slice A' n' c',.slice B m d] ∧
      Sep W w (.rd kNod (.slice A n c) x.nodes::.rd kCmt (.slice A' n' c') x.commits::.rd kU8 (.slice B m d) x.table::cs):=by
  obtain ⟨A,n,c,A',n',c',B,m,d,hes⟩ : ∃ A n c A' n' c' B m d,es = [.int .i64 x.rev,.slice A n c,.slice A' n' c',.slice B m d] :=
    h.know hk (fun Z _ ⟨A,n,c,A',n',c',B,m,d,e,_⟩=>⟨A,n,c,A',n',c',B,m,d,e⟩)
  subst hes
  have key : ∀ Z : Hp,kSnp.R Z x [.int .i64 x.rev,.slice A n c,.slice A' n' c',.slice B m d]→kNod.sl Z (.slice A n c) x.nodes∧kCmt.sl Z (.slice A' n' c') x.commits∧kU8.sl Z (.slice B m d) x.table:=fun Z hp=>by
    obtain ⟨A,n,c,A',n',c',B,m,d,e,h1,h2,h3⟩:=hp;simp only [List.cons.injEq,Value.slice.injEq] at e;obtain ⟨_,⟨rfl,rfl,rfl⟩,⟨rfl,rfl,rfl⟩,⟨rfl,rfl,rfl⟩,_⟩:=e;exact ⟨h1,h2,h3⟩
  refine ⟨A,n,c,A',n',c',B,m,d,rfl,?_⟩
  have h1:=h.with_ro (q:=fun Z=>kU8.sl Z (.slice B m d) x.table) (m':=fun _ _ h=>Kd.sl_mono kU8 h) hk fun Z hp=>(key Z hp).2.2
  have h2:=h1.with_ro (q:=fun Z=>kCmt.sl Z (.slice A' n' c') x.commits) (m':=fun _ _ h=>Kd.sl_mono kCmt h) (.there hk) fun Z hp=>(key Z hp).2.1
  exact h2.with_ro (q:=fun Z=>kNod.sl Z (.slice A n c) x.nodes) (m':=fun _ _ h=>Kd.sl_mono kNod h) (.there (.there hk)) fun Z hp=>(key Z hp).1
theorem Sep.mk_snp {A A' B : Option Addr} {n c n' c' m d : Nat} {x : Snp} {r1 r2 r3 : List Ch} (h : Sep W w cs) (h1 : Pick cs (.rd kNod (.slice A n c) x.nodes) r1) (h2 : Pick r1 (.rd kCmt (.slice A' n' c') x.commits) r2) (h3 : Pick r2 (.rd kU8 (.slice B m d) x.table) r3) :
    Sep W w (.el kSnp x [.int .i64 x.rev,.slice A n c,.slice A' n' c',.slice B m d]::r3):=by
  have g1:=h.perm (h1.perm.trans ((h2.perm.trans (h3.perm.cons _)).cons _))
  have g2:=g1.with_ro2 (q:=fun Z=>kNod.sl Z (.slice A n c) x.nodes∧kCmt.sl Z (.slice A' n' c') x.commits) (mq:=fun _ _ h ⟨a,b⟩=>⟨Kd.sl_mono kNod h a,Kd.sl_mono kCmt h b⟩) .here (.there .here) fun Z a b=>⟨a,b⟩
  have g3:=g2.with_ro2 (q:=fun Z=>kSnp.R Z x [.int .i64 x.rev,.slice A n c,.slice A' n' c',.slice B m d]) (mq:=fun _ _ h hp=>kSnp.mono h hp) .here (.there (.there (.there .here))) fun Z a b=>⟨A,n,c,A',n',c',B,m,d,rfl,a.1,a.2,b⟩
  exact g3.drop2.drop2.drop2.drop2
theorem SnCommits_c (hT : Tabs W) {A : Option Addr} {n c : Nat} {xs : List Cmt} (rev : Int) (hr : 0≤rev∧rev≤1099511627776) (hlen : xs.length≤1000000000) (hm : ∀ x ∈ xs,mCm x) (hs : Sep W w cs) (hk : Pick cs (.rd kCmt (.slice A n c) xs) r) :
    Calls Tryz.prog 55 #[.int .i64 rev,.slice A n c] w (Rt fun v w'=>v = .bool (cmtsOk rev xs)∧Sep W w' cs):=by
  obtain ⟨rfl,hl⟩:=hs.rd_shape hk;have hs:=hs.cpR hk;refine enter Tryz.func55 Tryz.ntmps55 rfl rfl fun a (ha : Has a 41 [(0,_),(1,_)])=>?_;refine wp_seq_k fun K1 hK1=>?_;refine wp_region_lit ?_;refine pY ha (yAssign rfl) fun a ha=>?_;refine pZ ?_;refine hK1 _ _ ?_;refine wp_seq_k fun K2 hK2=>?_;refine wp_seq_k fun K3 hK3=>?_;refine wp_region_lit ?_;refine pY ha (yMove rfl) fun a ha=>?_;refine pY ha (yLenS Tryz.runUnderlying23 rfl) fun a ha=>?_;refine pY ha (yMove rfl) fun a ha=>?_;refine pZ ?_;refine hK3 _ _ ?_;refine wp_block ?_;refine loopI (ι:=Nat) (fun i a w=>i≤xs.length∧okCs rev (xs.take i) = true∧Has a 41 [(0,.int .i64 rev),(1,.slice A xs.length c),(7,.slice A xs.length c),(8,.int .i64 xs.length),(9,.int .i64 i)]∧Sep W w (.rd kCmt (.slice A xs.length c) xs::cs)) (fun i=>xs.length - i) (0) ?_ ?_
  · exact ⟨Nat.zero_le _,rfl,has5 ha rfl rfl rfl rfl rfl,hs⟩
  · rintro i a w ⟨h1,h2,ha,hs⟩;refine wp_seq_k fun K4 hK4=>?_;refine wp_region_lit ?_;refine pY ha (yLss rfl rfl) fun a ha=>?_;refine pZ ?_;refine hK4 _ _ ?_;refine wp_seq_k fun K5 hK5=>?_;refine cDec ha rfl (fun hc10=>?_) (fun hc10=>?_)
    · obtain ⟨x,hx⟩ : ∃ x,xs[i]? = some x:=⟨_,List.getElem?_eq_getElem (by omega)⟩
      have htk : ((xs.take i).length : Int) = i:=by rw [List.length_take]; omega
      obtain ⟨m1,m2,m3,m4⟩:=hm x (List.mem_of_getElem? hx);unfold i64 at m1 m2 m3;obtain ⟨b0,off,A',n',c',rfl,hs⟩:=hs.rd_cmt .here hx;refine wp_skip ?_;refine hK5 _ _ ?_;refine wp_seq_k fun K6 hK6=>?_;refine wp_block ?_;refine wp_seq_k fun K7 hK7=>?_;refine wp_region_lit ?_;refine pY ha (yMove rfl) fun a ha=>?_;refine pY ha (yIndexA Tryz.runUnderlying23 Tryz.sizeOf71 rfl rfl (by omega) (by omega)) fun a ha=>?_;refine pY ha (yLoadRA Tryz.isAgg71 Tryz.sizeOf71 hs rfl pk0 rfl) fun a ha=>?_;refine pAlloc (zs:=[.int .i64 0,.int .i64 0,.int .i64 0,.slice none 0 0]) ha Tryz.zeroValue71 rfl hs rfl fun b6 w hs a ha=>?_;refine pY ha (yAssign rfl) fun a ha=>?_;refine pStoreA ha Tryz.sizeOf71 hs rfl rfl pk0 rfl rfl rfl fun w hs=>?_;refine pZ ?_;refine hK7 _ _ ?_;refine wp_seq_k fun K8 hK8=>?_;refine cutC (fun a w=>Has a 41 [(0,.int .i64 rev),(1,.slice (some ⟨b0,off,none⟩) xs.length c),(7,.slice (some ⟨b0,off,none⟩) xs.length c),(8,.int .i64 xs.length),(9,.int .i64 i),(36,.bool (!okC (rev + i + 1) x))]∧Sep W w (.rd kCmt (.slice (some ⟨b0,off,none⟩) xs.length c) xs::cs)) ?_ ?_
      · refine wp_region_lit ?_;refine pY ha (yFieldA Tryz.runUnderlying71 rfl Tryz.sizeOf3 rfl rfl) fun a ha=>?_;refine pY ha (yLoadB Tryz.isAgg3 hs rfl pk0 rfl) fun a ha=>?_;refine pY ha (yLss rfl rfl) fun a ha=>?_;refine pY ha (yMove rfl) fun a ha=>?_;refine gDec (t:=17) ha rfl (fun hg3 hp3=>?_) (fun hg3 hp3=>?_)
        · rw [hg3] at ha;refine gOn ha ?_;refine pY ha (yFieldA Tryz.runUnderlying71 rfl Tryz.sizeOf3 rfl rfl) fun a ha=>?_;refine gOn ha ?_;refine pY ha (yLoadB Tryz.isAgg3 hs rfl pk0 rfl) fun a ha=>?_;refine gOn ha ?_;refine pY ha (yLss rfl rfl) fun a ha=>?_;refine pY ha (yPickF rfl rfl) fun a ha=>?_;refine pY ha (yMove rfl) fun a ha=>?_;refine gSplit (t:=22) ha rfl (fun hg8=>?_) (fun hg8=>?_)
          · rw [hg8] at ha;refine gOn ha ?_;refine pY ha (yFieldA Tryz.runUnderlying71 rfl Tryz.sizeOf3 rfl rfl) fun a ha=>?_;refine gOn ha ?_;refine pY ha (yLoadB Tryz.isAgg3 hs rfl pk0 rfl) fun a ha=>?_;refine gOn ha ?_;refine pY ha (yMove rfl) fun a ha=>?_;refine gOn ha ?_;refine pY ha (yMove rfl) fun a ha=>?_;refine gOn ha ?_;refine pY ha (yAddN rfl rfl ⟨by omega,by omega⟩) fun a ha=>?_;refine gOn ha ?_;refine pY ha (yAddN rfl rfl ⟨by omega,by omega⟩) fun a ha=>?_;refine gOn ha ?_;refine pY ha (yNeq rfl rfl) fun a ha=>?_;refine pY ha (yPickF rfl rfl) fun a ha=>?_;refine pY ha (yMove rfl) fun a ha=>?_;refine gSplit (t:=31) ha rfl (fun hg17=>?_) (fun hg17=>?_)
            · rw [hg17] at ha;refine gOn ha ?_;refine pY ha (yFieldA Tryz.runUnderlying71 rfl Tryz.sizeOf27 rfl rfl) fun a ha=>?_;refine gOn ha ?_;refine pY ha (yLoadB Tryz.isAgg27 hs rfl pk0 rfl) fun a ha=>?_;refine gOn ha ?_;refine pC ha (nCall Tryz.call43 rfl) rfl (TxnCheck_c hT (xs:=x.acts) m4 hs pk2) ?_;rintro v w ⟨rfl,hs⟩ a ha;refine gOn ha ?_;refine pY ha (yNeq rfl rfl) fun a ha=>?_;refine pY ha (yPickF rfl rfl) fun a ha=>?_;refine pZ ⟨rfl,?_⟩;refine ⟨has6 ha rfl rfl rfl rfl rfl ?_,(by exact hs.drop.drop.drop)⟩;refine congrArg (fun b=>some (Value.bool b)) ?_;rw [okC_b]
              (rw [hg3,hg8,hg17] <;> rfl)
            · rw [hg17] at ha;refine gOff ha fun a ha=>?_;refine gOff ha fun a ha=>?_;refine gOff ha fun a ha=>?_;refine gOff ha fun a ha=>?_;refine pY ha (yPickT rfl rfl) fun a ha=>?_;refine pZ ⟨rfl,?_⟩;refine ⟨has6 ha rfl rfl rfl rfl rfl ?_,(by exact hs.drop.drop.drop)⟩;refine congrArg (fun b=>some (Value.bool b)) ?_;rw [okC_b]
              (rw [hg3,hg8,hg17] <;> rfl)
          · rw [hg8] at ha;refine gOff ha fun a ha=>?_;refine gOff ha fun a ha=>?_;refine gOff ha fun a ha=>?_;refine gOff ha fun a ha=>?_;refine gOff ha fun a ha=>?_;refine gOff ha fun a ha=>?_;refine gOff ha fun a ha=>?_;refine pY ha (yPickT rfl rfl) fun a ha=>?_;refine pY ha (yMove rfl) fun a ha=>?_;refine gOff ha fun a ha=>?_;refine gOff ha fun a ha=>?_;refine gOff ha fun a ha=>?_;refine gOff ha fun a ha=>?_;refine pY ha (yPickT rfl rfl) fun a ha=>?_;refine pZ ⟨rfl,?_⟩;refine ⟨has6 ha rfl rfl rfl rfl rfl ?_,(by exact hs.drop.drop.drop)⟩;refine congrArg (fun b=>some (Value.bool b)) ?_;rw [okC_b]
            (rw [hg3,hg8] <;> rfl)
        · rw [hg3] at ha;refine gOff ha fun a ha=>?_;refine gOff ha fun a ha=>?_;refine gOff ha fun a ha=>?_;refine pY ha (yPickT rfl rfl) fun a ha=>?_;refine pY ha (yMove rfl) fun a ha=>?_;refine gOff ha fun a ha=>?_;refine gOff ha fun a ha=>?_;refine gOff ha fun a ha=>?_;refine gOff ha fun a ha=>?_;refine gOff ha fun a ha=>?_;refine gOff ha fun a ha=>?_;refine gOff ha fun a ha=>?_;refine pY ha (yPickT rfl rfl) fun a ha=>?_;refine pY ha (yMove rfl) fun a ha=>?_;refine gOff ha fun a ha=>?_;refine gOff ha fun a ha=>?_;refine gOff ha fun a ha=>?_;refine gOff ha fun a ha=>?_;refine pY ha (yPickT rfl rfl) fun a ha=>?_;refine pZ ⟨rfl,?_⟩;refine ⟨has6 ha rfl rfl rfl rfl rfl ?_,(by exact hs.drop.drop.drop)⟩;refine congrArg (fun b=>some (Value.bool b)) ?_;rw [okC_b]
          (rw [hg3] <;> rfl)
      rintro a w ⟨ha,hs⟩;refine hK8 _ _ ?_;refine cSplit ha rfl (fun hc36=>?_) (fun hc36=>?_)
      · refine wp_seq_k fun K9 hK9=>?_;refine wp_region_lit ?_;refine pY ha (yAssign rfl) fun a ha=>?_;refine pZ ?_;refine hK9 _ _ ?_;refine wp_ret ?_;show bodyPost Tryz.prog Tryz.f55 _ .ret _ _;refine ret1 rfl ha rfl ?_
        have he : okCs rev xs = false:=by
          have hxs : xs = xs.take i++(x::xs.drop (i + 1)):=by
            have hi : i < xs.length:=by omega
            rw [← (List.getElem?_eq_some_iff.1 hx).2,← List.drop_eq_getElem_cons hi,List.take_append_drop]
          rw [hxs,okCs_append,htk]
          have h9 : okC (rev + i + 1) x = false:=by simpa using hc36
          simp [okCs,h9]
        exact ⟨by unfold cmtsOk; rw [he]; rfl,(by exact hs.drop)⟩
      · refine wp_skip ?_;refine hK6 _ _ ?_;refine wp_region_lit ?_;refine pY ha (yAddN rfl rfl ⟨by omega,by omega⟩) fun a ha=>?_;refine pY ha (yMove rfl) fun a ha=>?_;refine pZ ?_;exact ⟨i + 1,⟨by omega,by rw [List.take_add_one,hx,Option.toList_some,okCs_append,h2,htk]; simp only [okCs,Bool.and_true,Bool.true_and]; simpa using hc36,has5 ha rfl rfl rfl rfl rfl,hs⟩,by omega⟩
    · refine wp_exit ?_;refine hK2 _ _ ?_;refine wp_seq_k fun K10 hK10=>?_;refine wp_region_lit ?_;refine pY ha (yMove rfl) fun a ha=>?_;refine pY ha (yLenS Tryz.runUnderlying23 rfl) fun a ha=>?_;refine pY ha (yLeq rfl rfl) fun a ha=>?_;refine pY ha (yAssign rfl) fun a ha=>?_;refine pZ ?_;refine hK10 _ _ ?_;refine wp_ret ?_;show bodyPost Tryz.prog Tryz.f55 _ .ret _ _;refine ret1 rfl ha rfl ?_;obtain rfl : i = xs.length:=by omega
      rw [List.take_length] at h2;refine ⟨?_,hs.drop⟩;unfold cmtsOk;rw [h2];simp only [Bool.true_and];exact congrArg Value.bool (by rw [Bool.eq_iff_iff]; simp; omega)
theorem LoadE_c (hT : Tabs W) {A : Option Addr} {n c : Nat} {xs : List Nod} (hm : ∀ x ∈ xs,mN x) (hlen : xs.length≤1000000000) (hs : Sep W w cs) (hk : Pick cs (.rd kNod (.slice A n c) xs) r) :
    Calls Tryz.prog 56 #[.slice A n c] w (Rt fun v w'=>∃ p,v = .tuple #[.pointer p,.int .i64 (if loadOk xs = true then 0 else 1)]∧Sep W w' cs):=by
  refine (Load_c hT hm hlen hs hk).mono (Rt.mono fun v w' h=>?_)
  by_cases hl : loadOk xs = true
  · rw [if_pos hl] at h ⊢;obtain ⟨b,bm,rfl,h⟩:=h;exact ⟨_,rfl,h.drop.drop⟩
  · rw [if_neg hl] at h ⊢;exact ⟨_,h.1,h.2⟩
theorem SnCheck_c (hT : Tabs W) {es : List Value} {x : Snp} (hm : mS x) (hs : Sep W w cs) (hk : Pick cs (.el kSnp x es) r) :
    Calls Tryz.prog 23 #[.agg es.toArray] w (Rt fun v w'=>v = .int .i64 (snpE x)∧Sep W w' cs):=by
  obtain ⟨m1,m2,m3,m4,m5⟩:=hm;obtain ⟨A,n,c,A',n',c',B,m,d,rfl,hs⟩:=hs.el_snp hk
  have hsh:=hs.rd_shape (.there (.there .here))
  obtain ⟨rfl,_⟩:=hsh;refine enter Tryz.func23 Tryz.ntmps23 rfl rfl fun a (ha : Has a 34 [(0,_)])=>?_;refine wp_seq_k fun K1 hK1=>?_;refine wp_region_lit ?_;refine pBox (es:=_) ha rfl rfl hs rfl fun b1 w hs a ha=>?_;refine pY ha (yAssign rfl) fun a ha=>?_;refine pZ ?_;refine hK1 _ _ ?_;refine scopeF 1 99999 ?_;refine wp_seq_k fun K2 hK2=>?_;refine wp_seq_k fun K3 hK3=>?_;refine cutC (fun a w=>Has a 34 [(1,.pointer (some ⟨b1,0,none⟩)),(2,.int .i64 0),(16,.bool (decide (fits x.rev = false∨cmtsOk x.rev x.commits = false)))]∧Sep W w (.blk b1 34 [.int .i64 x.rev,.slice A n c,.slice A' n' c',.slice B x.table.length d]::.rd kNod (.slice A n c) x.nodes::.rd kCmt (.slice A' n' c') x.commits::.rd kU8 (.slice B x.table.length d) x.table::cs)) ?_ ?_
  · refine wp_region_lit ?_;refine pY ha (yFieldA Tryz.runUnderlying34 rfl Tryz.sizeOf3 rfl rfl) fun a ha=>?_;refine pY ha (yLoadB Tryz.isAgg3 hs rfl pk0 rfl) fun a ha=>?_;refine pC ha (nCall Tryz.call54 rfl) rfl (Fits_c x.rev hs) ?_;rintro v w ⟨rfl,hs⟩ a ha;refine pY ha (yNot rfl) fun a ha=>?_;refine pY ha (yMove rfl) fun a ha=>?_;refine gSplit (t:=9) ha rfl (fun hg4=>?_) (fun hg4=>?_)
    · rw [hg4] at ha
      have hfit : fits x.rev = true:=by simpa using hg4
      have hrv : 0≤x.rev∧x.rev≤1099511627776:=by simpa [fits] using hfit
      refine gOn ha ?_;refine pY ha (yFieldA Tryz.runUnderlying34 rfl Tryz.sizeOf3 rfl rfl) fun a ha=>?_;refine gOn ha ?_;refine pY ha (yLoadB Tryz.isAgg3 hs rfl pk0 rfl) fun a ha=>?_;refine gOn ha ?_;refine pY ha (yFieldA Tryz.runUnderlying34 rfl Tryz.sizeOf23 rfl rfl) fun a ha=>?_;refine gOn ha ?_;refine pY ha (yLoadB Tryz.isAgg23 hs rfl pk0 rfl) fun a ha=>?_;refine gOn ha ?_;refine pC ha (nCall Tryz.call55 rfl) rfl (SnCommits_c hT x.rev hrv m4 m2 hs pk2) ?_;rintro v w ⟨rfl,hs⟩ a ha;refine gOn ha ?_;refine pY ha (yNot rfl) fun a ha=>?_;refine pY ha (yPickF rfl rfl) fun a ha=>?_;refine pZ ⟨rfl,?_⟩;refine ⟨has3 ha rfl rfl ?_,hs⟩;refine congrArg (fun b=>some (Value.bool b)) ?_
      (rw [Bool.eq_iff_iff]; simp [hfit]; done)
    · rw [hg4] at ha;refine gOff ha fun a ha=>?_;refine gOff ha fun a ha=>?_;refine gOff ha fun a ha=>?_;refine gOff ha fun a ha=>?_;refine gOff ha fun a ha=>?_;refine gOff ha fun a ha=>?_;refine pY ha (yPickT rfl rfl) fun a ha=>?_;refine pZ ⟨rfl,?_⟩;refine ⟨has3 ha rfl rfl ?_,hs⟩;refine congrArg (fun b=>some (Value.bool b)) ?_
      (rw [Bool.eq_iff_iff]; simp at hg4; simp [hg4]; done)
  rintro a w ⟨ha,hs⟩;refine hK3 _ _ ?_;refine cDec ha rfl (fun hc16=>?_) (fun hc16=>?_)
  · refine wp_seq_k fun K4 hK4=>?_;refine wp_region_lit ?_;refine pY ha (yAssign rfl) fun a ha=>?_;refine pZ ?_;refine hK4 _ _ ?_;refine wp_goto ?_
    repeat (with_reducible first | refine gThen ?_ | refine gBlock ?_)
    refine gxF rfl rfl ?_;refine wp_seq_k fun K5 hK5=>?_;refine wp_skip ?_;refine hK5 _ _ ?_;refine wp_seq_k fun K6 hK6=>?_;refine wp_region_lit ?_;refine pY ha (yMove rfl) fun a ha=>?_;refine pY ha (yAssign rfl) fun a ha=>?_;refine pZ ?_;refine hK6 _ _ ?_;refine wp_ret ?_;show bodyPost Tryz.prog Tryz.f23 _ .ret _ _;refine ret1 rfl ha rfl ?_;refine ⟨congrArg (Value.int .i64) ?_,(by exact hs.drop.drop.drop.drop)⟩;unfold snpE
    (rw [if_pos hc16]; done)
  · refine wp_skip ?_;refine hK2 _ _ ?_;refine wp_seq_k fun K7 hK7=>?_;refine wp_seq_k fun K8 hK8=>?_;refine wp_region_lit ?_;refine pY ha (yFieldA Tryz.runUnderlying34 rfl Tryz.sizeOf22 rfl rfl) fun a ha=>?_;refine pY ha (yLoadB Tryz.isAgg22 hs rfl pk0 rfl) fun a ha=>?_;refine pC ha (nCall Tryz.call56 rfl) rfl (LoadE_c hT m1 m3 hs pk1) ?_;rintro v w ⟨p1,rfl,hs⟩ a ha;refine pY ha (yMove rfl) fun a ha=>?_;refine pY ha (yExtract rfl rfl) fun a ha=>?_;refine pY ha (yExtract rfl rfl) fun a ha=>?_;refine pY ha (yAssign rfl) fun a ha=>?_;refine pZ ?_;refine hK8 _ _ ?_;refine wp_seq_k fun K9 hK9=>?_;refine wp_region_lit ?_;refine pY ha (yMove rfl) fun a ha=>?_;refine pY ha (yNeq rfl rfl) fun a ha=>?_;refine pZ ?_;refine hK9 _ _ ?_;refine cNDec ha rfl (fun hc24=>?_) (fun hc24=>?_)
    · have hld : loadOk x.nodes = false:=by cases h : loadOk x.nodes <;> simp [h] at hc24 ⊢
      refine wp_goto ?_
      repeat (with_reducible first | refine gThen ?_ | refine gBlock ?_)
      refine gxF rfl rfl ?_;refine wp_seq_k fun K10 hK10=>?_;refine wp_skip ?_;refine hK10 _ _ ?_;refine wp_seq_k fun K11 hK11=>?_;refine wp_region_lit ?_;refine pY ha (yMove rfl) fun a ha=>?_;refine pY ha (yAssign rfl) fun a ha=>?_;refine pZ ?_;refine hK11 _ _ ?_;refine wp_ret ?_;show bodyPost Tryz.prog Tryz.f23 _ .ret _ _;refine ret1 rfl ha rfl ?_;refine ⟨congrArg (Value.int .i64) ?_,(by exact hs.drop.drop.drop.drop)⟩;unfold snpE
      (rw [if_neg hc16,hld]; rfl)
    · have hld : loadOk x.nodes = true:=by cases h : loadOk x.nodes <;> simp [h] at hc24 ⊢
      refine wp_skip ?_;refine hK7 _ _ ?_;refine wp_seq_k fun K12 hK12=>?_;refine wp_seq_k fun K13 hK13=>?_;refine wp_region_lit ?_;refine pY ha (yFieldA Tryz.runUnderlying34 rfl Tryz.sizeOf24 rfl rfl) fun a ha=>?_;refine pY ha (yLoadB Tryz.isAgg24 hs rfl pk0 rfl) fun a ha=>?_;refine pC ha (nCall Tryz.call57 rfl) rfl (TDecode_c (bs:=x.table) (by omega) hs pk3) ?_;rintro v w ⟨p2,rfl,hs⟩ a ha;refine pY ha (yMove rfl) fun a ha=>?_;refine pY ha (yExtract rfl rfl) fun a ha=>?_;refine pY ha (yExtract rfl rfl) fun a ha=>?_;refine pY ha (yAssign rfl) fun a ha=>?_;refine pY ha (yAssign rfl) fun a ha=>?_;refine pZ ?_;refine hK13 _ _ ?_;refine wp_seq_k fun K14 hK14=>?_;refine wp_region_lit ?_;refine pY ha (yMove rfl) fun a ha=>?_;refine pY ha (yNeq rfl rfl) fun a ha=>?_;refine pZ ?_;refine hK14 _ _ ?_;refine cNDec ha rfl (fun hc32=>?_) (fun hc32=>?_)
      · refine wp_region_lit ?_;refine pY ha (yAssign rfl) fun a ha=>?_;refine pZ ?_;refine hK12 _ _ ?_;refine wp_seq_k fun K15 hK15=>?_;refine wp_label ?_;refine hK15 _ _ ?_;refine wp_seq_k fun K16 hK16=>?_;refine wp_region_lit ?_;refine pY ha (yMove rfl) fun a ha=>?_;refine pY ha (yAssign rfl) fun a ha=>?_;refine pZ ?_;refine hK16 _ _ ?_;refine wp_ret ?_;show bodyPost Tryz.prog Tryz.f23 _ .ret _ _;refine ret1 rfl ha rfl ?_;refine ⟨congrArg (Value.int .i64) ?_,(by exact hs.drop.drop.drop.drop)⟩;unfold snpE
        (rw [if_neg hc16]; simp [hld,hc32]; done)
      · refine wp_skip ?_;refine hK12 _ _ ?_;refine wp_seq_k fun K17 hK17=>?_;refine wp_label ?_;refine hK17 _ _ ?_;refine wp_seq_k fun K18 hK18=>?_;refine wp_region_lit ?_;refine pY ha (yMove rfl) fun a ha=>?_;refine pY ha (yAssign rfl) fun a ha=>?_;refine pZ ?_;refine hK18 _ _ ?_;refine wp_ret ?_;show bodyPost Tryz.prog Tryz.f23 _ .ret _ _;refine ret1 rfl ha rfl ?_;refine ⟨congrArg (Value.int .i64) ?_,(by exact hs.drop.drop.drop.drop)⟩;unfold snpE
        (rw [if_neg hc16]; simp [hld,hc32]; done)
theorem wTri_le (st : Wt) (x : Cmt) : st.1.length≤(wTri st x).1.length:=by
  have h1:=wNum_le st x.client; have h2:=wNum_le (wNum st x.client) x.seq; have h3:=wActns_le (wNum (wNum st x.client) x.seq) x.acts
  unfold wTri; omega
theorem encS_out {x : Snp} (h : snpE x = 0) : encS x = (outW (wSnp x),if (wSnp x).2 = true then 1 else 0):=by
  unfold encS outW;rw [if_neg (by simpa using h)]
  split <;> rfl
theorem SEncode_c (hT : Tabs W) {es : List Value} {x : Snp} (hm : mS x) (hb : (wSnp x).1.length≤8796093022208) (hs : Sep W w cs) (hk : Pick cs (.el kSnp x es) r) :
    Calls Tryz.prog 7 #[.agg es.toArray] w (Rt fun v w'=>∃ A c,v = .tuple #[.slice A (encS x).1.length c,.int .i64 (encS x).2]∧Sep W w' (.rd kU8 (.slice A (encS x).1.length c) (encS x).1::cs)):=by
  have hm0:=hm
  obtain ⟨m1,m2,m3,m4,m5⟩:=hm;obtain ⟨A,n,c,A',n',c',B,m,d,rfl,hs⟩:=hs.el_snp hk;obtain ⟨rfl,_⟩:=hs.rd_shape (.there .here)
  have q1:=wNum_le ([],false) x.rev
  have q2:=wNods_le (wNum ([],false) x.rev) x.nodes
  have q3:=wNum_le (wNods (wNum ([],false) x.rev) x.nodes) x.commits.length
  have q4 : (wNum (wNods (wNum ([],false) x.rev) x.nodes) x.commits.length).1.length≤(wSnp0 x).1.length:=fold_le wTri_le x.commits _
  have q5:=(wText_le (wSnp0 x) (hexS x.table)).1
  have q6 : (wText (wSnp0 x) (hexS x.table)).1.length≤8796093022208:=hb
  have hz : (hexS x.table).size = 2 * x.table.length:=by unfold hexS; rw [size_mk,hex_len]
  refine enter Tryz.func7 Tryz.ntmps7 rfl rfl fun a (ha : Has a 56 [(0,_)])=>?_;refine wp_seq_k fun K1 hK1=>?_;refine wp_region_lit ?_;refine pBox (es:=_) ha rfl rfl hs rfl fun b1 w hs a ha=>?_;refine pY ha (yAssign rfl) fun a ha=>?_;refine pY ha (yAssign rfl) fun a ha=>?_;refine pZ ?_;refine hK1 _ _ ?_;refine wp_seq_k fun K2 hK2=>?_;refine wp_seq_k fun K3 hK3=>?_;refine wp_region_lit ?_;refine pY ha (yLoadBA Tryz.isAgg34 Tryz.sizeOf34 hs rfl pk0 rfl) fun a ha=>?_;refine pC ha (nCall Tryz.call23 rfl) rfl (SnCheck_c hT hm0 hs (.there (.there (.there (.there hk))))) ?_;rintro v w ⟨rfl,hs⟩ a ha;refine pY ha (yAssign rfl) fun a ha=>?_;refine pZ ?_;refine hK3 _ _ ?_;refine wp_seq_k fun K4 hK4=>?_;refine wp_region_lit ?_;refine pY ha (yMove rfl) fun a ha=>?_;refine pY ha (yNeq rfl rfl) fun a ha=>?_;refine pZ ?_;refine hK4 _ _ ?_;refine cNDec ha rfl (fun hc13=>?_) (fun hc13=>?_)
  · refine wp_seq_k fun K5 hK5=>?_;refine wp_region_lit ?_;refine pY ha (yMove rfl) fun a ha=>?_;refine pY ha (yAssign rfl) fun a ha=>?_;refine pY ha (yAssign rfl) fun a ha=>?_;refine pZ ?_;refine hK5 _ _ ?_;refine wp_ret ?_;show bodyPost Tryz.prog Tryz.f7 _ .ret _ _;refine ret2 rfl ha rfl rfl ?_;rw [show encS x = ([],snpE x) by unfold encS; rw [if_pos hc13]]; exact ⟨none,0,rfl,(show Sep W w cs from (by exact hs.drop.drop.drop.drop)).rd_nil⟩
  · refine wp_skip ?_;refine hK2 _ _ ?_;refine wp_seq_k fun K6 hK6=>?_;refine dStart (fun w=>∃ rs,Sep W w (.blk b1 34 [.int .i64 x.rev,.slice A n c,.slice A' x.commits.length c',.slice B m d]::rs)) [10] 4095 1023 (by kernel_rfl) (by kernel_rfl) rfl (⟨_,hs.drew.pick pk0⟩) ?_
    have hs:=Sep.drew hs
    generalize World.drew _ = w at hs ⊢;refine dP 1 2 rfl ha (fun _=>yFieldA Tryz.runUnderlying34 rfl Tryz.sizeOf3 rfl rfl) fun a ha=>?_;refine dT 2 6 rfl ha (fun _ ⟨rs,hs⟩=>yLoadB Tryz.isAgg3 hs rfl pk0 rfl) (⟨_,hs.pick pk0⟩) fun a ha=>?_;refine dP 4 22 rfl ha (fun _=>yFieldA Tryz.runUnderlying34 rfl Tryz.sizeOf22 rfl rfl) fun a ha=>?_;refine dT 5 54 rfl ha (fun _ ⟨rs,hs⟩=>yLoadB Tryz.isAgg22 hs rfl pk0 rfl) (⟨_,hs.pick pk0⟩) fun a ha=>?_;refine dP 7 182 rfl ha (fun _=>yFieldA Tryz.runUnderlying34 rfl Tryz.sizeOf23 rfl rfl) fun a ha=>?_;refine dT 8 438 rfl ha (fun _ ⟨rs,hs⟩=>yLoadB Tryz.isAgg23 hs rfl pk0 rfl) (⟨_,hs.pick pk0⟩) fun a ha=>?_;refine dP 9 950 rfl ha (fun _=>yLenS Tryz.runUnderlying23 rfl) fun a ha=>?_;refine dAlloc (n:=0) 0 951 rfl (by kernel_rfl) rfl (zs:=[.slice none 0 0,.bool false]) ha won0 Tryz.zeroValue67 rfl hs rfl (fun _ _ hs=>⟨_,hs.pick pk1⟩) fun bw w hs a ha=>?_
    have hs:=((hs.ol_nil kU8 5 none).perm (List.Perm.swap _ _ _)).wtr_shut .here .here
    refine dC 3 959 rfl (by kernel_rfl) rfl ha won0 (nCall Tryz.call24 rfl) rfl (WrNum_c (st:=([],false)) x.rev (by omega) hs pk0) ?_;rintro v w ⟨rfl,hs⟩;refine ⟨⟨_,hs.pick pk1⟩,fun a ha=>?_⟩;refine dC 6 1023 rfl (by kernel_rfl) rfl ha won0 (nCall Tryz.call25 rfl) rfl (WrNods_c (st:=wNum ([],false) x.rev) (xs:=x.nodes) hT (by omega) hs pk0 pk1) ?_;rintro v w ⟨rfl,hs⟩;refine ⟨⟨_,hs.pick pk1⟩,fun a ha=>?_⟩;refine dCl 10 2047 rfl (by kernel_rfl) rfl ha won0 (nCall Tryz.call24 rfl) rfl (WrNum_c (st:=wNods (wNum ([],false) x.rev) x.nodes) x.commits.length (by omega) hs pk0) ?_;rintro v w ⟨rfl,hs⟩ a ha;refine dP 11 4095 rfl ha (fun _=>yAssign rfl) fun a ha=>?_;refine dZ (by kernel_rfl) ?_;refine hK6 _ _ ?_;refine wp_seq_k fun K7 hK7=>?_;refine wp_seq_k fun K8 hK8=>?_;refine wp_region_lit ?_;refine pY ha (yFieldA Tryz.runUnderlying34 rfl Tryz.sizeOf23 rfl rfl) fun a ha=>?_;refine pY ha (yLoadB Tryz.isAgg23 hs rfl pk1 rfl) fun a ha=>?_;refine pY ha (yLenS Tryz.runUnderlying23 rfl) fun a ha=>?_;refine pY ha (yMove rfl) fun a ha=>?_;refine pZ ?_;refine hK8 _ _ ?_;refine wp_block ?_;refine loopI (ι:=Nat) (fun i a w=>i≤x.commits.length∧Has a 56 [(1,.pointer (some ⟨b1,0,none⟩)),(5,.pointer (some ⟨bw,0,none⟩)),(27,.slice A' x.commits.length c'),(28,.int .i64 x.commits.length),(29,.int .i64 i)]∧Sep W w (.wtr bw 67 ((x.commits.take i).foldl wTri (wNum (wNods (wNum ([],false) x.rev) x.nodes) x.commits.length))::.blk b1 34 [.int .i64 x.rev,.slice A n c,.slice A' x.commits.length c',.slice B m d]::.rd kNod (.slice A n c) x.nodes::.rd kCmt (.slice A' x.commits.length c') x.commits::.rd kU8 (.slice B m d) x.table::cs)) (fun i=>x.commits.length - i) (0) ?_ ?_
    · exact ⟨Nat.zero_le _,has5 ha rfl rfl rfl rfl rfl,hs⟩
    · rintro i a w ⟨h1,ha,hs⟩;refine wp_seq_k fun K9 hK9=>?_;refine wp_region_lit ?_;refine pY ha (yLss rfl rfl) fun a ha=>?_;refine pZ ?_;refine hK9 _ _ ?_;refine wp_seq_k fun K10 hK10=>?_;refine cDec ha rfl (fun hc30=>?_) (fun hc30=>?_)
      · obtain ⟨y,hy⟩ : ∃ y,x.commits[i]? = some y:=⟨_,List.getElem?_eq_getElem (by omega)⟩;obtain ⟨hf1,hf2⟩:=fold_at (f:=wTri) wTri_le (s0:=wNum (wNods (wNum ([],false) x.rev) x.nodes) x.commits.length) hy
        have hf0 : (x.commits.foldl wTri (wNum (wNods (wNum ([],false) x.rev) x.nodes) x.commits.length)).1.length≤8796093022208:=Nat.le_trans q5 hb
        generalize (x.commits.take i).foldl wTri (wNum (wNods (wNum ([],false) x.rev) x.nodes) x.commits.length) = s0 at hs hf1 hf2;obtain ⟨b0,off,D,e,f,rfl,hs⟩:=hs.rd_cmt (.there (.there (.there .here))) hy
        have p1:=wNum_le s0 y.client
        have p2:=wNum_le (wNum s0 y.client) y.seq
        have p3:=wActns_le (wNum (wNum s0 y.client) y.seq) y.acts
        have hf3 : (wActns (wNum (wNum s0 y.client) y.seq) y.acts).1.length≤8796093022208:=Nat.le_trans hf2 hf0
        refine wp_skip ?_;refine hK10 _ _ ?_;refine wp_seq_k fun K11 hK11=>?_;refine wp_block ?_;refine wp_seq_k fun K12 hK12=>?_;refine wp_region_lit ?_;refine pY ha (yIndexA Tryz.runUnderlying23 Tryz.sizeOf71 rfl rfl (by omega) (by omega)) fun a ha=>?_;refine pY ha (yLoadRA Tryz.isAgg71 Tryz.sizeOf71 hs rfl pk0 rfl) fun a ha=>?_;refine pAlloc (zs:=[.int .i64 0,.int .i64 0,.int .i64 0,.slice none 0 0]) ha Tryz.zeroValue71 rfl hs rfl fun b7 w hs a ha=>?_;refine pStoreA ha Tryz.sizeOf71 hs rfl rfl pk0 rfl rfl rfl fun w hs=>?_;refine pZ ?_;refine hK12 _ _ ?_;refine dStart (fun w=>∃ rs,Sep W w (.blk b7 71 [.int .i64 y.rev,.int .i64 y.client,.int .i64 y.seq,.slice D e f]::rs)) [9] 1023 511 (by kernel_rfl) (by kernel_rfl) rfl (⟨_,hs.drew.pick pk0⟩) ?_
        have hs:=Sep.drew hs
        generalize World.drew _ = w at hs ⊢;refine dP 0 1 rfl ha (fun _=>yMove rfl) fun a ha=>?_;refine dP 1 3 rfl ha (fun _=>yFieldA Tryz.runUnderlying71 rfl Tryz.sizeOf3 rfl rfl) fun a ha=>?_;refine dT 2 7 rfl ha (fun _ ⟨rs,hs⟩=>yLoadB Tryz.isAgg3 hs rfl pk0 rfl) (⟨_,hs.pick pk0⟩) fun a ha=>?_;refine dP 4 23 rfl ha (fun _=>yFieldA Tryz.runUnderlying71 rfl Tryz.sizeOf3 rfl rfl) fun a ha=>?_;refine dT 5 55 rfl ha (fun _ ⟨rs,hs⟩=>yLoadB Tryz.isAgg3 hs rfl pk0 rfl) (⟨_,hs.pick pk0⟩) fun a ha=>?_;refine dP 7 183 rfl ha (fun _=>yFieldA Tryz.runUnderlying71 rfl Tryz.sizeOf27 rfl rfl) fun a ha=>?_;refine dT 8 439 rfl ha (fun _ ⟨rs,hs⟩=>yLoadB Tryz.isAgg27 hs rfl pk0 rfl) (⟨_,hs.pick pk0⟩) fun a ha=>?_;refine dC 3 447 rfl (by kernel_rfl) rfl ha won0 (nCall Tryz.call24 rfl) rfl (WrNum_c (st:=s0) y.client (by omega) hs pk3) ?_;rintro v w ⟨rfl,hs⟩;refine ⟨⟨_,hs.pick pk1⟩,fun a ha=>?_⟩;refine dC 6 511 rfl (by kernel_rfl) rfl ha won0 (nCall Tryz.call24 rfl) rfl (WrNum_c (st:=wNum s0 y.client) y.seq (by omega) hs pk0) ?_;rintro v w ⟨rfl,hs⟩;refine ⟨⟨_,hs.pick pk1⟩,fun a ha=>?_⟩;refine dCl 9 1023 rfl (by kernel_rfl) rfl ha won0 (nCall Tryz.call26 rfl) rfl (WrActns_c (st:=wNum (wNum s0 y.client) y.seq) (xs:=y.acts) hT hf3 hs pk0 pk2) ?_;rintro v w ⟨rfl,hs⟩ a ha;refine dZ (by kernel_rfl) ?_;refine hK11 _ _ ?_;refine wp_region_lit ?_;refine pY ha (yAddN rfl rfl ⟨by omega,by omega⟩) fun a ha=>?_;refine pY ha (yMove rfl) fun a ha=>?_;refine pZ ?_;refine ⟨i + 1,⟨by omega,has5 ha rfl rfl rfl rfl rfl,?_⟩,by omega⟩;rw [hf1];exact hs.drop2.drop2.drop2
      · refine wp_exit ?_;refine hK7 _ _ ?_;refine wp_seq_k fun K13 hK13=>?_;rw [List.take_of_length_le (by omega)] at hs;refine wp_region_lit ?_;refine pY ha (yMove rfl) fun a ha=>?_;refine pY ha (yFieldA Tryz.runUnderlying34 rfl Tryz.sizeOf24 rfl rfl) fun a ha=>?_;refine pY ha (yLoadB Tryz.isAgg24 hs rfl pk1 rfl) fun a ha=>?_;refine pC ha (nCall Tryz.call28 rfl) rfl (Hex_c m5 hs pk4) ?_;rintro v w ⟨rfl,hs⟩ a ha;refine pC ha (nCall Tryz.call27 rfl) rfl (WrText_c (st:=wSnp0 x) hT (hexS x.table) (by omega) (by omega) hs pk0) ?_;rintro v w ⟨rfl,hs⟩ a ha;refine pC ha (nCall Tryz.call29 rfl) rfl (WrDoneR_c (st:=wSnp x) (by omega) hs pk0) ?_;rintro v w ⟨Q,q,rfl,hs⟩ a ha;refine pY ha (yMove rfl) fun a ha=>?_;refine pY ha (yExtract rfl rfl) fun a ha=>?_;refine pY ha (yExtract rfl rfl) fun a ha=>?_;refine pY ha (yAssign rfl) fun a ha=>?_;refine pY ha (yAssign rfl) fun a ha=>?_;refine pZ ?_;refine hK13 _ _ ?_;refine wp_seq_k fun K14 hK14=>?_;refine wp_seq_k fun K15 hK15=>?_;refine wp_region_lit ?_;refine pY ha (yMove rfl) fun a ha=>?_;refine pY ha (yNot rfl) fun a ha=>?_;refine pZ ?_;refine hK15 _ _ ?_;refine cSplit ha rfl (fun hc54=>?_) (fun hc54=>?_)
        · refine wp_seq_k fun K16 hK16=>?_;refine wp_region_lit ?_;refine pY ha (yAssign rfl) fun a ha=>?_;refine pY ha (yAssign rfl) fun a ha=>?_;refine pZ ?_;refine hK16 _ _ ?_;refine wp_ret ?_;show bodyPost Tryz.prog Tryz.f7 _ .ret _ _;refine ret2 rfl ha rfl rfl ?_
          have hbad : (wSnp x).2 = true:=by simpa using hc54
          rw [encS_out (by simpa using hc13)]
          have ho : outW (wSnp x) = []:=by unfold outW; rw [if_pos hbad]
          rw [if_pos hbad,ho]; exact ⟨none,0,rfl,(show Sep W w cs from (by exact hs.drop.drop.drop.drop.drop)).rd_nil⟩
        · refine wp_skip ?_;refine hK14 _ _ ?_;refine wp_seq_k fun K17 hK17=>?_;refine wp_region_lit ?_;refine pY ha (yMove rfl) fun a ha=>?_;refine pY ha (yAssign rfl) fun a ha=>?_;refine pY ha (yAssign rfl) fun a ha=>?_;refine pZ ?_;refine hK17 _ _ ?_;refine wp_ret ?_;show bodyPost Tryz.prog Tryz.f7 _ .ret _ _;refine ret2 rfl ha rfl rfl ?_
          have hbad : (wSnp x).2 = false:=by simpa using hc54
          rw [encS_out (by simpa using hc13),if_neg (by rw [hbad]; decide)];exact ⟨Q,q,rfl,hs.drop2.drop2.drop2.drop2⟩
end
end Go.Proofs.YtldgdjilchnceaaGreatDoor

