/- A part of the proof of WireTexts (part 3 of 4): the words and the walks. -/
import Derived.Test.YtnlhbkaieoogfaaGreatDoorKTxtB
import Derived.Laws.IdiomStrings
import Derived.Laws.AppendOwn
set_option linter.unusedVariables false
set_option linter.unusedSimpArgs false
namespace Go.Proofs.YtnlhbkaieoogfaaGreatDoor
open Go.RowKit Go.Lib
section
variable {P : Program} {W w w' : World} {N dd : Nat} {a : Act} {ops : Array Oper} {Q : Exit→Act→World→Prop} {rest : List Oper} {ps : String} {af : Array Edge} {l : List (Nat × Value)} {T U U' E : TypeId} {cs r : List Ch} {x y : Operand} {s : ByteArray}
/-- A text as bytes of one's own, for reading. -/
theorem pStrBytes (ha : Has a N l) (hs' : P.underlying U = some .string) (hd' : P.underlying U' = some (.slice E)) (he : P.underlying E = some (.int .u8)) (hs : Sep W w cs) (hx : ev l x = some (.string s)) (hsz : s.size≤1000000000) (hd : Nat.blt dd N = true)
    (h : ∀ A c w,Sep W w (.rd kU8 (.slice A s.data.toList.length c) s.data.toList::cs)→∀ a,Has a N ((dd,.slice A s.data.toList.length c)::l)→wpList P ops Q rest a w) : wpList P ops Q (⟨some dd,.convert U U' x,T,ps,af,none⟩::rest) a w:=by
  have hr:=run_bytes_of_string (P:=P) w U U' E s hs' hd' he
  have hc1:=grownCap_ge w s.size 0 E
  have hc2:=grownCap_le_maxLen w s.size 0 E (by unfold maxLen; omega)
  generalize hC : grownCap w s.size 0 E = C at hr hc1 hc2
  have hlen : s.data.toList.length = s.size:=by simp
  refine pE ha (v:=.slice (some ⟨w.heap.size,0,none⟩) s.data.toList.length C) (w':=w.drew.alloc (.cells (bytesRow s C) E ((bytesRow s C).size,(bytesRow s C).size + 1))) (fun ρ o hE ho hT=>?_) hd fun a ha=>h _ _ _ ?_ a ha
  · unfold execOp; rw [ho]
    simp [hE _ _ hx,hr,hlen]
  · have h2:=hs.drew.alloc (.cells (bytesRow s C) E ((bytesRow s C).size,(bytesRow s C).size + 1))
    refine h2.shut fun Z H hd hc=>?_;refine ⟨_,C,rfl,by omega,hc2,fun _=>⟨w.heap.size,0,_,_,_,rfl,Hp.le_un_right hd _ _ hc,fun i x hx=>⟨_,rfl,fun j u hj=>?_⟩⟩⟩
    have hi:=(List.getElem?_eq_some_iff.1 hx).1
    match j,hj with
    | 0,hj=>
      simp at hj
      subst hj
      have hi2 : i < s.size:=by omega
      have hx2 : s.data[i]? = some x:=by simpa using hx
      have hi3 : i < s.data.size:=hi2
      simp [bytesRow,kU8,Array.getElem?_append,hi3,hx2]
      intro hh; omega
    | j + 1,hj=>simp at hj
end
section
variable {W w : World} {cs r : List Ch}
theorem all_at {l : List UInt8} {i : Nat} {b : UInt8} (h : (l.take i).all letter = true) (hb : l[i]? = some b) (hl : letter b = true) : (l.take (i + 1)).all letter = true:=by
  rw [List.take_add_one,hb]; simp only [Option.toList,List.all_append,h,List.all_cons,hl,List.all_nil,Bool.and_self]
theorem all_no {l : List UInt8} {i : Nat} {b : UInt8} (hb : l[i]? = some b) (hl : letter b = false) : l.all letter = false:=by
  cases h : l.all letter with
  | false=>rfl
  | true=>
    rw [List.all_eq_true] at h;rw [h b (List.mem_of_getElem? hb)] at hl
    cases hl
theorem Name_c (s : ByteArray) (hsz : s.size≤1000000000) (hs : Sep W w cs) : Calls P 106 #[.string s] w (Rt fun v w'=>v = .bool (nameOk s)∧Sep W w' cs):=by
  have hlen : s.data.toList.length = s.size:=by simp
  refine enter Tryz.func106 Tryz.ntmps106 rfl rfl fun a (ha : Has a 32 [(0,_)])=>?_;refine wp_seq_k fun K1 hK1=>?_;refine wp_region_lit ?_;refine pY ha (yAssign rfl) fun a ha=>?_;refine pZ ?_;refine hK1 _ _ ?_;refine wp_seq_k fun K2 hK2=>?_;refine wp_seq_k fun K3 hK3=>?_;refine wp_region_lit ?_;refine pY ha (yMove rfl) fun a ha=>?_;refine pStrBytes ha Tryz.underlying9 Tryz.underlying27 Tryz.underlying5 hs rfl (by omega) rfl ?_;intro A c w hs a ha;refine pY ha (yLenS Tryz.runUnderlying27 rfl) fun a ha=>?_;refine pY ha (yMove rfl) fun a ha=>?_;refine pZ ?_;refine hK3 _ _ ?_;refine wp_block ?_;refine loopI (ι:=Nat) (fun i a w=>i≤s.size∧(s.data.toList.take i).all letter = true∧Has a 32 [(0,.string s),(6,.slice A s.data.toList.length c),(7,.int .i64 s.data.toList.length),(8,.int .i64 i)]∧Sep W w (.rd kU8 (.slice A s.data.toList.length c) s.data.toList::cs)) (fun i=>s.size - i) (0) ?_ ?_
  · exact ⟨Nat.zero_le _,rfl,has4 ha rfl rfl rfl rfl,hs⟩
  · rintro i a w ⟨h1,h2,ha,hs⟩;refine wp_seq_k fun K4 hK4=>?_;refine wp_region_lit ?_;refine pY ha (yLss rfl rfl) fun a ha=>?_;refine pZ ?_;refine hK4 _ _ ?_;refine wp_seq_k fun K5 hK5=>?_;refine cDec ha rfl (fun hc9=>?_) (fun hc9=>?_)
    · obtain ⟨x,hx⟩ : ∃ x,s.data.toList[i]? = some x:=⟨_,List.getElem?_eq_getElem (by omega)⟩;obtain ⟨b0,off,rfl,hs⟩:=hs.rd_byte .here hx;refine wp_skip ?_;refine hK5 _ _ ?_;refine wp_seq_k fun K6 hK6=>?_;refine wp_block ?_;refine wp_seq_k fun K7 hK7=>?_;refine wp_region_lit ?_;refine pY ha (yIndexA Tryz.runUnderlying27 Tryz.sizeOf5 rfl rfl (by omega) (by omega)) fun a ha=>?_;refine pY ha (yLoadR0 Tryz.isAgg5 hs rfl pk0 rfl) fun a ha=>?_;refine pY ha (yAssign rfl) fun a ha=>?_;refine pZ ?_;refine hK7 _ _ ?_;refine wp_seq_k fun K8 hK8=>?_;refine wp_region_lit ?_;refine pY ha (yMove rfl) fun a ha=>?_;refine pC ha (nCall Tryz.call121 rfl) rfl (Letter_c x hs) ?_;rintro v w ⟨rfl,hs⟩ a ha;refine pY ha (yNot rfl) fun a ha=>?_;refine pZ ?_;refine hK8 _ _ ?_;refine cSplit ha rfl (fun hc14=>?_) (fun hc14=>?_)
      · refine wp_seq_k fun K9 hK9=>?_;refine wp_region_lit ?_;refine pY ha (yAssign rfl) fun a ha=>?_;refine pZ ?_;refine hK9 _ _ ?_;refine wp_ret ?_;show bodyPost Tryz.prog Tryz.f106 _ .ret _ _;refine ret1 rfl ha rfl ?_;refine ⟨congrArg Value.bool ?_,hs.drop.drop⟩;unfold nameOk;rw [all_no hx (by simpa using hc14)]; rfl
      · refine wp_skip ?_;refine hK6 _ _ ?_;refine wp_region_lit ?_;refine pY ha (yAddN rfl rfl ⟨by omega,by omega⟩) fun a ha=>?_;refine pY ha (yMove rfl) fun a ha=>?_;refine pZ ?_;exact ⟨i + 1,⟨by omega,all_at h2 hx (by simpa using hc14),has4 ha rfl rfl rfl rfl,hs.drop⟩,by omega⟩
    · refine wp_exit ?_;refine hK2 _ _ ?_;refine wp_seq_k fun K10 hK10=>?_;rw [List.take_of_length_le (by omega)] at h2;refine cutC (fun a w=>Has a 32 [(2,.bool (nameOk s))]∧Sep W w cs) ?_ ?_
      · refine wp_region_lit ?_;refine pY ha (yMove rfl) fun a ha=>?_;refine pY ha (yLenStr Tryz.runUnderlying9 rfl) fun a ha=>?_;refine pY ha (yGeq rfl rfl) fun a ha=>?_;refine pY ha (yMove rfl) fun a ha=>?_;refine gDec (t:=19) ha rfl (fun hg3 hp3=>?_) (fun hg3 hp3=>?_)
        · rw [hg3] at ha;refine gOff ha fun a ha=>?_;refine gOff ha fun a ha=>?_;refine gOff ha fun a ha=>?_;refine pY ha (yPickF rfl rfl) fun a ha=>?_;refine pY ha (yMove rfl) fun a ha=>?_;refine gOff ha fun a ha=>?_;refine gOff ha fun a ha=>?_;refine pY ha (yPickF rfl rfl) fun a ha=>?_;refine pY ha (yMove rfl) fun a ha=>?_;refine gOff ha fun a ha=>?_;refine gOff ha fun a ha=>?_;refine pY ha (yPickF rfl rfl) fun a ha=>?_;refine pY ha (yAssign rfl) fun a ha=>?_;refine pZ ⟨rfl,?_⟩;refine ⟨has1 ha ?_,hs.drop⟩;unfold nameOk;refine congrArg (fun b=>some (Value.bool b)) ?_;rw [Bool.eq_iff_iff];simp only [decide_eq_true_eq,decide_eq_false_iff_not,Bool.and_eq_true,Bool.not_eq_true',h2,Bool.false_eq_true,true_and,true_iff,false_iff,iff_true,iff_false,Bool.not_eq_eq_eq_not,Bool.not_true,Bool.not_false] at *
          omega
        · rw [hg3] at ha;refine gOn ha ?_;refine pY ha (yMove rfl) fun a ha=>?_;refine gOn ha ?_;refine pY ha (yLenStr Tryz.runUnderlying9 rfl) fun a ha=>?_;refine gOn ha ?_;refine pY ha (yLeq rfl rfl) fun a ha=>?_;refine pY ha (yPickT rfl rfl) fun a ha=>?_;refine pY ha (yMove rfl) fun a ha=>?_;refine gSplit (t:=24) ha rfl (fun hg8=>?_) (fun hg8=>?_)
          · rw [hg8] at ha;refine gOff ha fun a ha=>?_;refine gOff ha fun a ha=>?_;refine pY ha (yPickF rfl rfl) fun a ha=>?_;refine pY ha (yMove rfl) fun a ha=>?_;refine gOff ha fun a ha=>?_;refine gOff ha fun a ha=>?_;refine pY ha (yPickF rfl rfl) fun a ha=>?_;refine pY ha (yAssign rfl) fun a ha=>?_;refine pZ ⟨rfl,?_⟩;refine ⟨has1 ha ?_,hs.drop⟩;unfold nameOk;refine congrArg (fun b=>some (Value.bool b)) ?_;rw [Bool.eq_iff_iff];simp only [decide_eq_true_eq,decide_eq_false_iff_not,Bool.and_eq_true,Bool.not_eq_true',h2,Bool.false_eq_true,true_and,true_iff,false_iff,iff_true,iff_false,Bool.not_eq_eq_eq_not,Bool.not_true,Bool.not_false] at *
            omega
          · rw [hg8] at ha;refine gOn ha ?_;refine pY ha (yMove rfl) fun a ha=>?_;refine gOn ha ?_;refine pY ha (yStrNeq rfl rfl) fun a ha=>?_;refine pY ha (yPickT rfl rfl) fun a ha=>?_;refine pY ha (yMove rfl) fun a ha=>?_;refine gSplit (t:=28) ha rfl (fun hg12=>?_) (fun hg12=>?_)
            · rw [hg12] at ha;refine gOff ha fun a ha=>?_;refine gOff ha fun a ha=>?_;refine pY ha (yPickF rfl rfl) fun a ha=>?_;refine pY ha (yAssign rfl) fun a ha=>?_;refine pZ ⟨rfl,?_⟩;refine ⟨has1 ha ?_,hs.drop⟩;unfold nameOk;refine congrArg (fun b=>some (Value.bool b)) ?_;rw [Bool.eq_iff_iff];simp only [decide_eq_true_eq,decide_eq_false_iff_not,Bool.and_eq_true,Bool.not_eq_true',h2,Bool.false_eq_true,true_and,true_iff,false_iff,iff_true,iff_false,Bool.not_eq_eq_eq_not,Bool.not_true,Bool.not_false] at *
              (simp_all; done)
            · rw [hg12] at ha;refine gOn ha ?_;refine pY ha (yMove rfl) fun a ha=>?_;refine gOn ha ?_;refine pY ha (yStrNeq rfl rfl) fun a ha=>?_;refine pY ha (yPickT rfl rfl) fun a ha=>?_;refine pY ha (yAssign rfl) fun a ha=>?_;refine pZ ⟨rfl,?_⟩;refine ⟨has1 ha ?_,hs.drop⟩;unfold nameOk;refine congrArg (fun b=>some (Value.bool b)) ?_;rw [Bool.eq_iff_iff];simp only [decide_eq_true_eq,decide_eq_false_iff_not,Bool.and_eq_true,Bool.not_eq_true',h2,Bool.false_eq_true,true_and,true_iff,false_iff,iff_true,iff_false,Bool.not_eq_eq_eq_not,Bool.not_true,Bool.not_false] at *
              (simp_all; omega)
      rintro a w ⟨ha,hs⟩;refine hK10 _ _ ?_;refine wp_ret ?_;show bodyPost Tryz.prog Tryz.f106 _ .ret _ _;refine ret1 rfl ha rfl ?_;exact ⟨rfl,hs⟩
theorem Add_c (n x : Int) (hn : 0≤n∧n≤1099511627776) (hx : 0≤x∧x≤9223372036854775807) (hs : Sep W w cs) : Calls P 129 #[.int .i64 n,.int .i64 x] w (Rt fun v w'=>v = .int .i64 (addC n x)∧Sep W w' cs):=by
  refine enter Tryz.func129 Tryz.ntmps129 rfl rfl fun a (ha : Has a 12 [(0,_),(1,_)])=>?_;refine wp_seq_k fun K1 hK1=>?_;refine wp_region_lit ?_;refine pY ha (yAssign rfl) fun a ha=>?_;refine pZ ?_;refine hK1 _ _ ?_;refine wp_seq_k fun K2 hK2=>?_;refine wp_seq_k fun K3 hK3=>?_;refine wp_region_lit ?_;refine pY ha (yMove rfl) fun a ha=>?_;refine pY ha (yMove rfl) fun a ha=>?_;refine pY ha (ySubN rfl rfl ⟨by omega,by omega⟩) fun a ha=>?_;refine pY ha (yGtr rfl rfl) fun a ha=>?_;refine pZ ?_;refine hK3 _ _ ?_;refine cDec ha rfl (fun hc8=>?_) (fun hc8=>?_)
  · refine wp_seq_k fun K4 hK4=>?_;refine wp_region_lit ?_;refine pY ha (yAssign rfl) fun a ha=>?_;refine pZ ?_;refine hK4 _ _ ?_;refine wp_ret ?_;show bodyPost Tryz.prog Tryz.f129 _ .ret _ _;refine ret1 rfl ha rfl ?_;unfold addC; rw [if_pos (by omega)]; exact ⟨rfl,hs⟩
  · refine wp_skip ?_;refine hK2 _ _ ?_;refine wp_seq_k fun K5 hK5=>?_;refine wp_region_lit ?_;refine pY ha (yMove rfl) fun a ha=>?_;refine pY ha (yMove rfl) fun a ha=>?_;refine pY ha (yAddN rfl rfl ⟨by omega,by omega⟩) fun a ha=>?_;refine pY ha (yAssign rfl) fun a ha=>?_;refine pZ ?_;refine hK5 _ _ ?_;refine wp_ret ?_;show bodyPost Tryz.prog Tryz.f129 _ .ret _ _;refine ret1 rfl ha rfl ?_;unfold addC; rw [if_neg (by omega)]; exact ⟨rfl,hs⟩
theorem OpSound_c (hT : Tabs W) (x : Comp) (hsz : x.text.size≤9223372036854775807) (hs : Sep W w cs) : Calls P 128 #[.agg (cC x).toArray] w (Rt fun v w'=>v = .bool (sndC x)∧Sep W w' cs):=by
  unfold cC;refine enter Tryz.func128 Tryz.ntmps128 rfl rfl fun a (ha : Has a 31 [(0,_)])=>?_;refine wp_seq_k fun K1 hK1=>?_;refine wp_region_lit ?_;refine pBox (es:=_) ha rfl rfl hs rfl fun b w hs a ha=>?_;refine pY ha (yAssign rfl) fun a ha=>?_;refine pZ ?_;refine hK1 _ _ ?_;refine wp_seq_k fun K2 hK2=>?_;refine wp_seq_k fun K3 hK3=>?_;refine wp_region_lit ?_;refine pY ha (yFieldA Tryz.runUnderlying45 rfl Tryz.sizeOf3 rfl rfl) fun a ha=>?_;refine pY ha (yLoadB Tryz.isAgg3 hs rfl pk0 rfl) fun a ha=>?_;refine pZ ?_;refine hK3 _ _ ?_;refine wp_block ?_;refine wp_seq_k fun K4 hK4=>?_;refine wp_region_lit ?_;refine pY ha (yEql rfl rfl) fun a ha=>?_;refine pY ha (yAssign rfl) fun a ha=>?_;refine pZ ?_;refine hK4 _ _ ?_;refine cDec ha rfl (fun hc5=>?_) (fun hc5=>?_)
  · refine wp_seq_k fun K5 hK5=>?_;refine wp_region_lit ?_;refine pY ha (yFieldA Tryz.runUnderlying45 rfl Tryz.sizeOf3 rfl rfl) fun a ha=>?_;refine pY ha (yLoadB Tryz.isAgg3 hs rfl pk0 rfl) fun a ha=>?_;refine pY ha (yEql rfl rfl) fun a ha=>?_;refine pY ha (yMove rfl) fun a ha=>?_;refine gDec (t:=10) ha rfl (fun hg3 hp3=>?_) (fun hg3 hp3=>?_)
    · rw [hg3] at ha
      have hp3:=of_decide_eq_false hg3
      refine gOff ha fun a ha=>?_;refine gOff ha fun a ha=>?_;refine gOff ha fun a ha=>?_;refine pY ha (yPickF rfl rfl) fun a ha=>?_;refine pY ha (yMove rfl) fun a ha=>?_;refine gOff ha fun a ha=>?_;refine gOff ha fun a ha=>?_;refine gOff ha fun a ha=>?_;refine pY ha (yPickF rfl rfl) fun a ha=>?_;refine pY ha (yAssign rfl) fun a ha=>?_;refine pZ ?_;refine hK5 _ _ ?_;refine wp_ret ?_;show bodyPost Tryz.prog Tryz.f128 _ .ret _ _;refine ret1 rfl ha rfl ?_;refine ⟨congrArg Value.bool ?_,hs.drop⟩;unfold sndC emp
      (rw [if_pos hc5]; simp_all; done)
    · rw [hg3] at ha
      have hp3:=of_decide_eq_true hg3
      refine gOn ha ?_;refine pY ha (yFieldA Tryz.runUnderlying45 rfl Tryz.sizeOf9 rfl rfl) fun a ha=>?_;refine gOn ha ?_;refine pY ha (yLoadB Tryz.isAgg9 hs rfl pk0 rfl) fun a ha=>?_;refine gOn ha ?_;refine pY ha (yStrNeq rfl rfl) fun a ha=>?_;refine pY ha (yPickT rfl rfl) fun a ha=>?_;refine pY ha (yMove rfl) fun a ha=>?_;refine gSplit (t:=15) ha rfl (fun hg8=>?_) (fun hg8=>?_)
      · rw [hg8] at ha;refine gOff ha fun a ha=>?_;refine gOff ha fun a ha=>?_;refine gOff ha fun a ha=>?_;refine pY ha (yPickF rfl rfl) fun a ha=>?_;refine pY ha (yAssign rfl) fun a ha=>?_;refine pZ ?_;refine hK5 _ _ ?_;refine wp_ret ?_;show bodyPost Tryz.prog Tryz.f128 _ .ret _ _;refine ret1 rfl ha rfl ?_;refine ⟨congrArg Value.bool ?_,hs.drop⟩;unfold sndC emp
        (rw [if_pos hc5]; simp_all; done)
      · rw [hg8] at ha;refine gOn ha ?_;refine pY ha (yFieldA Tryz.runUnderlying45 rfl Tryz.sizeOf9 rfl rfl) fun a ha=>?_;refine gOn ha ?_;refine pY ha (yLoadB Tryz.isAgg9 hs rfl pk0 rfl) fun a ha=>?_;refine gOn ha ?_;refine pC ha (nCall Tryz.call102 rfl) rfl (Valid_c hT x.text hsz hs) ?_;rintro v w ⟨rfl,hs⟩ a ha;refine pY ha (yPickT rfl rfl) fun a ha=>?_;refine pY ha (yAssign rfl) fun a ha=>?_;refine pZ ?_;refine hK5 _ _ ?_;refine wp_ret ?_;show bodyPost Tryz.prog Tryz.f128 _ .ret _ _;refine ret1 rfl ha rfl ?_;refine ⟨congrArg Value.bool ?_,hs.drop⟩;unfold sndC emp
        (rw [if_pos hc5]; simp_all; done)
  · refine wp_seq_k fun K6 hK6=>?_
    have hJ6 : ∀ a w,(Has a 31 [(20,.bool (decide (x.kind = 1∨x.kind = 3))),(1,.pointer (some ⟨b,0,none⟩)),(2,.bool false)]∧Sep W w (.blk b 45 [.int .i64 x.kind,.int .i64 x.n,.string x.text]::cs))→K6 a w:=by
      rintro a w ⟨ha,hs⟩;refine hK6 _ _ ?_;refine cDec ha rfl (fun hc20=>?_) (fun hc20=>?_)
      · refine wp_seq_k fun K7 hK7=>?_;refine wp_region_lit ?_;refine pY ha (yFieldA Tryz.runUnderlying45 rfl Tryz.sizeOf3 rfl rfl) fun a ha=>?_;refine pY ha (yLoadB Tryz.isAgg3 hs rfl pk0 rfl) fun a ha=>?_;refine pY ha (yGtr rfl rfl) fun a ha=>?_;refine pY ha (yMove rfl) fun a ha=>?_;refine gDec (t:=26) ha rfl (fun hg3 hp3=>?_) (fun hg3 hp3=>?_)
        · rw [hg3] at ha
          have hp3:=of_decide_eq_false hg3
          refine gOff ha fun a ha=>?_;refine gOff ha fun a ha=>?_;refine gOff ha fun a ha=>?_;refine pY ha (yPickF rfl rfl) fun a ha=>?_;refine pY ha (yAssign rfl) fun a ha=>?_;refine pZ ?_;refine hK7 _ _ ?_;refine wp_ret ?_;show bodyPost Tryz.prog Tryz.f128 _ .ret _ _;refine ret1 rfl ha rfl ?_;refine ⟨congrArg Value.bool ?_,hs.drop⟩;unfold sndC emp
          (rw [if_neg hc5,if_pos hc20]; have hp3' : ¬ x.n > 0:=hp3; rw [decide_eq_false hp3']; rfl)
        · rw [hg3] at ha
          have hp3:=of_decide_eq_true hg3
          refine gOn ha ?_;refine pY ha (yFieldA Tryz.runUnderlying45 rfl Tryz.sizeOf9 rfl rfl) fun a ha=>?_;refine gOn ha ?_;refine pY ha (yLoadB Tryz.isAgg9 hs rfl pk0 rfl) fun a ha=>?_;refine gOn ha ?_;refine pY ha (yStrEql rfl rfl) fun a ha=>?_;refine pY ha (yPickT rfl rfl) fun a ha=>?_;refine pY ha (yAssign rfl) fun a ha=>?_;refine pZ ?_;refine hK7 _ _ ?_;refine wp_ret ?_;show bodyPost Tryz.prog Tryz.f128 _ .ret _ _;refine ret1 rfl ha rfl ?_;refine ⟨congrArg Value.bool ?_,hs.drop⟩;unfold sndC emp
          (rw [if_neg hc5,if_pos hc20]; have hp3' : x.n > 0:=hp3; rw [decide_eq_true hp3']; simp; done)
      · refine wp_skip ?_;refine hK2 _ _ ?_;refine wp_seq_k fun K8 hK8=>?_;refine wp_region_lit ?_;refine pY ha (yAssign rfl) fun a ha=>?_;refine pZ ?_;refine hK8 _ _ ?_;refine wp_ret ?_;show bodyPost Tryz.prog Tryz.f128 _ .ret _ _;refine ret1 rfl ha rfl ?_;refine ⟨congrArg Value.bool ?_,hs.drop⟩;unfold sndC emp
        (rw [if_neg hc5,if_neg hc20])
    refine wp_seq_k fun K9 hK9=>?_;refine wp_region_lit ?_;refine pY ha (yEql rfl rfl) fun a ha=>?_;refine pY ha (yAssign rfl) fun a ha=>?_;refine pZ ?_;refine hK9 _ _ ?_;refine cDec ha rfl (fun hc20=>?_) (fun hc20=>?_)
    · refine wp_skip ?_;refine hJ6 _ _ ?_;exact ⟨has3 ha (bT (by omega)) rfl rfl,hs⟩
    · refine wp_region_lit ?_;refine pY ha (yEql rfl rfl) fun a ha=>?_;refine pY ha (yAssign rfl) fun a ha=>?_;refine pZ ?_;refine hJ6 _ _ ?_;exact ⟨has3 ha (bT (by omega)) rfl rfl,hs⟩
theorem Normal_c (hT : Tabs W) {A : Option Addr} {n c : Nat} {xs : List Comp} (hsz : ∀ x ∈ xs,x.text.size≤9223372036854775807) (hs : Sep W w cs) (hk : Pick cs (.rd kComp (.slice A n c) xs) r) :
    Calls P 122 #[.slice A n c] w (Rt fun v w'=>v = .bool (normC xs)∧Sep W w' cs):=by
  obtain ⟨rfl,hl⟩:=hs.rd_shape hk;unfold maxLen at hl;have hs:=hs.cpR hk;refine enter Tryz.func122 Tryz.ntmps122 rfl rfl fun a (ha : Has a 45 [(0,_)])=>?_;refine wp_seq_k fun K1 hK1=>?_;refine wp_region_lit ?_;refine pY ha (yAssign rfl) fun a ha=>?_;refine pZ ?_;refine hK1 _ _ ?_;refine wp_seq_k fun K2 hK2=>?_;refine wp_seq_k fun K3 hK3=>?_;refine wp_region_lit ?_;refine pY ha (yMove rfl) fun a ha=>?_;refine pY ha (yLenS Tryz.runUnderlying46 rfl) fun a ha=>?_;refine pY ha (yMove rfl) fun a ha=>?_;refine pZ ?_;refine hK3 _ _ ?_;refine wp_block ?_;refine loopI (ι:=Nat) (fun i a w=>i≤xs.length∧allN (goodC xs) i = true∧Has a 45 [(0,.slice A xs.length c),(5,.slice A xs.length c),(6,.int .i64 xs.length),(7,.int .i64 i)]∧Sep W w (.rd kComp (.slice A xs.length c) xs::cs)) (fun i=>xs.length - i) (0) ?_ ?_
  · exact ⟨Nat.zero_le _,rfl,has4 ha rfl rfl rfl rfl,hs⟩
  · rintro i a w ⟨h1,h2,ha,hs⟩;refine wp_seq_k fun K4 hK4=>?_;refine wp_region_lit ?_;refine pY ha (yLss rfl rfl) fun a ha=>?_;refine pZ ?_;refine hK4 _ _ ?_;refine wp_seq_k fun K5 hK5=>?_;refine cDec ha rfl (fun hc8=>?_) (fun hc8=>?_)
    · obtain ⟨x,hx⟩ : ∃ x,xs[i]? = some x:=⟨_,List.getElem?_eq_getElem (by omega)⟩;obtain ⟨y,hy⟩ : ∃ y,xs[i - 1]? = some y:=⟨_,List.getElem?_eq_getElem (by omega)⟩
      have hsx:=hsz x (List.mem_of_getElem? hx)
      have hgood : goodC xs i = (sndC x && (decide (i = 0) || !(decide (y.kind = x.kind) || decide (y.kind = 3) && decide (x.kind = 2)))):=by
        unfold goodC;rw [List.getD_eq_getElem?_getD,List.getD_eq_getElem?_getD,hx,hy]; rfl
      obtain ⟨b0,off,rfl,hs⟩:=hs.rd_comp .here hx;refine wp_skip ?_;refine hK5 _ _ ?_;refine wp_seq_k fun K6 hK6=>?_;refine wp_block ?_;refine wp_seq_k fun K7 hK7=>?_;refine wp_region_lit ?_;refine pY ha (yMove rfl) fun a ha=>?_;refine pY ha (yIndexA Tryz.runUnderlying46 Tryz.sizeOf45 rfl rfl (by omega) (by omega)) fun a ha=>?_;refine pY ha (yLoadRA Tryz.isAgg45 Tryz.sizeOf45 hs rfl pk0 rfl) fun a ha=>?_;refine pAlloc (zs:=[.int .i64 0,.int .i64 0,.string ⟨#[]⟩]) ha Tryz.zeroValue45 rfl hs rfl fun b w hs a ha=>?_;refine pY ha (yAssign rfl) fun a ha=>?_;refine pStoreA ha Tryz.sizeOf45 hs rfl rfl pk0 rfl rfl rfl fun w hs=>?_;refine pZ ?_;refine hK7 _ _ ?_;refine wp_seq_k fun K8 hK8=>?_;obtain ⟨b1,off1,e1,hs⟩:=hs.rd_comp (.there (.there .here)) hy;simp only [Option.some.injEq,Addr.mk.injEq,and_true] at e1;obtain ⟨rfl,rfl⟩:=e1;rw [show i - 1 = ((i : Int) - 1).toNat by omega] at hs;refine cutC (fun a w=>Has a 45 [(43,.bool (!goodC xs i)),(0,.slice (some ⟨b0,off,none⟩) xs.length c),(5,.slice (some ⟨b0,off,none⟩) xs.length c),(6,.int .i64 xs.length),(7,.int .i64 i)]∧Sep W w (.rd kComp (.slice (some ⟨b0,off,none⟩) xs.length c) xs::cs)) ?_ ?_
      · refine dStart (fun w=>∃ rs,Sep W w (.at b0 (off + ((i : Int) - 1).toNat * 3) [.int .i64 y.kind,.int .i64 y.n,.string y.text]::.blk b 45 [.int .i64 x.kind,.int .i64 x.n,.string x.text]::rs)) [] 4294967295 4294967295 (by kernel_rfl) (by kernel_rfl) rfl (⟨_,hs.drew.pick pk0⟩) ?_
        have hs:=Sep.drew hs
        generalize World.drew _ = w at hs ⊢;refine dT 0 1 rfl ha (fun _ ⟨rs,hs⟩=>yLoadBA Tryz.isAgg45 Tryz.sizeOf45 hs rfl pk1 rfl) (⟨_,hs.pick pk0⟩) fun a ha=>?_;refine dC 1 3 rfl (by kernel_rfl) rfl ha won0 (nCall Tryz.call128 rfl) rfl (OpSound_c hT x hsx hs) ?_;rintro v w ⟨rfl,hs⟩;refine ⟨⟨_,hs.pick pk0⟩,fun a ha=>?_⟩;refine dP 2 7 rfl ha (fun _=>yNot rfl) fun a ha=>?_;refine dP 3 15 rfl ha (fun _=>yMove rfl) fun a ha=>?_;refine gSplit (t:=15) ha rfl (fun hg3=>?_) (fun hg3=>?_)
        · rw [hg3] at ha;refine dP 4 31 rfl ha (fun _=>yMove rfl) fun a ha=>?_;refine dP 5 63 rfl ha (fun _=>yGtr rfl rfl) fun a ha=>?_;refine dP 6 127 rfl ha (fun _=>yMove rfl) fun a ha=>?_;refine gDec (t:=18) ha rfl (fun hg6 hp6=>?_) (fun hg6 hp6=>?_)
          · rw [hg6] at ha;refine dOff 7 255 rfl ha fun a ha=>?_;refine dOff 8 511 rfl ha fun a ha=>?_;refine dOff 9 1023 rfl ha fun a ha=>?_;refine dOff 10 2047 rfl ha fun a ha=>?_;refine dOff 11 4095 rfl ha fun a ha=>?_;refine dOff 12 8191 rfl ha fun a ha=>?_;refine dOff 13 16383 rfl ha fun a ha=>?_;refine dOff 14 32767 rfl ha fun a ha=>?_;refine dOff 15 65535 rfl ha fun a ha=>?_;refine dOff 16 131071 rfl ha fun a ha=>?_;refine dOffU 17 262143 rfl ha fun a ha=>?_;refine dOffU 18 524287 rfl ha fun a ha=>?_;refine dOffU 19 1048575 rfl ha fun a ha=>?_;refine dOffU 20 2097151 rfl ha fun a ha=>?_;refine dOffU 21 4194303 rfl ha fun a ha=>?_;refine dOffU 22 8388607 rfl ha fun a ha=>?_;refine dOffU 23 16777215 rfl ha fun a ha=>?_;refine dOffU 24 33554431 rfl ha fun a ha=>?_;refine dOffU 25 67108863 rfl ha fun a ha=>?_;refine dOffU 26 134217727 rfl ha fun a ha=>?_;refine dOffU 27 268435455 rfl ha fun a ha=>?_;refine dOffU 28 536870911 rfl ha fun a ha=>?_;refine dOff 29 1073741823 rfl ha fun a ha=>?_;refine dP 30 2147483647 rfl ha (fun _=>yPickF rfl rfl) fun a ha=>?_;refine dP 31 4294967295 rfl ha (fun _=>yPickF rfl rfl) fun a ha=>?_;refine dZ (by kernel_rfl) ?_;refine ⟨rfl,?_⟩;refine ⟨has5 ha ?_ rfl rfl rfl rfl,hs.drop.drop.drop⟩;rw [hgood];refine congrArg (fun b=>some (Value.bool b)) ?_;rw [Bool.eq_iff_iff];simp only [decide_eq_true_eq,decide_eq_false_iff_not,Bool.and_eq_true,Bool.or_eq_true,Bool.not_eq_true',Bool.not_eq_false',Bool.and_eq_false_iff,Bool.or_eq_false_iff,Bool.false_eq_true,true_iff,false_iff,iff_true,iff_false,Bool.not_eq_eq_eq_not,Bool.not_true,Bool.not_false] at *
            (simp_all; done)
          · rw [hg6] at ha;refine dP 7 255 rfl ha (fun _=>yMove rfl) fun a ha=>?_;refine dP 8 511 rfl ha (fun _=>yMove rfl) fun a ha=>?_;refine dP 9 1023 rfl ha (fun _=>ySubN rfl rfl ⟨by omega,by omega⟩) fun a ha=>?_;refine dP 10 2047 rfl ha (fun _=>yIndexA Tryz.runUnderlying46 Tryz.sizeOf45 rfl rfl (by omega) (by omega)) fun a ha=>?_;refine dP 11 4095 rfl ha (fun _=>yFieldA Tryz.runUnderlying45 rfl Tryz.sizeOf3 rfl rfl) fun a ha=>?_;refine dT 12 8191 rfl ha (fun _ ⟨rs,hs⟩=>yLoadR Tryz.isAgg3 hs rfl pk0 rfl) (⟨_,hs.pick pk0⟩) fun a ha=>?_;refine dP 13 16383 rfl ha (fun _=>yFieldA Tryz.runUnderlying45 rfl Tryz.sizeOf3 rfl rfl) fun a ha=>?_;refine dT 14 32767 rfl ha (fun _ ⟨rs,hs⟩=>yLoadB Tryz.isAgg3 hs rfl pk1 rfl) (⟨_,hs.pick pk0⟩) fun a ha=>?_;refine dP 15 65535 rfl ha (fun _=>yEql rfl rfl) fun a ha=>?_;refine dP 16 131071 rfl ha (fun _=>yMove rfl) fun a ha=>?_;refine gDec (t:=28) ha rfl (fun hg16 hp16=>?_) (fun hg16 hp16=>?_)
            · rw [hg16] at ha;refine dP 17 262143 rfl ha (fun _=>yMove rfl) fun a ha=>?_;refine dP 18 524287 rfl ha (fun _=>yMove rfl) fun a ha=>?_;refine dP 19 1048575 rfl ha (fun _=>ySubN rfl rfl ⟨by omega,by omega⟩) fun a ha=>?_;refine dP 20 2097151 rfl ha (fun _=>yIndexA Tryz.runUnderlying46 Tryz.sizeOf45 rfl rfl (by omega) (by omega)) fun a ha=>?_;refine dP 21 4194303 rfl ha (fun _=>yFieldA Tryz.runUnderlying45 rfl Tryz.sizeOf3 rfl rfl) fun a ha=>?_;refine dT 22 8388607 rfl ha (fun _ ⟨rs,hs⟩=>yLoadR Tryz.isAgg3 hs rfl pk0 rfl) (⟨_,hs.pick pk0⟩) fun a ha=>?_;refine dP 23 16777215 rfl ha (fun _=>yEql rfl rfl) fun a ha=>?_;refine dP 24 33554431 rfl ha (fun _=>yMove rfl) fun a ha=>?_;refine gDec (t:=36) ha rfl (fun hg24 hp24=>?_) (fun hg24 hp24=>?_)
              · rw [hg24] at ha;refine dOff 25 67108863 rfl ha fun a ha=>?_;refine dOff 26 134217727 rfl ha fun a ha=>?_;refine dOff 27 268435455 rfl ha fun a ha=>?_;refine dP 28 536870911 rfl ha (fun _=>yPickF rfl rfl) fun a ha=>?_;refine dP 29 1073741823 rfl ha (fun _=>yPickF rfl rfl) fun a ha=>?_;refine dP 30 2147483647 rfl ha (fun _=>yPickT rfl rfl) fun a ha=>?_;refine dP 31 4294967295 rfl ha (fun _=>yPickF rfl rfl) fun a ha=>?_;refine dZ (by kernel_rfl) ?_;refine ⟨rfl,?_⟩;refine ⟨has5 ha ?_ rfl rfl rfl rfl,hs.drop.drop.drop⟩;rw [hgood];refine congrArg (fun b=>some (Value.bool b)) ?_;rw [Bool.eq_iff_iff];simp only [decide_eq_true_eq,decide_eq_false_iff_not,Bool.and_eq_true,Bool.or_eq_true,Bool.not_eq_true',Bool.not_eq_false',Bool.and_eq_false_iff,Bool.or_eq_false_iff,Bool.false_eq_true,true_iff,false_iff,iff_true,iff_false,Bool.not_eq_eq_eq_not,Bool.not_true,Bool.not_false] at *
                (simp_all; done)
              · rw [hg24] at ha;refine dP 25 67108863 rfl ha (fun _=>yFieldA Tryz.runUnderlying45 rfl Tryz.sizeOf3 rfl rfl) fun a ha=>?_;refine dT 26 134217727 rfl ha (fun _ ⟨rs,hs⟩=>yLoadB Tryz.isAgg3 hs rfl pk1 rfl) (⟨_,hs.pick pk0⟩) fun a ha=>?_;refine dP 27 268435455 rfl ha (fun _=>yEql rfl rfl) fun a ha=>?_;refine dP 28 536870911 rfl ha (fun _=>yPickT rfl rfl) fun a ha=>?_;refine dP 29 1073741823 rfl ha (fun _=>yPickF rfl rfl) fun a ha=>?_;refine dP 30 2147483647 rfl ha (fun _=>yPickT rfl rfl) fun a ha=>?_;refine dP 31 4294967295 rfl ha (fun _=>yPickF rfl rfl) fun a ha=>?_;refine dZ (by kernel_rfl) ?_;refine ⟨rfl,?_⟩;refine ⟨has5 ha ?_ rfl rfl rfl rfl,hs.drop.drop.drop⟩;rw [hgood];refine congrArg (fun b=>some (Value.bool b)) ?_;rw [Bool.eq_iff_iff];simp only [decide_eq_true_eq,decide_eq_false_iff_not,Bool.and_eq_true,Bool.or_eq_true,Bool.not_eq_true',Bool.not_eq_false',Bool.and_eq_false_iff,Bool.or_eq_false_iff,Bool.false_eq_true,true_iff,false_iff,iff_true,iff_false,Bool.not_eq_eq_eq_not,Bool.not_true,Bool.not_false] at *
                (simp_all; omega)
            · rw [hg16] at ha;refine dOff 17 262143 rfl ha fun a ha=>?_;refine dOff 18 524287 rfl ha fun a ha=>?_;refine dOff 19 1048575 rfl ha fun a ha=>?_;refine dOff 20 2097151 rfl ha fun a ha=>?_;refine dOff 21 4194303 rfl ha fun a ha=>?_;refine dOff 22 8388607 rfl ha fun a ha=>?_;refine dOff 23 16777215 rfl ha fun a ha=>?_;refine dOff 24 33554431 rfl ha fun a ha=>?_;refine dOffU 25 67108863 rfl ha fun a ha=>?_;refine dOffU 26 134217727 rfl ha fun a ha=>?_;refine dOffU 27 268435455 rfl ha fun a ha=>?_;refine dOff 28 536870911 rfl ha fun a ha=>?_;refine dP 29 1073741823 rfl ha (fun _=>yPickT rfl rfl) fun a ha=>?_;refine dP 30 2147483647 rfl ha (fun _=>yPickT rfl rfl) fun a ha=>?_;refine dP 31 4294967295 rfl ha (fun _=>yPickF rfl rfl) fun a ha=>?_;refine dZ (by kernel_rfl) ?_;refine ⟨rfl,?_⟩;refine ⟨has5 ha ?_ rfl rfl rfl rfl,hs.drop.drop.drop⟩;rw [hgood];refine congrArg (fun b=>some (Value.bool b)) ?_;rw [Bool.eq_iff_iff];simp only [decide_eq_true_eq,decide_eq_false_iff_not,Bool.and_eq_true,Bool.or_eq_true,Bool.not_eq_true',Bool.not_eq_false',Bool.and_eq_false_iff,Bool.or_eq_false_iff,Bool.false_eq_true,true_iff,false_iff,iff_true,iff_false,Bool.not_eq_eq_eq_not,Bool.not_true,Bool.not_false] at *
              omega
        · rw [hg3] at ha;refine dOff 4 31 rfl ha fun a ha=>?_;refine dOff 5 63 rfl ha fun a ha=>?_;refine dOff 6 127 rfl ha fun a ha=>?_;refine dOffU 7 255 rfl ha fun a ha=>?_;refine dOffU 8 511 rfl ha fun a ha=>?_;refine dOffU 9 1023 rfl ha fun a ha=>?_;refine dOffU 10 2047 rfl ha fun a ha=>?_;refine dOffU 11 4095 rfl ha fun a ha=>?_;refine dOffU 12 8191 rfl ha fun a ha=>?_;refine dOffU 13 16383 rfl ha fun a ha=>?_;refine dOffU 14 32767 rfl ha fun a ha=>?_;refine dOffU 15 65535 rfl ha fun a ha=>?_;refine dOffU 16 131071 rfl ha fun a ha=>?_;refine dOffU 17 262143 rfl ha fun a ha=>?_;refine dOffU 18 524287 rfl ha fun a ha=>?_;refine dOffU 19 1048575 rfl ha fun a ha=>?_;refine dOffU 20 2097151 rfl ha fun a ha=>?_;refine dOffU 21 4194303 rfl ha fun a ha=>?_;refine dOffU 22 8388607 rfl ha fun a ha=>?_;refine dOffU 23 16777215 rfl ha fun a ha=>?_;refine dOffU 24 33554431 rfl ha fun a ha=>?_;refine dOffU 25 67108863 rfl ha fun a ha=>?_;refine dOffU 26 134217727 rfl ha fun a ha=>?_;refine dOffU 27 268435455 rfl ha fun a ha=>?_;refine dOffU 28 536870911 rfl ha fun a ha=>?_;refine dOffU 29 1073741823 rfl ha fun a ha=>?_;refine dOff 30 2147483647 rfl ha fun a ha=>?_;refine dP 31 4294967295 rfl ha (fun _=>yPickT rfl rfl) fun a ha=>?_;refine dZ (by kernel_rfl) ?_;refine ⟨rfl,?_⟩;refine ⟨has5 ha ?_ rfl rfl rfl rfl,hs.drop.drop.drop⟩;rw [hgood];refine congrArg (fun b=>some (Value.bool b)) ?_;rw [Bool.eq_iff_iff];simp only [decide_eq_true_eq,decide_eq_false_iff_not,Bool.and_eq_true,Bool.or_eq_true,Bool.not_eq_true',Bool.not_eq_false',Bool.and_eq_false_iff,Bool.or_eq_false_iff,Bool.false_eq_true,true_iff,false_iff,iff_true,iff_false,Bool.not_eq_eq_eq_not,Bool.not_true,Bool.not_false] at *
          (simp_all; done)
      rintro a w ⟨ha,hs⟩;refine hK8 _ _ ?_;refine cSplit ha rfl (fun hc43=>?_) (fun hc43=>?_)
      · refine wp_seq_k fun K9 hK9=>?_;refine wp_region_lit ?_;refine pY ha (yAssign rfl) fun a ha=>?_;refine pZ ?_;refine hK9 _ _ ?_;refine wp_ret ?_;show bodyPost Tryz.prog Tryz.f122 _ .ret _ _;refine ret1 rfl ha rfl ?_;exact ⟨congrArg Value.bool (allN_no (i:=i) (n:=xs.length) (by omega) (by simpa using hc43)).symm,hs.drop⟩
      · refine wp_skip ?_;refine hK6 _ _ ?_;refine wp_region_lit ?_;refine pY ha (yAddN rfl rfl ⟨by omega,by omega⟩) fun a ha=>?_;refine pY ha (yMove rfl) fun a ha=>?_;refine pZ ?_;exact ⟨i + 1,⟨by omega,by simp only [allN,h2,Bool.true_and]; simpa using hc43,has4 ha rfl rfl rfl rfl,hs⟩,by omega⟩
    · refine wp_exit ?_;refine hK2 _ _ ?_;refine wp_seq_k fun K10 hK10=>?_;refine wp_region_lit ?_;refine pY ha (yAssign rfl) fun a ha=>?_;refine pZ ?_;refine hK10 _ _ ?_;refine wp_ret ?_;show bodyPost Tryz.prog Tryz.f122 _ .ret _ _;refine ret1 rfl ha rfl ?_;obtain rfl : i = xs.length:=by omega
      exact ⟨congrArg Value.bool h2.symm,hs.drop⟩
theorem maxE (a : Int) : (if (0 : Int) > a then 0 else a) = max a 0:=by omega
theorem addC_ok {n x : Int} (hn : 0≤n∧n≤1099511627776) (hx : 0≤x) : 0≤addC n x∧addC n x≤1099511627776:=by unfold addC; split <;> omega
theorem baseC_at {xs : List Comp} {i : Nat} {x : Comp} (hx : xs[i]? = some x) (n : Int) : baseC (xs.drop i) n = baseC (xs.drop (i + 1)) (if x.kind = 1∨x.kind = 3 then addC n (max x.n 0) else n):=by
  obtain ⟨hi,rfl⟩:=List.getElem?_eq_some_iff.1 hx;rw [List.drop_eq_getElem_cons hi,baseC]
theorem outC_at {xs : List Comp} {i : Nat} {x : Comp} (hx : xs[i]? = some x) (n : Int) : outC (xs.drop i) n = outC (xs.drop (i + 1)) (if x.kind = 1 then addC n (max x.n 0) else if x.kind = 2 then addC n (cnt x.text.data.toList) else n):=by
  obtain ⟨hi,rfl⟩:=List.getElem?_eq_some_iff.1 hx;rw [List.drop_eq_getElem_cons hi,outC]
/-- Numbers of the machine. -/
def i64C (x : Comp) : Prop:=x.n≤9223372036854775807
theorem Base_c {A : Option Addr} {n c : Nat} {xs : List Comp} (hsz : ∀ x ∈ xs,i64C x) (hs : Sep W w cs) (hk : Pick cs (.rd kComp (.slice A n c) xs) r) :
    Calls P 123 #[.slice A n c] w (Rt fun v w'=>v = .int .i64 (baseC xs 0)∧Sep W w' cs):=by
  obtain ⟨rfl,hl⟩:=hs.rd_shape hk;unfold maxLen at hl;have hs:=hs.cpR hk;refine enter Tryz.func123 Tryz.ntmps123 rfl rfl fun a (ha : Has a 26 [(0,_)])=>?_;refine wp_seq_k fun K1 hK1=>?_;refine wp_region_lit ?_;refine pY ha (yAssign rfl) fun a ha=>?_;refine pZ ?_;refine hK1 _ _ ?_;refine wp_seq_k fun K2 hK2=>?_;refine wp_seq_k fun K3 hK3=>?_;refine wp_region_lit ?_;refine pY ha (yMove rfl) fun a ha=>?_;refine pY ha (yLenS Tryz.runUnderlying46 rfl) fun a ha=>?_;refine pY ha (yMove rfl) fun a ha=>?_;refine pZ ?_;refine hK3 _ _ ?_;refine wp_block ?_;refine loopI (ι:=Nat × Int) (fun i a w=>i.1≤xs.length∧(0≤i.2∧i.2≤1099511627776)∧baseC (xs.drop i.1) i.2 = baseC xs 0∧Has a 26 [(2,.int .i64 i.2),(5,.slice A xs.length c),(6,.int .i64 xs.length),(7,.int .i64 i.1)]∧Sep W w (.rd kComp (.slice A xs.length c) xs::cs)) (fun i=>xs.length - i.1) ((0,0)) ?_ ?_
  · exact ⟨Nat.zero_le _,by decide,rfl,has4 ha rfl rfl rfl rfl,hs⟩
  · rintro i a w ⟨h1,h2,h3,ha,hs⟩;obtain ⟨i,m⟩:=i; simp only at h1 h2 h3 ha hs;refine wp_seq_k fun K4 hK4=>?_;refine wp_region_lit ?_;refine pY ha (yLss rfl rfl) fun a ha=>?_;refine pZ ?_;refine hK4 _ _ ?_;refine wp_seq_k fun K5 hK5=>?_;refine cDec ha rfl (fun hc8=>?_) (fun hc8=>?_)
    · obtain ⟨x,hx⟩ : ∃ x,xs[i]? = some x:=⟨_,List.getElem?_eq_getElem (by omega)⟩
      have hsx:=hsz x (List.mem_of_getElem? hx)
      unfold i64C at hsx;obtain ⟨b0,off,rfl,hs⟩:=hs.rd_comp .here hx;refine wp_skip ?_;refine hK5 _ _ ?_;refine wp_seq_k fun K6 hK6=>?_;refine wp_block ?_;refine wp_seq_k fun K7 hK7=>?_;refine wp_region_lit ?_;refine pY ha (yIndexA Tryz.runUnderlying46 Tryz.sizeOf45 rfl rfl (by omega) (by omega)) fun a ha=>?_;refine pY ha (yLoadRA Tryz.isAgg45 Tryz.sizeOf45 hs rfl pk0 rfl) fun a ha=>?_;refine pAlloc (zs:=[.int .i64 0,.int .i64 0,.string ⟨#[]⟩]) ha Tryz.zeroValue45 rfl hs rfl fun b w hs a ha=>?_;refine pStoreA ha Tryz.sizeOf45 hs rfl rfl pk0 rfl rfl rfl fun w hs=>?_;refine pZ ?_;refine hK7 _ _ ?_;refine wp_seq_k fun K8 hK8=>?_;refine wp_region_lit ?_;refine pY ha (yFieldA Tryz.runUnderlying45 rfl Tryz.sizeOf3 rfl rfl) fun a ha=>?_;refine pY ha (yLoadB Tryz.isAgg3 hs rfl pk0 rfl) fun a ha=>?_;refine pY ha (yEql rfl rfl) fun a ha=>?_;refine pY ha (yMove rfl) fun a ha=>?_;refine gDec (t:=14) ha rfl (fun hg3 hp3=>?_) (fun hg3 hp3=>?_)
      · rw [hg3] at ha;refine gOn ha ?_;refine pY ha (yFieldA Tryz.runUnderlying45 rfl Tryz.sizeOf3 rfl rfl) fun a ha=>?_;refine gOn ha ?_;refine pY ha (yLoadB Tryz.isAgg3 hs rfl pk0 rfl) fun a ha=>?_;refine gOn ha ?_;refine pY ha (yEql rfl rfl) fun a ha=>?_;refine pY ha (yPickF rfl rfl) fun a ha=>?_;refine pZ ?_;refine hK8 _ _ ?_;refine cDec ha rfl (fun hc18=>?_) (fun hc18=>?_)
        · refine wp_region_lit ?_;refine pY ha (yMove rfl) fun a ha=>?_;refine pY ha (yFieldA Tryz.runUnderlying45 rfl Tryz.sizeOf3 rfl rfl) fun a ha=>?_;refine pY ha (yLoadB Tryz.isAgg3 hs rfl pk0 rfl) fun a ha=>?_;refine pY ha (yMax2 rfl rfl) fun a ha=>?_;refine pC ha (nCall Tryz.call129 rfl) rfl (Add_c m (if (0 : Int) > x.n then 0 else x.n) h2 (by split <;> omega) hs) ?_;rintro v w ⟨rfl,hs⟩ a ha;refine pY ha (yAssign rfl) fun a ha=>?_;refine pZ ?_;refine hK6 _ _ ?_;refine wp_region_lit ?_;refine pY ha (yAddN rfl rfl ⟨by omega,by omega⟩) fun a ha=>?_;refine pY ha (yMove rfl) fun a ha=>?_;refine pZ ?_;rw [baseC_at hx] at h3
          have hm:=maxE x.n
          have hao:=addC_ok h2 (x:=max x.n 0) (by omega)
          (rw [if_pos (by omega)] at h3; exact ⟨(i + 1,addC m (max x.n 0)),⟨by simp only; omega,hao,h3,has4 ha (by rw [← hm]; rfl) rfl rfl rfl,hs.drop.drop⟩,by simp only; omega⟩)
        · refine wp_skip ?_;refine hK6 _ _ ?_;refine wp_region_lit ?_;refine pY ha (yAddN rfl rfl ⟨by omega,by omega⟩) fun a ha=>?_;refine pY ha (yMove rfl) fun a ha=>?_;refine pZ ?_;rw [baseC_at hx] at h3
          have hm:=maxE x.n
          have hao:=addC_ok h2 (x:=max x.n 0) (by omega)
          (rw [if_neg (by have:=of_decide_eq_false hg3; omega)] at h3; exact ⟨(i + 1,m),⟨by simp only; omega,h2,h3,has4 ha rfl rfl rfl rfl,hs.drop.drop⟩,by simp only; omega⟩)
      · rw [hg3] at ha;refine gOff ha fun a ha=>?_;refine gOff ha fun a ha=>?_;refine gOff ha fun a ha=>?_;refine pY ha (yPickT rfl rfl) fun a ha=>?_;refine pZ ?_;refine hK8 _ _ ?_;refine cTrue ha rfl ?_;refine wp_region_lit ?_;refine pY ha (yMove rfl) fun a ha=>?_;refine pY ha (yFieldA Tryz.runUnderlying45 rfl Tryz.sizeOf3 rfl rfl) fun a ha=>?_;refine pY ha (yLoadB Tryz.isAgg3 hs rfl pk0 rfl) fun a ha=>?_;refine pY ha (yMax2 rfl rfl) fun a ha=>?_;refine pC ha (nCall Tryz.call129 rfl) rfl (Add_c m (if (0 : Int) > x.n then 0 else x.n) h2 (by split <;> omega) hs) ?_;rintro v w ⟨rfl,hs⟩ a ha;refine pY ha (yAssign rfl) fun a ha=>?_;refine pZ ?_;refine hK6 _ _ ?_;refine wp_region_lit ?_;refine pY ha (yAddN rfl rfl ⟨by omega,by omega⟩) fun a ha=>?_;refine pY ha (yMove rfl) fun a ha=>?_;refine pZ ?_;rw [baseC_at hx] at h3
        have hm:=maxE x.n
        have hao:=addC_ok h2 (x:=max x.n 0) (by omega)
        (rw [if_pos (by (have:=of_decide_eq_true hg3; omega))] at h3; exact ⟨(i + 1,addC m (max x.n 0)),⟨by simp only; omega,hao,h3,has4 ha (by rw [← hm]; rfl) rfl rfl rfl,hs.drop.drop⟩,by simp only; omega⟩)
    · refine wp_exit ?_;refine hK2 _ _ ?_;refine wp_seq_k fun K9 hK9=>?_;refine wp_region_lit ?_;refine pY ha (yMove rfl) fun a ha=>?_;refine pY ha (yAssign rfl) fun a ha=>?_;refine pZ ?_;refine hK9 _ _ ?_;refine wp_ret ?_;show bodyPost Tryz.prog Tryz.f123 _ .ret _ _;refine ret1 rfl ha rfl ?_;rw [List.drop_eq_nil_of_le (by omega)] at h3; exact ⟨congrArg (Value.int .i64) h3,hs.drop⟩
theorem Out_c {A : Option Addr} {n c : Nat} {xs : List Comp} (hsz : ∀ x ∈ xs,i64C x∧x.text.size≤1000000000∧(x.kind = 2→okText x.text.data.toList = true)) (hs : Sep W w cs) (hk : Pick cs (.rd kComp (.slice A n c) xs) r) :
    Calls P 124 #[.slice A n c] w (Rt fun v w'=>v = .int .i64 (outC xs 0)∧Sep W w' cs):=by
  obtain ⟨rfl,hl⟩:=hs.rd_shape hk;unfold maxLen at hl;have hs:=hs.cpR hk;refine enter Tryz.func124 Tryz.ntmps124 rfl rfl fun a (ha : Has a 29 [(0,_)])=>?_;refine wp_seq_k fun K1 hK1=>?_;refine wp_region_lit ?_;refine pY ha (yAssign rfl) fun a ha=>?_;refine pZ ?_;refine hK1 _ _ ?_;refine wp_seq_k fun K2 hK2=>?_;refine wp_seq_k fun K3 hK3=>?_;refine wp_region_lit ?_;refine pY ha (yMove rfl) fun a ha=>?_;refine pY ha (yLenS Tryz.runUnderlying46 rfl) fun a ha=>?_;refine pY ha (yMove rfl) fun a ha=>?_;refine pZ ?_;refine hK3 _ _ ?_;refine wp_block ?_;refine loopI (ι:=Nat × Int) (fun i a w=>i.1≤xs.length∧(0≤i.2∧i.2≤1099511627776)∧outC (xs.drop i.1) i.2 = outC xs 0∧Has a 29 [(2,.int .i64 i.2),(5,.slice A xs.length c),(6,.int .i64 xs.length),(7,.int .i64 i.1)]∧Sep W w (.rd kComp (.slice A xs.length c) xs::cs)) (fun i=>xs.length - i.1) ((0,0)) ?_ ?_
  · exact ⟨Nat.zero_le _,by decide,rfl,has4 ha rfl rfl rfl rfl,hs⟩
  · rintro i a w ⟨h1,h2,h3,ha,hs⟩;obtain ⟨i,m⟩:=i; simp only at h1 h2 h3 ha hs;refine wp_seq_k fun K4 hK4=>?_;refine wp_region_lit ?_;refine pY ha (yLss rfl rfl) fun a ha=>?_;refine pZ ?_;refine hK4 _ _ ?_;refine wp_seq_k fun K5 hK5=>?_;refine cDec ha rfl (fun hc8=>?_) (fun hc8=>?_)
    · obtain ⟨x,hx⟩ : ∃ x,xs[i]? = some x:=⟨_,List.getElem?_eq_getElem (by omega)⟩;obtain ⟨hsx,hsx2,hsx3⟩:=hsz x (List.mem_of_getElem? hx);unfold i64C at hsx
      have hcl:=cnt_le x.text.data.toList
      have hlen : x.text.data.toList.length = x.text.size:=by simp
      obtain ⟨b0,off,rfl,hs⟩:=hs.rd_comp .here hx;refine wp_skip ?_;refine hK5 _ _ ?_;refine wp_seq_k fun K6 hK6=>?_;refine wp_block ?_;refine wp_seq_k fun K7 hK7=>?_;refine wp_region_lit ?_;refine pY ha (yIndexA Tryz.runUnderlying46 Tryz.sizeOf45 rfl rfl (by omega) (by omega)) fun a ha=>?_;refine pY ha (yLoadRA Tryz.isAgg45 Tryz.sizeOf45 hs rfl pk0 rfl) fun a ha=>?_;refine pAlloc (zs:=[.int .i64 0,.int .i64 0,.string ⟨#[]⟩]) ha Tryz.zeroValue45 rfl hs rfl fun b w hs a ha=>?_;refine pStoreA ha Tryz.sizeOf45 hs rfl rfl pk0 rfl rfl rfl fun w hs=>?_;refine pZ ?_;refine hK7 _ _ ?_;refine wp_seq_k fun K8 hK8=>?_;refine wp_region_lit ?_;refine pY ha (yFieldA Tryz.runUnderlying45 rfl Tryz.sizeOf3 rfl rfl) fun a ha=>?_;refine pY ha (yLoadB Tryz.isAgg3 hs rfl pk0 rfl) fun a ha=>?_;refine pZ ?_;refine hK8 _ _ ?_;refine wp_block ?_;refine wp_seq_k fun K9 hK9=>?_;refine wp_region_lit ?_;refine pY ha (yEql rfl rfl) fun a ha=>?_;refine pY ha (yAssign rfl) fun a ha=>?_;refine pZ ?_;refine hK9 _ _ ?_;refine cDec ha rfl (fun hc13=>?_) (fun hc13=>?_)
      · refine wp_region_lit ?_;refine pY ha (yMove rfl) fun a ha=>?_;refine pY ha (yFieldA Tryz.runUnderlying45 rfl Tryz.sizeOf3 rfl rfl) fun a ha=>?_;refine pY ha (yLoadB Tryz.isAgg3 hs rfl pk0 rfl) fun a ha=>?_;refine pY ha (yMax2 rfl rfl) fun a ha=>?_;refine pC ha (nCall Tryz.call129 rfl) rfl (Add_c m (if (0 : Int) > x.n then 0 else x.n) h2 (by split <;> omega) hs) ?_;rintro v w ⟨rfl,hs⟩ a ha;refine pY ha (yAssign rfl) fun a ha=>?_;refine pZ ?_;refine hK6 _ _ ?_;refine wp_region_lit ?_;refine pY ha (yAddN rfl rfl ⟨by omega,by omega⟩) fun a ha=>?_;refine pY ha (yMove rfl) fun a ha=>?_;refine pZ ?_;rw [outC_at hx] at h3
        have hm:=maxE x.n
        have hao:=addC_ok h2 (x:=max x.n 0) (by omega)
        have hao2:=addC_ok h2 (x:=(cnt x.text.data.toList : Int)) (by omega)
        (rw [if_pos hc13] at h3; exact ⟨(i + 1,addC m (max x.n 0)),⟨by simp only; omega,hao,h3,has4 ha (by rw [← hm]; rfl) rfl rfl rfl,hs.drop.drop⟩,by simp only; omega⟩)
      · refine wp_seq_k fun K10 hK10=>?_;refine wp_region_lit ?_;refine pY ha (yEql rfl rfl) fun a ha=>?_;refine pY ha (yAssign rfl) fun a ha=>?_;refine pZ ?_;refine hK10 _ _ ?_;refine cDec ha rfl (fun hc20=>?_) (fun hc20=>?_)
        · refine wp_region_lit ?_;refine pY ha (yMove rfl) fun a ha=>?_;refine pY ha (yFieldA Tryz.runUnderlying45 rfl Tryz.sizeOf9 rfl rfl) fun a ha=>?_;refine pY ha (yLoadB Tryz.isAgg9 hs rfl pk0 rfl) fun a ha=>?_;refine pC ha (nCall Tryz.call109 rfl) rfl (RuneCount_c x.text (hsx3 hc20) (by omega) hs) ?_;rintro v w ⟨rfl,hs⟩ a ha;refine pC ha (nCall Tryz.call129 rfl) rfl (Add_c m (cnt x.text.data.toList) h2 (by omega) hs) ?_;rintro v w ⟨rfl,hs⟩ a ha;refine pY ha (yAssign rfl) fun a ha=>?_;refine pZ ?_;refine hK6 _ _ ?_;refine wp_region_lit ?_;refine pY ha (yAddN rfl rfl ⟨by omega,by omega⟩) fun a ha=>?_;refine pY ha (yMove rfl) fun a ha=>?_;refine pZ ?_;rw [outC_at hx] at h3
          have hm:=maxE x.n
          have hao:=addC_ok h2 (x:=max x.n 0) (by omega)
          have hao2:=addC_ok h2 (x:=(cnt x.text.data.toList : Int)) (by omega)
          (rw [if_neg hc13,if_pos hc20] at h3; exact ⟨(i + 1,addC m (cnt x.text.data.toList)),⟨by simp only; omega,hao2,h3,has4 ha rfl rfl rfl rfl,hs.drop.drop⟩,by simp only; omega⟩)
        · refine wp_skip ?_;refine hK6 _ _ ?_;refine wp_region_lit ?_;refine pY ha (yAddN rfl rfl ⟨by omega,by omega⟩) fun a ha=>?_;refine pY ha (yMove rfl) fun a ha=>?_;refine pZ ?_;rw [outC_at hx] at h3
          have hm:=maxE x.n
          have hao:=addC_ok h2 (x:=max x.n 0) (by omega)
          have hao2:=addC_ok h2 (x:=(cnt x.text.data.toList : Int)) (by omega)
          (rw [if_neg hc13,if_neg hc20] at h3; exact ⟨(i + 1,m),⟨by simp only; omega,h2,h3,has4 ha rfl rfl rfl rfl,hs.drop.drop⟩,by simp only; omega⟩)
    · refine wp_exit ?_;refine hK2 _ _ ?_;refine wp_seq_k fun K11 hK11=>?_;refine wp_region_lit ?_;refine pY ha (yMove rfl) fun a ha=>?_;refine pY ha (yAssign rfl) fun a ha=>?_;refine pZ ?_;refine hK11 _ _ ?_;refine wp_ret ?_;show bodyPost Tryz.prog Tryz.f124 _ .ret _ _;refine ret1 rfl ha rfl ?_;rw [List.drop_eq_nil_of_le (by omega)] at h3; exact ⟨congrArg (Value.int .i64) h3,hs.drop⟩
/-- A part as the machine holds it. -/
def mC (x : Comp) : Prop:=x.n≤9223372036854775807∧x.text.size≤1000000000
theorem OpCheck_c (hT : Tabs W) {A : Option Addr} {n c : Nat} {xs : List Comp} (hsz : ∀ x ∈ xs,mC x) (hs : Sep W w cs) (hk : Pick cs (.rd kComp (.slice A n c) xs) r) :
    Calls P 107 #[.slice A n c] w (Rt fun v w'=>v = .int .i64 (opE xs)∧Sep W w' cs):=by
  obtain ⟨rfl,hl⟩:=hs.rd_shape hk;unfold maxLen at hl;refine enter Tryz.func107 Tryz.ntmps107 rfl rfl fun a (ha : Has a 20 [(0,_)])=>?_;refine wp_seq_k fun K1 hK1=>?_;refine wp_region_lit ?_;refine pY ha (yAssign rfl) fun a ha=>?_;refine pZ ?_;refine hK1 _ _ ?_;refine wp_seq_k fun K2 hK2=>?_;refine wp_block ?_;refine wp_seq_k fun K3 hK3=>?_;refine wp_region_lit ?_;refine pY ha (yMove rfl) fun a ha=>?_;refine pY ha (yLenS Tryz.runUnderlying46 rfl) fun a ha=>?_;refine pY ha (yGtr rfl rfl) fun a ha=>?_;refine pY ha (yAssign rfl) fun a ha=>?_;refine pZ ?_;refine hK3 _ _ ?_;refine cDec ha rfl (fun hc3=>?_) (fun hc3=>?_)
  · refine wp_seq_k fun K4 hK4=>?_;refine wp_region_lit ?_;refine pY ha (yAssign rfl) fun a ha=>?_;refine pZ ?_;refine hK4 _ _ ?_;refine wp_ret ?_;show bodyPost Tryz.prog Tryz.f107 _ .ret _ _;refine ret1 rfl ha rfl ?_;refine ⟨congrArg (Value.int .i64) ?_,hs⟩;unfold opE
    (rw [if_pos (by omega)])
  · refine wp_seq_k fun K5 hK5=>?_;refine wp_region_lit ?_;refine pY ha (yMove rfl) fun a ha=>?_;refine pC ha (nCall Tryz.call122 rfl) rfl (Normal_c hT (xs:=xs) (fun x hx=>by have:=(hsz x hx).2; omega) hs hk) ?_;rintro v w ⟨rfl,hs⟩ a ha;refine pY ha (yNot rfl) fun a ha=>?_;refine pY ha (yAssign rfl) fun a ha=>?_;refine pZ ?_;refine hK5 _ _ ?_;refine cSplit ha rfl (fun hc7=>?_) (fun hc7=>?_)
    · refine wp_seq_k fun K6 hK6=>?_;refine wp_region_lit ?_;refine pY ha (yAssign rfl) fun a ha=>?_;refine pZ ?_;refine hK6 _ _ ?_;refine wp_ret ?_;show bodyPost Tryz.prog Tryz.f107 _ .ret _ _;refine ret1 rfl ha rfl ?_;refine ⟨congrArg (Value.int .i64) ?_,hs⟩;unfold opE
      (rw [if_neg (by omega),if_pos (by simpa using hc7)])
    · have hn : normC xs = true:=by simpa using hc7
      have hO : ∀ x ∈ xs,i64C x∧x.text.size≤1000000000∧(x.kind = 2→okText x.text.data.toList = true):=fun x hx=>by
        obtain ⟨i,hi,rfl⟩:=List.mem_iff_getElem.1 hx
        have hg:=allN_iff.1 hn i hi
        unfold goodC at hg;rw [Bool.and_eq_true,List.getD_eq_getElem?_getD,List.getElem?_eq_getElem hi,Option.getD_some] at hg;refine ⟨(hsz _ hx).1,(hsz _ hx).2,fun hk=>?_⟩
        rcases snd_ok hg.1 with ⟨_,e⟩ | ⟨e,_⟩
        · exact e
        · exact absurd hk e
      refine wp_seq_k fun K7 hK7=>?_;refine wp_region_lit ?_;refine pY ha (yMove rfl) fun a ha=>?_;refine pC ha (nCall Tryz.call123 rfl) rfl (Base_c (xs:=xs) (fun x hx=>(hsz x hx).1) hs hk) ?_;rintro v w ⟨rfl,hs⟩ a ha;refine pY ha (yGtr rfl rfl) fun a ha=>?_;refine pY ha (yMove rfl) fun a ha=>?_;refine gDec (t:=15) ha rfl (fun hg3 hp3=>?_) (fun hg3 hp3=>?_)
      · rw [hg3] at ha
        have hp3:=of_decide_eq_false hg3
        refine gOn ha ?_;refine pY ha (yMove rfl) fun a ha=>?_;refine gOn ha ?_;refine pC ha (nCall Tryz.call124 rfl) rfl (Out_c (xs:=xs) hO hs hk) ?_;rintro v w ⟨rfl,hs⟩ a ha;refine gOn ha ?_;refine pY ha (yGtr rfl rfl) fun a ha=>?_;refine pY ha (yPickF rfl rfl) fun a ha=>?_;refine pY ha (yAssign rfl) fun a ha=>?_;refine pZ ?_;refine hK7 _ _ ?_;refine cDec ha rfl (fun hc11=>?_) (fun hc11=>?_)
        · refine wp_seq_k fun K8 hK8=>?_;refine wp_region_lit ?_;refine pY ha (yAssign rfl) fun a ha=>?_;refine pZ ?_;refine hK8 _ _ ?_;refine wp_ret ?_;show bodyPost Tryz.prog Tryz.f107 _ .ret _ _;refine ret1 rfl ha rfl ?_;refine ⟨congrArg (Value.int .i64) ?_,hs⟩;unfold opE
          (rw [if_neg (by omega),if_neg (by rw [hn]; decide),if_pos (by omega)])
        · refine wp_skip ?_;refine hK2 _ _ ?_;refine wp_seq_k fun K9 hK9=>?_;refine wp_region_lit ?_;refine pY ha (yAssign rfl) fun a ha=>?_;refine pZ ?_;refine hK9 _ _ ?_;refine wp_ret ?_;show bodyPost Tryz.prog Tryz.f107 _ .ret _ _;refine ret1 rfl ha rfl ?_;refine ⟨congrArg (Value.int .i64) ?_,hs⟩;unfold opE
          (rw [if_neg (by omega),if_neg (by rw [hn]; decide),if_neg (by omega)])
      · rw [hg3] at ha
        have hp3:=of_decide_eq_true hg3
        refine gOff ha fun a ha=>?_;refine gOff ha fun a ha=>?_;refine gOff ha fun a ha=>?_;refine pY ha (yPickT rfl rfl) fun a ha=>?_;refine pY ha (yAssign rfl) fun a ha=>?_;refine pZ ?_;refine hK7 _ _ ?_;refine cTrue ha rfl ?_;refine wp_seq_k fun K10 hK10=>?_;refine wp_region_lit ?_;refine pY ha (yAssign rfl) fun a ha=>?_;refine pZ ?_;refine hK10 _ _ ?_;refine wp_ret ?_;show bodyPost Tryz.prog Tryz.f107 _ .ret _ _;refine ret1 rfl ha rfl ?_;refine ⟨congrArg (Value.int .i64) ?_,hs⟩;unfold opE
        (rw [if_neg (by omega),if_neg (by rw [hn]; decide),if_pos (by omega)])
end
end Go.Proofs.YtnlhbkaieoogfaaGreatDoor

set_option linter.unusedVariables false
set_option linter.unusedSimpArgs false
namespace Go.Proofs.YtnlhbkaieoogfaaGreatDoor
open Go.RowKit Go.Lib
/-- An act as the machine holds it. -/
def mA (x : Actn) : Prop:=x.name.size≤1000000000∧x.ops.length≤1000000000∧∀ c ∈ x.ops,mC c
def bad1 (x : Actn) : Prop:=x.kind < 1∨x.kind > 4∨x ≠ plainA x∨x.id < 1∨x.id > 1099511627776
instance (a : Actn) : Decidable (bad1 a):=by unfold bad1; infer_instance
theorem bad_iff (x : Actn) : badA x ↔ bad1 x∨x.parent < 0∨x.parent > 1099511627776∨((x.kind = 1∨x.kind = 3)∧nameOk x.name = false):=by
  unfold badA bad1;simp only [or_assoc]
section
variable {W w : World} {cs r r2 : List Ch}
theorem Names_c {A : Option Addr} {n c : Nat} {x : Actn} (hs : Sep W w cs) :
    Calls P 105 #[.agg [.int .i64 x.kind,.int .i64 x.id,.int .i64 x.parent,.string x.name,.bool x.dir,.slice A n c].toArray] w (Rt fun v w'=>v = .bool (decide (x.kind = 1∨x.kind = 3))∧Sep W w' cs):=by
  refine enter Tryz.func105 Tryz.ntmps105 rfl rfl fun a (ha : Has a 11 [(0,_)])=>?_;refine wp_seq_k fun K1 hK1=>?_;refine wp_region_lit ?_;refine pBox (es:=_) ha rfl rfl hs rfl fun b w hs a ha=>?_;refine pY ha (yAssign rfl) fun a ha=>?_;refine pZ ?_;refine hK1 _ _ ?_;refine wp_seq_k fun K2 hK2=>?_;refine wp_region_lit ?_;refine pY ha (yFieldA Tryz.runUnderlying48 rfl Tryz.sizeOf3 rfl rfl) fun a ha=>?_;refine pY ha (yLoadB Tryz.isAgg3 hs rfl pk0 rfl) fun a ha=>?_;refine pY ha (yEql rfl rfl) fun a ha=>?_;refine pY ha (yMove rfl) fun a ha=>?_;refine gDec (t:=6) ha rfl (fun hg3 hp3=>?_) (fun hg3 hp3=>?_)
  · rw [hg3] at ha;refine gOn ha ?_;refine pY ha (yFieldA Tryz.runUnderlying48 rfl Tryz.sizeOf3 rfl rfl) fun a ha=>?_;refine gOn ha ?_;refine pY ha (yLoadB Tryz.isAgg3 hs rfl pk0 rfl) fun a ha=>?_;refine gOn ha ?_;refine pY ha (yEql rfl rfl) fun a ha=>?_;refine pY ha (yPickF rfl rfl) fun a ha=>?_;refine pY ha (yAssign rfl) fun a ha=>?_;refine pZ ?_;refine hK2 _ _ ?_;refine wp_ret ?_;show bodyPost Tryz.prog Tryz.f105 _ .ret _ _;refine ret1 rfl ha rfl ?_;refine ⟨congrArg Value.bool ?_,hs.drop⟩;exact decide_eq_decide.2 ⟨.inr,fun h=>h.resolve_left (of_decide_eq_false hg3)⟩
  · rw [hg3] at ha;refine gOff ha fun a ha=>?_;refine gOff ha fun a ha=>?_;refine gOff ha fun a ha=>?_;refine pY ha (yPickT rfl rfl) fun a ha=>?_;refine pY ha (yAssign rfl) fun a ha=>?_;refine pZ ?_;refine hK2 _ _ ?_;refine wp_ret ?_;show bodyPost Tryz.prog Tryz.f105 _ .ret _ _;refine ret1 rfl ha rfl ?_;refine ⟨congrArg Value.bool ?_,hs.drop⟩;exact (decide_eq_true (.inl (of_decide_eq_true hg3))).symm
theorem One_c (hT : Tabs W) {A : Option Addr} {n c : Nat} {x : Actn} (hm : mA x) (hs : Sep W w cs) (hk : Pick cs (.rd kComp (.slice A n c) x.ops) r) :
    Calls P 81 #[.agg [.int .i64 x.kind,.int .i64 x.id,.int .i64 x.parent,.string x.name,.bool x.dir,.slice A n c].toArray] w (Rt fun v w'=>v = .int .i64 (oneE x)∧Sep W w' cs):=by
  obtain ⟨hm1,hm2,hm3⟩:=hm;refine enter Tryz.func81 Tryz.ntmps81 rfl rfl fun a (ha : Has a 58 [(0,_)])=>?_;refine wp_seq_k fun K1 hK1=>?_;refine wp_region_lit ?_;refine pBox (es:=_) ha rfl rfl hs rfl fun b1 w hs a ha=>?_;refine pY ha (yAssign rfl) fun a ha=>?_;refine pZ ?_;refine hK1 _ _ ?_;refine wp_seq_k fun K2 hK2=>?_;refine cutC (fun a w=>Has a 58 [(3,.bool (decide (bad1 x))),(1,.pointer (some ⟨b1,0,none⟩))]∧Sep W w (.blk b1 48 [.int .i64 x.kind,.int .i64 x.id,.int .i64 x.parent,.string x.name,.bool x.dir,.slice A n c]::cs)) ?_ ?_
  · refine dStart (fun w=>∃ rs,Sep W w (.blk b1 48 [.int .i64 x.kind,.int .i64 x.id,.int .i64 x.parent,.string x.name,.bool x.dir,.slice A n c]::rs)) [] 67108863 67108863 (by kernel_rfl) (by kernel_rfl) rfl (⟨_,hs.drew.pick pk0⟩) ?_
    have hs:=Sep.drew hs
    generalize World.drew _ = w at hs ⊢;refine dP 0 1 rfl ha (fun _=>yFieldA Tryz.runUnderlying48 rfl Tryz.sizeOf3 rfl rfl) fun a ha=>?_;refine dT 1 3 rfl ha (fun _ ⟨rs,hs⟩=>yLoadB Tryz.isAgg3 hs rfl pk0 rfl) (⟨_,hs.pick pk0⟩) fun a ha=>?_;refine dP 2 7 rfl ha (fun _=>yLss rfl rfl) fun a ha=>?_;refine dP 3 15 rfl ha (fun _=>yMove rfl) fun a ha=>?_;refine gDec (t:=7) ha rfl (fun hg3 hp3=>?_) (fun hg3 hp3=>?_)
    · rw [hg3] at ha;refine dP 4 31 rfl ha (fun _=>yFieldA Tryz.runUnderlying48 rfl Tryz.sizeOf3 rfl rfl) fun a ha=>?_;refine dT 5 63 rfl ha (fun _ ⟨rs,hs⟩=>yLoadB Tryz.isAgg3 hs rfl pk0 rfl) (⟨_,hs.pick pk0⟩) fun a ha=>?_;refine dP 6 127 rfl ha (fun _=>yGtr rfl rfl) fun a ha=>?_;refine dP 7 255 rfl ha (fun _=>yPickF rfl rfl) fun a ha=>?_;refine dP 8 511 rfl ha (fun _=>yMove rfl) fun a ha=>?_;refine gSplit (t:=12) ha rfl (fun hg8=>?_) (fun hg8=>?_)
      · rw [hg8] at ha
        have hp8:=of_decide_eq_false hg8
        refine dT 9 1023 rfl ha (fun _ ⟨rs,hs⟩=>yLoadBA Tryz.isAgg48 Tryz.sizeOf48 hs rfl pk0 rfl) (⟨_,hs.pick pk0⟩) fun a ha=>?_;refine dT 10 2047 rfl ha (fun _ ⟨rs,hs⟩=>yLoadBA Tryz.isAgg48 Tryz.sizeOf48 hs rfl pk0 rfl) (⟨_,hs.pick pk0⟩) fun a ha=>?_;refine dC 11 4095 rfl (by kernel_rfl) rfl ha (won1 rfl rfl rfl) (nCall Tryz.call104 rfl) rfl (PlainA_c (x:=x) hs (.there hk) hm2) ?_;rintro v w ⟨A2,c2,rfl,hs⟩;refine ⟨⟨_,hs.pick pk1⟩,fun a ha=>?_⟩;refine dC 12 8191 rfl (by kernel_rfl) rfl ha (won1 rfl rfl rfl) (nCall Tryz.call87 rfl) rfl (SameA_c (x:=x) (y:=plainA x) hs (.there (.there hk)) .here) ?_;rintro v w ⟨rfl,hs⟩;refine ⟨⟨_,hs.pick pk1⟩,fun a ha=>?_⟩;refine dP 13 16383 rfl ha (fun _=>yNot rfl) fun a ha=>?_;refine dP 14 32767 rfl ha (fun _=>yPickF rfl rfl) fun a ha=>?_;refine dP 15 65535 rfl ha (fun _=>yMove rfl) fun a ha=>?_;refine gSplit (t:=19) ha rfl (fun hg15=>?_) (fun hg15=>?_)
        · rw [hg15] at ha
          have hp15 : x = plainA x:=by simpa using hg15
          refine dP 16 131071 rfl ha (fun _=>yFieldA Tryz.runUnderlying48 rfl Tryz.sizeOf3 rfl rfl) fun a ha=>?_;refine dT 17 262143 rfl ha (fun _ ⟨rs,hs⟩=>yLoadB Tryz.isAgg3 hs rfl pk0 rfl) (⟨_,hs.pick pk1⟩) fun a ha=>?_;refine dP 18 524287 rfl ha (fun _=>yLss rfl rfl) fun a ha=>?_;refine dP 19 1048575 rfl ha (fun _=>yPickF rfl rfl) fun a ha=>?_;refine dP 20 2097151 rfl ha (fun _=>yMove rfl) fun a ha=>?_;refine gSplit (t:=24) ha rfl (fun hg20=>?_) (fun hg20=>?_)
          · rw [hg20] at ha
            have hp20:=of_decide_eq_false hg20
            refine dP 21 4194303 rfl ha (fun _=>yFieldA Tryz.runUnderlying48 rfl Tryz.sizeOf3 rfl rfl) fun a ha=>?_;refine dT 22 8388607 rfl ha (fun _ ⟨rs,hs⟩=>yLoadB Tryz.isAgg3 hs rfl pk0 rfl) (⟨_,hs.pick pk1⟩) fun a ha=>?_;refine dP 23 16777215 rfl ha (fun _=>yGtr rfl rfl) fun a ha=>?_;refine dP 24 33554431 rfl ha (fun _=>yPickF rfl rfl) fun a ha=>?_;refine dP 25 67108863 rfl ha (fun _=>yAssign rfl) fun a ha=>?_;refine dZ (by kernel_rfl) ?_;refine ⟨rfl,?_⟩;exact ⟨has2 ha (bT ⟨fun h=>.inr (.inr (.inr (.inr h))),fun h=>(((h.resolve_left hp3).resolve_left hp8).resolve_left (fun q=>q hp15)).resolve_left hp20⟩) rfl,hs.drop⟩
          · rw [hg20] at ha
            have hp20:=of_decide_eq_true hg20
            refine dOff 21 4194303 rfl ha fun a ha=>?_;refine dOff 22 8388607 rfl ha fun a ha=>?_;refine dOff 23 16777215 rfl ha fun a ha=>?_;refine dP 24 33554431 rfl ha (fun _=>yPickT rfl rfl) fun a ha=>?_;refine dP 25 67108863 rfl ha (fun _=>yAssign rfl) fun a ha=>?_;refine dZ (by kernel_rfl) ?_;refine ⟨rfl,?_⟩;exact ⟨has2 ha (bY (.inr (.inr (.inr (.inl hp20))))) rfl,hs.drop⟩
        · rw [hg15] at ha
          have hp15 : x ≠ plainA x:=by simpa using hg15
          refine dOff 16 131071 rfl ha fun a ha=>?_;refine dOff 17 262143 rfl ha fun a ha=>?_;refine dOff 18 524287 rfl ha fun a ha=>?_;refine dP 19 1048575 rfl ha (fun _=>yPickT rfl rfl) fun a ha=>?_;refine dP 20 2097151 rfl ha (fun _=>yMove rfl) fun a ha=>?_;refine dOff 21 4194303 rfl ha fun a ha=>?_;refine dOff 22 8388607 rfl ha fun a ha=>?_;refine dOff 23 16777215 rfl ha fun a ha=>?_;refine dP 24 33554431 rfl ha (fun _=>yPickT rfl rfl) fun a ha=>?_;refine dP 25 67108863 rfl ha (fun _=>yAssign rfl) fun a ha=>?_;refine dZ (by kernel_rfl) ?_;refine ⟨rfl,?_⟩;exact ⟨has2 ha (bY (.inr (.inr (.inl hp15)))) rfl,hs.drop⟩
      · rw [hg8] at ha
        have hp8:=of_decide_eq_true hg8
        refine dOff 9 1023 rfl ha fun a ha=>?_;refine dOff 10 2047 rfl ha fun a ha=>?_;refine dOff 11 4095 rfl ha fun a ha=>?_;refine dOff 12 8191 rfl ha fun a ha=>?_;refine dOff 13 16383 rfl ha fun a ha=>?_;refine dP 14 32767 rfl ha (fun _=>yPickT rfl rfl) fun a ha=>?_;refine dP 15 65535 rfl ha (fun _=>yMove rfl) fun a ha=>?_;refine dOff 16 131071 rfl ha fun a ha=>?_;refine dOff 17 262143 rfl ha fun a ha=>?_;refine dOff 18 524287 rfl ha fun a ha=>?_;refine dP 19 1048575 rfl ha (fun _=>yPickT rfl rfl) fun a ha=>?_;refine dP 20 2097151 rfl ha (fun _=>yMove rfl) fun a ha=>?_;refine dOff 21 4194303 rfl ha fun a ha=>?_;refine dOff 22 8388607 rfl ha fun a ha=>?_;refine dOff 23 16777215 rfl ha fun a ha=>?_;refine dP 24 33554431 rfl ha (fun _=>yPickT rfl rfl) fun a ha=>?_;refine dP 25 67108863 rfl ha (fun _=>yAssign rfl) fun a ha=>?_;refine dZ (by kernel_rfl) ?_;refine ⟨rfl,?_⟩;exact ⟨has2 ha (bY (.inr (.inl hp8))) rfl,hs⟩
    · rw [hg3] at ha;refine dOff 4 31 rfl ha fun a ha=>?_;refine dOff 5 63 rfl ha fun a ha=>?_;refine dOff 6 127 rfl ha fun a ha=>?_;refine dP 7 255 rfl ha (fun _=>yPickT rfl rfl) fun a ha=>?_;refine dP 8 511 rfl ha (fun _=>yMove rfl) fun a ha=>?_;refine dOff 9 1023 rfl ha fun a ha=>?_;refine dOff 10 2047 rfl ha fun a ha=>?_;refine dOff 11 4095 rfl ha fun a ha=>?_;refine dOff 12 8191 rfl ha fun a ha=>?_;refine dOff 13 16383 rfl ha fun a ha=>?_;refine dP 14 32767 rfl ha (fun _=>yPickT rfl rfl) fun a ha=>?_;refine dP 15 65535 rfl ha (fun _=>yMove rfl) fun a ha=>?_;refine dOff 16 131071 rfl ha fun a ha=>?_;refine dOff 17 262143 rfl ha fun a ha=>?_;refine dOff 18 524287 rfl ha fun a ha=>?_;refine dP 19 1048575 rfl ha (fun _=>yPickT rfl rfl) fun a ha=>?_;refine dP 20 2097151 rfl ha (fun _=>yMove rfl) fun a ha=>?_;refine dOff 21 4194303 rfl ha fun a ha=>?_;refine dOff 22 8388607 rfl ha fun a ha=>?_;refine dOff 23 16777215 rfl ha fun a ha=>?_;refine dP 24 33554431 rfl ha (fun _=>yPickT rfl rfl) fun a ha=>?_;refine dP 25 67108863 rfl ha (fun _=>yAssign rfl) fun a ha=>?_;refine dZ (by kernel_rfl) ?_;refine ⟨rfl,?_⟩;exact ⟨has2 ha (bY (.inl hp3)) rfl,hs⟩
  rintro a w ⟨ha,hs⟩;refine hK2 _ _ ?_;refine wp_seq_k fun K3 hK3=>?_;refine wp_block ?_;refine wp_seq_k fun K4 hK4=>?_;refine cutC (fun a w=>Has a 58 [(29,.bool (decide (badA x))),(1,.pointer (some ⟨b1,0,none⟩))]∧Sep W w (.blk b1 48 [.int .i64 x.kind,.int .i64 x.id,.int .i64 x.parent,.string x.name,.bool x.dir,.slice A n c]::cs)) ?_ ?_
  · refine wp_region_lit ?_;refine pY ha (yMove rfl) fun a ha=>?_;refine pY ha (yMove rfl) fun a ha=>?_;refine gSplit (t:=31) ha rfl (fun hg1=>?_) (fun hg1=>?_)
    · rw [hg1] at ha
      have hp1:=of_decide_eq_false hg1
      refine gOn ha ?_;refine pY ha (yFieldA Tryz.runUnderlying48 rfl Tryz.sizeOf3 rfl rfl) fun a ha=>?_;refine gOn ha ?_;refine pY ha (yLoadB Tryz.isAgg3 hs rfl pk0 rfl) fun a ha=>?_;refine gOn ha ?_;refine pY ha (yLss rfl rfl) fun a ha=>?_;refine pY ha (yPickF rfl rfl) fun a ha=>?_;refine pY ha (yMove rfl) fun a ha=>?_;refine gSplit (t:=36) ha rfl (fun hg6=>?_) (fun hg6=>?_)
      · rw [hg6] at ha
        have hp6:=of_decide_eq_false hg6
        refine gOn ha ?_;refine pY ha (yFieldA Tryz.runUnderlying48 rfl Tryz.sizeOf3 rfl rfl) fun a ha=>?_;refine gOn ha ?_;refine pY ha (yLoadB Tryz.isAgg3 hs rfl pk0 rfl) fun a ha=>?_;refine gOn ha ?_;refine pY ha (yGtr rfl rfl) fun a ha=>?_;refine pY ha (yPickF rfl rfl) fun a ha=>?_;refine pY ha (yMove rfl) fun a ha=>?_;refine gSplit (t:=41) ha rfl (fun hg11=>?_) (fun hg11=>?_)
        · rw [hg11] at ha
          have hp11:=of_decide_eq_false hg11
          refine gOn ha ?_;refine pY ha (yLoadBA Tryz.isAgg48 Tryz.sizeOf48 hs rfl pk0 rfl) fun a ha=>?_;refine gOn ha ?_;refine pC ha (nCall Tryz.call105 rfl) rfl (Names_c (x:=x) hs) ?_;rintro v w ⟨rfl,hs⟩ a ha;refine gOn ha ?_;refine pY ha (yMove rfl) fun a ha=>?_;refine gSplit (t:=44) ha rfl (fun hg14=>?_) (fun hg14=>?_)
          · rw [hg14] at ha
            have hp14:=of_decide_eq_false hg14
            refine gOff ha fun a ha=>?_;refine gOff ha fun a ha=>?_;refine gOff ha fun a ha=>?_;refine gOff ha fun a ha=>?_;refine gOn ha ?_;refine pY ha (yPickF rfl rfl) fun a ha=>?_;refine pY ha (yPickF rfl rfl) fun a ha=>?_;refine pY ha (yAssign rfl) fun a ha=>?_;refine pZ ⟨rfl,?_⟩;exact ⟨has2 ha (bF (fun h=>hp14 (((((bad_iff x).1 h).resolve_left hp1).resolve_left hp6).resolve_left hp11).1)) rfl,hs⟩
          · rw [hg14] at ha
            have hp14:=of_decide_eq_true hg14
            refine gOn ha ?_;refine pY ha (yFieldA Tryz.runUnderlying48 rfl Tryz.sizeOf9 rfl rfl) fun a ha=>?_;refine gOn ha ?_;refine pY ha (yLoadB Tryz.isAgg9 hs rfl pk0 rfl) fun a ha=>?_;refine gOn ha ?_;refine pC ha (nCall Tryz.call106 rfl) rfl (Name_c x.name hm1 hs) ?_;rintro v w ⟨rfl,hs⟩ a ha;refine gOn ha ?_;refine pY ha (yNot rfl) fun a ha=>?_;refine gOn ha ?_;refine pY ha (yPickT rfl rfl) fun a ha=>?_;refine pY ha (yPickF rfl rfl) fun a ha=>?_;refine pY ha (yAssign rfl) fun a ha=>?_;refine pZ ⟨rfl,?_⟩;exact ⟨has2 ha (bN ⟨fun h=>(bad_iff x).2 (.inr (.inr (.inr ⟨hp14,by simpa using h⟩))),fun h=>by have:=(((bad_iff x).1 h).resolve_left hp1 |>.resolve_left hp6).resolve_left hp11; rw [this.2]; rfl⟩) rfl,hs⟩
        · rw [hg11] at ha
          have hp11:=of_decide_eq_true hg11
          refine gOff ha fun a ha=>?_;refine gOff ha fun a ha=>?_;refine gOff ha fun a ha=>?_;refine gOffU ha fun a ha=>?_;refine gOffU ha fun a ha=>?_;refine gOffU ha fun a ha=>?_;refine gOffU ha fun a ha=>?_;refine gOff ha fun a ha=>?_;refine pY ha (yPickT rfl rfl) fun a ha=>?_;refine pY ha (yAssign rfl) fun a ha=>?_;refine pZ ⟨rfl,?_⟩;exact ⟨has2 ha (bY ((bad_iff x).2 (.inr (.inr (.inl hp11))))) rfl,hs⟩
      · rw [hg6] at ha
        have hp6:=of_decide_eq_true hg6
        refine gOff ha fun a ha=>?_;refine gOff ha fun a ha=>?_;refine gOff ha fun a ha=>?_;refine pY ha (yPickT rfl rfl) fun a ha=>?_;refine pY ha (yMove rfl) fun a ha=>?_;refine gOff ha fun a ha=>?_;refine gOff ha fun a ha=>?_;refine gOff ha fun a ha=>?_;refine gOffU ha fun a ha=>?_;refine gOffU ha fun a ha=>?_;refine gOffU ha fun a ha=>?_;refine gOffU ha fun a ha=>?_;refine gOff ha fun a ha=>?_;refine pY ha (yPickT rfl rfl) fun a ha=>?_;refine pY ha (yAssign rfl) fun a ha=>?_;refine pZ ⟨rfl,?_⟩;exact ⟨has2 ha (bY ((bad_iff x).2 (.inr (.inl hp6)))) rfl,hs⟩
    · rw [hg1] at ha
      have hp1:=of_decide_eq_true hg1
      refine gOff ha fun a ha=>?_;refine gOff ha fun a ha=>?_;refine gOff ha fun a ha=>?_;refine pY ha (yPickT rfl rfl) fun a ha=>?_;refine pY ha (yMove rfl) fun a ha=>?_;refine gOff ha fun a ha=>?_;refine gOff ha fun a ha=>?_;refine gOff ha fun a ha=>?_;refine pY ha (yPickT rfl rfl) fun a ha=>?_;refine pY ha (yMove rfl) fun a ha=>?_;refine gOff ha fun a ha=>?_;refine gOff ha fun a ha=>?_;refine gOff ha fun a ha=>?_;refine gOffU ha fun a ha=>?_;refine gOffU ha fun a ha=>?_;refine gOffU ha fun a ha=>?_;refine gOffU ha fun a ha=>?_;refine gOff ha fun a ha=>?_;refine pY ha (yPickT rfl rfl) fun a ha=>?_;refine pY ha (yAssign rfl) fun a ha=>?_;refine pZ ⟨rfl,?_⟩;exact ⟨has2 ha (bY ((bad_iff x).2 (.inl hp1))) rfl,hs⟩
  rintro a w ⟨ha,hs⟩;refine hK4 _ _ ?_;refine cDec ha rfl (fun hc29=>?_) (fun hc29=>?_)
  · refine wp_seq_k fun K5 hK5=>?_;refine wp_region_lit ?_;refine pY ha (yAssign rfl) fun a ha=>?_;refine pZ ?_;refine hK5 _ _ ?_;refine wp_ret ?_;show bodyPost Tryz.prog Tryz.f81 _ .ret _ _;refine ret1 rfl ha rfl ?_;refine ⟨congrArg (Value.int .i64) ?_,hs.drop⟩;unfold oneE
    (rw [if_pos hc29])
  · refine wp_seq_k fun K6 hK6=>?_;refine wp_region_lit ?_;refine pY ha (yFieldA Tryz.runUnderlying48 rfl Tryz.sizeOf3 rfl rfl) fun a ha=>?_;refine pY ha (yLoadB Tryz.isAgg3 hs rfl pk0 rfl) fun a ha=>?_;refine pY ha (yEql rfl rfl) fun a ha=>?_;refine pY ha (yAssign rfl) fun a ha=>?_;refine pZ ?_;refine hK6 _ _ ?_;refine cDec ha rfl (fun hc51=>?_) (fun hc51=>?_)
    · refine wp_seq_k fun K7 hK7=>?_;refine wp_region_lit ?_;refine pY ha (yFieldA Tryz.runUnderlying48 rfl Tryz.sizeOf46 rfl rfl) fun a ha=>?_;refine pY ha (yLoadB Tryz.isAgg46 hs rfl pk0 rfl) fun a ha=>?_;refine pC ha (nCall Tryz.call107 rfl) rfl (OpCheck_c hT (xs:=x.ops) hm3 hs (.there hk)) ?_;rintro v w ⟨rfl,hs⟩ a ha;refine pY ha (yAssign rfl) fun a ha=>?_;refine pZ ?_;refine hK7 _ _ ?_;refine wp_ret ?_;show bodyPost Tryz.prog Tryz.f81 _ .ret _ _;refine ret1 rfl ha rfl ?_;refine ⟨congrArg (Value.int .i64) ?_,hs.drop⟩;unfold oneE
      (rw [if_neg hc29,if_pos hc51])
    · refine wp_skip ?_;refine hK3 _ _ ?_;refine wp_seq_k fun K8 hK8=>?_;refine wp_region_lit ?_;refine pY ha (yAssign rfl) fun a ha=>?_;refine pZ ?_;refine hK8 _ _ ?_;refine wp_ret ?_;show bodyPost Tryz.prog Tryz.f81 _ .ret _ _;refine ret1 rfl ha rfl ?_;refine ⟨congrArg (Value.int .i64) ?_,hs.drop⟩;unfold oneE
      (rw [if_neg hc29,if_neg hc51])
theorem TwinF_c {A A2 : Option Addr} {n n2 c c2 ba : Nat} {x a : Actn} (hs : Sep W w cs) (hk : Pick cs (.blk ba 48 [.int .i64 a.kind,.int .i64 a.id,.int .i64 a.parent,.string a.name,.bool a.dir,.slice A2 n2 c2]) r) :
    Calls P 83 #[.agg [.int .i64 x.kind,.int .i64 x.id,.int .i64 x.parent,.string x.name,.bool x.dir,.slice A n c].toArray,.pointer (some ⟨ba,0,none⟩)] w (Rt fun v w'=>v = .bool (decide (x.kind = 4∧x.id = a.id))∧Sep W w' cs):=by
  have hs:=hs.pick hk
  have hk2:=hk
  refine enter Tryz.func83 Tryz.ntmps83 rfl rfl fun a (ha : Has a 14 [(0,_),(1,_)])=>?_;refine wp_seq_k fun K1 hK1=>?_;refine wp_region_lit ?_;refine pBox (es:=_) ha rfl rfl hs rfl fun b w hs a ha=>?_;refine pY ha (yAssign rfl) fun a ha=>?_;refine pZ ?_;refine hK1 _ _ ?_;refine wp_seq_k fun K2 hK2=>?_;refine wp_region_lit ?_;refine pY ha (yFieldA Tryz.runUnderlying48 rfl Tryz.sizeOf3 rfl rfl) fun a ha=>?_;refine pY ha (yLoadB Tryz.isAgg3 hs rfl pk0 rfl) fun a ha=>?_;refine pY ha (yEql rfl rfl) fun a ha=>?_;refine pY ha (yMove rfl) fun a ha=>?_;refine gDec (t:=7) ha rfl (fun hg3 hp3=>?_) (fun hg3 hp3=>?_)
  · rw [hg3] at ha;refine gOff ha fun a ha=>?_;refine gOff ha fun a ha=>?_;refine gOff ha fun a ha=>?_;refine gOff ha fun a ha=>?_;refine gOff ha fun a ha=>?_;refine pY ha (yPickF rfl rfl) fun a ha=>?_;refine pY ha (yAssign rfl) fun a ha=>?_;refine pZ ?_;refine hK2 _ _ ?_;refine wp_ret ?_;show bodyPost Tryz.prog Tryz.f83 _ .ret _ _;refine ret1 rfl ha rfl ?_;refine ⟨congrArg Value.bool ?_,hs.drop.unpick hk2⟩;exact (decide_eq_false (fun h=>of_decide_eq_false hg3 h.1)).symm
  · rw [hg3] at ha;refine gOn ha ?_;refine pY ha (yFieldA Tryz.runUnderlying48 rfl Tryz.sizeOf3 rfl rfl) fun a ha=>?_;refine gOn ha ?_;refine pY ha (yLoadB Tryz.isAgg3 hs rfl pk0 rfl) fun a ha=>?_;refine gOn ha ?_;refine pY ha (yFieldA Tryz.runUnderlying48 rfl Tryz.sizeOf3 rfl rfl) fun a ha=>?_;refine gOn ha ?_;refine pY ha (yLoadB Tryz.isAgg3 hs rfl pk1 rfl) fun a ha=>?_;refine gOn ha ?_;refine pY ha (yEql rfl rfl) fun a ha=>?_;refine pY ha (yPickT rfl rfl) fun a ha=>?_;refine pY ha (yAssign rfl) fun a ha=>?_;refine pZ ?_;refine hK2 _ _ ?_;refine wp_ret ?_;show bodyPost Tryz.prog Tryz.f83 _ .ret _ _;refine ret1 rfl ha rfl ?_;refine ⟨congrArg Value.bool ?_,hs.drop.unpick hk2⟩;exact decide_eq_decide.2 ⟨fun h=>⟨of_decide_eq_true hg3,h⟩,fun h=>h.2⟩
theorem any_at {α : Type} {f : α→Bool} {xs : List α} {i : Nat} {x : α} (h : (xs.take i).any f = false) (hx : xs[i]? = some x) (hf : f x = false) : (xs.take (i + 1)).any f = false:=by
  rw [List.take_add_one,hx]; simp only [Option.toList,List.any_append,h,List.any_cons,hf,List.any_nil,Bool.or_self]
theorem any_yes {α : Type} {f : α→Bool} {xs : List α} {i : Nat} {x : α} (hx : xs[i]? = some x) (hf : f x = true) : xs.any f = true:=List.any_eq_true.2 ⟨x,List.mem_of_getElem? hx,hf⟩
theorem IndexA_c {A A2 : Option Addr} {n n2 c c2 ba : Nat} {xs : List Actn} {a0 : Actn} (hs : Sep W w cs) (hk : Pick cs (.rd kActn (.slice A n c) xs) r) (hk2 : Pick cs (.blk ba 48 [.int .i64 a0.kind,.int .i64 a0.id,.int .i64 a0.parent,.string a0.name,.bool a0.dir,.slice A2 n2 c2]) r2) :
    Calls P 108 #[.slice A n c,.func (.func 83) #[] #[.pointer (some ⟨ba,0,none⟩)]] w (Rt fun v w'=>∃ k : Int,v = .int .i64 k∧(0≤k ↔ twinA xs a0 = true)∧Sep W w' cs):=by
  obtain ⟨rfl,hl⟩:=hs.rd_shape hk;unfold maxLen at hl;have hs:=hs.cpR hk
  have hk3:=hk2
  refine enter Tryz.func108 Tryz.ntmps108 rfl rfl fun a (ha : Has a 19 [(0,_),(1,_)])=>?_;refine wp_seq_k fun K1 hK1=>?_;refine wp_region_lit ?_;refine pY ha (yAssign rfl) fun a ha=>?_;refine pZ ?_;refine hK1 _ _ ?_;refine wp_seq_k fun K2 hK2=>?_;refine wp_seq_k fun K3 hK3=>?_;refine wp_region_lit ?_;refine pY ha (yMove rfl) fun a ha=>?_;refine pY ha (yLenS Tryz.runUnderlying22 rfl) fun a ha=>?_;refine pY ha (yMove rfl) fun a ha=>?_;refine pZ ?_;refine hK3 _ _ ?_;refine wp_block ?_;refine loopI (ι:=Nat) (fun i a w=>i≤xs.length∧twinA (xs.take i) a0 = false∧Has a 19 [(0,.slice A xs.length c),(1,.func (.func 83) #[] #[.pointer (some ⟨ba,0,none⟩)]),(7,.int .i64 xs.length),(8,.int .i64 i)]∧Sep W w (.rd kActn (.slice A xs.length c) xs::cs)) (fun i=>xs.length - i) (0) ?_ ?_
  · exact ⟨Nat.zero_le _,rfl,has4 ha rfl rfl rfl rfl,hs⟩
  · rintro i a w ⟨h1,h2,ha,hs⟩;refine wp_seq_k fun K4 hK4=>?_;refine wp_region_lit ?_;refine pY ha (yLss rfl rfl) fun a ha=>?_;refine pZ ?_;refine hK4 _ _ ?_;refine wp_seq_k fun K5 hK5=>?_;refine cDec ha rfl (fun hc9=>?_) (fun hc9=>?_)
    · obtain ⟨x,hx⟩ : ∃ x,xs[i]? = some x:=⟨_,List.getElem?_eq_getElem (by omega)⟩;obtain ⟨b0,off,A',n',c',rfl,hs⟩:=hs.rd_actn .here hx;refine wp_skip ?_;refine hK5 _ _ ?_;refine wp_seq_k fun K6 hK6=>?_;refine wp_block ?_;refine wp_seq_k fun K7 hK7=>?_;refine wp_region_lit ?_;refine pY ha (yMove rfl) fun a ha=>?_;refine pY ha (yAssign rfl) fun a ha=>?_;refine pZ ?_;refine hK7 _ _ ?_;refine wp_seq_k fun K8 hK8=>?_;refine wp_region_lit ?_;refine pY ha (yMove rfl) fun a ha=>?_;refine pY ha (yMove rfl) fun a ha=>?_;refine pY ha (yMove rfl) fun a ha=>?_;refine pY ha (yIndexA Tryz.runUnderlying22 Tryz.sizeOf48 rfl rfl (by omega) (by omega)) fun a ha=>?_;refine pY ha (yLoadRA Tryz.isAgg48 Tryz.sizeOf48 hs rfl pk0 rfl) fun a ha=>?_;refine pC ha (nCallV (cl:=[.pointer (some ⟨ba,0,none⟩)]) Tryz.call83 rfl rfl rfl) rfl (TwinF_c (x:=x) (a:=a0) hs (.there (.there (.there hk3)))) ?_;rintro v w ⟨rfl,hs⟩ a ha;refine pZ ?_;refine hK8 _ _ ?_;refine cDec ha rfl (fun hc16=>?_) (fun hc16=>?_)
      · refine wp_seq_k fun K9 hK9=>?_;refine wp_region_lit ?_;refine pY ha (yMove rfl) fun a ha=>?_;refine pY ha (yAssign rfl) fun a ha=>?_;refine pZ ?_;refine hK9 _ _ ?_;refine wp_ret ?_;show bodyPost Tryz.prog Tryz.f108 _ .ret _ _;refine ret1 rfl ha rfl ?_;exact ⟨i,rfl,⟨fun _=>any_yes hx (decide_eq_true hc16),fun _=>by omega⟩,hs.drop.drop.drop⟩
      · refine wp_skip ?_;refine hK6 _ _ ?_;refine wp_region_lit ?_;refine pY ha (yAddN rfl rfl ⟨by omega,by omega⟩) fun a ha=>?_;refine pY ha (yMove rfl) fun a ha=>?_;refine pZ ?_;exact ⟨i + 1,⟨by omega,any_at h2 hx (decide_eq_false hc16),has4 ha rfl rfl rfl rfl,hs.drop.drop⟩,by omega⟩
    · refine wp_exit ?_;refine hK2 _ _ ?_;refine wp_seq_k fun K10 hK10=>?_;refine wp_region_lit ?_;refine pY ha (yAssign rfl) fun a ha=>?_;refine pZ ?_;refine hK10 _ _ ?_;refine wp_ret ?_;show bodyPost Tryz.prog Tryz.f108 _ .ret _ _;refine ret1 rfl ha rfl ?_;rw [List.take_of_length_le (by omega)] at h2; exact ⟨-1,rfl,⟨fun h=>absurd h (by decide),fun h=>by rw [h2] at h; cases h⟩,hs.drop⟩
theorem ContainsA_c {A A2 : Option Addr} {n n2 c c2 ba : Nat} {xs : List Actn} {a0 : Actn} (hs : Sep W w cs) (hk : Pick cs (.rd kActn (.slice A n c) xs) r) (hk2 : Pick cs (.blk ba 48 [.int .i64 a0.kind,.int .i64 a0.id,.int .i64 a0.parent,.string a0.name,.bool a0.dir,.slice A2 n2 c2]) r2) :
    Calls P 82 #[.slice A n c,.func (.func 83) #[] #[.pointer (some ⟨ba,0,none⟩)]] w (Rt fun v w'=>v = .bool (twinA xs a0)∧Sep W w' cs):=by
  refine enter Tryz.func82 Tryz.ntmps82 rfl rfl fun a (ha : Has a 9 [(0,_),(1,_)])=>?_;refine wp_seq_k fun K1 hK1=>?_;refine wp_region_lit ?_;refine pY ha (yAssign rfl) fun a ha=>?_;refine pZ ?_;refine hK1 _ _ ?_;refine wp_seq_k fun K2 hK2=>?_;refine wp_region_lit ?_;refine pY ha (yMove rfl) fun a ha=>?_;refine pY ha (yMove rfl) fun a ha=>?_;refine pC ha (nCall Tryz.call108 rfl) rfl (IndexA_c (a0:=a0) hs hk hk2) ?_;rintro v w ⟨k,rfl,hkk,hs⟩ a ha;refine pY ha (yGeq rfl rfl) fun a ha=>?_;refine pY ha (yAssign rfl) fun a ha=>?_;refine pZ ?_;refine hK2 _ _ ?_;refine wp_ret ?_;show bodyPost Tryz.prog Tryz.f82 _ .ret _ _;refine ret1 rfl ha rfl ?_;refine ⟨congrArg Value.bool ?_,hs⟩;rw [Bool.eq_iff_iff,decide_eq_true_eq]; exact hkk
theorem putsC_append (a b : List Comp) : putsC (a++b) = putsC a + putsC b:=by
  induction a with
  | nil=>simp [putsC]
  | cons x r ih=>simp only [List.cons_append,putsC,ih]; omega
theorem putsA_append (a b : List Actn) : putsA (a++b) = putsA a + putsA b:=by
  induction a with
  | nil=>simp [putsA]
  | cons x r ih=>simp only [List.cons_append,putsA,ih]; omega
theorem putsC_le {B : Nat} : ∀ (l : List Comp),(∀ c ∈ l,c.text.size≤B)→putsC l≤l.length * B
  | [],_=>by simp [putsC]
  | c::r,h=>by
    have h1:=putsC_le r (fun x hx=>h x (by simp [hx]))
    have h2:=h c (by simp)
    have h3:=cnt_le c.text.data.toList
    have h4 : c.text.data.toList.length = c.text.size:=by simp
    simp only [putsC,List.length_cons,Nat.add_mul,Nat.one_mul]
    split <;> omega
theorem putsA_le {B : Nat} : ∀ (l : List Actn),(∀ a ∈ l,putsC a.ops≤B)→putsA l≤l.length * B
  | [],_=>by simp [putsA]
  | a::r,h=>by
    have h1:=putsA_le r (fun x hx=>h x (by simp [hx]))
    have h2:=h a (by simp)
    simp only [putsA,List.length_cons,Nat.add_mul,Nat.one_mul]
    omega
/-- Acts whose texts may be, and not too many. -/
def fitA (x : Actn) : Prop:=x.ops.length≤100∧∀ c ∈ x.ops,c.text.size≤1000000000∧(c.kind = 2→okText c.text.data.toList = true)
theorem Puts_c {A : Option Addr} {n c : Nat} {xs : List Actn} (hn : xs.length≤20) (hf : ∀ x ∈ xs,fitA x) (hs : Sep W w cs) (hk : Pick cs (.rd kActn (.slice A n c) xs) r) :
    Calls P 84 #[.slice A n c] w (Rt fun v w'=>v = .int .i64 (putsA xs)∧Sep W w' cs):=by
  obtain ⟨rfl,hl⟩:=hs.rd_shape hk;unfold maxLen at hl;have hs:=hs.cpR hk
  have hB : ∀ x ∈ xs,putsC x.ops≤100000000000:=fun x hx=>by
    obtain ⟨g1,g2⟩:=hf x hx
    have:=putsC_le (B:=1000000000) x.ops (fun c hc=>(g2 c hc).1)
    have : x.ops.length * 1000000000≤100 * 1000000000:=Nat.mul_le_mul_right _ g1
    omega
  refine enter Tryz.func84 Tryz.ntmps84 rfl rfl fun a (ha : Has a 31 [(0,_)])=>?_;refine wp_seq_k fun K1 hK1=>?_;refine wp_region_lit ?_;refine pY ha (yAssign rfl) fun a ha=>?_;refine pZ ?_;refine hK1 _ _ ?_;refine wp_seq_k fun K2 hK2=>?_;refine wp_seq_k fun K3 hK3=>?_;refine wp_region_lit ?_;refine pY ha (yMove rfl) fun a ha=>?_;refine pY ha (yLenS Tryz.runUnderlying22 rfl) fun a ha=>?_;refine pY ha (yMove rfl) fun a ha=>?_;refine pZ ?_;refine hK3 _ _ ?_;refine wp_block ?_;refine loopI (ι:=Nat) (fun i a w=>i≤xs.length∧Has a 31 [(2,.int .i64 (putsA (xs.take i))),(7,.slice A xs.length c),(8,.int .i64 xs.length),(9,.int .i64 i)]∧Sep W w (.rd kActn (.slice A xs.length c) xs::cs)) (fun i=>xs.length - i) (0) ?_ ?_
  · exact ⟨Nat.zero_le _,has4 ha rfl rfl rfl rfl,hs⟩
  · rintro i a w ⟨h1,ha,hs⟩;refine wp_seq_k fun K4 hK4=>?_;refine wp_region_lit ?_;refine pY ha (yLss rfl rfl) fun a ha=>?_;refine pZ ?_;refine hK4 _ _ ?_;refine wp_seq_k fun K5 hK5=>?_;refine cDec ha rfl (fun hc10=>?_) (fun hc10=>?_)
    · obtain ⟨x,hx⟩ : ∃ x,xs[i]? = some x:=⟨_,List.getElem?_eq_getElem (by omega)⟩;obtain ⟨hx1,hx2⟩:=hf x (List.mem_of_getElem? hx)
      have hp1:=putsA_le (B:=100000000000) (xs.take i) (fun y hy=>hB y (List.mem_of_mem_take hy))
      rw [List.length_take,Nat.min_eq_left (by omega)] at hp1;obtain ⟨b0,off,A',n',c',rfl,hs⟩:=hs.rd_actn .here hx;obtain ⟨rfl,hl2⟩:=hs.rd_shape (.there .here);refine wp_skip ?_;refine hK5 _ _ ?_;refine wp_seq_k fun K6 hK6=>?_;refine wp_block ?_;refine wp_seq_k fun K7 hK7=>?_;refine wp_region_lit ?_;refine pY ha (yIndexA Tryz.runUnderlying22 Tryz.sizeOf48 rfl rfl (by omega) (by omega)) fun a ha=>?_;refine pY ha (yLoadRA Tryz.isAgg48 Tryz.sizeOf48 hs rfl pk0 rfl) fun a ha=>?_;refine pAlloc (zs:=[.int .i64 0,.int .i64 0,.int .i64 0,.string ⟨#[]⟩,.bool false,.slice none 0 0]) ha Tryz.zeroValue48 rfl hs rfl fun b w hs a ha=>?_;refine pStoreA ha Tryz.sizeOf48 hs rfl rfl pk0 rfl rfl rfl fun w hs=>?_;refine pZ ?_;refine hK7 _ _ ?_;refine wp_seq_k fun K8 hK8=>?_;refine wp_region_lit ?_;refine pY ha (yFieldA Tryz.runUnderlying48 rfl Tryz.sizeOf46 rfl rfl) fun a ha=>?_;refine pY ha (yLoadB Tryz.isAgg46 hs rfl pk0 rfl) fun a ha=>?_;refine pY ha (yLenS Tryz.runUnderlying46 rfl) fun a ha=>?_;refine pY ha (yMove rfl) fun a ha=>?_;refine pZ ?_;refine hK8 _ _ ?_;refine wp_block ?_;refine loopI (ι:=Nat) (fun j a w=>j≤x.ops.length∧Has a 31 [(2,.int .i64 ((putsA (xs.take i) + putsC (x.ops.take j) : Nat) : Int)),(7,.slice (some ⟨b0,off,none⟩) xs.length c),(8,.int .i64 xs.length),(9,.int .i64 i),(14,.slice A' x.ops.length c'),(15,.int .i64 x.ops.length),(16,.int .i64 j)]∧Sep W w (.rd kComp (.slice A' x.ops.length c') x.ops::.rd kActn (.slice (some ⟨b0,off,none⟩) xs.length c) xs::cs)) (fun j=>x.ops.length - j) (0) ?_ ?_
      · exact ⟨Nat.zero_le _,ha.cons (has6 ha rfl rfl rfl rfl rfl rfl) rfl,(hs.pick (.there (.there .here))).drop2.drop2⟩
      · rintro j a w ⟨g1,ha,hs⟩;refine wp_seq_k fun K9 hK9=>?_;refine wp_region_lit ?_;refine pY ha (yLss rfl rfl) fun a ha=>?_;refine pZ ?_;refine hK9 _ _ ?_;refine wp_seq_k fun K10 hK10=>?_;refine cDec ha rfl (fun hc17=>?_) (fun hc17=>?_)
        · obtain ⟨y,hy⟩ : ∃ y,x.ops[j]? = some y:=⟨_,List.getElem?_eq_getElem (by omega)⟩;obtain ⟨hy1,hy2⟩:=hx2 y (List.mem_of_getElem? hy)
          have hcl:=cnt_le y.text.data.toList
          have hlen : y.text.data.toList.length = y.text.size:=by simp
          have hp2:=putsC_le (B:=1000000000) (x.ops.take j) (fun z hz=>(hx2 z (List.mem_of_mem_take hz)).1)
          rw [List.length_take,Nat.min_eq_left (by omega)] at hp2;obtain ⟨b1,off1,rfl,hs⟩:=hs.rd_comp .here hy;refine wp_skip ?_;refine hK10 _ _ ?_;refine wp_seq_k fun K11 hK11=>?_;refine wp_block ?_;refine wp_seq_k fun K12 hK12=>?_;refine wp_region_lit ?_;refine pY ha (yIndexA Tryz.runUnderlying46 Tryz.sizeOf45 rfl rfl (by omega) (by omega)) fun a ha=>?_;refine pY ha (yLoadRA Tryz.isAgg45 Tryz.sizeOf45 hs rfl pk0 rfl) fun a ha=>?_;refine pAlloc (zs:=[.int .i64 0,.int .i64 0,.string ⟨#[]⟩]) ha Tryz.zeroValue45 rfl hs rfl fun b w hs a ha=>?_;refine pStoreA ha Tryz.sizeOf45 hs rfl rfl pk0 rfl rfl rfl fun w hs=>?_;refine pZ ?_;refine hK12 _ _ ?_;refine wp_seq_k fun K13 hK13=>?_;refine wp_region_lit ?_;refine pY ha (yFieldA Tryz.runUnderlying45 rfl Tryz.sizeOf3 rfl rfl) fun a ha=>?_;refine pY ha (yLoadB Tryz.isAgg3 hs rfl pk0 rfl) fun a ha=>?_;refine pY ha (yEql rfl rfl) fun a ha=>?_;refine pZ ?_;refine hK13 _ _ ?_;refine cDec ha rfl (fun hc22=>?_) (fun hc22=>?_)
          · refine wp_region_lit ?_;refine pY ha (yMove rfl) fun a ha=>?_;refine pY ha (yFieldA Tryz.runUnderlying45 rfl Tryz.sizeOf9 rfl rfl) fun a ha=>?_;refine pY ha (yLoadB Tryz.isAgg9 hs rfl pk0 rfl) fun a ha=>?_;refine pC ha (nCall Tryz.call109 rfl) rfl (RuneCount_c y.text (hy2 hc22) (by omega) hs) ?_;rintro v w ⟨rfl,hs⟩ a ha;refine pY ha (yAddN rfl rfl ⟨by omega,by omega⟩) fun a ha=>?_;refine pY ha (yAssign rfl) fun a ha=>?_;refine pZ ?_;refine hK11 _ _ ?_;refine wp_region_lit ?_;refine pY ha (yAddN rfl rfl ⟨by omega,by omega⟩) fun a ha=>?_;refine pY ha (yMove rfl) fun a ha=>?_;refine pZ ?_;refine ⟨j + 1,⟨by omega,?_,hs.drop.drop⟩,by omega⟩
            have e1 : putsC (x.ops.take (j + 1)) = putsC (x.ops.take j) + (if y.kind = 2 then cnt y.text.data.toList else 0):=by rw [List.take_add_one,hy,putsC_append]; simp [putsC]
            (rw [if_pos hc22] at e1; rw [e1,← Nat.add_assoc]; exact ha.cons (has6 ha rfl rfl rfl rfl rfl rfl) rfl)
          · refine wp_skip ?_;refine hK11 _ _ ?_;refine wp_region_lit ?_;refine pY ha (yAddN rfl rfl ⟨by omega,by omega⟩) fun a ha=>?_;refine pY ha (yMove rfl) fun a ha=>?_;refine pZ ?_;refine ⟨j + 1,⟨by omega,?_,hs.drop.drop⟩,by omega⟩
            have e1 : putsC (x.ops.take (j + 1)) = putsC (x.ops.take j) + (if y.kind = 2 then cnt y.text.data.toList else 0):=by rw [List.take_add_one,hy,putsC_append]; simp [putsC]
            (rw [if_neg hc22] at e1; rw [e1]; exact ha.cons (has6 ha rfl rfl rfl rfl rfl rfl) rfl)
        · refine wp_exit ?_;refine hK6 _ _ ?_;refine wp_region_lit ?_;refine pY ha (yAddN rfl rfl ⟨by omega,by omega⟩) fun a ha=>?_;refine pY ha (yMove rfl) fun a ha=>?_;refine pZ ?_;refine ⟨i + 1,⟨by omega,?_,hs.drop⟩,by omega⟩;rw [show x.ops.take j = x.ops from List.take_of_length_le (by omega)] at ha
          have e1 : putsA (xs.take (i + 1)) = putsA (xs.take i) + putsC x.ops:=by rw [List.take_add_one,hx,putsA_append]; simp [putsA]
          rw [e1];exact has4 ha rfl rfl rfl rfl
    · refine wp_exit ?_;refine hK2 _ _ ?_;refine wp_seq_k fun K14 hK14=>?_;refine wp_region_lit ?_;refine pY ha (yMove rfl) fun a ha=>?_;refine pY ha (yAssign rfl) fun a ha=>?_;refine pZ ?_;refine hK14 _ _ ?_;refine wp_ret ?_;show bodyPost Tryz.prog Tryz.f84 _ .ret _ _;refine ret1 rfl ha rfl ?_;rw [List.take_of_length_le (by omega)]; exact ⟨rfl,hs.drop⟩
end
end Go.Proofs.YtnlhbkaieoogfaaGreatDoor

set_option linter.unusedVariables false
set_option linter.unusedSimpArgs false
namespace Go.Proofs.YtnlhbkaieoogfaaGreatDoor
open Go.RowKit Go.Lib
theorem bslChk93_3_0_1_2 {w : World} {l : List (Nat × Value)} {T : TypeId} {x0 x1 x2 : Operand} {v0 : Value} (h0 : ev l x0 = some v0) {v1 : Value} (h1 : ev l x1 = some v1) {v2 : Value} (h2 : ev l x2 = some v2) (o0 : v0.cells = #[v0]:=by rfl) (o1 : v1.cells = #[v1]:=by rfl) (o2 : v2.cells = #[v2]:=by rfl) : Mk Tryz.prog w l (.buildSlice 93 3 #[(0,x0),(1,x1),(2,x2)]) T 3 3 [v0,v1,v2]:=fun ρ o h ho _=>by
  have hm:=mkvs (P:=Tryz.prog) [v0,v1,v2] w Tryz.runUnderlying93 Tryz.sizeOf3 Tryz.zeroValue3 (by intro v hv; simp at hv; rcases hv with rfl | rfl | rfl <;> assumption) (by simp) (by simp)
  unfold execOp; rw [ho];simp only [h _ _ h0,h _ _ h1,h _ _ h2,List.map_toArray,List.map_cons,List.map_nil];simp only [List.length_cons,List.length_nil,prt] at hm
  simp at hm
  simp [hm]
theorem txn_err {l : List Actn} {i : Nat} (hn : l.length≤20) (h0 : fe (actE l) i = 0) (hi : i < l.length) (h : actE l i ≠ 0) : txnE l = actE l i:=by
  unfold txnE
  have:=fe_at h0 h hi
  rw [if_neg (by omega),this,if_pos h]
theorem txn_end {l : List Actn} (hn : l.length≤20) (h0 : fe (actE l) l.length = 0) : txnE l = if putsA l > 2000 then 3 else 0:=by
  unfold txnE;rw [if_neg (by omega),h0]; simp
theorem actE_at {l : List Actn} {i : Nat} {x : Actn} (hx : l[i]? = some x) : actE l i = if oneE x ≠ 0 then oneE x else if x.kind = 4∧twinA (l.take i) x = true then 1 else 0:=by
  unfold actE;rw [List.getD_eq_getElem?_getD,hx]; rfl
theorem one_sound {a : Actn} (h : oneE a = 0) : a.ops.length≤100∧∀ c ∈ a.ops,sndC c = true:=by
  obtain ⟨hb,ho⟩:=one_ok h
  by_cases k4 : a.kind = 4
  · exact op_ok (ho k4)
  · unfold badA at hb;simp only [not_or] at hb
    have b3 : a = plainA a:=Classical.not_not.1 hb.2.2.1
    have : a.ops = []:=by
      rw [b3]; unfold plainA
      repeat' split
      all_goals rfl
    rw [this];exact ⟨by simp,fun c hc=>by cases hc⟩
theorem fit_of {a : Actn} (hm : mA a) (h : oneE a = 0) : fitA a:=by
  obtain ⟨h1,h2⟩:=one_sound h;refine ⟨h1,fun c hc=>⟨(hm.2.2 c hc).2,fun hk=>?_⟩⟩
  rcases snd_ok (h2 c hc) with ⟨_,e⟩ | ⟨e,_⟩
  · exact e
  · exact absurd hk e
theorem fe_one {l : List Actn} (h0 : fe (actE l) l.length = 0) : ∀ a ∈ l,oneE a = 0:=fun a ha=>by
  obtain ⟨i,hi,rfl⟩:=List.mem_iff_getElem.1 ha
  have:=fe_zero h0 i hi
  rw [actE_at (List.getElem?_eq_getElem hi)] at this
  split at this
  · rename_i h4; exact absurd this h4
  · rename_i h4; simpa using h4
section
variable {W w : World} {cs r r2 : List Ch}
theorem TxnCheck_c (hT : Tabs W) {A : Option Addr} {n c : Nat} {xs : List Actn} (hm : ∀ x ∈ xs,mA x) (hs : Sep W w cs) (hk : Pick cs (.rd kActn (.slice A n c) xs) r) :
    Calls P 35 #[.slice A n c] w (Rt fun v w'=>v = .int .i64 (txnE xs)∧Sep W w' cs):=by
  obtain ⟨rfl,hl⟩:=hs.rd_shape hk;unfold maxLen at hl;have hs:=hs.cpR hk;refine enter Tryz.func35 Tryz.ntmps35 rfl rfl fun a (ha : Has a 34 [(0,_)])=>?_;refine wp_seq_k fun K1 hK1=>?_;refine wp_region_lit ?_;refine pY ha (yAssign rfl) fun a ha=>?_;refine pZ ?_;refine hK1 _ _ ?_;refine scopeF 1 99999 ?_;refine wp_seq_k fun K2 hK2=>?_;refine wp_seq_k fun K3 hK3=>?_;refine wp_region_lit ?_;refine pY ha (yMove rfl) fun a ha=>?_;refine pY ha (yLenS Tryz.runUnderlying22 rfl) fun a ha=>?_;refine pY ha (yGtr rfl rfl) fun a ha=>?_;refine pZ ?_;refine hK3 _ _ ?_;refine cDec ha rfl (fun hc7=>?_) (fun hc7=>?_)
  · refine wp_seq_k fun K4 hK4=>?_;refine wp_region_lit ?_;refine pY ha (yAssign rfl) fun a ha=>?_;refine pZ ?_;refine hK4 _ _ ?_;refine wp_ret ?_;show bodyPost Tryz.prog Tryz.f35 _ .ret _ _;refine ret1 rfl ha rfl ?_
    (refine ⟨congrArg (Value.int .i64) ?_,hs.drop⟩; unfold txnE; rw [if_pos (by omega)])
  · have hn20 : xs.length≤20:=by omega
    refine wp_skip ?_;refine hK2 _ _ ?_;refine wp_seq_k fun K5 hK5=>?_;refine wp_seq_k fun K6 hK6=>?_;refine wp_region_lit ?_;refine pY ha (yMove rfl) fun a ha=>?_;refine pY ha (yLenS Tryz.runUnderlying22 rfl) fun a ha=>?_;refine pY ha (yMove rfl) fun a ha=>?_;refine pZ ?_;refine hK6 _ _ ?_;refine wp_block ?_;refine loopI (ι:=Nat) (fun i a w=>i≤xs.length∧fe (actE xs) i = 0∧Has a 34 [(0,.slice A xs.length c),(2,.int .i64 0),(8,.slice A xs.length c),(9,.int .i64 xs.length),(10,.int .i64 i)]∧Sep W w (.rd kActn (.slice A xs.length c) xs::cs)) (fun i=>xs.length - i) (0) ?_ ?_
    · exact ⟨Nat.zero_le _,rfl,has5 ha rfl rfl rfl rfl rfl,hs⟩
    · rintro i a w ⟨h1,h2,ha,hs⟩;refine wp_seq_k fun K7 hK7=>?_;refine wp_region_lit ?_;refine pY ha (yLss rfl rfl) fun a ha=>?_;refine pZ ?_;refine hK7 _ _ ?_;refine wp_seq_k fun K8 hK8=>?_;refine cDec ha rfl (fun hc11=>?_) (fun hc11=>?_)
      · obtain ⟨x,hx⟩ : ∃ x,xs[i]? = some x:=⟨_,List.getElem?_eq_getElem (by omega)⟩
        have hmx:=hm x (List.mem_of_getElem? hx)
        obtain ⟨b0,off,A',n',c',rfl,hs⟩:=hs.rd_actn .here hx;refine wp_skip ?_;refine hK8 _ _ ?_;refine wp_seq_k fun K9 hK9=>?_;refine wp_block ?_;refine wp_seq_k fun K10 hK10=>?_;refine wp_region_lit ?_;refine pY ha (yMove rfl) fun a ha=>?_;refine pY ha (yIndexA Tryz.runUnderlying22 Tryz.sizeOf48 rfl rfl (by omega) (by omega)) fun a ha=>?_;refine pY ha (yLoadRA Tryz.isAgg48 Tryz.sizeOf48 hs rfl pk0 rfl) fun a ha=>?_;refine pAlloc (zs:=[.int .i64 0,.int .i64 0,.int .i64 0,.string ⟨#[]⟩,.bool false,.slice none 0 0]) ha Tryz.zeroValue48 rfl hs rfl fun ba w hs a ha=>?_;refine pY ha (yAssign rfl) fun a ha=>?_;refine pStoreA ha Tryz.sizeOf48 hs rfl rfl pk0 rfl rfl rfl fun w hs=>?_;refine pZ ?_;refine hK10 _ _ ?_;refine wp_seq_k fun K11 hK11=>?_;refine wp_seq_k fun K12 hK12=>?_;refine wp_region_lit ?_;refine pY ha (yLoadBA Tryz.isAgg48 Tryz.sizeOf48 hs rfl pk0 rfl) fun a ha=>?_;refine pC ha (nCall Tryz.call81 rfl) rfl (One_c hT (x:=x) hmx hs pk2) ?_;rintro v w ⟨rfl,hs⟩ a ha;refine pY ha (yAssign rfl) fun a ha=>?_;refine pZ ?_;refine hK12 _ _ ?_;refine wp_seq_k fun K13 hK13=>?_;refine wp_region_lit ?_;refine pY ha (yMove rfl) fun a ha=>?_;refine pY ha (yNeq rfl rfl) fun a ha=>?_;refine pZ ?_;refine hK13 _ _ ?_;refine cNDec ha rfl (fun hc18=>?_) (fun hc18=>?_)
        · refine wp_goto ?_
          repeat (with_reducible first | refine gThen ?_ | refine gBlock ?_)
          refine gxF rfl rfl ?_;refine wp_seq_k fun K14 hK14=>?_;refine wp_skip ?_;refine hK14 _ _ ?_;refine wp_seq_k fun K15 hK15=>?_;refine wp_region_lit ?_;refine pY ha (yMove rfl) fun a ha=>?_;refine pY ha (yAssign rfl) fun a ha=>?_;refine pZ ?_;refine hK15 _ _ ?_;refine wp_ret ?_;show bodyPost Tryz.prog Tryz.f35 _ .ret _ _;refine ret1 rfl ha rfl ?_
          (refine ⟨congrArg (Value.int .i64) ?_,hs.drop.drop.drop.drop⟩; rw [txn_err hn20 h2 (by omega) (by rw [actE_at hx,if_pos hc18]; exact hc18),actE_at hx,if_pos hc18])
        · refine wp_skip ?_;refine hK11 _ _ ?_;refine wp_seq_k fun K16 hK16=>?_;refine wp_region_lit ?_;refine pY ha (yFieldA Tryz.runUnderlying48 rfl Tryz.sizeOf3 rfl rfl) fun a ha=>?_;refine pY ha (yLoadB Tryz.isAgg3 hs rfl pk0 rfl) fun a ha=>?_;refine pY ha (yEql rfl rfl) fun a ha=>?_;refine pY ha (yMove rfl) fun a ha=>?_;refine gDec (t:=22) ha rfl (fun hg3 hp3=>?_) (fun hg3 hp3=>?_)
          · rw [hg3] at ha;refine gOff ha fun a ha=>?_;refine gOff ha fun a ha=>?_;refine gOff ha fun a ha=>?_;refine gOff ha fun a ha=>?_;refine gOff ha fun a ha=>?_;refine pY ha (yPickF rfl rfl) fun a ha=>?_;refine pZ ?_;refine hK16 _ _ ?_;refine cFalse ha rfl ?_;refine wp_skip ?_;refine hK9 _ _ ?_;refine wp_region_lit ?_;refine pY ha (yAddN rfl rfl ⟨by omega,by omega⟩) fun a ha=>?_;refine pY ha (yMove rfl) fun a ha=>?_;refine pZ ?_
            have hz : actE xs i = 0:=by
              rw [actE_at hx,if_neg (by simpa using hc18)]
              (rw [if_neg (fun h=>of_decide_eq_false hg3 h.1)])
            rw [hc18] at ha;exact ⟨i + 1,⟨by omega,fe_next h2 hz,has5 ha rfl rfl rfl rfl rfl,by exact hs.drop.drop.drop⟩,by omega⟩
          · rw [hg3] at ha;refine gOn ha ?_;refine pY ha (yMove rfl) fun a ha=>?_;refine gOn ha ?_;refine pY ha (yMove rfl) fun a ha=>?_;refine gOn ha ?_;refine pY ha (ySlice Tryz.runUnderlying22 Tryz.sizeOf48 rfl (.inl ⟨rfl,rfl⟩) (.inr ⟨_,_,rfl,rfl⟩) (by omega) (by omega)) fun a ha=>?_;refine gOn ha ?_;refine pY ha (yMakeF rfl) fun a ha=>?_;refine gOn ha ?_;refine pC ha (nCall Tryz.call82 rfl) rfl (ContainsA_c (a0:=x) (hs.rd_cut (xs:=xs) (lo:=0) (hi:=i) pk3 (by omega) (by omega)) .here pk1) ?_;rintro v w ⟨rfl,hs⟩ a ha;have hs:=hs.drop;rw [List.drop_zero] at ha;refine pY ha (yPickT rfl rfl) fun a ha=>?_;refine pZ ?_;refine hK16 _ _ ?_;refine cSplit ha rfl (fun hc28=>?_) (fun hc28=>?_)
            · refine wp_seq_k fun K17 hK17=>?_;refine wp_region_lit ?_;refine pY ha (yAssign rfl) fun a ha=>?_;refine pZ ?_;refine hK17 _ _ ?_;refine wp_goto ?_
              repeat (with_reducible first | refine gThen ?_ | refine gBlock ?_)
              refine gxF rfl rfl ?_;refine wp_seq_k fun K18 hK18=>?_;refine wp_skip ?_;refine hK18 _ _ ?_;refine wp_seq_k fun K19 hK19=>?_;refine wp_region_lit ?_;refine pY ha (yMove rfl) fun a ha=>?_;refine pY ha (yAssign rfl) fun a ha=>?_;refine pZ ?_;refine hK19 _ _ ?_;refine wp_ret ?_;show bodyPost Tryz.prog Tryz.f35 _ .ret _ _;refine ret1 rfl ha rfl ?_
              (refine ⟨congrArg (Value.int .i64) ?_,hs.drop.drop.drop.drop⟩; have he : actE xs i = 1:=by (rw [actE_at hx,if_neg (by simpa using hc18),if_pos ⟨of_decide_eq_true hg3,hc28⟩])
               rw [txn_err hn20 h2 (by omega) (by rw [he]; decide),he])
            · refine wp_skip ?_;refine hK9 _ _ ?_;refine wp_region_lit ?_;refine pY ha (yAddN rfl rfl ⟨by omega,by omega⟩) fun a ha=>?_;refine pY ha (yMove rfl) fun a ha=>?_;refine pZ ?_
              have hz : actE xs i = 0:=by
                rw [actE_at hx,if_neg (by simpa using hc18)]
                (rw [if_neg (fun h=>by rw [h.2] at hc28; cases hc28)])
              rw [hc18] at ha;exact ⟨i + 1,⟨by omega,fe_next h2 hz,has5 ha rfl rfl rfl rfl rfl,by exact hs.drop.drop.drop⟩,by omega⟩
      · refine wp_exit ?_;refine hK5 _ _ ?_;refine wp_seq_k fun K20 hK20=>?_;refine wp_seq_k fun K21 hK21=>?_;refine wp_region_lit ?_;refine pY ha (yMove rfl) fun a ha=>?_;refine pC ha (nCall Tryz.call84 rfl) rfl (Puts_c (xs:=xs) hn20 (fun x hx=>fit_of (hm x hx) (fe_one (by rwa [show i = xs.length by omega] at h2) x hx)) hs .here) ?_;rintro v w ⟨rfl,hs⟩ a ha;refine pY ha (yGtr rfl rfl) fun a ha=>?_;refine pZ ?_;refine hK21 _ _ ?_;refine cDec ha rfl (fun hc32=>?_) (fun hc32=>?_)
        · refine wp_region_lit ?_;refine pY ha (yAssign rfl) fun a ha=>?_;refine pZ ?_;refine hK20 _ _ ?_;refine wp_seq_k fun K22 hK22=>?_;refine wp_label ?_;refine hK22 _ _ ?_;refine wp_seq_k fun K23 hK23=>?_;refine wp_region_lit ?_;refine pY ha (yMove rfl) fun a ha=>?_;refine pY ha (yAssign rfl) fun a ha=>?_;refine pZ ?_;refine hK23 _ _ ?_;refine wp_ret ?_;show bodyPost Tryz.prog Tryz.f35 _ .ret _ _;refine ret1 rfl ha rfl ?_
          (obtain rfl : i = xs.length:=by omega
           refine ⟨congrArg (Value.int .i64) ?_,hs.drop⟩;rw [txn_end hn20 h2]
           rw [if_pos (by omega)])
        · refine wp_skip ?_;refine hK20 _ _ ?_;refine wp_seq_k fun K24 hK24=>?_;refine wp_label ?_;refine hK24 _ _ ?_;refine wp_seq_k fun K25 hK25=>?_;refine wp_region_lit ?_;refine pY ha (yMove rfl) fun a ha=>?_;refine pY ha (yAssign rfl) fun a ha=>?_;refine pZ ?_;refine hK25 _ _ ?_;refine wp_ret ?_;show bodyPost Tryz.prog Tryz.f35 _ .ret _ _;refine ret1 rfl ha rfl ?_
          (obtain rfl : i = xs.length:=by omega
           refine ⟨congrArg (Value.int .i64) ?_,hs.drop⟩;rw [txn_end hn20 h2]
           rw [if_neg (by omega)])
theorem FitsF_c (n : Int) (hs : Sep W w cs) : Calls P 79 #[.int .i64 n] w (Rt fun v w'=>v = .bool (!fits n)∧Sep W w' cs):=by
  refine enter Tryz.func79 Tryz.ntmps79 rfl rfl fun a (ha : Has a 6 [(0,_)])=>?_;refine wp_seq_k fun K1 hK1=>?_;refine wp_region_lit ?_;refine pY ha (yAssign rfl) fun a ha=>?_;refine pZ ?_;refine hK1 _ _ ?_;refine wp_seq_k fun K2 hK2=>?_;refine wp_region_lit ?_;refine pY ha (yMove rfl) fun a ha=>?_;refine pC ha (nCall Tryz.call80 rfl) rfl (Fits_c _ hs) ?_;rintro v w ⟨rfl,hs⟩ a ha;refine pY ha (yNot rfl) fun a ha=>?_;refine pY ha (yAssign rfl) fun a ha=>?_;refine pZ ?_;refine hK2 _ _ ?_;refine wp_ret ?_;show bodyPost Tryz.prog Tryz.f79 _ .ret _ _;refine ret1 rfl ha rfl ?_;exact ⟨rfl,hs⟩
theorem IndexI_c {A : Option Addr} {n c : Nat} {xs : List Int} (hs : Sep W w cs) (hk : Pick cs (.rd kInt (.slice A n c) xs) r) :
    Calls P 103 #[.slice A n c,.func (.func 79) #[] #[]] w (Rt fun v w'=>∃ k : Int,v = .int .i64 k∧(0≤k ↔ xs.any (fun x=>!fits x) = true)∧Sep W w' cs):=by
  obtain ⟨rfl,hl⟩:=hs.rd_shape hk;unfold maxLen at hl;have hs:=hs.cpR hk;refine enter Tryz.func103 Tryz.ntmps103 rfl rfl fun a (ha : Has a 19 [(0,_),(1,_)])=>?_;refine wp_seq_k fun K1 hK1=>?_;refine wp_region_lit ?_;refine pY ha (yAssign rfl) fun a ha=>?_;refine pZ ?_;refine hK1 _ _ ?_;refine wp_seq_k fun K2 hK2=>?_;refine wp_seq_k fun K3 hK3=>?_;refine wp_region_lit ?_;refine pY ha (yMove rfl) fun a ha=>?_;refine pY ha (yLenS Tryz.runUnderlying93 rfl) fun a ha=>?_;refine pY ha (yMove rfl) fun a ha=>?_;refine pZ ?_;refine hK3 _ _ ?_;refine wp_block ?_;refine loopI (ι:=Nat) (fun i a w=>i≤xs.length∧(xs.take i).any (fun x=>!fits x) = false∧Has a 19 [(0,.slice A xs.length c),(1,.func (.func 79) #[] #[]),(7,.int .i64 xs.length),(8,.int .i64 i)]∧Sep W w (.rd kInt (.slice A xs.length c) xs::cs)) (fun i=>xs.length - i) (0) ?_ ?_
  · exact ⟨Nat.zero_le _,rfl,has4 ha rfl rfl rfl rfl,hs⟩
  · rintro i a w ⟨h1,h2,ha,hs⟩;refine wp_seq_k fun K4 hK4=>?_;refine wp_region_lit ?_;refine pY ha (yLss rfl rfl) fun a ha=>?_;refine pZ ?_;refine hK4 _ _ ?_;refine wp_seq_k fun K5 hK5=>?_;refine cDec ha rfl (fun hc9=>?_) (fun hc9=>?_)
    · obtain ⟨x,hx⟩ : ∃ x,xs[i]? = some x:=⟨_,List.getElem?_eq_getElem (by omega)⟩;obtain ⟨b0,off,rfl,hxr,hs⟩:=hs.rd_int .here hx;refine wp_skip ?_;refine hK5 _ _ ?_;refine wp_seq_k fun K6 hK6=>?_;refine wp_block ?_;refine wp_seq_k fun K7 hK7=>?_;refine wp_region_lit ?_;refine pY ha (yMove rfl) fun a ha=>?_;refine pY ha (yAssign rfl) fun a ha=>?_;refine pZ ?_;refine hK7 _ _ ?_;refine wp_seq_k fun K8 hK8=>?_;refine wp_region_lit ?_;refine pY ha (yMove rfl) fun a ha=>?_;refine pY ha (yMove rfl) fun a ha=>?_;refine pY ha (yMove rfl) fun a ha=>?_;refine pY ha (yIndexA Tryz.runUnderlying93 Tryz.sizeOf3 rfl rfl (by omega) (by omega)) fun a ha=>?_;refine pY ha (yLoadR0 Tryz.isAgg3 hs rfl pk0 rfl) fun a ha=>?_;refine pC ha (nCallV (cl:=[]) Tryz.call79 rfl rfl rfl) rfl (FitsF_c x hs) ?_;rintro v w ⟨rfl,hs⟩ a ha;refine pZ ?_;refine hK8 _ _ ?_;refine cSplit ha rfl (fun hc16=>?_) (fun hc16=>?_)
      · refine wp_seq_k fun K9 hK9=>?_;refine wp_region_lit ?_;refine pY ha (yMove rfl) fun a ha=>?_;refine pY ha (yAssign rfl) fun a ha=>?_;refine pZ ?_;refine hK9 _ _ ?_;refine wp_ret ?_;show bodyPost Tryz.prog Tryz.f103 _ .ret _ _;refine ret1 rfl ha rfl ?_;exact ⟨i,rfl,⟨fun _=>any_yes hx hc16,fun _=>by omega⟩,hs.drop.drop⟩
      · refine wp_skip ?_;refine hK6 _ _ ?_;refine wp_region_lit ?_;refine pY ha (yAddN rfl rfl ⟨by omega,by omega⟩) fun a ha=>?_;refine pY ha (yMove rfl) fun a ha=>?_;refine pZ ?_;exact ⟨i + 1,⟨by omega,any_at h2 hx hc16,has4 ha rfl rfl rfl rfl,hs.drop⟩,by omega⟩
    · refine wp_exit ?_;refine hK2 _ _ ?_;refine wp_seq_k fun K10 hK10=>?_;refine wp_region_lit ?_;refine pY ha (yAssign rfl) fun a ha=>?_;refine pZ ?_;refine hK10 _ _ ?_;refine wp_ret ?_;show bodyPost Tryz.prog Tryz.f103 _ .ret _ _;refine ret1 rfl ha rfl ?_;rw [List.take_of_length_le (by omega)] at h2; exact ⟨-1,rfl,⟨fun h=>absurd h (by decide),fun h=>by rw [h2] at h; cases h⟩,hs.drop⟩
theorem ContainsI_c {A : Option Addr} {n c : Nat} {xs : List Int} (hs : Sep W w cs) (hk : Pick cs (.rd kInt (.slice A n c) xs) r) :
    Calls P 78 #[.slice A n c,.func (.func 79) #[] #[]] w (Rt fun v w'=>v = .bool (xs.any (fun x=>!fits x))∧Sep W w' cs):=by
  refine enter Tryz.func78 Tryz.ntmps78 rfl rfl fun a (ha : Has a 9 [(0,_),(1,_)])=>?_;refine wp_seq_k fun K1 hK1=>?_;refine wp_region_lit ?_;refine pY ha (yAssign rfl) fun a ha=>?_;refine pZ ?_;refine hK1 _ _ ?_;refine wp_seq_k fun K2 hK2=>?_;refine wp_region_lit ?_;refine pY ha (yMove rfl) fun a ha=>?_;refine pY ha (yMove rfl) fun a ha=>?_;refine pC ha (nCall Tryz.call103 rfl) rfl (IndexI_c hs hk) ?_;rintro v w ⟨k,rfl,hkk,hs⟩ a ha;refine pY ha (yGeq rfl rfl) fun a ha=>?_;refine pY ha (yAssign rfl) fun a ha=>?_;refine pZ ?_;refine hK2 _ _ ?_;refine wp_ret ?_;show bodyPost Tryz.prog Tryz.f78 _ .ret _ _;refine ret1 rfl ha rfl ?_;refine ⟨congrArg Value.bool ?_,hs⟩;rw [Bool.eq_iff_iff,decide_eq_true_eq]; exact hkk
theorem WFits_c {A : Option Addr} {n c : Nat} {xs : List Int} (hs : Sep W w cs) (hk : Pick cs (.rd kInt (.slice A n c) xs) r) :
    Calls P 34 #[.slice A n c] w (Rt fun v w'=>v = .bool (xs.all fits)∧Sep W w' cs):=by
  refine enter Tryz.func34 Tryz.ntmps34 rfl rfl fun a (ha : Has a 6 [(0,_)])=>?_;refine wp_seq_k fun K1 hK1=>?_;refine wp_region_lit ?_;refine pY ha (yAssign rfl) fun a ha=>?_;refine pZ ?_;refine hK1 _ _ ?_;refine wp_seq_k fun K2 hK2=>?_;refine wp_region_lit ?_;refine pY ha (yMove rfl) fun a ha=>?_;refine pC ha (nCall Tryz.call78 rfl) rfl (ContainsI_c hs hk) ?_;rintro v w ⟨rfl,hs⟩ a ha;refine pY ha (yNot rfl) fun a ha=>?_;refine pY ha (yAssign rfl) fun a ha=>?_;refine pZ ?_;refine hK2 _ _ ?_;refine wp_ret ?_;show bodyPost Tryz.prog Tryz.f34 _ .ret _ _;refine ret1 rfl ha rfl ?_;refine ⟨congrArg Value.bool ?_,hs⟩;rw [Bool.eq_iff_iff]
  simp
/-- Numbers of the machine. -/
def i64 (n : Int) : Prop:=-9223372036854775808≤n∧n≤9223372036854775807
def mCm (x : Cmt) : Prop:=i64 x.rev∧i64 x.client∧i64 x.seq∧∀ a ∈ x.acts,mA a
theorem Commits_c (hT : Tabs W) {A : Option Addr} {n c : Nat} {xs : List Cmt} (hm : ∀ x ∈ xs,mCm x) (hs : Sep W w cs) (hk : Pick cs (.rd kCmt (.slice A n c) xs) r) :
    Calls P 36 #[.slice A n c] w (Rt fun v w'=>v = .int .i64 (cmtsE xs)∧Sep W w' cs):=by
  obtain ⟨rfl,hl⟩:=hs.rd_shape hk;unfold maxLen at hl;have hs:=hs.cpR hk;refine enter Tryz.func36 Tryz.ntmps36 rfl rfl fun a (ha : Has a 31 [(0,_)])=>?_;refine wp_seq_k fun K1 hK1=>?_;refine wp_region_lit ?_;refine pY ha (yAssign rfl) fun a ha=>?_;refine pZ ?_;refine hK1 _ _ ?_;refine wp_seq_k fun K2 hK2=>?_;refine wp_seq_k fun K3 hK3=>?_;refine wp_region_lit ?_;refine pY ha (yMove rfl) fun a ha=>?_;refine pY ha (yLenS Tryz.runUnderlying23 rfl) fun a ha=>?_;refine pY ha (yGtr rfl rfl) fun a ha=>?_;refine pZ ?_;refine hK3 _ _ ?_;refine cDec ha rfl (fun hc8=>?_) (fun hc8=>?_)
  · refine wp_seq_k fun K4 hK4=>?_;refine wp_region_lit ?_;refine pY ha (yAssign rfl) fun a ha=>?_;refine pZ ?_;refine hK4 _ _ ?_;refine wp_ret ?_;show bodyPost Tryz.prog Tryz.f36 _ .ret _ _;refine ret1 rfl ha rfl ?_
    (refine ⟨congrArg (Value.int .i64) ?_,hs.drop⟩; unfold cmtsE; rw [if_pos (by omega)])
  · have hn20 : xs.length≤20:=by omega
    have hcE : cmtsE xs = fe (fun i=>cmtE (xs.getD i noCm)) xs.length:=by unfold cmtsE; rw [if_neg (by omega)]
    refine wp_skip ?_;refine hK2 _ _ ?_;refine wp_seq_k fun K5 hK5=>?_;refine wp_seq_k fun K6 hK6=>?_;refine wp_region_lit ?_;refine pY ha (yMove rfl) fun a ha=>?_;refine pY ha (yLenS Tryz.runUnderlying23 rfl) fun a ha=>?_;refine pY ha (yMove rfl) fun a ha=>?_;refine pZ ?_;refine hK6 _ _ ?_;refine wp_block ?_;refine loopI (ι:=Nat) (fun i a w=>i≤xs.length∧fe (fun i=>cmtE (xs.getD i noCm)) i = 0∧Has a 31 [(9,.slice A xs.length c),(10,.int .i64 xs.length),(11,.int .i64 i)]∧Sep W w (.rd kCmt (.slice A xs.length c) xs::cs)) (fun i=>xs.length - i) (0) ?_ ?_
    · exact ⟨Nat.zero_le _,rfl,has3 ha rfl rfl rfl,hs⟩
    · rintro i a w ⟨h1,h2,ha,hs⟩;refine wp_seq_k fun K7 hK7=>?_;refine wp_region_lit ?_;refine pY ha (yLss rfl rfl) fun a ha=>?_;refine pZ ?_;refine hK7 _ _ ?_;refine wp_seq_k fun K8 hK8=>?_;refine cDec ha rfl (fun hc12=>?_) (fun hc12=>?_)
      · obtain ⟨x,hx⟩ : ∃ x,xs[i]? = some x:=⟨_,List.getElem?_eq_getElem (by omega)⟩
        have hmx:=hm x (List.mem_of_getElem? hx)
        obtain ⟨m1,m2,m3,m4⟩:=hmx;unfold i64 at m1 m2 m3
        have hgx : xs.getD i noCm = x:=by rw [List.getD_eq_getElem?_getD,hx]; rfl
        obtain ⟨b0,off,A',n',c',rfl,hs⟩:=hs.rd_cmt .here hx;refine wp_skip ?_;refine hK8 _ _ ?_;refine wp_seq_k fun K9 hK9=>?_;refine wp_block ?_;refine wp_seq_k fun K10 hK10=>?_;refine wp_region_lit ?_;refine pY ha (yIndexA Tryz.runUnderlying23 Tryz.sizeOf58 rfl rfl (by omega) (by omega)) fun a ha=>?_;refine pY ha (yLoadRA Tryz.isAgg58 Tryz.sizeOf58 hs rfl pk0 rfl) fun a ha=>?_;refine pAlloc (zs:=[.int .i64 0,.int .i64 0,.int .i64 0,.slice none 0 0]) ha Tryz.zeroValue58 rfl hs rfl fun b w hs a ha=>?_;refine pStoreA ha Tryz.sizeOf58 hs rfl rfl pk0 rfl rfl rfl fun w hs=>?_;refine pZ ?_;refine hK10 _ _ ?_;refine wp_seq_k fun K11 hK11=>?_;refine wp_seq_k fun K12 hK12=>?_;refine wp_region_lit ?_;refine pY ha (yFieldA Tryz.runUnderlying58 rfl Tryz.sizeOf3 rfl rfl) fun a ha=>?_;refine pY ha (yLoadB Tryz.isAgg3 hs rfl pk0 rfl) fun a ha=>?_;refine pY ha (yFieldA Tryz.runUnderlying58 rfl Tryz.sizeOf3 rfl rfl) fun a ha=>?_;refine pY ha (yLoadB Tryz.isAgg3 hs rfl pk0 rfl) fun a ha=>?_;refine pY ha (yFieldA Tryz.runUnderlying58 rfl Tryz.sizeOf3 rfl rfl) fun a ha=>?_;refine pY ha (yLoadB Tryz.isAgg3 hs rfl pk0 rfl) fun a ha=>?_;refine pMake ha (bslChk93_3_0_1_2 rfl rfl rfl) hs rfl fun b w hs a ha=>?_;have hs:=hs.ints_rd (xs:=[x.rev,x.client,x.seq]) .here (by intro y hy; simp at hy; rcases hy with rfl | rfl | rfl <;> assumption);refine pC ha (nCall Tryz.call34 rfl) rfl (WFits_c hs .here) ?_;rintro v w ⟨rfl,hs⟩ a ha;refine pY ha (yNot rfl) fun a ha=>?_;refine pZ ?_;refine hK12 _ _ ?_;refine cSplit ha rfl (fun hc23=>?_) (fun hc23=>?_)
        · have hge : cmtE (xs.getD i noCm) = 1:=by
            rw [hgx]; unfold cmtE;rw [if_pos];simp only [List.all_cons,List.all_nil,Bool.and_true,Bool.not_eq_true',Bool.and_eq_false_iff] at hc23;exact hc23
          refine wp_seq_k fun K13 hK13=>?_;refine wp_region_lit ?_;refine pY ha (yAssign rfl) fun a ha=>?_;refine pZ ?_;refine hK13 _ _ ?_;refine wp_ret ?_;show bodyPost Tryz.prog Tryz.f36 _ .ret _ _;refine ret1 rfl ha rfl ?_
          (refine ⟨congrArg (Value.int .i64) ?_,hs.drop.drop.drop.drop.drop⟩; rw [hcE,fe_at h2 (show (fun i=>cmtE (xs.getD i noCm)) i ≠ 0 by simp only [hge]; decide) (show i < xs.length by omega)]; exact hge.symm)
        · have hge : cmtE (xs.getD i noCm) = txnE x.acts:=by
            rw [hgx]; unfold cmtE;simp only [List.all_cons,List.all_nil,Bool.and_true,Bool.not_eq_false',Bool.and_eq_true] at hc23;rw [if_neg (by rw [hc23.1,hc23.2.1,hc23.2.2]; simp)]
          refine wp_skip ?_;refine hK11 _ _ ?_;refine wp_seq_k fun K14 hK14=>?_;refine wp_region_lit ?_;refine pY ha (yFieldA Tryz.runUnderlying58 rfl Tryz.sizeOf22 rfl rfl) fun a ha=>?_;refine pY ha (yLoadB Tryz.isAgg22 hs rfl pk1 rfl) fun a ha=>?_;refine pC ha (nCall Tryz.call35 rfl) rfl (TxnCheck_c hT (xs:=x.acts) m4 hs pk3) ?_;rintro v w ⟨rfl,hs⟩ a ha;refine pY ha (yAssign rfl) fun a ha=>?_;refine pZ ?_;refine hK14 _ _ ?_;refine wp_seq_k fun K15 hK15=>?_;refine wp_region_lit ?_;refine pY ha (yMove rfl) fun a ha=>?_;refine pY ha (yNeq rfl rfl) fun a ha=>?_;refine pZ ?_;refine hK15 _ _ ?_;refine cNDec ha rfl (fun hc28=>?_) (fun hc28=>?_)
          · refine wp_seq_k fun K16 hK16=>?_;refine wp_region_lit ?_;refine pY ha (yMove rfl) fun a ha=>?_;refine pY ha (yAssign rfl) fun a ha=>?_;refine pZ ?_;refine hK16 _ _ ?_;refine wp_ret ?_;show bodyPost Tryz.prog Tryz.f36 _ .ret _ _;refine ret1 rfl ha rfl ?_
            (refine ⟨congrArg (Value.int .i64) ?_,hs.drop.drop.drop.drop.drop⟩; rw [hcE,fe_at h2 (show (fun i=>cmtE (xs.getD i noCm)) i ≠ 0 by simp only [hge]; exact hc28) (show i < xs.length by omega)]; exact hge.symm)
          · refine wp_skip ?_;refine hK9 _ _ ?_;refine wp_region_lit ?_;refine pY ha (yAddN rfl rfl ⟨by omega,by omega⟩) fun a ha=>?_;refine pY ha (yMove rfl) fun a ha=>?_;refine pZ ?_
            have hz : cmtE (xs.getD i noCm) = 0:=by rw [hge]; exact hc28
            exact ⟨i + 1,⟨by omega,fe_next h2 hz,has3 ha rfl rfl rfl,hs.drop.drop.drop.drop⟩,by omega⟩
      · refine wp_exit ?_;refine hK5 _ _ ?_;refine wp_seq_k fun K17 hK17=>?_;refine wp_region_lit ?_;refine pY ha (yAssign rfl) fun a ha=>?_;refine pZ ?_;refine hK17 _ _ ?_;refine wp_ret ?_;show bodyPost Tryz.prog Tryz.f36 _ .ret _ _;refine ret1 rfl ha rfl ?_
        (obtain rfl : i = xs.length:=by omega
         exact ⟨congrArg (Value.int .i64) (by rw [hcE,h2]),hs.drop⟩)
end
end Go.Proofs.YtnlhbkaieoogfaaGreatDoor

set_option linter.unusedVariables false
set_option linter.unusedSimpArgs false
namespace Go.Proofs.YtnlhbkaieoogfaaGreatDoor
open Go.RowKit Go.Lib Go.Proofs.YtnlhbkaieoogfaaGreatDoorW.PrintLast
theorem bldTree146_0 {w : World} {l : List (Nat × Value)} {T : TypeId} {x0 : Operand} {v0 : Value} (h0 : ev l x0 = some v0) (o0 : v0.cells = #[v0]:=by rfl) : Yl Tryz.prog w l (.build 146 #[(0,x0)]) T (.agg #[v0]):=fun ρ o h ho _=>by
  have hf : Instr.fill (fun i=>([(0,1)] : List (Nat × Nat))[i]?) #[.map none] [(0,v0)] = some #[v0]:=by
    refine (fill_v o0 rfl (by simp)).trans ?_
    simp [Instr.fill]
  unfold execOp; rw [ho]
  simp [h _ _ h0,Instr.build,Tryz.zeroValue146,Tryz.runUnderlying146,Tryz.sizeOf144,agg_cells,hf]
theorem bldTree50_1_2 {w : World} {l : List (Nat × Value)} {T : TypeId} {x1 x2 : Operand} {v1 : Value} (h1 : ev l x1 = some v1) {v2 : Value} (h2 : ev l x2 = some v2) (o1 : v1.cells = #[v1]:=by rfl) (o2 : v2.cells = #[v2]:=by rfl) : Yl Tryz.prog w l (.build 50 #[(1,x1),(2,x2)]) T (.agg #[.int .i64 0,v1,v2,.bool false,.string ⟨#[]⟩]):=fun ρ o h ho _=>by
  have hf : Instr.fill (fun i=>([(0,1),(1,1),(2,1),(3,1),(4,1)] : List (Nat × Nat))[i]?) #[.int .i64 0,.int .i64 0,.string ⟨#[]⟩,.bool false,.string ⟨#[]⟩] [(1,v1),(2,v2)] = some #[.int .i64 0,v1,v2,.bool false,.string ⟨#[]⟩]:=by
    refine (fill_v o1 rfl (by simp)).trans ?_;refine (fill_v o2 rfl (by simp)).trans ?_
    simp [Instr.fill]
  unfold execOp; rw [ho]
  simp [h _ _ h1,h _ _ h2,Instr.build,Tryz.zeroValue50,Tryz.runUnderlying50,Tryz.sizeOf3,Tryz.sizeOf4,Tryz.sizeOf9,agg_cells,hf]
def wtE (e : MapEntry) : Nat:=match e.val with
  | .agg cs=>(match (cs[4]? : Option Value) with
    | some (Value.string s)=>cnt s.data.toList
    | _=>0)
  | _=>0
theorem sum_mE : ∀ (i : Nat) (xs : List Nod),((mE i xs).map wtE).sum = sumN xs
  | i,[]=>rfl
  | i,x::r=>by
    simp only [mE,List.map_cons,List.sum_cons,sumN,sum_mE (i + 1) r]
    rfl
theorem sum_drop {wt : MapEntry→Nat} {e : MapEntry} : ∀ (L : List MapEntry),(L.map (·.born)).Nodup→e ∈ L→(L.map wt).sum = wt e + ((L.filter fun x=>x.born != e.born).map wt).sum∧(L.filter fun x=>x.born != e.born).length < L.length
  | [],_,h=>by cases h
  | y::r,hn,h=>by
    simp only [List.map_cons,List.nodup_cons] at hn
    rcases List.mem_cons.1 h with rfl | h
    · have : (r.filter fun x=>x.born != e.born) = r:=List.filter_eq_self.2 fun x hx=>by
        have : x.born ≠ e.born:=fun e1=>hn.1 (List.mem_map.2 ⟨x,hx,e1⟩)
        simpa using this
      simp [this]
    · have hy : y.born ≠ e.born:=fun e1=>hn.1 (List.mem_map.2 ⟨e,h,e1.symm⟩)
      obtain ⟨h1,h2⟩:=sum_drop (wt:=wt) r hn.2 h
      have hb : (y.born != e.born) = true:=by simpa using hy
      rw [List.filter_cons,if_pos hb];simp only [List.map_cons,List.sum_cons,List.length_cons]
      omega
theorem left_push (es : Array MapEntry) (seen : Array Nat) (b : Nat) : (leftOf es (seen.push b)).toList = (leftOf es seen).toList.filter fun x=>x.born != b:=by
  unfold leftOf;rw [Array.toList_filter,Array.toList_filter,List.filter_filter]
  apply List.filter_congr
  intro x _;rw [Bool.eq_iff_iff]
  simp
  constructor
  · rintro ⟨h1,h2⟩; exact ⟨h2,h1⟩
  · rintro ⟨h1,h2⟩; exact ⟨h2,h1⟩
theorem left_start (es : Array MapEntry) : leftOf es #[] = es:=by
  unfold leftOf
  simp
theorem left_mem {es : Array MapEntry} {seen : Array Nat} {e : MapEntry} (h : e ∈ (leftOf es seen).toList) : e ∈ es.toList:=by
  unfold leftOf at h;rw [Array.toList_filter] at h;exact (List.mem_filter.1 h).1
theorem left_nodup {es : Array MapEntry} (seen : Array Nat) (h : (es.toList.map (·.born)).Nodup) : ((leftOf es seen).toList.map (·.born)).Nodup:=by
  unfold leftOf;rw [Array.toList_filter];exact (List.filter_sublist.map _).nodup h
theorem left_step {es : Array MapEntry} {seen : Array Nat} {e : MapEntry} (hn : (es.toList.map (·.born)).Nodup) (he : e ∈ (leftOf es seen).toList) :
    ((leftOf es seen).toList.map wtE).sum = wtE e + ((leftOf es (seen.push e.born)).toList.map wtE).sum∧(leftOf es (seen.push e.born)).size < (leftOf es seen).size:=by
  have h:=sum_drop (wt:=wtE) _ (left_nodup seen hn) he
  rw [← left_push] at h;exact ⟨h.1,by have:=h.2; simpa using this⟩
def lastN (xs : List Nod) (i : Nat) : Int:=if i = 0 then 0 else (xs.getD (i - 1) noN).id
theorem good_at {xs : List Nod} {i : Nat} {x : Nod} (hx : xs[i]? = some x) : goodN xs i = (sndN x && decide (lastN xs i < x.id)):=by
  unfold goodN lastN;rw [show xs.getD i noN = x by rw [List.getD_eq_getElem?_getD,hx]; rfl]
theorem last_next {xs : List Nod} {i : Nat} {x : Nod} (hx : xs[i]? = some x) : lastN xs (i + 1) = x.id:=by
  unfold lastN;rw [if_neg (by omega),Nat.add_sub_cancel,List.getD_eq_getElem?_getD,hx]; rfl
theorem rising {xs : List Nod} : ∀ {i : Nat} {y : Int},i≤xs.length→allN (goodN xs) i = true→lastN xs i < y→∀ m ∈ xs.take i,m.id < y
  | 0,y,_,_,_,m,hm=>by simp at hm
  | i + 1,y,hi,h,hl,m,hm=>by
    obtain ⟨x,hx⟩ : ∃ x,xs[i]? = some x:=⟨_,List.getElem?_eq_getElem (by omega)⟩;simp only [allN,Bool.and_eq_true] at h;rw [good_at hx] at h;simp only [Bool.and_eq_true,decide_eq_true_eq] at h;rw [last_next hx] at hl;rw [List.take_add_one,hx] at hm;simp only [Option.toList,List.mem_append,List.mem_singleton] at hm
    rcases hm with hm | rfl
    · have:=rising (by omega) h.1 h.2.2 m hm; omega
    · exact hl
def keysN (l : List Nod) : List Key:=(l.map keyN).foldl addK []
theorem keys_next {xs : List Nod} {i : Nat} {x : Nod} (hx : xs[i]? = some x) : keysN (xs.take (i + 1)) = addK (keysN (xs.take i)) (keyN x):=by
  unfold keysN;rw [List.take_add_one,hx]
  simp
theorem mem_addK {ks : List Key} {k q : Key} : q ∈ addK ks k ↔ q ∈ ks∨q = k:=by
  unfold addK
  split
  · rename_i h
    exact ⟨.inl,fun h2=>h2.elim id fun e=>by rw [e]; exact hasK_iff.1 h⟩
  · simp
theorem mem_fold : ∀ (l : List Key) (ks : List Key) (q : Key),q ∈ l.foldl addK ks ↔ q ∈ ks∨q ∈ l
  | [],ks,q=>by simp
  | k::r,ks,q=>by
    rw [List.foldl_cons,mem_fold r,mem_addK,List.mem_cons,or_assoc]
theorem keys_len {xs : List Nod} : ∀ {i : Nat},i≤xs.length→(keysN (xs.take i)).length≤i∧((keysN (xs.take i)).length = i ↔ allN (aloneN xs) i = true)
  | 0,_=>⟨by simp [keysN],by simp [keysN,allN]⟩
  | i + 1,hi=>by
    obtain ⟨x,hx⟩ : ∃ x,xs[i]? = some x:=⟨_,List.getElem?_eq_getElem (by omega)⟩;obtain ⟨h1,h2⟩:=keys_len (xs:=xs) (i:=i) (by omega)
    have hg : xs.getD i noN = x:=by rw [List.getD_eq_getElem?_getD,hx]; rfl
    have ha : aloneN xs i = !hasK (keysN (xs.take i)) (keyN x):=by
      unfold aloneN;rw [hg]
      congr 1
      rw [Bool.eq_iff_iff,hasK_iff,List.any_eq_true];unfold keysN;rw [mem_fold];simp only [List.not_mem_nil,false_or,List.mem_map,decide_eq_true_eq]
    rw [keys_next hx];simp only [allN,Bool.and_eq_true,ha];unfold addK
    by_cases hk : hasK (keysN (xs.take i)) (keyN x) = true
    · rw [if_pos hk,hk];exact ⟨by omega,⟨fun h=>by omega,fun h=>by simp at h⟩⟩
    · rw [if_neg hk]
      have hk' : hasK (keysN (xs.take i)) (keyN x) = false:=by simpa using hk
      rw [hk'];simp only [List.length_append,List.length_cons,List.length_nil,Nat.zero_add,Bool.not_false,and_true];exact ⟨by omega,by rw [← h2]; omega⟩
theorem sumN_le {B : Nat} : ∀ (l : List Nod),(∀ x ∈ l,cnt x.text.data.toList≤B)→sumN l≤l.length * B
  | [],_=>by simp [sumN]
  | x::r,h=>by
    have h1:=sumN_le r (fun y hy=>h y (by simp [hy]))
    have h2:=h x (by simp)
    simp only [sumN,List.length_cons,Nat.add_mul,Nat.one_mul]
    omega
/-- A node as the machine holds it. -/
def mN (x : Nod) : Prop:=x.name.size≤1000000000∧x.text.size≤1000000000
section
variable {W w : World} {cs r r2 : List Ch}
theorem New_c (hs : Sep W w cs) : Calls P 110 #[] w (Rt fun v w'=>∃ b bm,v = .pointer (some ⟨b,0,none⟩)∧Sep W w' (.blk b 146 [.map (some bm)]::.mpN bm []::cs)):=by
  refine enter Tryz.func110 Tryz.ntmps110 rfl rfl fun a (ha : Has a 4 [])=>?_;refine wp_seq_k fun K1 hK1=>?_;refine wp_region_lit ?_;refine pY ha (yAssign rfl) fun a ha=>?_;refine pZ ?_;refine hK1 _ _ ?_;refine wp_seq_k fun K2 hK2=>?_;refine wp_region_lit ?_;refine pMakeMap ha hs rfl fun bm w hs a ha=>?_;refine pY ha (bldTree146_0 rfl) fun a ha=>?_;refine pBox (es:=_) ha rfl rfl hs rfl fun bt w hs a ha=>?_;refine pY ha (yAssign rfl) fun a ha=>?_;refine pZ ?_;refine hK2 _ _ ?_;refine wp_ret ?_;show bodyPost Tryz.prog Tryz.f110 _ .ret _ _;refine ret1 rfl ha rfl ?_;exact ⟨bt,bm,rfl,hs⟩
theorem TreeSound_c (hT : Tabs W) (x : Nod) (hm : mN x) (hs : Sep W w cs) : Calls P 111 #[.agg (cN x).toArray] w (Rt fun v w'=>v = .bool (sndN x)∧Sep W w' cs):=by
  obtain ⟨hm1,hm2⟩:=hm;unfold cN;refine enter Tryz.func111 Tryz.ntmps111 rfl rfl fun a (ha : Has a 42 [(0,_)])=>?_;refine wp_seq_k fun K1 hK1=>?_;refine wp_region_lit ?_;refine pBox (es:=_) ha rfl rfl hs rfl fun b w hs a ha=>?_;refine pY ha (yAssign rfl) fun a ha=>?_;refine pZ ?_;refine hK1 _ _ ?_;refine wp_seq_k fun K2 hK2=>?_;refine wp_region_lit ?_;refine pY ha (yFieldA Tryz.runUnderlying50 rfl Tryz.sizeOf9 rfl rfl) fun a ha=>?_;refine pY ha (yLoadB Tryz.isAgg9 hs rfl pk0 rfl) fun a ha=>?_;refine pC ha (nCall Tryz.call125 rfl) rfl (Count_c hT x.text (by omega) hs) ?_;rintro v w ⟨rfl,hs⟩ a ha;refine pY ha (yMove rfl) fun a ha=>?_
  by_cases hok : okText x.text.data.toList = true
  · rw [if_pos hok] at ha;refine pY ha (yExtract rfl rfl) fun a ha=>?_;refine pY ha (yExtract rfl rfl) fun a ha=>?_;refine pY ha (yAssign rfl) fun a ha=>?_;refine pY ha (yAssign rfl) fun a ha=>?_;refine pZ ?_;refine hK2 _ _ ?_;refine wp_seq_k fun K3 hK3=>?_;refine cutC (fun a w=>Has a 42 [(2,.bool (sndN x))]∧Sep W w cs) ?_ ?_
    · refine wp_region_lit ?_;refine pY ha (yFieldA Tryz.runUnderlying50 rfl Tryz.sizeOf3 rfl rfl) fun a ha=>?_;refine pY ha (yLoadB Tryz.isAgg3 hs rfl pk0 rfl) fun a ha=>?_;refine pY ha (yGeq rfl rfl) fun a ha=>?_;refine pY ha (yMove rfl) fun a ha=>?_;refine gDec (t:=14) ha rfl (fun hg3 hp3=>?_) (fun hg3 hp3=>?_)
      · rw [hg3] at ha;refine gOff ha fun a ha=>?_;refine gOff ha fun a ha=>?_;refine gOff ha fun a ha=>?_;refine pY ha (yPickF rfl rfl) fun a ha=>?_;refine pY ha (yMove rfl) fun a ha=>?_;refine gOff ha fun a ha=>?_;refine gOff ha fun a ha=>?_;refine gOff ha fun a ha=>?_;refine pY ha (yPickF rfl rfl) fun a ha=>?_;refine pY ha (yMove rfl) fun a ha=>?_;refine gOff ha fun a ha=>?_;refine gOff ha fun a ha=>?_;refine pY ha (yPickF rfl rfl) fun a ha=>?_;refine pY ha (yMove rfl) fun a ha=>?_;refine gOff ha fun a ha=>?_;refine gOff ha fun a ha=>?_;refine pY ha (yPickF rfl rfl) fun a ha=>?_;refine pY ha (yMove rfl) fun a ha=>?_;refine gOff ha fun a ha=>?_;refine gOff ha fun a ha=>?_;refine gOff ha fun a ha=>?_;refine gOff ha fun a ha=>?_;refine gOffU ha fun a ha=>?_;refine gOffU ha fun a ha=>?_;refine gOffU ha fun a ha=>?_;refine gOff ha fun a ha=>?_;refine pY ha (yPickF rfl rfl) fun a ha=>?_;refine pY ha (yAssign rfl) fun a ha=>?_;refine pZ ⟨rfl,?_⟩;refine ⟨has1 ha ?_,hs.drop⟩;refine congrArg (fun b=>some (Value.bool b)) ?_;unfold sndN emp;rw [Bool.eq_iff_iff]
        have hok':=hok
        have hc0 : cnt ([] : List UInt8) = 0:=rfl
        simp only [decide_eq_true_eq,decide_eq_false_iff_not,Bool.and_eq_true,Bool.or_eq_true,Bool.not_eq_true',Bool.not_eq_false',Bool.and_eq_false_iff,Bool.or_eq_false_iff,Bool.false_eq_true,true_iff,false_iff,iff_true,iff_false,Bool.not_eq_eq_eq_not,Bool.not_true,Bool.not_false,Bool.not_eq_true] at *
        omega
      · rw [hg3] at ha;refine gOn ha ?_;refine pY ha (yFieldA Tryz.runUnderlying50 rfl Tryz.sizeOf3 rfl rfl) fun a ha=>?_;refine gOn ha ?_;refine pY ha (yLoadB Tryz.isAgg3 hs rfl pk0 rfl) fun a ha=>?_;refine gOn ha ?_;refine pY ha (yLeq rfl rfl) fun a ha=>?_;refine pY ha (yPickT rfl rfl) fun a ha=>?_;refine pY ha (yMove rfl) fun a ha=>?_;refine gSplit (t:=19) ha rfl (fun hg8=>?_) (fun hg8=>?_)
        · rw [hg8] at ha;refine gOff ha fun a ha=>?_;refine gOff ha fun a ha=>?_;refine gOff ha fun a ha=>?_;refine pY ha (yPickF rfl rfl) fun a ha=>?_;refine pY ha (yMove rfl) fun a ha=>?_;refine gOff ha fun a ha=>?_;refine gOff ha fun a ha=>?_;refine pY ha (yPickF rfl rfl) fun a ha=>?_;refine pY ha (yMove rfl) fun a ha=>?_;refine gOff ha fun a ha=>?_;refine gOff ha fun a ha=>?_;refine pY ha (yPickF rfl rfl) fun a ha=>?_;refine pY ha (yMove rfl) fun a ha=>?_;refine gOff ha fun a ha=>?_;refine gOff ha fun a ha=>?_;refine gOff ha fun a ha=>?_;refine gOff ha fun a ha=>?_;refine gOffU ha fun a ha=>?_;refine gOffU ha fun a ha=>?_;refine gOffU ha fun a ha=>?_;refine gOff ha fun a ha=>?_;refine pY ha (yPickF rfl rfl) fun a ha=>?_;refine pY ha (yAssign rfl) fun a ha=>?_;refine pZ ⟨rfl,?_⟩;refine ⟨has1 ha ?_,hs.drop⟩;refine congrArg (fun b=>some (Value.bool b)) ?_;unfold sndN emp;rw [Bool.eq_iff_iff]
          have hok':=hok
          have hc0 : cnt ([] : List UInt8) = 0:=rfl
          simp only [decide_eq_true_eq,decide_eq_false_iff_not,Bool.and_eq_true,Bool.or_eq_true,Bool.not_eq_true',Bool.not_eq_false',Bool.and_eq_false_iff,Bool.or_eq_false_iff,Bool.false_eq_true,true_iff,false_iff,iff_true,iff_false,Bool.not_eq_eq_eq_not,Bool.not_true,Bool.not_false,Bool.not_eq_true] at *
          omega
        · rw [hg8] at ha;refine gOn ha ?_;refine pY ha (yFieldA Tryz.runUnderlying50 rfl Tryz.sizeOf9 rfl rfl) fun a ha=>?_;refine gOn ha ?_;refine pY ha (yLoadB Tryz.isAgg9 hs rfl pk0 rfl) fun a ha=>?_;refine gOn ha ?_;refine pC ha (nCall Tryz.call106 rfl) rfl (Name_c x.name hm1 hs) ?_;rintro v w ⟨rfl,hs⟩ a ha;refine pY ha (yPickT rfl rfl) fun a ha=>?_;refine pY ha (yMove rfl) fun a ha=>?_;refine gSplit (t:=24) ha rfl (fun hg13=>?_) (fun hg13=>?_)
          · rw [hg13] at ha;refine gOff ha fun a ha=>?_;refine gOff ha fun a ha=>?_;refine pY ha (yPickF rfl rfl) fun a ha=>?_;refine pY ha (yMove rfl) fun a ha=>?_;refine gOff ha fun a ha=>?_;refine gOff ha fun a ha=>?_;refine pY ha (yPickF rfl rfl) fun a ha=>?_;refine pY ha (yMove rfl) fun a ha=>?_;refine gOff ha fun a ha=>?_;refine gOff ha fun a ha=>?_;refine gOff ha fun a ha=>?_;refine gOff ha fun a ha=>?_;refine gOffU ha fun a ha=>?_;refine gOffU ha fun a ha=>?_;refine gOffU ha fun a ha=>?_;refine gOff ha fun a ha=>?_;refine pY ha (yPickF rfl rfl) fun a ha=>?_;refine pY ha (yAssign rfl) fun a ha=>?_;refine pZ ⟨rfl,?_⟩;refine ⟨has1 ha ?_,hs.drop⟩;refine congrArg (fun b=>some (Value.bool b)) ?_;unfold sndN emp;rw [Bool.eq_iff_iff]
            have hok':=hok
            have hc0 : cnt ([] : List UInt8) = 0:=rfl
            simp only [decide_eq_true_eq,decide_eq_false_iff_not,Bool.and_eq_true,Bool.or_eq_true,Bool.not_eq_true',Bool.not_eq_false',Bool.and_eq_false_iff,Bool.or_eq_false_iff,Bool.false_eq_true,true_iff,false_iff,iff_true,iff_false,Bool.not_eq_eq_eq_not,Bool.not_true,Bool.not_false,Bool.not_eq_true] at *
            (simp_all; done)
          · rw [hg13] at ha;refine gOn ha ?_;refine pY ha (yMove rfl) fun a ha=>?_;refine gOn ha ?_;refine pY ha (yEql rfl rfl) fun a ha=>?_;refine pY ha (yPickT rfl rfl) fun a ha=>?_;refine pY ha (yMove rfl) fun a ha=>?_;refine gSplit (t:=28) ha rfl (fun hg17=>?_) (fun hg17=>?_)
            · rw [hg17] at ha;refine gOff ha fun a ha=>?_;refine gOff ha fun a ha=>?_;refine pY ha (yPickF rfl rfl) fun a ha=>?_;refine pY ha (yMove rfl) fun a ha=>?_;refine gOff ha fun a ha=>?_;refine gOff ha fun a ha=>?_;refine gOff ha fun a ha=>?_;refine gOff ha fun a ha=>?_;refine gOffU ha fun a ha=>?_;refine gOffU ha fun a ha=>?_;refine gOffU ha fun a ha=>?_;refine gOff ha fun a ha=>?_;refine pY ha (yPickF rfl rfl) fun a ha=>?_;refine pY ha (yAssign rfl) fun a ha=>?_;refine pZ ⟨rfl,?_⟩;refine ⟨has1 ha ?_,hs.drop⟩;refine congrArg (fun b=>some (Value.bool b)) ?_;unfold sndN emp;rw [Bool.eq_iff_iff]
              have hok':=hok
              have hc0 : cnt ([] : List UInt8) = 0:=rfl
              simp only [decide_eq_true_eq,decide_eq_false_iff_not,Bool.and_eq_true,Bool.or_eq_true,Bool.not_eq_true',Bool.not_eq_false',Bool.and_eq_false_iff,Bool.or_eq_false_iff,Bool.false_eq_true,true_iff,false_iff,iff_true,iff_false,Bool.not_eq_eq_eq_not,Bool.not_true,Bool.not_false,Bool.not_eq_true] at *
              (simp_all; done)
            · rw [hg17] at ha;refine gOn ha ?_;refine pY ha (yMove rfl) fun a ha=>?_;refine gOn ha ?_;refine pY ha (yLeq rfl rfl) fun a ha=>?_;refine pY ha (yPickT rfl rfl) fun a ha=>?_;refine pY ha (yMove rfl) fun a ha=>?_;refine gSplit (t:=32) ha rfl (fun hg21=>?_) (fun hg21=>?_)
              · rw [hg21] at ha;refine gOff ha fun a ha=>?_;refine gOff ha fun a ha=>?_;refine gOff ha fun a ha=>?_;refine gOff ha fun a ha=>?_;refine gOffU ha fun a ha=>?_;refine gOffU ha fun a ha=>?_;refine gOffU ha fun a ha=>?_;refine gOff ha fun a ha=>?_;refine pY ha (yPickF rfl rfl) fun a ha=>?_;refine pY ha (yAssign rfl) fun a ha=>?_;refine pZ ⟨rfl,?_⟩;refine ⟨has1 ha ?_,hs.drop⟩;refine congrArg (fun b=>some (Value.bool b)) ?_;unfold sndN emp;rw [Bool.eq_iff_iff]
                have hok':=hok
                have hc0 : cnt ([] : List UInt8) = 0:=rfl
                simp only [decide_eq_true_eq,decide_eq_false_iff_not,Bool.and_eq_true,Bool.or_eq_true,Bool.not_eq_true',Bool.not_eq_false',Bool.and_eq_false_iff,Bool.or_eq_false_iff,Bool.false_eq_true,true_iff,false_iff,iff_true,iff_false,Bool.not_eq_eq_eq_not,Bool.not_true,Bool.not_false,Bool.not_eq_true] at *
                omega
              · rw [hg21] at ha;refine gOn ha ?_;refine pY ha (yFieldA Tryz.runUnderlying50 rfl Tryz.sizeOf4 rfl rfl) fun a ha=>?_;refine gOn ha ?_;refine pY ha (yLoadB Tryz.isAgg4 hs rfl pk0 rfl) fun a ha=>?_;refine gOn ha ?_;refine pY ha (yNot rfl) fun a ha=>?_;refine gOn ha ?_;refine pY ha (yMove rfl) fun a ha=>?_;refine gSplit (t:=36) ha rfl (fun hg25=>?_) (fun hg25=>?_)
                · rw [hg25] at ha;refine gOn ha ?_;refine pY ha (yFieldA Tryz.runUnderlying50 rfl Tryz.sizeOf9 rfl rfl) fun a ha=>?_;refine gOn ha ?_;refine pY ha (yLoadB Tryz.isAgg9 hs rfl pk0 rfl) fun a ha=>?_;refine gOn ha ?_;refine pY ha (yStrEql rfl rfl) fun a ha=>?_;refine gOn ha ?_;refine pY ha (yPickF rfl rfl) fun a ha=>?_;refine pY ha (yPickT rfl rfl) fun a ha=>?_;refine pY ha (yAssign rfl) fun a ha=>?_;refine pZ ⟨rfl,?_⟩;refine ⟨has1 ha ?_,hs.drop⟩;refine congrArg (fun b=>some (Value.bool b)) ?_;unfold sndN emp;rw [Bool.eq_iff_iff]
                  have hok':=hok
                  have hc0 : cnt ([] : List UInt8) = 0:=rfl
                  simp only [decide_eq_true_eq,decide_eq_false_iff_not,Bool.and_eq_true,Bool.or_eq_true,Bool.not_eq_true',Bool.not_eq_false',Bool.and_eq_false_iff,Bool.or_eq_false_iff,Bool.false_eq_true,true_iff,false_iff,iff_true,iff_false,Bool.not_eq_eq_eq_not,Bool.not_true,Bool.not_false,Bool.not_eq_true] at *
                  (simp_all; done)
                · rw [hg25] at ha;refine gOff ha fun a ha=>?_;refine gOff ha fun a ha=>?_;refine gOff ha fun a ha=>?_;refine gOn ha ?_;refine pY ha (yPickT rfl rfl) fun a ha=>?_;refine pY ha (yPickT rfl rfl) fun a ha=>?_;refine pY ha (yAssign rfl) fun a ha=>?_;refine pZ ⟨rfl,?_⟩;refine ⟨has1 ha ?_,hs.drop⟩;refine congrArg (fun b=>some (Value.bool b)) ?_;unfold sndN emp;rw [Bool.eq_iff_iff]
                  have hok':=hok
                  have hc0 : cnt ([] : List UInt8) = 0:=rfl
                  simp only [decide_eq_true_eq,decide_eq_false_iff_not,Bool.and_eq_true,Bool.or_eq_true,Bool.not_eq_true',Bool.not_eq_false',Bool.and_eq_false_iff,Bool.or_eq_false_iff,Bool.false_eq_true,true_iff,false_iff,iff_true,iff_false,Bool.not_eq_eq_eq_not,Bool.not_true,Bool.not_false,Bool.not_eq_true] at *
                  (simp_all; omega)
    rintro a w ⟨ha,hs⟩;refine hK3 _ _ ?_;refine wp_ret ?_;show bodyPost Tryz.prog Tryz.f111 _ .ret _ _;refine ret1 rfl ha rfl ?_;exact ⟨rfl,hs⟩
  · rw [if_neg hok] at ha;refine pY ha (yExtract rfl rfl) fun a ha=>?_;refine pY ha (yExtract rfl rfl) fun a ha=>?_;refine pY ha (yAssign rfl) fun a ha=>?_;refine pY ha (yAssign rfl) fun a ha=>?_;refine pZ ?_;refine hK2 _ _ ?_;refine wp_seq_k fun K4 hK4=>?_;refine cutC (fun a w=>Has a 42 [(2,.bool (sndN x))]∧Sep W w cs) ?_ ?_
    · refine wp_region_lit ?_;refine pY ha (yFieldA Tryz.runUnderlying50 rfl Tryz.sizeOf3 rfl rfl) fun a ha=>?_;refine pY ha (yLoadB Tryz.isAgg3 hs rfl pk0 rfl) fun a ha=>?_;refine pY ha (yGeq rfl rfl) fun a ha=>?_;refine pY ha (yMove rfl) fun a ha=>?_;refine gDec (t:=14) ha rfl (fun hg3 hp3=>?_) (fun hg3 hp3=>?_)
      · rw [hg3] at ha;refine gOff ha fun a ha=>?_;refine gOff ha fun a ha=>?_;refine gOff ha fun a ha=>?_;refine pY ha (yPickF rfl rfl) fun a ha=>?_;refine pY ha (yMove rfl) fun a ha=>?_;refine gOff ha fun a ha=>?_;refine gOff ha fun a ha=>?_;refine gOff ha fun a ha=>?_;refine pY ha (yPickF rfl rfl) fun a ha=>?_;refine pY ha (yMove rfl) fun a ha=>?_;refine gOff ha fun a ha=>?_;refine gOff ha fun a ha=>?_;refine pY ha (yPickF rfl rfl) fun a ha=>?_;refine pY ha (yMove rfl) fun a ha=>?_;refine gOff ha fun a ha=>?_;refine gOff ha fun a ha=>?_;refine pY ha (yPickF rfl rfl) fun a ha=>?_;refine pY ha (yMove rfl) fun a ha=>?_;refine gOff ha fun a ha=>?_;refine gOff ha fun a ha=>?_;refine gOff ha fun a ha=>?_;refine gOff ha fun a ha=>?_;refine gOffU ha fun a ha=>?_;refine gOffU ha fun a ha=>?_;refine gOffU ha fun a ha=>?_;refine gOff ha fun a ha=>?_;refine pY ha (yPickF rfl rfl) fun a ha=>?_;refine pY ha (yAssign rfl) fun a ha=>?_;refine pZ ⟨rfl,?_⟩;refine ⟨has1 ha ?_,hs.drop⟩;refine congrArg (fun b=>some (Value.bool b)) ?_;unfold sndN emp;rw [Bool.eq_iff_iff]
        have hok':=hok
        have hc0 : cnt ([] : List UInt8) = 0:=rfl
        simp only [decide_eq_true_eq,decide_eq_false_iff_not,Bool.and_eq_true,Bool.or_eq_true,Bool.not_eq_true',Bool.not_eq_false',Bool.and_eq_false_iff,Bool.or_eq_false_iff,Bool.false_eq_true,true_iff,false_iff,iff_true,iff_false,Bool.not_eq_eq_eq_not,Bool.not_true,Bool.not_false,Bool.not_eq_true] at *
        omega
      · rw [hg3] at ha;refine gOn ha ?_;refine pY ha (yFieldA Tryz.runUnderlying50 rfl Tryz.sizeOf3 rfl rfl) fun a ha=>?_;refine gOn ha ?_;refine pY ha (yLoadB Tryz.isAgg3 hs rfl pk0 rfl) fun a ha=>?_;refine gOn ha ?_;refine pY ha (yLeq rfl rfl) fun a ha=>?_;refine pY ha (yPickT rfl rfl) fun a ha=>?_;refine pY ha (yMove rfl) fun a ha=>?_;refine gSplit (t:=19) ha rfl (fun hg8=>?_) (fun hg8=>?_)
        · rw [hg8] at ha;refine gOff ha fun a ha=>?_;refine gOff ha fun a ha=>?_;refine gOff ha fun a ha=>?_;refine pY ha (yPickF rfl rfl) fun a ha=>?_;refine pY ha (yMove rfl) fun a ha=>?_;refine gOff ha fun a ha=>?_;refine gOff ha fun a ha=>?_;refine pY ha (yPickF rfl rfl) fun a ha=>?_;refine pY ha (yMove rfl) fun a ha=>?_;refine gOff ha fun a ha=>?_;refine gOff ha fun a ha=>?_;refine pY ha (yPickF rfl rfl) fun a ha=>?_;refine pY ha (yMove rfl) fun a ha=>?_;refine gOff ha fun a ha=>?_;refine gOff ha fun a ha=>?_;refine gOff ha fun a ha=>?_;refine gOff ha fun a ha=>?_;refine gOffU ha fun a ha=>?_;refine gOffU ha fun a ha=>?_;refine gOffU ha fun a ha=>?_;refine gOff ha fun a ha=>?_;refine pY ha (yPickF rfl rfl) fun a ha=>?_;refine pY ha (yAssign rfl) fun a ha=>?_;refine pZ ⟨rfl,?_⟩;refine ⟨has1 ha ?_,hs.drop⟩;refine congrArg (fun b=>some (Value.bool b)) ?_;unfold sndN emp;rw [Bool.eq_iff_iff]
          have hok':=hok
          have hc0 : cnt ([] : List UInt8) = 0:=rfl
          simp only [decide_eq_true_eq,decide_eq_false_iff_not,Bool.and_eq_true,Bool.or_eq_true,Bool.not_eq_true',Bool.not_eq_false',Bool.and_eq_false_iff,Bool.or_eq_false_iff,Bool.false_eq_true,true_iff,false_iff,iff_true,iff_false,Bool.not_eq_eq_eq_not,Bool.not_true,Bool.not_false,Bool.not_eq_true] at *
          omega
        · rw [hg8] at ha;refine gOn ha ?_;refine pY ha (yFieldA Tryz.runUnderlying50 rfl Tryz.sizeOf9 rfl rfl) fun a ha=>?_;refine gOn ha ?_;refine pY ha (yLoadB Tryz.isAgg9 hs rfl pk0 rfl) fun a ha=>?_;refine gOn ha ?_;refine pC ha (nCall Tryz.call106 rfl) rfl (Name_c x.name hm1 hs) ?_;rintro v w ⟨rfl,hs⟩ a ha;refine pY ha (yPickT rfl rfl) fun a ha=>?_;refine pY ha (yMove rfl) fun a ha=>?_;refine gSplit (t:=24) ha rfl (fun hg13=>?_) (fun hg13=>?_)
          · rw [hg13] at ha;refine gOff ha fun a ha=>?_;refine gOff ha fun a ha=>?_;refine pY ha (yPickF rfl rfl) fun a ha=>?_;refine pY ha (yMove rfl) fun a ha=>?_;refine gOff ha fun a ha=>?_;refine gOff ha fun a ha=>?_;refine pY ha (yPickF rfl rfl) fun a ha=>?_;refine pY ha (yMove rfl) fun a ha=>?_;refine gOff ha fun a ha=>?_;refine gOff ha fun a ha=>?_;refine gOff ha fun a ha=>?_;refine gOff ha fun a ha=>?_;refine gOffU ha fun a ha=>?_;refine gOffU ha fun a ha=>?_;refine gOffU ha fun a ha=>?_;refine gOff ha fun a ha=>?_;refine pY ha (yPickF rfl rfl) fun a ha=>?_;refine pY ha (yAssign rfl) fun a ha=>?_;refine pZ ⟨rfl,?_⟩;refine ⟨has1 ha ?_,hs.drop⟩;refine congrArg (fun b=>some (Value.bool b)) ?_;unfold sndN emp;rw [Bool.eq_iff_iff]
            have hok':=hok
            have hc0 : cnt ([] : List UInt8) = 0:=rfl
            simp only [decide_eq_true_eq,decide_eq_false_iff_not,Bool.and_eq_true,Bool.or_eq_true,Bool.not_eq_true',Bool.not_eq_false',Bool.and_eq_false_iff,Bool.or_eq_false_iff,Bool.false_eq_true,true_iff,false_iff,iff_true,iff_false,Bool.not_eq_eq_eq_not,Bool.not_true,Bool.not_false,Bool.not_eq_true] at *
            (simp_all; done)
          · rw [hg13] at ha;refine gOn ha ?_;refine pY ha (yMove rfl) fun a ha=>?_;refine gOn ha ?_;refine pY ha (yEql rfl rfl) fun a ha=>?_;refine pY ha (yPickT rfl rfl) fun a ha=>?_;refine pY ha (yMove rfl) fun a ha=>?_;refine gSplit (t:=28) ha rfl (fun hg17=>?_) (fun hg17=>?_)
            · rw [hg17] at ha;refine gOff ha fun a ha=>?_;refine gOff ha fun a ha=>?_;refine pY ha (yPickF rfl rfl) fun a ha=>?_;refine pY ha (yMove rfl) fun a ha=>?_;refine gOff ha fun a ha=>?_;refine gOff ha fun a ha=>?_;refine gOff ha fun a ha=>?_;refine gOff ha fun a ha=>?_;refine gOffU ha fun a ha=>?_;refine gOffU ha fun a ha=>?_;refine gOffU ha fun a ha=>?_;refine gOff ha fun a ha=>?_;refine pY ha (yPickF rfl rfl) fun a ha=>?_;refine pY ha (yAssign rfl) fun a ha=>?_;refine pZ ⟨rfl,?_⟩;refine ⟨has1 ha ?_,hs.drop⟩;refine congrArg (fun b=>some (Value.bool b)) ?_;unfold sndN emp;rw [Bool.eq_iff_iff]
              have hok':=hok
              have hc0 : cnt ([] : List UInt8) = 0:=rfl
              simp only [decide_eq_true_eq,decide_eq_false_iff_not,Bool.and_eq_true,Bool.or_eq_true,Bool.not_eq_true',Bool.not_eq_false',Bool.and_eq_false_iff,Bool.or_eq_false_iff,Bool.false_eq_true,true_iff,false_iff,iff_true,iff_false,Bool.not_eq_eq_eq_not,Bool.not_true,Bool.not_false,Bool.not_eq_true] at *
              (simp_all; done)
            · rw [hg17] at ha;refine gOn ha ?_;refine pY ha (yMove rfl) fun a ha=>?_;refine gOn ha ?_;refine pY ha (yLeq rfl rfl) fun a ha=>?_;refine pY ha (yPickT rfl rfl) fun a ha=>?_;refine pY ha (yMove rfl) fun a ha=>?_;refine gSplit (t:=32) ha rfl (fun hg21=>?_) (fun hg21=>?_)
              · rw [hg21] at ha;refine gOff ha fun a ha=>?_;refine gOff ha fun a ha=>?_;refine gOff ha fun a ha=>?_;refine gOff ha fun a ha=>?_;refine gOffU ha fun a ha=>?_;refine gOffU ha fun a ha=>?_;refine gOffU ha fun a ha=>?_;refine gOff ha fun a ha=>?_;refine pY ha (yPickF rfl rfl) fun a ha=>?_;refine pY ha (yAssign rfl) fun a ha=>?_;refine pZ ⟨rfl,?_⟩;refine ⟨has1 ha ?_,hs.drop⟩;refine congrArg (fun b=>some (Value.bool b)) ?_;unfold sndN emp;rw [Bool.eq_iff_iff]
                have hok':=hok
                have hc0 : cnt ([] : List UInt8) = 0:=rfl
                simp only [decide_eq_true_eq,decide_eq_false_iff_not,Bool.and_eq_true,Bool.or_eq_true,Bool.not_eq_true',Bool.not_eq_false',Bool.and_eq_false_iff,Bool.or_eq_false_iff,Bool.false_eq_true,true_iff,false_iff,iff_true,iff_false,Bool.not_eq_eq_eq_not,Bool.not_true,Bool.not_false,Bool.not_eq_true] at *
                omega
              · rw [hg21] at ha;refine gOn ha ?_;refine pY ha (yFieldA Tryz.runUnderlying50 rfl Tryz.sizeOf4 rfl rfl) fun a ha=>?_;refine gOn ha ?_;refine pY ha (yLoadB Tryz.isAgg4 hs rfl pk0 rfl) fun a ha=>?_;refine gOn ha ?_;refine pY ha (yNot rfl) fun a ha=>?_;refine gOn ha ?_;refine pY ha (yMove rfl) fun a ha=>?_;refine gSplit (t:=36) ha rfl (fun hg25=>?_) (fun hg25=>?_)
                · rw [hg25] at ha;refine gOn ha ?_;refine pY ha (yFieldA Tryz.runUnderlying50 rfl Tryz.sizeOf9 rfl rfl) fun a ha=>?_;refine gOn ha ?_;refine pY ha (yLoadB Tryz.isAgg9 hs rfl pk0 rfl) fun a ha=>?_;refine gOn ha ?_;refine pY ha (yStrEql rfl rfl) fun a ha=>?_;refine gOn ha ?_;refine pY ha (yPickF rfl rfl) fun a ha=>?_;refine pY ha (yPickT rfl rfl) fun a ha=>?_;refine pY ha (yAssign rfl) fun a ha=>?_;refine pZ ⟨rfl,?_⟩;refine ⟨has1 ha ?_,hs.drop⟩;refine congrArg (fun b=>some (Value.bool b)) ?_;unfold sndN emp;rw [Bool.eq_iff_iff]
                  have hok':=hok
                  have hc0 : cnt ([] : List UInt8) = 0:=rfl
                  simp only [decide_eq_true_eq,decide_eq_false_iff_not,Bool.and_eq_true,Bool.or_eq_true,Bool.not_eq_true',Bool.not_eq_false',Bool.and_eq_false_iff,Bool.or_eq_false_iff,Bool.false_eq_true,true_iff,false_iff,iff_true,iff_false,Bool.not_eq_eq_eq_not,Bool.not_true,Bool.not_false,Bool.not_eq_true] at *
                  omega
                · rw [hg25] at ha;refine gOff ha fun a ha=>?_;refine gOff ha fun a ha=>?_;refine gOff ha fun a ha=>?_;refine gOn ha ?_;refine pY ha (yPickT rfl rfl) fun a ha=>?_;refine pY ha (yPickT rfl rfl) fun a ha=>?_;refine pY ha (yAssign rfl) fun a ha=>?_;refine pZ ⟨rfl,?_⟩;refine ⟨has1 ha ?_,hs.drop⟩;refine congrArg (fun b=>some (Value.bool b)) ?_;unfold sndN emp;rw [Bool.eq_iff_iff]
                  have hok':=hok
                  have hc0 : cnt ([] : List UInt8) = 0:=rfl
                  simp only [decide_eq_true_eq,decide_eq_false_iff_not,Bool.and_eq_true,Bool.or_eq_true,Bool.not_eq_true',Bool.not_eq_false',Bool.and_eq_false_iff,Bool.or_eq_false_iff,Bool.false_eq_true,true_iff,false_iff,iff_true,iff_false,Bool.not_eq_eq_eq_not,Bool.not_true,Bool.not_false,Bool.not_eq_true] at *
                  omega
    rintro a w ⟨ha,hs⟩;refine hK4 _ _ ?_;refine wp_ret ?_;show bodyPost Tryz.prog Tryz.f111 _ .ret _ _;refine ret1 rfl ha rfl ?_;exact ⟨rfl,hs⟩
theorem Rooted_c {bt bm : Nat} {xs : List Nod} (id : Int) (hl : xs.length≤1000000000) (hs : Sep W w cs) (hk : Pick cs (.blk bt 146 [.map (some bm)]) r) (hk2 : Pick r (.mpN bm xs) r2) :
    Calls P 112 #[.pointer (some ⟨bt,0,none⟩),.int .i64 id] w (Rt fun v w'=>v = .bool (rooted xs xs.length id)∧Sep W w' cs):=by
  have hp:=hk.perm.trans (hk2.perm.cons _)
  have hs:=hs.perm hp;refine enter Tryz.func112 Tryz.ntmps112 rfl rfl fun a (ha : Has a 24 [(0,_),(1,_)])=>?_;refine wp_seq_k fun K1 hK1=>?_;refine wp_region_lit ?_;refine pY ha (yAssign rfl) fun a ha=>?_;refine pZ ?_;refine hK1 _ _ ?_;refine scopeN (ι:=Nat × Int) 0 (fun i a w=>i.1≤xs.length∧rooted xs xs.length id = rooted xs (xs.length - i.1) i.2∧Has a 24 [(0,.pointer (some ⟨bt,0,none⟩)),(1,.int .i64 i.2),(5,.int .i64 i.1)]∧Sep W w (.blk bt 146 [.map (some bm)]::.mpN bm xs::r2)) (fun i=>xs.length - i.1) 0 ?_ ?_
  · refine wp_seq_k fun K2 hK2=>?_;refine wp_region_lit ?_;refine pY ha (yAssign rfl) fun a ha=>?_;refine pZ ?_;refine hK2 _ _ ?_;refine wp_seq_k fun K3 hK3=>?_;refine wp_label ?_;refine hK3 _ _ ?_;refine wp_seq_k fun K4 hK4=>?_;refine wp_seq_k fun K5 hK5=>?_
    (obtain ⟨n,hn0⟩ : ∃ n : Nat,(0 : Int) = n:=⟨0,rfl⟩
     have ha : Has a 24 [(0,.pointer (some ⟨bt,0,none⟩)),(1,.int .i64 id),(5,.int .i64 n)]:=has3 ha rfl rfl (by rw [← hn0]; rfl)
     obtain ⟨d,hd⟩ : ∃ d,d = id:=⟨_,rfl⟩;rw [← hd] at ha
     have h1 : n≤xs.length:=by omega
     have h2 : rooted xs xs.length id = rooted xs (xs.length - n) d:=by rw [hd,show n = 0 by omega]; rfl)
    refine wp_region_lit ?_;refine pY ha (yMove rfl) fun a ha=>?_;refine pY ha (yEql rfl rfl) fun a ha=>?_;refine pZ ?_;refine hK5 _ _ ?_;refine cDec ha rfl (fun hc7=>?_) (fun hc7=>?_)
    · refine wp_seq_k fun K6 hK6=>?_;refine wp_region_lit ?_;refine pY ha (yAssign rfl) fun a ha=>?_;refine pZ ?_;refine hK6 _ _ ?_;refine wp_ret ?_;show bodyPost Tryz.prog Tryz.f112 _ .ret _ _;refine ret1 rfl ha rfl ?_;refine ⟨congrArg Value.bool ?_,hs.perm hp.symm⟩;rw [h2]
      (cases xs.length - n <;> (simp [rooted,hc7]; done))
    · have hr0 : ∀ k,rooted xs (k + 1) d = rooted xs k (findN xs d).parent:=fun k=>by rw [rooted,decide_eq_false hc7]; rfl
      refine wp_skip ?_;refine hK4 _ _ ?_;refine wp_seq_k fun K7 hK7=>?_;refine wp_seq_k fun K8 hK8=>?_;refine wp_region_lit ?_;refine pY ha (yMove rfl) fun a ha=>?_;refine pY ha (yAddN rfl rfl ⟨by omega,by omega⟩) fun a ha=>?_;refine pY ha (yAssign rfl) fun a ha=>?_;refine pZ ?_;refine hK8 _ _ ?_;refine wp_seq_k fun K9 hK9=>?_;refine wp_region_lit ?_;refine pY ha (yMove rfl) fun a ha=>?_;refine pY ha (yMove rfl) fun a ha=>?_;refine pY ha (yNilP rfl) fun a ha=>?_;refine pY ha (yFieldA Tryz.runUnderlying146 rfl Tryz.sizeOf144 rfl rfl) fun a ha=>?_;refine pY ha (yLoadB Tryz.isAgg144 hs rfl pk0 rfl) fun a ha=>?_;refine pY ha (yLenN hs rfl pk1) fun a ha=>?_;refine pY ha (yGtr rfl rfl) fun a ha=>?_;refine pZ ?_;refine hK9 _ _ ?_;refine cDec ha rfl (fun hc16=>?_) (fun hc16=>?_)
      · refine wp_seq_k fun K10 hK10=>?_;refine wp_region_lit ?_;refine pY ha (yAssign rfl) fun a ha=>?_;refine pZ ?_;refine hK10 _ _ ?_;refine wp_ret ?_;show bodyPost Tryz.prog Tryz.f112 _ .ret _ _;refine ret1 rfl ha rfl ?_;refine ⟨congrArg Value.bool ?_,hs.perm hp.symm⟩;rw [h2]
        (rw [show xs.length - n = 0 by omega,rooted,decide_eq_false hc7])
      · have hr : rooted xs xs.length id = rooted xs (xs.length - (n + 1)) (findN xs d).parent:=by rw [h2,show xs.length - n = xs.length - (n + 1) + 1 by omega,hr0]
        refine wp_skip ?_;refine hK7 _ _ ?_;refine wp_seq_k fun K11 hK11=>?_;refine wp_region_lit ?_;refine pY ha (yMove rfl) fun a ha=>?_;refine pY ha (yNilP rfl) fun a ha=>?_;refine pY ha (yFieldA Tryz.runUnderlying146 rfl Tryz.sizeOf144 rfl rfl) fun a ha=>?_;refine pY ha (yLoadB Tryz.isAgg144 hs rfl pk0 rfl) fun a ha=>?_;refine pY ha (yMove rfl) fun a ha=>?_;refine pY ha (yLookN hs rfl pk1 rfl) fun a ha=>?_;refine pY ha (yField Tryz.runUnderlying50 rfl Tryz.isAgg3 rfl rfl) fun a ha=>?_;refine pY ha (yAssign rfl) fun a ha=>?_;refine pZ ?_;refine hK11 _ _ ?_;refine wp_goto ?_
        repeat (with_reducible first | refine gThen ?_ | refine gBlock ?_)
        refine gxL ?_;refine ⟨(n + 1,(findN xs d).parent),by simp only; omega,hr,has3 ha rfl rfl rfl,hs⟩
  · rintro i a w ⟨h1,h2,ha,hs⟩;refine ⟨_,rfl,?_⟩;refine wp_seq_k fun K12 hK12=>?_;refine wp_skip ?_;refine hK12 _ _ ?_;refine wp_seq_k fun K13 hK13=>?_;refine wp_seq_k fun K14 hK14=>?_
    (obtain ⟨n,d⟩:=i; simp only at h1 h2 ha hs; obtain hnn : n = n:=rfl)
    refine wp_region_lit ?_;refine pY ha (yMove rfl) fun a ha=>?_;refine pY ha (yEql rfl rfl) fun a ha=>?_;refine pZ ?_;refine hK14 _ _ ?_;refine cDec ha rfl (fun hc7=>?_) (fun hc7=>?_)
    · refine wp_seq_k fun K15 hK15=>?_;refine wp_region_lit ?_;refine pY ha (yAssign rfl) fun a ha=>?_;refine pZ ?_;refine hK15 _ _ ?_;refine wp_ret ?_;show bodyPost Tryz.prog Tryz.f112 _ .ret _ _;refine ret1 rfl ha rfl ?_;refine ⟨congrArg Value.bool ?_,hs.perm hp.symm⟩;rw [h2]
      (cases xs.length - n <;> (simp [rooted,hc7]; done))
    · have hr0 : ∀ k,rooted xs (k + 1) d = rooted xs k (findN xs d).parent:=fun k=>by rw [rooted,decide_eq_false hc7]; rfl
      refine wp_skip ?_;refine hK13 _ _ ?_;refine wp_seq_k fun K16 hK16=>?_;refine wp_seq_k fun K17 hK17=>?_;refine wp_region_lit ?_;refine pY ha (yMove rfl) fun a ha=>?_;refine pY ha (yAddN rfl rfl ⟨by omega,by omega⟩) fun a ha=>?_;refine pY ha (yAssign rfl) fun a ha=>?_;refine pZ ?_;refine hK17 _ _ ?_;refine wp_seq_k fun K18 hK18=>?_;refine wp_region_lit ?_;refine pY ha (yMove rfl) fun a ha=>?_;refine pY ha (yMove rfl) fun a ha=>?_;refine pY ha (yNilP rfl) fun a ha=>?_;refine pY ha (yFieldA Tryz.runUnderlying146 rfl Tryz.sizeOf144 rfl rfl) fun a ha=>?_;refine pY ha (yLoadB Tryz.isAgg144 hs rfl pk0 rfl) fun a ha=>?_;refine pY ha (yLenN hs rfl pk1) fun a ha=>?_;refine pY ha (yGtr rfl rfl) fun a ha=>?_;refine pZ ?_;refine hK18 _ _ ?_;refine cDec ha rfl (fun hc16=>?_) (fun hc16=>?_)
      · refine wp_seq_k fun K19 hK19=>?_;refine wp_region_lit ?_;refine pY ha (yAssign rfl) fun a ha=>?_;refine pZ ?_;refine hK19 _ _ ?_;refine wp_ret ?_;show bodyPost Tryz.prog Tryz.f112 _ .ret _ _;refine ret1 rfl ha rfl ?_;refine ⟨congrArg Value.bool ?_,hs.perm hp.symm⟩;rw [h2]
        (rw [show xs.length - n = 0 by omega,rooted,decide_eq_false hc7])
      · have hr : rooted xs xs.length id = rooted xs (xs.length - (n + 1)) (findN xs d).parent:=by rw [h2,show xs.length - n = xs.length - (n + 1) + 1 by omega,hr0]
        refine wp_skip ?_;refine hK16 _ _ ?_;refine wp_seq_k fun K20 hK20=>?_;refine wp_region_lit ?_;refine pY ha (yMove rfl) fun a ha=>?_;refine pY ha (yNilP rfl) fun a ha=>?_;refine pY ha (yFieldA Tryz.runUnderlying146 rfl Tryz.sizeOf144 rfl rfl) fun a ha=>?_;refine pY ha (yLoadB Tryz.isAgg144 hs rfl pk0 rfl) fun a ha=>?_;refine pY ha (yMove rfl) fun a ha=>?_;refine pY ha (yLookN hs rfl pk1 rfl) fun a ha=>?_;refine pY ha (yField Tryz.runUnderlying50 rfl Tryz.isAgg3 rfl rfl) fun a ha=>?_;refine pY ha (yAssign rfl) fun a ha=>?_;refine pZ ?_;refine hK20 _ _ ?_;refine wp_goto ?_
        repeat (with_reducible first | refine gThen ?_ | refine gBlock ?_)
        refine gxL ?_;refine ⟨(n + 1,(findN xs d).parent),⟨by simp only; omega,hr,has3 ha rfl rfl rfl,hs⟩,by simp only; omega⟩
theorem All_c (hT : Tabs W) {bt bm : Nat} {xs : List Nod} (hl : xs.length≤1000000000) (hok : ∀ x ∈ xs,okText x.text.data.toList = true∧cnt x.text.data.toList≤2000∧x.text.size≤1000000000) (hs : Sep W w cs) (hk : Pick cs (.blk bt 146 [.map (some bm)]) r) (hk2 : Pick r (.mpN bm xs) r2) :
    Calls P 113 #[.pointer (some ⟨bt,0,none⟩)] w (Rt fun v w'=>v = .int .i64 (sumN xs)∧Sep W w' cs):=by
  have hp:=hk.perm.trans (hk2.perm.cons _)
  have hs:=hs.perm hp
  have hsum:=sumN_le (B:=2000) xs (fun x hx=>(hok x hx).2.1)
  have hnd:=mE_nodup 0 xs
  refine enter Tryz.func113 Tryz.ntmps113 rfl rfl fun a (ha : Has a 26 [(0,_)])=>?_;refine wp_seq_k fun K1 hK1=>?_;refine wp_region_lit ?_;refine pY ha (yAssign rfl) fun a ha=>?_;refine pZ ?_;refine hK1 _ _ ?_;refine wp_seq_k fun K2 hK2=>?_;refine wp_seq_k fun K3 hK3=>?_;refine wp_region_lit ?_;refine pY ha (yMove rfl) fun a ha=>?_;refine pY ha (yNilP rfl) fun a ha=>?_;refine pY ha (yFieldA Tryz.runUnderlying146 rfl Tryz.sizeOf144 rfl rfl) fun a ha=>?_;refine pY ha (yLoadB Tryz.isAgg144 hs rfl pk0 rfl) fun a ha=>?_;refine pRangeM ha Tryz.runUnderlying144 hs rfl (.there .here) rfl fun bi w hs a ha=>?_;refine pZ ?_;refine hK3 _ _ ?_;refine wp_block ?_;refine loopI (ι:=Nat × Array Nat) (fun i a w=>i.1 + ((leftOf (mE 0 xs).toArray i.2).toList.map wtE).sum = sumN xs∧Has a 26 [(2,.int .i64 i.1),(11,.pointer (some ⟨bi,0,none⟩))]∧Sep W w (.own bi (.mapIter (some bm) xs.length i.2 xs.length)::.blk bt 146 [.map (some bm)]::.mpN bm xs::r2)) (fun i=>(leftOf (mE 0 xs).toArray i.2).size) ((0,#[])) ?_ ?_
  · exact ⟨by rw [left_start]; simp [sum_mE],has2 ha rfl rfl,hs⟩
  · rintro i a w ⟨h1,ha,hs⟩;obtain ⟨n,seen⟩:=i; simp only at h1 ha hs;refine wp_seq_k fun K4 hK4=>?_;refine wp_region_lit ?_;refine pNextM ha hs rfl .here (.there .here) (fun e he=>by have:=(mE_mem 0 xs e (by simpa using he)).2.2; omega) rfl (fun h0 a ha=>?_) (fun e he w hs a ha=>?_)
    · skip
      refine pY ha (yExtract rfl rfl) fun a ha=>?_;refine pZ ?_;refine hK4 _ _ ?_;refine wp_seq_k fun K5 hK5=>?_;refine cFalse ha rfl ?_;refine wp_exit ?_;refine hK2 _ _ ?_;refine wp_seq_k fun K6 hK6=>?_
      have h3 : (leftOf (mE 0 xs).toArray seen).toList = []:=by
        apply List.eq_nil_of_length_eq_zero
        simpa using h0
      rw [h3] at h1;simp only [List.map_nil,List.sum_nil,Nat.add_zero] at h1;refine wp_region_lit ?_;refine pY ha (yMove rfl) fun a ha=>?_;refine pY ha (yAssign rfl) fun a ha=>?_;refine pZ ?_;refine hK6 _ _ ?_;refine wp_ret ?_;show bodyPost Tryz.prog Tryz.f113 _ .ret _ _;refine ret1 rfl ha rfl ?_;rw [← h1]; exact ⟨rfl,hs.drop.perm hp.symm⟩
    · obtain ⟨⟨x,hx,hk1,hv1⟩,_⟩:=mE_mem 0 xs e (by simpa using left_mem he)
      have hee:=left_mem he
      obtain ⟨hs1,hs2⟩:=left_step (es:=(mE 0 xs).toArray) (by simpa using hnd) he;obtain ⟨ek,evv,eb⟩:=e;simp only at hk1 hv1;subst hk1;subst hv1
      change ((leftOf (mE 0 xs).toArray seen).toList.map wtE).sum = cnt x.text.data.toList + ((leftOf (mE 0 xs).toArray (seen.push eb)).toList.map wtE).sum at hs1
      change (leftOf (mE 0 xs).toArray (seen.push eb)).size < _ at hs2
      obtain ⟨hx1,hx2,hx3⟩:=hok x hx
      skip
      refine pY ha (yExtract rfl rfl) fun a ha=>?_;refine pZ ?_;refine hK4 _ _ ?_;refine wp_seq_k fun K7 hK7=>?_;refine cTrue ha rfl ?_;refine wp_skip ?_;refine hK7 _ _ ?_;refine wp_block ?_;refine wp_seq_k fun K8 hK8=>?_;refine wp_region_lit ?_;refine pY ha (yEntry (e:=⟨.int .i64 x.id,.agg (cN x).toArray,eb⟩) hs rfl .here (.there .here) hee (by simpa using hnd)) fun a ha=>?_;refine pY ha (yExtract rfl rfl) fun a ha=>?_;refine pAlloc (zs:=[.int .i64 0,.int .i64 0,.string ⟨#[]⟩,.bool false,.string ⟨#[]⟩]) ha Tryz.zeroValue50 rfl hs rfl fun b w hs a ha=>?_;unfold cN at ha;refine pStoreA ha Tryz.sizeOf50 hs rfl rfl pk0 rfl rfl rfl fun w hs=>?_;refine pZ ?_;refine hK8 _ _ ?_;refine wp_seq_k fun K9 hK9=>?_;refine wp_region_lit ?_;refine pY ha (yFieldA Tryz.runUnderlying50 rfl Tryz.sizeOf9 rfl rfl) fun a ha=>?_;refine pY ha (yLoadB Tryz.isAgg9 hs rfl pk0 rfl) fun a ha=>?_;refine pC ha (nCall Tryz.call125 rfl) rfl (Count_c hT x.text (by omega) hs) ?_;rintro v w ⟨rfl,hs⟩ a ha;rw [if_pos hx1] at ha;refine pY ha (yMove rfl) fun a ha=>?_;refine pY ha (yExtract rfl rfl) fun a ha=>?_;refine pY ha (yExtract rfl rfl) fun a ha=>?_;refine pY ha (yAssign rfl) fun a ha=>?_;refine pY ha (yAssign rfl) fun a ha=>?_;refine pZ ?_;refine hK9 _ _ ?_;refine wp_region_lit ?_;refine pY ha (yMove rfl) fun a ha=>?_;refine pY ha (yMove rfl) fun a ha=>?_;refine pY ha (yAddN rfl rfl ⟨by omega,by omega⟩) fun a ha=>?_;refine pY ha (yAssign rfl) fun a ha=>?_;refine pZ ?_;exact ⟨(n + cnt x.text.data.toList,seen.push eb),⟨by simp only; omega,has2 ha rfl rfl,hs.drop⟩,hs2⟩
theorem has8 {N : Nat} {a : Act} {l : List (Nat × Value)} {t1 t2 t3 t4 t5 t6 t7 t8 : Nat} {v1 v2 v3 v4 v5 v6 v7 v8 : Value} (ha : Has a N l) (h1 : lk l t1 = some v1) (h2 : lk l t2 = some v2) (h3 : lk l t3 = some v3) (h4 : lk l t4 = some v4) (h5 : lk l t5 = some v5) (h6 : lk l t6 = some v6) (h7 : lk l t7 = some v7) (h8 : lk l t8 = some v8) :
    Has a N [(t1,v1),(t2,v2),(t3,v3),(t4,v4),(t5,v5),(t6,v6),(t7,v7),(t8,v8)]:=ha.cons (ha.cons (has6 ha h3 h4 h5 h6 h7 h8) h2) h1
/-- What a loaded tree comes to. -/
theorem load_yes {xs : List Nod} (h1 : allN (goodN xs) xs.length = true) (h2 : allN (fun i=>standN xs (xs.getD i noN)) xs.length = true) : loadOk xs = (decide ((keysN xs).length = xs.length) && decide (xs.length≤100) && decide (sumN xs≤10000)):=by
  have hk:=(keys_len (xs:=xs) (Nat.le_refl _)).2
  rw [List.take_length] at hk;unfold loadOk;rw [h1,h2]
  have : allN (aloneN xs) xs.length = decide ((keysN xs).length = xs.length):=by
    rw [Bool.eq_iff_iff,decide_eq_true_eq]; exact hk.symm
  rw [this]; rfl
theorem Load_c (hT : Tabs W) {A : Option Addr} {n c : Nat} {xs : List Nod} (hm : ∀ x ∈ xs,mN x) (hlen : xs.length≤1000000000) (hs : Sep W w cs) (hk : Pick cs (.rd kNod (.slice A n c) xs) r) :
    Calls P 85 #[.slice A n c] w (Rt fun v w'=>if loadOk xs = true then ∃ b bm,v = .tuple #[.pointer (some ⟨b,0,none⟩),.int .i64 0]∧Sep W w' (.blk b 146 [.map (some bm)]::.mpN bm xs::cs) else v = .tuple #[.pointer none,.int .i64 1]∧Sep W w' cs):=by
  obtain ⟨rfl,hl⟩:=hs.rd_shape hk;have hs:=hs.cpR hk;refine enter Tryz.func85 Tryz.ntmps85 rfl rfl fun a (ha : Has a 92 [(0,_)])=>?_;refine wp_seq_k fun K1 hK1=>?_;refine wp_region_lit ?_;refine pY ha (yAssign rfl) fun a ha=>?_;refine pY ha (yAssign rfl) fun a ha=>?_;refine pZ ?_;refine hK1 _ _ ?_;refine wp_seq_k fun K2 hK2=>?_;refine wp_region_lit ?_;refine pC ha (nCall Tryz.call110 rfl) rfl (New_c hs) ?_;rintro v w ⟨bt,bm,rfl,hs⟩ a ha;refine pY ha (yAssign rfl) fun a ha=>?_;refine pZ ?_;refine hK2 _ _ ?_;refine wp_seq_k fun K3 hK3=>?_;refine wp_region_lit ?_;refine pY ha (yAssign rfl) fun a ha=>?_;refine pZ ?_;refine hK3 _ _ ?_;refine wp_seq_k fun K4 hK4=>?_;refine wp_seq_k fun K5 hK5=>?_;refine wp_region_lit ?_;refine pY ha (yMove rfl) fun a ha=>?_;refine pY ha (yLenS Tryz.runUnderlying24 rfl) fun a ha=>?_;refine pY ha (yMove rfl) fun a ha=>?_;refine pZ ?_;refine hK5 _ _ ?_;refine wp_block ?_;refine loopI (ι:=Nat) (fun i a w=>i≤xs.length∧allN (goodN xs) i = true∧Has a 92 [(0,.slice A xs.length c),(4,.pointer (some ⟨bt,0,none⟩)),(5,.int .i64 (lastN xs i)),(12,.slice A xs.length c),(13,.int .i64 xs.length),(14,.int .i64 i)]∧Sep W w (.blk bt 146 [.map (some bm)]::.mpN bm (xs.take i)::.rd kNod (.slice A xs.length c) xs::cs)) (fun i=>xs.length - i) (0) ?_ ?_
  · exact ⟨Nat.zero_le _,rfl,has6 ha rfl rfl rfl rfl rfl rfl,hs⟩
  · rintro i a w ⟨h1,h2,ha,hs⟩;refine wp_seq_k fun K6 hK6=>?_;refine wp_region_lit ?_;refine pY ha (yLss rfl rfl) fun a ha=>?_;refine pZ ?_;refine hK6 _ _ ?_;refine wp_seq_k fun K7 hK7=>?_;refine cDec ha rfl (fun hc15=>?_) (fun hc15=>?_)
    · obtain ⟨x,hx⟩ : ∃ x,xs[i]? = some x:=⟨_,List.getElem?_eq_getElem (by omega)⟩
      have hmx:=hm x (List.mem_of_getElem? hx)
      obtain ⟨b0,off,rfl,hs⟩:=hs.rd_nod (.there (.there .here)) hx;refine wp_skip ?_;refine hK7 _ _ ?_;refine wp_seq_k fun K8 hK8=>?_;refine wp_block ?_;refine wp_seq_k fun K9 hK9=>?_;refine wp_region_lit ?_;refine pY ha (yIndexA Tryz.runUnderlying24 Tryz.sizeOf50 rfl rfl (by omega) (by omega)) fun a ha=>?_;refine pY ha (yLoadRA Tryz.isAgg50 Tryz.sizeOf50 hs rfl pk0 rfl) fun a ha=>?_;refine pAlloc (zs:=[.int .i64 0,.int .i64 0,.string ⟨#[]⟩,.bool false,.string ⟨#[]⟩]) ha Tryz.zeroValue50 rfl hs rfl fun bx w hs a ha=>?_;refine pStoreA ha Tryz.sizeOf50 hs rfl rfl pk0 rfl rfl rfl fun w hs=>?_;refine pZ ?_;have hs:=hs.drop2;refine hK9 _ _ ?_;refine wp_seq_k fun K10 hK10=>?_;refine wp_seq_k fun K11 hK11=>?_;refine wp_region_lit ?_;refine pY ha (yLoadBA Tryz.isAgg50 Tryz.sizeOf50 hs rfl pk0 rfl) fun a ha=>?_;refine pC ha (nCall Tryz.call111 rfl) rfl (TreeSound_c hT x hmx hs) ?_;rintro v w ⟨rfl,hs⟩ a ha;refine pY ha (yNot rfl) fun a ha=>?_;refine pY ha (yMove rfl) fun a ha=>?_;refine gSplit (t:=21) ha rfl (fun hg3=>?_) (fun hg3=>?_)
      · rw [hg3] at ha
        have hsn : sndN x = true:=by simpa using hg3
        refine gOn ha ?_;refine pY ha (yFieldA Tryz.runUnderlying50 rfl Tryz.sizeOf3 rfl rfl) fun a ha=>?_;refine gOn ha ?_;refine pY ha (yLoadB Tryz.isAgg3 hs rfl pk0 rfl) fun a ha=>?_;refine gOn ha ?_;refine pY ha (yMove rfl) fun a ha=>?_;refine gOn ha ?_;refine pY ha (yLeq rfl rfl) fun a ha=>?_;refine pY ha (yPickF rfl rfl) fun a ha=>?_;refine pZ ?_;refine hK11 _ _ ?_;refine cDec ha rfl (fun hc26=>?_) (fun hc26=>?_)
        · have hb1 : goodN xs i = false:=by rw [good_at hx,decide_eq_false (by omega)]; simp
          refine wp_seq_k fun K12 hK12=>?_;refine wp_region_lit ?_;refine pY ha (yAssign rfl) fun a ha=>?_;refine pY ha (yAssign rfl) fun a ha=>?_;refine pZ ?_;refine hK12 _ _ ?_;refine wp_ret ?_;show bodyPost Tryz.prog Tryz.f85 _ .ret _ _;refine ret2 rfl ha rfl rfl ?_
          (rw [if_neg (by intro hh; unfold loadOk at hh; rw [allN_no (i:=i) (n:=xs.length) (by omega) hb1] at hh; simp at hh)]; exact ⟨rfl,hs.drop.drop.drop.drop⟩)
        · have hgood : goodN xs i = true:=by rw [good_at hx,hsn,decide_eq_true (by omega)]; rfl
          refine wp_skip ?_;refine hK10 _ _ ?_;refine wp_seq_k fun K13 hK13=>?_;refine wp_region_lit ?_;refine pY ha (yFieldA Tryz.runUnderlying50 rfl Tryz.sizeOf3 rfl rfl) fun a ha=>?_;refine pY ha (yLoadB Tryz.isAgg3 hs rfl pk0 rfl) fun a ha=>?_;refine pY ha (yAssign rfl) fun a ha=>?_;refine pZ ?_;refine hK13 _ _ ?_
          have hris:=rising (xs:=xs) (i:=i) (y:=x.id) h1 h2 (by rw [good_at hx] at hgood; simp only [Bool.and_eq_true,decide_eq_true_eq] at hgood; exact hgood.2)
          refine dStart (fun w=>∃ rs,Sep W w (.blk bx 50 [.int .i64 x.id,.int .i64 x.parent,.string x.name,.bool x.dir,.string x.text]::.blk bt 146 [.map (some bm)]::rs)) [7] 255 127 (by kernel_rfl) (by kernel_rfl) rfl (⟨_,hs.drew.pick pk0⟩) ?_
          have hs:=Sep.drew hs
          generalize World.drew _ = w at hs ⊢;refine dP 0 1 rfl ha (fun _=>yMove rfl) fun a ha=>?_;refine dP 1 3 rfl ha (fun _=>yNilP rfl) fun a ha=>?_;refine dP 2 7 rfl ha (fun _=>yFieldA Tryz.runUnderlying146 rfl Tryz.sizeOf144 rfl rfl) fun a ha=>?_;refine dT 3 15 rfl ha (fun _ ⟨rs,hs⟩=>yLoadB Tryz.isAgg144 hs rfl pk1 rfl) (⟨_,hs.pick pk0⟩) fun a ha=>?_;refine dP 4 31 rfl ha (fun _=>yFieldA Tryz.runUnderlying50 rfl Tryz.sizeOf3 rfl rfl) fun a ha=>?_;refine dT 5 63 rfl ha (fun _ ⟨rs,hs⟩=>yLoadB Tryz.isAgg3 hs rfl pk0 rfl) (⟨_,hs.pick pk0⟩) fun a ha=>?_;refine dT 6 127 rfl ha (fun _ ⟨rs,hs⟩=>yLoadBA Tryz.isAgg50 Tryz.sizeOf50 hs rfl pk0 rfl) (⟨_,hs.pick pk0⟩) fun a ha=>?_;refine dMapNewl (n:=x) 7 255 rfl (by kernel_rfl) rfl ha won0 hs rfl pk2 rfl rfl (fun m hm=>by have:=hris m hm; omega) ?_;intro w hs;refine dZ (by kernel_rfl) ?_;refine hK8 _ _ ?_;refine wp_region_lit ?_;refine pY ha (yAddN rfl rfl ⟨by omega,by omega⟩) fun a ha=>?_;refine pY ha (yMove rfl) fun a ha=>?_;refine pZ ?_
          have e1 : xs.take (i + 1) = xs.take i++[x]:=by rw [List.take_add_one,hx]; rfl
          refine ⟨i + 1,⟨by omega,by simp only [allN,h2,hgood,Bool.and_self],has6 ha rfl rfl (by rw [last_next hx]; rfl) rfl rfl rfl,?_⟩,by omega⟩;rw [e1];exact (hs.drop2).pick (.there .here)
      · rw [hg3] at ha
        have hb1 : goodN xs i = false:=by rw [good_at hx]; simp at hg3; rw [hg3]; rfl
        refine gOff ha fun a ha=>?_;refine gOff ha fun a ha=>?_;refine gOff ha fun a ha=>?_;refine gOff ha fun a ha=>?_;refine pY ha (yPickT rfl rfl) fun a ha=>?_;refine pZ ?_;refine hK11 _ _ ?_;refine cTrue ha rfl ?_;refine wp_seq_k fun K14 hK14=>?_;refine wp_region_lit ?_;refine pY ha (yAssign rfl) fun a ha=>?_;refine pY ha (yAssign rfl) fun a ha=>?_;refine pZ ?_;refine hK14 _ _ ?_;refine wp_ret ?_;show bodyPost Tryz.prog Tryz.f85 _ .ret _ _;refine ret2 rfl ha rfl rfl ?_
        (rw [if_neg (by intro hh; unfold loadOk at hh; rw [allN_no (i:=i) (n:=xs.length) (by omega) hb1] at hh; simp at hh)]; exact ⟨rfl,hs.drop.drop.drop.drop⟩)
    · refine wp_exit ?_;refine hK4 _ _ ?_;refine wp_seq_k fun K15 hK15=>?_
      have hi : i = xs.length:=by omega
      rw [List.take_of_length_le (by omega)] at hs;rw [hi] at h2
      have hgo:=h2
      have hsnd : ∀ x ∈ xs,okText x.text.data.toList = true∧cnt x.text.data.toList≤2000∧x.text.size≤1000000000:=fun x hx=>by
        obtain ⟨j,hj,rfl⟩:=List.mem_iff_getElem.1 hx
        have hg:=allN_iff.1 hgo j hj
        rw [good_at (List.getElem?_eq_getElem hj)] at hg;unfold sndN at hg;simp only [Bool.and_eq_true,decide_eq_true_eq] at hg;exact ⟨hg.1.1.1.2,hg.1.1.2,(hm _ hx).2⟩
      refine wp_region_lit ?_;refine pMakeMap ha hs rfl fun bn w hs a ha=>?_;refine pY ha (yAssign rfl) fun a ha=>?_;refine pZ ?_
      have hs : Sep W w (.mpK bn []::_):=Sep.pack (f:=fun vs : {vs : List Int // vs.length = ([] : List Key).length}=>.mpV bn [] vs.1) ⟨[],rfl⟩ hs
      refine hK15 _ _ ?_;refine wp_seq_k fun K16 hK16=>?_;refine wp_seq_k fun K17 hK17=>?_;refine wp_region_lit ?_;refine pY ha (yMove rfl) fun a ha=>?_;refine pY ha (yLenS Tryz.runUnderlying24 rfl) fun a ha=>?_;refine pY ha (yMove rfl) fun a ha=>?_;refine pZ ?_;refine hK17 _ _ ?_;refine wp_block ?_;refine loopI (ι:=Nat) (fun j a w=>j≤xs.length∧allN (fun i=>standN xs (xs.getD i noN)) j = true∧Has a 92 [(0,.slice A xs.length c),(4,.pointer (some ⟨bt,0,none⟩)),(8,.map (some bn)),(38,.slice A xs.length c),(39,.int .i64 xs.length),(40,.int .i64 j)]∧Sep W w (.mpK bn (keysN (xs.take j))::.blk bt 146 [.map (some bm)]::.mpN bm xs::.rd kNod (.slice A xs.length c) xs::cs)) (fun j=>xs.length - j) (0) ?_ ?_
      · exact ⟨Nat.zero_le _,rfl,has6 ha rfl rfl rfl rfl rfl rfl,hs⟩
      · rintro j a w ⟨g1,g2,ha,hs⟩;refine wp_seq_k fun K18 hK18=>?_;refine wp_region_lit ?_;refine pY ha (yLss rfl rfl) fun a ha=>?_;refine pZ ?_;refine hK18 _ _ ?_;refine wp_seq_k fun K19 hK19=>?_;refine cDec ha rfl (fun hc41=>?_) (fun hc41=>?_)
        · obtain ⟨x,hx⟩ : ∃ x,xs[j]? = some x:=⟨_,List.getElem?_eq_getElem (by omega)⟩
          have hgx : xs.getD j noN = x:=by rw [List.getD_eq_getElem?_getD,hx]; rfl
          obtain ⟨b0,off,rfl,hs⟩:=hs.rd_nod (.there (.there (.there .here))) hx;refine wp_skip ?_;refine hK19 _ _ ?_;refine wp_seq_k fun K20 hK20=>?_;refine wp_block ?_;refine wp_seq_k fun K21 hK21=>?_;refine wp_region_lit ?_;refine pY ha (yIndexA Tryz.runUnderlying24 Tryz.sizeOf50 rfl rfl (by omega) (by omega)) fun a ha=>?_;refine pY ha (yLoadRA Tryz.isAgg50 Tryz.sizeOf50 hs rfl pk0 rfl) fun a ha=>?_;refine pAlloc (zs:=[.int .i64 0,.int .i64 0,.string ⟨#[]⟩,.bool false,.string ⟨#[]⟩]) ha Tryz.zeroValue50 rfl hs rfl fun bx w hs a ha=>?_;refine pStoreA ha Tryz.sizeOf50 hs rfl rfl pk0 rfl rfl rfl fun w hs=>?_;refine pZ ?_
          have hs:=(hs.drop2).pick (.there .here)
          refine hK21 _ _ ?_;refine wp_seq_k fun K22 hK22=>?_;refine wp_seq_k fun K23 hK23=>?_;refine cutC (fun a w=>Has a 92 [(64,.bool (!standN xs x)),(0,.slice (some ⟨b0,off,none⟩) xs.length c),(4,.pointer (some ⟨bt,0,none⟩)),(8,.map (some bn)),(10,.pointer (some ⟨bx,0,none⟩)),(38,.slice (some ⟨b0,off,none⟩) xs.length c),(39,.int .i64 xs.length),(40,.int .i64 j)]∧Sep W w (.mpK bn (keysN (xs.take j))::.blk bx 50 [.int .i64 x.id,.int .i64 x.parent,.string x.name,.bool x.dir,.string x.text]::.blk bt 146 [.map (some bm)]::.mpN bm xs::.rd kNod (.slice (some ⟨b0,off,none⟩) xs.length c) xs::cs)) ?_ ?_
          · refine dStart (fun w=>∃ rs,Sep W w (.mpK bn (keysN (xs.take j))::.blk bx 50 [.int .i64 x.id,.int .i64 x.parent,.string x.name,.bool x.dir,.string x.text]::.blk bt 146 [.map (some bm)]::.mpN bm xs::rs)) [18] 2097151 262143 (by kernel_rfl) (by kernel_rfl) rfl (⟨_,hs.drew.pick pk0⟩) ?_
            have hs:=Sep.drew hs
            generalize World.drew _ = w at hs ⊢;refine dP 0 1 rfl ha (fun _=>yFieldA Tryz.runUnderlying50 rfl Tryz.sizeOf3 rfl rfl) fun a ha=>?_;refine dT 1 3 rfl ha (fun _ ⟨rs,hs⟩=>yLoadB Tryz.isAgg3 hs rfl pk1 rfl) (⟨_,hs.pick pk0⟩) fun a ha=>?_;refine dP 2 7 rfl ha (fun _=>yNeq rfl rfl) fun a ha=>?_;refine dP 3 15 rfl ha (fun _=>yMove rfl) fun a ha=>?_;refine gSplit (t:=47) ha rfl (fun hg3=>?_) (fun hg3=>?_)
            · rw [hg3] at ha;refine dOff 4 31 rfl ha fun a ha=>?_;refine dOff 5 63 rfl ha fun a ha=>?_;refine dOff 6 127 rfl ha fun a ha=>?_;refine dOff 7 255 rfl ha fun a ha=>?_;refine dOff 8 511 rfl ha fun a ha=>?_;refine dOff 9 1023 rfl ha fun a ha=>?_;refine dOff 10 2047 rfl ha fun a ha=>?_;refine dOff 11 4095 rfl ha fun a ha=>?_;refine dOff 12 8191 rfl ha fun a ha=>?_;refine dP 13 16383 rfl ha (fun _=>yPickF rfl rfl) fun a ha=>?_;refine dP 14 32767 rfl ha (fun _=>yMove rfl) fun a ha=>?_;refine dP 15 65535 rfl ha (fun _=>yMove rfl) fun a ha=>?_;refine dP 16 131071 rfl ha (fun _=>yFieldA Tryz.runUnderlying50 rfl Tryz.sizeOf3 rfl rfl) fun a ha=>?_;refine dT 17 262143 rfl ha (fun _ ⟨rs,hs⟩=>yLoadB Tryz.isAgg3 hs rfl pk1 rfl) (⟨_,hs.pick pk0⟩) fun a ha=>?_;refine dCl 18 524287 rfl (by kernel_rfl) rfl ha (won1 rfl rfl rfl) (nCall Tryz.call112 rfl) rfl (Rooted_c x.id hlen hs pk2 pk2) ?_;rintro v w ⟨rfl,hs⟩ a ha;refine dP 19 1048575 rfl ha (fun _=>yNot rfl) fun a ha=>?_;refine dP 20 2097151 rfl ha (fun _=>yPickF rfl rfl) fun a ha=>?_;refine dZ (by kernel_rfl) ?_;refine ⟨rfl,?_⟩;refine ⟨has8 ha ?_ rfl rfl rfl rfl rfl rfl rfl,hs⟩;refine congrArg (fun b=>some (Value.bool b)) ?_;unfold standN
              (rw [decide_eq_true (show x.parent = 0 by simpa using hg3)]; simp; done)
            · rw [hg3] at ha;refine dP 4 31 rfl ha (fun _=>yMove rfl) fun a ha=>?_;refine dP 5 63 rfl ha (fun _=>yNilP rfl) fun a ha=>?_;refine dP 6 127 rfl ha (fun _=>yFieldA Tryz.runUnderlying146 rfl Tryz.sizeOf144 rfl rfl) fun a ha=>?_;refine dT 7 255 rfl ha (fun _ ⟨rs,hs⟩=>yLoadB Tryz.isAgg144 hs rfl pk2 rfl) (⟨_,hs.pick pk0⟩) fun a ha=>?_;refine dP 8 511 rfl ha (fun _=>yFieldA Tryz.runUnderlying50 rfl Tryz.sizeOf3 rfl rfl) fun a ha=>?_;refine dT 9 1023 rfl ha (fun _ ⟨rs,hs⟩=>yLoadB Tryz.isAgg3 hs rfl pk1 rfl) (⟨_,hs.pick pk0⟩) fun a ha=>?_;refine dT 10 2047 rfl ha (fun _ ⟨rs,hs⟩=>yLookN hs rfl pk3 rfl) (⟨_,hs.pick pk0⟩) fun a ha=>?_;refine dP 11 4095 rfl ha (fun _=>yField Tryz.runUnderlying50 rfl Tryz.isAgg4 rfl rfl) fun a ha=>?_;refine dP 12 8191 rfl ha (fun _=>yNot rfl) fun a ha=>?_;refine dP 13 16383 rfl ha (fun _=>yPickT rfl rfl) fun a ha=>?_;refine dP 14 32767 rfl ha (fun _=>yMove rfl) fun a ha=>?_;refine gSplit (t:=58) ha rfl (fun hg14=>?_) (fun hg14=>?_)
              · rw [hg14] at ha;refine dP 15 65535 rfl ha (fun _=>yMove rfl) fun a ha=>?_;refine dP 16 131071 rfl ha (fun _=>yFieldA Tryz.runUnderlying50 rfl Tryz.sizeOf3 rfl rfl) fun a ha=>?_;refine dT 17 262143 rfl ha (fun _ ⟨rs,hs⟩=>yLoadB Tryz.isAgg3 hs rfl pk1 rfl) (⟨_,hs.pick pk0⟩) fun a ha=>?_;refine dCl 18 524287 rfl (by kernel_rfl) rfl ha (won1 rfl rfl rfl) (nCall Tryz.call112 rfl) rfl (Rooted_c x.id hlen hs pk2 pk2) ?_;rintro v w ⟨rfl,hs⟩ a ha;refine dP 19 1048575 rfl ha (fun _=>yNot rfl) fun a ha=>?_;refine dP 20 2097151 rfl ha (fun _=>yPickF rfl rfl) fun a ha=>?_;refine dZ (by kernel_rfl) ?_;refine ⟨rfl,?_⟩;refine ⟨has8 ha ?_ rfl rfl rfl rfl rfl rfl rfl,hs⟩;refine congrArg (fun b=>some (Value.bool b)) ?_;unfold standN
                (rw [decide_eq_false (show ¬ x.parent = 0 by simpa using hg3)]; simp at hg14; rw [hg14]; rfl)
              · rw [hg14] at ha;refine dOff 15 65535 rfl ha fun a ha=>?_;refine dOff 16 131071 rfl ha fun a ha=>?_;refine dOff 17 262143 rfl ha fun a ha=>?_;refine dOff 18 524287 rfl ha fun a ha=>?_;refine dOff 19 1048575 rfl ha fun a ha=>?_;refine dP 20 2097151 rfl ha (fun _=>yPickT rfl rfl) fun a ha=>?_;refine dZ (by kernel_rfl) ?_;refine ⟨rfl,?_⟩;refine ⟨has8 ha ?_ rfl rfl rfl rfl rfl rfl rfl,hs⟩;refine congrArg (fun b=>some (Value.bool b)) ?_;unfold standN
                (rw [decide_eq_false (show ¬ x.parent = 0 by simpa using hg3)]; simp at hg14; rw [hg14]; rfl)
          rintro a w ⟨ha,hs⟩;refine hK23 _ _ ?_;refine cSplit ha rfl (fun hc64=>?_) (fun hc64=>?_)
          · have hst : standN xs x = false:=by simpa using hc64
            refine wp_seq_k fun K24 hK24=>?_;refine wp_region_lit ?_;refine pY ha (yAssign rfl) fun a ha=>?_;refine pY ha (yAssign rfl) fun a ha=>?_;refine pZ ?_;refine hK24 _ _ ?_;refine wp_ret ?_;show bodyPost Tryz.prog Tryz.f85 _ .ret _ _;refine ret2 rfl ha rfl rfl ?_
            (rw [if_neg (by intro hh; unfold loadOk at hh; rw [allN_no (g:=fun i=>standN xs (xs.getD i noN)) (i:=j) (n:=xs.length) (by omega) (by simp only [hgx,hst])] at hh; simp at hh)]; exact ⟨rfl,hs.drop.drop.drop.drop.drop⟩)
          · have hst : standN xs x = true:=by simpa using hc64
            refine wp_skip ?_;refine hK22 _ _ ?_;obtain ⟨vs,hvl,hs⟩:=hs.mpK_open .here;obtain ⟨c0,hc0⟩ : ∃ c0,lookK (keysN (xs.take j)) vs (keyN x) = c0:=⟨_,rfl⟩;refine dStart (fun w=>∃ ks' vs' rs,vs'.length = ks'.length∧lookK ks' vs' (keyN x) = c0∧Sep W w (.mpV bn ks' vs'::.blk bx 50 [.int .i64 x.id,.int .i64 x.parent,.string x.name,.bool x.dir,.string x.text]::rs)) [10] 2047 1023 (by kernel_rfl) (by kernel_rfl) rfl (⟨_,_,_,hvl,hc0,hs.drew.pick pk0⟩) ?_
            have hs:=Sep.drew hs
            generalize World.drew _ = w at hs ⊢;refine dP 0 1 rfl ha (fun _=>yMove rfl) fun a ha=>?_;refine dP 1 3 rfl ha (fun _=>yFieldA Tryz.runUnderlying50 rfl Tryz.sizeOf3 rfl rfl) fun a ha=>?_;refine dT 2 7 rfl ha (fun _ ⟨ks',vs',rs,hl',hc',hs⟩=>yLoadB Tryz.isAgg3 hs rfl pk1 rfl) (⟨_,_,_,hvl,hc0,hs.pick pk0⟩) fun a ha=>?_;refine dP 3 15 rfl ha (fun _=>yFieldA Tryz.runUnderlying50 rfl Tryz.sizeOf9 rfl rfl) fun a ha=>?_;refine dT 4 31 rfl ha (fun _ ⟨ks',vs',rs,hl',hc',hs⟩=>yLoadB Tryz.isAgg9 hs rfl pk1 rfl) (⟨_,_,_,hvl,hc0,hs.pick pk0⟩) fun a ha=>?_;refine dP 5 63 rfl ha (fun _=>bldTree50_1_2 rfl rfl) fun a ha=>?_;refine dT 6 127 rfl ha (fun _ ⟨ks',vs',rs,hl',hc',hs⟩=>hc' ▸ yLookK (k:=keyN x) hl' hs rfl .here rfl) (⟨_,_,_,hvl,hc0,hs.pick pk0⟩) fun a ha=>?_;refine dP 7 255 rfl ha (fun _=>yAdd rfl rfl) fun a ha=>?_;refine dEntry (k:=keyN x) hvl 8 511 rfl (by kernel_rfl) rfl ha won0 hs rfl pk0 rfl rfl (fun w hs=>⟨_,_,_,entV_len (keyN x) hvl,(entV_look (keyN x) hvl).trans hc0,hs⟩) ?_;intro w u nn hn1 hs a ha;refine dP 9 1023 rfl ha (fun _=>yExtract rfl rfl) fun a ha=>?_;refine dEntStl (entV_len (keyN x) hvl) hn1 10 2047 rfl (by kernel_rfl) rfl ha won0 hs rfl pk0 rfl rfl ?_;intro w hs;refine dZ (by kernel_rfl) ?_;refine hK20 _ _ ?_;refine wp_region_lit ?_;refine pY ha (yAddN rfl rfl ⟨by omega,by omega⟩) fun a ha=>?_;refine pY ha (yMove rfl) fun a ha=>?_;refine pZ ?_;refine ⟨j + 1,⟨by omega,by simp only [allN,g2,hgx,hst,Bool.and_self],has6 ha rfl rfl rfl rfl rfl rfl,?_⟩,by omega⟩;rw [keys_next hx];exact hs.drop2
        · refine wp_exit ?_;refine hK16 _ _ ?_;refine wp_seq_k fun K25 hK25=>?_;refine wp_seq_k fun K26 hK26=>?_;rw [List.take_of_length_le (by omega)] at hs;rw [show j = xs.length by omega] at g2;obtain ⟨vs,hvl,hs⟩:=hs.mpK_open .here
          have hly:=load_yes hgo g2
          have hkl:=(keys_len (xs:=xs) (Nat.le_refl _)).1
          rw [List.take_length] at hkl;refine wp_region_lit ?_;refine pY ha (yMove rfl) fun a ha=>?_;refine pY ha (yLenK hvl hs rfl pk0) fun a ha=>?_;refine pY ha (yMove rfl) fun a ha=>?_;refine pY ha (yLenS Tryz.runUnderlying24 rfl) fun a ha=>?_;refine pY ha (yLss rfl rfl) fun a ha=>?_;refine pY ha (yMove rfl) fun a ha=>?_;refine gDec (t:=81) ha rfl (fun hg5 hp5=>?_) (fun hg5 hp5=>?_)
          · rw [hg5] at ha
            have hp5:=of_decide_eq_false hg5
            refine gOn ha ?_;refine pY ha (yMove rfl) fun a ha=>?_;refine gOn ha ?_;refine pY ha (yLenS Tryz.runUnderlying24 rfl) fun a ha=>?_;refine gOn ha ?_;refine pY ha (yGtr rfl rfl) fun a ha=>?_;refine pY ha (yPickF rfl rfl) fun a ha=>?_;refine pY ha (yMove rfl) fun a ha=>?_;refine gSplit (t:=86) ha rfl (fun hg10=>?_) (fun hg10=>?_)
            · rw [hg10] at ha
              have hp10:=of_decide_eq_false hg10
              refine gOn ha ?_;refine pY ha (yMove rfl) fun a ha=>?_;refine gOn ha ?_;refine pC ha (nCall Tryz.call113 rfl) rfl (All_c hT hlen hsnd hs pk1 pk1) ?_;rintro v w ⟨rfl,hs⟩ a ha;refine gOn ha ?_;refine pY ha (yGtr rfl rfl) fun a ha=>?_;refine pY ha (yPickF rfl rfl) fun a ha=>?_;refine pZ ?_;refine hK26 _ _ ?_;refine cDec ha rfl (fun hc90=>?_) (fun hc90=>?_)
              · refine wp_seq_k fun K27 hK27=>?_;refine wp_region_lit ?_;refine pY ha (yAssign rfl) fun a ha=>?_;refine pY ha (yAssign rfl) fun a ha=>?_;refine pZ ?_;refine hK27 _ _ ?_;refine wp_ret ?_;show bodyPost Tryz.prog Tryz.f85 _ .ret _ _;refine ret2 rfl ha rfl rfl ?_
                (rw [if_neg (by rw [hly]; simp only [Bool.and_eq_true,decide_eq_true_eq]; omega)]; exact ⟨rfl,hs.drop.drop.drop.drop⟩)
              · refine wp_skip ?_;refine hK25 _ _ ?_;refine wp_seq_k fun K28 hK28=>?_;refine wp_region_lit ?_;refine pY ha (yMove rfl) fun a ha=>?_;refine pY ha (yAssign rfl) fun a ha=>?_;refine pY ha (yAssign rfl) fun a ha=>?_;refine pZ ?_;refine hK28 _ _ ?_;refine wp_ret ?_;show bodyPost Tryz.prog Tryz.f85 _ .ret _ _;refine ret2 rfl ha rfl rfl ?_
                (rw [if_pos (by rw [hly]; simp only [Bool.and_eq_true,decide_eq_true_eq]; omega)]; exact ⟨bt,bm,rfl,(hs.drop.pick (.there (.there .here))).drop⟩)
            · rw [hg10] at ha
              have hp10:=of_decide_eq_true hg10
              refine gOff ha fun a ha=>?_;refine gOff ha fun a ha=>?_;refine gOff ha fun a ha=>?_;refine pY ha (yPickT rfl rfl) fun a ha=>?_;refine pZ ?_;refine hK26 _ _ ?_;refine cTrue ha rfl ?_;refine wp_seq_k fun K29 hK29=>?_;refine wp_region_lit ?_;refine pY ha (yAssign rfl) fun a ha=>?_;refine pY ha (yAssign rfl) fun a ha=>?_;refine pZ ?_;refine hK29 _ _ ?_;refine wp_ret ?_;show bodyPost Tryz.prog Tryz.f85 _ .ret _ _;refine ret2 rfl ha rfl rfl ?_
              (rw [if_neg (by rw [hly]; simp only [Bool.and_eq_true,decide_eq_true_eq]; omega)]; exact ⟨rfl,hs.drop.drop.drop.drop⟩)
          · rw [hg5] at ha
            have hp5:=of_decide_eq_true hg5
            refine gOff ha fun a ha=>?_;refine gOff ha fun a ha=>?_;refine gOff ha fun a ha=>?_;refine pY ha (yPickT rfl rfl) fun a ha=>?_;refine pY ha (yMove rfl) fun a ha=>?_;refine gOff ha fun a ha=>?_;refine gOff ha fun a ha=>?_;refine gOff ha fun a ha=>?_;refine pY ha (yPickT rfl rfl) fun a ha=>?_;refine pZ ?_;refine hK26 _ _ ?_;refine cTrue ha rfl ?_;refine wp_seq_k fun K30 hK30=>?_;refine wp_region_lit ?_;refine pY ha (yAssign rfl) fun a ha=>?_;refine pY ha (yAssign rfl) fun a ha=>?_;refine pZ ?_;refine hK30 _ _ ?_;refine wp_ret ?_;show bodyPost Tryz.prog Tryz.f85 _ .ret _ _;refine ret2 rfl ha rfl rfl ?_
            (rw [if_neg (by rw [hly]; simp only [Bool.and_eq_true,decide_eq_true_eq]; omega)]; exact ⟨rfl,hs.drop.drop.drop.drop⟩)
end
end Go.Proofs.YtnlhbkaieoogfaaGreatDoor

set_option linter.unusedVariables false
set_option linter.unusedSimpArgs false
namespace Go.Proofs.YtnlhbkaieoogfaaGreatDoor
open Go.RowKit Go.Lib Go.Proofs.YtnlhbkaieoogfaaGreatDoorW.PrintLast
/-- A message as the machine holds it. -/
def mM (x : Msg) : Prop:=(i64 x.client∧i64 x.seq∧i64 x.rev∧i64 x.last∧i64 x.code)∧(∀ a ∈ x.acts,mA a)∧(∀ c ∈ x.commits,mCm c)∧(∀ n ∈ x.nodes,mN n)∧shortM x
def badM (m : Msg) : Prop:=m.kind < 1∨m.kind > 9∨m ≠ plainM m∨fits m.client = false∨fits m.seq = false∨fits m.rev = false∨fits m.last = false∨fits m.code = false
instance (m : Msg) : Decidable (badM m):=by unfold badM; infer_instance
section
variable {W w : World} {cs r r2 : List Ch}
theorem Nodes_c (hT : Tabs W) {A : Option Addr} {n c : Nat} {xs : List Nod} (hm : ∀ x ∈ xs,mN x) (hs : Sep W w cs) (hk : Pick cs (.rd kNod (.slice A n c) xs) r) :
    Calls P 37 #[.slice A n c] w (Rt fun v w'=>v = .int .i64 (nodsE xs)∧Sep W w' cs):=by
  obtain ⟨rfl,hl⟩:=hs.rd_shape hk;unfold maxLen at hl;refine enter Tryz.func37 Tryz.ntmps37 rfl rfl fun a (ha : Has a 14 [(0,_)])=>?_;refine wp_seq_k fun K1 hK1=>?_;refine wp_region_lit ?_;refine pY ha (yAssign rfl) fun a ha=>?_;refine pZ ?_;refine hK1 _ _ ?_;refine wp_seq_k fun K2 hK2=>?_;refine wp_seq_k fun K3 hK3=>?_;refine wp_region_lit ?_;refine pY ha (yMove rfl) fun a ha=>?_;refine pY ha (yLenS Tryz.runUnderlying24 rfl) fun a ha=>?_;refine pY ha (yGtr rfl rfl) fun a ha=>?_;refine pZ ?_;refine hK3 _ _ ?_;refine cDec ha rfl (fun hc7=>?_) (fun hc7=>?_)
  · refine wp_seq_k fun K4 hK4=>?_;refine wp_region_lit ?_;refine pY ha (yAssign rfl) fun a ha=>?_;refine pZ ?_;refine hK4 _ _ ?_;refine wp_ret ?_;show bodyPost Tryz.prog Tryz.f37 _ .ret _ _;refine ret1 rfl ha rfl ?_
    (refine ⟨congrArg (Value.int .i64) ?_,hs⟩; unfold nodsE; rw [if_pos (by omega)]; done)
  · refine wp_skip ?_;refine hK2 _ _ ?_;refine wp_seq_k fun K5 hK5=>?_;refine wp_region_lit ?_;refine pY ha (yMove rfl) fun a ha=>?_;refine pC ha (nCall Tryz.call85 rfl) rfl (Load_c hT (xs:=xs) hm (by omega) hs hk) ?_;rintro v w hv a ha
    rcases Bool.eq_false_or_eq_true (loadOk xs) with hok | hok
    · rw [if_pos hok] at hv;obtain ⟨b,bm,rfl,hs⟩:=hv;refine pY ha (yMove rfl) fun a ha=>?_;refine pY ha (yExtract rfl rfl) fun a ha=>?_;refine pY ha (yExtract rfl rfl) fun a ha=>?_;refine pY ha (yAssign rfl) fun a ha=>?_;refine pY ha (yAssign rfl) fun a ha=>?_;refine pZ ?_;refine hK5 _ _ ?_;refine wp_seq_k fun K6 hK6=>?_;refine wp_region_lit ?_;refine pY ha (yMove rfl) fun a ha=>?_;refine pY ha (yAssign rfl) fun a ha=>?_;refine pZ ?_;refine hK6 _ _ ?_;refine wp_ret ?_;show bodyPost Tryz.prog Tryz.f37 _ .ret _ _;refine ret1 rfl ha rfl ?_
      (refine ⟨congrArg (Value.int .i64) ?_,hs.drop.drop⟩; unfold nodsE; rw [if_neg (by omega),if_pos hok]; done)
    · rw [if_neg (by rw [hok]; decide)] at hv;obtain ⟨rfl,hs⟩:=hv;refine pY ha (yMove rfl) fun a ha=>?_;refine pY ha (yExtract rfl rfl) fun a ha=>?_;refine pY ha (yExtract rfl rfl) fun a ha=>?_;refine pY ha (yAssign rfl) fun a ha=>?_;refine pY ha (yAssign rfl) fun a ha=>?_;refine pZ ?_;refine hK5 _ _ ?_;refine wp_seq_k fun K7 hK7=>?_;refine wp_region_lit ?_;refine pY ha (yMove rfl) fun a ha=>?_;refine pY ha (yAssign rfl) fun a ha=>?_;refine pZ ?_;refine hK7 _ _ ?_;refine wp_ret ?_;show bodyPost Tryz.prog Tryz.f37 _ .ret _ _;refine ret1 rfl ha rfl ?_
      (refine ⟨congrArg (Value.int .i64) ?_,hs⟩; unfold nodsE; rw [if_neg (by omega),if_neg (by rw [hok]; decide)]; done)
theorem Write_c (hT : Tabs W) {es : List Value} {x : Msg} (hb : (wMsg x).1.length≤8796093022208) (hs : Sep W w cs) (hk : Pick cs (.el kMsg x es) r) :
    Calls P 22 #[.agg es.toArray] w (Rt fun v w'=>∃ A c,v = .slice A (bOut x).length c∧Sep W w' (.rd kU8 (.slice A (bOut x).length c) (bOut x)::cs)):=by
  obtain ⟨A,n,c,A',n',c',B,m,d,rfl,hs⟩:=hs.el_msg hk;obtain ⟨rfl,hl⟩:=hs.rd_shape (.there .here);unfold maxLen at hl
  have q1:=wNum_le ([],false) x.kind
  have q2:=wNum_le (wNum ([],false) x.kind) x.client
  have q3:=wNum_le (wNum (wNum ([],false) x.kind) x.client) x.seq
  have q4:=wNum_le (wNum (wNum (wNum ([],false) x.kind) x.client) x.seq) x.rev
  have q5:=wNum_le (wNum (wNum (wNum (wNum ([],false) x.kind) x.client) x.seq) x.rev) x.code
  have q6:=wNum_le (wNum (wNum (wNum (wNum (wNum ([],false) x.kind) x.client) x.seq) x.rev) x.code) x.last
  have q7 : (wNum (wNum (wNum (wNum (wNum (wNum ([],false) x.kind) x.client) x.seq) x.rev) x.code) x.last).1.length≤(wHead ([],false) x).1.length:=wActns_le _ x.acts
  have q8 : (wNum (wHead ([],false) x) x.commits.length).1.length≤(wCmts (wHead ([],false) x) x.commits).1.length:=fold_le wCmt_le x.commits _
  have q9 : (wCmts (wHead ([],false) x) x.commits).1.length≤(wMsg x).1.length:=wNods_le _ x.nodes
  have q10:=wNum_le (wHead ([],false) x) x.commits.length
  refine enter Tryz.func22 Tryz.ntmps22 rfl rfl fun a (ha : Has a 64 [(0,_)])=>?_;refine wp_seq_k fun K1 hK1=>?_;refine wp_region_lit ?_;refine pBox (es:=_) ha rfl rfl hs rfl fun b1 w hs a ha=>?_;refine pY ha (yAssign rfl) fun a ha=>?_;refine pZ ?_;refine hK1 _ _ ?_;refine wp_seq_k fun K2 hK2=>?_;refine dStart (fun w=>∃ rs,Sep W w (.blk b1 26 [.int .i64 x.kind,.int .i64 x.client,.int .i64 x.seq,.int .i64 x.rev,.int .i64 x.code,.slice A n c,.slice A' x.commits.length c',.slice B m d,.int .i64 x.last]::rs)) [25] 134217727 33554431 (by kernel_rfl) (by kernel_rfl) rfl (⟨_,hs.drew.pick pk0⟩) ?_
  have hs:=Sep.drew hs
  generalize World.drew _ = w at hs ⊢;refine dP 1 2 rfl ha (fun _=>yFieldA Tryz.runUnderlying26 rfl Tryz.sizeOf3 rfl rfl) fun a ha=>?_;refine dT 2 6 rfl ha (fun _ ⟨rs,hs⟩=>yLoadB Tryz.isAgg3 hs rfl pk0 rfl) (⟨_,hs.pick pk0⟩) fun a ha=>?_;refine dP 4 22 rfl ha (fun _=>yFieldA Tryz.runUnderlying26 rfl Tryz.sizeOf3 rfl rfl) fun a ha=>?_;refine dT 5 54 rfl ha (fun _ ⟨rs,hs⟩=>yLoadB Tryz.isAgg3 hs rfl pk0 rfl) (⟨_,hs.pick pk0⟩) fun a ha=>?_;refine dP 7 182 rfl ha (fun _=>yFieldA Tryz.runUnderlying26 rfl Tryz.sizeOf3 rfl rfl) fun a ha=>?_;refine dT 8 438 rfl ha (fun _ ⟨rs,hs⟩=>yLoadB Tryz.isAgg3 hs rfl pk0 rfl) (⟨_,hs.pick pk0⟩) fun a ha=>?_;refine dP 10 1462 rfl ha (fun _=>yFieldA Tryz.runUnderlying26 rfl Tryz.sizeOf3 rfl rfl) fun a ha=>?_;refine dT 11 3510 rfl ha (fun _ ⟨rs,hs⟩=>yLoadB Tryz.isAgg3 hs rfl pk0 rfl) (⟨_,hs.pick pk0⟩) fun a ha=>?_;refine dP 13 11702 rfl ha (fun _=>yFieldA Tryz.runUnderlying26 rfl Tryz.sizeOf3 rfl rfl) fun a ha=>?_;refine dT 14 28086 rfl ha (fun _ ⟨rs,hs⟩=>yLoadB Tryz.isAgg3 hs rfl pk0 rfl) (⟨_,hs.pick pk0⟩) fun a ha=>?_;refine dP 16 93622 rfl ha (fun _=>yFieldA Tryz.runUnderlying26 rfl Tryz.sizeOf3 rfl rfl) fun a ha=>?_;refine dT 17 224694 rfl ha (fun _ ⟨rs,hs⟩=>yLoadB Tryz.isAgg3 hs rfl pk0 rfl) (⟨_,hs.pick pk0⟩) fun a ha=>?_;refine dP 19 748982 rfl ha (fun _=>yFieldA Tryz.runUnderlying26 rfl Tryz.sizeOf22 rfl rfl) fun a ha=>?_;refine dT 20 1797558 rfl ha (fun _ ⟨rs,hs⟩=>yLoadB Tryz.isAgg22 hs rfl pk0 rfl) (⟨_,hs.pick pk0⟩) fun a ha=>?_;refine dP 22 5991862 rfl ha (fun _=>yFieldA Tryz.runUnderlying26 rfl Tryz.sizeOf23 rfl rfl) fun a ha=>?_;refine dT 23 14380470 rfl ha (fun _ ⟨rs,hs⟩=>yLoadB Tryz.isAgg23 hs rfl pk0 rfl) (⟨_,hs.pick pk0⟩) fun a ha=>?_;refine dP 24 31157686 rfl ha (fun _=>yLenS Tryz.runUnderlying23 rfl) fun a ha=>?_;refine dAlloc (n:=0) 0 31157687 rfl (by kernel_rfl) rfl (zs:=[.slice none 0 0,.bool false]) ha won0 Tryz.zeroValue97 rfl hs rfl (fun _ _ hs=>⟨_,hs.pick pk1⟩) fun bw w hs a ha=>?_
  have hs:=((hs.ol_nil kU8 5 none).perm (List.Perm.swap _ _ _)).wtr_shut .here .here
  refine dC 3 31157695 rfl (by kernel_rfl) rfl ha won0 (nCall Tryz.call59 rfl) rfl (WrNum_c (st:=([],false)) x.kind (by omega) hs pk0) ?_;rintro v w ⟨rfl,hs⟩;refine ⟨⟨_,hs.pick pk1⟩,fun a ha=>?_⟩;refine dC 6 31157759 rfl (by kernel_rfl) rfl ha won0 (nCall Tryz.call59 rfl) rfl (WrNum_c (st:=wNum ([],false) x.kind) x.client (by omega) hs pk0) ?_;rintro v w ⟨rfl,hs⟩;refine ⟨⟨_,hs.pick pk1⟩,fun a ha=>?_⟩;refine dC 9 31158271 rfl (by kernel_rfl) rfl ha won0 (nCall Tryz.call59 rfl) rfl (WrNum_c (st:=wNum (wNum ([],false) x.kind) x.client) x.seq (by omega) hs pk0) ?_;rintro v w ⟨rfl,hs⟩;refine ⟨⟨_,hs.pick pk1⟩,fun a ha=>?_⟩;refine dC 12 31162367 rfl (by kernel_rfl) rfl ha won0 (nCall Tryz.call59 rfl) rfl (WrNum_c (st:=wNum (wNum (wNum ([],false) x.kind) x.client) x.seq) x.rev (by omega) hs pk0) ?_;rintro v w ⟨rfl,hs⟩;refine ⟨⟨_,hs.pick pk1⟩,fun a ha=>?_⟩;refine dC 15 31195135 rfl (by kernel_rfl) rfl ha won0 (nCall Tryz.call59 rfl) rfl (WrNum_c (st:=wNum (wNum (wNum (wNum ([],false) x.kind) x.client) x.seq) x.rev) x.code (by omega) hs pk0) ?_;rintro v w ⟨rfl,hs⟩;refine ⟨⟨_,hs.pick pk1⟩,fun a ha=>?_⟩;refine dC 18 31457279 rfl (by kernel_rfl) rfl ha won0 (nCall Tryz.call59 rfl) rfl (WrNum_c (st:=wNum (wNum (wNum (wNum (wNum ([],false) x.kind) x.client) x.seq) x.rev) x.code) x.last (by omega) hs pk0) ?_;rintro v w ⟨rfl,hs⟩;refine ⟨⟨_,hs.pick pk1⟩,fun a ha=>?_⟩;refine dC 21 33554431 rfl (by kernel_rfl) rfl ha won0 (nCall Tryz.call60 rfl) rfl (WrActns_c (st:=wNum (wNum (wNum (wNum (wNum (wNum ([],false) x.kind) x.client) x.seq) x.rev) x.code) x.last) (xs:=x.acts) hT (show (wHead ([],false) x).1.length≤_ by omega) hs pk0 pk1) ?_;rintro v w ⟨rfl,hs⟩;refine ⟨⟨_,hs.pick pk1⟩,fun a ha=>?_⟩;refine dCl 25 67108863 rfl (by kernel_rfl) rfl ha won0 (nCall Tryz.call59 rfl) rfl (WrNum_c (st:=wHead ([],false) x) x.commits.length (by omega) hs pk0) ?_;rintro v w ⟨rfl,hs⟩ a ha;refine dP 26 134217727 rfl ha (fun _=>yAssign rfl) fun a ha=>?_;refine dZ (by kernel_rfl) ?_;refine hK2 _ _ ?_;refine wp_seq_k fun K3 hK3=>?_;refine wp_seq_k fun K4 hK4=>?_;refine wp_region_lit ?_;refine pY ha (yFieldA Tryz.runUnderlying26 rfl Tryz.sizeOf23 rfl rfl) fun a ha=>?_;refine pY ha (yLoadB Tryz.isAgg23 hs rfl pk1 rfl) fun a ha=>?_;refine pY ha (yLenS Tryz.runUnderlying23 rfl) fun a ha=>?_;refine pY ha (yMove rfl) fun a ha=>?_;refine pZ ?_;refine hK4 _ _ ?_;refine wp_block ?_;refine loopI (ι:=Nat) (fun i a w=>i≤x.commits.length∧Has a 64 [(1,.pointer (some ⟨b1,0,none⟩)),(3,.pointer (some ⟨bw,0,none⟩)),(35,.slice A' x.commits.length c'),(36,.int .i64 x.commits.length),(37,.int .i64 i)]∧Sep W w (.wtr bw 97 ((x.commits.take i).foldl wCmt (wNum (wHead ([],false) x) x.commits.length))::.blk b1 26 [.int .i64 x.kind,.int .i64 x.client,.int .i64 x.seq,.int .i64 x.rev,.int .i64 x.code,.slice A n c,.slice A' x.commits.length c',.slice B m d,.int .i64 x.last]::.rd kActn (.slice A n c) x.acts::.rd kCmt (.slice A' x.commits.length c') x.commits::.rd kNod (.slice B m d) x.nodes::cs)) (fun i=>x.commits.length - i) (0) ?_ ?_
  · exact ⟨Nat.zero_le _,has5 ha rfl rfl rfl rfl rfl,hs⟩
  · rintro i a w ⟨h1,ha,hs⟩;refine wp_seq_k fun K5 hK5=>?_;refine wp_region_lit ?_;refine pY ha (yLss rfl rfl) fun a ha=>?_;refine pZ ?_;refine hK5 _ _ ?_;refine wp_seq_k fun K6 hK6=>?_;refine cDec ha rfl (fun hc38=>?_) (fun hc38=>?_)
    · obtain ⟨y,hy⟩ : ∃ y,x.commits[i]? = some y:=⟨_,List.getElem?_eq_getElem (by omega)⟩;obtain ⟨hf1,hf2⟩:=fold_at (f:=wCmt) wCmt_le (s0:=wNum (wHead ([],false) x) x.commits.length) hy
      have hf0 : (x.commits.foldl wCmt (wNum (wHead ([],false) x) x.commits.length)).1.length≤8796093022208:=Nat.le_trans q9 hb
      generalize (x.commits.take i).foldl wCmt (wNum (wHead ([],false) x) x.commits.length) = s0 at hs hf1 hf2;obtain ⟨b0,off,D,e,f,rfl,hs⟩:=hs.rd_cmt (.there (.there (.there .here))) hy
      have p1:=wNum_le s0 y.rev
      have p2:=wNum_le (wNum s0 y.rev) y.client
      have p3:=wNum_le (wNum (wNum s0 y.rev) y.client) y.seq
      have p4:=wActns_le (wNum (wNum (wNum s0 y.rev) y.client) y.seq) y.acts
      have hf3 : (wActns (wNum (wNum (wNum s0 y.rev) y.client) y.seq) y.acts).1.length≤8796093022208:=Nat.le_trans hf2 hf0
      refine wp_skip ?_;refine hK6 _ _ ?_;refine wp_seq_k fun K7 hK7=>?_;refine wp_block ?_;refine wp_seq_k fun K8 hK8=>?_;refine wp_region_lit ?_;refine pY ha (yIndexA Tryz.runUnderlying23 Tryz.sizeOf58 rfl rfl (by omega) (by omega)) fun a ha=>?_;refine pY ha (yLoadRA Tryz.isAgg58 Tryz.sizeOf58 hs rfl pk0 rfl) fun a ha=>?_;refine pAlloc (zs:=[.int .i64 0,.int .i64 0,.int .i64 0,.slice none 0 0]) ha Tryz.zeroValue58 rfl hs rfl fun b5 w hs a ha=>?_;refine pStoreA ha Tryz.sizeOf58 hs rfl rfl pk0 rfl rfl rfl fun w hs=>?_;refine pZ ?_;refine hK8 _ _ ?_;refine dStart (fun w=>∃ rs,Sep W w (.blk b5 58 [.int .i64 y.rev,.int .i64 y.client,.int .i64 y.seq,.slice D e f]::rs)) [12] 8191 4095 (by kernel_rfl) (by kernel_rfl) rfl (⟨_,hs.drew.pick pk0⟩) ?_
      have hs:=Sep.drew hs
      generalize World.drew _ = w at hs ⊢;refine dP 0 1 rfl ha (fun _=>yMove rfl) fun a ha=>?_;refine dP 1 3 rfl ha (fun _=>yFieldA Tryz.runUnderlying58 rfl Tryz.sizeOf3 rfl rfl) fun a ha=>?_;refine dT 2 7 rfl ha (fun _ ⟨rs,hs⟩=>yLoadB Tryz.isAgg3 hs rfl pk0 rfl) (⟨_,hs.pick pk0⟩) fun a ha=>?_;refine dP 4 23 rfl ha (fun _=>yFieldA Tryz.runUnderlying58 rfl Tryz.sizeOf3 rfl rfl) fun a ha=>?_;refine dT 5 55 rfl ha (fun _ ⟨rs,hs⟩=>yLoadB Tryz.isAgg3 hs rfl pk0 rfl) (⟨_,hs.pick pk0⟩) fun a ha=>?_;refine dP 7 183 rfl ha (fun _=>yFieldA Tryz.runUnderlying58 rfl Tryz.sizeOf3 rfl rfl) fun a ha=>?_;refine dT 8 439 rfl ha (fun _ ⟨rs,hs⟩=>yLoadB Tryz.isAgg3 hs rfl pk0 rfl) (⟨_,hs.pick pk0⟩) fun a ha=>?_;refine dP 10 1463 rfl ha (fun _=>yFieldA Tryz.runUnderlying58 rfl Tryz.sizeOf22 rfl rfl) fun a ha=>?_;refine dT 11 3511 rfl ha (fun _ ⟨rs,hs⟩=>yLoadB Tryz.isAgg22 hs rfl pk0 rfl) (⟨_,hs.pick pk0⟩) fun a ha=>?_;refine dC 3 3519 rfl (by kernel_rfl) rfl ha won0 (nCall Tryz.call59 rfl) rfl (WrNum_c (st:=s0) y.rev (by omega) hs pk3) ?_;rintro v w ⟨rfl,hs⟩;refine ⟨⟨_,hs.pick pk1⟩,fun a ha=>?_⟩;refine dC 6 3583 rfl (by kernel_rfl) rfl ha won0 (nCall Tryz.call59 rfl) rfl (WrNum_c (st:=wNum s0 y.rev) y.client (by omega) hs pk0) ?_;rintro v w ⟨rfl,hs⟩;refine ⟨⟨_,hs.pick pk1⟩,fun a ha=>?_⟩;refine dC 9 4095 rfl (by kernel_rfl) rfl ha won0 (nCall Tryz.call59 rfl) rfl (WrNum_c (st:=wNum (wNum s0 y.rev) y.client) y.seq (by omega) hs pk0) ?_;rintro v w ⟨rfl,hs⟩;refine ⟨⟨_,hs.pick pk1⟩,fun a ha=>?_⟩;refine dCl 12 8191 rfl (by kernel_rfl) rfl ha won0 (nCall Tryz.call60 rfl) rfl (WrActns_c (st:=wNum (wNum (wNum s0 y.rev) y.client) y.seq) (xs:=y.acts) hT hf3 hs pk0 pk2) ?_;rintro v w ⟨rfl,hs⟩ a ha;refine dZ (by kernel_rfl) ?_;refine hK7 _ _ ?_;refine wp_region_lit ?_;refine pY ha (yAddN rfl rfl ⟨by omega,by omega⟩) fun a ha=>?_;refine pY ha (yMove rfl) fun a ha=>?_;refine pZ ?_;refine ⟨i + 1,⟨by omega,has5 ha rfl rfl rfl rfl rfl,?_⟩,by omega⟩;rw [hf1];exact hs.drop2.drop2.drop2
    · refine wp_exit ?_;refine hK3 _ _ ?_;refine wp_seq_k fun K9 hK9=>?_;rw [List.take_of_length_le (by omega)] at hs;refine wp_region_lit ?_;refine pY ha (yMove rfl) fun a ha=>?_;refine pY ha (yFieldA Tryz.runUnderlying26 rfl Tryz.sizeOf24 rfl rfl) fun a ha=>?_;refine pY ha (yLoadB Tryz.isAgg24 hs rfl pk1 rfl) fun a ha=>?_;refine pC ha (nCall Tryz.call61 rfl) rfl (WrNods_c (st:=wCmts (wHead ([],false) x) x.commits) (xs:=x.nodes) hT hb hs pk0 pk3) ?_;rintro v w ⟨rfl,hs⟩ a ha;refine pC ha (nCall Tryz.call62 rfl) rfl (WrDone_c (st:=wMsg x) (by omega) hs pk0) ?_;rintro v w hv a ha
      rcases Bool.eq_false_or_eq_true (wMsg x).2 with hbad | hbad
      · rw [if_pos hbad] at hv;obtain ⟨rfl,hs⟩:=hv;refine pY ha (yMove rfl) fun a ha=>?_;refine pY ha (yExtract rfl rfl) fun a ha=>?_;refine pY ha (yExtract rfl rfl) fun a ha=>?_;refine pY ha (yAssign rfl) fun a ha=>?_;refine pY ha (yAssign rfl) fun a ha=>?_;refine pZ ?_;refine hK9 _ _ ?_;refine wp_seq_k fun K10 hK10=>?_;refine wp_region_lit ?_;refine pY ha (yMove rfl) fun a ha=>?_;refine pY ha (yAssign rfl) fun a ha=>?_;refine pZ ?_;refine hK10 _ _ ?_;refine wp_ret ?_;show bodyPost Tryz.prog Tryz.f22 _ .ret _ _;refine ret1 rfl ha rfl ?_
        (rw [show bOut x = [] by unfold bOut; rw [if_pos hbad]]; exact ⟨none,0,rfl,(hs.drop.drop.drop.drop.drop).rd_nil⟩)
      · rw [if_neg (by rw [hbad]; decide)] at hv;obtain ⟨Q,q,rfl,hs⟩:=hv;refine pY ha (yMove rfl) fun a ha=>?_;refine pY ha (yExtract rfl rfl) fun a ha=>?_;refine pY ha (yExtract rfl rfl) fun a ha=>?_;refine pY ha (yAssign rfl) fun a ha=>?_;refine pY ha (yAssign rfl) fun a ha=>?_;refine pZ ?_;refine hK9 _ _ ?_;refine wp_seq_k fun K11 hK11=>?_;refine wp_region_lit ?_;refine pY ha (yMove rfl) fun a ha=>?_;refine pY ha (yAssign rfl) fun a ha=>?_;refine pZ ?_;refine hK11 _ _ ?_;refine wp_ret ?_;show bodyPost Tryz.prog Tryz.f22 _ .ret _ _;refine ret1 rfl ha rfl ?_
        (rw [show bOut x = (wMsg x).1 by unfold bOut; rw [if_neg (by rw [hbad]; decide)]]; exact ⟨Q,q,rfl,(hs.ol_rd .here).drop2.drop2.drop2.drop2⟩)
end
end Go.Proofs.YtnlhbkaieoogfaaGreatDoor

set_option linter.unusedVariables false
set_option linter.unusedSimpArgs false
namespace Go.Proofs.YtnlhbkaieoogfaaGreatDoor
open Go.RowKit Go.Lib Go.Proofs.YtnlhbkaieoogfaaGreatDoorW.PrintLast
theorem bslEnc93_5_0_1_2_3_4 {w : World} {l : List (Nat × Value)} {T : TypeId} {x0 x1 x2 x3 x4 : Operand} {v0 : Value} (h0 : ev l x0 = some v0) {v1 : Value} (h1 : ev l x1 = some v1) {v2 : Value} (h2 : ev l x2 = some v2) {v3 : Value} (h3 : ev l x3 = some v3) {v4 : Value} (h4 : ev l x4 = some v4) (o0 : v0.cells = #[v0]:=by rfl) (o1 : v1.cells = #[v1]:=by rfl) (o2 : v2.cells = #[v2]:=by rfl) (o3 : v3.cells = #[v3]:=by rfl) (o4 : v4.cells = #[v4]:=by rfl) : Mk Tryz.prog w l (.buildSlice 93 5 #[(0,x0),(1,x1),(2,x2),(3,x3),(4,x4)]) T 3 5 [v0,v1,v2,v3,v4]:=fun ρ o h ho _=>by
  have hm:=mkvs (P:=Tryz.prog) [v0,v1,v2,v3,v4] w Tryz.runUnderlying93 Tryz.sizeOf3 Tryz.zeroValue3 (by intro v hv; simp at hv; rcases hv with rfl | rfl | rfl | rfl | rfl <;> assumption) (by simp) (by simp)
  unfold execOp; rw [ho];simp only [h _ _ h0,h _ _ h1,h _ _ h2,h _ _ h3,h _ _ h4,List.map_toArray,List.map_cons,List.map_nil];simp only [List.length_cons,List.length_nil,prt] at hm
  simp at hm
  simp [hm]
section
variable {W w : World} {cs r r2 : List Ch}
theorem msg_bad (x : Msg) (h : badM x) : msgE x = 1:=by unfold msgE; unfold badM at h; rw [if_pos h]
theorem msg_ok (x : Msg) (h : ¬ badM x) : msgE x = if txnE x.acts ≠ 0 then txnE x.acts else if cmtsE x.commits ≠ 0 then cmtsE x.commits else if nodsE x.nodes ≠ 0 then nodsE x.nodes else if (bOut x).length > 65536 then 3 else 0:=by unfold msgE; unfold badM at h; rw [if_neg h]
theorem MCheck_c (hT : Tabs W) {es : List Value} {x : Msg} (hm : mM x) (hb : (wMsg x).1.length≤8796093022208) (hs : Sep W w cs) (hk : Pick cs (.el kMsg x es) r) :
    Calls P 11 #[.agg es.toArray] w (Rt fun v w'=>v = .int .i64 (msgE x)∧Sep W w' cs):=by
  obtain ⟨⟨m1,m2,m3,m4,m5⟩,ma,mc,mn,msh⟩:=hm;unfold i64 at m1 m2 m3 m4 m5;obtain ⟨A,n,c,A',n',c',B,m,d,rfl,hs⟩:=hs.el_msg hk;refine enter Tryz.func11 Tryz.ntmps11 rfl rfl fun a (ha : Has a 53 [(0,_)])=>?_;refine wp_seq_k fun K1 hK1=>?_;refine wp_region_lit ?_;refine pBox (es:=_) ha rfl rfl hs rfl fun b1 w hs a ha=>?_;refine pY ha (yAssign rfl) fun a ha=>?_;refine pZ ?_;refine hK1 _ _ ?_;refine scopeF 1 99999 ?_;refine wp_seq_k fun K2 hK2=>?_;refine wp_seq_k fun K3 hK3=>?_;refine cutC (fun a w=>Has a 53 [(32,.bool (decide (badM x))),(1,.pointer (some ⟨b1,0,none⟩)),(2,.int .i64 0)]∧Sep W w (.blk b1 26 [.int .i64 x.kind,.int .i64 x.client,.int .i64 x.seq,.int .i64 x.rev,.int .i64 x.code,.slice A n c,.slice A' n' c',.slice B m d,.int .i64 x.last]::.rd kActn (.slice A n c) x.acts::.rd kCmt (.slice A' n' c') x.commits::.rd kNod (.slice B m d) x.nodes::cs)) ?_ ?_
  · refine dStart (fun w=>∃ rs,Sep W w (.blk b1 26 [.int .i64 x.kind,.int .i64 x.client,.int .i64 x.seq,.int .i64 x.rev,.int .i64 x.code,.slice A n c,.slice A' n' c',.slice B m d,.int .i64 x.last]::rs)) [26,27] 1073741823 67108863 (by kernel_rfl) (by kernel_rfl) rfl (⟨_,hs.drew.pick pk0⟩) ?_
    have hs:=Sep.drew hs
    generalize World.drew _ = w at hs ⊢;refine dP 0 1 rfl ha (fun _=>yFieldA Tryz.runUnderlying26 rfl Tryz.sizeOf3 rfl rfl) fun a ha=>?_;refine dT 1 3 rfl ha (fun _ ⟨rs,hs⟩=>yLoadB Tryz.isAgg3 hs rfl pk0 rfl) (⟨_,hs.pick pk0⟩) fun a ha=>?_;refine dP 2 7 rfl ha (fun _=>yLss rfl rfl) fun a ha=>?_;refine dP 3 15 rfl ha (fun _=>yMove rfl) fun a ha=>?_;refine gDec (t:=6) ha rfl (fun hg3 hp3=>?_) (fun hg3 hp3=>?_)
    · rw [hg3] at ha;refine dP 4 31 rfl ha (fun _=>yFieldA Tryz.runUnderlying26 rfl Tryz.sizeOf3 rfl rfl) fun a ha=>?_;refine dT 5 63 rfl ha (fun _ ⟨rs,hs⟩=>yLoadB Tryz.isAgg3 hs rfl pk0 rfl) (⟨_,hs.pick pk0⟩) fun a ha=>?_;refine dP 6 127 rfl ha (fun _=>yGtr rfl rfl) fun a ha=>?_;refine dP 7 255 rfl ha (fun _=>yPickF rfl rfl) fun a ha=>?_;refine dP 8 511 rfl ha (fun _=>yMove rfl) fun a ha=>?_;refine gSplit (t:=11) ha rfl (fun hg8=>?_) (fun hg8=>?_)
      · rw [hg8] at ha
        have hp8:=of_decide_eq_false hg8
        refine dT 9 1023 rfl ha (fun _ ⟨rs,hs⟩=>yLoadBA Tryz.isAgg26 Tryz.sizeOf26 hs rfl pk0 rfl) (⟨_,hs.pick pk0⟩) fun a ha=>?_;refine dT 10 2047 rfl ha (fun _ ⟨rs,hs⟩=>yLoadBA Tryz.isAgg26 Tryz.sizeOf26 hs rfl pk0 rfl) (⟨_,hs.pick pk0⟩) fun a ha=>?_;refine dC 11 4095 rfl (by kernel_rfl) rfl ha (won1 rfl rfl rfl) (nCall Tryz.call15 rfl) rfl (PlainM_c (x:=x) msh hs (.there (.there (.there (.there hk))))) ?_;rintro v w ⟨es',rfl,hs⟩;refine ⟨⟨_,hs.pick pk1⟩,fun a ha=>?_⟩;refine dC 12 8191 rfl (by kernel_rfl) rfl ha (won1 rfl rfl rfl) (nCall Tryz.call14 rfl) rfl (SameM_c (x:=x) (y:=plainM x) hs (.there (.there (.there (.there (.there hk))))) .here) ?_;rintro v w ⟨rfl,hs⟩;refine ⟨⟨_,hs.pick pk1⟩,fun a ha=>?_⟩;refine dP 13 16383 rfl ha (fun _=>yNot rfl) fun a ha=>?_;refine dP 14 32767 rfl ha (fun _=>yPickF rfl rfl) fun a ha=>?_;refine dP 15 65535 rfl ha (fun _=>yMove rfl) fun a ha=>?_;refine gSplit (t:=18) ha rfl (fun hg15=>?_) (fun hg15=>?_)
        · rw [hg15] at ha
          have hp15 : x = plainM x:=by simpa using hg15
          refine dP 16 131071 rfl ha (fun _=>yFieldA Tryz.runUnderlying26 rfl Tryz.sizeOf3 rfl rfl) fun a ha=>?_;refine dT 17 262143 rfl ha (fun _ ⟨rs,hs⟩=>yLoadB Tryz.isAgg3 hs rfl pk0 rfl) (⟨_,hs.pick pk1⟩) fun a ha=>?_;refine dP 18 524287 rfl ha (fun _=>yFieldA Tryz.runUnderlying26 rfl Tryz.sizeOf3 rfl rfl) fun a ha=>?_;refine dT 19 1048575 rfl ha (fun _ ⟨rs,hs⟩=>yLoadB Tryz.isAgg3 hs rfl pk0 rfl) (⟨_,hs.pick pk1⟩) fun a ha=>?_;refine dP 20 2097151 rfl ha (fun _=>yFieldA Tryz.runUnderlying26 rfl Tryz.sizeOf3 rfl rfl) fun a ha=>?_;refine dT 21 4194303 rfl ha (fun _ ⟨rs,hs⟩=>yLoadB Tryz.isAgg3 hs rfl pk0 rfl) (⟨_,hs.pick pk1⟩) fun a ha=>?_;refine dP 22 8388607 rfl ha (fun _=>yFieldA Tryz.runUnderlying26 rfl Tryz.sizeOf3 rfl rfl) fun a ha=>?_;refine dT 23 16777215 rfl ha (fun _ ⟨rs,hs⟩=>yLoadB Tryz.isAgg3 hs rfl pk0 rfl) (⟨_,hs.pick pk1⟩) fun a ha=>?_;refine dP 24 33554431 rfl ha (fun _=>yFieldA Tryz.runUnderlying26 rfl Tryz.sizeOf3 rfl rfl) fun a ha=>?_;refine dT 25 67108863 rfl ha (fun _ ⟨rs,hs⟩=>yLoadB Tryz.isAgg3 hs rfl pk0 rfl) (⟨_,hs.pick pk1⟩) fun a ha=>?_;refine dMakel 26 134217727 rfl (by kernel_rfl) rfl ha (won1 rfl rfl rfl) (bslEnc93_5_0_1_2_3_4 rfl rfl rfl rfl rfl) hs rfl fun b w hs a ha=>?_;have hs:=hs.ints_rd (xs:=[x.client,x.seq,x.rev,x.last,x.code]) .here (by intro y hy; simp at hy; rcases hy with rfl | rfl | rfl | rfl | rfl <;> assumption);refine dCl 27 268435455 rfl (by kernel_rfl) rfl ha (won1 rfl rfl rfl) (nCall Tryz.call34 rfl) rfl (WFits_c hs .here) ?_;rintro v w ⟨rfl,hs⟩ a ha;refine dP 28 536870911 rfl ha (fun _=>yNot rfl) fun a ha=>?_;refine dP 29 1073741823 rfl ha (fun _=>yPickF rfl rfl) fun a ha=>?_;refine dZ (by kernel_rfl) ?_;refine ⟨rfl,?_⟩;refine ⟨has3 ha (bN ⟨fun h=>.inr (.inr (.inr ?_)),fun h=>?_⟩) rfl rfl,hs.drop.drop⟩
          · simpa [Bool.and_eq_false_iff] using h
          · have h2:=((h.resolve_left hp3).resolve_left hp8).resolve_left (fun q=>q hp15)
            simpa [Bool.and_eq_false_iff] using h2
        · rw [hg15] at ha
          have hp15 : x ≠ plainM x:=by simpa using hg15
          refine dOff 16 131071 rfl ha fun a ha=>?_;refine dOff 17 262143 rfl ha fun a ha=>?_;refine dOff 18 524287 rfl ha fun a ha=>?_;refine dOff 19 1048575 rfl ha fun a ha=>?_;refine dOff 20 2097151 rfl ha fun a ha=>?_;refine dOff 21 4194303 rfl ha fun a ha=>?_;refine dOff 22 8388607 rfl ha fun a ha=>?_;refine dOff 23 16777215 rfl ha fun a ha=>?_;refine dOff 24 33554431 rfl ha fun a ha=>?_;refine dOff 25 67108863 rfl ha fun a ha=>?_;refine dOff 26 134217727 rfl ha fun a ha=>?_;refine dOff 27 268435455 rfl ha fun a ha=>?_;refine dOff 28 536870911 rfl ha fun a ha=>?_;refine dP 29 1073741823 rfl ha (fun _=>yPickT rfl rfl) fun a ha=>?_;refine dZ (by kernel_rfl) ?_;refine ⟨rfl,?_⟩;exact ⟨has3 ha (bY (.inr (.inr (.inl hp15)))) rfl rfl,hs.drop⟩
      · rw [hg8] at ha
        have hp8:=of_decide_eq_true hg8
        refine dOff 9 1023 rfl ha fun a ha=>?_;refine dOff 10 2047 rfl ha fun a ha=>?_;refine dOff 11 4095 rfl ha fun a ha=>?_;refine dOff 12 8191 rfl ha fun a ha=>?_;refine dOff 13 16383 rfl ha fun a ha=>?_;refine dP 14 32767 rfl ha (fun _=>yPickT rfl rfl) fun a ha=>?_;refine dP 15 65535 rfl ha (fun _=>yMove rfl) fun a ha=>?_;refine dOff 16 131071 rfl ha fun a ha=>?_;refine dOff 17 262143 rfl ha fun a ha=>?_;refine dOff 18 524287 rfl ha fun a ha=>?_;refine dOff 19 1048575 rfl ha fun a ha=>?_;refine dOff 20 2097151 rfl ha fun a ha=>?_;refine dOff 21 4194303 rfl ha fun a ha=>?_;refine dOff 22 8388607 rfl ha fun a ha=>?_;refine dOff 23 16777215 rfl ha fun a ha=>?_;refine dOff 24 33554431 rfl ha fun a ha=>?_;refine dOff 25 67108863 rfl ha fun a ha=>?_;refine dOff 26 134217727 rfl ha fun a ha=>?_;refine dOff 27 268435455 rfl ha fun a ha=>?_;refine dOff 28 536870911 rfl ha fun a ha=>?_;refine dP 29 1073741823 rfl ha (fun _=>yPickT rfl rfl) fun a ha=>?_;refine dZ (by kernel_rfl) ?_;refine ⟨rfl,?_⟩;exact ⟨has3 ha (bY (.inr (.inl hp8))) rfl rfl,hs⟩
    · rw [hg3] at ha;refine dOff 4 31 rfl ha fun a ha=>?_;refine dOff 5 63 rfl ha fun a ha=>?_;refine dOff 6 127 rfl ha fun a ha=>?_;refine dP 7 255 rfl ha (fun _=>yPickT rfl rfl) fun a ha=>?_;refine dP 8 511 rfl ha (fun _=>yMove rfl) fun a ha=>?_;refine dOff 9 1023 rfl ha fun a ha=>?_;refine dOff 10 2047 rfl ha fun a ha=>?_;refine dOff 11 4095 rfl ha fun a ha=>?_;refine dOff 12 8191 rfl ha fun a ha=>?_;refine dOff 13 16383 rfl ha fun a ha=>?_;refine dP 14 32767 rfl ha (fun _=>yPickT rfl rfl) fun a ha=>?_;refine dP 15 65535 rfl ha (fun _=>yMove rfl) fun a ha=>?_;refine dOff 16 131071 rfl ha fun a ha=>?_;refine dOff 17 262143 rfl ha fun a ha=>?_;refine dOff 18 524287 rfl ha fun a ha=>?_;refine dOff 19 1048575 rfl ha fun a ha=>?_;refine dOff 20 2097151 rfl ha fun a ha=>?_;refine dOff 21 4194303 rfl ha fun a ha=>?_;refine dOff 22 8388607 rfl ha fun a ha=>?_;refine dOff 23 16777215 rfl ha fun a ha=>?_;refine dOff 24 33554431 rfl ha fun a ha=>?_;refine dOff 25 67108863 rfl ha fun a ha=>?_;refine dOff 26 134217727 rfl ha fun a ha=>?_;refine dOff 27 268435455 rfl ha fun a ha=>?_;refine dOff 28 536870911 rfl ha fun a ha=>?_;refine dP 29 1073741823 rfl ha (fun _=>yPickT rfl rfl) fun a ha=>?_;refine dZ (by kernel_rfl) ?_;refine ⟨rfl,?_⟩;exact ⟨has3 ha (bY (.inl hp3)) rfl rfl,hs⟩
  rintro a w ⟨ha,hs⟩;refine hK3 _ _ ?_;refine cDec ha rfl (fun hc32=>?_) (fun hc32=>?_)
  · refine wp_seq_k fun K4 hK4=>?_;refine wp_region_lit ?_;refine pY ha (yAssign rfl) fun a ha=>?_;refine pZ ?_;refine hK4 _ _ ?_;refine wp_goto ?_
    repeat (with_reducible first | refine gThen ?_ | refine gBlock ?_)
    refine gxF rfl rfl ?_;refine wp_seq_k fun K5 hK5=>?_;refine wp_skip ?_;refine hK5 _ _ ?_;refine wp_seq_k fun K6 hK6=>?_;refine wp_region_lit ?_;refine pY ha (yMove rfl) fun a ha=>?_;refine pY ha (yAssign rfl) fun a ha=>?_;refine pZ ?_;refine hK6 _ _ ?_;refine wp_ret ?_;show bodyPost Tryz.prog Tryz.f11 _ .ret _ _;refine ret1 rfl ha rfl ?_
    (refine ⟨congrArg (Value.int .i64) (msg_bad x hc32).symm,hs.drop.drop.drop.drop⟩; done)
  · refine wp_skip ?_;refine hK2 _ _ ?_;refine wp_seq_k fun K7 hK7=>?_;refine wp_seq_k fun K8 hK8=>?_;refine wp_region_lit ?_;refine pY ha (yFieldA Tryz.runUnderlying26 rfl Tryz.sizeOf22 rfl rfl) fun a ha=>?_;refine pY ha (yLoadB Tryz.isAgg22 hs rfl pk0 rfl) fun a ha=>?_;refine pC ha (nCall Tryz.call35 rfl) rfl (TxnCheck_c hT (xs:=x.acts) ma hs pk1) ?_;rintro v w ⟨rfl,hs⟩ a ha;refine pY ha (yAssign rfl) fun a ha=>?_;refine pZ ?_;refine hK8 _ _ ?_;refine wp_seq_k fun K9 hK9=>?_;refine wp_region_lit ?_;refine pY ha (yMove rfl) fun a ha=>?_;refine pY ha (yNeq rfl rfl) fun a ha=>?_;refine pZ ?_;refine hK9 _ _ ?_;refine cNDec ha rfl (fun hc37=>?_) (fun hc37=>?_)
    · refine wp_goto ?_
      repeat (with_reducible first | refine gThen ?_ | refine gBlock ?_)
      refine gxF rfl rfl ?_;refine wp_seq_k fun K10 hK10=>?_;refine wp_skip ?_;refine hK10 _ _ ?_;refine wp_seq_k fun K11 hK11=>?_;refine wp_region_lit ?_;refine pY ha (yMove rfl) fun a ha=>?_;refine pY ha (yAssign rfl) fun a ha=>?_;refine pZ ?_;refine hK11 _ _ ?_;refine wp_ret ?_;show bodyPost Tryz.prog Tryz.f11 _ .ret _ _;refine ret1 rfl ha rfl ?_
      (refine ⟨congrArg (Value.int .i64) ?_,hs.drop.drop.drop.drop⟩; rw [msg_ok x hc32,if_pos hc37]; done)
    · refine wp_skip ?_;refine hK7 _ _ ?_;refine wp_seq_k fun K12 hK12=>?_;refine wp_seq_k fun K13 hK13=>?_;refine wp_region_lit ?_;refine pY ha (yFieldA Tryz.runUnderlying26 rfl Tryz.sizeOf23 rfl rfl) fun a ha=>?_;refine pY ha (yLoadB Tryz.isAgg23 hs rfl pk0 rfl) fun a ha=>?_;refine pC ha (nCall Tryz.call36 rfl) rfl (Commits_c hT (xs:=x.commits) mc hs pk2) ?_;rintro v w ⟨rfl,hs⟩ a ha;refine pY ha (yAssign rfl) fun a ha=>?_;refine pZ ?_;refine hK13 _ _ ?_;refine wp_seq_k fun K14 hK14=>?_;refine wp_region_lit ?_;refine pY ha (yMove rfl) fun a ha=>?_;refine pY ha (yNeq rfl rfl) fun a ha=>?_;refine pZ ?_;refine hK14 _ _ ?_;refine cNDec ha rfl (fun hc42=>?_) (fun hc42=>?_)
      · refine wp_goto ?_
        repeat (with_reducible first | refine gThen ?_ | refine gBlock ?_)
        refine gxF rfl rfl ?_;refine wp_seq_k fun K15 hK15=>?_;refine wp_skip ?_;refine hK15 _ _ ?_;refine wp_seq_k fun K16 hK16=>?_;refine wp_region_lit ?_;refine pY ha (yMove rfl) fun a ha=>?_;refine pY ha (yAssign rfl) fun a ha=>?_;refine pZ ?_;refine hK16 _ _ ?_;refine wp_ret ?_;show bodyPost Tryz.prog Tryz.f11 _ .ret _ _;refine ret1 rfl ha rfl ?_
        (refine ⟨congrArg (Value.int .i64) ?_,hs.drop.drop.drop.drop⟩; rw [msg_ok x hc32,if_neg (by simpa using hc37),if_pos hc42]; done)
      · refine wp_skip ?_;refine hK12 _ _ ?_;refine wp_seq_k fun K17 hK17=>?_;refine wp_seq_k fun K18 hK18=>?_;refine wp_region_lit ?_;refine pY ha (yFieldA Tryz.runUnderlying26 rfl Tryz.sizeOf24 rfl rfl) fun a ha=>?_;refine pY ha (yLoadB Tryz.isAgg24 hs rfl pk0 rfl) fun a ha=>?_;refine pC ha (nCall Tryz.call37 rfl) rfl (Nodes_c hT (xs:=x.nodes) mn hs pk3) ?_;rintro v w ⟨rfl,hs⟩ a ha;refine pY ha (yAssign rfl) fun a ha=>?_;refine pZ ?_;refine hK18 _ _ ?_;refine wp_seq_k fun K19 hK19=>?_;refine wp_region_lit ?_;refine pY ha (yMove rfl) fun a ha=>?_;refine pY ha (yNeq rfl rfl) fun a ha=>?_;refine pZ ?_;refine hK19 _ _ ?_;refine cNDec ha rfl (fun hc47=>?_) (fun hc47=>?_)
        · refine wp_goto ?_
          repeat (with_reducible first | refine gThen ?_ | refine gBlock ?_)
          refine gxF rfl rfl ?_;refine wp_seq_k fun K20 hK20=>?_;refine wp_skip ?_;refine hK20 _ _ ?_;refine wp_seq_k fun K21 hK21=>?_;refine wp_region_lit ?_;refine pY ha (yMove rfl) fun a ha=>?_;refine pY ha (yAssign rfl) fun a ha=>?_;refine pZ ?_;refine hK21 _ _ ?_;refine wp_ret ?_;show bodyPost Tryz.prog Tryz.f11 _ .ret _ _;refine ret1 rfl ha rfl ?_
          (refine ⟨congrArg (Value.int .i64) ?_,hs.drop.drop.drop.drop⟩; rw [msg_ok x hc32,if_neg (by simpa using hc37),if_neg (by simpa using hc42),if_pos hc47]; done)
        · refine wp_skip ?_;refine hK17 _ _ ?_;refine wp_seq_k fun K22 hK22=>?_;refine wp_seq_k fun K23 hK23=>?_;refine wp_region_lit ?_;refine pY ha (yLoadBA Tryz.isAgg26 Tryz.sizeOf26 hs rfl pk0 rfl) fun a ha=>?_;refine pC ha (nCall Tryz.call22 rfl) rfl (Write_c hT hb hs (.there (.there (.there (.there hk))))) ?_;rintro v w ⟨Q,q,rfl,hs⟩ a ha;refine pY ha (yLenS Tryz.runUnderlying27 rfl) fun a ha=>?_;refine pY ha (yGtr rfl rfl) fun a ha=>?_;refine pZ ?_;refine hK23 _ _ ?_;refine cDec ha rfl (fun hc51=>?_) (fun hc51=>?_)
          · refine wp_region_lit ?_;refine pY ha (yAssign rfl) fun a ha=>?_;refine pZ ?_;refine hK22 _ _ ?_;refine wp_seq_k fun K24 hK24=>?_;refine wp_label ?_;refine hK24 _ _ ?_;refine wp_seq_k fun K25 hK25=>?_;refine wp_region_lit ?_;refine pY ha (yMove rfl) fun a ha=>?_;refine pY ha (yAssign rfl) fun a ha=>?_;refine pZ ?_;refine hK25 _ _ ?_;refine wp_ret ?_;show bodyPost Tryz.prog Tryz.f11 _ .ret _ _;refine ret1 rfl ha rfl ?_
            (refine ⟨congrArg (Value.int .i64) ?_,hs.drop.drop.drop.drop.drop⟩; rw [msg_ok x hc32,if_neg (by simpa using hc37),if_neg (by simpa using hc42),if_neg (by simpa using hc47),if_pos (by omega)]; done)
          · refine wp_skip ?_;refine hK22 _ _ ?_;refine wp_seq_k fun K26 hK26=>?_;refine wp_label ?_;refine hK26 _ _ ?_;refine wp_seq_k fun K27 hK27=>?_;refine wp_region_lit ?_;refine pY ha (yMove rfl) fun a ha=>?_;refine pY ha (yAssign rfl) fun a ha=>?_;refine pZ ?_;refine hK27 _ _ ?_;refine wp_ret ?_;show bodyPost Tryz.prog Tryz.f11 _ .ret _ _;refine ret1 rfl ha rfl ?_
            (refine ⟨congrArg (Value.int .i64) ?_,hs.drop.drop.drop.drop.drop⟩; rw [msg_ok x hc32,if_neg (by simpa using hc37),if_neg (by simpa using hc42),if_neg (by simpa using hc47),if_neg (by omega)]; exact hc47)
theorem Encode_c (hT : Tabs W) {es : List Value} {x : Msg} (hm : mM x) (hb : (wMsg x).1.length≤8796093022208) (hs : Sep W w cs) (hk : Pick cs (.el kMsg x es) r) :
    Calls P 7 #[.agg es.toArray] w (Rt fun v w'=>∃ A c,v = .tuple #[.slice A (encM x).1.length c,.int .i64 (encM x).2]∧Sep W w' (.rd kU8 (.slice A (encM x).1.length c) (encM x).1::cs)):=by
  obtain ⟨A,n,c,A',n',c',B,m,d,rfl,hs⟩:=hs.el_msg hk;refine enter Tryz.func7 Tryz.ntmps7 rfl rfl fun a (ha : Has a 12 [(0,_)])=>?_;refine wp_seq_k fun K1 hK1=>?_;refine wp_region_lit ?_;refine pBox (es:=_) ha rfl rfl hs rfl fun b w hs a ha=>?_;refine pY ha (yAssign rfl) fun a ha=>?_;refine pY ha (yAssign rfl) fun a ha=>?_;refine pZ ?_;refine hK1 _ _ ?_;refine wp_seq_k fun K2 hK2=>?_;refine wp_seq_k fun K3 hK3=>?_;refine wp_region_lit ?_;refine pY ha (yLoadBA Tryz.isAgg26 Tryz.sizeOf26 hs rfl pk0 rfl) fun a ha=>?_;refine pC ha (nCall Tryz.call11 rfl) rfl (MCheck_c hT hm hb hs (.there (.there (.there (.there hk))))) ?_;rintro v w ⟨rfl,hs⟩ a ha;refine pY ha (yAssign rfl) fun a ha=>?_;refine pZ ?_;refine hK3 _ _ ?_;refine wp_seq_k fun K4 hK4=>?_;refine wp_region_lit ?_;refine pY ha (yMove rfl) fun a ha=>?_;refine pY ha (yNeq rfl rfl) fun a ha=>?_;refine pZ ?_;refine hK4 _ _ ?_;refine cNDec ha rfl (fun hc8=>?_) (fun hc8=>?_)
  · refine wp_seq_k fun K5 hK5=>?_;refine wp_region_lit ?_;refine pY ha (yMove rfl) fun a ha=>?_;refine pY ha (yAssign rfl) fun a ha=>?_;refine pY ha (yAssign rfl) fun a ha=>?_;refine pZ ?_;refine hK5 _ _ ?_;refine wp_ret ?_;show bodyPost Tryz.prog Tryz.f7 _ .ret _ _;refine ret2 rfl ha rfl rfl ?_;rw [show encM x = ([],msgE x) by unfold encM; rw [if_pos hc8]]; exact ⟨none,0,rfl,(hs.drop.drop.drop.drop).rd_nil⟩
  · refine wp_skip ?_;refine hK2 _ _ ?_;refine wp_seq_k fun K6 hK6=>?_;refine wp_region_lit ?_;refine pY ha (yLoadBA Tryz.isAgg26 Tryz.sizeOf26 hs rfl pk0 rfl) fun a ha=>?_;refine pC ha (nCall Tryz.call22 rfl) rfl (Write_c hT hb hs (.there (.there (.there (.there hk))))) ?_;rintro v w ⟨Q,q,rfl,hs⟩ a ha;refine pY ha (yAssign rfl) fun a ha=>?_;refine pY ha (yAssign rfl) fun a ha=>?_;refine pZ ?_;refine hK6 _ _ ?_;refine wp_ret ?_;show bodyPost Tryz.prog Tryz.f7 _ .ret _ _;refine ret2 rfl ha rfl rfl ?_;rw [show encM x = (bOut x,0) by unfold encM; rw [if_neg (by simpa using hc8)]]; exact ⟨Q,q,rfl,hs.drop2.drop2.drop2.drop2⟩
theorem BytesEq_c {A A' : Option Addr} {n n' c c' : Nat} {xs ys : List UInt8} (hs : Sep W w cs) (hk : Pick cs (.rd kU8 (.slice A n c) xs) r) (hk' : Pick cs (.rd kU8 (.slice A' n' c') ys) r2) :
    Calls P 30 #[.slice A n c,.slice A' n' c'] w (Rt fun v w'=>v = .bool (decide (xs = ys))∧Sep W w' cs):=by
  have hs:=(hs.cpR hk).cpR (.there hk')
  obtain ⟨rfl,_⟩:=hs.rd_shape (.there .here);obtain ⟨rfl,_⟩:=hs.rd_shape .here;refine enter Tryz.func30 Tryz.ntmps30 rfl rfl fun a (ha : Has a 10 [(0,_),(1,_)])=>?_;refine wp_seq_k fun K1 hK1=>?_;refine wp_region_lit ?_;refine pY ha (yAssign rfl) fun a ha=>?_;refine pZ ?_;refine hK1 _ _ ?_;refine wp_seq_k fun K2 hK2=>?_;refine wp_region_lit ?_;refine pY ha (yMove rfl) fun a ha=>?_;refine pY ha (yBytesStr (bs:=xs) Tryz.underlying27 Tryz.underlying5 Tryz.underlying9 hs rfl (.there .here)) fun a ha=>?_;refine pY ha (yMove rfl) fun a ha=>?_;refine pY ha (yBytesStr (bs:=ys) Tryz.underlying27 Tryz.underlying5 Tryz.underlying9 hs rfl .here) fun a ha=>?_;refine pY ha (yStrEql rfl rfl) fun a ha=>?_;refine pY ha (yAssign rfl) fun a ha=>?_;refine pZ ?_;refine hK2 _ _ ?_;refine wp_ret ?_;show bodyPost Tryz.prog Tryz.f30 _ .ret _ _;refine ret1 rfl ha rfl ?_;refine ⟨congrArg Value.bool ?_,hs.drop.drop⟩;rw [decide_eq_decide]
  constructor
  · intro h
    injection h with h
    have:=congrArg Array.toList h
    simpa using this
  · rintro rfl; rfl
end
end Go.Proofs.YtnlhbkaieoogfaaGreatDoor

set_option linter.unusedVariables false
set_option linter.unusedSimpArgs false
namespace Go.Proofs.YtnlhbkaieoogfaaGreatDoor
open Go.RowKit Go.Lib Go.Proofs.YtnlhbkaieoogfaaGreatDoorW.PrintLast
theorem bldDec26_ {w : World} {l : List (Nat × Value)} {T : TypeId} : Yl Tryz.prog w l (.build 26 #[]) T (.agg #[.int .i64 0,.int .i64 0,.int .i64 0,.int .i64 0,.int .i64 0,.slice none 0 0,.slice none 0 0,.slice none 0 0,.int .i64 0]):=fun ρ o h ho _=>by
  unfold execOp; rw [ho]
  simp [Instr.build,Instr.fill,Tryz.zeroValue26,Tryz.runUnderlying26,Tryz.sizeOf22,Tryz.sizeOf23,Tryz.sizeOf24,Tryz.sizeOf3,agg_cells]
theorem bldDec26_0_1_2_3_4_8_5 {w : World} {l : List (Nat × Value)} {T : TypeId} {x0 x1 x2 x3 x4 x8 x5 : Operand} {v0 : Value} (h0 : ev l x0 = some v0) {v1 : Value} (h1 : ev l x1 = some v1) {v2 : Value} (h2 : ev l x2 = some v2) {v3 : Value} (h3 : ev l x3 = some v3) {v4 : Value} (h4 : ev l x4 = some v4) {v5 : Value} (h5 : ev l x5 = some v5) {v8 : Value} (h8 : ev l x8 = some v8) (o0 : v0.cells = #[v0]:=by rfl) (o1 : v1.cells = #[v1]:=by rfl) (o2 : v2.cells = #[v2]:=by rfl) (o3 : v3.cells = #[v3]:=by rfl) (o4 : v4.cells = #[v4]:=by rfl) (o8 : v8.cells = #[v8]:=by rfl) (o5 : v5.cells = #[v5]:=by rfl) : Yl Tryz.prog w l (.build 26 #[(0,x0),(1,x1),(2,x2),(3,x3),(4,x4),(8,x8),(5,x5)]) T (.agg #[v0,v1,v2,v3,v4,v5,.slice none 0 0,.slice none 0 0,v8]):=fun ρ o h ho _=>by
  have hf : Instr.fill (fun i=>([(0,1),(1,1),(2,1),(3,1),(4,1),(5,1),(6,1),(7,1),(8,1)] : List (Nat × Nat))[i]?) #[.int .i64 0,.int .i64 0,.int .i64 0,.int .i64 0,.int .i64 0,.slice none 0 0,.slice none 0 0,.slice none 0 0,.int .i64 0] [(0,v0),(1,v1),(2,v2),(3,v3),(4,v4),(8,v8),(5,v5)] = some #[v0,v1,v2,v3,v4,v5,.slice none 0 0,.slice none 0 0,v8]:=by
    refine (fill_v o0 rfl (by simp)).trans ?_;refine (fill_v o1 rfl (by simp)).trans ?_;refine (fill_v o2 rfl (by simp)).trans ?_;refine (fill_v o3 rfl (by simp)).trans ?_;refine (fill_v o4 rfl (by simp)).trans ?_;refine (fill_v o8 rfl (by simp)).trans ?_;refine (fill_v o5 rfl (by simp)).trans ?_
    simp [Instr.fill]
  unfold execOp; rw [ho]
  simp [h _ _ h0,h _ _ h1,h _ _ h2,h _ _ h3,h _ _ h4,h _ _ h8,h _ _ h5,Instr.build,Tryz.zeroValue26,Tryz.runUnderlying26,Tryz.sizeOf22,Tryz.sizeOf23,Tryz.sizeOf24,Tryz.sizeOf3,agg_cells,hf]
theorem bldDec58_0_1_2_3 {w : World} {l : List (Nat × Value)} {T : TypeId} {x0 x1 x2 x3 : Operand} {v0 : Value} (h0 : ev l x0 = some v0) {v1 : Value} (h1 : ev l x1 = some v1) {v2 : Value} (h2 : ev l x2 = some v2) {v3 : Value} (h3 : ev l x3 = some v3) (o0 : v0.cells = #[v0]:=by rfl) (o1 : v1.cells = #[v1]:=by rfl) (o2 : v2.cells = #[v2]:=by rfl) (o3 : v3.cells = #[v3]:=by rfl) : Yl Tryz.prog w l (.build 58 #[(0,x0),(1,x1),(2,x2),(3,x3)]) T (.agg #[v0,v1,v2,v3]):=fun ρ o h ho _=>by
  have hf : Instr.fill (fun i=>([(0,1),(1,1),(2,1),(3,1)] : List (Nat × Nat))[i]?) #[.int .i64 0,.int .i64 0,.int .i64 0,.slice none 0 0] [(0,v0),(1,v1),(2,v2),(3,v3)] = some #[v0,v1,v2,v3]:=by
    refine (fill_v o0 rfl (by simp)).trans ?_;refine (fill_v o1 rfl (by simp)).trans ?_;refine (fill_v o2 rfl (by simp)).trans ?_;refine (fill_v o3 rfl (by simp)).trans ?_
    simp [Instr.fill]
  unfold execOp; rw [ho]
  simp [h _ _ h0,h _ _ h1,h _ _ h2,h _ _ h3,Instr.build,Tryz.zeroValue58,Tryz.runUnderlying58,Tryz.sizeOf22,Tryz.sizeOf3,agg_cells,hf]
theorem bslDec23_1_0 {w : World} {l : List (Nat × Value)} {T : TypeId} {x0 : Operand} {c0 : List Value} (h0 : ev l x0 = some (.agg c0.toArray)) (n0 : c0.length = 4:=by rfl) : Mk Tryz.prog w l (.buildSlice 23 1 #[(0,x0)]) T 58 1 c0:=fun ρ o h ho _=>by
  unfold execOp; rw [ho];exact mk1 (P:=Tryz.prog) w Tryz.runUnderlying23 Tryz.sizeOf58 Tryz.zeroValue58 (by decide) (by decide) n0 (h _ _ h0)
theorem elDec23 : ElemT Tryz.prog 23 58 4 48:=elemT_mk Tryz.underlying23 rfl (by kernel_rfl)
theorem rList_all {α : Type} {f : St→α × St} {p : α→Prop} (h : ∀ st,p (f st).1) : ∀ (k : Nat) (st : St),∀ x ∈ (rList f k st).1,p x
  | 0,st,x,hx=>by simp [rList] at hx
  | k + 1,st,x,hx=>by
    simp only [rList,List.mem_cons] at hx
    rcases hx with rfl | hx
    · exact h st
    · exact rList_all h k _ x hx
theorem rAll_all {α : Type} {f : St→α × St} {p : α→Prop} {most : Nat} (h : ∀ st,p (f st).1) (st : St) : (rAll f most st).1.length≤most∧∀ x ∈ (rAll f most st).1,p x:=by
  have hv:=rMany_val (most : Int) (by omega) st
  unfold rAll;simp only
  split
  · exact ⟨Nat.zero_le _,fun x hx=>by cases hx⟩
  · exact ⟨by rw [rList_len]; omega,rList_all h _ _⟩
def bC (c : Comp) : Prop:=c.text.size≤8000∧c.n≤1099511627776
def bA (a : Actn) : Prop:=a.name.size≤100∧a.ops.length≤100∧∀ c ∈ a.ops,bC c
def bNd (x : Nod) : Prop:=x.name.size≤100∧x.text.size≤8000
theorem rComp_b (st : St) : bC (rComp st).1:=⟨rText_len (most:=8000) (by decide) _,(rNum_val _).2⟩
theorem rActn_b (st : St) : bA (rActn st).1:=by
  have:=rAll_all (most:=100) rComp_b (rFlag (rText 100 (rNum (rNum (rNum st).2).2).2).2).2
  exact ⟨rText_len (most:=100) (by decide) _,this.1,this.2⟩
theorem rNod_b (st : St) : bNd (rNod st).1:=⟨rText_len (most:=100) (by decide) _,rText_len (most:=8000) (by decide) _⟩
def n40 (n : Int) : Prop:=0≤n∧n≤1099511627776
def bAs (l : List Actn) : Prop:=l.length≤20∧∀ a ∈ l,bA a
theorem rActns_b (st : St) : bAs (rActns st).1:=rAll_all (most:=20) rActn_b st
def bCm (c : Cmt) : Prop:=n40 c.rev∧n40 c.client∧n40 c.seq∧bAs c.acts
theorem rCmt_b (st : St) : bCm (rCmt st).1:=⟨rNum_val _,rNum_val _,rNum_val _,rActns_b _⟩
theorem rCmts_b (st : St) : (rCmts st).1.length≤20∧∀ c ∈ (rCmts st).1,bCm c:=by
  have hv:=rMany_val 20 (by decide) st
  unfold rCmts;simp only;exact ⟨by rw [rList_len]; omega,rList_all rCmt_b _ _⟩
theorem rNods_b (st : St) : (rNods st).1.length≤100∧∀ x ∈ (rNods st).1,bNd x:=rAll_all (most:=100) rNod_b st
def bM (m : Msg) : Prop:=(n40 m.client∧n40 m.seq∧n40 m.rev∧n40 m.last∧n40 m.code)∧bAs m.acts∧(m.commits.length≤20∧∀ c ∈ m.commits,bCm c)∧(m.nodes.length≤100∧∀ x ∈ m.nodes,bNd x)
theorem rMsg_b (st : St) : bM (rMsg st).1:=⟨⟨rNum_val _,rNum_val _,rNum_val _,rNum_val _,rNum_val _⟩,rActns_b _,rCmts_b _,rNods_b _⟩
theorem bC_m {c : Comp} (h : bC c) : mC c:=⟨by have:=h.2; omega,by have:=h.1; omega⟩
theorem bA_m {a : Actn} (h : bA a) : mA a:=⟨by have:=h.1; omega,by have:=h.2.1; omega,fun c hc=>bC_m (h.2.2 c hc)⟩
theorem n40_64 {n : Int} (h : n40 n) : i64 n:=⟨by have:=h.1; omega,by have:=h.2; omega⟩
theorem bM_m {m : Msg} (h : bM m) : mM m:=by
  obtain ⟨⟨h1,h2,h3,h4,h5⟩,ha,hc,hn⟩:=h;refine ⟨⟨n40_64 h1,n40_64 h2,n40_64 h3,n40_64 h4,n40_64 h5⟩,fun a q=>bA_m (ha.2 a q),fun c q=>?_,fun x q=>?_,?_⟩
  · obtain ⟨k1,k2,k3,k4⟩:=hc.2 c q;exact ⟨n40_64 k1,n40_64 k2,n40_64 k3,fun a z=>bA_m (k4.2 a z)⟩
  · obtain ⟨k1,k2⟩:=hn.2 x q;exact ⟨by omega,by omega⟩
  · refine ⟨by have:=ha.1; omega,fun a q=>by have:=(ha.2 a q).2.1; omega,by have:=hc.1; omega,fun c q=>by have:=(hc.2 c q).2.2.2.1; omega,fun c q a z=>by have:=((hc.2 c q).2.2.2.2 a z).2.1; omega,by have:=hn.1; omega⟩
theorem sum_le {α : Type} {f : α→Nat} {B : Nat} : ∀ (l : List α),(∀ x ∈ l,f x≤B)→(l.map f).sum≤l.length * B
  | [],_=>by simp
  | x::r,h=>by
    have h1:=sum_le r (fun y hy=>h y (by simp [hy]))
    have h2:=h x (by simp)
    simp only [List.map_cons,List.sum_cons,List.length_cons,Nat.add_mul,Nat.one_mul]
    omega
def tCmts (l : List Cmt) : Nat:=(l.map fun x=>tActns x.acts + 3).sum
theorem wCmt_len (st : Wt) (x : Cmt) : (wCmt st x).1.length≤st.1.length + 12 * (tActns x.acts + 3):=by
  have h1:=wNum_len st x.rev; have h2:=wNum_len (wNum st x.rev) x.client; have h3:=wNum_len (wNum (wNum st x.rev) x.client) x.seq; have h4:=wActns_len (wNum (wNum (wNum st x.rev) x.client) x.seq) x.acts
  unfold wCmt; omega
theorem wCmts_len (st : Wt) (l : List Cmt) : (wCmts st l).1.length≤st.1.length + 6 + 12 * tCmts l:=by
  have h1:=wNum_len st l.length; have h2:=fold_len (g:=fun x : Cmt=>tActns x.acts + 3) wCmt_len l (wNum st l.length)
  unfold wCmts tCmts; omega
theorem wMsg_len (m : Msg) : (wMsg m).1.length≤54 + 12 * (tActns m.acts + tCmts m.commits + tNods m.nodes):=by
  have h1:=wNum_len ([],false) m.kind; have h2:=wNum_len (wNum ([],false) m.kind) m.client; have h3:=wNum_len (wNum (wNum ([],false) m.kind) m.client) m.seq
  have h4:=wNum_len (wNum (wNum (wNum ([],false) m.kind) m.client) m.seq) m.rev; have h5:=wNum_len (wNum (wNum (wNum (wNum ([],false) m.kind) m.client) m.seq) m.rev) m.code
  have h6:=wNum_len (wNum (wNum (wNum (wNum (wNum ([],false) m.kind) m.client) m.seq) m.rev) m.code) m.last
  have h7:=wActns_len (wNum (wNum (wNum (wNum (wNum (wNum ([],false) m.kind) m.client) m.seq) m.rev) m.code) m.last) m.acts
  have h8:=wCmts_len (wHead ([],false) m) m.commits
  have h9:=wNods_len (wCmts (wHead ([],false) m) m.commits) m.nodes
  unfold wMsg;unfold wHead at h8 h9 ⊢;simp only [List.length_nil] at h1
  omega
theorem tA_b {a : Actn} (h : bA a) : a.name.size + tComps a.ops + 3≤800303:=by
  have h1:=sum_le (B:=8002) (f:=fun x : Comp=>x.text.size + 2) a.ops (fun c hc=>by have:=(h.2.2 c hc).1; omega)
  have h2 : a.ops.length * 8002≤100 * 8002:=Nat.mul_le_mul_right _ h.2.1
  have:=h.1
  unfold tComps; omega
theorem tAs_b {l : List Actn} (h : bAs l) : tActns l≤16006060:=by
  have h1:=sum_le (B:=800303) (f:=fun x : Actn=>x.name.size + tComps x.ops + 3) l (fun a ha=>tA_b (h.2 a ha))
  have h2 : l.length * 800303≤20 * 800303:=Nat.mul_le_mul_right _ h.1
  unfold tActns; omega
theorem bM_len {m : Msg} (h : bM m) : (wMsg m).1.length≤8796093022208:=by
  obtain ⟨_,ha,hc,hn⟩:=h
  have h0:=wMsg_len m
  have h1:=tAs_b ha
  have h2:=sum_le (B:=16006063) (f:=fun x : Cmt=>tActns x.acts + 3) m.commits (fun c q=>by have:=tAs_b (hc.2 c q).2.2.2; omega)
  have h3 : m.commits.length * 16006063≤20 * 16006063:=Nat.mul_le_mul_right _ hc.1
  have h4:=sum_le (B:=8103) (f:=fun x : Nod=>x.name.size + x.text.size + 3) m.nodes (fun x q=>by have:=(hn.2 x q).1; have:=(hn.2 x q).2; omega)
  have h5 : m.nodes.length * 8103≤100 * 8103:=Nat.mul_le_mul_right _ hn.1
  unfold tCmts tNods at h0
  omega
theorem dec_no {bs : List UInt8} {M : Msg} {s : St} (hl : bs.length≤65536) (hR : rMsg (bs,0) = (M,s)) (h : s.2 ≠ 0∨(encM M).2 ≠ 0∨(encM M).1 ≠ bs) : decM bs = (noM,2):=by
  unfold decM;rw [if_neg (by omega)];simp only [hR];rw [if_pos];unfold encM at h
  by_cases hm : msgE M = 0
  · rw [if_neg (by simpa using hm)] at h
    rcases h with h | h | h
    · exact .inl h
    · exact absurd rfl h
    · exact .inr (.inr h)
  · exact .inr (.inl hm)
theorem dec_yes {bs : List UInt8} {M : Msg} {s : St} (hl : bs.length≤65536) (hR : rMsg (bs,0) = (M,s)) (h1 : s.2 = 0) (h2 : (encM M).2 = 0) (h3 : (encM M).1 = bs) : decM bs = (M,0):=by
  unfold decM;rw [if_neg (by omega)];simp only [hR];unfold encM at h2 h3
  by_cases hm : msgE M = 0
  · rw [if_neg (by simpa using hm)] at h3;rw [if_neg];rintro (h | h | h)
    · exact h h1
    · exact h hm
    · exact h h3
  · rw [if_pos hm] at h2; exact absurd h2 hm
section
variable {W w : World} {cs r r2 : List Ch}
theorem Decode_c (hT : Tabs W) {A0 : Option Addr} {n0 c0 : Nat} {bs : List UInt8} (hs : Sep W w cs) (hk : Pick cs (.rd kU8 (.slice A0 n0 c0) bs) r) :
    Calls P 9 #[.slice A0 n0 c0] w (Rt fun v w'=>∃ es,v = .tuple #[.agg es.toArray,.int .i64 (decM bs).2]∧Sep W w' (.el kMsg (decM bs).1 es::cs)):=by
  obtain ⟨rfl,hl⟩:=hs.rd_shape hk;unfold maxLen at hl;have hs:=hs.cpR hk;refine enter Tryz.func9 Tryz.ntmps9 rfl rfl fun a (ha : Has a 71 [(0,_)])=>?_;refine wp_seq_k fun K1 hK1=>?_;refine wp_region_lit ?_;refine pAlloc (zs:=[.int .i64 0,.int .i64 0,.int .i64 0,.int .i64 0,.int .i64 0,.slice none 0 0,.slice none 0 0,.slice none 0 0,.int .i64 0]) ha Tryz.zeroValue26 rfl hs rfl fun b2 w hs a ha=>?_;refine pY ha (yAssign rfl) fun a ha=>?_;refine pZ ?_;refine hK1 _ _ ?_;refine wp_seq_k fun K2 hK2=>?_;refine wp_seq_k fun K3 hK3=>?_;refine wp_region_lit ?_;refine pY ha (yMove rfl) fun a ha=>?_;refine pY ha (yLenS Tryz.runUnderlying27 rfl) fun a ha=>?_;refine pY ha (yGtr rfl rfl) fun a ha=>?_;refine pZ ?_;refine hK3 _ _ ?_;refine cDec ha rfl (fun hc10=>?_) (fun hc10=>?_)
  · refine wp_seq_k fun K4 hK4=>?_;refine wp_region_lit ?_;refine pY ha (bldDec26_ ) fun a ha=>?_;refine pStoreA ha Tryz.sizeOf26 hs rfl rfl pk0 rfl rfl rfl fun w hs=>?_;refine pY ha (yAssign rfl) fun a ha=>?_;refine pZ ?_;refine hK4 _ _ ?_;refine wp_ret ?_;show bodyPost Tryz.prog Tryz.f9 _ .ret _ _;refine retC1 rfl ha rfl rfl Tryz.isAgg26 Tryz.sizeOf26 hs pk0 rfl ?_;rw [show decM bs = (noM,3) by unfold decM; rw [if_pos (by omega)]]; exact ⟨_,rfl,(((hs.drop.drop.rd_nil (d:=kNod)).rd_nil (d:=kCmt)).rd_nil (d:=kActn)).mk_msg (x:=noM) .here .here .here⟩
  · have hlen : bs.length≤65536:=by omega
    refine wp_skip ?_;refine hK2 _ _ ?_;refine wp_seq_k fun K5 hK5=>?_;refine wp_region_lit ?_;refine pY ha (yMove rfl) fun a ha=>?_;refine pC ha (nCall Tryz.call24 rfl) rfl (NewReader_c hs (.there .here) (by omega)) ?_;rintro v w ⟨q,rfl,hs⟩ a ha;refine pY ha (yAssign rfl) fun a ha=>?_;refine pZ ?_;refine hK5 _ _ ?_;refine wp_seq_k fun K6 hK6=>?_;refine wp_region_lit ?_;refine pY ha (yMove rfl) fun a ha=>?_;refine pC ha (nCall Tryz.call25 rfl) rfl (RdNum_c hs pk0) ?_;rintro v w ⟨rfl,hs⟩ a ha;refine pY ha (yMove rfl) fun a ha=>?_;refine pC ha (nCall Tryz.call25 rfl) rfl (RdNum_c hs pk0) ?_;rintro v w ⟨rfl,hs⟩ a ha;refine pY ha (yMove rfl) fun a ha=>?_;refine pC ha (nCall Tryz.call25 rfl) rfl (RdNum_c hs pk0) ?_;rintro v w ⟨rfl,hs⟩ a ha;refine pY ha (yMove rfl) fun a ha=>?_;refine pC ha (nCall Tryz.call25 rfl) rfl (RdNum_c hs pk0) ?_;rintro v w ⟨rfl,hs⟩ a ha;refine pY ha (yMove rfl) fun a ha=>?_;refine pC ha (nCall Tryz.call25 rfl) rfl (RdNum_c hs pk0) ?_;rintro v w ⟨rfl,hs⟩ a ha;refine pY ha (yMove rfl) fun a ha=>?_;refine pC ha (nCall Tryz.call25 rfl) rfl (RdNum_c hs pk0) ?_;rintro v w ⟨rfl,hs⟩ a ha;refine pY ha (yMove rfl) fun a ha=>?_;refine pC ha (nCall Tryz.call26 rfl) rfl (RdActns_c hT hs pk0) ?_;rintro v w ⟨A1,c1,rfl,hs⟩ a ha;have hs:=hs.ol_rd .here;obtain ⟨s7,hs7⟩ : ∃ s7,(rActns (rNum (rNum (rNum (rNum (rNum (rNum (bs,0)).2).2).2).2).2).2).2 = s7:=⟨_,rfl⟩;rw [hs7] at hs
    have hM:=rMany_val 20 (by decide) s7
    refine pY ha (bldDec26_0_1_2_3_4_8_5 rfl rfl rfl rfl rfl rfl rfl) fun a ha=>?_;refine pAlloc (zs:=[.int .i64 0,.int .i64 0,.int .i64 0,.int .i64 0,.int .i64 0,.slice none 0 0,.slice none 0 0,.slice none 0 0,.int .i64 0]) ha Tryz.zeroValue26 rfl hs rfl fun b5 w hs a ha=>?_;refine pStoreA ha Tryz.sizeOf26 hs rfl rfl pk0 rfl rfl rfl fun w hs=>?_;refine pZ ?_;refine hK6 _ _ ?_;refine wp_seq_k fun K7 hK7=>?_;refine wp_seq_k fun K8 hK8=>?_;refine wp_region_lit ?_;refine pY ha (yMove rfl) fun a ha=>?_;refine pC ha (nCall Tryz.call27 rfl) rfl (Many_c 20 hs pk2) ?_;rintro v w ⟨rfl,hs⟩ a ha;obtain ⟨mm,hmm⟩:=Int.eq_ofNat_of_zero_le hM.1;obtain ⟨s8,hs8⟩ : ∃ s8,(rMany 20 s7).2 = s8:=⟨_,rfl⟩;rw [hmm] at ha;rw [hs8] at hs
    have hmm20 : mm≤20:=by have:=hM.2; omega
    have hC : rCmts s7 = rList rCmt mm s8:=by unfold rCmts; simp only [hmm,hs8,Int.toNat_natCast]
    refine pY ha (yMove rfl) fun a ha=>?_;refine pZ ?_;refine hK8 _ _ ?_;refine wp_block ?_;refine loopI (ι:=Nat × Option Addr × Nat) (fun i a w=>i.1≤mm∧Has a 71 [(0,.slice A0 bs.length c0),(2,.pointer (some ⟨b2,0,none⟩)),(4,.pointer (some ⟨q,0,none⟩)),(5,.pointer (some ⟨b5,0,none⟩)),(30,.int .i64 mm),(31,.int .i64 i.1)]∧Sep W w (.ol kCmt 58 (.slice i.2.1 (rList rCmt i.1 s8).1.length i.2.2) (rList rCmt i.1 s8).1::.rdr q 109 (rList rCmt i.1 s8).2::.blk b5 26 [.int .i64 (rNum (bs,0)).1,.int .i64 (rNum (rNum (bs,0)).2).1,.int .i64 (rNum (rNum (rNum (bs,0)).2).2).1,.int .i64 (rNum (rNum (rNum (rNum (bs,0)).2).2).2).1,.int .i64 (rNum (rNum (rNum (rNum (rNum (bs,0)).2).2).2).2).1,.slice A1 (rActns (rNum (rNum (rNum (rNum (rNum (rNum (bs,0)).2).2).2).2).2).2).1.length c1,.slice i.2.1 (rList rCmt i.1 s8).1.length i.2.2,.slice none 0 0,.int .i64 (rNum (rNum (rNum (rNum (rNum (rNum (bs,0)).2).2).2).2).2).1]::.rd kActn (.slice A1 (rActns (rNum (rNum (rNum (rNum (rNum (rNum (bs,0)).2).2).2).2).2).2).1.length c1) (rActns (rNum (rNum (rNum (rNum (rNum (rNum (bs,0)).2).2).2).2).2).2).1::.blk b2 26 [.int .i64 0,.int .i64 0,.int .i64 0,.int .i64 0,.int .i64 0,.slice none 0 0,.slice none 0 0,.slice none 0 0,.int .i64 0]::.rd kU8 (.slice A0 bs.length c0) bs::cs)) (fun i=>mm - i.1) ((0,none,0)) ?_ ?_
    · exact ⟨Nat.zero_le _,has6 ha rfl rfl rfl rfl rfl rfl,hs.ol_nil kCmt 58 none⟩
    · rintro i a w ⟨h1,ha,hs⟩;obtain ⟨i,A,c⟩:=i; simp only at h1 ha hs;refine wp_seq_k fun K9 hK9=>?_;refine wp_region_lit ?_;refine pY ha (yLss rfl rfl) fun a ha=>?_;refine pZ ?_;refine hK9 _ _ ?_;refine wp_seq_k fun K10 hK10=>?_;refine cDec ha rfl (fun hc32=>?_) (fun hc32=>?_)
      · have hll:=rList_len rCmt i s8
        have hln:=rList_snoc rCmt i s8
        generalize hl : rList rCmt i s8 = z at ha hs hll hln;obtain ⟨xs,s2⟩:=z;simp only at ha hs hll hln;refine wp_skip ?_;refine hK10 _ _ ?_;refine wp_seq_k fun K11 hK11=>?_;refine wp_block ?_;refine dStart (fun w=>∃ rs,Sep W w (.blk b5 26 [.int .i64 (rNum (bs,0)).1,.int .i64 (rNum (rNum (bs,0)).2).1,.int .i64 (rNum (rNum (rNum (bs,0)).2).2).1,.int .i64 (rNum (rNum (rNum (rNum (bs,0)).2).2).2).1,.int .i64 (rNum (rNum (rNum (rNum (rNum (bs,0)).2).2).2).2).1,.slice A1 (rActns (rNum (rNum (rNum (rNum (rNum (rNum (bs,0)).2).2).2).2).2).2).1.length c1,.slice A xs.length c,.slice none 0 0,.int .i64 (rNum (rNum (rNum (rNum (rNum (rNum (bs,0)).2).2).2).2).2).1]::rs)) [12,14] 32767 4095 (by kernel_rfl) (by kernel_rfl) rfl (⟨_,hs.drew.pick pk2⟩) ?_
        have hs:=Sep.drew hs
        generalize World.drew _ = w at hs ⊢;refine dP 0 1 rfl ha (fun _=>yFieldA Tryz.runUnderlying26 rfl Tryz.sizeOf23 rfl rfl) fun a ha=>?_;refine dT 1 3 rfl ha (fun _ ⟨rs,hs⟩=>yLoadB Tryz.isAgg23 hs rfl pk0 rfl) (⟨_,hs.pick pk2⟩) fun a ha=>?_;refine dP 2 7 rfl ha (fun _=>yMove rfl) fun a ha=>?_;refine dP 4 23 rfl ha (fun _=>yMove rfl) fun a ha=>?_;refine dP 6 87 rfl ha (fun _=>yMove rfl) fun a ha=>?_;refine dP 8 343 rfl ha (fun _=>yMove rfl) fun a ha=>?_;refine dC 3 351 rfl (by kernel_rfl) rfl ha won0 (nCall Tryz.call25 rfl) rfl (RdNum_c hs pk1) ?_;rintro v w ⟨rfl,hs⟩;refine ⟨⟨_,hs.pick pk2⟩,fun a ha=>?_⟩;refine dC 5 383 rfl (by kernel_rfl) rfl ha won0 (nCall Tryz.call25 rfl) rfl (RdNum_c hs pk0) ?_;rintro v w ⟨rfl,hs⟩;refine ⟨⟨_,hs.pick pk2⟩,fun a ha=>?_⟩;refine dC 7 511 rfl (by kernel_rfl) rfl ha won0 (nCall Tryz.call25 rfl) rfl (RdNum_c hs pk0) ?_;rintro v w ⟨rfl,hs⟩;refine ⟨⟨_,hs.pick pk2⟩,fun a ha=>?_⟩;refine dC 9 1023 rfl (by kernel_rfl) rfl ha won0 (nCall Tryz.call26 rfl) rfl (RdActns_c hT hs pk0) ?_;rintro v w ⟨A',c',rfl,hs⟩;refine ⟨⟨_,hs.pick pk3⟩,fun a ha=>?_⟩;have hs:=hs.ol_rd .here;refine dP 10 2047 rfl ha (fun _=>bldDec58_0_1_2_3 rfl rfl rfl rfl) fun a ha=>?_;refine dMake 11 4095 rfl (by kernel_rfl) rfl ha won0 (bslDec23_1_0 rfl) hs rfl (fun _ _ hs=>⟨_,hs.pick pk4⟩) fun b w hs a ha=>?_;have hs:=hs.with_ro (p:=fun Z=>kActn.sl Z (.slice A' (rCmt s2).1.acts.length c') (rCmt s2).1.acts) pk1 (q:=fun Z=>kCmt.R Z (rCmt s2).1 [.int .i64 (rCmt s2).1.rev,.int .i64 (rCmt s2).1.client,.int .i64 (rCmt s2).1.seq,.slice A' (rCmt s2).1.acts.length c']) (m':=fun _ _ h=>kCmt.mono h) (fun Z hp=>⟨A',_,c',rfl,hp⟩);refine dApp1l 12 8191 rfl (by kernel_rfl) rfl ha won0 elDec23 rfl rfl hs pk4 pk1 pk0 rfl (by (unfold maxLen; omega)) (by omega) rfl fun A c w hs a ha=>?_;refine dP 13 16383 rfl ha (fun _=>yFieldA Tryz.runUnderlying26 rfl Tryz.sizeOf23 rfl rfl) fun a ha=>?_;refine dStorel 14 32767 rfl (by kernel_rfl) rfl ha won0 Tryz.sizeOf23 hs rfl rfl rfl rfl pk3 rfl fun w hs=>?_;refine dZ (by kernel_rfl) ?_;refine hK11 _ _ ?_;refine wp_region_lit ?_;refine pY ha (yAddN rfl rfl ⟨by omega,by omega⟩) fun a ha=>?_;refine pY ha (yMove rfl) fun a ha=>?_;refine pZ ?_
        have e1 : (rList rCmt (i + 1) s8).1 = xs++[(rCmt s2).1]:=by rw [hln]
        have e2 : (rList rCmt (i + 1) s8).2 = (rCmt s2).2:=by rw [hln]
        refine ⟨(i + 1,A,c),⟨by simp only; omega,?_,?_⟩,by simp only; omega⟩
        · exact has6 ha rfl rfl rfl rfl rfl rfl
        · simp only [e1,e2,List.length_append,List.length_cons,List.length_nil]; exact (((hs.pick (.there (.there .here))).drop.pick (.there (.there .here))).pick (.there (.there .here)))
      · refine wp_exit ?_;refine hK7 _ _ ?_;refine wp_seq_k fun K12 hK12=>?_;obtain rfl : i = mm:=by omega
        have hCl : (rList rCmt i s8).1.length≤20:=by rw [rList_len]; exact hmm20
        obtain ⟨cms,hcms⟩ : ∃ cms,(rList rCmt i s8).1 = cms:=⟨_,rfl⟩;obtain ⟨s9,hs9⟩ : ∃ s9,(rList rCmt i s8).2 = s9:=⟨_,rfl⟩;rw [hcms,hs9] at hs;rw [hcms] at hCl;have hs:=hs.ol_rd .here;refine wp_region_lit ?_;refine pY ha (yMove rfl) fun a ha=>?_;refine pC ha (nCall Tryz.call28 rfl) rfl (RdNods_c hT hs pk1) ?_;rintro v w ⟨A3,c3,rfl,hs⟩ a ha;have hs:=hs.ol_rd .here;obtain ⟨nds,hnds⟩ : ∃ nds,(rNods s9).1 = nds:=⟨_,rfl⟩;obtain ⟨s10,hs10⟩ : ∃ s10,(rNods s9).2 = s10:=⟨_,rfl⟩;rw [hnds,hs10] at hs;rw [hnds] at ha
        have hR : rMsg (bs,0) = (⟨(rNum (bs,0)).1,(rNum (rNum (bs,0)).2).1,(rNum (rNum (rNum (bs,0)).2).2).1,(rNum (rNum (rNum (rNum (bs,0)).2).2).2).1,(rNum (rNum (rNum (rNum (rNum (bs,0)).2).2).2).2).1,(rActns (rNum (rNum (rNum (rNum (rNum (rNum (bs,0)).2).2).2).2).2).2).1,cms,nds,(rNum (rNum (rNum (rNum (rNum (rNum (bs,0)).2).2).2).2).2).1⟩,s10):=by
          unfold rMsg;simp only [hs7,hC,hcms,hs9,hnds,hs10]
        have hbM : bM ⟨(rNum (bs,0)).1,(rNum (rNum (bs,0)).2).1,(rNum (rNum (rNum (bs,0)).2).2).1,(rNum (rNum (rNum (rNum (bs,0)).2).2).2).1,(rNum (rNum (rNum (rNum (rNum (bs,0)).2).2).2).2).1,(rActns (rNum (rNum (rNum (rNum (rNum (rNum (bs,0)).2).2).2).2).2).2).1,cms,nds,(rNum (rNum (rNum (rNum (rNum (rNum (bs,0)).2).2).2).2).2).1⟩:=by have:=rMsg_b (bs,0); rw [hR] at this; exact this
        refine pY ha (yFieldA Tryz.runUnderlying26 rfl Tryz.sizeOf24 rfl rfl) fun a ha=>?_;refine pStore ha Tryz.sizeOf24 hs rfl rfl rfl rfl pk3 rfl fun w hs=>?_;refine pZ ?_;refine hK12 _ _ ?_;refine wp_seq_k fun K13 hK13=>?_;have hs:=hs.mk_msg (x:=⟨(rNum (bs,0)).1,(rNum (rNum (bs,0)).2).1,(rNum (rNum (rNum (bs,0)).2).2).1,(rNum (rNum (rNum (rNum (bs,0)).2).2).2).1,(rNum (rNum (rNum (rNum (rNum (bs,0)).2).2).2).2).1,(rActns (rNum (rNum (rNum (rNum (rNum (rNum (bs,0)).2).2).2).2).2).2).1,cms,nds,(rNum (rNum (rNum (rNum (rNum (rNum (bs,0)).2).2).2).2).2).1⟩) pk4 pk3 pk1;refine wp_region_lit ?_;refine pY ha (yLoadBA Tryz.isAgg26 Tryz.sizeOf26 hs rfl pk1 rfl) fun a ha=>?_;refine pC ha (nCall Tryz.call7 rfl) rfl (Encode_c hT (x:=⟨(rNum (bs,0)).1,(rNum (rNum (bs,0)).2).1,(rNum (rNum (rNum (bs,0)).2).2).1,(rNum (rNum (rNum (rNum (bs,0)).2).2).2).1,(rNum (rNum (rNum (rNum (rNum (bs,0)).2).2).2).2).1,(rActns (rNum (rNum (rNum (rNum (rNum (rNum (bs,0)).2).2).2).2).2).2).1,cms,nds,(rNum (rNum (rNum (rNum (rNum (rNum (bs,0)).2).2).2).2).2).1⟩) (bM_m hbM) (bM_len hbM) hs pk0) ?_;rintro v w ⟨A4,c4,rfl,hs⟩ a ha;refine pY ha (yMove rfl) fun a ha=>?_;refine pY ha (yExtract rfl rfl) fun a ha=>?_;refine pY ha (yExtract rfl rfl) fun a ha=>?_;refine pY ha (yAssign rfl) fun a ha=>?_;refine pY ha (yAssign rfl) fun a ha=>?_;refine pZ ?_;refine hK13 _ _ ?_;refine wp_seq_k fun K14 hK14=>?_;refine wp_seq_k fun K15 hK15=>?_;refine wp_region_lit ?_;refine pY ha (yMove rfl) fun a ha=>?_;refine pC ha (nCall Tryz.call29 rfl) rfl (ErrK_c hs pk3) ?_;rintro v w ⟨rfl,hs⟩ a ha;refine pY ha (yNeq rfl rfl) fun a ha=>?_;refine pY ha (yMove rfl) fun a ha=>?_;refine gSplit (t:=59) ha rfl (fun hg3=>?_) (fun hg3=>?_)
        · rw [hg3] at ha
          have hp3 : s10.2 = 0:=by simpa using hg3
          refine gOn ha ?_;refine pY ha (yMove rfl) fun a ha=>?_;refine gOn ha ?_;refine pY ha (yNeq rfl rfl) fun a ha=>?_;refine pY ha (yPickF rfl rfl) fun a ha=>?_;refine pY ha (yMove rfl) fun a ha=>?_;refine gSplit (t:=63) ha rfl (fun hg7=>?_) (fun hg7=>?_)
          · rw [hg7] at ha
            have hp7:=hg7; simp only [Bool.not_eq_false',decide_eq_true_eq] at hp7
            refine gOn ha ?_;refine pY ha (yMove rfl) fun a ha=>?_;refine gOn ha ?_;refine pY ha (yMove rfl) fun a ha=>?_;refine gOn ha ?_;refine pC ha (nCall Tryz.call30 rfl) rfl (BytesEq_c hs pk1 pk5) ?_;rintro v w ⟨rfl,hs⟩ a ha;refine gOn ha ?_;refine pY ha (yNot rfl) fun a ha=>?_;refine pY ha (yPickF rfl rfl) fun a ha=>?_;refine pZ ?_;refine hK15 _ _ ?_;refine cNDec ha rfl (fun hc68=>?_) (fun hc68=>?_)
            · refine wp_seq_k fun K16 hK16=>?_;refine wp_region_lit ?_;refine pY ha (bldDec26_ ) fun a ha=>?_;refine pStoreA ha Tryz.sizeOf26 hs rfl rfl pk4 rfl rfl rfl fun w hs=>?_;refine pY ha (yAssign rfl) fun a ha=>?_;refine pZ ?_;refine hK16 _ _ ?_;refine wp_ret ?_;show bodyPost Tryz.prog Tryz.f9 _ .ret _ _;refine retC1 rfl ha rfl rfl Tryz.isAgg26 Tryz.sizeOf26 hs pk0 rfl ?_
              (rw [dec_no hlen hR (by exact .inr (.inr hc68))]; exact ⟨_,rfl,(((hs.drop.drop.drop.drop.drop.drop.rd_nil (d:=kNod)).rd_nil (d:=kCmt)).rd_nil (d:=kActn)).mk_msg (x:=noM) .here .here .here⟩)
            · refine wp_skip ?_;refine hK14 _ _ ?_;refine wp_seq_k fun K17 hK17=>?_;refine wp_region_lit ?_;refine pY ha (yLoadBA Tryz.isAgg26 Tryz.sizeOf26 hs rfl pk3 rfl) fun a ha=>?_;refine pStoreA ha Tryz.sizeOf26 hs rfl rfl pk4 rfl rfl rfl fun w hs=>?_;refine pY ha (yAssign rfl) fun a ha=>?_;refine pZ ?_;refine hK17 _ _ ?_;refine wp_ret ?_;show bodyPost Tryz.prog Tryz.f9 _ .ret _ _;refine retC1 rfl ha rfl rfl Tryz.isAgg26 Tryz.sizeOf26 hs pk0 rfl ?_
              (rw [dec_yes hlen hR hp3 hp7 hc68]; exact ⟨_,rfl,(hs.pick (.there (.there (.there .here)))).drop2.drop2.drop2.drop2.drop2⟩)
          · rw [hg7] at ha
            have hp7:=hg7; simp only [Bool.not_eq_true',decide_eq_false_iff_not] at hp7
            refine gOff ha fun a ha=>?_;refine gOff ha fun a ha=>?_;refine gOff ha fun a ha=>?_;refine gOff ha fun a ha=>?_;refine pY ha (yPickT rfl rfl) fun a ha=>?_;refine pZ ?_;refine hK15 _ _ ?_;refine cTrue ha rfl ?_;refine wp_seq_k fun K18 hK18=>?_;refine wp_region_lit ?_;refine pY ha (bldDec26_ ) fun a ha=>?_;refine pStoreA ha Tryz.sizeOf26 hs rfl rfl pk4 rfl rfl rfl fun w hs=>?_;refine pY ha (yAssign rfl) fun a ha=>?_;refine pZ ?_;refine hK18 _ _ ?_;refine wp_ret ?_;show bodyPost Tryz.prog Tryz.f9 _ .ret _ _;refine retC1 rfl ha rfl rfl Tryz.isAgg26 Tryz.sizeOf26 hs pk0 rfl ?_
            (rw [dec_no hlen hR (by exact .inr (.inl hp7))]; exact ⟨_,rfl,(((hs.drop.drop.drop.drop.drop.drop.rd_nil (d:=kNod)).rd_nil (d:=kCmt)).rd_nil (d:=kActn)).mk_msg (x:=noM) .here .here .here⟩)
        · rw [hg3] at ha
          have hp3 : s10.2 ≠ 0:=by simpa using hg3
          refine gOff ha fun a ha=>?_;refine gOff ha fun a ha=>?_;refine pY ha (yPickT rfl rfl) fun a ha=>?_;refine pY ha (yMove rfl) fun a ha=>?_;refine gOff ha fun a ha=>?_;refine gOff ha fun a ha=>?_;refine gOff ha fun a ha=>?_;refine gOff ha fun a ha=>?_;refine pY ha (yPickT rfl rfl) fun a ha=>?_;refine pZ ?_;refine hK15 _ _ ?_;refine cTrue ha rfl ?_;refine wp_seq_k fun K19 hK19=>?_;refine wp_region_lit ?_;refine pY ha (bldDec26_ ) fun a ha=>?_;refine pStoreA ha Tryz.sizeOf26 hs rfl rfl pk4 rfl rfl rfl fun w hs=>?_;refine pY ha (yAssign rfl) fun a ha=>?_;refine pZ ?_;refine hK19 _ _ ?_;refine wp_ret ?_;show bodyPost Tryz.prog Tryz.f9 _ .ret _ _;refine retC1 rfl ha rfl rfl Tryz.isAgg26 Tryz.sizeOf26 hs pk0 rfl ?_
          (rw [dec_no hlen hR (by exact .inl hp3)]; exact ⟨_,rfl,(((hs.drop.drop.drop.drop.drop.drop.rd_nil (d:=kNod)).rd_nil (d:=kCmt)).rd_nil (d:=kActn)).mk_msg (x:=noM) .here .here .here⟩)
end
end Go.Proofs.YtnlhbkaieoogfaaGreatDoor

set_option linter.unusedVariables false
set_option linter.unusedSimpArgs false
namespace Go.Proofs.YtnlhbkaieoogfaaGreatDoor
open Go.Lib
theorem fits_of {n : Int} (h : 0≤n) (h2 : n≤1099511627776) : fits n = true:=by simp [fits]; omega
theorem wNum_good {st : Wt} {n : Int} (h : st.2 = false) (hn : fits n = true) : (wNum st n).2 = false:=by simp [wNum,h,hn]
theorem wText_good {st : Wt} {s : ByteArray} (h : st.2 = false) (ho : okText s.data.toList = true) (hs : s.size≤1099511627776) : (wText st s).2 = false:=by
  show (wNum (st.1,st.2 || !okText s.data.toList) s.size).2 = false;exact wNum_good (by simp [h,ho]) (fits_of (by omega) (by omega))
theorem wFlag_good {st : Wt} {b : Bool} (h : st.2 = false) : (wFlag st b).2 = false:=wNum_good h (by cases b <;> decide)
theorem fold_good {α : Type} {f : Wt→α→Wt} : ∀ (l : List α) (st : Wt),(∀ x ∈ l,∀ st : Wt,st.2 = false→(f st x).2 = false)→st.2 = false→(l.foldl f st).2 = false
  | [],st,_,h=>h
  | x::r,st,hf,h=>fold_good r (f st x) (fun y hy=>hf y (by simp [hy])) (hf x (by simp) st h)
theorem text_size {s : ByteArray} (h : okText s.data.toList = true) (hc : cnt s.data.toList≤2000) : s.size≤8000:=by
  have:=cnt_four _ s.data.toList (Nat.le_refl _) h
  have h2 : s.data.toList.length = s.size:=by simp
  omega
theorem comp_n {c : Comp} (h : sndC c = true) (hb : c.n≤1099511627776) : fits c.kind = true∧fits c.n = true:=by
  unfold sndC at h
  split at h
  · rename_i h1; simp only [Bool.and_eq_true,decide_eq_true_eq] at h; exact ⟨by rw [h1]; decide,by rw [h.1.1]; decide⟩
  · split at h
    · rename_i h1 h2
      simp only [Bool.and_eq_true,decide_eq_true_eq] at h;exact ⟨by rcases h2 with e | e <;> rw [e] <;> decide,fits_of (by omega) hb⟩
    · cases h
theorem base_le : ∀ (l : List Comp) (n : Int),0≤n→n≤1099511627776→n≤baseC l n∧baseC l n≤1099511627776∧∀ c ∈ l,c.kind = 1∨c.kind = 3→c.n≤baseC l n∨baseC l n = 1099511627776
  | [],n,h0,h1=>⟨Int.le_refl _,h1,fun c hc=>by cases hc⟩
  | c::r,n,h0,h1=>by
    have hs : 0≤(if c.kind = 1∨c.kind = 3 then addC n (max c.n 0) else n)∧(if c.kind = 1∨c.kind = 3 then addC n (max c.n 0) else n)≤1099511627776∧n≤(if c.kind = 1∨c.kind = 3 then addC n (max c.n 0) else n):=by
      unfold addC
      split
      · split <;> omega
      · omega
    obtain ⟨h2,h3,h4⟩:=base_le r _ hs.1 hs.2.1;rw [baseC];refine ⟨by omega,h3,fun d hd hk=>?_⟩
    rcases List.mem_cons.1 hd with rfl | hd
    · rw [if_pos hk] at h2 h3 hs ⊢;unfold addC at *
      split at h2
      · rename_i h5; rw [if_pos h5] at h3 ⊢; right; omega
      · rename_i h5; rw [if_neg h5] at h3 ⊢; left; omega
    · exact h4 d hd hk
theorem op_n {l : List Comp} (h : opE l = 0) : ∀ c ∈ l,fits c.kind = true∧fits c.n = true:=fun c hc=>by
  have hs:=(op_ok h).2 c hc
  by_cases hk : c.kind = 1∨c.kind = 3
  · have hb:=base_le l 0 (Int.le_refl _) (by decide)
    have hb2 : baseC l 0≤2000:=by
      unfold opE at h
      split at h
      · simp at h
      · split at h
        · simp at h
        · split at h
          · simp at h
          · omega
    have:=hb.2.2 c hc hk
    exact comp_n hs (by omega)
  · unfold sndC at hs
    split at hs
    · rename_i h1; simp only [Bool.and_eq_true,decide_eq_true_eq] at hs; exact ⟨by rw [h1]; decide,by rw [hs.1.1]; decide⟩
    · cases hs
/-- Acts that may be are written well. -/
theorem acts_full {l : List Actn} (h : txnE l = 0) : l.length≤20∧∀ a ∈ l,(fits a.kind = true∧fits a.id = true∧fits a.parent = true)∧a.name.size≤20∧okText a.name.data.toList = true∧a.ops.length≤100∧∀ c ∈ a.ops,(fits c.kind = true∧fits c.n = true)∧c.text.size≤8000∧okText c.text.data.toList = true:=by
  obtain ⟨h1,h2,h3⟩:=act_ok h;refine ⟨h1,fun a ha=>?_⟩;obtain ⟨k1,k2,k3,k4,k5,k6,k7⟩:=act_sound h ha;refine ⟨⟨k1,k2,k3⟩,k4,k5,k6,fun c hc=>?_⟩;obtain ⟨j1,j2,j3⟩:=k7 c hc;refine ⟨?_,text_size j3 j2,j3⟩;obtain ⟨hb,ho⟩:=one_ok (h3 a ha)
  by_cases k : a.kind = 4
  · exact op_n (ho k) c hc
  · have : a.ops = []:=by
      unfold badA at hb;simp only [not_or] at hb
      have b3 : a = plainA a:=Classical.not_not.1 hb.2.2.1
      rw [b3]; unfold plainA
      repeat' split
      all_goals rfl
    rw [this] at hc; cases hc
theorem acts_good {l : List Actn} (h : txnE l = 0) {st : Wt} (hst : st.2 = false) : (wActns st l).2 = false:=by
  obtain ⟨h1,h2⟩:=acts_full h;refine fold_good l _ (fun a ha st hs=>?_) (wNum_good hst (fits_of (by omega) (by omega)));obtain ⟨⟨k1,k2,k3⟩,k4,k5,k6,k7⟩:=h2 a ha;unfold wActn;refine fold_good a.ops _ (fun c hc st hs=>?_) (wNum_good (wFlag_good (wText_good (wNum_good (wNum_good (wNum_good hs k1) k2) k3) k5 (by omega))) (fits_of (by omega) (by omega)));obtain ⟨⟨j1,j2⟩,j3,j4⟩:=k7 c hc;exact wText_good (wNum_good (wNum_good hs j1) j2) j4 (by omega)
theorem acts_back {l : List Actn} (h : txnE l = 0) : Back wActns rActns l:=by
  obtain ⟨h1,h2⟩:=acts_full h;exact back_actns l h1 fun a ha=>⟨by have:=(h2 a ha).2.1; omega,(h2 a ha).2.2.2.1,fun c hc=>((h2 a ha).2.2.2.2 c hc).2.1⟩
theorem cmts_full {l : List Cmt} (h : cmtsE l = 0) : l.length≤20∧∀ c ∈ l,(fits c.rev = true∧fits c.client = true∧fits c.seq = true)∧txnE c.acts = 0:=by
  unfold cmtsE at h
  split at h
  · simp at h
  · rename_i h1
    refine ⟨by omega,fun c hc=>?_⟩;obtain ⟨i,hi,rfl⟩:=List.mem_iff_getElem.1 hc
    have:=fe_zero h i hi
    simp only [List.getD_eq_getElem?_getD,List.getElem?_eq_getElem hi,Option.getD_some] at this;unfold cmtE at this
    split at this
    · simp at this
    · rename_i h2
      simp only [not_or,Bool.not_eq_false] at h2;exact ⟨h2,this⟩
theorem back_cmt {x : Cmt} (h : txnE x.acts = 0) : Back wCmt rCmt x:=fun st hb=>by
  obtain ⟨h4,l4,e4,r4⟩:=acts_back h _ hb;obtain ⟨h3,l3,e3,r3⟩:=back_num x.seq _ h4;obtain ⟨h2,l2,e2,r2⟩:=back_num x.client _ h3;obtain ⟨h1,l1,e1,r1⟩:=back_num x.rev _ h2;refine ⟨h1,l1++l2++l3++l4,by show (wActns (wNum (wNum (wNum st x.rev) x.client) x.seq) x.acts).1 = _; rw [e4,e3,e2,e1]; simp,fun rest=>?_⟩;simp only [rCmt,List.append_assoc,r1,r2,r3,r4]
theorem back_cmts {l : List Cmt} (h : cmtsE l = 0) : Back wCmts rCmts l:=fun st hb=>by
  obtain ⟨hl,hc⟩:=cmts_full h;obtain ⟨h1,b1,h2,h3⟩:=back_fold l _ (fun x hx=>back_cmt (hc x hx).2) hb;obtain ⟨h4,b2,h5,h6⟩:=back_num l.length st h1;refine ⟨h4,b2++b1,by show (l.foldl wCmt (wNum st l.length)).1 = _; simp only [h2,h5,List.append_assoc],fun rest=>?_⟩
  have hM : rMany 20 (b2++(b1++rest),0) = ((l.length : Int),(b1++rest,0)):=by
    simp only [rMany,h6]; rw [if_neg (by omega)]
  unfold rCmts;rw [List.append_assoc,hM];simp only [Int.toNat_natCast];exact h3 rest
theorem cmts_good {l : List Cmt} (h : cmtsE l = 0) {st : Wt} (hst : st.2 = false) : (wCmts st l).2 = false:=by
  obtain ⟨hl,hc⟩:=cmts_full h;refine fold_good l _ (fun c q st hs=>?_) (wNum_good hst (fits_of (by omega) (by omega)));obtain ⟨⟨k1,k2,k3⟩,k4⟩:=hc c q;exact acts_good k4 (wNum_good (wNum_good (wNum_good hs k1) k2) k3)
theorem nods_full {l : List Nod} (h : nodsE l = 0) : l.length≤100∧∀ x ∈ l,(fits x.id = true∧fits x.parent = true)∧x.name.size≤20∧okText x.name.data.toList = true∧x.text.size≤8000∧okText x.text.data.toList = true:=by
  unfold nodsE at h
  split at h
  · simp at h
  · split at h
    · rename_i h1 h2
      unfold loadOk at h2;simp only [Bool.and_eq_true,decide_eq_true_eq] at h2;obtain ⟨⟨⟨⟨g1,g2⟩,g3⟩,g4⟩,g5⟩:=h2
      have hsn : ∀ x ∈ l,sndN x = true:=fun x hx=>by
        obtain ⟨i,hi,rfl⟩:=List.mem_iff_getElem.1 hx
        have:=allN_iff.1 g1 i hi
        unfold goodN at this;rw [Bool.and_eq_true,List.getD_eq_getElem?_getD,List.getElem?_eq_getElem hi,Option.getD_some] at this;exact this.1
      refine ⟨g4,fun x hx=>?_⟩
      have hid : ∀ y ∈ l,fits y.id = true:=fun y hy=>by
        have:=hsn y hy
        unfold sndN at this;simp only [Bool.and_eq_true,decide_eq_true_eq] at this;exact fits_of (by omega) (by omega)
      have hs:=hsn x hx;unfold sndN at hs;simp only [Bool.and_eq_true,decide_eq_true_eq] at hs;refine ⟨⟨hid x hx,?_⟩,name_size hs.1.1.1.2,name_ok hs.1.1.1.2,text_size hs.1.1.2 hs.1.2,hs.1.1.2⟩;obtain ⟨i,hi,rfl⟩:=List.mem_iff_getElem.1 hx
      have:=allN_iff.1 g2 i hi
      simp only [List.getD_eq_getElem?_getD,List.getElem?_eq_getElem hi,Option.getD_some] at this;unfold standN at this;simp only [Bool.and_eq_true,Bool.or_eq_true,decide_eq_true_eq] at this
      rcases this.1 with e | e
      · rw [e]; decide
      · unfold findN at e
        cases hf : l.find? fun y=>decide (y.id = l[i].parent) with
        | none=>rw [hf] at e; cases e
        | some y=>
          have h3:=List.find?_some hf
          have h4:=List.mem_of_find?_eq_some hf
          have h5 : y.id = l[i].parent:=of_decide_eq_true h3
          rw [← h5];exact hid y h4
    · simp at h
theorem nods_back {l : List Nod} (h : nodsE l = 0) : Back wNods rNods l:=by
  obtain ⟨h1,h2⟩:=nods_full h;exact back_nods l h1 fun x hx=>⟨by have:=(h2 x hx).2.1; omega,(h2 x hx).2.2.2.1⟩
theorem nods_good {l : List Nod} (h : nodsE l = 0) {st : Wt} (hst : st.2 = false) : (wNods st l).2 = false:=by
  obtain ⟨hl,hc⟩:=nods_full h;refine fold_good l _ (fun x q st hs=>?_) (wNum_good hst (fits_of (by omega) (by omega)));obtain ⟨⟨k1,k2⟩,k3,k4,k5,k6⟩:=hc x q;exact wText_good (wFlag_good (wText_good (wNum_good (wNum_good hs k1) k2) k4 (by omega))) k6 (by omega)
theorem msg_full {m : Msg} (h : msgE m = 0) : (1≤m.kind∧m.kind≤9)∧m = plainM m∧(fits m.client = true∧fits m.seq = true∧fits m.rev = true∧fits m.last = true∧fits m.code = true)∧txnE m.acts = 0∧cmtsE m.commits = 0∧nodsE m.nodes = 0∧(bOut m).length≤65536:=by
  unfold msgE at h
  split at h
  · simp at h
  · rename_i h1
    simp only [not_or,Bool.not_eq_false] at h1;obtain ⟨a1,a2,a3,a4⟩:=h1
    split at h
    · rename_i h2; exact absurd h h2
    · split at h
      · rename_i h2; exact absurd h h2
      · split at h
        · rename_i h2; exact absurd h h2
        · split at h
          · simp at h
          · rename_i h2 h3 h4 h5
            exact ⟨by omega,Classical.not_not.1 a3,a4,by simpa using h2,by simpa using h3,by simpa using h4,by omega⟩
theorem msg_good {m : Msg} (h : msgE m = 0) : (wMsg m).2 = false:=by
  obtain ⟨k1,_,⟨k2,k3,k4,k5,k6⟩,k7,k8,k9,_⟩:=msg_full h;exact nods_good k9 (cmts_good k8 (acts_good k7 (wNum_good (wNum_good (wNum_good (wNum_good (wNum_good (wNum_good rfl (fits_of (by omega) (by omega))) k2) k3) k4) k6) k5)))
theorem out_is {m : Msg} (h : msgE m = 0) : bOut m = (wMsg m).1:=by unfold bOut; rw [if_neg (by rw [msg_good h]; decide)]
theorem msg_back {m : Msg} (h : msgE m = 0) (rest : List UInt8) : rMsg (bOut m++rest,0) = (m,(rest,0)):=by
  obtain ⟨_,_,_,k7,k8,k9,_⟩:=msg_full h;rw [out_is h];obtain ⟨h9,l9,e9,r9⟩:=nods_back k9 _ (show (wNods (wCmts (wHead ([],false) m) m.commits) m.nodes).2 = false from msg_good h);obtain ⟨h8,l8,e8,r8⟩:=back_cmts k8 _ h9;obtain ⟨h7,l7,e7,r7⟩:=acts_back k7 _ h8;obtain ⟨h6,l6,e6,r6⟩:=back_num m.last _ h7;obtain ⟨h5,l5,e5,r5⟩:=back_num m.code _ h6;obtain ⟨h4,l4,e4,r4⟩:=back_num m.rev _ h5;obtain ⟨h3,l3,e3,r3⟩:=back_num m.seq _ h4;obtain ⟨h2,l2,e2,r2⟩:=back_num m.client _ h3;obtain ⟨h1,l1,e1,r1⟩:=back_num m.kind _ h2
  have e : (wMsg m).1 = l1++l2++l3++l4++l5++l6++l7++l8++l9:=by
    show (wNods (wCmts (wHead ([],false) m) m.commits) m.nodes).1 = _;rw [e9,e8];show (wActns (wNum (wNum (wNum (wNum (wNum (wNum ([],false) m.kind) m.client) m.seq) m.rev) m.code) m.last) m.acts).1++l8++l9 = _;rw [e7,e6,e5,e4,e3,e2,e1]; simp
  rw [e];simp only [rMsg,List.append_assoc,r1,r2,r3,r4,r5,r6,r7,r8,r9]
theorem dec_back {m : Msg} (h : msgE m = 0) : decM (bOut m) = (m,0):=by
  have hb:=msg_back h []
  rw [List.append_nil] at hb;exact dec_yes (msg_full h).2.2.2.2.2.2 hb rfl (by unfold encM; rw [if_neg (by simpa using h)]) (by unfold encM; rw [if_neg (by simpa using h)])
end Go.Proofs.YtnlhbkaieoogfaaGreatDoor

set_option linter.unusedVariables false
set_option linter.unusedSimpArgs false
namespace Go.Proofs.YtnlhbkaieoogfaaGreatDoor
open Go.RowKit Go.Lib Go.Proofs.YtnlhbkaieoogfaaGreatDoorW.PrintLast
def tMsg (m : Msg) : Nat:=tActns m.acts + tNods m.nodes + tCmts m.commits
/-- A message as it comes in. -/
def gC (x : Comp) : Prop:=i64 x.n∧x.text.size≤9223372036854775807
def gA (x : Actn) : Prop:=x.name.size≤9223372036854775807∧∀ c ∈ x.ops,gC c
def gN (x : Nod) : Prop:=x.name.size≤9223372036854775807∧x.text.size≤9223372036854775807
def gCm (x : Cmt) : Prop:=(i64 x.rev∧i64 x.client∧i64 x.seq)∧∀ a ∈ x.acts,gA a
def gM (x : Msg) : Prop:=(i64 x.client∧i64 x.seq∧i64 x.rev∧i64 x.last∧i64 x.code)∧(∀ a ∈ x.acts,gA a)∧(∀ c ∈ x.commits,gCm c)∧∀ n ∈ x.nodes,gN n
theorem sum_one {α : Type} {f : α→Nat} {l : List α} {x : α} (h : x ∈ l) : f x≤(l.map f).sum:=by
  induction l with
  | nil=>cases h
  | cons y r ih=>
    simp only [List.map_cons,List.sum_cons]
    rcases List.mem_cons.1 h with rfl | h
    · omega
    · have:=ih h; omega
theorem sum_len {α : Type} {f : α→Nat} {l : List α} (h : ∀ x,1≤f x) : l.length≤(l.map f).sum:=by
  induction l with
  | nil=>simp
  | cons y r ih=>
    have:=h y
    simp only [List.map_cons,List.sum_cons,List.length_cons]; omega
theorem light_A {l : List Actn} (hg : ∀ a ∈ l,gA a) (hw : tActns l≤4000) : l.length≤4000∧(∀ a ∈ l,mA a)∧∀ a ∈ l,a.ops.length≤4000:=by
  unfold tActns at hw
  have hl:=sum_len (f:=fun x : Actn=>x.name.size + tComps x.ops + 3) (l:=l) (fun x=>by omega)
  refine ⟨by omega,fun a ha=>?_,fun a ha=>?_⟩
  · have h1 : a.name.size + tComps a.ops + 3≤(l.map fun x=>x.name.size + tComps x.ops + 3).sum:=sum_one (f:=fun x : Actn=>x.name.size + tComps x.ops + 3) ha
    have h2 : a.ops.length≤tComps a.ops:=sum_len (f:=fun x : Comp=>x.text.size + 2) (l:=a.ops) (fun x=>by omega)
    refine ⟨by omega,by omega,fun c hc=>⟨((hg a ha).2 c hc).1.2,?_⟩⟩
    have h3 : c.text.size + 2≤tComps a.ops:=sum_one (f:=fun x : Comp=>x.text.size + 2) hc
    omega
  · have h1 : a.name.size + tComps a.ops + 3≤(l.map fun x=>x.name.size + tComps x.ops + 3).sum:=sum_one (f:=fun x : Actn=>x.name.size + tComps x.ops + 3) ha
    have h2 : a.ops.length≤tComps a.ops:=sum_len (f:=fun x : Comp=>x.text.size + 2) (l:=a.ops) (fun x=>by omega)
    omega
theorem light_M {m : Msg} (hg : gM m) (hw : tMsg m≤4000) : mM m∧(wMsg m).1.length≤48054:=by
  obtain ⟨h0,ha,hc,hn⟩:=hg;unfold tMsg at hw;obtain ⟨a1,a2,a3⟩:=light_A ha (by omega)
  have hcl:=sum_len (f:=fun x : Cmt=>tActns x.acts + 3) (l:=m.commits) (fun x=>by omega)
  have hc2 : ∀ c ∈ m.commits,tActns c.acts≤4000:=fun c q=>by
    have:=sum_one (f:=fun x : Cmt=>tActns x.acts + 3) q
    unfold tCmts at hw; omega
  have hnl:=sum_len (f:=fun x : Nod=>x.name.size + x.text.size + 3) (l:=m.nodes) (fun x=>by omega)
  unfold tCmts tNods at hw;refine ⟨⟨h0,a2,fun c q=>?_,fun x q=>?_,?_⟩,?_⟩
  · obtain ⟨⟨k1,k2,k3⟩,k4⟩:=hc c q;exact ⟨k1,k2,k3,(light_A k4 (hc2 c q)).2.1⟩
  · have:=sum_one (f:=fun x : Nod=>x.name.size + x.text.size + 3) q
    exact ⟨by omega,by omega⟩
  · refine ⟨by omega,fun a q=>by have:=a3 a q; omega,by omega,fun c q=>by have:=(light_A (hc c q).2 (hc2 c q)).1; omega,fun c q a z=>by have:=(light_A (hc c q).2 (hc2 c q)).2.2 a z; omega,by omega⟩
  · have:=wMsg_len m
    unfold tCmts tNods at this; omega
section
variable {W w : World} {cs r r2 : List Ch}
end
end Go.Proofs.YtnlhbkaieoogfaaGreatDoor

set_option linter.unusedVariables false
set_option linter.unusedSimpArgs false
namespace Go.Proofs.YtnlhbkaieoogfaaGreatDoor
open Go.RowKit Go.Lib Go.Proofs.YtnlhbkaieoogfaaGreatDoorW.PrintLast
theorem bldAwk1826_ {w : World} {l : List (Nat × Value)} {T : TypeId} : Yl Tryz.prog w l (.build 26 #[]) T (.agg #[.int .i64 0,.int .i64 0,.int .i64 0,.int .i64 0,.int .i64 0,.slice none 0 0,.slice none 0 0,.slice none 0 0,.int .i64 0]):=fun ρ o h ho _=>by
  unfold execOp; rw [ho]
  simp [Instr.build,Instr.fill,Tryz.zeroValue26,Tryz.runUnderlying26,Tryz.sizeOf22,Tryz.sizeOf23,Tryz.sizeOf24,Tryz.sizeOf3,agg_cells]
theorem bldAwk1826_0_1_3 {w : World} {l : List (Nat × Value)} {T : TypeId} {x0 x1 x3 : Operand} {v0 : Value} (h0 : ev l x0 = some v0) {v1 : Value} (h1 : ev l x1 = some v1) {v3 : Value} (h3 : ev l x3 = some v3) (o0 : v0.cells = #[v0]:=by rfl) (o1 : v1.cells = #[v1]:=by rfl) (o3 : v3.cells = #[v3]:=by rfl) : Yl Tryz.prog w l (.build 26 #[(0,x0),(1,x1),(3,x3)]) T (.agg #[v0,v1,.int .i64 0,v3,.int .i64 0,.slice none 0 0,.slice none 0 0,.slice none 0 0,.int .i64 0]):=fun ρ o h ho _=>by
  have hf : Instr.fill (fun i=>([(0,1),(1,1),(2,1),(3,1),(4,1),(5,1),(6,1),(7,1),(8,1)] : List (Nat × Nat))[i]?) #[.int .i64 0,.int .i64 0,.int .i64 0,.int .i64 0,.int .i64 0,.slice none 0 0,.slice none 0 0,.slice none 0 0,.int .i64 0] [(0,v0),(1,v1),(3,v3)] = some #[v0,v1,.int .i64 0,v3,.int .i64 0,.slice none 0 0,.slice none 0 0,.slice none 0 0,.int .i64 0]:=by
    refine (fill_v o0 rfl (by simp)).trans ?_;refine (fill_v o1 rfl (by simp)).trans ?_;refine (fill_v o3 rfl (by simp)).trans ?_
    simp [Instr.fill]
  unfold execOp; rw [ho]
  simp [h _ _ h0,h _ _ h1,h _ _ h3,Instr.build,Tryz.zeroValue26,Tryz.runUnderlying26,Tryz.sizeOf22,Tryz.sizeOf23,Tryz.sizeOf24,Tryz.sizeOf3,agg_cells,hf]
instance (n : Int) : Decidable (i64 n):=by unfold i64; infer_instance
/-- A message without lists. -/
theorem bare_ok {m : Msg} (hk : 1≤m.kind∧m.kind≤9) (hp : m = plainM m) (hf : fits m.client = true∧fits m.seq = true∧fits m.rev = true∧fits m.last = true∧fits m.code = true) (h1 : m.acts = []) (h2 : m.commits = []) (h3 : m.nodes = []) : msgE m = 0:=by
  have hl:=wMsg_len m
  rw [h1,h2,h3] at hl;simp only [tActns,tCmts,tNods,List.map_nil,List.sum_nil] at hl
  have hb : (bOut m).length≤65536:=by
    unfold bOut; split
    · simp
    · omega
  obtain ⟨f1,f2,f3,f4,f5⟩:=hf;unfold msgE;rw [if_neg (by rw [f1,f2,f3,f4,f5]; simp only [not_or]; exact ⟨by omega,by omega,fun h=>h hp,by decide,by decide,by decide,by decide,by decide⟩)];rw [h1,h2,h3];rw [if_neg (by decide),if_neg (by decide),if_neg (by decide),if_neg (by omega)]
theorem dec_nil : decM [] = (noM,2):=by
  obtain ⟨M,s,hR⟩ : ∃ M s,rMsg (([] : List UInt8),(0 : Int)) = (M,s):=⟨_,_,rfl⟩;refine dec_no (Nat.zero_le _) hR (.inl ?_)
  have h0 : rNum (([] : List UInt8),(0 : Int)) = (0,([],2)):=rfl
  have hn : rNum (([] : List UInt8),(2 : Int)) = (0,([],2)):=rNum_err (by decide)
  have ha : rActns (([] : List UInt8),(2 : Int)) = ([],([],2)):=rAll_err (by decide) (by decide)
  have hc : rCmts (([] : List UInt8),(2 : Int)) = ([],([],2)):=by
    unfold rCmts;rw [rMany_err (by decide) (by decide)]
    rfl
  have hd : rNods (([] : List UInt8),(2 : Int)) = ([],([],2)):=rAll_err (by decide) (by decide)
  unfold rMsg at hR;simp only [h0,hn,ha,hc,hd] at hR
  injection hR with _ h2
  rw [← h2]
  decide
section
variable {W w : World} {cs r r2 : List Ch}
theorem Sep.dropN {l : List Ch} (h : Sep W w l) : ∀ (n : Nat),Sep W w (l.drop n)
  | 0=>h
  | n + 1=>by
    have h2:=Sep.dropN h n
    rw [← List.drop_drop (i:=1) (j:=n)]
    cases hl : l.drop n with
    | nil=>rw [hl] at h2; exact h2
    | cons c r=>rw [hl] at h2; exact h2.drop
theorem Sep.zeros_rd {b n : Nat} (hn : n≤140737488355328) (hs : Sep W w cs) (hk : Pick cs (.blk b 5 (List.replicate n (.int .u8 0))) r) : Sep W w (.rd kU8 (.slice (some ⟨b,0,none⟩) n n) (List.replicate n (0 : UInt8))::r):=by
  have h:=(Sep.flat_ol (xs:=List.replicate n (0 : UInt8)) (cap:=n) kU8_flat hs hk (fun x _ Z=>rfl) (by simp) (by unfold maxLen; omega) (by simp) (fun j x hx=>by
    obtain ⟨hj,rfl⟩:=List.getElem?_eq_some_iff.1 hx;rw [List.length_replicate] at hj;rw [List.getElem?_replicate,if_pos hj]
    simp)).ol_rd .here
  rw [List.length_replicate] at h;exact h
theorem dec_big {l : List UInt8} (h : 65536 < l.length) : decM l = (noM,3):=by unfold decM; rw [if_pos (by omega)]
theorem Sep.msg_none (hs : Sep W w cs) (k c s rv o l : Int) : Sep W w (.el kMsg ⟨k,c,s,rv,o,[],[],[],l⟩ [.int .i64 k,.int .i64 c,.int .i64 s,.int .i64 rv,.int .i64 o,.slice none 0 0,.slice none 0 0,.slice none 0 0,.int .i64 l]::cs) :=
  ((((hs.rd_nil (d:=kNod)).rd_nil (d:=kCmt)).rd_nil (d:=kActn)).mk_msg (x:=⟨k,c,s,rv,o,[],[],[],l⟩) .here .here .here)
theorem bare_m {m : Msg} (h0 : i64 m.client∧i64 m.seq∧i64 m.rev∧i64 m.last∧i64 m.code) (h1 : m.acts = []) (h2 : m.commits = []) (h3 : m.nodes = []) : mM m∧(wMsg m).1.length≤8796093022208:=by
  have hg : gM m:=⟨h0,by rw [h1]; simp,by rw [h2]; simp,by rw [h3]; simp⟩
  have:=light_M hg (by unfold tMsg; rw [h1,h2,h3]; decide)
  exact ⟨this.1,by omega⟩
theorem awake18_c (hT : Tabs W) (hs : Sep W w cs) : Calls P 6 #[] w (Rt fun v w'=>v = .bool true∧Sep W w' cs):=by
  have hm0:=bare_m (m:=⟨3,2,0,5,0,[],[],[],0⟩) (by decide) rfl rfl rfl
  have he0 : msgE ⟨3,2,0,5,0,[],[],[],0⟩ = 0:=bare_ok (by decide) rfl (by decide) rfl rfl rfl
  have hm1:=bare_m (m:=noM) (by decide) rfl rfl rfl
  have he1 : msgE noM = 1:=by unfold msgE; rw [if_pos (by decide)]
  have hen : encM ⟨3,2,0,5,0,[],[],[],0⟩ = (bOut ⟨3,2,0,5,0,[],[],[],0⟩,0):=by unfold encM; rw [if_neg (by rw [he0]; decide)]
  refine enter Tryz.func6 Tryz.ntmps6 rfl rfl fun a (ha : Has a 59 [])=>?_;refine wp_seq_k fun K1 hK1=>?_;refine wp_region_lit ?_;refine pY ha (yAssign rfl) fun a ha=>?_;refine pZ ?_;refine hK1 _ _ ?_;refine wp_seq_k fun K2 hK2=>?_;have hs:=hs.msg_none 3 2 0 5 0 0;refine wp_region_lit ?_;refine pY ha (bldAwk1826_0_1_3 rfl rfl rfl) fun a ha=>?_;refine pC ha (nCall Tryz.call7 rfl) rfl (Encode_c hT hm0.1 hm0.2 hs .here) ?_;rintro v w ⟨A1,c1,rfl,hs⟩ a ha;rw [hen] at ha hs;refine pY ha (yMove rfl) fun a ha=>?_;refine pY ha (yExtract rfl rfl) fun a ha=>?_;refine pY ha (yExtract rfl rfl) fun a ha=>?_;refine pY ha (yAssign rfl) fun a ha=>?_;refine pY ha (yAssign rfl) fun a ha=>?_;refine pZ ?_;refine hK2 _ _ ?_;refine wp_seq_k fun K3 hK3=>?_;refine wp_region_lit ?_;refine pY ha (yMove rfl) fun a ha=>?_;refine pC ha (nCall Tryz.call9 rfl) rfl (Decode_c hT hs .here) ?_;rintro v w ⟨e1,rfl,hs⟩ a ha;rw [dec_back he0] at ha hs;obtain ⟨B1,p1,q1,B2,p2,q2,B3,p3,q3,rfl,hs⟩:=hs.el_msg .here;simp only at ha hs;refine pY ha (yMove rfl) fun a ha=>?_;refine pY ha (yExtract rfl rfl) fun a ha=>?_;refine pY ha (yExtract rfl rfl) fun a ha=>?_;refine pAlloc (zs:=[.int .i64 0,.int .i64 0,.int .i64 0,.int .i64 0,.int .i64 0,.slice none 0 0,.slice none 0 0,.slice none 0 0,.int .i64 0]) ha Tryz.zeroValue26 rfl hs rfl fun b w hs a ha=>?_;refine pStoreA ha Tryz.sizeOf26 hs rfl rfl pk0 rfl rfl rfl fun w hs=>?_;refine pY ha (yAssign rfl) fun a ha=>?_;refine pZ ?_;refine hK3 _ _ ?_;refine wp_seq_k fun K4 hK4=>?_;have hs:=hs.rd_nil (d:=kU8);refine wp_region_lit ?_;refine pC ha (nCall Tryz.call9 rfl) rfl (Decode_c hT hs .here) ?_;rintro v w ⟨e2,rfl,hs⟩ a ha;rw [dec_nil] at ha hs;obtain ⟨D1,s1,t1,D2,s2,t2,D3,s3,t3,rfl,hs⟩:=hs.el_msg .here;simp only at ha hs;refine pY ha (yMove rfl) fun a ha=>?_;refine pY ha (yExtract rfl rfl) fun a ha=>?_;refine pY ha (yExtract rfl rfl) fun a ha=>?_;refine pAlloc (zs:=[.int .i64 0,.int .i64 0,.int .i64 0,.int .i64 0,.int .i64 0,.slice none 0 0,.slice none 0 0,.slice none 0 0,.int .i64 0]) ha Tryz.zeroValue26 rfl hs rfl fun b w hs a ha=>?_;refine pStoreA ha Tryz.sizeOf26 hs rfl rfl pk0 rfl rfl rfl fun w hs=>?_;refine pY ha (yAssign rfl) fun a ha=>?_;refine pZ ?_;refine hK4 _ _ ?_;refine wp_seq_k fun K5 hK5=>?_;refine wp_region_lit ?_;refine pMakeS (n:=65537) ha rfl rfl (by decide) hs rfl fun b w hs a ha=>?_;have hs:=hs.zeros_rd (n:=65537) (by decide) .here;refine pC ha (nCall Tryz.call9 rfl) rfl (Decode_c hT hs .here) ?_;rintro v w ⟨e3,rfl,hs⟩ a ha;rw [dec_big (by rw [List.length_replicate]; decide)] at ha hs;obtain ⟨E1,x1,y1,E2,x2,y2,E3,x3,y3,rfl,hs⟩:=hs.el_msg .here;simp only at ha hs;refine pY ha (yMove rfl) fun a ha=>?_;refine pY ha (yExtract rfl rfl) fun a ha=>?_;refine pY ha (yExtract rfl rfl) fun a ha=>?_;refine pAlloc (zs:=[.int .i64 0,.int .i64 0,.int .i64 0,.int .i64 0,.int .i64 0,.slice none 0 0,.slice none 0 0,.slice none 0 0,.int .i64 0]) ha Tryz.zeroValue26 rfl hs rfl fun b w hs a ha=>?_;refine pStoreA ha Tryz.sizeOf26 hs rfl rfl pk0 rfl rfl rfl fun w hs=>?_
  refine pY ha (yAssign rfl) fun a ha=>?_;refine pZ ?_;refine hK5 _ _ ?_;refine wp_seq_k fun K6 hK6=>?_;refine wp_region_lit ?_;refine pY ha (yMove rfl) fun a ha=>?_;refine pY ha (yEql rfl rfl) fun a ha=>?_;refine pY ha (yMove rfl) fun a ha=>?_;refine gDec (t:=30) ha rfl (fun hg2 hp2=>?_) (fun hg2 hp2=>?_)
  · exact absurd rfl hp2
  · rw [hg2] at ha;refine gOn ha ?_;refine pY ha (yMove rfl) fun a ha=>?_;refine gOn ha ?_;refine pY ha (yEql rfl rfl) fun a ha=>?_;refine pY ha (yPickT rfl rfl) fun a ha=>?_;refine pY ha (yMove rfl) fun a ha=>?_;refine gSplit (t:=34) ha rfl (fun hg6=>?_) (fun hg6=>?_)
    · simp at hg6
    · rw [hg6] at ha;refine gOn ha ?_;refine pY ha (yFieldA Tryz.runUnderlying26 rfl Tryz.sizeOf3 rfl rfl) fun a ha=>?_;refine gOn ha ?_;refine pY ha (yLoadB Tryz.isAgg3 hs rfl pk12 rfl) fun a ha=>?_;refine gOn ha ?_;refine pY ha (yEql rfl rfl) fun a ha=>?_;refine pY ha (yPickT rfl rfl) fun a ha=>?_;refine pY ha (yMove rfl) fun a ha=>?_;refine gSplit (t:=39) ha rfl (fun hg11=>?_) (fun hg11=>?_)
      · simp at hg11
      · rw [hg11] at ha;refine gOn ha ?_;refine pY ha (yFieldA Tryz.runUnderlying26 rfl Tryz.sizeOf3 rfl rfl) fun a ha=>?_;refine gOn ha ?_;refine pY ha (yLoadB Tryz.isAgg3 hs rfl pk12 rfl) fun a ha=>?_;refine gOn ha ?_;refine pY ha (yEql rfl rfl) fun a ha=>?_;refine pY ha (yPickT rfl rfl) fun a ha=>?_;refine pY ha (yMove rfl) fun a ha=>?_;refine gSplit (t:=44) ha rfl (fun hg16=>?_) (fun hg16=>?_)
        · simp at hg16
        · rw [hg16] at ha;refine gOn ha ?_;refine pY ha (yMove rfl) fun a ha=>?_;refine gOn ha ?_;refine pY ha (yEql rfl rfl) fun a ha=>?_;refine pY ha (yPickT rfl rfl) fun a ha=>?_;refine pY ha (yMove rfl) fun a ha=>?_;refine gSplit (t:=48) ha rfl (fun hg20=>?_) (fun hg20=>?_)
          · simp at hg20
          · rw [hg20] at ha;refine gOn ha ?_;refine pY ha (yMove rfl) fun a ha=>?_;refine gOn ha ?_;refine pY ha (yEql rfl rfl) fun a ha=>?_;refine pY ha (yPickT rfl rfl) fun a ha=>?_;refine pY ha (yMove rfl) fun a ha=>?_;refine gSplit (t:=52) ha rfl (fun hg24=>?_) (fun hg24=>?_)
            · simp at hg24
            · rw [hg24] at ha;refine gOn ha ?_;refine pY ha (bldAwk1826_ ) fun a ha=>?_;have hs:=hs.msg_none 0 0 0 0 0 0;refine gOn ha ?_;refine pC ha (nCall Tryz.call11 rfl) rfl (MCheck_c hT (x:=noM) hm1.1 hm1.2 hs .here) ?_;rintro v w ⟨rfl,hs⟩ a ha;rw [he1] at ha;refine gOn ha ?_;refine pY ha (yEql rfl rfl) fun a ha=>?_;refine pY ha (yPickT rfl rfl) fun a ha=>?_;refine pY ha (yMove rfl) fun a ha=>?_;refine pY ha (yPickT rfl rfl) fun a ha=>?_;refine pY ha (yAssign rfl) fun a ha=>?_;refine pZ ?_;refine hK6 _ _ ?_;refine wp_ret ?_;show bodyPost Tryz.prog Tryz.f6 _ .ret _ _;refine ret1 rfl ha rfl ?_;exact ⟨rfl,hs.dropN 20⟩
end
end Go.Proofs.YtnlhbkaieoogfaaGreatDoor

