/- A part of the proof of WireForms (part 2 of 6): the words and the walks. -/
import Derived.Test.YtnlhbkaieoogfaaGreatDoorKFrmA
import Derived.Shelf.Unicode.ValidAny
import Derived.Shelf.Strings.Search3
import Derived.Ground.NamesProg
import Derived.Test.YtnlhbkaieoogfaaGreatDoorProg
import Derived.Laws.StructEq
import Derived.WalkKit
import Derived.ProofKit
import Derived.OpenShut
import Derived.Laws.MakeOwn
set_option linter.unusedVariables false
set_option linter.unusedSimpArgs false
namespace Go.Proofs.YtnlhbkaieoogfaaGreatDoor
open Go.RowKit Go.Lib
theorem bslTxt93_1_0 {w : World} {l : List (Nat × Value)} {T : TypeId} {x0 : Operand} {v0 : Value} (h0 : ev l x0 = some v0) (o0 : v0.cells = #[v0]:=by rfl) : Mk Tryz.prog w l (.buildSlice 93 1 #[(0,x0)]) T 3 1 [v0]:=fun ρ o h ho _=>by
  unfold execOp; rw [ho];exact mk1v (P:=Tryz.prog) w Tryz.runUnderlying93 Tryz.sizeOf3 Tryz.zeroValue3 rfl o0 (h _ _ h0)
theorem elTxt93 : ElemT Tryz.prog 93 3 1 8:=elemT_mk Tryz.underlying93 rfl (by kernel_rfl)
section
variable {W w : World} {cs r : List Ch}
theorem cont_zero (l : List UInt8) (c : Nat) : cont l 0 c = some c:=by cases l <;> rfl
theorem cont_step {l : List UInt8} {k c : Nat} {x : UInt8} {g : Option Nat} {j : Nat} (hx : l[j]? = some x) (h : cont (l.drop j) (k + 1) c = g) : (if x.toNat / 64 = 2 then cont (l.drop (j + 1)) k (c * 64 + x.toNat % 64) else none) = g:=by
  obtain ⟨hi,rfl⟩:=List.getElem?_eq_some_iff.1 hx;rw [List.drop_eq_getElem_cons hi,cont] at h;exact h
theorem list_at (s : ByteArray) {i : Nat} (hi : i < s.size) : ∃ b,s.data.toList[i]? = some b∧s.data.toList.drop i = b::s.data.toList.drop (i + 1):=by
  have : i < s.data.toList.length:=by simpa using hi
  exact ⟨s.data.toList[i],List.getElem?_eq_getElem this,List.drop_eq_getElem_cons this⟩
theorem Point_c (s : ByteArray) (i0 : Nat) (hsz : s.size≤9223372036854775807) (hi : i0 < s.size) (hs : Sep W w cs) :
    Calls P 117 #[.string s,.int .i64 i0] w (Rt fun v w'=>v = .tuple #[.int .i64 (pointL (s.data.toList.drop i0)).1,.int .i64 (pointL (s.data.toList.drop i0)).2]∧Sep W w' cs):=by
  obtain ⟨b0,hb,hl⟩:=list_at s hi;rw [hl]
  have hb0:=b0.toNat_lt
  have hlen : (b0::s.data.toList.drop (i0 + 1)).length = s.size - i0:=by rw [← hl]; simp
  refine enter Tryz.func117 Tryz.ntmps117 rfl rfl fun a (ha : Has a 96 [(0,_),(1,_)])=>?_;refine wp_seq_k fun K1 hK1=>?_;refine wp_region_lit ?_;refine pY ha (yAssign rfl) fun a ha=>?_;refine pY ha (yAssign rfl) fun a ha=>?_;refine pZ ?_;refine hK1 _ _ ?_;refine wp_seq_k fun K2 hK2=>?_;refine wp_region_lit ?_;refine pY ha (yMove rfl) fun a ha=>?_;refine pY ha (yMove rfl) fun a ha=>?_;refine pY ha (yIndexSb Tryz.runUnderlying9 rfl rfl (by omega) hb) fun a ha=>?_;refine pY ha (yConvI64 (fun w=>⟨_,Tryz.runUnderlying5 w⟩) Tryz.runUnderlying3 rfl ⟨by omega,by omega⟩) fun a ha=>?_;refine pY ha (yAssign rfl) fun a ha=>?_;refine pZ ?_;refine hK2 _ _ ?_;refine wp_seq_k fun K3 hK3=>?_;refine wp_region_lit ?_;refine pY ha (yAssign rfl) fun a ha=>?_;refine pY ha (yAssign rfl) fun a ha=>?_;refine pY ha (yAssign rfl) fun a ha=>?_;refine pZ ?_;refine hK3 _ _ ?_;refine wp_seq_k fun K4 hK4=>?_
  have hJ4 : ∀ a w,(∃ z c m : Nat,lead b0.toNat z c m∧Has a 96 [(0,.string s),(1,.int .i64 i0),(7,.int .i64 z),(8,.int .i64 c),(9,.int .i64 m)]∧Sep W w cs)→K4 a w:=by
    rintro a w ⟨z,c,m,hld,ha,hs⟩;refine hK4 _ _ ?_;refine wp_seq_k fun K5 hK5=>?_;refine wp_seq_k fun K6 hK6=>?_
    have hld':=hld; unfold lead at hld'
    refine wp_region_lit ?_;refine pY ha (yMove rfl) fun a ha=>?_;refine pY ha (yLenStr Tryz.runUnderlying9 rfl) fun a ha=>?_;refine pY ha (yMove rfl) fun a ha=>?_;refine pY ha (ySubN rfl rfl ⟨by omega,by omega⟩) fun a ha=>?_;refine pY ha (yMove rfl) fun a ha=>?_;refine pY ha (yLss rfl rfl) fun a ha=>?_;refine pZ ?_;refine hK6 _ _ ?_;refine cDec ha rfl (fun hc56=>?_) (fun hc56=>?_)
    · refine wp_seq_k fun K7 hK7=>?_;refine wp_region_lit ?_;refine pY ha (yAssign rfl) fun a ha=>?_;refine pY ha (yAssign rfl) fun a ha=>?_;refine pZ ?_;refine hK7 _ _ ?_;refine wp_ret ?_;show bodyPost Tryz.prog Tryz.f117 _ .ret _ _;refine ret2 rfl ha rfl rfl ?_;refine ⟨?_,hs⟩
      (rw [point_short hld (by rw [hlen]; omega)]; rfl)
    · have hpt:=point_cont (t:=s.data.toList.drop (i0 + 1)) hld (by rw [hlen]; omega)
      refine wp_skip ?_;refine hK5 _ _ ?_;refine wp_seq_k fun K8 hK8=>?_;refine wp_seq_k fun K9 hK9=>?_;refine wp_region_lit ?_;refine pY ha (yAssign rfl) fun a ha=>?_;refine pZ ?_;refine hK9 _ _ ?_;refine wp_block ?_;refine loopI (ι:=Nat × Nat) (fun i a w=>i.1≤z∧((i.1 = 1∧i.2 < 32)∨(i.1 = 2∧i.2 < 2048)∨(i.1 = 3∧i.2 < 131072)∨(i.1 = 4∧i.2 < 8388608))∧cont (s.data.toList.drop (i0 + i.1)) (z - i.1) i.2 = cont (s.data.toList.drop (i0 + 1)) (z - 1) c∧Has a 96 [(0,.string s),(1,.int .i64 i0),(7,.int .i64 z),(8,.int .i64 i.2),(9,.int .i64 m),(10,.int .i64 i.1)]∧Sep W w cs) (fun i=>4 - i.1) ((1,c)) ?_ ?_
      · exact ⟨by simp only; omega,.inl ⟨rfl,by simp only; omega⟩,rfl,has6 ha rfl rfl rfl rfl rfl rfl,hs⟩
      · rintro i a w ⟨h1,h2,h3,ha,hs⟩;obtain ⟨j,p⟩:=i; simp only at h1 h2 h3 ha hs;refine wp_seq_k fun K10 hK10=>?_;refine wp_seq_k fun K11 hK11=>?_;refine wp_region_lit ?_;refine pY ha (yMove rfl) fun a ha=>?_;refine pY ha (yMove rfl) fun a ha=>?_;refine pY ha (yLss rfl rfl) fun a ha=>?_;refine pZ ?_;refine hK11 _ _ ?_;refine cDec ha rfl (fun hc59=>?_) (fun hc59=>?_)
        · obtain ⟨x,hx,_⟩:=list_at s (i:=i0 + j) (by omega)
          have hxl:=x.toNat_lt
          obtain ⟨k,hk⟩ : ∃ k,z - j = k + 1:=⟨z - j - 1,by omega⟩;rw [hk] at h3
          have h3:=cont_step hx h3
          obtain rfl : k = z - (j + 1):=by omega
          refine wp_skip ?_;refine hK10 _ _ ?_;refine wp_seq_k fun K12 hK12=>?_;refine wp_block ?_;refine wp_seq_k fun K13 hK13=>?_;refine wp_region_lit ?_;refine pY ha (yMove rfl) fun a ha=>?_;refine pY ha (yMove rfl) fun a ha=>?_;refine pY ha (yMove rfl) fun a ha=>?_;refine pY ha (yAddN rfl rfl ⟨by omega,by omega⟩) fun a ha=>?_;refine pY ha (yIndexSb Tryz.runUnderlying9 rfl rfl (by omega) hx) fun a ha=>?_;refine pY ha (yConvI64 (fun w=>⟨_,Tryz.runUnderlying5 w⟩) Tryz.runUnderlying3 rfl ⟨by omega,by omega⟩) fun a ha=>?_;refine pY ha (yAssign rfl) fun a ha=>?_;refine pZ ?_;refine hK13 _ _ ?_;refine wp_seq_k fun K14 hK14=>?_;refine wp_seq_k fun K15 hK15=>?_;refine wp_region_lit ?_;refine pY ha (yMove rfl) fun a ha=>?_;refine pY ha (yLss rfl rfl) fun a ha=>?_;refine pY ha (yMove rfl) fun a ha=>?_;refine gDec (t:=70) ha rfl (fun hg2 hp2=>?_) (fun hg2 hp2=>?_)
          · rw [hg2] at ha;refine gOn ha ?_;refine pY ha (yMove rfl) fun a ha=>?_;refine gOn ha ?_;refine pY ha (yGtr rfl rfl) fun a ha=>?_;refine pY ha (yPickF rfl rfl) fun a ha=>?_;refine pZ ?_;refine hK15 _ _ ?_;refine cDec ha rfl (fun hc73=>?_) (fun hc73=>?_)
            · refine wp_seq_k fun K16 hK16=>?_;refine wp_region_lit ?_;refine pY ha (yAssign rfl) fun a ha=>?_;refine pY ha (yAssign rfl) fun a ha=>?_;refine pZ ?_;refine hK16 _ _ ?_;refine wp_ret ?_;show bodyPost Tryz.prog Tryz.f117 _ .ret _ _;refine ret2 rfl ha rfl rfl ?_;refine ⟨?_,hs⟩
              (rw [if_neg (by omega)] at h3; rw [← h3] at hpt; rw [hpt]; rfl)
            · refine wp_skip ?_;refine hK14 _ _ ?_;refine wp_region_lit ?_;refine pY ha (yMove rfl) fun a ha=>?_;refine pY ha (yShlC (q:=64) rfl rfl (by decide) (by decide) (by decide) ⟨by omega,by omega⟩) fun a ha=>?_;refine pY ha (yMove rfl) fun a ha=>?_;refine pY ha (yAndM (q:=64) 6 rfl rfl (by decide) (by decide) (by decide) (by omega) (by simp only [roomy]; omega)) fun a ha=>?_;refine pY ha (yOrJ (q:=64) 6 rfl rfl (by decide) (by omega) (by omega) (by simp only [roomy]; omega) (by omega) (by omega) (by simp only [roomy]; omega)) fun a ha=>?_;refine pY ha (yAssign rfl) fun a ha=>?_;refine pZ ?_;refine hK12 _ _ ?_;refine wp_region_lit ?_;refine pY ha (yMove rfl) fun a ha=>?_;refine pY ha (yAddN rfl rfl ⟨by omega,by omega⟩) fun a ha=>?_;refine pY ha (yAssign rfl) fun a ha=>?_;refine pZ ?_;refine ⟨(j + 1,p * 64 + x.toNat % 64),⟨by simp only; omega,by simp only; omega,?_,has6 ha rfl rfl rfl rfl rfl rfl,hs⟩,by simp only; omega⟩;rw [← h3,if_pos (by omega)]
              rfl
          · rw [hg2] at ha;refine gOff ha fun a ha=>?_;refine gOff ha fun a ha=>?_;refine pY ha (yPickT rfl rfl) fun a ha=>?_;refine pZ ?_;refine hK15 _ _ ?_;refine cTrue ha rfl ?_;refine wp_seq_k fun K17 hK17=>?_;refine wp_region_lit ?_;refine pY ha (yAssign rfl) fun a ha=>?_;refine pY ha (yAssign rfl) fun a ha=>?_;refine pZ ?_;refine hK17 _ _ ?_;refine wp_ret ?_;show bodyPost Tryz.prog Tryz.f117 _ .ret _ _;refine ret2 rfl ha rfl rfl ?_;refine ⟨?_,hs⟩
            (rw [if_neg (by omega)] at h3; rw [← h3] at hpt; rw [hpt]; rfl)
        · refine wp_exit ?_;refine hK8 _ _ ?_;refine wp_seq_k fun K18 hK18=>?_;refine wp_seq_k fun K19 hK19=>?_;obtain rfl : j = z:=by omega
          rw [Nat.sub_self,cont_zero] at h3;rw [← h3] at hpt;simp only at hpt;refine cutC (fun a w=>Has a 96 [(93,.bool (decide (p < m∨(55296≤p∧p < 57344)∨1114111 < p))),(7,.int .i64 j),(8,.int .i64 p)]∧Sep W w cs) ?_ ?_
          · refine wp_region_lit ?_;refine pY ha (yMove rfl) fun a ha=>?_;refine pY ha (yMove rfl) fun a ha=>?_;refine pY ha (yLss rfl rfl) fun a ha=>?_;refine pY ha (yMove rfl) fun a ha=>?_;refine gDec (t:=82) ha rfl (fun hg3 hp3=>?_) (fun hg3 hp3=>?_)
            · rw [hg3] at ha;refine gOn ha ?_;refine pY ha (yMove rfl) fun a ha=>?_;refine gOn ha ?_;refine pY ha (yGeq rfl rfl) fun a ha=>?_;refine gOn ha ?_;refine pY ha (yMove rfl) fun a ha=>?_;refine gDec (t:=85) ha rfl (fun hg6 hp6=>?_) (fun hg6 hp6=>?_)
              · rw [hg6] at ha;refine gOff ha fun a ha=>?_;refine gOff ha fun a ha=>?_;refine gOn ha ?_;refine pY ha (yPickF rfl rfl) fun a ha=>?_;refine pY ha (yPickF rfl rfl) fun a ha=>?_;refine pY ha (yMove rfl) fun a ha=>?_;refine gOn ha ?_;refine pY ha (yMove rfl) fun a ha=>?_;refine gOn ha ?_;refine pY ha (yGtr rfl rfl) fun a ha=>?_;refine pY ha (yPickF rfl rfl) fun a ha=>?_;refine pZ ⟨rfl,?_⟩;exact ⟨has3 ha (bT (by omega)) rfl rfl,hs⟩
              · rw [hg6] at ha;refine gOn ha ?_;refine pY ha (yMove rfl) fun a ha=>?_;refine gOn ha ?_;refine pY ha (yLss rfl rfl) fun a ha=>?_;refine gOn ha ?_;refine pY ha (yPickT rfl rfl) fun a ha=>?_;refine pY ha (yPickF rfl rfl) fun a ha=>?_;refine pY ha (yMove rfl) fun a ha=>?_;refine gSplit (t:=90) ha rfl (fun hg11=>?_) (fun hg11=>?_)
                · rw [hg11] at ha;refine gOn ha ?_;refine pY ha (yMove rfl) fun a ha=>?_;refine gOn ha ?_;refine pY ha (yGtr rfl rfl) fun a ha=>?_;refine pY ha (yPickF rfl rfl) fun a ha=>?_;refine pZ ⟨rfl,?_⟩;exact ⟨has3 ha (bT (by (have:=of_decide_eq_false hg11; omega))) rfl rfl,hs⟩
                · rw [hg11] at ha;refine gOff ha fun a ha=>?_;refine gOff ha fun a ha=>?_;refine pY ha (yPickT rfl rfl) fun a ha=>?_;refine pZ ⟨rfl,?_⟩;exact ⟨has3 ha (bY (by (have:=of_decide_eq_true hg11; omega))) rfl rfl,hs⟩
            · rw [hg3] at ha;refine gOff ha fun a ha=>?_;refine gOff ha fun a ha=>?_;refine gOff ha fun a ha=>?_;refine gOffU ha fun a ha=>?_;refine gOffU ha fun a ha=>?_;refine gOff ha fun a ha=>?_;refine pY ha (yPickT rfl rfl) fun a ha=>?_;refine pY ha (yMove rfl) fun a ha=>?_;refine gOff ha fun a ha=>?_;refine gOff ha fun a ha=>?_;refine pY ha (yPickT rfl rfl) fun a ha=>?_;refine pZ ⟨rfl,?_⟩;exact ⟨has3 ha (bY (by omega)) rfl rfl,hs⟩
          rintro a w ⟨ha,hs⟩;refine hK19 _ _ ?_;refine cDec ha rfl (fun hc93=>?_) (fun hc93=>?_)
          · refine wp_seq_k fun K20 hK20=>?_;refine wp_region_lit ?_;refine pY ha (yAssign rfl) fun a ha=>?_;refine pY ha (yAssign rfl) fun a ha=>?_;refine pZ ?_;refine hK20 _ _ ?_;refine wp_ret ?_;show bodyPost Tryz.prog Tryz.f117 _ .ret _ _;refine ret2 rfl ha rfl rfl ?_;refine ⟨?_,hs⟩
            (rw [if_pos hc93] at hpt; rw [hpt]; rfl)
          · refine wp_skip ?_;refine hK18 _ _ ?_;refine wp_seq_k fun K21 hK21=>?_;refine wp_region_lit ?_;refine pY ha (yMove rfl) fun a ha=>?_;refine pY ha (yMove rfl) fun a ha=>?_;refine pY ha (yAssign rfl) fun a ha=>?_;refine pY ha (yAssign rfl) fun a ha=>?_;refine pZ ?_;refine hK21 _ _ ?_;refine wp_ret ?_;show bodyPost Tryz.prog Tryz.f117 _ .ret _ _;refine ret2 rfl ha rfl rfl ?_;refine ⟨?_,hs⟩
            (rw [if_neg hc93] at hpt; rw [hpt])
  refine wp_block ?_;refine wp_seq_k fun K22 hK22=>?_;refine cutC (fun a w=>Has a 96 [(16,.bool (decide (1≤b0.toNat∧b0.toNat < 128))),(0,.string s),(1,.int .i64 i0),(6,.int .i64 b0.toNat)]∧Sep W w cs) ?_ ?_
  · refine wp_region_lit ?_;refine pY ha (yMove rfl) fun a ha=>?_;refine pY ha (yGeq rfl rfl) fun a ha=>?_;refine pY ha (yMove rfl) fun a ha=>?_;refine gDec (t:=19) ha rfl (fun hg2 hp2=>?_) (fun hg2 hp2=>?_)
    · rw [hg2] at ha;refine gOff ha fun a ha=>?_;refine gOff ha fun a ha=>?_;refine pY ha (yPickF rfl rfl) fun a ha=>?_;refine pY ha (yAssign rfl) fun a ha=>?_;refine pZ ⟨rfl,?_⟩;exact ⟨has4 ha (bF (by omega)) rfl rfl rfl,hs⟩
    · rw [hg2] at ha;refine gOn ha ?_;refine pY ha (yMove rfl) fun a ha=>?_;refine gOn ha ?_;refine pY ha (yLss rfl rfl) fun a ha=>?_;refine pY ha (yPickT rfl rfl) fun a ha=>?_;refine pY ha (yAssign rfl) fun a ha=>?_;refine pZ ⟨rfl,?_⟩;exact ⟨has4 ha (bT (by omega)) rfl rfl rfl,hs⟩
  rintro a w ⟨ha,hs⟩;refine hK22 _ _ ?_;refine cDec ha rfl (fun hc16=>?_) (fun hc16=>?_)
  · refine wp_seq_k fun K23 hK23=>?_;refine wp_region_lit ?_;refine pY ha (yMove rfl) fun a ha=>?_;refine pY ha (yAssign rfl) fun a ha=>?_;refine pY ha (yAssign rfl) fun a ha=>?_;refine pZ ?_;refine hK23 _ _ ?_;refine wp_ret ?_;show bodyPost Tryz.prog Tryz.f117 _ .ret _ _;refine ret2 rfl ha rfl rfl ?_;refine ⟨?_,hs⟩
    (rw [point_ascii hc16]; rfl)
  · refine wp_seq_k fun K24 hK24=>?_;refine cutC (fun a w=>Has a 96 [(24,.bool (decide (194≤b0.toNat∧b0.toNat < 224))),(0,.string s),(1,.int .i64 i0),(6,.int .i64 b0.toNat)]∧Sep W w cs) ?_ ?_
    · refine wp_region_lit ?_;refine pY ha (yMove rfl) fun a ha=>?_;refine pY ha (yGeq rfl rfl) fun a ha=>?_;refine pY ha (yMove rfl) fun a ha=>?_;refine gDec (t:=27) ha rfl (fun hg2 hp2=>?_) (fun hg2 hp2=>?_)
      · rw [hg2] at ha;refine gOff ha fun a ha=>?_;refine gOff ha fun a ha=>?_;refine pY ha (yPickF rfl rfl) fun a ha=>?_;refine pY ha (yAssign rfl) fun a ha=>?_;refine pZ ⟨rfl,?_⟩;exact ⟨has4 ha (bF (by omega)) rfl rfl rfl,hs⟩
      · rw [hg2] at ha;refine gOn ha ?_;refine pY ha (yMove rfl) fun a ha=>?_;refine gOn ha ?_;refine pY ha (yLss rfl rfl) fun a ha=>?_;refine pY ha (yPickT rfl rfl) fun a ha=>?_;refine pY ha (yAssign rfl) fun a ha=>?_;refine pZ ⟨rfl,?_⟩;exact ⟨has4 ha (bT (by omega)) rfl rfl rfl,hs⟩
    rintro a w ⟨ha,hs⟩;refine hK24 _ _ ?_;refine cDec ha rfl (fun hc24=>?_) (fun hc24=>?_)
    · refine wp_region_lit ?_;refine pY ha (yMove rfl) fun a ha=>?_;refine pY ha (yAndM (q:=32) 5 rfl rfl (by decide) (by decide) (by decide) (by omega) (by simp only [roomy]; omega)) fun a ha=>?_;refine pY ha (yAssign rfl) fun a ha=>?_;refine pY ha (yAssign rfl) fun a ha=>?_;refine pY ha (yAssign rfl) fun a ha=>?_;refine pZ ?_;refine hJ4 _ _ ?_;exact ⟨2,b0.toNat % 32,128,by unfold lead; omega,has5 ha rfl rfl rfl rfl rfl,hs⟩
    · refine wp_seq_k fun K25 hK25=>?_;refine cutC (fun a w=>Has a 96 [(33,.bool (decide (224≤b0.toNat∧b0.toNat < 240))),(0,.string s),(1,.int .i64 i0),(6,.int .i64 b0.toNat)]∧Sep W w cs) ?_ ?_
      · refine wp_region_lit ?_;refine pY ha (yMove rfl) fun a ha=>?_;refine pY ha (yGeq rfl rfl) fun a ha=>?_;refine pY ha (yMove rfl) fun a ha=>?_;refine gDec (t:=36) ha rfl (fun hg2 hp2=>?_) (fun hg2 hp2=>?_)
        · rw [hg2] at ha;refine gOff ha fun a ha=>?_;refine gOff ha fun a ha=>?_;refine pY ha (yPickF rfl rfl) fun a ha=>?_;refine pY ha (yAssign rfl) fun a ha=>?_;refine pZ ⟨rfl,?_⟩;exact ⟨has4 ha (bF (by omega)) rfl rfl rfl,hs⟩
        · rw [hg2] at ha;refine gOn ha ?_;refine pY ha (yMove rfl) fun a ha=>?_;refine gOn ha ?_;refine pY ha (yLss rfl rfl) fun a ha=>?_;refine pY ha (yPickT rfl rfl) fun a ha=>?_;refine pY ha (yAssign rfl) fun a ha=>?_;refine pZ ⟨rfl,?_⟩;exact ⟨has4 ha (bT (by omega)) rfl rfl rfl,hs⟩
      rintro a w ⟨ha,hs⟩;refine hK25 _ _ ?_;refine cDec ha rfl (fun hc33=>?_) (fun hc33=>?_)
      · refine wp_region_lit ?_;refine pY ha (yMove rfl) fun a ha=>?_;refine pY ha (yAndM (q:=16) 4 rfl rfl (by decide) (by decide) (by decide) (by omega) (by simp only [roomy]; omega)) fun a ha=>?_;refine pY ha (yAssign rfl) fun a ha=>?_;refine pY ha (yAssign rfl) fun a ha=>?_;refine pY ha (yAssign rfl) fun a ha=>?_;refine pZ ?_;refine hJ4 _ _ ?_;exact ⟨3,b0.toNat % 16,2048,by unfold lead; omega,has5 ha rfl rfl rfl rfl rfl,hs⟩
      · refine wp_seq_k fun K26 hK26=>?_;refine cutC (fun a w=>Has a 96 [(42,.bool (decide (240≤b0.toNat∧b0.toNat < 245))),(0,.string s),(1,.int .i64 i0),(6,.int .i64 b0.toNat)]∧Sep W w cs) ?_ ?_
        · refine wp_region_lit ?_;refine pY ha (yMove rfl) fun a ha=>?_;refine pY ha (yGeq rfl rfl) fun a ha=>?_;refine pY ha (yMove rfl) fun a ha=>?_;refine gDec (t:=45) ha rfl (fun hg2 hp2=>?_) (fun hg2 hp2=>?_)
          · rw [hg2] at ha;refine gOff ha fun a ha=>?_;refine gOff ha fun a ha=>?_;refine pY ha (yPickF rfl rfl) fun a ha=>?_;refine pY ha (yAssign rfl) fun a ha=>?_;refine pZ ⟨rfl,?_⟩;exact ⟨has4 ha (bF (by omega)) rfl rfl rfl,hs⟩
          · rw [hg2] at ha;refine gOn ha ?_;refine pY ha (yMove rfl) fun a ha=>?_;refine gOn ha ?_;refine pY ha (yLss rfl rfl) fun a ha=>?_;refine pY ha (yPickT rfl rfl) fun a ha=>?_;refine pY ha (yAssign rfl) fun a ha=>?_;refine pZ ⟨rfl,?_⟩;exact ⟨has4 ha (bT (by omega)) rfl rfl rfl,hs⟩
        rintro a w ⟨ha,hs⟩;refine hK26 _ _ ?_;refine cDec ha rfl (fun hc42=>?_) (fun hc42=>?_)
        · refine wp_region_lit ?_;refine pY ha (yMove rfl) fun a ha=>?_;refine pY ha (yAndM (q:=8) 3 rfl rfl (by decide) (by decide) (by decide) (by omega) (by simp only [roomy]; omega)) fun a ha=>?_;refine pY ha (yAssign rfl) fun a ha=>?_;refine pY ha (yAssign rfl) fun a ha=>?_;refine pY ha (yAssign rfl) fun a ha=>?_;refine pZ ?_;refine hJ4 _ _ ?_;exact ⟨4,b0.toNat % 8,65536,by unfold lead; omega,has5 ha rfl rfl rfl rfl rfl,hs⟩
        · refine wp_seq_k fun K27 hK27=>?_;refine wp_region_lit ?_;refine pY ha (yAssign rfl) fun a ha=>?_;refine pY ha (yAssign rfl) fun a ha=>?_;refine pZ ?_;refine hK27 _ _ ?_;refine wp_ret ?_;show bodyPost Tryz.prog Tryz.f117 _ .ret _ _;refine ret2 rfl ha rfl rfl ?_;refine ⟨?_,hs⟩
          (rw [point_none (by omega)]; rfl)
theorem points_step {n : Nat} {l : List UInt8} (h : l ≠ []) : pointsL (n + 1) l = if (pointL l).2 = 0 then none else (pointsL n (l.drop (pointL l).2)).map ((pointL l).1::·):=by
  rw [pointsL,if_neg h]
theorem points_nil : ∀ n,pointsL n [] = some []
  | 0=>rfl
  | n + 1=>by rw [pointsL,if_pos rfl]
theorem points_fuel : ∀ (n m : Nat) (l : List UInt8),l.length≤n→l.length≤m→pointsL n l = pointsL m l
  | 0,m,l,h,_=>by
    obtain rfl : l = []:=List.eq_nil_of_length_eq_zero (by omega);rw [points_nil,points_nil]
  | n + 1,0,l,_,h=>by
    obtain rfl : l = []:=List.eq_nil_of_length_eq_zero (by omega);rw [points_nil,points_nil]
  | n + 1,m + 1,l,h,h'=>by
    by_cases hl : l = []
    · subst hl; rw [points_nil,points_nil]
    · rw [points_step hl,points_step hl]
      split
      · rfl
      · rw [points_fuel n m _ (by rw [List.length_drop]; have:=List.length_pos_iff.2 hl; omega) (by rw [List.length_drop]; have:=List.length_pos_iff.2 hl; omega)]
/-- The points of a text. -/
def ptsOf (s : ByteArray) : Option (List Int):=(pointsL s.size s.data.toList).map (·.map Int.ofNat)
theorem Points_c (s : ByteArray) (hsz : s.size≤140737488355328 / 8) (hs : Sep W w cs) :
    Calls P 93 #[.string s] w (Rt fun v w'=>match ptsOf s with
      | none=>v = .tuple #[.slice none 0 0,.bool false]∧Sep W w' cs
      | some ps=>∃ A c,v = .tuple #[.slice A ps.length c,.bool true]∧Sep W w' (.ol kInt 3 (.slice A ps.length c) ps::cs)):=by
  refine enter Tryz.func93 Tryz.ntmps93 rfl rfl fun a (ha : Has a 28 [(0,_)])=>?_;refine wp_seq_k fun K1 hK1=>?_;refine wp_region_lit ?_;refine pY ha (yAssign rfl) fun a ha=>?_;refine pY ha (yAssign rfl) fun a ha=>?_;refine pZ ?_;refine hK1 _ _ ?_;refine wp_seq_k fun K2 hK2=>?_;refine wp_region_lit ?_;refine pY ha (yAssign rfl) fun a ha=>?_;refine pZ ?_;refine hK2 _ _ ?_;refine wp_seq_k fun K3 hK3=>?_;refine wp_seq_k fun K4 hK4=>?_;refine wp_region_lit ?_;refine pY ha (yAssign rfl) fun a ha=>?_;refine pZ ?_;refine hK4 _ _ ?_;refine wp_block ?_;refine loopI (ι:=Nat × List Nat × Option Addr × Nat) (fun i a w=>i.1≤s.size∧i.2.1.length≤i.1∧pointsL s.size s.data.toList = (pointsL (s.size - i.1) (s.data.toList.drop i.1)).map (i.2.1++·)∧Has a 28 [(0,.string s),(5,.int .i64 i.1),(4,.slice i.2.2.1 i.2.1.length i.2.2.2)]∧Sep W w (.ol kInt 3 (.slice i.2.2.1 i.2.1.length i.2.2.2) (i.2.1.map Int.ofNat)::cs)) (fun i=>s.size - i.1) ((0,[],none,0)) ?_ ?_
  · exact ⟨Nat.zero_le _,Nat.le_refl _,by simp,has3 ha rfl rfl rfl,hs.ol_nil kInt _ none⟩
  · rintro i a w ⟨h1,h2,h3,ha,hs⟩;obtain ⟨i,ps,A,c⟩:=i; simp only at h1 h2 h3 ha hs;refine wp_seq_k fun K5 hK5=>?_;refine wp_seq_k fun K6 hK6=>?_;refine wp_region_lit ?_;refine pY ha (yMove rfl) fun a ha=>?_;refine pY ha (yMove rfl) fun a ha=>?_;refine pY ha (yLenStr Tryz.runUnderlying9 rfl) fun a ha=>?_;refine pY ha (yLss rfl rfl) fun a ha=>?_;refine pZ ?_;refine hK6 _ _ ?_;refine cDec ha rfl (fun hc11=>?_) (fun hc11=>?_)
    · have hll : s.data.toList.length = s.size:=by simp
      have hne : s.data.toList.drop i ≠ []:=by intro e; have:=congrArg List.length e; rw [List.length_drop] at this; simp at this; omega
      have hf:=pointL_fst (s.data.toList.drop i)
      have hw:=pointL_width hne
      rw [List.length_drop] at hw;refine wp_skip ?_;refine hK5 _ _ ?_;refine wp_block ?_;refine wp_seq_k fun K7 hK7=>?_;refine wp_region_lit ?_;refine pY ha (yMove rfl) fun a ha=>?_;refine pY ha (yMove rfl) fun a ha=>?_;refine pC ha (nCall Tryz.call117 rfl) rfl (Point_c s i (by omega) (by omega) hs) ?_;rintro v w ⟨rfl,hs⟩ a ha;refine pY ha (yMove rfl) fun a ha=>?_;refine pY ha (yExtract rfl rfl) fun a ha=>?_;refine pY ha (yExtract rfl rfl) fun a ha=>?_;refine pY ha (yAssign rfl) fun a ha=>?_;refine pY ha (yAssign rfl) fun a ha=>?_;refine pZ ?_;refine hK7 _ _ ?_;refine wp_seq_k fun K8 hK8=>?_;refine wp_seq_k fun K9 hK9=>?_;refine wp_region_lit ?_;refine pY ha (yMove rfl) fun a ha=>?_;refine pY ha (yEql rfl rfl) fun a ha=>?_;refine pZ ?_;refine hK9 _ _ ?_;refine cDec ha rfl (fun hc19=>?_) (fun hc19=>?_)
      · refine wp_seq_k fun K10 hK10=>?_;refine wp_region_lit ?_;refine pY ha (yAssign rfl) fun a ha=>?_;refine pY ha (yAssign rfl) fun a ha=>?_;refine pZ ?_;refine hK10 _ _ ?_;refine wp_ret ?_;show bodyPost Tryz.prog Tryz.f93 _ .ret _ _;refine ret2 rfl ha rfl rfl ?_;obtain ⟨k,hk⟩ : ∃ k,s.size - i = k + 1:=⟨s.size - i - 1,by omega⟩;rw [hk,points_step hne,if_pos (by omega)] at h3;unfold ptsOf;rw [h3];exact ⟨rfl,hs.drop⟩
      · refine wp_skip ?_;refine hK8 _ _ ?_;refine wp_seq_k fun K11 hK11=>?_;refine wp_region_lit ?_;refine pY ha (yMove rfl) fun a ha=>?_;refine pY ha (yMove rfl) fun a ha=>?_;refine pMake ha (bslTxt93_1_0 rfl) hs rfl fun b w hs a ha=>?_;refine pApp1F ha elTxt93 rfl rfl hs pk1 pk0 (by intro Z; exact ⟨rfl,by omega,by omega⟩) rfl (by (simp [maxLen]; omega)) (by (simp [maxLen]; omega)) rfl fun A c w hs a ha=>?_;refine pY ha (yAssign rfl) fun a ha=>?_;refine pZ ?_;refine hK11 _ _ ?_;refine wp_region_lit ?_;refine pY ha (yMove rfl) fun a ha=>?_;refine pY ha (yMove rfl) fun a ha=>?_;refine pY ha (yAddN rfl rfl ⟨by omega,by omega⟩) fun a ha=>?_;refine pY ha (yAssign rfl) fun a ha=>?_;refine pZ ?_;refine ⟨(i + (pointL (s.data.toList.drop i)).2,ps++[(pointL (s.data.toList.drop i)).1],A,c),⟨by simp only; omega,by simp; omega,?_,has3 ha rfl rfl (by simp only [List.length_append,List.length_map]; rfl),by simpa using hs⟩,by simp only; omega⟩;obtain ⟨k,hk⟩ : ∃ k,s.size - i = k + 1:=⟨s.size - i - 1,by omega⟩;rw [h3,hk,points_step hne,if_neg (by omega),List.drop_drop,Option.map_map];rw [points_fuel k (s.size - (i + (pointL (s.data.toList.drop i)).2)) _ (by rw [List.length_drop]; omega) (by rw [List.length_drop]; omega)]
        congr 1
        funext x; simp
    · refine wp_exit ?_;refine hK3 _ _ ?_;refine wp_seq_k fun K12 hK12=>?_;refine wp_region_lit ?_;refine pY ha (yMove rfl) fun a ha=>?_;refine pY ha (yAssign rfl) fun a ha=>?_;refine pY ha (yAssign rfl) fun a ha=>?_;refine pZ ?_;refine hK12 _ _ ?_;refine wp_ret ?_;show bodyPost Tryz.prog Tryz.f93 _ .ret _ _;refine ret2 rfl ha rfl rfl ?_;obtain rfl : i = s.size:=by omega
      rw [List.drop_eq_nil_of_le (by simp),points_nil] at h3;unfold ptsOf;rw [h3];exact ⟨A,c,by simp,by simpa using hs⟩
theorem Points_b (s : ByteArray) (hsz : s.size≤140737488355328 / 8) (hs : Sep W w cs) :
    Calls P 93 #[.string s] w (Rt fun v w'=>∃ V,v = .tuple #[V,.bool (ptsOf s).isSome]∧Sep W w' cs) :=
  (Points_c s hsz hs).mono fun e w' h=>by
    cases e with
    | returned v=>
      change (match ptsOf s with | none=>_ | some ps=>_) at h
      show ∃ V,_
      cases hp : ptsOf s with
      | none=>rw [hp] at h; exact ⟨_,h.1,h.2⟩
      | some ps=>
        rw [hp] at h;obtain ⟨A,c,rfl,h⟩:=h;exact ⟨_,rfl,h.drop⟩
    | _=>exact h
theorem RValid_c (s : ByteArray) (hsz : s.size≤140737488355328 / 8) (hs : Sep W w cs) :
    Calls P 55 #[.string s] w (Rt fun v w'=>v = .bool (okText s.data.toList)∧Sep W w' cs):=by
  have hp : (ptsOf s).isSome = okText s.data.toList:=by
    unfold ptsOf;rw [Option.isSome_map];exact points_ok _ _ (by simp)
  refine enter Tryz.func55 Tryz.ntmps55 rfl rfl fun a (ha : Has a 11 [(0,_)])=>?_;refine wp_seq_k fun K1 hK1=>?_;refine wp_region_lit ?_;refine pY ha (yAssign rfl) fun a ha=>?_;refine pZ ?_;refine hK1 _ _ ?_;refine wp_seq_k fun K2 hK2=>?_;refine wp_region_lit ?_;refine pY ha (yMove rfl) fun a ha=>?_;refine pC ha (nCall Tryz.call93 rfl) rfl (Points_b s hsz hs) ?_;rintro v w ⟨V,rfl,hs⟩ a ha;refine pY ha (yMove rfl) fun a ha=>?_;refine pY ha (yExtract rfl rfl) fun a ha=>?_;refine pY ha (yExtract rfl rfl) fun a ha=>?_;refine pY ha (yAssign rfl) fun a ha=>?_;refine pY ha (yAssign rfl) fun a ha=>?_;refine pZ ?_;refine hK2 _ _ ?_;refine wp_seq_k fun K3 hK3=>?_;refine wp_region_lit ?_;refine pY ha (yMove rfl) fun a ha=>?_;refine pY ha (yAssign rfl) fun a ha=>?_;refine pZ ?_;refine hK3 _ _ ?_;refine wp_ret ?_;show bodyPost Tryz.prog Tryz.f55 _ .ret _ _;refine ret1 rfl ha rfl ?_;rw [hp]; exact ⟨rfl,hs⟩
end
end Go.Proofs.YtnlhbkaieoogfaaGreatDoor

set_option linter.unusedVariables false
set_option linter.unusedSimpArgs false
namespace Go.Proofs.YtnlhbkaieoogfaaGreatDoor
open Go.Lib
theorem dec_cont (n b0 b1 b2 b3 : Nat) (hn : 1≤n) (hg : ¬ ((decodeN n b0 b1 b2 b3).1 = 65533∧(decodeN n b0 b1 b2 b3).2 = 1)) :
    b0 / 64 ≠ 2∧((decodeN n b0 b1 b2 b3).2 = 1∨((decodeN n b0 b1 b2 b3).2 = 2∧b1 / 64 = 2)∨((decodeN n b0 b1 b2 b3).2 = 3∧b1 / 64 = 2∧b2 / 64 = 2)∨((decodeN n b0 b1 b2 b3).2 = 4∧b1 / 64 = 2∧b2 / 64 = 2∧b3 / 64 = 2)):=by
  revert hg
  unfold decodeN
  repeat' split
  all_goals intro hg; first | (exfalso; exact hg ⟨rfl,rfl⟩) | exact ⟨by omega,.inl rfl⟩ | exact ⟨by omega,.inr (.inl ⟨rfl,by omega⟩)⟩ | exact ⟨by omega,.inr (.inr (.inl ⟨rfl,by omega,by omega⟩))⟩ | exact ⟨by omega,.inr (.inr (.inr ⟨rfl,by omega,by omega,by omega⟩))⟩
theorem cnt_cons (b : UInt8) (l : List UInt8) : cnt (b::l) = cnt l + if b.toNat / 64 = 2 then 0 else 1:=by
  unfold cnt;rw [List.countP_cons]
  by_cases h : b.toNat / 64 = 2 <;> simp [h]
theorem cnt_append (a b : List UInt8) : cnt (a++b) = cnt a + cnt b:=by unfold cnt; exact List.countP_append
theorem cnt_nil : cnt [] = 0:=rfl
/-- A text's first code point. -/
theorem ok_step {l : List UInt8} (hl : l ≠ []) (h : okText l = true) : 1≤(decodeL l).2∧(decodeL l).2≤l.length∧(decodeL l).2≤4∧cnt (l.take (decodeL l).2) = 1∧okText (l.drop (decodeL l).2) = true∧pointL l = decodeL l∧(l.getD 0 0).toNat / 64 ≠ 2:=by
  unfold okText at h ⊢;rw [Bool.and_eq_true,validD_step l hl] at h;obtain ⟨h1,h2⟩:=h
  have hd : ¬ ((decodeL l).1 = 65533∧(decodeL l).2 = 1):=fun e=>by rw [if_pos e] at h1; cases h1
  rw [if_neg hd] at h1
  have hz : ¬ (l.getD 0 0).toNat = 0:=fun e=>by
    cases l with
    | nil=>exact hl rfl
    | cons b t=>
      have : b = 0:=u8_zero.1 (by simpa using e)
      subst this
      simp at h2
  have hp:=pointL_good (l:=l) (by simp only [not_or]; exact ⟨hz,hd⟩)
  have hw:=decodeL_width l
  have hpos:=List.length_pos_iff.2 hl
  have hN:=decodeL_N l
  have hle : (decodeL l).2≤l.length:=by rw [hN]; exact decodeN_width _ _ _ _ _ (by omega)
  have hd':=hd
  rw [hN] at hd'
  have hc:=dec_cont _ _ _ _ _ (by omega) hd'
  rw [← hN] at hc;obtain ⟨hb0,hc⟩:=hc;refine ⟨by omega,hle,by omega,?_,?_,hp,hb0⟩
  · generalize (decodeL l).2 = k at hc hle
    match l,hl with
    | [b0],_=>
      simp only [List.length_cons,List.length_nil] at hle;simp only [List.getD_cons_zero] at hb0
      rcases hc with rfl | ⟨rfl,_⟩ | ⟨rfl,_⟩ | ⟨rfl,_⟩
      · show cnt [b0] = 1; rw [cnt_cons,cnt_nil,if_neg hb0]
      all_goals omega
    | [b0,b1],_=>
      simp only [List.length_cons,List.length_nil] at hle;simp only [List.getD_cons_zero,List.getD_cons_succ] at hb0 hc
      rcases hc with rfl | ⟨rfl,g1⟩ | ⟨rfl,_⟩ | ⟨rfl,_⟩
      · show cnt [b0] = 1; rw [cnt_cons,cnt_nil,if_neg hb0]
      · show cnt [b0,b1] = 1; rw [cnt_cons,cnt_cons,cnt_nil,if_neg hb0,if_pos g1]
      all_goals omega
    | [b0,b1,b2],_=>
      simp only [List.length_cons,List.length_nil] at hle;simp only [List.getD_cons_zero,List.getD_cons_succ] at hb0 hc
      rcases hc with rfl | ⟨rfl,g1⟩ | ⟨rfl,g1,g2⟩ | ⟨rfl,_⟩
      · show cnt [b0] = 1; rw [cnt_cons,cnt_nil,if_neg hb0]
      · show cnt [b0,b1] = 1; rw [cnt_cons,cnt_cons,cnt_nil,if_neg hb0,if_pos g1]
      · show cnt [b0,b1,b2] = 1; rw [cnt_cons,cnt_cons,cnt_cons,cnt_nil,if_neg hb0,if_pos g1,if_pos g2]
      all_goals omega
    | b0::b1::b2::b3::t,_=>
      simp only [List.getD_cons_zero,List.getD_cons_succ] at hb0 hc
      rcases hc with rfl | ⟨rfl,g1⟩ | ⟨rfl,g1,g2⟩ | ⟨rfl,g1,g2,g3⟩
      · show cnt [b0] = 1; rw [cnt_cons,cnt_nil,if_neg hb0]
      · show cnt [b0,b1] = 1; rw [cnt_cons,cnt_cons,cnt_nil,if_neg hb0,if_pos g1]
      · show cnt [b0,b1,b2] = 1; rw [cnt_cons,cnt_cons,cnt_cons,cnt_nil,if_neg hb0,if_pos g1,if_pos g2]
      · show cnt [b0,b1,b2,b3] = 1; rw [cnt_cons,cnt_cons,cnt_cons,cnt_cons,cnt_nil,if_neg hb0,if_pos g1,if_pos g2,if_pos g3]
  · rw [h1,Bool.true_and]
    cases hc2 : (l.drop (decodeL l).2).contains 0 with
    | false=>rfl
    | true=>
      have : l.contains 0 = true:=by
        simp only [List.contains_iff_mem] at hc2 ⊢;exact List.mem_of_mem_drop hc2
      rw [this] at h2; cases h2
theorem cnt_split (l : List UInt8) (k : Nat) : cnt l = cnt (l.take k) + cnt (l.drop k):=by rw [← cnt_append,List.take_append_drop]
theorem cnt_step {l : List UInt8} (hl : l ≠ []) (h : okText l = true) : cnt l = 1 + cnt (l.drop (decodeL l).2):=by
  obtain ⟨_,_,_,h1,_⟩:=ok_step hl h;rw [cnt_split l (decodeL l).2,h1]
theorem cnt_four : ∀ (n : Nat) (l : List UInt8),l.length≤n→okText l = true→l.length≤4 * cnt l
  | 0,l,h,_=>by omega
  | n + 1,l,h,hok=>by
    by_cases hl : l = []
    · subst hl; simp
    · obtain ⟨h1,h2,h3,_,h5,_⟩:=ok_step hl hok
      have ih:=cnt_four n (l.drop (decodeL l).2) (by rw [List.length_drop]; omega) h5
      rw [List.length_drop] at ih;rw [cnt_step hl hok]
      omega
theorem cnt_le (l : List UInt8) : cnt l≤l.length:=List.countP_le_length
theorem points_cnt : ∀ (n : Nat) (l : List UInt8) (ps : List Nat),l.length≤n→okText l = true→pointsL n l = some ps→ps.length = cnt l
  | 0,l,ps,h,_,hp=>by
    obtain rfl : l = []:=List.eq_nil_of_length_eq_zero (by omega);simp only [pointsL,Option.some.injEq] at hp; subst hp; rfl
  | n + 1,l,ps,h,hok,hp=>by
    by_cases hl : l = []
    · subst hl; rw [points_nil] at hp; simp only [Option.some.injEq] at hp; subst hp; rfl
    · obtain ⟨h1,h2,_,_,h5,h6,_⟩:=ok_step hl hok;rw [points_step hl,h6,if_neg (by omega)] at hp;simp only [Option.map_eq_some_iff] at hp;obtain ⟨qs,hq,rfl⟩:=hp
      have:=points_cnt n _ qs (by rw [List.length_drop]; omega) h5 hq
      rw [cnt_step hl hok,← this]
      simp; omega
end Go.Proofs.YtnlhbkaieoogfaaGreatDoor

namespace Go.Proofs.YtnlhbkaieoogfaaGreatDoor
open Go.Shelf
def laysValid_ren : Go.Shelf.Ren:=⟨fun | 196=>119 | 259=>126 | n=>n,fun | 9=>9 | 4=>4 | 3=>3 | 5=>5 | 12=>12 | 119=>156 | 0=>0 | 46=>138 | 139=>159 | 138=>158 | 53=>162 | n=>n,fun | 3=>0 | 4=>1 | n=>n⟩
theorem laysValid : Go.Proofs.Lays.n196 Tryz.prog laysValid_ren := {
  mixed:=by kernel_rfl
  f196:=Tryz.func119.trans (congrArg some (by kernel_rfl))
  f259:=Tryz.func126.trans (congrArg some (by kernel_rfl))
  t0:=Tryz.underlying0
  a0:=Tryz.isAgg0
  z0:=Tryz.sizeOf0
  v0:=Tryz.zeroValue0
  t3:=Tryz.underlying3
  a3:=Tryz.isAgg3
  z3:=Tryz.sizeOf3
  v3:=Tryz.zeroValue3
  t4:=Tryz.underlying4
  a4:=Tryz.isAgg4
  z4:=Tryz.sizeOf4
  v4:=Tryz.zeroValue4
  t5:=Tryz.underlying5
  a5:=Tryz.isAgg5
  z5:=Tryz.sizeOf5
  v5:=Tryz.zeroValue5
  t9:=Tryz.underlying9
  a9:=Tryz.isAgg9
  z9:=Tryz.sizeOf9
  v9:=Tryz.zeroValue9
  t12:=Tryz.underlying12
  a12:=Tryz.isAgg12
  z12:=Tryz.sizeOf12
  v12:=Tryz.zeroValue12
  t46:=Tryz.underlying138
  a46:=Tryz.isAgg138
  z46:=Tryz.sizeOf138
  v46:=Tryz.zeroValue138
  t53:=Tryz.underlying162
  a53:=Tryz.isAgg162
  z53:=Tryz.sizeOf162
  v53:=Tryz.zeroValue162
  t119:=Tryz.underlying156
  a119:=Tryz.isAgg156
  z119:=Tryz.sizeOf156
  t138:=Tryz.underlying158
  a138:=Tryz.isAgg158
  z138:=Tryz.sizeOf158
  v138:=Tryz.zeroValue158
  t139:=Tryz.underlying159
  a139:=Tryz.isAgg159
  z139:=Tryz.sizeOf159
  v139:=Tryz.zeroValue159
  g3:=by kernel_rfl
  g4:=by kernel_rfl }
def laysContains_ren : Go.Shelf.Ren:=⟨fun | 144=>120 | 143=>127 | 219=>131 | 217=>132 | 225=>133 | 224=>134 | 267=>135 | 266=>136 | 314=>137 | n=>n,fun | 9=>9 | 4=>4 | 3=>3 | 5=>5 | 46=>138 | 146=>165 | 51=>164 | n=>n,fun | 1=>2 | n=>n⟩
theorem laysContains : Go.Proofs.Lays.n144 Tryz.prog laysContains_ren := {
  mixed:=by kernel_rfl
  f143:=Tryz.func127.trans (congrArg some (by kernel_rfl))
  f144:=Tryz.func120.trans (congrArg some (by kernel_rfl))
  f217:=Tryz.func132.trans (congrArg some (by kernel_rfl))
  f219:=Tryz.func131.trans (congrArg some (by kernel_rfl))
  f224:=Tryz.func134.trans (congrArg some (by kernel_rfl))
  f225:=Tryz.func133.trans (congrArg some (by kernel_rfl))
  f266:=Tryz.func136.trans (congrArg some (by kernel_rfl))
  f267:=Tryz.func135.trans (congrArg some (by kernel_rfl))
  f314:=Tryz.func137.trans (congrArg some (by kernel_rfl))
  t3:=Tryz.underlying3
  a3:=Tryz.isAgg3
  z3:=Tryz.sizeOf3
  v3:=Tryz.zeroValue3
  t4:=Tryz.underlying4
  a4:=Tryz.isAgg4
  z4:=Tryz.sizeOf4
  v4:=Tryz.zeroValue4
  t5:=Tryz.underlying5
  a5:=Tryz.isAgg5
  z5:=Tryz.sizeOf5
  v5:=Tryz.zeroValue5
  t9:=Tryz.underlying9
  a9:=Tryz.isAgg9
  z9:=Tryz.sizeOf9
  v9:=Tryz.zeroValue9
  t46:=Tryz.underlying138
  a46:=Tryz.isAgg138
  z46:=Tryz.sizeOf138
  v46:=Tryz.zeroValue138
  t51:=Tryz.underlying164
  a51:=Tryz.isAgg164
  z51:=Tryz.sizeOf164
  v51:=Tryz.zeroValue164
  t146:=Tryz.underlying165
  a146:=Tryz.isAgg165
  z146:=Tryz.sizeOf165
  v146:=Tryz.zeroValue165
  g1:=by kernel_rfl }
end Go.Proofs.YtnlhbkaieoogfaaGreatDoor

set_option linter.unusedVariables false
set_option linter.unusedSimpArgs false
namespace Go.Proofs.YtnlhbkaieoogfaaGreatDoor
open Go.RowKit Go.Lib
/-- The library's two tables. -/
def Tabs (W : World) : Prop:=Lib.Utf8Tabs (laysValid_ren.g 3) (laysValid_ren.g 4) W
section
variable {W w : World} {cs r : List Ch}
theorem ValidString_c (hT : Tabs W) (s : ByteArray) (hsz : s.size≤9223372036854775807) (hs : Sep W w cs) :
    Calls P 119 #[.string s] w (Rt fun v w'=>v = .bool (validD s.data.toList)∧Sep W w' cs) :=
  (Any.utf8_ValidString laysValid s w hsz (Utf8Tabs_below hT hs.below)).mono fun e w' ⟨he,hb⟩=>by
    subst he;exact ⟨rfl,hs.of_below hb⟩
theorem index_zero : ∀ (l : List UInt8) (c : UInt8),-1≤indexByte l c∧(decide (0≤indexByte l c)) = l.contains c
  | [],c=>by simp [indexByte]
  | b::l,c=>by
    have ⟨h1,h2⟩:=index_zero l c
    rw [List.contains_cons,← h2]
    have e : indexByte (b::l) c = if (b == c) = true then 0 else if (indexByte l c == -1) = true then -1 else indexByte l c + 1:=rfl
    rw [e]
    by_cases hb : b = c
    · subst hb; simp
    · have e1 : (b == c) = false:=by simpa using hb
      have e2 : (c == b) = false:=by simpa using fun e=>hb e.symm
      rw [e1,e2]
      by_cases hm : indexByte l c = -1
      · rw [hm]; decide
      · have e3 : (indexByte l c == -1) = false:=by simpa using hm
        rw [e3]
        simp
        omega
theorem Contains_c (s : ByteArray) (hs : Sep W w cs) : Calls P 120 #[.string s,.string ⟨#[0]⟩] w (Rt fun v w'=>v = .bool (s.data.toList.contains 0)∧Sep W w' cs) :=
  (Any.strings_Contains_one laysContains s 0 w).mono fun e w' ⟨he,hw⟩=>by
    subst he; subst hw;exact ⟨congrArg Value.bool (index_zero _ _).2,hs⟩
theorem Valid_c (hT : Tabs W) (s : ByteArray) (hsz : s.size≤9223372036854775807) (hs : Sep W w cs) :
    Calls P 102 #[.string s] w (Rt fun v w'=>v = .bool (okText s.data.toList)∧Sep W w' cs):=by
  refine enter Tryz.func102 Tryz.ntmps102 rfl rfl fun a (ha : Has a 10 [(0,_)])=>?_;refine wp_seq_k fun K1 hK1=>?_;refine wp_region_lit ?_;refine pY ha (yAssign rfl) fun a ha=>?_;refine pZ ?_;refine hK1 _ _ ?_;refine wp_seq_k fun K2 hK2=>?_;refine wp_region_lit ?_;refine pY ha (yMove rfl) fun a ha=>?_;refine pC ha (nCall Tryz.call119 rfl) rfl (ValidString_c hT s hsz hs) ?_;rintro v w ⟨rfl,hs⟩ a ha;refine pY ha (yMove rfl) fun a ha=>?_;refine gSplit (t:=5) ha rfl (fun hg2=>?_) (fun hg2=>?_)
  · rw [hg2] at ha;refine gOff ha fun a ha=>?_;refine gOff ha fun a ha=>?_;refine gOff ha fun a ha=>?_;refine pY ha (yPickF rfl rfl) fun a ha=>?_;refine pY ha (yAssign rfl) fun a ha=>?_;refine pZ ?_;refine hK2 _ _ ?_;refine wp_ret ?_;show bodyPost Tryz.prog Tryz.f102 _ .ret _ _;refine ret1 rfl ha rfl ?_;exact ⟨by simp [okText,hg2],hs⟩
  · rw [hg2] at ha;refine gOn ha ?_;refine pY ha (yMove rfl) fun a ha=>?_;refine gOn ha ?_;refine pC ha (nCall Tryz.call120 rfl) rfl (Contains_c s hs) ?_;rintro v w ⟨rfl,hs⟩ a ha;refine gOn ha ?_;refine pY ha (yNot rfl) fun a ha=>?_;refine pY ha (yPickT rfl rfl) fun a ha=>?_;refine pY ha (yAssign rfl) fun a ha=>?_;refine pZ ?_;refine hK2 _ _ ?_;refine wp_ret ?_;show bodyPost Tryz.prog Tryz.f102 _ .ret _ _;refine ret1 rfl ha rfl ?_;exact ⟨by simp [okText,hg2],hs⟩
end
end Go.Proofs.YtnlhbkaieoogfaaGreatDoor

set_option linter.unusedVariables false
set_option linter.unusedSimpArgs false
namespace Go.Proofs.YtnlhbkaieoogfaaGreatDoor
open Go.RowKit Go.Lib
theorem bldRdr109_0 {w : World} {l : List (Nat × Value)} {T : TypeId} {x0 : Operand} {v0 : Value} (h0 : ev l x0 = some v0) (o0 : v0.cells = #[v0]:=by rfl) : Yl Tryz.prog w l (.build 109 #[(0,x0)]) T (.agg #[v0,.int .i64 0]):=fun ρ o h ho _=>by
  have hf : Instr.fill (fun i=>([(0,1),(1,1)] : List (Nat × Nat))[i]?) #[.slice none 0 0,.int .i64 0] [(0,v0)] = some #[v0,.int .i64 0]:=by
    refine (fill_v o0 rfl (by simp)).trans ?_
    simp [Instr.fill]
  unfold execOp; rw [ho]
  simp [h _ _ h0,Instr.build,Tryz.zeroValue109,Tryz.runUnderlying109,Tryz.sizeOf27,Tryz.sizeOf30,agg_cells,hf]
theorem bldRdr45_0_1_2 {w : World} {l : List (Nat × Value)} {T : TypeId} {x0 x1 x2 : Operand} {v0 : Value} (h0 : ev l x0 = some v0) {v1 : Value} (h1 : ev l x1 = some v1) {v2 : Value} (h2 : ev l x2 = some v2) (o0 : v0.cells = #[v0]:=by rfl) (o1 : v1.cells = #[v1]:=by rfl) (o2 : v2.cells = #[v2]:=by rfl) : Yl Tryz.prog w l (.build 45 #[(0,x0),(1,x1),(2,x2)]) T (.agg #[v0,v1,v2]):=fun ρ o h ho _=>by
  have hf : Instr.fill (fun i=>([(0,1),(1,1),(2,1)] : List (Nat × Nat))[i]?) #[.int .i64 0,.int .i64 0,.string ⟨#[]⟩] [(0,v0),(1,v1),(2,v2)] = some #[v0,v1,v2]:=by
    refine (fill_v o0 rfl (by simp)).trans ?_;refine (fill_v o1 rfl (by simp)).trans ?_;refine (fill_v o2 rfl (by simp)).trans ?_
    simp [Instr.fill]
  unfold execOp; rw [ho]
  simp [h _ _ h0,h _ _ h1,h _ _ h2,Instr.build,Tryz.zeroValue45,Tryz.runUnderlying45,Tryz.sizeOf3,Tryz.sizeOf9,agg_cells,hf]
theorem bldRdr48_0_1_2_3_4_5 {w : World} {l : List (Nat × Value)} {T : TypeId} {x0 x1 x2 x3 x4 x5 : Operand} {v0 : Value} (h0 : ev l x0 = some v0) {v1 : Value} (h1 : ev l x1 = some v1) {v2 : Value} (h2 : ev l x2 = some v2) {v3 : Value} (h3 : ev l x3 = some v3) {v4 : Value} (h4 : ev l x4 = some v4) {v5 : Value} (h5 : ev l x5 = some v5) (o0 : v0.cells = #[v0]:=by rfl) (o1 : v1.cells = #[v1]:=by rfl) (o2 : v2.cells = #[v2]:=by rfl) (o3 : v3.cells = #[v3]:=by rfl) (o4 : v4.cells = #[v4]:=by rfl) (o5 : v5.cells = #[v5]:=by rfl) : Yl Tryz.prog w l (.build 48 #[(0,x0),(1,x1),(2,x2),(3,x3),(4,x4),(5,x5)]) T (.agg #[v0,v1,v2,v3,v4,v5]):=fun ρ o h ho _=>by
  have hf : Instr.fill (fun i=>([(0,1),(1,1),(2,1),(3,1),(4,1),(5,1)] : List (Nat × Nat))[i]?) #[.int .i64 0,.int .i64 0,.int .i64 0,.string ⟨#[]⟩,.bool false,.slice none 0 0] [(0,v0),(1,v1),(2,v2),(3,v3),(4,v4),(5,v5)] = some #[v0,v1,v2,v3,v4,v5]:=by
    refine (fill_v o0 rfl (by simp)).trans ?_;refine (fill_v o1 rfl (by simp)).trans ?_;refine (fill_v o2 rfl (by simp)).trans ?_;refine (fill_v o3 rfl (by simp)).trans ?_;refine (fill_v o4 rfl (by simp)).trans ?_;refine (fill_v o5 rfl (by simp)).trans ?_
    simp [Instr.fill]
  unfold execOp; rw [ho]
  simp [h _ _ h0,h _ _ h1,h _ _ h2,h _ _ h3,h _ _ h4,h _ _ h5,Instr.build,Tryz.zeroValue48,Tryz.runUnderlying48,Tryz.sizeOf3,Tryz.sizeOf4,Tryz.sizeOf46,Tryz.sizeOf9,agg_cells,hf]
theorem bldRdr50_0_1_2_3_4 {w : World} {l : List (Nat × Value)} {T : TypeId} {x0 x1 x2 x3 x4 : Operand} {v0 : Value} (h0 : ev l x0 = some v0) {v1 : Value} (h1 : ev l x1 = some v1) {v2 : Value} (h2 : ev l x2 = some v2) {v3 : Value} (h3 : ev l x3 = some v3) {v4 : Value} (h4 : ev l x4 = some v4) (o0 : v0.cells = #[v0]:=by rfl) (o1 : v1.cells = #[v1]:=by rfl) (o2 : v2.cells = #[v2]:=by rfl) (o3 : v3.cells = #[v3]:=by rfl) (o4 : v4.cells = #[v4]:=by rfl) : Yl Tryz.prog w l (.build 50 #[(0,x0),(1,x1),(2,x2),(3,x3),(4,x4)]) T (.agg #[v0,v1,v2,v3,v4]):=fun ρ o h ho _=>by
  have hf : Instr.fill (fun i=>([(0,1),(1,1),(2,1),(3,1),(4,1)] : List (Nat × Nat))[i]?) #[.int .i64 0,.int .i64 0,.string ⟨#[]⟩,.bool false,.string ⟨#[]⟩] [(0,v0),(1,v1),(2,v2),(3,v3),(4,v4)] = some #[v0,v1,v2,v3,v4]:=by
    refine (fill_v o0 rfl (by simp)).trans ?_;refine (fill_v o1 rfl (by simp)).trans ?_;refine (fill_v o2 rfl (by simp)).trans ?_;refine (fill_v o3 rfl (by simp)).trans ?_;refine (fill_v o4 rfl (by simp)).trans ?_
    simp [Instr.fill]
  unfold execOp; rw [ho]
  simp [h _ _ h0,h _ _ h1,h _ _ h2,h _ _ h3,h _ _ h4,Instr.build,Tryz.zeroValue50,Tryz.runUnderlying50,Tryz.sizeOf3,Tryz.sizeOf4,Tryz.sizeOf9,agg_cells,hf]
theorem bslRdr22_1_0 {w : World} {l : List (Nat × Value)} {T : TypeId} {x0 : Operand} {c0 : List Value} (h0 : ev l x0 = some (.agg c0.toArray)) (n0 : c0.length = 6:=by rfl) : Mk Tryz.prog w l (.buildSlice 22 1 #[(0,x0)]) T 48 1 c0:=fun ρ o h ho _=>by
  unfold execOp; rw [ho];exact mk1 (P:=Tryz.prog) w Tryz.runUnderlying22 Tryz.sizeOf48 Tryz.zeroValue48 (by decide) (by decide) n0 (h _ _ h0)
theorem bslRdr24_1_0 {w : World} {l : List (Nat × Value)} {T : TypeId} {x0 : Operand} {c0 : List Value} (h0 : ev l x0 = some (.agg c0.toArray)) (n0 : c0.length = 5:=by rfl) : Mk Tryz.prog w l (.buildSlice 24 1 #[(0,x0)]) T 50 1 c0:=fun ρ o h ho _=>by
  unfold execOp; rw [ho];exact mk1 (P:=Tryz.prog) w Tryz.runUnderlying24 Tryz.sizeOf50 Tryz.zeroValue50 (by decide) (by decide) n0 (h _ _ h0)
theorem bslRdr46_1_0 {w : World} {l : List (Nat × Value)} {T : TypeId} {x0 : Operand} {c0 : List Value} (h0 : ev l x0 = some (.agg c0.toArray)) (n0 : c0.length = 3:=by rfl) : Mk Tryz.prog w l (.buildSlice 46 1 #[(0,x0)]) T 45 1 c0:=fun ρ o h ho _=>by
  unfold execOp; rw [ho];exact mk1 (P:=Tryz.prog) w Tryz.runUnderlying46 Tryz.sizeOf45 Tryz.zeroValue45 (by decide) (by decide) n0 (h _ _ h0)
theorem elRdr22 : ElemT Tryz.prog 22 48 6 72:=elemT_mk Tryz.underlying22 rfl (by kernel_rfl)
theorem elRdr24 : ElemT Tryz.prog 24 50 5 56:=elemT_mk Tryz.underlying24 rfl (by kernel_rfl)
theorem elRdr46 : ElemT Tryz.prog 46 45 3 32:=elemT_mk Tryz.underlying46 rfl (by kernel_rfl)
section
variable {W w : World} {cs r : List Ch} {p : Nat} {T : TypeId} {st : St}
theorem Err_c {v0 : Value} {e : Int} (hs : Sep W w cs) (hk : Pick cs (.blk p 109 [v0,.int .i64 e]) r) :
    Calls P 29 #[.pointer (some ⟨p,0,none⟩)] w (Rt fun v w'=>v = .int .i64 e∧Sep W w' (.blk p 109 [v0,.int .i64 e]::r)):=by
  have hs:=hs.pick hk;refine enter Tryz.func29 Tryz.ntmps29 rfl rfl fun a (ha : Has a 9 [(0,_)])=>?_;refine wp_seq_k fun K1 hK1=>?_;refine wp_region_lit ?_;refine pY ha (yAssign rfl) fun a ha=>?_;refine pZ ?_;refine hK1 _ _ ?_;refine wp_seq_k fun K2 hK2=>?_;refine wp_seq_k fun K3 hK3=>?_;refine wp_region_lit ?_;refine pY ha (yMove rfl) fun a ha=>?_;refine pY ha (yPtrEqlN Tryz.underlying62 rfl rfl) fun a ha=>?_;refine pZ ?_;refine hK3 _ _ ?_;refine cFalse ha rfl ?_;refine wp_skip ?_;refine hK2 _ _ ?_;refine wp_seq_k fun K4 hK4=>?_;refine wp_region_lit ?_;refine pY ha (yMove rfl) fun a ha=>?_;refine pY ha (yNilP rfl) fun a ha=>?_;refine pY ha (yFieldA Tryz.runUnderlying109 rfl Tryz.sizeOf30 rfl rfl) fun a ha=>?_;refine pY ha (yLoadB Tryz.isAgg30 hs rfl pk0 rfl) fun a ha=>?_;refine pY ha (yAssign rfl) fun a ha=>?_;refine pZ ?_;refine hK4 _ _ ?_;refine wp_ret ?_;show bodyPost Tryz.prog Tryz.f29 _ .ret _ _;refine ret1 rfl ha rfl ?_;exact ⟨rfl,hs⟩
theorem fails_c {v0 : Value} {e e' : Int} (hs : Sep W w cs) (hk : Pick cs (.blk p 109 [v0,.int .i64 e]) r) :
    Calls P 69 #[.pointer (some ⟨p,0,none⟩),.int .i64 e'] w (Rt fun v w'=>v = .tuple #[]∧Sep W w' (.blk p 109 [v0,.int .i64 (if e = 0 then e' else e)]::r)):=by
  have hs:=hs.pick hk;refine enter Tryz.func69 Tryz.ntmps69 rfl rfl fun a (ha : Has a 11 [(0,_),(1,_)])=>?_;refine wp_seq_k fun K1 hK1=>?_;refine wp_region_lit ?_;refine pY ha (yMove rfl) fun a ha=>?_;refine pC ha (nCall Tryz.call29 rfl) rfl (Err_c hs .here) ?_;rintro v w ⟨rfl,hs⟩ a ha;refine pY ha (yEql rfl rfl) fun a ha=>?_;refine pZ ?_;refine hK1 _ _ ?_;refine cDec ha rfl (fun hc6=>?_) (fun hc6=>?_)
  · refine wp_region_lit ?_;refine pY ha (yMove rfl) fun a ha=>?_;refine pY ha (yMove rfl) fun a ha=>?_;refine pY ha (yNilP rfl) fun a ha=>?_;refine pY ha (yFieldA Tryz.runUnderlying109 rfl Tryz.sizeOf30 rfl rfl) fun a ha=>?_;refine pStore ha Tryz.sizeOf30 hs rfl rfl rfl rfl pk0 rfl fun w hs=>?_;refine pZ ?_;show bodyPost Tryz.prog Tryz.f69 _ .normal _ _;refine end0 rfl ha ?_;rw [if_pos hc6]; exact ⟨rfl,hs⟩
  · refine wp_skip ?_;show bodyPost Tryz.prog Tryz.f69 _ .normal _ _;refine end0 rfl ha ?_;rw [if_neg hc6]; exact ⟨rfl,hs⟩
theorem RdNum_c (hs : Sep W w cs) (hk : Pick cs (.rdr p 109 st) r) :
    Calls P 25 #[.pointer (some ⟨p,0,none⟩)] w (Rt fun v w'=>v = .int .i64 (rNum st).1∧Sep W w' (.rdr p 109 (rNum st).2::r)):=by
  obtain ⟨A,c,hs⟩:=hs.rdr_open hk
  have hsh:=hs.rd_shape (.there .here)
  unfold maxLen at hsh;refine enter Tryz.func25 Tryz.ntmps25 rfl rfl fun a (ha : Has a 31 [(0,_)])=>?_;refine wp_seq_k fun K1 hK1=>?_;refine wp_region_lit ?_;refine pY ha (yAssign rfl) fun a ha=>?_;refine pZ ?_;refine hK1 _ _ ?_;refine scopeF 2 99999 ?_;refine wp_seq_k fun K2 hK2=>?_;refine wp_region_lit ?_;refine pY ha (yAssign rfl) fun a ha=>?_;refine pZ ?_;refine hK2 _ _ ?_;refine wp_seq_k fun K3 hK3=>?_;refine wp_region_lit ?_;refine pY ha (yAssign rfl) fun a ha=>?_;refine pZ ?_;refine hK3 _ _ ?_;refine wp_seq_k fun K4 hK4=>?_;refine wp_seq_k fun K5 hK5=>?_;refine wp_region_lit ?_;refine pY ha (yMove rfl) fun a ha=>?_;refine pC ha (nCall Tryz.call29 rfl) rfl (Err_c hs .here) ?_;rintro v w ⟨rfl,hs⟩ a ha;refine pY ha (yNeq rfl rfl) fun a ha=>?_;refine pZ ?_;refine hK5 _ _ ?_;refine cNDec ha rfl (fun hc7=>?_) (fun hc7=>?_)
  · refine wp_goto ?_
    repeat (with_reducible first | refine gThen ?_ | refine gBlock ?_)
    refine gxF rfl rfl ?_;refine wp_seq_k fun K6 hK6=>?_;refine wp_skip ?_;refine hK6 _ _ ?_;refine wp_seq_k fun K7 hK7=>?_;refine wp_region_lit ?_;refine pY ha (yAssign rfl) fun a ha=>?_;refine pZ ?_;refine hK7 _ _ ?_;refine wp_ret ?_;show bodyPost Tryz.prog Tryz.f25 _ .ret _ _;refine ret1 rfl ha rfl ?_;rw [rNum_err hc7]; exact ⟨rfl,hs.rdr_shut .here .here⟩
  · refine wp_skip ?_;refine hK4 _ _ ?_;refine wp_seq_k fun K8 hK8=>?_;refine wp_seq_k fun K9 hK9=>?_;refine wp_region_lit ?_;refine pY ha (yMove rfl) fun a ha=>?_;refine pY ha (yNilP rfl) fun a ha=>?_;refine pY ha (yFieldA Tryz.runUnderlying109 rfl Tryz.sizeOf27 rfl rfl) fun a ha=>?_;refine pY ha (yLoadB Tryz.isAgg27 hs rfl pk0 rfl) fun a ha=>?_;refine pC ha (nCall Tryz.call68 rfl) rfl (Get_c hs (.there .here)) ?_;rintro v w ⟨rfl,hs⟩ a ha
    rcases hN : getN st.1 with _ | ⟨m,u⟩ <;> rw [hN] at ha
    · refine pY ha (yMove rfl) fun a ha=>?_;refine pY ha (yExtract rfl rfl) fun a ha=>?_;refine pY ha (yExtract rfl rfl) fun a ha=>?_;refine pY ha (yExtract rfl rfl) fun a ha=>?_;refine pY ha (yAssign rfl) fun a ha=>?_;refine pY ha (yAssign rfl) fun a ha=>?_;refine pY ha (yAssign rfl) fun a ha=>?_;refine pZ ?_;refine hK9 _ _ ?_;refine wp_seq_k fun K10 hK10=>?_;refine wp_region_lit ?_;refine pY ha (yMove rfl) fun a ha=>?_;refine pY ha (yNeq rfl rfl) fun a ha=>?_;refine pZ ?_;refine hK10 _ _ ?_;refine cNDec ha rfl (fun hc18=>?_) (fun hc18=>?_)
      · refine wp_goto ?_
        repeat (with_reducible first | refine gThen ?_ | refine gBlock ?_)
        refine gxF rfl rfl ?_;refine wp_seq_k fun K11 hK11=>?_;refine wp_skip ?_;refine hK11 _ _ ?_;refine wp_seq_k fun K12 hK12=>?_;refine wp_region_lit ?_;refine pY ha (yMove rfl) fun a ha=>?_;refine pC ha (nCall Tryz.call69 rfl) rfl (fails_c hs .here) ?_;rintro v w ⟨rfl,hs⟩ a ha;refine pZ ?_;refine hK12 _ _ ?_;refine wp_seq_k fun K13 hK13=>?_;refine wp_label ?_;refine hK13 _ _ ?_;refine wp_seq_k fun K14 hK14=>?_;refine wp_region_lit ?_;refine pY ha (yAssign rfl) fun a ha=>?_;refine pZ ?_;refine hK14 _ _ ?_;refine wp_ret ?_;show bodyPost Tryz.prog Tryz.f25 _ .ret _ _;refine ret1 rfl ha rfl ?_;rw [rNum,if_pos hc7,hN]; rw [if_pos hc7] at hs; exact ⟨rfl,hs.rdr_shut .here .here⟩
      · refine wp_skip ?_;refine hK8 _ _ ?_;refine wp_seq_k fun K15 hK15=>?_;refine wp_region_lit ?_;refine pY ha (yMove rfl) fun a ha=>?_;refine pY ha (yMove rfl) fun a ha=>?_;refine pY ha (yNilP rfl) fun a ha=>?_;refine pY ha (yFieldA Tryz.runUnderlying109 rfl Tryz.sizeOf27 rfl rfl) fun a ha=>?_;refine pY ha (yLoadB Tryz.isAgg27 hs rfl pk0 rfl) fun a ha=>?_;refine pY ha (yMove rfl) fun a ha=>?_;refine pY ha (ySlice Tryz.runUnderlying27 Tryz.sizeOf5 rfl (.inr ⟨_,_,rfl,rfl⟩) (.inl ⟨rfl,rfl⟩) (by omega) (by omega)) fun a ha=>?_;refine pY ha (yNilP rfl) fun a ha=>?_;refine pY ha (yFieldA Tryz.runUnderlying109 rfl Tryz.sizeOf27 rfl rfl) fun a ha=>?_;refine pStore ha Tryz.sizeOf27 hs rfl rfl rfl rfl pk0 rfl fun w hs=>?_;refine pZ ?_;refine hK15 _ _ ?_;refine wp_seq_k fun K16 hK16=>?_;refine wp_seq_k fun K17 hK17=>?_;refine wp_region_lit ?_;refine pY ha (yMove rfl) fun a ha=>?_;refine pY ha (yAssign rfl) fun a ha=>?_;refine pZ ?_;refine hK17 _ _ ?_;refine wp_ret ?_;show bodyPost Tryz.prog Tryz.f25 _ .ret _ _;refine ret1 rfl ha rfl ?_;exact absurd hc18 (by decide)
    · have hu:=getN_some hN
      refine pY ha (yMove rfl) fun a ha=>?_;refine pY ha (yExtract rfl rfl) fun a ha=>?_;refine pY ha (yExtract rfl rfl) fun a ha=>?_;refine pY ha (yExtract rfl rfl) fun a ha=>?_;refine pY ha (yAssign rfl) fun a ha=>?_;refine pY ha (yAssign rfl) fun a ha=>?_;refine pY ha (yAssign rfl) fun a ha=>?_;refine pZ ?_;refine hK9 _ _ ?_;refine wp_seq_k fun K18 hK18=>?_;refine wp_region_lit ?_;refine pY ha (yMove rfl) fun a ha=>?_;refine pY ha (yNeq rfl rfl) fun a ha=>?_;refine pZ ?_;refine hK18 _ _ ?_;refine cNDec ha rfl (fun hc18=>?_) (fun hc18=>?_)
      · refine wp_goto ?_
        repeat (with_reducible first | refine gThen ?_ | refine gBlock ?_)
        refine gxF rfl rfl ?_;refine wp_seq_k fun K19 hK19=>?_;refine wp_skip ?_;refine hK19 _ _ ?_;refine wp_seq_k fun K20 hK20=>?_;refine wp_region_lit ?_;refine pY ha (yMove rfl) fun a ha=>?_;refine pC ha (nCall Tryz.call69 rfl) rfl (fails_c hs .here) ?_;rintro v w ⟨rfl,hs⟩ a ha;refine pZ ?_;refine hK20 _ _ ?_;refine wp_seq_k fun K21 hK21=>?_;refine wp_label ?_;refine hK21 _ _ ?_;refine wp_seq_k fun K22 hK22=>?_;refine wp_region_lit ?_;refine pY ha (yAssign rfl) fun a ha=>?_;refine pZ ?_;refine hK22 _ _ ?_;refine wp_ret ?_;show bodyPost Tryz.prog Tryz.f25 _ .ret _ _;refine ret1 rfl ha rfl ?_;exact absurd rfl hc18
      · refine wp_skip ?_;refine hK8 _ _ ?_;refine wp_seq_k fun K23 hK23=>?_;refine wp_region_lit ?_;refine pY ha (yMove rfl) fun a ha=>?_;refine pY ha (yMove rfl) fun a ha=>?_;refine pY ha (yNilP rfl) fun a ha=>?_;refine pY ha (yFieldA Tryz.runUnderlying109 rfl Tryz.sizeOf27 rfl rfl) fun a ha=>?_;refine pY ha (yLoadB Tryz.isAgg27 hs rfl pk0 rfl) fun a ha=>?_;refine pY ha (yMove rfl) fun a ha=>?_;refine pY ha (ySlice Tryz.runUnderlying27 Tryz.sizeOf5 rfl (.inr ⟨_,_,rfl,rfl⟩) (.inl ⟨rfl,rfl⟩) (by omega) (by omega)) fun a ha=>?_;refine pY ha (yNilP rfl) fun a ha=>?_;refine pY ha (yFieldA Tryz.runUnderlying109 rfl Tryz.sizeOf27 rfl rfl) fun a ha=>?_;refine pStore ha Tryz.sizeOf27 hs rfl rfl rfl rfl pk0 rfl fun w hs=>?_;refine pZ ?_;refine hK23 _ _ ?_;refine wp_seq_k fun K24 hK24=>?_;refine wp_seq_k fun K25 hK25=>?_;refine wp_region_lit ?_;refine pY ha (yMove rfl) fun a ha=>?_;refine pY ha (yAssign rfl) fun a ha=>?_;refine pZ ?_;refine hK25 _ _ ?_;refine wp_ret ?_;show bodyPost Tryz.prog Tryz.f25 _ .ret _ _;refine ret1 rfl ha rfl ?_;rw [rNum,if_pos hc7,hN,← hc7];have hs:=hs.rd_cut (.there .here) (lo:=u) (hi:=st.1.length) (by omega) (Nat.le_refl _);rw [List.take_length] at hs;exact ⟨rfl,(hs.rdr_shut (.there .here) .here).drop2⟩
theorem RdText_c (hT : Tabs W) (most : Int) (hs : Sep W w cs) (hk : Pick cs (.rdr p 109 st) r) :
    Calls P 70 #[.pointer (some ⟨p,0,none⟩),.int .i64 most] w (Rt fun v w'=>v = .string (rText most st).1∧Sep W w' (.rdr p 109 (rText most st).2::r)):=by
  refine enter Tryz.func70 Tryz.ntmps70 rfl rfl fun a (ha : Has a 54 [(0,_),(1,_)])=>?_;refine wp_seq_k fun K1 hK1=>?_;refine wp_region_lit ?_;refine pY ha (yAssign rfl) fun a ha=>?_;refine pZ ?_;refine hK1 _ _ ?_;refine wp_seq_k fun K2 hK2=>?_;refine wp_region_lit ?_;refine pY ha (yMove rfl) fun a ha=>?_;refine pC ha (nCall Tryz.call25 rfl) rfl (RdNum_c hs hk) ?_;rintro v w ⟨rfl,hs⟩ a ha
  rcases hq : rNum st with ⟨n,bs,e⟩
  have hv:=rNum_val st
  rw [hq] at ha hs hv;simp only at ha hs hv;obtain ⟨m,rfl⟩:=Int.eq_ofNat_of_zero_le hv.1;obtain ⟨A,c,hs⟩:=hs.rdr_open .here;simp only at hs
  have hsh:=hs.rd_shape (.there .here)
  unfold maxLen at hsh;refine pY ha (yAssign rfl) fun a ha=>?_;refine pZ ?_;refine hK2 _ _ ?_;refine wp_seq_k fun K3 hK3=>?_;refine wp_seq_k fun K4 hK4=>?_;refine wp_region_lit ?_;refine pY ha (yMove rfl) fun a ha=>?_;refine pC ha (nCall Tryz.call29 rfl) rfl (Err_c hs .here) ?_;rintro v w ⟨rfl,hs⟩ a ha;refine pY ha (yNeq rfl rfl) fun a ha=>?_;refine pZ ?_;refine hK4 _ _ ?_;refine cNDec ha rfl (fun hc11=>?_) (fun hc11=>?_)
  · refine wp_seq_k fun K5 hK5=>?_;refine wp_region_lit ?_;refine pY ha (yAssign rfl) fun a ha=>?_;refine pZ ?_;refine hK5 _ _ ?_;refine wp_ret ?_;show bodyPost Tryz.prog Tryz.f70 _ .ret _ _;refine ret1 rfl ha rfl ?_;rw [rText_1 hq hc11]; exact ⟨rfl,hs.rdr_shut .here .here⟩
  · obtain rfl:=hc11;refine wp_skip ?_;refine hK3 _ _ ?_;refine wp_seq_k fun K6 hK6=>?_;refine wp_seq_k fun K7 hK7=>?_;refine cutC (fun a w=>Has a 54 [(29,.bool (decide ((bs.length : Int) < m∨okText (bs.take m) = false))),(0,.pointer (some ⟨p,0,none⟩)),(1,.int .i64 most),(5,.int .i64 m)]∧Sep W w (.blk p 109 [.slice A bs.length c,.int .i64 0]::.rd kU8 (.slice A bs.length c) bs::r)) ?_ ?_
    · refine wp_region_lit ?_;refine pY ha (yMove rfl) fun a ha=>?_;refine pY ha (yMove rfl) fun a ha=>?_;refine pY ha (yNilP rfl) fun a ha=>?_;refine pY ha (yFieldA Tryz.runUnderlying109 rfl Tryz.sizeOf27 rfl rfl) fun a ha=>?_;refine pY ha (yLoadB Tryz.isAgg27 hs rfl pk0 rfl) fun a ha=>?_;refine pY ha (yLenS Tryz.runUnderlying27 rfl) fun a ha=>?_;refine pY ha (yGtr rfl rfl) fun a ha=>?_;refine pY ha (yMove rfl) fun a ha=>?_;refine gDec (t:=19) ha rfl (fun hg7 hp7=>?_) (fun hg7 hp7=>?_)
      · rw [hg7] at ha;have hs:=hs.rd_cut (.there .here) (lo:=0) (hi:=m) (Nat.zero_le _) (by omega);refine gOn ha ?_;refine pY ha (yMove rfl) fun a ha=>?_;refine gOn ha ?_;refine pY ha (yNilP rfl) fun a ha=>?_;refine gOn ha ?_;refine pY ha (yFieldA Tryz.runUnderlying109 rfl Tryz.sizeOf27 rfl rfl) fun a ha=>?_;refine gOn ha ?_;refine pY ha (yLoadB Tryz.isAgg27 hs rfl pk1 rfl) fun a ha=>?_;refine gOn ha ?_;refine pY ha (yMove rfl) fun a ha=>?_;refine gOn ha ?_;refine pY ha (ySlice Tryz.runUnderlying27 Tryz.sizeOf5 rfl (.inl ⟨rfl,rfl⟩) (.inr ⟨_,_,rfl,rfl⟩) (Nat.zero_le _) (by omega)) fun a ha=>?_;refine gOn ha ?_;refine pY ha (yBytesStr Tryz.underlying27 Tryz.underlying5 Tryz.underlying9 hs rfl pk0) fun a ha=>?_;refine gOn ha ?_;refine pC ha (nCall Tryz.call102 rfl) rfl (Valid_c hT _ (by rw [size_mk]; simp; omega) hs) ?_;rintro v w ⟨rfl,hs⟩ a ha;refine gOn ha ?_;refine pY ha (yNot rfl) fun a ha=>?_;refine pY ha (yPickF rfl rfl) fun a ha=>?_;refine pZ ⟨rfl,?_⟩;exact ⟨has4 ha (bN (by simp [hp7])) rfl rfl rfl,hs.drop⟩
      · rw [hg7] at ha;refine gOff ha fun a ha=>?_;refine gOff ha fun a ha=>?_;refine gOff ha fun a ha=>?_;refine gOff ha fun a ha=>?_;refine gOff ha fun a ha=>?_;refine gOff ha fun a ha=>?_;refine gOff ha fun a ha=>?_;refine gOff ha fun a ha=>?_;refine gOff ha fun a ha=>?_;refine pY ha (yPickT rfl rfl) fun a ha=>?_;refine pZ ⟨rfl,?_⟩;exact ⟨has4 ha (bY (.inl hp7)) rfl rfl rfl,hs⟩
    rintro a w ⟨ha,hs⟩;refine hK7 _ _ ?_;refine cDec ha rfl (fun hc29=>?_) (fun hc29=>?_)
    · have hb : rText most st = _:=rText_2 hq hc29
      refine wp_seq_k fun K8 hK8=>?_;refine wp_region_lit ?_;refine pY ha (yMove rfl) fun a ha=>?_;refine pC ha (nCall Tryz.call69 rfl) rfl (fails_c hs pk0) ?_;rintro v w ⟨rfl,hs⟩ a ha;refine pZ ?_;refine hK8 _ _ ?_;refine wp_seq_k fun K9 hK9=>?_;refine wp_region_lit ?_;refine pY ha (yAssign rfl) fun a ha=>?_;refine pZ ?_;refine hK9 _ _ ?_;refine wp_ret ?_;show bodyPost Tryz.prog Tryz.f70 _ .ret _ _;refine ret1 rfl ha rfl ?_;rw [hb]; exact ⟨rfl,hs.rdr_shut .here .here⟩
    · have hb1 : ¬ ((m : Int) > bs.length):=fun h=>hc29 (.inl h)
      have hb2 : okText (bs.take m) = true:=by simpa using fun h=>hc29 (.inr h)
      refine wp_skip ?_;refine hK6 _ _ ?_;refine wp_seq_k fun K10 hK10=>?_;refine wp_seq_k fun K11 hK11=>?_;refine wp_region_lit ?_;refine pY ha (yMove rfl) fun a ha=>?_;refine pY ha (yMove rfl) fun a ha=>?_;refine pY ha (yGtr rfl rfl) fun a ha=>?_;refine pZ ?_;refine hK11 _ _ ?_;refine cDec ha rfl (fun hc34=>?_) (fun hc34=>?_)
      · have hb : rText most st = _:=rText_3 hq hb1 hb2 hc34
        refine wp_seq_k fun K12 hK12=>?_;refine wp_region_lit ?_;refine pY ha (yMove rfl) fun a ha=>?_;refine pC ha (nCall Tryz.call69 rfl) rfl (fails_c hs pk0) ?_;rintro v w ⟨rfl,hs⟩ a ha;refine pZ ?_;refine hK12 _ _ ?_;refine wp_seq_k fun K13 hK13=>?_;refine wp_region_lit ?_;refine pY ha (yAssign rfl) fun a ha=>?_;refine pZ ?_;refine hK13 _ _ ?_;refine wp_ret ?_;show bodyPost Tryz.prog Tryz.f70 _ .ret _ _;refine ret1 rfl ha rfl ?_;rw [hb]; exact ⟨rfl,hs.rdr_shut .here .here⟩
      · have hb : rText most st = _:=rText_4 hq hb1 hb2 hc34
        have hs:=hs.rd_cut (.there .here) (lo:=0) (hi:=m) (Nat.zero_le _) (by omega);refine wp_skip ?_;refine hK10 _ _ ?_;refine wp_seq_k fun K14 hK14=>?_;refine wp_region_lit ?_;refine pY ha (yMove rfl) fun a ha=>?_;refine pY ha (yNilP rfl) fun a ha=>?_;refine pY ha (yFieldA Tryz.runUnderlying109 rfl Tryz.sizeOf27 rfl rfl) fun a ha=>?_;refine pY ha (yLoadB Tryz.isAgg27 hs rfl pk1 rfl) fun a ha=>?_;refine pY ha (yMove rfl) fun a ha=>?_;refine pY ha (ySlice Tryz.runUnderlying27 Tryz.sizeOf5 rfl (.inl ⟨rfl,rfl⟩) (.inr ⟨_,_,rfl,rfl⟩) (Nat.zero_le _) (by omega)) fun a ha=>?_;refine pY ha (yBytesStr Tryz.underlying27 Tryz.underlying5 Tryz.underlying9 hs rfl pk0) fun a ha=>?_;refine pY ha (yAssign rfl) fun a ha=>?_;refine pZ ?_;refine hK14 _ _ ?_;refine wp_seq_k fun K15 hK15=>?_;have hs:=hs.drop
        have hs:=(hs.rd_cut (.there .here) (lo:=m) (hi:=bs.length) (by omega) (Nat.le_refl _)).perm (List.Perm.swap _ _ _)
        rw [List.take_length] at hs;refine wp_region_lit ?_;refine pY ha (yMove rfl) fun a ha=>?_;refine pY ha (yMove rfl) fun a ha=>?_;refine pY ha (yNilP rfl) fun a ha=>?_;refine pY ha (yFieldA Tryz.runUnderlying109 rfl Tryz.sizeOf27 rfl rfl) fun a ha=>?_;refine pY ha (yLoadB Tryz.isAgg27 hs rfl pk0 rfl) fun a ha=>?_;refine pY ha (yMove rfl) fun a ha=>?_;refine pY ha (ySlice Tryz.runUnderlying27 Tryz.sizeOf5 rfl (.inr ⟨_,_,rfl,rfl⟩) (.inl ⟨rfl,rfl⟩) (by omega) (by omega)) fun a ha=>?_;refine pY ha (yNilP rfl) fun a ha=>?_;refine pY ha (yFieldA Tryz.runUnderlying109 rfl Tryz.sizeOf27 rfl rfl) fun a ha=>?_;refine pStore ha Tryz.sizeOf27 hs rfl rfl rfl rfl pk0 rfl fun w hs=>?_;refine pZ ?_;refine hK15 _ _ ?_;refine wp_seq_k fun K16 hK16=>?_;refine wp_region_lit ?_;refine pY ha (yMove rfl) fun a ha=>?_;refine pY ha (yAssign rfl) fun a ha=>?_;refine pZ ?_;refine hK16 _ _ ?_;refine wp_ret ?_;show bodyPost Tryz.prog Tryz.f70 _ .ret _ _;refine ret1 rfl ha rfl ?_;rw [hb]; exact ⟨rfl,(hs.rdr_shut .here .here).drop2⟩
theorem ErrK_c (hs : Sep W w cs) (hk : Pick cs (.rdr p 109 st) r) :
    Calls P 29 #[.pointer (some ⟨p,0,none⟩)] w (Rt fun v w'=>v = .int .i64 st.2∧Sep W w' (.rdr p 109 st::r)):=by
  obtain ⟨A,c,hs⟩:=hs.rdr_open hk;exact (Err_c hs .here).mono (Rt.mono fun v w ⟨hv,hs⟩=>⟨hv,hs.rdr_shut .here .here⟩)
theorem failsK_c {e' : Int} (hs : Sep W w cs) (hk : Pick cs (.rdr p 109 st) r) :
    Calls P 69 #[.pointer (some ⟨p,0,none⟩),.int .i64 e'] w (Rt fun v w'=>v = .tuple #[]∧Sep W w' (.rdr p 109 (rFail st e')::r)):=by
  obtain ⟨A,c,hs⟩:=hs.rdr_open hk;refine (fails_c hs .here).mono (Rt.mono fun v w ⟨hv,hs⟩=>⟨hv,?_⟩)
  have:=hs.rdr_shut .here .here
  unfold rFail
  split <;> rename_i h
  · rw [if_pos h] at this; exact this
  · rw [if_neg h] at this; exact this
theorem RdFlag_c (hs : Sep W w cs) (hk : Pick cs (.rdr p 109 st) r) :
    Calls P 71 #[.pointer (some ⟨p,0,none⟩)] w (Rt fun v w'=>v = .bool (rFlag st).1∧Sep W w' (.rdr p 109 (rFlag st).2::r)):=by
  refine enter Tryz.func71 Tryz.ntmps71 rfl rfl fun a (ha : Has a 12 [(0,_)])=>?_;refine wp_seq_k fun K1 hK1=>?_;refine wp_region_lit ?_;refine pY ha (yAssign rfl) fun a ha=>?_;refine pZ ?_;refine hK1 _ _ ?_;refine wp_seq_k fun K2 hK2=>?_;refine wp_region_lit ?_;refine pY ha (yMove rfl) fun a ha=>?_;refine pC ha (nCall Tryz.call25 rfl) rfl (RdNum_c hs hk) ?_;rintro v w ⟨rfl,hs⟩ a ha;refine pY ha (yAssign rfl) fun a ha=>?_;refine pZ ?_;refine hK2 _ _ ?_;refine wp_seq_k fun K3 hK3=>?_;refine wp_seq_k fun K4 hK4=>?_;refine wp_region_lit ?_;refine pY ha (yMove rfl) fun a ha=>?_;refine pY ha (yGtr rfl rfl) fun a ha=>?_;refine pZ ?_;refine hK4 _ _ ?_;refine cDec ha rfl (fun hc7=>?_) (fun hc7=>?_)
  · refine wp_region_lit ?_;refine pY ha (yMove rfl) fun a ha=>?_;refine pC ha (nCall Tryz.call69 rfl) rfl (failsK_c hs .here) ?_;rintro v w ⟨rfl,hs⟩ a ha;refine pZ ?_;refine hK3 _ _ ?_;refine wp_seq_k fun K5 hK5=>?_;refine wp_region_lit ?_;refine pY ha (yMove rfl) fun a ha=>?_;refine pY ha (yEql rfl rfl) fun a ha=>?_;refine pY ha (yAssign rfl) fun a ha=>?_;refine pZ ?_;refine hK5 _ _ ?_;refine wp_ret ?_;show bodyPost Tryz.prog Tryz.f71 _ .ret _ _;refine ret1 rfl ha rfl ?_;refine ⟨rfl,?_⟩; simp only [rFlag]; rw [if_pos hc7]; exact hs
  · refine wp_skip ?_;refine hK3 _ _ ?_;refine wp_seq_k fun K6 hK6=>?_;refine wp_region_lit ?_;refine pY ha (yMove rfl) fun a ha=>?_;refine pY ha (yEql rfl rfl) fun a ha=>?_;refine pY ha (yAssign rfl) fun a ha=>?_;refine pZ ?_;refine hK6 _ _ ?_;refine wp_ret ?_;show bodyPost Tryz.prog Tryz.f71 _ .ret _ _;refine ret1 rfl ha rfl ?_;refine ⟨rfl,?_⟩; simp only [rFlag]; rw [if_neg hc7]; exact hs
theorem Many_c (most : Int) (hs : Sep W w cs) (hk : Pick cs (.rdr p 109 st) r) :
    Calls P 27 #[.pointer (some ⟨p,0,none⟩),.int .i64 most] w (Rt fun v w'=>v = .int .i64 (rMany most st).1∧Sep W w' (.rdr p 109 (rMany most st).2::r)):=by
  refine enter Tryz.func27 Tryz.ntmps27 rfl rfl fun a (ha : Has a 14 [(0,_),(1,_)])=>?_;refine wp_seq_k fun K1 hK1=>?_;refine wp_region_lit ?_;refine pY ha (yAssign rfl) fun a ha=>?_;refine pZ ?_;refine hK1 _ _ ?_;refine wp_seq_k fun K2 hK2=>?_;refine wp_region_lit ?_;refine pY ha (yMove rfl) fun a ha=>?_;refine pC ha (nCall Tryz.call25 rfl) rfl (RdNum_c hs hk) ?_;rintro v w ⟨rfl,hs⟩ a ha;refine pY ha (yAssign rfl) fun a ha=>?_;refine pZ ?_;refine hK2 _ _ ?_;refine wp_seq_k fun K3 hK3=>?_;refine wp_seq_k fun K4 hK4=>?_;refine wp_region_lit ?_;refine pY ha (yMove rfl) fun a ha=>?_;refine pY ha (yMove rfl) fun a ha=>?_;refine pY ha (yGtr rfl rfl) fun a ha=>?_;refine pZ ?_;refine hK4 _ _ ?_;refine cDec ha rfl (fun hc10=>?_) (fun hc10=>?_)
  · refine wp_seq_k fun K5 hK5=>?_;refine wp_region_lit ?_;refine pY ha (yMove rfl) fun a ha=>?_;refine pC ha (nCall Tryz.call69 rfl) rfl (failsK_c hs .here) ?_;rintro v w ⟨rfl,hs⟩ a ha;refine pZ ?_;refine hK5 _ _ ?_;refine wp_seq_k fun K6 hK6=>?_;refine wp_region_lit ?_;refine pY ha (yAssign rfl) fun a ha=>?_;refine pZ ?_;refine hK6 _ _ ?_;refine wp_ret ?_;show bodyPost Tryz.prog Tryz.f27 _ .ret _ _;refine ret1 rfl ha rfl ?_;simp only [rMany]; rw [if_pos hc10]; exact ⟨rfl,hs⟩
  · refine wp_skip ?_;refine hK3 _ _ ?_;refine wp_seq_k fun K7 hK7=>?_;refine wp_region_lit ?_;refine pY ha (yMove rfl) fun a ha=>?_;refine pY ha (yAssign rfl) fun a ha=>?_;refine pZ ?_;refine hK7 _ _ ?_;refine wp_ret ?_;show bodyPost Tryz.prog Tryz.f27 _ .ret _ _;refine ret1 rfl ha rfl ?_;simp only [rMany]; rw [if_neg hc10]; exact ⟨rfl,hs⟩
theorem NewReader_c {A : Option Addr} {n c : Nat} {bs : List UInt8} (hs : Sep W w cs) (hk : Pick cs (.rd kU8 (.slice A n c) bs) r) (hb : bs.length≤140737488355328) :
    Calls P 24 #[.slice A n c] w (Rt fun v w'=>∃ p,v = .pointer (some ⟨p,0,none⟩)∧Sep W w' (.rdr p 109 (bs,0)::cs)):=by
  refine enter Tryz.func24 Tryz.ntmps24 rfl rfl fun a (ha : Has a 7 [(0,_)])=>?_;refine wp_seq_k fun K1 hK1=>?_;refine wp_region_lit ?_;refine pY ha (yAssign rfl) fun a ha=>?_;refine pZ ?_;refine hK1 _ _ ?_;refine wp_seq_k fun K2 hK2=>?_;refine wp_region_lit ?_;refine pY ha (yMove rfl) fun a ha=>?_;refine pC ha (nCall Tryz.call67 rfl) rfl (CloneB_c hs hk hb) ?_;rintro v w ⟨A',c',rfl,hs⟩ a ha;have hs:=hs.ol_rd .here;refine pY ha (bldRdr109_0 rfl) fun a ha=>?_;refine pBox (es:=_) ha rfl rfl hs rfl fun b w hs a ha=>?_;refine pY ha (yAssign rfl) fun a ha=>?_;refine pZ ?_;refine hK2 _ _ ?_;refine wp_ret ?_;show bodyPost Tryz.prog Tryz.f24 _ .ret _ _;refine ret1 rfl ha rfl ?_;exact ⟨b,rfl,hs.rdr_shut .here .here⟩
theorem RdComps_c (hT : Tabs W) (hs : Sep W w cs) (hk : Pick cs (.rdr p 109 st) r) :
    Calls P 72 #[.pointer (some ⟨p,0,none⟩)] w (Rt fun v w'=>∃ A c,v = .slice A (rComps st).1.length c∧Sep W w' (.ol kComp 45 (.slice A (rComps st).1.length c) (rComps st).1::.rdr p 109 (rComps st).2::r)):=by
  have hM:=rMany_val 100 (by decide) st
  refine enter Tryz.func72 Tryz.ntmps72 rfl rfl fun a (ha : Has a 22 [(0,_)])=>?_;refine wp_seq_k fun K1 hK1=>?_;refine wp_region_lit ?_;refine pY ha (yAssign rfl) fun a ha=>?_;refine pZ ?_;refine hK1 _ _ ?_;refine wp_seq_k fun K2 hK2=>?_;refine wp_seq_k fun K3 hK3=>?_;refine wp_region_lit ?_;refine pY ha (yMove rfl) fun a ha=>?_;refine pC ha (nCall Tryz.call27 rfl) rfl (Many_c 100 hs hk) ?_;rintro v w ⟨rfl,hs⟩ a ha;obtain ⟨m,hm⟩:=Int.eq_ofNat_of_zero_le hM.1;obtain ⟨s1,hs1⟩ : ∃ s1,(rMany 100 st).2 = s1:=⟨_,rfl⟩;rw [hm] at ha;rw [hs1] at hs;refine pY ha (yMove rfl) fun a ha=>?_;refine pZ ?_;refine hK3 _ _ ?_;refine wp_block ?_;refine loopI (ι:=Nat × Option Addr × Nat) (fun i a w=>i.1≤m∧Has a 22 [(0,.pointer (some ⟨p,0,none⟩)),(2,.slice i.2.1 (rList rComp i.1 s1).1.length i.2.2),(4,.int .i64 m),(5,.int .i64 i.1)]∧Sep W w (.ol kComp 45 (.slice i.2.1 (rList rComp i.1 s1).1.length i.2.2) (rList rComp i.1 s1).1::.rdr p 109 (rList rComp i.1 s1).2::r)) (fun i=>m - i.1) ((0,none,0)) ?_ ?_
  · exact ⟨Nat.zero_le _,has4 ha rfl rfl rfl rfl,hs.ol_nil kComp _ none⟩
  · rintro i a w ⟨h1,ha,hs⟩;obtain ⟨i,A,c⟩:=i; simp only at h1 ha hs;refine wp_seq_k fun K4 hK4=>?_;refine wp_region_lit ?_;refine pY ha (yLss rfl rfl) fun a ha=>?_;refine pZ ?_;refine hK4 _ _ ?_;refine wp_seq_k fun K5 hK5=>?_;refine cDec ha rfl (fun hc6=>?_) (fun hc6=>?_)
    · have hll:=rList_len rComp i s1
      have hln:=rList_snoc rComp i s1
      generalize hl : rList rComp i s1 = q at ha hs hll hln;obtain ⟨xs,s2⟩:=q;simp only at ha hs hll hln;refine wp_skip ?_;refine hK5 _ _ ?_;refine wp_seq_k fun K6 hK6=>?_;refine wp_block ?_;refine wp_region_lit ?_;refine pY ha (yMove rfl) fun a ha=>?_;refine pY ha (yMove rfl) fun a ha=>?_;refine pC ha (nCall Tryz.call25 rfl) rfl (RdNum_c hs (.there .here)) ?_;rintro v w ⟨rfl,hs⟩ a ha;refine pY ha (yMove rfl) fun a ha=>?_;refine pC ha (nCall Tryz.call25 rfl) rfl (RdNum_c hs .here) ?_;rintro v w ⟨rfl,hs⟩ a ha;refine pY ha (yMove rfl) fun a ha=>?_;refine pC ha (nCall Tryz.call70 rfl) rfl (RdText_c hT 8000 hs .here) ?_;rintro v w ⟨rfl,hs⟩ a ha;refine pY ha (bldRdr45_0_1_2 rfl rfl rfl) fun a ha=>?_;refine pMake ha (bslRdr46_1_0 rfl) hs rfl fun b w hs a ha=>?_;have hs:=hs.add (x:=.el kComp (rComp s2).1 [.int .i64 (rComp s2).1.kind,.int .i64 (rComp s2).1.n,.string (rComp s2).1.text]) (fun Z=>rfl);refine pApp1 ha elRdr46 rfl rfl hs pk3 pk1 pk0 rfl (by (unfold maxLen; omega)) (by omega) rfl fun A c w hs a ha=>?_;refine pY ha (yAssign rfl) fun a ha=>?_;refine pZ ?_;refine hK6 _ _ ?_;refine wp_region_lit ?_;refine pY ha (yAddN rfl rfl ⟨by omega,by omega⟩) fun a ha=>?_;refine pY ha (yMove rfl) fun a ha=>?_;refine pZ ?_
      have e1 : (rList rComp (i + 1) s1).1 = xs++[(rComp s2).1]:=by rw [hln]
      have e2 : (rList rComp (i + 1) s1).2 = (rComp s2).2:=by rw [hln]
      refine ⟨(i + 1,A,c),⟨by simp only; omega,?_,?_⟩,by simp only; omega⟩
      · simp only [e1,List.length_append,List.length_cons,List.length_nil]; exact has4 ha rfl rfl rfl rfl
      · simp only [e1,e2,List.length_append,List.length_cons,List.length_nil]; exact hs
    · refine wp_exit ?_;refine hK2 _ _ ?_;refine wp_seq_k fun K7 hK7=>?_;refine wp_seq_k fun K8 hK8=>?_;obtain rfl : i = m:=by omega
      have hA : rComps st = _:=rAll_at (f:=rComp) hm hs1
      refine wp_region_lit ?_;refine pY ha (yMove rfl) fun a ha=>?_;refine pC ha (nCall Tryz.call29 rfl) rfl (ErrK_c hs (.there .here)) ?_;rintro v w ⟨rfl,hs⟩ a ha;refine pY ha (yNeq rfl rfl) fun a ha=>?_;refine pZ ?_;refine hK8 _ _ ?_;refine cNDec ha rfl (fun hc20=>?_) (fun hc20=>?_)
      · refine wp_seq_k fun K9 hK9=>?_;refine wp_region_lit ?_;refine pY ha (yAssign rfl) fun a ha=>?_;refine pZ ?_;refine hK9 _ _ ?_;refine wp_ret ?_;show bodyPost Tryz.prog Tryz.f72 _ .ret _ _;refine ret1 rfl ha rfl ?_;rw [if_neg hc20] at hA; rw [hA]; exact ⟨none,0,rfl,hs.drop2.ol_nil kComp _ none⟩
      · refine wp_skip ?_;refine hK7 _ _ ?_;refine wp_seq_k fun K10 hK10=>?_;refine wp_region_lit ?_;refine pY ha (yMove rfl) fun a ha=>?_;refine pY ha (yAssign rfl) fun a ha=>?_;refine pZ ?_;refine hK10 _ _ ?_;refine wp_ret ?_;show bodyPost Tryz.prog Tryz.f72 _ .ret _ _;refine ret1 rfl ha rfl ?_;rw [if_pos hc20] at hA; rw [hA]; exact ⟨A,c,rfl,hs.perm (List.Perm.swap _ _ _)⟩
theorem RdNods_c (hT : Tabs W) (hs : Sep W w cs) (hk : Pick cs (.rdr p 109 st) r) :
    Calls P 28 #[.pointer (some ⟨p,0,none⟩)] w (Rt fun v w'=>∃ A c,v = .slice A (rNods st).1.length c∧Sep W w' (.ol kNod 50 (.slice A (rNods st).1.length c) (rNods st).1::.rdr p 109 (rNods st).2::r)):=by
  have hM:=rMany_val 100 (by decide) st
  refine enter Tryz.func28 Tryz.ntmps28 rfl rfl fun a (ha : Has a 26 [(0,_)])=>?_;refine wp_seq_k fun K1 hK1=>?_;refine wp_region_lit ?_;refine pY ha (yAssign rfl) fun a ha=>?_;refine pZ ?_;refine hK1 _ _ ?_;refine wp_seq_k fun K2 hK2=>?_;refine wp_seq_k fun K3 hK3=>?_;refine wp_region_lit ?_;refine pY ha (yMove rfl) fun a ha=>?_;refine pC ha (nCall Tryz.call27 rfl) rfl (Many_c 100 hs hk) ?_;rintro v w ⟨rfl,hs⟩ a ha;obtain ⟨m,hm⟩:=Int.eq_ofNat_of_zero_le hM.1;obtain ⟨s1,hs1⟩ : ∃ s1,(rMany 100 st).2 = s1:=⟨_,rfl⟩;rw [hm] at ha;rw [hs1] at hs;refine pY ha (yMove rfl) fun a ha=>?_;refine pZ ?_;refine hK3 _ _ ?_;refine wp_block ?_;refine loopI (ι:=Nat × Option Addr × Nat) (fun i a w=>i.1≤m∧Has a 26 [(0,.pointer (some ⟨p,0,none⟩)),(2,.slice i.2.1 (rList rNod i.1 s1).1.length i.2.2),(4,.int .i64 m),(5,.int .i64 i.1)]∧Sep W w (.ol kNod 50 (.slice i.2.1 (rList rNod i.1 s1).1.length i.2.2) (rList rNod i.1 s1).1::.rdr p 109 (rList rNod i.1 s1).2::r)) (fun i=>m - i.1) ((0,none,0)) ?_ ?_
  · exact ⟨Nat.zero_le _,has4 ha rfl rfl rfl rfl,hs.ol_nil kNod _ none⟩
  · rintro i a w ⟨h1,ha,hs⟩;obtain ⟨i,A,c⟩:=i; simp only at h1 ha hs;refine wp_seq_k fun K4 hK4=>?_;refine wp_region_lit ?_;refine pY ha (yLss rfl rfl) fun a ha=>?_;refine pZ ?_;refine hK4 _ _ ?_;refine wp_seq_k fun K5 hK5=>?_;refine cDec ha rfl (fun hc6=>?_) (fun hc6=>?_)
    · have hll:=rList_len rNod i s1
      have hln:=rList_snoc rNod i s1
      generalize hl : rList rNod i s1 = q at ha hs hll hln;obtain ⟨xs,s2⟩:=q;simp only at ha hs hll hln;refine wp_skip ?_;refine hK5 _ _ ?_;refine wp_seq_k fun K6 hK6=>?_;refine wp_block ?_;refine wp_region_lit ?_;refine pY ha (yMove rfl) fun a ha=>?_;refine pY ha (yMove rfl) fun a ha=>?_;refine pC ha (nCall Tryz.call25 rfl) rfl (RdNum_c hs (.there .here)) ?_;rintro v w ⟨rfl,hs⟩ a ha;refine pY ha (yMove rfl) fun a ha=>?_;refine pC ha (nCall Tryz.call25 rfl) rfl (RdNum_c hs .here) ?_;rintro v w ⟨rfl,hs⟩ a ha;refine pY ha (yMove rfl) fun a ha=>?_;refine pC ha (nCall Tryz.call70 rfl) rfl (RdText_c hT 100 hs .here) ?_;rintro v w ⟨rfl,hs⟩ a ha;refine pY ha (yMove rfl) fun a ha=>?_;refine pC ha (nCall Tryz.call71 rfl) rfl (RdFlag_c hs .here) ?_;rintro v w ⟨rfl,hs⟩ a ha;refine pY ha (yMove rfl) fun a ha=>?_;refine pC ha (nCall Tryz.call70 rfl) rfl (RdText_c hT 8000 hs .here) ?_;rintro v w ⟨rfl,hs⟩ a ha;refine pY ha (bldRdr50_0_1_2_3_4 rfl rfl rfl rfl rfl) fun a ha=>?_;refine pMake ha (bslRdr24_1_0 rfl) hs rfl fun b w hs a ha=>?_;have hs:=hs.add (x:=.el kNod (rNod s2).1 [.int .i64 (rNod s2).1.id,.int .i64 (rNod s2).1.parent,.string (rNod s2).1.name,.bool (rNod s2).1.dir,.string (rNod s2).1.text]) (fun Z=>rfl);refine pApp1 ha elRdr24 rfl rfl hs pk3 pk1 pk0 rfl (by (unfold maxLen; omega)) (by omega) rfl fun A c w hs a ha=>?_;refine pY ha (yAssign rfl) fun a ha=>?_;refine pZ ?_;refine hK6 _ _ ?_;refine wp_region_lit ?_;refine pY ha (yAddN rfl rfl ⟨by omega,by omega⟩) fun a ha=>?_;refine pY ha (yMove rfl) fun a ha=>?_;refine pZ ?_
      have e1 : (rList rNod (i + 1) s1).1 = xs++[(rNod s2).1]:=by rw [hln]
      have e2 : (rList rNod (i + 1) s1).2 = (rNod s2).2:=by rw [hln]
      refine ⟨(i + 1,A,c),⟨by simp only; omega,?_,?_⟩,by simp only; omega⟩
      · simp only [e1,List.length_append,List.length_cons,List.length_nil]; exact has4 ha rfl rfl rfl rfl
      · simp only [e1,e2,List.length_append,List.length_cons,List.length_nil]; exact hs
    · refine wp_exit ?_;refine hK2 _ _ ?_;refine wp_seq_k fun K7 hK7=>?_;refine wp_seq_k fun K8 hK8=>?_;obtain rfl : i = m:=by omega
      have hA : rNods st = _:=rAll_at (f:=rNod) hm hs1
      refine wp_region_lit ?_;refine pY ha (yMove rfl) fun a ha=>?_;refine pC ha (nCall Tryz.call29 rfl) rfl (ErrK_c hs (.there .here)) ?_;rintro v w ⟨rfl,hs⟩ a ha;refine pY ha (yNeq rfl rfl) fun a ha=>?_;refine pZ ?_;refine hK8 _ _ ?_;refine cNDec ha rfl (fun hc24=>?_) (fun hc24=>?_)
      · refine wp_seq_k fun K9 hK9=>?_;refine wp_region_lit ?_;refine pY ha (yAssign rfl) fun a ha=>?_;refine pZ ?_;refine hK9 _ _ ?_;refine wp_ret ?_;show bodyPost Tryz.prog Tryz.f28 _ .ret _ _;refine ret1 rfl ha rfl ?_;rw [if_neg hc24] at hA; rw [hA]; exact ⟨none,0,rfl,hs.drop2.ol_nil kNod _ none⟩
      · refine wp_skip ?_;refine hK7 _ _ ?_;refine wp_seq_k fun K10 hK10=>?_;refine wp_region_lit ?_;refine pY ha (yMove rfl) fun a ha=>?_;refine pY ha (yAssign rfl) fun a ha=>?_;refine pZ ?_;refine hK10 _ _ ?_;refine wp_ret ?_;show bodyPost Tryz.prog Tryz.f28 _ .ret _ _;refine ret1 rfl ha rfl ?_;rw [if_pos hc24] at hA; rw [hA]; exact ⟨A,c,rfl,hs.perm (List.Perm.swap _ _ _)⟩
theorem RdActns_c (hT : Tabs W) (hs : Sep W w cs) (hk : Pick cs (.rdr p 109 st) r) :
    Calls P 26 #[.pointer (some ⟨p,0,none⟩)] w (Rt fun v w'=>∃ A c,v = .slice A (rActns st).1.length c∧Sep W w' (.ol kActn 48 (.slice A (rActns st).1.length c) (rActns st).1::.rdr p 109 (rActns st).2::r)):=by
  have hM:=rMany_val 20 (by decide) st
  refine enter Tryz.func26 Tryz.ntmps26 rfl rfl fun a (ha : Has a 28 [(0,_)])=>?_;refine wp_seq_k fun K1 hK1=>?_;refine wp_region_lit ?_;refine pY ha (yAssign rfl) fun a ha=>?_;refine pZ ?_;refine hK1 _ _ ?_;refine wp_seq_k fun K2 hK2=>?_;refine wp_seq_k fun K3 hK3=>?_;refine wp_region_lit ?_;refine pY ha (yMove rfl) fun a ha=>?_;refine pC ha (nCall Tryz.call27 rfl) rfl (Many_c 20 hs hk) ?_;rintro v w ⟨rfl,hs⟩ a ha;obtain ⟨m,hm⟩:=Int.eq_ofNat_of_zero_le hM.1;obtain ⟨s1,hs1⟩ : ∃ s1,(rMany 20 st).2 = s1:=⟨_,rfl⟩;rw [hm] at ha;rw [hs1] at hs;refine pY ha (yMove rfl) fun a ha=>?_;refine pZ ?_;refine hK3 _ _ ?_;refine wp_block ?_;refine loopI (ι:=Nat × Option Addr × Nat) (fun i a w=>i.1≤m∧Has a 28 [(0,.pointer (some ⟨p,0,none⟩)),(2,.slice i.2.1 (rList rActn i.1 s1).1.length i.2.2),(4,.int .i64 m),(5,.int .i64 i.1)]∧Sep W w (.ol kActn 48 (.slice i.2.1 (rList rActn i.1 s1).1.length i.2.2) (rList rActn i.1 s1).1::.rdr p 109 (rList rActn i.1 s1).2::r)) (fun i=>m - i.1) ((0,none,0)) ?_ ?_
  · exact ⟨Nat.zero_le _,has4 ha rfl rfl rfl rfl,hs.ol_nil kActn _ none⟩
  · rintro i a w ⟨h1,ha,hs⟩;obtain ⟨i,A,c⟩:=i; simp only at h1 ha hs;refine wp_seq_k fun K4 hK4=>?_;refine wp_region_lit ?_;refine pY ha (yLss rfl rfl) fun a ha=>?_;refine pZ ?_;refine hK4 _ _ ?_;refine wp_seq_k fun K5 hK5=>?_;refine cDec ha rfl (fun hc6=>?_) (fun hc6=>?_)
    · have hll:=rList_len rActn i s1
      have hln:=rList_snoc rActn i s1
      generalize hl : rList rActn i s1 = q at ha hs hll hln;obtain ⟨xs,s2⟩:=q;simp only at ha hs hll hln;refine wp_skip ?_;refine hK5 _ _ ?_;refine wp_seq_k fun K6 hK6=>?_;refine wp_block ?_;refine wp_region_lit ?_;refine pY ha (yMove rfl) fun a ha=>?_;refine pY ha (yMove rfl) fun a ha=>?_;refine pC ha (nCall Tryz.call25 rfl) rfl (RdNum_c hs (.there .here)) ?_;rintro v w ⟨rfl,hs⟩ a ha;refine pY ha (yMove rfl) fun a ha=>?_;refine pC ha (nCall Tryz.call25 rfl) rfl (RdNum_c hs .here) ?_;rintro v w ⟨rfl,hs⟩ a ha;refine pY ha (yMove rfl) fun a ha=>?_;refine pC ha (nCall Tryz.call25 rfl) rfl (RdNum_c hs .here) ?_;rintro v w ⟨rfl,hs⟩ a ha;refine pY ha (yMove rfl) fun a ha=>?_;refine pC ha (nCall Tryz.call70 rfl) rfl (RdText_c hT 100 hs .here) ?_;rintro v w ⟨rfl,hs⟩ a ha;refine pY ha (yMove rfl) fun a ha=>?_;refine pC ha (nCall Tryz.call71 rfl) rfl (RdFlag_c hs .here) ?_;rintro v w ⟨rfl,hs⟩ a ha;refine pY ha (yMove rfl) fun a ha=>?_;refine pC ha (nCall Tryz.call72 rfl) rfl (RdComps_c hT hs .here) ?_;rintro v w ⟨A',c',rfl,hs⟩ a ha;have hs:=hs.ol_rd .here;refine pY ha (bldRdr48_0_1_2_3_4_5 rfl rfl rfl rfl rfl rfl) fun a ha=>?_;refine pMake ha (bslRdr22_1_0 rfl) hs rfl fun b w hs a ha=>?_;have hs:=hs.with_ro (.there .here) (q:=fun Z=>kActn.R Z (rActn s2).1 [.int .i64 (rActn s2).1.kind,.int .i64 (rActn s2).1.id,.int .i64 (rActn s2).1.parent,.string (rActn s2).1.name,.bool (rActn s2).1.dir,.slice A' (rActn s2).1.ops.length c']) (m':=fun _ _ h=>kActn.mono h) (fun Z hp=>⟨A',_,c',rfl,hp⟩);refine pApp1 ha elRdr22 rfl rfl hs pk4 pk1 pk0 rfl (by (unfold maxLen; omega)) (by omega) rfl fun A c w hs a ha=>?_;refine pY ha (yAssign rfl) fun a ha=>?_;refine pZ ?_;refine hK6 _ _ ?_;refine wp_region_lit ?_;refine pY ha (yAddN rfl rfl ⟨by omega,by omega⟩) fun a ha=>?_;refine pY ha (yMove rfl) fun a ha=>?_;refine pZ ?_
      have e1 : (rList rActn (i + 1) s1).1 = xs++[(rActn s2).1]:=by rw [hln]
      have e2 : (rList rActn (i + 1) s1).2 = (rActn s2).2:=by rw [hln]
      refine ⟨(i + 1,A,c),⟨by simp only; omega,?_,?_⟩,by simp only; omega⟩
      · simp only [e1,List.length_append,List.length_cons,List.length_nil]; exact has4 ha rfl rfl rfl rfl
      · simp only [e1,e2,List.length_append,List.length_cons,List.length_nil]; exact hs.drop2
    · refine wp_exit ?_;refine hK2 _ _ ?_;refine wp_seq_k fun K7 hK7=>?_;refine wp_seq_k fun K8 hK8=>?_;obtain rfl : i = m:=by omega
      have hA : rActns st = _:=rAll_at (f:=rActn) hm hs1
      refine wp_region_lit ?_;refine pY ha (yMove rfl) fun a ha=>?_;refine pC ha (nCall Tryz.call29 rfl) rfl (ErrK_c hs (.there .here)) ?_;rintro v w ⟨rfl,hs⟩ a ha;refine pY ha (yNeq rfl rfl) fun a ha=>?_;refine pZ ?_;refine hK8 _ _ ?_;refine cNDec ha rfl (fun hc26=>?_) (fun hc26=>?_)
      · refine wp_seq_k fun K9 hK9=>?_;refine wp_region_lit ?_;refine pY ha (yAssign rfl) fun a ha=>?_;refine pZ ?_;refine hK9 _ _ ?_;refine wp_ret ?_;show bodyPost Tryz.prog Tryz.f26 _ .ret _ _;refine ret1 rfl ha rfl ?_;rw [if_neg hc26] at hA; rw [hA]; exact ⟨none,0,rfl,hs.drop2.ol_nil kActn _ none⟩
      · refine wp_skip ?_;refine hK7 _ _ ?_;refine wp_seq_k fun K10 hK10=>?_;refine wp_region_lit ?_;refine pY ha (yMove rfl) fun a ha=>?_;refine pY ha (yAssign rfl) fun a ha=>?_;refine pZ ?_;refine hK10 _ _ ?_;refine wp_ret ?_;show bodyPost Tryz.prog Tryz.f26 _ .ret _ _;refine ret1 rfl ha rfl ?_;rw [if_pos hc26] at hA; rw [hA]; exact ⟨A,c,rfl,hs.perm (List.Perm.swap _ _ _)⟩
end
end Go.Proofs.YtnlhbkaieoogfaaGreatDoor

set_option linter.unusedVariables false
set_option linter.unusedSimpArgs false
namespace Go.Proofs.YtnlhbkaieoogfaaGreatDoor
open Go.RowKit Go.Lib
theorem bldIn45_0_1_2 {w : World} {l : List (Nat × Value)} {T : TypeId} {x0 x1 x2 : Operand} {v0 : Value} (h0 : ev l x0 = some v0) {v1 : Value} (h1 : ev l x1 = some v1) {v2 : Value} (h2 : ev l x2 = some v2) (o0 : v0.cells = #[v0]:=by rfl) (o1 : v1.cells = #[v1]:=by rfl) (o2 : v2.cells = #[v2]:=by rfl) : Yl Tryz.prog w l (.build 45 #[(0,x0),(1,x1),(2,x2)]) T (.agg #[v0,v1,v2]):=fun ρ o h ho _=>by
  have hf : Instr.fill (fun i=>([(0,1),(1,1),(2,1)] : List (Nat × Nat))[i]?) #[.int .i64 0,.int .i64 0,.string ⟨#[]⟩] [(0,v0),(1,v1),(2,v2)] = some #[v0,v1,v2]:=by
    refine (fill_v o0 rfl (by simp)).trans ?_;refine (fill_v o1 rfl (by simp)).trans ?_;refine (fill_v o2 rfl (by simp)).trans ?_
    simp [Instr.fill]
  unfold execOp; rw [ho]
  simp [h _ _ h0,h _ _ h1,h _ _ h2,Instr.build,Tryz.zeroValue45,Tryz.runUnderlying45,Tryz.sizeOf3,Tryz.sizeOf9,agg_cells,hf]
theorem bldIn48_0 {w : World} {l : List (Nat × Value)} {T : TypeId} {x0 : Operand} {v0 : Value} (h0 : ev l x0 = some v0) (o0 : v0.cells = #[v0]:=by rfl) : Yl Tryz.prog w l (.build 48 #[(0,x0)]) T (.agg #[v0,.int .i64 0,.int .i64 0,.string ⟨#[]⟩,.bool false,.slice none 0 0]):=fun ρ o h ho _=>by
  have hf : Instr.fill (fun i=>([(0,1),(1,1),(2,1),(3,1),(4,1),(5,1)] : List (Nat × Nat))[i]?) #[.int .i64 0,.int .i64 0,.int .i64 0,.string ⟨#[]⟩,.bool false,.slice none 0 0] [(0,v0)] = some #[v0,.int .i64 0,.int .i64 0,.string ⟨#[]⟩,.bool false,.slice none 0 0]:=by
    refine (fill_v o0 rfl (by simp)).trans ?_
    simp [Instr.fill]
  unfold execOp; rw [ho]
  simp [h _ _ h0,Instr.build,Tryz.zeroValue48,Tryz.runUnderlying48,Tryz.sizeOf3,Tryz.sizeOf4,Tryz.sizeOf46,Tryz.sizeOf9,agg_cells,hf]
theorem bldIn50_0 {w : World} {l : List (Nat × Value)} {T : TypeId} {x0 : Operand} {v0 : Value} (h0 : ev l x0 = some v0) (o0 : v0.cells = #[v0]:=by rfl) : Yl Tryz.prog w l (.build 50 #[(0,x0)]) T (.agg #[v0,.int .i64 0,.string ⟨#[]⟩,.bool false,.string ⟨#[]⟩]):=fun ρ o h ho _=>by
  have hf : Instr.fill (fun i=>([(0,1),(1,1),(2,1),(3,1),(4,1)] : List (Nat × Nat))[i]?) #[.int .i64 0,.int .i64 0,.string ⟨#[]⟩,.bool false,.string ⟨#[]⟩] [(0,v0)] = some #[v0,.int .i64 0,.string ⟨#[]⟩,.bool false,.string ⟨#[]⟩]:=by
    refine (fill_v o0 rfl (by simp)).trans ?_
    simp [Instr.fill]
  unfold execOp; rw [ho]
  simp [h _ _ h0,Instr.build,Tryz.zeroValue50,Tryz.runUnderlying50,Tryz.sizeOf3,Tryz.sizeOf4,Tryz.sizeOf9,agg_cells,hf]
theorem bslIn22_1_0 {w : World} {l : List (Nat × Value)} {T : TypeId} {x0 : Operand} {c0 : List Value} (h0 : ev l x0 = some (.agg c0.toArray)) (n0 : c0.length = 6:=by rfl) : Mk Tryz.prog w l (.buildSlice 22 1 #[(0,x0)]) T 48 1 c0:=fun ρ o h ho _=>by
  unfold execOp; rw [ho];exact mk1 (P:=Tryz.prog) w Tryz.runUnderlying22 Tryz.sizeOf48 Tryz.zeroValue48 (by decide) (by decide) n0 (h _ _ h0)
theorem bslIn24_1_0 {w : World} {l : List (Nat × Value)} {T : TypeId} {x0 : Operand} {c0 : List Value} (h0 : ev l x0 = some (.agg c0.toArray)) (n0 : c0.length = 5:=by rfl) : Mk Tryz.prog w l (.buildSlice 24 1 #[(0,x0)]) T 50 1 c0:=fun ρ o h ho _=>by
  unfold execOp; rw [ho];exact mk1 (P:=Tryz.prog) w Tryz.runUnderlying24 Tryz.sizeOf50 Tryz.zeroValue50 (by decide) (by decide) n0 (h _ _ h0)
theorem bslIn46_1_0 {w : World} {l : List (Nat × Value)} {T : TypeId} {x0 : Operand} {c0 : List Value} (h0 : ev l x0 = some (.agg c0.toArray)) (n0 : c0.length = 3:=by rfl) : Mk Tryz.prog w l (.buildSlice 46 1 #[(0,x0)]) T 45 1 c0:=fun ρ o h ho _=>by
  unfold execOp; rw [ho];exact mk1 (P:=Tryz.prog) w Tryz.runUnderlying46 Tryz.sizeOf45 Tryz.zeroValue45 (by decide) (by decide) n0 (h _ _ h0)
theorem elIn22 : ElemT Tryz.prog 22 48 6 72:=elemT_mk Tryz.underlying22 rfl (by kernel_rfl)
theorem elIn24 : ElemT Tryz.prog 24 50 5 56:=elemT_mk Tryz.underlying24 rfl (by kernel_rfl)
theorem elIn46 : ElemT Tryz.prog 46 45 3 32:=elemT_mk Tryz.underlying46 rfl (by kernel_rfl)
section
variable {W w : World} {cs r : List Ch} {p : Nat} {st : St}
theorem InNum_c (hs : Sep W w cs) (hk : Pick cs (.rdr p 72 st) r) :
    Calls P 31 #[.pointer (some ⟨p,0,none⟩)] w (Rt fun v w'=>v = .int .i64 (rNum st).1∧Sep W w' (.rdr p 72 (rNum st).2::r)):=by
  obtain ⟨A,c,hs⟩:=hs.rdr_open hk
  have hsh:=hs.rd_shape (.there .here)
  unfold maxLen at hsh;refine enter Tryz.func31 Tryz.ntmps31 rfl rfl fun a (ha : Has a 33 [(0,_)])=>?_;refine wp_seq_k fun K1 hK1=>?_;refine wp_region_lit ?_;refine pY ha (yAssign rfl) fun a ha=>?_;refine pZ ?_;refine hK1 _ _ ?_;refine wp_seq_k fun K2 hK2=>?_;refine wp_seq_k fun K3 hK3=>?_;refine wp_region_lit ?_;refine pY ha (yMove rfl) fun a ha=>?_;refine pY ha (yNilP rfl) fun a ha=>?_;refine pY ha (yFieldA Tryz.runUnderlying72 rfl Tryz.sizeOf3 rfl rfl) fun a ha=>?_;refine pY ha (yLoadB Tryz.isAgg3 hs rfl pk0 rfl) fun a ha=>?_;refine pY ha (yNeq rfl rfl) fun a ha=>?_;refine pZ ?_;refine hK3 _ _ ?_;refine cNDec ha rfl (fun hc9=>?_) (fun hc9=>?_)
  · refine wp_seq_k fun K4 hK4=>?_;refine wp_region_lit ?_;refine pY ha (yAssign rfl) fun a ha=>?_;refine pZ ?_;refine hK4 _ _ ?_;refine wp_ret ?_;show bodyPost Tryz.prog Tryz.f31 _ .ret _ _;refine ret1 rfl ha rfl ?_;rw [rNum_err hc9]; exact ⟨rfl,hs.rdr_shut .here .here⟩
  · refine wp_skip ?_;refine hK2 _ _ ?_;refine wp_seq_k fun K5 hK5=>?_;refine wp_region_lit ?_;refine pY ha (yMove rfl) fun a ha=>?_;refine pY ha (yNilP rfl) fun a ha=>?_;refine pY ha (yFieldA Tryz.runUnderlying72 rfl Tryz.sizeOf27 rfl rfl) fun a ha=>?_;refine pY ha (yLoadB Tryz.isAgg27 hs rfl pk0 rfl) fun a ha=>?_;refine pC ha (nCall Tryz.call73 rfl) rfl (RGet_c hs (.there .here)) ?_;rintro v w ⟨rfl,hs⟩ a ha
    rcases hN : getN st.1 with _ | ⟨m,u⟩ <;> rw [hN] at ha
    · refine pY ha (yMove rfl) fun a ha=>?_;refine pY ha (yExtract rfl rfl) fun a ha=>?_;refine pY ha (yExtract rfl rfl) fun a ha=>?_;refine pY ha (yAssign rfl) fun a ha=>?_;refine pY ha (yAssign rfl) fun a ha=>?_;refine pZ ?_;refine hK5 _ _ ?_;refine wp_seq_k fun K6 hK6=>?_;refine wp_seq_k fun K7 hK7=>?_;refine wp_region_lit ?_;refine pY ha (yMove rfl) fun a ha=>?_;refine pY ha (yEql rfl rfl) fun a ha=>?_;refine pZ ?_;refine hK7 _ _ ?_;refine cDec ha rfl (fun hc19=>?_) (fun hc19=>?_)
      · refine wp_seq_k fun K8 hK8=>?_;refine wp_region_lit ?_;refine pY ha (yMove rfl) fun a ha=>?_;refine pY ha (yNilP rfl) fun a ha=>?_;refine pY ha (yFieldA Tryz.runUnderlying72 rfl Tryz.sizeOf3 rfl rfl) fun a ha=>?_;refine pStore ha Tryz.sizeOf3 hs rfl rfl rfl rfl pk0 rfl fun w hs=>?_;refine pZ ?_;refine hK8 _ _ ?_;refine wp_seq_k fun K9 hK9=>?_;refine wp_region_lit ?_;refine pY ha (yAssign rfl) fun a ha=>?_;refine pZ ?_;refine hK9 _ _ ?_;refine wp_ret ?_;show bodyPost Tryz.prog Tryz.f31 _ .ret _ _;refine ret1 rfl ha rfl ?_;rw [rNum,if_pos hc9,hN]; exact ⟨rfl,hs.rdr_shut .here .here⟩
      · refine wp_skip ?_;refine hK6 _ _ ?_;refine wp_seq_k fun K10 hK10=>?_;refine wp_region_lit ?_;refine pY ha (yMove rfl) fun a ha=>?_;refine pY ha (yMove rfl) fun a ha=>?_;refine pY ha (yNilP rfl) fun a ha=>?_;refine pY ha (yFieldA Tryz.runUnderlying72 rfl Tryz.sizeOf27 rfl rfl) fun a ha=>?_;refine pY ha (yLoadB Tryz.isAgg27 hs rfl pk0 rfl) fun a ha=>?_;refine pY ha (yMove rfl) fun a ha=>?_;refine pY ha (ySlice Tryz.runUnderlying27 Tryz.sizeOf5 rfl (.inr ⟨_,_,rfl,rfl⟩) (.inl ⟨rfl,rfl⟩) (by omega) (by omega)) fun a ha=>?_;refine pY ha (yNilP rfl) fun a ha=>?_;refine pY ha (yFieldA Tryz.runUnderlying72 rfl Tryz.sizeOf27 rfl rfl) fun a ha=>?_;refine pStore ha Tryz.sizeOf27 hs rfl rfl rfl rfl pk0 rfl fun w hs=>?_;refine pZ ?_;refine hK10 _ _ ?_;refine wp_seq_k fun K11 hK11=>?_;refine wp_region_lit ?_;refine pY ha (yMove rfl) fun a ha=>?_;refine pY ha (yAssign rfl) fun a ha=>?_;refine pZ ?_;refine hK11 _ _ ?_;refine wp_ret ?_;show bodyPost Tryz.prog Tryz.f31 _ .ret _ _;refine ret1 rfl ha rfl ?_;exact absurd rfl hc19
    · have hu:=getN_some hN
      refine pY ha (yMove rfl) fun a ha=>?_;refine pY ha (yExtract rfl rfl) fun a ha=>?_;refine pY ha (yExtract rfl rfl) fun a ha=>?_;refine pY ha (yAssign rfl) fun a ha=>?_;refine pY ha (yAssign rfl) fun a ha=>?_;refine pZ ?_;refine hK5 _ _ ?_;refine wp_seq_k fun K12 hK12=>?_;refine wp_seq_k fun K13 hK13=>?_;refine wp_region_lit ?_;refine pY ha (yMove rfl) fun a ha=>?_;refine pY ha (yEql rfl rfl) fun a ha=>?_;refine pZ ?_;refine hK13 _ _ ?_;refine cDec ha rfl (fun hc19=>?_) (fun hc19=>?_)
      · refine wp_seq_k fun K14 hK14=>?_;refine wp_region_lit ?_;refine pY ha (yMove rfl) fun a ha=>?_;refine pY ha (yNilP rfl) fun a ha=>?_;refine pY ha (yFieldA Tryz.runUnderlying72 rfl Tryz.sizeOf3 rfl rfl) fun a ha=>?_;refine pStore ha Tryz.sizeOf3 hs rfl rfl rfl rfl pk0 rfl fun w hs=>?_;refine pZ ?_;refine hK14 _ _ ?_;refine wp_seq_k fun K15 hK15=>?_;refine wp_region_lit ?_;refine pY ha (yAssign rfl) fun a ha=>?_;refine pZ ?_;refine hK15 _ _ ?_;refine wp_ret ?_;show bodyPost Tryz.prog Tryz.f31 _ .ret _ _;refine ret1 rfl ha rfl ?_;exact absurd hc19 (by omega)
      · refine wp_skip ?_;refine hK12 _ _ ?_;refine wp_seq_k fun K16 hK16=>?_;refine wp_region_lit ?_;refine pY ha (yMove rfl) fun a ha=>?_;refine pY ha (yMove rfl) fun a ha=>?_;refine pY ha (yNilP rfl) fun a ha=>?_;refine pY ha (yFieldA Tryz.runUnderlying72 rfl Tryz.sizeOf27 rfl rfl) fun a ha=>?_;refine pY ha (yLoadB Tryz.isAgg27 hs rfl pk0 rfl) fun a ha=>?_;refine pY ha (yMove rfl) fun a ha=>?_;refine pY ha (ySlice Tryz.runUnderlying27 Tryz.sizeOf5 rfl (.inr ⟨_,_,rfl,rfl⟩) (.inl ⟨rfl,rfl⟩) (by omega) (by omega)) fun a ha=>?_;refine pY ha (yNilP rfl) fun a ha=>?_;refine pY ha (yFieldA Tryz.runUnderlying72 rfl Tryz.sizeOf27 rfl rfl) fun a ha=>?_;refine pStore ha Tryz.sizeOf27 hs rfl rfl rfl rfl pk0 rfl fun w hs=>?_;refine pZ ?_;refine hK16 _ _ ?_;refine wp_seq_k fun K17 hK17=>?_;refine wp_region_lit ?_;refine pY ha (yMove rfl) fun a ha=>?_;refine pY ha (yAssign rfl) fun a ha=>?_;refine pZ ?_;refine hK17 _ _ ?_;refine wp_ret ?_;show bodyPost Tryz.prog Tryz.f31 _ .ret _ _;refine ret1 rfl ha rfl ?_;rw [rNum,if_pos hc9,hN,← hc9];have hs:=hs.rd_cut (.there .here) (lo:=u) (hi:=st.1.length) (by omega) (Nat.le_refl _);rw [List.take_length] at hs;exact ⟨rfl,(hs.rdr_shut (.there .here) .here).drop2⟩
theorem InText_c (most : Int) (hs : Sep W w cs) (hk : Pick cs (.rdr p 72 st) r) :
    Calls P 75 #[.pointer (some ⟨p,0,none⟩),.int .i64 most] w (Rt fun v w'=>v = .string (rText most st).1∧Sep W w' (.rdr p 72 (rText most st).2::r)):=by
  refine enter Tryz.func75 Tryz.ntmps75 rfl rfl fun a (ha : Has a 67 [(0,_),(1,_)])=>?_;refine wp_seq_k fun K1 hK1=>?_;refine wp_region_lit ?_;refine pY ha (yAssign rfl) fun a ha=>?_;refine pZ ?_;refine hK1 _ _ ?_;refine wp_seq_k fun K2 hK2=>?_;refine wp_region_lit ?_;refine pY ha (yMove rfl) fun a ha=>?_;refine pC ha (nCall Tryz.call31 rfl) rfl (InNum_c hs hk) ?_;rintro v w ⟨rfl,hs⟩ a ha
  rcases hq : rNum st with ⟨n,bs,e⟩
  have hv:=rNum_val st
  rw [hq] at ha hs hv;simp only at ha hs hv;obtain ⟨m,rfl⟩:=Int.eq_ofNat_of_zero_le hv.1;obtain ⟨A,c,hs⟩:=hs.rdr_open .here;simp only at hs
  have hsh:=hs.rd_shape (.there .here)
  unfold maxLen at hsh;refine pY ha (yAssign rfl) fun a ha=>?_;refine pZ ?_;refine hK2 _ _ ?_;refine wp_seq_k fun K3 hK3=>?_;refine wp_block ?_;refine wp_seq_k fun K4 hK4=>?_;refine wp_region_lit ?_;refine pY ha (yMove rfl) fun a ha=>?_;refine pY ha (yNilP rfl) fun a ha=>?_;refine pY ha (yFieldA Tryz.runUnderlying72 rfl Tryz.sizeOf3 rfl rfl) fun a ha=>?_;refine pY ha (yLoadB Tryz.isAgg3 hs rfl pk0 rfl) fun a ha=>?_;refine pY ha (yNeq rfl rfl) fun a ha=>?_;refine pY ha (yAssign rfl) fun a ha=>?_;refine pZ ?_;refine hK4 _ _ ?_;refine cNDec ha rfl (fun hc9=>?_) (fun hc9=>?_)
  · refine wp_seq_k fun K5 hK5=>?_;refine wp_region_lit ?_;refine pY ha (yAssign rfl) fun a ha=>?_;refine pZ ?_;refine hK5 _ _ ?_;refine wp_ret ?_;show bodyPost Tryz.prog Tryz.f75 _ .ret _ _;refine ret1 rfl ha rfl ?_;rw [rText_1 hq hc9]; exact ⟨rfl,hs.rdr_shut .here .here⟩
  · obtain rfl:=hc9;refine wp_seq_k fun K6 hK6=>?_;refine cutC (fun a w=>Has a 67 [(15,.bool (decide ((bs.length : Int) < m∨okText (bs.take m) = false))),(0,.pointer (some ⟨p,0,none⟩)),(1,.int .i64 most),(5,.int .i64 m)]∧Sep W w (.blk p 72 [.slice A bs.length c,.int .i64 0]::.rd kU8 (.slice A bs.length c) bs::r)) ?_ ?_
    · refine dStart (fun w=>Sep W w _) [21] 33554431 2097151 (by kernel_rfl) (by kernel_rfl) rfl (hs.drew) ?_
      have hs:=Sep.drew hs
      generalize World.drew _ = w at hs ⊢;refine dP 0 1 rfl ha (fun _=>yMove rfl) fun a ha=>?_;refine dP 1 3 rfl ha (fun _=>yMove rfl) fun a ha=>?_;refine dP 2 7 rfl ha (fun _=>yNilP rfl) fun a ha=>?_;refine dP 3 15 rfl ha (fun _=>yFieldA Tryz.runUnderlying72 rfl Tryz.sizeOf27 rfl rfl) fun a ha=>?_;refine dT 4 31 rfl ha (fun _ hs=>yLoadB Tryz.isAgg27 hs rfl pk0 rfl) (hs) fun a ha=>?_;refine dP 5 63 rfl ha (fun _=>yLenS Tryz.runUnderlying27 rfl) fun a ha=>?_;refine dP 6 127 rfl ha (fun _=>yGtr rfl rfl) fun a ha=>?_;refine dP 7 255 rfl ha (fun _=>yMove rfl) fun a ha=>?_;refine gDec (t:=23) ha rfl (fun hg7 hp7=>?_) (fun hg7 hp7=>?_)
      · rw [hg7] at ha;refine dP 8 511 rfl ha (fun _=>yMove rfl) fun a ha=>?_;refine dP 9 1023 rfl ha (fun _=>yNilP rfl) fun a ha=>?_;refine dP 10 2047 rfl ha (fun _=>yFieldA Tryz.runUnderlying72 rfl Tryz.sizeOf27 rfl rfl) fun a ha=>?_;refine dT 11 4095 rfl ha (fun _ hs=>yLoadB Tryz.isAgg27 hs rfl pk0 rfl) (hs) fun a ha=>?_;refine dP 12 8191 rfl ha (fun _=>yMove rfl) fun a ha=>?_;refine dP 13 16383 rfl ha (fun _=>yMove rfl) fun a ha=>?_;refine dP 14 32767 rfl ha (fun _=>yNilP rfl) fun a ha=>?_;refine dP 15 65535 rfl ha (fun _=>yFieldA Tryz.runUnderlying72 rfl Tryz.sizeOf27 rfl rfl) fun a ha=>?_;refine dT 16 131071 rfl ha (fun _ hs=>yLoadB Tryz.isAgg27 hs rfl pk0 rfl) (hs) fun a ha=>?_;refine dP 17 262143 rfl ha (fun _=>yLenS Tryz.runUnderlying27 rfl) fun a ha=>?_;refine dP 18 524287 rfl ha (fun _=>yMin2 rfl rfl) fun a ha=>?_;rw [if_neg (by omega)] at ha;refine dP 19 1048575 rfl ha (fun _=>ySlice Tryz.runUnderlying27 Tryz.sizeOf5 rfl (.inl ⟨rfl,rfl⟩) (.inr ⟨_,_,rfl,rfl⟩) (Nat.zero_le _) (by omega)) fun a ha=>?_;refine dT 20 2097151 rfl ha (fun _ hs=>yBytesStr Tryz.underlying27 Tryz.underlying5 Tryz.underlying9 (hs.rd_cut (.there .here) (lo:=0) (hi:=m) (Nat.zero_le _) (by omega)) rfl .here) hs fun a ha=>?_;refine dCl 21 4194303 rfl (by kernel_rfl) rfl ha (won1 rfl rfl rfl) (nCall Tryz.call55 rfl) rfl (RValid_c _ (by rw [size_mk]; simp; omega) hs) ?_;rintro v w ⟨rfl,hs⟩ a ha;refine dP 22 8388607 rfl ha (fun _=>yNot rfl) fun a ha=>?_;refine dP 23 16777215 rfl ha (fun _=>yPickF rfl rfl) fun a ha=>?_;refine dP 24 33554431 rfl ha (fun _=>yAssign rfl) fun a ha=>?_;refine dZ (by kernel_rfl) ?_;refine ⟨rfl,?_⟩;exact ⟨has4 ha (bN (by simp [hp7])) rfl rfl rfl,hs⟩
      · rw [hg7] at ha;refine dOff 8 511 rfl ha fun a ha=>?_;refine dOff 9 1023 rfl ha fun a ha=>?_;refine dOff 10 2047 rfl ha fun a ha=>?_;refine dOff 11 4095 rfl ha fun a ha=>?_;refine dOff 12 8191 rfl ha fun a ha=>?_;refine dOff 13 16383 rfl ha fun a ha=>?_;refine dOff 14 32767 rfl ha fun a ha=>?_;refine dOff 15 65535 rfl ha fun a ha=>?_;refine dOff 16 131071 rfl ha fun a ha=>?_;refine dOff 17 262143 rfl ha fun a ha=>?_;refine dOff 18 524287 rfl ha fun a ha=>?_;refine dOff 19 1048575 rfl ha fun a ha=>?_;refine dOff 20 2097151 rfl ha fun a ha=>?_;refine dOff 21 4194303 rfl ha fun a ha=>?_;refine dOff 22 8388607 rfl ha fun a ha=>?_;refine dP 23 16777215 rfl ha (fun _=>yPickT rfl rfl) fun a ha=>?_;refine dP 24 33554431 rfl ha (fun _=>yAssign rfl) fun a ha=>?_;refine dZ (by kernel_rfl) ?_;refine ⟨rfl,?_⟩;exact ⟨has4 ha (bY (.inl hp7)) rfl rfl rfl,hs⟩
    rintro a w ⟨ha,hs⟩;refine hK6 _ _ ?_;refine cDec ha rfl (fun hc15=>?_) (fun hc15=>?_)
    · have hb : rText most st = _:=rText_2 hq hc15
      refine wp_seq_k fun K7 hK7=>?_;refine wp_region_lit ?_;refine pY ha (yMove rfl) fun a ha=>?_;refine pY ha (yNilP rfl) fun a ha=>?_;refine pY ha (yFieldA Tryz.runUnderlying72 rfl Tryz.sizeOf3 rfl rfl) fun a ha=>?_;refine pStore ha Tryz.sizeOf3 hs rfl rfl rfl rfl pk0 rfl fun w hs=>?_;refine pZ ?_;refine hK7 _ _ ?_;refine wp_seq_k fun K8 hK8=>?_;refine wp_region_lit ?_;refine pY ha (yAssign rfl) fun a ha=>?_;refine pZ ?_;refine hK8 _ _ ?_;refine wp_ret ?_;show bodyPost Tryz.prog Tryz.f75 _ .ret _ _;refine ret1 rfl ha rfl ?_;rw [hb]; exact ⟨rfl,hs.rdr_shut .here .here⟩
    · have hb1 : ¬ ((m : Int) > bs.length):=fun h=>hc15 (.inl h)
      have hb2 : okText (bs.take m) = true:=by simpa using fun h=>hc15 (.inr h)
      refine wp_seq_k fun K9 hK9=>?_;refine wp_region_lit ?_;refine pY ha (yMove rfl) fun a ha=>?_;refine pY ha (yMove rfl) fun a ha=>?_;refine pY ha (yGtr rfl rfl) fun a ha=>?_;refine pY ha (yAssign rfl) fun a ha=>?_;refine pZ ?_;refine hK9 _ _ ?_;refine cDec ha rfl (fun hc43=>?_) (fun hc43=>?_)
      · have hb : rText most st = _:=rText_3 hq hb1 hb2 hc43
        refine wp_seq_k fun K10 hK10=>?_;refine wp_region_lit ?_;refine pY ha (yMove rfl) fun a ha=>?_;refine pY ha (yNilP rfl) fun a ha=>?_;refine pY ha (yFieldA Tryz.runUnderlying72 rfl Tryz.sizeOf3 rfl rfl) fun a ha=>?_;refine pStore ha Tryz.sizeOf3 hs rfl rfl rfl rfl pk0 rfl fun w hs=>?_;refine pZ ?_;refine hK10 _ _ ?_;refine wp_seq_k fun K11 hK11=>?_;refine wp_region_lit ?_;refine pY ha (yAssign rfl) fun a ha=>?_;refine pZ ?_;refine hK11 _ _ ?_;refine wp_ret ?_;show bodyPost Tryz.prog Tryz.f75 _ .ret _ _;refine ret1 rfl ha rfl ?_;rw [hb]; exact ⟨rfl,hs.rdr_shut .here .here⟩
      · have hb : rText most st = _:=rText_4 hq hb1 hb2 hc43
        have hs:=hs.rd_cut (.there .here) (lo:=0) (hi:=m) (Nat.zero_le _) (by omega);refine wp_skip ?_;refine hK3 _ _ ?_;refine wp_seq_k fun K12 hK12=>?_;refine wp_region_lit ?_;refine pY ha (yMove rfl) fun a ha=>?_;refine pY ha (yNilP rfl) fun a ha=>?_;refine pY ha (yFieldA Tryz.runUnderlying72 rfl Tryz.sizeOf27 rfl rfl) fun a ha=>?_;refine pY ha (yLoadB Tryz.isAgg27 hs rfl pk1 rfl) fun a ha=>?_;refine pY ha (yMove rfl) fun a ha=>?_;refine pY ha (ySlice Tryz.runUnderlying27 Tryz.sizeOf5 rfl (.inl ⟨rfl,rfl⟩) (.inr ⟨_,_,rfl,rfl⟩) (Nat.zero_le _) (by omega)) fun a ha=>?_;refine pY ha (yBytesStr Tryz.underlying27 Tryz.underlying5 Tryz.underlying9 hs rfl pk0) fun a ha=>?_;refine pY ha (yAssign rfl) fun a ha=>?_;refine pZ ?_;refine hK12 _ _ ?_;refine wp_seq_k fun K13 hK13=>?_;have hs:=hs.drop
        have hs:=(hs.rd_cut (.there .here) (lo:=m) (hi:=bs.length) (by omega) (Nat.le_refl _)).perm (List.Perm.swap _ _ _)
        rw [List.take_length] at hs;refine wp_region_lit ?_;refine pY ha (yMove rfl) fun a ha=>?_;refine pY ha (yMove rfl) fun a ha=>?_;refine pY ha (yNilP rfl) fun a ha=>?_;refine pY ha (yFieldA Tryz.runUnderlying72 rfl Tryz.sizeOf27 rfl rfl) fun a ha=>?_;refine pY ha (yLoadB Tryz.isAgg27 hs rfl pk0 rfl) fun a ha=>?_;refine pY ha (yMove rfl) fun a ha=>?_;refine pY ha (ySlice Tryz.runUnderlying27 Tryz.sizeOf5 rfl (.inr ⟨_,_,rfl,rfl⟩) (.inl ⟨rfl,rfl⟩) (by omega) (by omega)) fun a ha=>?_;refine pY ha (yNilP rfl) fun a ha=>?_;refine pY ha (yFieldA Tryz.runUnderlying72 rfl Tryz.sizeOf27 rfl rfl) fun a ha=>?_;refine pStore ha Tryz.sizeOf27 hs rfl rfl rfl rfl pk0 rfl fun w hs=>?_;refine pZ ?_;refine hK13 _ _ ?_;refine wp_seq_k fun K14 hK14=>?_;refine wp_region_lit ?_;refine pY ha (yMove rfl) fun a ha=>?_;refine pY ha (yAssign rfl) fun a ha=>?_;refine pZ ?_;refine hK14 _ _ ?_;refine wp_ret ?_;show bodyPost Tryz.prog Tryz.f75 _ .ret _ _;refine ret1 rfl ha rfl ?_;rw [hb]; exact ⟨rfl,(hs.rdr_shut .here .here).drop2⟩
theorem InFlag_c (hs : Sep W w cs) (hk : Pick cs (.rdr p 72 st) r) :
    Calls P 76 #[.pointer (some ⟨p,0,none⟩)] w (Rt fun v w'=>v = .bool (rFlag st).1∧Sep W w' (.rdr p 72 (rFlag st).2::r)):=by
  refine enter Tryz.func76 Tryz.ntmps76 rfl rfl fun a (ha : Has a 13 [(0,_)])=>?_;refine wp_seq_k fun K1 hK1=>?_;refine wp_region_lit ?_;refine pY ha (yAssign rfl) fun a ha=>?_;refine pZ ?_;refine hK1 _ _ ?_;refine wp_seq_k fun K2 hK2=>?_;refine wp_region_lit ?_;refine pY ha (yMove rfl) fun a ha=>?_;refine pC ha (nCall Tryz.call31 rfl) rfl (InNum_c hs hk) ?_;rintro v w ⟨rfl,hs⟩ a ha;refine pY ha (yAssign rfl) fun a ha=>?_;refine pZ ?_;refine hK2 _ _ ?_;refine wp_seq_k fun K3 hK3=>?_;refine wp_seq_k fun K4 hK4=>?_;refine wp_region_lit ?_;refine pY ha (yMove rfl) fun a ha=>?_;refine pY ha (yGtr rfl rfl) fun a ha=>?_;refine pZ ?_;refine hK4 _ _ ?_;refine cDec ha rfl (fun hc7=>?_) (fun hc7=>?_)
  · obtain ⟨A,c,hs⟩:=hs.rdr_open .here
    have he:=rNum_ok (st:=st) (by omega)
    refine wp_seq_k fun K5 hK5=>?_;refine wp_region_lit ?_;refine pY ha (yMove rfl) fun a ha=>?_;refine pY ha (yNilP rfl) fun a ha=>?_;refine pY ha (yFieldA Tryz.runUnderlying72 rfl Tryz.sizeOf3 rfl rfl) fun a ha=>?_;refine pStore ha Tryz.sizeOf3 hs rfl rfl rfl rfl pk0 rfl fun w hs=>?_;refine pZ ?_;refine hK5 _ _ ?_;refine wp_seq_k fun K6 hK6=>?_;refine wp_region_lit ?_;refine pY ha (yAssign rfl) fun a ha=>?_;refine pZ ?_;refine hK6 _ _ ?_;refine wp_ret ?_;show bodyPost Tryz.prog Tryz.f76 _ .ret _ _;refine ret1 rfl ha rfl ?_;refine ⟨by simp only [rFlag]; rw [decide_eq_false (by omega)],?_⟩;simp only [rFlag]; rw [if_pos hc7,rFail,if_pos he]; exact hs.rdr_shut .here .here
  · refine wp_skip ?_;refine hK3 _ _ ?_;refine wp_seq_k fun K7 hK7=>?_;refine wp_region_lit ?_;refine pY ha (yMove rfl) fun a ha=>?_;refine pY ha (yEql rfl rfl) fun a ha=>?_;refine pY ha (yAssign rfl) fun a ha=>?_;refine pZ ?_;refine hK7 _ _ ?_;refine wp_ret ?_;show bodyPost Tryz.prog Tryz.f76 _ .ret _ _;refine ret1 rfl ha rfl ?_;refine ⟨rfl,?_⟩; simp only [rFlag]; rw [if_neg hc7]; exact hs
theorem InCount_c (most : Int) (h0 : 0≤most) (hs : Sep W w cs) (hk : Pick cs (.rdr p 72 st) r) :
    Calls P 74 #[.pointer (some ⟨p,0,none⟩),.int .i64 most] w (Rt fun v w'=>v = .int .i64 (rMany most st).1∧Sep W w' (.rdr p 72 (rMany most st).2::r)):=by
  refine enter Tryz.func74 Tryz.ntmps74 rfl rfl fun a (ha : Has a 22 [(0,_),(1,_)])=>?_;refine wp_seq_k fun K1 hK1=>?_;refine wp_region_lit ?_;refine pY ha (yAssign rfl) fun a ha=>?_;refine pZ ?_;refine hK1 _ _ ?_;refine wp_seq_k fun K2 hK2=>?_;refine wp_region_lit ?_;refine pY ha (yMove rfl) fun a ha=>?_;refine pC ha (nCall Tryz.call31 rfl) rfl (InNum_c hs hk) ?_;rintro v w ⟨rfl,hs⟩ a ha;refine pY ha (yAssign rfl) fun a ha=>?_;refine pZ ?_;refine hK2 _ _ ?_;refine wp_seq_k fun K3 hK3=>?_;refine wp_seq_k fun K4 hK4=>?_;obtain ⟨A,c,hs⟩:=hs.rdr_open .here;refine wp_region_lit ?_;refine pY ha (yMove rfl) fun a ha=>?_;refine pY ha (yNilP rfl) fun a ha=>?_;refine pY ha (yFieldA Tryz.runUnderlying72 rfl Tryz.sizeOf3 rfl rfl) fun a ha=>?_;refine pY ha (yLoadB Tryz.isAgg3 hs rfl pk0 rfl) fun a ha=>?_;refine pY ha (yEql rfl rfl) fun a ha=>?_;refine pY ha (yMove rfl) fun a ha=>?_;refine gDec (t:=13) ha rfl (fun hg5 hp5=>?_) (fun hg5 hp5=>?_)
  · rw [hg5] at ha;refine gOff ha fun a ha=>?_;refine gOff ha fun a ha=>?_;refine gOff ha fun a ha=>?_;refine pY ha (yPickF rfl rfl) fun a ha=>?_;refine pZ ?_;refine hK4 _ _ ?_;refine cFalse ha rfl ?_;refine wp_skip ?_;refine hK3 _ _ ?_;refine wp_seq_k fun K5 hK5=>?_;refine wp_region_lit ?_;refine pY ha (yMove rfl) fun a ha=>?_;refine pY ha (yAssign rfl) fun a ha=>?_;refine pZ ?_;refine hK5 _ _ ?_;refine wp_ret ?_;show bodyPost Tryz.prog Tryz.f74 _ .ret _ _;refine ret1 rfl ha rfl ?_;simp only [rMany]; rw [if_neg (by intro h; exact hp5 (rNum_ok (by omega)))]; exact ⟨rfl,hs.rdr_shut .here .here⟩
  · rw [hg5] at ha;refine gOn ha ?_;refine pY ha (yMove rfl) fun a ha=>?_;refine gOn ha ?_;refine pY ha (yMove rfl) fun a ha=>?_;refine gOn ha ?_;refine pY ha (yGtr rfl rfl) fun a ha=>?_;refine pY ha (yPickT rfl rfl) fun a ha=>?_;refine pZ ?_;refine hK4 _ _ ?_;refine cDec ha rfl (fun hc17=>?_) (fun hc17=>?_)
    · refine wp_seq_k fun K6 hK6=>?_;refine wp_region_lit ?_;refine pY ha (yMove rfl) fun a ha=>?_;refine pY ha (yNilP rfl) fun a ha=>?_;refine pY ha (yFieldA Tryz.runUnderlying72 rfl Tryz.sizeOf3 rfl rfl) fun a ha=>?_;refine pStore ha Tryz.sizeOf3 hs rfl rfl rfl rfl pk0 rfl fun w hs=>?_;refine pZ ?_;refine hK6 _ _ ?_;refine wp_seq_k fun K7 hK7=>?_;refine wp_region_lit ?_;refine pY ha (yAssign rfl) fun a ha=>?_;refine pZ ?_;refine hK7 _ _ ?_;refine wp_ret ?_;show bodyPost Tryz.prog Tryz.f74 _ .ret _ _;refine ret1 rfl ha rfl ?_;simp only [rMany]; rw [if_pos hc17,rFail,if_pos hp5]; exact ⟨rfl,hs.rdr_shut .here .here⟩
    · refine wp_skip ?_;refine hK3 _ _ ?_;refine wp_seq_k fun K8 hK8=>?_;refine wp_region_lit ?_;refine pY ha (yMove rfl) fun a ha=>?_;refine pY ha (yAssign rfl) fun a ha=>?_;refine pZ ?_;refine hK8 _ _ ?_;refine wp_ret ?_;show bodyPost Tryz.prog Tryz.f74 _ .ret _ _;refine ret1 rfl ha rfl ?_;simp only [rMany]; rw [if_neg hc17]; exact ⟨rfl,hs.rdr_shut .here .here⟩
theorem InComps_c (hs : Sep W w cs) (hk : Pick cs (.rdr p 72 st) r) :
    Calls P 77 #[.pointer (some ⟨p,0,none⟩)] w (Rt fun v w'=>∃ A c,v = .slice A (rComps st).1.length c∧Sep W w' (.ol kComp 45 (.slice A (rComps st).1.length c) (rComps st).1::.rdr p 72 (rComps st).2::r)):=by
  have hM:=rMany_val 100 (by decide) st
  refine enter Tryz.func77 Tryz.ntmps77 rfl rfl fun a (ha : Has a 40 [(0,_)])=>?_;refine wp_seq_k fun K1 hK1=>?_;refine wp_region_lit ?_;refine pY ha (yAssign rfl) fun a ha=>?_;refine pZ ?_;refine hK1 _ _ ?_;refine wp_seq_k fun K2 hK2=>?_;refine wp_region_lit ?_;refine pY ha (yMove rfl) fun a ha=>?_;refine pC ha (nCall Tryz.call74 rfl) rfl (InCount_c 100 (by decide) hs hk) ?_;rintro v w ⟨rfl,hs⟩ a ha;refine pY ha (yAssign rfl) fun a ha=>?_;obtain ⟨m,hm⟩:=Int.eq_ofNat_of_zero_le hM.1;obtain ⟨s1,hs1⟩ : ∃ s1,(rMany 100 st).2 = s1:=⟨_,rfl⟩;rw [hm] at ha;rw [hs1] at hs;refine pZ ?_;refine hK2 _ _ ?_;refine wp_seq_k fun K3 hK3=>?_;refine wp_region_lit ?_;refine pY ha (yAssign rfl) fun a ha=>?_;refine pZ ?_;refine hK3 _ _ ?_;refine wp_seq_k fun K4 hK4=>?_;refine wp_seq_k fun K5 hK5=>?_;refine wp_region_lit ?_;refine pY ha (yAssign rfl) fun a ha=>?_;refine pZ ?_;refine hK5 _ _ ?_;refine wp_block ?_;refine loopI (ι:=Nat × Option Addr × Nat) (fun i a w=>i.1≤m∧Has a 40 [(0,.pointer (some ⟨p,0,none⟩)),(4,.slice i.2.1 (rList rComp i.1 s1).1.length i.2.2),(3,.int .i64 m),(5,.int .i64 i.1)]∧Sep W w (.ol kComp 45 (.slice i.2.1 (rList rComp i.1 s1).1.length i.2.2) (rList rComp i.1 s1).1::.rdr p 72 (rList rComp i.1 s1).2::r)) (fun i=>m - i.1) ((0,none,0)) ?_ ?_
  · exact ⟨Nat.zero_le _,has4 ha rfl rfl rfl rfl,hs.ol_nil kComp _ none⟩
  · rintro i a w ⟨h1,ha,hs⟩;obtain ⟨i,A,c⟩:=i; simp only at h1 ha hs;refine wp_seq_k fun K6 hK6=>?_;refine wp_seq_k fun K7 hK7=>?_
    have hll:=rList_len rComp i s1
    have hln:=rList_snoc rComp i s1
    have hst:=rAll_stop (f:=rComp) (fun st h=>rComp_err h) (i:=i) hm hs1 h1
    have hA : rComps st = _:=rAll_at (f:=rComp) hm hs1
    generalize hl : rList rComp i s1 = q at ha hs hll hln hst;obtain ⟨xs,s2⟩:=q;simp only at ha hs hll hln hst;refine cutC (fun a w=>Has a 40 [(19,.bool (decide (i < m∧s2.2 = 0))),(0,.pointer (some ⟨p,0,none⟩)),(4,.slice A xs.length c),(3,.int .i64 m),(5,.int .i64 i)]∧Sep W w (.ol kComp 45 (.slice A xs.length c) xs::.rdr p 72 s2::r)) ?_ ?_
    · refine wp_region_lit ?_;refine pY ha (yMove rfl) fun a ha=>?_;refine pY ha (yMove rfl) fun a ha=>?_;refine pY ha (yLss rfl rfl) fun a ha=>?_;refine pY ha (yMove rfl) fun a ha=>?_;refine gDec (t:=13) ha rfl (fun hg3 hp3=>?_) (fun hg3 hp3=>?_)
      · rw [hg3] at ha;refine gOff ha fun a ha=>?_;refine gOff ha fun a ha=>?_;refine gOff ha fun a ha=>?_;refine gOff ha fun a ha=>?_;refine gOff ha fun a ha=>?_;refine pY ha (yPickF rfl rfl) fun a ha=>?_;refine pZ ⟨rfl,?_⟩;exact ⟨has5 ha (bF (by omega)) rfl rfl rfl rfl,hs⟩
      · rw [hg3] at ha;obtain ⟨A',c',hs⟩:=hs.rdr_open (.there .here);refine gOn ha ?_;refine pY ha (yMove rfl) fun a ha=>?_;refine gOn ha ?_;refine pY ha (yNilP rfl) fun a ha=>?_;refine gOn ha ?_;refine pY ha (yFieldA Tryz.runUnderlying72 rfl Tryz.sizeOf3 rfl rfl) fun a ha=>?_;refine gOn ha ?_;refine pY ha (yLoadB Tryz.isAgg3 hs rfl pk0 rfl) fun a ha=>?_;refine gOn ha ?_;refine pY ha (yEql rfl rfl) fun a ha=>?_;refine pY ha (yPickT rfl rfl) fun a ha=>?_;refine pZ ⟨rfl,?_⟩;exact ⟨has5 ha (bT (by omega)) rfl rfl rfl rfl,(hs.rdr_shut .here .here).perm (List.Perm.swap _ _ _)⟩
    rintro a w ⟨ha,hs⟩;refine hK7 _ _ ?_;refine cDec ha rfl (fun hc19=>?_) (fun hc19=>?_)
    · refine wp_skip ?_;refine hK6 _ _ ?_;refine wp_seq_k fun K8 hK8=>?_;refine wp_block ?_;refine wp_seq_k fun K9 hK9=>?_;refine wp_region_lit ?_;refine pY ha (yMove rfl) fun a ha=>?_;refine pC ha (nCall Tryz.call31 rfl) rfl (InNum_c hs (.there .here)) ?_;rintro v w ⟨rfl,hs⟩ a ha;refine pY ha (yAssign rfl) fun a ha=>?_;refine pZ ?_;refine hK9 _ _ ?_;refine wp_seq_k fun K10 hK10=>?_;refine wp_region_lit ?_;refine pY ha (yMove rfl) fun a ha=>?_;refine pC ha (nCall Tryz.call31 rfl) rfl (InNum_c hs .here) ?_;rintro v w ⟨rfl,hs⟩ a ha;refine pY ha (yAssign rfl) fun a ha=>?_;refine pZ ?_;refine hK10 _ _ ?_;refine wp_region_lit ?_;refine pY ha (yMove rfl) fun a ha=>?_;refine pY ha (yMove rfl) fun a ha=>?_;refine pY ha (yMove rfl) fun a ha=>?_;refine pY ha (yMove rfl) fun a ha=>?_;refine pC ha (nCall Tryz.call75 rfl) rfl (InText_c 8000 hs .here) ?_;rintro v w ⟨rfl,hs⟩ a ha;refine pY ha (bldIn45_0_1_2 rfl rfl rfl) fun a ha=>?_;refine pMake ha (bslIn46_1_0 rfl) hs rfl fun b w hs a ha=>?_;have hs:=hs.add (x:=.el kComp (rComp s2).1 [.int .i64 (rComp s2).1.kind,.int .i64 (rComp s2).1.n,.string (rComp s2).1.text]) (fun Z=>rfl);refine pApp1 ha elIn46 rfl rfl hs pk3 pk1 pk0 rfl (by (unfold maxLen; omega)) (by omega) rfl fun A c w hs a ha=>?_;refine pY ha (yAssign rfl) fun a ha=>?_;refine pZ ?_;refine hK8 _ _ ?_;refine wp_region_lit ?_;refine pY ha (yMove rfl) fun a ha=>?_;refine pY ha (yAddN rfl rfl ⟨by omega,by omega⟩) fun a ha=>?_;refine pY ha (yAssign rfl) fun a ha=>?_;refine pZ ?_
      have e1 : (rList rComp (i + 1) s1).1 = xs++[(rComp s2).1]:=by rw [hln]
      have e2 : (rList rComp (i + 1) s1).2 = (rComp s2).2:=by rw [hln]
      refine ⟨(i + 1,A,c),⟨by simp only; omega,?_,?_⟩,by simp only; omega⟩
      · simp only [e1,List.length_append,List.length_cons,List.length_nil]; exact has4 ha rfl rfl rfl rfl
      · simp only [e1,e2,List.length_append,List.length_cons,List.length_nil]; exact hs
    · refine wp_exit ?_;refine hK4 _ _ ?_;refine wp_seq_k fun K11 hK11=>?_;refine wp_seq_k fun K12 hK12=>?_;obtain ⟨A',c',hs⟩:=hs.rdr_open (.there .here);refine wp_region_lit ?_;refine pY ha (yMove rfl) fun a ha=>?_;refine pY ha (yNilP rfl) fun a ha=>?_;refine pY ha (yFieldA Tryz.runUnderlying72 rfl Tryz.sizeOf3 rfl rfl) fun a ha=>?_;refine pY ha (yLoadB Tryz.isAgg3 hs rfl pk0 rfl) fun a ha=>?_;refine pY ha (yNeq rfl rfl) fun a ha=>?_;refine pZ ?_;refine hK12 _ _ ?_;refine cNDec ha rfl (fun hc38=>?_) (fun hc38=>?_)
      · refine wp_seq_k fun K13 hK13=>?_;refine wp_region_lit ?_;refine pY ha (yAssign rfl) fun a ha=>?_;refine pZ ?_;refine hK13 _ _ ?_;refine wp_ret ?_;show bodyPost Tryz.prog Tryz.f77 _ .ret _ _;refine ret1 rfl ha rfl ?_
        have hA : rComps st = _:=hst hc38
        rw [hA]; exact ⟨none,0,rfl,(hs.rdr_shut .here .here).drop2.ol_nil kComp _ none⟩
      · refine wp_skip ?_;refine hK11 _ _ ?_;refine wp_seq_k fun K14 hK14=>?_;refine wp_region_lit ?_;refine pY ha (yMove rfl) fun a ha=>?_;refine pY ha (yAssign rfl) fun a ha=>?_;refine pZ ?_;refine hK14 _ _ ?_;refine wp_ret ?_;show bodyPost Tryz.prog Tryz.f77 _ .ret _ _;refine ret1 rfl ha rfl ?_;obtain rfl : i = m:=by omega
        rw [hl] at hA;rw [if_pos hc38] at hA; rw [hA]; exact ⟨A,c,rfl,(hs.rdr_shut .here .here).perm (List.Perm.swap _ _ _)⟩
theorem InNods_c (hs : Sep W w cs) (hk : Pick cs (.rdr p 72 st) r) :
    Calls P 33 #[.pointer (some ⟨p,0,none⟩)] w (Rt fun v w'=>∃ A c,v = .slice A (rNods st).1.length c∧Sep W w' (.ol kNod 50 (.slice A (rNods st).1.length c) (rNods st).1::.rdr p 72 (rNods st).2::r)):=by
  have hM:=rMany_val 100 (by decide) st
  refine enter Tryz.func33 Tryz.ntmps33 rfl rfl fun a (ha : Has a 46 [(0,_)])=>?_;refine wp_seq_k fun K1 hK1=>?_;refine wp_region_lit ?_;refine pY ha (yAssign rfl) fun a ha=>?_;refine pZ ?_;refine hK1 _ _ ?_;refine wp_seq_k fun K2 hK2=>?_;refine wp_region_lit ?_;refine pY ha (yMove rfl) fun a ha=>?_;refine pC ha (nCall Tryz.call74 rfl) rfl (InCount_c 100 (by decide) hs hk) ?_;rintro v w ⟨rfl,hs⟩ a ha;refine pY ha (yAssign rfl) fun a ha=>?_;obtain ⟨m,hm⟩:=Int.eq_ofNat_of_zero_le hM.1;obtain ⟨s1,hs1⟩ : ∃ s1,(rMany 100 st).2 = s1:=⟨_,rfl⟩;rw [hm] at ha;rw [hs1] at hs;refine pZ ?_;refine hK2 _ _ ?_;refine wp_seq_k fun K3 hK3=>?_;refine wp_region_lit ?_;refine pY ha (yAssign rfl) fun a ha=>?_;refine pZ ?_;refine hK3 _ _ ?_;refine wp_seq_k fun K4 hK4=>?_;refine wp_seq_k fun K5 hK5=>?_;refine wp_region_lit ?_;refine pY ha (yAssign rfl) fun a ha=>?_;refine pZ ?_;refine hK5 _ _ ?_;refine wp_block ?_;refine loopI (ι:=Nat × Option Addr × Nat) (fun i a w=>i.1≤m∧Has a 46 [(0,.pointer (some ⟨p,0,none⟩)),(4,.slice i.2.1 (rList rNod i.1 s1).1.length i.2.2),(3,.int .i64 m),(5,.int .i64 i.1)]∧Sep W w (.ol kNod 50 (.slice i.2.1 (rList rNod i.1 s1).1.length i.2.2) (rList rNod i.1 s1).1::.rdr p 72 (rList rNod i.1 s1).2::r)) (fun i=>m - i.1) ((0,none,0)) ?_ ?_
  · exact ⟨Nat.zero_le _,has4 ha rfl rfl rfl rfl,hs.ol_nil kNod _ none⟩
  · rintro i a w ⟨h1,ha,hs⟩;obtain ⟨i,A,c⟩:=i; simp only at h1 ha hs;refine wp_seq_k fun K6 hK6=>?_;refine wp_seq_k fun K7 hK7=>?_
    have hll:=rList_len rNod i s1
    have hln:=rList_snoc rNod i s1
    have hst:=rAll_stop (f:=rNod) (fun st h=>rNod_err h) (i:=i) hm hs1 h1
    have hA : rNods st = _:=rAll_at (f:=rNod) hm hs1
    generalize hl : rList rNod i s1 = q at ha hs hll hln hst;obtain ⟨xs,s2⟩:=q;simp only at ha hs hll hln hst;refine cutC (fun a w=>Has a 46 [(18,.bool (decide (i < m∧s2.2 = 0))),(0,.pointer (some ⟨p,0,none⟩)),(4,.slice A xs.length c),(3,.int .i64 m),(5,.int .i64 i)]∧Sep W w (.ol kNod 50 (.slice A xs.length c) xs::.rdr p 72 s2::r)) ?_ ?_
    · refine wp_region_lit ?_;refine pY ha (yMove rfl) fun a ha=>?_;refine pY ha (yMove rfl) fun a ha=>?_;refine pY ha (yLss rfl rfl) fun a ha=>?_;refine pY ha (yMove rfl) fun a ha=>?_;refine gDec (t:=12) ha rfl (fun hg3 hp3=>?_) (fun hg3 hp3=>?_)
      · rw [hg3] at ha;refine gOff ha fun a ha=>?_;refine gOff ha fun a ha=>?_;refine gOff ha fun a ha=>?_;refine gOff ha fun a ha=>?_;refine gOff ha fun a ha=>?_;refine pY ha (yPickF rfl rfl) fun a ha=>?_;refine pZ ⟨rfl,?_⟩;exact ⟨has5 ha (bF (by omega)) rfl rfl rfl rfl,hs⟩
      · rw [hg3] at ha;obtain ⟨A',c',hs⟩:=hs.rdr_open (.there .here);refine gOn ha ?_;refine pY ha (yMove rfl) fun a ha=>?_;refine gOn ha ?_;refine pY ha (yNilP rfl) fun a ha=>?_;refine gOn ha ?_;refine pY ha (yFieldA Tryz.runUnderlying72 rfl Tryz.sizeOf3 rfl rfl) fun a ha=>?_;refine gOn ha ?_;refine pY ha (yLoadB Tryz.isAgg3 hs rfl pk0 rfl) fun a ha=>?_;refine gOn ha ?_;refine pY ha (yEql rfl rfl) fun a ha=>?_;refine pY ha (yPickT rfl rfl) fun a ha=>?_;refine pZ ⟨rfl,?_⟩;exact ⟨has5 ha (bT (by omega)) rfl rfl rfl rfl,(hs.rdr_shut .here .here).perm (List.Perm.swap _ _ _)⟩
    rintro a w ⟨ha,hs⟩;refine hK7 _ _ ?_;refine cDec ha rfl (fun hc18=>?_) (fun hc18=>?_)
    · refine wp_skip ?_;refine hK6 _ _ ?_;refine wp_seq_k fun K8 hK8=>?_;refine wp_block ?_;refine wp_seq_k fun K9 hK9=>?_;refine wp_region_lit ?_;refine pY ha (yMove rfl) fun a ha=>?_;refine pC ha (nCall Tryz.call31 rfl) rfl (InNum_c hs (.there .here)) ?_;rintro v w ⟨rfl,hs⟩ a ha;refine pY ha (bldIn50_0 rfl) fun a ha=>?_;refine pAlloc (zs:=[.int .i64 0,.int .i64 0,.string ⟨#[]⟩,.bool false,.string ⟨#[]⟩]) ha Tryz.zeroValue50 rfl hs rfl fun b w hs a ha=>?_;refine pStoreA ha Tryz.sizeOf50 hs rfl rfl pk0 rfl rfl rfl fun w hs=>?_;refine pZ ?_;refine hK9 _ _ ?_;refine wp_seq_k fun K10 hK10=>?_;refine wp_region_lit ?_;refine pY ha (yMove rfl) fun a ha=>?_;refine pC ha (nCall Tryz.call31 rfl) rfl (InNum_c hs pk1) ?_;rintro v w ⟨rfl,hs⟩ a ha;refine pY ha (yFieldA Tryz.runUnderlying50 rfl Tryz.sizeOf3 rfl rfl) fun a ha=>?_;refine pStore ha Tryz.sizeOf3 hs rfl rfl rfl rfl pk1 rfl fun w hs=>?_;refine pZ ?_;refine hK10 _ _ ?_;refine wp_seq_k fun K11 hK11=>?_;refine wp_region_lit ?_;refine pY ha (yMove rfl) fun a ha=>?_;refine pC ha (nCall Tryz.call75 rfl) rfl (InText_c 100 hs pk1) ?_;rintro v w ⟨rfl,hs⟩ a ha;refine pY ha (yFieldA Tryz.runUnderlying50 rfl Tryz.sizeOf9 rfl rfl) fun a ha=>?_;refine pStore ha Tryz.sizeOf9 hs rfl rfl rfl rfl pk1 rfl fun w hs=>?_;refine pZ ?_;refine hK11 _ _ ?_;refine wp_seq_k fun K12 hK12=>?_;refine wp_region_lit ?_;refine pY ha (yMove rfl) fun a ha=>?_;refine pC ha (nCall Tryz.call76 rfl) rfl (InFlag_c hs pk1) ?_;rintro v w ⟨rfl,hs⟩ a ha;refine pY ha (yFieldA Tryz.runUnderlying50 rfl Tryz.sizeOf4 rfl rfl) fun a ha=>?_;refine pStore ha Tryz.sizeOf4 hs rfl rfl rfl rfl pk1 rfl fun w hs=>?_;refine pZ ?_;refine hK12 _ _ ?_;refine wp_seq_k fun K13 hK13=>?_;refine wp_region_lit ?_;refine pY ha (yMove rfl) fun a ha=>?_;refine pC ha (nCall Tryz.call75 rfl) rfl (InText_c 8000 hs pk1) ?_;rintro v w ⟨rfl,hs⟩ a ha;refine pY ha (yFieldA Tryz.runUnderlying50 rfl Tryz.sizeOf9 rfl rfl) fun a ha=>?_;refine pStore ha Tryz.sizeOf9 hs rfl rfl rfl rfl pk1 rfl fun w hs=>?_;refine pZ ?_;refine hK13 _ _ ?_;refine wp_region_lit ?_;refine pY ha (yMove rfl) fun a ha=>?_;refine pY ha (yLoadBA Tryz.isAgg50 Tryz.sizeOf50 hs rfl pk0 rfl) fun a ha=>?_;refine pMake ha (bslIn24_1_0 rfl) hs rfl fun b w hs a ha=>?_;have hs:=hs.add (x:=.el kNod (rNod s2).1 [.int .i64 (rNod s2).1.id,.int .i64 (rNod s2).1.parent,.string (rNod s2).1.name,.bool (rNod s2).1.dir,.string (rNod s2).1.text]) (fun Z=>rfl);refine pApp1 ha elIn24 rfl rfl hs pk4 pk1 pk0 rfl (by (unfold maxLen; omega)) (by omega) rfl fun A c w hs a ha=>?_;refine pY ha (yAssign rfl) fun a ha=>?_;refine pZ ?_;refine hK8 _ _ ?_;refine wp_region_lit ?_;refine pY ha (yMove rfl) fun a ha=>?_;refine pY ha (yAddN rfl rfl ⟨by omega,by omega⟩) fun a ha=>?_;refine pY ha (yAssign rfl) fun a ha=>?_;refine pZ ?_
      have e1 : (rList rNod (i + 1) s1).1 = xs++[(rNod s2).1]:=by rw [hln]
      have e2 : (rList rNod (i + 1) s1).2 = (rNod s2).2:=by rw [hln]
      refine ⟨(i + 1,A,c),⟨by simp only; omega,?_,?_⟩,by simp only; omega⟩
      · simp only [e1,List.length_append,List.length_cons,List.length_nil]; exact has4 ha rfl rfl rfl rfl
      · simp only [e1,e2,List.length_append,List.length_cons,List.length_nil]; exact hs.drop2
    · refine wp_exit ?_;refine hK4 _ _ ?_;refine wp_seq_k fun K14 hK14=>?_;refine wp_seq_k fun K15 hK15=>?_;obtain ⟨A',c',hs⟩:=hs.rdr_open (.there .here);refine wp_region_lit ?_;refine pY ha (yMove rfl) fun a ha=>?_;refine pY ha (yNilP rfl) fun a ha=>?_;refine pY ha (yFieldA Tryz.runUnderlying72 rfl Tryz.sizeOf3 rfl rfl) fun a ha=>?_;refine pY ha (yLoadB Tryz.isAgg3 hs rfl pk0 rfl) fun a ha=>?_;refine pY ha (yNeq rfl rfl) fun a ha=>?_;refine pZ ?_;refine hK15 _ _ ?_;refine cNDec ha rfl (fun hc44=>?_) (fun hc44=>?_)
      · refine wp_seq_k fun K16 hK16=>?_;refine wp_region_lit ?_;refine pY ha (yAssign rfl) fun a ha=>?_;refine pZ ?_;refine hK16 _ _ ?_;refine wp_ret ?_;show bodyPost Tryz.prog Tryz.f33 _ .ret _ _;refine ret1 rfl ha rfl ?_
        have hA : rNods st = _:=hst hc44
        rw [hA]; exact ⟨none,0,rfl,(hs.rdr_shut .here .here).drop2.ol_nil kNod _ none⟩
      · refine wp_skip ?_;refine hK14 _ _ ?_;refine wp_seq_k fun K17 hK17=>?_;refine wp_region_lit ?_;refine pY ha (yMove rfl) fun a ha=>?_;refine pY ha (yAssign rfl) fun a ha=>?_;refine pZ ?_;refine hK17 _ _ ?_;refine wp_ret ?_;show bodyPost Tryz.prog Tryz.f33 _ .ret _ _;refine ret1 rfl ha rfl ?_;obtain rfl : i = m:=by omega
        rw [hl] at hA;rw [if_pos hc44] at hA; rw [hA]; exact ⟨A,c,rfl,(hs.rdr_shut .here .here).perm (List.Perm.swap _ _ _)⟩
theorem InActns_c (hs : Sep W w cs) (hk : Pick cs (.rdr p 72 st) r) :
    Calls P 32 #[.pointer (some ⟨p,0,none⟩)] w (Rt fun v w'=>∃ A c,v = .slice A (rActns st).1.length c∧Sep W w' (.ol kActn 48 (.slice A (rActns st).1.length c) (rActns st).1::.rdr p 72 (rActns st).2::r)):=by
  have hM:=rMany_val 20 (by decide) st
  refine enter Tryz.func32 Tryz.ntmps32 rfl rfl fun a (ha : Has a 49 [(0,_)])=>?_;refine wp_seq_k fun K1 hK1=>?_;refine wp_region_lit ?_;refine pY ha (yAssign rfl) fun a ha=>?_;refine pZ ?_;refine hK1 _ _ ?_;refine wp_seq_k fun K2 hK2=>?_;refine wp_region_lit ?_;refine pY ha (yMove rfl) fun a ha=>?_;refine pC ha (nCall Tryz.call74 rfl) rfl (InCount_c 20 (by decide) hs hk) ?_;rintro v w ⟨rfl,hs⟩ a ha;refine pY ha (yAssign rfl) fun a ha=>?_;obtain ⟨m,hm⟩:=Int.eq_ofNat_of_zero_le hM.1;obtain ⟨s1,hs1⟩ : ∃ s1,(rMany 20 st).2 = s1:=⟨_,rfl⟩;rw [hm] at ha;rw [hs1] at hs;refine pZ ?_;refine hK2 _ _ ?_;refine wp_seq_k fun K3 hK3=>?_;refine wp_region_lit ?_;refine pY ha (yAssign rfl) fun a ha=>?_;refine pZ ?_;refine hK3 _ _ ?_;refine wp_seq_k fun K4 hK4=>?_;refine wp_seq_k fun K5 hK5=>?_;refine wp_region_lit ?_;refine pY ha (yAssign rfl) fun a ha=>?_;refine pZ ?_;refine hK5 _ _ ?_;refine wp_block ?_;refine loopI (ι:=Nat × Option Addr × Nat) (fun i a w=>i.1≤m∧Has a 49 [(0,.pointer (some ⟨p,0,none⟩)),(4,.slice i.2.1 (rList rActn i.1 s1).1.length i.2.2),(3,.int .i64 m),(5,.int .i64 i.1)]∧Sep W w (.ol kActn 48 (.slice i.2.1 (rList rActn i.1 s1).1.length i.2.2) (rList rActn i.1 s1).1::.rdr p 72 (rList rActn i.1 s1).2::r)) (fun i=>m - i.1) ((0,none,0)) ?_ ?_
  · exact ⟨Nat.zero_le _,has4 ha rfl rfl rfl rfl,hs.ol_nil kActn _ none⟩
  · rintro i a w ⟨h1,ha,hs⟩;obtain ⟨i,A,c⟩:=i; simp only at h1 ha hs;refine wp_seq_k fun K6 hK6=>?_;refine wp_seq_k fun K7 hK7=>?_
    have hll:=rList_len rActn i s1
    have hln:=rList_snoc rActn i s1
    have hst:=rAll_stop (f:=rActn) (fun st h=>rActn_err h) (i:=i) hm hs1 h1
    have hA : rActns st = _:=rAll_at (f:=rActn) hm hs1
    generalize hl : rList rActn i s1 = q at ha hs hll hln hst;obtain ⟨xs,s2⟩:=q;simp only at ha hs hll hln hst;refine cutC (fun a w=>Has a 49 [(18,.bool (decide (i < m∧s2.2 = 0))),(0,.pointer (some ⟨p,0,none⟩)),(4,.slice A xs.length c),(3,.int .i64 m),(5,.int .i64 i)]∧Sep W w (.ol kActn 48 (.slice A xs.length c) xs::.rdr p 72 s2::r)) ?_ ?_
    · refine wp_region_lit ?_;refine pY ha (yMove rfl) fun a ha=>?_;refine pY ha (yMove rfl) fun a ha=>?_;refine pY ha (yLss rfl rfl) fun a ha=>?_;refine pY ha (yMove rfl) fun a ha=>?_;refine gDec (t:=12) ha rfl (fun hg3 hp3=>?_) (fun hg3 hp3=>?_)
      · rw [hg3] at ha;refine gOff ha fun a ha=>?_;refine gOff ha fun a ha=>?_;refine gOff ha fun a ha=>?_;refine gOff ha fun a ha=>?_;refine gOff ha fun a ha=>?_;refine pY ha (yPickF rfl rfl) fun a ha=>?_;refine pZ ⟨rfl,?_⟩;exact ⟨has5 ha (bF (by omega)) rfl rfl rfl rfl,hs⟩
      · rw [hg3] at ha;obtain ⟨A',c',hs⟩:=hs.rdr_open (.there .here);refine gOn ha ?_;refine pY ha (yMove rfl) fun a ha=>?_;refine gOn ha ?_;refine pY ha (yNilP rfl) fun a ha=>?_;refine gOn ha ?_;refine pY ha (yFieldA Tryz.runUnderlying72 rfl Tryz.sizeOf3 rfl rfl) fun a ha=>?_;refine gOn ha ?_;refine pY ha (yLoadB Tryz.isAgg3 hs rfl pk0 rfl) fun a ha=>?_;refine gOn ha ?_;refine pY ha (yEql rfl rfl) fun a ha=>?_;refine pY ha (yPickT rfl rfl) fun a ha=>?_;refine pZ ⟨rfl,?_⟩;exact ⟨has5 ha (bT (by omega)) rfl rfl rfl rfl,(hs.rdr_shut .here .here).perm (List.Perm.swap _ _ _)⟩
    rintro a w ⟨ha,hs⟩;refine hK7 _ _ ?_;refine cDec ha rfl (fun hc18=>?_) (fun hc18=>?_)
    · refine wp_skip ?_;refine hK6 _ _ ?_;refine wp_seq_k fun K8 hK8=>?_;refine wp_block ?_;refine wp_seq_k fun K9 hK9=>?_;refine wp_region_lit ?_;refine pY ha (yMove rfl) fun a ha=>?_;refine pC ha (nCall Tryz.call31 rfl) rfl (InNum_c hs (.there .here)) ?_;rintro v w ⟨rfl,hs⟩ a ha;refine pY ha (bldIn48_0 rfl) fun a ha=>?_;refine pAlloc (zs:=[.int .i64 0,.int .i64 0,.int .i64 0,.string ⟨#[]⟩,.bool false,.slice none 0 0]) ha Tryz.zeroValue48 rfl hs rfl fun b w hs a ha=>?_;refine pStoreA ha Tryz.sizeOf48 hs rfl rfl pk0 rfl rfl rfl fun w hs=>?_;refine pZ ?_;refine hK9 _ _ ?_;refine wp_seq_k fun K10 hK10=>?_;refine wp_region_lit ?_;refine pY ha (yMove rfl) fun a ha=>?_;refine pC ha (nCall Tryz.call31 rfl) rfl (InNum_c hs pk1) ?_;rintro v w ⟨rfl,hs⟩ a ha;refine pY ha (yFieldA Tryz.runUnderlying48 rfl Tryz.sizeOf3 rfl rfl) fun a ha=>?_;refine pStore ha Tryz.sizeOf3 hs rfl rfl rfl rfl pk1 rfl fun w hs=>?_;refine pZ ?_;refine hK10 _ _ ?_;refine wp_seq_k fun K11 hK11=>?_;refine wp_region_lit ?_;refine pY ha (yMove rfl) fun a ha=>?_;refine pC ha (nCall Tryz.call31 rfl) rfl (InNum_c hs pk1) ?_;rintro v w ⟨rfl,hs⟩ a ha;refine pY ha (yFieldA Tryz.runUnderlying48 rfl Tryz.sizeOf3 rfl rfl) fun a ha=>?_;refine pStore ha Tryz.sizeOf3 hs rfl rfl rfl rfl pk1 rfl fun w hs=>?_;refine pZ ?_;refine hK11 _ _ ?_;refine wp_seq_k fun K12 hK12=>?_;refine wp_region_lit ?_;refine pY ha (yMove rfl) fun a ha=>?_;refine pC ha (nCall Tryz.call75 rfl) rfl (InText_c 100 hs pk1) ?_;rintro v w ⟨rfl,hs⟩ a ha;refine pY ha (yFieldA Tryz.runUnderlying48 rfl Tryz.sizeOf9 rfl rfl) fun a ha=>?_;refine pStore ha Tryz.sizeOf9 hs rfl rfl rfl rfl pk1 rfl fun w hs=>?_;refine pZ ?_;refine hK12 _ _ ?_;refine wp_seq_k fun K13 hK13=>?_;refine wp_region_lit ?_;refine pY ha (yMove rfl) fun a ha=>?_;refine pC ha (nCall Tryz.call76 rfl) rfl (InFlag_c hs pk1) ?_;rintro v w ⟨rfl,hs⟩ a ha;refine pY ha (yFieldA Tryz.runUnderlying48 rfl Tryz.sizeOf4 rfl rfl) fun a ha=>?_;refine pStore ha Tryz.sizeOf4 hs rfl rfl rfl rfl pk1 rfl fun w hs=>?_;refine pZ ?_;refine hK13 _ _ ?_;refine wp_seq_k fun K14 hK14=>?_;refine wp_region_lit ?_;refine pY ha (yMove rfl) fun a ha=>?_;refine pC ha (nCall Tryz.call77 rfl) rfl (InComps_c hs pk1) ?_;rintro v w ⟨A',c',rfl,hs⟩ a ha;have hs:=hs.ol_rd .here;refine pY ha (yFieldA Tryz.runUnderlying48 rfl Tryz.sizeOf46 rfl rfl) fun a ha=>?_;refine pStore ha Tryz.sizeOf46 hs rfl rfl rfl rfl pk2 rfl fun w hs=>?_;refine pZ ?_;refine hK14 _ _ ?_;refine wp_region_lit ?_;refine pY ha (yMove rfl) fun a ha=>?_;refine pY ha (yLoadBA Tryz.isAgg48 Tryz.sizeOf48 hs rfl pk0 rfl) fun a ha=>?_;refine pMake ha (bslIn22_1_0 rfl) hs rfl fun b w hs a ha=>?_;have hs:=hs.with_ro pk2 (q:=fun Z=>kActn.R Z (rActn s2).1 [.int .i64 (rActn s2).1.kind,.int .i64 (rActn s2).1.id,.int .i64 (rActn s2).1.parent,.string (rActn s2).1.name,.bool (rActn s2).1.dir,.slice A' (rActn s2).1.ops.length c']) (m':=fun _ _ h=>kActn.mono h) (fun Z hp=>⟨A',_,c',rfl,hp⟩);refine pApp1 ha elIn22 rfl rfl hs pk5 pk1 pk0 rfl (by (unfold maxLen; omega)) (by omega) rfl fun A c w hs a ha=>?_
      refine pY ha (yAssign rfl) fun a ha=>?_;refine pZ ?_;refine hK8 _ _ ?_;refine wp_region_lit ?_;refine pY ha (yMove rfl) fun a ha=>?_;refine pY ha (yAddN rfl rfl ⟨by omega,by omega⟩) fun a ha=>?_;refine pY ha (yAssign rfl) fun a ha=>?_;refine pZ ?_
      have e1 : (rList rActn (i + 1) s1).1 = xs++[(rActn s2).1]:=by rw [hln]
      have e2 : (rList rActn (i + 1) s1).2 = (rActn s2).2:=by rw [hln]
      refine ⟨(i + 1,A,c),⟨by simp only; omega,?_,?_⟩,by simp only; omega⟩
      · simp only [e1,List.length_append,List.length_cons,List.length_nil]; exact has4 ha rfl rfl rfl rfl
      · simp only [e1,e2,List.length_append,List.length_cons,List.length_nil]; exact hs.drop3
    · refine wp_exit ?_;refine hK4 _ _ ?_;refine wp_seq_k fun K15 hK15=>?_;refine wp_seq_k fun K16 hK16=>?_;obtain ⟨A',c',hs⟩:=hs.rdr_open (.there .here);refine wp_region_lit ?_;refine pY ha (yMove rfl) fun a ha=>?_;refine pY ha (yNilP rfl) fun a ha=>?_;refine pY ha (yFieldA Tryz.runUnderlying72 rfl Tryz.sizeOf3 rfl rfl) fun a ha=>?_;refine pY ha (yLoadB Tryz.isAgg3 hs rfl pk0 rfl) fun a ha=>?_;refine pY ha (yNeq rfl rfl) fun a ha=>?_;refine pZ ?_;refine hK16 _ _ ?_;refine cNDec ha rfl (fun hc47=>?_) (fun hc47=>?_)
      · refine wp_seq_k fun K17 hK17=>?_;refine wp_region_lit ?_;refine pY ha (yAssign rfl) fun a ha=>?_;refine pZ ?_;refine hK17 _ _ ?_;refine wp_ret ?_;show bodyPost Tryz.prog Tryz.f32 _ .ret _ _;refine ret1 rfl ha rfl ?_
        have hA : rActns st = _:=hst hc47
        rw [hA]; exact ⟨none,0,rfl,(hs.rdr_shut .here .here).drop2.ol_nil kActn _ none⟩
      · refine wp_skip ?_;refine hK15 _ _ ?_;refine wp_seq_k fun K18 hK18=>?_;refine wp_region_lit ?_;refine pY ha (yMove rfl) fun a ha=>?_;refine pY ha (yAssign rfl) fun a ha=>?_;refine pZ ?_;refine hK18 _ _ ?_;refine wp_ret ?_;show bodyPost Tryz.prog Tryz.f32 _ .ret _ _;refine ret1 rfl ha rfl ?_;obtain rfl : i = m:=by omega
        rw [hl] at hA;rw [if_pos hc47] at hA; rw [hA]; exact ⟨A,c,rfl,(hs.rdr_shut .here .here).perm (List.Perm.swap _ _ _)⟩
end
end Go.Proofs.YtnlhbkaieoogfaaGreatDoor

set_option linter.unusedVariables false
set_option linter.unusedSimpArgs false
namespace Go.Proofs.YtnlhbkaieoogfaaGreatDoor
open Go.RowKit Go.Lib
section
variable {W w : World} {cs r r' : List Ch}
/-- A place within n. -/
def round (k n : Int) : Int:=if k.tmod n < 0 then k.tmod n + n else k.tmod n
end
end Go.Proofs.YtnlhbkaieoogfaaGreatDoor

set_option linter.unusedVariables false
set_option linter.unusedSimpArgs false
namespace Go.Proofs.YtnlhbkaieoogfaaGreatDoor
open Go.RowKit Go.Lib
theorem elWrt27 : ElemT Tryz.prog 27 5 1 1:=elemT_mk Tryz.underlying27 rfl (by kernel_rfl)
abbrev Wt:=List UInt8 × Bool
def wNum (st : Wt) (n : Int) : Wt:=(st.1++put n,st.2 || !fits n)
def wText (st : Wt) (s : ByteArray) : Wt:=let q:=wNum (st.1,st.2 || !okText s.data.toList) s.size; (q.1++s.data.toList,q.2)
def wFlag (st : Wt) (b : Bool) : Wt:=wNum st (if b then 1 else 0)
def Ch.wtr (p : Nat) (T : TypeId) (st : Wt) : Ch:=.ex (Option Addr × Nat) fun x=>.star (.blk p T [.slice x.1 st.1.length x.2,.bool st.2]) (.ol kU8 5 (.slice x.1 st.1.length x.2) st.1)
theorem tailD_lt : ∀ (k n : Nat),n < 128 ^ k→(tailD n).length≤k
  | 0,n,h=>by
    obtain rfl : n = 0:=by simpa using h
    simp [tailD_zero]
  | k + 1,n,h=>by
    rcases Nat.eq_zero_or_pos n with rfl | h0
    · simp [tailD_zero]
    · rw [tailD_pos h0,List.length_cons]
      have:=tailD_lt k (n / 128) (by rw [Nat.div_lt_iff_lt_mul (by decide)]; rw [Nat.pow_succ] at h; exact h)
      omega
theorem put_six (n : Int) : (put n).length≤6:=by
  unfold put
  split
  · rename_i h
    have h' : 0≤n∧n≤1099511627776:=by simpa [fits] using h
    have:=tailD_lt 5 (n.toNat / 128) (by omega)
    simp only [List.length_reverse,List.length_cons]
    omega
  · simp
section
variable {W w : World} {cs r : List Ch} {p : Nat} {T : TypeId} {st : Wt}
theorem Sep.wtr_open (h : Sep W w cs) (hk : Pick cs (.wtr p T st) r) : ∃ A c,Sep W w (.blk p T [.slice A st.1.length c,.bool st.2]::.ol kU8 5 (.slice A st.1.length c) st.1::r):=by
  obtain ⟨x,h⟩:=(h.pick hk).open_;exact ⟨x.1,x.2,h.split⟩
theorem Sep.wtr_shut {A : Option Addr} {n c : Nat} {b : Bool} {bs : List UInt8} {r' : List Ch} (h : Sep W w cs) (hk : Pick cs (.blk p T [.slice A n c,.bool b]) r) (hk2 : Pick r (.ol kU8 5 (.slice A n c) bs) r') : Sep W w (.wtr p T (bs,b)::r'):=by
  obtain ⟨A',c',e,_⟩:=(h.pick hk).ol_len (.there hk2);simp only [Value.slice.injEq] at e;obtain ⟨rfl,rfl,rfl⟩:=e;refine Sep.pack (A,c) (Sep.join ?_);exact (h.pick hk).perm (hk2.perm.cons _)
theorem WrNum_c (n : Int) (hb : (wNum st n).1.length≤140737488355328) (hs : Sep W w cs) (hk : Pick cs (.wtr p 97 st) r) :
    Calls P 59 #[.pointer (some ⟨p,0,none⟩),.int .i64 n] w (Rt fun v w'=>v = .pointer (some ⟨p,0,none⟩)∧Sep W w' (.wtr p 97 (wNum st n)::r)):=by
  obtain ⟨A,c,hs⟩:=hs.wtr_open hk
  have hlen : st.1.length + (put n).length≤140737488355328:=by simpa [wNum] using hb
  obtain ⟨bs,bad⟩:=st;simp only at hs hlen;refine enter Tryz.func59 Tryz.ntmps59 rfl rfl fun a (ha : Has a 30 [(0,_),(1,_)])=>?_;refine wp_seq_k fun K1 hK1=>?_;refine wp_region_lit ?_;refine pY ha (yAssign rfl) fun a ha=>?_;refine pZ ?_;refine hK1 _ _ ?_;refine wp_seq_k fun K2 hK2=>?_;refine wp_seq_k fun K3 hK3=>?_;refine wp_region_lit ?_;refine pY ha (yMove rfl) fun a ha=>?_;refine pY ha (yPtrNeqN Tryz.underlying95 rfl rfl) fun a ha=>?_;refine pZ ?_;refine hK3 _ _ ?_;refine cTrue ha rfl ?_;refine wp_seq_k fun K4 hK4=>?_;refine cutC (fun a w=>Has a 30 [(0,.pointer (some ⟨p,0,none⟩)),(1,.int .i64 n)]∧Sep W w (.blk p 97 [.slice A bs.length c,.bool (bad || !fits n)]::.ol kU8 5 (.slice A bs.length c) bs::r)) ?_ ?_
  · refine wp_region_lit ?_;refine pY ha (yMove rfl) fun a ha=>?_;refine pY ha (yMove rfl) fun a ha=>?_;refine pY ha (yNilP rfl) fun a ha=>?_;refine pY ha (yFieldA Tryz.runUnderlying97 rfl Tryz.sizeOf4 rfl rfl) fun a ha=>?_;refine pY ha (yLoadB Tryz.isAgg4 hs rfl pk0 rfl) fun a ha=>?_;refine pY ha (yMove rfl) fun a ha=>?_;refine gSplit (t:=12) ha rfl (fun hg5=>?_) (fun hg5=>?_)
    · rw [hg5] at ha;refine gOn ha ?_;refine pY ha (yMove rfl) fun a ha=>?_;refine gOn ha ?_;refine pC ha (nCall Tryz.call80 rfl) rfl (Fits_c _ hs) ?_;rintro v w ⟨rfl,hs⟩ a ha;refine gOn ha ?_;refine pY ha (yNot rfl) fun a ha=>?_;refine pY ha (yPickF rfl rfl) fun a ha=>?_;refine pY ha (yNilP rfl) fun a ha=>?_;refine pY ha (yFieldA Tryz.runUnderlying97 rfl Tryz.sizeOf4 rfl rfl) fun a ha=>?_;refine pStore ha Tryz.sizeOf4 hs rfl rfl rfl rfl pk0 rfl fun w hs=>?_;refine pZ ⟨rfl,?_⟩;rw [hg5]; exact ⟨has2 ha rfl rfl,hs⟩
    · rw [hg5] at ha;refine gOff ha fun a ha=>?_;refine gOff ha fun a ha=>?_;refine gOff ha fun a ha=>?_;refine pY ha (yPickT rfl rfl) fun a ha=>?_;refine pY ha (yNilP rfl) fun a ha=>?_;refine pY ha (yFieldA Tryz.runUnderlying97 rfl Tryz.sizeOf4 rfl rfl) fun a ha=>?_;refine pStore ha Tryz.sizeOf4 hs rfl rfl rfl rfl pk0 rfl fun w hs=>?_;refine pZ ⟨rfl,?_⟩;rw [hg5]; exact ⟨has2 ha rfl rfl,hs⟩
  rintro a w ⟨ha,hs⟩;refine hK4 _ _ ?_;refine dStart (fun w=>Sep W w _) [7,10] 2047 126 (by kernel_rfl) (by kernel_rfl) rfl (hs.drew) ?_
  have hs:=Sep.drew hs
  generalize World.drew _ = w at hs ⊢;refine dP 0 1 rfl ha (fun _=>yMove rfl) fun a ha=>?_;refine dP 1 3 rfl ha (fun _=>yMove rfl) fun a ha=>?_;refine dP 2 7 rfl ha (fun _=>yNilP rfl) fun a ha=>?_;refine dP 3 15 rfl ha (fun _=>yFieldA Tryz.runUnderlying97 rfl Tryz.sizeOf27 rfl rfl) fun a ha=>?_;refine dT 4 31 rfl ha (fun _ hs=>yLoadB Tryz.isAgg27 hs rfl pk0 rfl) (hs) fun a ha=>?_;refine dP 5 63 rfl ha (fun _=>yMove rfl) fun a ha=>?_;refine dC 6 127 rfl (by kernel_rfl) rfl ha won0 (nCall Tryz.call94 rfl) rfl (Put_c _ hs) ?_;rintro v w ⟨A',c',rfl,hs⟩;refine ⟨hs.drop,fun a ha=>?_⟩;have hs:=hs.ol_rd .here;refine dAppRdl 7 255 rfl (by kernel_rfl) rfl ha won0 elWrt27 rfl rfl hs pk2 pk0 rfl (by (unfold maxLen; omega)) (by omega) rfl fun A c w hs a ha=>?_;refine dP 8 511 rfl ha (fun _=>yNilP rfl) fun a ha=>?_;refine dP 9 1023 rfl ha (fun _=>yFieldA Tryz.runUnderlying97 rfl Tryz.sizeOf27 rfl rfl) fun a ha=>?_;refine dStorel 10 2047 rfl (by kernel_rfl) rfl ha won0 Tryz.sizeOf27 hs rfl rfl rfl rfl pk2 rfl fun w hs=>?_;refine dZ (by kernel_rfl) ?_;refine hK2 _ _ ?_;refine wp_seq_k fun K5 hK5=>?_;refine wp_region_lit ?_;refine pY ha (yMove rfl) fun a ha=>?_;refine pY ha (yAssign rfl) fun a ha=>?_;refine pZ ?_;refine hK5 _ _ ?_;refine wp_ret ?_;show bodyPost Tryz.prog Tryz.f59 _ .ret _ _;refine ret1 rfl ha rfl ?_;exact ⟨rfl,(hs.wtr_shut .here .here).drop2⟩
theorem WrFlag_c (b : Bool) (hb : (wFlag st b).1.length≤140737488355328) (hs : Sep W w cs) (hk : Pick cs (.wtr p 97 st) r) :
    Calls P 96 #[.pointer (some ⟨p,0,none⟩),.bool b] w (Rt fun v w'=>v = .pointer (some ⟨p,0,none⟩)∧Sep W w' (.wtr p 97 (wFlag st b)::r)):=by
  unfold wFlag at hb ⊢;refine enter Tryz.func96 Tryz.ntmps96 rfl rfl fun a (ha : Has a 10 [(0,_),(1,_)])=>?_;refine wp_seq_k fun K1 hK1=>?_;refine wp_region_lit ?_;refine pY ha (yAssign rfl) fun a ha=>?_;refine pZ ?_;refine hK1 _ _ ?_;refine wp_seq_k fun K2 hK2=>?_;refine wp_seq_k fun K3 hK3=>?_;refine wp_region_lit ?_;refine pY ha (yMove rfl) fun a ha=>?_;refine pZ ?_;refine hK3 _ _ ?_;refine cSplit ha rfl (fun hc5=>?_) (fun hc5=>?_)
  · subst hc5;refine wp_seq_k fun K4 hK4=>?_;refine wp_region_lit ?_;refine pY ha (yMove rfl) fun a ha=>?_;refine pC ha (nCall Tryz.call59 rfl) rfl (WrNum_c 1 hb hs hk) ?_;rintro v w ⟨rfl,hs⟩ a ha;refine pY ha (yAssign rfl) fun a ha=>?_;refine pZ ?_;refine hK4 _ _ ?_;refine wp_ret ?_;show bodyPost Tryz.prog Tryz.f96 _ .ret _ _;refine ret1 rfl ha rfl ?_;exact ⟨rfl,hs⟩
  · subst hc5;refine wp_skip ?_;refine hK2 _ _ ?_;refine wp_seq_k fun K5 hK5=>?_;refine wp_region_lit ?_;refine pY ha (yMove rfl) fun a ha=>?_;refine pC ha (nCall Tryz.call59 rfl) rfl (WrNum_c 0 hb hs hk) ?_;rintro v w ⟨rfl,hs⟩ a ha;refine pY ha (yAssign rfl) fun a ha=>?_;refine pZ ?_;refine hK5 _ _ ?_;refine wp_ret ?_;show bodyPost Tryz.prog Tryz.f96 _ .ret _ _;refine ret1 rfl ha rfl ?_;exact ⟨rfl,hs⟩
theorem WrDone_c (hb : st.1.length≤140737488355328) (hs : Sep W w cs) (hk : Pick cs (.wtr p 97 st) r) :
    Calls P 62 #[.pointer (some ⟨p,0,none⟩)] w (Rt fun v w'=>if st.2 = true then v = .tuple #[.slice none 0 0,.bool false]∧Sep W w' (.wtr p 97 st::r)
      else ∃ A c,v = .tuple #[.slice A st.1.length c,.bool true]∧Sep W w' (.ol kU8 5 (.slice A st.1.length c) st.1::r)):=by
  obtain ⟨A,c,hs⟩:=hs.wtr_open hk;refine enter Tryz.func62 Tryz.ntmps62 rfl rfl fun a (ha : Has a 17 [(0,_)])=>?_;refine wp_seq_k fun K1 hK1=>?_;refine wp_region_lit ?_;refine pY ha (yAssign rfl) fun a ha=>?_;refine pY ha (yAssign rfl) fun a ha=>?_;refine pZ ?_;refine hK1 _ _ ?_;refine wp_seq_k fun K2 hK2=>?_;refine wp_seq_k fun K3 hK3=>?_;refine wp_region_lit ?_;refine pY ha (yMove rfl) fun a ha=>?_;refine pY ha (yPtrEqlN Tryz.underlying95 rfl rfl) fun a ha=>?_;refine pY ha (yMove rfl) fun a ha=>?_;refine gSplit (t:=6) ha rfl (fun hg2=>?_) (fun hg2=>?_)
  · rw [hg2] at ha;refine gOn ha ?_;refine pY ha (yMove rfl) fun a ha=>?_;refine gOn ha ?_;refine pY ha (yNilP rfl) fun a ha=>?_;refine gOn ha ?_;refine pY ha (yFieldA Tryz.runUnderlying97 rfl Tryz.sizeOf4 rfl rfl) fun a ha=>?_;refine gOn ha ?_;refine pY ha (yLoadB Tryz.isAgg4 hs rfl pk0 rfl) fun a ha=>?_;refine pY ha (yPickF rfl rfl) fun a ha=>?_;refine pZ ?_;refine hK3 _ _ ?_;refine cSplit ha rfl (fun hc11=>?_) (fun hc11=>?_)
    · refine wp_seq_k fun K4 hK4=>?_;refine wp_region_lit ?_;refine pY ha (yAssign rfl) fun a ha=>?_;refine pY ha (yAssign rfl) fun a ha=>?_;refine pZ ?_;refine hK4 _ _ ?_;refine wp_ret ?_;show bodyPost Tryz.prog Tryz.f62 _ .ret _ _;refine ret2 rfl ha rfl rfl ?_;rw [if_pos hc11]; exact ⟨rfl,hs.wtr_shut .here .here⟩
    · refine wp_skip ?_;refine hK2 _ _ ?_;refine wp_seq_k fun K5 hK5=>?_;refine wp_region_lit ?_;refine pY ha (yMove rfl) fun a ha=>?_;refine pY ha (yNilP rfl) fun a ha=>?_;refine pY ha (yFieldA Tryz.runUnderlying97 rfl Tryz.sizeOf27 rfl rfl) fun a ha=>?_;refine pY ha (yLoadB Tryz.isAgg27 hs rfl pk0 rfl) fun a ha=>?_;refine pC ha (nCall Tryz.call67 rfl) rfl (CloneB_c ((hs.perm (List.Perm.swap _ _ _)).ol_rd .here) .here hb) ?_;rintro v w ⟨A',c',rfl,hs⟩ a ha;refine pY ha (yAssign rfl) fun a ha=>?_;refine pY ha (yAssign rfl) fun a ha=>?_;refine pZ ?_;refine hK5 _ _ ?_;refine wp_ret ?_;show bodyPost Tryz.prog Tryz.f62 _ .ret _ _;refine ret2 rfl ha rfl rfl ?_;rw [if_neg (by simp [hc11])]; exact ⟨A',c',rfl,hs.drop3⟩
  · simp at hg2
end
end Go.Proofs.YtnlhbkaieoogfaaGreatDoor

set_option linter.unusedVariables false
set_option linter.unusedSimpArgs false
namespace Go.Proofs.YtnlhbkaieoogfaaGreatDoor
open Go.RowKit Go.Lib
section
variable {W w : World} {cs r r2 : List Ch}
theorem Sep.rd_int {A : Option Addr} {n c i : Nat} {xs : List Int} {x : Int} (h : Sep W w cs) (hk : Pick cs (.rd kInt (.slice A n c) xs) r) (hx : xs[i]? = some x) :
    ∃ b off,A = some ⟨b,off,none⟩∧(-9223372036854775808≤x∧x≤9223372036854775807)∧Sep W w (.at b (off + i * 1) [.int .i64 x]::cs):=by
  obtain ⟨b,off,c',es,he,hl,hs⟩:=h.rd_at hk hx;simp only [Value.slice.injEq] at he
  have hes : es = [.int .i64 x]∧-9223372036854775808≤x∧x≤9223372036854775807:=hs.know (.there .here) (fun Z _ hp=>hp)
  obtain ⟨hes,h1⟩:=hes;subst hes;exact ⟨b,off,he.1,h1,hs.drop2⟩
end
end Go.Proofs.YtnlhbkaieoogfaaGreatDoor

set_option linter.unusedVariables false
set_option linter.unusedSimpArgs false
namespace Go.Proofs.YtnlhbkaieoogfaaGreatDoor
open Go.RowKit Go.Lib
section
variable {P : Program} {W w w' : World} {N dd : Nat} {a : Act} {ops : Array Oper} {Q : Exit→Act→World→Prop} {rest : List Oper} {ps : String} {af : Array Edge} {l : List (Nat × Value)} {T U U' : TypeId} {cs r : List Ch} {x y : Operand} {b : Nat} {s : ByteArray} {pos : Nat}
theorem and192 : ∀ m : Fin 256,bits .and .u8 (m.val : Int) 192 = (m.val : Int) / 64 * 64:=by decide +kernel
theorem yAndStart {m : Nat} (hm : m < 256) (hx : ev l x = some (.int .u8 m)) (hy : ev l y = some (.int .u8 192)) : Yl P w l (.binOp .and U x y U') T (.int .u8 ((m : Int) / 64 * 64)) :=
  yBin hx hy (fun _ _=>eqg_int) (by rw [binOp_and,intBits_and]; rw [and192 ⟨m,hm⟩]; rfl)
/-- 'range' over a text. -/
theorem pRangeS (ha : Has a N l) (hu : ∀ w,(underlying U).run P w = .ok .string w) (hx : ev l x = some (.string s)) (hs : Sep W w cs) (hd : Nat.blt dd N = true)
    (h : ∀ b w,Sep W w (.own b (.stringIter s 0)::cs)→∀ a,Has a N ((dd,.pointer (some ⟨b,0,none⟩))::l)→wpList P ops Q rest a w) : wpList P ops Q (⟨some dd,.range U x,T,ps,af,none⟩::rest) a w:=by
  refine pE ha (v:=.pointer (some ⟨w.heap.size,0,none⟩)) (w':=w.alloc (.stringIter s 0)) (fun ρ o hE ho hT=>?_) hd fun a ha=>h _ _ (hs.alloc _) a ha;unfold execOp; rw [ho]
  simp [hE _ _ hx,Instr.range,hu]
theorem sNextS (hs : Sep W w cs) (hk : Pick cs (.own b (.stringIter s pos)) r) (hp : pos < s.size) : ∃ w',(∀ ty,(Instr.next (.pointer (some ⟨b,0,none⟩)) true ty).run P w = .ok (.tuple #[.bool true,.int .i64 pos,.int .i32 (Utf8.decode s pos).1]) w') ∧
    Sep W w' (.own b (.stringIter s (pos + (Utf8.decode s pos).2))::r):=by
  have hb:=hs.own_at hk
  have hlt : b < w.heap.size:=(Array.getElem?_eq_some_iff.1 hb).1
  refine ⟨{ w with heap:=w.heap.setIfInBounds b (.stringIter s (pos + (Utf8.decode s pos).2)) },fun ty=>?_,(hs.pick hk).change rfl rfl rfl ?_ fun i hi=>?_⟩
  · simp [Instr.next,getObj,setObj,Sem.run,hb,hp,goInt,Result.andThen]
  · simp [Array.getElem?_setIfInBounds,hlt]
  · rw [Array.getElem?_setIfInBounds_ne (by omega)]
theorem pNextS (ha : Has a N l) (hs : Sep W w cs) (hx : ev l x = some (.pointer (some ⟨b,0,none⟩))) (hk : Pick cs (.own b (.stringIter s pos)) r) (hp : pos < s.size) (hd : Nat.blt dd N = true)
    (h : ∀ w,Sep W w (.own b (.stringIter s (pos + (Utf8.decode s pos).2))::r)→∀ a,Has a N ((dd,.tuple #[.bool true,.int .i64 pos,.int .i32 (Utf8.decode s pos).1])::l)→wpList P ops Q rest a w) : wpList P ops Q (⟨some dd,.next x true,T,ps,af,none⟩::rest) a w:=by
  obtain ⟨w',h1,h2⟩:=sNextS (P:=P) hs hk hp;refine pE ha (v:=.tuple #[.bool true,.int .i64 pos,.int .i32 (Utf8.decode s pos).1]) (w':=w') (fun ρ o hE ho hT=>?_) hd fun a ha=>h _ h2 a ha;unfold execOp; rw [ho]
  simp [hE _ _ hx,h1]
theorem pNextSE (ha : Has a N l) (hs : Sep W w cs) (hx : ev l x = some (.pointer (some ⟨b,0,none⟩))) (hk : Pick cs (.own b (.stringIter s pos)) r) (hp : s.size≤pos) (hd : Nat.blt dd N = true)
    (h : ∀ a,Has a N ((dd,.tuple #[.bool false])::l)→wpList P ops Q rest a w) : wpList P ops Q (⟨some dd,.next x true,T,ps,af,none⟩::rest) a w:=by
  have hb:=hs.own_at hk
  refine pE ha (v:=.tuple #[.bool false]) (w':=w) (fun ρ o hE ho hT=>?_) hd fun a ha=>h a ha;unfold execOp; rw [ho]
  have hp' : ¬ pos < s.size:=by omega
  simp [hE _ _ hx,Instr.next,getObj,Sem.run,hb,hp',Result.andThen]
end
section
variable {W w : World} {cs r : List Ch}
theorem RuneStart_c (b : UInt8) (hs : Sep W w cs) : Calls P 130 #[.int .u8 b.toNat] w (Rt fun v w'=>v = .bool (decide (b.toNat / 64 ≠ 2))∧Sep W w' cs):=by
  have hb:=b.toNat_lt
  refine enter Tryz.func130 Tryz.ntmps130 rfl rfl fun a (ha : Has a 6 [(0,_)])=>?_;refine wp_seq_k fun K1 hK1=>?_;refine wp_region_lit ?_;refine pY ha (yAssign rfl) fun a ha=>?_;refine pZ ?_;refine hK1 _ _ ?_;refine wp_seq_k fun K2 hK2=>?_;refine wp_region_lit ?_;refine pY ha (yMove rfl) fun a ha=>?_;refine pY ha (yAndStart (m:=b.toNat) (by omega) rfl rfl) fun a ha=>?_;refine pY ha (yNeq rfl rfl) fun a ha=>?_;refine pY ha (yAssign rfl) fun a ha=>?_;refine pZ ?_;refine hK2 _ _ ?_;refine wp_ret ?_;show bodyPost Tryz.prog Tryz.f130 _ .ret _ _;refine ret1 rfl ha rfl ?_;refine ⟨congrArg Value.bool ?_,hs⟩;rw [← decide_not,decide_eq_decide]; omega
theorem RuneCount_c (s : ByteArray) (hok : okText s.data.toList = true) (hsz : s.size≤9223372036854775807) (hs : Sep W w cs) : Calls P 109 #[.string s] w (Rt fun v w'=>v = .int .i64 (cnt s.data.toList)∧Sep W w' cs):=by
  have hlen : s.data.toList.length = s.size:=by simp
  refine enter Tryz.func109 Tryz.ntmps109 rfl rfl fun a (ha : Has a 10 [(0,_)])=>?_;refine wp_seq_k fun K1 hK1=>?_;refine wp_region_lit ?_;refine pY ha (yAssign rfl) fun a ha=>?_;refine pZ ?_;refine hK1 _ _ ?_;refine wp_seq_k fun K2 hK2=>?_;refine wp_seq_k fun K3 hK3=>?_;refine wp_region_lit ?_;refine pY ha (yMove rfl) fun a ha=>?_;refine pRangeS ha Tryz.runUnderlying9 rfl hs rfl fun b w hs a ha=>?_;refine pZ ?_;refine hK3 _ _ ?_;refine wp_block ?_;refine loopI (ι:=Nat × Nat) (fun i a w=>i.1≤s.size∧okText (s.data.toList.drop i.1) = true∧i.2 = cnt (s.data.toList.take i.1)∧Has a 10 [(2,.int .i64 i.2),(4,.pointer (some ⟨b,0,none⟩))]∧Sep W w (.own b (.stringIter s i.1)::cs)) (fun i=>s.size - i.1) ((0,0)) ?_ ?_
  · exact ⟨Nat.zero_le _,hok,rfl,has2 ha rfl rfl,hs⟩
  · rintro i a w ⟨h1,h2,h3,ha,hs⟩;obtain ⟨pos,n⟩:=i; simp only at h1 h2 h3 ha hs;refine wp_seq_k fun K4 hK4=>?_;refine wp_region_lit ?_
    rcases Nat.lt_or_ge pos s.size with hp | hp
    · have hne : s.data.toList.drop pos ≠ []:=by intro e; have:=congrArg List.length e; rw [List.length_drop] at this; simp at this; omega
      obtain ⟨k1,k2,k3,k4,k5,k6,k7⟩:=ok_step hne h2;rw [decodeL_drop] at k1 k2 k3 k4 k5;rw [List.length_drop,hlen] at k2
      have hcl:=cnt_le (s.data.toList.take pos)
      rw [List.length_take] at hcl;refine pNextS ha hs rfl pk0 hp rfl fun w hs a ha=>?_;refine pY ha (yExtract rfl rfl) fun a ha=>?_;refine pZ ?_;refine hK4 _ _ ?_;refine wp_seq_k fun K5 hK5=>?_;refine cTrue ha rfl ?_;refine wp_skip ?_;refine hK5 _ _ ?_;refine wp_block ?_;refine wp_region_lit ?_;refine pY ha (yMove rfl) fun a ha=>?_;refine pY ha (yAddN rfl rfl ⟨by omega,by omega⟩) fun a ha=>?_;refine pY ha (yAssign rfl) fun a ha=>?_;refine pZ ?_;refine ⟨(pos + (Utf8.decode s pos).2,n + 1),⟨by simp only; omega,by rw [List.drop_drop] at k5; exact k5,?_,has2 ha rfl rfl,hs⟩,by simp only; omega⟩;simp only;rw [List.take_add,cnt_append,k4,← h3]
    · refine pNextSE ha hs rfl pk0 hp rfl fun a ha=>?_;refine pY ha (yExtract rfl rfl) fun a ha=>?_;refine pZ ?_;refine hK4 _ _ ?_;refine wp_seq_k fun K6 hK6=>?_;refine cFalse ha rfl ?_;refine wp_exit ?_;refine hK2 _ _ ?_;refine wp_seq_k fun K7 hK7=>?_;refine wp_region_lit ?_;refine pY ha (yMove rfl) fun a ha=>?_;refine pY ha (yAssign rfl) fun a ha=>?_;refine pZ ?_;refine hK7 _ _ ?_;refine wp_ret ?_;show bodyPost Tryz.prog Tryz.f109 _ .ret _ _;refine ret1 rfl ha rfl ?_;rw [List.take_of_length_le (by omega)] at h3; rw [← h3]; exact ⟨rfl,hs.drop⟩
theorem Count_c (hT : Tabs W) (s : ByteArray) (hsz : s.size≤9223372036854775807) (hs : Sep W w cs) : Calls P 125 #[.string s] w (Rt fun v w'=>v = (if okText s.data.toList = true then .tuple #[.int .i64 (cnt s.data.toList),.int .i64 0] else .tuple #[.int .i64 0,.int .i64 2])∧Sep W w' cs):=by
  have hlen : s.data.toList.length = s.size:=by simp
  refine enter Tryz.func125 Tryz.ntmps125 rfl rfl fun a (ha : Has a 30 [(0,_)])=>?_;refine wp_seq_k fun K1 hK1=>?_;refine wp_region_lit ?_;refine pY ha (yAssign rfl) fun a ha=>?_;refine pY ha (yAssign rfl) fun a ha=>?_;refine pZ ?_;refine hK1 _ _ ?_;refine scopeN (ι:=Nat × Nat) 1 (fun i a w=>okText s.data.toList = true∧i.1≤s.size∧i.2 = cnt (s.data.toList.take i.1)∧(∀ x,s.data.toList[i.1]? = some x→x.toNat / 64 ≠ 2)∧Has a 30 [(0,.string s),(2,.int .i64 i.2),(4,.int .i64 i.1)]∧Sep W w cs) (fun i=>s.size - i.1) 1 ?_ ?_
  · refine wp_seq_k fun K2 hK2=>?_;refine wp_seq_k fun K3 hK3=>?_;refine wp_region_lit ?_;refine pY ha (yMove rfl) fun a ha=>?_;refine pC ha (nCall Tryz.call102 rfl) rfl (Valid_c hT s hsz hs) ?_;rintro v w ⟨rfl,hs⟩ a ha;refine pY ha (yNot rfl) fun a ha=>?_;refine pZ ?_;refine hK3 _ _ ?_;refine cSplit ha rfl (fun hc7=>?_) (fun hc7=>?_)
    · have hok : ¬ okText s.data.toList = true:=by simpa using hc7
      refine wp_seq_k fun K4 hK4=>?_;refine wp_region_lit ?_;refine pY ha (yAssign rfl) fun a ha=>?_;refine pY ha (yAssign rfl) fun a ha=>?_;refine pZ ?_;refine hK4 _ _ ?_;refine wp_ret ?_;show bodyPost Tryz.prog Tryz.f125 _ .ret _ _;refine ret2 rfl ha rfl rfl ?_;rw [if_neg hok]; exact ⟨rfl,hs⟩
    · have hok : okText s.data.toList = true:=by simpa using hc7
      refine wp_skip ?_;refine hK2 _ _ ?_;refine wp_seq_k fun K5 hK5=>?_;refine wp_region_lit ?_;refine pY ha (yAssign rfl) fun a ha=>?_;refine pZ ?_;refine hK5 _ _ ?_;refine wp_seq_k fun K6 hK6=>?_;refine wp_label ?_;refine hK6 _ _ ?_;refine wp_seq_k fun K7 hK7=>?_;refine wp_seq_k fun K8 hK8=>?_
      (obtain ⟨i,hi0⟩ : ∃ i : Nat,(0 : Int) = i:=⟨0,rfl⟩
       rw [hi0] at ha;obtain ⟨n,hn⟩ : ∃ n : Nat,n = i:=⟨i,rfl⟩
       have ha : Has a 30 [(0,.string s),(2,.int .i64 n),(4,.int .i64 i)]:=by subst hn; exact has3 ha rfl rfl rfl
       have hi1 : i = 0:=by omega
       have h1 : i≤s.size:=by omega
       have h2 : n = cnt (s.data.toList.take i):=by subst hn; subst hi1; rfl
       have h3 : ∀ x,s.data.toList[i]? = some x→x.toNat / 64 ≠ 2:=fun x hx=>by
         subst hi1
         have hne : s.data.toList ≠ []:=by intro e; rw [e] at hx; simp at hx
         have:=(ok_step hne hok).2.2.2.2.2.2
         rw [List.getD_eq_getElem?_getD,hx] at this
         exact this)
      refine wp_region_lit ?_;refine pY ha (yMove rfl) fun a ha=>?_;refine pY ha (yMove rfl) fun a ha=>?_;refine pY ha (yLenStr Tryz.runUnderlying9 rfl) fun a ha=>?_;refine pY ha (yEql rfl rfl) fun a ha=>?_;refine pZ ?_;refine hK8 _ _ ?_;refine cDec ha rfl (fun hc11=>?_) (fun hc11=>?_)
      · refine wp_goto ?_
        repeat (with_reducible first | refine gThen ?_ | refine gBlock ?_)
        refine gxF rfl rfl ?_;refine wp_seq_k fun K9 hK9=>?_;refine wp_skip ?_;refine hK9 _ _ ?_;refine wp_seq_k fun K10 hK10=>?_;refine wp_region_lit ?_;refine pY ha (yMove rfl) fun a ha=>?_;refine pY ha (yAssign rfl) fun a ha=>?_;refine pY ha (yAssign rfl) fun a ha=>?_;refine pZ ?_;refine hK10 _ _ ?_;refine wp_ret ?_;show bodyPost Tryz.prog Tryz.f125 _ .ret _ _;refine ret2 rfl ha rfl rfl ?_;rw [if_pos hok]; rw [List.take_of_length_le (by omega)] at h2; rw [← h2]; exact ⟨rfl,hs⟩
      · obtain ⟨x0,hx0,_⟩:=list_at s (i:=i) (by omega)
        have hx1:=h3 x0 hx0
        have hcl:=cnt_le (s.data.toList.take i)
        rw [List.length_take] at hcl;refine wp_skip ?_;refine hK7 _ _ ?_;refine wp_seq_k fun K11 hK11=>?_;refine wp_seq_k fun K12 hK12=>?_;refine wp_region_lit ?_;refine pY ha (yMove rfl) fun a ha=>?_;refine pY ha (yAddN rfl rfl ⟨by omega,by omega⟩) fun a ha=>?_;refine pY ha (yAssign rfl) fun a ha=>?_;refine pZ ?_;refine hK12 _ _ ?_;refine wp_block ?_;refine loopI (ι:=Nat) (fun j a w=>i + 1≤j∧j≤s.size∧cnt (s.data.toList.take j) = n + 1∧Has a 30 [(0,.string s),(2,.int .i64 n),(4,.int .i64 j)]∧Sep W w cs) (fun j=>s.size - j) (i + 1) ?_ ?_
        · refine ⟨Nat.le_refl _,by omega,?_,has3 ha rfl rfl rfl,hs⟩;rw [List.take_add_one,hx0,cnt_append]; simp only [Option.toList]; rw [cnt_cons,cnt_nil,if_neg hx1,← h2]
        · rintro j a w ⟨g1,g2,g3,ha,hs⟩;refine wp_seq_k fun K13 hK13=>?_;refine wp_seq_k fun K14 hK14=>?_;refine wp_region_lit ?_;refine pY ha (yMove rfl) fun a ha=>?_;refine pY ha (yMove rfl) fun a ha=>?_;refine pY ha (yLenStr Tryz.runUnderlying9 rfl) fun a ha=>?_;refine pY ha (yLss rfl rfl) fun a ha=>?_;refine pY ha (yMove rfl) fun a ha=>?_;refine gDec (t:=18) ha rfl (fun hg4 hp4=>?_) (fun hg4 hp4=>?_)
          · rw [hg4] at ha
            have hp4:=of_decide_eq_false hg4
            have hst : ∀ x,s.data.toList[j]? = some x→x.toNat / 64 ≠ 2:=fun x hx=>by
              have:=(List.getElem?_eq_some_iff.1 hx).1
              omega
            refine gOff ha fun a ha=>?_;refine gOff ha fun a ha=>?_;refine gOff ha fun a ha=>?_;refine gOff ha fun a ha=>?_;refine gOff ha fun a ha=>?_;refine pY ha (yPickF rfl rfl) fun a ha=>?_;refine pZ ?_;refine hK14 _ _ ?_;refine cFalse ha rfl ?_;refine wp_exit ?_;refine hK11 _ _ ?_;refine wp_seq_k fun K15 hK15=>?_;refine wp_region_lit ?_;refine pY ha (yMove rfl) fun a ha=>?_;refine pY ha (yAddN rfl rfl ⟨by omega,by omega⟩) fun a ha=>?_;refine pY ha (yAssign rfl) fun a ha=>?_;refine pZ ?_;refine hK15 _ _ ?_;refine wp_seq_k fun K16 hK16=>?_;refine wp_goto ?_
            repeat (with_reducible first | refine gThen ?_ | refine gBlock ?_)
            refine gxL ?_;refine ⟨(j,n + 1),hok,by simp only; omega,by simp only; omega,hst,has3 ha rfl rfl rfl,hs⟩
          · rw [hg4] at ha
            have hp4:=of_decide_eq_true hg4
            obtain ⟨y0,hy0,_⟩:=list_at s (i:=j) (by omega);refine gOn ha ?_;refine pY ha (yMove rfl) fun a ha=>?_;refine gOn ha ?_;refine pY ha (yMove rfl) fun a ha=>?_;refine gOn ha ?_;refine pY ha (yIndexSb Tryz.runUnderlying9 rfl rfl (by omega) (by simpa using hy0)) fun a ha=>?_;refine gOn ha ?_;refine pC ha (nCall Tryz.call130 rfl) rfl (RuneStart_c y0 hs) ?_;rintro v w ⟨rfl,hs⟩ a ha;refine gOn ha ?_;refine pY ha (yNot rfl) fun a ha=>?_;refine pY ha (yPickT rfl rfl) fun a ha=>?_;refine pZ ?_;refine hK14 _ _ ?_;refine cNDec ha rfl (fun hc24=>?_) (fun hc24=>?_)
            · have hy1 : y0.toNat / 64 = 2:=by simpa using hc24
              refine wp_skip ?_;refine hK13 _ _ ?_;refine wp_seq_k fun K17 hK17=>?_;refine wp_block ?_;refine wp_skip ?_;refine hK17 _ _ ?_;refine wp_region_lit ?_;refine pY ha (yMove rfl) fun a ha=>?_;refine pY ha (yAddN rfl rfl ⟨by omega,by omega⟩) fun a ha=>?_;refine pY ha (yAssign rfl) fun a ha=>?_;refine pZ ?_;refine ⟨j + 1,⟨by omega,by omega,?_,has3 ha rfl rfl rfl,hs⟩,by omega⟩;rw [List.take_add_one,hy0,cnt_append]; simp only [Option.toList]; rw [cnt_cons,cnt_nil,if_pos hy1,g3]
            · (have hst : ∀ x,s.data.toList[j]? = some x→x.toNat / 64 ≠ 2:=fun x hx=>by
                 rw [hy0] at hx
                 cases hx
                 simpa using hc24)
              refine wp_exit ?_;refine hK11 _ _ ?_;refine wp_seq_k fun K18 hK18=>?_;refine wp_region_lit ?_;refine pY ha (yMove rfl) fun a ha=>?_;refine pY ha (yAddN rfl rfl ⟨by omega,by omega⟩) fun a ha=>?_;refine pY ha (yAssign rfl) fun a ha=>?_;refine pZ ?_;refine hK18 _ _ ?_;refine wp_seq_k fun K19 hK19=>?_;refine wp_goto ?_
              repeat (with_reducible first | refine gThen ?_ | refine gBlock ?_)
              refine gxL ?_;refine ⟨(j,n + 1),hok,by simp only; omega,by simp only; omega,hst,has3 ha rfl rfl rfl,hs⟩
  · rintro i a w ⟨hok,h1,h2,h3,ha,hs⟩;refine ⟨_,rfl,?_⟩;refine wp_seq_k fun K20 hK20=>?_;refine wp_skip ?_;refine hK20 _ _ ?_;refine wp_seq_k fun K21 hK21=>?_;refine wp_seq_k fun K22 hK22=>?_
    (obtain ⟨i,n⟩:=i; simp only at h1 h2 h3 ha hs; obtain hnn : n = n:=rfl)
    refine wp_region_lit ?_;refine pY ha (yMove rfl) fun a ha=>?_;refine pY ha (yMove rfl) fun a ha=>?_;refine pY ha (yLenStr Tryz.runUnderlying9 rfl) fun a ha=>?_;refine pY ha (yEql rfl rfl) fun a ha=>?_;refine pZ ?_;refine hK22 _ _ ?_;refine cDec ha rfl (fun hc11=>?_) (fun hc11=>?_)
    · refine wp_goto ?_
      repeat (with_reducible first | refine gThen ?_ | refine gBlock ?_)
      refine gxF rfl rfl ?_;refine wp_seq_k fun K23 hK23=>?_;refine wp_skip ?_;refine hK23 _ _ ?_;refine wp_seq_k fun K24 hK24=>?_;refine wp_region_lit ?_;refine pY ha (yMove rfl) fun a ha=>?_;refine pY ha (yAssign rfl) fun a ha=>?_;refine pY ha (yAssign rfl) fun a ha=>?_;refine pZ ?_;refine hK24 _ _ ?_;refine wp_ret ?_;show bodyPost Tryz.prog Tryz.f125 _ .ret _ _;refine ret2 rfl ha rfl rfl ?_;rw [if_pos hok]; rw [List.take_of_length_le (by omega)] at h2; rw [← h2]; exact ⟨rfl,hs⟩
    · obtain ⟨x0,hx0,_⟩:=list_at s (i:=i) (by omega)
      have hx1:=h3 x0 hx0
      have hcl:=cnt_le (s.data.toList.take i)
      rw [List.length_take] at hcl;refine wp_skip ?_;refine hK21 _ _ ?_;refine wp_seq_k fun K25 hK25=>?_;refine wp_seq_k fun K26 hK26=>?_;refine wp_region_lit ?_;refine pY ha (yMove rfl) fun a ha=>?_;refine pY ha (yAddN rfl rfl ⟨by omega,by omega⟩) fun a ha=>?_;refine pY ha (yAssign rfl) fun a ha=>?_;refine pZ ?_;refine hK26 _ _ ?_;refine wp_block ?_;refine loopI (ι:=Nat) (fun j a w=>i + 1≤j∧j≤s.size∧cnt (s.data.toList.take j) = n + 1∧Has a 30 [(0,.string s),(2,.int .i64 n),(4,.int .i64 j)]∧Sep W w cs) (fun j=>s.size - j) (i + 1) ?_ ?_
      · refine ⟨Nat.le_refl _,by omega,?_,has3 ha rfl rfl rfl,hs⟩;rw [List.take_add_one,hx0,cnt_append]; simp only [Option.toList]; rw [cnt_cons,cnt_nil,if_neg hx1,← h2]
      · rintro j a w ⟨g1,g2,g3,ha,hs⟩;refine wp_seq_k fun K27 hK27=>?_;refine wp_seq_k fun K28 hK28=>?_;refine wp_region_lit ?_;refine pY ha (yMove rfl) fun a ha=>?_;refine pY ha (yMove rfl) fun a ha=>?_;refine pY ha (yLenStr Tryz.runUnderlying9 rfl) fun a ha=>?_;refine pY ha (yLss rfl rfl) fun a ha=>?_;refine pY ha (yMove rfl) fun a ha=>?_;refine gDec (t:=18) ha rfl (fun hg4 hp4=>?_) (fun hg4 hp4=>?_)
        · rw [hg4] at ha
          have hp4:=of_decide_eq_false hg4
          have hst : ∀ x,s.data.toList[j]? = some x→x.toNat / 64 ≠ 2:=fun x hx=>by
            have:=(List.getElem?_eq_some_iff.1 hx).1
            omega
          refine gOff ha fun a ha=>?_;refine gOff ha fun a ha=>?_;refine gOff ha fun a ha=>?_;refine gOff ha fun a ha=>?_;refine gOff ha fun a ha=>?_;refine pY ha (yPickF rfl rfl) fun a ha=>?_;refine pZ ?_;refine hK28 _ _ ?_;refine cFalse ha rfl ?_;refine wp_exit ?_;refine hK25 _ _ ?_;refine wp_seq_k fun K29 hK29=>?_;refine wp_region_lit ?_;refine pY ha (yMove rfl) fun a ha=>?_;refine pY ha (yAddN rfl rfl ⟨by omega,by omega⟩) fun a ha=>?_;refine pY ha (yAssign rfl) fun a ha=>?_;refine pZ ?_;refine hK29 _ _ ?_;refine wp_seq_k fun K30 hK30=>?_;refine wp_goto ?_
          repeat (with_reducible first | refine gThen ?_ | refine gBlock ?_)
          refine gxL ?_;refine ⟨(j,n + 1),⟨hok,by simp only; omega,by simp only; omega,hst,has3 ha rfl rfl rfl,hs⟩,by simp only; omega⟩
        · rw [hg4] at ha
          have hp4:=of_decide_eq_true hg4
          obtain ⟨y0,hy0,_⟩:=list_at s (i:=j) (by omega);refine gOn ha ?_;refine pY ha (yMove rfl) fun a ha=>?_;refine gOn ha ?_;refine pY ha (yMove rfl) fun a ha=>?_;refine gOn ha ?_;refine pY ha (yIndexSb Tryz.runUnderlying9 rfl rfl (by omega) (by simpa using hy0)) fun a ha=>?_;refine gOn ha ?_;refine pC ha (nCall Tryz.call130 rfl) rfl (RuneStart_c y0 hs) ?_;rintro v w ⟨rfl,hs⟩ a ha;refine gOn ha ?_;refine pY ha (yNot rfl) fun a ha=>?_;refine pY ha (yPickT rfl rfl) fun a ha=>?_;refine pZ ?_;refine hK28 _ _ ?_;refine cNDec ha rfl (fun hc24=>?_) (fun hc24=>?_)
          · have hy1 : y0.toNat / 64 = 2:=by simpa using hc24
            refine wp_skip ?_;refine hK27 _ _ ?_;refine wp_seq_k fun K31 hK31=>?_;refine wp_block ?_;refine wp_skip ?_;refine hK31 _ _ ?_;refine wp_region_lit ?_;refine pY ha (yMove rfl) fun a ha=>?_;refine pY ha (yAddN rfl rfl ⟨by omega,by omega⟩) fun a ha=>?_;refine pY ha (yAssign rfl) fun a ha=>?_;refine pZ ?_;refine ⟨j + 1,⟨by omega,by omega,?_,has3 ha rfl rfl rfl,hs⟩,by omega⟩;rw [List.take_add_one,hy0,cnt_append]; simp only [Option.toList]; rw [cnt_cons,cnt_nil,if_pos hy1,g3]
          · (have hst : ∀ x,s.data.toList[j]? = some x→x.toNat / 64 ≠ 2:=fun x hx=>by
               rw [hy0] at hx
               cases hx
               simpa using hc24)
            refine wp_exit ?_;refine hK25 _ _ ?_;refine wp_seq_k fun K32 hK32=>?_;refine wp_region_lit ?_;refine pY ha (yMove rfl) fun a ha=>?_;refine pY ha (yAddN rfl rfl ⟨by omega,by omega⟩) fun a ha=>?_;refine pY ha (yAssign rfl) fun a ha=>?_;refine pZ ?_;refine hK32 _ _ ?_;refine wp_seq_k fun K33 hK33=>?_;refine wp_goto ?_
            repeat (with_reducible first | refine gThen ?_ | refine gBlock ?_)
            refine gxL ?_;refine ⟨(j,n + 1),⟨hok,by simp only; omega,by simp only; omega,hst,has3 ha rfl rfl rfl,hs⟩,by simp only; omega⟩
theorem Letter_c (b : UInt8) (hs : Sep W w cs) : Calls P 121 #[.int .u8 b.toNat] w (Rt fun v w'=>v = .bool (letter b)∧Sep W w' cs):=by
  have hb:=b.toNat_lt
  refine enter Tryz.func121 Tryz.ntmps121 rfl rfl fun a (ha : Has a 29 [(0,_)])=>?_;refine wp_seq_k fun K1 hK1=>?_;refine wp_region_lit ?_;refine pY ha (yAssign rfl) fun a ha=>?_;refine pZ ?_;refine hK1 _ _ ?_;refine wp_seq_k fun K2 hK2=>?_;refine cutC (fun a w=>Has a 29 [(2,.bool (letter b))]∧Sep W w cs) ?_ ?_
  · refine wp_region_lit ?_;refine pY ha (yMove rfl) fun a ha=>?_;refine pY ha (yGeq rfl rfl) fun a ha=>?_;refine pY ha (yMove rfl) fun a ha=>?_;refine gDec (t:=5) ha rfl (fun hg2 hp2=>?_) (fun hg2 hp2=>?_)
    · rw [hg2] at ha;refine gOff ha fun a ha=>?_;refine gOff ha fun a ha=>?_;refine pY ha (yPickF rfl rfl) fun a ha=>?_;refine pY ha (yMove rfl) fun a ha=>?_;refine gOn ha ?_;refine pY ha (yMove rfl) fun a ha=>?_;refine gOn ha ?_;refine pY ha (yGeq rfl rfl) fun a ha=>?_;refine gOn ha ?_;refine pY ha (yMove rfl) fun a ha=>?_;refine gDec (t:=12) ha rfl (fun hg9 hp9=>?_) (fun hg9 hp9=>?_)
      · rw [hg9] at ha;refine gOff ha fun a ha=>?_;refine gOff ha fun a ha=>?_;refine gOn ha ?_;refine pY ha (yPickF rfl rfl) fun a ha=>?_;refine pY ha (yPickF rfl rfl) fun a ha=>?_;refine pY ha (yMove rfl) fun a ha=>?_;refine gOn ha ?_;refine pY ha (yMove rfl) fun a ha=>?_;refine gOn ha ?_;refine pY ha (yEql rfl rfl) fun a ha=>?_;refine pY ha (yPickF rfl rfl) fun a ha=>?_;refine pY ha (yMove rfl) fun a ha=>?_;refine gSplit (t:=21) ha rfl (fun hg18=>?_) (fun hg18=>?_)
        · rw [hg18] at ha;refine gOn ha ?_;refine pY ha (yMove rfl) fun a ha=>?_;refine gOn ha ?_;refine pY ha (yEql rfl rfl) fun a ha=>?_;refine pY ha (yPickF rfl rfl) fun a ha=>?_;refine pY ha (yMove rfl) fun a ha=>?_;refine gSplit (t:=25) ha rfl (fun hg22=>?_) (fun hg22=>?_)
          · rw [hg22] at ha;refine gOn ha ?_;refine pY ha (yMove rfl) fun a ha=>?_;refine gOn ha ?_;refine pY ha (yEql rfl rfl) fun a ha=>?_;refine pY ha (yPickF rfl rfl) fun a ha=>?_;refine pY ha (yAssign rfl) fun a ha=>?_;refine pZ ⟨rfl,?_⟩;refine ⟨has1 ha ?_,hs⟩;unfold letter
            have e : ∀ {p q : Prop} [Decidable p] [Decidable q],(p ↔ q)→decide p = decide q:=fun h=>decide_eq_decide.2 h
            refine congrArg (fun b=>some (Value.bool b)) ?_;rw [Bool.eq_iff_iff];simp only [Bool.or_eq_true,decide_eq_true_eq,Bool.false_eq_true,true_iff,false_iff,iff_true,iff_false];simp only [decide_eq_true_eq,decide_eq_false_iff_not] at *
            omega
          · rw [hg22] at ha;refine gOff ha fun a ha=>?_;refine gOff ha fun a ha=>?_;refine pY ha (yPickT rfl rfl) fun a ha=>?_;refine pY ha (yAssign rfl) fun a ha=>?_;refine pZ ⟨rfl,?_⟩;refine ⟨has1 ha ?_,hs⟩;unfold letter
            have e : ∀ {p q : Prop} [Decidable p] [Decidable q],(p ↔ q)→decide p = decide q:=fun h=>decide_eq_decide.2 h
            refine congrArg (fun b=>some (Value.bool b)) ?_;rw [Bool.eq_iff_iff];simp only [Bool.or_eq_true,decide_eq_true_eq,Bool.false_eq_true,true_iff,false_iff,iff_true,iff_false];simp only [decide_eq_true_eq,decide_eq_false_iff_not] at *
            omega
        · rw [hg18] at ha;refine gOff ha fun a ha=>?_;refine gOff ha fun a ha=>?_;refine pY ha (yPickT rfl rfl) fun a ha=>?_;refine pY ha (yMove rfl) fun a ha=>?_;refine gOff ha fun a ha=>?_;refine gOff ha fun a ha=>?_;refine pY ha (yPickT rfl rfl) fun a ha=>?_;refine pY ha (yAssign rfl) fun a ha=>?_;refine pZ ⟨rfl,?_⟩;refine ⟨has1 ha ?_,hs⟩;unfold letter
          have e : ∀ {p q : Prop} [Decidable p] [Decidable q],(p ↔ q)→decide p = decide q:=fun h=>decide_eq_decide.2 h
          refine congrArg (fun b=>some (Value.bool b)) ?_;rw [Bool.eq_iff_iff];simp only [Bool.or_eq_true,decide_eq_true_eq,Bool.false_eq_true,true_iff,false_iff,iff_true,iff_false];simp only [decide_eq_true_eq,decide_eq_false_iff_not] at *
          omega
      · rw [hg9] at ha;refine gOn ha ?_;refine pY ha (yMove rfl) fun a ha=>?_;refine gOn ha ?_;refine pY ha (yLeq rfl rfl) fun a ha=>?_;refine gOn ha ?_;refine pY ha (yPickT rfl rfl) fun a ha=>?_;refine pY ha (yPickF rfl rfl) fun a ha=>?_;refine pY ha (yMove rfl) fun a ha=>?_;refine gSplit (t:=17) ha rfl (fun hg14=>?_) (fun hg14=>?_)
        · rw [hg14] at ha;refine gOn ha ?_;refine pY ha (yMove rfl) fun a ha=>?_;refine gOn ha ?_;refine pY ha (yEql rfl rfl) fun a ha=>?_;refine pY ha (yPickF rfl rfl) fun a ha=>?_;refine pY ha (yMove rfl) fun a ha=>?_;refine gSplit (t:=21) ha rfl (fun hg18=>?_) (fun hg18=>?_)
          · rw [hg18] at ha;refine gOn ha ?_;refine pY ha (yMove rfl) fun a ha=>?_;refine gOn ha ?_;refine pY ha (yEql rfl rfl) fun a ha=>?_;refine pY ha (yPickF rfl rfl) fun a ha=>?_;refine pY ha (yMove rfl) fun a ha=>?_;refine gSplit (t:=25) ha rfl (fun hg22=>?_) (fun hg22=>?_)
            · rw [hg22] at ha;refine gOn ha ?_;refine pY ha (yMove rfl) fun a ha=>?_;refine gOn ha ?_;refine pY ha (yEql rfl rfl) fun a ha=>?_;refine pY ha (yPickF rfl rfl) fun a ha=>?_;refine pY ha (yAssign rfl) fun a ha=>?_;refine pZ ⟨rfl,?_⟩;refine ⟨has1 ha ?_,hs⟩;unfold letter
              have e : ∀ {p q : Prop} [Decidable p] [Decidable q],(p ↔ q)→decide p = decide q:=fun h=>decide_eq_decide.2 h
              refine congrArg (fun b=>some (Value.bool b)) ?_;rw [Bool.eq_iff_iff];simp only [Bool.or_eq_true,decide_eq_true_eq,Bool.false_eq_true,true_iff,false_iff,iff_true,iff_false];simp only [decide_eq_true_eq,decide_eq_false_iff_not] at *
              omega
            · rw [hg22] at ha;refine gOff ha fun a ha=>?_;refine gOff ha fun a ha=>?_;refine pY ha (yPickT rfl rfl) fun a ha=>?_;refine pY ha (yAssign rfl) fun a ha=>?_;refine pZ ⟨rfl,?_⟩;refine ⟨has1 ha ?_,hs⟩;unfold letter
              have e : ∀ {p q : Prop} [Decidable p] [Decidable q],(p ↔ q)→decide p = decide q:=fun h=>decide_eq_decide.2 h
              refine congrArg (fun b=>some (Value.bool b)) ?_;rw [Bool.eq_iff_iff];simp only [Bool.or_eq_true,decide_eq_true_eq,Bool.false_eq_true,true_iff,false_iff,iff_true,iff_false];simp only [decide_eq_true_eq,decide_eq_false_iff_not] at *
              omega
          · rw [hg18] at ha;refine gOff ha fun a ha=>?_;refine gOff ha fun a ha=>?_;refine pY ha (yPickT rfl rfl) fun a ha=>?_;refine pY ha (yMove rfl) fun a ha=>?_;refine gOff ha fun a ha=>?_;refine gOff ha fun a ha=>?_;refine pY ha (yPickT rfl rfl) fun a ha=>?_;refine pY ha (yAssign rfl) fun a ha=>?_;refine pZ ⟨rfl,?_⟩;refine ⟨has1 ha ?_,hs⟩;unfold letter
            have e : ∀ {p q : Prop} [Decidable p] [Decidable q],(p ↔ q)→decide p = decide q:=fun h=>decide_eq_decide.2 h
            refine congrArg (fun b=>some (Value.bool b)) ?_;rw [Bool.eq_iff_iff];simp only [Bool.or_eq_true,decide_eq_true_eq,Bool.false_eq_true,true_iff,false_iff,iff_true,iff_false];simp only [decide_eq_true_eq,decide_eq_false_iff_not] at *
            omega
        · rw [hg14] at ha;refine gOff ha fun a ha=>?_;refine gOff ha fun a ha=>?_;refine pY ha (yPickT rfl rfl) fun a ha=>?_;refine pY ha (yMove rfl) fun a ha=>?_;refine gOff ha fun a ha=>?_;refine gOff ha fun a ha=>?_;refine pY ha (yPickT rfl rfl) fun a ha=>?_;refine pY ha (yMove rfl) fun a ha=>?_;refine gOff ha fun a ha=>?_;refine gOff ha fun a ha=>?_;refine pY ha (yPickT rfl rfl) fun a ha=>?_;refine pY ha (yAssign rfl) fun a ha=>?_;refine pZ ⟨rfl,?_⟩;refine ⟨has1 ha ?_,hs⟩;unfold letter
          have e : ∀ {p q : Prop} [Decidable p] [Decidable q],(p ↔ q)→decide p = decide q:=fun h=>decide_eq_decide.2 h
          refine congrArg (fun b=>some (Value.bool b)) ?_;rw [Bool.eq_iff_iff];simp only [Bool.or_eq_true,decide_eq_true_eq,Bool.false_eq_true,true_iff,false_iff,iff_true,iff_false];simp only [decide_eq_true_eq,decide_eq_false_iff_not] at *
          omega
    · rw [hg2] at ha;refine gOn ha ?_;refine pY ha (yMove rfl) fun a ha=>?_;refine gOn ha ?_;refine pY ha (yLeq rfl rfl) fun a ha=>?_;refine pY ha (yPickT rfl rfl) fun a ha=>?_;refine pY ha (yMove rfl) fun a ha=>?_;refine gSplit (t:=9) ha rfl (fun hg6=>?_) (fun hg6=>?_)
      · rw [hg6] at ha;refine gOn ha ?_;refine pY ha (yMove rfl) fun a ha=>?_;refine gOn ha ?_;refine pY ha (yGeq rfl rfl) fun a ha=>?_;refine gOn ha ?_;refine pY ha (yMove rfl) fun a ha=>?_;refine gDec (t:=12) ha rfl (fun hg9 hp9=>?_) (fun hg9 hp9=>?_)
        · rw [hg9] at ha;refine gOff ha fun a ha=>?_;refine gOff ha fun a ha=>?_;refine gOn ha ?_;refine pY ha (yPickF rfl rfl) fun a ha=>?_;refine pY ha (yPickF rfl rfl) fun a ha=>?_;refine pY ha (yMove rfl) fun a ha=>?_;refine gOn ha ?_;refine pY ha (yMove rfl) fun a ha=>?_;refine gOn ha ?_;refine pY ha (yEql rfl rfl) fun a ha=>?_;refine pY ha (yPickF rfl rfl) fun a ha=>?_;refine pY ha (yMove rfl) fun a ha=>?_;refine gSplit (t:=21) ha rfl (fun hg18=>?_) (fun hg18=>?_)
          · rw [hg18] at ha;refine gOn ha ?_;refine pY ha (yMove rfl) fun a ha=>?_;refine gOn ha ?_;refine pY ha (yEql rfl rfl) fun a ha=>?_;refine pY ha (yPickF rfl rfl) fun a ha=>?_;refine pY ha (yMove rfl) fun a ha=>?_;refine gSplit (t:=25) ha rfl (fun hg22=>?_) (fun hg22=>?_)
            · rw [hg22] at ha;refine gOn ha ?_;refine pY ha (yMove rfl) fun a ha=>?_;refine gOn ha ?_;refine pY ha (yEql rfl rfl) fun a ha=>?_;refine pY ha (yPickF rfl rfl) fun a ha=>?_;refine pY ha (yAssign rfl) fun a ha=>?_;refine pZ ⟨rfl,?_⟩;refine ⟨has1 ha ?_,hs⟩;unfold letter
              have e : ∀ {p q : Prop} [Decidable p] [Decidable q],(p ↔ q)→decide p = decide q:=fun h=>decide_eq_decide.2 h
              refine congrArg (fun b=>some (Value.bool b)) ?_;rw [Bool.eq_iff_iff];simp only [Bool.or_eq_true,decide_eq_true_eq,Bool.false_eq_true,true_iff,false_iff,iff_true,iff_false];simp only [decide_eq_true_eq,decide_eq_false_iff_not] at *
              omega
            · rw [hg22] at ha;refine gOff ha fun a ha=>?_;refine gOff ha fun a ha=>?_;refine pY ha (yPickT rfl rfl) fun a ha=>?_;refine pY ha (yAssign rfl) fun a ha=>?_;refine pZ ⟨rfl,?_⟩;refine ⟨has1 ha ?_,hs⟩;unfold letter
              have e : ∀ {p q : Prop} [Decidable p] [Decidable q],(p ↔ q)→decide p = decide q:=fun h=>decide_eq_decide.2 h
              refine congrArg (fun b=>some (Value.bool b)) ?_;rw [Bool.eq_iff_iff];simp only [Bool.or_eq_true,decide_eq_true_eq,Bool.false_eq_true,true_iff,false_iff,iff_true,iff_false];simp only [decide_eq_true_eq,decide_eq_false_iff_not] at *
              omega
          · rw [hg18] at ha;refine gOff ha fun a ha=>?_;refine gOff ha fun a ha=>?_;refine pY ha (yPickT rfl rfl) fun a ha=>?_;refine pY ha (yMove rfl) fun a ha=>?_;refine gOff ha fun a ha=>?_;refine gOff ha fun a ha=>?_;refine pY ha (yPickT rfl rfl) fun a ha=>?_;refine pY ha (yAssign rfl) fun a ha=>?_;refine pZ ⟨rfl,?_⟩;refine ⟨has1 ha ?_,hs⟩;unfold letter
            have e : ∀ {p q : Prop} [Decidable p] [Decidable q],(p ↔ q)→decide p = decide q:=fun h=>decide_eq_decide.2 h
            refine congrArg (fun b=>some (Value.bool b)) ?_;rw [Bool.eq_iff_iff];simp only [Bool.or_eq_true,decide_eq_true_eq,Bool.false_eq_true,true_iff,false_iff,iff_true,iff_false];simp only [decide_eq_true_eq,decide_eq_false_iff_not] at *
            omega
        · rw [hg9] at ha;refine gOn ha ?_;refine pY ha (yMove rfl) fun a ha=>?_;refine gOn ha ?_;refine pY ha (yLeq rfl rfl) fun a ha=>?_;refine gOn ha ?_;refine pY ha (yPickT rfl rfl) fun a ha=>?_;refine pY ha (yPickF rfl rfl) fun a ha=>?_;refine pY ha (yMove rfl) fun a ha=>?_;refine gSplit (t:=17) ha rfl (fun hg14=>?_) (fun hg14=>?_)
          · rw [hg14] at ha;refine gOn ha ?_;refine pY ha (yMove rfl) fun a ha=>?_;refine gOn ha ?_;refine pY ha (yEql rfl rfl) fun a ha=>?_;refine pY ha (yPickF rfl rfl) fun a ha=>?_;refine pY ha (yMove rfl) fun a ha=>?_;refine gSplit (t:=21) ha rfl (fun hg18=>?_) (fun hg18=>?_)
            · rw [hg18] at ha;refine gOn ha ?_;refine pY ha (yMove rfl) fun a ha=>?_;refine gOn ha ?_;refine pY ha (yEql rfl rfl) fun a ha=>?_;refine pY ha (yPickF rfl rfl) fun a ha=>?_;refine pY ha (yMove rfl) fun a ha=>?_;refine gSplit (t:=25) ha rfl (fun hg22=>?_) (fun hg22=>?_)
              · rw [hg22] at ha;refine gOn ha ?_;refine pY ha (yMove rfl) fun a ha=>?_;refine gOn ha ?_;refine pY ha (yEql rfl rfl) fun a ha=>?_;refine pY ha (yPickF rfl rfl) fun a ha=>?_;refine pY ha (yAssign rfl) fun a ha=>?_;refine pZ ⟨rfl,?_⟩;refine ⟨has1 ha ?_,hs⟩;unfold letter
                have e : ∀ {p q : Prop} [Decidable p] [Decidable q],(p ↔ q)→decide p = decide q:=fun h=>decide_eq_decide.2 h
                refine congrArg (fun b=>some (Value.bool b)) ?_;rw [Bool.eq_iff_iff];simp only [Bool.or_eq_true,decide_eq_true_eq,Bool.false_eq_true,true_iff,false_iff,iff_true,iff_false];simp only [decide_eq_true_eq,decide_eq_false_iff_not] at *
                omega
              · rw [hg22] at ha;refine gOff ha fun a ha=>?_;refine gOff ha fun a ha=>?_;refine pY ha (yPickT rfl rfl) fun a ha=>?_;refine pY ha (yAssign rfl) fun a ha=>?_;refine pZ ⟨rfl,?_⟩;refine ⟨has1 ha ?_,hs⟩;unfold letter
                have e : ∀ {p q : Prop} [Decidable p] [Decidable q],(p ↔ q)→decide p = decide q:=fun h=>decide_eq_decide.2 h
                refine congrArg (fun b=>some (Value.bool b)) ?_;rw [Bool.eq_iff_iff];simp only [Bool.or_eq_true,decide_eq_true_eq,Bool.false_eq_true,true_iff,false_iff,iff_true,iff_false];simp only [decide_eq_true_eq,decide_eq_false_iff_not] at *
                omega
            · rw [hg18] at ha;refine gOff ha fun a ha=>?_;refine gOff ha fun a ha=>?_;refine pY ha (yPickT rfl rfl) fun a ha=>?_;refine pY ha (yMove rfl) fun a ha=>?_;refine gOff ha fun a ha=>?_;refine gOff ha fun a ha=>?_;refine pY ha (yPickT rfl rfl) fun a ha=>?_;refine pY ha (yAssign rfl) fun a ha=>?_;refine pZ ⟨rfl,?_⟩;refine ⟨has1 ha ?_,hs⟩;unfold letter
              have e : ∀ {p q : Prop} [Decidable p] [Decidable q],(p ↔ q)→decide p = decide q:=fun h=>decide_eq_decide.2 h
              refine congrArg (fun b=>some (Value.bool b)) ?_;rw [Bool.eq_iff_iff];simp only [Bool.or_eq_true,decide_eq_true_eq,Bool.false_eq_true,true_iff,false_iff,iff_true,iff_false];simp only [decide_eq_true_eq,decide_eq_false_iff_not] at *
              omega
          · rw [hg14] at ha;refine gOff ha fun a ha=>?_;refine gOff ha fun a ha=>?_;refine pY ha (yPickT rfl rfl) fun a ha=>?_;refine pY ha (yMove rfl) fun a ha=>?_;refine gOff ha fun a ha=>?_;refine gOff ha fun a ha=>?_;refine pY ha (yPickT rfl rfl) fun a ha=>?_;refine pY ha (yMove rfl) fun a ha=>?_;refine gOff ha fun a ha=>?_;refine gOff ha fun a ha=>?_;refine pY ha (yPickT rfl rfl) fun a ha=>?_;refine pY ha (yAssign rfl) fun a ha=>?_;refine pZ ⟨rfl,?_⟩;refine ⟨has1 ha ?_,hs⟩;unfold letter
            have e : ∀ {p q : Prop} [Decidable p] [Decidable q],(p ↔ q)→decide p = decide q:=fun h=>decide_eq_decide.2 h
            refine congrArg (fun b=>some (Value.bool b)) ?_;rw [Bool.eq_iff_iff];simp only [Bool.or_eq_true,decide_eq_true_eq,Bool.false_eq_true,true_iff,false_iff,iff_true,iff_false];simp only [decide_eq_true_eq,decide_eq_false_iff_not] at *
            omega
      · rw [hg6] at ha;refine gOff ha fun a ha=>?_;refine gOff ha fun a ha=>?_;refine gOff ha fun a ha=>?_;refine gOffU ha fun a ha=>?_;refine gOffU ha fun a ha=>?_;refine gOff ha fun a ha=>?_;refine pY ha (yPickT rfl rfl) fun a ha=>?_;refine pY ha (yMove rfl) fun a ha=>?_;refine gOff ha fun a ha=>?_;refine gOff ha fun a ha=>?_;refine pY ha (yPickT rfl rfl) fun a ha=>?_;refine pY ha (yMove rfl) fun a ha=>?_;refine gOff ha fun a ha=>?_;refine gOff ha fun a ha=>?_;refine pY ha (yPickT rfl rfl) fun a ha=>?_;refine pY ha (yMove rfl) fun a ha=>?_;refine gOff ha fun a ha=>?_;refine gOff ha fun a ha=>?_;refine pY ha (yPickT rfl rfl) fun a ha=>?_;refine pY ha (yAssign rfl) fun a ha=>?_;refine pZ ⟨rfl,?_⟩;refine ⟨has1 ha ?_,hs⟩;unfold letter
        have e : ∀ {p q : Prop} [Decidable p] [Decidable q],(p ↔ q)→decide p = decide q:=fun h=>decide_eq_decide.2 h
        refine congrArg (fun b=>some (Value.bool b)) ?_;rw [Bool.eq_iff_iff];simp only [Bool.or_eq_true,decide_eq_true_eq,Bool.false_eq_true,true_iff,false_iff,iff_true,iff_false];simp only [decide_eq_true_eq,decide_eq_false_iff_not] at *
        omega
  rintro a w ⟨ha,hs⟩;refine hK2 _ _ ?_;refine wp_ret ?_;show bodyPost Tryz.prog Tryz.f121 _ .ret _ _;refine ret1 rfl ha rfl ?_;exact ⟨rfl,hs⟩
end
end Go.Proofs.YtnlhbkaieoogfaaGreatDoor

set_option linter.unusedVariables false
set_option linter.unusedSimpArgs false
namespace Go.Proofs.YtnlhbkaieoogfaaGreatDoor
open Go.ChangeShapes Go.WideShapes Go.ChangeAt Go.RowKit
section
variable {H : Type} {enc : TypeId × Value→H} {P : Program} {W : World} {base : Nat} {t e : TypeId} {v : Value} {d : DataW H} {p : List MemPlace}
/-- What is read of a slice of whole numbers. -/
theorem given_row {k : IntKind} (ht : P.underlying t = some (.slice e)) (he : P.underlying e = some (.int k)) (hc : P.cellsOf e = 1)
    (hval : Value.okWide P W .any base t v) (h : DataW.Trod enc P W 0 (fun _=>true) true t v d p) :
    ∃ A n c,v = .slice A n c∧n≤c∧c≤maxLen∧∃ zs : List Int,zs.length = n∧(∀ n ∈ zs,(Lit.int k n).wf = true) ∧
      (0 < n→∃ b off arr T fr,A = some ⟨b,off,none⟩∧W.heap[b]? = some (.cells arr T fr)∧∀ i,i < n→arr[off + i]? = some (.int k (zs.getD i 0))):=by
  obtain ⟨A,n,c,rfl⟩:=okWide_slice ht hval;obtain ⟨fuel,hf⟩:=h
  rcases open_ints ht he hc hf with ⟨hcs,hx⟩ | ⟨a,len',cap',zs,hcs,_,hl,hm,hz,hx,hcell,hwz⟩
  · simp [Value.cells] at hcs
    obtain ⟨rfl,rfl,rfl⟩:=hcs;exact ⟨none,0,0,rfl,Nat.le_refl _,Nat.zero_le _,[],rfl,fun n h=>(by cases h),fun h=>absurd h (by omega)⟩
  · simp [Value.cells] at hcs
    obtain ⟨rfl,rfl,rfl⟩:=hcs;simp only [if_true] at hz;refine ⟨some a,n,c,rfl,hl,hm,zs.take n,by simp; omega,fun m hm=>hwz m (List.mem_of_mem_take hm),fun h0=>?_⟩;obtain ⟨ab,ao,spot⟩:=a
    have hc0:=hcell 0 (by omega)
    have hspot : spot = none:=by simpa [Addr.add] using World.cell?_spot hc0
    subst hspot
    have hcell' : ∀ i,i < zs.length→W.cell? ⟨ab,ao + i,none⟩ = some (.int k (zs.getD i 0)):=fun i hi=>by
      have:=hcell i hi
      rwa [add_at] at this
    have h1:=hcell' 0 (by omega)
    cases hb : W.heap[ab]? with
    | none=>simp [World.cell?,hb] at h1
    | some o=>
      cases o with
      | cells arr T fr=>
        refine ⟨ab,ao,arr,T,fr,rfl,hb,fun i hi=>?_⟩
        have:=hcell' i (by omega)
        simp only [World.cell?,hb,Option.isSome_none,Bool.false_eq_true,if_false] at this;rw [this]
        congr 2
        rw [List.getD_eq_getElem?_getD,List.getD_eq_getElem?_getD,List.getElem?_take,if_pos hi]
      | _=>simp [World.cell?,hb] at h1
theorem given_u8 (ht : P.underlying t = some (.slice e)) (he : P.underlying e = some (.int .u8)) (hc : P.cellsOf e = 1)
    (hval : Value.okWide P W .any base t v) (h : DataW.Trod enc P W 0 (fun _=>true) true t v d p) :
    ∃ A n c bs,v = .slice A n c∧∀ Z : Hp,(∀ i,i < W.heap.size→Z i = W.heap[i]?)→kU8.sl Z (.slice A n c) bs:=by
  obtain ⟨A,n,c,rfl,h1,h2,zs,hl,hw,h3⟩:=given_row ht he hc hval h;refine ⟨A,n,c,zs.map fun m=>UInt8.ofNat m.toNat,rfl,fun Z hZ=>⟨A,c,by simp [hl],by simpa [hl] using h1,h2,fun h0=>?_⟩⟩;obtain ⟨b,off,arr,T,fr,rfl,hb,hrow⟩:=h3 (by simpa [hl] using h0)
  have hlt : b < W.heap.size:=(Array.getElem?_eq_some_iff.1 hb).1
  refine ⟨b,off,arr,T,fr,rfl,by rw [hZ b hlt]; exact hb,fun i x hx=>⟨[.int .u8 x.toNat],rfl,fun j u hj=>?_⟩⟩
  have : j = 0∧u = .int .u8 x.toNat:=by
    cases j with
    | zero=>simpa using hj.symm
    | succ j=>simp at hj
  obtain ⟨rfl,rfl⟩:=this;rw [List.getElem?_map,Option.map_eq_some_iff] at hx;obtain ⟨m,hm,rfl⟩:=hx
  have hi : i < n:=by rw [← hl]; exact (List.getElem?_eq_some_iff.1 hm).1
  have h4:=hrow i hi
  rw [List.getD_eq_getElem?_getD,hm] at h4
  have hwm:=hw m (List.mem_of_getElem? hm)
  simp [Lit.wf,IntKind.min,IntKind.max,IntKind.signed,IntKind.bits] at hwm
  show arr[off + i * 1 + 0]? = _;rw [Nat.mul_one,Nat.add_zero,h4]
  simp
  omega
theorem Sep.given_rd {α : Type} {k : Kd α} {w : World} {xs : List α} {r : List Ch} (h : Sep W w r) (hg : ∀ Z : Hp,(∀ i,i < W.heap.size→Z i = W.heap[i]?)→k.sl Z v xs) : Sep W w (.rd k v xs::r):=h.old_ro hg
end
end Go.Proofs.YtnlhbkaieoogfaaGreatDoor

set_option linter.unusedVariables false
set_option linter.unusedSimpArgs false
namespace Go.Proofs.YtnlhbkaieoogfaaGreatDoor
open Go.RowKit Go.Lib
theorem get_tail : ∀ (m : Nat) (rest : List UInt8),m≤8589934592→getR 0 ((tailD m).reverse++rest) 0 = getR m rest (tailD m).length:=by
  intro m
  induction m using Nat.strongRecOn with
  | _ m ih=>
    intro rest hm
    rcases Nat.eq_zero_or_pos m with rfl | h
    · rw [tailD_zero]; rfl
    · rw [tailD_pos h,List.reverse_cons,List.append_assoc,ih (m / 128) (by omega) _ (by omega)];show getR _ (UInt8.ofNat (m % 128 + 128)::rest) _ = _
      have hc : (UInt8.ofNat (m % 128 + 128)).toNat = m % 128 + 128:=by simp; omega
      have hz : (tailD (m / 128)).length = 0→m / 128 = 0:=fun h0=>by
        rcases Nat.eq_zero_or_pos (m / 128) with h1 | h1
        · exact h1
        · rw [tailD_pos h1] at h0; simp at h0
      rw [getR,if_neg (by rw [hc]; intro h2; rcases h2 with ⟨h3,h4⟩ | h3 <;> first | (have:=hz h3; omega) | omega),if_neg (by rw [hc]; omega),hc]
      congr 1
      omega
theorem get_put {n : Nat} (h : n≤1099511627776) (rest : List UInt8) : getN (put n++rest) = some ((n : Int),(put n).length):=by
  have hp : put n = (tailD (n / 128)).reverse++[UInt8.ofNat (n % 128)]:=by
    have:=put_rev h
    rw [← List.reverse_inj,this]; simp
  rw [hp];unfold getN;rw [List.append_assoc,get_tail _ _ (by omega)]
  have hc : (UInt8.ofNat (n % 128)).toNat = n % 128:=by simp; omega
  show getR _ (UInt8.ofNat (n % 128)::rest) _ = _;rw [getR,if_neg (by rw [hc]; omega),if_pos (by rw [hc]; omega),hc,if_pos (by simp [fits]; omega)]
  simp
  omega
theorem rNum_put {n : Nat} (h : n≤1099511627776) (rest : List UInt8) : rNum (put n++rest,0) = ((n : Int),(rest,0)):=by
  simp only [rNum,get_put h]
  simp
section
variable {W w : World} {cs r : List Ch} {p : Nat}
theorem pMakeS {ops : Array Oper} {Q : Exit→Act→World→Prop} {rest : List Oper} {ps : String} {af : Array Edge} {a : Act} {N dd : Nat} {l : List (Nat × Value)} {x y : Operand} {T : TypeId} {n : Nat}
    (ha : Has a N l) (hx : ev l x = some (.int .i64 n)) (hy : ev l y = some (.int .i64 n)) (hn : n≤140737488355328) (hs : Sep W w cs) (hd : Nat.blt dd N = true)
    (h : ∀ b w,Sep W w (.blk b 5 (List.replicate n (.int .u8 0))::cs)→∀ a,Has a N ((dd,.slice (some ⟨b,0,none⟩) n n)::l)→wpList P ops Q rest a w) :
    wpList P ops Q (⟨some dd,.makeSlice 27 x y,T,ps,af,none⟩::rest) a w:=by
  refine pE ha (v:=.slice (some ⟨w.heap.size,0,none⟩) n n) (w':=w.alloc (.cells (List.replicate n (.int .u8 0)).toArray 5)) (fun ρ o hE ho hT=>?_) hd (fun a ha=>h _ _ (by have:=hs.blk_alloc (List.replicate n (.int .u8 0)).toArray 5; simpa using this) a ha);unfold execOp; rw [ho]
  have hr : (Instr.makeSlice 27 (.int .i64 n) (.int .i64 n)).run P w = .ok (.slice (some ⟨w.heap.size,0,none⟩) n n) (w.alloc (.cells (List.replicate n (.int .u8 0)).toArray 5)):=by
    have k1 : (P.info? 5).map (fun i=>(i.bytes,i.size)) = some (1,1):=by kernel_rfl
    have k2 : (P.info? 5).map (fun i=>i.zero) = some (some (.int .u8 0)):=by kernel_rfl
    cases hi : P.info? 5 with
    | none=>rw [hi] at k1; simp at k1
    | some i=>
      rw [hi] at k1 k2;simp only [Option.map_some,Option.some.injEq,Prod.mk.injEq] at k1 k2
      have hr:=run_make (P:=P) w 27 5 i (.int .u8 0) Tryz.underlying27 hi k2 .i64 .i64 n n (by omega) (Int.le_refl _) (by rw [k1.1]; omega) (by omega)
      rw [hr,k1.2];simp only [Int.toNat_natCast,Nat.mul_one]
      have : madeCells (Value.int .u8 0).cells n = (List.replicate n (Value.int .u8 0)).toArray:=by
        apply Array.ext'
        simp only [madeCells,Array.toList_map,Array.toList_range]
        apply List.ext_getElem
        · simp
        · intro i h1 h2
          simp [Value.cells,Nat.mod_one]
      rw [this]
  simp [hE _ _ hx,hE _ _ hy,hr]
end
end Go.Proofs.YtnlhbkaieoogfaaGreatDoor

set_option linter.unusedVariables false
set_option linter.unusedSimpArgs false
namespace Go.Proofs.YtnlhbkaieoogfaaGreatDoor
open Go.RowKit Go.Lib
theorem elLimB27 : ElemT Tryz.prog 27 5 1 1:=elemT_mk Tryz.underlying27 rfl (by kernel_rfl)
section
variable {W w : World} {cs r : List Ch} {p : Nat} {st : Wt}
theorem WrText_c (hT : Tabs W) (s : ByteArray) (hsz : s.size≤9223372036854775807) (hb : (wText st s).1.length≤140737488355328) (hs : Sep W w cs) (hk : Pick cs (.wtr p 97 st) r) :
    Calls P 95 #[.pointer (some ⟨p,0,none⟩),.string s] w (Rt fun v w'=>v = .pointer (some ⟨p,0,none⟩)∧Sep W w' (.wtr p 97 (wText st s)::r)):=by
  obtain ⟨A,c,hs⟩:=hs.wtr_open hk
  have hlen : (wNum (st.1,st.2 || !okText s.data.toList) s.size).1.length + s.data.toList.length≤140737488355328:=by simpa [wText] using hb
  obtain ⟨bs,bad⟩:=st;simp only at hs hlen;refine enter Tryz.func95 Tryz.ntmps95 rfl rfl fun a (ha : Has a 36 [(0,_),(1,_)])=>?_;refine wp_seq_k fun K1 hK1=>?_;refine wp_region_lit ?_;refine pY ha (yAssign rfl) fun a ha=>?_;refine pZ ?_;refine hK1 _ _ ?_;refine wp_seq_k fun K2 hK2=>?_;refine wp_seq_k fun K3 hK3=>?_;refine wp_region_lit ?_;refine pY ha (yMove rfl) fun a ha=>?_;refine pY ha (yPtrNeqN Tryz.underlying95 rfl rfl) fun a ha=>?_;refine pZ ?_;refine hK3 _ _ ?_;refine cTrue ha rfl ?_;refine wp_seq_k fun K4 hK4=>?_;refine cutC (fun a w=>Has a 36 [(0,.pointer (some ⟨p,0,none⟩)),(1,.string s)]∧Sep W w (.blk p 97 [.slice A bs.length c,.bool (bad || !okText s.data.toList)]::.ol kU8 5 (.slice A bs.length c) bs::r)) ?_ ?_
  · refine wp_region_lit ?_;refine pY ha (yMove rfl) fun a ha=>?_;refine pY ha (yMove rfl) fun a ha=>?_;refine pY ha (yNilP rfl) fun a ha=>?_;refine pY ha (yFieldA Tryz.runUnderlying97 rfl Tryz.sizeOf4 rfl rfl) fun a ha=>?_;refine pY ha (yLoadB Tryz.isAgg4 hs rfl pk0 rfl) fun a ha=>?_;refine pY ha (yMove rfl) fun a ha=>?_;refine gSplit (t:=14) ha rfl (fun hg5=>?_) (fun hg5=>?_)
    · rw [hg5] at ha;refine gOn ha ?_;refine pY ha (yMove rfl) fun a ha=>?_;refine gOn ha ?_;refine pC ha (nCall Tryz.call102 rfl) rfl (Valid_c hT s hsz hs) ?_;rintro v w ⟨rfl,hs⟩ a ha;refine gOn ha ?_;refine pY ha (yNot rfl) fun a ha=>?_;refine pY ha (yPickF rfl rfl) fun a ha=>?_;refine pY ha (yNilP rfl) fun a ha=>?_;refine pY ha (yFieldA Tryz.runUnderlying97 rfl Tryz.sizeOf4 rfl rfl) fun a ha=>?_;refine pStore ha Tryz.sizeOf4 hs rfl rfl rfl rfl pk0 rfl fun w hs=>?_;refine pZ ⟨rfl,?_⟩;rw [hg5]; exact ⟨has2 ha rfl rfl,hs⟩
    · rw [hg5] at ha;refine gOff ha fun a ha=>?_;refine gOff ha fun a ha=>?_;refine gOff ha fun a ha=>?_;refine pY ha (yPickT rfl rfl) fun a ha=>?_;refine pY ha (yNilP rfl) fun a ha=>?_;refine pY ha (yFieldA Tryz.runUnderlying97 rfl Tryz.sizeOf4 rfl rfl) fun a ha=>?_;refine pStore ha Tryz.sizeOf4 hs rfl rfl rfl rfl pk0 rfl fun w hs=>?_;refine pZ ⟨rfl,?_⟩;rw [hg5]; exact ⟨has2 ha rfl rfl,hs⟩
  rintro a w ⟨ha,hs⟩;refine hK4 _ _ ?_;refine wp_seq_k fun K5 hK5=>?_;have hs:=hs.wtr_shut .here .here;refine wp_region_lit ?_;refine pY ha (yMove rfl) fun a ha=>?_;refine pY ha (yLenStr Tryz.runUnderlying9 rfl) fun a ha=>?_;refine pY ha (yAssign rfl) fun a ha=>?_;refine pZ ?_;refine hK5 _ _ ?_;refine wp_seq_k fun K6 hK6=>?_;refine wp_region_lit ?_;refine pY ha (yMove rfl) fun a ha=>?_;refine pY ha (yMove rfl) fun a ha=>?_;refine pC ha (nCall Tryz.call59 rfl) rfl (WrNum_c s.size (by omega) hs .here) ?_;rintro v w ⟨rfl,hs⟩ a ha;refine pY ha (yAssign rfl) fun a ha=>?_;refine pZ ?_;refine hK6 _ _ ?_;obtain ⟨A',c',hs⟩:=hs.wtr_open .here;refine wp_region_lit ?_;refine pY ha (yMove rfl) fun a ha=>?_;refine pY ha (yMove rfl) fun a ha=>?_;refine pY ha (yNilP rfl) fun a ha=>?_;refine pY ha (yFieldA Tryz.runUnderlying97 rfl Tryz.sizeOf27 rfl rfl) fun a ha=>?_;refine pY ha (yLoadB Tryz.isAgg27 hs rfl pk0 rfl) fun a ha=>?_;refine pY ha (yMove rfl) fun a ha=>?_;refine pAppStr ha elLimB27 Tryz.underlying9 rfl rfl hs pk1 (by (unfold maxLen; omega)) (by omega) rfl fun A c w hs a ha=>?_;refine pY ha (yNilP rfl) fun a ha=>?_;refine pY ha (yFieldA Tryz.runUnderlying97 rfl Tryz.sizeOf27 rfl rfl) fun a ha=>?_;refine pStore ha Tryz.sizeOf27 hs rfl rfl rfl rfl pk1 rfl fun w hs=>?_;refine pZ ?_;refine hK2 _ _ ?_;refine wp_seq_k fun K7 hK7=>?_;refine wp_region_lit ?_;refine pY ha (yMove rfl) fun a ha=>?_;refine pY ha (yAssign rfl) fun a ha=>?_;refine pZ ?_;refine hK7 _ _ ?_;refine wp_ret ?_;show bodyPost Tryz.prog Tryz.f95 _ .ret _ _;refine ret1 rfl ha rfl ?_;exact ⟨rfl,hs.wtr_shut .here .here⟩
theorem OutNum_c (n : Int) (hb : (wNum st n).1.length≤140737488355328) (hs : Sep W w cs) (hk : Pick cs (.wtr p 103 st) r) :
    Calls P 63 #[.pointer (some ⟨p,0,none⟩),.int .i64 n] w (Rt fun v w'=>v = .tuple #[]∧Sep W w' (.wtr p 103 (wNum st n)::r)):=by
  obtain ⟨A,c,hs⟩:=hs.wtr_open hk
  have hlen : st.1.length + (put n).length≤140737488355328:=by simpa [wNum] using hb
  obtain ⟨bs,bad⟩:=st;simp only at hs hlen;refine enter Tryz.func63 Tryz.ntmps63 rfl rfl fun a (ha : Has a 26 [(0,_),(1,_)])=>?_;refine wp_seq_k fun K1 hK1=>?_;refine cutC (fun a w=>Has a 26 [(0,.pointer (some ⟨p,0,none⟩)),(1,.int .i64 n)]∧Sep W w (.blk p 103 [.slice A bs.length c,.bool (bad || !fits n)]::.ol kU8 5 (.slice A bs.length c) bs::r)) ?_ ?_
  · refine wp_region_lit ?_;refine pY ha (yMove rfl) fun a ha=>?_;refine pY ha (yMove rfl) fun a ha=>?_;refine pY ha (yNilP rfl) fun a ha=>?_;refine pY ha (yFieldA Tryz.runUnderlying103 rfl Tryz.sizeOf4 rfl rfl) fun a ha=>?_;refine pY ha (yLoadB Tryz.isAgg4 hs rfl pk0 rfl) fun a ha=>?_;refine pY ha (yMove rfl) fun a ha=>?_;refine gSplit (t:=9) ha rfl (fun hg5=>?_) (fun hg5=>?_)
    · rw [hg5] at ha;refine gOn ha ?_;refine pY ha (yMove rfl) fun a ha=>?_;refine gOn ha ?_;refine pC ha (nCall Tryz.call38 rfl) rfl (RFits_c _ hs) ?_;rintro v w ⟨rfl,hs⟩ a ha;refine gOn ha ?_;refine pY ha (yNot rfl) fun a ha=>?_;refine pY ha (yPickF rfl rfl) fun a ha=>?_;refine pY ha (yNilP rfl) fun a ha=>?_;refine pY ha (yFieldA Tryz.runUnderlying103 rfl Tryz.sizeOf4 rfl rfl) fun a ha=>?_;refine pStore ha Tryz.sizeOf4 hs rfl rfl rfl rfl pk0 rfl fun w hs=>?_;refine pZ ⟨rfl,?_⟩;rw [hg5]; exact ⟨has2 ha rfl rfl,hs⟩
    · rw [hg5] at ha;refine gOff ha fun a ha=>?_;refine gOff ha fun a ha=>?_;refine gOff ha fun a ha=>?_;refine pY ha (yPickT rfl rfl) fun a ha=>?_;refine pY ha (yNilP rfl) fun a ha=>?_;refine pY ha (yFieldA Tryz.runUnderlying103 rfl Tryz.sizeOf4 rfl rfl) fun a ha=>?_;refine pStore ha Tryz.sizeOf4 hs rfl rfl rfl rfl pk0 rfl fun w hs=>?_;refine pZ ⟨rfl,?_⟩;rw [hg5]; exact ⟨has2 ha rfl rfl,hs⟩
  rintro a w ⟨ha,hs⟩;refine hK1 _ _ ?_;refine dStart (fun w=>Sep W w _) [7,10] 2047 126 (by kernel_rfl) (by kernel_rfl) rfl (hs.drew) ?_
  have hs:=Sep.drew hs
  generalize World.drew _ = w at hs ⊢;refine dP 0 1 rfl ha (fun _=>yMove rfl) fun a ha=>?_;refine dP 1 3 rfl ha (fun _=>yMove rfl) fun a ha=>?_;refine dP 2 7 rfl ha (fun _=>yNilP rfl) fun a ha=>?_;refine dP 3 15 rfl ha (fun _=>yFieldA Tryz.runUnderlying103 rfl Tryz.sizeOf27 rfl rfl) fun a ha=>?_;refine dT 4 31 rfl ha (fun _ hs=>yLoadB Tryz.isAgg27 hs rfl pk0 rfl) (hs) fun a ha=>?_;refine dP 5 63 rfl ha (fun _=>yMove rfl) fun a ha=>?_;refine dC 6 127 rfl (by kernel_rfl) rfl ha won0 (nCall Tryz.call98 rfl) rfl (RPut_c _ hs) ?_;rintro v w ⟨A',c',rfl,hs⟩;refine ⟨hs.drop,fun a ha=>?_⟩;have hs:=hs.ol_rd .here;refine dAppRdl 7 255 rfl (by kernel_rfl) rfl ha won0 elLimB27 rfl rfl hs pk2 pk0 rfl (by (unfold maxLen; omega)) (by omega) rfl fun A c w hs a ha=>?_;refine dP 8 511 rfl ha (fun _=>yNilP rfl) fun a ha=>?_;refine dP 9 1023 rfl ha (fun _=>yFieldA Tryz.runUnderlying103 rfl Tryz.sizeOf27 rfl rfl) fun a ha=>?_;refine dStorel 10 2047 rfl (by kernel_rfl) rfl ha won0 Tryz.sizeOf27 hs rfl rfl rfl rfl pk2 rfl fun w hs=>?_;refine dZ (by kernel_rfl) ?_;show bodyPost Tryz.prog Tryz.f63 _ .normal _ _;refine end0 rfl ha ?_;exact ⟨rfl,(hs.wtr_shut .here .here).drop2⟩
end
end Go.Proofs.YtnlhbkaieoogfaaGreatDoor

set_option linter.unusedVariables false
set_option linter.unusedSimpArgs false
namespace Go.Proofs.YtnlhbkaieoogfaaGreatDoor
open Go.RowKit Go.Lib
def wComp (st : Wt) (x : Comp) : Wt:=wText (wNum (wNum st x.kind) x.n) x.text
def wComps (st : Wt) (l : List Comp) : Wt:=l.foldl wComp (wNum st l.length)
def wNod (st : Wt) (x : Nod) : Wt:=wText (wFlag (wText (wNum (wNum st x.id) x.parent) x.name) x.dir) x.text
def wNods (st : Wt) (l : List Nod) : Wt:=l.foldl wNod (wNum st l.length)
def wActn (st : Wt) (x : Actn) : Wt:=wComps (wFlag (wText (wNum (wNum (wNum st x.kind) x.id) x.parent) x.name) x.dir) x.ops
def wActns (st : Wt) (l : List Actn) : Wt:=l.foldl wActn (wNum st l.length)
theorem wNum_le (st : Wt) (n : Int) : st.1.length≤(wNum st n).1.length:=by simp [wNum]
theorem wText_le (st : Wt) (s : ByteArray) : st.1.length≤(wText st s).1.length∧s.size≤(wText st s).1.length∧(wNum (st.1,st.2 || !okText s.data.toList) s.size).1.length≤(wText st s).1.length:=by
  simp only [wText,wNum,List.length_append]
  have : s.data.toList.length = s.size:=by simp
  omega
theorem wFlag_le (st : Wt) (b : Bool) : st.1.length≤(wFlag st b).1.length:=wNum_le _ _
theorem fold_le {α : Type} {f : Wt→α→Wt} (hf : ∀ st x,st.1.length≤(f st x).1.length) : ∀ (l : List α) (st : Wt),st.1.length≤(l.foldl f st).1.length
  | [],st=>Nat.le_refl _
  | x::r,st=>Nat.le_trans (hf st x) (fold_le hf r (f st x))
theorem wComp_le (st : Wt) (x : Comp) : st.1.length≤(wComp st x).1.length:=by
  have h1:=wNum_le st x.kind; have h2:=wNum_le (wNum st x.kind) x.n; have h3:=(wText_le (wNum (wNum st x.kind) x.n) x.text).1
  unfold wComp; omega
theorem wComps_le (st : Wt) (l : List Comp) : st.1.length≤(wComps st l).1.length:=Nat.le_trans (wNum_le st l.length) (fold_le wComp_le l _)
theorem wNod_le (st : Wt) (x : Nod) : st.1.length≤(wNod st x).1.length:=by
  have h1:=wNum_le st x.id; have h2:=wNum_le (wNum st x.id) x.parent; have h3:=(wText_le (wNum (wNum st x.id) x.parent) x.name).1
  have h4:=wFlag_le (wText (wNum (wNum st x.id) x.parent) x.name) x.dir; have h5:=(wText_le (wFlag (wText (wNum (wNum st x.id) x.parent) x.name) x.dir) x.text).1
  unfold wNod; omega
theorem wActn_le (st : Wt) (x : Actn) : st.1.length≤(wActn st x).1.length:=by
  have h1:=wNum_le st x.kind; have h2:=wNum_le (wNum st x.kind) x.id; have h3:=wNum_le (wNum (wNum st x.kind) x.id) x.parent; have h4:=(wText_le (wNum (wNum (wNum st x.kind) x.id) x.parent) x.name).1
  have h5:=wFlag_le (wText (wNum (wNum (wNum st x.kind) x.id) x.parent) x.name) x.dir; have h6:=wComps_le (wFlag (wText (wNum (wNum (wNum st x.kind) x.id) x.parent) x.name) x.dir) x.ops
  unfold wActn; omega
theorem fold_at {α : Type} {f : Wt→α→Wt} (hf : ∀ st x,st.1.length≤(f st x).1.length) {l : List α} {s0 : Wt} {i : Nat} {x : α} (hx : l[i]? = some x) :
    (l.take (i + 1)).foldl f s0 = f ((l.take i).foldl f s0) x∧(f ((l.take i).foldl f s0) x).1.length≤(l.foldl f s0).1.length:=by
  obtain ⟨hi,rfl⟩:=List.getElem?_eq_some_iff.1 hx
  have e : (l.take (i + 1)).foldl f s0 = f ((l.take i).foldl f s0) l[i]:=by
    rw [List.take_add_one,List.getElem?_eq_getElem hi,List.foldl_append]; rfl
  refine ⟨e,?_⟩;rw [← e]
  have h:=fold_le hf (l.drop (i + 1)) ((l.take (i + 1)).foldl f s0)
  rwa [← List.foldl_append,List.take_append_drop] at h
section
variable {W w : World} {cs r r2 : List Ch} {p : Nat} {st : Wt}
theorem WrComps_c (hT : Tabs W) {A : Option Addr} {n c : Nat} {xs : List Comp} (hb : (wComps st xs).1.length≤8796093022208) (hs : Sep W w cs) (hk : Pick cs (.wtr p 97 st) r) (hk2 : Pick r (.rd kComp (.slice A n c) xs) r2) :
    Calls P 97 #[.pointer (some ⟨p,0,none⟩),.slice A n c] w (Rt fun v w'=>v = .pointer (some ⟨p,0,none⟩)∧Sep W w' (.wtr p 97 (wComps st xs)::r)):=by
  have hs:=hs.pick hk;obtain ⟨rfl,hl⟩:=hs.rd_shape (.there hk2);unfold maxLen at hl;have hs:=hs.cpR (.there hk2)
  have hb0:=fold_le wComp_le xs (wNum st xs.length)
  unfold wComps at hb;refine enter Tryz.func97 Tryz.ntmps97 rfl rfl fun a (ha : Has a 29 [(0,_),(1,_)])=>?_;refine wp_seq_k fun K1 hK1=>?_;refine wp_region_lit ?_;refine pY ha (yAssign rfl) fun a ha=>?_;refine pZ ?_;refine hK1 _ _ ?_;refine wp_seq_k fun K2 hK2=>?_;refine wp_region_lit ?_;refine pY ha (yMove rfl) fun a ha=>?_;refine pY ha (yMove rfl) fun a ha=>?_;refine pY ha (yLenS Tryz.runUnderlying46 rfl) fun a ha=>?_;refine pC ha (nCall Tryz.call59 rfl) rfl (WrNum_c (st:=st) xs.length (by omega) hs (.there .here)) ?_;rintro v w ⟨rfl,hs⟩ a ha;refine pZ ?_;refine hK2 _ _ ?_;refine wp_seq_k fun K3 hK3=>?_;refine wp_seq_k fun K4 hK4=>?_;refine wp_region_lit ?_;refine pY ha (yMove rfl) fun a ha=>?_;refine pY ha (yLenS Tryz.runUnderlying46 rfl) fun a ha=>?_;refine pY ha (yMove rfl) fun a ha=>?_;refine pZ ?_;refine hK4 _ _ ?_;refine wp_block ?_;refine loopI (ι:=Nat) (fun i a w=>i≤xs.length∧Has a 29 [(0,.pointer (some ⟨p,0,none⟩)),(11,.slice A xs.length c),(12,.int .i64 xs.length),(13,.int .i64 i)]∧Sep W w (.wtr p 97 ((xs.take i).foldl wComp (wNum st xs.length))::.rd kComp (.slice A xs.length c) xs::r)) (fun i=>xs.length - i) (0) ?_ ?_
  · exact ⟨Nat.zero_le _,has4 ha rfl rfl rfl rfl,hs⟩
  · rintro i a w ⟨h1,ha,hs⟩;refine wp_seq_k fun K5 hK5=>?_;refine wp_region_lit ?_;refine pY ha (yLss rfl rfl) fun a ha=>?_;refine pZ ?_;refine hK5 _ _ ?_;refine wp_seq_k fun K6 hK6=>?_;refine cDec ha rfl (fun hc14=>?_) (fun hc14=>?_)
    · obtain ⟨x,hx⟩ : ∃ x,xs[i]? = some x:=⟨_,List.getElem?_eq_getElem (by omega)⟩;obtain ⟨hf1,hf2⟩:=fold_at (f:=wComp) wComp_le (s0:=wNum st xs.length) hx;generalize (xs.take i).foldl wComp (wNum st xs.length) = s0 at hs hf1 hf2;obtain ⟨b0,off,rfl,hs⟩:=hs.rd_comp (.there .here) hx
      have q1:=wNum_le s0 x.kind
      have q2:=wNum_le (wNum s0 x.kind) x.n
      have q3:=wText_le (wNum (wNum s0 x.kind) x.n) x.text
      have hf3 : (wText (wNum (wNum s0 x.kind) x.n) x.text).1.length≤8796093022208:=Nat.le_trans hf2 hb
      refine wp_skip ?_;refine hK6 _ _ ?_;refine wp_seq_k fun K7 hK7=>?_;refine wp_block ?_;refine wp_seq_k fun K8 hK8=>?_;refine wp_region_lit ?_;refine pY ha (yIndexA Tryz.runUnderlying46 Tryz.sizeOf45 rfl rfl (by omega) (by omega)) fun a ha=>?_;refine pY ha (yLoadRA Tryz.isAgg45 Tryz.sizeOf45 hs rfl pk0 rfl) fun a ha=>?_;refine pAlloc (zs:=[.int .i64 0,.int .i64 0,.string ⟨#[]⟩]) ha Tryz.zeroValue45 rfl hs rfl fun b w hs a ha=>?_;refine pStoreA ha Tryz.sizeOf45 hs rfl rfl pk0 rfl rfl rfl fun w hs=>?_;refine pZ ?_;refine hK8 _ _ ?_;refine dStart (fun w=>∃ rs,Sep W w (.blk b 45 [.int .i64 x.kind,.int .i64 x.n,.string x.text]::rs)) [9] 1023 511 (by kernel_rfl) (by kernel_rfl) rfl (⟨_,hs.drew.pick pk0⟩) ?_
      have hs:=Sep.drew hs
      generalize World.drew _ = w at hs ⊢;refine dP 0 1 rfl ha (fun _=>yMove rfl) fun a ha=>?_;refine dP 1 3 rfl ha (fun _=>yFieldA Tryz.runUnderlying45 rfl Tryz.sizeOf3 rfl rfl) fun a ha=>?_;refine dT 2 7 rfl ha (fun _ ⟨rs,hs⟩=>yLoadB Tryz.isAgg3 hs rfl pk0 rfl) (⟨_,hs.pick pk0⟩) fun a ha=>?_;refine dP 4 23 rfl ha (fun _=>yFieldA Tryz.runUnderlying45 rfl Tryz.sizeOf3 rfl rfl) fun a ha=>?_;refine dT 5 55 rfl ha (fun _ ⟨rs,hs⟩=>yLoadB Tryz.isAgg3 hs rfl pk0 rfl) (⟨_,hs.pick pk0⟩) fun a ha=>?_;refine dP 7 183 rfl ha (fun _=>yFieldA Tryz.runUnderlying45 rfl Tryz.sizeOf9 rfl rfl) fun a ha=>?_;refine dT 8 439 rfl ha (fun _ ⟨rs,hs⟩=>yLoadB Tryz.isAgg9 hs rfl pk0 rfl) (⟨_,hs.pick pk0⟩) fun a ha=>?_;refine dC 3 447 rfl (by kernel_rfl) rfl ha won0 (nCall Tryz.call59 rfl) rfl (WrNum_c (st:=s0) x.kind (by omega) hs pk2) ?_;rintro v w ⟨rfl,hs⟩;refine ⟨⟨_,hs.pick pk1⟩,fun a ha=>?_⟩;refine dC 6 511 rfl (by kernel_rfl) rfl ha won0 (nCall Tryz.call59 rfl) rfl (WrNum_c (st:=wNum s0 x.kind) x.n (by omega) hs pk0) ?_;rintro v w ⟨rfl,hs⟩;refine ⟨⟨_,hs.pick pk1⟩,fun a ha=>?_⟩;refine dCl 9 1023 rfl (by kernel_rfl) rfl ha won0 (nCall Tryz.call95 rfl) rfl (WrText_c (st:=wNum (wNum s0 x.kind) x.n) hT x.text (by omega) (by omega) hs pk0) ?_;rintro v w ⟨rfl,hs⟩ a ha;refine dZ (by kernel_rfl) ?_;refine hK7 _ _ ?_;refine wp_region_lit ?_;refine pY ha (yAddN rfl rfl ⟨by omega,by omega⟩) fun a ha=>?_;refine pY ha (yMove rfl) fun a ha=>?_;refine pZ ?_;refine ⟨i + 1,⟨by omega,has4 ha rfl rfl rfl rfl,?_⟩,by omega⟩;rw [hf1];exact hs.drop2.drop2
    · refine wp_exit ?_;refine hK3 _ _ ?_;refine wp_seq_k fun K9 hK9=>?_;refine wp_region_lit ?_;refine pY ha (yMove rfl) fun a ha=>?_;refine pY ha (yAssign rfl) fun a ha=>?_;refine pZ ?_;refine hK9 _ _ ?_;refine wp_ret ?_;show bodyPost Tryz.prog Tryz.f97 _ .ret _ _;refine ret1 rfl ha rfl ?_;rw [List.take_of_length_le (by omega)] at hs; exact ⟨rfl,hs.drop2⟩
theorem WrNods_c (hT : Tabs W) {A : Option Addr} {n c : Nat} {xs : List Nod} (hb : (wNods st xs).1.length≤8796093022208) (hs : Sep W w cs) (hk : Pick cs (.wtr p 97 st) r) (hk2 : Pick r (.rd kNod (.slice A n c) xs) r2) :
    Calls P 61 #[.pointer (some ⟨p,0,none⟩),.slice A n c] w (Rt fun v w'=>v = .pointer (some ⟨p,0,none⟩)∧Sep W w' (.wtr p 97 (wNods st xs)::r)):=by
  have hs:=hs.pick hk;obtain ⟨rfl,hl⟩:=hs.rd_shape (.there hk2);unfold maxLen at hl;have hs:=hs.cpR (.there hk2)
  have hb0:=fold_le wNod_le xs (wNum st xs.length)
  unfold wNods at hb;refine enter Tryz.func61 Tryz.ntmps61 rfl rfl fun a (ha : Has a 35 [(0,_),(1,_)])=>?_;refine wp_seq_k fun K1 hK1=>?_;refine wp_region_lit ?_;refine pY ha (yAssign rfl) fun a ha=>?_;refine pZ ?_;refine hK1 _ _ ?_;refine wp_seq_k fun K2 hK2=>?_;refine wp_region_lit ?_;refine pY ha (yMove rfl) fun a ha=>?_;refine pY ha (yMove rfl) fun a ha=>?_;refine pY ha (yLenS Tryz.runUnderlying24 rfl) fun a ha=>?_;refine pC ha (nCall Tryz.call59 rfl) rfl (WrNum_c (st:=st) xs.length (by omega) hs (.there .here)) ?_;rintro v w ⟨rfl,hs⟩ a ha;refine pZ ?_;refine hK2 _ _ ?_;refine wp_seq_k fun K3 hK3=>?_;refine wp_seq_k fun K4 hK4=>?_;refine wp_region_lit ?_;refine pY ha (yMove rfl) fun a ha=>?_;refine pY ha (yLenS Tryz.runUnderlying24 rfl) fun a ha=>?_;refine pY ha (yMove rfl) fun a ha=>?_;refine pZ ?_;refine hK4 _ _ ?_;refine wp_block ?_;refine loopI (ι:=Nat) (fun i a w=>i≤xs.length∧Has a 35 [(0,.pointer (some ⟨p,0,none⟩)),(11,.slice A xs.length c),(12,.int .i64 xs.length),(13,.int .i64 i)]∧Sep W w (.wtr p 97 ((xs.take i).foldl wNod (wNum st xs.length))::.rd kNod (.slice A xs.length c) xs::r)) (fun i=>xs.length - i) (0) ?_ ?_
  · exact ⟨Nat.zero_le _,has4 ha rfl rfl rfl rfl,hs⟩
  · rintro i a w ⟨h1,ha,hs⟩;refine wp_seq_k fun K5 hK5=>?_;refine wp_region_lit ?_;refine pY ha (yLss rfl rfl) fun a ha=>?_;refine pZ ?_;refine hK5 _ _ ?_;refine wp_seq_k fun K6 hK6=>?_;refine cDec ha rfl (fun hc14=>?_) (fun hc14=>?_)
    · obtain ⟨x,hx⟩ : ∃ x,xs[i]? = some x:=⟨_,List.getElem?_eq_getElem (by omega)⟩;obtain ⟨hf1,hf2⟩:=fold_at (f:=wNod) wNod_le (s0:=wNum st xs.length) hx;generalize (xs.take i).foldl wNod (wNum st xs.length) = s0 at hs hf1 hf2;obtain ⟨b0,off,rfl,hs⟩:=hs.rd_nod (.there .here) hx
      have q1:=wNum_le s0 x.id
      have q2:=wNum_le (wNum s0 x.id) x.parent
      have q3:=wText_le (wNum (wNum s0 x.id) x.parent) x.name
      have q4:=wFlag_le (wText (wNum (wNum s0 x.id) x.parent) x.name) x.dir
      have q5:=wText_le (wFlag (wText (wNum (wNum s0 x.id) x.parent) x.name) x.dir) x.text
      have hf3 : (wText (wFlag (wText (wNum (wNum s0 x.id) x.parent) x.name) x.dir) x.text).1.length≤8796093022208:=Nat.le_trans hf2 hb
      refine wp_skip ?_;refine hK6 _ _ ?_;refine wp_seq_k fun K7 hK7=>?_;refine wp_block ?_;refine wp_seq_k fun K8 hK8=>?_;refine wp_region_lit ?_;refine pY ha (yIndexA Tryz.runUnderlying24 Tryz.sizeOf50 rfl rfl (by omega) (by omega)) fun a ha=>?_;refine pY ha (yLoadRA Tryz.isAgg50 Tryz.sizeOf50 hs rfl pk0 rfl) fun a ha=>?_;refine pAlloc (zs:=[.int .i64 0,.int .i64 0,.string ⟨#[]⟩,.bool false,.string ⟨#[]⟩]) ha Tryz.zeroValue50 rfl hs rfl fun b w hs a ha=>?_;refine pStoreA ha Tryz.sizeOf50 hs rfl rfl pk0 rfl rfl rfl fun w hs=>?_;refine pZ ?_;refine hK8 _ _ ?_;refine dStart (fun w=>∃ rs,Sep W w (.blk b 50 [.int .i64 x.id,.int .i64 x.parent,.string x.name,.bool x.dir,.string x.text]::rs)) [15] 65535 32767 (by kernel_rfl) (by kernel_rfl) rfl (⟨_,hs.drew.pick pk0⟩) ?_
      have hs:=Sep.drew hs
      generalize World.drew _ = w at hs ⊢;refine dP 0 1 rfl ha (fun _=>yMove rfl) fun a ha=>?_;refine dP 1 3 rfl ha (fun _=>yFieldA Tryz.runUnderlying50 rfl Tryz.sizeOf3 rfl rfl) fun a ha=>?_;refine dT 2 7 rfl ha (fun _ ⟨rs,hs⟩=>yLoadB Tryz.isAgg3 hs rfl pk0 rfl) (⟨_,hs.pick pk0⟩) fun a ha=>?_;refine dP 4 23 rfl ha (fun _=>yFieldA Tryz.runUnderlying50 rfl Tryz.sizeOf3 rfl rfl) fun a ha=>?_;refine dT 5 55 rfl ha (fun _ ⟨rs,hs⟩=>yLoadB Tryz.isAgg3 hs rfl pk0 rfl) (⟨_,hs.pick pk0⟩) fun a ha=>?_;refine dP 7 183 rfl ha (fun _=>yFieldA Tryz.runUnderlying50 rfl Tryz.sizeOf9 rfl rfl) fun a ha=>?_;refine dT 8 439 rfl ha (fun _ ⟨rs,hs⟩=>yLoadB Tryz.isAgg9 hs rfl pk0 rfl) (⟨_,hs.pick pk0⟩) fun a ha=>?_;refine dP 10 1463 rfl ha (fun _=>yFieldA Tryz.runUnderlying50 rfl Tryz.sizeOf4 rfl rfl) fun a ha=>?_;refine dT 11 3511 rfl ha (fun _ ⟨rs,hs⟩=>yLoadB Tryz.isAgg4 hs rfl pk0 rfl) (⟨_,hs.pick pk0⟩) fun a ha=>?_;refine dP 13 11703 rfl ha (fun _=>yFieldA Tryz.runUnderlying50 rfl Tryz.sizeOf9 rfl rfl) fun a ha=>?_;refine dT 14 28087 rfl ha (fun _ ⟨rs,hs⟩=>yLoadB Tryz.isAgg9 hs rfl pk0 rfl) (⟨_,hs.pick pk0⟩) fun a ha=>?_;refine dC 3 28095 rfl (by kernel_rfl) rfl ha won0 (nCall Tryz.call59 rfl) rfl (WrNum_c (st:=s0) x.id (by omega) hs pk2) ?_;rintro v w ⟨rfl,hs⟩;refine ⟨⟨_,hs.pick pk1⟩,fun a ha=>?_⟩;refine dC 6 28159 rfl (by kernel_rfl) rfl ha won0 (nCall Tryz.call59 rfl) rfl (WrNum_c (st:=wNum s0 x.id) x.parent (by omega) hs pk0) ?_;rintro v w ⟨rfl,hs⟩;refine ⟨⟨_,hs.pick pk1⟩,fun a ha=>?_⟩;refine dC 9 28671 rfl (by kernel_rfl) rfl ha won0 (nCall Tryz.call95 rfl) rfl (WrText_c (st:=wNum (wNum s0 x.id) x.parent) hT x.name (by omega) (by omega) hs pk0) ?_;rintro v w ⟨rfl,hs⟩;refine ⟨⟨_,hs.pick pk1⟩,fun a ha=>?_⟩;refine dC 12 32767 rfl (by kernel_rfl) rfl ha won0 (nCall Tryz.call96 rfl) rfl (WrFlag_c (st:=wText (wNum (wNum s0 x.id) x.parent) x.name) x.dir (by omega) hs pk0) ?_;rintro v w ⟨rfl,hs⟩;refine ⟨⟨_,hs.pick pk1⟩,fun a ha=>?_⟩;refine dCl 15 65535 rfl (by kernel_rfl) rfl ha won0 (nCall Tryz.call95 rfl) rfl (WrText_c (st:=wFlag (wText (wNum (wNum s0 x.id) x.parent) x.name) x.dir) hT x.text (by omega) (by omega) hs pk0) ?_;rintro v w ⟨rfl,hs⟩ a ha;refine dZ (by kernel_rfl) ?_;refine hK7 _ _ ?_;refine wp_region_lit ?_;refine pY ha (yAddN rfl rfl ⟨by omega,by omega⟩) fun a ha=>?_;refine pY ha (yMove rfl) fun a ha=>?_;refine pZ ?_;refine ⟨i + 1,⟨by omega,has4 ha rfl rfl rfl rfl,?_⟩,by omega⟩;rw [hf1];exact hs.drop2.drop2
    · refine wp_exit ?_;refine hK3 _ _ ?_;refine wp_seq_k fun K9 hK9=>?_;refine wp_region_lit ?_;refine pY ha (yMove rfl) fun a ha=>?_;refine pY ha (yAssign rfl) fun a ha=>?_;refine pZ ?_;refine hK9 _ _ ?_;refine wp_ret ?_;show bodyPost Tryz.prog Tryz.f61 _ .ret _ _;refine ret1 rfl ha rfl ?_;rw [List.take_of_length_le (by omega)] at hs; exact ⟨rfl,hs.drop2⟩
theorem WrActns_c (hT : Tabs W) {A : Option Addr} {n c : Nat} {xs : List Actn} (hb : (wActns st xs).1.length≤8796093022208) (hs : Sep W w cs) (hk : Pick cs (.wtr p 97 st) r) (hk2 : Pick r (.rd kActn (.slice A n c) xs) r2) :
    Calls P 60 #[.pointer (some ⟨p,0,none⟩),.slice A n c] w (Rt fun v w'=>v = .pointer (some ⟨p,0,none⟩)∧Sep W w' (.wtr p 97 (wActns st xs)::r)):=by
  have hs:=hs.pick hk;obtain ⟨rfl,hl⟩:=hs.rd_shape (.there hk2);unfold maxLen at hl;have hs:=hs.cpR (.there hk2)
  have hb0:=fold_le wActn_le xs (wNum st xs.length)
  unfold wActns at hb;refine enter Tryz.func60 Tryz.ntmps60 rfl rfl fun a (ha : Has a 38 [(0,_),(1,_)])=>?_;refine wp_seq_k fun K1 hK1=>?_;refine wp_region_lit ?_;refine pY ha (yAssign rfl) fun a ha=>?_;refine pZ ?_;refine hK1 _ _ ?_;refine wp_seq_k fun K2 hK2=>?_;refine wp_region_lit ?_;refine pY ha (yMove rfl) fun a ha=>?_;refine pY ha (yMove rfl) fun a ha=>?_;refine pY ha (yLenS Tryz.runUnderlying22 rfl) fun a ha=>?_;refine pC ha (nCall Tryz.call59 rfl) rfl (WrNum_c (st:=st) xs.length (by omega) hs (.there .here)) ?_;rintro v w ⟨rfl,hs⟩ a ha;refine pZ ?_;refine hK2 _ _ ?_;refine wp_seq_k fun K3 hK3=>?_;refine wp_seq_k fun K4 hK4=>?_;refine wp_region_lit ?_;refine pY ha (yMove rfl) fun a ha=>?_;refine pY ha (yLenS Tryz.runUnderlying22 rfl) fun a ha=>?_;refine pY ha (yMove rfl) fun a ha=>?_;refine pZ ?_;refine hK4 _ _ ?_;refine wp_block ?_;refine loopI (ι:=Nat) (fun i a w=>i≤xs.length∧Has a 38 [(0,.pointer (some ⟨p,0,none⟩)),(11,.slice A xs.length c),(12,.int .i64 xs.length),(13,.int .i64 i)]∧Sep W w (.wtr p 97 ((xs.take i).foldl wActn (wNum st xs.length))::.rd kActn (.slice A xs.length c) xs::r)) (fun i=>xs.length - i) (0) ?_ ?_
  · exact ⟨Nat.zero_le _,has4 ha rfl rfl rfl rfl,hs⟩
  · rintro i a w ⟨h1,ha,hs⟩;refine wp_seq_k fun K5 hK5=>?_;refine wp_region_lit ?_;refine pY ha (yLss rfl rfl) fun a ha=>?_;refine pZ ?_;refine hK5 _ _ ?_;refine wp_seq_k fun K6 hK6=>?_;refine cDec ha rfl (fun hc14=>?_) (fun hc14=>?_)
    · obtain ⟨x,hx⟩ : ∃ x,xs[i]? = some x:=⟨_,List.getElem?_eq_getElem (by omega)⟩;obtain ⟨hf1,hf2⟩:=fold_at (f:=wActn) wActn_le (s0:=wNum st xs.length) hx;generalize (xs.take i).foldl wActn (wNum st xs.length) = s0 at hs hf1 hf2;obtain ⟨b0,off,A',n',c',rfl,hs⟩:=hs.rd_actn (.there .here) hx
      have q1:=wNum_le s0 x.kind
      have q2:=wNum_le (wNum s0 x.kind) x.id
      have q3:=wNum_le (wNum (wNum s0 x.kind) x.id) x.parent
      have q4:=wText_le (wNum (wNum (wNum s0 x.kind) x.id) x.parent) x.name
      have q5:=wFlag_le (wText (wNum (wNum (wNum s0 x.kind) x.id) x.parent) x.name) x.dir
      have q6:=wComps_le (wFlag (wText (wNum (wNum (wNum s0 x.kind) x.id) x.parent) x.name) x.dir) x.ops
      have hf3 : (wComps (wFlag (wText (wNum (wNum (wNum s0 x.kind) x.id) x.parent) x.name) x.dir) x.ops).1.length≤8796093022208:=Nat.le_trans hf2 hb
      refine wp_skip ?_;refine hK6 _ _ ?_;refine wp_seq_k fun K7 hK7=>?_;refine wp_block ?_;refine wp_seq_k fun K8 hK8=>?_;refine wp_region_lit ?_;refine pY ha (yIndexA Tryz.runUnderlying22 Tryz.sizeOf48 rfl rfl (by omega) (by omega)) fun a ha=>?_;refine pY ha (yLoadRA Tryz.isAgg48 Tryz.sizeOf48 hs rfl pk0 rfl) fun a ha=>?_;refine pAlloc (zs:=[.int .i64 0,.int .i64 0,.int .i64 0,.string ⟨#[]⟩,.bool false,.slice none 0 0]) ha Tryz.zeroValue48 rfl hs rfl fun b w hs a ha=>?_;refine pStoreA ha Tryz.sizeOf48 hs rfl rfl pk0 rfl rfl rfl fun w hs=>?_;refine pZ ?_;refine hK8 _ _ ?_;refine dStart (fun w=>∃ rs,Sep W w (.blk b 48 [.int .i64 x.kind,.int .i64 x.id,.int .i64 x.parent,.string x.name,.bool x.dir,.slice A' n' c']::rs)) [18] 524287 262143 (by kernel_rfl) (by kernel_rfl) rfl (⟨_,hs.drew.pick pk0⟩) ?_
      have hs:=Sep.drew hs
      generalize World.drew _ = w at hs ⊢;refine dP 0 1 rfl ha (fun _=>yMove rfl) fun a ha=>?_;refine dP 1 3 rfl ha (fun _=>yFieldA Tryz.runUnderlying48 rfl Tryz.sizeOf3 rfl rfl) fun a ha=>?_;refine dT 2 7 rfl ha (fun _ ⟨rs,hs⟩=>yLoadB Tryz.isAgg3 hs rfl pk0 rfl) (⟨_,hs.pick pk0⟩) fun a ha=>?_;refine dP 4 23 rfl ha (fun _=>yFieldA Tryz.runUnderlying48 rfl Tryz.sizeOf3 rfl rfl) fun a ha=>?_;refine dT 5 55 rfl ha (fun _ ⟨rs,hs⟩=>yLoadB Tryz.isAgg3 hs rfl pk0 rfl) (⟨_,hs.pick pk0⟩) fun a ha=>?_;refine dP 7 183 rfl ha (fun _=>yFieldA Tryz.runUnderlying48 rfl Tryz.sizeOf3 rfl rfl) fun a ha=>?_;refine dT 8 439 rfl ha (fun _ ⟨rs,hs⟩=>yLoadB Tryz.isAgg3 hs rfl pk0 rfl) (⟨_,hs.pick pk0⟩) fun a ha=>?_;refine dP 10 1463 rfl ha (fun _=>yFieldA Tryz.runUnderlying48 rfl Tryz.sizeOf9 rfl rfl) fun a ha=>?_;refine dT 11 3511 rfl ha (fun _ ⟨rs,hs⟩=>yLoadB Tryz.isAgg9 hs rfl pk0 rfl) (⟨_,hs.pick pk0⟩) fun a ha=>?_;refine dP 13 11703 rfl ha (fun _=>yFieldA Tryz.runUnderlying48 rfl Tryz.sizeOf4 rfl rfl) fun a ha=>?_;refine dT 14 28087 rfl ha (fun _ ⟨rs,hs⟩=>yLoadB Tryz.isAgg4 hs rfl pk0 rfl) (⟨_,hs.pick pk0⟩) fun a ha=>?_;refine dP 16 93623 rfl ha (fun _=>yFieldA Tryz.runUnderlying48 rfl Tryz.sizeOf46 rfl rfl) fun a ha=>?_;refine dT 17 224695 rfl ha (fun _ ⟨rs,hs⟩=>yLoadB Tryz.isAgg46 hs rfl pk0 rfl) (⟨_,hs.pick pk0⟩) fun a ha=>?_;refine dC 3 224703 rfl (by kernel_rfl) rfl ha won0 (nCall Tryz.call59 rfl) rfl (WrNum_c (st:=s0) x.kind (by omega) hs pk3) ?_;rintro v w ⟨rfl,hs⟩;refine ⟨⟨_,hs.pick pk1⟩,fun a ha=>?_⟩;refine dC 6 224767 rfl (by kernel_rfl) rfl ha won0 (nCall Tryz.call59 rfl) rfl (WrNum_c (st:=wNum s0 x.kind) x.id (by omega) hs pk0) ?_;rintro v w ⟨rfl,hs⟩;refine ⟨⟨_,hs.pick pk1⟩,fun a ha=>?_⟩;refine dC 9 225279 rfl (by kernel_rfl) rfl ha won0 (nCall Tryz.call59 rfl) rfl (WrNum_c (st:=wNum (wNum s0 x.kind) x.id) x.parent (by omega) hs pk0) ?_;rintro v w ⟨rfl,hs⟩;refine ⟨⟨_,hs.pick pk1⟩,fun a ha=>?_⟩;refine dC 12 229375 rfl (by kernel_rfl) rfl ha won0 (nCall Tryz.call95 rfl) rfl (WrText_c (st:=wNum (wNum (wNum s0 x.kind) x.id) x.parent) hT x.name (by omega) (by omega) hs pk0) ?_;rintro v w ⟨rfl,hs⟩;refine ⟨⟨_,hs.pick pk1⟩,fun a ha=>?_⟩;refine dC 15 262143 rfl (by kernel_rfl) rfl ha won0 (nCall Tryz.call96 rfl) rfl (WrFlag_c (st:=wText (wNum (wNum (wNum s0 x.kind) x.id) x.parent) x.name) x.dir (by omega) hs pk0) ?_;rintro v w ⟨rfl,hs⟩;refine ⟨⟨_,hs.pick pk1⟩,fun a ha=>?_⟩;refine dCl 18 524287 rfl (by kernel_rfl) rfl ha won0 (nCall Tryz.call97 rfl) rfl (WrComps_c (st:=wFlag (wText (wNum (wNum (wNum s0 x.kind) x.id) x.parent) x.name) x.dir) hT (by omega) hs pk0 pk2) ?_;rintro v w ⟨rfl,hs⟩ a ha;refine dZ (by kernel_rfl) ?_;refine hK7 _ _ ?_;refine wp_region_lit ?_;refine pY ha (yAddN rfl rfl ⟨by omega,by omega⟩) fun a ha=>?_;refine pY ha (yMove rfl) fun a ha=>?_;refine pZ ?_;refine ⟨i + 1,⟨by omega,has4 ha rfl rfl rfl rfl,?_⟩,by omega⟩;rw [hf1];exact hs.drop2.drop2.drop2
    · refine wp_exit ?_;refine hK3 _ _ ?_;refine wp_seq_k fun K9 hK9=>?_;refine wp_region_lit ?_;refine pY ha (yMove rfl) fun a ha=>?_;refine pY ha (yAssign rfl) fun a ha=>?_;refine pZ ?_;refine hK9 _ _ ?_;refine wp_ret ?_;show bodyPost Tryz.prog Tryz.f60 _ .ret _ _;refine ret1 rfl ha rfl ?_;rw [List.take_of_length_le (by omega)] at hs; exact ⟨rfl,hs.drop2⟩
end
end Go.Proofs.YtnlhbkaieoogfaaGreatDoor

set_option linter.unusedVariables false
set_option linter.unusedSimpArgs false
namespace Go.Proofs.YtnlhbkaieoogfaaGreatDoor
open Go.RowKit Go.Lib
theorem elOutL27 : ElemT Tryz.prog 27 5 1 1:=elemT_mk Tryz.underlying27 rfl (by kernel_rfl)
section
variable {W w : World} {cs r r2 : List Ch} {p : Nat} {st : Wt}
theorem OutText_c (s : ByteArray) (hsz : s.size≤140737488355328 / 8) (hb : (wText st s).1.length≤140737488355328) (hs : Sep W w cs) (hk : Pick cs (.wtr p 103 st) r) :
    Calls P 99 #[.pointer (some ⟨p,0,none⟩),.string s] w (Rt fun v w'=>v = .tuple #[]∧Sep W w' (.wtr p 103 (wText st s)::r)):=by
  obtain ⟨A,c,hs⟩:=hs.wtr_open hk
  have hlen : (wNum (st.1,st.2 || !okText s.data.toList) s.size).1.length + s.data.toList.length≤140737488355328:=by simpa [wText] using hb
  obtain ⟨bs,bad⟩:=st;simp only at hs hlen;refine enter Tryz.func99 Tryz.ntmps99 rfl rfl fun a (ha : Has a 29 [(0,_),(1,_)])=>?_;refine wp_seq_k fun K1 hK1=>?_;refine cutC (fun a w=>Has a 29 [(0,.pointer (some ⟨p,0,none⟩)),(1,.string s)]∧Sep W w (.blk p 103 [.slice A bs.length c,.bool (bad || !okText s.data.toList)]::.ol kU8 5 (.slice A bs.length c) bs::r)) ?_ ?_
  · refine wp_region_lit ?_;refine pY ha (yMove rfl) fun a ha=>?_;refine pY ha (yMove rfl) fun a ha=>?_;refine pY ha (yNilP rfl) fun a ha=>?_;refine pY ha (yFieldA Tryz.runUnderlying103 rfl Tryz.sizeOf4 rfl rfl) fun a ha=>?_;refine pY ha (yLoadB Tryz.isAgg4 hs rfl pk0 rfl) fun a ha=>?_;refine pY ha (yMove rfl) fun a ha=>?_;refine gSplit (t:=9) ha rfl (fun hg5=>?_) (fun hg5=>?_)
    · rw [hg5] at ha;refine gOn ha ?_;refine pY ha (yMove rfl) fun a ha=>?_;refine gOn ha ?_;refine pC ha (nCall Tryz.call55 rfl) rfl (RValid_c s hsz hs) ?_;rintro v w ⟨rfl,hs⟩ a ha;refine gOn ha ?_;refine pY ha (yNot rfl) fun a ha=>?_;refine pY ha (yPickF rfl rfl) fun a ha=>?_;refine pY ha (yNilP rfl) fun a ha=>?_;refine pY ha (yFieldA Tryz.runUnderlying103 rfl Tryz.sizeOf4 rfl rfl) fun a ha=>?_;refine pStore ha Tryz.sizeOf4 hs rfl rfl rfl rfl pk0 rfl fun w hs=>?_;refine pZ ⟨rfl,?_⟩;rw [hg5]; exact ⟨has2 ha rfl rfl,hs⟩
    · rw [hg5] at ha;refine gOff ha fun a ha=>?_;refine gOff ha fun a ha=>?_;refine gOff ha fun a ha=>?_;refine pY ha (yPickT rfl rfl) fun a ha=>?_;refine pY ha (yNilP rfl) fun a ha=>?_;refine pY ha (yFieldA Tryz.runUnderlying103 rfl Tryz.sizeOf4 rfl rfl) fun a ha=>?_;refine pStore ha Tryz.sizeOf4 hs rfl rfl rfl rfl pk0 rfl fun w hs=>?_;refine pZ ⟨rfl,?_⟩;rw [hg5]; exact ⟨has2 ha rfl rfl,hs⟩
  rintro a w ⟨ha,hs⟩;refine hK1 _ _ ?_;refine wp_seq_k fun K2 hK2=>?_;have hs:=hs.wtr_shut .here .here;refine wp_region_lit ?_;refine pY ha (yMove rfl) fun a ha=>?_;refine pY ha (yMove rfl) fun a ha=>?_;refine pY ha (yLenStr Tryz.runUnderlying9 rfl) fun a ha=>?_;refine pC ha (nCall Tryz.call63 rfl) rfl (OutNum_c (st:=(bs,bad || !okText s.data.toList)) s.size (by omega) hs .here) ?_;rintro v w ⟨rfl,hs⟩ a ha;refine pZ ?_;refine hK2 _ _ ?_;obtain ⟨A',c',hs⟩:=hs.wtr_open .here;refine wp_region_lit ?_;refine pY ha (yMove rfl) fun a ha=>?_;refine pY ha (yMove rfl) fun a ha=>?_;refine pY ha (yNilP rfl) fun a ha=>?_;refine pY ha (yFieldA Tryz.runUnderlying103 rfl Tryz.sizeOf27 rfl rfl) fun a ha=>?_;refine pY ha (yLoadB Tryz.isAgg27 hs rfl pk0 rfl) fun a ha=>?_;refine pY ha (yMove rfl) fun a ha=>?_;refine pAppStr ha elOutL27 Tryz.underlying9 rfl rfl hs pk1 (by (unfold maxLen; omega)) (by omega) rfl fun A c w hs a ha=>?_;refine pY ha (yNilP rfl) fun a ha=>?_;refine pY ha (yFieldA Tryz.runUnderlying103 rfl Tryz.sizeOf27 rfl rfl) fun a ha=>?_;refine pStore ha Tryz.sizeOf27 hs rfl rfl rfl rfl pk1 rfl fun w hs=>?_;refine pZ ?_;show bodyPost Tryz.prog Tryz.f99 _ .normal _ _;refine end0 rfl ha ?_;exact ⟨rfl,hs.wtr_shut .here .here⟩
theorem OutFlag_c (b : Bool) (hb : (wFlag st b).1.length≤140737488355328) (hs : Sep W w cs) (hk : Pick cs (.wtr p 103 st) r) :
    Calls P 100 #[.pointer (some ⟨p,0,none⟩),.bool b] w (Rt fun v w'=>v = .tuple #[]∧Sep W w' (.wtr p 103 (wFlag st b)::r)):=by
  unfold wFlag at hb ⊢;refine enter Tryz.func100 Tryz.ntmps100 rfl rfl fun a (ha : Has a 9 [(0,_),(1,_)])=>?_;refine wp_seq_k fun K1 hK1=>?_;refine wp_region_lit ?_;refine pY ha (yMove rfl) fun a ha=>?_;refine pZ ?_;refine hK1 _ _ ?_;refine cSplit ha rfl (fun hc4=>?_) (fun hc4=>?_)
  · subst hc4;refine wp_region_lit ?_;refine pY ha (yMove rfl) fun a ha=>?_;refine pC ha (nCall Tryz.call63 rfl) rfl (OutNum_c 1 hb hs hk) ?_;rintro v w ⟨rfl,hs⟩ a ha;refine pZ ?_;show bodyPost Tryz.prog Tryz.f100 _ .normal _ _;refine end0 rfl ha ?_;exact ⟨rfl,hs⟩
  · subst hc4;refine wp_region_lit ?_;refine pY ha (yMove rfl) fun a ha=>?_;refine pC ha (nCall Tryz.call63 rfl) rfl (OutNum_c 0 hb hs hk) ?_;rintro v w ⟨rfl,hs⟩ a ha;refine pZ ?_;show bodyPost Tryz.prog Tryz.f100 _ .normal _ _;refine end0 rfl ha ?_;exact ⟨rfl,hs⟩
theorem OutDone_c (hs : Sep W w cs) (hk : Pick cs (.wtr p 103 st) r) :
    Calls P 66 #[.pointer (some ⟨p,0,none⟩)] w (Rt fun v w'=>if st.2 = true then v = .tuple #[.slice none 0 0,.bool false]∧Sep W w' (.wtr p 103 st::r)
      else ∃ A c,v = .tuple #[.slice A st.1.length c,.bool true]∧Sep W w' (.ol kU8 5 (.slice A st.1.length c) st.1::r)):=by
  obtain ⟨A,c,hs⟩:=hs.wtr_open hk;refine enter Tryz.func66 Tryz.ntmps66 rfl rfl fun a (ha : Has a 12 [(0,_)])=>?_;refine wp_seq_k fun K1 hK1=>?_;refine wp_region_lit ?_;refine pY ha (yAssign rfl) fun a ha=>?_;refine pY ha (yAssign rfl) fun a ha=>?_;refine pZ ?_;refine hK1 _ _ ?_;refine wp_seq_k fun K2 hK2=>?_;refine wp_seq_k fun K3 hK3=>?_;refine wp_region_lit ?_;refine pY ha (yMove rfl) fun a ha=>?_;refine pY ha (yNilP rfl) fun a ha=>?_;refine pY ha (yFieldA Tryz.runUnderlying103 rfl Tryz.sizeOf4 rfl rfl) fun a ha=>?_;refine pY ha (yLoadB Tryz.isAgg4 hs rfl pk0 rfl) fun a ha=>?_;refine pZ ?_;refine hK3 _ _ ?_;refine cSplit ha rfl (fun hc7=>?_) (fun hc7=>?_)
  · refine wp_seq_k fun K4 hK4=>?_;refine wp_region_lit ?_;refine pY ha (yAssign rfl) fun a ha=>?_;refine pY ha (yAssign rfl) fun a ha=>?_;refine pZ ?_;refine hK4 _ _ ?_;refine wp_ret ?_;show bodyPost Tryz.prog Tryz.f66 _ .ret _ _;refine ret2 rfl ha rfl rfl ?_;rw [if_pos hc7]; exact ⟨rfl,hs.wtr_shut .here .here⟩
  · refine wp_skip ?_;refine hK2 _ _ ?_;refine wp_seq_k fun K5 hK5=>?_;refine wp_region_lit ?_;refine pY ha (yMove rfl) fun a ha=>?_;refine pY ha (yNilP rfl) fun a ha=>?_;refine pY ha (yFieldA Tryz.runUnderlying103 rfl Tryz.sizeOf27 rfl rfl) fun a ha=>?_;refine pY ha (yLoadB Tryz.isAgg27 hs rfl pk0 rfl) fun a ha=>?_;refine pY ha (yAssign rfl) fun a ha=>?_;refine pY ha (yAssign rfl) fun a ha=>?_;refine pZ ?_;refine hK5 _ _ ?_;refine wp_ret ?_;show bodyPost Tryz.prog Tryz.f66 _ .ret _ _;refine ret2 rfl ha rfl rfl ?_;rw [if_neg (by simp [hc7])]; exact ⟨A,c,rfl,hs.drop⟩
theorem OutComps_c {A : Option Addr} {n c : Nat} {xs : List Comp} (hb : (wComps st xs).1.length≤8796093022208) (hs : Sep W w cs) (hk : Pick cs (.wtr p 103 st) r) (hk2 : Pick r (.rd kComp (.slice A n c) xs) r2) :
    Calls P 101 #[.pointer (some ⟨p,0,none⟩),.slice A n c] w (Rt fun v w'=>v = .tuple #[]∧Sep W w' (.wtr p 103 (wComps st xs)::r)):=by
  have hs:=hs.pick hk;obtain ⟨rfl,hl⟩:=hs.rd_shape (.there hk2);unfold maxLen at hl;have hs:=hs.cpR (.there hk2)
  have hb0:=fold_le wComp_le xs (wNum st xs.length)
  unfold wComps at hb;refine enter Tryz.func101 Tryz.ntmps101 rfl rfl fun a (ha : Has a 36 [(0,_),(1,_)])=>?_;refine wp_seq_k fun K1 hK1=>?_;refine wp_region_lit ?_;refine pY ha (yMove rfl) fun a ha=>?_;refine pY ha (yMove rfl) fun a ha=>?_;refine pY ha (yLenS Tryz.runUnderlying46 rfl) fun a ha=>?_;refine pC ha (nCall Tryz.call63 rfl) rfl (OutNum_c (st:=st) xs.length (by omega) hs (.there .here)) ?_;rintro v w ⟨rfl,hs⟩ a ha;refine pZ ?_;refine hK1 _ _ ?_;refine wp_seq_k fun K2 hK2=>?_;refine wp_region_lit ?_;refine pY ha (yAssign rfl) fun a ha=>?_;refine pZ ?_;refine hK2 _ _ ?_;refine wp_block ?_;refine loopI (ι:=Nat) (fun i a w=>i≤xs.length∧Has a 36 [(0,.pointer (some ⟨p,0,none⟩)),(1,.slice A xs.length c),(4,.int .i64 i)]∧Sep W w (.wtr p 103 ((xs.take i).foldl wComp (wNum st xs.length))::.rd kComp (.slice A xs.length c) xs::r)) (fun i=>xs.length - i) (0) ?_ ?_
  · exact ⟨Nat.zero_le _,has3 ha rfl rfl rfl,hs⟩
  · rintro i a w ⟨h1,ha,hs⟩;refine wp_seq_k fun K3 hK3=>?_;refine wp_seq_k fun K4 hK4=>?_;refine wp_region_lit ?_;refine pY ha (yMove rfl) fun a ha=>?_;refine pY ha (yMove rfl) fun a ha=>?_;refine pY ha (yLenS Tryz.runUnderlying46 rfl) fun a ha=>?_;refine pY ha (yLss rfl rfl) fun a ha=>?_;refine pZ ?_;refine hK4 _ _ ?_;refine cDec ha rfl (fun hc12=>?_) (fun hc12=>?_)
    · obtain ⟨x,hx⟩ : ∃ x,xs[i]? = some x:=⟨_,List.getElem?_eq_getElem (by omega)⟩;obtain ⟨hf1,hf2⟩:=fold_at (f:=wComp) wComp_le (s0:=wNum st xs.length) hx;generalize (xs.take i).foldl wComp (wNum st xs.length) = s0 at hs hf1 hf2;obtain ⟨b0,off,rfl,hs⟩:=hs.rd_comp (.there .here) hx
      have q1:=wNum_le s0 x.kind
      have q2:=wNum_le (wNum s0 x.kind) x.n
      have q3:=wText_le (wNum (wNum s0 x.kind) x.n) x.text
      have hf3 : (wText (wNum (wNum s0 x.kind) x.n) x.text).1.length≤8796093022208:=Nat.le_trans hf2 hb
      refine wp_skip ?_;refine hK3 _ _ ?_;refine wp_seq_k fun K5 hK5=>?_;refine wp_block ?_;refine wp_seq_k fun K6 hK6=>?_;refine wp_region_lit ?_;refine pY ha (yMove rfl) fun a ha=>?_;refine pY ha (yMove rfl) fun a ha=>?_;refine pY ha (yMove rfl) fun a ha=>?_;refine pY ha (yIndexA Tryz.runUnderlying46 Tryz.sizeOf45 rfl rfl (by omega) (by omega)) fun a ha=>?_;refine pY ha (yFieldA Tryz.runUnderlying45 rfl Tryz.sizeOf3 rfl rfl) fun a ha=>?_;refine pY ha (yLoadR Tryz.isAgg3 hs rfl pk0 rfl) fun a ha=>?_;refine pC ha (nCall Tryz.call63 rfl) rfl (OutNum_c (st:=s0) x.kind (by omega) hs pk1) ?_;rintro v w ⟨rfl,hs⟩ a ha;refine pZ ?_;refine hK6 _ _ ?_;refine wp_seq_k fun K7 hK7=>?_;refine wp_region_lit ?_;refine pY ha (yMove rfl) fun a ha=>?_;refine pY ha (yMove rfl) fun a ha=>?_;refine pY ha (yMove rfl) fun a ha=>?_;refine pY ha (yIndexA Tryz.runUnderlying46 Tryz.sizeOf45 rfl rfl (by omega) (by omega)) fun a ha=>?_;refine pY ha (yFieldA Tryz.runUnderlying45 rfl Tryz.sizeOf3 rfl rfl) fun a ha=>?_;refine pY ha (yLoadR Tryz.isAgg3 hs rfl pk1 rfl) fun a ha=>?_;refine pC ha (nCall Tryz.call63 rfl) rfl (OutNum_c (st:=wNum s0 x.kind) x.n (by omega) hs pk0) ?_;rintro v w ⟨rfl,hs⟩ a ha;refine pZ ?_;refine hK7 _ _ ?_;refine wp_region_lit ?_;refine pY ha (yMove rfl) fun a ha=>?_;refine pY ha (yMove rfl) fun a ha=>?_;refine pY ha (yMove rfl) fun a ha=>?_;refine pY ha (yIndexA Tryz.runUnderlying46 Tryz.sizeOf45 rfl rfl (by omega) (by omega)) fun a ha=>?_;refine pY ha (yFieldA Tryz.runUnderlying45 rfl Tryz.sizeOf9 rfl rfl) fun a ha=>?_;refine pY ha (yLoadR Tryz.isAgg9 hs rfl pk1 rfl) fun a ha=>?_;refine pC ha (nCall Tryz.call99 rfl) rfl (OutText_c (st:=wNum (wNum s0 x.kind) x.n) x.text (by omega) (by omega) hs pk0) ?_;rintro v w ⟨rfl,hs⟩ a ha;refine pZ ?_;refine hK5 _ _ ?_;refine wp_region_lit ?_;refine pY ha (yMove rfl) fun a ha=>?_;refine pY ha (yAddN rfl rfl ⟨by omega,by omega⟩) fun a ha=>?_;refine pY ha (yAssign rfl) fun a ha=>?_;refine pZ ?_;refine ⟨i + 1,⟨by omega,has3 ha rfl rfl rfl,?_⟩,by omega⟩;rw [hf1];exact hs.drop2
    · refine wp_exit ?_;show bodyPost Tryz.prog Tryz.f101 _ .normal _ _;refine end0 rfl ha ?_;rw [List.take_of_length_le (by omega)] at hs; exact ⟨rfl,hs.drop2⟩
theorem OutNods_c {A : Option Addr} {n c : Nat} {xs : List Nod} (hb : (wNods st xs).1.length≤8796093022208) (hs : Sep W w cs) (hk : Pick cs (.wtr p 103 st) r) (hk2 : Pick r (.rd kNod (.slice A n c) xs) r2) :
    Calls P 65 #[.pointer (some ⟨p,0,none⟩),.slice A n c] w (Rt fun v w'=>v = .tuple #[]∧Sep W w' (.wtr p 103 (wNods st xs)::r)):=by
  have hs:=hs.pick hk;obtain ⟨rfl,hl⟩:=hs.rd_shape (.there hk2);unfold maxLen at hl;have hs:=hs.cpR (.there hk2)
  have hb0:=fold_le wNod_le xs (wNum st xs.length)
  unfold wNods at hb;refine enter Tryz.func65 Tryz.ntmps65 rfl rfl fun a (ha : Has a 50 [(0,_),(1,_)])=>?_;refine wp_seq_k fun K1 hK1=>?_;refine wp_region_lit ?_;refine pY ha (yMove rfl) fun a ha=>?_;refine pY ha (yMove rfl) fun a ha=>?_;refine pY ha (yLenS Tryz.runUnderlying24 rfl) fun a ha=>?_;refine pC ha (nCall Tryz.call63 rfl) rfl (OutNum_c (st:=st) xs.length (by omega) hs (.there .here)) ?_;rintro v w ⟨rfl,hs⟩ a ha;refine pZ ?_;refine hK1 _ _ ?_;refine wp_seq_k fun K2 hK2=>?_;refine wp_region_lit ?_;refine pY ha (yAssign rfl) fun a ha=>?_;refine pZ ?_;refine hK2 _ _ ?_;refine wp_block ?_;refine loopI (ι:=Nat) (fun i a w=>i≤xs.length∧Has a 50 [(0,.pointer (some ⟨p,0,none⟩)),(1,.slice A xs.length c),(4,.int .i64 i)]∧Sep W w (.wtr p 103 ((xs.take i).foldl wNod (wNum st xs.length))::.rd kNod (.slice A xs.length c) xs::r)) (fun i=>xs.length - i) (0) ?_ ?_
  · exact ⟨Nat.zero_le _,has3 ha rfl rfl rfl,hs⟩
  · rintro i a w ⟨h1,ha,hs⟩;refine wp_seq_k fun K3 hK3=>?_;refine wp_seq_k fun K4 hK4=>?_;refine wp_region_lit ?_;refine pY ha (yMove rfl) fun a ha=>?_;refine pY ha (yMove rfl) fun a ha=>?_;refine pY ha (yLenS Tryz.runUnderlying24 rfl) fun a ha=>?_;refine pY ha (yLss rfl rfl) fun a ha=>?_;refine pZ ?_;refine hK4 _ _ ?_;refine cDec ha rfl (fun hc12=>?_) (fun hc12=>?_)
    · obtain ⟨x,hx⟩ : ∃ x,xs[i]? = some x:=⟨_,List.getElem?_eq_getElem (by omega)⟩;obtain ⟨hf1,hf2⟩:=fold_at (f:=wNod) wNod_le (s0:=wNum st xs.length) hx;generalize (xs.take i).foldl wNod (wNum st xs.length) = s0 at hs hf1 hf2;obtain ⟨b0,off,rfl,hs⟩:=hs.rd_nod (.there .here) hx
      have q1:=wNum_le s0 x.id
      have q2:=wNum_le (wNum s0 x.id) x.parent
      have q3:=wText_le (wNum (wNum s0 x.id) x.parent) x.name
      have q4:=wFlag_le (wText (wNum (wNum s0 x.id) x.parent) x.name) x.dir
      have q5:=wText_le (wFlag (wText (wNum (wNum s0 x.id) x.parent) x.name) x.dir) x.text
      have hf3 : (wText (wFlag (wText (wNum (wNum s0 x.id) x.parent) x.name) x.dir) x.text).1.length≤8796093022208:=Nat.le_trans hf2 hb
      refine wp_skip ?_;refine hK3 _ _ ?_;refine wp_seq_k fun K5 hK5=>?_;refine wp_block ?_;refine wp_seq_k fun K6 hK6=>?_;refine wp_region_lit ?_;refine pY ha (yMove rfl) fun a ha=>?_;refine pY ha (yMove rfl) fun a ha=>?_;refine pY ha (yMove rfl) fun a ha=>?_;refine pY ha (yIndexA Tryz.runUnderlying24 Tryz.sizeOf50 rfl rfl (by omega) (by omega)) fun a ha=>?_;refine pY ha (yFieldA Tryz.runUnderlying50 rfl Tryz.sizeOf3 rfl rfl) fun a ha=>?_;refine pY ha (yLoadR Tryz.isAgg3 hs rfl pk0 rfl) fun a ha=>?_;refine pC ha (nCall Tryz.call63 rfl) rfl (OutNum_c (st:=s0) x.id (by omega) hs pk1) ?_;rintro v w ⟨rfl,hs⟩ a ha;refine pZ ?_;refine hK6 _ _ ?_;refine wp_seq_k fun K7 hK7=>?_;refine wp_region_lit ?_;refine pY ha (yMove rfl) fun a ha=>?_;refine pY ha (yMove rfl) fun a ha=>?_;refine pY ha (yMove rfl) fun a ha=>?_;refine pY ha (yIndexA Tryz.runUnderlying24 Tryz.sizeOf50 rfl rfl (by omega) (by omega)) fun a ha=>?_;refine pY ha (yFieldA Tryz.runUnderlying50 rfl Tryz.sizeOf3 rfl rfl) fun a ha=>?_;refine pY ha (yLoadR Tryz.isAgg3 hs rfl pk1 rfl) fun a ha=>?_;refine pC ha (nCall Tryz.call63 rfl) rfl (OutNum_c (st:=wNum s0 x.id) x.parent (by omega) hs pk0) ?_;rintro v w ⟨rfl,hs⟩ a ha;refine pZ ?_;refine hK7 _ _ ?_;refine wp_seq_k fun K8 hK8=>?_;refine wp_region_lit ?_;refine pY ha (yMove rfl) fun a ha=>?_;refine pY ha (yMove rfl) fun a ha=>?_;refine pY ha (yMove rfl) fun a ha=>?_;refine pY ha (yIndexA Tryz.runUnderlying24 Tryz.sizeOf50 rfl rfl (by omega) (by omega)) fun a ha=>?_;refine pY ha (yFieldA Tryz.runUnderlying50 rfl Tryz.sizeOf9 rfl rfl) fun a ha=>?_;refine pY ha (yLoadR Tryz.isAgg9 hs rfl pk1 rfl) fun a ha=>?_;refine pC ha (nCall Tryz.call99 rfl) rfl (OutText_c (st:=wNum (wNum s0 x.id) x.parent) x.name (by omega) (by omega) hs pk0) ?_;rintro v w ⟨rfl,hs⟩ a ha;refine pZ ?_;refine hK8 _ _ ?_;refine wp_seq_k fun K9 hK9=>?_;refine wp_region_lit ?_;refine pY ha (yMove rfl) fun a ha=>?_;refine pY ha (yMove rfl) fun a ha=>?_;refine pY ha (yMove rfl) fun a ha=>?_;refine pY ha (yIndexA Tryz.runUnderlying24 Tryz.sizeOf50 rfl rfl (by omega) (by omega)) fun a ha=>?_;refine pY ha (yFieldA Tryz.runUnderlying50 rfl Tryz.sizeOf4 rfl rfl) fun a ha=>?_;refine pY ha (yLoadR Tryz.isAgg4 hs rfl pk1 rfl) fun a ha=>?_;refine pC ha (nCall Tryz.call100 rfl) rfl (OutFlag_c (st:=wText (wNum (wNum s0 x.id) x.parent) x.name) x.dir (by omega) hs pk0) ?_;rintro v w ⟨rfl,hs⟩ a ha;refine pZ ?_;refine hK9 _ _ ?_;refine wp_region_lit ?_;refine pY ha (yMove rfl) fun a ha=>?_;refine pY ha (yMove rfl) fun a ha=>?_;refine pY ha (yMove rfl) fun a ha=>?_;refine pY ha (yIndexA Tryz.runUnderlying24 Tryz.sizeOf50 rfl rfl (by omega) (by omega)) fun a ha=>?_;refine pY ha (yFieldA Tryz.runUnderlying50 rfl Tryz.sizeOf9 rfl rfl) fun a ha=>?_;refine pY ha (yLoadR Tryz.isAgg9 hs rfl pk1 rfl) fun a ha=>?_;refine pC ha (nCall Tryz.call99 rfl) rfl (OutText_c (st:=wFlag (wText (wNum (wNum s0 x.id) x.parent) x.name) x.dir) x.text (by omega) (by omega) hs pk0) ?_;rintro v w ⟨rfl,hs⟩ a ha;refine pZ ?_;refine hK5 _ _ ?_
      refine wp_region_lit ?_;refine pY ha (yMove rfl) fun a ha=>?_;refine pY ha (yAddN rfl rfl ⟨by omega,by omega⟩) fun a ha=>?_;refine pY ha (yAssign rfl) fun a ha=>?_;refine pZ ?_;refine ⟨i + 1,⟨by omega,has3 ha rfl rfl rfl,?_⟩,by omega⟩;rw [hf1];exact hs.drop2
    · refine wp_exit ?_;show bodyPost Tryz.prog Tryz.f65 _ .normal _ _;refine end0 rfl ha ?_;rw [List.take_of_length_le (by omega)] at hs; exact ⟨rfl,hs.drop2⟩
theorem OutActns_c {A : Option Addr} {n c : Nat} {xs : List Actn} (hb : (wActns st xs).1.length≤8796093022208) (hs : Sep W w cs) (hk : Pick cs (.wtr p 103 st) r) (hk2 : Pick r (.rd kActn (.slice A n c) xs) r2) :
    Calls P 64 #[.pointer (some ⟨p,0,none⟩),.slice A n c] w (Rt fun v w'=>v = .tuple #[]∧Sep W w' (.wtr p 103 (wActns st xs)::r)):=by
  have hs:=hs.pick hk;obtain ⟨rfl,hl⟩:=hs.rd_shape (.there hk2);unfold maxLen at hl;have hs:=hs.cpR (.there hk2)
  have hb0:=fold_le wActn_le xs (wNum st xs.length)
  unfold wActns at hb;refine enter Tryz.func64 Tryz.ntmps64 rfl rfl fun a (ha : Has a 57 [(0,_),(1,_)])=>?_;refine wp_seq_k fun K1 hK1=>?_;refine wp_region_lit ?_;refine pY ha (yMove rfl) fun a ha=>?_;refine pY ha (yMove rfl) fun a ha=>?_;refine pY ha (yLenS Tryz.runUnderlying22 rfl) fun a ha=>?_;refine pC ha (nCall Tryz.call63 rfl) rfl (OutNum_c (st:=st) xs.length (by omega) hs (.there .here)) ?_;rintro v w ⟨rfl,hs⟩ a ha;refine pZ ?_;refine hK1 _ _ ?_;refine wp_seq_k fun K2 hK2=>?_;refine wp_region_lit ?_;refine pY ha (yAssign rfl) fun a ha=>?_;refine pZ ?_;refine hK2 _ _ ?_;refine wp_block ?_;refine loopI (ι:=Nat) (fun i a w=>i≤xs.length∧Has a 57 [(0,.pointer (some ⟨p,0,none⟩)),(1,.slice A xs.length c),(4,.int .i64 i)]∧Sep W w (.wtr p 103 ((xs.take i).foldl wActn (wNum st xs.length))::.rd kActn (.slice A xs.length c) xs::r)) (fun i=>xs.length - i) (0) ?_ ?_
  · exact ⟨Nat.zero_le _,has3 ha rfl rfl rfl,hs⟩
  · rintro i a w ⟨h1,ha,hs⟩;refine wp_seq_k fun K3 hK3=>?_;refine wp_seq_k fun K4 hK4=>?_;refine wp_region_lit ?_;refine pY ha (yMove rfl) fun a ha=>?_;refine pY ha (yMove rfl) fun a ha=>?_;refine pY ha (yLenS Tryz.runUnderlying22 rfl) fun a ha=>?_;refine pY ha (yLss rfl rfl) fun a ha=>?_;refine pZ ?_;refine hK4 _ _ ?_;refine cDec ha rfl (fun hc12=>?_) (fun hc12=>?_)
    · obtain ⟨x,hx⟩ : ∃ x,xs[i]? = some x:=⟨_,List.getElem?_eq_getElem (by omega)⟩;obtain ⟨hf1,hf2⟩:=fold_at (f:=wActn) wActn_le (s0:=wNum st xs.length) hx;generalize (xs.take i).foldl wActn (wNum st xs.length) = s0 at hs hf1 hf2;obtain ⟨b0,off,A',n',c',rfl,hs⟩:=hs.rd_actn (.there .here) hx
      have q1:=wNum_le s0 x.kind
      have q2:=wNum_le (wNum s0 x.kind) x.id
      have q3:=wNum_le (wNum (wNum s0 x.kind) x.id) x.parent
      have q4:=wText_le (wNum (wNum (wNum s0 x.kind) x.id) x.parent) x.name
      have q5:=wFlag_le (wText (wNum (wNum (wNum s0 x.kind) x.id) x.parent) x.name) x.dir
      have q6:=wComps_le (wFlag (wText (wNum (wNum (wNum s0 x.kind) x.id) x.parent) x.name) x.dir) x.ops
      have hf3 : (wComps (wFlag (wText (wNum (wNum (wNum s0 x.kind) x.id) x.parent) x.name) x.dir) x.ops).1.length≤8796093022208:=Nat.le_trans hf2 hb
      refine wp_skip ?_;refine hK3 _ _ ?_;refine wp_seq_k fun K5 hK5=>?_;refine wp_block ?_;refine wp_seq_k fun K6 hK6=>?_;refine wp_region_lit ?_;refine pY ha (yMove rfl) fun a ha=>?_;refine pY ha (yMove rfl) fun a ha=>?_;refine pY ha (yMove rfl) fun a ha=>?_;refine pY ha (yIndexA Tryz.runUnderlying22 Tryz.sizeOf48 rfl rfl (by omega) (by omega)) fun a ha=>?_;refine pY ha (yFieldA Tryz.runUnderlying48 rfl Tryz.sizeOf3 rfl rfl) fun a ha=>?_;refine pY ha (yLoadR Tryz.isAgg3 hs rfl pk0 rfl) fun a ha=>?_;refine pC ha (nCall Tryz.call63 rfl) rfl (OutNum_c (st:=s0) x.kind (by omega) hs pk2) ?_;rintro v w ⟨rfl,hs⟩ a ha;refine pZ ?_;refine hK6 _ _ ?_;refine wp_seq_k fun K7 hK7=>?_;refine wp_region_lit ?_;refine pY ha (yMove rfl) fun a ha=>?_;refine pY ha (yMove rfl) fun a ha=>?_;refine pY ha (yMove rfl) fun a ha=>?_;refine pY ha (yIndexA Tryz.runUnderlying22 Tryz.sizeOf48 rfl rfl (by omega) (by omega)) fun a ha=>?_;refine pY ha (yFieldA Tryz.runUnderlying48 rfl Tryz.sizeOf3 rfl rfl) fun a ha=>?_;refine pY ha (yLoadR Tryz.isAgg3 hs rfl pk1 rfl) fun a ha=>?_;refine pC ha (nCall Tryz.call63 rfl) rfl (OutNum_c (st:=wNum s0 x.kind) x.id (by omega) hs pk0) ?_;rintro v w ⟨rfl,hs⟩ a ha;refine pZ ?_;refine hK7 _ _ ?_;refine wp_seq_k fun K8 hK8=>?_;refine wp_region_lit ?_;refine pY ha (yMove rfl) fun a ha=>?_;refine pY ha (yMove rfl) fun a ha=>?_;refine pY ha (yMove rfl) fun a ha=>?_;refine pY ha (yIndexA Tryz.runUnderlying22 Tryz.sizeOf48 rfl rfl (by omega) (by omega)) fun a ha=>?_;refine pY ha (yFieldA Tryz.runUnderlying48 rfl Tryz.sizeOf3 rfl rfl) fun a ha=>?_;refine pY ha (yLoadR Tryz.isAgg3 hs rfl pk1 rfl) fun a ha=>?_;refine pC ha (nCall Tryz.call63 rfl) rfl (OutNum_c (st:=wNum (wNum s0 x.kind) x.id) x.parent (by omega) hs pk0) ?_;rintro v w ⟨rfl,hs⟩ a ha;refine pZ ?_;refine hK8 _ _ ?_;refine wp_seq_k fun K9 hK9=>?_;refine wp_region_lit ?_;refine pY ha (yMove rfl) fun a ha=>?_;refine pY ha (yMove rfl) fun a ha=>?_;refine pY ha (yMove rfl) fun a ha=>?_;refine pY ha (yIndexA Tryz.runUnderlying22 Tryz.sizeOf48 rfl rfl (by omega) (by omega)) fun a ha=>?_;refine pY ha (yFieldA Tryz.runUnderlying48 rfl Tryz.sizeOf9 rfl rfl) fun a ha=>?_;refine pY ha (yLoadR Tryz.isAgg9 hs rfl pk1 rfl) fun a ha=>?_;refine pC ha (nCall Tryz.call99 rfl) rfl (OutText_c (st:=wNum (wNum (wNum s0 x.kind) x.id) x.parent) x.name (by omega) (by omega) hs pk0) ?_;rintro v w ⟨rfl,hs⟩ a ha;refine pZ ?_;refine hK9 _ _ ?_;refine wp_seq_k fun K10 hK10=>?_;refine wp_region_lit ?_;refine pY ha (yMove rfl) fun a ha=>?_;refine pY ha (yMove rfl) fun a ha=>?_;refine pY ha (yMove rfl) fun a ha=>?_;refine pY ha (yIndexA Tryz.runUnderlying22 Tryz.sizeOf48 rfl rfl (by omega) (by omega)) fun a ha=>?_;refine pY ha (yFieldA Tryz.runUnderlying48 rfl Tryz.sizeOf4 rfl rfl) fun a ha=>?_;refine pY ha (yLoadR Tryz.isAgg4 hs rfl pk1 rfl) fun a ha=>?_;refine pC ha (nCall Tryz.call100 rfl) rfl (OutFlag_c (st:=wText (wNum (wNum (wNum s0 x.kind) x.id) x.parent) x.name) x.dir (by omega) hs pk0) ?_;rintro v w ⟨rfl,hs⟩ a ha
      refine pZ ?_;refine hK10 _ _ ?_;refine wp_region_lit ?_;refine pY ha (yMove rfl) fun a ha=>?_;refine pY ha (yMove rfl) fun a ha=>?_;refine pY ha (yMove rfl) fun a ha=>?_;refine pY ha (yIndexA Tryz.runUnderlying22 Tryz.sizeOf48 rfl rfl (by omega) (by omega)) fun a ha=>?_;refine pY ha (yFieldA Tryz.runUnderlying48 rfl Tryz.sizeOf46 rfl rfl) fun a ha=>?_;refine pY ha (yLoadR Tryz.isAgg46 hs rfl pk1 rfl) fun a ha=>?_;refine pC ha (nCall Tryz.call101 rfl) rfl (OutComps_c (st:=wFlag (wText (wNum (wNum (wNum s0 x.kind) x.id) x.parent) x.name) x.dir) (by omega) hs pk0 pk1) ?_;rintro v w ⟨rfl,hs⟩ a ha;refine pZ ?_;refine hK5 _ _ ?_;refine wp_region_lit ?_;refine pY ha (yMove rfl) fun a ha=>?_;refine pY ha (yAddN rfl rfl ⟨by omega,by omega⟩) fun a ha=>?_;refine pY ha (yAssign rfl) fun a ha=>?_;refine pZ ?_;refine ⟨i + 1,⟨by omega,has3 ha rfl rfl rfl,?_⟩,by omega⟩;rw [hf1];exact hs.drop2.drop2
    · refine wp_exit ?_;show bodyPost Tryz.prog Tryz.f64 _ .normal _ _;refine end0 rfl ha ?_;rw [List.take_of_length_le (by omega)] at hs; exact ⟨rfl,hs.drop2⟩
end
end Go.Proofs.YtnlhbkaieoogfaaGreatDoor

set_option linter.unusedVariables false
set_option linter.unusedSimpArgs false
namespace Go.Proofs.YtnlhbkaieoogfaaGreatDoor
open Go.RowKit Go.Lib
theorem bslWgt93_2_0_1 {w : World} {l : List (Nat × Value)} {T : TypeId} {x0 x1 : Operand} {v0 : Value} (h0 : ev l x0 = some v0) {v1 : Value} (h1 : ev l x1 = some v1) (o0 : v0.cells = #[v0]:=by rfl) (o1 : v1.cells = #[v1]:=by rfl) : Mk Tryz.prog w l (.buildSlice 93 2 #[(0,x0),(1,x1)]) T 3 2 [v0,v1]:=fun ρ o h ho _=>by
  have hm:=mkvs (P:=Tryz.prog) [v0,v1] w Tryz.runUnderlying93 Tryz.sizeOf3 Tryz.zeroValue3 (by intro v hv; simp at hv; rcases hv with rfl | rfl <;> assumption) (by simp) (by simp)
  unfold execOp; rw [ho];simp only [h _ _ h0,h _ _ h1,List.map_toArray,List.map_cons,List.map_nil];simp only [List.length_cons,List.length_nil,prt] at hm
  simp at hm
  simp [hm]
theorem bslWgt93_3_0_1_2 {w : World} {l : List (Nat × Value)} {T : TypeId} {x0 x1 x2 : Operand} {v0 : Value} (h0 : ev l x0 = some v0) {v1 : Value} (h1 : ev l x1 = some v1) {v2 : Value} (h2 : ev l x2 = some v2) (o0 : v0.cells = #[v0]:=by rfl) (o1 : v1.cells = #[v1]:=by rfl) (o2 : v2.cells = #[v2]:=by rfl) : Mk Tryz.prog w l (.buildSlice 93 3 #[(0,x0),(1,x1),(2,x2)]) T 3 3 [v0,v1,v2]:=fun ρ o h ho _=>by
  have hm:=mkvs (P:=Tryz.prog) [v0,v1,v2] w Tryz.runUnderlying93 Tryz.sizeOf3 Tryz.zeroValue3 (by intro v hv; simp at hv; rcases hv with rfl | rfl | rfl <;> assumption) (by simp) (by simp)
  unfold execOp; rw [ho];simp only [h _ _ h0,h _ _ h1,h _ _ h2,List.map_toArray,List.map_cons,List.map_nil];simp only [List.length_cons,List.length_nil,prt] at hm
  simp at hm
  simp [hm]
def sumL : List Int→Int
  | []=>0
  | m::r=>m + sumL r
theorem sumL_append (a b : List Int) : sumL (a++b) = sumL a + sumL b:=by
  induction a with
  | nil=>simp [sumL]
  | cons x r ih=>simp only [List.cons_append,sumL,ih]; omega
theorem sumL_nonneg {l : List Int} (h : ∀ m ∈ l,0≤m) : 0≤sumL l:=by
  induction l with
  | nil=>simp [sumL]
  | cons x r ih=>
    have:=h x (by simp)
    have:=ih (fun m hm=>h m (by simp [hm]))
    simp only [sumL]; omega
theorem sumL_at {l : List Int} {i : Nat} {m : Int} (h : ∀ m ∈ l,0≤m) (hm : l[i]? = some m) : sumL (l.take (i + 1)) = sumL (l.take i) + m∧sumL (l.take i) + m≤sumL l:=by
  obtain ⟨hi,rfl⟩:=List.getElem?_eq_some_iff.1 hm
  have e : sumL (l.take (i + 1)) = sumL (l.take i) + l[i]:=by
    rw [List.take_add_one,List.getElem?_eq_getElem hi,sumL_append]; simp [sumL]
  refine ⟨e,?_⟩;rw [← e]
  have h1 : sumL l = sumL (l.take (i + 1)) + sumL (l.drop (i + 1)):=by rw [← sumL_append,List.take_append_drop]
  have h2:=sumL_nonneg (l:=l.drop (i + 1)) (fun m hm=>h m (List.mem_of_mem_drop hm))
  omega
def tComps (l : List Comp) : Nat:=(l.map fun x=>x.text.size + 2).sum
def tNods (l : List Nod) : Nat:=(l.map fun x=>x.name.size + x.text.size + 3).sum
def tActns (l : List Actn) : Nat:=(l.map fun x=>x.name.size + tComps x.ops + 3).sum
theorem sum_at {α : Type} {f : α→Nat} {l : List α} {i : Nat} {x : α} (hx : l[i]? = some x) : ((l.take (i + 1)).map f).sum = ((l.take i).map f).sum + f x:=by
  obtain ⟨hi,rfl⟩:=List.getElem?_eq_some_iff.1 hx;rw [List.take_add_one,List.getElem?_eq_getElem hi];simp only [List.map_append,List.sum_append,Option.toList,List.map_cons,List.map_nil,List.sum_cons,List.sum_nil,Nat.add_zero]
section
variable {W w : World} {cs r r2 : List Ch}
theorem min_nat (m : Nat) {s : Int} (h : 0≤s) : ∃ q : Nat,min ((m : Int) + s) 1099511627776 = q∧q≤1099511627776∧(q < 1099511627776→(q : Int) = m + s):=by
  rcases Int.le_total ((m : Int) + s) 1099511627776 with h1 | h1
  · refine ⟨((m : Int) + s).toNat,?_,?_,fun _=>?_⟩
    · rw [Int.min_eq_left h1]; omega
    · omega
    · omega
  · refine ⟨1099511627776,Int.min_eq_right h1,Nat.le_refl _,fun h=>absurd h (Nat.lt_irrefl _)⟩
theorem Sum_c {A : Option Addr} {n c m : Nat} {xs : List Int} (hm : m≤1099511627776) (hx0 : ∀ x ∈ xs,0≤x) (hs : Sep W w cs) (hk : Pick cs (.rd kInt (.slice A n c) xs) r) :
    Calls P 19 #[.int .i64 m,.slice A n c] w (Rt fun v w'=>v = .int .i64 (min (m + sumL xs) 1099511627776)∧Sep W w' cs):=by
  obtain ⟨rfl,hl⟩:=hs.rd_shape hk;unfold maxLen at hl;have hs:=hs.cpR hk;refine enter Tryz.func19 Tryz.ntmps19 rfl rfl fun a (ha : Has a 30 [(0,_),(1,_)])=>?_;refine wp_seq_k fun K1 hK1=>?_;refine wp_region_lit ?_;refine pY ha (yAssign rfl) fun a ha=>?_;refine pZ ?_;refine hK1 _ _ ?_;refine wp_seq_k fun K2 hK2=>?_;refine wp_seq_k fun K3 hK3=>?_;refine wp_region_lit ?_;refine pY ha (yAssign rfl) fun a ha=>?_;refine pZ ?_;refine hK3 _ _ ?_;refine wp_block ?_;refine loopI (ι:=Nat) (fun i a w=>i≤xs.length∧(m : Int) + sumL (xs.take i)≤1099511627776∧0≤sumL (xs.take i)∧Has a 30 [(0,.int .i64 (m + sumL (xs.take i))),(1,.slice A xs.length c),(5,.int .i64 i)]∧Sep W w (.rd kInt (.slice A xs.length c) xs::cs)) (fun i=>xs.length - i) (0) ?_ ?_
  · exact ⟨Nat.zero_le _,by simp [sumL]; omega,by simp [sumL],has3 ha (by simp only [List.take_zero,sumL,Int.add_zero]; rfl) rfl rfl,hs⟩
  · rintro i a w ⟨h1,h2,h3,ha,hs⟩;refine wp_seq_k fun K4 hK4=>?_;refine wp_seq_k fun K5 hK5=>?_;refine wp_region_lit ?_;refine pY ha (yMove rfl) fun a ha=>?_;refine pY ha (yMove rfl) fun a ha=>?_;refine pY ha (yLenS Tryz.runUnderlying93 rfl) fun a ha=>?_;refine pY ha (yLss rfl rfl) fun a ha=>?_;refine pZ ?_;refine hK5 _ _ ?_;refine cDec ha rfl (fun hc9=>?_) (fun hc9=>?_)
    · obtain ⟨x,hx⟩ : ∃ x,xs[i]? = some x:=⟨_,List.getElem?_eq_getElem (by omega)⟩
      have hx1:=hx0 x (List.mem_of_getElem? hx)
      obtain ⟨hf1,hf2⟩:=sumL_at hx0 hx;obtain ⟨b0,off,rfl,hxr,hs⟩:=hs.rd_int .here hx;refine wp_skip ?_;refine hK4 _ _ ?_;refine wp_seq_k fun K6 hK6=>?_;refine wp_block ?_;refine wp_seq_k fun K7 hK7=>?_;refine wp_seq_k fun K8 hK8=>?_;refine wp_region_lit ?_;refine pY ha (yMove rfl) fun a ha=>?_;refine pY ha (yGtr rfl rfl) fun a ha=>?_;refine pY ha (yMove rfl) fun a ha=>?_;refine gDec (t:=14) ha rfl (fun hg2 hp2=>?_) (fun hg2 hp2=>?_)
      · rw [hg2] at ha;refine gOn ha ?_;refine pY ha (yMove rfl) fun a ha=>?_;refine gOn ha ?_;refine pY ha (yMove rfl) fun a ha=>?_;refine gOn ha ?_;refine pY ha (yIndexA Tryz.runUnderlying93 Tryz.sizeOf3 rfl rfl (by omega) (by omega)) fun a ha=>?_;refine gOn ha ?_;refine pY ha (yLoadR0 Tryz.isAgg3 hs rfl pk0 rfl) fun a ha=>?_;refine gOn ha ?_;refine pY ha (yMove rfl) fun a ha=>?_;refine gOn ha ?_;refine pY ha (ySubN rfl rfl ⟨by omega,by omega⟩) fun a ha=>?_;refine gOn ha ?_;refine pY ha (yGtr rfl rfl) fun a ha=>?_;refine pY ha (yPickF rfl rfl) fun a ha=>?_;refine pZ ?_;refine hK8 _ _ ?_;refine cDec ha rfl (fun hc22=>?_) (fun hc22=>?_)
        · refine wp_seq_k fun K9 hK9=>?_;refine wp_region_lit ?_;refine pY ha (yAssign rfl) fun a ha=>?_;refine pZ ?_;refine hK9 _ _ ?_;refine wp_ret ?_;show bodyPost Tryz.prog Tryz.f19 _ .ret _ _;refine ret1 rfl ha rfl ?_;exact ⟨by congr 1; omega,hs.drop.drop⟩
        · refine wp_skip ?_;refine hK7 _ _ ?_;refine wp_region_lit ?_;refine pY ha (yMove rfl) fun a ha=>?_;refine pY ha (yMove rfl) fun a ha=>?_;refine pY ha (yMove rfl) fun a ha=>?_;refine pY ha (yIndexA Tryz.runUnderlying93 Tryz.sizeOf3 rfl rfl (by omega) (by omega)) fun a ha=>?_;refine pY ha (yLoadR0 Tryz.isAgg3 hs rfl pk0 rfl) fun a ha=>?_;refine pY ha (yAddN rfl rfl ⟨by omega,by omega⟩) fun a ha=>?_;refine pY ha (yAssign rfl) fun a ha=>?_;refine pZ ?_;refine hK6 _ _ ?_;refine wp_region_lit ?_;refine pY ha (yMove rfl) fun a ha=>?_;refine pY ha (yAddN rfl rfl ⟨by omega,by omega⟩) fun a ha=>?_;refine pY ha (yAssign rfl) fun a ha=>?_;refine pZ ?_;refine ⟨i + 1,⟨by omega,by rw [hf1]; omega,by rw [hf1]; omega,has3 ha (by rw [hf1,← Int.add_assoc]; rfl) rfl rfl,hs.drop⟩,by omega⟩
      · exact absurd hp2 (by omega)
    · refine wp_exit ?_;refine hK2 _ _ ?_;refine wp_seq_k fun K10 hK10=>?_;refine wp_region_lit ?_;refine pY ha (yMove rfl) fun a ha=>?_;refine pY ha (yAssign rfl) fun a ha=>?_;refine pZ ?_;refine hK10 _ _ ?_;refine wp_ret ?_;show bodyPost Tryz.prog Tryz.f19 _ .ret _ _;refine ret1 rfl ha rfl ?_;rw [List.take_of_length_le (by omega)] at ha h2 ⊢; exact ⟨by congr 1; omega,hs.drop⟩
theorem kInt_flat : kInt.Flat (fun x=>.int .i64 x):=⟨rfl,fun _ _ _ h=>h.1⟩
theorem Sep.ints_rd {b : Nat} {T : TypeId} {xs : List Int} (hs : Sep W w cs) (hk : Pick cs (.blk b T (xs.map (.int .i64))) r) (hr : ∀ x ∈ xs,-9223372036854775808≤x∧x≤9223372036854775807) (hn : xs.length≤1000:=by simp) :
    Sep W w (.rd kInt (.slice (some ⟨b,0,none⟩) xs.length xs.length) xs::r):=by
  refine Sep.ol_rd (Sep.flat_ol (E:=T) (xs:=xs) (cap:=xs.length) kInt_flat hs hk (fun x hx Z=>⟨rfl,(hr x hx).1,(hr x hx).2⟩) (Nat.le_refl _) (by unfold maxLen; omega) (by simp) (fun i x hx=>by rw [List.getElem?_map,hx]; rfl)) .here
theorem WgComps_c {A : Option Addr} {n c lim : Nat} {xs : List Comp} (hlim : lim≤100000) (hsz : ∀ x ∈ xs,x.text.size≤9223372036854775807) (hs : Sep W w cs) (hk : Pick cs (.rd kComp (.slice A n c) xs) r) :
    Calls P 58 #[.slice A n c,.int .i64 lim] w (Rt fun v w'=>∃ R : Nat,v = .int .i64 R∧R≤1099511627776∧(R≤lim→tComps xs = R)∧Sep W w' cs):=by
  obtain ⟨rfl,hl⟩:=hs.rd_shape hk;unfold maxLen at hl;have hs:=hs.cpR hk;refine enter Tryz.func58 Tryz.ntmps58 rfl rfl fun a (ha : Has a 28 [(0,_),(1,_)])=>?_;refine wp_seq_k fun K1 hK1=>?_;refine wp_region_lit ?_;refine pY ha (yAssign rfl) fun a ha=>?_;refine pZ ?_;refine hK1 _ _ ?_;refine wp_seq_k fun K2 hK2=>?_;refine wp_region_lit ?_;refine pY ha (yAssign rfl) fun a ha=>?_;refine pZ ?_;refine hK2 _ _ ?_;refine wp_seq_k fun K3 hK3=>?_;refine wp_seq_k fun K4 hK4=>?_;refine wp_region_lit ?_;refine pY ha (yAssign rfl) fun a ha=>?_;refine pZ ?_;refine hK4 _ _ ?_;refine wp_block ?_;refine loopI (ι:=Nat × Nat) (fun i a w=>i.1≤xs.length∧i.2≤1099511627776∧(i.2≤lim→tComps (xs.take i.1) = i.2)∧Has a 28 [(0,.slice A xs.length c),(1,.int .i64 lim),(5,.int .i64 i.2),(6,.int .i64 i.1)]∧Sep W w (.rd kComp (.slice A xs.length c) xs::cs)) (fun i=>xs.length - i.1) ((0,0)) ?_ ?_
  · exact ⟨Nat.zero_le _,by simp,fun _=>rfl,has4 ha rfl rfl rfl rfl,hs⟩
  · rintro i a w ⟨h1,h2,h3,ha,hs⟩;obtain ⟨i,m⟩:=i; simp only at h1 h2 h3 ha hs;refine wp_seq_k fun K5 hK5=>?_;refine wp_seq_k fun K6 hK6=>?_;refine wp_region_lit ?_;refine pY ha (yMove rfl) fun a ha=>?_;refine pY ha (yMove rfl) fun a ha=>?_;refine pY ha (yLenS Tryz.runUnderlying46 rfl) fun a ha=>?_;refine pY ha (yLss rfl rfl) fun a ha=>?_;refine pY ha (yMove rfl) fun a ha=>?_;refine gDec (t:=11) ha rfl (fun hg4 hp4=>?_) (fun hg4 hp4=>?_)
    · rw [hg4] at ha;refine gOff ha fun a ha=>?_;refine gOff ha fun a ha=>?_;refine gOff ha fun a ha=>?_;refine pY ha (yPickF rfl rfl) fun a ha=>?_;refine pZ ?_;refine hK6 _ _ ?_;refine cFalse ha rfl ?_;refine wp_exit ?_;refine hK3 _ _ ?_;refine wp_seq_k fun K7 hK7=>?_;refine wp_region_lit ?_;refine pY ha (yMove rfl) fun a ha=>?_;refine pY ha (yAssign rfl) fun a ha=>?_;refine pZ ?_;refine hK7 _ _ ?_;refine wp_ret ?_;show bodyPost Tryz.prog Tryz.f58 _ .ret _ _;refine ret1 rfl ha rfl ?_;exact ⟨m,rfl,h2,fun hle=>by rw [← h3 hle,List.take_of_length_le (by have:=of_decide_eq_false hg4; omega)],hs.drop⟩
    · rw [hg4] at ha
      have hp4:=of_decide_eq_true hg4
      refine gOn ha ?_;refine pY ha (yMove rfl) fun a ha=>?_;refine gOn ha ?_;refine pY ha (yMove rfl) fun a ha=>?_;refine gOn ha ?_;refine pY ha (yLeq rfl rfl) fun a ha=>?_;refine pY ha (yPickT rfl rfl) fun a ha=>?_;refine pZ ?_;refine hK6 _ _ ?_;refine cDec ha rfl (fun hc15=>?_) (fun hc15=>?_)
      · obtain ⟨x,hx⟩ : ∃ x,xs[i]? = some x:=⟨_,List.getElem?_eq_getElem (by omega)⟩
        have hxz:=hsz x (List.mem_of_getElem? hx)
        have hsum:=sum_at (f:=fun x=>x.text.size + 2) hx
        obtain ⟨b0,off,rfl,hs⟩:=hs.rd_comp .here hx;refine wp_skip ?_;refine hK5 _ _ ?_;refine wp_seq_k fun K8 hK8=>?_;refine wp_block ?_;refine wp_region_lit ?_;refine pY ha (yMove rfl) fun a ha=>?_;refine pY ha (yMove rfl) fun a ha=>?_;refine pY ha (yMove rfl) fun a ha=>?_;refine pY ha (yIndexA Tryz.runUnderlying46 Tryz.sizeOf45 rfl rfl (by omega) (by omega)) fun a ha=>?_;refine pY ha (yFieldA Tryz.runUnderlying45 rfl Tryz.sizeOf9 rfl rfl) fun a ha=>?_;refine pY ha (yLoadR Tryz.isAgg9 hs rfl pk0 rfl) fun a ha=>?_;refine pY ha (yLenStr Tryz.runUnderlying9 rfl) fun a ha=>?_;refine pMake ha (bslWgt93_2_0_1 rfl rfl) hs rfl fun b w hs a ha=>?_;have hs:=hs.ints_rd (xs:=[(x.text.size : Int),2]) .here (by intro y hy; simp at hy; omega);refine pC ha (nCall Tryz.call19 rfl) rfl (Sum_c h2 (by intro y hy; simp at hy; omega) hs .here) ?_;rintro v w ⟨rfl,hs⟩ a ha;refine pY ha (yAssign rfl) fun a ha=>?_;refine pZ ?_;refine hK8 _ _ ?_;refine wp_region_lit ?_;refine pY ha (yMove rfl) fun a ha=>?_;refine pY ha (yAddN rfl rfl ⟨by omega,by omega⟩) fun a ha=>?_;refine pY ha (yAssign rfl) fun a ha=>?_;refine pZ ?_;obtain ⟨q,hq,hq1,hq2⟩:=min_nat m (s:=sumL [(x.text.size : Int),2]) (by simp only [sumL]; omega);rw [hq] at ha;refine ⟨(i + 1,q),⟨by simp only; omega,hq1,?_,has4 ha rfl rfl rfl rfl,hs.drop.drop⟩,by simp only; omega⟩;intro hle;simp only at hle ⊢
        have hq3:=hq2 (by omega)
        simp only [sumL] at hq3;unfold tComps at h3 ⊢;rw [hsum,h3 (by omega)]
        omega
      · refine wp_exit ?_;refine hK3 _ _ ?_;refine wp_seq_k fun K9 hK9=>?_;refine wp_region_lit ?_;refine pY ha (yMove rfl) fun a ha=>?_;refine pY ha (yAssign rfl) fun a ha=>?_;refine pZ ?_;refine hK9 _ _ ?_;refine wp_ret ?_;show bodyPost Tryz.prog Tryz.f58 _ .ret _ _;refine ret1 rfl ha rfl ?_;exact ⟨m,rfl,h2,fun hle=>absurd hle (by omega),hs.drop⟩
theorem WgNods_c {A : Option Addr} {n c lim : Nat} {xs : List Nod} (hlim : lim≤100000) (hsz : ∀ x ∈ xs,x.name.size≤9223372036854775807∧x.text.size≤9223372036854775807) (hs : Sep W w cs) (hk : Pick cs (.rd kNod (.slice A n c) xs) r) :
    Calls P 21 #[.slice A n c,.int .i64 lim] w (Rt fun v w'=>∃ R : Nat,v = .int .i64 R∧R≤1099511627776∧(R≤lim→tNods xs = R)∧Sep W w' cs):=by
  obtain ⟨rfl,hl⟩:=hs.rd_shape hk;unfold maxLen at hl;have hs:=hs.cpR hk;refine enter Tryz.func21 Tryz.ntmps21 rfl rfl fun a (ha : Has a 34 [(0,_),(1,_)])=>?_;refine wp_seq_k fun K1 hK1=>?_;refine wp_region_lit ?_;refine pY ha (yAssign rfl) fun a ha=>?_;refine pZ ?_;refine hK1 _ _ ?_;refine wp_seq_k fun K2 hK2=>?_;refine wp_region_lit ?_;refine pY ha (yAssign rfl) fun a ha=>?_;refine pZ ?_;refine hK2 _ _ ?_;refine wp_seq_k fun K3 hK3=>?_;refine wp_seq_k fun K4 hK4=>?_;refine wp_region_lit ?_;refine pY ha (yAssign rfl) fun a ha=>?_;refine pZ ?_;refine hK4 _ _ ?_;refine wp_block ?_;refine loopI (ι:=Nat × Nat) (fun i a w=>i.1≤xs.length∧i.2≤1099511627776∧(i.2≤lim→tNods (xs.take i.1) = i.2)∧Has a 34 [(0,.slice A xs.length c),(1,.int .i64 lim),(5,.int .i64 i.2),(6,.int .i64 i.1)]∧Sep W w (.rd kNod (.slice A xs.length c) xs::cs)) (fun i=>xs.length - i.1) ((0,0)) ?_ ?_
  · exact ⟨Nat.zero_le _,by simp,fun _=>rfl,has4 ha rfl rfl rfl rfl,hs⟩
  · rintro i a w ⟨h1,h2,h3,ha,hs⟩;obtain ⟨i,m⟩:=i; simp only at h1 h2 h3 ha hs;refine wp_seq_k fun K5 hK5=>?_;refine wp_seq_k fun K6 hK6=>?_;refine wp_region_lit ?_;refine pY ha (yMove rfl) fun a ha=>?_;refine pY ha (yMove rfl) fun a ha=>?_;refine pY ha (yLenS Tryz.runUnderlying24 rfl) fun a ha=>?_;refine pY ha (yLss rfl rfl) fun a ha=>?_;refine pY ha (yMove rfl) fun a ha=>?_;refine gDec (t:=11) ha rfl (fun hg4 hp4=>?_) (fun hg4 hp4=>?_)
    · rw [hg4] at ha;refine gOff ha fun a ha=>?_;refine gOff ha fun a ha=>?_;refine gOff ha fun a ha=>?_;refine pY ha (yPickF rfl rfl) fun a ha=>?_;refine pZ ?_;refine hK6 _ _ ?_;refine cFalse ha rfl ?_;refine wp_exit ?_;refine hK3 _ _ ?_;refine wp_seq_k fun K7 hK7=>?_;refine wp_region_lit ?_;refine pY ha (yMove rfl) fun a ha=>?_;refine pY ha (yAssign rfl) fun a ha=>?_;refine pZ ?_;refine hK7 _ _ ?_;refine wp_ret ?_;show bodyPost Tryz.prog Tryz.f21 _ .ret _ _;refine ret1 rfl ha rfl ?_;exact ⟨m,rfl,h2,fun hle=>by rw [← h3 hle,List.take_of_length_le (by have:=of_decide_eq_false hg4; omega)],hs.drop⟩
    · rw [hg4] at ha
      have hp4:=of_decide_eq_true hg4
      refine gOn ha ?_;refine pY ha (yMove rfl) fun a ha=>?_;refine gOn ha ?_;refine pY ha (yMove rfl) fun a ha=>?_;refine gOn ha ?_;refine pY ha (yLeq rfl rfl) fun a ha=>?_;refine pY ha (yPickT rfl rfl) fun a ha=>?_;refine pZ ?_;refine hK6 _ _ ?_;refine cDec ha rfl (fun hc15=>?_) (fun hc15=>?_)
      · obtain ⟨x,hx⟩ : ∃ x,xs[i]? = some x:=⟨_,List.getElem?_eq_getElem (by omega)⟩
        have hxz:=hsz x (List.mem_of_getElem? hx)
        have hsum:=sum_at (f:=fun x=>x.name.size + x.text.size + 3) hx
        obtain ⟨b0,off,rfl,hs⟩:=hs.rd_nod .here hx;refine wp_skip ?_;refine hK5 _ _ ?_;refine wp_seq_k fun K8 hK8=>?_;refine wp_block ?_;refine dStart (fun w=>Sep W w _) [13,14] 65535 8190 (by kernel_rfl) (by kernel_rfl) rfl (hs.drew) ?_
        have hs:=Sep.drew hs
        generalize World.drew _ = w at hs ⊢;refine dP 0 1 rfl ha (fun _=>yMove rfl) fun a ha=>?_;refine dP 1 3 rfl ha (fun _=>yMove rfl) fun a ha=>?_;refine dP 2 7 rfl ha (fun _=>yMove rfl) fun a ha=>?_;refine dP 3 15 rfl ha (fun _=>yIndexA Tryz.runUnderlying24 Tryz.sizeOf50 rfl rfl (by omega) (by omega)) fun a ha=>?_;refine dP 4 31 rfl ha (fun _=>yFieldA Tryz.runUnderlying50 rfl Tryz.sizeOf9 rfl rfl) fun a ha=>?_;refine dT 5 63 rfl ha (fun _ hs=>yLoadR Tryz.isAgg9 hs rfl pk0 rfl) (hs) fun a ha=>?_;refine dP 6 127 rfl ha (fun _=>yLenStr Tryz.runUnderlying9 rfl) fun a ha=>?_;refine dP 7 255 rfl ha (fun _=>yMove rfl) fun a ha=>?_;refine dP 8 511 rfl ha (fun _=>yMove rfl) fun a ha=>?_;refine dP 9 1023 rfl ha (fun _=>yIndexA Tryz.runUnderlying24 Tryz.sizeOf50 rfl rfl (by omega) (by omega)) fun a ha=>?_;refine dP 10 2047 rfl ha (fun _=>yFieldA Tryz.runUnderlying50 rfl Tryz.sizeOf9 rfl rfl) fun a ha=>?_;refine dT 11 4095 rfl ha (fun _ hs=>yLoadR Tryz.isAgg9 hs rfl pk0 rfl) (hs) fun a ha=>?_;refine dP 12 8191 rfl ha (fun _=>yLenStr Tryz.runUnderlying9 rfl) fun a ha=>?_;refine dMakel 13 16383 rfl (by kernel_rfl) rfl ha won0 (bslWgt93_3_0_1_2 rfl rfl rfl) hs rfl fun b w hs a ha=>?_;have hs:=hs.ints_rd (xs:=[(x.name.size : Int),(x.text.size : Int),3]) .here (by intro y hy; simp at hy; omega);refine dCl 14 32767 rfl (by kernel_rfl) rfl ha won0 (nCall Tryz.call19 rfl) rfl (Sum_c h2 (by intro y hy; simp at hy; omega) hs .here) ?_;rintro v w ⟨rfl,hs⟩ a ha;refine dP 15 65535 rfl ha (fun _=>yAssign rfl) fun a ha=>?_;refine dZ (by kernel_rfl) ?_;refine hK8 _ _ ?_;refine wp_region_lit ?_;refine pY ha (yMove rfl) fun a ha=>?_;refine pY ha (yAddN rfl rfl ⟨by omega,by omega⟩) fun a ha=>?_;refine pY ha (yAssign rfl) fun a ha=>?_;refine pZ ?_;obtain ⟨q,hq,hq1,hq2⟩:=min_nat m (s:=sumL [(x.name.size : Int),(x.text.size : Int),3]) (by simp only [sumL]; omega);rw [hq] at ha;refine ⟨(i + 1,q),⟨by simp only; omega,hq1,?_,has4 ha rfl rfl rfl rfl,hs.drop.drop⟩,by simp only; omega⟩;intro hle;simp only at hle ⊢
        have hq3:=hq2 (by omega)
        simp only [sumL] at hq3;unfold tNods at h3 ⊢;rw [hsum,h3 (by omega)]
        omega
      · refine wp_exit ?_;refine hK3 _ _ ?_;refine wp_seq_k fun K9 hK9=>?_;refine wp_region_lit ?_;refine pY ha (yMove rfl) fun a ha=>?_;refine pY ha (yAssign rfl) fun a ha=>?_;refine pZ ?_;refine hK9 _ _ ?_;refine wp_ret ?_;show bodyPost Tryz.prog Tryz.f21 _ .ret _ _;refine ret1 rfl ha rfl ?_;exact ⟨m,rfl,h2,fun hle=>absurd hle (by omega),hs.drop⟩
theorem WgActns_c {A : Option Addr} {n c lim : Nat} {xs : List Actn} (hlim : lim≤100000) (hsz : ∀ x ∈ xs,x.name.size≤9223372036854775807∧∀ y ∈ x.ops,y.text.size≤9223372036854775807) (hs : Sep W w cs) (hk : Pick cs (.rd kActn (.slice A n c) xs) r) :
    Calls P 20 #[.slice A n c,.int .i64 lim] w (Rt fun v w'=>∃ R : Nat,v = .int .i64 R∧R≤1099511627776∧(R≤lim→tActns xs = R)∧Sep W w' cs):=by
  obtain ⟨rfl,hl⟩:=hs.rd_shape hk;unfold maxLen at hl;have hs:=hs.cpR hk;refine enter Tryz.func20 Tryz.ntmps20 rfl rfl fun a (ha : Has a 35 [(0,_),(1,_)])=>?_;refine wp_seq_k fun K1 hK1=>?_;refine wp_region_lit ?_;refine pY ha (yAssign rfl) fun a ha=>?_;refine pZ ?_;refine hK1 _ _ ?_;refine wp_seq_k fun K2 hK2=>?_;refine wp_region_lit ?_;refine pY ha (yAssign rfl) fun a ha=>?_;refine pZ ?_;refine hK2 _ _ ?_;refine wp_seq_k fun K3 hK3=>?_;refine wp_seq_k fun K4 hK4=>?_;refine wp_region_lit ?_;refine pY ha (yAssign rfl) fun a ha=>?_;refine pZ ?_;refine hK4 _ _ ?_;refine wp_block ?_;refine loopI (ι:=Nat × Nat) (fun i a w=>i.1≤xs.length∧i.2≤1099511627776∧(i.2≤lim→tActns (xs.take i.1) = i.2)∧Has a 35 [(0,.slice A xs.length c),(1,.int .i64 lim),(5,.int .i64 i.2),(6,.int .i64 i.1)]∧Sep W w (.rd kActn (.slice A xs.length c) xs::cs)) (fun i=>xs.length - i.1) ((0,0)) ?_ ?_
  · exact ⟨Nat.zero_le _,by simp,fun _=>rfl,has4 ha rfl rfl rfl rfl,hs⟩
  · rintro i a w ⟨h1,h2,h3,ha,hs⟩;obtain ⟨i,m⟩:=i; simp only at h1 h2 h3 ha hs;refine wp_seq_k fun K5 hK5=>?_;refine wp_seq_k fun K6 hK6=>?_;refine wp_region_lit ?_;refine pY ha (yMove rfl) fun a ha=>?_;refine pY ha (yMove rfl) fun a ha=>?_;refine pY ha (yLenS Tryz.runUnderlying22 rfl) fun a ha=>?_;refine pY ha (yLss rfl rfl) fun a ha=>?_;refine pY ha (yMove rfl) fun a ha=>?_;refine gDec (t:=11) ha rfl (fun hg4 hp4=>?_) (fun hg4 hp4=>?_)
    · rw [hg4] at ha;refine gOff ha fun a ha=>?_;refine gOff ha fun a ha=>?_;refine gOff ha fun a ha=>?_;refine pY ha (yPickF rfl rfl) fun a ha=>?_;refine pZ ?_;refine hK6 _ _ ?_;refine cFalse ha rfl ?_;refine wp_exit ?_;refine hK3 _ _ ?_;refine wp_seq_k fun K7 hK7=>?_;refine wp_region_lit ?_;refine pY ha (yMove rfl) fun a ha=>?_;refine pY ha (yAssign rfl) fun a ha=>?_;refine pZ ?_;refine hK7 _ _ ?_;refine wp_ret ?_;show bodyPost Tryz.prog Tryz.f20 _ .ret _ _;refine ret1 rfl ha rfl ?_;exact ⟨m,rfl,h2,fun hle=>by rw [← h3 hle,List.take_of_length_le (by have:=of_decide_eq_false hg4; omega)],hs.drop⟩
    · rw [hg4] at ha
      have hp4:=of_decide_eq_true hg4
      refine gOn ha ?_;refine pY ha (yMove rfl) fun a ha=>?_;refine gOn ha ?_;refine pY ha (yMove rfl) fun a ha=>?_;refine gOn ha ?_;refine pY ha (yLeq rfl rfl) fun a ha=>?_;refine pY ha (yPickT rfl rfl) fun a ha=>?_;refine pZ ?_;refine hK6 _ _ ?_;refine cDec ha rfl (fun hc15=>?_) (fun hc15=>?_)
      · obtain ⟨x,hx⟩ : ∃ x,xs[i]? = some x:=⟨_,List.getElem?_eq_getElem (by omega)⟩
        have hxz:=hsz x (List.mem_of_getElem? hx)
        have hsum:=sum_at (f:=fun x=>x.name.size + tComps x.ops + 3) hx
        obtain ⟨b0,off,A',n',c',rfl,hs⟩:=hs.rd_actn .here hx;refine wp_skip ?_;refine hK5 _ _ ?_;refine wp_seq_k fun K8 hK8=>?_;refine wp_block ?_;refine dStart (fun w=>Sep W w _) [14,15] 131071 16382 (by kernel_rfl) (by kernel_rfl) rfl (hs.drew) ?_
        have hs:=Sep.drew hs
        generalize World.drew _ = w at hs ⊢;refine dP 0 1 rfl ha (fun _=>yMove rfl) fun a ha=>?_;refine dP 1 3 rfl ha (fun _=>yMove rfl) fun a ha=>?_;refine dP 2 7 rfl ha (fun _=>yMove rfl) fun a ha=>?_;refine dP 3 15 rfl ha (fun _=>yIndexA Tryz.runUnderlying22 Tryz.sizeOf48 rfl rfl (by omega) (by omega)) fun a ha=>?_;refine dP 4 31 rfl ha (fun _=>yFieldA Tryz.runUnderlying48 rfl Tryz.sizeOf9 rfl rfl) fun a ha=>?_;refine dT 5 63 rfl ha (fun _ hs=>yLoadR Tryz.isAgg9 hs rfl pk0 rfl) (hs) fun a ha=>?_;refine dP 6 127 rfl ha (fun _=>yLenStr Tryz.runUnderlying9 rfl) fun a ha=>?_;refine dP 7 255 rfl ha (fun _=>yMove rfl) fun a ha=>?_;refine dP 8 511 rfl ha (fun _=>yMove rfl) fun a ha=>?_;refine dP 9 1023 rfl ha (fun _=>yIndexA Tryz.runUnderlying22 Tryz.sizeOf48 rfl rfl (by omega) (by omega)) fun a ha=>?_;refine dP 10 2047 rfl ha (fun _=>yFieldA Tryz.runUnderlying48 rfl Tryz.sizeOf46 rfl rfl) fun a ha=>?_;refine dT 11 4095 rfl ha (fun _ hs=>yLoadR Tryz.isAgg46 hs rfl pk0 rfl) (hs) fun a ha=>?_;refine dP 12 8191 rfl ha (fun _=>yMove rfl) fun a ha=>?_;refine dC 13 16383 rfl (by kernel_rfl) rfl ha won0 (nCall Tryz.call58 rfl) rfl (WgComps_c hlim hxz.2 hs (.there .here)) ?_;rintro v w ⟨R,rfl,hR1,hR2,hs⟩;refine ⟨hs,fun a ha=>?_⟩;refine dMakel 14 32767 rfl (by kernel_rfl) rfl ha won0 (bslWgt93_3_0_1_2 rfl rfl rfl) hs rfl fun b w hs a ha=>?_;have hs:=hs.ints_rd (xs:=[(x.name.size : Int),(R : Int),3]) .here (by intro y hy; simp at hy; omega);refine dCl 15 65535 rfl (by kernel_rfl) rfl ha won0 (nCall Tryz.call19 rfl) rfl (Sum_c h2 (by intro y hy; simp at hy; omega) hs .here) ?_;rintro v w ⟨rfl,hs⟩ a ha;refine dP 16 131071 rfl ha (fun _=>yAssign rfl) fun a ha=>?_;refine dZ (by kernel_rfl) ?_;refine hK8 _ _ ?_;refine wp_region_lit ?_;refine pY ha (yMove rfl) fun a ha=>?_;refine pY ha (yAddN rfl rfl ⟨by omega,by omega⟩) fun a ha=>?_;refine pY ha (yAssign rfl) fun a ha=>?_;refine pZ ?_;obtain ⟨q,hq,hq1,hq2⟩:=min_nat m (s:=sumL [(x.name.size : Int),(R : Int),3]) (by simp only [sumL]; omega);rw [hq] at ha;refine ⟨(i + 1,q),⟨by simp only; omega,hq1,?_,has4 ha rfl rfl rfl rfl,hs.drop.drop.drop⟩,by simp only; omega⟩;intro hle;simp only at hle ⊢
        have hq3:=hq2 (by omega)
        simp only [sumL] at hq3;unfold tActns at h3 ⊢;rw [hsum,h3 (by omega)];rw [hR2 (by omega)]; omega
      · refine wp_exit ?_;refine hK3 _ _ ?_;refine wp_seq_k fun K9 hK9=>?_;refine wp_region_lit ?_;refine pY ha (yMove rfl) fun a ha=>?_;refine pY ha (yAssign rfl) fun a ha=>?_;refine pZ ?_;refine hK9 _ _ ?_;refine wp_ret ?_;show bodyPost Tryz.prog Tryz.f20 _ .ret _ _;refine ret1 rfl ha rfl ?_;exact ⟨m,rfl,h2,fun hle=>absurd hle (by omega),hs.drop⟩
end
end Go.Proofs.YtnlhbkaieoogfaaGreatDoor

set_option linter.unusedVariables false
set_option linter.unusedSimpArgs false
namespace Go.Proofs.YtnlhbkaieoogfaaGreatDoor
open Go.RowKit Go.Lib
structure Item where
  kind : Int
  n : Int
  text : ByteArray
  flag : Bool
  comps : List Comp
  acts : List Actn
  nods : List Nod
theorem wNum_len (st : Wt) (n : Int) : (wNum st n).1.length≤st.1.length + 6:=by have:=put_six n; simp [wNum]; omega
theorem wText_len (st : Wt) (s : ByteArray) : (wText st s).1.length≤st.1.length + 6 + s.size:=by
  have h:=wNum_len (st.1,st.2 || !okText s.data.toList) s.size
  have : s.data.toList.length = s.size:=by simp
  simp only [wText,List.length_append]; simp only at h; omega
theorem fold_len {α : Type} {f : Wt→α→Wt} {g : α→Nat} {k : Nat} (h : ∀ st x,(f st x).1.length≤st.1.length + k * g x) : ∀ (l : List α) (st : Wt),(l.foldl f st).1.length≤st.1.length + k * (l.map g).sum
  | [],st=>by simp
  | x::r,st=>by
    have h1:=h st x; have h2:=fold_len h r (f st x)
    simp only [List.foldl_cons,List.map_cons,List.sum_cons,Nat.mul_add]; omega
theorem wComp_len (st : Wt) (x : Comp) : (wComp st x).1.length≤st.1.length + 9 * (x.text.size + 2):=by
  have h1:=wNum_len st x.kind; have h2:=wNum_len (wNum st x.kind) x.n; have h3:=wText_len (wNum (wNum st x.kind) x.n) x.text
  unfold wComp; omega
theorem wComps_len (st : Wt) (l : List Comp) : (wComps st l).1.length≤st.1.length + 6 + 9 * tComps l:=by
  have h1:=wNum_len st l.length; have h2:=fold_len (g:=fun x : Comp=>x.text.size + 2) wComp_len l (wNum st l.length)
  unfold wComps tComps; omega
theorem wNod_len (st : Wt) (x : Nod) : (wNod st x).1.length≤st.1.length + 12 * (x.name.size + x.text.size + 3):=by
  have h1:=wNum_len st x.id; have h2:=wNum_len (wNum st x.id) x.parent; have h3:=wText_len (wNum (wNum st x.id) x.parent) x.name
  have h4:=wNum_len (wText (wNum (wNum st x.id) x.parent) x.name) (if x.dir then 1 else 0); have h5:=wText_len (wFlag (wText (wNum (wNum st x.id) x.parent) x.name) x.dir) x.text
  unfold wNod; unfold wFlag at h5 ⊢; omega
theorem wNods_len (st : Wt) (l : List Nod) : (wNods st l).1.length≤st.1.length + 6 + 12 * tNods l:=by
  have h1:=wNum_len st l.length; have h2:=fold_len (g:=fun x : Nod=>x.name.size + x.text.size + 3) wNod_len l (wNum st l.length)
  unfold wNods tNods; omega
theorem wActn_len (st : Wt) (x : Actn) : (wActn st x).1.length≤st.1.length + 12 * (x.name.size + tComps x.ops + 3):=by
  have h1:=wNum_len st x.kind; have h2:=wNum_len (wNum st x.kind) x.id; have h3:=wNum_len (wNum (wNum st x.kind) x.id) x.parent; have h4:=wText_len (wNum (wNum (wNum st x.kind) x.id) x.parent) x.name
  have h5:=wNum_len (wText (wNum (wNum (wNum st x.kind) x.id) x.parent) x.name) (if x.dir then 1 else 0); have h6:=wComps_len (wFlag (wText (wNum (wNum (wNum st x.kind) x.id) x.parent) x.name) x.dir) x.ops
  unfold wActn; unfold wFlag at h6 ⊢; omega
theorem wActns_len (st : Wt) (l : List Actn) : (wActns st l).1.length≤st.1.length + 6 + 12 * tActns l:=by
  have h1:=wNum_len st l.length; have h2:=fold_len (g:=fun x : Actn=>x.name.size + tComps x.ops + 3) wActn_len l (wNum st l.length)
  unfold wActns tActns; omega
section
variable {W w : World} {cs r r2 : List Ch} {p : Nat} {st : Wt}
end
end Go.Proofs.YtnlhbkaieoogfaaGreatDoor

