/- A part of the proof of SnapBack (part 2 of 4): the words and the walks. -/
import Derived.Test.YtldgdjilchnceaaGreatDoorKSnpA
import Derived.Laws.StructEq
import Derived.Maps.RangeRun
import Derived.MapKept
import Derived.Laws.IdiomStrings
import Derived.Laws.AppendOwn
set_option linter.unusedVariables false
set_option linter.unusedSimpArgs false
namespace Go.Proofs.YtldgdjilchnceaaGreatDoor
open Go.RowKit Go.Lib
def wComp (st : Wt) (x : Comp) : Wt:=wText (wNum (wNum st x.kind) x.n) x.text
def wComps (st : Wt) (l : List Comp) : Wt:=l.foldl wComp (wNum st l.length)
def wNod (st : Wt) (x : Nod) : Wt:=wText (wFlag (wText (wNum (wNum st x.id) x.parent) x.name) x.dir) x.text
def wNods (st : Wt) (l : List Nod) : Wt:=l.foldl wNod (wNum st l.length)
def wActn (st : Wt) (x : Actn) : Wt:=wComps (wFlag (wText (wNum (wNum (wNum st x.kind) x.id) x.parent) x.name) x.dir) x.ops
def wActns (st : Wt) (l : List Actn) : Wt:=l.foldl wActn (wNum st l.length)
theorem wNum_le (st : Wt) (n : Int) : st.1.length≤(wNum st n).1.length:=by simp [wNum]
theorem wText_le (st : Wt) (s : ByteArray) : st.1.length≤(wText st s).1.length∧s.size≤(wText st s).1.length∧(wNum (st.1,st.2 || !okText s.data.toList) s.size).1.length≤(wText st s).1.length:=by
  simp only [wText,wNum,List.length_append]
  have : s.data.toList.length = s.size:=by simp
  omega
theorem wFlag_le (st : Wt) (b : Bool) : st.1.length≤(wFlag st b).1.length:=wNum_le _ _
theorem fold_le {α : Type} {f : Wt→α→Wt} (hf : ∀ st x,st.1.length≤(f st x).1.length) : ∀ (l : List α) (st : Wt),st.1.length≤(l.foldl f st).1.length
  | [],st=>Nat.le_refl _
  | x::r,st=>Nat.le_trans (hf st x) (fold_le hf r (f st x))
theorem wComp_le (st : Wt) (x : Comp) : st.1.length≤(wComp st x).1.length:=by
  have h1:=wNum_le st x.kind; have h2:=wNum_le (wNum st x.kind) x.n; have h3:=(wText_le (wNum (wNum st x.kind) x.n) x.text).1
  unfold wComp; omega
theorem wComps_le (st : Wt) (l : List Comp) : st.1.length≤(wComps st l).1.length:=Nat.le_trans (wNum_le st l.length) (fold_le wComp_le l _)
theorem wNod_le (st : Wt) (x : Nod) : st.1.length≤(wNod st x).1.length:=by
  have h1:=wNum_le st x.id; have h2:=wNum_le (wNum st x.id) x.parent; have h3:=(wText_le (wNum (wNum st x.id) x.parent) x.name).1
  have h4:=wFlag_le (wText (wNum (wNum st x.id) x.parent) x.name) x.dir; have h5:=(wText_le (wFlag (wText (wNum (wNum st x.id) x.parent) x.name) x.dir) x.text).1
  unfold wNod; omega
theorem wActn_le (st : Wt) (x : Actn) : st.1.length≤(wActn st x).1.length:=by
  have h1:=wNum_le st x.kind; have h2:=wNum_le (wNum st x.kind) x.id; have h3:=wNum_le (wNum (wNum st x.kind) x.id) x.parent; have h4:=(wText_le (wNum (wNum (wNum st x.kind) x.id) x.parent) x.name).1
  have h5:=wFlag_le (wText (wNum (wNum (wNum st x.kind) x.id) x.parent) x.name) x.dir; have h6:=wComps_le (wFlag (wText (wNum (wNum (wNum st x.kind) x.id) x.parent) x.name) x.dir) x.ops
  unfold wActn; omega
theorem fold_at {α : Type} {f : Wt→α→Wt} (hf : ∀ st x,st.1.length≤(f st x).1.length) {l : List α} {s0 : Wt} {i : Nat} {x : α} (hx : l[i]? = some x) :
    (l.take (i + 1)).foldl f s0 = f ((l.take i).foldl f s0) x∧(f ((l.take i).foldl f s0) x).1.length≤(l.foldl f s0).1.length:=by
  obtain ⟨hi,rfl⟩:=List.getElem?_eq_some_iff.1 hx
  have e : (l.take (i + 1)).foldl f s0 = f ((l.take i).foldl f s0) l[i]:=by
    rw [List.take_add_one,List.getElem?_eq_getElem hi,List.foldl_append]; rfl
  refine ⟨e,?_⟩;rw [← e]
  have h:=fold_le hf (l.drop (i + 1)) ((l.take (i + 1)).foldl f s0)
  rwa [← List.foldl_append,List.take_append_drop] at h
section
variable {W w : World} {cs r r2 : List Ch} {p : Nat} {st : Wt}
theorem WrComps_c (hT : Tabs W) {A : Option Addr} {n c : Nat} {xs : List Comp} (hb : (wComps st xs).1.length≤8796093022208) (hs : Sep W w cs) (hk : Pick cs (.wtr p 67 st) r) (hk2 : Pick r (.rd kComp (.slice A n c) xs) r2) :
    Calls P 59 #[.pointer (some ⟨p,0,none⟩),.slice A n c] w (Rt fun v w'=>v = .pointer (some ⟨p,0,none⟩)∧Sep W w' (.wtr p 67 (wComps st xs)::r)):=by
  have hs:=hs.pick hk;obtain ⟨rfl,hl⟩:=hs.rd_shape (.there hk2);unfold maxLen at hl;have hs:=hs.cpR (.there hk2)
  have hb0:=fold_le wComp_le xs (wNum st xs.length)
  unfold wComps at hb;refine enter Tryz.func59 Tryz.ntmps59 rfl rfl fun a (ha : Has a 29 [(0,_),(1,_)])=>?_;refine wp_seq_k fun K1 hK1=>?_;refine wp_region_lit ?_;refine pY ha (yAssign rfl) fun a ha=>?_;refine pZ ?_;refine hK1 _ _ ?_;refine wp_seq_k fun K2 hK2=>?_;refine wp_region_lit ?_;refine pY ha (yMove rfl) fun a ha=>?_;refine pY ha (yMove rfl) fun a ha=>?_;refine pY ha (yLenS Tryz.runUnderlying52 rfl) fun a ha=>?_;refine pC ha (nCall Tryz.call24 rfl) rfl (WrNum_c (st:=st) xs.length (by omega) hs (.there .here)) ?_;rintro v w ⟨rfl,hs⟩ a ha;refine pZ ?_;refine hK2 _ _ ?_;refine wp_seq_k fun K3 hK3=>?_;refine wp_seq_k fun K4 hK4=>?_;refine wp_region_lit ?_;refine pY ha (yMove rfl) fun a ha=>?_;refine pY ha (yLenS Tryz.runUnderlying52 rfl) fun a ha=>?_;refine pY ha (yMove rfl) fun a ha=>?_;refine pZ ?_;refine hK4 _ _ ?_;refine wp_block ?_;refine loopI (ι:=Nat) (fun i a w=>i≤xs.length∧Has a 29 [(0,.pointer (some ⟨p,0,none⟩)),(11,.slice A xs.length c),(12,.int .i64 xs.length),(13,.int .i64 i)]∧Sep W w (.wtr p 67 ((xs.take i).foldl wComp (wNum st xs.length))::.rd kComp (.slice A xs.length c) xs::r)) (fun i=>xs.length - i) (0) ?_ ?_
  · exact ⟨Nat.zero_le _,has4 ha rfl rfl rfl rfl,hs⟩
  · rintro i a w ⟨h1,ha,hs⟩;refine wp_seq_k fun K5 hK5=>?_;refine wp_region_lit ?_;refine pY ha (yLss rfl rfl) fun a ha=>?_;refine pZ ?_;refine hK5 _ _ ?_;refine wp_seq_k fun K6 hK6=>?_;refine cDec ha rfl (fun hc14=>?_) (fun hc14=>?_)
    · obtain ⟨x,hx⟩ : ∃ x,xs[i]? = some x:=⟨_,List.getElem?_eq_getElem (by omega)⟩;obtain ⟨hf1,hf2⟩:=fold_at (f:=wComp) wComp_le (s0:=wNum st xs.length) hx;generalize (xs.take i).foldl wComp (wNum st xs.length) = s0 at hs hf1 hf2;obtain ⟨b0,off,rfl,hs⟩:=hs.rd_comp (.there .here) hx
      have q1:=wNum_le s0 x.kind
      have q2:=wNum_le (wNum s0 x.kind) x.n
      have q3:=wText_le (wNum (wNum s0 x.kind) x.n) x.text
      have hf3 : (wText (wNum (wNum s0 x.kind) x.n) x.text).1.length≤8796093022208:=Nat.le_trans hf2 hb
      refine wp_skip ?_;refine hK6 _ _ ?_;refine wp_seq_k fun K7 hK7=>?_;refine wp_block ?_;refine wp_seq_k fun K8 hK8=>?_;refine wp_region_lit ?_;refine pY ha (yIndexA Tryz.runUnderlying52 Tryz.sizeOf98 rfl rfl (by omega) (by omega)) fun a ha=>?_;refine pY ha (yLoadRA Tryz.isAgg98 Tryz.sizeOf98 hs rfl pk0 rfl) fun a ha=>?_;refine pAlloc (zs:=[.int .i64 0,.int .i64 0,.string ⟨#[]⟩]) ha Tryz.zeroValue98 rfl hs rfl fun b w hs a ha=>?_;refine pStoreA ha Tryz.sizeOf98 hs rfl rfl pk0 rfl rfl rfl fun w hs=>?_;refine pZ ?_;refine hK8 _ _ ?_;refine dStart (fun w=>∃ rs,Sep W w (.blk b 98 [.int .i64 x.kind,.int .i64 x.n,.string x.text]::rs)) [9] 1023 511 (by kernel_rfl) (by kernel_rfl) rfl (⟨_,hs.drew.pick pk0⟩) ?_
      have hs:=Sep.drew hs
      generalize World.drew _ = w at hs ⊢;refine dP 0 1 rfl ha (fun _=>yMove rfl) fun a ha=>?_;refine dP 1 3 rfl ha (fun _=>yFieldA Tryz.runUnderlying98 rfl Tryz.sizeOf3 rfl rfl) fun a ha=>?_;refine dT 2 7 rfl ha (fun _ ⟨rs,hs⟩=>yLoadB Tryz.isAgg3 hs rfl pk0 rfl) (⟨_,hs.pick pk0⟩) fun a ha=>?_;refine dP 4 23 rfl ha (fun _=>yFieldA Tryz.runUnderlying98 rfl Tryz.sizeOf3 rfl rfl) fun a ha=>?_;refine dT 5 55 rfl ha (fun _ ⟨rs,hs⟩=>yLoadB Tryz.isAgg3 hs rfl pk0 rfl) (⟨_,hs.pick pk0⟩) fun a ha=>?_;refine dP 7 183 rfl ha (fun _=>yFieldA Tryz.runUnderlying98 rfl Tryz.sizeOf9 rfl rfl) fun a ha=>?_;refine dT 8 439 rfl ha (fun _ ⟨rs,hs⟩=>yLoadB Tryz.isAgg9 hs rfl pk0 rfl) (⟨_,hs.pick pk0⟩) fun a ha=>?_;refine dC 3 447 rfl (by kernel_rfl) rfl ha won0 (nCall Tryz.call24 rfl) rfl (WrNum_c (st:=s0) x.kind (by omega) hs pk2) ?_;rintro v w ⟨rfl,hs⟩;refine ⟨⟨_,hs.pick pk1⟩,fun a ha=>?_⟩;refine dC 6 511 rfl (by kernel_rfl) rfl ha won0 (nCall Tryz.call24 rfl) rfl (WrNum_c (st:=wNum s0 x.kind) x.n (by omega) hs pk0) ?_;rintro v w ⟨rfl,hs⟩;refine ⟨⟨_,hs.pick pk1⟩,fun a ha=>?_⟩;refine dCl 9 1023 rfl (by kernel_rfl) rfl ha won0 (nCall Tryz.call27 rfl) rfl (WrText_c (st:=wNum (wNum s0 x.kind) x.n) hT x.text (by omega) (by omega) hs pk0) ?_;rintro v w ⟨rfl,hs⟩ a ha;refine dZ (by kernel_rfl) ?_;refine hK7 _ _ ?_;refine wp_region_lit ?_;refine pY ha (yAddN rfl rfl ⟨by omega,by omega⟩) fun a ha=>?_;refine pY ha (yMove rfl) fun a ha=>?_;refine pZ ?_;refine ⟨i + 1,⟨by omega,has4 ha rfl rfl rfl rfl,?_⟩,by omega⟩;rw [hf1];exact hs.drop2.drop2
    · refine wp_exit ?_;refine hK3 _ _ ?_;refine wp_seq_k fun K9 hK9=>?_;refine wp_region_lit ?_;refine pY ha (yMove rfl) fun a ha=>?_;refine pY ha (yAssign rfl) fun a ha=>?_;refine pZ ?_;refine hK9 _ _ ?_;refine wp_ret ?_;show bodyPost Tryz.prog Tryz.f59 _ .ret _ _;refine ret1 rfl ha rfl ?_;rw [List.take_of_length_le (by omega)] at hs; exact ⟨rfl,hs.drop2⟩
theorem WrNods_c (hT : Tabs W) {A : Option Addr} {n c : Nat} {xs : List Nod} (hb : (wNods st xs).1.length≤8796093022208) (hs : Sep W w cs) (hk : Pick cs (.wtr p 67 st) r) (hk2 : Pick r (.rd kNod (.slice A n c) xs) r2) :
    Calls P 25 #[.pointer (some ⟨p,0,none⟩),.slice A n c] w (Rt fun v w'=>v = .pointer (some ⟨p,0,none⟩)∧Sep W w' (.wtr p 67 (wNods st xs)::r)):=by
  have hs:=hs.pick hk;obtain ⟨rfl,hl⟩:=hs.rd_shape (.there hk2);unfold maxLen at hl;have hs:=hs.cpR (.there hk2)
  have hb0:=fold_le wNod_le xs (wNum st xs.length)
  unfold wNods at hb;refine enter Tryz.func25 Tryz.ntmps25 rfl rfl fun a (ha : Has a 35 [(0,_),(1,_)])=>?_;refine wp_seq_k fun K1 hK1=>?_;refine wp_region_lit ?_;refine pY ha (yAssign rfl) fun a ha=>?_;refine pZ ?_;refine hK1 _ _ ?_;refine wp_seq_k fun K2 hK2=>?_;refine wp_region_lit ?_;refine pY ha (yMove rfl) fun a ha=>?_;refine pY ha (yMove rfl) fun a ha=>?_;refine pY ha (yLenS Tryz.runUnderlying22 rfl) fun a ha=>?_;refine pC ha (nCall Tryz.call24 rfl) rfl (WrNum_c (st:=st) xs.length (by omega) hs (.there .here)) ?_;rintro v w ⟨rfl,hs⟩ a ha;refine pZ ?_;refine hK2 _ _ ?_;refine wp_seq_k fun K3 hK3=>?_;refine wp_seq_k fun K4 hK4=>?_;refine wp_region_lit ?_;refine pY ha (yMove rfl) fun a ha=>?_;refine pY ha (yLenS Tryz.runUnderlying22 rfl) fun a ha=>?_;refine pY ha (yMove rfl) fun a ha=>?_;refine pZ ?_;refine hK4 _ _ ?_;refine wp_block ?_;refine loopI (ι:=Nat) (fun i a w=>i≤xs.length∧Has a 35 [(0,.pointer (some ⟨p,0,none⟩)),(11,.slice A xs.length c),(12,.int .i64 xs.length),(13,.int .i64 i)]∧Sep W w (.wtr p 67 ((xs.take i).foldl wNod (wNum st xs.length))::.rd kNod (.slice A xs.length c) xs::r)) (fun i=>xs.length - i) (0) ?_ ?_
  · exact ⟨Nat.zero_le _,has4 ha rfl rfl rfl rfl,hs⟩
  · rintro i a w ⟨h1,ha,hs⟩;refine wp_seq_k fun K5 hK5=>?_;refine wp_region_lit ?_;refine pY ha (yLss rfl rfl) fun a ha=>?_;refine pZ ?_;refine hK5 _ _ ?_;refine wp_seq_k fun K6 hK6=>?_;refine cDec ha rfl (fun hc14=>?_) (fun hc14=>?_)
    · obtain ⟨x,hx⟩ : ∃ x,xs[i]? = some x:=⟨_,List.getElem?_eq_getElem (by omega)⟩;obtain ⟨hf1,hf2⟩:=fold_at (f:=wNod) wNod_le (s0:=wNum st xs.length) hx;generalize (xs.take i).foldl wNod (wNum st xs.length) = s0 at hs hf1 hf2;obtain ⟨b0,off,rfl,hs⟩:=hs.rd_nod (.there .here) hx
      have q1:=wNum_le s0 x.id
      have q2:=wNum_le (wNum s0 x.id) x.parent
      have q3:=wText_le (wNum (wNum s0 x.id) x.parent) x.name
      have q4:=wFlag_le (wText (wNum (wNum s0 x.id) x.parent) x.name) x.dir
      have q5:=wText_le (wFlag (wText (wNum (wNum s0 x.id) x.parent) x.name) x.dir) x.text
      have hf3 : (wText (wFlag (wText (wNum (wNum s0 x.id) x.parent) x.name) x.dir) x.text).1.length≤8796093022208:=Nat.le_trans hf2 hb
      refine wp_skip ?_;refine hK6 _ _ ?_;refine wp_seq_k fun K7 hK7=>?_;refine wp_block ?_;refine wp_seq_k fun K8 hK8=>?_;refine wp_region_lit ?_;refine pY ha (yIndexA Tryz.runUnderlying22 Tryz.sizeOf116 rfl rfl (by omega) (by omega)) fun a ha=>?_;refine pY ha (yLoadRA Tryz.isAgg116 Tryz.sizeOf116 hs rfl pk0 rfl) fun a ha=>?_;refine pAlloc (zs:=[.int .i64 0,.int .i64 0,.string ⟨#[]⟩,.bool false,.string ⟨#[]⟩]) ha Tryz.zeroValue116 rfl hs rfl fun b w hs a ha=>?_;refine pStoreA ha Tryz.sizeOf116 hs rfl rfl pk0 rfl rfl rfl fun w hs=>?_;refine pZ ?_;refine hK8 _ _ ?_;refine dStart (fun w=>∃ rs,Sep W w (.blk b 116 [.int .i64 x.id,.int .i64 x.parent,.string x.name,.bool x.dir,.string x.text]::rs)) [15] 65535 32767 (by kernel_rfl) (by kernel_rfl) rfl (⟨_,hs.drew.pick pk0⟩) ?_
      have hs:=Sep.drew hs
      generalize World.drew _ = w at hs ⊢;refine dP 0 1 rfl ha (fun _=>yMove rfl) fun a ha=>?_;refine dP 1 3 rfl ha (fun _=>yFieldA Tryz.runUnderlying116 rfl Tryz.sizeOf3 rfl rfl) fun a ha=>?_;refine dT 2 7 rfl ha (fun _ ⟨rs,hs⟩=>yLoadB Tryz.isAgg3 hs rfl pk0 rfl) (⟨_,hs.pick pk0⟩) fun a ha=>?_;refine dP 4 23 rfl ha (fun _=>yFieldA Tryz.runUnderlying116 rfl Tryz.sizeOf3 rfl rfl) fun a ha=>?_;refine dT 5 55 rfl ha (fun _ ⟨rs,hs⟩=>yLoadB Tryz.isAgg3 hs rfl pk0 rfl) (⟨_,hs.pick pk0⟩) fun a ha=>?_;refine dP 7 183 rfl ha (fun _=>yFieldA Tryz.runUnderlying116 rfl Tryz.sizeOf9 rfl rfl) fun a ha=>?_;refine dT 8 439 rfl ha (fun _ ⟨rs,hs⟩=>yLoadB Tryz.isAgg9 hs rfl pk0 rfl) (⟨_,hs.pick pk0⟩) fun a ha=>?_;refine dP 10 1463 rfl ha (fun _=>yFieldA Tryz.runUnderlying116 rfl Tryz.sizeOf4 rfl rfl) fun a ha=>?_;refine dT 11 3511 rfl ha (fun _ ⟨rs,hs⟩=>yLoadB Tryz.isAgg4 hs rfl pk0 rfl) (⟨_,hs.pick pk0⟩) fun a ha=>?_;refine dP 13 11703 rfl ha (fun _=>yFieldA Tryz.runUnderlying116 rfl Tryz.sizeOf9 rfl rfl) fun a ha=>?_;refine dT 14 28087 rfl ha (fun _ ⟨rs,hs⟩=>yLoadB Tryz.isAgg9 hs rfl pk0 rfl) (⟨_,hs.pick pk0⟩) fun a ha=>?_;refine dC 3 28095 rfl (by kernel_rfl) rfl ha won0 (nCall Tryz.call24 rfl) rfl (WrNum_c (st:=s0) x.id (by omega) hs pk2) ?_;rintro v w ⟨rfl,hs⟩;refine ⟨⟨_,hs.pick pk1⟩,fun a ha=>?_⟩;refine dC 6 28159 rfl (by kernel_rfl) rfl ha won0 (nCall Tryz.call24 rfl) rfl (WrNum_c (st:=wNum s0 x.id) x.parent (by omega) hs pk0) ?_;rintro v w ⟨rfl,hs⟩;refine ⟨⟨_,hs.pick pk1⟩,fun a ha=>?_⟩;refine dC 9 28671 rfl (by kernel_rfl) rfl ha won0 (nCall Tryz.call27 rfl) rfl (WrText_c (st:=wNum (wNum s0 x.id) x.parent) hT x.name (by omega) (by omega) hs pk0) ?_;rintro v w ⟨rfl,hs⟩;refine ⟨⟨_,hs.pick pk1⟩,fun a ha=>?_⟩;refine dC 12 32767 rfl (by kernel_rfl) rfl ha won0 (nCall Tryz.call44 rfl) rfl (WrFlag_c (st:=wText (wNum (wNum s0 x.id) x.parent) x.name) x.dir (by omega) hs pk0) ?_;rintro v w ⟨rfl,hs⟩;refine ⟨⟨_,hs.pick pk1⟩,fun a ha=>?_⟩;refine dCl 15 65535 rfl (by kernel_rfl) rfl ha won0 (nCall Tryz.call27 rfl) rfl (WrText_c (st:=wFlag (wText (wNum (wNum s0 x.id) x.parent) x.name) x.dir) hT x.text (by omega) (by omega) hs pk0) ?_;rintro v w ⟨rfl,hs⟩ a ha;refine dZ (by kernel_rfl) ?_;refine hK7 _ _ ?_;refine wp_region_lit ?_;refine pY ha (yAddN rfl rfl ⟨by omega,by omega⟩) fun a ha=>?_;refine pY ha (yMove rfl) fun a ha=>?_;refine pZ ?_;refine ⟨i + 1,⟨by omega,has4 ha rfl rfl rfl rfl,?_⟩,by omega⟩;rw [hf1];exact hs.drop2.drop2
    · refine wp_exit ?_;refine hK3 _ _ ?_;refine wp_seq_k fun K9 hK9=>?_;refine wp_region_lit ?_;refine pY ha (yMove rfl) fun a ha=>?_;refine pY ha (yAssign rfl) fun a ha=>?_;refine pZ ?_;refine hK9 _ _ ?_;refine wp_ret ?_;show bodyPost Tryz.prog Tryz.f25 _ .ret _ _;refine ret1 rfl ha rfl ?_;rw [List.take_of_length_le (by omega)] at hs; exact ⟨rfl,hs.drop2⟩
theorem WrActns_c (hT : Tabs W) {A : Option Addr} {n c : Nat} {xs : List Actn} (hb : (wActns st xs).1.length≤8796093022208) (hs : Sep W w cs) (hk : Pick cs (.wtr p 67 st) r) (hk2 : Pick r (.rd kActn (.slice A n c) xs) r2) :
    Calls P 26 #[.pointer (some ⟨p,0,none⟩),.slice A n c] w (Rt fun v w'=>v = .pointer (some ⟨p,0,none⟩)∧Sep W w' (.wtr p 67 (wActns st xs)::r)):=by
  have hs:=hs.pick hk;obtain ⟨rfl,hl⟩:=hs.rd_shape (.there hk2);unfold maxLen at hl;have hs:=hs.cpR (.there hk2)
  have hb0:=fold_le wActn_le xs (wNum st xs.length)
  unfold wActns at hb;refine enter Tryz.func26 Tryz.ntmps26 rfl rfl fun a (ha : Has a 38 [(0,_),(1,_)])=>?_;refine wp_seq_k fun K1 hK1=>?_;refine wp_region_lit ?_;refine pY ha (yAssign rfl) fun a ha=>?_;refine pZ ?_;refine hK1 _ _ ?_;refine wp_seq_k fun K2 hK2=>?_;refine wp_region_lit ?_;refine pY ha (yMove rfl) fun a ha=>?_;refine pY ha (yMove rfl) fun a ha=>?_;refine pY ha (yLenS Tryz.runUnderlying27 rfl) fun a ha=>?_;refine pC ha (nCall Tryz.call24 rfl) rfl (WrNum_c (st:=st) xs.length (by omega) hs (.there .here)) ?_;rintro v w ⟨rfl,hs⟩ a ha;refine pZ ?_;refine hK2 _ _ ?_;refine wp_seq_k fun K3 hK3=>?_;refine wp_seq_k fun K4 hK4=>?_;refine wp_region_lit ?_;refine pY ha (yMove rfl) fun a ha=>?_;refine pY ha (yLenS Tryz.runUnderlying27 rfl) fun a ha=>?_;refine pY ha (yMove rfl) fun a ha=>?_;refine pZ ?_;refine hK4 _ _ ?_;refine wp_block ?_;refine loopI (ι:=Nat) (fun i a w=>i≤xs.length∧Has a 38 [(0,.pointer (some ⟨p,0,none⟩)),(11,.slice A xs.length c),(12,.int .i64 xs.length),(13,.int .i64 i)]∧Sep W w (.wtr p 67 ((xs.take i).foldl wActn (wNum st xs.length))::.rd kActn (.slice A xs.length c) xs::r)) (fun i=>xs.length - i) (0) ?_ ?_
  · exact ⟨Nat.zero_le _,has4 ha rfl rfl rfl rfl,hs⟩
  · rintro i a w ⟨h1,ha,hs⟩;refine wp_seq_k fun K5 hK5=>?_;refine wp_region_lit ?_;refine pY ha (yLss rfl rfl) fun a ha=>?_;refine pZ ?_;refine hK5 _ _ ?_;refine wp_seq_k fun K6 hK6=>?_;refine cDec ha rfl (fun hc14=>?_) (fun hc14=>?_)
    · obtain ⟨x,hx⟩ : ∃ x,xs[i]? = some x:=⟨_,List.getElem?_eq_getElem (by omega)⟩;obtain ⟨hf1,hf2⟩:=fold_at (f:=wActn) wActn_le (s0:=wNum st xs.length) hx;generalize (xs.take i).foldl wActn (wNum st xs.length) = s0 at hs hf1 hf2;obtain ⟨b0,off,A',n',c',rfl,hs⟩:=hs.rd_actn (.there .here) hx
      have q1:=wNum_le s0 x.kind
      have q2:=wNum_le (wNum s0 x.kind) x.id
      have q3:=wNum_le (wNum (wNum s0 x.kind) x.id) x.parent
      have q4:=wText_le (wNum (wNum (wNum s0 x.kind) x.id) x.parent) x.name
      have q5:=wFlag_le (wText (wNum (wNum (wNum s0 x.kind) x.id) x.parent) x.name) x.dir
      have q6:=wComps_le (wFlag (wText (wNum (wNum (wNum s0 x.kind) x.id) x.parent) x.name) x.dir) x.ops
      have hf3 : (wComps (wFlag (wText (wNum (wNum (wNum s0 x.kind) x.id) x.parent) x.name) x.dir) x.ops).1.length≤8796093022208:=Nat.le_trans hf2 hb
      refine wp_skip ?_;refine hK6 _ _ ?_;refine wp_seq_k fun K7 hK7=>?_;refine wp_block ?_;refine wp_seq_k fun K8 hK8=>?_;refine wp_region_lit ?_;refine pY ha (yIndexA Tryz.runUnderlying27 Tryz.sizeOf54 rfl rfl (by omega) (by omega)) fun a ha=>?_;refine pY ha (yLoadRA Tryz.isAgg54 Tryz.sizeOf54 hs rfl pk0 rfl) fun a ha=>?_;refine pAlloc (zs:=[.int .i64 0,.int .i64 0,.int .i64 0,.string ⟨#[]⟩,.bool false,.slice none 0 0]) ha Tryz.zeroValue54 rfl hs rfl fun b w hs a ha=>?_;refine pStoreA ha Tryz.sizeOf54 hs rfl rfl pk0 rfl rfl rfl fun w hs=>?_;refine pZ ?_;refine hK8 _ _ ?_;refine dStart (fun w=>∃ rs,Sep W w (.blk b 54 [.int .i64 x.kind,.int .i64 x.id,.int .i64 x.parent,.string x.name,.bool x.dir,.slice A' n' c']::rs)) [18] 524287 262143 (by kernel_rfl) (by kernel_rfl) rfl (⟨_,hs.drew.pick pk0⟩) ?_
      have hs:=Sep.drew hs
      generalize World.drew _ = w at hs ⊢;refine dP 0 1 rfl ha (fun _=>yMove rfl) fun a ha=>?_;refine dP 1 3 rfl ha (fun _=>yFieldA Tryz.runUnderlying54 rfl Tryz.sizeOf3 rfl rfl) fun a ha=>?_;refine dT 2 7 rfl ha (fun _ ⟨rs,hs⟩=>yLoadB Tryz.isAgg3 hs rfl pk0 rfl) (⟨_,hs.pick pk0⟩) fun a ha=>?_;refine dP 4 23 rfl ha (fun _=>yFieldA Tryz.runUnderlying54 rfl Tryz.sizeOf3 rfl rfl) fun a ha=>?_;refine dT 5 55 rfl ha (fun _ ⟨rs,hs⟩=>yLoadB Tryz.isAgg3 hs rfl pk0 rfl) (⟨_,hs.pick pk0⟩) fun a ha=>?_;refine dP 7 183 rfl ha (fun _=>yFieldA Tryz.runUnderlying54 rfl Tryz.sizeOf3 rfl rfl) fun a ha=>?_;refine dT 8 439 rfl ha (fun _ ⟨rs,hs⟩=>yLoadB Tryz.isAgg3 hs rfl pk0 rfl) (⟨_,hs.pick pk0⟩) fun a ha=>?_;refine dP 10 1463 rfl ha (fun _=>yFieldA Tryz.runUnderlying54 rfl Tryz.sizeOf9 rfl rfl) fun a ha=>?_;refine dT 11 3511 rfl ha (fun _ ⟨rs,hs⟩=>yLoadB Tryz.isAgg9 hs rfl pk0 rfl) (⟨_,hs.pick pk0⟩) fun a ha=>?_;refine dP 13 11703 rfl ha (fun _=>yFieldA Tryz.runUnderlying54 rfl Tryz.sizeOf4 rfl rfl) fun a ha=>?_;refine dT 14 28087 rfl ha (fun _ ⟨rs,hs⟩=>yLoadB Tryz.isAgg4 hs rfl pk0 rfl) (⟨_,hs.pick pk0⟩) fun a ha=>?_;refine dP 16 93623 rfl ha (fun _=>yFieldA Tryz.runUnderlying54 rfl Tryz.sizeOf52 rfl rfl) fun a ha=>?_;refine dT 17 224695 rfl ha (fun _ ⟨rs,hs⟩=>yLoadB Tryz.isAgg52 hs rfl pk0 rfl) (⟨_,hs.pick pk0⟩) fun a ha=>?_;refine dC 3 224703 rfl (by kernel_rfl) rfl ha won0 (nCall Tryz.call24 rfl) rfl (WrNum_c (st:=s0) x.kind (by omega) hs pk3) ?_;rintro v w ⟨rfl,hs⟩;refine ⟨⟨_,hs.pick pk1⟩,fun a ha=>?_⟩;refine dC 6 224767 rfl (by kernel_rfl) rfl ha won0 (nCall Tryz.call24 rfl) rfl (WrNum_c (st:=wNum s0 x.kind) x.id (by omega) hs pk0) ?_;rintro v w ⟨rfl,hs⟩;refine ⟨⟨_,hs.pick pk1⟩,fun a ha=>?_⟩;refine dC 9 225279 rfl (by kernel_rfl) rfl ha won0 (nCall Tryz.call24 rfl) rfl (WrNum_c (st:=wNum (wNum s0 x.kind) x.id) x.parent (by omega) hs pk0) ?_;rintro v w ⟨rfl,hs⟩;refine ⟨⟨_,hs.pick pk1⟩,fun a ha=>?_⟩;refine dC 12 229375 rfl (by kernel_rfl) rfl ha won0 (nCall Tryz.call27 rfl) rfl (WrText_c (st:=wNum (wNum (wNum s0 x.kind) x.id) x.parent) hT x.name (by omega) (by omega) hs pk0) ?_;rintro v w ⟨rfl,hs⟩;refine ⟨⟨_,hs.pick pk1⟩,fun a ha=>?_⟩;refine dC 15 262143 rfl (by kernel_rfl) rfl ha won0 (nCall Tryz.call44 rfl) rfl (WrFlag_c (st:=wText (wNum (wNum (wNum s0 x.kind) x.id) x.parent) x.name) x.dir (by omega) hs pk0) ?_;rintro v w ⟨rfl,hs⟩;refine ⟨⟨_,hs.pick pk1⟩,fun a ha=>?_⟩;refine dCl 18 524287 rfl (by kernel_rfl) rfl ha won0 (nCall Tryz.call59 rfl) rfl (WrComps_c (st:=wFlag (wText (wNum (wNum (wNum s0 x.kind) x.id) x.parent) x.name) x.dir) hT (by omega) hs pk0 pk2) ?_;rintro v w ⟨rfl,hs⟩ a ha;refine dZ (by kernel_rfl) ?_;refine hK7 _ _ ?_;refine wp_region_lit ?_;refine pY ha (yAddN rfl rfl ⟨by omega,by omega⟩) fun a ha=>?_;refine pY ha (yMove rfl) fun a ha=>?_;refine pZ ?_;refine ⟨i + 1,⟨by omega,has4 ha rfl rfl rfl rfl,?_⟩,by omega⟩;rw [hf1];exact hs.drop2.drop2.drop2
    · refine wp_exit ?_;refine hK3 _ _ ?_;refine wp_seq_k fun K9 hK9=>?_;refine wp_region_lit ?_;refine pY ha (yMove rfl) fun a ha=>?_;refine pY ha (yAssign rfl) fun a ha=>?_;refine pZ ?_;refine hK9 _ _ ?_;refine wp_ret ?_;show bodyPost Tryz.prog Tryz.f26 _ .ret _ _;refine ret1 rfl ha rfl ?_;rw [List.take_of_length_le (by omega)] at hs; exact ⟨rfl,hs.drop2⟩
end
end Go.Proofs.YtldgdjilchnceaaGreatDoor

set_option linter.unusedVariables false
set_option linter.unusedSimpArgs false
namespace Go.Proofs.YtldgdjilchnceaaGreatDoor
open Go.RowKit Go.Lib
section
variable {W w : World} {cs r r2 : List Ch}
theorem Sep.rd_int {A : Option Addr} {n c i : Nat} {xs : List Int} {x : Int} (h : Sep W w cs) (hk : Pick cs (.rd kInt (.slice A n c) xs) r) (hx : xs[i]? = some x) :
    ∃ b off,A = some ⟨b,off,none⟩∧(-9223372036854775808≤x∧x≤9223372036854775807)∧Sep W w (.at b (off + i * 1) [.int .i64 x]::cs):=by
  obtain ⟨b,off,c',es,he,hl,hs⟩:=h.rd_at hk hx;simp only [Value.slice.injEq] at he
  have hes : es = [.int .i64 x]∧-9223372036854775808≤x∧x≤9223372036854775807:=hs.know (.there .here) (fun Z _ hp=>hp)
  obtain ⟨hes,h1⟩:=hes;subst hes;exact ⟨b,off,he.1,h1,hs.drop2⟩
end
end Go.Proofs.YtldgdjilchnceaaGreatDoor

set_option linter.unusedVariables false
set_option linter.unusedSimpArgs false
namespace Go.Proofs.YtldgdjilchnceaaGreatDoor
open Go.RowKit Go.Lib
theorem bslWgt96_2_0_1 {w : World} {l : List (Nat × Value)} {T : TypeId} {x0 x1 : Operand} {v0 : Value} (h0 : ev l x0 = some v0) {v1 : Value} (h1 : ev l x1 = some v1) (o0 : v0.cells = #[v0]:=by rfl) (o1 : v1.cells = #[v1]:=by rfl) : Mk Tryz.prog w l (.buildSlice 96 2 #[(0,x0),(1,x1)]) T 3 2 [v0,v1]:=fun ρ o h ho _=>by
  have hm:=mkvs (P:=Tryz.prog) [v0,v1] w Tryz.runUnderlying96 Tryz.sizeOf3 Tryz.zeroValue3 (by intro v hv; simp at hv; rcases hv with rfl | rfl <;> assumption) (by simp) (by simp)
  unfold execOp; rw [ho];simp only [h _ _ h0,h _ _ h1,List.map_toArray,List.map_cons,List.map_nil];simp only [List.length_cons,List.length_nil,prt] at hm
  simp at hm
  simp [hm]
theorem bslWgt96_3_0_1_2 {w : World} {l : List (Nat × Value)} {T : TypeId} {x0 x1 x2 : Operand} {v0 : Value} (h0 : ev l x0 = some v0) {v1 : Value} (h1 : ev l x1 = some v1) {v2 : Value} (h2 : ev l x2 = some v2) (o0 : v0.cells = #[v0]:=by rfl) (o1 : v1.cells = #[v1]:=by rfl) (o2 : v2.cells = #[v2]:=by rfl) : Mk Tryz.prog w l (.buildSlice 96 3 #[(0,x0),(1,x1),(2,x2)]) T 3 3 [v0,v1,v2]:=fun ρ o h ho _=>by
  have hm:=mkvs (P:=Tryz.prog) [v0,v1,v2] w Tryz.runUnderlying96 Tryz.sizeOf3 Tryz.zeroValue3 (by intro v hv; simp at hv; rcases hv with rfl | rfl | rfl <;> assumption) (by simp) (by simp)
  unfold execOp; rw [ho];simp only [h _ _ h0,h _ _ h1,h _ _ h2,List.map_toArray,List.map_cons,List.map_nil];simp only [List.length_cons,List.length_nil,prt] at hm
  simp at hm
  simp [hm]
def sumL : List Int→Int
  | []=>0
  | m::r=>m + sumL r
theorem sumL_append (a b : List Int) : sumL (a++b) = sumL a + sumL b:=by
  induction a with
  | nil=>simp [sumL]
  | cons x r ih=>simp only [List.cons_append,sumL,ih]; omega
theorem sumL_nonneg {l : List Int} (h : ∀ m ∈ l,0≤m) : 0≤sumL l:=by
  induction l with
  | nil=>simp [sumL]
  | cons x r ih=>
    have:=h x (by simp)
    have:=ih (fun m hm=>h m (by simp [hm]))
    simp only [sumL]; omega
theorem sumL_at {l : List Int} {i : Nat} {m : Int} (h : ∀ m ∈ l,0≤m) (hm : l[i]? = some m) : sumL (l.take (i + 1)) = sumL (l.take i) + m∧sumL (l.take i) + m≤sumL l:=by
  obtain ⟨hi,rfl⟩:=List.getElem?_eq_some_iff.1 hm
  have e : sumL (l.take (i + 1)) = sumL (l.take i) + l[i]:=by
    rw [List.take_add_one,List.getElem?_eq_getElem hi,sumL_append]; simp [sumL]
  refine ⟨e,?_⟩;rw [← e]
  have h1 : sumL l = sumL (l.take (i + 1)) + sumL (l.drop (i + 1)):=by rw [← sumL_append,List.take_append_drop]
  have h2:=sumL_nonneg (l:=l.drop (i + 1)) (fun m hm=>h m (List.mem_of_mem_drop hm))
  omega
def tComps (l : List Comp) : Nat:=(l.map fun x=>x.text.size + 2).sum
def tNods (l : List Nod) : Nat:=(l.map fun x=>x.name.size + x.text.size + 3).sum
def tActns (l : List Actn) : Nat:=(l.map fun x=>x.name.size + tComps x.ops + 3).sum
theorem sum_at {α : Type} {f : α→Nat} {l : List α} {i : Nat} {x : α} (hx : l[i]? = some x) : ((l.take (i + 1)).map f).sum = ((l.take i).map f).sum + f x:=by
  obtain ⟨hi,rfl⟩:=List.getElem?_eq_some_iff.1 hx;rw [List.take_add_one,List.getElem?_eq_getElem hi];simp only [List.map_append,List.sum_append,Option.toList,List.map_cons,List.map_nil,List.sum_cons,List.sum_nil,Nat.add_zero]
section
variable {W w : World} {cs r r2 : List Ch}
theorem min_nat (m : Nat) {s : Int} (h : 0≤s) : ∃ q : Nat,min ((m : Int) + s) 1099511627776 = q∧q≤1099511627776∧(q < 1099511627776→(q : Int) = m + s):=by
  rcases Int.le_total ((m : Int) + s) 1099511627776 with h1 | h1
  · refine ⟨((m : Int) + s).toNat,?_,?_,fun _=>?_⟩
    · rw [Int.min_eq_left h1]; omega
    · omega
    · omega
  · refine ⟨1099511627776,Int.min_eq_right h1,Nat.le_refl _,fun h=>absurd h (Nat.lt_irrefl _)⟩
theorem Sum_c {A : Option Addr} {n c m : Nat} {xs : List Int} (hm : m≤1099511627776) (hx0 : ∀ x ∈ xs,0≤x) (hs : Sep W w cs) (hk : Pick cs (.rd kInt (.slice A n c) xs) r) :
    Calls P 17 #[.int .i64 m,.slice A n c] w (Rt fun v w'=>v = .int .i64 (min (m + sumL xs) 1099511627776)∧Sep W w' cs):=by
  obtain ⟨rfl,hl⟩:=hs.rd_shape hk;unfold maxLen at hl;have hs:=hs.cpR hk;refine enter Tryz.func17 Tryz.ntmps17 rfl rfl fun a (ha : Has a 30 [(0,_),(1,_)])=>?_;refine wp_seq_k fun K1 hK1=>?_;refine wp_region_lit ?_;refine pY ha (yAssign rfl) fun a ha=>?_;refine pZ ?_;refine hK1 _ _ ?_;refine wp_seq_k fun K2 hK2=>?_;refine wp_seq_k fun K3 hK3=>?_;refine wp_region_lit ?_;refine pY ha (yAssign rfl) fun a ha=>?_;refine pZ ?_;refine hK3 _ _ ?_;refine wp_block ?_;refine loopI (ι:=Nat) (fun i a w=>i≤xs.length∧(m : Int) + sumL (xs.take i)≤1099511627776∧0≤sumL (xs.take i)∧Has a 30 [(0,.int .i64 (m + sumL (xs.take i))),(1,.slice A xs.length c),(5,.int .i64 i)]∧Sep W w (.rd kInt (.slice A xs.length c) xs::cs)) (fun i=>xs.length - i) (0) ?_ ?_
  · exact ⟨Nat.zero_le _,by simp [sumL]; omega,by simp [sumL],has3 ha (by simp only [List.take_zero,sumL,Int.add_zero]; rfl) rfl rfl,hs⟩
  · rintro i a w ⟨h1,h2,h3,ha,hs⟩;refine wp_seq_k fun K4 hK4=>?_;refine wp_seq_k fun K5 hK5=>?_;refine wp_region_lit ?_;refine pY ha (yMove rfl) fun a ha=>?_;refine pY ha (yMove rfl) fun a ha=>?_;refine pY ha (yLenS Tryz.runUnderlying96 rfl) fun a ha=>?_;refine pY ha (yLss rfl rfl) fun a ha=>?_;refine pZ ?_;refine hK5 _ _ ?_;refine cDec ha rfl (fun hc9=>?_) (fun hc9=>?_)
    · obtain ⟨x,hx⟩ : ∃ x,xs[i]? = some x:=⟨_,List.getElem?_eq_getElem (by omega)⟩
      have hx1:=hx0 x (List.mem_of_getElem? hx)
      obtain ⟨hf1,hf2⟩:=sumL_at hx0 hx;obtain ⟨b0,off,rfl,hxr,hs⟩:=hs.rd_int .here hx;refine wp_skip ?_;refine hK4 _ _ ?_;refine wp_seq_k fun K6 hK6=>?_;refine wp_block ?_;refine wp_seq_k fun K7 hK7=>?_;refine wp_seq_k fun K8 hK8=>?_;refine wp_region_lit ?_;refine pY ha (yMove rfl) fun a ha=>?_;refine pY ha (yGtr rfl rfl) fun a ha=>?_;refine pY ha (yMove rfl) fun a ha=>?_;refine gDec (t:=14) ha rfl (fun hg2 hp2=>?_) (fun hg2 hp2=>?_)
      · rw [hg2] at ha;refine gOn ha ?_;refine pY ha (yMove rfl) fun a ha=>?_;refine gOn ha ?_;refine pY ha (yMove rfl) fun a ha=>?_;refine gOn ha ?_;refine pY ha (yIndexA Tryz.runUnderlying96 Tryz.sizeOf3 rfl rfl (by omega) (by omega)) fun a ha=>?_;refine gOn ha ?_;refine pY ha (yLoadR0 Tryz.isAgg3 hs rfl pk0 rfl) fun a ha=>?_;refine gOn ha ?_;refine pY ha (yMove rfl) fun a ha=>?_;refine gOn ha ?_;refine pY ha (ySubN rfl rfl ⟨by omega,by omega⟩) fun a ha=>?_;refine gOn ha ?_;refine pY ha (yGtr rfl rfl) fun a ha=>?_;refine pY ha (yPickF rfl rfl) fun a ha=>?_;refine pZ ?_;refine hK8 _ _ ?_;refine cDec ha rfl (fun hc22=>?_) (fun hc22=>?_)
        · refine wp_seq_k fun K9 hK9=>?_;refine wp_region_lit ?_;refine pY ha (yAssign rfl) fun a ha=>?_;refine pZ ?_;refine hK9 _ _ ?_;refine wp_ret ?_;show bodyPost Tryz.prog Tryz.f17 _ .ret _ _;refine ret1 rfl ha rfl ?_;exact ⟨by congr 1; omega,hs.drop.drop⟩
        · refine wp_skip ?_;refine hK7 _ _ ?_;refine wp_region_lit ?_;refine pY ha (yMove rfl) fun a ha=>?_;refine pY ha (yMove rfl) fun a ha=>?_;refine pY ha (yMove rfl) fun a ha=>?_;refine pY ha (yIndexA Tryz.runUnderlying96 Tryz.sizeOf3 rfl rfl (by omega) (by omega)) fun a ha=>?_;refine pY ha (yLoadR0 Tryz.isAgg3 hs rfl pk0 rfl) fun a ha=>?_;refine pY ha (yAddN rfl rfl ⟨by omega,by omega⟩) fun a ha=>?_;refine pY ha (yAssign rfl) fun a ha=>?_;refine pZ ?_;refine hK6 _ _ ?_;refine wp_region_lit ?_;refine pY ha (yMove rfl) fun a ha=>?_;refine pY ha (yAddN rfl rfl ⟨by omega,by omega⟩) fun a ha=>?_;refine pY ha (yAssign rfl) fun a ha=>?_;refine pZ ?_;refine ⟨i + 1,⟨by omega,by rw [hf1]; omega,by rw [hf1]; omega,has3 ha (by rw [hf1,← Int.add_assoc]; rfl) rfl rfl,hs.drop⟩,by omega⟩
      · exact absurd hp2 (by omega)
    · refine wp_exit ?_;refine hK2 _ _ ?_;refine wp_seq_k fun K10 hK10=>?_;refine wp_region_lit ?_;refine pY ha (yMove rfl) fun a ha=>?_;refine pY ha (yAssign rfl) fun a ha=>?_;refine pZ ?_;refine hK10 _ _ ?_;refine wp_ret ?_;show bodyPost Tryz.prog Tryz.f17 _ .ret _ _;refine ret1 rfl ha rfl ?_;rw [List.take_of_length_le (by omega)] at ha h2 ⊢; exact ⟨by congr 1; omega,hs.drop⟩
theorem kInt_flat : kInt.Flat (fun x=>.int .i64 x):=⟨rfl,fun _ _ _ h=>h.1⟩
theorem Sep.ints_rd {b : Nat} {T : TypeId} {xs : List Int} (hs : Sep W w cs) (hk : Pick cs (.blk b T (xs.map (.int .i64))) r) (hr : ∀ x ∈ xs,-9223372036854775808≤x∧x≤9223372036854775807) (hn : xs.length≤1000:=by simp) :
    Sep W w (.rd kInt (.slice (some ⟨b,0,none⟩) xs.length xs.length) xs::r):=by
  refine Sep.ol_rd (Sep.flat_ol (E:=T) (xs:=xs) (cap:=xs.length) kInt_flat hs hk (fun x hx Z=>⟨rfl,(hr x hx).1,(hr x hx).2⟩) (Nat.le_refl _) (by unfold maxLen; omega) (by simp) (fun i x hx=>by rw [List.getElem?_map,hx]; rfl)) .here
theorem WgComps_c {A : Option Addr} {n c lim : Nat} {xs : List Comp} (hlim : lim≤100000) (hsz : ∀ x ∈ xs,x.text.size≤9223372036854775807) (hs : Sep W w cs) (hk : Pick cs (.rd kComp (.slice A n c) xs) r) :
    Calls P 18 #[.slice A n c,.int .i64 lim] w (Rt fun v w'=>∃ R : Nat,v = .int .i64 R∧R≤1099511627776∧(R≤lim→tComps xs = R)∧Sep W w' cs):=by
  obtain ⟨rfl,hl⟩:=hs.rd_shape hk;unfold maxLen at hl;have hs:=hs.cpR hk;refine enter Tryz.func18 Tryz.ntmps18 rfl rfl fun a (ha : Has a 28 [(0,_),(1,_)])=>?_;refine wp_seq_k fun K1 hK1=>?_;refine wp_region_lit ?_;refine pY ha (yAssign rfl) fun a ha=>?_;refine pZ ?_;refine hK1 _ _ ?_;refine wp_seq_k fun K2 hK2=>?_;refine wp_region_lit ?_;refine pY ha (yAssign rfl) fun a ha=>?_;refine pZ ?_;refine hK2 _ _ ?_;refine wp_seq_k fun K3 hK3=>?_;refine wp_seq_k fun K4 hK4=>?_;refine wp_region_lit ?_;refine pY ha (yAssign rfl) fun a ha=>?_;refine pZ ?_;refine hK4 _ _ ?_;refine wp_block ?_;refine loopI (ι:=Nat × Nat) (fun i a w=>i.1≤xs.length∧i.2≤1099511627776∧(i.2≤lim→tComps (xs.take i.1) = i.2)∧Has a 28 [(0,.slice A xs.length c),(1,.int .i64 lim),(5,.int .i64 i.2),(6,.int .i64 i.1)]∧Sep W w (.rd kComp (.slice A xs.length c) xs::cs)) (fun i=>xs.length - i.1) ((0,0)) ?_ ?_
  · exact ⟨Nat.zero_le _,by simp,fun _=>rfl,has4 ha rfl rfl rfl rfl,hs⟩
  · rintro i a w ⟨h1,h2,h3,ha,hs⟩;obtain ⟨i,m⟩:=i; simp only at h1 h2 h3 ha hs;refine wp_seq_k fun K5 hK5=>?_;refine wp_seq_k fun K6 hK6=>?_;refine wp_region_lit ?_;refine pY ha (yMove rfl) fun a ha=>?_;refine pY ha (yMove rfl) fun a ha=>?_;refine pY ha (yLenS Tryz.runUnderlying52 rfl) fun a ha=>?_;refine pY ha (yLss rfl rfl) fun a ha=>?_;refine pY ha (yMove rfl) fun a ha=>?_;refine gDec (t:=11) ha rfl (fun hg4 hp4=>?_) (fun hg4 hp4=>?_)
    · rw [hg4] at ha;refine gOff ha fun a ha=>?_;refine gOff ha fun a ha=>?_;refine gOff ha fun a ha=>?_;refine pY ha (yPickF rfl rfl) fun a ha=>?_;refine pZ ?_;refine hK6 _ _ ?_;refine cFalse ha rfl ?_;refine wp_exit ?_;refine hK3 _ _ ?_;refine wp_seq_k fun K7 hK7=>?_;refine wp_region_lit ?_;refine pY ha (yMove rfl) fun a ha=>?_;refine pY ha (yAssign rfl) fun a ha=>?_;refine pZ ?_;refine hK7 _ _ ?_;refine wp_ret ?_;show bodyPost Tryz.prog Tryz.f18 _ .ret _ _;refine ret1 rfl ha rfl ?_;exact ⟨m,rfl,h2,fun hle=>by rw [← h3 hle,List.take_of_length_le (by have:=of_decide_eq_false hg4; omega)],hs.drop⟩
    · rw [hg4] at ha
      have hp4:=of_decide_eq_true hg4
      refine gOn ha ?_;refine pY ha (yMove rfl) fun a ha=>?_;refine gOn ha ?_;refine pY ha (yMove rfl) fun a ha=>?_;refine gOn ha ?_;refine pY ha (yLeq rfl rfl) fun a ha=>?_;refine pY ha (yPickT rfl rfl) fun a ha=>?_;refine pZ ?_;refine hK6 _ _ ?_;refine cDec ha rfl (fun hc15=>?_) (fun hc15=>?_)
      · obtain ⟨x,hx⟩ : ∃ x,xs[i]? = some x:=⟨_,List.getElem?_eq_getElem (by omega)⟩
        have hxz:=hsz x (List.mem_of_getElem? hx)
        have hsum:=sum_at (f:=fun x=>x.text.size + 2) hx
        obtain ⟨b0,off,rfl,hs⟩:=hs.rd_comp .here hx;refine wp_skip ?_;refine hK5 _ _ ?_;refine wp_seq_k fun K8 hK8=>?_;refine wp_block ?_;refine wp_region_lit ?_;refine pY ha (yMove rfl) fun a ha=>?_;refine pY ha (yMove rfl) fun a ha=>?_;refine pY ha (yMove rfl) fun a ha=>?_;refine pY ha (yIndexA Tryz.runUnderlying52 Tryz.sizeOf98 rfl rfl (by omega) (by omega)) fun a ha=>?_;refine pY ha (yFieldA Tryz.runUnderlying98 rfl Tryz.sizeOf9 rfl rfl) fun a ha=>?_;refine pY ha (yLoadR Tryz.isAgg9 hs rfl pk0 rfl) fun a ha=>?_;refine pY ha (yLenStr Tryz.runUnderlying9 rfl) fun a ha=>?_;refine pMake ha (bslWgt96_2_0_1 rfl rfl) hs rfl fun b w hs a ha=>?_;have hs:=hs.ints_rd (xs:=[(x.text.size : Int),2]) .here (by intro y hy; simp at hy; omega);refine pC ha (nCall Tryz.call17 rfl) rfl (Sum_c h2 (by intro y hy; simp at hy; omega) hs .here) ?_;rintro v w ⟨rfl,hs⟩ a ha;refine pY ha (yAssign rfl) fun a ha=>?_;refine pZ ?_;refine hK8 _ _ ?_;refine wp_region_lit ?_;refine pY ha (yMove rfl) fun a ha=>?_;refine pY ha (yAddN rfl rfl ⟨by omega,by omega⟩) fun a ha=>?_;refine pY ha (yAssign rfl) fun a ha=>?_;refine pZ ?_;obtain ⟨q,hq,hq1,hq2⟩:=min_nat m (s:=sumL [(x.text.size : Int),2]) (by simp only [sumL]; omega);rw [hq] at ha;refine ⟨(i + 1,q),⟨by simp only; omega,hq1,?_,has4 ha rfl rfl rfl rfl,hs.drop.drop⟩,by simp only; omega⟩;intro hle;simp only at hle ⊢
        have hq3:=hq2 (by omega)
        simp only [sumL] at hq3;unfold tComps at h3 ⊢;rw [hsum,h3 (by omega)]
        omega
      · refine wp_exit ?_;refine hK3 _ _ ?_;refine wp_seq_k fun K9 hK9=>?_;refine wp_region_lit ?_;refine pY ha (yMove rfl) fun a ha=>?_;refine pY ha (yAssign rfl) fun a ha=>?_;refine pZ ?_;refine hK9 _ _ ?_;refine wp_ret ?_;show bodyPost Tryz.prog Tryz.f18 _ .ret _ _;refine ret1 rfl ha rfl ?_;exact ⟨m,rfl,h2,fun hle=>absurd hle (by omega),hs.drop⟩
theorem WgNods_c {A : Option Addr} {n c lim : Nat} {xs : List Nod} (hlim : lim≤100000) (hsz : ∀ x ∈ xs,x.name.size≤9223372036854775807∧x.text.size≤9223372036854775807) (hs : Sep W w cs) (hk : Pick cs (.rd kNod (.slice A n c) xs) r) :
    Calls P 48 #[.slice A n c,.int .i64 lim] w (Rt fun v w'=>∃ R : Nat,v = .int .i64 R∧R≤1099511627776∧(R≤lim→tNods xs = R)∧Sep W w' cs):=by
  obtain ⟨rfl,hl⟩:=hs.rd_shape hk;unfold maxLen at hl;have hs:=hs.cpR hk;refine enter Tryz.func48 Tryz.ntmps48 rfl rfl fun a (ha : Has a 34 [(0,_),(1,_)])=>?_;refine wp_seq_k fun K1 hK1=>?_;refine wp_region_lit ?_;refine pY ha (yAssign rfl) fun a ha=>?_;refine pZ ?_;refine hK1 _ _ ?_;refine wp_seq_k fun K2 hK2=>?_;refine wp_region_lit ?_;refine pY ha (yAssign rfl) fun a ha=>?_;refine pZ ?_;refine hK2 _ _ ?_;refine wp_seq_k fun K3 hK3=>?_;refine wp_seq_k fun K4 hK4=>?_;refine wp_region_lit ?_;refine pY ha (yAssign rfl) fun a ha=>?_;refine pZ ?_;refine hK4 _ _ ?_;refine wp_block ?_;refine loopI (ι:=Nat × Nat) (fun i a w=>i.1≤xs.length∧i.2≤1099511627776∧(i.2≤lim→tNods (xs.take i.1) = i.2)∧Has a 34 [(0,.slice A xs.length c),(1,.int .i64 lim),(5,.int .i64 i.2),(6,.int .i64 i.1)]∧Sep W w (.rd kNod (.slice A xs.length c) xs::cs)) (fun i=>xs.length - i.1) ((0,0)) ?_ ?_
  · exact ⟨Nat.zero_le _,by simp,fun _=>rfl,has4 ha rfl rfl rfl rfl,hs⟩
  · rintro i a w ⟨h1,h2,h3,ha,hs⟩;obtain ⟨i,m⟩:=i; simp only at h1 h2 h3 ha hs;refine wp_seq_k fun K5 hK5=>?_;refine wp_seq_k fun K6 hK6=>?_;refine wp_region_lit ?_;refine pY ha (yMove rfl) fun a ha=>?_;refine pY ha (yMove rfl) fun a ha=>?_;refine pY ha (yLenS Tryz.runUnderlying22 rfl) fun a ha=>?_;refine pY ha (yLss rfl rfl) fun a ha=>?_;refine pY ha (yMove rfl) fun a ha=>?_;refine gDec (t:=11) ha rfl (fun hg4 hp4=>?_) (fun hg4 hp4=>?_)
    · rw [hg4] at ha;refine gOff ha fun a ha=>?_;refine gOff ha fun a ha=>?_;refine gOff ha fun a ha=>?_;refine pY ha (yPickF rfl rfl) fun a ha=>?_;refine pZ ?_;refine hK6 _ _ ?_;refine cFalse ha rfl ?_;refine wp_exit ?_;refine hK3 _ _ ?_;refine wp_seq_k fun K7 hK7=>?_;refine wp_region_lit ?_;refine pY ha (yMove rfl) fun a ha=>?_;refine pY ha (yAssign rfl) fun a ha=>?_;refine pZ ?_;refine hK7 _ _ ?_;refine wp_ret ?_;show bodyPost Tryz.prog Tryz.f48 _ .ret _ _;refine ret1 rfl ha rfl ?_;exact ⟨m,rfl,h2,fun hle=>by rw [← h3 hle,List.take_of_length_le (by have:=of_decide_eq_false hg4; omega)],hs.drop⟩
    · rw [hg4] at ha
      have hp4:=of_decide_eq_true hg4
      refine gOn ha ?_;refine pY ha (yMove rfl) fun a ha=>?_;refine gOn ha ?_;refine pY ha (yMove rfl) fun a ha=>?_;refine gOn ha ?_;refine pY ha (yLeq rfl rfl) fun a ha=>?_;refine pY ha (yPickT rfl rfl) fun a ha=>?_;refine pZ ?_;refine hK6 _ _ ?_;refine cDec ha rfl (fun hc15=>?_) (fun hc15=>?_)
      · obtain ⟨x,hx⟩ : ∃ x,xs[i]? = some x:=⟨_,List.getElem?_eq_getElem (by omega)⟩
        have hxz:=hsz x (List.mem_of_getElem? hx)
        have hsum:=sum_at (f:=fun x=>x.name.size + x.text.size + 3) hx
        obtain ⟨b0,off,rfl,hs⟩:=hs.rd_nod .here hx;refine wp_skip ?_;refine hK5 _ _ ?_;refine wp_seq_k fun K8 hK8=>?_;refine wp_block ?_;refine dStart (fun w=>Sep W w _) [13,14] 65535 8190 (by kernel_rfl) (by kernel_rfl) rfl (hs.drew) ?_
        have hs:=Sep.drew hs
        generalize World.drew _ = w at hs ⊢;refine dP 0 1 rfl ha (fun _=>yMove rfl) fun a ha=>?_;refine dP 1 3 rfl ha (fun _=>yMove rfl) fun a ha=>?_;refine dP 2 7 rfl ha (fun _=>yMove rfl) fun a ha=>?_;refine dP 3 15 rfl ha (fun _=>yIndexA Tryz.runUnderlying22 Tryz.sizeOf116 rfl rfl (by omega) (by omega)) fun a ha=>?_;refine dP 4 31 rfl ha (fun _=>yFieldA Tryz.runUnderlying116 rfl Tryz.sizeOf9 rfl rfl) fun a ha=>?_;refine dT 5 63 rfl ha (fun _ hs=>yLoadR Tryz.isAgg9 hs rfl pk0 rfl) (hs) fun a ha=>?_;refine dP 6 127 rfl ha (fun _=>yLenStr Tryz.runUnderlying9 rfl) fun a ha=>?_;refine dP 7 255 rfl ha (fun _=>yMove rfl) fun a ha=>?_;refine dP 8 511 rfl ha (fun _=>yMove rfl) fun a ha=>?_;refine dP 9 1023 rfl ha (fun _=>yIndexA Tryz.runUnderlying22 Tryz.sizeOf116 rfl rfl (by omega) (by omega)) fun a ha=>?_;refine dP 10 2047 rfl ha (fun _=>yFieldA Tryz.runUnderlying116 rfl Tryz.sizeOf9 rfl rfl) fun a ha=>?_;refine dT 11 4095 rfl ha (fun _ hs=>yLoadR Tryz.isAgg9 hs rfl pk0 rfl) (hs) fun a ha=>?_;refine dP 12 8191 rfl ha (fun _=>yLenStr Tryz.runUnderlying9 rfl) fun a ha=>?_;refine dMakel 13 16383 rfl (by kernel_rfl) rfl ha won0 (bslWgt96_3_0_1_2 rfl rfl rfl) hs rfl fun b w hs a ha=>?_;have hs:=hs.ints_rd (xs:=[(x.name.size : Int),(x.text.size : Int),3]) .here (by intro y hy; simp at hy; omega);refine dCl 14 32767 rfl (by kernel_rfl) rfl ha won0 (nCall Tryz.call17 rfl) rfl (Sum_c h2 (by intro y hy; simp at hy; omega) hs .here) ?_;rintro v w ⟨rfl,hs⟩ a ha;refine dP 15 65535 rfl ha (fun _=>yAssign rfl) fun a ha=>?_;refine dZ (by kernel_rfl) ?_;refine hK8 _ _ ?_;refine wp_region_lit ?_;refine pY ha (yMove rfl) fun a ha=>?_;refine pY ha (yAddN rfl rfl ⟨by omega,by omega⟩) fun a ha=>?_;refine pY ha (yAssign rfl) fun a ha=>?_;refine pZ ?_;obtain ⟨q,hq,hq1,hq2⟩:=min_nat m (s:=sumL [(x.name.size : Int),(x.text.size : Int),3]) (by simp only [sumL]; omega);rw [hq] at ha;refine ⟨(i + 1,q),⟨by simp only; omega,hq1,?_,has4 ha rfl rfl rfl rfl,hs.drop.drop⟩,by simp only; omega⟩;intro hle;simp only at hle ⊢
        have hq3:=hq2 (by omega)
        simp only [sumL] at hq3;unfold tNods at h3 ⊢;rw [hsum,h3 (by omega)]
        omega
      · refine wp_exit ?_;refine hK3 _ _ ?_;refine wp_seq_k fun K9 hK9=>?_;refine wp_region_lit ?_;refine pY ha (yMove rfl) fun a ha=>?_;refine pY ha (yAssign rfl) fun a ha=>?_;refine pZ ?_;refine hK9 _ _ ?_;refine wp_ret ?_;show bodyPost Tryz.prog Tryz.f48 _ .ret _ _;refine ret1 rfl ha rfl ?_;exact ⟨m,rfl,h2,fun hle=>absurd hle (by omega),hs.drop⟩
theorem WgActns_c {A : Option Addr} {n c lim : Nat} {xs : List Actn} (hlim : lim≤100000) (hsz : ∀ x ∈ xs,x.name.size≤9223372036854775807∧∀ y ∈ x.ops,y.text.size≤9223372036854775807) (hs : Sep W w cs) (hk : Pick cs (.rd kActn (.slice A n c) xs) r) :
    Calls P 5 #[.slice A n c,.int .i64 lim] w (Rt fun v w'=>∃ R : Nat,v = .int .i64 R∧R≤1099511627776∧(R≤lim→tActns xs = R)∧Sep W w' cs):=by
  obtain ⟨rfl,hl⟩:=hs.rd_shape hk;unfold maxLen at hl;have hs:=hs.cpR hk;refine enter Tryz.func5 Tryz.ntmps5 rfl rfl fun a (ha : Has a 35 [(0,_),(1,_)])=>?_;refine wp_seq_k fun K1 hK1=>?_;refine wp_region_lit ?_;refine pY ha (yAssign rfl) fun a ha=>?_;refine pZ ?_;refine hK1 _ _ ?_;refine wp_seq_k fun K2 hK2=>?_;refine wp_region_lit ?_;refine pY ha (yAssign rfl) fun a ha=>?_;refine pZ ?_;refine hK2 _ _ ?_;refine wp_seq_k fun K3 hK3=>?_;refine wp_seq_k fun K4 hK4=>?_;refine wp_region_lit ?_;refine pY ha (yAssign rfl) fun a ha=>?_;refine pZ ?_;refine hK4 _ _ ?_;refine wp_block ?_;refine loopI (ι:=Nat × Nat) (fun i a w=>i.1≤xs.length∧i.2≤1099511627776∧(i.2≤lim→tActns (xs.take i.1) = i.2)∧Has a 35 [(0,.slice A xs.length c),(1,.int .i64 lim),(5,.int .i64 i.2),(6,.int .i64 i.1)]∧Sep W w (.rd kActn (.slice A xs.length c) xs::cs)) (fun i=>xs.length - i.1) ((0,0)) ?_ ?_
  · exact ⟨Nat.zero_le _,by simp,fun _=>rfl,has4 ha rfl rfl rfl rfl,hs⟩
  · rintro i a w ⟨h1,h2,h3,ha,hs⟩;obtain ⟨i,m⟩:=i; simp only at h1 h2 h3 ha hs;refine wp_seq_k fun K5 hK5=>?_;refine wp_seq_k fun K6 hK6=>?_;refine wp_region_lit ?_;refine pY ha (yMove rfl) fun a ha=>?_;refine pY ha (yMove rfl) fun a ha=>?_;refine pY ha (yLenS Tryz.runUnderlying27 rfl) fun a ha=>?_;refine pY ha (yLss rfl rfl) fun a ha=>?_;refine pY ha (yMove rfl) fun a ha=>?_;refine gDec (t:=11) ha rfl (fun hg4 hp4=>?_) (fun hg4 hp4=>?_)
    · rw [hg4] at ha;refine gOff ha fun a ha=>?_;refine gOff ha fun a ha=>?_;refine gOff ha fun a ha=>?_;refine pY ha (yPickF rfl rfl) fun a ha=>?_;refine pZ ?_;refine hK6 _ _ ?_;refine cFalse ha rfl ?_;refine wp_exit ?_;refine hK3 _ _ ?_;refine wp_seq_k fun K7 hK7=>?_;refine wp_region_lit ?_;refine pY ha (yMove rfl) fun a ha=>?_;refine pY ha (yAssign rfl) fun a ha=>?_;refine pZ ?_;refine hK7 _ _ ?_;refine wp_ret ?_;show bodyPost Tryz.prog Tryz.f5 _ .ret _ _;refine ret1 rfl ha rfl ?_;exact ⟨m,rfl,h2,fun hle=>by rw [← h3 hle,List.take_of_length_le (by have:=of_decide_eq_false hg4; omega)],hs.drop⟩
    · rw [hg4] at ha
      have hp4:=of_decide_eq_true hg4
      refine gOn ha ?_;refine pY ha (yMove rfl) fun a ha=>?_;refine gOn ha ?_;refine pY ha (yMove rfl) fun a ha=>?_;refine gOn ha ?_;refine pY ha (yLeq rfl rfl) fun a ha=>?_;refine pY ha (yPickT rfl rfl) fun a ha=>?_;refine pZ ?_;refine hK6 _ _ ?_;refine cDec ha rfl (fun hc15=>?_) (fun hc15=>?_)
      · obtain ⟨x,hx⟩ : ∃ x,xs[i]? = some x:=⟨_,List.getElem?_eq_getElem (by omega)⟩
        have hxz:=hsz x (List.mem_of_getElem? hx)
        have hsum:=sum_at (f:=fun x=>x.name.size + tComps x.ops + 3) hx
        obtain ⟨b0,off,A',n',c',rfl,hs⟩:=hs.rd_actn .here hx;refine wp_skip ?_;refine hK5 _ _ ?_;refine wp_seq_k fun K8 hK8=>?_;refine wp_block ?_;refine dStart (fun w=>Sep W w _) [14,15] 131071 16382 (by kernel_rfl) (by kernel_rfl) rfl (hs.drew) ?_
        have hs:=Sep.drew hs
        generalize World.drew _ = w at hs ⊢;refine dP 0 1 rfl ha (fun _=>yMove rfl) fun a ha=>?_;refine dP 1 3 rfl ha (fun _=>yMove rfl) fun a ha=>?_;refine dP 2 7 rfl ha (fun _=>yMove rfl) fun a ha=>?_;refine dP 3 15 rfl ha (fun _=>yIndexA Tryz.runUnderlying27 Tryz.sizeOf54 rfl rfl (by omega) (by omega)) fun a ha=>?_;refine dP 4 31 rfl ha (fun _=>yFieldA Tryz.runUnderlying54 rfl Tryz.sizeOf9 rfl rfl) fun a ha=>?_;refine dT 5 63 rfl ha (fun _ hs=>yLoadR Tryz.isAgg9 hs rfl pk0 rfl) (hs) fun a ha=>?_;refine dP 6 127 rfl ha (fun _=>yLenStr Tryz.runUnderlying9 rfl) fun a ha=>?_;refine dP 7 255 rfl ha (fun _=>yMove rfl) fun a ha=>?_;refine dP 8 511 rfl ha (fun _=>yMove rfl) fun a ha=>?_;refine dP 9 1023 rfl ha (fun _=>yIndexA Tryz.runUnderlying27 Tryz.sizeOf54 rfl rfl (by omega) (by omega)) fun a ha=>?_;refine dP 10 2047 rfl ha (fun _=>yFieldA Tryz.runUnderlying54 rfl Tryz.sizeOf52 rfl rfl) fun a ha=>?_;refine dT 11 4095 rfl ha (fun _ hs=>yLoadR Tryz.isAgg52 hs rfl pk0 rfl) (hs) fun a ha=>?_;refine dP 12 8191 rfl ha (fun _=>yMove rfl) fun a ha=>?_;refine dC 13 16383 rfl (by kernel_rfl) rfl ha won0 (nCall Tryz.call18 rfl) rfl (WgComps_c hlim hxz.2 hs (.there .here)) ?_;rintro v w ⟨R,rfl,hR1,hR2,hs⟩;refine ⟨hs,fun a ha=>?_⟩;refine dMakel 14 32767 rfl (by kernel_rfl) rfl ha won0 (bslWgt96_3_0_1_2 rfl rfl rfl) hs rfl fun b w hs a ha=>?_;have hs:=hs.ints_rd (xs:=[(x.name.size : Int),(R : Int),3]) .here (by intro y hy; simp at hy; omega);refine dCl 15 65535 rfl (by kernel_rfl) rfl ha won0 (nCall Tryz.call17 rfl) rfl (Sum_c h2 (by intro y hy; simp at hy; omega) hs .here) ?_;rintro v w ⟨rfl,hs⟩ a ha;refine dP 16 131071 rfl ha (fun _=>yAssign rfl) fun a ha=>?_;refine dZ (by kernel_rfl) ?_;refine hK8 _ _ ?_;refine wp_region_lit ?_;refine pY ha (yMove rfl) fun a ha=>?_;refine pY ha (yAddN rfl rfl ⟨by omega,by omega⟩) fun a ha=>?_;refine pY ha (yAssign rfl) fun a ha=>?_;refine pZ ?_;obtain ⟨q,hq,hq1,hq2⟩:=min_nat m (s:=sumL [(x.name.size : Int),(R : Int),3]) (by simp only [sumL]; omega);rw [hq] at ha;refine ⟨(i + 1,q),⟨by simp only; omega,hq1,?_,has4 ha rfl rfl rfl rfl,hs.drop.drop.drop⟩,by simp only; omega⟩;intro hle;simp only at hle ⊢
        have hq3:=hq2 (by omega)
        simp only [sumL] at hq3;unfold tActns at h3 ⊢;rw [hsum,h3 (by omega)];rw [hR2 (by omega)]; omega
      · refine wp_exit ?_;refine hK3 _ _ ?_;refine wp_seq_k fun K9 hK9=>?_;refine wp_region_lit ?_;refine pY ha (yMove rfl) fun a ha=>?_;refine pY ha (yAssign rfl) fun a ha=>?_;refine pZ ?_;refine hK9 _ _ ?_;refine wp_ret ?_;show bodyPost Tryz.prog Tryz.f5 _ .ret _ _;refine ret1 rfl ha rfl ?_;exact ⟨m,rfl,h2,fun hle=>absurd hle (by omega),hs.drop⟩
end
end Go.Proofs.YtldgdjilchnceaaGreatDoor

set_option linter.unusedVariables false
set_option linter.unusedSimpArgs false
namespace Go.Proofs.YtldgdjilchnceaaGreatDoor
open Go.RowKit Go.Lib
structure Item where
  kind : Int
  n : Int
  text : ByteArray
  flag : Bool
  comps : List Comp
  acts : List Actn
  nods : List Nod
theorem wNum_len (st : Wt) (n : Int) : (wNum st n).1.length≤st.1.length + 6:=by have:=put_six n; simp [wNum]; omega
theorem wText_len (st : Wt) (s : ByteArray) : (wText st s).1.length≤st.1.length + 6 + s.size:=by
  have h:=wNum_len (st.1,st.2 || !okText s.data.toList) s.size
  have : s.data.toList.length = s.size:=by simp
  simp only [wText,List.length_append]; simp only at h; omega
theorem fold_len {α : Type} {f : Wt→α→Wt} {g : α→Nat} {k : Nat} (h : ∀ st x,(f st x).1.length≤st.1.length + k * g x) : ∀ (l : List α) (st : Wt),(l.foldl f st).1.length≤st.1.length + k * (l.map g).sum
  | [],st=>by simp
  | x::r,st=>by
    have h1:=h st x; have h2:=fold_len h r (f st x)
    simp only [List.foldl_cons,List.map_cons,List.sum_cons,Nat.mul_add]; omega
theorem wComp_len (st : Wt) (x : Comp) : (wComp st x).1.length≤st.1.length + 9 * (x.text.size + 2):=by
  have h1:=wNum_len st x.kind; have h2:=wNum_len (wNum st x.kind) x.n; have h3:=wText_len (wNum (wNum st x.kind) x.n) x.text
  unfold wComp; omega
theorem wComps_len (st : Wt) (l : List Comp) : (wComps st l).1.length≤st.1.length + 6 + 9 * tComps l:=by
  have h1:=wNum_len st l.length; have h2:=fold_len (g:=fun x : Comp=>x.text.size + 2) wComp_len l (wNum st l.length)
  unfold wComps tComps; omega
theorem wNod_len (st : Wt) (x : Nod) : (wNod st x).1.length≤st.1.length + 12 * (x.name.size + x.text.size + 3):=by
  have h1:=wNum_len st x.id; have h2:=wNum_len (wNum st x.id) x.parent; have h3:=wText_len (wNum (wNum st x.id) x.parent) x.name
  have h4:=wNum_len (wText (wNum (wNum st x.id) x.parent) x.name) (if x.dir then 1 else 0); have h5:=wText_len (wFlag (wText (wNum (wNum st x.id) x.parent) x.name) x.dir) x.text
  unfold wNod; unfold wFlag at h5 ⊢; omega
theorem wNods_len (st : Wt) (l : List Nod) : (wNods st l).1.length≤st.1.length + 6 + 12 * tNods l:=by
  have h1:=wNum_len st l.length; have h2:=fold_len (g:=fun x : Nod=>x.name.size + x.text.size + 3) wNod_len l (wNum st l.length)
  unfold wNods tNods; omega
theorem wActn_len (st : Wt) (x : Actn) : (wActn st x).1.length≤st.1.length + 12 * (x.name.size + tComps x.ops + 3):=by
  have h1:=wNum_len st x.kind; have h2:=wNum_len (wNum st x.kind) x.id; have h3:=wNum_len (wNum (wNum st x.kind) x.id) x.parent; have h4:=wText_len (wNum (wNum (wNum st x.kind) x.id) x.parent) x.name
  have h5:=wNum_len (wText (wNum (wNum (wNum st x.kind) x.id) x.parent) x.name) (if x.dir then 1 else 0); have h6:=wComps_len (wFlag (wText (wNum (wNum (wNum st x.kind) x.id) x.parent) x.name) x.dir) x.ops
  unfold wActn; unfold wFlag at h6 ⊢; omega
theorem wActns_len (st : Wt) (l : List Actn) : (wActns st l).1.length≤st.1.length + 6 + 12 * tActns l:=by
  have h1:=wNum_len st l.length; have h2:=fold_len (g:=fun x : Actn=>x.name.size + tComps x.ops + 3) wActn_len l (wNum st l.length)
  unfold wActns tActns; omega
section
variable {W w : World} {cs r r2 : List Ch} {p : Nat} {st : Wt}
end
end Go.Proofs.YtldgdjilchnceaaGreatDoor

set_option linter.unusedVariables false
set_option linter.unusedSimpArgs false
set_option maxRecDepth 100000
namespace Go.Proofs.YtldgdjilchnceaaGreatDoor
open Go.ChangeShapes Go.WideShapes Go.ChangeAt Go.RowKit
section
variable {H : Type} {enc : TypeId × Value→H} {P : Program} {W : World}
/-- What a world that began as W holds for reading. -/
def Old (W : World) (p : Hp→Prop) : Prop:=∀ Z : Hp,(∀ i,i < W.heap.size→Z i = W.heap[i]?)→p Z
theorem given_sl {α : Type} {d : Kd α} {ok : α→Prop} {t e : TypeId} {fuel : Nat} {cs : List Value} {y : DataW H × List MemPlace} (ht : P.underlying t = some (.slice e)) (hc : P.cellsOf e = d.sz) (hpos : 0 < d.sz)
    (hE : ∀ n cs y,DataW.trod enc P W 0 (fun _=>true) true n e cs = some y→∃ x : α,ok x∧Old W (fun Z=>d.R Z x cs))
    (h : DataW.trod enc P W 0 (fun _=>true) true fuel t cs = some y) :
    ∃ A n c xs,cs = [.slice A n c]∧Old W (fun Z=>d.sl Z (.slice A n c) xs)∧∀ x ∈ xs,ok x:=by
  rcases DataW.trod_slice ht h with ⟨rfl,_⟩ | ⟨a,len,cap,elems,rest,n,_,rfl,_,hb,hl,hm,hlen,hel,_⟩
  · exact ⟨none,0,0,[],rfl,fun Z _=>⟨none,0,rfl,Nat.le_refl _,Nat.zero_le _,fun h=>absurd h (by simp)⟩,fun x h=>(by cases h)⟩
  · rw [hc] at hel
    have each : ∀ i : Fin len,∃ x : α,ok x∧∃ ci,W.cells? 0 (a.add (i.val * d.sz)) d.sz = some ci∧Old W (fun Z=>d.R Z x ci):=fun i=>by
      have h1:=hel i.val i.isLt
      have h2 : elems[i.val]? = some (elems[i.val]'(by omega)):=List.getElem?_eq_getElem (by omega)
      rw [h2,Option.bind_eq_some_iff] at h1;obtain ⟨ci,hci,htr⟩:=h1;obtain ⟨x,hx,hR⟩:=hE _ _ _ htr;exact ⟨x,hx,ci,hci,hR⟩
    let xs : List α:=List.ofFn fun i : Fin len=>(each i).choose
    have hxl : xs.length = len:=by simp [xs]
    have hxs : ∀ i x,xs[i]? = some x→∃ hi : i < len,x = (each ⟨i,hi⟩).choose:=fun i x hx=>by
      have hi : i < len:=by rw [← hxl]; exact (List.getElem?_eq_some_iff.1 hx).1
      refine ⟨hi,?_⟩
      have:=(List.getElem?_eq_some_iff.1 hx).2
      simp only [xs,List.getElem_ofFn] at this;exact this.symm
    have h0 : ∀ i (hi : i < len) j (hj : j < d.sz),∃ ci,W.cells? 0 (a.add (i * d.sz)) d.sz = some ci:=fun i hi j hj=>by
      obtain ⟨_,ci,hci,_⟩:=(each ⟨i,hi⟩).choose_spec;exact ⟨ci,hci⟩
    refine ⟨some a,len,cap,xs,rfl,fun Z hZ=>⟨some a,cap,by rw [hxl],by rw [hxl]; exact hl,hm,fun hp=>?_⟩,fun x hx=>?_⟩
    · obtain ⟨ab,ao,spot⟩:=a
      have hp' : 0 < len:=by rw [← hxl]; exact hp
      obtain ⟨_,ci,hci,_⟩:=(each ⟨0,hp'⟩).choose_spec;obtain ⟨g1,g2,g3⟩:=World.cells?_some hci
      have hc0:=g3 0 hpos
      rw [List.getElem?_eq_getElem (by omega)] at hc0
      have hspot : spot = none:=by simpa [Addr.add] using World.cell?_spot hc0
      subst hspot;rw [add_at,add_at] at hc0
      cases hb : W.heap[ab]? with
      | none=>simp [World.cell?,hb] at hc0
      | some o=>
        cases o with
        | cells arr T fr=>
          have hlt : ab < W.heap.size:=(Array.getElem?_eq_some_iff.1 hb).1
          refine ⟨ab,ao,arr,T,fr,rfl,by rw [hZ ab hlt]; exact hb,fun i x hx=>?_⟩;obtain ⟨hi,rfl⟩:=hxs i x hx;obtain ⟨_,ci2,hci2,hR⟩:=(each ⟨i,hi⟩).choose_spec;obtain ⟨_,k2,k3⟩:=World.cells?_some hci2;refine ⟨ci2,hR Z hZ,fun j u hj=>?_⟩
          have hj' : j < d.sz:=by rw [← k2]; exact (List.getElem?_eq_some_iff.1 hj).1
          have:=k3 j hj'
          rw [add_at,add_at,hj] at this
          simpa [World.cell?,hb] using this
        | _=>simp [World.cell?,hb] at hc0
    · obtain ⟨i,hi⟩:=List.mem_iff_getElem?.1 hx;obtain ⟨hl2,rfl⟩:=hxs i x hi;exact (each ⟨i,hl2⟩).choose_spec.1
theorem st_field {t n : Nat} {fs : Array Field} {cs : List Value} {y : DataW H × List MemPlace} (ht : P.underlying t = some (.struct fs)) (h : DataW.trod enc P W 0 (fun _=>true) true n t cs = some y) :
    cs.length = P.cellsOf t∧∃ m,∀ (i : Nat) (f : Field),fs[i]? = some f→∃ z,DataW.trod enc P W 0 (fun _=>true) true m f.type ((cs.drop f.offset).take (P.cellsOf f.type)) = some z:=by
  obtain ⟨xs,m,_,_,hl,hsz,hf⟩:=DataW.trod_struct ht h;refine ⟨hl,m,fun i (f : Field) hi=>?_⟩
  have h1 : i < fs.size:=(Array.getElem?_eq_some_iff.1 hi).1
  exact ⟨xs[i]'(by omega),by rw [hf i f hi]; exact List.getElem?_eq_getElem (by omega)⟩
end
section
variable {H : Type} {enc : TypeId × Value→H} {W : World}
theorem k_int : Tryz.prog.cellsOf 3 = 1:=by kernel_rfl
theorem k_str : Tryz.prog.cellsOf 9 = 1:=by kernel_rfl
theorem k_bool : Tryz.prog.cellsOf 4 = 1:=by kernel_rfl
theorem k_comps : Tryz.prog.cellsOf 52 = 1:=by kernel_rfl
theorem k_acts : Tryz.prog.cellsOf 27 = 1:=by kernel_rfl
theorem k_nods : Tryz.prog.cellsOf 22 = 1:=by kernel_rfl
theorem big : maxLen≤9223372036854775807:=by unfold maxLen; omega
end
end Go.Proofs.YtldgdjilchnceaaGreatDoor

set_option linter.unusedVariables false
set_option linter.unusedSimpArgs false
namespace Go.Proofs.YtldgdjilchnceaaGreatDoor
open Go.RowKit Go.Lib
structure Cmt where
  rev : Int
  client : Int
  seq : Int
  acts : List Actn
structure Msg where
  kind : Int
  client : Int
  seq : Int
  rev : Int
  code : Int
  acts : List Actn
  commits : List Cmt
  nodes : List Nod
  last : Int
instance decComp : DecidableEq Comp:=fun a b=>
  if h : a.kind = b.kind∧a.n = b.n∧a.text = b.text then .isTrue (by obtain ⟨h1,h2,h3⟩:=h; cases a; cases b; simp_all) else .isFalse (by rintro rfl; exact h ⟨rfl,rfl,rfl⟩)
instance decActn : DecidableEq Actn:=fun a b=>
  if h : a.kind = b.kind∧a.id = b.id∧a.parent = b.parent∧a.name = b.name∧a.dir = b.dir∧a.ops = b.ops then .isTrue (by obtain ⟨h1,h2,h3,h4,h5,h6⟩:=h; cases a; cases b; simp_all) else .isFalse (by rintro rfl; exact h ⟨rfl,rfl,rfl,rfl,rfl,rfl⟩)
instance decNod : DecidableEq Nod:=fun a b=>
  if h : a.id = b.id∧a.parent = b.parent∧a.name = b.name∧a.dir = b.dir∧a.text = b.text then .isTrue (by obtain ⟨h1,h2,h3,h4,h5⟩:=h; cases a; cases b; simp_all) else .isFalse (by rintro rfl; exact h ⟨rfl,rfl,rfl,rfl,rfl⟩)
instance decCmt : DecidableEq Cmt:=fun a b=>
  if h : a.rev = b.rev∧a.client = b.client∧a.seq = b.seq∧a.acts = b.acts then .isTrue (by obtain ⟨h1,h2,h3,h4⟩:=h; cases a; cases b; simp_all) else .isFalse (by rintro rfl; exact h ⟨rfl,rfl,rfl,rfl⟩)
instance decMsg : DecidableEq Msg:=fun a b=>
  if h : a.kind = b.kind∧a.client = b.client∧a.seq = b.seq∧a.rev = b.rev∧a.code = b.code∧a.acts = b.acts∧a.commits = b.commits∧a.nodes = b.nodes∧a.last = b.last then .isTrue (by obtain ⟨h1,h2,h3,h4,h5,h6,h7,h8,h9⟩:=h; cases a; cases b; simp_all) else .isFalse (by rintro rfl; exact h ⟨rfl,rfl,rfl,rfl,rfl,rfl,rfl,rfl,rfl⟩)
/-- g holds of all numbers below n. -/
def allN (g : Nat→Bool) : Nat→Bool
  | 0=>true
  | n + 1=>allN g n && g n
theorem allN_mono {g : Nat→Bool} : ∀ {n m : Nat},n≤m→allN g m = true→allN g n = true
  | n,0,h,h1=>(by omega : n = 0) ▸ h1
  | n,m + 1,h,h1=>by
    rcases Nat.lt_or_ge m n with h2 | h2
    · obtain rfl : n = m + 1:=by omega
      exact h1
    · simp only [allN,Bool.and_eq_true] at h1;exact allN_mono h2 h1.1
theorem allN_no {g : Nat→Bool} {i n : Nat} (hi : i < n) (h : g i = false) : allN g n = false:=by
  cases h1 : allN g n with
  | false=>rfl
  | true=>
    have:=allN_mono (Nat.succ_le_of_lt hi) h1
    simp only [allN,h,Bool.and_false] at this
    cases this
theorem allN_iff {g : Nat→Bool} : ∀ {n : Nat},allN g n = true ↔ ∀ i,i < n→g i = true
  | 0=>⟨fun _ i h=>absurd h (by omega),fun _=>rfl⟩
  | n + 1=>by
    simp only [allN,Bool.and_eq_true,allN_iff (n:=n)]
    exact ⟨fun ⟨h1,h2⟩ i hi=>by
      rcases Nat.lt_or_ge i n with h | h
      · exact h1 i h
      · obtain rfl : i = n:=by omega
        exact h2,fun h=>⟨fun i hi=>h i (by omega),h n (by omega)⟩⟩
/-- The first error of f among the numbers below n. -/
def fe (f : Nat→Int) : Nat→Int
  | 0=>0
  | n + 1=>if fe f n ≠ 0 then fe f n else f n
theorem fe_at {f : Nat→Int} {i : Nat} (h0 : fe f i = 0) (h : f i ≠ 0) : ∀ {n : Nat},i < n→fe f n = f i
  | 0,hi=>absurd hi (by omega)
  | n + 1,hi=>by
    rcases Nat.lt_or_ge i n with h2 | h2
    · have:=fe_at h0 h h2
      simp only [fe]; rw [this,if_pos h]
    · obtain rfl : i = n:=by omega
      simp only [fe]; rw [h0]; simp
theorem fe_next {f : Nat→Int} {i : Nat} (h0 : fe f i = 0) (h : f i = 0) : fe f (i + 1) = 0:=by
  simp only [fe]; rw [h0]; simpa using h
theorem fe_zero {f : Nat→Int} : ∀ {n : Nat},fe f n = 0→∀ i,i < n→f i = 0
  | 0,_,i,hi=>absurd hi (by omega)
  | n + 1,h,i,hi=>by
    simp only [fe] at h
    split at h
    · rename_i h1; exact absurd h h1
    · rename_i h1
      rcases Nat.lt_or_ge i n with h2 | h2
      · exact fe_zero (by simpa using h1) i h2
      · obtain rfl : i = n:=by omega
        exact h
/-- How many bytes begin a code point. -/
def cnt (l : List UInt8) : Nat:=l.countP fun b=>b.toNat / 64 != 2
def letter (b : UInt8) : Bool:=decide (97≤b.toNat∧b.toNat≤122) || decide (48≤b.toNat∧b.toNat≤57) || decide (b.toNat = 46) || decide (b.toNat = 45) || decide (b.toNat = 95)
def nameOk (s : ByteArray) : Bool:=s.data.toList.all letter && decide (1≤s.size) && decide (s.size≤20) && !decide (s = ⟨#[46]⟩) && !decide (s = ⟨#[46,46]⟩)
def emp : ByteArray:=⟨#[]⟩
def sndC (c : Comp) : Bool:=if c.kind = 2 then decide (c.n = 0) && !decide (c.text = emp) && okText c.text.data.toList else if c.kind = 1∨c.kind = 3 then decide (c.n > 0) && decide (c.text = emp) else false
def noC : Comp:=⟨0,0,emp⟩
def goodC (l : List Comp) (i : Nat) : Bool:=sndC (l.getD i noC) && (decide (i = 0) || !(decide ((l.getD (i - 1) noC).kind = (l.getD i noC).kind) || decide ((l.getD (i - 1) noC).kind = 3) && decide ((l.getD i noC).kind = 2)))
def normC (l : List Comp) : Bool:=allN (goodC l) l.length
def addC (n x : Int) : Int:=if x > 1099511627776 - n then 1099511627776 else n + x
def baseC : List Comp→Int→Int
  | [],n=>n
  | c::r,n=>baseC r (if c.kind = 1∨c.kind = 3 then addC n (max c.n 0) else n)
def outC : List Comp→Int→Int
  | [],n=>n
  | c::r,n=>outC r (if c.kind = 1 then addC n (max c.n 0) else if c.kind = 2 then addC n (cnt c.text.data.toList) else n)
def opE (l : List Comp) : Int:=if l.length > 100 then 3 else if normC l = false then 1 else if baseC l 0 > 2000∨outC l 0 > 2000 then 3 else 0
def plainA (a : Actn) : Actn :=
  if a.kind = 1 then ⟨a.kind,a.id,a.parent,a.name,a.dir,[]⟩
  else if a.kind = 2 then ⟨a.kind,a.id,0,emp,false,[]⟩
  else if a.kind = 3 then ⟨a.kind,a.id,a.parent,a.name,false,[]⟩
  else if a.kind = 4 then ⟨a.kind,a.id,0,emp,false,a.ops⟩
  else ⟨a.kind,0,0,emp,false,[]⟩
def badA (a : Actn) : Prop:=a.kind < 1∨a.kind > 4∨a ≠ plainA a∨a.id < 1∨a.id > 1099511627776∨a.parent < 0∨a.parent > 1099511627776∨((a.kind = 1∨a.kind = 3)∧nameOk a.name = false)
instance (a : Actn) : Decidable (badA a):=by unfold badA; infer_instance
def oneE (a : Actn) : Int:=if badA a then 1 else if a.kind = 4 then opE a.ops else 0
def noA : Actn:=⟨0,0,0,emp,false,[]⟩
def twinA (l : List Actn) (a : Actn) : Bool:=l.any fun b=>decide (b.kind = 4∧b.id = a.id)
def actE (l : List Actn) (i : Nat) : Int:=if oneE (l.getD i noA) ≠ 0 then oneE (l.getD i noA) else if (l.getD i noA).kind = 4∧twinA (l.take i) (l.getD i noA) = true then 1 else 0
def putsC : List Comp→Nat
  | []=>0
  | c::r=>(if c.kind = 2 then cnt c.text.data.toList else 0) + putsC r
def putsA : List Actn→Nat
  | []=>0
  | a::r=>putsC a.ops + putsA r
def txnE (l : List Actn) : Int:=if l.length > 20 then 3 else if fe (actE l) l.length ≠ 0 then fe (actE l) l.length else if putsA l > 2000 then 3 else 0
def noN : Nod:=⟨0,0,emp,false,emp⟩
def sndN (x : Nod) : Bool:=decide (1≤x.id) && decide (x.id≤1099511627776) && nameOk x.name && okText x.text.data.toList && decide (cnt x.text.data.toList≤2000) && (!x.dir || decide (x.text = emp))
def findN (l : List Nod) (id : Int) : Nod:=(l.find? fun x=>decide (x.id = id)).getD noN
/-- From a node on: so many steps lead to the root. -/
def rooted (l : List Nod) : Nat→Int→Bool
  | 0,id=>decide (id = 0)
  | k + 1,id=>decide (id = 0) || rooted l k (findN l id).parent
def goodN (l : List Nod) (i : Nat) : Bool:=sndN (l.getD i noN) && decide ((if i = 0 then 0 else (l.getD (i - 1) noN).id) < (l.getD i noN).id)
def standN (l : List Nod) (x : Nod) : Bool:=(decide (x.parent = 0) || (findN l x.parent).dir) && rooted l l.length x.id
def keyN (x : Nod) : Int × ByteArray:=(x.parent,x.name)
def sumN : List Nod→Nat
  | []=>0
  | x::r=>cnt x.text.data.toList + sumN r
def aloneN (l : List Nod) (i : Nat) : Bool:=!((l.take i).any fun y=>decide (keyN y = keyN (l.getD i noN)))
def loadOk (l : List Nod) : Bool:=allN (goodN l) l.length && allN (fun i=>standN l (l.getD i noN)) l.length && allN (aloneN l) l.length && decide (l.length≤100) && decide (sumN l≤10000)
def plainM (m : Msg) : Msg :=
  if m.kind = 1 then ⟨m.kind,m.client,0,0,0,[],[],[],0⟩
  else if m.kind = 2 then ⟨m.kind,m.client,m.seq,m.rev,m.code,m.acts,[],[],0⟩
  else if m.kind = 3 then ⟨m.kind,m.client,0,m.rev,0,[],[],[],0⟩
  else if m.kind = 4 then ⟨m.kind,m.client,0,m.rev,0,[],[],[],m.last⟩
  else if m.kind = 5 then ⟨m.kind,m.client,m.seq,m.rev,0,[],[],[],0⟩
  else if m.kind = 6 then ⟨m.kind,m.client,m.seq,0,m.code,[],[],[],0⟩
  else if m.kind = 7 then ⟨m.kind,0,0,m.rev,0,[],m.commits,[],0⟩
  else if m.kind = 8 then ⟨m.kind,0,0,m.rev,0,[],[],m.nodes,0⟩
  else if m.kind = 9 then ⟨m.kind,0,0,0,m.code,[],[],[],0⟩
  else ⟨m.kind,0,0,0,0,[],[],[],0⟩
def nodsE (l : List Nod) : Int:=if l.length > 100 then 3 else if loadOk l = true then 0 else 1
def kCmt : Kd Cmt where
  sz:=4
  R:=fun Z x cs=>∃ A n c,cs = [.int .i64 x.rev,.int .i64 x.client,.int .i64 x.seq,.slice A n c]∧kActn.sl Z (.slice A n c) x.acts
  mono:=fun h ⟨A,n,c,e,hs⟩=>⟨A,n,c,e,Kd.sl_mono kActn h hs⟩
  len:=fun ⟨A,n,c,h,_⟩=>by subst h; rfl
  one:=fun ⟨A,n,c,h,_⟩ u hu=>by subst h; simp at hu; rcases hu with rfl | rfl | rfl | rfl <;> rfl
def kMsg : Kd Msg where
  sz:=9
  R:=fun Z x cs=>∃ A n c A' n' c' B m d,cs = [.int .i64 x.kind,.int .i64 x.client,.int .i64 x.seq,.int .i64 x.rev,.int .i64 x.code,.slice A n c,.slice A' n' c',.slice B m d,.int .i64 x.last]∧kActn.sl Z (.slice A n c) x.acts∧kCmt.sl Z (.slice A' n' c') x.commits∧kNod.sl Z (.slice B m d) x.nodes
  mono:=fun h ⟨A,n,c,A',n',c',B,m,d,e,h1,h2,h3⟩=>⟨A,n,c,A',n',c',B,m,d,e,Kd.sl_mono kActn h h1,Kd.sl_mono kCmt h h2,Kd.sl_mono kNod h h3⟩
  len:=fun ⟨A,n,c,A',n',c',B,m,d,h,_⟩=>by subst h; rfl
  one:=fun ⟨A,n,c,A',n',c',B,m,d,h,_⟩ u hu=>by subst h; simp at hu; rcases hu with rfl | rfl | rfl | rfl | rfl | rfl | rfl | rfl | rfl <;> rfl
section
variable {W w : World} {cs r : List Ch}
theorem Sep.rd_cmt {A : Option Addr} {n c i : Nat} {xs : List Cmt} {x : Cmt} (h : Sep W w cs) (hk : Pick cs (.rd kCmt (.slice A n c) xs) r) (hx : xs[i]? = some x) :
    ∃ b off A' n' c',A = some ⟨b,off,none⟩∧Sep W w (.at b (off + i * 4) [.int .i64 x.rev,.int .i64 x.client,.int .i64 x.seq,.slice A' n' c']::.rd kActn (.slice A' n' c') x.acts::cs):=by
  obtain ⟨b,off,c',es,he,hl,hs⟩:=h.rd_at hk hx;simp only [Value.slice.injEq] at he;obtain ⟨A',n',c2,hes⟩ : ∃ A' n' c2,es = [.int .i64 x.rev,.int .i64 x.client,.int .i64 x.seq,.slice A' n' c2]:=hs.know (.there .here) (fun Z _ ⟨A,n,c,e,_⟩=>⟨A,n,c,e⟩);subst hes
  have h2:=hs.perm (List.Perm.swap _ _ _)
  have h3:=h2.imp (x:=.rd kActn (.slice A' n' c2) x.acts) (fun Z _ _ hp=>by
    obtain ⟨A,n,c,e,hsl⟩:=hp;simp only [List.cons.injEq,Value.slice.injEq] at e;obtain ⟨_,_,_,⟨rfl,rfl,rfl⟩,_⟩:=e
    exact hsl)
  exact ⟨b,off,A',n',c2,he.1,h3.perm (List.Perm.swap _ _ _)⟩
/-- A message's cells. -/
theorem Sep.el_msg {es : List Value} {x : Msg} (h : Sep W w cs) (hk : Pick cs (.el kMsg x es) r) :
    ∃ A n c A' n' c' B m d,es = [.int .i64 x.kind,.int .i64 x.client,.int .i64 x.seq,.int .i64 x.rev,.int .i64 x.code,.slice A n c,.slice A' n' c',.slice B m d,.int .i64 x.last] ∧
      Sep W w (.rd kActn (.slice A n c) x.acts::.rd kCmt (.slice A' n' c') x.commits::.rd kNod (.slice B m d) x.nodes::cs):=by
  obtain ⟨A,n,c,A',n',c',B,m,d,hes⟩ : ∃ A n c A' n' c' B m d,es = [.int .i64 x.kind,.int .i64 x.client,.int .i64 x.seq,.int .i64 x.rev,.int .i64 x.code,.slice A n c,.slice A' n' c',.slice B m d,.int .i64 x.last] :=
    h.know hk (fun Z _ ⟨A,n,c,A',n',c',B,m,d,e,_⟩=>⟨A,n,c,A',n',c',B,m,d,e⟩)
  subst hes
  have key : ∀ Z : Hp,kMsg.R Z x [.int .i64 x.kind,.int .i64 x.client,.int .i64 x.seq,.int .i64 x.rev,.int .i64 x.code,.slice A n c,.slice A' n' c',.slice B m d,.int .i64 x.last]→kActn.sl Z (.slice A n c) x.acts∧kCmt.sl Z (.slice A' n' c') x.commits∧kNod.sl Z (.slice B m d) x.nodes:=fun Z hp=>by
    obtain ⟨A,n,c,A',n',c',B,m,d,e,h1,h2,h3⟩:=hp;simp only [List.cons.injEq,Value.slice.injEq] at e;obtain ⟨_,_,_,_,_,⟨rfl,rfl,rfl⟩,⟨rfl,rfl,rfl⟩,⟨rfl,rfl,rfl⟩,_⟩:=e;exact ⟨h1,h2,h3⟩
  refine ⟨A,n,c,A',n',c',B,m,d,rfl,?_⟩
  have h1:=h.with_ro (q:=fun Z=>kNod.sl Z (.slice B m d) x.nodes) (m':=fun _ _ h=>Kd.sl_mono kNod h) hk fun Z hp=>(key Z hp).2.2
  have h2:=h1.with_ro (q:=fun Z=>kCmt.sl Z (.slice A' n' c') x.commits) (m':=fun _ _ h=>Kd.sl_mono kCmt h) (.there hk) fun Z hp=>(key Z hp).2.1
  exact h2.with_ro (q:=fun Z=>kActn.sl Z (.slice A n c) x.acts) (m':=fun _ _ h=>Kd.sl_mono kActn h) (.there (.there hk)) fun Z hp=>(key Z hp).1
/-- A message out of its slices. -/
theorem Sep.mk_msg {A A' B : Option Addr} {n c n' c' m d : Nat} {x : Msg} {r1 r2 r3 : List Ch} (h : Sep W w cs) (h1 : Pick cs (.rd kActn (.slice A n c) x.acts) r1) (h2 : Pick r1 (.rd kCmt (.slice A' n' c') x.commits) r2) (h3 : Pick r2 (.rd kNod (.slice B m d) x.nodes) r3) :
    Sep W w (.el kMsg x [.int .i64 x.kind,.int .i64 x.client,.int .i64 x.seq,.int .i64 x.rev,.int .i64 x.code,.slice A n c,.slice A' n' c',.slice B m d,.int .i64 x.last]::r3):=by
  have g1:=h.perm (h1.perm.trans ((h2.perm.trans (h3.perm.cons _)).cons _))
  have g2:=g1.with_ro2 (q:=fun Z=>kActn.sl Z (.slice A n c) x.acts∧kCmt.sl Z (.slice A' n' c') x.commits) (mq:=fun _ _ h ⟨a,b⟩=>⟨Kd.sl_mono kActn h a,Kd.sl_mono kCmt h b⟩) .here (.there .here) fun Z a b=>⟨a,b⟩
  have g3:=g2.with_ro2 (q:=fun Z=>kMsg.R Z x [.int .i64 x.kind,.int .i64 x.client,.int .i64 x.seq,.int .i64 x.rev,.int .i64 x.code,.slice A n c,.slice A' n' c',.slice B m d,.int .i64 x.last]) (mq:=fun _ _ h hp=>kMsg.mono h hp) .here (.there (.there (.there .here))) fun Z a b=>⟨A,n,c,A',n',c',B,m,d,rfl,a.1,a.2,b⟩
  exact g3.drop2.drop2.drop2.drop2
end
end Go.Proofs.YtldgdjilchnceaaGreatDoor

set_option linter.unusedVariables false
set_option linter.unusedSimpArgs false
namespace Go.Proofs.YtldgdjilchnceaaGreatDoor
open Go.RowKit Go.Proofs.YtldgdjilchnceaaGreatDoorW.PrintLast
section
variable {P : Program} {W w w' : World} {N d : Nat} {a : Act} {ops : Array Oper} {Q : Exit→Act→World→Prop} {S : World→Prop} {ds : List Nat} {fuel : Nat} {mq mr m0 : Nat} {rest : List Oper} {ps : String} {af : Array Edge}
  {l : List (Nat × Value)} {v : Value} {T E : TypeId} {op : Op} {f : FuncId} {args : Array Value} {Φ : Value→World→Prop} {g : Option (Nat × Bool)} {fn : Func} {cs r : List Ch} {x : Operand} {es zs : List Value} {b : Nat}
/-- A call of a function value. -/
theorem nCallV {ca : Operand} {ag : Array Operand} {ts : Array TypeId} {vs cl al : List Value} (hc : ∀ args w,(callFunc f args).run P w = .ok (.enter f args) w) (hf : ev l ca = some (.func (.func f) #[] cl.toArray)) (ha : evs l ag.toList = some vs) (he : vs++cl = al) :
    En P w l (.call { callee:=.value ca,args:=ag,argTypes:=ts }) T f al.toArray:=fun ρ o h ho _=>by
  subst he
  have:=h.list ha
  have h2 : ag.map ρ = vs.toArray:=by rw [← this]; apply Array.ext'; simp
  have h3 : ρ ca = .func (.func f) #[] cl.toArray:=h _ _ hf
  unfold execOp; rw [ho]; simp [resolve,h2,h3,Deferred.ofValue,invoke,hc]
theorem yMakeF {fi : Fn} {cp : Array Operand} {vs : List Value} (ha : evs l cp.toList = some vs) : Yl P w l (.makeFunc fi #[] cp) T (.func fi #[] vs.toArray):=fun ρ o h ho _=>by
  have:=h.list ha
  have h2 : cp.map ρ = vs.toArray:=by rw [← this]; apply Array.ext'; simp
  unfold execOp; rw [ho]; simp [Instr.makeFunc,h2]
/-- The result stands in a variable. -/
theorem retC {t sz : Nat} (hr : fn.results = #[.cell t T]) (ha : Has a N l) (hv : lk l t = some (.pointer (some ⟨b,0,none⟩))) (hA : ∀ w,(isAgg T).run P w = .ok true w) (hz : ∀ w,(sizeOf T).run P w = .ok sz w)
    (hs : Sep W w cs) (hk : Pick cs (.blk b E es) r) (hl : es.length = sz) (h : Φ (.agg es.toArray) w) : bodyPost P fn (Rt Φ) .ret a w:=by
  subst hl;refine ⟨ha.defers,.agg es.toArray,?_,h⟩
  have e1:=ha.ev (x:=.tmp t) hv
  simp [Act.eval] at e1
  have:=run_loadCells_list (P:=P) w ⟨b,0,none⟩ es (fun j u hj=>by rw [add_at,Nat.zero_add]; exact hs.blk_cell hk hj)
  simp [results,hr,e1,asAddr,loadVar,hA,hz,this]
theorem retC1 {t u sz : Nat} {v2 : Value} (hr : fn.results = #[.cell t T,.tmp u]) (ha : Has a N l) (hv : lk l t = some (.pointer (some ⟨b,0,none⟩))) (hu : lk l u = some v2) (hA : ∀ w,(isAgg T).run P w = .ok true w) (hz : ∀ w,(sizeOf T).run P w = .ok sz w)
    (hs : Sep W w cs) (hk : Pick cs (.blk b E es) r) (hl : es.length = sz) (h : Φ (.tuple #[.agg es.toArray,v2]) w) : bodyPost P fn (Rt Φ) .ret a w:=by
  subst hl;refine ⟨ha.defers,.tuple #[.agg es.toArray,v2],?_,h⟩
  have e1:=ha.ev (x:=.tmp t) hv
  have e2:=ha.ev (x:=.tmp u) hu
  simp [Act.eval] at e1 e2
  have:=run_loadCells_list (P:=P) w ⟨b,0,none⟩ es (fun j u hj=>by rw [add_at,Nat.zero_add]; exact hs.blk_cell hk hj)
  simp [results,hr,e1,e2,asAddr,loadVar,hA,hz,this]
/-- A fresh variable, alone, in a region whose order is open; S holds behind it. -/
theorem dAlloc {zv : Value} {U : TypeId} {n : Nat} (i mB : Nat) (hi : ops[i]? = some ⟨some d,.alloc U,T,ps,af,g⟩) (hc : loneB ops m0 mB i = true) (hds : ds.contains i = false) (ha : Has a N l) (hg : Won ops l g)
    (h0 : ∀ w,(zeroValue U).run P w = .ok zv w) (hz : zv.cells = zs.toArray) (hs : Sep W w cs) (hd : Nat.blt d N = true) (hS : ∀ b w,Sep W w (.blk b U zs::cs)→S w)
    (h : ∀ b w,Sep W w (.blk b U zs::cs)→∀ a,Has a N ((d,.pointer (some ⟨b,0,none⟩))::l)→D P ops Q S ds mq mr fuel mB a w) : D P ops Q S ds mq mr (fuel + 1) m0 a w:=by
  have h2 : Sep W (w.alloc (.cells zs.toArray U)) (.blk w.heap.size U zs::cs):=by have:=hs.blk_alloc zs.toArray U; simpa using this
  refine dE (w':=w.alloc (.cells zs.toArray U)) i mB hi hc hds ha hg (fun ρ o he h1 h2=>?_) hd (hS _ _ h2) fun a ha=>h _ _ h2 a ha;exact eAlloc h0 hz ρ o he h1 h2
/-- A store into a block of one's own, alone; S holds behind it. -/
theorem dStore {U : TypeId} {y : Operand} {vs : List Value} {off : Nat} {u : Value} (i mB : Nat) (hi : ops[i]? = some ⟨none,.store U x y,T,ps,af,g⟩) (hc : loneB ops m0 mB i = true) (hds : ds.contains i = false) (ha : Has a N l) (hg : Won ops l g)
    (hz : ∀ w,(sizeOf U).run P w = .ok 1 w) (hs : Sep W w cs) (hx : ev l x = some (.pointer (some ⟨b,off,none⟩))) (hy : ev l y = some v) (hv : v.cells = #[v]) (h1 : v.oneCell' = true) (hk : Pick cs (.blk b E vs) r) (ho : vs[off]? = some u)
    (hS : ∀ w',Sep W w' (.blk b E (vs.set off v)::r)→S w')
    (h : ∀ w',Sep W w' (.blk b E (vs.set off v)::r)→D P ops Q S ds mq mr fuel mB a w') : D P ops Q S ds mq mr (fuel + 1) m0 a w :=
  let ⟨h2,h3⟩:=sStore (P:=P) (T:=T) (l:=l) hz hs hx hy hv h1 hk ho
  fun hst hcl=>one_ _ hi rfl (D_lone hst hcl hi hc).1 (by simpa using hds) fun K hK=>skip_ (hg.wanted ha) rfl (h2 _ _ ha.Ev rfl rfl) (hK _ _ (hS _ h3) fun _=>h _ h3 hst (D_lone hst hcl hi hc).2)
end
section
variable {W w : World} {cs r : List Ch}
def cC (x : Comp) : List Value:=[.int .i64 x.kind,.int .i64 x.n,.string x.text]
def cN (x : Nod) : List Value:=[.int .i64 x.id,.int .i64 x.parent,.string x.name,.bool x.dir,.string x.text]
theorem bytes_eq (a b : ByteArray) : (a.toList == b.toList) = decide (a = b):=by
  rw [ByteArray.toList_eq,ByteArray.toList_eq]
  by_cases h : a = b
  · subst h; simp
  · have h2 : a.data.toList ≠ b.data.toList:=fun e=>h (by
      obtain ⟨x⟩:=a;obtain ⟨y⟩:=b
      congr 1
      exact Array.ext' e)
    rw [decide_eq_false h]
    simpa using h2
theorem eq_comp (x y : Comp) : (Op.equalIn 10000 98 (.agg (cC x).toArray) (.agg (cC y).toArray)).run P w = .ok (decide (x = y)) w:=by
  unfold cC;rw [run_equalIn_agg w 9999 _ _ _ (by kernel_rfl) (by kernel_rfl)];simp only [Program.fieldsOf,Tryz.underlying98];obtain ⟨k,n,t⟩:=x;obtain ⟨k',n',t'⟩:=y
  by_cases h1 : k = k' <;> by_cases h2 : n = n' <;> by_cases h3 : t = t' <;>
  simp [Op.eqFields,part,bytes_eq,h1,h2,h3,Tryz.isAgg3,Tryz.isAgg9,run_equalIn_int w _ _ _ _ _ _ Tryz.underlying3,run_equalIn_string w _ _ _ _ Tryz.underlying9]
theorem eq_nod (x y : Nod) : (Op.equalIn 10000 116 (.agg (cN x).toArray) (.agg (cN y).toArray)).run P w = .ok (decide (x = y)) w:=by
  unfold cN;rw [run_equalIn_agg w 9999 _ _ _ (by kernel_rfl) (by kernel_rfl)];simp only [Program.fieldsOf,Tryz.underlying116];obtain ⟨k,p,n,dd,t⟩:=x;obtain ⟨k',p',n',dd',t'⟩:=y
  by_cases h1 : k = k' <;> by_cases h2 : p = p' <;> by_cases h3 : n = n' <;> by_cases h4 : dd = dd' <;> by_cases h5 : t = t' <;>
  simp [Op.eqFields,part,bytes_eq,h1,h2,h3,h4,h5,Tryz.isAgg3,Tryz.isAgg9,Tryz.isAgg4,run_equalIn_int w _ _ _ _ _ _ Tryz.underlying3,run_equalIn_string w _ _ _ _ Tryz.underlying9,run_equalIn_bool' w _ _ _ _ Tryz.underlying4]
variable {l : List (Nat × Value)} {x y : Operand} {T U' : TypeId}
theorem yCompNeq {a b : Comp} (hx : ev l x = some (.agg (cC a).toArray)) (hy : ev l y = some (.agg (cC b).toArray)) : Yl P w l (.binOp .neq 98 x y U') T (.bool (!decide (a = b))) :=
  yBin hx hy (fun _ _=>run_eqGuard_agg w _ _ _ _ _ _ (by kernel_rfl)) (by rw [run_neq_struct,eq_comp]; rfl)
theorem yNodNeq2 {a b : Nod} (hx : ev l x = some (.agg (cN a).toArray)) (hy : ev l y = some (.agg (cN b).toArray)) : Yl P w l (.binOp .neq 116 x y U') T (.bool (!decide (a = b))) :=
  yBin hx hy (fun _ _=>run_eqGuard_agg w _ _ _ _ _ _ (by kernel_rfl)) (by rw [run_neq_struct,eq_nod]; rfl)
end
end Go.Proofs.YtldgdjilchnceaaGreatDoor

set_option linter.unusedVariables false
set_option linter.unusedSimpArgs false
namespace Go.Proofs.YtldgdjilchnceaaGreatDoor
open Go.RowKit Go.Proofs.YtldgdjilchnceaaGreatDoorW.PrintLast
/-- The entries of nodes. -/
def mE : Nat→List Nod→List MapEntry
  | _,[]=>[]
  | i,x::r=>⟨.int .i64 x.id,.agg (cN x).toArray,i⟩::mE (i + 1) r
abbrev Key:=Int × ByteArray
def nk (k : Key) : Nod:=⟨0,k.1,k.2,false,emp⟩
/-- The entries of names that are counted. -/
def kE : Nat→List Key→List Int→List MapEntry
  | i,k::ks,v::vs=>⟨.agg (cN (nk k)).toArray,.int .i64 v,i⟩::kE (i + 1) ks vs
  | _,_,_=>[]
def Ch.mpN (b : Nat) (xs : List Nod) : Ch:=.own b (.map (mE 0 xs).toArray xs.length)
def Ch.mpV (b : Nat) (ks : List Key) (vs : List Int) : Ch:=.own b (.map (kE 0 ks vs).toArray ks.length)
def Ch.mpK (b : Nat) (ks : List Key) : Ch:=.ex {vs : List Int // vs.length = ks.length} fun vs=>.mpV b ks vs.1
theorem mE_append : ∀ (i : Nat) (xs : List Nod) (x : Nod),mE i (xs++[x]) = mE i xs++[⟨.int .i64 x.id,.agg (cN x).toArray,i + xs.length⟩]
  | i,[],x=>by simp [mE]
  | i,y::r,x=>by
    simp only [List.cons_append,mE,mE_append (i + 1) r x,List.length_cons];rw [show i + 1 + r.length = i + (r.length + 1) by omega]
theorem mE_length : ∀ (i : Nat) (xs : List Nod),(mE i xs).length = xs.length
  | i,[]=>rfl
  | i,y::r=>by simp only [mE,List.length_cons,mE_length (i + 1) r]
theorem mE_mem : ∀ (i : Nat) (xs : List Nod) (e : MapEntry),e ∈ mE i xs→(∃ x ∈ xs,e.key = .int .i64 x.id∧e.val = .agg (cN x).toArray)∧i≤e.born∧e.born < i + xs.length
  | i,[],e,h=>by cases h
  | i,y::r,e,h=>by
    simp only [mE,List.mem_cons] at h
    rcases h with rfl | h
    · exact ⟨⟨y,by simp,rfl,rfl⟩,Nat.le_refl _,by simp⟩
    · obtain ⟨⟨x,hx,h1⟩,h2,h3⟩:=mE_mem (i + 1) r e h;exact ⟨⟨x,by simp [hx],h1⟩,by omega,by simp only [List.length_cons]; omega⟩
theorem mE_nodup : ∀ (i : Nat) (xs : List Nod),((mE i xs).map (·.born)).Nodup
  | i,[]=>by simp [mE]
  | i,y::r=>by
    simp only [mE,List.map_cons,List.nodup_cons];refine ⟨fun h=>?_,mE_nodup (i + 1) r⟩;obtain ⟨e,he,h1⟩:=List.mem_map.1 h
    have:=(mE_mem (i + 1) r e he).2.1
    omega
theorem find_mE {q : IntKind} (id : Int) : ∀ (xs : List Nod) (i j : Nat),∃ o,Instr.findNow (.int q) (.int .i64 id) (mE i xs) j = some o∧o.map (·.2) = (xs.find? fun x=>decide (x.id = id)).map fun y=>.agg (cN y).toArray
  | [],i,j=>⟨none,rfl,rfl⟩
  | x::r,i,j=>by
    by_cases h : x.id = id
    · refine ⟨some (j,.agg (cN x).toArray),?_,?_⟩
      · simp [mE,Instr.findNow,Instr.sameNow,h]
      · simp [h]
    · obtain ⟨o,h1,h2⟩:=find_mE (q:=q) id r (i + 1) (j + 1);refine ⟨o,?_,?_⟩
      · have h' : ¬ id = x.id:=fun e=>h e.symm
        have hb : (id == x.id) = false:=by simpa using h'
        simp [mE,Instr.findNow,Instr.sameNow,hb,h1]
      · rw [h2]; simp [h]
theorem kE_length : ∀ (i : Nat) (ks : List Key) (vs : List Int),vs.length = ks.length→(kE i ks vs).length = ks.length
  | i,[],vs,h=>by cases vs <;> simp [kE]
  | i,k::ks,[],h=>by simp at h
  | i,k::ks,v::vs,h=>by simp only [kE,List.length_cons,kE_length (i + 1) ks vs (by simpa using h)]
theorem kE_append : ∀ (i : Nat) (ks : List Key) (vs : List Int) (k : Key) (v : Int),vs.length = ks.length→kE i (ks++[k]) (vs++[v]) = kE i ks vs++[⟨.agg (cN (nk k)).toArray,.int .i64 v,i + ks.length⟩]
  | i,[],[],k,v,h=>by simp [kE]
  | i,[],v::vs,_,_,h=>by simp at h
  | i,k::ks,[],_,_,h=>by simp at h
  | i,k'::ks,v'::vs,k,v,h=>by
    simp only [List.cons_append,kE,kE_append (i + 1) ks vs k v (by simpa using h),List.length_cons];rw [show i + 1 + ks.length = i + (ks.length + 1) by omega]
theorem kE_at : ∀ (i : Nat) (ks : List Key) (vs : List Int) (n : Nat) (k : Key) (v : Int),ks[n]? = some k→vs[n]? = some v→(kE i ks vs)[n]? = some ⟨.agg (cN (nk k)).toArray,.int .i64 v,i + n⟩
  | i,[],vs,n,k,v,h,_=>by simp at h
  | i,k'::ks,[],n,k,v,_,h=>by simp at h
  | i,k'::ks,v'::vs,0,k,v,h,h'=>by simp at h h'; subst h; subst h'; rfl
  | i,k'::ks,v'::vs,n + 1,k,v,h,h'=>by
    simp only [kE,List.getElem?_cons_succ] at h h' ⊢;rw [kE_at (i + 1) ks vs n k v h h',show i + 1 + n = i + (n + 1) by omega]
theorem kE_idx : ∀ (i : Nat) (ks : List Key) (vs : List Int) (n : Nat),vs.length = ks.length→n < ks.length→(kE i ks vs).findIdx? (fun e=>(e.born : Int) == ((i + n : Nat) : Int)) = some n
  | i,[],vs,n,_,h=>by simp at h
  | i,k::ks,[],n,h,_=>by simp at h
  | i,k::ks,v::vs,0,_,_=>by simp [kE,List.findIdx?_cons]
  | i,k::ks,v::vs,n + 1,h,h'=>by
    have ih:=kE_idx (i + 1) ks vs n (by simpa using h) (by simpa using h')
    have hb : ((i : Int) == ((i + (n + 1) : Nat) : Int)) = false:=by simp; omega
    simp only [kE,List.findIdx?_cons,hb];rw [show i + 1 + n = i + (n + 1) by omega] at ih;rw [ih]; rfl
theorem kE_set : ∀ (i : Nat) (ks : List Key) (vs : List Int) (n : Nat) (c : Int),(kE i ks vs).modify n (fun e=>{ e with val:=.int .i64 c }) = kE i ks (vs.set n c)
  | i,[],vs,n,c=>by cases n <;> simp [kE]
  | i,k::ks,[],n,c=>by cases n <;> simp [kE]
  | i,k::ks,v::vs,0,c=>rfl
  | i,k::ks,v::vs,n + 1,c=>by simp only [kE,List.modify_succ_cons,List.set_cons_succ,kE_set (i + 1) ks vs n c]
theorem kE_same : ∀ (i : Nat) (ks : List Key) (vs : List Int) (n : Nat) (k : Key),ks[n]? = some k→(kE i ks vs).modify n (fun e=>{ e with key:=.agg (cN (nk k)).toArray }) = kE i ks vs
  | i,[],vs,n,k,h=>by simp at h
  | i,k'::ks,[],n,k,h=>by cases n <;> simp [kE]
  | i,k'::ks,v::vs,0,k,h=>by simp at h; subst h; rfl
  | i,k'::ks,v::vs,n + 1,k,h=>by simp only [kE,List.modify_succ_cons,kE_same (i + 1) ks vs n k (by simpa using h)]
theorem nk_inj {a b : Key} : nk a = nk b ↔ a = b:=by
  constructor
  · intro h;simp only [nk,Nod.mk.injEq,true_and,and_true] at h;exact Prod.ext h.1 h.2
  · rintro rfl; rfl
/-- The count that stands at a key. -/
def lookK : List Key→List Int→Key→Int
  | k'::ks,v::vs,k=>if k' = k then v else lookK ks vs k
  | _,_,_=>0
def hasK (ks : List Key) (k : Key) : Bool:=ks.any fun x=>decide (x = k)
theorem hasK_iff {ks : List Key} {k : Key} : hasK ks k = true ↔ k ∈ ks:=by
  unfold hasK;rw [List.any_eq_true];exact ⟨fun ⟨x,hx,h⟩=>by have:=of_decide_eq_true h; subst this; exact hx,fun h=>⟨k,h,by simp⟩⟩
def addK (ks : List Key) (k : Key) : List Key:=if hasK ks k = true then ks else ks++[k]
section
variable {W w : World} {cs r : List Ch}
theorem ask_kE (k : Key) : ∀ (ks : List Key) (vs : List Int) (i j : Nat),vs.length = ks.length →
    (k ∉ ks∧(Instr.findAsking 116 (.agg (cN (nk k)).toArray) (kE i ks vs) j).run P w = .ok none w∧lookK ks vs k = 0) ∨
    (k ∈ ks∧∃ n v,(Instr.findAsking 116 (.agg (cN (nk k)).toArray) (kE i ks vs) j).run P w = .ok (some (j + n,.int .i64 v)) w∧ks[n]? = some k∧vs[n]? = some v∧lookK ks vs k = v)
  | [],[],i,j,_=>.inl ⟨by simp,rfl,rfl⟩
  | [],_::_,_,_,h=>by simp at h
  | k'::ks,[],_,_,h=>by simp at h
  | k'::ks,v::vs,i,j,h=>by
    have he : (Op.equal 116 (.agg (cN (nk k)).toArray) (.agg (cN (nk k')).toArray)).run P w = .ok (decide (nk k = nk k')) w:=eq_nod (nk k) (nk k')
    by_cases hk : k' = k
    · subst hk;refine .inr ⟨by simp,0,v,?_,rfl,rfl,by simp [lookK]⟩
      simp [kE,Instr.findAsking,he]
    · have hk2 : ¬ nk k = nk k':=fun e=>hk (nk_inj.1 e).symm
      rcases ask_kE k ks vs (i + 1) (j + 1) (by simpa using h) with ⟨h1,h2,h3⟩ | ⟨h1,n,u,h2,h3,h4,h5⟩
      · refine .inl ⟨by rw [List.mem_cons]; exact fun h=>h.elim (fun e=>hk e.symm) h1,?_,by simp [lookK,hk,h3]⟩
        simp [kE,Instr.findAsking,he,hk2,h2]
      · refine .inr ⟨by simp [h1],n + 1,u,?_,by simpa using h3,by simpa using h4,by simp [lookK,hk,h5]⟩
        have e1 : j + 1 + n = j + (n + 1):=by omega
        simp [kE,Instr.findAsking,he,hk2,h2,e1]
theorem find_kE (k : Key) (ks : List Key) (vs : List Int) (h : vs.length = ks.length) :
    (k ∉ ks∧(Instr.findKey 116 (.agg (cN (nk k)).toArray) (kE 0 ks vs)).run P w = .ok none w∧lookK ks vs k = 0) ∨
    (k ∈ ks∧∃ n v,(Instr.findKey 116 (.agg (cN (nk k)).toArray) (kE 0 ks vs)).run P w = .ok (some (n,.int .i64 v)) w∧ks[n]? = some k∧vs[n]? = some v∧lookK ks vs k = v):=by
  have hq : ∀ o,(Instr.findAsking 116 (.agg (cN (nk k)).toArray) (kE 0 ks vs) 0).run P w = .ok o w→(Instr.findKey 116 (.agg (cN (nk k)).toArray) (kE 0 ks vs)).run P w = .ok o w:=fun o ho=>by
    cases ks with
    | nil=>
      have e0 : kE 0 [] vs = []:=by cases vs <;> rfl
      rw [e0] at ho ⊢
      have : o = none:=by
        simp [Instr.findAsking] at ho
        exact ho.symm
      subst this
      simp [Instr.findKey,Instr.findNow,Tryz.runUnderlying116]
    | cons k' ks=>
      cases vs with
      | nil=>simp at h
      | cons v vs=>
        have hn : ∀ fs,Instr.findNow (.struct fs) (.agg (cN (nk k)).toArray) (kE 0 (k'::ks) (v::vs)) 0 = none:=fun fs=>by simp [kE,Instr.findNow,Instr.sameNow]
        simp [Instr.findKey,Tryz.runUnderlying116,hn,ho]
  rcases ask_kE (w:=w) k ks vs 0 0 h with ⟨h1,h2,h3⟩ | ⟨h1,n,u,h2,h3⟩
  · exact .inl ⟨h1,hq _ h2,h3⟩
  · rw [Nat.zero_add] at h2; exact .inr ⟨h1,n,u,hq _ h2,h3⟩
theorem check_nk (e : Bool) (k : Key) : (Instr.checkKey e 10000 116 (.agg (cN (nk k)).toArray)).run P w = .ok () w:=by
  have c1 : ∀ (n : Int) (w : World),(Instr.checkKey e 9999 3 (.int .i64 n)).run P w = .ok () w:=fun n w=>by
    rw [Instr.checkKey]; simp [Tryz.runUnderlying3]
  have c2 : ∀ (s : ByteArray) (w : World),(Instr.checkKey e 9999 9 (.string s)).run P w = .ok () w:=fun n w=>by
    rw [Instr.checkKey]; simp [Tryz.runUnderlying9]
  have c3 : ∀ (s : Bool) (w : World),(Instr.checkKey e 9999 4 (.bool s)).run P w = .ok () w:=fun n w=>by
    rw [Instr.checkKey]; simp [Tryz.runUnderlying4]
  rw [Instr.checkKey]
  simp [cN,nk,Tryz.runUnderlying116,part,Tryz.isAgg3,Tryz.isAgg9,Tryz.isAgg4,c1,c2,c3]
theorem stays_nk (k : Key) : (Instr.keyThatStays (.agg (cN (nk k)).toArray) (.agg (cN (nk k)).toArray)).run P w = .ok (.agg (cN (nk k)).toArray) w:=by
  have hb : (k.2 == k.2) = true:=by rw [MapKept.bytes_beq]
  have he : (emp == emp) = true:=by rw [MapKept.bytes_beq]
  simp [Instr.keyThatStays,Instr.sameBits,cN,nk,hb,he]
end
end Go.Proofs.YtldgdjilchnceaaGreatDoor

set_option linter.unusedVariables false
set_option linter.unusedSimpArgs false
namespace Go.Proofs.YtldgdjilchnceaaGreatDoor
open Go.RowKit Go.Proofs.YtldgdjilchnceaaGreatDoorW.PrintLast
section
variable {W w w' : World} {N d dd : Nat} {a : Act} {ops : Array Oper} {Q : Exit→Act→World→Prop} {S : World→Prop} {ds : List Nat} {fuel : Nat} {mq mr m0 : Nat} {rest : List Oper} {ps : String} {af : Array Edge}
  {l : List (Nat × Value)} {v : Value} {T U E : TypeId} {g : Option (Nat × Bool)} {cs r r2 : List Ch} {x y z : Operand} {b bi : Nat} {xs : List Nod} {ks : List Key} {vs : List Int}
theorem yField {P : Program} {fs : Array Field} {fd : Field} {j : Nat} {vs : List Value} (hu : ∀ w,(underlying U).run P w = .ok (.struct fs) w) (hf : fs[j]? = some fd) (hA : ∀ w,(isAgg fd.type).run P w = .ok false w) (hx : ev l x = some (.agg vs.toArray)) (hv : vs[fd.offset]? = some v) : Yl P w l (.field U x j) T v:=fun ρ o h ho _=>by
  unfold execOp; rw [ho]
  simp [h _ _ hx,Instr.field,hu,hf,part,hA,hv,asAgg]
theorem pMakeMap (ha : Has a N l) (hs : Sep W w cs) (hd : Nat.blt dd N = true)
    (h : ∀ b w,Sep W w (.own b (.map #[] 0)::cs)→∀ a,Has a N ((dd,.map (some b))::l)→wpList P ops Q rest a w) : wpList P ops Q (⟨some dd,.makeMap U none,T,ps,af,none⟩::rest) a w:=by
  refine pE ha (v:=.map (some w.heap.size)) (w':=w.alloc (.map #[] 0)) (fun ρ o hE ho hT=>?_) hd fun a ha=>h _ _ (hs.alloc _) a ha;unfold execOp; rw [ho]
  simp [run_makeMap]
theorem yLenM {es : Array MapEntry} {k : Nat} (hu : ∀ w,(underlying U).run P w = .ok (.map T E) w) (hs : Sep W w cs) (hx : ev l x = some (.map (some b))) (hk : Pick cs (.own b (.map es k)) r) :
    Yl P w l (.call { callee:=.builtin .len,args:=#[x],argTypes:=#[U] }) d (.int .i64 es.size):=fun ρ o h ho _=>by
  have hb:=hs.own_at hk
  unfold execOp; rw [ho]; simp [resolve,invoke,builtin,h _ _ hx,Builtin.len_,goInt,hu,MapKept.run_getObj_map hb]
theorem yLenN (hs : Sep W w cs) (hx : ev l x = some (.map (some b))) (hk : Pick cs (.mpN b xs) r) : Yl P w l (.call { callee:=.builtin .len,args:=#[x],argTypes:=#[101] }) d (.int .i64 xs.length):=by
  have:=yLenM (d:=d) Tryz.runUnderlying101 hs hx hk
  rw [List.size_toArray,mE_length] at this;exact this
/-- A node by its ID. -/
theorem yLookN {id : Int} (hs : Sep W w cs) (hx : ev l x = some (.map (some b))) (hk : Pick cs (.mpN b xs) r) (hy : ev l y = some (.int .i64 id)) :
    Yl P w l (.lookup 101 x y false) T (.agg (cN (findN xs id)).toArray):=fun ρ o h ho _=>by
  have hb:=hs.own_at hk
  obtain ⟨o',h1,h2⟩:=find_mE (q:=.i64) id xs 0 0
  have hf:=MapKept.run_findKey (P:=P) (w:=w) Tryz.underlying3 h1
  have hc : ∀ e,(Instr.checkKey e 10000 3 (.int .i64 id)).run P w = .ok () w:=fun e=>by
    rw [Instr.checkKey]; simp [Tryz.runUnderlying3]
  unfold execOp; rw [ho]
  cases hq : xs.find? fun x=>decide (x.id = id) with
  | none=>
    rw [hq] at h2
    have : o' = none:=by simpa using h2
    subst this
    have e : findN xs id = noN:=by unfold findN; rw [hq]; rfl
    rw [e]
    simp [h _ _ hx,h _ _ hy,Instr.lookup,Tryz.runUnderlying101,MapKept.run_getObj_map hb,hc,hf,Tryz.zeroValue116]
    rfl
  | some n=>
    rw [hq] at h2;obtain ⟨p,hp,hp2⟩ : ∃ p,o' = some p∧p.2 = .agg (cN n).toArray:=by
      cases o' with
      | none=>simp at h2
      | some p=>exact ⟨p,rfl,by simpa using h2⟩
    subst hp
    have e : findN xs id = n:=by unfold findN; rw [hq]; rfl
    rw [e]
    simp [h _ _ hx,h _ _ hy,Instr.lookup,Tryz.runUnderlying101,MapKept.run_getObj_map hb,hc,hf,hp2]
theorem sMapNew {n : Nod} (hs : Sep W w cs) (hk : Pick cs (.mpN b xs) r) (hne : ∀ m ∈ xs,m.id ≠ n.id) : ∃ w',(Instr.mapUpdate 101 (.map (some b)) (.int .i64 n.id) (.agg (cN n).toArray)).run P w = .ok () w'∧Sep W w' (.mpN b (xs++[n])::r):=by
  have hb:=hs.own_at hk
  obtain ⟨o',h1,h2⟩:=find_mE (q:=.i64) n.id xs 0 0
  have hq : (xs.find? fun x=>decide (x.id = n.id)) = none:=by
    rw [List.find?_eq_none];intro m hm
    simpa using hne m hm
  rw [hq] at h2
  have : o' = none:=by simpa using h2
  subst this
  have hf:=MapKept.run_findKey (P:=P) (w:=w) Tryz.underlying3 h1
  have hc : ∀ e,(Instr.checkKey e 10000 3 (.int .i64 n.id)).run P w = .ok () w:=fun e=>by
    rw [Instr.checkKey]; simp [Tryz.runUnderlying3]
  obtain ⟨h3,h4⟩:=MapKept.heap_set (o':=.map (mE 0 (xs++[n])).toArray (xs++[n]).length) hb;refine ⟨{ w with heap:=w.heap.setIfInBounds b (.map (mE 0 (xs++[n])).toArray (xs++[n]).length) },?_,(hs.pick hk).change rfl rfl rfl h3 h4⟩
  have e : (mE 0 xs).toArray.push ⟨.int .i64 n.id,.agg (cN n).toArray,xs.length⟩ = (mE 0 (xs++[n])).toArray:=by
    rw [mE_append]; simp
  simp [Instr.mapUpdate,Tryz.runUnderlying101,MapKept.run_getObj_map hb,hc,hf,MapKept.run_setObj_map _ hb,e]
theorem dMapNewl {n : Nod} (i mB : Nat) (hi : ops[i]? = some ⟨none,.mapUpdate 101 x y z,T,ps,af,g⟩) (hc : loneB ops m0 mB i = true) (hds : ds.contains i = true) (ha : Has a N l) (hg : Won ops l g)
    (hs : Sep W w cs) (hx : ev l x = some (.map (some b))) (hk : Pick cs (.mpN b xs) r) (hy : ev l y = some (.int .i64 n.id)) (hz : ev l z = some (.agg (cN n).toArray)) (hne : ∀ m ∈ xs,m.id ≠ n.id)
    (h : ∀ w',Sep W w' (.mpN b (xs++[n])::r)→D P ops Q S ds mq mr fuel mB a w') : D P ops Q S ds mq mr (fuel + 1) m0 a w:=by
  obtain ⟨w',h1,h2⟩:=sMapNew hs hk hne;refine dSl (w':=w') i mB hi hc hds ha hg (fun ρ o hE ho hT=>?_) (h _ h2);unfold execOp; rw [ho]
  simp [hE _ _ hx,hE _ _ hy,hE _ _ hz,h1]
theorem yLookK {k : Key} (hvl : vs.length = ks.length) (hs : Sep W w cs) (hx : ev l x = some (.map (some b))) (hk : Pick cs (.mpV b ks vs) r) (hy : ev l y = some (.agg (cN (nk k)).toArray)) :
    Yl P w l (.lookup 148 x y false) T (.int .i64 (lookK ks vs k)):=fun ρ o h ho _=>by
  have hb:=hs.own_at hk
  unfold execOp; rw [ho]
  rcases find_kE (w:=w) k ks vs hvl with ⟨h1,h2,h3⟩ | ⟨h1,n,u,h2,h3,h4,h5⟩
  · rw [h3]
    simp [h _ _ hx,h _ _ hy,Instr.lookup,Tryz.runUnderlying148,MapKept.run_getObj_map hb,check_nk,h2,Tryz.zeroValue3]
  · rw [h5]
    simp [h _ _ hx,h _ _ hy,Instr.lookup,Tryz.runUnderlying148,MapKept.run_getObj_map hb,check_nk,h2]
def entV (ks : List Key) (vs : List Int) (k : Key) : List Int:=if hasK ks k = true then vs else vs++[0]
theorem lookK_snoc : ∀ (ks : List Key) (vs : List Int) (k : Key),vs.length = ks.length→k ∉ ks→lookK (ks++[k]) (vs++[0]) k = 0
  | [],[],k,_,_=>by simp [lookK]
  | [],_::_,_,h,_=>by simp at h
  | _::_,[],_,h,_=>by simp at h
  | k'::ks,v::vs,k,h,hk=>by
    simp only [List.mem_cons,not_or] at hk;simp only [List.cons_append,lookK];rw [if_neg (fun e=>hk.1 e.symm)];exact lookK_snoc ks vs k (by simpa using h) hk.2
theorem lookK_no : ∀ (ks : List Key) (vs : List Int) (k : Key),k ∉ ks→lookK ks vs k = 0
  | [],_,k,_=>by simp [lookK]
  | _::_,[],k,_=>by simp [lookK]
  | k'::ks,v::vs,k,hk=>by
    simp only [List.mem_cons,not_or] at hk;simp only [lookK];rw [if_neg (fun e=>hk.1 e.symm)];exact lookK_no ks vs k hk.2
theorem entV_len (k : Key) (hvl : vs.length = ks.length) : (entV ks vs k).length = (addK ks k).length:=by
  unfold entV addK
  split
  · exact hvl
  · simp [hvl]
theorem entV_look (k : Key) (hvl : vs.length = ks.length) : lookK (addK ks k) (entV ks vs k) k = lookK ks vs k:=by
  unfold entV addK
  by_cases h : hasK ks k = true
  · rw [if_pos h,if_pos h]
  · rw [if_neg h,if_neg h]
    have h' : k ∉ ks:=fun e=>h (hasK_iff.2 e)
    rw [lookK_snoc ks vs k hvl h',lookK_no ks vs k h']
theorem sEntry {k : Key} (hvl : vs.length = ks.length) (hs : Sep W w cs) (hk : Pick cs (.mpV b ks vs) r) : ∃ w' u n,(Instr.mapEntry 148 (.map (some b)) (.agg (cN (nk k)).toArray)).run P w = .ok (.tuple #[u,.int .i64 (n : Nat)]) w'∧n < (addK ks k).length∧Sep W w' (.mpV b (addK ks k) (entV ks vs k)::r):=by
  have hb:=hs.own_at hk
  rcases find_kE (w:=w) k ks vs hvl with ⟨h1,h2,h3⟩ | ⟨h1,n,u,h2,h3,h4,h5⟩
  · have ea : addK ks k = ks++[k]:=by unfold addK; rw [if_neg (fun h=>h1 (hasK_iff.1 h))]
    rw [ea,show entV ks vs k = vs++[0] by unfold entV; rw [if_neg (fun h=>h1 (hasK_iff.1 h))]];obtain ⟨q3,q4⟩:=MapKept.heap_set (o':=.map (kE 0 (ks++[k]) (vs++[0])).toArray (ks++[k]).length) hb;refine ⟨{ w with heap:=w.heap.setIfInBounds b (.map (kE 0 (ks++[k]) (vs++[0])).toArray (ks++[k]).length) },.int .i64 0,ks.length,?_,by simp,(hs.pick hk).change rfl rfl rfl q3 q4⟩
    have e : kE 0 ks vs++[⟨.agg (cN (nk k)).toArray,.int .i64 0,ks.length⟩] = kE 0 (ks++[k]) (vs++[0]):=by
      rw [kE_append 0 ks vs k 0 hvl]; simp
    simp [Instr.mapEntry,Tryz.runUnderlying148,MapKept.run_getObj_map hb,check_nk,h2,Tryz.zeroValue3,MapKept.run_setObj_map _ hb,e,goInt]
  · have ea : addK ks k = ks:=by unfold addK; rw [if_pos (hasK_iff.2 h1)]
    rw [ea,show entV ks vs k = vs by unfold entV; rw [if_pos (hasK_iff.2 h1)]];obtain ⟨q3,q4⟩:=MapKept.heap_set (o':=.map (kE 0 ks vs).toArray ks.length) hb
    have hn:=(List.getElem?_eq_some_iff.1 h3).1
    refine ⟨{ w with heap:=w.heap.setIfInBounds b (.map (kE 0 ks vs).toArray ks.length) },.int .i64 u,n,?_,hn,(hs.pick hk).change rfl rfl rfl q3 q4⟩
    have hat:=kE_at 0 ks vs n k u h3 h4
    have hm : (kE 0 ks vs).modify n (fun e=>{ e with key:=.agg (cN (nk k)).toArray }) = kE 0 ks vs:=kE_same 0 ks vs n k h3
    simp [Instr.mapEntry,Tryz.runUnderlying148,MapKept.run_getObj_map hb,check_nk,h2,hat,stays_nk,hm,MapKept.run_setObj_map _ hb,goInt]
theorem sStoreE {n : Nat} {c : Int} (hvl : vs.length = ks.length) (hn : n < ks.length) (hs : Sep W w cs) (hk : Pick cs (.mpV b ks vs) r) : ∃ w',(Instr.entryStore U (.map (some b)) (.int .i64 (n : Nat)) (.int .i64 c)).run P w = .ok () w'∧Sep W w' (.mpV b ks (vs.set n c)::r):=by
  have hb:=hs.own_at hk
  obtain ⟨q3,q4⟩:=MapKept.heap_set (o':=.map (kE 0 ks (vs.set n c)).toArray ks.length) hb;refine ⟨{ w with heap:=w.heap.setIfInBounds b (.map (kE 0 ks (vs.set n c)).toArray ks.length) },?_,(hs.pick hk).change rfl rfl rfl q3 q4⟩
  have hi:=kE_idx 0 ks vs n hvl hn
  rw [Nat.zero_add] at hi
  have hm : (kE 0 ks vs).toArray.modify n (fun e=>{ e with val:=.int .i64 c }) = (kE 0 ks (vs.set n c)).toArray:=by
    rw [List.modify_toArray,kE_set]
  simp [Instr.entryStore,MapKept.run_getObj_map hb,asInt,asIntOf,hi,hm,MapKept.run_setObj_map _ hb]
theorem dEntry {k : Key} (hvl : vs.length = ks.length) (i mB : Nat) (hi : ops[i]? = some ⟨some d,.mapEntry 148 x y,T,ps,af,g⟩) (hc : loneB ops m0 mB i = true) (hds : ds.contains i = false) (ha : Has a N l) (hg : Won ops l g)
    (hs : Sep W w cs) (hx : ev l x = some (.map (some b))) (hk : Pick cs (.mpV b ks vs) r) (hy : ev l y = some (.agg (cN (nk k)).toArray)) (hd : Nat.blt d N = true) (hS : ∀ w',Sep W w' (.mpV b (addK ks k) (entV ks vs k)::r)→S w')
    (h : ∀ w' u n,n < (addK ks k).length→Sep W w' (.mpV b (addK ks k) (entV ks vs k)::r)→∀ a,Has a N ((d,.tuple #[u,.int .i64 (n : Nat)])::l)→D P ops Q S ds mq mr fuel mB a w') : D P ops Q S ds mq mr (fuel + 1) m0 a w:=by
  obtain ⟨w',u,n,h1,h3,h4⟩:=sEntry (k:=k) hvl hs hk;refine dE (w':=w') i mB hi hc hds ha hg (fun ρ o hE ho hT=>?_) hd (hS _ h4) fun a ha=>h w' u n h3 h4 a ha;unfold execOp; rw [ho]
  simp [hE _ _ hx,hE _ _ hy,h1]
theorem dEntStl {n : Nat} {c : Int} (hvl : vs.length = ks.length) (hn : n < ks.length) (i mB : Nat) (hi : ops[i]? = some ⟨none,.entryStore U x y z,T,ps,af,g⟩) (hc : loneB ops m0 mB i = true) (hds : ds.contains i = true) (ha : Has a N l) (hg : Won ops l g)
    (hs : Sep W w cs) (hx : ev l x = some (.map (some b))) (hk : Pick cs (.mpV b ks vs) r) (hy : ev l y = some (.int .i64 (n : Nat))) (hz : ev l z = some (.int .i64 c))
    (h : ∀ w',Sep W w' (.mpK b ks::r)→D P ops Q S ds mq mr fuel mB a w') : D P ops Q S ds mq mr (fuel + 1) m0 a w:=by
  obtain ⟨w',h1,h2⟩:=sStoreE (U:=U) (c:=c) hvl hn hs hk;refine dSl (w':=w') i mB hi hc hds ha hg (fun ρ o hE ho hT=>?_) (h _ (Sep.pack ⟨vs.set n c,by simp [hvl]⟩ h2));unfold execOp; rw [ho]
  simp [hE _ _ hx,hE _ _ hy,hE _ _ hz,h1]
theorem Sep.mpK_open (h : Sep W w cs) (hk : Pick cs (.mpK b ks) r) : ∃ vs,vs.length = ks.length∧Sep W w (.mpV b ks vs::r):=by
  obtain ⟨⟨vs,hv⟩,h⟩:=(h.pick hk).open_;exact ⟨vs,hv,h⟩
theorem yLenK (hvl : vs.length = ks.length) (hs : Sep W w cs) (hx : ev l x = some (.map (some b))) (hk : Pick cs (.mpV b ks vs) r) : Yl P w l (.call { callee:=.builtin .len,args:=#[x],argTypes:=#[148] }) d (.int .i64 ks.length):=by
  have:=yLenM (d:=d) Tryz.runUnderlying148 hs hx hk
  rw [List.size_toArray,kE_length 0 ks vs hvl] at this;exact this
theorem pRangeM {es : Array MapEntry} {k : Nat} (ha : Has a N l) (hu : ∀ w,(underlying U).run P w = .ok (.map T E) w) (hs : Sep W w cs) (hx : ev l x = some (.map (some b))) (hk : Pick cs (.own b (.map es k)) r) (hd : Nat.blt dd N = true)
    (h : ∀ bi w,Sep W w (.own bi (.mapIter (some b) k #[] k)::cs)→∀ a,Has a N ((dd,.pointer (some ⟨bi,0,none⟩))::l)→wpList P ops Q rest a w) : wpList P ops Q (⟨some dd,.range U x,d,ps,af,none⟩::rest) a w:=by
  have hb:=hs.own_at hk
  refine pE ha (v:=.pointer (some ⟨w.heap.size,0,none⟩)) (w':=w.alloc (.mapIter (some b) k #[] k)) (fun ρ o hE ho hT=>?_) hd fun a ha=>h _ _ (hs.alloc _) a ha;unfold execOp; rw [ho]
  simp [hE _ _ hx,Instr.range,hu,MapKept.run_getObj_map hb]
theorem pNextM {es : Array MapEntry} {k : Nat} {seen : Array Nat} (ha : Has a N l) (hs : Sep W w cs) (hx : ev l x = some (.pointer (some ⟨bi,0,none⟩))) (hk : Pick cs (.own bi (.mapIter (some b) k seen k)) r) (hk2 : Pick r (.own b (.map es k)) r2) (hold : ∀ e ∈ es.toList,e.born < k) (hd : Nat.blt dd N = true)
    (h0 : (leftOf es seen).size = 0→∀ a,Has a N ((dd,.tuple #[.bool false])::l)→wpList P ops Q rest a w)
    (h1 : ∀ e ∈ (leftOf es seen).toList,∀ w,Sep W w (.own bi (.mapIter (some b) k (seen.push e.born) k)::r)→∀ a,Has a N ((dd,.tuple #[.bool true,e.key,e.val])::l)→wpList P ops Q rest a w) : wpList P ops Q (⟨some dd,.next x false,T,ps,af,none⟩::rest) a w:=by
  have hr:=hs.own_at hk
  have hb:=(hs.pick hk).own_at (.there hk2)
  rcases run_next_at (P:=P) w T bi b k k seen es k hr hb hold (Nat.le_refl _) with ⟨h2,h3⟩ | ⟨e,he,w1,hw1,h3⟩
  · refine pE ha (v:=.tuple #[.bool false]) (w':=w) (fun ρ o hE ho hT=>?_) hd fun a ha=>h0 h2 a ha;unfold execOp; rw [ho]
    simp [hE _ _ hx,hT,h3]
  · refine pE ha (v:=.tuple #[.bool true,e.key,e.val]) (w':=ChangeMaps.setBlock w1 bi (.mapIter (some b) k (seen.push e.born) k)) (fun ρ o hE ho hT=>?_) hd fun a ha=>h1 e he _ ?_ a ha
    · unfold execOp; rw [ho]
      simp [hE _ _ hx,hT,h3]
    · have hs1 : Sep W w1 (.own bi (.mapIter (some b) k seen k)::r):=by
        rcases hw1 with rfl | rfl
        · exact hs.pick hk
        · exact (hs.pick hk).drew
      have hb1:=hs1.own_at .here
      obtain ⟨q3,q4⟩:=MapKept.heap_set (o':=.mapIter (some b) k (seen.push e.born) k) hb1;exact hs1.change rfl rfl rfl q3 q4
theorem yEntry {es : Array MapEntry} {k : Nat} {seen : Array Nat} {e : MapEntry} (hs : Sep W w cs) (hx : ev l x = some (.pointer (some ⟨bi,0,none⟩))) (hk : Pick cs (.own bi (.mapIter (some b) k (seen.push e.born) k)) r) (hk2 : Pick r (.own b (.map es k)) r2) (he : e ∈ es.toList) (hn : (es.toList.map (·.born)).Nodup) :
    Yl P w l (.entry x) T (.tuple #[e.key,e.val]):=fun ρ o h ho _=>by
  have hr:=hs.own_at hk
  have hb:=(hs.pick hk).own_at (.there hk2)
  have h3:=run_entry_at (P:=P) w bi b k seen es k e hr hb he hn
  unfold execOp; rw [ho]
  simp [h _ _ hx,h3]
end
end Go.Proofs.YtldgdjilchnceaaGreatDoor

set_option linter.unusedVariables false
set_option linter.unusedSimpArgs false
namespace Go.Proofs.YtldgdjilchnceaaGreatDoor
open Go.Lib
theorem dec_cont (n b0 b1 b2 b3 : Nat) (hn : 1≤n) (hg : ¬ ((decodeN n b0 b1 b2 b3).1 = 65533∧(decodeN n b0 b1 b2 b3).2 = 1)) :
    b0 / 64 ≠ 2∧((decodeN n b0 b1 b2 b3).2 = 1∨((decodeN n b0 b1 b2 b3).2 = 2∧b1 / 64 = 2)∨((decodeN n b0 b1 b2 b3).2 = 3∧b1 / 64 = 2∧b2 / 64 = 2)∨((decodeN n b0 b1 b2 b3).2 = 4∧b1 / 64 = 2∧b2 / 64 = 2∧b3 / 64 = 2)):=by
  revert hg
  unfold decodeN
  repeat' split
  all_goals intro hg; first | (exfalso; exact hg ⟨rfl,rfl⟩) | exact ⟨by omega,.inl rfl⟩ | exact ⟨by omega,.inr (.inl ⟨rfl,by omega⟩)⟩ | exact ⟨by omega,.inr (.inr (.inl ⟨rfl,by omega,by omega⟩))⟩ | exact ⟨by omega,.inr (.inr (.inr ⟨rfl,by omega,by omega,by omega⟩))⟩
theorem cnt_cons (b : UInt8) (l : List UInt8) : cnt (b::l) = cnt l + if b.toNat / 64 = 2 then 0 else 1:=by
  unfold cnt;rw [List.countP_cons]
  by_cases h : b.toNat / 64 = 2 <;> simp [h]
theorem cnt_append (a b : List UInt8) : cnt (a++b) = cnt a + cnt b:=by unfold cnt; exact List.countP_append
theorem cnt_nil : cnt [] = 0:=rfl
/-- A text's first code point. -/
theorem ok_step {l : List UInt8} (hl : l ≠ []) (h : okText l = true) : 1≤(decodeL l).2∧(decodeL l).2≤l.length∧(decodeL l).2≤4∧cnt (l.take (decodeL l).2) = 1∧okText (l.drop (decodeL l).2) = true∧pointL l = decodeL l∧(l.getD 0 0).toNat / 64 ≠ 2:=by
  unfold okText at h ⊢;rw [Bool.and_eq_true,validD_step l hl] at h;obtain ⟨h1,h2⟩:=h
  have hd : ¬ ((decodeL l).1 = 65533∧(decodeL l).2 = 1):=fun e=>by rw [if_pos e] at h1; cases h1
  rw [if_neg hd] at h1
  have hz : ¬ (l.getD 0 0).toNat = 0:=fun e=>by
    cases l with
    | nil=>exact hl rfl
    | cons b t=>
      have : b = 0:=u8_zero.1 (by simpa using e)
      subst this
      simp at h2
  have hp:=pointL_good (l:=l) (by simp only [not_or]; exact ⟨hz,hd⟩)
  have hw:=decodeL_width l
  have hpos:=List.length_pos_iff.2 hl
  have hN:=decodeL_N l
  have hle : (decodeL l).2≤l.length:=by rw [hN]; exact decodeN_width _ _ _ _ _ (by omega)
  have hd':=hd
  rw [hN] at hd'
  have hc:=dec_cont _ _ _ _ _ (by omega) hd'
  rw [← hN] at hc;obtain ⟨hb0,hc⟩:=hc;refine ⟨by omega,hle,by omega,?_,?_,hp,hb0⟩
  · generalize (decodeL l).2 = k at hc hle
    match l,hl with
    | [b0],_=>
      simp only [List.length_cons,List.length_nil] at hle;simp only [List.getD_cons_zero] at hb0
      rcases hc with rfl | ⟨rfl,_⟩ | ⟨rfl,_⟩ | ⟨rfl,_⟩
      · show cnt [b0] = 1; rw [cnt_cons,cnt_nil,if_neg hb0]
      all_goals omega
    | [b0,b1],_=>
      simp only [List.length_cons,List.length_nil] at hle;simp only [List.getD_cons_zero,List.getD_cons_succ] at hb0 hc
      rcases hc with rfl | ⟨rfl,g1⟩ | ⟨rfl,_⟩ | ⟨rfl,_⟩
      · show cnt [b0] = 1; rw [cnt_cons,cnt_nil,if_neg hb0]
      · show cnt [b0,b1] = 1; rw [cnt_cons,cnt_cons,cnt_nil,if_neg hb0,if_pos g1]
      all_goals omega
    | [b0,b1,b2],_=>
      simp only [List.length_cons,List.length_nil] at hle;simp only [List.getD_cons_zero,List.getD_cons_succ] at hb0 hc
      rcases hc with rfl | ⟨rfl,g1⟩ | ⟨rfl,g1,g2⟩ | ⟨rfl,_⟩
      · show cnt [b0] = 1; rw [cnt_cons,cnt_nil,if_neg hb0]
      · show cnt [b0,b1] = 1; rw [cnt_cons,cnt_cons,cnt_nil,if_neg hb0,if_pos g1]
      · show cnt [b0,b1,b2] = 1; rw [cnt_cons,cnt_cons,cnt_cons,cnt_nil,if_neg hb0,if_pos g1,if_pos g2]
      all_goals omega
    | b0::b1::b2::b3::t,_=>
      simp only [List.getD_cons_zero,List.getD_cons_succ] at hb0 hc
      rcases hc with rfl | ⟨rfl,g1⟩ | ⟨rfl,g1,g2⟩ | ⟨rfl,g1,g2,g3⟩
      · show cnt [b0] = 1; rw [cnt_cons,cnt_nil,if_neg hb0]
      · show cnt [b0,b1] = 1; rw [cnt_cons,cnt_cons,cnt_nil,if_neg hb0,if_pos g1]
      · show cnt [b0,b1,b2] = 1; rw [cnt_cons,cnt_cons,cnt_cons,cnt_nil,if_neg hb0,if_pos g1,if_pos g2]
      · show cnt [b0,b1,b2,b3] = 1; rw [cnt_cons,cnt_cons,cnt_cons,cnt_cons,cnt_nil,if_neg hb0,if_pos g1,if_pos g2,if_pos g3]
  · rw [h1,Bool.true_and]
    cases hc2 : (l.drop (decodeL l).2).contains 0 with
    | false=>rfl
    | true=>
      have : l.contains 0 = true:=by
        simp only [List.contains_iff_mem] at hc2 ⊢;exact List.mem_of_mem_drop hc2
      rw [this] at h2; cases h2
theorem cnt_split (l : List UInt8) (k : Nat) : cnt l = cnt (l.take k) + cnt (l.drop k):=by rw [← cnt_append,List.take_append_drop]
theorem cnt_step {l : List UInt8} (hl : l ≠ []) (h : okText l = true) : cnt l = 1 + cnt (l.drop (decodeL l).2):=by
  obtain ⟨_,_,_,h1,_⟩:=ok_step hl h;rw [cnt_split l (decodeL l).2,h1]
theorem cnt_four : ∀ (n : Nat) (l : List UInt8),l.length≤n→okText l = true→l.length≤4 * cnt l
  | 0,l,h,_=>by omega
  | n + 1,l,h,hok=>by
    by_cases hl : l = []
    · subst hl; simp
    · obtain ⟨h1,h2,h3,_,h5,_⟩:=ok_step hl hok
      have ih:=cnt_four n (l.drop (decodeL l).2) (by rw [List.length_drop]; omega) h5
      rw [List.length_drop] at ih;rw [cnt_step hl hok]
      omega
theorem cnt_le (l : List UInt8) : cnt l≤l.length:=List.countP_le_length
end Go.Proofs.YtldgdjilchnceaaGreatDoor

set_option linter.unusedVariables false
set_option linter.unusedSimpArgs false
namespace Go.Proofs.YtldgdjilchnceaaGreatDoor
open Go.RowKit Go.Lib
section
variable {P : Program} {W w w' : World} {N dd : Nat} {a : Act} {ops : Array Oper} {Q : Exit→Act→World→Prop} {rest : List Oper} {ps : String} {af : Array Edge} {l : List (Nat × Value)} {T U U' : TypeId} {cs r : List Ch} {x y : Operand} {b : Nat} {s : ByteArray} {pos : Nat}
theorem and192 : ∀ m : Fin 256,bits .and .u8 (m.val : Int) 192 = (m.val : Int) / 64 * 64:=by decide +kernel
theorem yAndStart {m : Nat} (hm : m < 256) (hx : ev l x = some (.int .u8 m)) (hy : ev l y = some (.int .u8 192)) : Yl P w l (.binOp .and U x y U') T (.int .u8 ((m : Int) / 64 * 64)) :=
  yBin hx hy (fun _ _=>eqg_int) (by rw [binOp_and,intBits_and]; rw [and192 ⟨m,hm⟩]; rfl)
/-- 'range' over a text. -/
theorem pRangeS (ha : Has a N l) (hu : ∀ w,(underlying U).run P w = .ok .string w) (hx : ev l x = some (.string s)) (hs : Sep W w cs) (hd : Nat.blt dd N = true)
    (h : ∀ b w,Sep W w (.own b (.stringIter s 0)::cs)→∀ a,Has a N ((dd,.pointer (some ⟨b,0,none⟩))::l)→wpList P ops Q rest a w) : wpList P ops Q (⟨some dd,.range U x,T,ps,af,none⟩::rest) a w:=by
  refine pE ha (v:=.pointer (some ⟨w.heap.size,0,none⟩)) (w':=w.alloc (.stringIter s 0)) (fun ρ o hE ho hT=>?_) hd fun a ha=>h _ _ (hs.alloc _) a ha;unfold execOp; rw [ho]
  simp [hE _ _ hx,Instr.range,hu]
theorem sNextS (hs : Sep W w cs) (hk : Pick cs (.own b (.stringIter s pos)) r) (hp : pos < s.size) : ∃ w',(∀ ty,(Instr.next (.pointer (some ⟨b,0,none⟩)) true ty).run P w = .ok (.tuple #[.bool true,.int .i64 pos,.int .i32 (Utf8.decode s pos).1]) w') ∧
    Sep W w' (.own b (.stringIter s (pos + (Utf8.decode s pos).2))::r):=by
  have hb:=hs.own_at hk
  have hlt : b < w.heap.size:=(Array.getElem?_eq_some_iff.1 hb).1
  refine ⟨{ w with heap:=w.heap.setIfInBounds b (.stringIter s (pos + (Utf8.decode s pos).2)) },fun ty=>?_,(hs.pick hk).change rfl rfl rfl ?_ fun i hi=>?_⟩
  · simp [Instr.next,getObj,setObj,Sem.run,hb,hp,goInt,Result.andThen]
  · simp [Array.getElem?_setIfInBounds,hlt]
  · rw [Array.getElem?_setIfInBounds_ne (by omega)]
theorem pNextS (ha : Has a N l) (hs : Sep W w cs) (hx : ev l x = some (.pointer (some ⟨b,0,none⟩))) (hk : Pick cs (.own b (.stringIter s pos)) r) (hp : pos < s.size) (hd : Nat.blt dd N = true)
    (h : ∀ w,Sep W w (.own b (.stringIter s (pos + (Utf8.decode s pos).2))::r)→∀ a,Has a N ((dd,.tuple #[.bool true,.int .i64 pos,.int .i32 (Utf8.decode s pos).1])::l)→wpList P ops Q rest a w) : wpList P ops Q (⟨some dd,.next x true,T,ps,af,none⟩::rest) a w:=by
  obtain ⟨w',h1,h2⟩:=sNextS (P:=P) hs hk hp;refine pE ha (v:=.tuple #[.bool true,.int .i64 pos,.int .i32 (Utf8.decode s pos).1]) (w':=w') (fun ρ o hE ho hT=>?_) hd fun a ha=>h _ h2 a ha;unfold execOp; rw [ho]
  simp [hE _ _ hx,h1]
theorem pNextSE (ha : Has a N l) (hs : Sep W w cs) (hx : ev l x = some (.pointer (some ⟨b,0,none⟩))) (hk : Pick cs (.own b (.stringIter s pos)) r) (hp : s.size≤pos) (hd : Nat.blt dd N = true)
    (h : ∀ a,Has a N ((dd,.tuple #[.bool false])::l)→wpList P ops Q rest a w) : wpList P ops Q (⟨some dd,.next x true,T,ps,af,none⟩::rest) a w:=by
  have hb:=hs.own_at hk
  refine pE ha (v:=.tuple #[.bool false]) (w':=w) (fun ρ o hE ho hT=>?_) hd fun a ha=>h a ha;unfold execOp; rw [ho]
  have hp' : ¬ pos < s.size:=by omega
  simp [hE _ _ hx,Instr.next,getObj,Sem.run,hb,hp',Result.andThen]
end
section
variable {W w : World} {cs r : List Ch}
theorem RuneStart_c (b : UInt8) (hs : Sep W w cs) : Calls P 115 #[.int .u8 b.toNat] w (Rt fun v w'=>v = .bool (decide (b.toNat / 64 ≠ 2))∧Sep W w' cs):=by
  have hb:=b.toNat_lt
  refine enter Tryz.func115 Tryz.ntmps115 rfl rfl fun a (ha : Has a 6 [(0,_)])=>?_;refine wp_seq_k fun K1 hK1=>?_;refine wp_region_lit ?_;refine pY ha (yAssign rfl) fun a ha=>?_;refine pZ ?_;refine hK1 _ _ ?_;refine wp_seq_k fun K2 hK2=>?_;refine wp_region_lit ?_;refine pY ha (yMove rfl) fun a ha=>?_;refine pY ha (yAndStart (m:=b.toNat) (by omega) rfl rfl) fun a ha=>?_;refine pY ha (yNeq rfl rfl) fun a ha=>?_;refine pY ha (yAssign rfl) fun a ha=>?_;refine pZ ?_;refine hK2 _ _ ?_;refine wp_ret ?_;show bodyPost Tryz.prog Tryz.f115 _ .ret _ _;refine ret1 rfl ha rfl ?_;refine ⟨congrArg Value.bool ?_,hs⟩;rw [← decide_not,decide_eq_decide]; omega
theorem RuneCount_c (s : ByteArray) (hok : okText s.data.toList = true) (hsz : s.size≤9223372036854775807) (hs : Sep W w cs) : Calls P 94 #[.string s] w (Rt fun v w'=>v = .int .i64 (cnt s.data.toList)∧Sep W w' cs):=by
  have hlen : s.data.toList.length = s.size:=by simp
  refine enter Tryz.func94 Tryz.ntmps94 rfl rfl fun a (ha : Has a 10 [(0,_)])=>?_;refine wp_seq_k fun K1 hK1=>?_;refine wp_region_lit ?_;refine pY ha (yAssign rfl) fun a ha=>?_;refine pZ ?_;refine hK1 _ _ ?_;refine wp_seq_k fun K2 hK2=>?_;refine wp_seq_k fun K3 hK3=>?_;refine wp_region_lit ?_;refine pY ha (yMove rfl) fun a ha=>?_;refine pRangeS ha Tryz.runUnderlying9 rfl hs rfl fun b w hs a ha=>?_;refine pZ ?_;refine hK3 _ _ ?_;refine wp_block ?_;refine loopI (ι:=Nat × Nat) (fun i a w=>i.1≤s.size∧okText (s.data.toList.drop i.1) = true∧i.2 = cnt (s.data.toList.take i.1)∧Has a 10 [(2,.int .i64 i.2),(4,.pointer (some ⟨b,0,none⟩))]∧Sep W w (.own b (.stringIter s i.1)::cs)) (fun i=>s.size - i.1) ((0,0)) ?_ ?_
  · exact ⟨Nat.zero_le _,hok,rfl,has2 ha rfl rfl,hs⟩
  · rintro i a w ⟨h1,h2,h3,ha,hs⟩;obtain ⟨pos,n⟩:=i; simp only at h1 h2 h3 ha hs;refine wp_seq_k fun K4 hK4=>?_;refine wp_region_lit ?_
    rcases Nat.lt_or_ge pos s.size with hp | hp
    · have hne : s.data.toList.drop pos ≠ []:=by intro e; have:=congrArg List.length e; rw [List.length_drop] at this; simp at this; omega
      obtain ⟨k1,k2,k3,k4,k5,k6,k7⟩:=ok_step hne h2;rw [decodeL_drop] at k1 k2 k3 k4 k5;rw [List.length_drop,hlen] at k2
      have hcl:=cnt_le (s.data.toList.take pos)
      rw [List.length_take] at hcl;refine pNextS ha hs rfl pk0 hp rfl fun w hs a ha=>?_;refine pY ha (yExtract rfl rfl) fun a ha=>?_;refine pZ ?_;refine hK4 _ _ ?_;refine wp_seq_k fun K5 hK5=>?_;refine cTrue ha rfl ?_;refine wp_skip ?_;refine hK5 _ _ ?_;refine wp_block ?_;refine wp_region_lit ?_;refine pY ha (yMove rfl) fun a ha=>?_;refine pY ha (yAddN rfl rfl ⟨by omega,by omega⟩) fun a ha=>?_;refine pY ha (yAssign rfl) fun a ha=>?_;refine pZ ?_;refine ⟨(pos + (Utf8.decode s pos).2,n + 1),⟨by simp only; omega,by rw [List.drop_drop] at k5; exact k5,?_,has2 ha rfl rfl,hs⟩,by simp only; omega⟩;simp only;rw [List.take_add,cnt_append,k4,← h3]
    · refine pNextSE ha hs rfl pk0 hp rfl fun a ha=>?_;refine pY ha (yExtract rfl rfl) fun a ha=>?_;refine pZ ?_;refine hK4 _ _ ?_;refine wp_seq_k fun K6 hK6=>?_;refine cFalse ha rfl ?_;refine wp_exit ?_;refine hK2 _ _ ?_;refine wp_seq_k fun K7 hK7=>?_;refine wp_region_lit ?_;refine pY ha (yMove rfl) fun a ha=>?_;refine pY ha (yAssign rfl) fun a ha=>?_;refine pZ ?_;refine hK7 _ _ ?_;refine wp_ret ?_;show bodyPost Tryz.prog Tryz.f94 _ .ret _ _;refine ret1 rfl ha rfl ?_;rw [List.take_of_length_le (by omega)] at h3; rw [← h3]; exact ⟨rfl,hs.drop⟩
theorem Count_c (hT : Tabs W) (s : ByteArray) (hsz : s.size≤9223372036854775807) (hs : Sep W w cs) : Calls P 100 #[.string s] w (Rt fun v w'=>v = (if okText s.data.toList = true then .tuple #[.int .i64 (cnt s.data.toList),.int .i64 0] else .tuple #[.int .i64 0,.int .i64 2])∧Sep W w' cs):=by
  have hlen : s.data.toList.length = s.size:=by simp
  refine enter Tryz.func100 Tryz.ntmps100 rfl rfl fun a (ha : Has a 30 [(0,_)])=>?_;refine wp_seq_k fun K1 hK1=>?_;refine wp_region_lit ?_;refine pY ha (yAssign rfl) fun a ha=>?_;refine pY ha (yAssign rfl) fun a ha=>?_;refine pZ ?_;refine hK1 _ _ ?_;refine scopeN (ι:=Nat × Nat) 1 (fun i a w=>okText s.data.toList = true∧i.1≤s.size∧i.2 = cnt (s.data.toList.take i.1)∧(∀ x,s.data.toList[i.1]? = some x→x.toNat / 64 ≠ 2)∧Has a 30 [(0,.string s),(2,.int .i64 i.2),(4,.int .i64 i.1)]∧Sep W w cs) (fun i=>s.size - i.1) 1 ?_ ?_
  · refine wp_seq_k fun K2 hK2=>?_;refine wp_seq_k fun K3 hK3=>?_;refine wp_region_lit ?_;refine pY ha (yMove rfl) fun a ha=>?_;refine pC ha (nCall Tryz.call60 rfl) rfl (Valid_c hT s hsz hs) ?_;rintro v w ⟨rfl,hs⟩ a ha;refine pY ha (yNot rfl) fun a ha=>?_;refine pZ ?_;refine hK3 _ _ ?_;refine cSplit ha rfl (fun hc7=>?_) (fun hc7=>?_)
    · have hok : ¬ okText s.data.toList = true:=by simpa using hc7
      refine wp_seq_k fun K4 hK4=>?_;refine wp_region_lit ?_;refine pY ha (yAssign rfl) fun a ha=>?_;refine pY ha (yAssign rfl) fun a ha=>?_;refine pZ ?_;refine hK4 _ _ ?_;refine wp_ret ?_;show bodyPost Tryz.prog Tryz.f100 _ .ret _ _;refine ret2 rfl ha rfl rfl ?_;rw [if_neg hok]; exact ⟨rfl,hs⟩
    · have hok : okText s.data.toList = true:=by simpa using hc7
      refine wp_skip ?_;refine hK2 _ _ ?_;refine wp_seq_k fun K5 hK5=>?_;refine wp_region_lit ?_;refine pY ha (yAssign rfl) fun a ha=>?_;refine pZ ?_;refine hK5 _ _ ?_;refine wp_seq_k fun K6 hK6=>?_;refine wp_label ?_;refine hK6 _ _ ?_;refine wp_seq_k fun K7 hK7=>?_;refine wp_seq_k fun K8 hK8=>?_
      (obtain ⟨i,hi0⟩ : ∃ i : Nat,(0 : Int) = i:=⟨0,rfl⟩
       rw [hi0] at ha;obtain ⟨n,hn⟩ : ∃ n : Nat,n = i:=⟨i,rfl⟩
       have ha : Has a 30 [(0,.string s),(2,.int .i64 n),(4,.int .i64 i)]:=by subst hn; exact has3 ha rfl rfl rfl
       have hi1 : i = 0:=by omega
       have h1 : i≤s.size:=by omega
       have h2 : n = cnt (s.data.toList.take i):=by subst hn; subst hi1; rfl
       have h3 : ∀ x,s.data.toList[i]? = some x→x.toNat / 64 ≠ 2:=fun x hx=>by
         subst hi1
         have hne : s.data.toList ≠ []:=by intro e; rw [e] at hx; simp at hx
         have:=(ok_step hne hok).2.2.2.2.2.2
         rw [List.getD_eq_getElem?_getD,hx] at this
         exact this)
      refine wp_region_lit ?_;refine pY ha (yMove rfl) fun a ha=>?_;refine pY ha (yMove rfl) fun a ha=>?_;refine pY ha (yLenStr Tryz.runUnderlying9 rfl) fun a ha=>?_;refine pY ha (yEql rfl rfl) fun a ha=>?_;refine pZ ?_;refine hK8 _ _ ?_;refine cDec ha rfl (fun hc11=>?_) (fun hc11=>?_)
      · refine wp_goto ?_
        repeat (with_reducible first | refine gThen ?_ | refine gBlock ?_)
        refine gxF rfl rfl ?_;refine wp_seq_k fun K9 hK9=>?_;refine wp_skip ?_;refine hK9 _ _ ?_;refine wp_seq_k fun K10 hK10=>?_;refine wp_region_lit ?_;refine pY ha (yMove rfl) fun a ha=>?_;refine pY ha (yAssign rfl) fun a ha=>?_;refine pY ha (yAssign rfl) fun a ha=>?_;refine pZ ?_;refine hK10 _ _ ?_;refine wp_ret ?_;show bodyPost Tryz.prog Tryz.f100 _ .ret _ _;refine ret2 rfl ha rfl rfl ?_;rw [if_pos hok]; rw [List.take_of_length_le (by omega)] at h2; rw [← h2]; exact ⟨rfl,hs⟩
      · obtain ⟨x0,hx0,_⟩:=list_at s (i:=i) (by omega)
        have hx1:=h3 x0 hx0
        have hcl:=cnt_le (s.data.toList.take i)
        rw [List.length_take] at hcl;refine wp_skip ?_;refine hK7 _ _ ?_;refine wp_seq_k fun K11 hK11=>?_;refine wp_seq_k fun K12 hK12=>?_;refine wp_region_lit ?_;refine pY ha (yMove rfl) fun a ha=>?_;refine pY ha (yAddN rfl rfl ⟨by omega,by omega⟩) fun a ha=>?_;refine pY ha (yAssign rfl) fun a ha=>?_;refine pZ ?_;refine hK12 _ _ ?_;refine wp_block ?_;refine loopI (ι:=Nat) (fun j a w=>i + 1≤j∧j≤s.size∧cnt (s.data.toList.take j) = n + 1∧Has a 30 [(0,.string s),(2,.int .i64 n),(4,.int .i64 j)]∧Sep W w cs) (fun j=>s.size - j) (i + 1) ?_ ?_
        · refine ⟨Nat.le_refl _,by omega,?_,has3 ha rfl rfl rfl,hs⟩;rw [List.take_add_one,hx0,cnt_append]; simp only [Option.toList]; rw [cnt_cons,cnt_nil,if_neg hx1,← h2]
        · rintro j a w ⟨g1,g2,g3,ha,hs⟩;refine wp_seq_k fun K13 hK13=>?_;refine wp_seq_k fun K14 hK14=>?_;refine wp_region_lit ?_;refine pY ha (yMove rfl) fun a ha=>?_;refine pY ha (yMove rfl) fun a ha=>?_;refine pY ha (yLenStr Tryz.runUnderlying9 rfl) fun a ha=>?_;refine pY ha (yLss rfl rfl) fun a ha=>?_;refine pY ha (yMove rfl) fun a ha=>?_;refine gDec (t:=18) ha rfl (fun hg4 hp4=>?_) (fun hg4 hp4=>?_)
          · rw [hg4] at ha
            have hp4:=of_decide_eq_false hg4
            have hst : ∀ x,s.data.toList[j]? = some x→x.toNat / 64 ≠ 2:=fun x hx=>by
              have:=(List.getElem?_eq_some_iff.1 hx).1
              omega
            refine gOff ha fun a ha=>?_;refine gOff ha fun a ha=>?_;refine gOff ha fun a ha=>?_;refine gOff ha fun a ha=>?_;refine gOff ha fun a ha=>?_;refine pY ha (yPickF rfl rfl) fun a ha=>?_;refine pZ ?_;refine hK14 _ _ ?_;refine cFalse ha rfl ?_;refine wp_exit ?_;refine hK11 _ _ ?_;refine wp_seq_k fun K15 hK15=>?_;refine wp_region_lit ?_;refine pY ha (yMove rfl) fun a ha=>?_;refine pY ha (yAddN rfl rfl ⟨by omega,by omega⟩) fun a ha=>?_;refine pY ha (yAssign rfl) fun a ha=>?_;refine pZ ?_;refine hK15 _ _ ?_;refine wp_seq_k fun K16 hK16=>?_;refine wp_goto ?_
            repeat (with_reducible first | refine gThen ?_ | refine gBlock ?_)
            refine gxL ?_;refine ⟨(j,n + 1),hok,by simp only; omega,by simp only; omega,hst,has3 ha rfl rfl rfl,hs⟩
          · rw [hg4] at ha
            have hp4:=of_decide_eq_true hg4
            obtain ⟨y0,hy0,_⟩:=list_at s (i:=j) (by omega);refine gOn ha ?_;refine pY ha (yMove rfl) fun a ha=>?_;refine gOn ha ?_;refine pY ha (yMove rfl) fun a ha=>?_;refine gOn ha ?_;refine pY ha (yIndexSb Tryz.runUnderlying9 rfl rfl (by omega) (by simpa using hy0)) fun a ha=>?_;refine gOn ha ?_;refine pC ha (nCall Tryz.call115 rfl) rfl (RuneStart_c y0 hs) ?_;rintro v w ⟨rfl,hs⟩ a ha;refine gOn ha ?_;refine pY ha (yNot rfl) fun a ha=>?_;refine pY ha (yPickT rfl rfl) fun a ha=>?_;refine pZ ?_;refine hK14 _ _ ?_;refine cNDec ha rfl (fun hc24=>?_) (fun hc24=>?_)
            · have hy1 : y0.toNat / 64 = 2:=by simpa using hc24
              refine wp_skip ?_;refine hK13 _ _ ?_;refine wp_seq_k fun K17 hK17=>?_;refine wp_block ?_;refine wp_skip ?_;refine hK17 _ _ ?_;refine wp_region_lit ?_;refine pY ha (yMove rfl) fun a ha=>?_;refine pY ha (yAddN rfl rfl ⟨by omega,by omega⟩) fun a ha=>?_;refine pY ha (yAssign rfl) fun a ha=>?_;refine pZ ?_;refine ⟨j + 1,⟨by omega,by omega,?_,has3 ha rfl rfl rfl,hs⟩,by omega⟩;rw [List.take_add_one,hy0,cnt_append]; simp only [Option.toList]; rw [cnt_cons,cnt_nil,if_pos hy1,g3]
            · (have hst : ∀ x,s.data.toList[j]? = some x→x.toNat / 64 ≠ 2:=fun x hx=>by
                 rw [hy0] at hx
                 cases hx
                 simpa using hc24)
              refine wp_exit ?_;refine hK11 _ _ ?_;refine wp_seq_k fun K18 hK18=>?_;refine wp_region_lit ?_;refine pY ha (yMove rfl) fun a ha=>?_;refine pY ha (yAddN rfl rfl ⟨by omega,by omega⟩) fun a ha=>?_;refine pY ha (yAssign rfl) fun a ha=>?_;refine pZ ?_;refine hK18 _ _ ?_;refine wp_seq_k fun K19 hK19=>?_;refine wp_goto ?_
              repeat (with_reducible first | refine gThen ?_ | refine gBlock ?_)
              refine gxL ?_;refine ⟨(j,n + 1),hok,by simp only; omega,by simp only; omega,hst,has3 ha rfl rfl rfl,hs⟩
  · rintro i a w ⟨hok,h1,h2,h3,ha,hs⟩;refine ⟨_,rfl,?_⟩;refine wp_seq_k fun K20 hK20=>?_;refine wp_skip ?_;refine hK20 _ _ ?_;refine wp_seq_k fun K21 hK21=>?_;refine wp_seq_k fun K22 hK22=>?_
    (obtain ⟨i,n⟩:=i; simp only at h1 h2 h3 ha hs; obtain hnn : n = n:=rfl)
    refine wp_region_lit ?_;refine pY ha (yMove rfl) fun a ha=>?_;refine pY ha (yMove rfl) fun a ha=>?_;refine pY ha (yLenStr Tryz.runUnderlying9 rfl) fun a ha=>?_;refine pY ha (yEql rfl rfl) fun a ha=>?_;refine pZ ?_;refine hK22 _ _ ?_;refine cDec ha rfl (fun hc11=>?_) (fun hc11=>?_)
    · refine wp_goto ?_
      repeat (with_reducible first | refine gThen ?_ | refine gBlock ?_)
      refine gxF rfl rfl ?_;refine wp_seq_k fun K23 hK23=>?_;refine wp_skip ?_;refine hK23 _ _ ?_;refine wp_seq_k fun K24 hK24=>?_;refine wp_region_lit ?_;refine pY ha (yMove rfl) fun a ha=>?_;refine pY ha (yAssign rfl) fun a ha=>?_;refine pY ha (yAssign rfl) fun a ha=>?_;refine pZ ?_;refine hK24 _ _ ?_;refine wp_ret ?_;show bodyPost Tryz.prog Tryz.f100 _ .ret _ _;refine ret2 rfl ha rfl rfl ?_;rw [if_pos hok]; rw [List.take_of_length_le (by omega)] at h2; rw [← h2]; exact ⟨rfl,hs⟩
    · obtain ⟨x0,hx0,_⟩:=list_at s (i:=i) (by omega)
      have hx1:=h3 x0 hx0
      have hcl:=cnt_le (s.data.toList.take i)
      rw [List.length_take] at hcl;refine wp_skip ?_;refine hK21 _ _ ?_;refine wp_seq_k fun K25 hK25=>?_;refine wp_seq_k fun K26 hK26=>?_;refine wp_region_lit ?_;refine pY ha (yMove rfl) fun a ha=>?_;refine pY ha (yAddN rfl rfl ⟨by omega,by omega⟩) fun a ha=>?_;refine pY ha (yAssign rfl) fun a ha=>?_;refine pZ ?_;refine hK26 _ _ ?_;refine wp_block ?_;refine loopI (ι:=Nat) (fun j a w=>i + 1≤j∧j≤s.size∧cnt (s.data.toList.take j) = n + 1∧Has a 30 [(0,.string s),(2,.int .i64 n),(4,.int .i64 j)]∧Sep W w cs) (fun j=>s.size - j) (i + 1) ?_ ?_
      · refine ⟨Nat.le_refl _,by omega,?_,has3 ha rfl rfl rfl,hs⟩;rw [List.take_add_one,hx0,cnt_append]; simp only [Option.toList]; rw [cnt_cons,cnt_nil,if_neg hx1,← h2]
      · rintro j a w ⟨g1,g2,g3,ha,hs⟩;refine wp_seq_k fun K27 hK27=>?_;refine wp_seq_k fun K28 hK28=>?_;refine wp_region_lit ?_;refine pY ha (yMove rfl) fun a ha=>?_;refine pY ha (yMove rfl) fun a ha=>?_;refine pY ha (yLenStr Tryz.runUnderlying9 rfl) fun a ha=>?_;refine pY ha (yLss rfl rfl) fun a ha=>?_;refine pY ha (yMove rfl) fun a ha=>?_;refine gDec (t:=18) ha rfl (fun hg4 hp4=>?_) (fun hg4 hp4=>?_)
        · rw [hg4] at ha
          have hp4:=of_decide_eq_false hg4
          have hst : ∀ x,s.data.toList[j]? = some x→x.toNat / 64 ≠ 2:=fun x hx=>by
            have:=(List.getElem?_eq_some_iff.1 hx).1
            omega
          refine gOff ha fun a ha=>?_;refine gOff ha fun a ha=>?_;refine gOff ha fun a ha=>?_;refine gOff ha fun a ha=>?_;refine gOff ha fun a ha=>?_;refine pY ha (yPickF rfl rfl) fun a ha=>?_;refine pZ ?_;refine hK28 _ _ ?_;refine cFalse ha rfl ?_;refine wp_exit ?_;refine hK25 _ _ ?_;refine wp_seq_k fun K29 hK29=>?_;refine wp_region_lit ?_;refine pY ha (yMove rfl) fun a ha=>?_;refine pY ha (yAddN rfl rfl ⟨by omega,by omega⟩) fun a ha=>?_;refine pY ha (yAssign rfl) fun a ha=>?_;refine pZ ?_;refine hK29 _ _ ?_;refine wp_seq_k fun K30 hK30=>?_;refine wp_goto ?_
          repeat (with_reducible first | refine gThen ?_ | refine gBlock ?_)
          refine gxL ?_;refine ⟨(j,n + 1),⟨hok,by simp only; omega,by simp only; omega,hst,has3 ha rfl rfl rfl,hs⟩,by simp only; omega⟩
        · rw [hg4] at ha
          have hp4:=of_decide_eq_true hg4
          obtain ⟨y0,hy0,_⟩:=list_at s (i:=j) (by omega);refine gOn ha ?_;refine pY ha (yMove rfl) fun a ha=>?_;refine gOn ha ?_;refine pY ha (yMove rfl) fun a ha=>?_;refine gOn ha ?_;refine pY ha (yIndexSb Tryz.runUnderlying9 rfl rfl (by omega) (by simpa using hy0)) fun a ha=>?_;refine gOn ha ?_;refine pC ha (nCall Tryz.call115 rfl) rfl (RuneStart_c y0 hs) ?_;rintro v w ⟨rfl,hs⟩ a ha;refine gOn ha ?_;refine pY ha (yNot rfl) fun a ha=>?_;refine pY ha (yPickT rfl rfl) fun a ha=>?_;refine pZ ?_;refine hK28 _ _ ?_;refine cNDec ha rfl (fun hc24=>?_) (fun hc24=>?_)
          · have hy1 : y0.toNat / 64 = 2:=by simpa using hc24
            refine wp_skip ?_;refine hK27 _ _ ?_;refine wp_seq_k fun K31 hK31=>?_;refine wp_block ?_;refine wp_skip ?_;refine hK31 _ _ ?_;refine wp_region_lit ?_;refine pY ha (yMove rfl) fun a ha=>?_;refine pY ha (yAddN rfl rfl ⟨by omega,by omega⟩) fun a ha=>?_;refine pY ha (yAssign rfl) fun a ha=>?_;refine pZ ?_;refine ⟨j + 1,⟨by omega,by omega,?_,has3 ha rfl rfl rfl,hs⟩,by omega⟩;rw [List.take_add_one,hy0,cnt_append]; simp only [Option.toList]; rw [cnt_cons,cnt_nil,if_pos hy1,g3]
          · (have hst : ∀ x,s.data.toList[j]? = some x→x.toNat / 64 ≠ 2:=fun x hx=>by
               rw [hy0] at hx
               cases hx
               simpa using hc24)
            refine wp_exit ?_;refine hK25 _ _ ?_;refine wp_seq_k fun K32 hK32=>?_;refine wp_region_lit ?_;refine pY ha (yMove rfl) fun a ha=>?_;refine pY ha (yAddN rfl rfl ⟨by omega,by omega⟩) fun a ha=>?_;refine pY ha (yAssign rfl) fun a ha=>?_;refine pZ ?_;refine hK32 _ _ ?_;refine wp_seq_k fun K33 hK33=>?_;refine wp_goto ?_
            repeat (with_reducible first | refine gThen ?_ | refine gBlock ?_)
            refine gxL ?_;refine ⟨(j,n + 1),⟨hok,by simp only; omega,by simp only; omega,hst,has3 ha rfl rfl rfl,hs⟩,by simp only; omega⟩
theorem Letter_c (b : UInt8) (hs : Sep W w cs) : Calls P 107 #[.int .u8 b.toNat] w (Rt fun v w'=>v = .bool (letter b)∧Sep W w' cs):=by
  have hb:=b.toNat_lt
  refine enter Tryz.func107 Tryz.ntmps107 rfl rfl fun a (ha : Has a 29 [(0,_)])=>?_;refine wp_seq_k fun K1 hK1=>?_;refine wp_region_lit ?_;refine pY ha (yAssign rfl) fun a ha=>?_;refine pZ ?_;refine hK1 _ _ ?_;refine wp_seq_k fun K2 hK2=>?_;refine cutC (fun a w=>Has a 29 [(2,.bool (letter b))]∧Sep W w cs) ?_ ?_
  · refine wp_region_lit ?_;refine pY ha (yMove rfl) fun a ha=>?_;refine pY ha (yGeq rfl rfl) fun a ha=>?_;refine pY ha (yMove rfl) fun a ha=>?_;refine gDec (t:=5) ha rfl (fun hg2 hp2=>?_) (fun hg2 hp2=>?_)
    · rw [hg2] at ha;refine gOff ha fun a ha=>?_;refine gOff ha fun a ha=>?_;refine pY ha (yPickF rfl rfl) fun a ha=>?_;refine pY ha (yMove rfl) fun a ha=>?_;refine gOn ha ?_;refine pY ha (yMove rfl) fun a ha=>?_;refine gOn ha ?_;refine pY ha (yGeq rfl rfl) fun a ha=>?_;refine gOn ha ?_;refine pY ha (yMove rfl) fun a ha=>?_;refine gDec (t:=12) ha rfl (fun hg9 hp9=>?_) (fun hg9 hp9=>?_)
      · rw [hg9] at ha;refine gOff ha fun a ha=>?_;refine gOff ha fun a ha=>?_;refine gOn ha ?_;refine pY ha (yPickF rfl rfl) fun a ha=>?_;refine pY ha (yPickF rfl rfl) fun a ha=>?_;refine pY ha (yMove rfl) fun a ha=>?_;refine gOn ha ?_;refine pY ha (yMove rfl) fun a ha=>?_;refine gOn ha ?_;refine pY ha (yEql rfl rfl) fun a ha=>?_;refine pY ha (yPickF rfl rfl) fun a ha=>?_;refine pY ha (yMove rfl) fun a ha=>?_;refine gSplit (t:=21) ha rfl (fun hg18=>?_) (fun hg18=>?_)
        · rw [hg18] at ha;refine gOn ha ?_;refine pY ha (yMove rfl) fun a ha=>?_;refine gOn ha ?_;refine pY ha (yEql rfl rfl) fun a ha=>?_;refine pY ha (yPickF rfl rfl) fun a ha=>?_;refine pY ha (yMove rfl) fun a ha=>?_;refine gSplit (t:=25) ha rfl (fun hg22=>?_) (fun hg22=>?_)
          · rw [hg22] at ha;refine gOn ha ?_;refine pY ha (yMove rfl) fun a ha=>?_;refine gOn ha ?_;refine pY ha (yEql rfl rfl) fun a ha=>?_;refine pY ha (yPickF rfl rfl) fun a ha=>?_;refine pY ha (yAssign rfl) fun a ha=>?_;refine pZ ⟨rfl,?_⟩;refine ⟨has1 ha ?_,hs⟩;unfold letter
            have e : ∀ {p q : Prop} [Decidable p] [Decidable q],(p ↔ q)→decide p = decide q:=fun h=>decide_eq_decide.2 h
            refine congrArg (fun b=>some (Value.bool b)) ?_;rw [Bool.eq_iff_iff];simp only [Bool.or_eq_true,decide_eq_true_eq,Bool.false_eq_true,true_iff,false_iff,iff_true,iff_false];simp only [decide_eq_true_eq,decide_eq_false_iff_not] at *
            omega
          · rw [hg22] at ha;refine gOff ha fun a ha=>?_;refine gOff ha fun a ha=>?_;refine pY ha (yPickT rfl rfl) fun a ha=>?_;refine pY ha (yAssign rfl) fun a ha=>?_;refine pZ ⟨rfl,?_⟩;refine ⟨has1 ha ?_,hs⟩;unfold letter
            have e : ∀ {p q : Prop} [Decidable p] [Decidable q],(p ↔ q)→decide p = decide q:=fun h=>decide_eq_decide.2 h
            refine congrArg (fun b=>some (Value.bool b)) ?_;rw [Bool.eq_iff_iff];simp only [Bool.or_eq_true,decide_eq_true_eq,Bool.false_eq_true,true_iff,false_iff,iff_true,iff_false];simp only [decide_eq_true_eq,decide_eq_false_iff_not] at *
            omega
        · rw [hg18] at ha;refine gOff ha fun a ha=>?_;refine gOff ha fun a ha=>?_;refine pY ha (yPickT rfl rfl) fun a ha=>?_;refine pY ha (yMove rfl) fun a ha=>?_;refine gOff ha fun a ha=>?_;refine gOff ha fun a ha=>?_;refine pY ha (yPickT rfl rfl) fun a ha=>?_;refine pY ha (yAssign rfl) fun a ha=>?_;refine pZ ⟨rfl,?_⟩;refine ⟨has1 ha ?_,hs⟩;unfold letter
          have e : ∀ {p q : Prop} [Decidable p] [Decidable q],(p ↔ q)→decide p = decide q:=fun h=>decide_eq_decide.2 h
          refine congrArg (fun b=>some (Value.bool b)) ?_;rw [Bool.eq_iff_iff];simp only [Bool.or_eq_true,decide_eq_true_eq,Bool.false_eq_true,true_iff,false_iff,iff_true,iff_false];simp only [decide_eq_true_eq,decide_eq_false_iff_not] at *
          omega
      · rw [hg9] at ha;refine gOn ha ?_;refine pY ha (yMove rfl) fun a ha=>?_;refine gOn ha ?_;refine pY ha (yLeq rfl rfl) fun a ha=>?_;refine gOn ha ?_;refine pY ha (yPickT rfl rfl) fun a ha=>?_;refine pY ha (yPickF rfl rfl) fun a ha=>?_;refine pY ha (yMove rfl) fun a ha=>?_;refine gSplit (t:=17) ha rfl (fun hg14=>?_) (fun hg14=>?_)
        · rw [hg14] at ha;refine gOn ha ?_;refine pY ha (yMove rfl) fun a ha=>?_;refine gOn ha ?_;refine pY ha (yEql rfl rfl) fun a ha=>?_;refine pY ha (yPickF rfl rfl) fun a ha=>?_;refine pY ha (yMove rfl) fun a ha=>?_;refine gSplit (t:=21) ha rfl (fun hg18=>?_) (fun hg18=>?_)
          · rw [hg18] at ha;refine gOn ha ?_;refine pY ha (yMove rfl) fun a ha=>?_;refine gOn ha ?_;refine pY ha (yEql rfl rfl) fun a ha=>?_;refine pY ha (yPickF rfl rfl) fun a ha=>?_;refine pY ha (yMove rfl) fun a ha=>?_;refine gSplit (t:=25) ha rfl (fun hg22=>?_) (fun hg22=>?_)
            · rw [hg22] at ha;refine gOn ha ?_;refine pY ha (yMove rfl) fun a ha=>?_;refine gOn ha ?_;refine pY ha (yEql rfl rfl) fun a ha=>?_;refine pY ha (yPickF rfl rfl) fun a ha=>?_;refine pY ha (yAssign rfl) fun a ha=>?_;refine pZ ⟨rfl,?_⟩;refine ⟨has1 ha ?_,hs⟩;unfold letter
              have e : ∀ {p q : Prop} [Decidable p] [Decidable q],(p ↔ q)→decide p = decide q:=fun h=>decide_eq_decide.2 h
              refine congrArg (fun b=>some (Value.bool b)) ?_;rw [Bool.eq_iff_iff];simp only [Bool.or_eq_true,decide_eq_true_eq,Bool.false_eq_true,true_iff,false_iff,iff_true,iff_false];simp only [decide_eq_true_eq,decide_eq_false_iff_not] at *
              omega
            · rw [hg22] at ha;refine gOff ha fun a ha=>?_;refine gOff ha fun a ha=>?_;refine pY ha (yPickT rfl rfl) fun a ha=>?_;refine pY ha (yAssign rfl) fun a ha=>?_;refine pZ ⟨rfl,?_⟩;refine ⟨has1 ha ?_,hs⟩;unfold letter
              have e : ∀ {p q : Prop} [Decidable p] [Decidable q],(p ↔ q)→decide p = decide q:=fun h=>decide_eq_decide.2 h
              refine congrArg (fun b=>some (Value.bool b)) ?_;rw [Bool.eq_iff_iff];simp only [Bool.or_eq_true,decide_eq_true_eq,Bool.false_eq_true,true_iff,false_iff,iff_true,iff_false];simp only [decide_eq_true_eq,decide_eq_false_iff_not] at *
              omega
          · rw [hg18] at ha;refine gOff ha fun a ha=>?_;refine gOff ha fun a ha=>?_;refine pY ha (yPickT rfl rfl) fun a ha=>?_;refine pY ha (yMove rfl) fun a ha=>?_;refine gOff ha fun a ha=>?_;refine gOff ha fun a ha=>?_;refine pY ha (yPickT rfl rfl) fun a ha=>?_;refine pY ha (yAssign rfl) fun a ha=>?_;refine pZ ⟨rfl,?_⟩;refine ⟨has1 ha ?_,hs⟩;unfold letter
            have e : ∀ {p q : Prop} [Decidable p] [Decidable q],(p ↔ q)→decide p = decide q:=fun h=>decide_eq_decide.2 h
            refine congrArg (fun b=>some (Value.bool b)) ?_;rw [Bool.eq_iff_iff];simp only [Bool.or_eq_true,decide_eq_true_eq,Bool.false_eq_true,true_iff,false_iff,iff_true,iff_false];simp only [decide_eq_true_eq,decide_eq_false_iff_not] at *
            omega
        · rw [hg14] at ha;refine gOff ha fun a ha=>?_;refine gOff ha fun a ha=>?_;refine pY ha (yPickT rfl rfl) fun a ha=>?_;refine pY ha (yMove rfl) fun a ha=>?_;refine gOff ha fun a ha=>?_;refine gOff ha fun a ha=>?_;refine pY ha (yPickT rfl rfl) fun a ha=>?_;refine pY ha (yMove rfl) fun a ha=>?_;refine gOff ha fun a ha=>?_;refine gOff ha fun a ha=>?_;refine pY ha (yPickT rfl rfl) fun a ha=>?_;refine pY ha (yAssign rfl) fun a ha=>?_;refine pZ ⟨rfl,?_⟩;refine ⟨has1 ha ?_,hs⟩;unfold letter
          have e : ∀ {p q : Prop} [Decidable p] [Decidable q],(p ↔ q)→decide p = decide q:=fun h=>decide_eq_decide.2 h
          refine congrArg (fun b=>some (Value.bool b)) ?_;rw [Bool.eq_iff_iff];simp only [Bool.or_eq_true,decide_eq_true_eq,Bool.false_eq_true,true_iff,false_iff,iff_true,iff_false];simp only [decide_eq_true_eq,decide_eq_false_iff_not] at *
          omega
    · rw [hg2] at ha;refine gOn ha ?_;refine pY ha (yMove rfl) fun a ha=>?_;refine gOn ha ?_;refine pY ha (yLeq rfl rfl) fun a ha=>?_;refine pY ha (yPickT rfl rfl) fun a ha=>?_;refine pY ha (yMove rfl) fun a ha=>?_;refine gSplit (t:=9) ha rfl (fun hg6=>?_) (fun hg6=>?_)
      · rw [hg6] at ha;refine gOn ha ?_;refine pY ha (yMove rfl) fun a ha=>?_;refine gOn ha ?_;refine pY ha (yGeq rfl rfl) fun a ha=>?_;refine gOn ha ?_;refine pY ha (yMove rfl) fun a ha=>?_;refine gDec (t:=12) ha rfl (fun hg9 hp9=>?_) (fun hg9 hp9=>?_)
        · rw [hg9] at ha;refine gOff ha fun a ha=>?_;refine gOff ha fun a ha=>?_;refine gOn ha ?_;refine pY ha (yPickF rfl rfl) fun a ha=>?_;refine pY ha (yPickF rfl rfl) fun a ha=>?_;refine pY ha (yMove rfl) fun a ha=>?_;refine gOn ha ?_;refine pY ha (yMove rfl) fun a ha=>?_;refine gOn ha ?_;refine pY ha (yEql rfl rfl) fun a ha=>?_;refine pY ha (yPickF rfl rfl) fun a ha=>?_;refine pY ha (yMove rfl) fun a ha=>?_;refine gSplit (t:=21) ha rfl (fun hg18=>?_) (fun hg18=>?_)
          · rw [hg18] at ha;refine gOn ha ?_;refine pY ha (yMove rfl) fun a ha=>?_;refine gOn ha ?_;refine pY ha (yEql rfl rfl) fun a ha=>?_;refine pY ha (yPickF rfl rfl) fun a ha=>?_;refine pY ha (yMove rfl) fun a ha=>?_;refine gSplit (t:=25) ha rfl (fun hg22=>?_) (fun hg22=>?_)
            · rw [hg22] at ha;refine gOn ha ?_;refine pY ha (yMove rfl) fun a ha=>?_;refine gOn ha ?_;refine pY ha (yEql rfl rfl) fun a ha=>?_;refine pY ha (yPickF rfl rfl) fun a ha=>?_;refine pY ha (yAssign rfl) fun a ha=>?_;refine pZ ⟨rfl,?_⟩;refine ⟨has1 ha ?_,hs⟩;unfold letter
              have e : ∀ {p q : Prop} [Decidable p] [Decidable q],(p ↔ q)→decide p = decide q:=fun h=>decide_eq_decide.2 h
              refine congrArg (fun b=>some (Value.bool b)) ?_;rw [Bool.eq_iff_iff];simp only [Bool.or_eq_true,decide_eq_true_eq,Bool.false_eq_true,true_iff,false_iff,iff_true,iff_false];simp only [decide_eq_true_eq,decide_eq_false_iff_not] at *
              omega
            · rw [hg22] at ha;refine gOff ha fun a ha=>?_;refine gOff ha fun a ha=>?_;refine pY ha (yPickT rfl rfl) fun a ha=>?_;refine pY ha (yAssign rfl) fun a ha=>?_;refine pZ ⟨rfl,?_⟩;refine ⟨has1 ha ?_,hs⟩;unfold letter
              have e : ∀ {p q : Prop} [Decidable p] [Decidable q],(p ↔ q)→decide p = decide q:=fun h=>decide_eq_decide.2 h
              refine congrArg (fun b=>some (Value.bool b)) ?_;rw [Bool.eq_iff_iff];simp only [Bool.or_eq_true,decide_eq_true_eq,Bool.false_eq_true,true_iff,false_iff,iff_true,iff_false];simp only [decide_eq_true_eq,decide_eq_false_iff_not] at *
              omega
          · rw [hg18] at ha;refine gOff ha fun a ha=>?_;refine gOff ha fun a ha=>?_;refine pY ha (yPickT rfl rfl) fun a ha=>?_;refine pY ha (yMove rfl) fun a ha=>?_;refine gOff ha fun a ha=>?_;refine gOff ha fun a ha=>?_;refine pY ha (yPickT rfl rfl) fun a ha=>?_;refine pY ha (yAssign rfl) fun a ha=>?_;refine pZ ⟨rfl,?_⟩;refine ⟨has1 ha ?_,hs⟩;unfold letter
            have e : ∀ {p q : Prop} [Decidable p] [Decidable q],(p ↔ q)→decide p = decide q:=fun h=>decide_eq_decide.2 h
            refine congrArg (fun b=>some (Value.bool b)) ?_;rw [Bool.eq_iff_iff];simp only [Bool.or_eq_true,decide_eq_true_eq,Bool.false_eq_true,true_iff,false_iff,iff_true,iff_false];simp only [decide_eq_true_eq,decide_eq_false_iff_not] at *
            omega
        · rw [hg9] at ha;refine gOn ha ?_;refine pY ha (yMove rfl) fun a ha=>?_;refine gOn ha ?_;refine pY ha (yLeq rfl rfl) fun a ha=>?_;refine gOn ha ?_;refine pY ha (yPickT rfl rfl) fun a ha=>?_;refine pY ha (yPickF rfl rfl) fun a ha=>?_;refine pY ha (yMove rfl) fun a ha=>?_;refine gSplit (t:=17) ha rfl (fun hg14=>?_) (fun hg14=>?_)
          · rw [hg14] at ha;refine gOn ha ?_;refine pY ha (yMove rfl) fun a ha=>?_;refine gOn ha ?_;refine pY ha (yEql rfl rfl) fun a ha=>?_;refine pY ha (yPickF rfl rfl) fun a ha=>?_;refine pY ha (yMove rfl) fun a ha=>?_;refine gSplit (t:=21) ha rfl (fun hg18=>?_) (fun hg18=>?_)
            · rw [hg18] at ha;refine gOn ha ?_;refine pY ha (yMove rfl) fun a ha=>?_;refine gOn ha ?_;refine pY ha (yEql rfl rfl) fun a ha=>?_;refine pY ha (yPickF rfl rfl) fun a ha=>?_;refine pY ha (yMove rfl) fun a ha=>?_;refine gSplit (t:=25) ha rfl (fun hg22=>?_) (fun hg22=>?_)
              · rw [hg22] at ha;refine gOn ha ?_;refine pY ha (yMove rfl) fun a ha=>?_;refine gOn ha ?_;refine pY ha (yEql rfl rfl) fun a ha=>?_;refine pY ha (yPickF rfl rfl) fun a ha=>?_;refine pY ha (yAssign rfl) fun a ha=>?_;refine pZ ⟨rfl,?_⟩;refine ⟨has1 ha ?_,hs⟩;unfold letter
                have e : ∀ {p q : Prop} [Decidable p] [Decidable q],(p ↔ q)→decide p = decide q:=fun h=>decide_eq_decide.2 h
                refine congrArg (fun b=>some (Value.bool b)) ?_;rw [Bool.eq_iff_iff];simp only [Bool.or_eq_true,decide_eq_true_eq,Bool.false_eq_true,true_iff,false_iff,iff_true,iff_false];simp only [decide_eq_true_eq,decide_eq_false_iff_not] at *
                omega
              · rw [hg22] at ha;refine gOff ha fun a ha=>?_;refine gOff ha fun a ha=>?_;refine pY ha (yPickT rfl rfl) fun a ha=>?_;refine pY ha (yAssign rfl) fun a ha=>?_;refine pZ ⟨rfl,?_⟩;refine ⟨has1 ha ?_,hs⟩;unfold letter
                have e : ∀ {p q : Prop} [Decidable p] [Decidable q],(p ↔ q)→decide p = decide q:=fun h=>decide_eq_decide.2 h
                refine congrArg (fun b=>some (Value.bool b)) ?_;rw [Bool.eq_iff_iff];simp only [Bool.or_eq_true,decide_eq_true_eq,Bool.false_eq_true,true_iff,false_iff,iff_true,iff_false];simp only [decide_eq_true_eq,decide_eq_false_iff_not] at *
                omega
            · rw [hg18] at ha;refine gOff ha fun a ha=>?_;refine gOff ha fun a ha=>?_;refine pY ha (yPickT rfl rfl) fun a ha=>?_;refine pY ha (yMove rfl) fun a ha=>?_;refine gOff ha fun a ha=>?_;refine gOff ha fun a ha=>?_;refine pY ha (yPickT rfl rfl) fun a ha=>?_;refine pY ha (yAssign rfl) fun a ha=>?_;refine pZ ⟨rfl,?_⟩;refine ⟨has1 ha ?_,hs⟩;unfold letter
              have e : ∀ {p q : Prop} [Decidable p] [Decidable q],(p ↔ q)→decide p = decide q:=fun h=>decide_eq_decide.2 h
              refine congrArg (fun b=>some (Value.bool b)) ?_;rw [Bool.eq_iff_iff];simp only [Bool.or_eq_true,decide_eq_true_eq,Bool.false_eq_true,true_iff,false_iff,iff_true,iff_false];simp only [decide_eq_true_eq,decide_eq_false_iff_not] at *
              omega
          · rw [hg14] at ha;refine gOff ha fun a ha=>?_;refine gOff ha fun a ha=>?_;refine pY ha (yPickT rfl rfl) fun a ha=>?_;refine pY ha (yMove rfl) fun a ha=>?_;refine gOff ha fun a ha=>?_;refine gOff ha fun a ha=>?_;refine pY ha (yPickT rfl rfl) fun a ha=>?_;refine pY ha (yMove rfl) fun a ha=>?_;refine gOff ha fun a ha=>?_;refine gOff ha fun a ha=>?_;refine pY ha (yPickT rfl rfl) fun a ha=>?_;refine pY ha (yAssign rfl) fun a ha=>?_;refine pZ ⟨rfl,?_⟩;refine ⟨has1 ha ?_,hs⟩;unfold letter
            have e : ∀ {p q : Prop} [Decidable p] [Decidable q],(p ↔ q)→decide p = decide q:=fun h=>decide_eq_decide.2 h
            refine congrArg (fun b=>some (Value.bool b)) ?_;rw [Bool.eq_iff_iff];simp only [Bool.or_eq_true,decide_eq_true_eq,Bool.false_eq_true,true_iff,false_iff,iff_true,iff_false];simp only [decide_eq_true_eq,decide_eq_false_iff_not] at *
            omega
      · rw [hg6] at ha;refine gOff ha fun a ha=>?_;refine gOff ha fun a ha=>?_;refine gOff ha fun a ha=>?_;refine gOffU ha fun a ha=>?_;refine gOffU ha fun a ha=>?_;refine gOff ha fun a ha=>?_;refine pY ha (yPickT rfl rfl) fun a ha=>?_;refine pY ha (yMove rfl) fun a ha=>?_;refine gOff ha fun a ha=>?_;refine gOff ha fun a ha=>?_;refine pY ha (yPickT rfl rfl) fun a ha=>?_;refine pY ha (yMove rfl) fun a ha=>?_;refine gOff ha fun a ha=>?_;refine gOff ha fun a ha=>?_;refine pY ha (yPickT rfl rfl) fun a ha=>?_;refine pY ha (yMove rfl) fun a ha=>?_;refine gOff ha fun a ha=>?_;refine gOff ha fun a ha=>?_;refine pY ha (yPickT rfl rfl) fun a ha=>?_;refine pY ha (yAssign rfl) fun a ha=>?_;refine pZ ⟨rfl,?_⟩;refine ⟨has1 ha ?_,hs⟩;unfold letter
        have e : ∀ {p q : Prop} [Decidable p] [Decidable q],(p ↔ q)→decide p = decide q:=fun h=>decide_eq_decide.2 h
        refine congrArg (fun b=>some (Value.bool b)) ?_;rw [Bool.eq_iff_iff];simp only [Bool.or_eq_true,decide_eq_true_eq,Bool.false_eq_true,true_iff,false_iff,iff_true,iff_false];simp only [decide_eq_true_eq,decide_eq_false_iff_not] at *
        omega
  rintro a w ⟨ha,hs⟩;refine hK2 _ _ ?_;refine wp_ret ?_;show bodyPost Tryz.prog Tryz.f107 _ .ret _ _;refine ret1 rfl ha rfl ?_;exact ⟨rfl,hs⟩
end
end Go.Proofs.YtldgdjilchnceaaGreatDoor

set_option linter.unusedVariables false
set_option linter.unusedSimpArgs false
namespace Go.Proofs.YtldgdjilchnceaaGreatDoor
open Go.Lib
/-- x is written by f, and g reads it. -/
def Back {α : Type} (f : Wt→α→Wt) (g : St→α × St) (x : α) : Prop:=∀ st,(f st x).2 = false→st.2 = false∧∃ l,(f st x).1 = st.1++l∧∀ rest,g (l++rest,0) = (x,(rest,0))
theorem back_num (n : Int) : Back wNum rNum n:=fun st h=>by
  simp only [wNum,Bool.or_eq_false_iff] at h
  have hf : fits n = true:=by simpa using h.2
  have hf' : 0≤n∧n≤1099511627776:=by simpa [fits] using hf
  obtain ⟨m,rfl⟩:=Int.eq_ofNat_of_zero_le hf'.1;exact ⟨h.1,put m,rfl,fun rest=>rNum_put (by omega) rest⟩
theorem back_text (most : Nat) (s : ByteArray) (hs : s.size≤most) : Back wText (rText most) s:=fun st h=>by
  have h1 : (wNum (st.1,st.2 || !okText s.data.toList) s.size).2 = false:=h
  obtain ⟨h2,l,h3,h4⟩:=back_num s.size _ h1;simp only [Bool.or_eq_false_iff] at h2
  have hok : okText s.data.toList = true:=by simpa using h2.2
  have hlen : s.data.toList.length = s.size:=by simp
  refine ⟨h2.1,l++s.data.toList,?_,fun rest=>?_⟩
  · have : (wText st s).1 = (wNum (st.1,st.2 || !okText s.data.toList) s.size).1++s.data.toList:=rfl
    rw [this,h3,List.append_assoc]
  · rw [List.append_assoc]
    have ht : (s.data.toList++rest).take s.size = s.data.toList:=by rw [← hlen]; exact List.take_left ..
    have hd : (s.data.toList++rest).drop s.size = rest:=by rw [← hlen]; exact List.drop_left ..
    rw [rText_4 (h4 _) (by simp only [List.length_append,hlen]; omega) (by rw [ht]; exact hok) (by omega),ht,hd]
theorem back_flag (b : Bool) : Back wFlag rFlag b:=fun st h=>by
  obtain ⟨h2,l,h3,h4⟩:=back_num (if b then 1 else 0) st h;refine ⟨h2,l,h3,fun rest=>?_⟩;simp only [rFlag,h4]
  cases b <;> simp
theorem back_fold {α : Type} {f : Wt→α→Wt} {g : St→α × St} : ∀ (l : List α) (st : Wt),(∀ x ∈ l,Back f g x)→(l.foldl f st).2 = false→st.2 = false∧∃ bs,(l.foldl f st).1 = st.1++bs∧∀ rest,rList g l.length (bs++rest,0) = (l,(rest,0))
  | [],st,_,h=>⟨h,[],by simp,fun rest=>rfl⟩
  | x::r,st,hb,h=>by
    obtain ⟨h1,b1,h2,h3⟩:=back_fold r (f st x) (fun y hy=>hb y (by simp [hy])) h;obtain ⟨h4,b2,h5,h6⟩:=hb x (by simp) st h1;refine ⟨h4,b2++b1,by rw [List.foldl_cons,h2,h5,List.append_assoc],fun rest=>?_⟩;simp only [List.length_cons,rList,List.append_assoc,h6,h3]
theorem back_all {α : Type} {f : Wt→α→Wt} {g : St→α × St} {most : Nat} {l : List α} (hl : l.length≤most) (hb : ∀ x ∈ l,Back f g x) : Back (fun st l=>l.foldl f (wNum st l.length)) (rAll g most) l:=fun st h=>by
  obtain ⟨h1,b1,h2,h3⟩:=back_fold l _ hb h;obtain ⟨h4,b2,h5,h6⟩:=back_num l.length st h1;refine ⟨h4,b2++b1,by simp only [h2,h5,List.append_assoc],fun rest=>?_⟩
  have hM : rMany most (b2++(b1++rest),0) = ((l.length : Int),(b1++rest,0)):=by
    simp only [rMany,h6]; rw [if_neg (by omega)]
  rw [List.append_assoc,rAll_at (m:=l.length) (by rw [hM]) (by rw [hM]),h3,if_pos rfl]
theorem back_comp (x : Comp) (h : x.text.size≤8000) : Back wComp rComp x:=fun st hb=>by
  obtain ⟨h3,l3,e3,r3⟩:=back_text 8000 x.text h _ hb;obtain ⟨h2,l2,e2,r2⟩:=back_num x.n _ h3;obtain ⟨h1,l1,e1,r1⟩:=back_num x.kind _ h2;refine ⟨h1,l1++l2++l3,by show (wText (wNum (wNum st x.kind) x.n) x.text).1 = _; rw [e3,e2,e1]; simp,fun rest=>?_⟩
  have r3' : ∀ rest,rText 8000 (l3++rest,0) = (x.text,(rest,0)):=r3
  simp only [rComp,List.append_assoc,r1,r2,r3']
theorem back_comps (l : List Comp) (hl : l.length≤100) (h : ∀ x ∈ l,x.text.size≤8000) : Back wComps rComps l:=back_all (most:=100) hl fun x hx=>back_comp x (h x hx)
theorem back_nod (x : Nod) (hn : x.name.size≤100) (h : x.text.size≤8000) : Back wNod rNod x:=fun st hb=>by
  obtain ⟨h5,l5,e5,r5⟩:=back_text 8000 x.text h _ hb;obtain ⟨h4,l4,e4,r4⟩:=back_flag x.dir _ h5;obtain ⟨h3,l3,e3,r3⟩:=back_text 100 x.name hn _ h4;obtain ⟨h2,l2,e2,r2⟩:=back_num x.parent _ h3;obtain ⟨h1,l1,e1,r1⟩:=back_num x.id _ h2;refine ⟨h1,l1++l2++l3++l4++l5,by show (wText (wFlag (wText (wNum (wNum st x.id) x.parent) x.name) x.dir) x.text).1 = _; rw [e5,e4,e3,e2,e1]; simp,fun rest=>?_⟩
  have r3' : ∀ rest,rText 100 (l3++rest,0) = (x.name,(rest,0)):=r3
  have r5' : ∀ rest,rText 8000 (l5++rest,0) = (x.text,(rest,0)):=r5
  simp only [rNod,List.append_assoc,r1,r2,r3',r4,r5']
theorem back_nods (l : List Nod) (hl : l.length≤100) (h : ∀ x ∈ l,x.name.size≤100∧x.text.size≤8000) : Back wNods rNods l:=back_all (most:=100) hl fun x hx=>back_nod x (h x hx).1 (h x hx).2
theorem back_actn (x : Actn) (hn : x.name.size≤100) (hl : x.ops.length≤100) (h : ∀ y ∈ x.ops,y.text.size≤8000) : Back wActn rActn x:=fun st hb=>by
  obtain ⟨h6,l6,e6,r6⟩:=back_comps x.ops hl h _ hb;obtain ⟨h5,l5,e5,r5⟩:=back_flag x.dir _ h6;obtain ⟨h4,l4,e4,r4⟩:=back_text 100 x.name hn _ h5;obtain ⟨h3,l3,e3,r3⟩:=back_num x.parent _ h4;obtain ⟨h2,l2,e2,r2⟩:=back_num x.id _ h3;obtain ⟨h1,l1,e1,r1⟩:=back_num x.kind _ h2;refine ⟨h1,l1++l2++l3++l4++l5++l6,by show (wComps (wFlag (wText (wNum (wNum (wNum st x.kind) x.id) x.parent) x.name) x.dir) x.ops).1 = _; rw [e6,e5,e4,e3,e2,e1]; simp,fun rest=>?_⟩
  have r4' : ∀ rest,rText 100 (l4++rest,0) = (x.name,(rest,0)):=r4
  simp only [rActn,List.append_assoc,r1,r2,r3,r4',r5,r6]
theorem back_actns (l : List Actn) (hl : l.length≤20) (h : ∀ x ∈ l,x.name.size≤100∧x.ops.length≤100∧∀ y ∈ x.ops,y.text.size≤8000) : Back wActns rActns l:=back_all (most:=20) hl fun x hx=>back_actn x (h x hx).1 (h x hx).2.1 (h x hx).2.2
end Go.Proofs.YtldgdjilchnceaaGreatDoor

set_option linter.unusedVariables false
set_option linter.unusedSimpArgs false
namespace Go.Proofs.YtldgdjilchnceaaGreatDoor
open Go.Lib
def wCmt (st : Wt) (x : Cmt) : Wt:=wActns (wNum (wNum (wNum st x.rev) x.client) x.seq) x.acts
def wCmts (st : Wt) (l : List Cmt) : Wt:=l.foldl wCmt (wNum st l.length)
def wHead (st : Wt) (m : Msg) : Wt:=wActns (wNum (wNum (wNum (wNum (wNum (wNum st m.kind) m.client) m.seq) m.rev) m.code) m.last) m.acts
def wMsg (m : Msg) : Wt:=wNods (wCmts (wHead ([],false) m) m.commits) m.nodes
theorem wActns_le (st : Wt) (l : List Actn) : st.1.length≤(wActns st l).1.length:=Nat.le_trans (wNum_le st l.length) (fold_le wActn_le l _)
theorem wNods_le (st : Wt) (l : List Nod) : st.1.length≤(wNods st l).1.length:=Nat.le_trans (wNum_le st l.length) (fold_le wNod_le l _)
theorem act_ok {l : List Actn} (h : txnE l = 0) : l.length≤20∧putsA l≤2000∧∀ a ∈ l,oneE a = 0:=by
  unfold txnE at h
  split at h
  · simp at h
  · split at h
    · rename_i h1 h2; exact absurd h h2
    · split at h
      · simp at h
      · rename_i h1 h2 h3
        refine ⟨by omega,by omega,fun a ha=>?_⟩;obtain ⟨i,hi,rfl⟩:=List.mem_iff_getElem.1 ha
        have:=fe_zero (by simpa using h2) i hi
        unfold actE at this;rw [List.getD_eq_getElem?_getD,List.getElem?_eq_getElem hi,Option.getD_some] at this
        split at this
        · rename_i h4; exact absurd this h4
        · rename_i h4; simpa using h4
theorem one_ok {a : Actn} (h : oneE a = 0) : ¬ badA a∧(a.kind = 4→opE a.ops = 0):=by
  unfold oneE at h
  split at h
  · simp at h
  · rename_i h1
    exact ⟨h1,fun h2=>by rw [if_pos h2] at h; exact h⟩
theorem op_ok {l : List Comp} (h : opE l = 0) : l.length≤100∧∀ c ∈ l,sndC c = true:=by
  unfold opE at h
  split at h
  · simp at h
  · split at h
    · simp at h
    · rename_i h1 h2
      refine ⟨by omega,fun c hc=>?_⟩;obtain ⟨i,hi,rfl⟩:=List.mem_iff_getElem.1 hc
      have:=allN_iff.1 (by simpa [normC] using h2) i hi
      unfold goodC at this;rw [Bool.and_eq_true,List.getD_eq_getElem?_getD,List.getElem?_eq_getElem hi,Option.getD_some] at this;exact this.1
theorem snd_ok {c : Comp} (h : sndC c = true) : (c.kind = 2∧okText c.text.data.toList = true)∨(c.kind ≠ 2∧c.text = emp):=by
  unfold sndC at h
  split at h
  · rename_i h1; simp only [Bool.and_eq_true] at h; exact .inl ⟨h1,h.2⟩
  · rename_i h1
    split at h
    · simp only [Bool.and_eq_true,decide_eq_true_eq] at h; exact .inr ⟨h1,h.2⟩
    · cases h
theorem puts_mem {l : List Comp} {c : Comp} (h : c ∈ l) (hk : c.kind = 2) : cnt c.text.data.toList≤putsC l:=by
  induction l with
  | nil=>cases h
  | cons x r ih=>
    simp only [putsC]
    rcases List.mem_cons.1 h with rfl | h
    · rw [if_pos hk]; omega
    · have:=ih h; omega
theorem putsA_mem {l : List Actn} {a : Actn} (h : a ∈ l) : putsC a.ops≤putsA l:=by
  induction l with
  | nil=>cases h
  | cons x r ih=>
    simp only [putsA]
    rcases List.mem_cons.1 h with rfl | h
    · omega
    · have:=ih h; omega
theorem emp_ok : okText emp.data.toList = true:=by rfl
theorem name_size {s : ByteArray} (h : nameOk s = true) : s.size≤20:=by
  unfold nameOk at h; simp only [Bool.and_eq_true,decide_eq_true_eq] at h; exact h.1.1.2
theorem letter_range {b : UInt8} (h : letter b = true) : 45≤b.toNat∧b.toNat≤122:=by
  unfold letter at h; simp only [Bool.or_eq_true,decide_eq_true_eq] at h; omega
theorem ascii_ok {l : List UInt8} (h : ∀ b ∈ l,1≤b.toNat∧b.toNat < 128) : okText l = true:=by
  unfold okText
  have h1 : validD l = true:=by
    rw [validD_ascii l.length _ (fun b hb=>by have:=h b (List.mem_of_mem_take hb); omega),List.drop_length]
    rfl
  have h2 : l.contains 0 = false:=by
    cases hc : l.contains 0 with
    | false=>rfl
    | true=>
      have:=h 0 (by simpa using hc)
      simp at this
  rw [h1,h2]; rfl
theorem name_ok {s : ByteArray} (h : nameOk s = true) : okText s.data.toList = true:=by
  unfold nameOk at h;simp only [Bool.and_eq_true,List.all_eq_true] at h;exact ascii_ok fun b hb=>by have:=letter_range (h.1.1.1.1 b hb); omega
/-- An act that may be: its name and its texts. -/
theorem act_sound {l : List Actn} (h : txnE l = 0) {a : Actn} (ha : a ∈ l) : fits a.kind = true∧fits a.id = true∧fits a.parent = true∧a.name.size≤20∧okText a.name.data.toList = true∧a.ops.length≤100∧∀ c ∈ a.ops,sndC c = true∧cnt c.text.data.toList≤2000∧okText c.text.data.toList = true:=by
  obtain ⟨h1,h2,h3⟩:=act_ok h;obtain ⟨hb,ho⟩:=one_ok (h3 a ha);unfold badA at hb;simp only [not_or] at hb;obtain ⟨b1,b2,b3,b4,b5,b6,b7,b8⟩:=hb
  have b3' : a = plainA a:=Classical.not_not.1 b3
  have hk : fits a.kind = true:=by simp [fits]; omega
  have hi : fits a.id = true:=by simp [fits]; omega
  have hp : fits a.parent = true:=by simp [fits]; omega
  by_cases k1 : a.kind = 1∨a.kind = 3
  · have hn : nameOk a.name = true:=by
      cases hn : nameOk a.name with
      | true=>rfl
      | false=>exact absurd ⟨k1,hn⟩ b8
    have hops : a.ops = []:=by
      rw [b3']; unfold plainA
      rcases k1 with k | k <;> simp [k]
    rw [hops];exact ⟨hk,hi,hp,name_size hn,name_ok hn,by simp,fun c hc=>by cases hc⟩
  · have hn : a.name = emp:=by
      rw [b3']; unfold plainA;simp only [not_or] at k1;rw [if_neg k1.1]
      by_cases k2 : a.kind = 2
      · rw [if_pos k2]
      · rw [if_neg k2,if_neg k1.2]
        split <;> rfl
    rw [hn];refine ⟨hk,hi,hp,by decide,emp_ok,?_⟩
    by_cases k4 : a.kind = 4
    · obtain ⟨o1,o2⟩:=op_ok (ho k4);refine ⟨o1,fun c hc=>⟨o2 c hc,?_,?_⟩⟩
      · rcases snd_ok (o2 c hc) with ⟨e1,e2⟩ | ⟨e1,e2⟩
        · have:=puts_mem hc e1; have:=putsA_mem ha; omega
        · rw [e2]; decide
      · rcases snd_ok (o2 c hc) with ⟨e1,e2⟩ | ⟨e1,e2⟩
        · exact e2
        · rw [e2]; rfl
    · have hops : a.ops = []:=by
        rw [b3']; unfold plainA;simp only [not_or] at k1;rw [if_neg k1.1]
        by_cases k2 : a.kind = 2
        · rw [if_pos k2]
        · rw [if_neg k2,if_neg k1.2,if_neg k4]
      rw [hops];exact ⟨by simp,fun c hc=>by cases hc⟩
end Go.Proofs.YtldgdjilchnceaaGreatDoor

set_option linter.unusedVariables false
set_option linter.unusedSimpArgs false
namespace Go.Proofs.YtldgdjilchnceaaGreatDoor
open Go.RowKit
/-- Two lists that are alike up to a place, and one place more. -/
theorem take_more {α : Type} {xs ys : List α} {i : Nat} {x y : α} (h : xs.take i = ys.take i) (hx : xs[i]? = some x) (hy : ys[i]? = some y) (e : x = y) : xs.take (i + 1) = ys.take (i + 1):=by
  rw [List.take_add_one,List.take_add_one,h,hx,hy,e]
theorem take_ne {α : Type} {xs ys : List α} {i : Nat} {x y : α} (hx : xs[i]? = some x) (hy : ys[i]? = some y) (e : x ≠ y) : xs ≠ ys:=by
  rintro rfl;rw [hx] at hy;exact e (Option.some.inj hy)
section
variable {W w : World} {cs r r' : List Ch}
theorem EqComps_c {A A' : Option Addr} {n n' c c' : Nat} {xs ys : List Comp} (hs : Sep W w cs) (hk : Pick cs (.rd kComp (.slice A n c) xs) r) (hk' : Pick cs (.rd kComp (.slice A' n' c') ys) r') :
    Calls P 105 #[.slice A n c,.slice A' n' c'] w (Rt fun v w'=>v = .bool (decide (xs = ys))∧Sep W w' cs):=by
  obtain ⟨rfl,hl⟩:=hs.rd_shape hk;obtain ⟨rfl,hl'⟩:=hs.rd_shape hk';unfold maxLen at hl hl'
  have hs:=(hs.cpR hk).cpR (.there hk')
  refine enter Tryz.func105 Tryz.ntmps105 rfl rfl fun a (ha : Has a 26 [(0,_),(1,_)])=>?_;refine wp_seq_k fun K1 hK1=>?_;refine wp_region_lit ?_;refine pY ha (yAssign rfl) fun a ha=>?_;refine pZ ?_;refine hK1 _ _ ?_;refine wp_seq_k fun K2 hK2=>?_;refine wp_seq_k fun K3 hK3=>?_;refine wp_region_lit ?_;refine pY ha (yMove rfl) fun a ha=>?_;refine pY ha (yLenS Tryz.runUnderlying52 rfl) fun a ha=>?_;refine pY ha (yMove rfl) fun a ha=>?_;refine pY ha (yLenS Tryz.runUnderlying52 rfl) fun a ha=>?_;refine pY ha (yNeq rfl rfl) fun a ha=>?_;refine pZ ?_;refine hK3 _ _ ?_;refine cNDec ha rfl (fun hc10=>?_) (fun hc10=>?_)
  · refine wp_seq_k fun K4 hK4=>?_;refine wp_region_lit ?_;refine pY ha (yAssign rfl) fun a ha=>?_;refine pZ ?_;refine hK4 _ _ ?_;refine wp_ret ?_;show bodyPost Tryz.prog Tryz.f105 _ .ret _ _;refine ret1 rfl ha rfl ?_;exact ⟨congrArg Value.bool (decide_eq_false (by rintro rfl; exact hc10 rfl)).symm,hs.drop.drop⟩
  · refine wp_skip ?_;refine hK2 _ _ ?_;refine wp_seq_k fun K5 hK5=>?_;refine wp_seq_k fun K6 hK6=>?_;refine wp_region_lit ?_;refine pY ha (yMove rfl) fun a ha=>?_;refine pY ha (yLenS Tryz.runUnderlying52 rfl) fun a ha=>?_;refine pY ha (yMove rfl) fun a ha=>?_;refine pZ ?_;refine hK6 _ _ ?_;refine wp_block ?_;refine loopI (ι:=Nat) (fun i a w=>i≤xs.length∧xs.take i = ys.take i∧Has a 26 [(0,.slice A xs.length c),(1,.slice A' ys.length c'),(12,.int .i64 xs.length),(13,.int .i64 i)]∧Sep W w (.rd kComp (.slice A' ys.length c') ys::.rd kComp (.slice A xs.length c) xs::cs)) (fun i=>xs.length - i) (0) ?_ ?_
    · exact ⟨Nat.zero_le _,rfl,has4 ha rfl rfl rfl rfl,hs⟩
    · rintro i a w ⟨h1,h2,ha,hs⟩;refine wp_seq_k fun K7 hK7=>?_;refine wp_region_lit ?_;refine pY ha (yLss rfl rfl) fun a ha=>?_;refine pZ ?_;refine hK7 _ _ ?_;refine wp_seq_k fun K8 hK8=>?_;refine cDec ha rfl (fun hc14=>?_) (fun hc14=>?_)
      · obtain ⟨x,hx⟩ : ∃ x,xs[i]? = some x:=⟨_,List.getElem?_eq_getElem (by omega)⟩;obtain ⟨y,hy⟩ : ∃ y,ys[i]? = some y:=⟨_,List.getElem?_eq_getElem (by omega)⟩;obtain ⟨b,off,rfl,hs⟩:=hs.rd_comp (.there .here) hx;obtain ⟨b',off',rfl,hs⟩:=hs.rd_comp (.there .here) hy;refine wp_skip ?_;refine hK8 _ _ ?_;refine wp_seq_k fun K9 hK9=>?_;refine wp_block ?_;refine wp_seq_k fun K10 hK10=>?_;refine wp_region_lit ?_;refine pY ha (yMove rfl) fun a ha=>?_;refine pY ha (yAssign rfl) fun a ha=>?_;refine pZ ?_;refine hK10 _ _ ?_;refine wp_seq_k fun K11 hK11=>?_;refine dStart (fun w=>Sep W w _) [] 511 511 (by kernel_rfl) (by kernel_rfl) rfl (hs.drew) ?_
        have hs:=Sep.drew hs
        generalize World.drew _ = w at hs ⊢;refine dP 0 1 rfl ha (fun _=>yMove rfl) fun a ha=>?_;refine dP 1 3 rfl ha (fun _=>yMove rfl) fun a ha=>?_;refine dP 2 7 rfl ha (fun _=>yIndexA Tryz.runUnderlying52 Tryz.sizeOf98 rfl rfl (by omega) (by omega)) fun a ha=>?_;refine dT 3 15 rfl ha (fun _ hs=>yLoadRA Tryz.isAgg98 Tryz.sizeOf98 hs rfl pk1 rfl) (hs) fun a ha=>?_;refine dP 4 31 rfl ha (fun _=>yMove rfl) fun a ha=>?_;refine dP 5 63 rfl ha (fun _=>yMove rfl) fun a ha=>?_;refine dP 6 127 rfl ha (fun _=>yIndexA Tryz.runUnderlying52 Tryz.sizeOf98 rfl rfl (by omega) (by omega)) fun a ha=>?_;refine dT 7 255 rfl ha (fun _ hs=>yLoadRA Tryz.isAgg98 Tryz.sizeOf98 hs rfl pk0 rfl) (hs) fun a ha=>?_;refine dP 8 511 rfl ha (fun _=>yCompNeq (a:=x) (b:=y) rfl rfl) fun a ha=>?_;refine dZ (by kernel_rfl) ?_;refine hK11 _ _ ?_;refine cNDec ha rfl (fun hc24=>?_) (fun hc24=>?_)
        · refine wp_seq_k fun K12 hK12=>?_;refine wp_region_lit ?_;refine pY ha (yAssign rfl) fun a ha=>?_;refine pZ ?_;refine hK12 _ _ ?_;refine wp_ret ?_;show bodyPost Tryz.prog Tryz.f105 _ .ret _ _;refine ret1 rfl ha rfl ?_;exact ⟨congrArg Value.bool (decide_eq_false (take_ne hx hy hc24)).symm,hs.drop.drop.drop.drop⟩
        · refine wp_skip ?_;refine hK9 _ _ ?_;refine wp_region_lit ?_;refine pY ha (yAddN rfl rfl ⟨by omega,by omega⟩) fun a ha=>?_;refine pY ha (yMove rfl) fun a ha=>?_;refine pZ ?_;exact ⟨i + 1,⟨by omega,take_more h2 hx hy hc24,has4 ha rfl rfl rfl rfl,hs.drop.drop⟩,by omega⟩
      · refine wp_exit ?_;refine hK5 _ _ ?_;refine wp_seq_k fun K13 hK13=>?_;refine wp_region_lit ?_;refine pY ha (yAssign rfl) fun a ha=>?_;refine pZ ?_;refine hK13 _ _ ?_;refine wp_ret ?_;show bodyPost Tryz.prog Tryz.f105 _ .ret _ _;refine ret1 rfl ha rfl ?_;rw [List.take_of_length_le (by omega),List.take_of_length_le (by omega)] at h2; exact ⟨congrArg Value.bool (decide_eq_true h2).symm,hs.drop.drop⟩
theorem SameA_c {A A' : Option Addr} {n n' c c' : Nat} {x y : Actn} (hs : Sep W w cs) (hk : Pick cs (.rd kComp (.slice A n c) x.ops) r) (hk' : Pick cs (.rd kComp (.slice A' n' c') y.ops) r') :
    Calls P 88 #[.agg [.int .i64 x.kind,.int .i64 x.id,.int .i64 x.parent,.string x.name,.bool x.dir,.slice A n c].toArray,.agg [.int .i64 y.kind,.int .i64 y.id,.int .i64 y.parent,.string y.name,.bool y.dir,.slice A' n' c'].toArray] w (Rt fun v w'=>v = .bool (decide (x = y))∧Sep W w' cs):=by
  refine enter Tryz.func88 Tryz.ntmps88 rfl rfl fun a (ha : Has a 47 [(0,_),(1,_)])=>?_;refine wp_seq_k fun K1 hK1=>?_
  have key : (x.kind = y.kind∧x.id = y.id∧x.parent = y.parent∧x.name = y.name∧x.dir = y.dir)∧x.ops = y.ops ↔ x = y:=⟨fun ⟨⟨h1,h2,h3,h4,h5⟩,h6⟩=>by cases x; cases y; simp_all,by rintro rfl; exact ⟨⟨rfl,rfl,rfl,rfl,rfl⟩,rfl⟩⟩
  refine wp_region_lit ?_;refine pBox (es:=_) ha rfl rfl hs rfl fun b w hs a ha=>?_;refine pBox (es:=_) ha rfl rfl hs rfl fun b w hs a ha=>?_;refine pY ha (yAssign rfl) fun a ha=>?_;refine pZ ?_;refine hK1 _ _ ?_;refine wp_seq_k fun K2 hK2=>?_;refine cutC (fun a w=>∃ b b',Has a 47 [(5,.bool (decide (x.kind = y.kind∧x.id = y.id∧x.parent = y.parent∧x.name = y.name∧x.dir = y.dir))),(2,.pointer (some ⟨b,0,none⟩)),(3,.pointer (some ⟨b',0,none⟩))]∧Sep W w (.blk b' 54 [.int .i64 y.kind,.int .i64 y.id,.int .i64 y.parent,.string y.name,.bool y.dir,.slice A' n' c']::.blk b 54 [.int .i64 x.kind,.int .i64 x.id,.int .i64 x.parent,.string x.name,.bool x.dir,.slice A n c]::cs)) ?_ ?_
  · refine wp_region_lit ?_;refine pY ha (yFieldA Tryz.runUnderlying54 rfl Tryz.sizeOf3 rfl rfl) fun a ha=>?_;refine pY ha (yLoadB Tryz.isAgg3 hs rfl pk1 rfl) fun a ha=>?_;refine pY ha (yFieldA Tryz.runUnderlying54 rfl Tryz.sizeOf3 rfl rfl) fun a ha=>?_;refine pY ha (yLoadB Tryz.isAgg3 hs rfl pk0 rfl) fun a ha=>?_;refine pY ha (yEql rfl rfl) fun a ha=>?_;refine pY ha (yMove rfl) fun a ha=>?_;refine gDec (t:=11) ha rfl (fun hg5 hp5=>?_) (fun hg5 hp5=>?_)
    · rw [hg5] at ha;refine gOff ha fun a ha=>?_;refine gOff ha fun a ha=>?_;refine gOff ha fun a ha=>?_;refine gOff ha fun a ha=>?_;refine gOff ha fun a ha=>?_;refine pY ha (yPickF rfl rfl) fun a ha=>?_;refine pY ha (yMove rfl) fun a ha=>?_;refine gOff ha fun a ha=>?_;refine gOff ha fun a ha=>?_;refine gOff ha fun a ha=>?_;refine gOff ha fun a ha=>?_;refine gOff ha fun a ha=>?_;refine pY ha (yPickF rfl rfl) fun a ha=>?_;refine pY ha (yMove rfl) fun a ha=>?_;refine gOff ha fun a ha=>?_;refine gOff ha fun a ha=>?_;refine gOff ha fun a ha=>?_;refine gOff ha fun a ha=>?_;refine gOff ha fun a ha=>?_;refine pY ha (yPickF rfl rfl) fun a ha=>?_;refine pY ha (yMove rfl) fun a ha=>?_;refine gOff ha fun a ha=>?_;refine gOff ha fun a ha=>?_;refine gOff ha fun a ha=>?_;refine gOff ha fun a ha=>?_;refine gOff ha fun a ha=>?_;refine pY ha (yPickF rfl rfl) fun a ha=>?_;refine pY ha (yAssign rfl) fun a ha=>?_;refine pZ ⟨rfl,?_⟩;exact ⟨_,_,has3 ha (bF (by rintro ⟨h1,h2,h3,h4,h5⟩; exact hp5 h1)) rfl rfl,hs⟩
    · rw [hg5] at ha;refine gOn ha ?_;refine pY ha (yFieldA Tryz.runUnderlying54 rfl Tryz.sizeOf3 rfl rfl) fun a ha=>?_;refine gOn ha ?_;refine pY ha (yLoadB Tryz.isAgg3 hs rfl pk1 rfl) fun a ha=>?_;refine gOn ha ?_;refine pY ha (yFieldA Tryz.runUnderlying54 rfl Tryz.sizeOf3 rfl rfl) fun a ha=>?_;refine gOn ha ?_;refine pY ha (yLoadB Tryz.isAgg3 hs rfl pk0 rfl) fun a ha=>?_;refine gOn ha ?_;refine pY ha (yEql rfl rfl) fun a ha=>?_;refine pY ha (yPickT rfl rfl) fun a ha=>?_;refine pY ha (yMove rfl) fun a ha=>?_;refine gSplit (t:=18) ha rfl (fun hg12=>?_) (fun hg12=>?_)
      · rw [hg12] at ha
        have hp12:=of_decide_eq_false hg12
        refine gOff ha fun a ha=>?_;refine gOff ha fun a ha=>?_;refine gOff ha fun a ha=>?_;refine gOff ha fun a ha=>?_;refine gOff ha fun a ha=>?_;refine pY ha (yPickF rfl rfl) fun a ha=>?_;refine pY ha (yMove rfl) fun a ha=>?_;refine gOff ha fun a ha=>?_;refine gOff ha fun a ha=>?_;refine gOff ha fun a ha=>?_;refine gOff ha fun a ha=>?_;refine gOff ha fun a ha=>?_;refine pY ha (yPickF rfl rfl) fun a ha=>?_;refine pY ha (yMove rfl) fun a ha=>?_;refine gOff ha fun a ha=>?_;refine gOff ha fun a ha=>?_;refine gOff ha fun a ha=>?_;refine gOff ha fun a ha=>?_;refine gOff ha fun a ha=>?_;refine pY ha (yPickF rfl rfl) fun a ha=>?_;refine pY ha (yAssign rfl) fun a ha=>?_;refine pZ ⟨rfl,?_⟩;exact ⟨_,_,has3 ha (bF (by rintro ⟨h1,h2,h3,h4,h5⟩; exact hp12 h2)) rfl rfl,hs⟩
      · rw [hg12] at ha
        have hp12:=of_decide_eq_true hg12
        refine gOn ha ?_;refine pY ha (yFieldA Tryz.runUnderlying54 rfl Tryz.sizeOf3 rfl rfl) fun a ha=>?_;refine gOn ha ?_;refine pY ha (yLoadB Tryz.isAgg3 hs rfl pk1 rfl) fun a ha=>?_;refine gOn ha ?_;refine pY ha (yFieldA Tryz.runUnderlying54 rfl Tryz.sizeOf3 rfl rfl) fun a ha=>?_;refine gOn ha ?_;refine pY ha (yLoadB Tryz.isAgg3 hs rfl pk0 rfl) fun a ha=>?_;refine gOn ha ?_;refine pY ha (yEql rfl rfl) fun a ha=>?_;refine pY ha (yPickT rfl rfl) fun a ha=>?_;refine pY ha (yMove rfl) fun a ha=>?_;refine gSplit (t:=25) ha rfl (fun hg19=>?_) (fun hg19=>?_)
        · rw [hg19] at ha
          have hp19:=of_decide_eq_false hg19
          refine gOff ha fun a ha=>?_;refine gOff ha fun a ha=>?_;refine gOff ha fun a ha=>?_;refine gOff ha fun a ha=>?_;refine gOff ha fun a ha=>?_;refine pY ha (yPickF rfl rfl) fun a ha=>?_;refine pY ha (yMove rfl) fun a ha=>?_;refine gOff ha fun a ha=>?_;refine gOff ha fun a ha=>?_;refine gOff ha fun a ha=>?_;refine gOff ha fun a ha=>?_;refine gOff ha fun a ha=>?_;refine pY ha (yPickF rfl rfl) fun a ha=>?_;refine pY ha (yAssign rfl) fun a ha=>?_;refine pZ ⟨rfl,?_⟩;exact ⟨_,_,has3 ha (bF (by rintro ⟨h1,h2,h3,h4,h5⟩; exact hp19 h3)) rfl rfl,hs⟩
        · rw [hg19] at ha
          have hp19:=of_decide_eq_true hg19
          refine gOn ha ?_;refine pY ha (yFieldA Tryz.runUnderlying54 rfl Tryz.sizeOf9 rfl rfl) fun a ha=>?_;refine gOn ha ?_;refine pY ha (yLoadB Tryz.isAgg9 hs rfl pk1 rfl) fun a ha=>?_;refine gOn ha ?_;refine pY ha (yFieldA Tryz.runUnderlying54 rfl Tryz.sizeOf9 rfl rfl) fun a ha=>?_;refine gOn ha ?_;refine pY ha (yLoadB Tryz.isAgg9 hs rfl pk0 rfl) fun a ha=>?_;refine gOn ha ?_;refine pY ha (yStrEql rfl rfl) fun a ha=>?_;refine pY ha (yPickT rfl rfl) fun a ha=>?_;refine pY ha (yMove rfl) fun a ha=>?_;refine gSplit (t:=32) ha rfl (fun hg26=>?_) (fun hg26=>?_)
          · rw [hg26] at ha
            have hp26:=of_decide_eq_false hg26
            refine gOff ha fun a ha=>?_;refine gOff ha fun a ha=>?_;refine gOff ha fun a ha=>?_;refine gOff ha fun a ha=>?_;refine gOff ha fun a ha=>?_;refine pY ha (yPickF rfl rfl) fun a ha=>?_;refine pY ha (yAssign rfl) fun a ha=>?_;refine pZ ⟨rfl,?_⟩;exact ⟨_,_,has3 ha (bF (by rintro ⟨h1,h2,h3,h4,h5⟩; exact hp26 h4)) rfl rfl,hs⟩
          · rw [hg26] at ha
            have hp26:=of_decide_eq_true hg26
            refine gOn ha ?_;refine pY ha (yFieldA Tryz.runUnderlying54 rfl Tryz.sizeOf4 rfl rfl) fun a ha=>?_;refine gOn ha ?_;refine pY ha (yLoadB Tryz.isAgg4 hs rfl pk1 rfl) fun a ha=>?_;refine gOn ha ?_;refine pY ha (yFieldA Tryz.runUnderlying54 rfl Tryz.sizeOf4 rfl rfl) fun a ha=>?_;refine gOn ha ?_;refine pY ha (yLoadB Tryz.isAgg4 hs rfl pk0 rfl) fun a ha=>?_;refine gOn ha ?_;refine pY ha (yBoolEql Tryz.underlying4 rfl rfl) fun a ha=>?_;refine pY ha (yPickT rfl rfl) fun a ha=>?_;refine pY ha (yAssign rfl) fun a ha=>?_;refine pZ ⟨rfl,?_⟩;exact ⟨_,_,has3 ha (bT ⟨fun h=>⟨hp5,hp12,hp19,hp26,h⟩,fun h=>h.2.2.2.2⟩) rfl rfl,hs⟩
  rintro a w ⟨b,b',ha,hs⟩;refine hK2 _ _ ?_;refine wp_seq_k fun K3 hK3=>?_;refine wp_region_lit ?_;refine pY ha (yMove rfl) fun a ha=>?_;refine pY ha (yMove rfl) fun a ha=>?_;refine gSplit (t:=40) ha rfl (fun hg1=>?_) (fun hg1=>?_)
  · rw [hg1] at ha;refine gOff ha fun a ha=>?_;refine gOff ha fun a ha=>?_;refine gOff ha fun a ha=>?_;refine gOff ha fun a ha=>?_;refine gOff ha fun a ha=>?_;refine pY ha (yPickF rfl rfl) fun a ha=>?_;refine pY ha (yAssign rfl) fun a ha=>?_;refine pZ ?_;refine hK3 _ _ ?_;refine wp_ret ?_;show bodyPost Tryz.prog Tryz.f88 _ .ret _ _;refine ret1 rfl ha rfl ?_;refine ⟨?_,hs.drop.drop⟩;exact congrArg Value.bool (decide_eq_false (fun h=>of_decide_eq_false hg1 (key.2 h).1)).symm
  · rw [hg1] at ha;refine gOn ha ?_;refine pY ha (yFieldA Tryz.runUnderlying54 rfl Tryz.sizeOf52 rfl rfl) fun a ha=>?_;refine gOn ha ?_;refine pY ha (yLoadB Tryz.isAgg52 hs rfl pk1 rfl) fun a ha=>?_;refine gOn ha ?_;refine pY ha (yFieldA Tryz.runUnderlying54 rfl Tryz.sizeOf52 rfl rfl) fun a ha=>?_;refine gOn ha ?_;refine pY ha (yLoadB Tryz.isAgg52 hs rfl pk0 rfl) fun a ha=>?_;refine gOn ha ?_;refine pC ha (nCall Tryz.call105 rfl) rfl (EqComps_c hs (.there (.there hk)) (.there (.there hk'))) ?_;rintro v w ⟨rfl,hs⟩ a ha;refine pY ha (yPickT rfl rfl) fun a ha=>?_;refine pY ha (yAssign rfl) fun a ha=>?_;refine pZ ?_;refine hK3 _ _ ?_;refine wp_ret ?_;show bodyPost Tryz.prog Tryz.f88 _ .ret _ _;refine ret1 rfl ha rfl ?_;refine ⟨?_,hs.drop.drop⟩;exact congrArg Value.bool (decide_eq_decide.2 ⟨fun h=>key.1 ⟨of_decide_eq_true hg1,h⟩,fun h=>(key.2 h).2⟩)
end
end Go.Proofs.YtldgdjilchnceaaGreatDoor

set_option linter.unusedVariables false
set_option linter.unusedSimpArgs false
namespace Go.Proofs.YtldgdjilchnceaaGreatDoor
open Go.RowKit
theorem bldOwn54_0 {w : World} {l : List (Nat × Value)} {T : TypeId} {x0 : Operand} {v0 : Value} (h0 : ev l x0 = some v0) (o0 : v0.cells = #[v0]:=by rfl) : Yl Tryz.prog w l (.build 54 #[(0,x0)]) T (.agg #[v0,.int .i64 0,.int .i64 0,.string ⟨#[]⟩,.bool false,.slice none 0 0]):=fun ρ o h ho _=>by
  have hf : Instr.fill (fun i=>([(0,1),(1,1),(2,1),(3,1),(4,1),(5,1)] : List (Nat × Nat))[i]?) #[.int .i64 0,.int .i64 0,.int .i64 0,.string ⟨#[]⟩,.bool false,.slice none 0 0] [(0,v0)] = some #[v0,.int .i64 0,.int .i64 0,.string ⟨#[]⟩,.bool false,.slice none 0 0]:=by
    refine (fill_v o0 rfl (by simp)).trans ?_
    simp [Instr.fill]
  unfold execOp; rw [ho]
  simp [h _ _ h0,Instr.build,Tryz.zeroValue54,Tryz.runUnderlying54,Tryz.sizeOf3,Tryz.sizeOf4,Tryz.sizeOf52,Tryz.sizeOf9,agg_cells,hf]
theorem bslOwn52_0_ {w : World} {l : List (Nat × Value)} {T : TypeId} : Mk Tryz.prog w l (.buildSlice 52 0 #[]) T 98 0 []:=mk0 Tryz.runUnderlying52 Tryz.sizeOf98
theorem elOwn52 : ElemT Tryz.prog 52 98 3 32:=elemT_mk Tryz.underlying52 rfl (by kernel_rfl)
section
variable {W w : World} {cs r r' : List Ch}
theorem CloneC_c {A : Option Addr} {n c : Nat} {xs : List Comp} (hs : Sep W w cs) (hk : Pick cs (.rd kComp (.slice A n c) xs) r) (hb : xs.length≤1000000000) :
    Calls P 106 #[.slice A n c] w (Rt fun v w'=>∃ A' c',v = .slice A' xs.length c'∧Sep W w' (.rd kComp (.slice A' xs.length c') xs::cs)):=by
  obtain ⟨rfl,hl⟩:=hs.rd_shape hk;have hs:=hs.cpR hk;refine enter Tryz.func106 Tryz.ntmps106 rfl rfl fun a (ha : Has a 8 [(0,_)])=>?_;refine wp_seq_k fun K1 hK1=>?_;refine wp_region_lit ?_;refine pY ha (yAssign rfl) fun a ha=>?_;refine pZ ?_;refine hK1 _ _ ?_;refine wp_seq_k fun K2 hK2=>?_;refine wp_seq_k fun K3 hK3=>?_;refine wp_region_lit ?_;refine pY ha (yMove rfl) fun a ha=>?_;refine pY ha (ySlEql Tryz.underlying52 rfl rfl) fun a ha=>?_;refine pZ ?_;refine hK3 _ _ ?_;refine cSplit ha rfl (fun hc4=>?_) (fun hc4=>?_)
  · obtain rfl : A = none:=by simpa using hc4
    obtain rfl:=hs.rd_none .here;refine wp_seq_k fun K4 hK4=>?_;refine wp_region_lit ?_;refine pY ha (yAssign rfl) fun a ha=>?_;refine pZ ?_;refine hK4 _ _ ?_;refine wp_ret ?_;show bodyPost Tryz.prog Tryz.f106 _ .ret _ _;refine ret1 rfl ha rfl ?_;exact ⟨none,0,rfl,(hs.drop.ol_nil kComp 0 none).ol_rd .here⟩
  · refine wp_skip ?_;refine hK2 _ _ ?_;refine wp_seq_k fun K5 hK5=>?_;refine wp_region_lit ?_;refine pMake ha bslOwn52_0_ hs rfl fun b w hs a ha=>?_;have hs:=hs.blk_ol0 .here kComp;refine pY ha (yMove rfl) fun a ha=>?_;refine pAppRd ha elOwn52 rfl rfl hs pk0 pk0 rfl (by (simp [maxLen]; omega)) (by (simp [maxLen]; omega)) rfl fun A c w hs a ha=>?_;refine pY ha (yAssign rfl) fun a ha=>?_;refine pZ ?_;refine hK5 _ _ ?_;refine wp_ret ?_;show bodyPost Tryz.prog Tryz.f106 _ .ret _ _;refine ret1 rfl ha rfl ?_;exact ⟨A,c,by simp,by simpa using (hs.drop2).ol_rd .here⟩
/-- An act as it is handed over: its cells, its parts. -/
theorem PlainA_c {A : Option Addr} {n c : Nat} {x : Actn} (hs : Sep W w cs) (hk : Pick cs (.rd kComp (.slice A n c) x.ops) r) (hb : x.ops.length≤1000000000) :
    Calls P 89 #[.agg [.int .i64 x.kind,.int .i64 x.id,.int .i64 x.parent,.string x.name,.bool x.dir,.slice A n c].toArray] w (Rt fun v w'=>∃ A' c',v = .agg [.int .i64 (plainA x).kind,.int .i64 (plainA x).id,.int .i64 (plainA x).parent,.string (plainA x).name,.bool (plainA x).dir,.slice A' (plainA x).ops.length c'].toArray∧Sep W w' (.rd kComp (.slice A' (plainA x).ops.length c') (plainA x).ops::cs)):=by
  refine enter Tryz.func89 Tryz.ntmps89 rfl rfl fun a (ha : Has a 49 [(0,_)])=>?_;refine wp_seq_k fun K1 hK1=>?_;refine wp_region_lit ?_;refine pBox (es:=_) ha rfl rfl hs rfl fun b1 w hs a ha=>?_;refine pAlloc (zs:=[.int .i64 0,.int .i64 0,.int .i64 0,.string ⟨#[]⟩,.bool false,.slice none 0 0]) ha Tryz.zeroValue54 rfl hs rfl fun b2 w hs a ha=>?_;refine pZ ?_;refine hK1 _ _ ?_;refine wp_seq_k fun K2 hK2=>?_;refine wp_region_lit ?_;refine pY ha (yFieldA Tryz.runUnderlying54 rfl Tryz.sizeOf3 rfl rfl) fun a ha=>?_;refine pY ha (yLoadB Tryz.isAgg3 hs rfl pk1 rfl) fun a ha=>?_;refine pY ha (bldOwn54_0 rfl) fun a ha=>?_;refine pAlloc (zs:=[.int .i64 0,.int .i64 0,.int .i64 0,.string ⟨#[]⟩,.bool false,.slice none 0 0]) ha Tryz.zeroValue54 rfl hs rfl fun b3 w hs a ha=>?_;refine pStoreA ha Tryz.sizeOf54 hs rfl rfl pk0 rfl rfl rfl fun w hs=>?_;refine pZ ?_;refine hK2 _ _ ?_;refine wp_seq_k fun K3 hK3=>?_
  have hJ3 : ∀ a w,(∃ A' c',Has a 49 [(1,.pointer (some ⟨b1,0,none⟩)),(2,.pointer (some ⟨b2,0,none⟩)),(3,.pointer (some ⟨b3,0,none⟩))]∧Sep W w (.rd kComp (.slice A' (plainA x).ops.length c') (plainA x).ops::.blk b3 54 [.int .i64 (plainA x).kind,.int .i64 (plainA x).id,.int .i64 (plainA x).parent,.string (plainA x).name,.bool (plainA x).dir,.slice A' (plainA x).ops.length c']::.blk b2 54 [.int .i64 0,.int .i64 0,.int .i64 0,.string ⟨#[]⟩,.bool false,.slice none 0 0]::.blk b1 54 [.int .i64 x.kind,.int .i64 x.id,.int .i64 x.parent,.string x.name,.bool x.dir,.slice A n c]::cs))→K3 a w:=by
    rintro a w ⟨A',c',ha,hs⟩;refine hK3 _ _ ?_;refine wp_seq_k fun K4 hK4=>?_;refine wp_region_lit ?_;refine pY ha (yLoadBA Tryz.isAgg54 Tryz.sizeOf54 hs rfl pk1 rfl) fun a ha=>?_;refine pStoreA ha Tryz.sizeOf54 hs rfl rfl pk2 rfl rfl rfl fun w hs=>?_;refine pZ ?_;refine hK4 _ _ ?_;refine wp_ret ?_;show bodyPost Tryz.prog Tryz.f89 _ .ret _ _;refine retC rfl ha rfl Tryz.isAgg54 Tryz.sizeOf54 hs pk0 rfl ?_;exact ⟨A',c',rfl,hs.drop.drop2.drop2⟩
  refine wp_seq_k fun K5 hK5=>?_;refine wp_region_lit ?_;refine pY ha (yFieldA Tryz.runUnderlying54 rfl Tryz.sizeOf3 rfl rfl) fun a ha=>?_;refine pY ha (yLoadB Tryz.isAgg3 hs rfl pk2 rfl) fun a ha=>?_;refine pZ ?_;refine hK5 _ _ ?_;refine wp_block ?_;refine wp_seq_k fun K6 hK6=>?_;refine wp_region_lit ?_;refine pY ha (yEql rfl rfl) fun a ha=>?_;refine pY ha (yAssign rfl) fun a ha=>?_;refine pZ ?_;refine hK6 _ _ ?_;refine cDec ha rfl (fun hc9=>?_) (fun hc9=>?_)
  · refine dStart (fun w=>∃ rs,Sep W w (.blk b1 54 [.int .i64 x.kind,.int .i64 x.id,.int .i64 x.parent,.string x.name,.bool x.dir,.slice A n c]::rs)) [15] 65535 32767 (by kernel_rfl) (by kernel_rfl) rfl (⟨_,hs.drew.pick pk2⟩) ?_
    have hs:=Sep.drew hs
    generalize World.drew _ = w at hs ⊢;refine dP 0 1 rfl ha (fun _=>yFieldA Tryz.runUnderlying54 rfl Tryz.sizeOf3 rfl rfl) fun a ha=>?_;refine dT 1 3 rfl ha (fun _ ⟨rs,hs⟩=>yLoadB Tryz.isAgg3 hs rfl pk0 rfl) (⟨_,hs.pick pk2⟩) fun a ha=>?_;refine dP 2 7 rfl ha (fun _=>yFieldA Tryz.runUnderlying54 rfl Tryz.sizeOf3 rfl rfl) fun a ha=>?_;refine dT 3 15 rfl ha (fun _ ⟨rs,hs⟩=>yLoadB Tryz.isAgg3 hs rfl pk0 rfl) (⟨_,hs.pick pk2⟩) fun a ha=>?_;refine dP 4 31 rfl ha (fun _=>yFieldA Tryz.runUnderlying54 rfl Tryz.sizeOf9 rfl rfl) fun a ha=>?_;refine dT 5 63 rfl ha (fun _ ⟨rs,hs⟩=>yLoadB Tryz.isAgg9 hs rfl pk0 rfl) (⟨_,hs.pick pk2⟩) fun a ha=>?_;refine dP 6 127 rfl ha (fun _=>yFieldA Tryz.runUnderlying54 rfl Tryz.sizeOf4 rfl rfl) fun a ha=>?_;refine dT 7 255 rfl ha (fun _ ⟨rs,hs⟩=>yLoadB Tryz.isAgg4 hs rfl pk0 rfl) (⟨_,hs.pick pk2⟩) fun a ha=>?_;refine dP 8 511 rfl ha (fun _=>yFieldA Tryz.runUnderlying54 rfl Tryz.sizeOf3 rfl rfl) fun a ha=>?_;refine dStore 9 1023 rfl (by kernel_rfl) rfl ha won0 Tryz.sizeOf3 hs rfl rfl rfl rfl pk0 rfl (fun _ hs=>⟨_,hs.pick pk2⟩) fun w hs=>?_;refine dP 10 2047 rfl ha (fun _=>yFieldA Tryz.runUnderlying54 rfl Tryz.sizeOf3 rfl rfl) fun a ha=>?_;refine dStore 11 4095 rfl (by kernel_rfl) rfl ha won0 Tryz.sizeOf3 hs rfl rfl rfl rfl pk0 rfl (fun _ hs=>⟨_,hs.pick pk2⟩) fun w hs=>?_;refine dP 12 8191 rfl ha (fun _=>yFieldA Tryz.runUnderlying54 rfl Tryz.sizeOf9 rfl rfl) fun a ha=>?_;refine dStore 13 16383 rfl (by kernel_rfl) rfl ha won0 Tryz.sizeOf9 hs rfl rfl rfl rfl pk0 rfl (fun _ hs=>⟨_,hs.pick pk2⟩) fun w hs=>?_;refine dP 14 32767 rfl ha (fun _=>yFieldA Tryz.runUnderlying54 rfl Tryz.sizeOf4 rfl rfl) fun a ha=>?_;refine dStorel 15 65535 rfl (by kernel_rfl) rfl ha won0 Tryz.sizeOf4 hs rfl rfl rfl rfl pk0 rfl fun w hs=>?_;refine dZ (by kernel_rfl) ?_;refine hJ3 _ _ ?_
    (refine ⟨none,0,has3 ha rfl rfl rfl,?_⟩; rw [show plainA x = ⟨x.kind,x.id,x.parent,x.name,x.dir,[]⟩ by unfold plainA; simp [hc9]]; exact (hs.ol_nil kComp 0 none).ol_rd .here)
  · refine wp_seq_k fun K7 hK7=>?_;refine wp_region_lit ?_;refine pY ha (yEql rfl rfl) fun a ha=>?_;refine pY ha (yAssign rfl) fun a ha=>?_;refine pZ ?_;refine hK7 _ _ ?_;refine cDec ha rfl (fun hc23=>?_) (fun hc23=>?_)
    · refine wp_region_lit ?_;refine pY ha (yFieldA Tryz.runUnderlying54 rfl Tryz.sizeOf3 rfl rfl) fun a ha=>?_;refine pY ha (yLoadB Tryz.isAgg3 hs rfl pk2 rfl) fun a ha=>?_;refine pY ha (yFieldA Tryz.runUnderlying54 rfl Tryz.sizeOf3 rfl rfl) fun a ha=>?_;refine pStore ha Tryz.sizeOf3 hs rfl rfl rfl rfl pk0 rfl fun w hs=>?_;refine pZ ?_;refine hJ3 _ _ ?_
      (refine ⟨none,0,has3 ha rfl rfl rfl,?_⟩; rw [show plainA x = ⟨x.kind,x.id,0,emp,false,[]⟩ by unfold plainA; simp [hc9,hc23]]; exact (hs.ol_nil kComp 0 none).ol_rd .here)
    · refine wp_seq_k fun K8 hK8=>?_;refine wp_region_lit ?_;refine pY ha (yEql rfl rfl) fun a ha=>?_;refine pY ha (yAssign rfl) fun a ha=>?_;refine pZ ?_;refine hK8 _ _ ?_;refine cDec ha rfl (fun hc28=>?_) (fun hc28=>?_)
      · refine dStart (fun w=>∃ rs,Sep W w (.blk b1 54 [.int .i64 x.kind,.int .i64 x.id,.int .i64 x.parent,.string x.name,.bool x.dir,.slice A n c]::rs)) [11] 4095 2047 (by kernel_rfl) (by kernel_rfl) rfl (⟨_,hs.drew.pick pk2⟩) ?_
        have hs:=Sep.drew hs
        generalize World.drew _ = w at hs ⊢;refine dP 0 1 rfl ha (fun _=>yFieldA Tryz.runUnderlying54 rfl Tryz.sizeOf3 rfl rfl) fun a ha=>?_;refine dT 1 3 rfl ha (fun _ ⟨rs,hs⟩=>yLoadB Tryz.isAgg3 hs rfl pk0 rfl) (⟨_,hs.pick pk2⟩) fun a ha=>?_;refine dP 2 7 rfl ha (fun _=>yFieldA Tryz.runUnderlying54 rfl Tryz.sizeOf3 rfl rfl) fun a ha=>?_;refine dT 3 15 rfl ha (fun _ ⟨rs,hs⟩=>yLoadB Tryz.isAgg3 hs rfl pk0 rfl) (⟨_,hs.pick pk2⟩) fun a ha=>?_;refine dP 4 31 rfl ha (fun _=>yFieldA Tryz.runUnderlying54 rfl Tryz.sizeOf9 rfl rfl) fun a ha=>?_;refine dT 5 63 rfl ha (fun _ ⟨rs,hs⟩=>yLoadB Tryz.isAgg9 hs rfl pk0 rfl) (⟨_,hs.pick pk2⟩) fun a ha=>?_;refine dP 6 127 rfl ha (fun _=>yFieldA Tryz.runUnderlying54 rfl Tryz.sizeOf3 rfl rfl) fun a ha=>?_;refine dStore 7 255 rfl (by kernel_rfl) rfl ha won0 Tryz.sizeOf3 hs rfl rfl rfl rfl pk0 rfl (fun _ hs=>⟨_,hs.pick pk2⟩) fun w hs=>?_;refine dP 8 511 rfl ha (fun _=>yFieldA Tryz.runUnderlying54 rfl Tryz.sizeOf3 rfl rfl) fun a ha=>?_;refine dStore 9 1023 rfl (by kernel_rfl) rfl ha won0 Tryz.sizeOf3 hs rfl rfl rfl rfl pk0 rfl (fun _ hs=>⟨_,hs.pick pk2⟩) fun w hs=>?_;refine dP 10 2047 rfl ha (fun _=>yFieldA Tryz.runUnderlying54 rfl Tryz.sizeOf9 rfl rfl) fun a ha=>?_;refine dStorel 11 4095 rfl (by kernel_rfl) rfl ha won0 Tryz.sizeOf9 hs rfl rfl rfl rfl pk0 rfl fun w hs=>?_;refine dZ (by kernel_rfl) ?_;refine hJ3 _ _ ?_
        (refine ⟨none,0,has3 ha rfl rfl rfl,?_⟩; rw [show plainA x = ⟨x.kind,x.id,x.parent,x.name,false,[]⟩ by unfold plainA; simp [hc9,hc23,hc28]]; exact (hs.ol_nil kComp 0 none).ol_rd .here)
      · refine wp_seq_k fun K9 hK9=>?_;refine wp_region_lit ?_;refine pY ha (yEql rfl rfl) fun a ha=>?_;refine pY ha (yAssign rfl) fun a ha=>?_;refine pZ ?_;refine hK9 _ _ ?_;refine cDec ha rfl (fun hc39=>?_) (fun hc39=>?_)
        · refine dStart (fun w=>∃ rs,Sep W w (.blk b1 54 [.int .i64 x.kind,.int .i64 x.id,.int .i64 x.parent,.string x.name,.bool x.dir,.slice A n c]::rs)) [6,8] 511 63 (by kernel_rfl) (by kernel_rfl) rfl (⟨_,hs.drew.pick pk2⟩) ?_
          have hs:=Sep.drew hs
          generalize World.drew _ = w at hs ⊢;refine dP 0 1 rfl ha (fun _=>yFieldA Tryz.runUnderlying54 rfl Tryz.sizeOf3 rfl rfl) fun a ha=>?_;refine dT 1 3 rfl ha (fun _ ⟨rs,hs⟩=>yLoadB Tryz.isAgg3 hs rfl pk0 rfl) (⟨_,hs.pick pk2⟩) fun a ha=>?_;refine dP 2 7 rfl ha (fun _=>yFieldA Tryz.runUnderlying54 rfl Tryz.sizeOf52 rfl rfl) fun a ha=>?_;refine dT 3 15 rfl ha (fun _ ⟨rs,hs⟩=>yLoadB Tryz.isAgg52 hs rfl pk0 rfl) (⟨_,hs.pick pk2⟩) fun a ha=>?_;refine dP 5 47 rfl ha (fun _=>yFieldA Tryz.runUnderlying54 rfl Tryz.sizeOf3 rfl rfl) fun a ha=>?_;refine dC 4 63 rfl (by kernel_rfl) rfl ha won0 (nCall Tryz.call106 rfl) rfl (CloneC_c (xs:=x.ops) hs (.there (.there (.there hk))) hb) ?_;rintro v w ⟨A2,c2,rfl,hs⟩;refine ⟨⟨_,hs.pick pk3⟩,fun a ha=>?_⟩;refine dStorel 6 127 rfl (by kernel_rfl) rfl ha won0 Tryz.sizeOf3 hs rfl rfl rfl rfl pk1 rfl fun w hs=>?_;refine dP 7 255 rfl ha (fun _=>yFieldA Tryz.runUnderlying54 rfl Tryz.sizeOf52 rfl rfl) fun a ha=>?_;refine dStorel 8 511 rfl (by kernel_rfl) rfl ha won0 Tryz.sizeOf52 hs rfl rfl rfl rfl pk0 rfl fun w hs=>?_;refine dZ (by kernel_rfl) ?_;refine hJ3 _ _ ?_
          (refine ⟨A2,c2,has3 ha rfl rfl rfl,?_⟩; rw [show plainA x = ⟨x.kind,x.id,0,emp,false,x.ops⟩ by unfold plainA; simp [hc9,hc23,hc28,hc39]]; exact hs.perm (List.Perm.swap _ _ _))
        · refine wp_skip ?_;refine hJ3 _ _ ?_
          (refine ⟨none,0,has3 ha rfl rfl rfl,?_⟩; rw [show plainA x = ⟨x.kind,0,0,emp,false,[]⟩ by unfold plainA; simp [hc9,hc23,hc28,hc39]]; exact (hs.ol_nil kComp 0 none).ol_rd .here)
/-- Lists that are short enough to be copied. -/
def shortM (m : Msg) : Prop:=m.acts.length≤1000000000∧(∀ x ∈ m.acts,x.ops.length≤1000000000)∧m.commits.length≤1000000000∧(∀ x ∈ m.commits,x.acts.length≤1000000000)∧(∀ x ∈ m.commits,∀ y ∈ x.acts,y.ops.length≤1000000000)∧m.nodes.length≤1000000000
end
end Go.Proofs.YtldgdjilchnceaaGreatDoor

set_option linter.unusedVariables false
set_option linter.unusedSimpArgs false
namespace Go.Proofs.YtldgdjilchnceaaGreatDoor
open Go.RowKit Go.Lib
section
variable {P : Program} {W w w' : World} {N dd : Nat} {a : Act} {ops : Array Oper} {Q : Exit→Act→World→Prop} {rest : List Oper} {ps : String} {af : Array Edge} {l : List (Nat × Value)} {T U U' E : TypeId} {cs r : List Ch} {x y : Operand} {s : ByteArray}
/-- A text as bytes of one's own, for reading. -/
theorem pStrBytes (ha : Has a N l) (hs' : P.underlying U = some .string) (hd' : P.underlying U' = some (.slice E)) (he : P.underlying E = some (.int .u8)) (hs : Sep W w cs) (hx : ev l x = some (.string s)) (hsz : s.size≤1000000000) (hd : Nat.blt dd N = true)
    (h : ∀ A c w,Sep W w (.rd kU8 (.slice A s.data.toList.length c) s.data.toList::cs)→∀ a,Has a N ((dd,.slice A s.data.toList.length c)::l)→wpList P ops Q rest a w) : wpList P ops Q (⟨some dd,.convert U U' x,T,ps,af,none⟩::rest) a w:=by
  have hr:=run_bytes_of_string (P:=P) w U U' E s hs' hd' he
  have hc1:=grownCap_ge w s.size 0 E
  have hc2:=grownCap_le_maxLen w s.size 0 E (by unfold maxLen; omega)
  generalize hC : grownCap w s.size 0 E = C at hr hc1 hc2
  have hlen : s.data.toList.length = s.size:=by simp
  refine pE ha (v:=.slice (some ⟨w.heap.size,0,none⟩) s.data.toList.length C) (w':=w.drew.alloc (.cells (bytesRow s C) E ((bytesRow s C).size,(bytesRow s C).size + 1))) (fun ρ o hE ho hT=>?_) hd fun a ha=>h _ _ _ ?_ a ha
  · unfold execOp; rw [ho]
    simp [hE _ _ hx,hr,hlen]
  · have h2:=hs.drew.alloc (.cells (bytesRow s C) E ((bytesRow s C).size,(bytesRow s C).size + 1))
    refine h2.shut fun Z H hd hc=>?_;refine ⟨_,C,rfl,by omega,hc2,fun _=>⟨w.heap.size,0,_,_,_,rfl,Hp.le_un_right hd _ _ hc,fun i x hx=>⟨_,rfl,fun j u hj=>?_⟩⟩⟩
    have hi:=(List.getElem?_eq_some_iff.1 hx).1
    match j,hj with
    | 0,hj=>
      simp at hj
      subst hj
      have hi2 : i < s.size:=by omega
      have hx2 : s.data[i]? = some x:=by simpa using hx
      have hi3 : i < s.data.size:=hi2
      simp [bytesRow,kU8,Array.getElem?_append,hi3,hx2]
      intro hh; omega
    | j + 1,hj=>simp at hj
end
section
variable {W w : World} {cs r : List Ch}
theorem all_at {l : List UInt8} {i : Nat} {b : UInt8} (h : (l.take i).all letter = true) (hb : l[i]? = some b) (hl : letter b = true) : (l.take (i + 1)).all letter = true:=by
  rw [List.take_add_one,hb]; simp only [Option.toList,List.all_append,h,List.all_cons,hl,List.all_nil,Bool.and_self]
theorem all_no {l : List UInt8} {i : Nat} {b : UInt8} (hb : l[i]? = some b) (hl : letter b = false) : l.all letter = false:=by
  cases h : l.all letter with
  | false=>rfl
  | true=>
    rw [List.all_eq_true] at h;rw [h b (List.mem_of_getElem? hb)] at hl
    cases hl
theorem Name_c (s : ByteArray) (hsz : s.size≤1000000000) (hs : Sep W w cs) : Calls P 91 #[.string s] w (Rt fun v w'=>v = .bool (nameOk s)∧Sep W w' cs):=by
  have hlen : s.data.toList.length = s.size:=by simp
  refine enter Tryz.func91 Tryz.ntmps91 rfl rfl fun a (ha : Has a 32 [(0,_)])=>?_;refine wp_seq_k fun K1 hK1=>?_;refine wp_region_lit ?_;refine pY ha (yAssign rfl) fun a ha=>?_;refine pZ ?_;refine hK1 _ _ ?_;refine wp_seq_k fun K2 hK2=>?_;refine wp_seq_k fun K3 hK3=>?_;refine wp_region_lit ?_;refine pY ha (yMove rfl) fun a ha=>?_;refine pStrBytes ha Tryz.underlying9 Tryz.underlying24 Tryz.underlying5 hs rfl (by omega) rfl ?_;intro A c w hs a ha;refine pY ha (yLenS Tryz.runUnderlying24 rfl) fun a ha=>?_;refine pY ha (yMove rfl) fun a ha=>?_;refine pZ ?_;refine hK3 _ _ ?_;refine wp_block ?_;refine loopI (ι:=Nat) (fun i a w=>i≤s.size∧(s.data.toList.take i).all letter = true∧Has a 32 [(0,.string s),(6,.slice A s.data.toList.length c),(7,.int .i64 s.data.toList.length),(8,.int .i64 i)]∧Sep W w (.rd kU8 (.slice A s.data.toList.length c) s.data.toList::cs)) (fun i=>s.size - i) (0) ?_ ?_
  · exact ⟨Nat.zero_le _,rfl,has4 ha rfl rfl rfl rfl,hs⟩
  · rintro i a w ⟨h1,h2,ha,hs⟩;refine wp_seq_k fun K4 hK4=>?_;refine wp_region_lit ?_;refine pY ha (yLss rfl rfl) fun a ha=>?_;refine pZ ?_;refine hK4 _ _ ?_;refine wp_seq_k fun K5 hK5=>?_;refine cDec ha rfl (fun hc9=>?_) (fun hc9=>?_)
    · obtain ⟨x,hx⟩ : ∃ x,s.data.toList[i]? = some x:=⟨_,List.getElem?_eq_getElem (by omega)⟩;obtain ⟨b0,off,rfl,hs⟩:=hs.rd_byte .here hx;refine wp_skip ?_;refine hK5 _ _ ?_;refine wp_seq_k fun K6 hK6=>?_;refine wp_block ?_;refine wp_seq_k fun K7 hK7=>?_;refine wp_region_lit ?_;refine pY ha (yIndexA Tryz.runUnderlying24 Tryz.sizeOf5 rfl rfl (by omega) (by omega)) fun a ha=>?_;refine pY ha (yLoadR0 Tryz.isAgg5 hs rfl pk0 rfl) fun a ha=>?_;refine pY ha (yAssign rfl) fun a ha=>?_;refine pZ ?_;refine hK7 _ _ ?_;refine wp_seq_k fun K8 hK8=>?_;refine wp_region_lit ?_;refine pY ha (yMove rfl) fun a ha=>?_;refine pC ha (nCall Tryz.call107 rfl) rfl (Letter_c x hs) ?_;rintro v w ⟨rfl,hs⟩ a ha;refine pY ha (yNot rfl) fun a ha=>?_;refine pZ ?_;refine hK8 _ _ ?_;refine cSplit ha rfl (fun hc14=>?_) (fun hc14=>?_)
      · refine wp_seq_k fun K9 hK9=>?_;refine wp_region_lit ?_;refine pY ha (yAssign rfl) fun a ha=>?_;refine pZ ?_;refine hK9 _ _ ?_;refine wp_ret ?_;show bodyPost Tryz.prog Tryz.f91 _ .ret _ _;refine ret1 rfl ha rfl ?_;refine ⟨congrArg Value.bool ?_,hs.drop.drop⟩;unfold nameOk;rw [all_no hx (by simpa using hc14)]; rfl
      · refine wp_skip ?_;refine hK6 _ _ ?_;refine wp_region_lit ?_;refine pY ha (yAddN rfl rfl ⟨by omega,by omega⟩) fun a ha=>?_;refine pY ha (yMove rfl) fun a ha=>?_;refine pZ ?_;exact ⟨i + 1,⟨by omega,all_at h2 hx (by simpa using hc14),has4 ha rfl rfl rfl rfl,hs.drop⟩,by omega⟩
    · refine wp_exit ?_;refine hK2 _ _ ?_;refine wp_seq_k fun K10 hK10=>?_;rw [List.take_of_length_le (by omega)] at h2;refine cutC (fun a w=>Has a 32 [(2,.bool (nameOk s))]∧Sep W w cs) ?_ ?_
      · refine wp_region_lit ?_;refine pY ha (yMove rfl) fun a ha=>?_;refine pY ha (yLenStr Tryz.runUnderlying9 rfl) fun a ha=>?_;refine pY ha (yGeq rfl rfl) fun a ha=>?_;refine pY ha (yMove rfl) fun a ha=>?_;refine gDec (t:=19) ha rfl (fun hg3 hp3=>?_) (fun hg3 hp3=>?_)
        · rw [hg3] at ha;refine gOff ha fun a ha=>?_;refine gOff ha fun a ha=>?_;refine gOff ha fun a ha=>?_;refine pY ha (yPickF rfl rfl) fun a ha=>?_;refine pY ha (yMove rfl) fun a ha=>?_;refine gOff ha fun a ha=>?_;refine gOff ha fun a ha=>?_;refine pY ha (yPickF rfl rfl) fun a ha=>?_;refine pY ha (yMove rfl) fun a ha=>?_;refine gOff ha fun a ha=>?_;refine gOff ha fun a ha=>?_;refine pY ha (yPickF rfl rfl) fun a ha=>?_;refine pY ha (yAssign rfl) fun a ha=>?_;refine pZ ⟨rfl,?_⟩;refine ⟨has1 ha ?_,hs.drop⟩;unfold nameOk;refine congrArg (fun b=>some (Value.bool b)) ?_;rw [Bool.eq_iff_iff];simp only [decide_eq_true_eq,decide_eq_false_iff_not,Bool.and_eq_true,Bool.not_eq_true',h2,Bool.false_eq_true,true_and,true_iff,false_iff,iff_true,iff_false,Bool.not_eq_eq_eq_not,Bool.not_true,Bool.not_false] at *
          omega
        · rw [hg3] at ha;refine gOn ha ?_;refine pY ha (yMove rfl) fun a ha=>?_;refine gOn ha ?_;refine pY ha (yLenStr Tryz.runUnderlying9 rfl) fun a ha=>?_;refine gOn ha ?_;refine pY ha (yLeq rfl rfl) fun a ha=>?_;refine pY ha (yPickT rfl rfl) fun a ha=>?_;refine pY ha (yMove rfl) fun a ha=>?_;refine gSplit (t:=24) ha rfl (fun hg8=>?_) (fun hg8=>?_)
          · rw [hg8] at ha;refine gOff ha fun a ha=>?_;refine gOff ha fun a ha=>?_;refine pY ha (yPickF rfl rfl) fun a ha=>?_;refine pY ha (yMove rfl) fun a ha=>?_;refine gOff ha fun a ha=>?_;refine gOff ha fun a ha=>?_;refine pY ha (yPickF rfl rfl) fun a ha=>?_;refine pY ha (yAssign rfl) fun a ha=>?_;refine pZ ⟨rfl,?_⟩;refine ⟨has1 ha ?_,hs.drop⟩;unfold nameOk;refine congrArg (fun b=>some (Value.bool b)) ?_;rw [Bool.eq_iff_iff];simp only [decide_eq_true_eq,decide_eq_false_iff_not,Bool.and_eq_true,Bool.not_eq_true',h2,Bool.false_eq_true,true_and,true_iff,false_iff,iff_true,iff_false,Bool.not_eq_eq_eq_not,Bool.not_true,Bool.not_false] at *
            omega
          · rw [hg8] at ha;refine gOn ha ?_;refine pY ha (yMove rfl) fun a ha=>?_;refine gOn ha ?_;refine pY ha (yStrNeq rfl rfl) fun a ha=>?_;refine pY ha (yPickT rfl rfl) fun a ha=>?_;refine pY ha (yMove rfl) fun a ha=>?_;refine gSplit (t:=28) ha rfl (fun hg12=>?_) (fun hg12=>?_)
            · rw [hg12] at ha;refine gOff ha fun a ha=>?_;refine gOff ha fun a ha=>?_;refine pY ha (yPickF rfl rfl) fun a ha=>?_;refine pY ha (yAssign rfl) fun a ha=>?_;refine pZ ⟨rfl,?_⟩;refine ⟨has1 ha ?_,hs.drop⟩;unfold nameOk;refine congrArg (fun b=>some (Value.bool b)) ?_;rw [Bool.eq_iff_iff];simp only [decide_eq_true_eq,decide_eq_false_iff_not,Bool.and_eq_true,Bool.not_eq_true',h2,Bool.false_eq_true,true_and,true_iff,false_iff,iff_true,iff_false,Bool.not_eq_eq_eq_not,Bool.not_true,Bool.not_false] at *
              (simp_all; done)
            · rw [hg12] at ha;refine gOn ha ?_;refine pY ha (yMove rfl) fun a ha=>?_;refine gOn ha ?_;refine pY ha (yStrNeq rfl rfl) fun a ha=>?_;refine pY ha (yPickT rfl rfl) fun a ha=>?_;refine pY ha (yAssign rfl) fun a ha=>?_;refine pZ ⟨rfl,?_⟩;refine ⟨has1 ha ?_,hs.drop⟩;unfold nameOk;refine congrArg (fun b=>some (Value.bool b)) ?_;rw [Bool.eq_iff_iff];simp only [decide_eq_true_eq,decide_eq_false_iff_not,Bool.and_eq_true,Bool.not_eq_true',h2,Bool.false_eq_true,true_and,true_iff,false_iff,iff_true,iff_false,Bool.not_eq_eq_eq_not,Bool.not_true,Bool.not_false] at *
              (simp_all; omega)
      rintro a w ⟨ha,hs⟩;refine hK10 _ _ ?_;refine wp_ret ?_;show bodyPost Tryz.prog Tryz.f91 _ .ret _ _;refine ret1 rfl ha rfl ?_;exact ⟨rfl,hs⟩
theorem Add_c (n x : Int) (hn : 0≤n∧n≤1099511627776) (hx : 0≤x∧x≤9223372036854775807) (hs : Sep W w cs) : Calls P 118 #[.int .i64 n,.int .i64 x] w (Rt fun v w'=>v = .int .i64 (addC n x)∧Sep W w' cs):=by
  refine enter Tryz.func118 Tryz.ntmps118 rfl rfl fun a (ha : Has a 12 [(0,_),(1,_)])=>?_;refine wp_seq_k fun K1 hK1=>?_;refine wp_region_lit ?_;refine pY ha (yAssign rfl) fun a ha=>?_;refine pZ ?_;refine hK1 _ _ ?_;refine wp_seq_k fun K2 hK2=>?_;refine wp_seq_k fun K3 hK3=>?_;refine wp_region_lit ?_;refine pY ha (yMove rfl) fun a ha=>?_;refine pY ha (yMove rfl) fun a ha=>?_;refine pY ha (ySubN rfl rfl ⟨by omega,by omega⟩) fun a ha=>?_;refine pY ha (yGtr rfl rfl) fun a ha=>?_;refine pZ ?_;refine hK3 _ _ ?_;refine cDec ha rfl (fun hc8=>?_) (fun hc8=>?_)
  · refine wp_seq_k fun K4 hK4=>?_;refine wp_region_lit ?_;refine pY ha (yAssign rfl) fun a ha=>?_;refine pZ ?_;refine hK4 _ _ ?_;refine wp_ret ?_;show bodyPost Tryz.prog Tryz.f118 _ .ret _ _;refine ret1 rfl ha rfl ?_;unfold addC; rw [if_pos (by omega)]; exact ⟨rfl,hs⟩
  · refine wp_skip ?_;refine hK2 _ _ ?_;refine wp_seq_k fun K5 hK5=>?_;refine wp_region_lit ?_;refine pY ha (yMove rfl) fun a ha=>?_;refine pY ha (yMove rfl) fun a ha=>?_;refine pY ha (yAddN rfl rfl ⟨by omega,by omega⟩) fun a ha=>?_;refine pY ha (yAssign rfl) fun a ha=>?_;refine pZ ?_;refine hK5 _ _ ?_;refine wp_ret ?_;show bodyPost Tryz.prog Tryz.f118 _ .ret _ _;refine ret1 rfl ha rfl ?_;unfold addC; rw [if_neg (by omega)]; exact ⟨rfl,hs⟩
theorem OpSound_c (hT : Tabs W) (x : Comp) (hsz : x.text.size≤9223372036854775807) (hs : Sep W w cs) : Calls P 117 #[.agg (cC x).toArray] w (Rt fun v w'=>v = .bool (sndC x)∧Sep W w' cs):=by
  unfold cC;refine enter Tryz.func117 Tryz.ntmps117 rfl rfl fun a (ha : Has a 31 [(0,_)])=>?_;refine wp_seq_k fun K1 hK1=>?_;refine wp_region_lit ?_;refine pBox (es:=_) ha rfl rfl hs rfl fun b w hs a ha=>?_;refine pY ha (yAssign rfl) fun a ha=>?_;refine pZ ?_;refine hK1 _ _ ?_;refine wp_seq_k fun K2 hK2=>?_;refine wp_seq_k fun K3 hK3=>?_;refine wp_region_lit ?_;refine pY ha (yFieldA Tryz.runUnderlying98 rfl Tryz.sizeOf3 rfl rfl) fun a ha=>?_;refine pY ha (yLoadB Tryz.isAgg3 hs rfl pk0 rfl) fun a ha=>?_;refine pZ ?_;refine hK3 _ _ ?_;refine wp_block ?_;refine wp_seq_k fun K4 hK4=>?_;refine wp_region_lit ?_;refine pY ha (yEql rfl rfl) fun a ha=>?_;refine pY ha (yAssign rfl) fun a ha=>?_;refine pZ ?_;refine hK4 _ _ ?_;refine cDec ha rfl (fun hc5=>?_) (fun hc5=>?_)
  · refine wp_seq_k fun K5 hK5=>?_;refine wp_region_lit ?_;refine pY ha (yFieldA Tryz.runUnderlying98 rfl Tryz.sizeOf3 rfl rfl) fun a ha=>?_;refine pY ha (yLoadB Tryz.isAgg3 hs rfl pk0 rfl) fun a ha=>?_;refine pY ha (yEql rfl rfl) fun a ha=>?_;refine pY ha (yMove rfl) fun a ha=>?_;refine gDec (t:=10) ha rfl (fun hg3 hp3=>?_) (fun hg3 hp3=>?_)
    · rw [hg3] at ha
      have hp3:=of_decide_eq_false hg3
      refine gOff ha fun a ha=>?_;refine gOff ha fun a ha=>?_;refine gOff ha fun a ha=>?_;refine pY ha (yPickF rfl rfl) fun a ha=>?_;refine pY ha (yMove rfl) fun a ha=>?_;refine gOff ha fun a ha=>?_;refine gOff ha fun a ha=>?_;refine gOff ha fun a ha=>?_;refine pY ha (yPickF rfl rfl) fun a ha=>?_;refine pY ha (yAssign rfl) fun a ha=>?_;refine pZ ?_;refine hK5 _ _ ?_;refine wp_ret ?_;show bodyPost Tryz.prog Tryz.f117 _ .ret _ _;refine ret1 rfl ha rfl ?_;refine ⟨congrArg Value.bool ?_,hs.drop⟩;unfold sndC emp
      (rw [if_pos hc5]; simp_all; done)
    · rw [hg3] at ha
      have hp3:=of_decide_eq_true hg3
      refine gOn ha ?_;refine pY ha (yFieldA Tryz.runUnderlying98 rfl Tryz.sizeOf9 rfl rfl) fun a ha=>?_;refine gOn ha ?_;refine pY ha (yLoadB Tryz.isAgg9 hs rfl pk0 rfl) fun a ha=>?_;refine gOn ha ?_;refine pY ha (yStrNeq rfl rfl) fun a ha=>?_;refine pY ha (yPickT rfl rfl) fun a ha=>?_;refine pY ha (yMove rfl) fun a ha=>?_;refine gSplit (t:=15) ha rfl (fun hg8=>?_) (fun hg8=>?_)
      · rw [hg8] at ha;refine gOff ha fun a ha=>?_;refine gOff ha fun a ha=>?_;refine gOff ha fun a ha=>?_;refine pY ha (yPickF rfl rfl) fun a ha=>?_;refine pY ha (yAssign rfl) fun a ha=>?_;refine pZ ?_;refine hK5 _ _ ?_;refine wp_ret ?_;show bodyPost Tryz.prog Tryz.f117 _ .ret _ _;refine ret1 rfl ha rfl ?_;refine ⟨congrArg Value.bool ?_,hs.drop⟩;unfold sndC emp
        (rw [if_pos hc5]; simp_all; done)
      · rw [hg8] at ha;refine gOn ha ?_;refine pY ha (yFieldA Tryz.runUnderlying98 rfl Tryz.sizeOf9 rfl rfl) fun a ha=>?_;refine gOn ha ?_;refine pY ha (yLoadB Tryz.isAgg9 hs rfl pk0 rfl) fun a ha=>?_;refine gOn ha ?_;refine pC ha (nCall Tryz.call60 rfl) rfl (Valid_c hT x.text hsz hs) ?_;rintro v w ⟨rfl,hs⟩ a ha;refine pY ha (yPickT rfl rfl) fun a ha=>?_;refine pY ha (yAssign rfl) fun a ha=>?_;refine pZ ?_;refine hK5 _ _ ?_;refine wp_ret ?_;show bodyPost Tryz.prog Tryz.f117 _ .ret _ _;refine ret1 rfl ha rfl ?_;refine ⟨congrArg Value.bool ?_,hs.drop⟩;unfold sndC emp
        (rw [if_pos hc5]; simp_all; done)
  · refine wp_seq_k fun K6 hK6=>?_
    have hJ6 : ∀ a w,(Has a 31 [(20,.bool (decide (x.kind = 1∨x.kind = 3))),(1,.pointer (some ⟨b,0,none⟩)),(2,.bool false)]∧Sep W w (.blk b 98 [.int .i64 x.kind,.int .i64 x.n,.string x.text]::cs))→K6 a w:=by
      rintro a w ⟨ha,hs⟩;refine hK6 _ _ ?_;refine cDec ha rfl (fun hc20=>?_) (fun hc20=>?_)
      · refine wp_seq_k fun K7 hK7=>?_;refine wp_region_lit ?_;refine pY ha (yFieldA Tryz.runUnderlying98 rfl Tryz.sizeOf3 rfl rfl) fun a ha=>?_;refine pY ha (yLoadB Tryz.isAgg3 hs rfl pk0 rfl) fun a ha=>?_;refine pY ha (yGtr rfl rfl) fun a ha=>?_;refine pY ha (yMove rfl) fun a ha=>?_;refine gDec (t:=26) ha rfl (fun hg3 hp3=>?_) (fun hg3 hp3=>?_)
        · rw [hg3] at ha
          have hp3:=of_decide_eq_false hg3
          refine gOff ha fun a ha=>?_;refine gOff ha fun a ha=>?_;refine gOff ha fun a ha=>?_;refine pY ha (yPickF rfl rfl) fun a ha=>?_;refine pY ha (yAssign rfl) fun a ha=>?_;refine pZ ?_;refine hK7 _ _ ?_;refine wp_ret ?_;show bodyPost Tryz.prog Tryz.f117 _ .ret _ _;refine ret1 rfl ha rfl ?_;refine ⟨congrArg Value.bool ?_,hs.drop⟩;unfold sndC emp
          (rw [if_neg hc5,if_pos hc20]; have hp3' : ¬ x.n > 0:=hp3; rw [decide_eq_false hp3']; rfl)
        · rw [hg3] at ha
          have hp3:=of_decide_eq_true hg3
          refine gOn ha ?_;refine pY ha (yFieldA Tryz.runUnderlying98 rfl Tryz.sizeOf9 rfl rfl) fun a ha=>?_;refine gOn ha ?_;refine pY ha (yLoadB Tryz.isAgg9 hs rfl pk0 rfl) fun a ha=>?_;refine gOn ha ?_;refine pY ha (yStrEql rfl rfl) fun a ha=>?_;refine pY ha (yPickT rfl rfl) fun a ha=>?_;refine pY ha (yAssign rfl) fun a ha=>?_;refine pZ ?_;refine hK7 _ _ ?_;refine wp_ret ?_;show bodyPost Tryz.prog Tryz.f117 _ .ret _ _;refine ret1 rfl ha rfl ?_;refine ⟨congrArg Value.bool ?_,hs.drop⟩;unfold sndC emp
          (rw [if_neg hc5,if_pos hc20]; have hp3' : x.n > 0:=hp3; rw [decide_eq_true hp3']; simp; done)
      · refine wp_skip ?_;refine hK2 _ _ ?_;refine wp_seq_k fun K8 hK8=>?_;refine wp_region_lit ?_;refine pY ha (yAssign rfl) fun a ha=>?_;refine pZ ?_;refine hK8 _ _ ?_;refine wp_ret ?_;show bodyPost Tryz.prog Tryz.f117 _ .ret _ _;refine ret1 rfl ha rfl ?_;refine ⟨congrArg Value.bool ?_,hs.drop⟩;unfold sndC emp
        (rw [if_neg hc5,if_neg hc20])
    refine wp_seq_k fun K9 hK9=>?_;refine wp_region_lit ?_;refine pY ha (yEql rfl rfl) fun a ha=>?_;refine pY ha (yAssign rfl) fun a ha=>?_;refine pZ ?_;refine hK9 _ _ ?_;refine cDec ha rfl (fun hc20=>?_) (fun hc20=>?_)
    · refine wp_skip ?_;refine hJ6 _ _ ?_;exact ⟨has3 ha (bT (by omega)) rfl rfl,hs⟩
    · refine wp_region_lit ?_;refine pY ha (yEql rfl rfl) fun a ha=>?_;refine pY ha (yAssign rfl) fun a ha=>?_;refine pZ ?_;refine hJ6 _ _ ?_;exact ⟨has3 ha (bT (by omega)) rfl rfl,hs⟩
theorem Normal_c (hT : Tabs W) {A : Option Addr} {n c : Nat} {xs : List Comp} (hsz : ∀ x ∈ xs,x.text.size≤9223372036854775807) (hs : Sep W w cs) (hk : Pick cs (.rd kComp (.slice A n c) xs) r) :
    Calls P 108 #[.slice A n c] w (Rt fun v w'=>v = .bool (normC xs)∧Sep W w' cs):=by
  obtain ⟨rfl,hl⟩:=hs.rd_shape hk;unfold maxLen at hl;have hs:=hs.cpR hk;refine enter Tryz.func108 Tryz.ntmps108 rfl rfl fun a (ha : Has a 45 [(0,_)])=>?_;refine wp_seq_k fun K1 hK1=>?_;refine wp_region_lit ?_;refine pY ha (yAssign rfl) fun a ha=>?_;refine pZ ?_;refine hK1 _ _ ?_;refine wp_seq_k fun K2 hK2=>?_;refine wp_seq_k fun K3 hK3=>?_;refine wp_region_lit ?_;refine pY ha (yMove rfl) fun a ha=>?_;refine pY ha (yLenS Tryz.runUnderlying52 rfl) fun a ha=>?_;refine pY ha (yMove rfl) fun a ha=>?_;refine pZ ?_;refine hK3 _ _ ?_;refine wp_block ?_;refine loopI (ι:=Nat) (fun i a w=>i≤xs.length∧allN (goodC xs) i = true∧Has a 45 [(0,.slice A xs.length c),(5,.slice A xs.length c),(6,.int .i64 xs.length),(7,.int .i64 i)]∧Sep W w (.rd kComp (.slice A xs.length c) xs::cs)) (fun i=>xs.length - i) (0) ?_ ?_
  · exact ⟨Nat.zero_le _,rfl,has4 ha rfl rfl rfl rfl,hs⟩
  · rintro i a w ⟨h1,h2,ha,hs⟩;refine wp_seq_k fun K4 hK4=>?_;refine wp_region_lit ?_;refine pY ha (yLss rfl rfl) fun a ha=>?_;refine pZ ?_;refine hK4 _ _ ?_;refine wp_seq_k fun K5 hK5=>?_;refine cDec ha rfl (fun hc8=>?_) (fun hc8=>?_)
    · obtain ⟨x,hx⟩ : ∃ x,xs[i]? = some x:=⟨_,List.getElem?_eq_getElem (by omega)⟩;obtain ⟨y,hy⟩ : ∃ y,xs[i - 1]? = some y:=⟨_,List.getElem?_eq_getElem (by omega)⟩
      have hsx:=hsz x (List.mem_of_getElem? hx)
      have hgood : goodC xs i = (sndC x && (decide (i = 0) || !(decide (y.kind = x.kind) || decide (y.kind = 3) && decide (x.kind = 2)))):=by
        unfold goodC;rw [List.getD_eq_getElem?_getD,List.getD_eq_getElem?_getD,hx,hy]; rfl
      obtain ⟨b0,off,rfl,hs⟩:=hs.rd_comp .here hx;refine wp_skip ?_;refine hK5 _ _ ?_;refine wp_seq_k fun K6 hK6=>?_;refine wp_block ?_;refine wp_seq_k fun K7 hK7=>?_;refine wp_region_lit ?_;refine pY ha (yMove rfl) fun a ha=>?_;refine pY ha (yIndexA Tryz.runUnderlying52 Tryz.sizeOf98 rfl rfl (by omega) (by omega)) fun a ha=>?_;refine pY ha (yLoadRA Tryz.isAgg98 Tryz.sizeOf98 hs rfl pk0 rfl) fun a ha=>?_;refine pAlloc (zs:=[.int .i64 0,.int .i64 0,.string ⟨#[]⟩]) ha Tryz.zeroValue98 rfl hs rfl fun b w hs a ha=>?_;refine pY ha (yAssign rfl) fun a ha=>?_;refine pStoreA ha Tryz.sizeOf98 hs rfl rfl pk0 rfl rfl rfl fun w hs=>?_;refine pZ ?_;refine hK7 _ _ ?_;refine wp_seq_k fun K8 hK8=>?_;obtain ⟨b1,off1,e1,hs⟩:=hs.rd_comp (.there (.there .here)) hy;simp only [Option.some.injEq,Addr.mk.injEq,and_true] at e1;obtain ⟨rfl,rfl⟩:=e1;rw [show i - 1 = ((i : Int) - 1).toNat by omega] at hs;refine cutC (fun a w=>Has a 45 [(43,.bool (!goodC xs i)),(0,.slice (some ⟨b0,off,none⟩) xs.length c),(5,.slice (some ⟨b0,off,none⟩) xs.length c),(6,.int .i64 xs.length),(7,.int .i64 i)]∧Sep W w (.rd kComp (.slice (some ⟨b0,off,none⟩) xs.length c) xs::cs)) ?_ ?_
      · refine dStart (fun w=>∃ rs,Sep W w (.at b0 (off + ((i : Int) - 1).toNat * 3) [.int .i64 y.kind,.int .i64 y.n,.string y.text]::.blk b 98 [.int .i64 x.kind,.int .i64 x.n,.string x.text]::rs)) [] 4294967295 4294967295 (by kernel_rfl) (by kernel_rfl) rfl (⟨_,hs.drew.pick pk0⟩) ?_
        have hs:=Sep.drew hs
        generalize World.drew _ = w at hs ⊢;refine dT 0 1 rfl ha (fun _ ⟨rs,hs⟩=>yLoadBA Tryz.isAgg98 Tryz.sizeOf98 hs rfl pk1 rfl) (⟨_,hs.pick pk0⟩) fun a ha=>?_;refine dC 1 3 rfl (by kernel_rfl) rfl ha won0 (nCall Tryz.call117 rfl) rfl (OpSound_c hT x hsx hs) ?_;rintro v w ⟨rfl,hs⟩;refine ⟨⟨_,hs.pick pk0⟩,fun a ha=>?_⟩;refine dP 2 7 rfl ha (fun _=>yNot rfl) fun a ha=>?_;refine dP 3 15 rfl ha (fun _=>yMove rfl) fun a ha=>?_;refine gSplit (t:=15) ha rfl (fun hg3=>?_) (fun hg3=>?_)
        · rw [hg3] at ha;refine dP 4 31 rfl ha (fun _=>yMove rfl) fun a ha=>?_;refine dP 5 63 rfl ha (fun _=>yGtr rfl rfl) fun a ha=>?_;refine dP 6 127 rfl ha (fun _=>yMove rfl) fun a ha=>?_;refine gDec (t:=18) ha rfl (fun hg6 hp6=>?_) (fun hg6 hp6=>?_)
          · rw [hg6] at ha;refine dOff 7 255 rfl ha fun a ha=>?_;refine dOff 8 511 rfl ha fun a ha=>?_;refine dOff 9 1023 rfl ha fun a ha=>?_;refine dOff 10 2047 rfl ha fun a ha=>?_;refine dOff 11 4095 rfl ha fun a ha=>?_;refine dOff 12 8191 rfl ha fun a ha=>?_;refine dOff 13 16383 rfl ha fun a ha=>?_;refine dOff 14 32767 rfl ha fun a ha=>?_;refine dOff 15 65535 rfl ha fun a ha=>?_;refine dOff 16 131071 rfl ha fun a ha=>?_;refine dOffU 17 262143 rfl ha fun a ha=>?_;refine dOffU 18 524287 rfl ha fun a ha=>?_;refine dOffU 19 1048575 rfl ha fun a ha=>?_;refine dOffU 20 2097151 rfl ha fun a ha=>?_;refine dOffU 21 4194303 rfl ha fun a ha=>?_;refine dOffU 22 8388607 rfl ha fun a ha=>?_;refine dOffU 23 16777215 rfl ha fun a ha=>?_;refine dOffU 24 33554431 rfl ha fun a ha=>?_;refine dOffU 25 67108863 rfl ha fun a ha=>?_;refine dOffU 26 134217727 rfl ha fun a ha=>?_;refine dOffU 27 268435455 rfl ha fun a ha=>?_;refine dOffU 28 536870911 rfl ha fun a ha=>?_;refine dOff 29 1073741823 rfl ha fun a ha=>?_;refine dP 30 2147483647 rfl ha (fun _=>yPickF rfl rfl) fun a ha=>?_;refine dP 31 4294967295 rfl ha (fun _=>yPickF rfl rfl) fun a ha=>?_;refine dZ (by kernel_rfl) ?_;refine ⟨rfl,?_⟩;refine ⟨has5 ha ?_ rfl rfl rfl rfl,hs.drop.drop.drop⟩;rw [hgood];refine congrArg (fun b=>some (Value.bool b)) ?_;rw [Bool.eq_iff_iff];simp only [decide_eq_true_eq,decide_eq_false_iff_not,Bool.and_eq_true,Bool.or_eq_true,Bool.not_eq_true',Bool.not_eq_false',Bool.and_eq_false_iff,Bool.or_eq_false_iff,Bool.false_eq_true,true_iff,false_iff,iff_true,iff_false,Bool.not_eq_eq_eq_not,Bool.not_true,Bool.not_false] at *
            (simp_all; done)
          · rw [hg6] at ha;refine dP 7 255 rfl ha (fun _=>yMove rfl) fun a ha=>?_;refine dP 8 511 rfl ha (fun _=>yMove rfl) fun a ha=>?_;refine dP 9 1023 rfl ha (fun _=>ySubN rfl rfl ⟨by omega,by omega⟩) fun a ha=>?_;refine dP 10 2047 rfl ha (fun _=>yIndexA Tryz.runUnderlying52 Tryz.sizeOf98 rfl rfl (by omega) (by omega)) fun a ha=>?_;refine dP 11 4095 rfl ha (fun _=>yFieldA Tryz.runUnderlying98 rfl Tryz.sizeOf3 rfl rfl) fun a ha=>?_;refine dT 12 8191 rfl ha (fun _ ⟨rs,hs⟩=>yLoadR Tryz.isAgg3 hs rfl pk0 rfl) (⟨_,hs.pick pk0⟩) fun a ha=>?_;refine dP 13 16383 rfl ha (fun _=>yFieldA Tryz.runUnderlying98 rfl Tryz.sizeOf3 rfl rfl) fun a ha=>?_;refine dT 14 32767 rfl ha (fun _ ⟨rs,hs⟩=>yLoadB Tryz.isAgg3 hs rfl pk1 rfl) (⟨_,hs.pick pk0⟩) fun a ha=>?_;refine dP 15 65535 rfl ha (fun _=>yEql rfl rfl) fun a ha=>?_;refine dP 16 131071 rfl ha (fun _=>yMove rfl) fun a ha=>?_;refine gDec (t:=28) ha rfl (fun hg16 hp16=>?_) (fun hg16 hp16=>?_)
            · rw [hg16] at ha;refine dP 17 262143 rfl ha (fun _=>yMove rfl) fun a ha=>?_;refine dP 18 524287 rfl ha (fun _=>yMove rfl) fun a ha=>?_;refine dP 19 1048575 rfl ha (fun _=>ySubN rfl rfl ⟨by omega,by omega⟩) fun a ha=>?_;refine dP 20 2097151 rfl ha (fun _=>yIndexA Tryz.runUnderlying52 Tryz.sizeOf98 rfl rfl (by omega) (by omega)) fun a ha=>?_;refine dP 21 4194303 rfl ha (fun _=>yFieldA Tryz.runUnderlying98 rfl Tryz.sizeOf3 rfl rfl) fun a ha=>?_;refine dT 22 8388607 rfl ha (fun _ ⟨rs,hs⟩=>yLoadR Tryz.isAgg3 hs rfl pk0 rfl) (⟨_,hs.pick pk0⟩) fun a ha=>?_;refine dP 23 16777215 rfl ha (fun _=>yEql rfl rfl) fun a ha=>?_;refine dP 24 33554431 rfl ha (fun _=>yMove rfl) fun a ha=>?_;refine gDec (t:=36) ha rfl (fun hg24 hp24=>?_) (fun hg24 hp24=>?_)
              · rw [hg24] at ha;refine dOff 25 67108863 rfl ha fun a ha=>?_;refine dOff 26 134217727 rfl ha fun a ha=>?_;refine dOff 27 268435455 rfl ha fun a ha=>?_;refine dP 28 536870911 rfl ha (fun _=>yPickF rfl rfl) fun a ha=>?_;refine dP 29 1073741823 rfl ha (fun _=>yPickF rfl rfl) fun a ha=>?_;refine dP 30 2147483647 rfl ha (fun _=>yPickT rfl rfl) fun a ha=>?_;refine dP 31 4294967295 rfl ha (fun _=>yPickF rfl rfl) fun a ha=>?_;refine dZ (by kernel_rfl) ?_;refine ⟨rfl,?_⟩;refine ⟨has5 ha ?_ rfl rfl rfl rfl,hs.drop.drop.drop⟩;rw [hgood];refine congrArg (fun b=>some (Value.bool b)) ?_;rw [Bool.eq_iff_iff];simp only [decide_eq_true_eq,decide_eq_false_iff_not,Bool.and_eq_true,Bool.or_eq_true,Bool.not_eq_true',Bool.not_eq_false',Bool.and_eq_false_iff,Bool.or_eq_false_iff,Bool.false_eq_true,true_iff,false_iff,iff_true,iff_false,Bool.not_eq_eq_eq_not,Bool.not_true,Bool.not_false] at *
                (simp_all; done)
              · rw [hg24] at ha;refine dP 25 67108863 rfl ha (fun _=>yFieldA Tryz.runUnderlying98 rfl Tryz.sizeOf3 rfl rfl) fun a ha=>?_;refine dT 26 134217727 rfl ha (fun _ ⟨rs,hs⟩=>yLoadB Tryz.isAgg3 hs rfl pk1 rfl) (⟨_,hs.pick pk0⟩) fun a ha=>?_;refine dP 27 268435455 rfl ha (fun _=>yEql rfl rfl) fun a ha=>?_;refine dP 28 536870911 rfl ha (fun _=>yPickT rfl rfl) fun a ha=>?_;refine dP 29 1073741823 rfl ha (fun _=>yPickF rfl rfl) fun a ha=>?_;refine dP 30 2147483647 rfl ha (fun _=>yPickT rfl rfl) fun a ha=>?_;refine dP 31 4294967295 rfl ha (fun _=>yPickF rfl rfl) fun a ha=>?_;refine dZ (by kernel_rfl) ?_;refine ⟨rfl,?_⟩;refine ⟨has5 ha ?_ rfl rfl rfl rfl,hs.drop.drop.drop⟩;rw [hgood];refine congrArg (fun b=>some (Value.bool b)) ?_;rw [Bool.eq_iff_iff];simp only [decide_eq_true_eq,decide_eq_false_iff_not,Bool.and_eq_true,Bool.or_eq_true,Bool.not_eq_true',Bool.not_eq_false',Bool.and_eq_false_iff,Bool.or_eq_false_iff,Bool.false_eq_true,true_iff,false_iff,iff_true,iff_false,Bool.not_eq_eq_eq_not,Bool.not_true,Bool.not_false] at *
                (simp_all; omega)
            · rw [hg16] at ha;refine dOff 17 262143 rfl ha fun a ha=>?_;refine dOff 18 524287 rfl ha fun a ha=>?_;refine dOff 19 1048575 rfl ha fun a ha=>?_;refine dOff 20 2097151 rfl ha fun a ha=>?_;refine dOff 21 4194303 rfl ha fun a ha=>?_;refine dOff 22 8388607 rfl ha fun a ha=>?_;refine dOff 23 16777215 rfl ha fun a ha=>?_;refine dOff 24 33554431 rfl ha fun a ha=>?_;refine dOffU 25 67108863 rfl ha fun a ha=>?_;refine dOffU 26 134217727 rfl ha fun a ha=>?_;refine dOffU 27 268435455 rfl ha fun a ha=>?_;refine dOff 28 536870911 rfl ha fun a ha=>?_;refine dP 29 1073741823 rfl ha (fun _=>yPickT rfl rfl) fun a ha=>?_;refine dP 30 2147483647 rfl ha (fun _=>yPickT rfl rfl) fun a ha=>?_;refine dP 31 4294967295 rfl ha (fun _=>yPickF rfl rfl) fun a ha=>?_;refine dZ (by kernel_rfl) ?_;refine ⟨rfl,?_⟩;refine ⟨has5 ha ?_ rfl rfl rfl rfl,hs.drop.drop.drop⟩;rw [hgood];refine congrArg (fun b=>some (Value.bool b)) ?_;rw [Bool.eq_iff_iff];simp only [decide_eq_true_eq,decide_eq_false_iff_not,Bool.and_eq_true,Bool.or_eq_true,Bool.not_eq_true',Bool.not_eq_false',Bool.and_eq_false_iff,Bool.or_eq_false_iff,Bool.false_eq_true,true_iff,false_iff,iff_true,iff_false,Bool.not_eq_eq_eq_not,Bool.not_true,Bool.not_false] at *
              omega
        · rw [hg3] at ha;refine dOff 4 31 rfl ha fun a ha=>?_;refine dOff 5 63 rfl ha fun a ha=>?_;refine dOff 6 127 rfl ha fun a ha=>?_;refine dOffU 7 255 rfl ha fun a ha=>?_;refine dOffU 8 511 rfl ha fun a ha=>?_;refine dOffU 9 1023 rfl ha fun a ha=>?_;refine dOffU 10 2047 rfl ha fun a ha=>?_;refine dOffU 11 4095 rfl ha fun a ha=>?_;refine dOffU 12 8191 rfl ha fun a ha=>?_;refine dOffU 13 16383 rfl ha fun a ha=>?_;refine dOffU 14 32767 rfl ha fun a ha=>?_;refine dOffU 15 65535 rfl ha fun a ha=>?_;refine dOffU 16 131071 rfl ha fun a ha=>?_;refine dOffU 17 262143 rfl ha fun a ha=>?_;refine dOffU 18 524287 rfl ha fun a ha=>?_;refine dOffU 19 1048575 rfl ha fun a ha=>?_;refine dOffU 20 2097151 rfl ha fun a ha=>?_;refine dOffU 21 4194303 rfl ha fun a ha=>?_;refine dOffU 22 8388607 rfl ha fun a ha=>?_;refine dOffU 23 16777215 rfl ha fun a ha=>?_;refine dOffU 24 33554431 rfl ha fun a ha=>?_;refine dOffU 25 67108863 rfl ha fun a ha=>?_;refine dOffU 26 134217727 rfl ha fun a ha=>?_;refine dOffU 27 268435455 rfl ha fun a ha=>?_;refine dOffU 28 536870911 rfl ha fun a ha=>?_;refine dOffU 29 1073741823 rfl ha fun a ha=>?_;refine dOff 30 2147483647 rfl ha fun a ha=>?_;refine dP 31 4294967295 rfl ha (fun _=>yPickT rfl rfl) fun a ha=>?_;refine dZ (by kernel_rfl) ?_;refine ⟨rfl,?_⟩;refine ⟨has5 ha ?_ rfl rfl rfl rfl,hs.drop.drop.drop⟩;rw [hgood];refine congrArg (fun b=>some (Value.bool b)) ?_;rw [Bool.eq_iff_iff];simp only [decide_eq_true_eq,decide_eq_false_iff_not,Bool.and_eq_true,Bool.or_eq_true,Bool.not_eq_true',Bool.not_eq_false',Bool.and_eq_false_iff,Bool.or_eq_false_iff,Bool.false_eq_true,true_iff,false_iff,iff_true,iff_false,Bool.not_eq_eq_eq_not,Bool.not_true,Bool.not_false] at *
          (simp_all; done)
      rintro a w ⟨ha,hs⟩;refine hK8 _ _ ?_;refine cSplit ha rfl (fun hc43=>?_) (fun hc43=>?_)
      · refine wp_seq_k fun K9 hK9=>?_;refine wp_region_lit ?_;refine pY ha (yAssign rfl) fun a ha=>?_;refine pZ ?_;refine hK9 _ _ ?_;refine wp_ret ?_;show bodyPost Tryz.prog Tryz.f108 _ .ret _ _;refine ret1 rfl ha rfl ?_;exact ⟨congrArg Value.bool (allN_no (i:=i) (n:=xs.length) (by omega) (by simpa using hc43)).symm,hs.drop⟩
      · refine wp_skip ?_;refine hK6 _ _ ?_;refine wp_region_lit ?_;refine pY ha (yAddN rfl rfl ⟨by omega,by omega⟩) fun a ha=>?_;refine pY ha (yMove rfl) fun a ha=>?_;refine pZ ?_;exact ⟨i + 1,⟨by omega,by simp only [allN,h2,Bool.true_and]; simpa using hc43,has4 ha rfl rfl rfl rfl,hs⟩,by omega⟩
    · refine wp_exit ?_;refine hK2 _ _ ?_;refine wp_seq_k fun K10 hK10=>?_;refine wp_region_lit ?_;refine pY ha (yAssign rfl) fun a ha=>?_;refine pZ ?_;refine hK10 _ _ ?_;refine wp_ret ?_;show bodyPost Tryz.prog Tryz.f108 _ .ret _ _;refine ret1 rfl ha rfl ?_;obtain rfl : i = xs.length:=by omega
      exact ⟨congrArg Value.bool h2.symm,hs.drop⟩
theorem maxE (a : Int) : (if (0 : Int) > a then 0 else a) = max a 0:=by omega
theorem addC_ok {n x : Int} (hn : 0≤n∧n≤1099511627776) (hx : 0≤x) : 0≤addC n x∧addC n x≤1099511627776:=by unfold addC; split <;> omega
theorem baseC_at {xs : List Comp} {i : Nat} {x : Comp} (hx : xs[i]? = some x) (n : Int) : baseC (xs.drop i) n = baseC (xs.drop (i + 1)) (if x.kind = 1∨x.kind = 3 then addC n (max x.n 0) else n):=by
  obtain ⟨hi,rfl⟩:=List.getElem?_eq_some_iff.1 hx;rw [List.drop_eq_getElem_cons hi,baseC]
theorem outC_at {xs : List Comp} {i : Nat} {x : Comp} (hx : xs[i]? = some x) (n : Int) : outC (xs.drop i) n = outC (xs.drop (i + 1)) (if x.kind = 1 then addC n (max x.n 0) else if x.kind = 2 then addC n (cnt x.text.data.toList) else n):=by
  obtain ⟨hi,rfl⟩:=List.getElem?_eq_some_iff.1 hx;rw [List.drop_eq_getElem_cons hi,outC]
/-- Numbers of the machine. -/
def i64C (x : Comp) : Prop:=x.n≤9223372036854775807
theorem Base_c {A : Option Addr} {n c : Nat} {xs : List Comp} (hsz : ∀ x ∈ xs,i64C x) (hs : Sep W w cs) (hk : Pick cs (.rd kComp (.slice A n c) xs) r) :
    Calls P 109 #[.slice A n c] w (Rt fun v w'=>v = .int .i64 (baseC xs 0)∧Sep W w' cs):=by
  obtain ⟨rfl,hl⟩:=hs.rd_shape hk;unfold maxLen at hl;have hs:=hs.cpR hk;refine enter Tryz.func109 Tryz.ntmps109 rfl rfl fun a (ha : Has a 26 [(0,_)])=>?_;refine wp_seq_k fun K1 hK1=>?_;refine wp_region_lit ?_;refine pY ha (yAssign rfl) fun a ha=>?_;refine pZ ?_;refine hK1 _ _ ?_;refine wp_seq_k fun K2 hK2=>?_;refine wp_seq_k fun K3 hK3=>?_;refine wp_region_lit ?_;refine pY ha (yMove rfl) fun a ha=>?_;refine pY ha (yLenS Tryz.runUnderlying52 rfl) fun a ha=>?_;refine pY ha (yMove rfl) fun a ha=>?_;refine pZ ?_;refine hK3 _ _ ?_;refine wp_block ?_;refine loopI (ι:=Nat × Int) (fun i a w=>i.1≤xs.length∧(0≤i.2∧i.2≤1099511627776)∧baseC (xs.drop i.1) i.2 = baseC xs 0∧Has a 26 [(2,.int .i64 i.2),(5,.slice A xs.length c),(6,.int .i64 xs.length),(7,.int .i64 i.1)]∧Sep W w (.rd kComp (.slice A xs.length c) xs::cs)) (fun i=>xs.length - i.1) ((0,0)) ?_ ?_
  · exact ⟨Nat.zero_le _,by decide,rfl,has4 ha rfl rfl rfl rfl,hs⟩
  · rintro i a w ⟨h1,h2,h3,ha,hs⟩;obtain ⟨i,m⟩:=i; simp only at h1 h2 h3 ha hs;refine wp_seq_k fun K4 hK4=>?_;refine wp_region_lit ?_;refine pY ha (yLss rfl rfl) fun a ha=>?_;refine pZ ?_;refine hK4 _ _ ?_;refine wp_seq_k fun K5 hK5=>?_;refine cDec ha rfl (fun hc8=>?_) (fun hc8=>?_)
    · obtain ⟨x,hx⟩ : ∃ x,xs[i]? = some x:=⟨_,List.getElem?_eq_getElem (by omega)⟩
      have hsx:=hsz x (List.mem_of_getElem? hx)
      unfold i64C at hsx;obtain ⟨b0,off,rfl,hs⟩:=hs.rd_comp .here hx;refine wp_skip ?_;refine hK5 _ _ ?_;refine wp_seq_k fun K6 hK6=>?_;refine wp_block ?_;refine wp_seq_k fun K7 hK7=>?_;refine wp_region_lit ?_;refine pY ha (yIndexA Tryz.runUnderlying52 Tryz.sizeOf98 rfl rfl (by omega) (by omega)) fun a ha=>?_;refine pY ha (yLoadRA Tryz.isAgg98 Tryz.sizeOf98 hs rfl pk0 rfl) fun a ha=>?_;refine pAlloc (zs:=[.int .i64 0,.int .i64 0,.string ⟨#[]⟩]) ha Tryz.zeroValue98 rfl hs rfl fun b w hs a ha=>?_;refine pStoreA ha Tryz.sizeOf98 hs rfl rfl pk0 rfl rfl rfl fun w hs=>?_;refine pZ ?_;refine hK7 _ _ ?_;refine wp_seq_k fun K8 hK8=>?_;refine wp_region_lit ?_;refine pY ha (yFieldA Tryz.runUnderlying98 rfl Tryz.sizeOf3 rfl rfl) fun a ha=>?_;refine pY ha (yLoadB Tryz.isAgg3 hs rfl pk0 rfl) fun a ha=>?_;refine pY ha (yEql rfl rfl) fun a ha=>?_;refine pY ha (yMove rfl) fun a ha=>?_;refine gDec (t:=14) ha rfl (fun hg3 hp3=>?_) (fun hg3 hp3=>?_)
      · rw [hg3] at ha;refine gOn ha ?_;refine pY ha (yFieldA Tryz.runUnderlying98 rfl Tryz.sizeOf3 rfl rfl) fun a ha=>?_;refine gOn ha ?_;refine pY ha (yLoadB Tryz.isAgg3 hs rfl pk0 rfl) fun a ha=>?_;refine gOn ha ?_;refine pY ha (yEql rfl rfl) fun a ha=>?_;refine pY ha (yPickF rfl rfl) fun a ha=>?_;refine pZ ?_;refine hK8 _ _ ?_;refine cDec ha rfl (fun hc18=>?_) (fun hc18=>?_)
        · refine wp_region_lit ?_;refine pY ha (yMove rfl) fun a ha=>?_;refine pY ha (yFieldA Tryz.runUnderlying98 rfl Tryz.sizeOf3 rfl rfl) fun a ha=>?_;refine pY ha (yLoadB Tryz.isAgg3 hs rfl pk0 rfl) fun a ha=>?_;refine pY ha (yMax2 rfl rfl) fun a ha=>?_;refine pC ha (nCall Tryz.call118 rfl) rfl (Add_c m (if (0 : Int) > x.n then 0 else x.n) h2 (by split <;> omega) hs) ?_;rintro v w ⟨rfl,hs⟩ a ha;refine pY ha (yAssign rfl) fun a ha=>?_;refine pZ ?_;refine hK6 _ _ ?_;refine wp_region_lit ?_;refine pY ha (yAddN rfl rfl ⟨by omega,by omega⟩) fun a ha=>?_;refine pY ha (yMove rfl) fun a ha=>?_;refine pZ ?_;rw [baseC_at hx] at h3
          have hm:=maxE x.n
          have hao:=addC_ok h2 (x:=max x.n 0) (by omega)
          (rw [if_pos (by omega)] at h3; exact ⟨(i + 1,addC m (max x.n 0)),⟨by simp only; omega,hao,h3,has4 ha (by rw [← hm]; rfl) rfl rfl rfl,hs.drop.drop⟩,by simp only; omega⟩)
        · refine wp_skip ?_;refine hK6 _ _ ?_;refine wp_region_lit ?_;refine pY ha (yAddN rfl rfl ⟨by omega,by omega⟩) fun a ha=>?_;refine pY ha (yMove rfl) fun a ha=>?_;refine pZ ?_;rw [baseC_at hx] at h3
          have hm:=maxE x.n
          have hao:=addC_ok h2 (x:=max x.n 0) (by omega)
          (rw [if_neg (by have:=of_decide_eq_false hg3; omega)] at h3; exact ⟨(i + 1,m),⟨by simp only; omega,h2,h3,has4 ha rfl rfl rfl rfl,hs.drop.drop⟩,by simp only; omega⟩)
      · rw [hg3] at ha;refine gOff ha fun a ha=>?_;refine gOff ha fun a ha=>?_;refine gOff ha fun a ha=>?_;refine pY ha (yPickT rfl rfl) fun a ha=>?_;refine pZ ?_;refine hK8 _ _ ?_;refine cTrue ha rfl ?_;refine wp_region_lit ?_;refine pY ha (yMove rfl) fun a ha=>?_;refine pY ha (yFieldA Tryz.runUnderlying98 rfl Tryz.sizeOf3 rfl rfl) fun a ha=>?_;refine pY ha (yLoadB Tryz.isAgg3 hs rfl pk0 rfl) fun a ha=>?_;refine pY ha (yMax2 rfl rfl) fun a ha=>?_;refine pC ha (nCall Tryz.call118 rfl) rfl (Add_c m (if (0 : Int) > x.n then 0 else x.n) h2 (by split <;> omega) hs) ?_;rintro v w ⟨rfl,hs⟩ a ha;refine pY ha (yAssign rfl) fun a ha=>?_;refine pZ ?_;refine hK6 _ _ ?_;refine wp_region_lit ?_;refine pY ha (yAddN rfl rfl ⟨by omega,by omega⟩) fun a ha=>?_;refine pY ha (yMove rfl) fun a ha=>?_;refine pZ ?_;rw [baseC_at hx] at h3
        have hm:=maxE x.n
        have hao:=addC_ok h2 (x:=max x.n 0) (by omega)
        (rw [if_pos (by (have:=of_decide_eq_true hg3; omega))] at h3; exact ⟨(i + 1,addC m (max x.n 0)),⟨by simp only; omega,hao,h3,has4 ha (by rw [← hm]; rfl) rfl rfl rfl,hs.drop.drop⟩,by simp only; omega⟩)
    · refine wp_exit ?_;refine hK2 _ _ ?_;refine wp_seq_k fun K9 hK9=>?_;refine wp_region_lit ?_;refine pY ha (yMove rfl) fun a ha=>?_;refine pY ha (yAssign rfl) fun a ha=>?_;refine pZ ?_;refine hK9 _ _ ?_;refine wp_ret ?_;show bodyPost Tryz.prog Tryz.f109 _ .ret _ _;refine ret1 rfl ha rfl ?_;rw [List.drop_eq_nil_of_le (by omega)] at h3; exact ⟨congrArg (Value.int .i64) h3,hs.drop⟩
theorem Out_c {A : Option Addr} {n c : Nat} {xs : List Comp} (hsz : ∀ x ∈ xs,i64C x∧x.text.size≤1000000000∧(x.kind = 2→okText x.text.data.toList = true)) (hs : Sep W w cs) (hk : Pick cs (.rd kComp (.slice A n c) xs) r) :
    Calls P 110 #[.slice A n c] w (Rt fun v w'=>v = .int .i64 (outC xs 0)∧Sep W w' cs):=by
  obtain ⟨rfl,hl⟩:=hs.rd_shape hk;unfold maxLen at hl;have hs:=hs.cpR hk;refine enter Tryz.func110 Tryz.ntmps110 rfl rfl fun a (ha : Has a 29 [(0,_)])=>?_;refine wp_seq_k fun K1 hK1=>?_;refine wp_region_lit ?_;refine pY ha (yAssign rfl) fun a ha=>?_;refine pZ ?_;refine hK1 _ _ ?_;refine wp_seq_k fun K2 hK2=>?_;refine wp_seq_k fun K3 hK3=>?_;refine wp_region_lit ?_;refine pY ha (yMove rfl) fun a ha=>?_;refine pY ha (yLenS Tryz.runUnderlying52 rfl) fun a ha=>?_;refine pY ha (yMove rfl) fun a ha=>?_;refine pZ ?_;refine hK3 _ _ ?_;refine wp_block ?_;refine loopI (ι:=Nat × Int) (fun i a w=>i.1≤xs.length∧(0≤i.2∧i.2≤1099511627776)∧outC (xs.drop i.1) i.2 = outC xs 0∧Has a 29 [(2,.int .i64 i.2),(5,.slice A xs.length c),(6,.int .i64 xs.length),(7,.int .i64 i.1)]∧Sep W w (.rd kComp (.slice A xs.length c) xs::cs)) (fun i=>xs.length - i.1) ((0,0)) ?_ ?_
  · exact ⟨Nat.zero_le _,by decide,rfl,has4 ha rfl rfl rfl rfl,hs⟩
  · rintro i a w ⟨h1,h2,h3,ha,hs⟩;obtain ⟨i,m⟩:=i; simp only at h1 h2 h3 ha hs;refine wp_seq_k fun K4 hK4=>?_;refine wp_region_lit ?_;refine pY ha (yLss rfl rfl) fun a ha=>?_;refine pZ ?_;refine hK4 _ _ ?_;refine wp_seq_k fun K5 hK5=>?_;refine cDec ha rfl (fun hc8=>?_) (fun hc8=>?_)
    · obtain ⟨x,hx⟩ : ∃ x,xs[i]? = some x:=⟨_,List.getElem?_eq_getElem (by omega)⟩;obtain ⟨hsx,hsx2,hsx3⟩:=hsz x (List.mem_of_getElem? hx);unfold i64C at hsx
      have hcl:=cnt_le x.text.data.toList
      have hlen : x.text.data.toList.length = x.text.size:=by simp
      obtain ⟨b0,off,rfl,hs⟩:=hs.rd_comp .here hx;refine wp_skip ?_;refine hK5 _ _ ?_;refine wp_seq_k fun K6 hK6=>?_;refine wp_block ?_;refine wp_seq_k fun K7 hK7=>?_;refine wp_region_lit ?_;refine pY ha (yIndexA Tryz.runUnderlying52 Tryz.sizeOf98 rfl rfl (by omega) (by omega)) fun a ha=>?_;refine pY ha (yLoadRA Tryz.isAgg98 Tryz.sizeOf98 hs rfl pk0 rfl) fun a ha=>?_;refine pAlloc (zs:=[.int .i64 0,.int .i64 0,.string ⟨#[]⟩]) ha Tryz.zeroValue98 rfl hs rfl fun b w hs a ha=>?_;refine pStoreA ha Tryz.sizeOf98 hs rfl rfl pk0 rfl rfl rfl fun w hs=>?_;refine pZ ?_;refine hK7 _ _ ?_;refine wp_seq_k fun K8 hK8=>?_;refine wp_region_lit ?_;refine pY ha (yFieldA Tryz.runUnderlying98 rfl Tryz.sizeOf3 rfl rfl) fun a ha=>?_;refine pY ha (yLoadB Tryz.isAgg3 hs rfl pk0 rfl) fun a ha=>?_;refine pZ ?_;refine hK8 _ _ ?_;refine wp_block ?_;refine wp_seq_k fun K9 hK9=>?_;refine wp_region_lit ?_;refine pY ha (yEql rfl rfl) fun a ha=>?_;refine pY ha (yAssign rfl) fun a ha=>?_;refine pZ ?_;refine hK9 _ _ ?_;refine cDec ha rfl (fun hc13=>?_) (fun hc13=>?_)
      · refine wp_region_lit ?_;refine pY ha (yMove rfl) fun a ha=>?_;refine pY ha (yFieldA Tryz.runUnderlying98 rfl Tryz.sizeOf3 rfl rfl) fun a ha=>?_;refine pY ha (yLoadB Tryz.isAgg3 hs rfl pk0 rfl) fun a ha=>?_;refine pY ha (yMax2 rfl rfl) fun a ha=>?_;refine pC ha (nCall Tryz.call118 rfl) rfl (Add_c m (if (0 : Int) > x.n then 0 else x.n) h2 (by split <;> omega) hs) ?_;rintro v w ⟨rfl,hs⟩ a ha;refine pY ha (yAssign rfl) fun a ha=>?_;refine pZ ?_;refine hK6 _ _ ?_;refine wp_region_lit ?_;refine pY ha (yAddN rfl rfl ⟨by omega,by omega⟩) fun a ha=>?_;refine pY ha (yMove rfl) fun a ha=>?_;refine pZ ?_;rw [outC_at hx] at h3
        have hm:=maxE x.n
        have hao:=addC_ok h2 (x:=max x.n 0) (by omega)
        have hao2:=addC_ok h2 (x:=(cnt x.text.data.toList : Int)) (by omega)
        (rw [if_pos hc13] at h3; exact ⟨(i + 1,addC m (max x.n 0)),⟨by simp only; omega,hao,h3,has4 ha (by rw [← hm]; rfl) rfl rfl rfl,hs.drop.drop⟩,by simp only; omega⟩)
      · refine wp_seq_k fun K10 hK10=>?_;refine wp_region_lit ?_;refine pY ha (yEql rfl rfl) fun a ha=>?_;refine pY ha (yAssign rfl) fun a ha=>?_;refine pZ ?_;refine hK10 _ _ ?_;refine cDec ha rfl (fun hc20=>?_) (fun hc20=>?_)
        · refine wp_region_lit ?_;refine pY ha (yMove rfl) fun a ha=>?_;refine pY ha (yFieldA Tryz.runUnderlying98 rfl Tryz.sizeOf9 rfl rfl) fun a ha=>?_;refine pY ha (yLoadB Tryz.isAgg9 hs rfl pk0 rfl) fun a ha=>?_;refine pC ha (nCall Tryz.call94 rfl) rfl (RuneCount_c x.text (hsx3 hc20) (by omega) hs) ?_;rintro v w ⟨rfl,hs⟩ a ha;refine pC ha (nCall Tryz.call118 rfl) rfl (Add_c m (cnt x.text.data.toList) h2 (by omega) hs) ?_;rintro v w ⟨rfl,hs⟩ a ha;refine pY ha (yAssign rfl) fun a ha=>?_;refine pZ ?_;refine hK6 _ _ ?_;refine wp_region_lit ?_;refine pY ha (yAddN rfl rfl ⟨by omega,by omega⟩) fun a ha=>?_;refine pY ha (yMove rfl) fun a ha=>?_;refine pZ ?_;rw [outC_at hx] at h3
          have hm:=maxE x.n
          have hao:=addC_ok h2 (x:=max x.n 0) (by omega)
          have hao2:=addC_ok h2 (x:=(cnt x.text.data.toList : Int)) (by omega)
          (rw [if_neg hc13,if_pos hc20] at h3; exact ⟨(i + 1,addC m (cnt x.text.data.toList)),⟨by simp only; omega,hao2,h3,has4 ha rfl rfl rfl rfl,hs.drop.drop⟩,by simp only; omega⟩)
        · refine wp_skip ?_;refine hK6 _ _ ?_;refine wp_region_lit ?_;refine pY ha (yAddN rfl rfl ⟨by omega,by omega⟩) fun a ha=>?_;refine pY ha (yMove rfl) fun a ha=>?_;refine pZ ?_;rw [outC_at hx] at h3
          have hm:=maxE x.n
          have hao:=addC_ok h2 (x:=max x.n 0) (by omega)
          have hao2:=addC_ok h2 (x:=(cnt x.text.data.toList : Int)) (by omega)
          (rw [if_neg hc13,if_neg hc20] at h3; exact ⟨(i + 1,m),⟨by simp only; omega,h2,h3,has4 ha rfl rfl rfl rfl,hs.drop.drop⟩,by simp only; omega⟩)
    · refine wp_exit ?_;refine hK2 _ _ ?_;refine wp_seq_k fun K11 hK11=>?_;refine wp_region_lit ?_;refine pY ha (yMove rfl) fun a ha=>?_;refine pY ha (yAssign rfl) fun a ha=>?_;refine pZ ?_;refine hK11 _ _ ?_;refine wp_ret ?_;show bodyPost Tryz.prog Tryz.f110 _ .ret _ _;refine ret1 rfl ha rfl ?_;rw [List.drop_eq_nil_of_le (by omega)] at h3; exact ⟨congrArg (Value.int .i64) h3,hs.drop⟩
/-- A part as the machine holds it. -/
def mC (x : Comp) : Prop:=x.n≤9223372036854775807∧x.text.size≤1000000000
theorem OpCheck_c (hT : Tabs W) {A : Option Addr} {n c : Nat} {xs : List Comp} (hsz : ∀ x ∈ xs,mC x) (hs : Sep W w cs) (hk : Pick cs (.rd kComp (.slice A n c) xs) r) :
    Calls P 92 #[.slice A n c] w (Rt fun v w'=>v = .int .i64 (opE xs)∧Sep W w' cs):=by
  obtain ⟨rfl,hl⟩:=hs.rd_shape hk;unfold maxLen at hl;refine enter Tryz.func92 Tryz.ntmps92 rfl rfl fun a (ha : Has a 20 [(0,_)])=>?_;refine wp_seq_k fun K1 hK1=>?_;refine wp_region_lit ?_;refine pY ha (yAssign rfl) fun a ha=>?_;refine pZ ?_;refine hK1 _ _ ?_;refine wp_seq_k fun K2 hK2=>?_;refine wp_block ?_;refine wp_seq_k fun K3 hK3=>?_;refine wp_region_lit ?_;refine pY ha (yMove rfl) fun a ha=>?_;refine pY ha (yLenS Tryz.runUnderlying52 rfl) fun a ha=>?_;refine pY ha (yGtr rfl rfl) fun a ha=>?_;refine pY ha (yAssign rfl) fun a ha=>?_;refine pZ ?_;refine hK3 _ _ ?_;refine cDec ha rfl (fun hc3=>?_) (fun hc3=>?_)
  · refine wp_seq_k fun K4 hK4=>?_;refine wp_region_lit ?_;refine pY ha (yAssign rfl) fun a ha=>?_;refine pZ ?_;refine hK4 _ _ ?_;refine wp_ret ?_;show bodyPost Tryz.prog Tryz.f92 _ .ret _ _;refine ret1 rfl ha rfl ?_;refine ⟨congrArg (Value.int .i64) ?_,hs⟩;unfold opE
    (rw [if_pos (by omega)])
  · refine wp_seq_k fun K5 hK5=>?_;refine wp_region_lit ?_;refine pY ha (yMove rfl) fun a ha=>?_;refine pC ha (nCall Tryz.call108 rfl) rfl (Normal_c hT (xs:=xs) (fun x hx=>by have:=(hsz x hx).2; omega) hs hk) ?_;rintro v w ⟨rfl,hs⟩ a ha;refine pY ha (yNot rfl) fun a ha=>?_;refine pY ha (yAssign rfl) fun a ha=>?_;refine pZ ?_;refine hK5 _ _ ?_;refine cSplit ha rfl (fun hc7=>?_) (fun hc7=>?_)
    · refine wp_seq_k fun K6 hK6=>?_;refine wp_region_lit ?_;refine pY ha (yAssign rfl) fun a ha=>?_;refine pZ ?_;refine hK6 _ _ ?_;refine wp_ret ?_;show bodyPost Tryz.prog Tryz.f92 _ .ret _ _;refine ret1 rfl ha rfl ?_;refine ⟨congrArg (Value.int .i64) ?_,hs⟩;unfold opE
      (rw [if_neg (by omega),if_pos (by simpa using hc7)])
    · have hn : normC xs = true:=by simpa using hc7
      have hO : ∀ x ∈ xs,i64C x∧x.text.size≤1000000000∧(x.kind = 2→okText x.text.data.toList = true):=fun x hx=>by
        obtain ⟨i,hi,rfl⟩:=List.mem_iff_getElem.1 hx
        have hg:=allN_iff.1 hn i hi
        unfold goodC at hg;rw [Bool.and_eq_true,List.getD_eq_getElem?_getD,List.getElem?_eq_getElem hi,Option.getD_some] at hg;refine ⟨(hsz _ hx).1,(hsz _ hx).2,fun hk=>?_⟩
        rcases snd_ok hg.1 with ⟨_,e⟩ | ⟨e,_⟩
        · exact e
        · exact absurd hk e
      refine wp_seq_k fun K7 hK7=>?_;refine wp_region_lit ?_;refine pY ha (yMove rfl) fun a ha=>?_;refine pC ha (nCall Tryz.call109 rfl) rfl (Base_c (xs:=xs) (fun x hx=>(hsz x hx).1) hs hk) ?_;rintro v w ⟨rfl,hs⟩ a ha;refine pY ha (yGtr rfl rfl) fun a ha=>?_;refine pY ha (yMove rfl) fun a ha=>?_;refine gDec (t:=15) ha rfl (fun hg3 hp3=>?_) (fun hg3 hp3=>?_)
      · rw [hg3] at ha
        have hp3:=of_decide_eq_false hg3
        refine gOn ha ?_;refine pY ha (yMove rfl) fun a ha=>?_;refine gOn ha ?_;refine pC ha (nCall Tryz.call110 rfl) rfl (Out_c (xs:=xs) hO hs hk) ?_;rintro v w ⟨rfl,hs⟩ a ha;refine gOn ha ?_;refine pY ha (yGtr rfl rfl) fun a ha=>?_;refine pY ha (yPickF rfl rfl) fun a ha=>?_;refine pY ha (yAssign rfl) fun a ha=>?_;refine pZ ?_;refine hK7 _ _ ?_;refine cDec ha rfl (fun hc11=>?_) (fun hc11=>?_)
        · refine wp_seq_k fun K8 hK8=>?_;refine wp_region_lit ?_;refine pY ha (yAssign rfl) fun a ha=>?_;refine pZ ?_;refine hK8 _ _ ?_;refine wp_ret ?_;show bodyPost Tryz.prog Tryz.f92 _ .ret _ _;refine ret1 rfl ha rfl ?_;refine ⟨congrArg (Value.int .i64) ?_,hs⟩;unfold opE
          (rw [if_neg (by omega),if_neg (by rw [hn]; decide),if_pos (by omega)])
        · refine wp_skip ?_;refine hK2 _ _ ?_;refine wp_seq_k fun K9 hK9=>?_;refine wp_region_lit ?_;refine pY ha (yAssign rfl) fun a ha=>?_;refine pZ ?_;refine hK9 _ _ ?_;refine wp_ret ?_;show bodyPost Tryz.prog Tryz.f92 _ .ret _ _;refine ret1 rfl ha rfl ?_;refine ⟨congrArg (Value.int .i64) ?_,hs⟩;unfold opE
          (rw [if_neg (by omega),if_neg (by rw [hn]; decide),if_neg (by omega)])
      · rw [hg3] at ha
        have hp3:=of_decide_eq_true hg3
        refine gOff ha fun a ha=>?_;refine gOff ha fun a ha=>?_;refine gOff ha fun a ha=>?_;refine pY ha (yPickT rfl rfl) fun a ha=>?_;refine pY ha (yAssign rfl) fun a ha=>?_;refine pZ ?_;refine hK7 _ _ ?_;refine cTrue ha rfl ?_;refine wp_seq_k fun K10 hK10=>?_;refine wp_region_lit ?_;refine pY ha (yAssign rfl) fun a ha=>?_;refine pZ ?_;refine hK10 _ _ ?_;refine wp_ret ?_;show bodyPost Tryz.prog Tryz.f92 _ .ret _ _;refine ret1 rfl ha rfl ?_;refine ⟨congrArg (Value.int .i64) ?_,hs⟩;unfold opE
        (rw [if_neg (by omega),if_neg (by rw [hn]; decide),if_pos (by omega)])
end
end Go.Proofs.YtldgdjilchnceaaGreatDoor

set_option linter.unusedVariables false
set_option linter.unusedSimpArgs false
namespace Go.Proofs.YtldgdjilchnceaaGreatDoor
open Go.RowKit Go.Lib
/-- An act as the machine holds it. -/
def mA (x : Actn) : Prop:=x.name.size≤1000000000∧x.ops.length≤1000000000∧∀ c ∈ x.ops,mC c
def bad1 (x : Actn) : Prop:=x.kind < 1∨x.kind > 4∨x ≠ plainA x∨x.id < 1∨x.id > 1099511627776
instance (a : Actn) : Decidable (bad1 a):=by unfold bad1; infer_instance
theorem bad_iff (x : Actn) : badA x ↔ bad1 x∨x.parent < 0∨x.parent > 1099511627776∨((x.kind = 1∨x.kind = 3)∧nameOk x.name = false):=by
  unfold badA bad1;simp only [or_assoc]
section
variable {W w : World} {cs r r2 : List Ch}
theorem Names_c {A : Option Addr} {n c : Nat} {x : Actn} (hs : Sep W w cs) :
    Calls P 90 #[.agg [.int .i64 x.kind,.int .i64 x.id,.int .i64 x.parent,.string x.name,.bool x.dir,.slice A n c].toArray] w (Rt fun v w'=>v = .bool (decide (x.kind = 1∨x.kind = 3))∧Sep W w' cs):=by
  refine enter Tryz.func90 Tryz.ntmps90 rfl rfl fun a (ha : Has a 11 [(0,_)])=>?_;refine wp_seq_k fun K1 hK1=>?_;refine wp_region_lit ?_;refine pBox (es:=_) ha rfl rfl hs rfl fun b w hs a ha=>?_;refine pY ha (yAssign rfl) fun a ha=>?_;refine pZ ?_;refine hK1 _ _ ?_;refine wp_seq_k fun K2 hK2=>?_;refine wp_region_lit ?_;refine pY ha (yFieldA Tryz.runUnderlying54 rfl Tryz.sizeOf3 rfl rfl) fun a ha=>?_;refine pY ha (yLoadB Tryz.isAgg3 hs rfl pk0 rfl) fun a ha=>?_;refine pY ha (yEql rfl rfl) fun a ha=>?_;refine pY ha (yMove rfl) fun a ha=>?_;refine gDec (t:=6) ha rfl (fun hg3 hp3=>?_) (fun hg3 hp3=>?_)
  · rw [hg3] at ha;refine gOn ha ?_;refine pY ha (yFieldA Tryz.runUnderlying54 rfl Tryz.sizeOf3 rfl rfl) fun a ha=>?_;refine gOn ha ?_;refine pY ha (yLoadB Tryz.isAgg3 hs rfl pk0 rfl) fun a ha=>?_;refine gOn ha ?_;refine pY ha (yEql rfl rfl) fun a ha=>?_;refine pY ha (yPickF rfl rfl) fun a ha=>?_;refine pY ha (yAssign rfl) fun a ha=>?_;refine pZ ?_;refine hK2 _ _ ?_;refine wp_ret ?_;show bodyPost Tryz.prog Tryz.f90 _ .ret _ _;refine ret1 rfl ha rfl ?_;refine ⟨congrArg Value.bool ?_,hs.drop⟩;exact decide_eq_decide.2 ⟨.inr,fun h=>h.resolve_left (of_decide_eq_false hg3)⟩
  · rw [hg3] at ha;refine gOff ha fun a ha=>?_;refine gOff ha fun a ha=>?_;refine gOff ha fun a ha=>?_;refine pY ha (yPickT rfl rfl) fun a ha=>?_;refine pY ha (yAssign rfl) fun a ha=>?_;refine pZ ?_;refine hK2 _ _ ?_;refine wp_ret ?_;show bodyPost Tryz.prog Tryz.f90 _ .ret _ _;refine ret1 rfl ha rfl ?_;refine ⟨congrArg Value.bool ?_,hs.drop⟩;exact (decide_eq_true (.inl (of_decide_eq_true hg3))).symm
theorem One_c (hT : Tabs W) {A : Option Addr} {n c : Nat} {x : Actn} (hm : mA x) (hs : Sep W w cs) (hk : Pick cs (.rd kComp (.slice A n c) x.ops) r) :
    Calls P 70 #[.agg [.int .i64 x.kind,.int .i64 x.id,.int .i64 x.parent,.string x.name,.bool x.dir,.slice A n c].toArray] w (Rt fun v w'=>v = .int .i64 (oneE x)∧Sep W w' cs):=by
  obtain ⟨hm1,hm2,hm3⟩:=hm;refine enter Tryz.func70 Tryz.ntmps70 rfl rfl fun a (ha : Has a 58 [(0,_)])=>?_;refine wp_seq_k fun K1 hK1=>?_;refine wp_region_lit ?_;refine pBox (es:=_) ha rfl rfl hs rfl fun b1 w hs a ha=>?_;refine pY ha (yAssign rfl) fun a ha=>?_;refine pZ ?_;refine hK1 _ _ ?_;refine wp_seq_k fun K2 hK2=>?_;refine cutC (fun a w=>Has a 58 [(3,.bool (decide (bad1 x))),(1,.pointer (some ⟨b1,0,none⟩))]∧Sep W w (.blk b1 54 [.int .i64 x.kind,.int .i64 x.id,.int .i64 x.parent,.string x.name,.bool x.dir,.slice A n c]::cs)) ?_ ?_
  · refine dStart (fun w=>∃ rs,Sep W w (.blk b1 54 [.int .i64 x.kind,.int .i64 x.id,.int .i64 x.parent,.string x.name,.bool x.dir,.slice A n c]::rs)) [] 67108863 67108863 (by kernel_rfl) (by kernel_rfl) rfl (⟨_,hs.drew.pick pk0⟩) ?_
    have hs:=Sep.drew hs
    generalize World.drew _ = w at hs ⊢;refine dP 0 1 rfl ha (fun _=>yFieldA Tryz.runUnderlying54 rfl Tryz.sizeOf3 rfl rfl) fun a ha=>?_;refine dT 1 3 rfl ha (fun _ ⟨rs,hs⟩=>yLoadB Tryz.isAgg3 hs rfl pk0 rfl) (⟨_,hs.pick pk0⟩) fun a ha=>?_;refine dP 2 7 rfl ha (fun _=>yLss rfl rfl) fun a ha=>?_;refine dP 3 15 rfl ha (fun _=>yMove rfl) fun a ha=>?_;refine gDec (t:=7) ha rfl (fun hg3 hp3=>?_) (fun hg3 hp3=>?_)
    · rw [hg3] at ha;refine dP 4 31 rfl ha (fun _=>yFieldA Tryz.runUnderlying54 rfl Tryz.sizeOf3 rfl rfl) fun a ha=>?_;refine dT 5 63 rfl ha (fun _ ⟨rs,hs⟩=>yLoadB Tryz.isAgg3 hs rfl pk0 rfl) (⟨_,hs.pick pk0⟩) fun a ha=>?_;refine dP 6 127 rfl ha (fun _=>yGtr rfl rfl) fun a ha=>?_;refine dP 7 255 rfl ha (fun _=>yPickF rfl rfl) fun a ha=>?_;refine dP 8 511 rfl ha (fun _=>yMove rfl) fun a ha=>?_;refine gSplit (t:=12) ha rfl (fun hg8=>?_) (fun hg8=>?_)
      · rw [hg8] at ha
        have hp8:=of_decide_eq_false hg8
        refine dT 9 1023 rfl ha (fun _ ⟨rs,hs⟩=>yLoadBA Tryz.isAgg54 Tryz.sizeOf54 hs rfl pk0 rfl) (⟨_,hs.pick pk0⟩) fun a ha=>?_;refine dT 10 2047 rfl ha (fun _ ⟨rs,hs⟩=>yLoadBA Tryz.isAgg54 Tryz.sizeOf54 hs rfl pk0 rfl) (⟨_,hs.pick pk0⟩) fun a ha=>?_;refine dC 11 4095 rfl (by kernel_rfl) rfl ha (won1 rfl rfl rfl) (nCall Tryz.call89 rfl) rfl (PlainA_c (x:=x) hs (.there hk) hm2) ?_;rintro v w ⟨A2,c2,rfl,hs⟩;refine ⟨⟨_,hs.pick pk1⟩,fun a ha=>?_⟩;refine dC 12 8191 rfl (by kernel_rfl) rfl ha (won1 rfl rfl rfl) (nCall Tryz.call88 rfl) rfl (SameA_c (x:=x) (y:=plainA x) hs (.there (.there hk)) .here) ?_;rintro v w ⟨rfl,hs⟩;refine ⟨⟨_,hs.pick pk1⟩,fun a ha=>?_⟩;refine dP 13 16383 rfl ha (fun _=>yNot rfl) fun a ha=>?_;refine dP 14 32767 rfl ha (fun _=>yPickF rfl rfl) fun a ha=>?_;refine dP 15 65535 rfl ha (fun _=>yMove rfl) fun a ha=>?_;refine gSplit (t:=19) ha rfl (fun hg15=>?_) (fun hg15=>?_)
        · rw [hg15] at ha
          have hp15 : x = plainA x:=by simpa using hg15
          refine dP 16 131071 rfl ha (fun _=>yFieldA Tryz.runUnderlying54 rfl Tryz.sizeOf3 rfl rfl) fun a ha=>?_;refine dT 17 262143 rfl ha (fun _ ⟨rs,hs⟩=>yLoadB Tryz.isAgg3 hs rfl pk0 rfl) (⟨_,hs.pick pk1⟩) fun a ha=>?_;refine dP 18 524287 rfl ha (fun _=>yLss rfl rfl) fun a ha=>?_;refine dP 19 1048575 rfl ha (fun _=>yPickF rfl rfl) fun a ha=>?_;refine dP 20 2097151 rfl ha (fun _=>yMove rfl) fun a ha=>?_;refine gSplit (t:=24) ha rfl (fun hg20=>?_) (fun hg20=>?_)
          · rw [hg20] at ha
            have hp20:=of_decide_eq_false hg20
            refine dP 21 4194303 rfl ha (fun _=>yFieldA Tryz.runUnderlying54 rfl Tryz.sizeOf3 rfl rfl) fun a ha=>?_;refine dT 22 8388607 rfl ha (fun _ ⟨rs,hs⟩=>yLoadB Tryz.isAgg3 hs rfl pk0 rfl) (⟨_,hs.pick pk1⟩) fun a ha=>?_;refine dP 23 16777215 rfl ha (fun _=>yGtr rfl rfl) fun a ha=>?_;refine dP 24 33554431 rfl ha (fun _=>yPickF rfl rfl) fun a ha=>?_;refine dP 25 67108863 rfl ha (fun _=>yAssign rfl) fun a ha=>?_;refine dZ (by kernel_rfl) ?_;refine ⟨rfl,?_⟩;exact ⟨has2 ha (bT ⟨fun h=>.inr (.inr (.inr (.inr h))),fun h=>(((h.resolve_left hp3).resolve_left hp8).resolve_left (fun q=>q hp15)).resolve_left hp20⟩) rfl,hs.drop⟩
          · rw [hg20] at ha
            have hp20:=of_decide_eq_true hg20
            refine dOff 21 4194303 rfl ha fun a ha=>?_;refine dOff 22 8388607 rfl ha fun a ha=>?_;refine dOff 23 16777215 rfl ha fun a ha=>?_;refine dP 24 33554431 rfl ha (fun _=>yPickT rfl rfl) fun a ha=>?_;refine dP 25 67108863 rfl ha (fun _=>yAssign rfl) fun a ha=>?_;refine dZ (by kernel_rfl) ?_;refine ⟨rfl,?_⟩;exact ⟨has2 ha (bY (.inr (.inr (.inr (.inl hp20))))) rfl,hs.drop⟩
        · rw [hg15] at ha
          have hp15 : x ≠ plainA x:=by simpa using hg15
          refine dOff 16 131071 rfl ha fun a ha=>?_;refine dOff 17 262143 rfl ha fun a ha=>?_;refine dOff 18 524287 rfl ha fun a ha=>?_;refine dP 19 1048575 rfl ha (fun _=>yPickT rfl rfl) fun a ha=>?_;refine dP 20 2097151 rfl ha (fun _=>yMove rfl) fun a ha=>?_;refine dOff 21 4194303 rfl ha fun a ha=>?_;refine dOff 22 8388607 rfl ha fun a ha=>?_;refine dOff 23 16777215 rfl ha fun a ha=>?_;refine dP 24 33554431 rfl ha (fun _=>yPickT rfl rfl) fun a ha=>?_;refine dP 25 67108863 rfl ha (fun _=>yAssign rfl) fun a ha=>?_;refine dZ (by kernel_rfl) ?_;refine ⟨rfl,?_⟩;exact ⟨has2 ha (bY (.inr (.inr (.inl hp15)))) rfl,hs.drop⟩
      · rw [hg8] at ha
        have hp8:=of_decide_eq_true hg8
        refine dOff 9 1023 rfl ha fun a ha=>?_;refine dOff 10 2047 rfl ha fun a ha=>?_;refine dOff 11 4095 rfl ha fun a ha=>?_;refine dOff 12 8191 rfl ha fun a ha=>?_;refine dOff 13 16383 rfl ha fun a ha=>?_;refine dP 14 32767 rfl ha (fun _=>yPickT rfl rfl) fun a ha=>?_;refine dP 15 65535 rfl ha (fun _=>yMove rfl) fun a ha=>?_;refine dOff 16 131071 rfl ha fun a ha=>?_;refine dOff 17 262143 rfl ha fun a ha=>?_;refine dOff 18 524287 rfl ha fun a ha=>?_;refine dP 19 1048575 rfl ha (fun _=>yPickT rfl rfl) fun a ha=>?_;refine dP 20 2097151 rfl ha (fun _=>yMove rfl) fun a ha=>?_;refine dOff 21 4194303 rfl ha fun a ha=>?_;refine dOff 22 8388607 rfl ha fun a ha=>?_;refine dOff 23 16777215 rfl ha fun a ha=>?_;refine dP 24 33554431 rfl ha (fun _=>yPickT rfl rfl) fun a ha=>?_;refine dP 25 67108863 rfl ha (fun _=>yAssign rfl) fun a ha=>?_;refine dZ (by kernel_rfl) ?_;refine ⟨rfl,?_⟩;exact ⟨has2 ha (bY (.inr (.inl hp8))) rfl,hs⟩
    · rw [hg3] at ha;refine dOff 4 31 rfl ha fun a ha=>?_;refine dOff 5 63 rfl ha fun a ha=>?_;refine dOff 6 127 rfl ha fun a ha=>?_;refine dP 7 255 rfl ha (fun _=>yPickT rfl rfl) fun a ha=>?_;refine dP 8 511 rfl ha (fun _=>yMove rfl) fun a ha=>?_;refine dOff 9 1023 rfl ha fun a ha=>?_;refine dOff 10 2047 rfl ha fun a ha=>?_;refine dOff 11 4095 rfl ha fun a ha=>?_;refine dOff 12 8191 rfl ha fun a ha=>?_;refine dOff 13 16383 rfl ha fun a ha=>?_;refine dP 14 32767 rfl ha (fun _=>yPickT rfl rfl) fun a ha=>?_;refine dP 15 65535 rfl ha (fun _=>yMove rfl) fun a ha=>?_;refine dOff 16 131071 rfl ha fun a ha=>?_;refine dOff 17 262143 rfl ha fun a ha=>?_;refine dOff 18 524287 rfl ha fun a ha=>?_;refine dP 19 1048575 rfl ha (fun _=>yPickT rfl rfl) fun a ha=>?_;refine dP 20 2097151 rfl ha (fun _=>yMove rfl) fun a ha=>?_;refine dOff 21 4194303 rfl ha fun a ha=>?_;refine dOff 22 8388607 rfl ha fun a ha=>?_;refine dOff 23 16777215 rfl ha fun a ha=>?_;refine dP 24 33554431 rfl ha (fun _=>yPickT rfl rfl) fun a ha=>?_;refine dP 25 67108863 rfl ha (fun _=>yAssign rfl) fun a ha=>?_;refine dZ (by kernel_rfl) ?_;refine ⟨rfl,?_⟩;exact ⟨has2 ha (bY (.inl hp3)) rfl,hs⟩
  rintro a w ⟨ha,hs⟩;refine hK2 _ _ ?_;refine wp_seq_k fun K3 hK3=>?_;refine wp_block ?_;refine wp_seq_k fun K4 hK4=>?_;refine cutC (fun a w=>Has a 58 [(29,.bool (decide (badA x))),(1,.pointer (some ⟨b1,0,none⟩))]∧Sep W w (.blk b1 54 [.int .i64 x.kind,.int .i64 x.id,.int .i64 x.parent,.string x.name,.bool x.dir,.slice A n c]::cs)) ?_ ?_
  · refine wp_region_lit ?_;refine pY ha (yMove rfl) fun a ha=>?_;refine pY ha (yMove rfl) fun a ha=>?_;refine gSplit (t:=31) ha rfl (fun hg1=>?_) (fun hg1=>?_)
    · rw [hg1] at ha
      have hp1:=of_decide_eq_false hg1
      refine gOn ha ?_;refine pY ha (yFieldA Tryz.runUnderlying54 rfl Tryz.sizeOf3 rfl rfl) fun a ha=>?_;refine gOn ha ?_;refine pY ha (yLoadB Tryz.isAgg3 hs rfl pk0 rfl) fun a ha=>?_;refine gOn ha ?_;refine pY ha (yLss rfl rfl) fun a ha=>?_;refine pY ha (yPickF rfl rfl) fun a ha=>?_;refine pY ha (yMove rfl) fun a ha=>?_;refine gSplit (t:=36) ha rfl (fun hg6=>?_) (fun hg6=>?_)
      · rw [hg6] at ha
        have hp6:=of_decide_eq_false hg6
        refine gOn ha ?_;refine pY ha (yFieldA Tryz.runUnderlying54 rfl Tryz.sizeOf3 rfl rfl) fun a ha=>?_;refine gOn ha ?_;refine pY ha (yLoadB Tryz.isAgg3 hs rfl pk0 rfl) fun a ha=>?_;refine gOn ha ?_;refine pY ha (yGtr rfl rfl) fun a ha=>?_;refine pY ha (yPickF rfl rfl) fun a ha=>?_;refine pY ha (yMove rfl) fun a ha=>?_;refine gSplit (t:=41) ha rfl (fun hg11=>?_) (fun hg11=>?_)
        · rw [hg11] at ha
          have hp11:=of_decide_eq_false hg11
          refine gOn ha ?_;refine pY ha (yLoadBA Tryz.isAgg54 Tryz.sizeOf54 hs rfl pk0 rfl) fun a ha=>?_;refine gOn ha ?_;refine pC ha (nCall Tryz.call90 rfl) rfl (Names_c (x:=x) hs) ?_;rintro v w ⟨rfl,hs⟩ a ha;refine gOn ha ?_;refine pY ha (yMove rfl) fun a ha=>?_;refine gSplit (t:=44) ha rfl (fun hg14=>?_) (fun hg14=>?_)
          · rw [hg14] at ha
            have hp14:=of_decide_eq_false hg14
            refine gOff ha fun a ha=>?_;refine gOff ha fun a ha=>?_;refine gOff ha fun a ha=>?_;refine gOff ha fun a ha=>?_;refine gOn ha ?_;refine pY ha (yPickF rfl rfl) fun a ha=>?_;refine pY ha (yPickF rfl rfl) fun a ha=>?_;refine pY ha (yAssign rfl) fun a ha=>?_;refine pZ ⟨rfl,?_⟩;exact ⟨has2 ha (bF (fun h=>hp14 (((((bad_iff x).1 h).resolve_left hp1).resolve_left hp6).resolve_left hp11).1)) rfl,hs⟩
          · rw [hg14] at ha
            have hp14:=of_decide_eq_true hg14
            refine gOn ha ?_;refine pY ha (yFieldA Tryz.runUnderlying54 rfl Tryz.sizeOf9 rfl rfl) fun a ha=>?_;refine gOn ha ?_;refine pY ha (yLoadB Tryz.isAgg9 hs rfl pk0 rfl) fun a ha=>?_;refine gOn ha ?_;refine pC ha (nCall Tryz.call91 rfl) rfl (Name_c x.name hm1 hs) ?_;rintro v w ⟨rfl,hs⟩ a ha;refine gOn ha ?_;refine pY ha (yNot rfl) fun a ha=>?_;refine gOn ha ?_;refine pY ha (yPickT rfl rfl) fun a ha=>?_;refine pY ha (yPickF rfl rfl) fun a ha=>?_;refine pY ha (yAssign rfl) fun a ha=>?_;refine pZ ⟨rfl,?_⟩;exact ⟨has2 ha (bN ⟨fun h=>(bad_iff x).2 (.inr (.inr (.inr ⟨hp14,by simpa using h⟩))),fun h=>by have:=(((bad_iff x).1 h).resolve_left hp1 |>.resolve_left hp6).resolve_left hp11; rw [this.2]; rfl⟩) rfl,hs⟩
        · rw [hg11] at ha
          have hp11:=of_decide_eq_true hg11
          refine gOff ha fun a ha=>?_;refine gOff ha fun a ha=>?_;refine gOff ha fun a ha=>?_;refine gOffU ha fun a ha=>?_;refine gOffU ha fun a ha=>?_;refine gOffU ha fun a ha=>?_;refine gOffU ha fun a ha=>?_;refine gOff ha fun a ha=>?_;refine pY ha (yPickT rfl rfl) fun a ha=>?_;refine pY ha (yAssign rfl) fun a ha=>?_;refine pZ ⟨rfl,?_⟩;exact ⟨has2 ha (bY ((bad_iff x).2 (.inr (.inr (.inl hp11))))) rfl,hs⟩
      · rw [hg6] at ha
        have hp6:=of_decide_eq_true hg6
        refine gOff ha fun a ha=>?_;refine gOff ha fun a ha=>?_;refine gOff ha fun a ha=>?_;refine pY ha (yPickT rfl rfl) fun a ha=>?_;refine pY ha (yMove rfl) fun a ha=>?_;refine gOff ha fun a ha=>?_;refine gOff ha fun a ha=>?_;refine gOff ha fun a ha=>?_;refine gOffU ha fun a ha=>?_;refine gOffU ha fun a ha=>?_;refine gOffU ha fun a ha=>?_;refine gOffU ha fun a ha=>?_;refine gOff ha fun a ha=>?_;refine pY ha (yPickT rfl rfl) fun a ha=>?_;refine pY ha (yAssign rfl) fun a ha=>?_;refine pZ ⟨rfl,?_⟩;exact ⟨has2 ha (bY ((bad_iff x).2 (.inr (.inl hp6)))) rfl,hs⟩
    · rw [hg1] at ha
      have hp1:=of_decide_eq_true hg1
      refine gOff ha fun a ha=>?_;refine gOff ha fun a ha=>?_;refine gOff ha fun a ha=>?_;refine pY ha (yPickT rfl rfl) fun a ha=>?_;refine pY ha (yMove rfl) fun a ha=>?_;refine gOff ha fun a ha=>?_;refine gOff ha fun a ha=>?_;refine gOff ha fun a ha=>?_;refine pY ha (yPickT rfl rfl) fun a ha=>?_;refine pY ha (yMove rfl) fun a ha=>?_;refine gOff ha fun a ha=>?_;refine gOff ha fun a ha=>?_;refine gOff ha fun a ha=>?_;refine gOffU ha fun a ha=>?_;refine gOffU ha fun a ha=>?_;refine gOffU ha fun a ha=>?_;refine gOffU ha fun a ha=>?_;refine gOff ha fun a ha=>?_;refine pY ha (yPickT rfl rfl) fun a ha=>?_;refine pY ha (yAssign rfl) fun a ha=>?_;refine pZ ⟨rfl,?_⟩;exact ⟨has2 ha (bY ((bad_iff x).2 (.inl hp1))) rfl,hs⟩
  rintro a w ⟨ha,hs⟩;refine hK4 _ _ ?_;refine cDec ha rfl (fun hc29=>?_) (fun hc29=>?_)
  · refine wp_seq_k fun K5 hK5=>?_;refine wp_region_lit ?_;refine pY ha (yAssign rfl) fun a ha=>?_;refine pZ ?_;refine hK5 _ _ ?_;refine wp_ret ?_;show bodyPost Tryz.prog Tryz.f70 _ .ret _ _;refine ret1 rfl ha rfl ?_;refine ⟨congrArg (Value.int .i64) ?_,hs.drop⟩;unfold oneE
    (rw [if_pos hc29])
  · refine wp_seq_k fun K6 hK6=>?_;refine wp_region_lit ?_;refine pY ha (yFieldA Tryz.runUnderlying54 rfl Tryz.sizeOf3 rfl rfl) fun a ha=>?_;refine pY ha (yLoadB Tryz.isAgg3 hs rfl pk0 rfl) fun a ha=>?_;refine pY ha (yEql rfl rfl) fun a ha=>?_;refine pY ha (yAssign rfl) fun a ha=>?_;refine pZ ?_;refine hK6 _ _ ?_;refine cDec ha rfl (fun hc51=>?_) (fun hc51=>?_)
    · refine wp_seq_k fun K7 hK7=>?_;refine wp_region_lit ?_;refine pY ha (yFieldA Tryz.runUnderlying54 rfl Tryz.sizeOf52 rfl rfl) fun a ha=>?_;refine pY ha (yLoadB Tryz.isAgg52 hs rfl pk0 rfl) fun a ha=>?_;refine pC ha (nCall Tryz.call92 rfl) rfl (OpCheck_c hT (xs:=x.ops) hm3 hs (.there hk)) ?_;rintro v w ⟨rfl,hs⟩ a ha;refine pY ha (yAssign rfl) fun a ha=>?_;refine pZ ?_;refine hK7 _ _ ?_;refine wp_ret ?_;show bodyPost Tryz.prog Tryz.f70 _ .ret _ _;refine ret1 rfl ha rfl ?_;refine ⟨congrArg (Value.int .i64) ?_,hs.drop⟩;unfold oneE
      (rw [if_neg hc29,if_pos hc51])
    · refine wp_skip ?_;refine hK3 _ _ ?_;refine wp_seq_k fun K8 hK8=>?_;refine wp_region_lit ?_;refine pY ha (yAssign rfl) fun a ha=>?_;refine pZ ?_;refine hK8 _ _ ?_;refine wp_ret ?_;show bodyPost Tryz.prog Tryz.f70 _ .ret _ _;refine ret1 rfl ha rfl ?_;refine ⟨congrArg (Value.int .i64) ?_,hs.drop⟩;unfold oneE
      (rw [if_neg hc29,if_neg hc51])
theorem TwinF_c {A A2 : Option Addr} {n n2 c c2 ba : Nat} {x a : Actn} (hs : Sep W w cs) (hk : Pick cs (.blk ba 54 [.int .i64 a.kind,.int .i64 a.id,.int .i64 a.parent,.string a.name,.bool a.dir,.slice A2 n2 c2]) r) :
    Calls P 72 #[.agg [.int .i64 x.kind,.int .i64 x.id,.int .i64 x.parent,.string x.name,.bool x.dir,.slice A n c].toArray,.pointer (some ⟨ba,0,none⟩)] w (Rt fun v w'=>v = .bool (decide (x.kind = 4∧x.id = a.id))∧Sep W w' cs):=by
  have hs:=hs.pick hk
  have hk2:=hk
  refine enter Tryz.func72 Tryz.ntmps72 rfl rfl fun a (ha : Has a 14 [(0,_),(1,_)])=>?_;refine wp_seq_k fun K1 hK1=>?_;refine wp_region_lit ?_;refine pBox (es:=_) ha rfl rfl hs rfl fun b w hs a ha=>?_;refine pY ha (yAssign rfl) fun a ha=>?_;refine pZ ?_;refine hK1 _ _ ?_;refine wp_seq_k fun K2 hK2=>?_;refine wp_region_lit ?_;refine pY ha (yFieldA Tryz.runUnderlying54 rfl Tryz.sizeOf3 rfl rfl) fun a ha=>?_;refine pY ha (yLoadB Tryz.isAgg3 hs rfl pk0 rfl) fun a ha=>?_;refine pY ha (yEql rfl rfl) fun a ha=>?_;refine pY ha (yMove rfl) fun a ha=>?_;refine gDec (t:=7) ha rfl (fun hg3 hp3=>?_) (fun hg3 hp3=>?_)
  · rw [hg3] at ha;refine gOff ha fun a ha=>?_;refine gOff ha fun a ha=>?_;refine gOff ha fun a ha=>?_;refine gOff ha fun a ha=>?_;refine gOff ha fun a ha=>?_;refine pY ha (yPickF rfl rfl) fun a ha=>?_;refine pY ha (yAssign rfl) fun a ha=>?_;refine pZ ?_;refine hK2 _ _ ?_;refine wp_ret ?_;show bodyPost Tryz.prog Tryz.f72 _ .ret _ _;refine ret1 rfl ha rfl ?_;refine ⟨congrArg Value.bool ?_,hs.drop.unpick hk2⟩;exact (decide_eq_false (fun h=>of_decide_eq_false hg3 h.1)).symm
  · rw [hg3] at ha;refine gOn ha ?_;refine pY ha (yFieldA Tryz.runUnderlying54 rfl Tryz.sizeOf3 rfl rfl) fun a ha=>?_;refine gOn ha ?_;refine pY ha (yLoadB Tryz.isAgg3 hs rfl pk0 rfl) fun a ha=>?_;refine gOn ha ?_;refine pY ha (yFieldA Tryz.runUnderlying54 rfl Tryz.sizeOf3 rfl rfl) fun a ha=>?_;refine gOn ha ?_;refine pY ha (yLoadB Tryz.isAgg3 hs rfl pk1 rfl) fun a ha=>?_;refine gOn ha ?_;refine pY ha (yEql rfl rfl) fun a ha=>?_;refine pY ha (yPickT rfl rfl) fun a ha=>?_;refine pY ha (yAssign rfl) fun a ha=>?_;refine pZ ?_;refine hK2 _ _ ?_;refine wp_ret ?_;show bodyPost Tryz.prog Tryz.f72 _ .ret _ _;refine ret1 rfl ha rfl ?_;refine ⟨congrArg Value.bool ?_,hs.drop.unpick hk2⟩;exact decide_eq_decide.2 ⟨fun h=>⟨of_decide_eq_true hg3,h⟩,fun h=>h.2⟩
theorem any_at {α : Type} {f : α→Bool} {xs : List α} {i : Nat} {x : α} (h : (xs.take i).any f = false) (hx : xs[i]? = some x) (hf : f x = false) : (xs.take (i + 1)).any f = false:=by
  rw [List.take_add_one,hx]; simp only [Option.toList,List.any_append,h,List.any_cons,hf,List.any_nil,Bool.or_self]
theorem any_yes {α : Type} {f : α→Bool} {xs : List α} {i : Nat} {x : α} (hx : xs[i]? = some x) (hf : f x = true) : xs.any f = true:=List.any_eq_true.2 ⟨x,List.mem_of_getElem? hx,hf⟩
theorem IndexA_c {A A2 : Option Addr} {n n2 c c2 ba : Nat} {xs : List Actn} {a0 : Actn} (hs : Sep W w cs) (hk : Pick cs (.rd kActn (.slice A n c) xs) r) (hk2 : Pick cs (.blk ba 54 [.int .i64 a0.kind,.int .i64 a0.id,.int .i64 a0.parent,.string a0.name,.bool a0.dir,.slice A2 n2 c2]) r2) :
    Calls P 93 #[.slice A n c,.func (.func 72) #[] #[.pointer (some ⟨ba,0,none⟩)]] w (Rt fun v w'=>∃ k : Int,v = .int .i64 k∧(0≤k ↔ twinA xs a0 = true)∧Sep W w' cs):=by
  obtain ⟨rfl,hl⟩:=hs.rd_shape hk;unfold maxLen at hl;have hs:=hs.cpR hk
  have hk3:=hk2
  refine enter Tryz.func93 Tryz.ntmps93 rfl rfl fun a (ha : Has a 19 [(0,_),(1,_)])=>?_;refine wp_seq_k fun K1 hK1=>?_;refine wp_region_lit ?_;refine pY ha (yAssign rfl) fun a ha=>?_;refine pZ ?_;refine hK1 _ _ ?_;refine wp_seq_k fun K2 hK2=>?_;refine wp_seq_k fun K3 hK3=>?_;refine wp_region_lit ?_;refine pY ha (yMove rfl) fun a ha=>?_;refine pY ha (yLenS Tryz.runUnderlying27 rfl) fun a ha=>?_;refine pY ha (yMove rfl) fun a ha=>?_;refine pZ ?_;refine hK3 _ _ ?_;refine wp_block ?_;refine loopI (ι:=Nat) (fun i a w=>i≤xs.length∧twinA (xs.take i) a0 = false∧Has a 19 [(0,.slice A xs.length c),(1,.func (.func 72) #[] #[.pointer (some ⟨ba,0,none⟩)]),(7,.int .i64 xs.length),(8,.int .i64 i)]∧Sep W w (.rd kActn (.slice A xs.length c) xs::cs)) (fun i=>xs.length - i) (0) ?_ ?_
  · exact ⟨Nat.zero_le _,rfl,has4 ha rfl rfl rfl rfl,hs⟩
  · rintro i a w ⟨h1,h2,ha,hs⟩;refine wp_seq_k fun K4 hK4=>?_;refine wp_region_lit ?_;refine pY ha (yLss rfl rfl) fun a ha=>?_;refine pZ ?_;refine hK4 _ _ ?_;refine wp_seq_k fun K5 hK5=>?_;refine cDec ha rfl (fun hc9=>?_) (fun hc9=>?_)
    · obtain ⟨x,hx⟩ : ∃ x,xs[i]? = some x:=⟨_,List.getElem?_eq_getElem (by omega)⟩;obtain ⟨b0,off,A',n',c',rfl,hs⟩:=hs.rd_actn .here hx;refine wp_skip ?_;refine hK5 _ _ ?_;refine wp_seq_k fun K6 hK6=>?_;refine wp_block ?_;refine wp_seq_k fun K7 hK7=>?_;refine wp_region_lit ?_;refine pY ha (yMove rfl) fun a ha=>?_;refine pY ha (yAssign rfl) fun a ha=>?_;refine pZ ?_;refine hK7 _ _ ?_;refine wp_seq_k fun K8 hK8=>?_;refine wp_region_lit ?_;refine pY ha (yMove rfl) fun a ha=>?_;refine pY ha (yMove rfl) fun a ha=>?_;refine pY ha (yMove rfl) fun a ha=>?_;refine pY ha (yIndexA Tryz.runUnderlying27 Tryz.sizeOf54 rfl rfl (by omega) (by omega)) fun a ha=>?_;refine pY ha (yLoadRA Tryz.isAgg54 Tryz.sizeOf54 hs rfl pk0 rfl) fun a ha=>?_;refine pC ha (nCallV (cl:=[.pointer (some ⟨ba,0,none⟩)]) Tryz.call72 rfl rfl rfl) rfl (TwinF_c (x:=x) (a:=a0) hs (.there (.there (.there hk3)))) ?_;rintro v w ⟨rfl,hs⟩ a ha;refine pZ ?_;refine hK8 _ _ ?_;refine cDec ha rfl (fun hc16=>?_) (fun hc16=>?_)
      · refine wp_seq_k fun K9 hK9=>?_;refine wp_region_lit ?_;refine pY ha (yMove rfl) fun a ha=>?_;refine pY ha (yAssign rfl) fun a ha=>?_;refine pZ ?_;refine hK9 _ _ ?_;refine wp_ret ?_;show bodyPost Tryz.prog Tryz.f93 _ .ret _ _;refine ret1 rfl ha rfl ?_;exact ⟨i,rfl,⟨fun _=>any_yes hx (decide_eq_true hc16),fun _=>by omega⟩,hs.drop.drop.drop⟩
      · refine wp_skip ?_;refine hK6 _ _ ?_;refine wp_region_lit ?_;refine pY ha (yAddN rfl rfl ⟨by omega,by omega⟩) fun a ha=>?_;refine pY ha (yMove rfl) fun a ha=>?_;refine pZ ?_;exact ⟨i + 1,⟨by omega,any_at h2 hx (decide_eq_false hc16),has4 ha rfl rfl rfl rfl,hs.drop.drop⟩,by omega⟩
    · refine wp_exit ?_;refine hK2 _ _ ?_;refine wp_seq_k fun K10 hK10=>?_;refine wp_region_lit ?_;refine pY ha (yAssign rfl) fun a ha=>?_;refine pZ ?_;refine hK10 _ _ ?_;refine wp_ret ?_;show bodyPost Tryz.prog Tryz.f93 _ .ret _ _;refine ret1 rfl ha rfl ?_;rw [List.take_of_length_le (by omega)] at h2; exact ⟨-1,rfl,⟨fun h=>absurd h (by decide),fun h=>by rw [h2] at h; cases h⟩,hs.drop⟩
theorem ContainsA_c {A A2 : Option Addr} {n n2 c c2 ba : Nat} {xs : List Actn} {a0 : Actn} (hs : Sep W w cs) (hk : Pick cs (.rd kActn (.slice A n c) xs) r) (hk2 : Pick cs (.blk ba 54 [.int .i64 a0.kind,.int .i64 a0.id,.int .i64 a0.parent,.string a0.name,.bool a0.dir,.slice A2 n2 c2]) r2) :
    Calls P 71 #[.slice A n c,.func (.func 72) #[] #[.pointer (some ⟨ba,0,none⟩)]] w (Rt fun v w'=>v = .bool (twinA xs a0)∧Sep W w' cs):=by
  refine enter Tryz.func71 Tryz.ntmps71 rfl rfl fun a (ha : Has a 9 [(0,_),(1,_)])=>?_;refine wp_seq_k fun K1 hK1=>?_;refine wp_region_lit ?_;refine pY ha (yAssign rfl) fun a ha=>?_;refine pZ ?_;refine hK1 _ _ ?_;refine wp_seq_k fun K2 hK2=>?_;refine wp_region_lit ?_;refine pY ha (yMove rfl) fun a ha=>?_;refine pY ha (yMove rfl) fun a ha=>?_;refine pC ha (nCall Tryz.call93 rfl) rfl (IndexA_c (a0:=a0) hs hk hk2) ?_;rintro v w ⟨k,rfl,hkk,hs⟩ a ha;refine pY ha (yGeq rfl rfl) fun a ha=>?_;refine pY ha (yAssign rfl) fun a ha=>?_;refine pZ ?_;refine hK2 _ _ ?_;refine wp_ret ?_;show bodyPost Tryz.prog Tryz.f71 _ .ret _ _;refine ret1 rfl ha rfl ?_;refine ⟨congrArg Value.bool ?_,hs⟩;rw [Bool.eq_iff_iff,decide_eq_true_eq]; exact hkk
theorem putsC_append (a b : List Comp) : putsC (a++b) = putsC a + putsC b:=by
  induction a with
  | nil=>simp [putsC]
  | cons x r ih=>simp only [List.cons_append,putsC,ih]; omega
theorem putsA_append (a b : List Actn) : putsA (a++b) = putsA a + putsA b:=by
  induction a with
  | nil=>simp [putsA]
  | cons x r ih=>simp only [List.cons_append,putsA,ih]; omega
theorem putsC_le {B : Nat} : ∀ (l : List Comp),(∀ c ∈ l,c.text.size≤B)→putsC l≤l.length * B
  | [],_=>by simp [putsC]
  | c::r,h=>by
    have h1:=putsC_le r (fun x hx=>h x (by simp [hx]))
    have h2:=h c (by simp)
    have h3:=cnt_le c.text.data.toList
    have h4 : c.text.data.toList.length = c.text.size:=by simp
    simp only [putsC,List.length_cons,Nat.add_mul,Nat.one_mul]
    split <;> omega
theorem putsA_le {B : Nat} : ∀ (l : List Actn),(∀ a ∈ l,putsC a.ops≤B)→putsA l≤l.length * B
  | [],_=>by simp [putsA]
  | a::r,h=>by
    have h1:=putsA_le r (fun x hx=>h x (by simp [hx]))
    have h2:=h a (by simp)
    simp only [putsA,List.length_cons,Nat.add_mul,Nat.one_mul]
    omega
/-- Acts whose texts may be, and not too many. -/
def fitA (x : Actn) : Prop:=x.ops.length≤100∧∀ c ∈ x.ops,c.text.size≤1000000000∧(c.kind = 2→okText c.text.data.toList = true)
theorem Puts_c {A : Option Addr} {n c : Nat} {xs : List Actn} (hn : xs.length≤20) (hf : ∀ x ∈ xs,fitA x) (hs : Sep W w cs) (hk : Pick cs (.rd kActn (.slice A n c) xs) r) :
    Calls P 73 #[.slice A n c] w (Rt fun v w'=>v = .int .i64 (putsA xs)∧Sep W w' cs):=by
  obtain ⟨rfl,hl⟩:=hs.rd_shape hk;unfold maxLen at hl;have hs:=hs.cpR hk
  have hB : ∀ x ∈ xs,putsC x.ops≤100000000000:=fun x hx=>by
    obtain ⟨g1,g2⟩:=hf x hx
    have:=putsC_le (B:=1000000000) x.ops (fun c hc=>(g2 c hc).1)
    have : x.ops.length * 1000000000≤100 * 1000000000:=Nat.mul_le_mul_right _ g1
    omega
  refine enter Tryz.func73 Tryz.ntmps73 rfl rfl fun a (ha : Has a 31 [(0,_)])=>?_;refine wp_seq_k fun K1 hK1=>?_;refine wp_region_lit ?_;refine pY ha (yAssign rfl) fun a ha=>?_;refine pZ ?_;refine hK1 _ _ ?_;refine wp_seq_k fun K2 hK2=>?_;refine wp_seq_k fun K3 hK3=>?_;refine wp_region_lit ?_;refine pY ha (yMove rfl) fun a ha=>?_;refine pY ha (yLenS Tryz.runUnderlying27 rfl) fun a ha=>?_;refine pY ha (yMove rfl) fun a ha=>?_;refine pZ ?_;refine hK3 _ _ ?_;refine wp_block ?_;refine loopI (ι:=Nat) (fun i a w=>i≤xs.length∧Has a 31 [(2,.int .i64 (putsA (xs.take i))),(7,.slice A xs.length c),(8,.int .i64 xs.length),(9,.int .i64 i)]∧Sep W w (.rd kActn (.slice A xs.length c) xs::cs)) (fun i=>xs.length - i) (0) ?_ ?_
  · exact ⟨Nat.zero_le _,has4 ha rfl rfl rfl rfl,hs⟩
  · rintro i a w ⟨h1,ha,hs⟩;refine wp_seq_k fun K4 hK4=>?_;refine wp_region_lit ?_;refine pY ha (yLss rfl rfl) fun a ha=>?_;refine pZ ?_;refine hK4 _ _ ?_;refine wp_seq_k fun K5 hK5=>?_;refine cDec ha rfl (fun hc10=>?_) (fun hc10=>?_)
    · obtain ⟨x,hx⟩ : ∃ x,xs[i]? = some x:=⟨_,List.getElem?_eq_getElem (by omega)⟩;obtain ⟨hx1,hx2⟩:=hf x (List.mem_of_getElem? hx)
      have hp1:=putsA_le (B:=100000000000) (xs.take i) (fun y hy=>hB y (List.mem_of_mem_take hy))
      rw [List.length_take,Nat.min_eq_left (by omega)] at hp1;obtain ⟨b0,off,A',n',c',rfl,hs⟩:=hs.rd_actn .here hx;obtain ⟨rfl,hl2⟩:=hs.rd_shape (.there .here);refine wp_skip ?_;refine hK5 _ _ ?_;refine wp_seq_k fun K6 hK6=>?_;refine wp_block ?_;refine wp_seq_k fun K7 hK7=>?_;refine wp_region_lit ?_;refine pY ha (yIndexA Tryz.runUnderlying27 Tryz.sizeOf54 rfl rfl (by omega) (by omega)) fun a ha=>?_;refine pY ha (yLoadRA Tryz.isAgg54 Tryz.sizeOf54 hs rfl pk0 rfl) fun a ha=>?_;refine pAlloc (zs:=[.int .i64 0,.int .i64 0,.int .i64 0,.string ⟨#[]⟩,.bool false,.slice none 0 0]) ha Tryz.zeroValue54 rfl hs rfl fun b w hs a ha=>?_;refine pStoreA ha Tryz.sizeOf54 hs rfl rfl pk0 rfl rfl rfl fun w hs=>?_;refine pZ ?_;refine hK7 _ _ ?_;refine wp_seq_k fun K8 hK8=>?_;refine wp_region_lit ?_;refine pY ha (yFieldA Tryz.runUnderlying54 rfl Tryz.sizeOf52 rfl rfl) fun a ha=>?_;refine pY ha (yLoadB Tryz.isAgg52 hs rfl pk0 rfl) fun a ha=>?_;refine pY ha (yLenS Tryz.runUnderlying52 rfl) fun a ha=>?_;refine pY ha (yMove rfl) fun a ha=>?_;refine pZ ?_;refine hK8 _ _ ?_;refine wp_block ?_;refine loopI (ι:=Nat) (fun j a w=>j≤x.ops.length∧Has a 31 [(2,.int .i64 ((putsA (xs.take i) + putsC (x.ops.take j) : Nat) : Int)),(7,.slice (some ⟨b0,off,none⟩) xs.length c),(8,.int .i64 xs.length),(9,.int .i64 i),(14,.slice A' x.ops.length c'),(15,.int .i64 x.ops.length),(16,.int .i64 j)]∧Sep W w (.rd kComp (.slice A' x.ops.length c') x.ops::.rd kActn (.slice (some ⟨b0,off,none⟩) xs.length c) xs::cs)) (fun j=>x.ops.length - j) (0) ?_ ?_
      · exact ⟨Nat.zero_le _,ha.cons (has6 ha rfl rfl rfl rfl rfl rfl) rfl,(hs.pick (.there (.there .here))).drop2.drop2⟩
      · rintro j a w ⟨g1,ha,hs⟩;refine wp_seq_k fun K9 hK9=>?_;refine wp_region_lit ?_;refine pY ha (yLss rfl rfl) fun a ha=>?_;refine pZ ?_;refine hK9 _ _ ?_;refine wp_seq_k fun K10 hK10=>?_;refine cDec ha rfl (fun hc17=>?_) (fun hc17=>?_)
        · obtain ⟨y,hy⟩ : ∃ y,x.ops[j]? = some y:=⟨_,List.getElem?_eq_getElem (by omega)⟩;obtain ⟨hy1,hy2⟩:=hx2 y (List.mem_of_getElem? hy)
          have hcl:=cnt_le y.text.data.toList
          have hlen : y.text.data.toList.length = y.text.size:=by simp
          have hp2:=putsC_le (B:=1000000000) (x.ops.take j) (fun z hz=>(hx2 z (List.mem_of_mem_take hz)).1)
          rw [List.length_take,Nat.min_eq_left (by omega)] at hp2;obtain ⟨b1,off1,rfl,hs⟩:=hs.rd_comp .here hy;refine wp_skip ?_;refine hK10 _ _ ?_;refine wp_seq_k fun K11 hK11=>?_;refine wp_block ?_;refine wp_seq_k fun K12 hK12=>?_;refine wp_region_lit ?_;refine pY ha (yIndexA Tryz.runUnderlying52 Tryz.sizeOf98 rfl rfl (by omega) (by omega)) fun a ha=>?_;refine pY ha (yLoadRA Tryz.isAgg98 Tryz.sizeOf98 hs rfl pk0 rfl) fun a ha=>?_;refine pAlloc (zs:=[.int .i64 0,.int .i64 0,.string ⟨#[]⟩]) ha Tryz.zeroValue98 rfl hs rfl fun b w hs a ha=>?_;refine pStoreA ha Tryz.sizeOf98 hs rfl rfl pk0 rfl rfl rfl fun w hs=>?_;refine pZ ?_;refine hK12 _ _ ?_;refine wp_seq_k fun K13 hK13=>?_;refine wp_region_lit ?_;refine pY ha (yFieldA Tryz.runUnderlying98 rfl Tryz.sizeOf3 rfl rfl) fun a ha=>?_;refine pY ha (yLoadB Tryz.isAgg3 hs rfl pk0 rfl) fun a ha=>?_;refine pY ha (yEql rfl rfl) fun a ha=>?_;refine pZ ?_;refine hK13 _ _ ?_;refine cDec ha rfl (fun hc22=>?_) (fun hc22=>?_)
          · refine wp_region_lit ?_;refine pY ha (yMove rfl) fun a ha=>?_;refine pY ha (yFieldA Tryz.runUnderlying98 rfl Tryz.sizeOf9 rfl rfl) fun a ha=>?_;refine pY ha (yLoadB Tryz.isAgg9 hs rfl pk0 rfl) fun a ha=>?_;refine pC ha (nCall Tryz.call94 rfl) rfl (RuneCount_c y.text (hy2 hc22) (by omega) hs) ?_;rintro v w ⟨rfl,hs⟩ a ha;refine pY ha (yAddN rfl rfl ⟨by omega,by omega⟩) fun a ha=>?_;refine pY ha (yAssign rfl) fun a ha=>?_;refine pZ ?_;refine hK11 _ _ ?_;refine wp_region_lit ?_;refine pY ha (yAddN rfl rfl ⟨by omega,by omega⟩) fun a ha=>?_;refine pY ha (yMove rfl) fun a ha=>?_;refine pZ ?_;refine ⟨j + 1,⟨by omega,?_,hs.drop.drop⟩,by omega⟩
            have e1 : putsC (x.ops.take (j + 1)) = putsC (x.ops.take j) + (if y.kind = 2 then cnt y.text.data.toList else 0):=by rw [List.take_add_one,hy,putsC_append]; simp [putsC]
            (rw [if_pos hc22] at e1; rw [e1,← Nat.add_assoc]; exact ha.cons (has6 ha rfl rfl rfl rfl rfl rfl) rfl)
          · refine wp_skip ?_;refine hK11 _ _ ?_;refine wp_region_lit ?_;refine pY ha (yAddN rfl rfl ⟨by omega,by omega⟩) fun a ha=>?_;refine pY ha (yMove rfl) fun a ha=>?_;refine pZ ?_;refine ⟨j + 1,⟨by omega,?_,hs.drop.drop⟩,by omega⟩
            have e1 : putsC (x.ops.take (j + 1)) = putsC (x.ops.take j) + (if y.kind = 2 then cnt y.text.data.toList else 0):=by rw [List.take_add_one,hy,putsC_append]; simp [putsC]
            (rw [if_neg hc22] at e1; rw [e1]; exact ha.cons (has6 ha rfl rfl rfl rfl rfl rfl) rfl)
        · refine wp_exit ?_;refine hK6 _ _ ?_;refine wp_region_lit ?_;refine pY ha (yAddN rfl rfl ⟨by omega,by omega⟩) fun a ha=>?_;refine pY ha (yMove rfl) fun a ha=>?_;refine pZ ?_;refine ⟨i + 1,⟨by omega,?_,hs.drop⟩,by omega⟩;rw [show x.ops.take j = x.ops from List.take_of_length_le (by omega)] at ha
          have e1 : putsA (xs.take (i + 1)) = putsA (xs.take i) + putsC x.ops:=by rw [List.take_add_one,hx,putsA_append]; simp [putsA]
          rw [e1];exact has4 ha rfl rfl rfl rfl
    · refine wp_exit ?_;refine hK2 _ _ ?_;refine wp_seq_k fun K14 hK14=>?_;refine wp_region_lit ?_;refine pY ha (yMove rfl) fun a ha=>?_;refine pY ha (yAssign rfl) fun a ha=>?_;refine pZ ?_;refine hK14 _ _ ?_;refine wp_ret ?_;show bodyPost Tryz.prog Tryz.f73 _ .ret _ _;refine ret1 rfl ha rfl ?_;rw [List.take_of_length_le (by omega)]; exact ⟨rfl,hs.drop⟩
end
end Go.Proofs.YtldgdjilchnceaaGreatDoor

