/- A part of the proof of WireTexts (part 2 of 4): the words and the walks. -/
import Derived.Test.YtnlhbkaieoogfaaGreatDoorKTxtA
import Derived.Shelf.Unicode.ValidAny
import Derived.Shelf.Strings.Search3
import Derived.Ground.NamesProg
import Derived.Test.YtnlhbkaieoogfaaGreatDoorProg
import Derived.Laws.StructEq
import Derived.WalkKit
import Derived.ProofKit
import Derived.OpenShut
import Derived.Laws.MakeOwn
set_option linter.unusedVariables false
set_option linter.unusedSimpArgs false
namespace Go.Proofs.YtnlhbkaieoogfaaGreatDoor
open Go.Lib
theorem dec_cont (n b0 b1 b2 b3 : Nat) (hn : 1≤n) (hg : ¬ ((decodeN n b0 b1 b2 b3).1 = 65533∧(decodeN n b0 b1 b2 b3).2 = 1)) :
    b0 / 64 ≠ 2∧((decodeN n b0 b1 b2 b3).2 = 1∨((decodeN n b0 b1 b2 b3).2 = 2∧b1 / 64 = 2)∨((decodeN n b0 b1 b2 b3).2 = 3∧b1 / 64 = 2∧b2 / 64 = 2)∨((decodeN n b0 b1 b2 b3).2 = 4∧b1 / 64 = 2∧b2 / 64 = 2∧b3 / 64 = 2)):=by
  revert hg
  unfold decodeN
  repeat' split
  all_goals intro hg; first | (exfalso; exact hg ⟨rfl,rfl⟩) | exact ⟨by omega,.inl rfl⟩ | exact ⟨by omega,.inr (.inl ⟨rfl,by omega⟩)⟩ | exact ⟨by omega,.inr (.inr (.inl ⟨rfl,by omega,by omega⟩))⟩ | exact ⟨by omega,.inr (.inr (.inr ⟨rfl,by omega,by omega,by omega⟩))⟩
theorem cnt_cons (b : UInt8) (l : List UInt8) : cnt (b::l) = cnt l + if b.toNat / 64 = 2 then 0 else 1:=by
  unfold cnt;rw [List.countP_cons]
  by_cases h : b.toNat / 64 = 2 <;> simp [h]
theorem cnt_append (a b : List UInt8) : cnt (a++b) = cnt a + cnt b:=by unfold cnt; exact List.countP_append
theorem cnt_nil : cnt [] = 0:=rfl
/-- A text's first code point. -/
theorem ok_step {l : List UInt8} (hl : l ≠ []) (h : okText l = true) : 1≤(decodeL l).2∧(decodeL l).2≤l.length∧(decodeL l).2≤4∧cnt (l.take (decodeL l).2) = 1∧okText (l.drop (decodeL l).2) = true∧pointL l = decodeL l∧(l.getD 0 0).toNat / 64 ≠ 2:=by
  unfold okText at h ⊢;rw [Bool.and_eq_true,validD_step l hl] at h;obtain ⟨h1,h2⟩:=h
  have hd : ¬ ((decodeL l).1 = 65533∧(decodeL l).2 = 1):=fun e=>by rw [if_pos e] at h1; cases h1
  rw [if_neg hd] at h1
  have hz : ¬ (l.getD 0 0).toNat = 0:=fun e=>by
    cases l with
    | nil=>exact hl rfl
    | cons b t=>
      have : b = 0:=u8_zero.1 (by simpa using e)
      subst this
      simp at h2
  have hp:=pointL_good (l:=l) (by simp only [not_or]; exact ⟨hz,hd⟩)
  have hw:=decodeL_width l
  have hpos:=List.length_pos_iff.2 hl
  have hN:=decodeL_N l
  have hle : (decodeL l).2≤l.length:=by rw [hN]; exact decodeN_width _ _ _ _ _ (by omega)
  have hd':=hd
  rw [hN] at hd'
  have hc:=dec_cont _ _ _ _ _ (by omega) hd'
  rw [← hN] at hc;obtain ⟨hb0,hc⟩:=hc;refine ⟨by omega,hle,by omega,?_,?_,hp,hb0⟩
  · generalize (decodeL l).2 = k at hc hle
    match l,hl with
    | [b0],_=>
      simp only [List.length_cons,List.length_nil] at hle;simp only [List.getD_cons_zero] at hb0
      rcases hc with rfl | ⟨rfl,_⟩ | ⟨rfl,_⟩ | ⟨rfl,_⟩
      · show cnt [b0] = 1; rw [cnt_cons,cnt_nil,if_neg hb0]
      all_goals omega
    | [b0,b1],_=>
      simp only [List.length_cons,List.length_nil] at hle;simp only [List.getD_cons_zero,List.getD_cons_succ] at hb0 hc
      rcases hc with rfl | ⟨rfl,g1⟩ | ⟨rfl,_⟩ | ⟨rfl,_⟩
      · show cnt [b0] = 1; rw [cnt_cons,cnt_nil,if_neg hb0]
      · show cnt [b0,b1] = 1; rw [cnt_cons,cnt_cons,cnt_nil,if_neg hb0,if_pos g1]
      all_goals omega
    | [b0,b1,b2],_=>
      simp only [List.length_cons,List.length_nil] at hle;simp only [List.getD_cons_zero,List.getD_cons_succ] at hb0 hc
      rcases hc with rfl | ⟨rfl,g1⟩ | ⟨rfl,g1,g2⟩ | ⟨rfl,_⟩
      · show cnt [b0] = 1; rw [cnt_cons,cnt_nil,if_neg hb0]
      · show cnt [b0,b1] = 1; rw [cnt_cons,cnt_cons,cnt_nil,if_neg hb0,if_pos g1]
      · show cnt [b0,b1,b2] = 1; rw [cnt_cons,cnt_cons,cnt_cons,cnt_nil,if_neg hb0,if_pos g1,if_pos g2]
      all_goals omega
    | b0::b1::b2::b3::t,_=>
      simp only [List.getD_cons_zero,List.getD_cons_succ] at hb0 hc
      rcases hc with rfl | ⟨rfl,g1⟩ | ⟨rfl,g1,g2⟩ | ⟨rfl,g1,g2,g3⟩
      · show cnt [b0] = 1; rw [cnt_cons,cnt_nil,if_neg hb0]
      · show cnt [b0,b1] = 1; rw [cnt_cons,cnt_cons,cnt_nil,if_neg hb0,if_pos g1]
      · show cnt [b0,b1,b2] = 1; rw [cnt_cons,cnt_cons,cnt_cons,cnt_nil,if_neg hb0,if_pos g1,if_pos g2]
      · show cnt [b0,b1,b2,b3] = 1; rw [cnt_cons,cnt_cons,cnt_cons,cnt_cons,cnt_nil,if_neg hb0,if_pos g1,if_pos g2,if_pos g3]
  · rw [h1,Bool.true_and]
    cases hc2 : (l.drop (decodeL l).2).contains 0 with
    | false=>rfl
    | true=>
      have : l.contains 0 = true:=by
        simp only [List.contains_iff_mem] at hc2 ⊢;exact List.mem_of_mem_drop hc2
      rw [this] at h2; cases h2
theorem cnt_split (l : List UInt8) (k : Nat) : cnt l = cnt (l.take k) + cnt (l.drop k):=by rw [← cnt_append,List.take_append_drop]
theorem cnt_step {l : List UInt8} (hl : l ≠ []) (h : okText l = true) : cnt l = 1 + cnt (l.drop (decodeL l).2):=by
  obtain ⟨_,_,_,h1,_⟩:=ok_step hl h;rw [cnt_split l (decodeL l).2,h1]
theorem cnt_four : ∀ (n : Nat) (l : List UInt8),l.length≤n→okText l = true→l.length≤4 * cnt l
  | 0,l,h,_=>by omega
  | n + 1,l,h,hok=>by
    by_cases hl : l = []
    · subst hl; simp
    · obtain ⟨h1,h2,h3,_,h5,_⟩:=ok_step hl hok
      have ih:=cnt_four n (l.drop (decodeL l).2) (by rw [List.length_drop]; omega) h5
      rw [List.length_drop] at ih;rw [cnt_step hl hok]
      omega
theorem cnt_le (l : List UInt8) : cnt l≤l.length:=List.countP_le_length
theorem points_cnt : ∀ (n : Nat) (l : List UInt8) (ps : List Nat),l.length≤n→okText l = true→pointsL n l = some ps→ps.length = cnt l
  | 0,l,ps,h,_,hp=>by
    obtain rfl : l = []:=List.eq_nil_of_length_eq_zero (by omega);simp only [pointsL,Option.some.injEq] at hp; subst hp; rfl
  | n + 1,l,ps,h,hok,hp=>by
    by_cases hl : l = []
    · subst hl; rw [points_nil] at hp; simp only [Option.some.injEq] at hp; subst hp; rfl
    · obtain ⟨h1,h2,_,_,h5,h6,_⟩:=ok_step hl hok;rw [points_step hl,h6,if_neg (by omega)] at hp;simp only [Option.map_eq_some_iff] at hp;obtain ⟨qs,hq,rfl⟩:=hp
      have:=points_cnt n _ qs (by rw [List.length_drop]; omega) h5 hq
      rw [cnt_step hl hok,← this]
      simp; omega
end Go.Proofs.YtnlhbkaieoogfaaGreatDoor

namespace Go.Proofs.YtnlhbkaieoogfaaGreatDoor
open Go.Shelf
def laysValid_ren : Go.Shelf.Ren:=⟨fun | 196=>119 | 259=>126 | n=>n,fun | 9=>9 | 4=>4 | 3=>3 | 5=>5 | 12=>12 | 119=>156 | 0=>0 | 46=>138 | 139=>159 | 138=>158 | 53=>162 | n=>n,fun | 3=>0 | 4=>1 | n=>n⟩
theorem laysValid : Go.Proofs.Lays.n196 Tryz.prog laysValid_ren := {
  mixed:=by kernel_rfl
  f196:=Tryz.func119.trans (congrArg some (by kernel_rfl))
  f259:=Tryz.func126.trans (congrArg some (by kernel_rfl))
  t0:=Tryz.underlying0
  a0:=Tryz.isAgg0
  z0:=Tryz.sizeOf0
  v0:=Tryz.zeroValue0
  t3:=Tryz.underlying3
  a3:=Tryz.isAgg3
  z3:=Tryz.sizeOf3
  v3:=Tryz.zeroValue3
  t4:=Tryz.underlying4
  a4:=Tryz.isAgg4
  z4:=Tryz.sizeOf4
  v4:=Tryz.zeroValue4
  t5:=Tryz.underlying5
  a5:=Tryz.isAgg5
  z5:=Tryz.sizeOf5
  v5:=Tryz.zeroValue5
  t9:=Tryz.underlying9
  a9:=Tryz.isAgg9
  z9:=Tryz.sizeOf9
  v9:=Tryz.zeroValue9
  t12:=Tryz.underlying12
  a12:=Tryz.isAgg12
  z12:=Tryz.sizeOf12
  v12:=Tryz.zeroValue12
  t46:=Tryz.underlying138
  a46:=Tryz.isAgg138
  z46:=Tryz.sizeOf138
  v46:=Tryz.zeroValue138
  t53:=Tryz.underlying162
  a53:=Tryz.isAgg162
  z53:=Tryz.sizeOf162
  v53:=Tryz.zeroValue162
  t119:=Tryz.underlying156
  a119:=Tryz.isAgg156
  z119:=Tryz.sizeOf156
  t138:=Tryz.underlying158
  a138:=Tryz.isAgg158
  z138:=Tryz.sizeOf158
  v138:=Tryz.zeroValue158
  t139:=Tryz.underlying159
  a139:=Tryz.isAgg159
  z139:=Tryz.sizeOf159
  v139:=Tryz.zeroValue159
  g3:=by kernel_rfl
  g4:=by kernel_rfl }
def laysContains_ren : Go.Shelf.Ren:=⟨fun | 144=>120 | 143=>127 | 219=>131 | 217=>132 | 225=>133 | 224=>134 | 267=>135 | 266=>136 | 314=>137 | n=>n,fun | 9=>9 | 4=>4 | 3=>3 | 5=>5 | 46=>138 | 146=>165 | 51=>164 | n=>n,fun | 1=>2 | n=>n⟩
theorem laysContains : Go.Proofs.Lays.n144 Tryz.prog laysContains_ren := {
  mixed:=by kernel_rfl
  f143:=Tryz.func127.trans (congrArg some (by kernel_rfl))
  f144:=Tryz.func120.trans (congrArg some (by kernel_rfl))
  f217:=Tryz.func132.trans (congrArg some (by kernel_rfl))
  f219:=Tryz.func131.trans (congrArg some (by kernel_rfl))
  f224:=Tryz.func134.trans (congrArg some (by kernel_rfl))
  f225:=Tryz.func133.trans (congrArg some (by kernel_rfl))
  f266:=Tryz.func136.trans (congrArg some (by kernel_rfl))
  f267:=Tryz.func135.trans (congrArg some (by kernel_rfl))
  f314:=Tryz.func137.trans (congrArg some (by kernel_rfl))
  t3:=Tryz.underlying3
  a3:=Tryz.isAgg3
  z3:=Tryz.sizeOf3
  v3:=Tryz.zeroValue3
  t4:=Tryz.underlying4
  a4:=Tryz.isAgg4
  z4:=Tryz.sizeOf4
  v4:=Tryz.zeroValue4
  t5:=Tryz.underlying5
  a5:=Tryz.isAgg5
  z5:=Tryz.sizeOf5
  v5:=Tryz.zeroValue5
  t9:=Tryz.underlying9
  a9:=Tryz.isAgg9
  z9:=Tryz.sizeOf9
  v9:=Tryz.zeroValue9
  t46:=Tryz.underlying138
  a46:=Tryz.isAgg138
  z46:=Tryz.sizeOf138
  v46:=Tryz.zeroValue138
  t51:=Tryz.underlying164
  a51:=Tryz.isAgg164
  z51:=Tryz.sizeOf164
  v51:=Tryz.zeroValue164
  t146:=Tryz.underlying165
  a146:=Tryz.isAgg165
  z146:=Tryz.sizeOf165
  v146:=Tryz.zeroValue165
  g1:=by kernel_rfl }
end Go.Proofs.YtnlhbkaieoogfaaGreatDoor

set_option linter.unusedVariables false
set_option linter.unusedSimpArgs false
namespace Go.Proofs.YtnlhbkaieoogfaaGreatDoor
open Go.RowKit Go.Lib
/-- The library's two tables. -/
def Tabs (W : World) : Prop:=Lib.Utf8Tabs (laysValid_ren.g 3) (laysValid_ren.g 4) W
section
variable {W w : World} {cs r : List Ch}
theorem ValidString_c (hT : Tabs W) (s : ByteArray) (hsz : s.size≤9223372036854775807) (hs : Sep W w cs) :
    Calls P 119 #[.string s] w (Rt fun v w'=>v = .bool (validD s.data.toList)∧Sep W w' cs) :=
  (Any.utf8_ValidString laysValid s w hsz (Utf8Tabs_below hT hs.below)).mono fun e w' ⟨he,hb⟩=>by
    subst he;exact ⟨rfl,hs.of_below hb⟩
theorem index_zero : ∀ (l : List UInt8) (c : UInt8),-1≤indexByte l c∧(decide (0≤indexByte l c)) = l.contains c
  | [],c=>by simp [indexByte]
  | b::l,c=>by
    have ⟨h1,h2⟩:=index_zero l c
    rw [List.contains_cons,← h2]
    have e : indexByte (b::l) c = if (b == c) = true then 0 else if (indexByte l c == -1) = true then -1 else indexByte l c + 1:=rfl
    rw [e]
    by_cases hb : b = c
    · subst hb; simp
    · have e1 : (b == c) = false:=by simpa using hb
      have e2 : (c == b) = false:=by simpa using fun e=>hb e.symm
      rw [e1,e2]
      by_cases hm : indexByte l c = -1
      · rw [hm]; decide
      · have e3 : (indexByte l c == -1) = false:=by simpa using hm
        rw [e3]
        simp
        omega
theorem Contains_c (s : ByteArray) (hs : Sep W w cs) : Calls P 120 #[.string s,.string ⟨#[0]⟩] w (Rt fun v w'=>v = .bool (s.data.toList.contains 0)∧Sep W w' cs) :=
  (Any.strings_Contains_one laysContains s 0 w).mono fun e w' ⟨he,hw⟩=>by
    subst he; subst hw;exact ⟨congrArg Value.bool (index_zero _ _).2,hs⟩
theorem Valid_c (hT : Tabs W) (s : ByteArray) (hsz : s.size≤9223372036854775807) (hs : Sep W w cs) :
    Calls P 102 #[.string s] w (Rt fun v w'=>v = .bool (okText s.data.toList)∧Sep W w' cs):=by
  refine enter Tryz.func102 Tryz.ntmps102 rfl rfl fun a (ha : Has a 10 [(0,_)])=>?_;refine wp_seq_k fun K1 hK1=>?_;refine wp_region_lit ?_;refine pY ha (yAssign rfl) fun a ha=>?_;refine pZ ?_;refine hK1 _ _ ?_;refine wp_seq_k fun K2 hK2=>?_;refine wp_region_lit ?_;refine pY ha (yMove rfl) fun a ha=>?_;refine pC ha (nCall Tryz.call119 rfl) rfl (ValidString_c hT s hsz hs) ?_;rintro v w ⟨rfl,hs⟩ a ha;refine pY ha (yMove rfl) fun a ha=>?_;refine gSplit (t:=5) ha rfl (fun hg2=>?_) (fun hg2=>?_)
  · rw [hg2] at ha;refine gOff ha fun a ha=>?_;refine gOff ha fun a ha=>?_;refine gOff ha fun a ha=>?_;refine pY ha (yPickF rfl rfl) fun a ha=>?_;refine pY ha (yAssign rfl) fun a ha=>?_;refine pZ ?_;refine hK2 _ _ ?_;refine wp_ret ?_;show bodyPost Tryz.prog Tryz.f102 _ .ret _ _;refine ret1 rfl ha rfl ?_;exact ⟨by simp [okText,hg2],hs⟩
  · rw [hg2] at ha;refine gOn ha ?_;refine pY ha (yMove rfl) fun a ha=>?_;refine gOn ha ?_;refine pC ha (nCall Tryz.call120 rfl) rfl (Contains_c s hs) ?_;rintro v w ⟨rfl,hs⟩ a ha;refine gOn ha ?_;refine pY ha (yNot rfl) fun a ha=>?_;refine pY ha (yPickT rfl rfl) fun a ha=>?_;refine pY ha (yAssign rfl) fun a ha=>?_;refine pZ ?_;refine hK2 _ _ ?_;refine wp_ret ?_;show bodyPost Tryz.prog Tryz.f102 _ .ret _ _;refine ret1 rfl ha rfl ?_;exact ⟨by simp [okText,hg2],hs⟩
end
end Go.Proofs.YtnlhbkaieoogfaaGreatDoor

set_option linter.unusedVariables false
set_option linter.unusedSimpArgs false
namespace Go.Proofs.YtnlhbkaieoogfaaGreatDoor
open Go.RowKit Go.Lib
theorem bldRdr109_0 {w : World} {l : List (Nat × Value)} {T : TypeId} {x0 : Operand} {v0 : Value} (h0 : ev l x0 = some v0) (o0 : v0.cells = #[v0]:=by rfl) : Yl Tryz.prog w l (.build 109 #[(0,x0)]) T (.agg #[v0,.int .i64 0]):=fun ρ o h ho _=>by
  have hf : Instr.fill (fun i=>([(0,1),(1,1)] : List (Nat × Nat))[i]?) #[.slice none 0 0,.int .i64 0] [(0,v0)] = some #[v0,.int .i64 0]:=by
    refine (fill_v o0 rfl (by simp)).trans ?_
    simp [Instr.fill]
  unfold execOp; rw [ho]
  simp [h _ _ h0,Instr.build,Tryz.zeroValue109,Tryz.runUnderlying109,Tryz.sizeOf27,Tryz.sizeOf30,agg_cells,hf]
theorem bldRdr45_0_1_2 {w : World} {l : List (Nat × Value)} {T : TypeId} {x0 x1 x2 : Operand} {v0 : Value} (h0 : ev l x0 = some v0) {v1 : Value} (h1 : ev l x1 = some v1) {v2 : Value} (h2 : ev l x2 = some v2) (o0 : v0.cells = #[v0]:=by rfl) (o1 : v1.cells = #[v1]:=by rfl) (o2 : v2.cells = #[v2]:=by rfl) : Yl Tryz.prog w l (.build 45 #[(0,x0),(1,x1),(2,x2)]) T (.agg #[v0,v1,v2]):=fun ρ o h ho _=>by
  have hf : Instr.fill (fun i=>([(0,1),(1,1),(2,1)] : List (Nat × Nat))[i]?) #[.int .i64 0,.int .i64 0,.string ⟨#[]⟩] [(0,v0),(1,v1),(2,v2)] = some #[v0,v1,v2]:=by
    refine (fill_v o0 rfl (by simp)).trans ?_;refine (fill_v o1 rfl (by simp)).trans ?_;refine (fill_v o2 rfl (by simp)).trans ?_
    simp [Instr.fill]
  unfold execOp; rw [ho]
  simp [h _ _ h0,h _ _ h1,h _ _ h2,Instr.build,Tryz.zeroValue45,Tryz.runUnderlying45,Tryz.sizeOf3,Tryz.sizeOf9,agg_cells,hf]
theorem bldRdr48_0_1_2_3_4_5 {w : World} {l : List (Nat × Value)} {T : TypeId} {x0 x1 x2 x3 x4 x5 : Operand} {v0 : Value} (h0 : ev l x0 = some v0) {v1 : Value} (h1 : ev l x1 = some v1) {v2 : Value} (h2 : ev l x2 = some v2) {v3 : Value} (h3 : ev l x3 = some v3) {v4 : Value} (h4 : ev l x4 = some v4) {v5 : Value} (h5 : ev l x5 = some v5) (o0 : v0.cells = #[v0]:=by rfl) (o1 : v1.cells = #[v1]:=by rfl) (o2 : v2.cells = #[v2]:=by rfl) (o3 : v3.cells = #[v3]:=by rfl) (o4 : v4.cells = #[v4]:=by rfl) (o5 : v5.cells = #[v5]:=by rfl) : Yl Tryz.prog w l (.build 48 #[(0,x0),(1,x1),(2,x2),(3,x3),(4,x4),(5,x5)]) T (.agg #[v0,v1,v2,v3,v4,v5]):=fun ρ o h ho _=>by
  have hf : Instr.fill (fun i=>([(0,1),(1,1),(2,1),(3,1),(4,1),(5,1)] : List (Nat × Nat))[i]?) #[.int .i64 0,.int .i64 0,.int .i64 0,.string ⟨#[]⟩,.bool false,.slice none 0 0] [(0,v0),(1,v1),(2,v2),(3,v3),(4,v4),(5,v5)] = some #[v0,v1,v2,v3,v4,v5]:=by
    refine (fill_v o0 rfl (by simp)).trans ?_;refine (fill_v o1 rfl (by simp)).trans ?_;refine (fill_v o2 rfl (by simp)).trans ?_;refine (fill_v o3 rfl (by simp)).trans ?_;refine (fill_v o4 rfl (by simp)).trans ?_;refine (fill_v o5 rfl (by simp)).trans ?_
    simp [Instr.fill]
  unfold execOp; rw [ho]
  simp [h _ _ h0,h _ _ h1,h _ _ h2,h _ _ h3,h _ _ h4,h _ _ h5,Instr.build,Tryz.zeroValue48,Tryz.runUnderlying48,Tryz.sizeOf3,Tryz.sizeOf4,Tryz.sizeOf46,Tryz.sizeOf9,agg_cells,hf]
theorem bldRdr50_0_1_2_3_4 {w : World} {l : List (Nat × Value)} {T : TypeId} {x0 x1 x2 x3 x4 : Operand} {v0 : Value} (h0 : ev l x0 = some v0) {v1 : Value} (h1 : ev l x1 = some v1) {v2 : Value} (h2 : ev l x2 = some v2) {v3 : Value} (h3 : ev l x3 = some v3) {v4 : Value} (h4 : ev l x4 = some v4) (o0 : v0.cells = #[v0]:=by rfl) (o1 : v1.cells = #[v1]:=by rfl) (o2 : v2.cells = #[v2]:=by rfl) (o3 : v3.cells = #[v3]:=by rfl) (o4 : v4.cells = #[v4]:=by rfl) : Yl Tryz.prog w l (.build 50 #[(0,x0),(1,x1),(2,x2),(3,x3),(4,x4)]) T (.agg #[v0,v1,v2,v3,v4]):=fun ρ o h ho _=>by
  have hf : Instr.fill (fun i=>([(0,1),(1,1),(2,1),(3,1),(4,1)] : List (Nat × Nat))[i]?) #[.int .i64 0,.int .i64 0,.string ⟨#[]⟩,.bool false,.string ⟨#[]⟩] [(0,v0),(1,v1),(2,v2),(3,v3),(4,v4)] = some #[v0,v1,v2,v3,v4]:=by
    refine (fill_v o0 rfl (by simp)).trans ?_;refine (fill_v o1 rfl (by simp)).trans ?_;refine (fill_v o2 rfl (by simp)).trans ?_;refine (fill_v o3 rfl (by simp)).trans ?_;refine (fill_v o4 rfl (by simp)).trans ?_
    simp [Instr.fill]
  unfold execOp; rw [ho]
  simp [h _ _ h0,h _ _ h1,h _ _ h2,h _ _ h3,h _ _ h4,Instr.build,Tryz.zeroValue50,Tryz.runUnderlying50,Tryz.sizeOf3,Tryz.sizeOf4,Tryz.sizeOf9,agg_cells,hf]
theorem bslRdr22_1_0 {w : World} {l : List (Nat × Value)} {T : TypeId} {x0 : Operand} {c0 : List Value} (h0 : ev l x0 = some (.agg c0.toArray)) (n0 : c0.length = 6:=by rfl) : Mk Tryz.prog w l (.buildSlice 22 1 #[(0,x0)]) T 48 1 c0:=fun ρ o h ho _=>by
  unfold execOp; rw [ho];exact mk1 (P:=Tryz.prog) w Tryz.runUnderlying22 Tryz.sizeOf48 Tryz.zeroValue48 (by decide) (by decide) n0 (h _ _ h0)
theorem bslRdr24_1_0 {w : World} {l : List (Nat × Value)} {T : TypeId} {x0 : Operand} {c0 : List Value} (h0 : ev l x0 = some (.agg c0.toArray)) (n0 : c0.length = 5:=by rfl) : Mk Tryz.prog w l (.buildSlice 24 1 #[(0,x0)]) T 50 1 c0:=fun ρ o h ho _=>by
  unfold execOp; rw [ho];exact mk1 (P:=Tryz.prog) w Tryz.runUnderlying24 Tryz.sizeOf50 Tryz.zeroValue50 (by decide) (by decide) n0 (h _ _ h0)
theorem bslRdr46_1_0 {w : World} {l : List (Nat × Value)} {T : TypeId} {x0 : Operand} {c0 : List Value} (h0 : ev l x0 = some (.agg c0.toArray)) (n0 : c0.length = 3:=by rfl) : Mk Tryz.prog w l (.buildSlice 46 1 #[(0,x0)]) T 45 1 c0:=fun ρ o h ho _=>by
  unfold execOp; rw [ho];exact mk1 (P:=Tryz.prog) w Tryz.runUnderlying46 Tryz.sizeOf45 Tryz.zeroValue45 (by decide) (by decide) n0 (h _ _ h0)
theorem elRdr22 : ElemT Tryz.prog 22 48 6 72:=elemT_mk Tryz.underlying22 rfl (by kernel_rfl)
theorem elRdr24 : ElemT Tryz.prog 24 50 5 56:=elemT_mk Tryz.underlying24 rfl (by kernel_rfl)
theorem elRdr46 : ElemT Tryz.prog 46 45 3 32:=elemT_mk Tryz.underlying46 rfl (by kernel_rfl)
section
variable {W w : World} {cs r : List Ch} {p : Nat} {T : TypeId} {st : St}
theorem Err_c {v0 : Value} {e : Int} (hs : Sep W w cs) (hk : Pick cs (.blk p 109 [v0,.int .i64 e]) r) :
    Calls P 29 #[.pointer (some ⟨p,0,none⟩)] w (Rt fun v w'=>v = .int .i64 e∧Sep W w' (.blk p 109 [v0,.int .i64 e]::r)):=by
  have hs:=hs.pick hk;refine enter Tryz.func29 Tryz.ntmps29 rfl rfl fun a (ha : Has a 9 [(0,_)])=>?_;refine wp_seq_k fun K1 hK1=>?_;refine wp_region_lit ?_;refine pY ha (yAssign rfl) fun a ha=>?_;refine pZ ?_;refine hK1 _ _ ?_;refine wp_seq_k fun K2 hK2=>?_;refine wp_seq_k fun K3 hK3=>?_;refine wp_region_lit ?_;refine pY ha (yMove rfl) fun a ha=>?_;refine pY ha (yPtrEqlN Tryz.underlying62 rfl rfl) fun a ha=>?_;refine pZ ?_;refine hK3 _ _ ?_;refine cFalse ha rfl ?_;refine wp_skip ?_;refine hK2 _ _ ?_;refine wp_seq_k fun K4 hK4=>?_;refine wp_region_lit ?_;refine pY ha (yMove rfl) fun a ha=>?_;refine pY ha (yNilP rfl) fun a ha=>?_;refine pY ha (yFieldA Tryz.runUnderlying109 rfl Tryz.sizeOf30 rfl rfl) fun a ha=>?_;refine pY ha (yLoadB Tryz.isAgg30 hs rfl pk0 rfl) fun a ha=>?_;refine pY ha (yAssign rfl) fun a ha=>?_;refine pZ ?_;refine hK4 _ _ ?_;refine wp_ret ?_;show bodyPost Tryz.prog Tryz.f29 _ .ret _ _;refine ret1 rfl ha rfl ?_;exact ⟨rfl,hs⟩
theorem fails_c {v0 : Value} {e e' : Int} (hs : Sep W w cs) (hk : Pick cs (.blk p 109 [v0,.int .i64 e]) r) :
    Calls P 69 #[.pointer (some ⟨p,0,none⟩),.int .i64 e'] w (Rt fun v w'=>v = .tuple #[]∧Sep W w' (.blk p 109 [v0,.int .i64 (if e = 0 then e' else e)]::r)):=by
  have hs:=hs.pick hk;refine enter Tryz.func69 Tryz.ntmps69 rfl rfl fun a (ha : Has a 11 [(0,_),(1,_)])=>?_;refine wp_seq_k fun K1 hK1=>?_;refine wp_region_lit ?_;refine pY ha (yMove rfl) fun a ha=>?_;refine pC ha (nCall Tryz.call29 rfl) rfl (Err_c hs .here) ?_;rintro v w ⟨rfl,hs⟩ a ha;refine pY ha (yEql rfl rfl) fun a ha=>?_;refine pZ ?_;refine hK1 _ _ ?_;refine cDec ha rfl (fun hc6=>?_) (fun hc6=>?_)
  · refine wp_region_lit ?_;refine pY ha (yMove rfl) fun a ha=>?_;refine pY ha (yMove rfl) fun a ha=>?_;refine pY ha (yNilP rfl) fun a ha=>?_;refine pY ha (yFieldA Tryz.runUnderlying109 rfl Tryz.sizeOf30 rfl rfl) fun a ha=>?_;refine pStore ha Tryz.sizeOf30 hs rfl rfl rfl rfl pk0 rfl fun w hs=>?_;refine pZ ?_;show bodyPost Tryz.prog Tryz.f69 _ .normal _ _;refine end0 rfl ha ?_;rw [if_pos hc6]; exact ⟨rfl,hs⟩
  · refine wp_skip ?_;show bodyPost Tryz.prog Tryz.f69 _ .normal _ _;refine end0 rfl ha ?_;rw [if_neg hc6]; exact ⟨rfl,hs⟩
theorem RdNum_c (hs : Sep W w cs) (hk : Pick cs (.rdr p 109 st) r) :
    Calls P 25 #[.pointer (some ⟨p,0,none⟩)] w (Rt fun v w'=>v = .int .i64 (rNum st).1∧Sep W w' (.rdr p 109 (rNum st).2::r)):=by
  obtain ⟨A,c,hs⟩:=hs.rdr_open hk
  have hsh:=hs.rd_shape (.there .here)
  unfold maxLen at hsh;refine enter Tryz.func25 Tryz.ntmps25 rfl rfl fun a (ha : Has a 31 [(0,_)])=>?_;refine wp_seq_k fun K1 hK1=>?_;refine wp_region_lit ?_;refine pY ha (yAssign rfl) fun a ha=>?_;refine pZ ?_;refine hK1 _ _ ?_;refine scopeF 2 99999 ?_;refine wp_seq_k fun K2 hK2=>?_;refine wp_region_lit ?_;refine pY ha (yAssign rfl) fun a ha=>?_;refine pZ ?_;refine hK2 _ _ ?_;refine wp_seq_k fun K3 hK3=>?_;refine wp_region_lit ?_;refine pY ha (yAssign rfl) fun a ha=>?_;refine pZ ?_;refine hK3 _ _ ?_;refine wp_seq_k fun K4 hK4=>?_;refine wp_seq_k fun K5 hK5=>?_;refine wp_region_lit ?_;refine pY ha (yMove rfl) fun a ha=>?_;refine pC ha (nCall Tryz.call29 rfl) rfl (Err_c hs .here) ?_;rintro v w ⟨rfl,hs⟩ a ha;refine pY ha (yNeq rfl rfl) fun a ha=>?_;refine pZ ?_;refine hK5 _ _ ?_;refine cNDec ha rfl (fun hc7=>?_) (fun hc7=>?_)
  · refine wp_goto ?_
    repeat (with_reducible first | refine gThen ?_ | refine gBlock ?_)
    refine gxF rfl rfl ?_;refine wp_seq_k fun K6 hK6=>?_;refine wp_skip ?_;refine hK6 _ _ ?_;refine wp_seq_k fun K7 hK7=>?_;refine wp_region_lit ?_;refine pY ha (yAssign rfl) fun a ha=>?_;refine pZ ?_;refine hK7 _ _ ?_;refine wp_ret ?_;show bodyPost Tryz.prog Tryz.f25 _ .ret _ _;refine ret1 rfl ha rfl ?_;rw [rNum_err hc7]; exact ⟨rfl,hs.rdr_shut .here .here⟩
  · refine wp_skip ?_;refine hK4 _ _ ?_;refine wp_seq_k fun K8 hK8=>?_;refine wp_seq_k fun K9 hK9=>?_;refine wp_region_lit ?_;refine pY ha (yMove rfl) fun a ha=>?_;refine pY ha (yNilP rfl) fun a ha=>?_;refine pY ha (yFieldA Tryz.runUnderlying109 rfl Tryz.sizeOf27 rfl rfl) fun a ha=>?_;refine pY ha (yLoadB Tryz.isAgg27 hs rfl pk0 rfl) fun a ha=>?_;refine pC ha (nCall Tryz.call68 rfl) rfl (Get_c hs (.there .here)) ?_;rintro v w ⟨rfl,hs⟩ a ha
    rcases hN : getN st.1 with _ | ⟨m,u⟩ <;> rw [hN] at ha
    · refine pY ha (yMove rfl) fun a ha=>?_;refine pY ha (yExtract rfl rfl) fun a ha=>?_;refine pY ha (yExtract rfl rfl) fun a ha=>?_;refine pY ha (yExtract rfl rfl) fun a ha=>?_;refine pY ha (yAssign rfl) fun a ha=>?_;refine pY ha (yAssign rfl) fun a ha=>?_;refine pY ha (yAssign rfl) fun a ha=>?_;refine pZ ?_;refine hK9 _ _ ?_;refine wp_seq_k fun K10 hK10=>?_;refine wp_region_lit ?_;refine pY ha (yMove rfl) fun a ha=>?_;refine pY ha (yNeq rfl rfl) fun a ha=>?_;refine pZ ?_;refine hK10 _ _ ?_;refine cNDec ha rfl (fun hc18=>?_) (fun hc18=>?_)
      · refine wp_goto ?_
        repeat (with_reducible first | refine gThen ?_ | refine gBlock ?_)
        refine gxF rfl rfl ?_;refine wp_seq_k fun K11 hK11=>?_;refine wp_skip ?_;refine hK11 _ _ ?_;refine wp_seq_k fun K12 hK12=>?_;refine wp_region_lit ?_;refine pY ha (yMove rfl) fun a ha=>?_;refine pC ha (nCall Tryz.call69 rfl) rfl (fails_c hs .here) ?_;rintro v w ⟨rfl,hs⟩ a ha;refine pZ ?_;refine hK12 _ _ ?_;refine wp_seq_k fun K13 hK13=>?_;refine wp_label ?_;refine hK13 _ _ ?_;refine wp_seq_k fun K14 hK14=>?_;refine wp_region_lit ?_;refine pY ha (yAssign rfl) fun a ha=>?_;refine pZ ?_;refine hK14 _ _ ?_;refine wp_ret ?_;show bodyPost Tryz.prog Tryz.f25 _ .ret _ _;refine ret1 rfl ha rfl ?_;rw [rNum,if_pos hc7,hN]; rw [if_pos hc7] at hs; exact ⟨rfl,hs.rdr_shut .here .here⟩
      · refine wp_skip ?_;refine hK8 _ _ ?_;refine wp_seq_k fun K15 hK15=>?_;refine wp_region_lit ?_;refine pY ha (yMove rfl) fun a ha=>?_;refine pY ha (yMove rfl) fun a ha=>?_;refine pY ha (yNilP rfl) fun a ha=>?_;refine pY ha (yFieldA Tryz.runUnderlying109 rfl Tryz.sizeOf27 rfl rfl) fun a ha=>?_;refine pY ha (yLoadB Tryz.isAgg27 hs rfl pk0 rfl) fun a ha=>?_;refine pY ha (yMove rfl) fun a ha=>?_;refine pY ha (ySlice Tryz.runUnderlying27 Tryz.sizeOf5 rfl (.inr ⟨_,_,rfl,rfl⟩) (.inl ⟨rfl,rfl⟩) (by omega) (by omega)) fun a ha=>?_;refine pY ha (yNilP rfl) fun a ha=>?_;refine pY ha (yFieldA Tryz.runUnderlying109 rfl Tryz.sizeOf27 rfl rfl) fun a ha=>?_;refine pStore ha Tryz.sizeOf27 hs rfl rfl rfl rfl pk0 rfl fun w hs=>?_;refine pZ ?_;refine hK15 _ _ ?_;refine wp_seq_k fun K16 hK16=>?_;refine wp_seq_k fun K17 hK17=>?_;refine wp_region_lit ?_;refine pY ha (yMove rfl) fun a ha=>?_;refine pY ha (yAssign rfl) fun a ha=>?_;refine pZ ?_;refine hK17 _ _ ?_;refine wp_ret ?_;show bodyPost Tryz.prog Tryz.f25 _ .ret _ _;refine ret1 rfl ha rfl ?_;exact absurd hc18 (by decide)
    · have hu:=getN_some hN
      refine pY ha (yMove rfl) fun a ha=>?_;refine pY ha (yExtract rfl rfl) fun a ha=>?_;refine pY ha (yExtract rfl rfl) fun a ha=>?_;refine pY ha (yExtract rfl rfl) fun a ha=>?_;refine pY ha (yAssign rfl) fun a ha=>?_;refine pY ha (yAssign rfl) fun a ha=>?_;refine pY ha (yAssign rfl) fun a ha=>?_;refine pZ ?_;refine hK9 _ _ ?_;refine wp_seq_k fun K18 hK18=>?_;refine wp_region_lit ?_;refine pY ha (yMove rfl) fun a ha=>?_;refine pY ha (yNeq rfl rfl) fun a ha=>?_;refine pZ ?_;refine hK18 _ _ ?_;refine cNDec ha rfl (fun hc18=>?_) (fun hc18=>?_)
      · refine wp_goto ?_
        repeat (with_reducible first | refine gThen ?_ | refine gBlock ?_)
        refine gxF rfl rfl ?_;refine wp_seq_k fun K19 hK19=>?_;refine wp_skip ?_;refine hK19 _ _ ?_;refine wp_seq_k fun K20 hK20=>?_;refine wp_region_lit ?_;refine pY ha (yMove rfl) fun a ha=>?_;refine pC ha (nCall Tryz.call69 rfl) rfl (fails_c hs .here) ?_;rintro v w ⟨rfl,hs⟩ a ha;refine pZ ?_;refine hK20 _ _ ?_;refine wp_seq_k fun K21 hK21=>?_;refine wp_label ?_;refine hK21 _ _ ?_;refine wp_seq_k fun K22 hK22=>?_;refine wp_region_lit ?_;refine pY ha (yAssign rfl) fun a ha=>?_;refine pZ ?_;refine hK22 _ _ ?_;refine wp_ret ?_;show bodyPost Tryz.prog Tryz.f25 _ .ret _ _;refine ret1 rfl ha rfl ?_;exact absurd rfl hc18
      · refine wp_skip ?_;refine hK8 _ _ ?_;refine wp_seq_k fun K23 hK23=>?_;refine wp_region_lit ?_;refine pY ha (yMove rfl) fun a ha=>?_;refine pY ha (yMove rfl) fun a ha=>?_;refine pY ha (yNilP rfl) fun a ha=>?_;refine pY ha (yFieldA Tryz.runUnderlying109 rfl Tryz.sizeOf27 rfl rfl) fun a ha=>?_;refine pY ha (yLoadB Tryz.isAgg27 hs rfl pk0 rfl) fun a ha=>?_;refine pY ha (yMove rfl) fun a ha=>?_;refine pY ha (ySlice Tryz.runUnderlying27 Tryz.sizeOf5 rfl (.inr ⟨_,_,rfl,rfl⟩) (.inl ⟨rfl,rfl⟩) (by omega) (by omega)) fun a ha=>?_;refine pY ha (yNilP rfl) fun a ha=>?_;refine pY ha (yFieldA Tryz.runUnderlying109 rfl Tryz.sizeOf27 rfl rfl) fun a ha=>?_;refine pStore ha Tryz.sizeOf27 hs rfl rfl rfl rfl pk0 rfl fun w hs=>?_;refine pZ ?_;refine hK23 _ _ ?_;refine wp_seq_k fun K24 hK24=>?_;refine wp_seq_k fun K25 hK25=>?_;refine wp_region_lit ?_;refine pY ha (yMove rfl) fun a ha=>?_;refine pY ha (yAssign rfl) fun a ha=>?_;refine pZ ?_;refine hK25 _ _ ?_;refine wp_ret ?_;show bodyPost Tryz.prog Tryz.f25 _ .ret _ _;refine ret1 rfl ha rfl ?_;rw [rNum,if_pos hc7,hN,← hc7];have hs:=hs.rd_cut (.there .here) (lo:=u) (hi:=st.1.length) (by omega) (Nat.le_refl _);rw [List.take_length] at hs;exact ⟨rfl,(hs.rdr_shut (.there .here) .here).drop2⟩
theorem RdText_c (hT : Tabs W) (most : Int) (hs : Sep W w cs) (hk : Pick cs (.rdr p 109 st) r) :
    Calls P 70 #[.pointer (some ⟨p,0,none⟩),.int .i64 most] w (Rt fun v w'=>v = .string (rText most st).1∧Sep W w' (.rdr p 109 (rText most st).2::r)):=by
  refine enter Tryz.func70 Tryz.ntmps70 rfl rfl fun a (ha : Has a 54 [(0,_),(1,_)])=>?_;refine wp_seq_k fun K1 hK1=>?_;refine wp_region_lit ?_;refine pY ha (yAssign rfl) fun a ha=>?_;refine pZ ?_;refine hK1 _ _ ?_;refine wp_seq_k fun K2 hK2=>?_;refine wp_region_lit ?_;refine pY ha (yMove rfl) fun a ha=>?_;refine pC ha (nCall Tryz.call25 rfl) rfl (RdNum_c hs hk) ?_;rintro v w ⟨rfl,hs⟩ a ha
  rcases hq : rNum st with ⟨n,bs,e⟩
  have hv:=rNum_val st
  rw [hq] at ha hs hv;simp only at ha hs hv;obtain ⟨m,rfl⟩:=Int.eq_ofNat_of_zero_le hv.1;obtain ⟨A,c,hs⟩:=hs.rdr_open .here;simp only at hs
  have hsh:=hs.rd_shape (.there .here)
  unfold maxLen at hsh;refine pY ha (yAssign rfl) fun a ha=>?_;refine pZ ?_;refine hK2 _ _ ?_;refine wp_seq_k fun K3 hK3=>?_;refine wp_seq_k fun K4 hK4=>?_;refine wp_region_lit ?_;refine pY ha (yMove rfl) fun a ha=>?_;refine pC ha (nCall Tryz.call29 rfl) rfl (Err_c hs .here) ?_;rintro v w ⟨rfl,hs⟩ a ha;refine pY ha (yNeq rfl rfl) fun a ha=>?_;refine pZ ?_;refine hK4 _ _ ?_;refine cNDec ha rfl (fun hc11=>?_) (fun hc11=>?_)
  · refine wp_seq_k fun K5 hK5=>?_;refine wp_region_lit ?_;refine pY ha (yAssign rfl) fun a ha=>?_;refine pZ ?_;refine hK5 _ _ ?_;refine wp_ret ?_;show bodyPost Tryz.prog Tryz.f70 _ .ret _ _;refine ret1 rfl ha rfl ?_;rw [rText_1 hq hc11]; exact ⟨rfl,hs.rdr_shut .here .here⟩
  · obtain rfl:=hc11;refine wp_skip ?_;refine hK3 _ _ ?_;refine wp_seq_k fun K6 hK6=>?_;refine wp_seq_k fun K7 hK7=>?_;refine cutC (fun a w=>Has a 54 [(29,.bool (decide ((bs.length : Int) < m∨okText (bs.take m) = false))),(0,.pointer (some ⟨p,0,none⟩)),(1,.int .i64 most),(5,.int .i64 m)]∧Sep W w (.blk p 109 [.slice A bs.length c,.int .i64 0]::.rd kU8 (.slice A bs.length c) bs::r)) ?_ ?_
    · refine wp_region_lit ?_;refine pY ha (yMove rfl) fun a ha=>?_;refine pY ha (yMove rfl) fun a ha=>?_;refine pY ha (yNilP rfl) fun a ha=>?_;refine pY ha (yFieldA Tryz.runUnderlying109 rfl Tryz.sizeOf27 rfl rfl) fun a ha=>?_;refine pY ha (yLoadB Tryz.isAgg27 hs rfl pk0 rfl) fun a ha=>?_;refine pY ha (yLenS Tryz.runUnderlying27 rfl) fun a ha=>?_;refine pY ha (yGtr rfl rfl) fun a ha=>?_;refine pY ha (yMove rfl) fun a ha=>?_;refine gDec (t:=19) ha rfl (fun hg7 hp7=>?_) (fun hg7 hp7=>?_)
      · rw [hg7] at ha;have hs:=hs.rd_cut (.there .here) (lo:=0) (hi:=m) (Nat.zero_le _) (by omega);refine gOn ha ?_;refine pY ha (yMove rfl) fun a ha=>?_;refine gOn ha ?_;refine pY ha (yNilP rfl) fun a ha=>?_;refine gOn ha ?_;refine pY ha (yFieldA Tryz.runUnderlying109 rfl Tryz.sizeOf27 rfl rfl) fun a ha=>?_;refine gOn ha ?_;refine pY ha (yLoadB Tryz.isAgg27 hs rfl pk1 rfl) fun a ha=>?_;refine gOn ha ?_;refine pY ha (yMove rfl) fun a ha=>?_;refine gOn ha ?_;refine pY ha (ySlice Tryz.runUnderlying27 Tryz.sizeOf5 rfl (.inl ⟨rfl,rfl⟩) (.inr ⟨_,_,rfl,rfl⟩) (Nat.zero_le _) (by omega)) fun a ha=>?_;refine gOn ha ?_;refine pY ha (yBytesStr Tryz.underlying27 Tryz.underlying5 Tryz.underlying9 hs rfl pk0) fun a ha=>?_;refine gOn ha ?_;refine pC ha (nCall Tryz.call102 rfl) rfl (Valid_c hT _ (by rw [size_mk]; simp; omega) hs) ?_;rintro v w ⟨rfl,hs⟩ a ha;refine gOn ha ?_;refine pY ha (yNot rfl) fun a ha=>?_;refine pY ha (yPickF rfl rfl) fun a ha=>?_;refine pZ ⟨rfl,?_⟩;exact ⟨has4 ha (bN (by simp [hp7])) rfl rfl rfl,hs.drop⟩
      · rw [hg7] at ha;refine gOff ha fun a ha=>?_;refine gOff ha fun a ha=>?_;refine gOff ha fun a ha=>?_;refine gOff ha fun a ha=>?_;refine gOff ha fun a ha=>?_;refine gOff ha fun a ha=>?_;refine gOff ha fun a ha=>?_;refine gOff ha fun a ha=>?_;refine gOff ha fun a ha=>?_;refine pY ha (yPickT rfl rfl) fun a ha=>?_;refine pZ ⟨rfl,?_⟩;exact ⟨has4 ha (bY (.inl hp7)) rfl rfl rfl,hs⟩
    rintro a w ⟨ha,hs⟩;refine hK7 _ _ ?_;refine cDec ha rfl (fun hc29=>?_) (fun hc29=>?_)
    · have hb : rText most st = _:=rText_2 hq hc29
      refine wp_seq_k fun K8 hK8=>?_;refine wp_region_lit ?_;refine pY ha (yMove rfl) fun a ha=>?_;refine pC ha (nCall Tryz.call69 rfl) rfl (fails_c hs pk0) ?_;rintro v w ⟨rfl,hs⟩ a ha;refine pZ ?_;refine hK8 _ _ ?_;refine wp_seq_k fun K9 hK9=>?_;refine wp_region_lit ?_;refine pY ha (yAssign rfl) fun a ha=>?_;refine pZ ?_;refine hK9 _ _ ?_;refine wp_ret ?_;show bodyPost Tryz.prog Tryz.f70 _ .ret _ _;refine ret1 rfl ha rfl ?_;rw [hb]; exact ⟨rfl,hs.rdr_shut .here .here⟩
    · have hb1 : ¬ ((m : Int) > bs.length):=fun h=>hc29 (.inl h)
      have hb2 : okText (bs.take m) = true:=by simpa using fun h=>hc29 (.inr h)
      refine wp_skip ?_;refine hK6 _ _ ?_;refine wp_seq_k fun K10 hK10=>?_;refine wp_seq_k fun K11 hK11=>?_;refine wp_region_lit ?_;refine pY ha (yMove rfl) fun a ha=>?_;refine pY ha (yMove rfl) fun a ha=>?_;refine pY ha (yGtr rfl rfl) fun a ha=>?_;refine pZ ?_;refine hK11 _ _ ?_;refine cDec ha rfl (fun hc34=>?_) (fun hc34=>?_)
      · have hb : rText most st = _:=rText_3 hq hb1 hb2 hc34
        refine wp_seq_k fun K12 hK12=>?_;refine wp_region_lit ?_;refine pY ha (yMove rfl) fun a ha=>?_;refine pC ha (nCall Tryz.call69 rfl) rfl (fails_c hs pk0) ?_;rintro v w ⟨rfl,hs⟩ a ha;refine pZ ?_;refine hK12 _ _ ?_;refine wp_seq_k fun K13 hK13=>?_;refine wp_region_lit ?_;refine pY ha (yAssign rfl) fun a ha=>?_;refine pZ ?_;refine hK13 _ _ ?_;refine wp_ret ?_;show bodyPost Tryz.prog Tryz.f70 _ .ret _ _;refine ret1 rfl ha rfl ?_;rw [hb]; exact ⟨rfl,hs.rdr_shut .here .here⟩
      · have hb : rText most st = _:=rText_4 hq hb1 hb2 hc34
        have hs:=hs.rd_cut (.there .here) (lo:=0) (hi:=m) (Nat.zero_le _) (by omega);refine wp_skip ?_;refine hK10 _ _ ?_;refine wp_seq_k fun K14 hK14=>?_;refine wp_region_lit ?_;refine pY ha (yMove rfl) fun a ha=>?_;refine pY ha (yNilP rfl) fun a ha=>?_;refine pY ha (yFieldA Tryz.runUnderlying109 rfl Tryz.sizeOf27 rfl rfl) fun a ha=>?_;refine pY ha (yLoadB Tryz.isAgg27 hs rfl pk1 rfl) fun a ha=>?_;refine pY ha (yMove rfl) fun a ha=>?_;refine pY ha (ySlice Tryz.runUnderlying27 Tryz.sizeOf5 rfl (.inl ⟨rfl,rfl⟩) (.inr ⟨_,_,rfl,rfl⟩) (Nat.zero_le _) (by omega)) fun a ha=>?_;refine pY ha (yBytesStr Tryz.underlying27 Tryz.underlying5 Tryz.underlying9 hs rfl pk0) fun a ha=>?_;refine pY ha (yAssign rfl) fun a ha=>?_;refine pZ ?_;refine hK14 _ _ ?_;refine wp_seq_k fun K15 hK15=>?_;have hs:=hs.drop
        have hs:=(hs.rd_cut (.there .here) (lo:=m) (hi:=bs.length) (by omega) (Nat.le_refl _)).perm (List.Perm.swap _ _ _)
        rw [List.take_length] at hs;refine wp_region_lit ?_;refine pY ha (yMove rfl) fun a ha=>?_;refine pY ha (yMove rfl) fun a ha=>?_;refine pY ha (yNilP rfl) fun a ha=>?_;refine pY ha (yFieldA Tryz.runUnderlying109 rfl Tryz.sizeOf27 rfl rfl) fun a ha=>?_;refine pY ha (yLoadB Tryz.isAgg27 hs rfl pk0 rfl) fun a ha=>?_;refine pY ha (yMove rfl) fun a ha=>?_;refine pY ha (ySlice Tryz.runUnderlying27 Tryz.sizeOf5 rfl (.inr ⟨_,_,rfl,rfl⟩) (.inl ⟨rfl,rfl⟩) (by omega) (by omega)) fun a ha=>?_;refine pY ha (yNilP rfl) fun a ha=>?_;refine pY ha (yFieldA Tryz.runUnderlying109 rfl Tryz.sizeOf27 rfl rfl) fun a ha=>?_;refine pStore ha Tryz.sizeOf27 hs rfl rfl rfl rfl pk0 rfl fun w hs=>?_;refine pZ ?_;refine hK15 _ _ ?_;refine wp_seq_k fun K16 hK16=>?_;refine wp_region_lit ?_;refine pY ha (yMove rfl) fun a ha=>?_;refine pY ha (yAssign rfl) fun a ha=>?_;refine pZ ?_;refine hK16 _ _ ?_;refine wp_ret ?_;show bodyPost Tryz.prog Tryz.f70 _ .ret _ _;refine ret1 rfl ha rfl ?_;rw [hb]; exact ⟨rfl,(hs.rdr_shut .here .here).drop2⟩
theorem ErrK_c (hs : Sep W w cs) (hk : Pick cs (.rdr p 109 st) r) :
    Calls P 29 #[.pointer (some ⟨p,0,none⟩)] w (Rt fun v w'=>v = .int .i64 st.2∧Sep W w' (.rdr p 109 st::r)):=by
  obtain ⟨A,c,hs⟩:=hs.rdr_open hk;exact (Err_c hs .here).mono (Rt.mono fun v w ⟨hv,hs⟩=>⟨hv,hs.rdr_shut .here .here⟩)
theorem failsK_c {e' : Int} (hs : Sep W w cs) (hk : Pick cs (.rdr p 109 st) r) :
    Calls P 69 #[.pointer (some ⟨p,0,none⟩),.int .i64 e'] w (Rt fun v w'=>v = .tuple #[]∧Sep W w' (.rdr p 109 (rFail st e')::r)):=by
  obtain ⟨A,c,hs⟩:=hs.rdr_open hk;refine (fails_c hs .here).mono (Rt.mono fun v w ⟨hv,hs⟩=>⟨hv,?_⟩)
  have:=hs.rdr_shut .here .here
  unfold rFail
  split <;> rename_i h
  · rw [if_pos h] at this; exact this
  · rw [if_neg h] at this; exact this
theorem RdFlag_c (hs : Sep W w cs) (hk : Pick cs (.rdr p 109 st) r) :
    Calls P 71 #[.pointer (some ⟨p,0,none⟩)] w (Rt fun v w'=>v = .bool (rFlag st).1∧Sep W w' (.rdr p 109 (rFlag st).2::r)):=by
  refine enter Tryz.func71 Tryz.ntmps71 rfl rfl fun a (ha : Has a 12 [(0,_)])=>?_;refine wp_seq_k fun K1 hK1=>?_;refine wp_region_lit ?_;refine pY ha (yAssign rfl) fun a ha=>?_;refine pZ ?_;refine hK1 _ _ ?_;refine wp_seq_k fun K2 hK2=>?_;refine wp_region_lit ?_;refine pY ha (yMove rfl) fun a ha=>?_;refine pC ha (nCall Tryz.call25 rfl) rfl (RdNum_c hs hk) ?_;rintro v w ⟨rfl,hs⟩ a ha;refine pY ha (yAssign rfl) fun a ha=>?_;refine pZ ?_;refine hK2 _ _ ?_;refine wp_seq_k fun K3 hK3=>?_;refine wp_seq_k fun K4 hK4=>?_;refine wp_region_lit ?_;refine pY ha (yMove rfl) fun a ha=>?_;refine pY ha (yGtr rfl rfl) fun a ha=>?_;refine pZ ?_;refine hK4 _ _ ?_;refine cDec ha rfl (fun hc7=>?_) (fun hc7=>?_)
  · refine wp_region_lit ?_;refine pY ha (yMove rfl) fun a ha=>?_;refine pC ha (nCall Tryz.call69 rfl) rfl (failsK_c hs .here) ?_;rintro v w ⟨rfl,hs⟩ a ha;refine pZ ?_;refine hK3 _ _ ?_;refine wp_seq_k fun K5 hK5=>?_;refine wp_region_lit ?_;refine pY ha (yMove rfl) fun a ha=>?_;refine pY ha (yEql rfl rfl) fun a ha=>?_;refine pY ha (yAssign rfl) fun a ha=>?_;refine pZ ?_;refine hK5 _ _ ?_;refine wp_ret ?_;show bodyPost Tryz.prog Tryz.f71 _ .ret _ _;refine ret1 rfl ha rfl ?_;refine ⟨rfl,?_⟩; simp only [rFlag]; rw [if_pos hc7]; exact hs
  · refine wp_skip ?_;refine hK3 _ _ ?_;refine wp_seq_k fun K6 hK6=>?_;refine wp_region_lit ?_;refine pY ha (yMove rfl) fun a ha=>?_;refine pY ha (yEql rfl rfl) fun a ha=>?_;refine pY ha (yAssign rfl) fun a ha=>?_;refine pZ ?_;refine hK6 _ _ ?_;refine wp_ret ?_;show bodyPost Tryz.prog Tryz.f71 _ .ret _ _;refine ret1 rfl ha rfl ?_;refine ⟨rfl,?_⟩; simp only [rFlag]; rw [if_neg hc7]; exact hs
theorem Many_c (most : Int) (hs : Sep W w cs) (hk : Pick cs (.rdr p 109 st) r) :
    Calls P 27 #[.pointer (some ⟨p,0,none⟩),.int .i64 most] w (Rt fun v w'=>v = .int .i64 (rMany most st).1∧Sep W w' (.rdr p 109 (rMany most st).2::r)):=by
  refine enter Tryz.func27 Tryz.ntmps27 rfl rfl fun a (ha : Has a 14 [(0,_),(1,_)])=>?_;refine wp_seq_k fun K1 hK1=>?_;refine wp_region_lit ?_;refine pY ha (yAssign rfl) fun a ha=>?_;refine pZ ?_;refine hK1 _ _ ?_;refine wp_seq_k fun K2 hK2=>?_;refine wp_region_lit ?_;refine pY ha (yMove rfl) fun a ha=>?_;refine pC ha (nCall Tryz.call25 rfl) rfl (RdNum_c hs hk) ?_;rintro v w ⟨rfl,hs⟩ a ha;refine pY ha (yAssign rfl) fun a ha=>?_;refine pZ ?_;refine hK2 _ _ ?_;refine wp_seq_k fun K3 hK3=>?_;refine wp_seq_k fun K4 hK4=>?_;refine wp_region_lit ?_;refine pY ha (yMove rfl) fun a ha=>?_;refine pY ha (yMove rfl) fun a ha=>?_;refine pY ha (yGtr rfl rfl) fun a ha=>?_;refine pZ ?_;refine hK4 _ _ ?_;refine cDec ha rfl (fun hc10=>?_) (fun hc10=>?_)
  · refine wp_seq_k fun K5 hK5=>?_;refine wp_region_lit ?_;refine pY ha (yMove rfl) fun a ha=>?_;refine pC ha (nCall Tryz.call69 rfl) rfl (failsK_c hs .here) ?_;rintro v w ⟨rfl,hs⟩ a ha;refine pZ ?_;refine hK5 _ _ ?_;refine wp_seq_k fun K6 hK6=>?_;refine wp_region_lit ?_;refine pY ha (yAssign rfl) fun a ha=>?_;refine pZ ?_;refine hK6 _ _ ?_;refine wp_ret ?_;show bodyPost Tryz.prog Tryz.f27 _ .ret _ _;refine ret1 rfl ha rfl ?_;simp only [rMany]; rw [if_pos hc10]; exact ⟨rfl,hs⟩
  · refine wp_skip ?_;refine hK3 _ _ ?_;refine wp_seq_k fun K7 hK7=>?_;refine wp_region_lit ?_;refine pY ha (yMove rfl) fun a ha=>?_;refine pY ha (yAssign rfl) fun a ha=>?_;refine pZ ?_;refine hK7 _ _ ?_;refine wp_ret ?_;show bodyPost Tryz.prog Tryz.f27 _ .ret _ _;refine ret1 rfl ha rfl ?_;simp only [rMany]; rw [if_neg hc10]; exact ⟨rfl,hs⟩
theorem NewReader_c {A : Option Addr} {n c : Nat} {bs : List UInt8} (hs : Sep W w cs) (hk : Pick cs (.rd kU8 (.slice A n c) bs) r) (hb : bs.length≤140737488355328) :
    Calls P 24 #[.slice A n c] w (Rt fun v w'=>∃ p,v = .pointer (some ⟨p,0,none⟩)∧Sep W w' (.rdr p 109 (bs,0)::cs)):=by
  refine enter Tryz.func24 Tryz.ntmps24 rfl rfl fun a (ha : Has a 7 [(0,_)])=>?_;refine wp_seq_k fun K1 hK1=>?_;refine wp_region_lit ?_;refine pY ha (yAssign rfl) fun a ha=>?_;refine pZ ?_;refine hK1 _ _ ?_;refine wp_seq_k fun K2 hK2=>?_;refine wp_region_lit ?_;refine pY ha (yMove rfl) fun a ha=>?_;refine pC ha (nCall Tryz.call67 rfl) rfl (CloneB_c hs hk hb) ?_;rintro v w ⟨A',c',rfl,hs⟩ a ha;have hs:=hs.ol_rd .here;refine pY ha (bldRdr109_0 rfl) fun a ha=>?_;refine pBox (es:=_) ha rfl rfl hs rfl fun b w hs a ha=>?_;refine pY ha (yAssign rfl) fun a ha=>?_;refine pZ ?_;refine hK2 _ _ ?_;refine wp_ret ?_;show bodyPost Tryz.prog Tryz.f24 _ .ret _ _;refine ret1 rfl ha rfl ?_;exact ⟨b,rfl,hs.rdr_shut .here .here⟩
theorem RdComps_c (hT : Tabs W) (hs : Sep W w cs) (hk : Pick cs (.rdr p 109 st) r) :
    Calls P 72 #[.pointer (some ⟨p,0,none⟩)] w (Rt fun v w'=>∃ A c,v = .slice A (rComps st).1.length c∧Sep W w' (.ol kComp 45 (.slice A (rComps st).1.length c) (rComps st).1::.rdr p 109 (rComps st).2::r)):=by
  have hM:=rMany_val 100 (by decide) st
  refine enter Tryz.func72 Tryz.ntmps72 rfl rfl fun a (ha : Has a 22 [(0,_)])=>?_;refine wp_seq_k fun K1 hK1=>?_;refine wp_region_lit ?_;refine pY ha (yAssign rfl) fun a ha=>?_;refine pZ ?_;refine hK1 _ _ ?_;refine wp_seq_k fun K2 hK2=>?_;refine wp_seq_k fun K3 hK3=>?_;refine wp_region_lit ?_;refine pY ha (yMove rfl) fun a ha=>?_;refine pC ha (nCall Tryz.call27 rfl) rfl (Many_c 100 hs hk) ?_;rintro v w ⟨rfl,hs⟩ a ha;obtain ⟨m,hm⟩:=Int.eq_ofNat_of_zero_le hM.1;obtain ⟨s1,hs1⟩ : ∃ s1,(rMany 100 st).2 = s1:=⟨_,rfl⟩;rw [hm] at ha;rw [hs1] at hs;refine pY ha (yMove rfl) fun a ha=>?_;refine pZ ?_;refine hK3 _ _ ?_;refine wp_block ?_;refine loopI (ι:=Nat × Option Addr × Nat) (fun i a w=>i.1≤m∧Has a 22 [(0,.pointer (some ⟨p,0,none⟩)),(2,.slice i.2.1 (rList rComp i.1 s1).1.length i.2.2),(4,.int .i64 m),(5,.int .i64 i.1)]∧Sep W w (.ol kComp 45 (.slice i.2.1 (rList rComp i.1 s1).1.length i.2.2) (rList rComp i.1 s1).1::.rdr p 109 (rList rComp i.1 s1).2::r)) (fun i=>m - i.1) ((0,none,0)) ?_ ?_
  · exact ⟨Nat.zero_le _,has4 ha rfl rfl rfl rfl,hs.ol_nil kComp _ none⟩
  · rintro i a w ⟨h1,ha,hs⟩;obtain ⟨i,A,c⟩:=i; simp only at h1 ha hs;refine wp_seq_k fun K4 hK4=>?_;refine wp_region_lit ?_;refine pY ha (yLss rfl rfl) fun a ha=>?_;refine pZ ?_;refine hK4 _ _ ?_;refine wp_seq_k fun K5 hK5=>?_;refine cDec ha rfl (fun hc6=>?_) (fun hc6=>?_)
    · have hll:=rList_len rComp i s1
      have hln:=rList_snoc rComp i s1
      generalize hl : rList rComp i s1 = q at ha hs hll hln;obtain ⟨xs,s2⟩:=q;simp only at ha hs hll hln;refine wp_skip ?_;refine hK5 _ _ ?_;refine wp_seq_k fun K6 hK6=>?_;refine wp_block ?_;refine wp_region_lit ?_;refine pY ha (yMove rfl) fun a ha=>?_;refine pY ha (yMove rfl) fun a ha=>?_;refine pC ha (nCall Tryz.call25 rfl) rfl (RdNum_c hs (.there .here)) ?_;rintro v w ⟨rfl,hs⟩ a ha;refine pY ha (yMove rfl) fun a ha=>?_;refine pC ha (nCall Tryz.call25 rfl) rfl (RdNum_c hs .here) ?_;rintro v w ⟨rfl,hs⟩ a ha;refine pY ha (yMove rfl) fun a ha=>?_;refine pC ha (nCall Tryz.call70 rfl) rfl (RdText_c hT 8000 hs .here) ?_;rintro v w ⟨rfl,hs⟩ a ha;refine pY ha (bldRdr45_0_1_2 rfl rfl rfl) fun a ha=>?_;refine pMake ha (bslRdr46_1_0 rfl) hs rfl fun b w hs a ha=>?_;have hs:=hs.add (x:=.el kComp (rComp s2).1 [.int .i64 (rComp s2).1.kind,.int .i64 (rComp s2).1.n,.string (rComp s2).1.text]) (fun Z=>rfl);refine pApp1 ha elRdr46 rfl rfl hs pk3 pk1 pk0 rfl (by (unfold maxLen; omega)) (by omega) rfl fun A c w hs a ha=>?_;refine pY ha (yAssign rfl) fun a ha=>?_;refine pZ ?_;refine hK6 _ _ ?_;refine wp_region_lit ?_;refine pY ha (yAddN rfl rfl ⟨by omega,by omega⟩) fun a ha=>?_;refine pY ha (yMove rfl) fun a ha=>?_;refine pZ ?_
      have e1 : (rList rComp (i + 1) s1).1 = xs++[(rComp s2).1]:=by rw [hln]
      have e2 : (rList rComp (i + 1) s1).2 = (rComp s2).2:=by rw [hln]
      refine ⟨(i + 1,A,c),⟨by simp only; omega,?_,?_⟩,by simp only; omega⟩
      · simp only [e1,List.length_append,List.length_cons,List.length_nil]; exact has4 ha rfl rfl rfl rfl
      · simp only [e1,e2,List.length_append,List.length_cons,List.length_nil]; exact hs
    · refine wp_exit ?_;refine hK2 _ _ ?_;refine wp_seq_k fun K7 hK7=>?_;refine wp_seq_k fun K8 hK8=>?_;obtain rfl : i = m:=by omega
      have hA : rComps st = _:=rAll_at (f:=rComp) hm hs1
      refine wp_region_lit ?_;refine pY ha (yMove rfl) fun a ha=>?_;refine pC ha (nCall Tryz.call29 rfl) rfl (ErrK_c hs (.there .here)) ?_;rintro v w ⟨rfl,hs⟩ a ha;refine pY ha (yNeq rfl rfl) fun a ha=>?_;refine pZ ?_;refine hK8 _ _ ?_;refine cNDec ha rfl (fun hc20=>?_) (fun hc20=>?_)
      · refine wp_seq_k fun K9 hK9=>?_;refine wp_region_lit ?_;refine pY ha (yAssign rfl) fun a ha=>?_;refine pZ ?_;refine hK9 _ _ ?_;refine wp_ret ?_;show bodyPost Tryz.prog Tryz.f72 _ .ret _ _;refine ret1 rfl ha rfl ?_;rw [if_neg hc20] at hA; rw [hA]; exact ⟨none,0,rfl,hs.drop2.ol_nil kComp _ none⟩
      · refine wp_skip ?_;refine hK7 _ _ ?_;refine wp_seq_k fun K10 hK10=>?_;refine wp_region_lit ?_;refine pY ha (yMove rfl) fun a ha=>?_;refine pY ha (yAssign rfl) fun a ha=>?_;refine pZ ?_;refine hK10 _ _ ?_;refine wp_ret ?_;show bodyPost Tryz.prog Tryz.f72 _ .ret _ _;refine ret1 rfl ha rfl ?_;rw [if_pos hc20] at hA; rw [hA]; exact ⟨A,c,rfl,hs.perm (List.Perm.swap _ _ _)⟩
theorem RdNods_c (hT : Tabs W) (hs : Sep W w cs) (hk : Pick cs (.rdr p 109 st) r) :
    Calls P 28 #[.pointer (some ⟨p,0,none⟩)] w (Rt fun v w'=>∃ A c,v = .slice A (rNods st).1.length c∧Sep W w' (.ol kNod 50 (.slice A (rNods st).1.length c) (rNods st).1::.rdr p 109 (rNods st).2::r)):=by
  have hM:=rMany_val 100 (by decide) st
  refine enter Tryz.func28 Tryz.ntmps28 rfl rfl fun a (ha : Has a 26 [(0,_)])=>?_;refine wp_seq_k fun K1 hK1=>?_;refine wp_region_lit ?_;refine pY ha (yAssign rfl) fun a ha=>?_;refine pZ ?_;refine hK1 _ _ ?_;refine wp_seq_k fun K2 hK2=>?_;refine wp_seq_k fun K3 hK3=>?_;refine wp_region_lit ?_;refine pY ha (yMove rfl) fun a ha=>?_;refine pC ha (nCall Tryz.call27 rfl) rfl (Many_c 100 hs hk) ?_;rintro v w ⟨rfl,hs⟩ a ha;obtain ⟨m,hm⟩:=Int.eq_ofNat_of_zero_le hM.1;obtain ⟨s1,hs1⟩ : ∃ s1,(rMany 100 st).2 = s1:=⟨_,rfl⟩;rw [hm] at ha;rw [hs1] at hs;refine pY ha (yMove rfl) fun a ha=>?_;refine pZ ?_;refine hK3 _ _ ?_;refine wp_block ?_;refine loopI (ι:=Nat × Option Addr × Nat) (fun i a w=>i.1≤m∧Has a 26 [(0,.pointer (some ⟨p,0,none⟩)),(2,.slice i.2.1 (rList rNod i.1 s1).1.length i.2.2),(4,.int .i64 m),(5,.int .i64 i.1)]∧Sep W w (.ol kNod 50 (.slice i.2.1 (rList rNod i.1 s1).1.length i.2.2) (rList rNod i.1 s1).1::.rdr p 109 (rList rNod i.1 s1).2::r)) (fun i=>m - i.1) ((0,none,0)) ?_ ?_
  · exact ⟨Nat.zero_le _,has4 ha rfl rfl rfl rfl,hs.ol_nil kNod _ none⟩
  · rintro i a w ⟨h1,ha,hs⟩;obtain ⟨i,A,c⟩:=i; simp only at h1 ha hs;refine wp_seq_k fun K4 hK4=>?_;refine wp_region_lit ?_;refine pY ha (yLss rfl rfl) fun a ha=>?_;refine pZ ?_;refine hK4 _ _ ?_;refine wp_seq_k fun K5 hK5=>?_;refine cDec ha rfl (fun hc6=>?_) (fun hc6=>?_)
    · have hll:=rList_len rNod i s1
      have hln:=rList_snoc rNod i s1
      generalize hl : rList rNod i s1 = q at ha hs hll hln;obtain ⟨xs,s2⟩:=q;simp only at ha hs hll hln;refine wp_skip ?_;refine hK5 _ _ ?_;refine wp_seq_k fun K6 hK6=>?_;refine wp_block ?_;refine wp_region_lit ?_;refine pY ha (yMove rfl) fun a ha=>?_;refine pY ha (yMove rfl) fun a ha=>?_;refine pC ha (nCall Tryz.call25 rfl) rfl (RdNum_c hs (.there .here)) ?_;rintro v w ⟨rfl,hs⟩ a ha;refine pY ha (yMove rfl) fun a ha=>?_;refine pC ha (nCall Tryz.call25 rfl) rfl (RdNum_c hs .here) ?_;rintro v w ⟨rfl,hs⟩ a ha;refine pY ha (yMove rfl) fun a ha=>?_;refine pC ha (nCall Tryz.call70 rfl) rfl (RdText_c hT 100 hs .here) ?_;rintro v w ⟨rfl,hs⟩ a ha;refine pY ha (yMove rfl) fun a ha=>?_;refine pC ha (nCall Tryz.call71 rfl) rfl (RdFlag_c hs .here) ?_;rintro v w ⟨rfl,hs⟩ a ha;refine pY ha (yMove rfl) fun a ha=>?_;refine pC ha (nCall Tryz.call70 rfl) rfl (RdText_c hT 8000 hs .here) ?_;rintro v w ⟨rfl,hs⟩ a ha;refine pY ha (bldRdr50_0_1_2_3_4 rfl rfl rfl rfl rfl) fun a ha=>?_;refine pMake ha (bslRdr24_1_0 rfl) hs rfl fun b w hs a ha=>?_;have hs:=hs.add (x:=.el kNod (rNod s2).1 [.int .i64 (rNod s2).1.id,.int .i64 (rNod s2).1.parent,.string (rNod s2).1.name,.bool (rNod s2).1.dir,.string (rNod s2).1.text]) (fun Z=>rfl);refine pApp1 ha elRdr24 rfl rfl hs pk3 pk1 pk0 rfl (by (unfold maxLen; omega)) (by omega) rfl fun A c w hs a ha=>?_;refine pY ha (yAssign rfl) fun a ha=>?_;refine pZ ?_;refine hK6 _ _ ?_;refine wp_region_lit ?_;refine pY ha (yAddN rfl rfl ⟨by omega,by omega⟩) fun a ha=>?_;refine pY ha (yMove rfl) fun a ha=>?_;refine pZ ?_
      have e1 : (rList rNod (i + 1) s1).1 = xs++[(rNod s2).1]:=by rw [hln]
      have e2 : (rList rNod (i + 1) s1).2 = (rNod s2).2:=by rw [hln]
      refine ⟨(i + 1,A,c),⟨by simp only; omega,?_,?_⟩,by simp only; omega⟩
      · simp only [e1,List.length_append,List.length_cons,List.length_nil]; exact has4 ha rfl rfl rfl rfl
      · simp only [e1,e2,List.length_append,List.length_cons,List.length_nil]; exact hs
    · refine wp_exit ?_;refine hK2 _ _ ?_;refine wp_seq_k fun K7 hK7=>?_;refine wp_seq_k fun K8 hK8=>?_;obtain rfl : i = m:=by omega
      have hA : rNods st = _:=rAll_at (f:=rNod) hm hs1
      refine wp_region_lit ?_;refine pY ha (yMove rfl) fun a ha=>?_;refine pC ha (nCall Tryz.call29 rfl) rfl (ErrK_c hs (.there .here)) ?_;rintro v w ⟨rfl,hs⟩ a ha;refine pY ha (yNeq rfl rfl) fun a ha=>?_;refine pZ ?_;refine hK8 _ _ ?_;refine cNDec ha rfl (fun hc24=>?_) (fun hc24=>?_)
      · refine wp_seq_k fun K9 hK9=>?_;refine wp_region_lit ?_;refine pY ha (yAssign rfl) fun a ha=>?_;refine pZ ?_;refine hK9 _ _ ?_;refine wp_ret ?_;show bodyPost Tryz.prog Tryz.f28 _ .ret _ _;refine ret1 rfl ha rfl ?_;rw [if_neg hc24] at hA; rw [hA]; exact ⟨none,0,rfl,hs.drop2.ol_nil kNod _ none⟩
      · refine wp_skip ?_;refine hK7 _ _ ?_;refine wp_seq_k fun K10 hK10=>?_;refine wp_region_lit ?_;refine pY ha (yMove rfl) fun a ha=>?_;refine pY ha (yAssign rfl) fun a ha=>?_;refine pZ ?_;refine hK10 _ _ ?_;refine wp_ret ?_;show bodyPost Tryz.prog Tryz.f28 _ .ret _ _;refine ret1 rfl ha rfl ?_;rw [if_pos hc24] at hA; rw [hA]; exact ⟨A,c,rfl,hs.perm (List.Perm.swap _ _ _)⟩
theorem RdActns_c (hT : Tabs W) (hs : Sep W w cs) (hk : Pick cs (.rdr p 109 st) r) :
    Calls P 26 #[.pointer (some ⟨p,0,none⟩)] w (Rt fun v w'=>∃ A c,v = .slice A (rActns st).1.length c∧Sep W w' (.ol kActn 48 (.slice A (rActns st).1.length c) (rActns st).1::.rdr p 109 (rActns st).2::r)):=by
  have hM:=rMany_val 20 (by decide) st
  refine enter Tryz.func26 Tryz.ntmps26 rfl rfl fun a (ha : Has a 28 [(0,_)])=>?_;refine wp_seq_k fun K1 hK1=>?_;refine wp_region_lit ?_;refine pY ha (yAssign rfl) fun a ha=>?_;refine pZ ?_;refine hK1 _ _ ?_;refine wp_seq_k fun K2 hK2=>?_;refine wp_seq_k fun K3 hK3=>?_;refine wp_region_lit ?_;refine pY ha (yMove rfl) fun a ha=>?_;refine pC ha (nCall Tryz.call27 rfl) rfl (Many_c 20 hs hk) ?_;rintro v w ⟨rfl,hs⟩ a ha;obtain ⟨m,hm⟩:=Int.eq_ofNat_of_zero_le hM.1;obtain ⟨s1,hs1⟩ : ∃ s1,(rMany 20 st).2 = s1:=⟨_,rfl⟩;rw [hm] at ha;rw [hs1] at hs;refine pY ha (yMove rfl) fun a ha=>?_;refine pZ ?_;refine hK3 _ _ ?_;refine wp_block ?_;refine loopI (ι:=Nat × Option Addr × Nat) (fun i a w=>i.1≤m∧Has a 28 [(0,.pointer (some ⟨p,0,none⟩)),(2,.slice i.2.1 (rList rActn i.1 s1).1.length i.2.2),(4,.int .i64 m),(5,.int .i64 i.1)]∧Sep W w (.ol kActn 48 (.slice i.2.1 (rList rActn i.1 s1).1.length i.2.2) (rList rActn i.1 s1).1::.rdr p 109 (rList rActn i.1 s1).2::r)) (fun i=>m - i.1) ((0,none,0)) ?_ ?_
  · exact ⟨Nat.zero_le _,has4 ha rfl rfl rfl rfl,hs.ol_nil kActn _ none⟩
  · rintro i a w ⟨h1,ha,hs⟩;obtain ⟨i,A,c⟩:=i; simp only at h1 ha hs;refine wp_seq_k fun K4 hK4=>?_;refine wp_region_lit ?_;refine pY ha (yLss rfl rfl) fun a ha=>?_;refine pZ ?_;refine hK4 _ _ ?_;refine wp_seq_k fun K5 hK5=>?_;refine cDec ha rfl (fun hc6=>?_) (fun hc6=>?_)
    · have hll:=rList_len rActn i s1
      have hln:=rList_snoc rActn i s1
      generalize hl : rList rActn i s1 = q at ha hs hll hln;obtain ⟨xs,s2⟩:=q;simp only at ha hs hll hln;refine wp_skip ?_;refine hK5 _ _ ?_;refine wp_seq_k fun K6 hK6=>?_;refine wp_block ?_;refine wp_region_lit ?_;refine pY ha (yMove rfl) fun a ha=>?_;refine pY ha (yMove rfl) fun a ha=>?_;refine pC ha (nCall Tryz.call25 rfl) rfl (RdNum_c hs (.there .here)) ?_;rintro v w ⟨rfl,hs⟩ a ha;refine pY ha (yMove rfl) fun a ha=>?_;refine pC ha (nCall Tryz.call25 rfl) rfl (RdNum_c hs .here) ?_;rintro v w ⟨rfl,hs⟩ a ha;refine pY ha (yMove rfl) fun a ha=>?_;refine pC ha (nCall Tryz.call25 rfl) rfl (RdNum_c hs .here) ?_;rintro v w ⟨rfl,hs⟩ a ha;refine pY ha (yMove rfl) fun a ha=>?_;refine pC ha (nCall Tryz.call70 rfl) rfl (RdText_c hT 100 hs .here) ?_;rintro v w ⟨rfl,hs⟩ a ha;refine pY ha (yMove rfl) fun a ha=>?_;refine pC ha (nCall Tryz.call71 rfl) rfl (RdFlag_c hs .here) ?_;rintro v w ⟨rfl,hs⟩ a ha;refine pY ha (yMove rfl) fun a ha=>?_;refine pC ha (nCall Tryz.call72 rfl) rfl (RdComps_c hT hs .here) ?_;rintro v w ⟨A',c',rfl,hs⟩ a ha;have hs:=hs.ol_rd .here;refine pY ha (bldRdr48_0_1_2_3_4_5 rfl rfl rfl rfl rfl rfl) fun a ha=>?_;refine pMake ha (bslRdr22_1_0 rfl) hs rfl fun b w hs a ha=>?_;have hs:=hs.with_ro (.there .here) (q:=fun Z=>kActn.R Z (rActn s2).1 [.int .i64 (rActn s2).1.kind,.int .i64 (rActn s2).1.id,.int .i64 (rActn s2).1.parent,.string (rActn s2).1.name,.bool (rActn s2).1.dir,.slice A' (rActn s2).1.ops.length c']) (m':=fun _ _ h=>kActn.mono h) (fun Z hp=>⟨A',_,c',rfl,hp⟩);refine pApp1 ha elRdr22 rfl rfl hs pk4 pk1 pk0 rfl (by (unfold maxLen; omega)) (by omega) rfl fun A c w hs a ha=>?_;refine pY ha (yAssign rfl) fun a ha=>?_;refine pZ ?_;refine hK6 _ _ ?_;refine wp_region_lit ?_;refine pY ha (yAddN rfl rfl ⟨by omega,by omega⟩) fun a ha=>?_;refine pY ha (yMove rfl) fun a ha=>?_;refine pZ ?_
      have e1 : (rList rActn (i + 1) s1).1 = xs++[(rActn s2).1]:=by rw [hln]
      have e2 : (rList rActn (i + 1) s1).2 = (rActn s2).2:=by rw [hln]
      refine ⟨(i + 1,A,c),⟨by simp only; omega,?_,?_⟩,by simp only; omega⟩
      · simp only [e1,List.length_append,List.length_cons,List.length_nil]; exact has4 ha rfl rfl rfl rfl
      · simp only [e1,e2,List.length_append,List.length_cons,List.length_nil]; exact hs.drop2
    · refine wp_exit ?_;refine hK2 _ _ ?_;refine wp_seq_k fun K7 hK7=>?_;refine wp_seq_k fun K8 hK8=>?_;obtain rfl : i = m:=by omega
      have hA : rActns st = _:=rAll_at (f:=rActn) hm hs1
      refine wp_region_lit ?_;refine pY ha (yMove rfl) fun a ha=>?_;refine pC ha (nCall Tryz.call29 rfl) rfl (ErrK_c hs (.there .here)) ?_;rintro v w ⟨rfl,hs⟩ a ha;refine pY ha (yNeq rfl rfl) fun a ha=>?_;refine pZ ?_;refine hK8 _ _ ?_;refine cNDec ha rfl (fun hc26=>?_) (fun hc26=>?_)
      · refine wp_seq_k fun K9 hK9=>?_;refine wp_region_lit ?_;refine pY ha (yAssign rfl) fun a ha=>?_;refine pZ ?_;refine hK9 _ _ ?_;refine wp_ret ?_;show bodyPost Tryz.prog Tryz.f26 _ .ret _ _;refine ret1 rfl ha rfl ?_;rw [if_neg hc26] at hA; rw [hA]; exact ⟨none,0,rfl,hs.drop2.ol_nil kActn _ none⟩
      · refine wp_skip ?_;refine hK7 _ _ ?_;refine wp_seq_k fun K10 hK10=>?_;refine wp_region_lit ?_;refine pY ha (yMove rfl) fun a ha=>?_;refine pY ha (yAssign rfl) fun a ha=>?_;refine pZ ?_;refine hK10 _ _ ?_;refine wp_ret ?_;show bodyPost Tryz.prog Tryz.f26 _ .ret _ _;refine ret1 rfl ha rfl ?_;rw [if_pos hc26] at hA; rw [hA]; exact ⟨A,c,rfl,hs.perm (List.Perm.swap _ _ _)⟩
end
end Go.Proofs.YtnlhbkaieoogfaaGreatDoor

set_option linter.unusedVariables false
set_option linter.unusedSimpArgs false
namespace Go.Proofs.YtnlhbkaieoogfaaGreatDoor
open Go.RowKit Go.Lib
section
variable {W w : World} {cs r r' : List Ch}
/-- A place within n. -/
def round (k n : Int) : Int:=if k.tmod n < 0 then k.tmod n + n else k.tmod n
end
end Go.Proofs.YtnlhbkaieoogfaaGreatDoor

set_option linter.unusedVariables false
set_option linter.unusedSimpArgs false
namespace Go.Proofs.YtnlhbkaieoogfaaGreatDoor
open Go.RowKit Go.Lib
theorem elWrt27 : ElemT Tryz.prog 27 5 1 1:=elemT_mk Tryz.underlying27 rfl (by kernel_rfl)
abbrev Wt:=List UInt8 × Bool
def wNum (st : Wt) (n : Int) : Wt:=(st.1++put n,st.2 || !fits n)
def wText (st : Wt) (s : ByteArray) : Wt:=let q:=wNum (st.1,st.2 || !okText s.data.toList) s.size; (q.1++s.data.toList,q.2)
def wFlag (st : Wt) (b : Bool) : Wt:=wNum st (if b then 1 else 0)
def Ch.wtr (p : Nat) (T : TypeId) (st : Wt) : Ch:=.ex (Option Addr × Nat) fun x=>.star (.blk p T [.slice x.1 st.1.length x.2,.bool st.2]) (.ol kU8 5 (.slice x.1 st.1.length x.2) st.1)
theorem tailD_lt : ∀ (k n : Nat),n < 128 ^ k→(tailD n).length≤k
  | 0,n,h=>by
    obtain rfl : n = 0:=by simpa using h
    simp [tailD_zero]
  | k + 1,n,h=>by
    rcases Nat.eq_zero_or_pos n with rfl | h0
    · simp [tailD_zero]
    · rw [tailD_pos h0,List.length_cons]
      have:=tailD_lt k (n / 128) (by rw [Nat.div_lt_iff_lt_mul (by decide)]; rw [Nat.pow_succ] at h; exact h)
      omega
theorem put_six (n : Int) : (put n).length≤6:=by
  unfold put
  split
  · rename_i h
    have h' : 0≤n∧n≤1099511627776:=by simpa [fits] using h
    have:=tailD_lt 5 (n.toNat / 128) (by omega)
    simp only [List.length_reverse,List.length_cons]
    omega
  · simp
section
variable {W w : World} {cs r : List Ch} {p : Nat} {T : TypeId} {st : Wt}
theorem Sep.wtr_open (h : Sep W w cs) (hk : Pick cs (.wtr p T st) r) : ∃ A c,Sep W w (.blk p T [.slice A st.1.length c,.bool st.2]::.ol kU8 5 (.slice A st.1.length c) st.1::r):=by
  obtain ⟨x,h⟩:=(h.pick hk).open_;exact ⟨x.1,x.2,h.split⟩
theorem Sep.wtr_shut {A : Option Addr} {n c : Nat} {b : Bool} {bs : List UInt8} {r' : List Ch} (h : Sep W w cs) (hk : Pick cs (.blk p T [.slice A n c,.bool b]) r) (hk2 : Pick r (.ol kU8 5 (.slice A n c) bs) r') : Sep W w (.wtr p T (bs,b)::r'):=by
  obtain ⟨A',c',e,_⟩:=(h.pick hk).ol_len (.there hk2);simp only [Value.slice.injEq] at e;obtain ⟨rfl,rfl,rfl⟩:=e;refine Sep.pack (A,c) (Sep.join ?_);exact (h.pick hk).perm (hk2.perm.cons _)
theorem WrNum_c (n : Int) (hb : (wNum st n).1.length≤140737488355328) (hs : Sep W w cs) (hk : Pick cs (.wtr p 97 st) r) :
    Calls P 59 #[.pointer (some ⟨p,0,none⟩),.int .i64 n] w (Rt fun v w'=>v = .pointer (some ⟨p,0,none⟩)∧Sep W w' (.wtr p 97 (wNum st n)::r)):=by
  obtain ⟨A,c,hs⟩:=hs.wtr_open hk
  have hlen : st.1.length + (put n).length≤140737488355328:=by simpa [wNum] using hb
  obtain ⟨bs,bad⟩:=st;simp only at hs hlen;refine enter Tryz.func59 Tryz.ntmps59 rfl rfl fun a (ha : Has a 30 [(0,_),(1,_)])=>?_;refine wp_seq_k fun K1 hK1=>?_;refine wp_region_lit ?_;refine pY ha (yAssign rfl) fun a ha=>?_;refine pZ ?_;refine hK1 _ _ ?_;refine wp_seq_k fun K2 hK2=>?_;refine wp_seq_k fun K3 hK3=>?_;refine wp_region_lit ?_;refine pY ha (yMove rfl) fun a ha=>?_;refine pY ha (yPtrNeqN Tryz.underlying95 rfl rfl) fun a ha=>?_;refine pZ ?_;refine hK3 _ _ ?_;refine cTrue ha rfl ?_;refine wp_seq_k fun K4 hK4=>?_;refine cutC (fun a w=>Has a 30 [(0,.pointer (some ⟨p,0,none⟩)),(1,.int .i64 n)]∧Sep W w (.blk p 97 [.slice A bs.length c,.bool (bad || !fits n)]::.ol kU8 5 (.slice A bs.length c) bs::r)) ?_ ?_
  · refine wp_region_lit ?_;refine pY ha (yMove rfl) fun a ha=>?_;refine pY ha (yMove rfl) fun a ha=>?_;refine pY ha (yNilP rfl) fun a ha=>?_;refine pY ha (yFieldA Tryz.runUnderlying97 rfl Tryz.sizeOf4 rfl rfl) fun a ha=>?_;refine pY ha (yLoadB Tryz.isAgg4 hs rfl pk0 rfl) fun a ha=>?_;refine pY ha (yMove rfl) fun a ha=>?_;refine gSplit (t:=12) ha rfl (fun hg5=>?_) (fun hg5=>?_)
    · rw [hg5] at ha;refine gOn ha ?_;refine pY ha (yMove rfl) fun a ha=>?_;refine gOn ha ?_;refine pC ha (nCall Tryz.call80 rfl) rfl (Fits_c _ hs) ?_;rintro v w ⟨rfl,hs⟩ a ha;refine gOn ha ?_;refine pY ha (yNot rfl) fun a ha=>?_;refine pY ha (yPickF rfl rfl) fun a ha=>?_;refine pY ha (yNilP rfl) fun a ha=>?_;refine pY ha (yFieldA Tryz.runUnderlying97 rfl Tryz.sizeOf4 rfl rfl) fun a ha=>?_;refine pStore ha Tryz.sizeOf4 hs rfl rfl rfl rfl pk0 rfl fun w hs=>?_;refine pZ ⟨rfl,?_⟩;rw [hg5]; exact ⟨has2 ha rfl rfl,hs⟩
    · rw [hg5] at ha;refine gOff ha fun a ha=>?_;refine gOff ha fun a ha=>?_;refine gOff ha fun a ha=>?_;refine pY ha (yPickT rfl rfl) fun a ha=>?_;refine pY ha (yNilP rfl) fun a ha=>?_;refine pY ha (yFieldA Tryz.runUnderlying97 rfl Tryz.sizeOf4 rfl rfl) fun a ha=>?_;refine pStore ha Tryz.sizeOf4 hs rfl rfl rfl rfl pk0 rfl fun w hs=>?_;refine pZ ⟨rfl,?_⟩;rw [hg5]; exact ⟨has2 ha rfl rfl,hs⟩
  rintro a w ⟨ha,hs⟩;refine hK4 _ _ ?_;refine dStart (fun w=>Sep W w _) [7,10] 2047 126 (by kernel_rfl) (by kernel_rfl) rfl (hs.drew) ?_
  have hs:=Sep.drew hs
  generalize World.drew _ = w at hs ⊢;refine dP 0 1 rfl ha (fun _=>yMove rfl) fun a ha=>?_;refine dP 1 3 rfl ha (fun _=>yMove rfl) fun a ha=>?_;refine dP 2 7 rfl ha (fun _=>yNilP rfl) fun a ha=>?_;refine dP 3 15 rfl ha (fun _=>yFieldA Tryz.runUnderlying97 rfl Tryz.sizeOf27 rfl rfl) fun a ha=>?_;refine dT 4 31 rfl ha (fun _ hs=>yLoadB Tryz.isAgg27 hs rfl pk0 rfl) (hs) fun a ha=>?_;refine dP 5 63 rfl ha (fun _=>yMove rfl) fun a ha=>?_;refine dC 6 127 rfl (by kernel_rfl) rfl ha won0 (nCall Tryz.call94 rfl) rfl (Put_c _ hs) ?_;rintro v w ⟨A',c',rfl,hs⟩;refine ⟨hs.drop,fun a ha=>?_⟩;have hs:=hs.ol_rd .here;refine dAppRdl 7 255 rfl (by kernel_rfl) rfl ha won0 elWrt27 rfl rfl hs pk2 pk0 rfl (by (unfold maxLen; omega)) (by omega) rfl fun A c w hs a ha=>?_;refine dP 8 511 rfl ha (fun _=>yNilP rfl) fun a ha=>?_;refine dP 9 1023 rfl ha (fun _=>yFieldA Tryz.runUnderlying97 rfl Tryz.sizeOf27 rfl rfl) fun a ha=>?_;refine dStorel 10 2047 rfl (by kernel_rfl) rfl ha won0 Tryz.sizeOf27 hs rfl rfl rfl rfl pk2 rfl fun w hs=>?_;refine dZ (by kernel_rfl) ?_;refine hK2 _ _ ?_;refine wp_seq_k fun K5 hK5=>?_;refine wp_region_lit ?_;refine pY ha (yMove rfl) fun a ha=>?_;refine pY ha (yAssign rfl) fun a ha=>?_;refine pZ ?_;refine hK5 _ _ ?_;refine wp_ret ?_;show bodyPost Tryz.prog Tryz.f59 _ .ret _ _;refine ret1 rfl ha rfl ?_;exact ⟨rfl,(hs.wtr_shut .here .here).drop2⟩
theorem WrFlag_c (b : Bool) (hb : (wFlag st b).1.length≤140737488355328) (hs : Sep W w cs) (hk : Pick cs (.wtr p 97 st) r) :
    Calls P 96 #[.pointer (some ⟨p,0,none⟩),.bool b] w (Rt fun v w'=>v = .pointer (some ⟨p,0,none⟩)∧Sep W w' (.wtr p 97 (wFlag st b)::r)):=by
  unfold wFlag at hb ⊢;refine enter Tryz.func96 Tryz.ntmps96 rfl rfl fun a (ha : Has a 10 [(0,_),(1,_)])=>?_;refine wp_seq_k fun K1 hK1=>?_;refine wp_region_lit ?_;refine pY ha (yAssign rfl) fun a ha=>?_;refine pZ ?_;refine hK1 _ _ ?_;refine wp_seq_k fun K2 hK2=>?_;refine wp_seq_k fun K3 hK3=>?_;refine wp_region_lit ?_;refine pY ha (yMove rfl) fun a ha=>?_;refine pZ ?_;refine hK3 _ _ ?_;refine cSplit ha rfl (fun hc5=>?_) (fun hc5=>?_)
  · subst hc5;refine wp_seq_k fun K4 hK4=>?_;refine wp_region_lit ?_;refine pY ha (yMove rfl) fun a ha=>?_;refine pC ha (nCall Tryz.call59 rfl) rfl (WrNum_c 1 hb hs hk) ?_;rintro v w ⟨rfl,hs⟩ a ha;refine pY ha (yAssign rfl) fun a ha=>?_;refine pZ ?_;refine hK4 _ _ ?_;refine wp_ret ?_;show bodyPost Tryz.prog Tryz.f96 _ .ret _ _;refine ret1 rfl ha rfl ?_;exact ⟨rfl,hs⟩
  · subst hc5;refine wp_skip ?_;refine hK2 _ _ ?_;refine wp_seq_k fun K5 hK5=>?_;refine wp_region_lit ?_;refine pY ha (yMove rfl) fun a ha=>?_;refine pC ha (nCall Tryz.call59 rfl) rfl (WrNum_c 0 hb hs hk) ?_;rintro v w ⟨rfl,hs⟩ a ha;refine pY ha (yAssign rfl) fun a ha=>?_;refine pZ ?_;refine hK5 _ _ ?_;refine wp_ret ?_;show bodyPost Tryz.prog Tryz.f96 _ .ret _ _;refine ret1 rfl ha rfl ?_;exact ⟨rfl,hs⟩
theorem WrDone_c (hb : st.1.length≤140737488355328) (hs : Sep W w cs) (hk : Pick cs (.wtr p 97 st) r) :
    Calls P 62 #[.pointer (some ⟨p,0,none⟩)] w (Rt fun v w'=>if st.2 = true then v = .tuple #[.slice none 0 0,.bool false]∧Sep W w' (.wtr p 97 st::r)
      else ∃ A c,v = .tuple #[.slice A st.1.length c,.bool true]∧Sep W w' (.ol kU8 5 (.slice A st.1.length c) st.1::r)):=by
  obtain ⟨A,c,hs⟩:=hs.wtr_open hk;refine enter Tryz.func62 Tryz.ntmps62 rfl rfl fun a (ha : Has a 17 [(0,_)])=>?_;refine wp_seq_k fun K1 hK1=>?_;refine wp_region_lit ?_;refine pY ha (yAssign rfl) fun a ha=>?_;refine pY ha (yAssign rfl) fun a ha=>?_;refine pZ ?_;refine hK1 _ _ ?_;refine wp_seq_k fun K2 hK2=>?_;refine wp_seq_k fun K3 hK3=>?_;refine wp_region_lit ?_;refine pY ha (yMove rfl) fun a ha=>?_;refine pY ha (yPtrEqlN Tryz.underlying95 rfl rfl) fun a ha=>?_;refine pY ha (yMove rfl) fun a ha=>?_;refine gSplit (t:=6) ha rfl (fun hg2=>?_) (fun hg2=>?_)
  · rw [hg2] at ha;refine gOn ha ?_;refine pY ha (yMove rfl) fun a ha=>?_;refine gOn ha ?_;refine pY ha (yNilP rfl) fun a ha=>?_;refine gOn ha ?_;refine pY ha (yFieldA Tryz.runUnderlying97 rfl Tryz.sizeOf4 rfl rfl) fun a ha=>?_;refine gOn ha ?_;refine pY ha (yLoadB Tryz.isAgg4 hs rfl pk0 rfl) fun a ha=>?_;refine pY ha (yPickF rfl rfl) fun a ha=>?_;refine pZ ?_;refine hK3 _ _ ?_;refine cSplit ha rfl (fun hc11=>?_) (fun hc11=>?_)
    · refine wp_seq_k fun K4 hK4=>?_;refine wp_region_lit ?_;refine pY ha (yAssign rfl) fun a ha=>?_;refine pY ha (yAssign rfl) fun a ha=>?_;refine pZ ?_;refine hK4 _ _ ?_;refine wp_ret ?_;show bodyPost Tryz.prog Tryz.f62 _ .ret _ _;refine ret2 rfl ha rfl rfl ?_;rw [if_pos hc11]; exact ⟨rfl,hs.wtr_shut .here .here⟩
    · refine wp_skip ?_;refine hK2 _ _ ?_;refine wp_seq_k fun K5 hK5=>?_;refine wp_region_lit ?_;refine pY ha (yMove rfl) fun a ha=>?_;refine pY ha (yNilP rfl) fun a ha=>?_;refine pY ha (yFieldA Tryz.runUnderlying97 rfl Tryz.sizeOf27 rfl rfl) fun a ha=>?_;refine pY ha (yLoadB Tryz.isAgg27 hs rfl pk0 rfl) fun a ha=>?_;refine pC ha (nCall Tryz.call67 rfl) rfl (CloneB_c ((hs.perm (List.Perm.swap _ _ _)).ol_rd .here) .here hb) ?_;rintro v w ⟨A',c',rfl,hs⟩ a ha;refine pY ha (yAssign rfl) fun a ha=>?_;refine pY ha (yAssign rfl) fun a ha=>?_;refine pZ ?_;refine hK5 _ _ ?_;refine wp_ret ?_;show bodyPost Tryz.prog Tryz.f62 _ .ret _ _;refine ret2 rfl ha rfl rfl ?_;rw [if_neg (by simp [hc11])]; exact ⟨A',c',rfl,hs.drop3⟩
  · simp at hg2
end
end Go.Proofs.YtnlhbkaieoogfaaGreatDoor

set_option linter.unusedVariables false
set_option linter.unusedSimpArgs false
namespace Go.Proofs.YtnlhbkaieoogfaaGreatDoor
open Go.RowKit Go.Lib
section
variable {W w : World} {cs r r2 : List Ch}
theorem Sep.rd_int {A : Option Addr} {n c i : Nat} {xs : List Int} {x : Int} (h : Sep W w cs) (hk : Pick cs (.rd kInt (.slice A n c) xs) r) (hx : xs[i]? = some x) :
    ∃ b off,A = some ⟨b,off,none⟩∧(-9223372036854775808≤x∧x≤9223372036854775807)∧Sep W w (.at b (off + i * 1) [.int .i64 x]::cs):=by
  obtain ⟨b,off,c',es,he,hl,hs⟩:=h.rd_at hk hx;simp only [Value.slice.injEq] at he
  have hes : es = [.int .i64 x]∧-9223372036854775808≤x∧x≤9223372036854775807:=hs.know (.there .here) (fun Z _ hp=>hp)
  obtain ⟨hes,h1⟩:=hes;subst hes;exact ⟨b,off,he.1,h1,hs.drop2⟩
end
end Go.Proofs.YtnlhbkaieoogfaaGreatDoor

set_option linter.unusedVariables false
set_option linter.unusedSimpArgs false
namespace Go.Proofs.YtnlhbkaieoogfaaGreatDoor
open Go.RowKit Go.Lib
section
variable {P : Program} {W w w' : World} {N dd : Nat} {a : Act} {ops : Array Oper} {Q : Exit→Act→World→Prop} {rest : List Oper} {ps : String} {af : Array Edge} {l : List (Nat × Value)} {T U U' : TypeId} {cs r : List Ch} {x y : Operand} {b : Nat} {s : ByteArray} {pos : Nat}
theorem and192 : ∀ m : Fin 256,bits .and .u8 (m.val : Int) 192 = (m.val : Int) / 64 * 64:=by decide +kernel
theorem yAndStart {m : Nat} (hm : m < 256) (hx : ev l x = some (.int .u8 m)) (hy : ev l y = some (.int .u8 192)) : Yl P w l (.binOp .and U x y U') T (.int .u8 ((m : Int) / 64 * 64)) :=
  yBin hx hy (fun _ _=>eqg_int) (by rw [binOp_and,intBits_and]; rw [and192 ⟨m,hm⟩]; rfl)
/-- 'range' over a text. -/
theorem pRangeS (ha : Has a N l) (hu : ∀ w,(underlying U).run P w = .ok .string w) (hx : ev l x = some (.string s)) (hs : Sep W w cs) (hd : Nat.blt dd N = true)
    (h : ∀ b w,Sep W w (.own b (.stringIter s 0)::cs)→∀ a,Has a N ((dd,.pointer (some ⟨b,0,none⟩))::l)→wpList P ops Q rest a w) : wpList P ops Q (⟨some dd,.range U x,T,ps,af,none⟩::rest) a w:=by
  refine pE ha (v:=.pointer (some ⟨w.heap.size,0,none⟩)) (w':=w.alloc (.stringIter s 0)) (fun ρ o hE ho hT=>?_) hd fun a ha=>h _ _ (hs.alloc _) a ha;unfold execOp; rw [ho]
  simp [hE _ _ hx,Instr.range,hu]
theorem sNextS (hs : Sep W w cs) (hk : Pick cs (.own b (.stringIter s pos)) r) (hp : pos < s.size) : ∃ w',(∀ ty,(Instr.next (.pointer (some ⟨b,0,none⟩)) true ty).run P w = .ok (.tuple #[.bool true,.int .i64 pos,.int .i32 (Utf8.decode s pos).1]) w') ∧
    Sep W w' (.own b (.stringIter s (pos + (Utf8.decode s pos).2))::r):=by
  have hb:=hs.own_at hk
  have hlt : b < w.heap.size:=(Array.getElem?_eq_some_iff.1 hb).1
  refine ⟨{ w with heap:=w.heap.setIfInBounds b (.stringIter s (pos + (Utf8.decode s pos).2)) },fun ty=>?_,(hs.pick hk).change rfl rfl rfl ?_ fun i hi=>?_⟩
  · simp [Instr.next,getObj,setObj,Sem.run,hb,hp,goInt,Result.andThen]
  · simp [Array.getElem?_setIfInBounds,hlt]
  · rw [Array.getElem?_setIfInBounds_ne (by omega)]
theorem pNextS (ha : Has a N l) (hs : Sep W w cs) (hx : ev l x = some (.pointer (some ⟨b,0,none⟩))) (hk : Pick cs (.own b (.stringIter s pos)) r) (hp : pos < s.size) (hd : Nat.blt dd N = true)
    (h : ∀ w,Sep W w (.own b (.stringIter s (pos + (Utf8.decode s pos).2))::r)→∀ a,Has a N ((dd,.tuple #[.bool true,.int .i64 pos,.int .i32 (Utf8.decode s pos).1])::l)→wpList P ops Q rest a w) : wpList P ops Q (⟨some dd,.next x true,T,ps,af,none⟩::rest) a w:=by
  obtain ⟨w',h1,h2⟩:=sNextS (P:=P) hs hk hp;refine pE ha (v:=.tuple #[.bool true,.int .i64 pos,.int .i32 (Utf8.decode s pos).1]) (w':=w') (fun ρ o hE ho hT=>?_) hd fun a ha=>h _ h2 a ha;unfold execOp; rw [ho]
  simp [hE _ _ hx,h1]
theorem pNextSE (ha : Has a N l) (hs : Sep W w cs) (hx : ev l x = some (.pointer (some ⟨b,0,none⟩))) (hk : Pick cs (.own b (.stringIter s pos)) r) (hp : s.size≤pos) (hd : Nat.blt dd N = true)
    (h : ∀ a,Has a N ((dd,.tuple #[.bool false])::l)→wpList P ops Q rest a w) : wpList P ops Q (⟨some dd,.next x true,T,ps,af,none⟩::rest) a w:=by
  have hb:=hs.own_at hk
  refine pE ha (v:=.tuple #[.bool false]) (w':=w) (fun ρ o hE ho hT=>?_) hd fun a ha=>h a ha;unfold execOp; rw [ho]
  have hp' : ¬ pos < s.size:=by omega
  simp [hE _ _ hx,Instr.next,getObj,Sem.run,hb,hp',Result.andThen]
end
section
variable {W w : World} {cs r : List Ch}
theorem RuneStart_c (b : UInt8) (hs : Sep W w cs) : Calls P 130 #[.int .u8 b.toNat] w (Rt fun v w'=>v = .bool (decide (b.toNat / 64 ≠ 2))∧Sep W w' cs):=by
  have hb:=b.toNat_lt
  refine enter Tryz.func130 Tryz.ntmps130 rfl rfl fun a (ha : Has a 6 [(0,_)])=>?_;refine wp_seq_k fun K1 hK1=>?_;refine wp_region_lit ?_;refine pY ha (yAssign rfl) fun a ha=>?_;refine pZ ?_;refine hK1 _ _ ?_;refine wp_seq_k fun K2 hK2=>?_;refine wp_region_lit ?_;refine pY ha (yMove rfl) fun a ha=>?_;refine pY ha (yAndStart (m:=b.toNat) (by omega) rfl rfl) fun a ha=>?_;refine pY ha (yNeq rfl rfl) fun a ha=>?_;refine pY ha (yAssign rfl) fun a ha=>?_;refine pZ ?_;refine hK2 _ _ ?_;refine wp_ret ?_;show bodyPost Tryz.prog Tryz.f130 _ .ret _ _;refine ret1 rfl ha rfl ?_;refine ⟨congrArg Value.bool ?_,hs⟩;rw [← decide_not,decide_eq_decide]; omega
theorem RuneCount_c (s : ByteArray) (hok : okText s.data.toList = true) (hsz : s.size≤9223372036854775807) (hs : Sep W w cs) : Calls P 109 #[.string s] w (Rt fun v w'=>v = .int .i64 (cnt s.data.toList)∧Sep W w' cs):=by
  have hlen : s.data.toList.length = s.size:=by simp
  refine enter Tryz.func109 Tryz.ntmps109 rfl rfl fun a (ha : Has a 10 [(0,_)])=>?_;refine wp_seq_k fun K1 hK1=>?_;refine wp_region_lit ?_;refine pY ha (yAssign rfl) fun a ha=>?_;refine pZ ?_;refine hK1 _ _ ?_;refine wp_seq_k fun K2 hK2=>?_;refine wp_seq_k fun K3 hK3=>?_;refine wp_region_lit ?_;refine pY ha (yMove rfl) fun a ha=>?_;refine pRangeS ha Tryz.runUnderlying9 rfl hs rfl fun b w hs a ha=>?_;refine pZ ?_;refine hK3 _ _ ?_;refine wp_block ?_;refine loopI (ι:=Nat × Nat) (fun i a w=>i.1≤s.size∧okText (s.data.toList.drop i.1) = true∧i.2 = cnt (s.data.toList.take i.1)∧Has a 10 [(2,.int .i64 i.2),(4,.pointer (some ⟨b,0,none⟩))]∧Sep W w (.own b (.stringIter s i.1)::cs)) (fun i=>s.size - i.1) ((0,0)) ?_ ?_
  · exact ⟨Nat.zero_le _,hok,rfl,has2 ha rfl rfl,hs⟩
  · rintro i a w ⟨h1,h2,h3,ha,hs⟩;obtain ⟨pos,n⟩:=i; simp only at h1 h2 h3 ha hs;refine wp_seq_k fun K4 hK4=>?_;refine wp_region_lit ?_
    rcases Nat.lt_or_ge pos s.size with hp | hp
    · have hne : s.data.toList.drop pos ≠ []:=by intro e; have:=congrArg List.length e; rw [List.length_drop] at this; simp at this; omega
      obtain ⟨k1,k2,k3,k4,k5,k6,k7⟩:=ok_step hne h2;rw [decodeL_drop] at k1 k2 k3 k4 k5;rw [List.length_drop,hlen] at k2
      have hcl:=cnt_le (s.data.toList.take pos)
      rw [List.length_take] at hcl;refine pNextS ha hs rfl pk0 hp rfl fun w hs a ha=>?_;refine pY ha (yExtract rfl rfl) fun a ha=>?_;refine pZ ?_;refine hK4 _ _ ?_;refine wp_seq_k fun K5 hK5=>?_;refine cTrue ha rfl ?_;refine wp_skip ?_;refine hK5 _ _ ?_;refine wp_block ?_;refine wp_region_lit ?_;refine pY ha (yMove rfl) fun a ha=>?_;refine pY ha (yAddN rfl rfl ⟨by omega,by omega⟩) fun a ha=>?_;refine pY ha (yAssign rfl) fun a ha=>?_;refine pZ ?_;refine ⟨(pos + (Utf8.decode s pos).2,n + 1),⟨by simp only; omega,by rw [List.drop_drop] at k5; exact k5,?_,has2 ha rfl rfl,hs⟩,by simp only; omega⟩;simp only;rw [List.take_add,cnt_append,k4,← h3]
    · refine pNextSE ha hs rfl pk0 hp rfl fun a ha=>?_;refine pY ha (yExtract rfl rfl) fun a ha=>?_;refine pZ ?_;refine hK4 _ _ ?_;refine wp_seq_k fun K6 hK6=>?_;refine cFalse ha rfl ?_;refine wp_exit ?_;refine hK2 _ _ ?_;refine wp_seq_k fun K7 hK7=>?_;refine wp_region_lit ?_;refine pY ha (yMove rfl) fun a ha=>?_;refine pY ha (yAssign rfl) fun a ha=>?_;refine pZ ?_;refine hK7 _ _ ?_;refine wp_ret ?_;show bodyPost Tryz.prog Tryz.f109 _ .ret _ _;refine ret1 rfl ha rfl ?_;rw [List.take_of_length_le (by omega)] at h3; rw [← h3]; exact ⟨rfl,hs.drop⟩
theorem Count_c (hT : Tabs W) (s : ByteArray) (hsz : s.size≤9223372036854775807) (hs : Sep W w cs) : Calls P 125 #[.string s] w (Rt fun v w'=>v = (if okText s.data.toList = true then .tuple #[.int .i64 (cnt s.data.toList),.int .i64 0] else .tuple #[.int .i64 0,.int .i64 2])∧Sep W w' cs):=by
  have hlen : s.data.toList.length = s.size:=by simp
  refine enter Tryz.func125 Tryz.ntmps125 rfl rfl fun a (ha : Has a 30 [(0,_)])=>?_;refine wp_seq_k fun K1 hK1=>?_;refine wp_region_lit ?_;refine pY ha (yAssign rfl) fun a ha=>?_;refine pY ha (yAssign rfl) fun a ha=>?_;refine pZ ?_;refine hK1 _ _ ?_;refine scopeN (ι:=Nat × Nat) 1 (fun i a w=>okText s.data.toList = true∧i.1≤s.size∧i.2 = cnt (s.data.toList.take i.1)∧(∀ x,s.data.toList[i.1]? = some x→x.toNat / 64 ≠ 2)∧Has a 30 [(0,.string s),(2,.int .i64 i.2),(4,.int .i64 i.1)]∧Sep W w cs) (fun i=>s.size - i.1) 1 ?_ ?_
  · refine wp_seq_k fun K2 hK2=>?_;refine wp_seq_k fun K3 hK3=>?_;refine wp_region_lit ?_;refine pY ha (yMove rfl) fun a ha=>?_;refine pC ha (nCall Tryz.call102 rfl) rfl (Valid_c hT s hsz hs) ?_;rintro v w ⟨rfl,hs⟩ a ha;refine pY ha (yNot rfl) fun a ha=>?_;refine pZ ?_;refine hK3 _ _ ?_;refine cSplit ha rfl (fun hc7=>?_) (fun hc7=>?_)
    · have hok : ¬ okText s.data.toList = true:=by simpa using hc7
      refine wp_seq_k fun K4 hK4=>?_;refine wp_region_lit ?_;refine pY ha (yAssign rfl) fun a ha=>?_;refine pY ha (yAssign rfl) fun a ha=>?_;refine pZ ?_;refine hK4 _ _ ?_;refine wp_ret ?_;show bodyPost Tryz.prog Tryz.f125 _ .ret _ _;refine ret2 rfl ha rfl rfl ?_;rw [if_neg hok]; exact ⟨rfl,hs⟩
    · have hok : okText s.data.toList = true:=by simpa using hc7
      refine wp_skip ?_;refine hK2 _ _ ?_;refine wp_seq_k fun K5 hK5=>?_;refine wp_region_lit ?_;refine pY ha (yAssign rfl) fun a ha=>?_;refine pZ ?_;refine hK5 _ _ ?_;refine wp_seq_k fun K6 hK6=>?_;refine wp_label ?_;refine hK6 _ _ ?_;refine wp_seq_k fun K7 hK7=>?_;refine wp_seq_k fun K8 hK8=>?_
      (obtain ⟨i,hi0⟩ : ∃ i : Nat,(0 : Int) = i:=⟨0,rfl⟩
       rw [hi0] at ha;obtain ⟨n,hn⟩ : ∃ n : Nat,n = i:=⟨i,rfl⟩
       have ha : Has a 30 [(0,.string s),(2,.int .i64 n),(4,.int .i64 i)]:=by subst hn; exact has3 ha rfl rfl rfl
       have hi1 : i = 0:=by omega
       have h1 : i≤s.size:=by omega
       have h2 : n = cnt (s.data.toList.take i):=by subst hn; subst hi1; rfl
       have h3 : ∀ x,s.data.toList[i]? = some x→x.toNat / 64 ≠ 2:=fun x hx=>by
         subst hi1
         have hne : s.data.toList ≠ []:=by intro e; rw [e] at hx; simp at hx
         have:=(ok_step hne hok).2.2.2.2.2.2
         rw [List.getD_eq_getElem?_getD,hx] at this
         exact this)
      refine wp_region_lit ?_;refine pY ha (yMove rfl) fun a ha=>?_;refine pY ha (yMove rfl) fun a ha=>?_;refine pY ha (yLenStr Tryz.runUnderlying9 rfl) fun a ha=>?_;refine pY ha (yEql rfl rfl) fun a ha=>?_;refine pZ ?_;refine hK8 _ _ ?_;refine cDec ha rfl (fun hc11=>?_) (fun hc11=>?_)
      · refine wp_goto ?_
        repeat (with_reducible first | refine gThen ?_ | refine gBlock ?_)
        refine gxF rfl rfl ?_;refine wp_seq_k fun K9 hK9=>?_;refine wp_skip ?_;refine hK9 _ _ ?_;refine wp_seq_k fun K10 hK10=>?_;refine wp_region_lit ?_;refine pY ha (yMove rfl) fun a ha=>?_;refine pY ha (yAssign rfl) fun a ha=>?_;refine pY ha (yAssign rfl) fun a ha=>?_;refine pZ ?_;refine hK10 _ _ ?_;refine wp_ret ?_;show bodyPost Tryz.prog Tryz.f125 _ .ret _ _;refine ret2 rfl ha rfl rfl ?_;rw [if_pos hok]; rw [List.take_of_length_le (by omega)] at h2; rw [← h2]; exact ⟨rfl,hs⟩
      · obtain ⟨x0,hx0,_⟩:=list_at s (i:=i) (by omega)
        have hx1:=h3 x0 hx0
        have hcl:=cnt_le (s.data.toList.take i)
        rw [List.length_take] at hcl;refine wp_skip ?_;refine hK7 _ _ ?_;refine wp_seq_k fun K11 hK11=>?_;refine wp_seq_k fun K12 hK12=>?_;refine wp_region_lit ?_;refine pY ha (yMove rfl) fun a ha=>?_;refine pY ha (yAddN rfl rfl ⟨by omega,by omega⟩) fun a ha=>?_;refine pY ha (yAssign rfl) fun a ha=>?_;refine pZ ?_;refine hK12 _ _ ?_;refine wp_block ?_;refine loopI (ι:=Nat) (fun j a w=>i + 1≤j∧j≤s.size∧cnt (s.data.toList.take j) = n + 1∧Has a 30 [(0,.string s),(2,.int .i64 n),(4,.int .i64 j)]∧Sep W w cs) (fun j=>s.size - j) (i + 1) ?_ ?_
        · refine ⟨Nat.le_refl _,by omega,?_,has3 ha rfl rfl rfl,hs⟩;rw [List.take_add_one,hx0,cnt_append]; simp only [Option.toList]; rw [cnt_cons,cnt_nil,if_neg hx1,← h2]
        · rintro j a w ⟨g1,g2,g3,ha,hs⟩;refine wp_seq_k fun K13 hK13=>?_;refine wp_seq_k fun K14 hK14=>?_;refine wp_region_lit ?_;refine pY ha (yMove rfl) fun a ha=>?_;refine pY ha (yMove rfl) fun a ha=>?_;refine pY ha (yLenStr Tryz.runUnderlying9 rfl) fun a ha=>?_;refine pY ha (yLss rfl rfl) fun a ha=>?_;refine pY ha (yMove rfl) fun a ha=>?_;refine gDec (t:=18) ha rfl (fun hg4 hp4=>?_) (fun hg4 hp4=>?_)
          · rw [hg4] at ha
            have hp4:=of_decide_eq_false hg4
            have hst : ∀ x,s.data.toList[j]? = some x→x.toNat / 64 ≠ 2:=fun x hx=>by
              have:=(List.getElem?_eq_some_iff.1 hx).1
              omega
            refine gOff ha fun a ha=>?_;refine gOff ha fun a ha=>?_;refine gOff ha fun a ha=>?_;refine gOff ha fun a ha=>?_;refine gOff ha fun a ha=>?_;refine pY ha (yPickF rfl rfl) fun a ha=>?_;refine pZ ?_;refine hK14 _ _ ?_;refine cFalse ha rfl ?_;refine wp_exit ?_;refine hK11 _ _ ?_;refine wp_seq_k fun K15 hK15=>?_;refine wp_region_lit ?_;refine pY ha (yMove rfl) fun a ha=>?_;refine pY ha (yAddN rfl rfl ⟨by omega,by omega⟩) fun a ha=>?_;refine pY ha (yAssign rfl) fun a ha=>?_;refine pZ ?_;refine hK15 _ _ ?_;refine wp_seq_k fun K16 hK16=>?_;refine wp_goto ?_
            repeat (with_reducible first | refine gThen ?_ | refine gBlock ?_)
            refine gxL ?_;refine ⟨(j,n + 1),hok,by simp only; omega,by simp only; omega,hst,has3 ha rfl rfl rfl,hs⟩
          · rw [hg4] at ha
            have hp4:=of_decide_eq_true hg4
            obtain ⟨y0,hy0,_⟩:=list_at s (i:=j) (by omega);refine gOn ha ?_;refine pY ha (yMove rfl) fun a ha=>?_;refine gOn ha ?_;refine pY ha (yMove rfl) fun a ha=>?_;refine gOn ha ?_;refine pY ha (yIndexSb Tryz.runUnderlying9 rfl rfl (by omega) (by simpa using hy0)) fun a ha=>?_;refine gOn ha ?_;refine pC ha (nCall Tryz.call130 rfl) rfl (RuneStart_c y0 hs) ?_;rintro v w ⟨rfl,hs⟩ a ha;refine gOn ha ?_;refine pY ha (yNot rfl) fun a ha=>?_;refine pY ha (yPickT rfl rfl) fun a ha=>?_;refine pZ ?_;refine hK14 _ _ ?_;refine cNDec ha rfl (fun hc24=>?_) (fun hc24=>?_)
            · have hy1 : y0.toNat / 64 = 2:=by simpa using hc24
              refine wp_skip ?_;refine hK13 _ _ ?_;refine wp_seq_k fun K17 hK17=>?_;refine wp_block ?_;refine wp_skip ?_;refine hK17 _ _ ?_;refine wp_region_lit ?_;refine pY ha (yMove rfl) fun a ha=>?_;refine pY ha (yAddN rfl rfl ⟨by omega,by omega⟩) fun a ha=>?_;refine pY ha (yAssign rfl) fun a ha=>?_;refine pZ ?_;refine ⟨j + 1,⟨by omega,by omega,?_,has3 ha rfl rfl rfl,hs⟩,by omega⟩;rw [List.take_add_one,hy0,cnt_append]; simp only [Option.toList]; rw [cnt_cons,cnt_nil,if_pos hy1,g3]
            · (have hst : ∀ x,s.data.toList[j]? = some x→x.toNat / 64 ≠ 2:=fun x hx=>by
                 rw [hy0] at hx
                 cases hx
                 simpa using hc24)
              refine wp_exit ?_;refine hK11 _ _ ?_;refine wp_seq_k fun K18 hK18=>?_;refine wp_region_lit ?_;refine pY ha (yMove rfl) fun a ha=>?_;refine pY ha (yAddN rfl rfl ⟨by omega,by omega⟩) fun a ha=>?_;refine pY ha (yAssign rfl) fun a ha=>?_;refine pZ ?_;refine hK18 _ _ ?_;refine wp_seq_k fun K19 hK19=>?_;refine wp_goto ?_
              repeat (with_reducible first | refine gThen ?_ | refine gBlock ?_)
              refine gxL ?_;refine ⟨(j,n + 1),hok,by simp only; omega,by simp only; omega,hst,has3 ha rfl rfl rfl,hs⟩
  · rintro i a w ⟨hok,h1,h2,h3,ha,hs⟩;refine ⟨_,rfl,?_⟩;refine wp_seq_k fun K20 hK20=>?_;refine wp_skip ?_;refine hK20 _ _ ?_;refine wp_seq_k fun K21 hK21=>?_;refine wp_seq_k fun K22 hK22=>?_
    (obtain ⟨i,n⟩:=i; simp only at h1 h2 h3 ha hs; obtain hnn : n = n:=rfl)
    refine wp_region_lit ?_;refine pY ha (yMove rfl) fun a ha=>?_;refine pY ha (yMove rfl) fun a ha=>?_;refine pY ha (yLenStr Tryz.runUnderlying9 rfl) fun a ha=>?_;refine pY ha (yEql rfl rfl) fun a ha=>?_;refine pZ ?_;refine hK22 _ _ ?_;refine cDec ha rfl (fun hc11=>?_) (fun hc11=>?_)
    · refine wp_goto ?_
      repeat (with_reducible first | refine gThen ?_ | refine gBlock ?_)
      refine gxF rfl rfl ?_;refine wp_seq_k fun K23 hK23=>?_;refine wp_skip ?_;refine hK23 _ _ ?_;refine wp_seq_k fun K24 hK24=>?_;refine wp_region_lit ?_;refine pY ha (yMove rfl) fun a ha=>?_;refine pY ha (yAssign rfl) fun a ha=>?_;refine pY ha (yAssign rfl) fun a ha=>?_;refine pZ ?_;refine hK24 _ _ ?_;refine wp_ret ?_;show bodyPost Tryz.prog Tryz.f125 _ .ret _ _;refine ret2 rfl ha rfl rfl ?_;rw [if_pos hok]; rw [List.take_of_length_le (by omega)] at h2; rw [← h2]; exact ⟨rfl,hs⟩
    · obtain ⟨x0,hx0,_⟩:=list_at s (i:=i) (by omega)
      have hx1:=h3 x0 hx0
      have hcl:=cnt_le (s.data.toList.take i)
      rw [List.length_take] at hcl;refine wp_skip ?_;refine hK21 _ _ ?_;refine wp_seq_k fun K25 hK25=>?_;refine wp_seq_k fun K26 hK26=>?_;refine wp_region_lit ?_;refine pY ha (yMove rfl) fun a ha=>?_;refine pY ha (yAddN rfl rfl ⟨by omega,by omega⟩) fun a ha=>?_;refine pY ha (yAssign rfl) fun a ha=>?_;refine pZ ?_;refine hK26 _ _ ?_;refine wp_block ?_;refine loopI (ι:=Nat) (fun j a w=>i + 1≤j∧j≤s.size∧cnt (s.data.toList.take j) = n + 1∧Has a 30 [(0,.string s),(2,.int .i64 n),(4,.int .i64 j)]∧Sep W w cs) (fun j=>s.size - j) (i + 1) ?_ ?_
      · refine ⟨Nat.le_refl _,by omega,?_,has3 ha rfl rfl rfl,hs⟩;rw [List.take_add_one,hx0,cnt_append]; simp only [Option.toList]; rw [cnt_cons,cnt_nil,if_neg hx1,← h2]
      · rintro j a w ⟨g1,g2,g3,ha,hs⟩;refine wp_seq_k fun K27 hK27=>?_;refine wp_seq_k fun K28 hK28=>?_;refine wp_region_lit ?_;refine pY ha (yMove rfl) fun a ha=>?_;refine pY ha (yMove rfl) fun a ha=>?_;refine pY ha (yLenStr Tryz.runUnderlying9 rfl) fun a ha=>?_;refine pY ha (yLss rfl rfl) fun a ha=>?_;refine pY ha (yMove rfl) fun a ha=>?_;refine gDec (t:=18) ha rfl (fun hg4 hp4=>?_) (fun hg4 hp4=>?_)
        · rw [hg4] at ha
          have hp4:=of_decide_eq_false hg4
          have hst : ∀ x,s.data.toList[j]? = some x→x.toNat / 64 ≠ 2:=fun x hx=>by
            have:=(List.getElem?_eq_some_iff.1 hx).1
            omega
          refine gOff ha fun a ha=>?_;refine gOff ha fun a ha=>?_;refine gOff ha fun a ha=>?_;refine gOff ha fun a ha=>?_;refine gOff ha fun a ha=>?_;refine pY ha (yPickF rfl rfl) fun a ha=>?_;refine pZ ?_;refine hK28 _ _ ?_;refine cFalse ha rfl ?_;refine wp_exit ?_;refine hK25 _ _ ?_;refine wp_seq_k fun K29 hK29=>?_;refine wp_region_lit ?_;refine pY ha (yMove rfl) fun a ha=>?_;refine pY ha (yAddN rfl rfl ⟨by omega,by omega⟩) fun a ha=>?_;refine pY ha (yAssign rfl) fun a ha=>?_;refine pZ ?_;refine hK29 _ _ ?_;refine wp_seq_k fun K30 hK30=>?_;refine wp_goto ?_
          repeat (with_reducible first | refine gThen ?_ | refine gBlock ?_)
          refine gxL ?_;refine ⟨(j,n + 1),⟨hok,by simp only; omega,by simp only; omega,hst,has3 ha rfl rfl rfl,hs⟩,by simp only; omega⟩
        · rw [hg4] at ha
          have hp4:=of_decide_eq_true hg4
          obtain ⟨y0,hy0,_⟩:=list_at s (i:=j) (by omega);refine gOn ha ?_;refine pY ha (yMove rfl) fun a ha=>?_;refine gOn ha ?_;refine pY ha (yMove rfl) fun a ha=>?_;refine gOn ha ?_;refine pY ha (yIndexSb Tryz.runUnderlying9 rfl rfl (by omega) (by simpa using hy0)) fun a ha=>?_;refine gOn ha ?_;refine pC ha (nCall Tryz.call130 rfl) rfl (RuneStart_c y0 hs) ?_;rintro v w ⟨rfl,hs⟩ a ha;refine gOn ha ?_;refine pY ha (yNot rfl) fun a ha=>?_;refine pY ha (yPickT rfl rfl) fun a ha=>?_;refine pZ ?_;refine hK28 _ _ ?_;refine cNDec ha rfl (fun hc24=>?_) (fun hc24=>?_)
          · have hy1 : y0.toNat / 64 = 2:=by simpa using hc24
            refine wp_skip ?_;refine hK27 _ _ ?_;refine wp_seq_k fun K31 hK31=>?_;refine wp_block ?_;refine wp_skip ?_;refine hK31 _ _ ?_;refine wp_region_lit ?_;refine pY ha (yMove rfl) fun a ha=>?_;refine pY ha (yAddN rfl rfl ⟨by omega,by omega⟩) fun a ha=>?_;refine pY ha (yAssign rfl) fun a ha=>?_;refine pZ ?_;refine ⟨j + 1,⟨by omega,by omega,?_,has3 ha rfl rfl rfl,hs⟩,by omega⟩;rw [List.take_add_one,hy0,cnt_append]; simp only [Option.toList]; rw [cnt_cons,cnt_nil,if_pos hy1,g3]
          · (have hst : ∀ x,s.data.toList[j]? = some x→x.toNat / 64 ≠ 2:=fun x hx=>by
               rw [hy0] at hx
               cases hx
               simpa using hc24)
            refine wp_exit ?_;refine hK25 _ _ ?_;refine wp_seq_k fun K32 hK32=>?_;refine wp_region_lit ?_;refine pY ha (yMove rfl) fun a ha=>?_;refine pY ha (yAddN rfl rfl ⟨by omega,by omega⟩) fun a ha=>?_;refine pY ha (yAssign rfl) fun a ha=>?_;refine pZ ?_;refine hK32 _ _ ?_;refine wp_seq_k fun K33 hK33=>?_;refine wp_goto ?_
            repeat (with_reducible first | refine gThen ?_ | refine gBlock ?_)
            refine gxL ?_;refine ⟨(j,n + 1),⟨hok,by simp only; omega,by simp only; omega,hst,has3 ha rfl rfl rfl,hs⟩,by simp only; omega⟩
theorem Letter_c (b : UInt8) (hs : Sep W w cs) : Calls P 121 #[.int .u8 b.toNat] w (Rt fun v w'=>v = .bool (letter b)∧Sep W w' cs):=by
  have hb:=b.toNat_lt
  refine enter Tryz.func121 Tryz.ntmps121 rfl rfl fun a (ha : Has a 29 [(0,_)])=>?_;refine wp_seq_k fun K1 hK1=>?_;refine wp_region_lit ?_;refine pY ha (yAssign rfl) fun a ha=>?_;refine pZ ?_;refine hK1 _ _ ?_;refine wp_seq_k fun K2 hK2=>?_;refine cutC (fun a w=>Has a 29 [(2,.bool (letter b))]∧Sep W w cs) ?_ ?_
  · refine wp_region_lit ?_;refine pY ha (yMove rfl) fun a ha=>?_;refine pY ha (yGeq rfl rfl) fun a ha=>?_;refine pY ha (yMove rfl) fun a ha=>?_;refine gDec (t:=5) ha rfl (fun hg2 hp2=>?_) (fun hg2 hp2=>?_)
    · rw [hg2] at ha;refine gOff ha fun a ha=>?_;refine gOff ha fun a ha=>?_;refine pY ha (yPickF rfl rfl) fun a ha=>?_;refine pY ha (yMove rfl) fun a ha=>?_;refine gOn ha ?_;refine pY ha (yMove rfl) fun a ha=>?_;refine gOn ha ?_;refine pY ha (yGeq rfl rfl) fun a ha=>?_;refine gOn ha ?_;refine pY ha (yMove rfl) fun a ha=>?_;refine gDec (t:=12) ha rfl (fun hg9 hp9=>?_) (fun hg9 hp9=>?_)
      · rw [hg9] at ha;refine gOff ha fun a ha=>?_;refine gOff ha fun a ha=>?_;refine gOn ha ?_;refine pY ha (yPickF rfl rfl) fun a ha=>?_;refine pY ha (yPickF rfl rfl) fun a ha=>?_;refine pY ha (yMove rfl) fun a ha=>?_;refine gOn ha ?_;refine pY ha (yMove rfl) fun a ha=>?_;refine gOn ha ?_;refine pY ha (yEql rfl rfl) fun a ha=>?_;refine pY ha (yPickF rfl rfl) fun a ha=>?_;refine pY ha (yMove rfl) fun a ha=>?_;refine gSplit (t:=21) ha rfl (fun hg18=>?_) (fun hg18=>?_)
        · rw [hg18] at ha;refine gOn ha ?_;refine pY ha (yMove rfl) fun a ha=>?_;refine gOn ha ?_;refine pY ha (yEql rfl rfl) fun a ha=>?_;refine pY ha (yPickF rfl rfl) fun a ha=>?_;refine pY ha (yMove rfl) fun a ha=>?_;refine gSplit (t:=25) ha rfl (fun hg22=>?_) (fun hg22=>?_)
          · rw [hg22] at ha;refine gOn ha ?_;refine pY ha (yMove rfl) fun a ha=>?_;refine gOn ha ?_;refine pY ha (yEql rfl rfl) fun a ha=>?_;refine pY ha (yPickF rfl rfl) fun a ha=>?_;refine pY ha (yAssign rfl) fun a ha=>?_;refine pZ ⟨rfl,?_⟩;refine ⟨has1 ha ?_,hs⟩;unfold letter
            have e : ∀ {p q : Prop} [Decidable p] [Decidable q],(p ↔ q)→decide p = decide q:=fun h=>decide_eq_decide.2 h
            refine congrArg (fun b=>some (Value.bool b)) ?_;rw [Bool.eq_iff_iff];simp only [Bool.or_eq_true,decide_eq_true_eq,Bool.false_eq_true,true_iff,false_iff,iff_true,iff_false];simp only [decide_eq_true_eq,decide_eq_false_iff_not] at *
            omega
          · rw [hg22] at ha;refine gOff ha fun a ha=>?_;refine gOff ha fun a ha=>?_;refine pY ha (yPickT rfl rfl) fun a ha=>?_;refine pY ha (yAssign rfl) fun a ha=>?_;refine pZ ⟨rfl,?_⟩;refine ⟨has1 ha ?_,hs⟩;unfold letter
            have e : ∀ {p q : Prop} [Decidable p] [Decidable q],(p ↔ q)→decide p = decide q:=fun h=>decide_eq_decide.2 h
            refine congrArg (fun b=>some (Value.bool b)) ?_;rw [Bool.eq_iff_iff];simp only [Bool.or_eq_true,decide_eq_true_eq,Bool.false_eq_true,true_iff,false_iff,iff_true,iff_false];simp only [decide_eq_true_eq,decide_eq_false_iff_not] at *
            omega
        · rw [hg18] at ha;refine gOff ha fun a ha=>?_;refine gOff ha fun a ha=>?_;refine pY ha (yPickT rfl rfl) fun a ha=>?_;refine pY ha (yMove rfl) fun a ha=>?_;refine gOff ha fun a ha=>?_;refine gOff ha fun a ha=>?_;refine pY ha (yPickT rfl rfl) fun a ha=>?_;refine pY ha (yAssign rfl) fun a ha=>?_;refine pZ ⟨rfl,?_⟩;refine ⟨has1 ha ?_,hs⟩;unfold letter
          have e : ∀ {p q : Prop} [Decidable p] [Decidable q],(p ↔ q)→decide p = decide q:=fun h=>decide_eq_decide.2 h
          refine congrArg (fun b=>some (Value.bool b)) ?_;rw [Bool.eq_iff_iff];simp only [Bool.or_eq_true,decide_eq_true_eq,Bool.false_eq_true,true_iff,false_iff,iff_true,iff_false];simp only [decide_eq_true_eq,decide_eq_false_iff_not] at *
          omega
      · rw [hg9] at ha;refine gOn ha ?_;refine pY ha (yMove rfl) fun a ha=>?_;refine gOn ha ?_;refine pY ha (yLeq rfl rfl) fun a ha=>?_;refine gOn ha ?_;refine pY ha (yPickT rfl rfl) fun a ha=>?_;refine pY ha (yPickF rfl rfl) fun a ha=>?_;refine pY ha (yMove rfl) fun a ha=>?_;refine gSplit (t:=17) ha rfl (fun hg14=>?_) (fun hg14=>?_)
        · rw [hg14] at ha;refine gOn ha ?_;refine pY ha (yMove rfl) fun a ha=>?_;refine gOn ha ?_;refine pY ha (yEql rfl rfl) fun a ha=>?_;refine pY ha (yPickF rfl rfl) fun a ha=>?_;refine pY ha (yMove rfl) fun a ha=>?_;refine gSplit (t:=21) ha rfl (fun hg18=>?_) (fun hg18=>?_)
          · rw [hg18] at ha;refine gOn ha ?_;refine pY ha (yMove rfl) fun a ha=>?_;refine gOn ha ?_;refine pY ha (yEql rfl rfl) fun a ha=>?_;refine pY ha (yPickF rfl rfl) fun a ha=>?_;refine pY ha (yMove rfl) fun a ha=>?_;refine gSplit (t:=25) ha rfl (fun hg22=>?_) (fun hg22=>?_)
            · rw [hg22] at ha;refine gOn ha ?_;refine pY ha (yMove rfl) fun a ha=>?_;refine gOn ha ?_;refine pY ha (yEql rfl rfl) fun a ha=>?_;refine pY ha (yPickF rfl rfl) fun a ha=>?_;refine pY ha (yAssign rfl) fun a ha=>?_;refine pZ ⟨rfl,?_⟩;refine ⟨has1 ha ?_,hs⟩;unfold letter
              have e : ∀ {p q : Prop} [Decidable p] [Decidable q],(p ↔ q)→decide p = decide q:=fun h=>decide_eq_decide.2 h
              refine congrArg (fun b=>some (Value.bool b)) ?_;rw [Bool.eq_iff_iff];simp only [Bool.or_eq_true,decide_eq_true_eq,Bool.false_eq_true,true_iff,false_iff,iff_true,iff_false];simp only [decide_eq_true_eq,decide_eq_false_iff_not] at *
              omega
            · rw [hg22] at ha;refine gOff ha fun a ha=>?_;refine gOff ha fun a ha=>?_;refine pY ha (yPickT rfl rfl) fun a ha=>?_;refine pY ha (yAssign rfl) fun a ha=>?_;refine pZ ⟨rfl,?_⟩;refine ⟨has1 ha ?_,hs⟩;unfold letter
              have e : ∀ {p q : Prop} [Decidable p] [Decidable q],(p ↔ q)→decide p = decide q:=fun h=>decide_eq_decide.2 h
              refine congrArg (fun b=>some (Value.bool b)) ?_;rw [Bool.eq_iff_iff];simp only [Bool.or_eq_true,decide_eq_true_eq,Bool.false_eq_true,true_iff,false_iff,iff_true,iff_false];simp only [decide_eq_true_eq,decide_eq_false_iff_not] at *
              omega
          · rw [hg18] at ha;refine gOff ha fun a ha=>?_;refine gOff ha fun a ha=>?_;refine pY ha (yPickT rfl rfl) fun a ha=>?_;refine pY ha (yMove rfl) fun a ha=>?_;refine gOff ha fun a ha=>?_;refine gOff ha fun a ha=>?_;refine pY ha (yPickT rfl rfl) fun a ha=>?_;refine pY ha (yAssign rfl) fun a ha=>?_;refine pZ ⟨rfl,?_⟩;refine ⟨has1 ha ?_,hs⟩;unfold letter
            have e : ∀ {p q : Prop} [Decidable p] [Decidable q],(p ↔ q)→decide p = decide q:=fun h=>decide_eq_decide.2 h
            refine congrArg (fun b=>some (Value.bool b)) ?_;rw [Bool.eq_iff_iff];simp only [Bool.or_eq_true,decide_eq_true_eq,Bool.false_eq_true,true_iff,false_iff,iff_true,iff_false];simp only [decide_eq_true_eq,decide_eq_false_iff_not] at *
            omega
        · rw [hg14] at ha;refine gOff ha fun a ha=>?_;refine gOff ha fun a ha=>?_;refine pY ha (yPickT rfl rfl) fun a ha=>?_;refine pY ha (yMove rfl) fun a ha=>?_;refine gOff ha fun a ha=>?_;refine gOff ha fun a ha=>?_;refine pY ha (yPickT rfl rfl) fun a ha=>?_;refine pY ha (yMove rfl) fun a ha=>?_;refine gOff ha fun a ha=>?_;refine gOff ha fun a ha=>?_;refine pY ha (yPickT rfl rfl) fun a ha=>?_;refine pY ha (yAssign rfl) fun a ha=>?_;refine pZ ⟨rfl,?_⟩;refine ⟨has1 ha ?_,hs⟩;unfold letter
          have e : ∀ {p q : Prop} [Decidable p] [Decidable q],(p ↔ q)→decide p = decide q:=fun h=>decide_eq_decide.2 h
          refine congrArg (fun b=>some (Value.bool b)) ?_;rw [Bool.eq_iff_iff];simp only [Bool.or_eq_true,decide_eq_true_eq,Bool.false_eq_true,true_iff,false_iff,iff_true,iff_false];simp only [decide_eq_true_eq,decide_eq_false_iff_not] at *
          omega
    · rw [hg2] at ha;refine gOn ha ?_;refine pY ha (yMove rfl) fun a ha=>?_;refine gOn ha ?_;refine pY ha (yLeq rfl rfl) fun a ha=>?_;refine pY ha (yPickT rfl rfl) fun a ha=>?_;refine pY ha (yMove rfl) fun a ha=>?_;refine gSplit (t:=9) ha rfl (fun hg6=>?_) (fun hg6=>?_)
      · rw [hg6] at ha;refine gOn ha ?_;refine pY ha (yMove rfl) fun a ha=>?_;refine gOn ha ?_;refine pY ha (yGeq rfl rfl) fun a ha=>?_;refine gOn ha ?_;refine pY ha (yMove rfl) fun a ha=>?_;refine gDec (t:=12) ha rfl (fun hg9 hp9=>?_) (fun hg9 hp9=>?_)
        · rw [hg9] at ha;refine gOff ha fun a ha=>?_;refine gOff ha fun a ha=>?_;refine gOn ha ?_;refine pY ha (yPickF rfl rfl) fun a ha=>?_;refine pY ha (yPickF rfl rfl) fun a ha=>?_;refine pY ha (yMove rfl) fun a ha=>?_;refine gOn ha ?_;refine pY ha (yMove rfl) fun a ha=>?_;refine gOn ha ?_;refine pY ha (yEql rfl rfl) fun a ha=>?_;refine pY ha (yPickF rfl rfl) fun a ha=>?_;refine pY ha (yMove rfl) fun a ha=>?_;refine gSplit (t:=21) ha rfl (fun hg18=>?_) (fun hg18=>?_)
          · rw [hg18] at ha;refine gOn ha ?_;refine pY ha (yMove rfl) fun a ha=>?_;refine gOn ha ?_;refine pY ha (yEql rfl rfl) fun a ha=>?_;refine pY ha (yPickF rfl rfl) fun a ha=>?_;refine pY ha (yMove rfl) fun a ha=>?_;refine gSplit (t:=25) ha rfl (fun hg22=>?_) (fun hg22=>?_)
            · rw [hg22] at ha;refine gOn ha ?_;refine pY ha (yMove rfl) fun a ha=>?_;refine gOn ha ?_;refine pY ha (yEql rfl rfl) fun a ha=>?_;refine pY ha (yPickF rfl rfl) fun a ha=>?_;refine pY ha (yAssign rfl) fun a ha=>?_;refine pZ ⟨rfl,?_⟩;refine ⟨has1 ha ?_,hs⟩;unfold letter
              have e : ∀ {p q : Prop} [Decidable p] [Decidable q],(p ↔ q)→decide p = decide q:=fun h=>decide_eq_decide.2 h
              refine congrArg (fun b=>some (Value.bool b)) ?_;rw [Bool.eq_iff_iff];simp only [Bool.or_eq_true,decide_eq_true_eq,Bool.false_eq_true,true_iff,false_iff,iff_true,iff_false];simp only [decide_eq_true_eq,decide_eq_false_iff_not] at *
              omega
            · rw [hg22] at ha;refine gOff ha fun a ha=>?_;refine gOff ha fun a ha=>?_;refine pY ha (yPickT rfl rfl) fun a ha=>?_;refine pY ha (yAssign rfl) fun a ha=>?_;refine pZ ⟨rfl,?_⟩;refine ⟨has1 ha ?_,hs⟩;unfold letter
              have e : ∀ {p q : Prop} [Decidable p] [Decidable q],(p ↔ q)→decide p = decide q:=fun h=>decide_eq_decide.2 h
              refine congrArg (fun b=>some (Value.bool b)) ?_;rw [Bool.eq_iff_iff];simp only [Bool.or_eq_true,decide_eq_true_eq,Bool.false_eq_true,true_iff,false_iff,iff_true,iff_false];simp only [decide_eq_true_eq,decide_eq_false_iff_not] at *
              omega
          · rw [hg18] at ha;refine gOff ha fun a ha=>?_;refine gOff ha fun a ha=>?_;refine pY ha (yPickT rfl rfl) fun a ha=>?_;refine pY ha (yMove rfl) fun a ha=>?_;refine gOff ha fun a ha=>?_;refine gOff ha fun a ha=>?_;refine pY ha (yPickT rfl rfl) fun a ha=>?_;refine pY ha (yAssign rfl) fun a ha=>?_;refine pZ ⟨rfl,?_⟩;refine ⟨has1 ha ?_,hs⟩;unfold letter
            have e : ∀ {p q : Prop} [Decidable p] [Decidable q],(p ↔ q)→decide p = decide q:=fun h=>decide_eq_decide.2 h
            refine congrArg (fun b=>some (Value.bool b)) ?_;rw [Bool.eq_iff_iff];simp only [Bool.or_eq_true,decide_eq_true_eq,Bool.false_eq_true,true_iff,false_iff,iff_true,iff_false];simp only [decide_eq_true_eq,decide_eq_false_iff_not] at *
            omega
        · rw [hg9] at ha;refine gOn ha ?_;refine pY ha (yMove rfl) fun a ha=>?_;refine gOn ha ?_;refine pY ha (yLeq rfl rfl) fun a ha=>?_;refine gOn ha ?_;refine pY ha (yPickT rfl rfl) fun a ha=>?_;refine pY ha (yPickF rfl rfl) fun a ha=>?_;refine pY ha (yMove rfl) fun a ha=>?_;refine gSplit (t:=17) ha rfl (fun hg14=>?_) (fun hg14=>?_)
          · rw [hg14] at ha;refine gOn ha ?_;refine pY ha (yMove rfl) fun a ha=>?_;refine gOn ha ?_;refine pY ha (yEql rfl rfl) fun a ha=>?_;refine pY ha (yPickF rfl rfl) fun a ha=>?_;refine pY ha (yMove rfl) fun a ha=>?_;refine gSplit (t:=21) ha rfl (fun hg18=>?_) (fun hg18=>?_)
            · rw [hg18] at ha;refine gOn ha ?_;refine pY ha (yMove rfl) fun a ha=>?_;refine gOn ha ?_;refine pY ha (yEql rfl rfl) fun a ha=>?_;refine pY ha (yPickF rfl rfl) fun a ha=>?_;refine pY ha (yMove rfl) fun a ha=>?_;refine gSplit (t:=25) ha rfl (fun hg22=>?_) (fun hg22=>?_)
              · rw [hg22] at ha;refine gOn ha ?_;refine pY ha (yMove rfl) fun a ha=>?_;refine gOn ha ?_;refine pY ha (yEql rfl rfl) fun a ha=>?_;refine pY ha (yPickF rfl rfl) fun a ha=>?_;refine pY ha (yAssign rfl) fun a ha=>?_;refine pZ ⟨rfl,?_⟩;refine ⟨has1 ha ?_,hs⟩;unfold letter
                have e : ∀ {p q : Prop} [Decidable p] [Decidable q],(p ↔ q)→decide p = decide q:=fun h=>decide_eq_decide.2 h
                refine congrArg (fun b=>some (Value.bool b)) ?_;rw [Bool.eq_iff_iff];simp only [Bool.or_eq_true,decide_eq_true_eq,Bool.false_eq_true,true_iff,false_iff,iff_true,iff_false];simp only [decide_eq_true_eq,decide_eq_false_iff_not] at *
                omega
              · rw [hg22] at ha;refine gOff ha fun a ha=>?_;refine gOff ha fun a ha=>?_;refine pY ha (yPickT rfl rfl) fun a ha=>?_;refine pY ha (yAssign rfl) fun a ha=>?_;refine pZ ⟨rfl,?_⟩;refine ⟨has1 ha ?_,hs⟩;unfold letter
                have e : ∀ {p q : Prop} [Decidable p] [Decidable q],(p ↔ q)→decide p = decide q:=fun h=>decide_eq_decide.2 h
                refine congrArg (fun b=>some (Value.bool b)) ?_;rw [Bool.eq_iff_iff];simp only [Bool.or_eq_true,decide_eq_true_eq,Bool.false_eq_true,true_iff,false_iff,iff_true,iff_false];simp only [decide_eq_true_eq,decide_eq_false_iff_not] at *
                omega
            · rw [hg18] at ha;refine gOff ha fun a ha=>?_;refine gOff ha fun a ha=>?_;refine pY ha (yPickT rfl rfl) fun a ha=>?_;refine pY ha (yMove rfl) fun a ha=>?_;refine gOff ha fun a ha=>?_;refine gOff ha fun a ha=>?_;refine pY ha (yPickT rfl rfl) fun a ha=>?_;refine pY ha (yAssign rfl) fun a ha=>?_;refine pZ ⟨rfl,?_⟩;refine ⟨has1 ha ?_,hs⟩;unfold letter
              have e : ∀ {p q : Prop} [Decidable p] [Decidable q],(p ↔ q)→decide p = decide q:=fun h=>decide_eq_decide.2 h
              refine congrArg (fun b=>some (Value.bool b)) ?_;rw [Bool.eq_iff_iff];simp only [Bool.or_eq_true,decide_eq_true_eq,Bool.false_eq_true,true_iff,false_iff,iff_true,iff_false];simp only [decide_eq_true_eq,decide_eq_false_iff_not] at *
              omega
          · rw [hg14] at ha;refine gOff ha fun a ha=>?_;refine gOff ha fun a ha=>?_;refine pY ha (yPickT rfl rfl) fun a ha=>?_;refine pY ha (yMove rfl) fun a ha=>?_;refine gOff ha fun a ha=>?_;refine gOff ha fun a ha=>?_;refine pY ha (yPickT rfl rfl) fun a ha=>?_;refine pY ha (yMove rfl) fun a ha=>?_;refine gOff ha fun a ha=>?_;refine gOff ha fun a ha=>?_;refine pY ha (yPickT rfl rfl) fun a ha=>?_;refine pY ha (yAssign rfl) fun a ha=>?_;refine pZ ⟨rfl,?_⟩;refine ⟨has1 ha ?_,hs⟩;unfold letter
            have e : ∀ {p q : Prop} [Decidable p] [Decidable q],(p ↔ q)→decide p = decide q:=fun h=>decide_eq_decide.2 h
            refine congrArg (fun b=>some (Value.bool b)) ?_;rw [Bool.eq_iff_iff];simp only [Bool.or_eq_true,decide_eq_true_eq,Bool.false_eq_true,true_iff,false_iff,iff_true,iff_false];simp only [decide_eq_true_eq,decide_eq_false_iff_not] at *
            omega
      · rw [hg6] at ha;refine gOff ha fun a ha=>?_;refine gOff ha fun a ha=>?_;refine gOff ha fun a ha=>?_;refine gOffU ha fun a ha=>?_;refine gOffU ha fun a ha=>?_;refine gOff ha fun a ha=>?_;refine pY ha (yPickT rfl rfl) fun a ha=>?_;refine pY ha (yMove rfl) fun a ha=>?_;refine gOff ha fun a ha=>?_;refine gOff ha fun a ha=>?_;refine pY ha (yPickT rfl rfl) fun a ha=>?_;refine pY ha (yMove rfl) fun a ha=>?_;refine gOff ha fun a ha=>?_;refine gOff ha fun a ha=>?_;refine pY ha (yPickT rfl rfl) fun a ha=>?_;refine pY ha (yMove rfl) fun a ha=>?_;refine gOff ha fun a ha=>?_;refine gOff ha fun a ha=>?_;refine pY ha (yPickT rfl rfl) fun a ha=>?_;refine pY ha (yAssign rfl) fun a ha=>?_;refine pZ ⟨rfl,?_⟩;refine ⟨has1 ha ?_,hs⟩;unfold letter
        have e : ∀ {p q : Prop} [Decidable p] [Decidable q],(p ↔ q)→decide p = decide q:=fun h=>decide_eq_decide.2 h
        refine congrArg (fun b=>some (Value.bool b)) ?_;rw [Bool.eq_iff_iff];simp only [Bool.or_eq_true,decide_eq_true_eq,Bool.false_eq_true,true_iff,false_iff,iff_true,iff_false];simp only [decide_eq_true_eq,decide_eq_false_iff_not] at *
        omega
  rintro a w ⟨ha,hs⟩;refine hK2 _ _ ?_;refine wp_ret ?_;show bodyPost Tryz.prog Tryz.f121 _ .ret _ _;refine ret1 rfl ha rfl ?_;exact ⟨rfl,hs⟩
end
end Go.Proofs.YtnlhbkaieoogfaaGreatDoor

set_option linter.unusedVariables false
set_option linter.unusedSimpArgs false
namespace Go.Proofs.YtnlhbkaieoogfaaGreatDoor
open Go.RowKit Go.Lib
theorem get_tail : ∀ (m : Nat) (rest : List UInt8),m≤8589934592→getR 0 ((tailD m).reverse++rest) 0 = getR m rest (tailD m).length:=by
  intro m
  induction m using Nat.strongRecOn with
  | _ m ih=>
    intro rest hm
    rcases Nat.eq_zero_or_pos m with rfl | h
    · rw [tailD_zero]; rfl
    · rw [tailD_pos h,List.reverse_cons,List.append_assoc,ih (m / 128) (by omega) _ (by omega)];show getR _ (UInt8.ofNat (m % 128 + 128)::rest) _ = _
      have hc : (UInt8.ofNat (m % 128 + 128)).toNat = m % 128 + 128:=by simp; omega
      have hz : (tailD (m / 128)).length = 0→m / 128 = 0:=fun h0=>by
        rcases Nat.eq_zero_or_pos (m / 128) with h1 | h1
        · exact h1
        · rw [tailD_pos h1] at h0; simp at h0
      rw [getR,if_neg (by rw [hc]; intro h2; rcases h2 with ⟨h3,h4⟩ | h3 <;> first | (have:=hz h3; omega) | omega),if_neg (by rw [hc]; omega),hc]
      congr 1
      omega
theorem get_put {n : Nat} (h : n≤1099511627776) (rest : List UInt8) : getN (put n++rest) = some ((n : Int),(put n).length):=by
  have hp : put n = (tailD (n / 128)).reverse++[UInt8.ofNat (n % 128)]:=by
    have:=put_rev h
    rw [← List.reverse_inj,this]; simp
  rw [hp];unfold getN;rw [List.append_assoc,get_tail _ _ (by omega)]
  have hc : (UInt8.ofNat (n % 128)).toNat = n % 128:=by simp; omega
  show getR _ (UInt8.ofNat (n % 128)::rest) _ = _;rw [getR,if_neg (by rw [hc]; omega),if_pos (by rw [hc]; omega),hc,if_pos (by simp [fits]; omega)]
  simp
  omega
theorem rNum_put {n : Nat} (h : n≤1099511627776) (rest : List UInt8) : rNum (put n++rest,0) = ((n : Int),(rest,0)):=by
  simp only [rNum,get_put h]
  simp
section
variable {W w : World} {cs r : List Ch} {p : Nat}
theorem pMakeS {ops : Array Oper} {Q : Exit→Act→World→Prop} {rest : List Oper} {ps : String} {af : Array Edge} {a : Act} {N dd : Nat} {l : List (Nat × Value)} {x y : Operand} {T : TypeId} {n : Nat}
    (ha : Has a N l) (hx : ev l x = some (.int .i64 n)) (hy : ev l y = some (.int .i64 n)) (hn : n≤140737488355328) (hs : Sep W w cs) (hd : Nat.blt dd N = true)
    (h : ∀ b w,Sep W w (.blk b 5 (List.replicate n (.int .u8 0))::cs)→∀ a,Has a N ((dd,.slice (some ⟨b,0,none⟩) n n)::l)→wpList P ops Q rest a w) :
    wpList P ops Q (⟨some dd,.makeSlice 27 x y,T,ps,af,none⟩::rest) a w:=by
  refine pE ha (v:=.slice (some ⟨w.heap.size,0,none⟩) n n) (w':=w.alloc (.cells (List.replicate n (.int .u8 0)).toArray 5)) (fun ρ o hE ho hT=>?_) hd (fun a ha=>h _ _ (by have:=hs.blk_alloc (List.replicate n (.int .u8 0)).toArray 5; simpa using this) a ha);unfold execOp; rw [ho]
  have hr : (Instr.makeSlice 27 (.int .i64 n) (.int .i64 n)).run P w = .ok (.slice (some ⟨w.heap.size,0,none⟩) n n) (w.alloc (.cells (List.replicate n (.int .u8 0)).toArray 5)):=by
    have k1 : (P.info? 5).map (fun i=>(i.bytes,i.size)) = some (1,1):=by kernel_rfl
    have k2 : (P.info? 5).map (fun i=>i.zero) = some (some (.int .u8 0)):=by kernel_rfl
    cases hi : P.info? 5 with
    | none=>rw [hi] at k1; simp at k1
    | some i=>
      rw [hi] at k1 k2;simp only [Option.map_some,Option.some.injEq,Prod.mk.injEq] at k1 k2
      have hr:=run_make (P:=P) w 27 5 i (.int .u8 0) Tryz.underlying27 hi k2 .i64 .i64 n n (by omega) (Int.le_refl _) (by rw [k1.1]; omega) (by omega)
      rw [hr,k1.2];simp only [Int.toNat_natCast,Nat.mul_one]
      have : madeCells (Value.int .u8 0).cells n = (List.replicate n (Value.int .u8 0)).toArray:=by
        apply Array.ext'
        simp only [madeCells,Array.toList_map,Array.toList_range]
        apply List.ext_getElem
        · simp
        · intro i h1 h2
          simp [Value.cells,Nat.mod_one]
      rw [this]
  simp [hE _ _ hx,hE _ _ hy,hr]
end
end Go.Proofs.YtnlhbkaieoogfaaGreatDoor

set_option linter.unusedVariables false
set_option linter.unusedSimpArgs false
namespace Go.Proofs.YtnlhbkaieoogfaaGreatDoor
open Go.RowKit Go.Lib
theorem elLimB27 : ElemT Tryz.prog 27 5 1 1:=elemT_mk Tryz.underlying27 rfl (by kernel_rfl)
section
variable {W w : World} {cs r : List Ch} {p : Nat} {st : Wt}
theorem WrText_c (hT : Tabs W) (s : ByteArray) (hsz : s.size≤9223372036854775807) (hb : (wText st s).1.length≤140737488355328) (hs : Sep W w cs) (hk : Pick cs (.wtr p 97 st) r) :
    Calls P 95 #[.pointer (some ⟨p,0,none⟩),.string s] w (Rt fun v w'=>v = .pointer (some ⟨p,0,none⟩)∧Sep W w' (.wtr p 97 (wText st s)::r)):=by
  obtain ⟨A,c,hs⟩:=hs.wtr_open hk
  have hlen : (wNum (st.1,st.2 || !okText s.data.toList) s.size).1.length + s.data.toList.length≤140737488355328:=by simpa [wText] using hb
  obtain ⟨bs,bad⟩:=st;simp only at hs hlen;refine enter Tryz.func95 Tryz.ntmps95 rfl rfl fun a (ha : Has a 36 [(0,_),(1,_)])=>?_;refine wp_seq_k fun K1 hK1=>?_;refine wp_region_lit ?_;refine pY ha (yAssign rfl) fun a ha=>?_;refine pZ ?_;refine hK1 _ _ ?_;refine wp_seq_k fun K2 hK2=>?_;refine wp_seq_k fun K3 hK3=>?_;refine wp_region_lit ?_;refine pY ha (yMove rfl) fun a ha=>?_;refine pY ha (yPtrNeqN Tryz.underlying95 rfl rfl) fun a ha=>?_;refine pZ ?_;refine hK3 _ _ ?_;refine cTrue ha rfl ?_;refine wp_seq_k fun K4 hK4=>?_;refine cutC (fun a w=>Has a 36 [(0,.pointer (some ⟨p,0,none⟩)),(1,.string s)]∧Sep W w (.blk p 97 [.slice A bs.length c,.bool (bad || !okText s.data.toList)]::.ol kU8 5 (.slice A bs.length c) bs::r)) ?_ ?_
  · refine wp_region_lit ?_;refine pY ha (yMove rfl) fun a ha=>?_;refine pY ha (yMove rfl) fun a ha=>?_;refine pY ha (yNilP rfl) fun a ha=>?_;refine pY ha (yFieldA Tryz.runUnderlying97 rfl Tryz.sizeOf4 rfl rfl) fun a ha=>?_;refine pY ha (yLoadB Tryz.isAgg4 hs rfl pk0 rfl) fun a ha=>?_;refine pY ha (yMove rfl) fun a ha=>?_;refine gSplit (t:=14) ha rfl (fun hg5=>?_) (fun hg5=>?_)
    · rw [hg5] at ha;refine gOn ha ?_;refine pY ha (yMove rfl) fun a ha=>?_;refine gOn ha ?_;refine pC ha (nCall Tryz.call102 rfl) rfl (Valid_c hT s hsz hs) ?_;rintro v w ⟨rfl,hs⟩ a ha;refine gOn ha ?_;refine pY ha (yNot rfl) fun a ha=>?_;refine pY ha (yPickF rfl rfl) fun a ha=>?_;refine pY ha (yNilP rfl) fun a ha=>?_;refine pY ha (yFieldA Tryz.runUnderlying97 rfl Tryz.sizeOf4 rfl rfl) fun a ha=>?_;refine pStore ha Tryz.sizeOf4 hs rfl rfl rfl rfl pk0 rfl fun w hs=>?_;refine pZ ⟨rfl,?_⟩;rw [hg5]; exact ⟨has2 ha rfl rfl,hs⟩
    · rw [hg5] at ha;refine gOff ha fun a ha=>?_;refine gOff ha fun a ha=>?_;refine gOff ha fun a ha=>?_;refine pY ha (yPickT rfl rfl) fun a ha=>?_;refine pY ha (yNilP rfl) fun a ha=>?_;refine pY ha (yFieldA Tryz.runUnderlying97 rfl Tryz.sizeOf4 rfl rfl) fun a ha=>?_;refine pStore ha Tryz.sizeOf4 hs rfl rfl rfl rfl pk0 rfl fun w hs=>?_;refine pZ ⟨rfl,?_⟩;rw [hg5]; exact ⟨has2 ha rfl rfl,hs⟩
  rintro a w ⟨ha,hs⟩;refine hK4 _ _ ?_;refine wp_seq_k fun K5 hK5=>?_;have hs:=hs.wtr_shut .here .here;refine wp_region_lit ?_;refine pY ha (yMove rfl) fun a ha=>?_;refine pY ha (yLenStr Tryz.runUnderlying9 rfl) fun a ha=>?_;refine pY ha (yAssign rfl) fun a ha=>?_;refine pZ ?_;refine hK5 _ _ ?_;refine wp_seq_k fun K6 hK6=>?_;refine wp_region_lit ?_;refine pY ha (yMove rfl) fun a ha=>?_;refine pY ha (yMove rfl) fun a ha=>?_;refine pC ha (nCall Tryz.call59 rfl) rfl (WrNum_c s.size (by omega) hs .here) ?_;rintro v w ⟨rfl,hs⟩ a ha;refine pY ha (yAssign rfl) fun a ha=>?_;refine pZ ?_;refine hK6 _ _ ?_;obtain ⟨A',c',hs⟩:=hs.wtr_open .here;refine wp_region_lit ?_;refine pY ha (yMove rfl) fun a ha=>?_;refine pY ha (yMove rfl) fun a ha=>?_;refine pY ha (yNilP rfl) fun a ha=>?_;refine pY ha (yFieldA Tryz.runUnderlying97 rfl Tryz.sizeOf27 rfl rfl) fun a ha=>?_;refine pY ha (yLoadB Tryz.isAgg27 hs rfl pk0 rfl) fun a ha=>?_;refine pY ha (yMove rfl) fun a ha=>?_;refine pAppStr ha elLimB27 Tryz.underlying9 rfl rfl hs pk1 (by (unfold maxLen; omega)) (by omega) rfl fun A c w hs a ha=>?_;refine pY ha (yNilP rfl) fun a ha=>?_;refine pY ha (yFieldA Tryz.runUnderlying97 rfl Tryz.sizeOf27 rfl rfl) fun a ha=>?_;refine pStore ha Tryz.sizeOf27 hs rfl rfl rfl rfl pk1 rfl fun w hs=>?_;refine pZ ?_;refine hK2 _ _ ?_;refine wp_seq_k fun K7 hK7=>?_;refine wp_region_lit ?_;refine pY ha (yMove rfl) fun a ha=>?_;refine pY ha (yAssign rfl) fun a ha=>?_;refine pZ ?_;refine hK7 _ _ ?_;refine wp_ret ?_;show bodyPost Tryz.prog Tryz.f95 _ .ret _ _;refine ret1 rfl ha rfl ?_;exact ⟨rfl,hs.wtr_shut .here .here⟩
end
end Go.Proofs.YtnlhbkaieoogfaaGreatDoor

set_option linter.unusedVariables false
set_option linter.unusedSimpArgs false
namespace Go.Proofs.YtnlhbkaieoogfaaGreatDoor
open Go.RowKit Go.Lib
def wComp (st : Wt) (x : Comp) : Wt:=wText (wNum (wNum st x.kind) x.n) x.text
def wComps (st : Wt) (l : List Comp) : Wt:=l.foldl wComp (wNum st l.length)
def wNod (st : Wt) (x : Nod) : Wt:=wText (wFlag (wText (wNum (wNum st x.id) x.parent) x.name) x.dir) x.text
def wNods (st : Wt) (l : List Nod) : Wt:=l.foldl wNod (wNum st l.length)
def wActn (st : Wt) (x : Actn) : Wt:=wComps (wFlag (wText (wNum (wNum (wNum st x.kind) x.id) x.parent) x.name) x.dir) x.ops
def wActns (st : Wt) (l : List Actn) : Wt:=l.foldl wActn (wNum st l.length)
theorem wNum_le (st : Wt) (n : Int) : st.1.length≤(wNum st n).1.length:=by simp [wNum]
theorem wText_le (st : Wt) (s : ByteArray) : st.1.length≤(wText st s).1.length∧s.size≤(wText st s).1.length∧(wNum (st.1,st.2 || !okText s.data.toList) s.size).1.length≤(wText st s).1.length:=by
  simp only [wText,wNum,List.length_append]
  have : s.data.toList.length = s.size:=by simp
  omega
theorem wFlag_le (st : Wt) (b : Bool) : st.1.length≤(wFlag st b).1.length:=wNum_le _ _
theorem fold_le {α : Type} {f : Wt→α→Wt} (hf : ∀ st x,st.1.length≤(f st x).1.length) : ∀ (l : List α) (st : Wt),st.1.length≤(l.foldl f st).1.length
  | [],st=>Nat.le_refl _
  | x::r,st=>Nat.le_trans (hf st x) (fold_le hf r (f st x))
theorem wComp_le (st : Wt) (x : Comp) : st.1.length≤(wComp st x).1.length:=by
  have h1:=wNum_le st x.kind; have h2:=wNum_le (wNum st x.kind) x.n; have h3:=(wText_le (wNum (wNum st x.kind) x.n) x.text).1
  unfold wComp; omega
theorem wComps_le (st : Wt) (l : List Comp) : st.1.length≤(wComps st l).1.length:=Nat.le_trans (wNum_le st l.length) (fold_le wComp_le l _)
theorem wNod_le (st : Wt) (x : Nod) : st.1.length≤(wNod st x).1.length:=by
  have h1:=wNum_le st x.id; have h2:=wNum_le (wNum st x.id) x.parent; have h3:=(wText_le (wNum (wNum st x.id) x.parent) x.name).1
  have h4:=wFlag_le (wText (wNum (wNum st x.id) x.parent) x.name) x.dir; have h5:=(wText_le (wFlag (wText (wNum (wNum st x.id) x.parent) x.name) x.dir) x.text).1
  unfold wNod; omega
theorem wActn_le (st : Wt) (x : Actn) : st.1.length≤(wActn st x).1.length:=by
  have h1:=wNum_le st x.kind; have h2:=wNum_le (wNum st x.kind) x.id; have h3:=wNum_le (wNum (wNum st x.kind) x.id) x.parent; have h4:=(wText_le (wNum (wNum (wNum st x.kind) x.id) x.parent) x.name).1
  have h5:=wFlag_le (wText (wNum (wNum (wNum st x.kind) x.id) x.parent) x.name) x.dir; have h6:=wComps_le (wFlag (wText (wNum (wNum (wNum st x.kind) x.id) x.parent) x.name) x.dir) x.ops
  unfold wActn; omega
theorem fold_at {α : Type} {f : Wt→α→Wt} (hf : ∀ st x,st.1.length≤(f st x).1.length) {l : List α} {s0 : Wt} {i : Nat} {x : α} (hx : l[i]? = some x) :
    (l.take (i + 1)).foldl f s0 = f ((l.take i).foldl f s0) x∧(f ((l.take i).foldl f s0) x).1.length≤(l.foldl f s0).1.length:=by
  obtain ⟨hi,rfl⟩:=List.getElem?_eq_some_iff.1 hx
  have e : (l.take (i + 1)).foldl f s0 = f ((l.take i).foldl f s0) l[i]:=by
    rw [List.take_add_one,List.getElem?_eq_getElem hi,List.foldl_append]; rfl
  refine ⟨e,?_⟩;rw [← e]
  have h:=fold_le hf (l.drop (i + 1)) ((l.take (i + 1)).foldl f s0)
  rwa [← List.foldl_append,List.take_append_drop] at h
section
variable {W w : World} {cs r r2 : List Ch} {p : Nat} {st : Wt}
theorem WrComps_c (hT : Tabs W) {A : Option Addr} {n c : Nat} {xs : List Comp} (hb : (wComps st xs).1.length≤8796093022208) (hs : Sep W w cs) (hk : Pick cs (.wtr p 97 st) r) (hk2 : Pick r (.rd kComp (.slice A n c) xs) r2) :
    Calls P 97 #[.pointer (some ⟨p,0,none⟩),.slice A n c] w (Rt fun v w'=>v = .pointer (some ⟨p,0,none⟩)∧Sep W w' (.wtr p 97 (wComps st xs)::r)):=by
  have hs:=hs.pick hk;obtain ⟨rfl,hl⟩:=hs.rd_shape (.there hk2);unfold maxLen at hl;have hs:=hs.cpR (.there hk2)
  have hb0:=fold_le wComp_le xs (wNum st xs.length)
  unfold wComps at hb;refine enter Tryz.func97 Tryz.ntmps97 rfl rfl fun a (ha : Has a 29 [(0,_),(1,_)])=>?_;refine wp_seq_k fun K1 hK1=>?_;refine wp_region_lit ?_;refine pY ha (yAssign rfl) fun a ha=>?_;refine pZ ?_;refine hK1 _ _ ?_;refine wp_seq_k fun K2 hK2=>?_;refine wp_region_lit ?_;refine pY ha (yMove rfl) fun a ha=>?_;refine pY ha (yMove rfl) fun a ha=>?_;refine pY ha (yLenS Tryz.runUnderlying46 rfl) fun a ha=>?_;refine pC ha (nCall Tryz.call59 rfl) rfl (WrNum_c (st:=st) xs.length (by omega) hs (.there .here)) ?_;rintro v w ⟨rfl,hs⟩ a ha;refine pZ ?_;refine hK2 _ _ ?_;refine wp_seq_k fun K3 hK3=>?_;refine wp_seq_k fun K4 hK4=>?_;refine wp_region_lit ?_;refine pY ha (yMove rfl) fun a ha=>?_;refine pY ha (yLenS Tryz.runUnderlying46 rfl) fun a ha=>?_;refine pY ha (yMove rfl) fun a ha=>?_;refine pZ ?_;refine hK4 _ _ ?_;refine wp_block ?_;refine loopI (ι:=Nat) (fun i a w=>i≤xs.length∧Has a 29 [(0,.pointer (some ⟨p,0,none⟩)),(11,.slice A xs.length c),(12,.int .i64 xs.length),(13,.int .i64 i)]∧Sep W w (.wtr p 97 ((xs.take i).foldl wComp (wNum st xs.length))::.rd kComp (.slice A xs.length c) xs::r)) (fun i=>xs.length - i) (0) ?_ ?_
  · exact ⟨Nat.zero_le _,has4 ha rfl rfl rfl rfl,hs⟩
  · rintro i a w ⟨h1,ha,hs⟩;refine wp_seq_k fun K5 hK5=>?_;refine wp_region_lit ?_;refine pY ha (yLss rfl rfl) fun a ha=>?_;refine pZ ?_;refine hK5 _ _ ?_;refine wp_seq_k fun K6 hK6=>?_;refine cDec ha rfl (fun hc14=>?_) (fun hc14=>?_)
    · obtain ⟨x,hx⟩ : ∃ x,xs[i]? = some x:=⟨_,List.getElem?_eq_getElem (by omega)⟩;obtain ⟨hf1,hf2⟩:=fold_at (f:=wComp) wComp_le (s0:=wNum st xs.length) hx;generalize (xs.take i).foldl wComp (wNum st xs.length) = s0 at hs hf1 hf2;obtain ⟨b0,off,rfl,hs⟩:=hs.rd_comp (.there .here) hx
      have q1:=wNum_le s0 x.kind
      have q2:=wNum_le (wNum s0 x.kind) x.n
      have q3:=wText_le (wNum (wNum s0 x.kind) x.n) x.text
      have hf3 : (wText (wNum (wNum s0 x.kind) x.n) x.text).1.length≤8796093022208:=Nat.le_trans hf2 hb
      refine wp_skip ?_;refine hK6 _ _ ?_;refine wp_seq_k fun K7 hK7=>?_;refine wp_block ?_;refine wp_seq_k fun K8 hK8=>?_;refine wp_region_lit ?_;refine pY ha (yIndexA Tryz.runUnderlying46 Tryz.sizeOf45 rfl rfl (by omega) (by omega)) fun a ha=>?_;refine pY ha (yLoadRA Tryz.isAgg45 Tryz.sizeOf45 hs rfl pk0 rfl) fun a ha=>?_;refine pAlloc (zs:=[.int .i64 0,.int .i64 0,.string ⟨#[]⟩]) ha Tryz.zeroValue45 rfl hs rfl fun b w hs a ha=>?_;refine pStoreA ha Tryz.sizeOf45 hs rfl rfl pk0 rfl rfl rfl fun w hs=>?_;refine pZ ?_;refine hK8 _ _ ?_;refine dStart (fun w=>∃ rs,Sep W w (.blk b 45 [.int .i64 x.kind,.int .i64 x.n,.string x.text]::rs)) [9] 1023 511 (by kernel_rfl) (by kernel_rfl) rfl (⟨_,hs.drew.pick pk0⟩) ?_
      have hs:=Sep.drew hs
      generalize World.drew _ = w at hs ⊢;refine dP 0 1 rfl ha (fun _=>yMove rfl) fun a ha=>?_;refine dP 1 3 rfl ha (fun _=>yFieldA Tryz.runUnderlying45 rfl Tryz.sizeOf3 rfl rfl) fun a ha=>?_;refine dT 2 7 rfl ha (fun _ ⟨rs,hs⟩=>yLoadB Tryz.isAgg3 hs rfl pk0 rfl) (⟨_,hs.pick pk0⟩) fun a ha=>?_;refine dP 4 23 rfl ha (fun _=>yFieldA Tryz.runUnderlying45 rfl Tryz.sizeOf3 rfl rfl) fun a ha=>?_;refine dT 5 55 rfl ha (fun _ ⟨rs,hs⟩=>yLoadB Tryz.isAgg3 hs rfl pk0 rfl) (⟨_,hs.pick pk0⟩) fun a ha=>?_;refine dP 7 183 rfl ha (fun _=>yFieldA Tryz.runUnderlying45 rfl Tryz.sizeOf9 rfl rfl) fun a ha=>?_;refine dT 8 439 rfl ha (fun _ ⟨rs,hs⟩=>yLoadB Tryz.isAgg9 hs rfl pk0 rfl) (⟨_,hs.pick pk0⟩) fun a ha=>?_;refine dC 3 447 rfl (by kernel_rfl) rfl ha won0 (nCall Tryz.call59 rfl) rfl (WrNum_c (st:=s0) x.kind (by omega) hs pk2) ?_;rintro v w ⟨rfl,hs⟩;refine ⟨⟨_,hs.pick pk1⟩,fun a ha=>?_⟩;refine dC 6 511 rfl (by kernel_rfl) rfl ha won0 (nCall Tryz.call59 rfl) rfl (WrNum_c (st:=wNum s0 x.kind) x.n (by omega) hs pk0) ?_;rintro v w ⟨rfl,hs⟩;refine ⟨⟨_,hs.pick pk1⟩,fun a ha=>?_⟩;refine dCl 9 1023 rfl (by kernel_rfl) rfl ha won0 (nCall Tryz.call95 rfl) rfl (WrText_c (st:=wNum (wNum s0 x.kind) x.n) hT x.text (by omega) (by omega) hs pk0) ?_;rintro v w ⟨rfl,hs⟩ a ha;refine dZ (by kernel_rfl) ?_;refine hK7 _ _ ?_;refine wp_region_lit ?_;refine pY ha (yAddN rfl rfl ⟨by omega,by omega⟩) fun a ha=>?_;refine pY ha (yMove rfl) fun a ha=>?_;refine pZ ?_;refine ⟨i + 1,⟨by omega,has4 ha rfl rfl rfl rfl,?_⟩,by omega⟩;rw [hf1];exact hs.drop2.drop2
    · refine wp_exit ?_;refine hK3 _ _ ?_;refine wp_seq_k fun K9 hK9=>?_;refine wp_region_lit ?_;refine pY ha (yMove rfl) fun a ha=>?_;refine pY ha (yAssign rfl) fun a ha=>?_;refine pZ ?_;refine hK9 _ _ ?_;refine wp_ret ?_;show bodyPost Tryz.prog Tryz.f97 _ .ret _ _;refine ret1 rfl ha rfl ?_;rw [List.take_of_length_le (by omega)] at hs; exact ⟨rfl,hs.drop2⟩
theorem WrNods_c (hT : Tabs W) {A : Option Addr} {n c : Nat} {xs : List Nod} (hb : (wNods st xs).1.length≤8796093022208) (hs : Sep W w cs) (hk : Pick cs (.wtr p 97 st) r) (hk2 : Pick r (.rd kNod (.slice A n c) xs) r2) :
    Calls P 61 #[.pointer (some ⟨p,0,none⟩),.slice A n c] w (Rt fun v w'=>v = .pointer (some ⟨p,0,none⟩)∧Sep W w' (.wtr p 97 (wNods st xs)::r)):=by
  have hs:=hs.pick hk;obtain ⟨rfl,hl⟩:=hs.rd_shape (.there hk2);unfold maxLen at hl;have hs:=hs.cpR (.there hk2)
  have hb0:=fold_le wNod_le xs (wNum st xs.length)
  unfold wNods at hb;refine enter Tryz.func61 Tryz.ntmps61 rfl rfl fun a (ha : Has a 35 [(0,_),(1,_)])=>?_;refine wp_seq_k fun K1 hK1=>?_;refine wp_region_lit ?_;refine pY ha (yAssign rfl) fun a ha=>?_;refine pZ ?_;refine hK1 _ _ ?_;refine wp_seq_k fun K2 hK2=>?_;refine wp_region_lit ?_;refine pY ha (yMove rfl) fun a ha=>?_;refine pY ha (yMove rfl) fun a ha=>?_;refine pY ha (yLenS Tryz.runUnderlying24 rfl) fun a ha=>?_;refine pC ha (nCall Tryz.call59 rfl) rfl (WrNum_c (st:=st) xs.length (by omega) hs (.there .here)) ?_;rintro v w ⟨rfl,hs⟩ a ha;refine pZ ?_;refine hK2 _ _ ?_;refine wp_seq_k fun K3 hK3=>?_;refine wp_seq_k fun K4 hK4=>?_;refine wp_region_lit ?_;refine pY ha (yMove rfl) fun a ha=>?_;refine pY ha (yLenS Tryz.runUnderlying24 rfl) fun a ha=>?_;refine pY ha (yMove rfl) fun a ha=>?_;refine pZ ?_;refine hK4 _ _ ?_;refine wp_block ?_;refine loopI (ι:=Nat) (fun i a w=>i≤xs.length∧Has a 35 [(0,.pointer (some ⟨p,0,none⟩)),(11,.slice A xs.length c),(12,.int .i64 xs.length),(13,.int .i64 i)]∧Sep W w (.wtr p 97 ((xs.take i).foldl wNod (wNum st xs.length))::.rd kNod (.slice A xs.length c) xs::r)) (fun i=>xs.length - i) (0) ?_ ?_
  · exact ⟨Nat.zero_le _,has4 ha rfl rfl rfl rfl,hs⟩
  · rintro i a w ⟨h1,ha,hs⟩;refine wp_seq_k fun K5 hK5=>?_;refine wp_region_lit ?_;refine pY ha (yLss rfl rfl) fun a ha=>?_;refine pZ ?_;refine hK5 _ _ ?_;refine wp_seq_k fun K6 hK6=>?_;refine cDec ha rfl (fun hc14=>?_) (fun hc14=>?_)
    · obtain ⟨x,hx⟩ : ∃ x,xs[i]? = some x:=⟨_,List.getElem?_eq_getElem (by omega)⟩;obtain ⟨hf1,hf2⟩:=fold_at (f:=wNod) wNod_le (s0:=wNum st xs.length) hx;generalize (xs.take i).foldl wNod (wNum st xs.length) = s0 at hs hf1 hf2;obtain ⟨b0,off,rfl,hs⟩:=hs.rd_nod (.there .here) hx
      have q1:=wNum_le s0 x.id
      have q2:=wNum_le (wNum s0 x.id) x.parent
      have q3:=wText_le (wNum (wNum s0 x.id) x.parent) x.name
      have q4:=wFlag_le (wText (wNum (wNum s0 x.id) x.parent) x.name) x.dir
      have q5:=wText_le (wFlag (wText (wNum (wNum s0 x.id) x.parent) x.name) x.dir) x.text
      have hf3 : (wText (wFlag (wText (wNum (wNum s0 x.id) x.parent) x.name) x.dir) x.text).1.length≤8796093022208:=Nat.le_trans hf2 hb
      refine wp_skip ?_;refine hK6 _ _ ?_;refine wp_seq_k fun K7 hK7=>?_;refine wp_block ?_;refine wp_seq_k fun K8 hK8=>?_;refine wp_region_lit ?_;refine pY ha (yIndexA Tryz.runUnderlying24 Tryz.sizeOf50 rfl rfl (by omega) (by omega)) fun a ha=>?_;refine pY ha (yLoadRA Tryz.isAgg50 Tryz.sizeOf50 hs rfl pk0 rfl) fun a ha=>?_;refine pAlloc (zs:=[.int .i64 0,.int .i64 0,.string ⟨#[]⟩,.bool false,.string ⟨#[]⟩]) ha Tryz.zeroValue50 rfl hs rfl fun b w hs a ha=>?_;refine pStoreA ha Tryz.sizeOf50 hs rfl rfl pk0 rfl rfl rfl fun w hs=>?_;refine pZ ?_;refine hK8 _ _ ?_;refine dStart (fun w=>∃ rs,Sep W w (.blk b 50 [.int .i64 x.id,.int .i64 x.parent,.string x.name,.bool x.dir,.string x.text]::rs)) [15] 65535 32767 (by kernel_rfl) (by kernel_rfl) rfl (⟨_,hs.drew.pick pk0⟩) ?_
      have hs:=Sep.drew hs
      generalize World.drew _ = w at hs ⊢;refine dP 0 1 rfl ha (fun _=>yMove rfl) fun a ha=>?_;refine dP 1 3 rfl ha (fun _=>yFieldA Tryz.runUnderlying50 rfl Tryz.sizeOf3 rfl rfl) fun a ha=>?_;refine dT 2 7 rfl ha (fun _ ⟨rs,hs⟩=>yLoadB Tryz.isAgg3 hs rfl pk0 rfl) (⟨_,hs.pick pk0⟩) fun a ha=>?_;refine dP 4 23 rfl ha (fun _=>yFieldA Tryz.runUnderlying50 rfl Tryz.sizeOf3 rfl rfl) fun a ha=>?_;refine dT 5 55 rfl ha (fun _ ⟨rs,hs⟩=>yLoadB Tryz.isAgg3 hs rfl pk0 rfl) (⟨_,hs.pick pk0⟩) fun a ha=>?_;refine dP 7 183 rfl ha (fun _=>yFieldA Tryz.runUnderlying50 rfl Tryz.sizeOf9 rfl rfl) fun a ha=>?_;refine dT 8 439 rfl ha (fun _ ⟨rs,hs⟩=>yLoadB Tryz.isAgg9 hs rfl pk0 rfl) (⟨_,hs.pick pk0⟩) fun a ha=>?_;refine dP 10 1463 rfl ha (fun _=>yFieldA Tryz.runUnderlying50 rfl Tryz.sizeOf4 rfl rfl) fun a ha=>?_;refine dT 11 3511 rfl ha (fun _ ⟨rs,hs⟩=>yLoadB Tryz.isAgg4 hs rfl pk0 rfl) (⟨_,hs.pick pk0⟩) fun a ha=>?_;refine dP 13 11703 rfl ha (fun _=>yFieldA Tryz.runUnderlying50 rfl Tryz.sizeOf9 rfl rfl) fun a ha=>?_;refine dT 14 28087 rfl ha (fun _ ⟨rs,hs⟩=>yLoadB Tryz.isAgg9 hs rfl pk0 rfl) (⟨_,hs.pick pk0⟩) fun a ha=>?_;refine dC 3 28095 rfl (by kernel_rfl) rfl ha won0 (nCall Tryz.call59 rfl) rfl (WrNum_c (st:=s0) x.id (by omega) hs pk2) ?_;rintro v w ⟨rfl,hs⟩;refine ⟨⟨_,hs.pick pk1⟩,fun a ha=>?_⟩;refine dC 6 28159 rfl (by kernel_rfl) rfl ha won0 (nCall Tryz.call59 rfl) rfl (WrNum_c (st:=wNum s0 x.id) x.parent (by omega) hs pk0) ?_;rintro v w ⟨rfl,hs⟩;refine ⟨⟨_,hs.pick pk1⟩,fun a ha=>?_⟩;refine dC 9 28671 rfl (by kernel_rfl) rfl ha won0 (nCall Tryz.call95 rfl) rfl (WrText_c (st:=wNum (wNum s0 x.id) x.parent) hT x.name (by omega) (by omega) hs pk0) ?_;rintro v w ⟨rfl,hs⟩;refine ⟨⟨_,hs.pick pk1⟩,fun a ha=>?_⟩;refine dC 12 32767 rfl (by kernel_rfl) rfl ha won0 (nCall Tryz.call96 rfl) rfl (WrFlag_c (st:=wText (wNum (wNum s0 x.id) x.parent) x.name) x.dir (by omega) hs pk0) ?_;rintro v w ⟨rfl,hs⟩;refine ⟨⟨_,hs.pick pk1⟩,fun a ha=>?_⟩;refine dCl 15 65535 rfl (by kernel_rfl) rfl ha won0 (nCall Tryz.call95 rfl) rfl (WrText_c (st:=wFlag (wText (wNum (wNum s0 x.id) x.parent) x.name) x.dir) hT x.text (by omega) (by omega) hs pk0) ?_;rintro v w ⟨rfl,hs⟩ a ha;refine dZ (by kernel_rfl) ?_;refine hK7 _ _ ?_;refine wp_region_lit ?_;refine pY ha (yAddN rfl rfl ⟨by omega,by omega⟩) fun a ha=>?_;refine pY ha (yMove rfl) fun a ha=>?_;refine pZ ?_;refine ⟨i + 1,⟨by omega,has4 ha rfl rfl rfl rfl,?_⟩,by omega⟩;rw [hf1];exact hs.drop2.drop2
    · refine wp_exit ?_;refine hK3 _ _ ?_;refine wp_seq_k fun K9 hK9=>?_;refine wp_region_lit ?_;refine pY ha (yMove rfl) fun a ha=>?_;refine pY ha (yAssign rfl) fun a ha=>?_;refine pZ ?_;refine hK9 _ _ ?_;refine wp_ret ?_;show bodyPost Tryz.prog Tryz.f61 _ .ret _ _;refine ret1 rfl ha rfl ?_;rw [List.take_of_length_le (by omega)] at hs; exact ⟨rfl,hs.drop2⟩
theorem WrActns_c (hT : Tabs W) {A : Option Addr} {n c : Nat} {xs : List Actn} (hb : (wActns st xs).1.length≤8796093022208) (hs : Sep W w cs) (hk : Pick cs (.wtr p 97 st) r) (hk2 : Pick r (.rd kActn (.slice A n c) xs) r2) :
    Calls P 60 #[.pointer (some ⟨p,0,none⟩),.slice A n c] w (Rt fun v w'=>v = .pointer (some ⟨p,0,none⟩)∧Sep W w' (.wtr p 97 (wActns st xs)::r)):=by
  have hs:=hs.pick hk;obtain ⟨rfl,hl⟩:=hs.rd_shape (.there hk2);unfold maxLen at hl;have hs:=hs.cpR (.there hk2)
  have hb0:=fold_le wActn_le xs (wNum st xs.length)
  unfold wActns at hb;refine enter Tryz.func60 Tryz.ntmps60 rfl rfl fun a (ha : Has a 38 [(0,_),(1,_)])=>?_;refine wp_seq_k fun K1 hK1=>?_;refine wp_region_lit ?_;refine pY ha (yAssign rfl) fun a ha=>?_;refine pZ ?_;refine hK1 _ _ ?_;refine wp_seq_k fun K2 hK2=>?_;refine wp_region_lit ?_;refine pY ha (yMove rfl) fun a ha=>?_;refine pY ha (yMove rfl) fun a ha=>?_;refine pY ha (yLenS Tryz.runUnderlying22 rfl) fun a ha=>?_;refine pC ha (nCall Tryz.call59 rfl) rfl (WrNum_c (st:=st) xs.length (by omega) hs (.there .here)) ?_;rintro v w ⟨rfl,hs⟩ a ha;refine pZ ?_;refine hK2 _ _ ?_;refine wp_seq_k fun K3 hK3=>?_;refine wp_seq_k fun K4 hK4=>?_;refine wp_region_lit ?_;refine pY ha (yMove rfl) fun a ha=>?_;refine pY ha (yLenS Tryz.runUnderlying22 rfl) fun a ha=>?_;refine pY ha (yMove rfl) fun a ha=>?_;refine pZ ?_;refine hK4 _ _ ?_;refine wp_block ?_;refine loopI (ι:=Nat) (fun i a w=>i≤xs.length∧Has a 38 [(0,.pointer (some ⟨p,0,none⟩)),(11,.slice A xs.length c),(12,.int .i64 xs.length),(13,.int .i64 i)]∧Sep W w (.wtr p 97 ((xs.take i).foldl wActn (wNum st xs.length))::.rd kActn (.slice A xs.length c) xs::r)) (fun i=>xs.length - i) (0) ?_ ?_
  · exact ⟨Nat.zero_le _,has4 ha rfl rfl rfl rfl,hs⟩
  · rintro i a w ⟨h1,ha,hs⟩;refine wp_seq_k fun K5 hK5=>?_;refine wp_region_lit ?_;refine pY ha (yLss rfl rfl) fun a ha=>?_;refine pZ ?_;refine hK5 _ _ ?_;refine wp_seq_k fun K6 hK6=>?_;refine cDec ha rfl (fun hc14=>?_) (fun hc14=>?_)
    · obtain ⟨x,hx⟩ : ∃ x,xs[i]? = some x:=⟨_,List.getElem?_eq_getElem (by omega)⟩;obtain ⟨hf1,hf2⟩:=fold_at (f:=wActn) wActn_le (s0:=wNum st xs.length) hx;generalize (xs.take i).foldl wActn (wNum st xs.length) = s0 at hs hf1 hf2;obtain ⟨b0,off,A',n',c',rfl,hs⟩:=hs.rd_actn (.there .here) hx
      have q1:=wNum_le s0 x.kind
      have q2:=wNum_le (wNum s0 x.kind) x.id
      have q3:=wNum_le (wNum (wNum s0 x.kind) x.id) x.parent
      have q4:=wText_le (wNum (wNum (wNum s0 x.kind) x.id) x.parent) x.name
      have q5:=wFlag_le (wText (wNum (wNum (wNum s0 x.kind) x.id) x.parent) x.name) x.dir
      have q6:=wComps_le (wFlag (wText (wNum (wNum (wNum s0 x.kind) x.id) x.parent) x.name) x.dir) x.ops
      have hf3 : (wComps (wFlag (wText (wNum (wNum (wNum s0 x.kind) x.id) x.parent) x.name) x.dir) x.ops).1.length≤8796093022208:=Nat.le_trans hf2 hb
      refine wp_skip ?_;refine hK6 _ _ ?_;refine wp_seq_k fun K7 hK7=>?_;refine wp_block ?_;refine wp_seq_k fun K8 hK8=>?_;refine wp_region_lit ?_;refine pY ha (yIndexA Tryz.runUnderlying22 Tryz.sizeOf48 rfl rfl (by omega) (by omega)) fun a ha=>?_;refine pY ha (yLoadRA Tryz.isAgg48 Tryz.sizeOf48 hs rfl pk0 rfl) fun a ha=>?_;refine pAlloc (zs:=[.int .i64 0,.int .i64 0,.int .i64 0,.string ⟨#[]⟩,.bool false,.slice none 0 0]) ha Tryz.zeroValue48 rfl hs rfl fun b w hs a ha=>?_;refine pStoreA ha Tryz.sizeOf48 hs rfl rfl pk0 rfl rfl rfl fun w hs=>?_;refine pZ ?_;refine hK8 _ _ ?_;refine dStart (fun w=>∃ rs,Sep W w (.blk b 48 [.int .i64 x.kind,.int .i64 x.id,.int .i64 x.parent,.string x.name,.bool x.dir,.slice A' n' c']::rs)) [18] 524287 262143 (by kernel_rfl) (by kernel_rfl) rfl (⟨_,hs.drew.pick pk0⟩) ?_
      have hs:=Sep.drew hs
      generalize World.drew _ = w at hs ⊢;refine dP 0 1 rfl ha (fun _=>yMove rfl) fun a ha=>?_;refine dP 1 3 rfl ha (fun _=>yFieldA Tryz.runUnderlying48 rfl Tryz.sizeOf3 rfl rfl) fun a ha=>?_;refine dT 2 7 rfl ha (fun _ ⟨rs,hs⟩=>yLoadB Tryz.isAgg3 hs rfl pk0 rfl) (⟨_,hs.pick pk0⟩) fun a ha=>?_;refine dP 4 23 rfl ha (fun _=>yFieldA Tryz.runUnderlying48 rfl Tryz.sizeOf3 rfl rfl) fun a ha=>?_;refine dT 5 55 rfl ha (fun _ ⟨rs,hs⟩=>yLoadB Tryz.isAgg3 hs rfl pk0 rfl) (⟨_,hs.pick pk0⟩) fun a ha=>?_;refine dP 7 183 rfl ha (fun _=>yFieldA Tryz.runUnderlying48 rfl Tryz.sizeOf3 rfl rfl) fun a ha=>?_;refine dT 8 439 rfl ha (fun _ ⟨rs,hs⟩=>yLoadB Tryz.isAgg3 hs rfl pk0 rfl) (⟨_,hs.pick pk0⟩) fun a ha=>?_;refine dP 10 1463 rfl ha (fun _=>yFieldA Tryz.runUnderlying48 rfl Tryz.sizeOf9 rfl rfl) fun a ha=>?_;refine dT 11 3511 rfl ha (fun _ ⟨rs,hs⟩=>yLoadB Tryz.isAgg9 hs rfl pk0 rfl) (⟨_,hs.pick pk0⟩) fun a ha=>?_;refine dP 13 11703 rfl ha (fun _=>yFieldA Tryz.runUnderlying48 rfl Tryz.sizeOf4 rfl rfl) fun a ha=>?_;refine dT 14 28087 rfl ha (fun _ ⟨rs,hs⟩=>yLoadB Tryz.isAgg4 hs rfl pk0 rfl) (⟨_,hs.pick pk0⟩) fun a ha=>?_;refine dP 16 93623 rfl ha (fun _=>yFieldA Tryz.runUnderlying48 rfl Tryz.sizeOf46 rfl rfl) fun a ha=>?_;refine dT 17 224695 rfl ha (fun _ ⟨rs,hs⟩=>yLoadB Tryz.isAgg46 hs rfl pk0 rfl) (⟨_,hs.pick pk0⟩) fun a ha=>?_;refine dC 3 224703 rfl (by kernel_rfl) rfl ha won0 (nCall Tryz.call59 rfl) rfl (WrNum_c (st:=s0) x.kind (by omega) hs pk3) ?_;rintro v w ⟨rfl,hs⟩;refine ⟨⟨_,hs.pick pk1⟩,fun a ha=>?_⟩;refine dC 6 224767 rfl (by kernel_rfl) rfl ha won0 (nCall Tryz.call59 rfl) rfl (WrNum_c (st:=wNum s0 x.kind) x.id (by omega) hs pk0) ?_;rintro v w ⟨rfl,hs⟩;refine ⟨⟨_,hs.pick pk1⟩,fun a ha=>?_⟩;refine dC 9 225279 rfl (by kernel_rfl) rfl ha won0 (nCall Tryz.call59 rfl) rfl (WrNum_c (st:=wNum (wNum s0 x.kind) x.id) x.parent (by omega) hs pk0) ?_;rintro v w ⟨rfl,hs⟩;refine ⟨⟨_,hs.pick pk1⟩,fun a ha=>?_⟩;refine dC 12 229375 rfl (by kernel_rfl) rfl ha won0 (nCall Tryz.call95 rfl) rfl (WrText_c (st:=wNum (wNum (wNum s0 x.kind) x.id) x.parent) hT x.name (by omega) (by omega) hs pk0) ?_;rintro v w ⟨rfl,hs⟩;refine ⟨⟨_,hs.pick pk1⟩,fun a ha=>?_⟩;refine dC 15 262143 rfl (by kernel_rfl) rfl ha won0 (nCall Tryz.call96 rfl) rfl (WrFlag_c (st:=wText (wNum (wNum (wNum s0 x.kind) x.id) x.parent) x.name) x.dir (by omega) hs pk0) ?_;rintro v w ⟨rfl,hs⟩;refine ⟨⟨_,hs.pick pk1⟩,fun a ha=>?_⟩;refine dCl 18 524287 rfl (by kernel_rfl) rfl ha won0 (nCall Tryz.call97 rfl) rfl (WrComps_c (st:=wFlag (wText (wNum (wNum (wNum s0 x.kind) x.id) x.parent) x.name) x.dir) hT (by omega) hs pk0 pk2) ?_;rintro v w ⟨rfl,hs⟩ a ha;refine dZ (by kernel_rfl) ?_;refine hK7 _ _ ?_;refine wp_region_lit ?_;refine pY ha (yAddN rfl rfl ⟨by omega,by omega⟩) fun a ha=>?_;refine pY ha (yMove rfl) fun a ha=>?_;refine pZ ?_;refine ⟨i + 1,⟨by omega,has4 ha rfl rfl rfl rfl,?_⟩,by omega⟩;rw [hf1];exact hs.drop2.drop2.drop2
    · refine wp_exit ?_;refine hK3 _ _ ?_;refine wp_seq_k fun K9 hK9=>?_;refine wp_region_lit ?_;refine pY ha (yMove rfl) fun a ha=>?_;refine pY ha (yAssign rfl) fun a ha=>?_;refine pZ ?_;refine hK9 _ _ ?_;refine wp_ret ?_;show bodyPost Tryz.prog Tryz.f60 _ .ret _ _;refine ret1 rfl ha rfl ?_;rw [List.take_of_length_le (by omega)] at hs; exact ⟨rfl,hs.drop2⟩
end
end Go.Proofs.YtnlhbkaieoogfaaGreatDoor

set_option linter.unusedVariables false
set_option linter.unusedSimpArgs false
namespace Go.Proofs.YtnlhbkaieoogfaaGreatDoor
open Go.RowKit Go.Lib
def tComps (l : List Comp) : Nat:=(l.map fun x=>x.text.size + 2).sum
def tNods (l : List Nod) : Nat:=(l.map fun x=>x.name.size + x.text.size + 3).sum
def tActns (l : List Actn) : Nat:=(l.map fun x=>x.name.size + tComps x.ops + 3).sum
section
variable {W w : World} {cs r r2 : List Ch}
theorem kInt_flat : kInt.Flat (fun x=>.int .i64 x):=⟨rfl,fun _ _ _ h=>h.1⟩
theorem Sep.ints_rd {b : Nat} {T : TypeId} {xs : List Int} (hs : Sep W w cs) (hk : Pick cs (.blk b T (xs.map (.int .i64))) r) (hr : ∀ x ∈ xs,-9223372036854775808≤x∧x≤9223372036854775807) (hn : xs.length≤1000:=by simp) :
    Sep W w (.rd kInt (.slice (some ⟨b,0,none⟩) xs.length xs.length) xs::r):=by
  refine Sep.ol_rd (Sep.flat_ol (E:=T) (xs:=xs) (cap:=xs.length) kInt_flat hs hk (fun x hx Z=>⟨rfl,(hr x hx).1,(hr x hx).2⟩) (Nat.le_refl _) (by unfold maxLen; omega) (by simp) (fun i x hx=>by rw [List.getElem?_map,hx]; rfl)) .here
end
end Go.Proofs.YtnlhbkaieoogfaaGreatDoor

set_option linter.unusedVariables false
set_option linter.unusedSimpArgs false
namespace Go.Proofs.YtnlhbkaieoogfaaGreatDoor
open Go.RowKit Go.Lib
structure Item where
  kind : Int
  n : Int
  text : ByteArray
  flag : Bool
  comps : List Comp
  acts : List Actn
  nods : List Nod
theorem wNum_len (st : Wt) (n : Int) : (wNum st n).1.length≤st.1.length + 6:=by have:=put_six n; simp [wNum]; omega
theorem wText_len (st : Wt) (s : ByteArray) : (wText st s).1.length≤st.1.length + 6 + s.size:=by
  have h:=wNum_len (st.1,st.2 || !okText s.data.toList) s.size
  have : s.data.toList.length = s.size:=by simp
  simp only [wText,List.length_append]; simp only at h; omega
theorem fold_len {α : Type} {f : Wt→α→Wt} {g : α→Nat} {k : Nat} (h : ∀ st x,(f st x).1.length≤st.1.length + k * g x) : ∀ (l : List α) (st : Wt),(l.foldl f st).1.length≤st.1.length + k * (l.map g).sum
  | [],st=>by simp
  | x::r,st=>by
    have h1:=h st x; have h2:=fold_len h r (f st x)
    simp only [List.foldl_cons,List.map_cons,List.sum_cons,Nat.mul_add]; omega
theorem wComp_len (st : Wt) (x : Comp) : (wComp st x).1.length≤st.1.length + 9 * (x.text.size + 2):=by
  have h1:=wNum_len st x.kind; have h2:=wNum_len (wNum st x.kind) x.n; have h3:=wText_len (wNum (wNum st x.kind) x.n) x.text
  unfold wComp; omega
theorem wComps_len (st : Wt) (l : List Comp) : (wComps st l).1.length≤st.1.length + 6 + 9 * tComps l:=by
  have h1:=wNum_len st l.length; have h2:=fold_len (g:=fun x : Comp=>x.text.size + 2) wComp_len l (wNum st l.length)
  unfold wComps tComps; omega
theorem wNod_len (st : Wt) (x : Nod) : (wNod st x).1.length≤st.1.length + 12 * (x.name.size + x.text.size + 3):=by
  have h1:=wNum_len st x.id; have h2:=wNum_len (wNum st x.id) x.parent; have h3:=wText_len (wNum (wNum st x.id) x.parent) x.name
  have h4:=wNum_len (wText (wNum (wNum st x.id) x.parent) x.name) (if x.dir then 1 else 0); have h5:=wText_len (wFlag (wText (wNum (wNum st x.id) x.parent) x.name) x.dir) x.text
  unfold wNod; unfold wFlag at h5 ⊢; omega
theorem wNods_len (st : Wt) (l : List Nod) : (wNods st l).1.length≤st.1.length + 6 + 12 * tNods l:=by
  have h1:=wNum_len st l.length; have h2:=fold_len (g:=fun x : Nod=>x.name.size + x.text.size + 3) wNod_len l (wNum st l.length)
  unfold wNods tNods; omega
theorem wActn_len (st : Wt) (x : Actn) : (wActn st x).1.length≤st.1.length + 12 * (x.name.size + tComps x.ops + 3):=by
  have h1:=wNum_len st x.kind; have h2:=wNum_len (wNum st x.kind) x.id; have h3:=wNum_len (wNum (wNum st x.kind) x.id) x.parent; have h4:=wText_len (wNum (wNum (wNum st x.kind) x.id) x.parent) x.name
  have h5:=wNum_len (wText (wNum (wNum (wNum st x.kind) x.id) x.parent) x.name) (if x.dir then 1 else 0); have h6:=wComps_len (wFlag (wText (wNum (wNum (wNum st x.kind) x.id) x.parent) x.name) x.dir) x.ops
  unfold wActn; unfold wFlag at h6 ⊢; omega
theorem wActns_len (st : Wt) (l : List Actn) : (wActns st l).1.length≤st.1.length + 6 + 12 * tActns l:=by
  have h1:=wNum_len st l.length; have h2:=fold_len (g:=fun x : Actn=>x.name.size + tComps x.ops + 3) wActn_len l (wNum st l.length)
  unfold wActns tActns; omega
section
variable {W w : World} {cs r r2 : List Ch} {p : Nat} {st : Wt}
end
end Go.Proofs.YtnlhbkaieoogfaaGreatDoor

set_option linter.unusedVariables false
set_option linter.unusedSimpArgs false
namespace Go.Proofs.YtnlhbkaieoogfaaGreatDoor
open Go.Lib
/-- x is written by f, and g reads it. -/
def Back {α : Type} (f : Wt→α→Wt) (g : St→α × St) (x : α) : Prop:=∀ st,(f st x).2 = false→st.2 = false∧∃ l,(f st x).1 = st.1++l∧∀ rest,g (l++rest,0) = (x,(rest,0))
theorem back_num (n : Int) : Back wNum rNum n:=fun st h=>by
  simp only [wNum,Bool.or_eq_false_iff] at h
  have hf : fits n = true:=by simpa using h.2
  have hf' : 0≤n∧n≤1099511627776:=by simpa [fits] using hf
  obtain ⟨m,rfl⟩:=Int.eq_ofNat_of_zero_le hf'.1;exact ⟨h.1,put m,rfl,fun rest=>rNum_put (by omega) rest⟩
theorem back_text (most : Nat) (s : ByteArray) (hs : s.size≤most) : Back wText (rText most) s:=fun st h=>by
  have h1 : (wNum (st.1,st.2 || !okText s.data.toList) s.size).2 = false:=h
  obtain ⟨h2,l,h3,h4⟩:=back_num s.size _ h1;simp only [Bool.or_eq_false_iff] at h2
  have hok : okText s.data.toList = true:=by simpa using h2.2
  have hlen : s.data.toList.length = s.size:=by simp
  refine ⟨h2.1,l++s.data.toList,?_,fun rest=>?_⟩
  · have : (wText st s).1 = (wNum (st.1,st.2 || !okText s.data.toList) s.size).1++s.data.toList:=rfl
    rw [this,h3,List.append_assoc]
  · rw [List.append_assoc]
    have ht : (s.data.toList++rest).take s.size = s.data.toList:=by rw [← hlen]; exact List.take_left ..
    have hd : (s.data.toList++rest).drop s.size = rest:=by rw [← hlen]; exact List.drop_left ..
    rw [rText_4 (h4 _) (by simp only [List.length_append,hlen]; omega) (by rw [ht]; exact hok) (by omega),ht,hd]
theorem back_flag (b : Bool) : Back wFlag rFlag b:=fun st h=>by
  obtain ⟨h2,l,h3,h4⟩:=back_num (if b then 1 else 0) st h;refine ⟨h2,l,h3,fun rest=>?_⟩;simp only [rFlag,h4]
  cases b <;> simp
theorem back_fold {α : Type} {f : Wt→α→Wt} {g : St→α × St} : ∀ (l : List α) (st : Wt),(∀ x ∈ l,Back f g x)→(l.foldl f st).2 = false→st.2 = false∧∃ bs,(l.foldl f st).1 = st.1++bs∧∀ rest,rList g l.length (bs++rest,0) = (l,(rest,0))
  | [],st,_,h=>⟨h,[],by simp,fun rest=>rfl⟩
  | x::r,st,hb,h=>by
    obtain ⟨h1,b1,h2,h3⟩:=back_fold r (f st x) (fun y hy=>hb y (by simp [hy])) h;obtain ⟨h4,b2,h5,h6⟩:=hb x (by simp) st h1;refine ⟨h4,b2++b1,by rw [List.foldl_cons,h2,h5,List.append_assoc],fun rest=>?_⟩;simp only [List.length_cons,rList,List.append_assoc,h6,h3]
theorem back_all {α : Type} {f : Wt→α→Wt} {g : St→α × St} {most : Nat} {l : List α} (hl : l.length≤most) (hb : ∀ x ∈ l,Back f g x) : Back (fun st l=>l.foldl f (wNum st l.length)) (rAll g most) l:=fun st h=>by
  obtain ⟨h1,b1,h2,h3⟩:=back_fold l _ hb h;obtain ⟨h4,b2,h5,h6⟩:=back_num l.length st h1;refine ⟨h4,b2++b1,by simp only [h2,h5,List.append_assoc],fun rest=>?_⟩
  have hM : rMany most (b2++(b1++rest),0) = ((l.length : Int),(b1++rest,0)):=by
    simp only [rMany,h6]; rw [if_neg (by omega)]
  rw [List.append_assoc,rAll_at (m:=l.length) (by rw [hM]) (by rw [hM]),h3,if_pos rfl]
theorem back_comp (x : Comp) (h : x.text.size≤8000) : Back wComp rComp x:=fun st hb=>by
  obtain ⟨h3,l3,e3,r3⟩:=back_text 8000 x.text h _ hb;obtain ⟨h2,l2,e2,r2⟩:=back_num x.n _ h3;obtain ⟨h1,l1,e1,r1⟩:=back_num x.kind _ h2;refine ⟨h1,l1++l2++l3,by show (wText (wNum (wNum st x.kind) x.n) x.text).1 = _; rw [e3,e2,e1]; simp,fun rest=>?_⟩
  have r3' : ∀ rest,rText 8000 (l3++rest,0) = (x.text,(rest,0)):=r3
  simp only [rComp,List.append_assoc,r1,r2,r3']
theorem back_comps (l : List Comp) (hl : l.length≤100) (h : ∀ x ∈ l,x.text.size≤8000) : Back wComps rComps l:=back_all (most:=100) hl fun x hx=>back_comp x (h x hx)
theorem back_nod (x : Nod) (hn : x.name.size≤100) (h : x.text.size≤8000) : Back wNod rNod x:=fun st hb=>by
  obtain ⟨h5,l5,e5,r5⟩:=back_text 8000 x.text h _ hb;obtain ⟨h4,l4,e4,r4⟩:=back_flag x.dir _ h5;obtain ⟨h3,l3,e3,r3⟩:=back_text 100 x.name hn _ h4;obtain ⟨h2,l2,e2,r2⟩:=back_num x.parent _ h3;obtain ⟨h1,l1,e1,r1⟩:=back_num x.id _ h2;refine ⟨h1,l1++l2++l3++l4++l5,by show (wText (wFlag (wText (wNum (wNum st x.id) x.parent) x.name) x.dir) x.text).1 = _; rw [e5,e4,e3,e2,e1]; simp,fun rest=>?_⟩
  have r3' : ∀ rest,rText 100 (l3++rest,0) = (x.name,(rest,0)):=r3
  have r5' : ∀ rest,rText 8000 (l5++rest,0) = (x.text,(rest,0)):=r5
  simp only [rNod,List.append_assoc,r1,r2,r3',r4,r5']
theorem back_nods (l : List Nod) (hl : l.length≤100) (h : ∀ x ∈ l,x.name.size≤100∧x.text.size≤8000) : Back wNods rNods l:=back_all (most:=100) hl fun x hx=>back_nod x (h x hx).1 (h x hx).2
theorem back_actn (x : Actn) (hn : x.name.size≤100) (hl : x.ops.length≤100) (h : ∀ y ∈ x.ops,y.text.size≤8000) : Back wActn rActn x:=fun st hb=>by
  obtain ⟨h6,l6,e6,r6⟩:=back_comps x.ops hl h _ hb;obtain ⟨h5,l5,e5,r5⟩:=back_flag x.dir _ h6;obtain ⟨h4,l4,e4,r4⟩:=back_text 100 x.name hn _ h5;obtain ⟨h3,l3,e3,r3⟩:=back_num x.parent _ h4;obtain ⟨h2,l2,e2,r2⟩:=back_num x.id _ h3;obtain ⟨h1,l1,e1,r1⟩:=back_num x.kind _ h2;refine ⟨h1,l1++l2++l3++l4++l5++l6,by show (wComps (wFlag (wText (wNum (wNum (wNum st x.kind) x.id) x.parent) x.name) x.dir) x.ops).1 = _; rw [e6,e5,e4,e3,e2,e1]; simp,fun rest=>?_⟩
  have r4' : ∀ rest,rText 100 (l4++rest,0) = (x.name,(rest,0)):=r4
  simp only [rActn,List.append_assoc,r1,r2,r3,r4',r5,r6]
theorem back_actns (l : List Actn) (hl : l.length≤20) (h : ∀ x ∈ l,x.name.size≤100∧x.ops.length≤100∧∀ y ∈ x.ops,y.text.size≤8000) : Back wActns rActns l:=back_all (most:=20) hl fun x hx=>back_actn x (h x hx).1 (h x hx).2.1 (h x hx).2.2
end Go.Proofs.YtnlhbkaieoogfaaGreatDoor

set_option linter.unusedVariables false
set_option linter.unusedSimpArgs false
namespace Go.Proofs.YtnlhbkaieoogfaaGreatDoor
open Go.Lib
def wCmt (st : Wt) (x : Cmt) : Wt:=wActns (wNum (wNum (wNum st x.rev) x.client) x.seq) x.acts
def wCmts (st : Wt) (l : List Cmt) : Wt:=l.foldl wCmt (wNum st l.length)
def wHead (st : Wt) (m : Msg) : Wt:=wActns (wNum (wNum (wNum (wNum (wNum (wNum st m.kind) m.client) m.seq) m.rev) m.code) m.last) m.acts
def wMsg (m : Msg) : Wt:=wNods (wCmts (wHead ([],false) m) m.commits) m.nodes
def bOut (m : Msg) : List UInt8:=if (wMsg m).2 = true then [] else (wMsg m).1
def msgE (m : Msg) : Int :=
  if m.kind < 1∨m.kind > 9∨m ≠ plainM m∨fits m.client = false∨fits m.seq = false∨fits m.rev = false∨fits m.last = false∨fits m.code = false then 1
  else if txnE m.acts ≠ 0 then txnE m.acts
  else if cmtsE m.commits ≠ 0 then cmtsE m.commits
  else if nodsE m.nodes ≠ 0 then nodsE m.nodes
  else if (bOut m).length > 65536 then 3 else 0
def rCmt (st : St) : Cmt × St:=let a:=rNum st; let b:=rNum a.2; let c:=rNum b.2; let d:=rActns c.2; (⟨a.1,b.1,c.1,d.1⟩,d.2)
/-- The reader's commits: the loop doesn't stop at an error. -/
def rCmts (st : St) : List Cmt × St:=let q:=rMany 20 st; rList rCmt q.1.toNat q.2
def rMsg (st : St) : Msg × St :=
  let k:=rNum st; let c:=rNum k.2; let s:=rNum c.2; let r:=rNum s.2; let o:=rNum r.2; let l:=rNum o.2; let a:=rActns l.2; let cs:=rCmts a.2; let ns:=rNods cs.2
  (⟨k.1,c.1,s.1,r.1,o.1,a.1,cs.1,ns.1,l.1⟩,ns.2)
def decM (b : List UInt8) : Msg × Int :=
  if b.length > 65536 then (noM,3) else
  let q:=rMsg (b,0)
  if q.2.2 ≠ 0∨msgE q.1 ≠ 0∨bOut q.1 ≠ b then (noM,2) else (q.1,0)
def encM (m : Msg) : List UInt8 × Int:=if msgE m ≠ 0 then ([],msgE m) else (bOut m,0)
theorem wActns_le (st : Wt) (l : List Actn) : st.1.length≤(wActns st l).1.length:=Nat.le_trans (wNum_le st l.length) (fold_le wActn_le l _)
theorem wNods_le (st : Wt) (l : List Nod) : st.1.length≤(wNods st l).1.length:=Nat.le_trans (wNum_le st l.length) (fold_le wNod_le l _)
theorem wCmt_le (st : Wt) (x : Cmt) : st.1.length≤(wCmt st x).1.length:=by
  have h1:=wNum_le st x.rev; have h2:=wNum_le (wNum st x.rev) x.client; have h3:=wNum_le (wNum (wNum st x.rev) x.client) x.seq; have h4:=wActns_le (wNum (wNum (wNum st x.rev) x.client) x.seq) x.acts
  unfold wCmt; omega
theorem act_ok {l : List Actn} (h : txnE l = 0) : l.length≤20∧putsA l≤2000∧∀ a ∈ l,oneE a = 0:=by
  unfold txnE at h
  split at h
  · simp at h
  · split at h
    · rename_i h1 h2; exact absurd h h2
    · split at h
      · simp at h
      · rename_i h1 h2 h3
        refine ⟨by omega,by omega,fun a ha=>?_⟩;obtain ⟨i,hi,rfl⟩:=List.mem_iff_getElem.1 ha
        have:=fe_zero (by simpa using h2) i hi
        unfold actE at this;rw [List.getD_eq_getElem?_getD,List.getElem?_eq_getElem hi,Option.getD_some] at this
        split at this
        · rename_i h4; exact absurd this h4
        · rename_i h4; simpa using h4
theorem one_ok {a : Actn} (h : oneE a = 0) : ¬ badA a∧(a.kind = 4→opE a.ops = 0):=by
  unfold oneE at h
  split at h
  · simp at h
  · rename_i h1
    exact ⟨h1,fun h2=>by rw [if_pos h2] at h; exact h⟩
theorem op_ok {l : List Comp} (h : opE l = 0) : l.length≤100∧∀ c ∈ l,sndC c = true:=by
  unfold opE at h
  split at h
  · simp at h
  · split at h
    · simp at h
    · rename_i h1 h2
      refine ⟨by omega,fun c hc=>?_⟩;obtain ⟨i,hi,rfl⟩:=List.mem_iff_getElem.1 hc
      have:=allN_iff.1 (by simpa [normC] using h2) i hi
      unfold goodC at this;rw [Bool.and_eq_true,List.getD_eq_getElem?_getD,List.getElem?_eq_getElem hi,Option.getD_some] at this;exact this.1
theorem snd_ok {c : Comp} (h : sndC c = true) : (c.kind = 2∧okText c.text.data.toList = true)∨(c.kind ≠ 2∧c.text = emp):=by
  unfold sndC at h
  split at h
  · rename_i h1; simp only [Bool.and_eq_true] at h; exact .inl ⟨h1,h.2⟩
  · rename_i h1
    split at h
    · simp only [Bool.and_eq_true,decide_eq_true_eq] at h; exact .inr ⟨h1,h.2⟩
    · cases h
theorem puts_mem {l : List Comp} {c : Comp} (h : c ∈ l) (hk : c.kind = 2) : cnt c.text.data.toList≤putsC l:=by
  induction l with
  | nil=>cases h
  | cons x r ih=>
    simp only [putsC]
    rcases List.mem_cons.1 h with rfl | h
    · rw [if_pos hk]; omega
    · have:=ih h; omega
theorem putsA_mem {l : List Actn} {a : Actn} (h : a ∈ l) : putsC a.ops≤putsA l:=by
  induction l with
  | nil=>cases h
  | cons x r ih=>
    simp only [putsA]
    rcases List.mem_cons.1 h with rfl | h
    · omega
    · have:=ih h; omega
theorem emp_ok : okText emp.data.toList = true:=by rfl
theorem name_size {s : ByteArray} (h : nameOk s = true) : s.size≤20:=by
  unfold nameOk at h; simp only [Bool.and_eq_true,decide_eq_true_eq] at h; exact h.1.1.2
theorem letter_range {b : UInt8} (h : letter b = true) : 45≤b.toNat∧b.toNat≤122:=by
  unfold letter at h; simp only [Bool.or_eq_true,decide_eq_true_eq] at h; omega
theorem ascii_ok {l : List UInt8} (h : ∀ b ∈ l,1≤b.toNat∧b.toNat < 128) : okText l = true:=by
  unfold okText
  have h1 : validD l = true:=by
    rw [validD_ascii l.length _ (fun b hb=>by have:=h b (List.mem_of_mem_take hb); omega),List.drop_length]
    rfl
  have h2 : l.contains 0 = false:=by
    cases hc : l.contains 0 with
    | false=>rfl
    | true=>
      have:=h 0 (by simpa using hc)
      simp at this
  rw [h1,h2]; rfl
theorem name_ok {s : ByteArray} (h : nameOk s = true) : okText s.data.toList = true:=by
  unfold nameOk at h;simp only [Bool.and_eq_true,List.all_eq_true] at h;exact ascii_ok fun b hb=>by have:=letter_range (h.1.1.1.1 b hb); omega
/-- An act that may be: its name and its texts. -/
theorem act_sound {l : List Actn} (h : txnE l = 0) {a : Actn} (ha : a ∈ l) : fits a.kind = true∧fits a.id = true∧fits a.parent = true∧a.name.size≤20∧okText a.name.data.toList = true∧a.ops.length≤100∧∀ c ∈ a.ops,sndC c = true∧cnt c.text.data.toList≤2000∧okText c.text.data.toList = true:=by
  obtain ⟨h1,h2,h3⟩:=act_ok h;obtain ⟨hb,ho⟩:=one_ok (h3 a ha);unfold badA at hb;simp only [not_or] at hb;obtain ⟨b1,b2,b3,b4,b5,b6,b7,b8⟩:=hb
  have b3' : a = plainA a:=Classical.not_not.1 b3
  have hk : fits a.kind = true:=by simp [fits]; omega
  have hi : fits a.id = true:=by simp [fits]; omega
  have hp : fits a.parent = true:=by simp [fits]; omega
  by_cases k1 : a.kind = 1∨a.kind = 3
  · have hn : nameOk a.name = true:=by
      cases hn : nameOk a.name with
      | true=>rfl
      | false=>exact absurd ⟨k1,hn⟩ b8
    have hops : a.ops = []:=by
      rw [b3']; unfold plainA
      rcases k1 with k | k <;> simp [k]
    rw [hops];exact ⟨hk,hi,hp,name_size hn,name_ok hn,by simp,fun c hc=>by cases hc⟩
  · have hn : a.name = emp:=by
      rw [b3']; unfold plainA;simp only [not_or] at k1;rw [if_neg k1.1]
      by_cases k2 : a.kind = 2
      · rw [if_pos k2]
      · rw [if_neg k2,if_neg k1.2]
        split <;> rfl
    rw [hn];refine ⟨hk,hi,hp,by decide,emp_ok,?_⟩
    by_cases k4 : a.kind = 4
    · obtain ⟨o1,o2⟩:=op_ok (ho k4);refine ⟨o1,fun c hc=>⟨o2 c hc,?_,?_⟩⟩
      · rcases snd_ok (o2 c hc) with ⟨e1,e2⟩ | ⟨e1,e2⟩
        · have:=puts_mem hc e1; have:=putsA_mem ha; omega
        · rw [e2]; decide
      · rcases snd_ok (o2 c hc) with ⟨e1,e2⟩ | ⟨e1,e2⟩
        · exact e2
        · rw [e2]; rfl
    · have hops : a.ops = []:=by
        rw [b3']; unfold plainA;simp only [not_or] at k1;rw [if_neg k1.1]
        by_cases k2 : a.kind = 2
        · rw [if_pos k2]
        · rw [if_neg k2,if_neg k1.2,if_neg k4]
      rw [hops];exact ⟨by simp,fun c hc=>by cases hc⟩
end Go.Proofs.YtnlhbkaieoogfaaGreatDoor

set_option linter.unusedVariables false
set_option linter.unusedSimpArgs false
namespace Go.Proofs.YtnlhbkaieoogfaaGreatDoor
open Go.RowKit
/-- Two lists that are alike up to a place, and one place more. -/
theorem take_more {α : Type} {xs ys : List α} {i : Nat} {x y : α} (h : xs.take i = ys.take i) (hx : xs[i]? = some x) (hy : ys[i]? = some y) (e : x = y) : xs.take (i + 1) = ys.take (i + 1):=by
  rw [List.take_add_one,List.take_add_one,h,hx,hy,e]
theorem take_ne {α : Type} {xs ys : List α} {i : Nat} {x y : α} (hx : xs[i]? = some x) (hy : ys[i]? = some y) (e : x ≠ y) : xs ≠ ys:=by
  rintro rfl;rw [hx] at hy;exact e (Option.some.inj hy)
section
variable {W w : World} {cs r r' : List Ch}
theorem EqComps_c {A A' : Option Addr} {n n' c c' : Nat} {xs ys : List Comp} (hs : Sep W w cs) (hk : Pick cs (.rd kComp (.slice A n c) xs) r) (hk' : Pick cs (.rd kComp (.slice A' n' c') ys) r') :
    Calls P 114 #[.slice A n c,.slice A' n' c'] w (Rt fun v w'=>v = .bool (decide (xs = ys))∧Sep W w' cs):=by
  obtain ⟨rfl,hl⟩:=hs.rd_shape hk;obtain ⟨rfl,hl'⟩:=hs.rd_shape hk';unfold maxLen at hl hl'
  have hs:=(hs.cpR hk).cpR (.there hk')
  refine enter Tryz.func114 Tryz.ntmps114 rfl rfl fun a (ha : Has a 26 [(0,_),(1,_)])=>?_;refine wp_seq_k fun K1 hK1=>?_;refine wp_region_lit ?_;refine pY ha (yAssign rfl) fun a ha=>?_;refine pZ ?_;refine hK1 _ _ ?_;refine wp_seq_k fun K2 hK2=>?_;refine wp_seq_k fun K3 hK3=>?_;refine wp_region_lit ?_;refine pY ha (yMove rfl) fun a ha=>?_;refine pY ha (yLenS Tryz.runUnderlying46 rfl) fun a ha=>?_;refine pY ha (yMove rfl) fun a ha=>?_;refine pY ha (yLenS Tryz.runUnderlying46 rfl) fun a ha=>?_;refine pY ha (yNeq rfl rfl) fun a ha=>?_;refine pZ ?_;refine hK3 _ _ ?_;refine cNDec ha rfl (fun hc10=>?_) (fun hc10=>?_)
  · refine wp_seq_k fun K4 hK4=>?_;refine wp_region_lit ?_;refine pY ha (yAssign rfl) fun a ha=>?_;refine pZ ?_;refine hK4 _ _ ?_;refine wp_ret ?_;show bodyPost Tryz.prog Tryz.f114 _ .ret _ _;refine ret1 rfl ha rfl ?_;exact ⟨congrArg Value.bool (decide_eq_false (by rintro rfl; exact hc10 rfl)).symm,hs.drop.drop⟩
  · refine wp_skip ?_;refine hK2 _ _ ?_;refine wp_seq_k fun K5 hK5=>?_;refine wp_seq_k fun K6 hK6=>?_;refine wp_region_lit ?_;refine pY ha (yMove rfl) fun a ha=>?_;refine pY ha (yLenS Tryz.runUnderlying46 rfl) fun a ha=>?_;refine pY ha (yMove rfl) fun a ha=>?_;refine pZ ?_;refine hK6 _ _ ?_;refine wp_block ?_;refine loopI (ι:=Nat) (fun i a w=>i≤xs.length∧xs.take i = ys.take i∧Has a 26 [(0,.slice A xs.length c),(1,.slice A' ys.length c'),(12,.int .i64 xs.length),(13,.int .i64 i)]∧Sep W w (.rd kComp (.slice A' ys.length c') ys::.rd kComp (.slice A xs.length c) xs::cs)) (fun i=>xs.length - i) (0) ?_ ?_
    · exact ⟨Nat.zero_le _,rfl,has4 ha rfl rfl rfl rfl,hs⟩
    · rintro i a w ⟨h1,h2,ha,hs⟩;refine wp_seq_k fun K7 hK7=>?_;refine wp_region_lit ?_;refine pY ha (yLss rfl rfl) fun a ha=>?_;refine pZ ?_;refine hK7 _ _ ?_;refine wp_seq_k fun K8 hK8=>?_;refine cDec ha rfl (fun hc14=>?_) (fun hc14=>?_)
      · obtain ⟨x,hx⟩ : ∃ x,xs[i]? = some x:=⟨_,List.getElem?_eq_getElem (by omega)⟩;obtain ⟨y,hy⟩ : ∃ y,ys[i]? = some y:=⟨_,List.getElem?_eq_getElem (by omega)⟩;obtain ⟨b,off,rfl,hs⟩:=hs.rd_comp (.there .here) hx;obtain ⟨b',off',rfl,hs⟩:=hs.rd_comp (.there .here) hy;refine wp_skip ?_;refine hK8 _ _ ?_;refine wp_seq_k fun K9 hK9=>?_;refine wp_block ?_;refine wp_seq_k fun K10 hK10=>?_;refine wp_region_lit ?_;refine pY ha (yMove rfl) fun a ha=>?_;refine pY ha (yAssign rfl) fun a ha=>?_;refine pZ ?_;refine hK10 _ _ ?_;refine wp_seq_k fun K11 hK11=>?_;refine dStart (fun w=>Sep W w _) [] 511 511 (by kernel_rfl) (by kernel_rfl) rfl (hs.drew) ?_
        have hs:=Sep.drew hs
        generalize World.drew _ = w at hs ⊢;refine dP 0 1 rfl ha (fun _=>yMove rfl) fun a ha=>?_;refine dP 1 3 rfl ha (fun _=>yMove rfl) fun a ha=>?_;refine dP 2 7 rfl ha (fun _=>yIndexA Tryz.runUnderlying46 Tryz.sizeOf45 rfl rfl (by omega) (by omega)) fun a ha=>?_;refine dT 3 15 rfl ha (fun _ hs=>yLoadRA Tryz.isAgg45 Tryz.sizeOf45 hs rfl pk1 rfl) (hs) fun a ha=>?_;refine dP 4 31 rfl ha (fun _=>yMove rfl) fun a ha=>?_;refine dP 5 63 rfl ha (fun _=>yMove rfl) fun a ha=>?_;refine dP 6 127 rfl ha (fun _=>yIndexA Tryz.runUnderlying46 Tryz.sizeOf45 rfl rfl (by omega) (by omega)) fun a ha=>?_;refine dT 7 255 rfl ha (fun _ hs=>yLoadRA Tryz.isAgg45 Tryz.sizeOf45 hs rfl pk0 rfl) (hs) fun a ha=>?_;refine dP 8 511 rfl ha (fun _=>yCompNeq (a:=x) (b:=y) rfl rfl) fun a ha=>?_;refine dZ (by kernel_rfl) ?_;refine hK11 _ _ ?_;refine cNDec ha rfl (fun hc24=>?_) (fun hc24=>?_)
        · refine wp_seq_k fun K12 hK12=>?_;refine wp_region_lit ?_;refine pY ha (yAssign rfl) fun a ha=>?_;refine pZ ?_;refine hK12 _ _ ?_;refine wp_ret ?_;show bodyPost Tryz.prog Tryz.f114 _ .ret _ _;refine ret1 rfl ha rfl ?_;exact ⟨congrArg Value.bool (decide_eq_false (take_ne hx hy hc24)).symm,hs.drop.drop.drop.drop⟩
        · refine wp_skip ?_;refine hK9 _ _ ?_;refine wp_region_lit ?_;refine pY ha (yAddN rfl rfl ⟨by omega,by omega⟩) fun a ha=>?_;refine pY ha (yMove rfl) fun a ha=>?_;refine pZ ?_;exact ⟨i + 1,⟨by omega,take_more h2 hx hy hc24,has4 ha rfl rfl rfl rfl,hs.drop.drop⟩,by omega⟩
      · refine wp_exit ?_;refine hK5 _ _ ?_;refine wp_seq_k fun K13 hK13=>?_;refine wp_region_lit ?_;refine pY ha (yAssign rfl) fun a ha=>?_;refine pZ ?_;refine hK13 _ _ ?_;refine wp_ret ?_;show bodyPost Tryz.prog Tryz.f114 _ .ret _ _;refine ret1 rfl ha rfl ?_;rw [List.take_of_length_le (by omega),List.take_of_length_le (by omega)] at h2; exact ⟨congrArg Value.bool (decide_eq_true h2).symm,hs.drop.drop⟩
theorem EqNods_c {A A' : Option Addr} {n n' c c' : Nat} {xs ys : List Nod} (hs : Sep W w cs) (hk : Pick cs (.rd kNod (.slice A n c) xs) r) (hk' : Pick cs (.rd kNod (.slice A' n' c') ys) r') :
    Calls P 45 #[.slice A n c,.slice A' n' c'] w (Rt fun v w'=>v = .bool (decide (xs = ys))∧Sep W w' cs):=by
  obtain ⟨rfl,hl⟩:=hs.rd_shape hk;obtain ⟨rfl,hl'⟩:=hs.rd_shape hk';unfold maxLen at hl hl'
  have hs:=(hs.cpR hk).cpR (.there hk')
  refine enter Tryz.func45 Tryz.ntmps45 rfl rfl fun a (ha : Has a 26 [(0,_),(1,_)])=>?_;refine wp_seq_k fun K1 hK1=>?_;refine wp_region_lit ?_;refine pY ha (yAssign rfl) fun a ha=>?_;refine pZ ?_;refine hK1 _ _ ?_;refine wp_seq_k fun K2 hK2=>?_;refine wp_seq_k fun K3 hK3=>?_;refine wp_region_lit ?_;refine pY ha (yMove rfl) fun a ha=>?_;refine pY ha (yLenS Tryz.runUnderlying24 rfl) fun a ha=>?_;refine pY ha (yMove rfl) fun a ha=>?_;refine pY ha (yLenS Tryz.runUnderlying24 rfl) fun a ha=>?_;refine pY ha (yNeq rfl rfl) fun a ha=>?_;refine pZ ?_;refine hK3 _ _ ?_;refine cNDec ha rfl (fun hc10=>?_) (fun hc10=>?_)
  · refine wp_seq_k fun K4 hK4=>?_;refine wp_region_lit ?_;refine pY ha (yAssign rfl) fun a ha=>?_;refine pZ ?_;refine hK4 _ _ ?_;refine wp_ret ?_;show bodyPost Tryz.prog Tryz.f45 _ .ret _ _;refine ret1 rfl ha rfl ?_;exact ⟨congrArg Value.bool (decide_eq_false (by rintro rfl; exact hc10 rfl)).symm,hs.drop.drop⟩
  · refine wp_skip ?_;refine hK2 _ _ ?_;refine wp_seq_k fun K5 hK5=>?_;refine wp_seq_k fun K6 hK6=>?_;refine wp_region_lit ?_;refine pY ha (yMove rfl) fun a ha=>?_;refine pY ha (yLenS Tryz.runUnderlying24 rfl) fun a ha=>?_;refine pY ha (yMove rfl) fun a ha=>?_;refine pZ ?_;refine hK6 _ _ ?_;refine wp_block ?_;refine loopI (ι:=Nat) (fun i a w=>i≤xs.length∧xs.take i = ys.take i∧Has a 26 [(0,.slice A xs.length c),(1,.slice A' ys.length c'),(12,.int .i64 xs.length),(13,.int .i64 i)]∧Sep W w (.rd kNod (.slice A' ys.length c') ys::.rd kNod (.slice A xs.length c) xs::cs)) (fun i=>xs.length - i) (0) ?_ ?_
    · exact ⟨Nat.zero_le _,rfl,has4 ha rfl rfl rfl rfl,hs⟩
    · rintro i a w ⟨h1,h2,ha,hs⟩;refine wp_seq_k fun K7 hK7=>?_;refine wp_region_lit ?_;refine pY ha (yLss rfl rfl) fun a ha=>?_;refine pZ ?_;refine hK7 _ _ ?_;refine wp_seq_k fun K8 hK8=>?_;refine cDec ha rfl (fun hc14=>?_) (fun hc14=>?_)
      · obtain ⟨x,hx⟩ : ∃ x,xs[i]? = some x:=⟨_,List.getElem?_eq_getElem (by omega)⟩;obtain ⟨y,hy⟩ : ∃ y,ys[i]? = some y:=⟨_,List.getElem?_eq_getElem (by omega)⟩;obtain ⟨b,off,rfl,hs⟩:=hs.rd_nod (.there .here) hx;obtain ⟨b',off',rfl,hs⟩:=hs.rd_nod (.there .here) hy;refine wp_skip ?_;refine hK8 _ _ ?_;refine wp_seq_k fun K9 hK9=>?_;refine wp_block ?_;refine wp_seq_k fun K10 hK10=>?_;refine wp_region_lit ?_;refine pY ha (yMove rfl) fun a ha=>?_;refine pY ha (yAssign rfl) fun a ha=>?_;refine pZ ?_;refine hK10 _ _ ?_;refine wp_seq_k fun K11 hK11=>?_;refine dStart (fun w=>Sep W w _) [] 511 511 (by kernel_rfl) (by kernel_rfl) rfl (hs.drew) ?_
        have hs:=Sep.drew hs
        generalize World.drew _ = w at hs ⊢;refine dP 0 1 rfl ha (fun _=>yMove rfl) fun a ha=>?_;refine dP 1 3 rfl ha (fun _=>yMove rfl) fun a ha=>?_;refine dP 2 7 rfl ha (fun _=>yIndexA Tryz.runUnderlying24 Tryz.sizeOf50 rfl rfl (by omega) (by omega)) fun a ha=>?_;refine dT 3 15 rfl ha (fun _ hs=>yLoadRA Tryz.isAgg50 Tryz.sizeOf50 hs rfl pk1 rfl) (hs) fun a ha=>?_;refine dP 4 31 rfl ha (fun _=>yMove rfl) fun a ha=>?_;refine dP 5 63 rfl ha (fun _=>yMove rfl) fun a ha=>?_;refine dP 6 127 rfl ha (fun _=>yIndexA Tryz.runUnderlying24 Tryz.sizeOf50 rfl rfl (by omega) (by omega)) fun a ha=>?_;refine dT 7 255 rfl ha (fun _ hs=>yLoadRA Tryz.isAgg50 Tryz.sizeOf50 hs rfl pk0 rfl) (hs) fun a ha=>?_;refine dP 8 511 rfl ha (fun _=>yNodNeq2 (a:=x) (b:=y) rfl rfl) fun a ha=>?_;refine dZ (by kernel_rfl) ?_;refine hK11 _ _ ?_;refine cNDec ha rfl (fun hc24=>?_) (fun hc24=>?_)
        · refine wp_seq_k fun K12 hK12=>?_;refine wp_region_lit ?_;refine pY ha (yAssign rfl) fun a ha=>?_;refine pZ ?_;refine hK12 _ _ ?_;refine wp_ret ?_;show bodyPost Tryz.prog Tryz.f45 _ .ret _ _;refine ret1 rfl ha rfl ?_;exact ⟨congrArg Value.bool (decide_eq_false (take_ne hx hy hc24)).symm,hs.drop.drop.drop.drop⟩
        · refine wp_skip ?_;refine hK9 _ _ ?_;refine wp_region_lit ?_;refine pY ha (yAddN rfl rfl ⟨by omega,by omega⟩) fun a ha=>?_;refine pY ha (yMove rfl) fun a ha=>?_;refine pZ ?_;exact ⟨i + 1,⟨by omega,take_more h2 hx hy hc24,has4 ha rfl rfl rfl rfl,hs.drop.drop⟩,by omega⟩
      · refine wp_exit ?_;refine hK5 _ _ ?_;refine wp_seq_k fun K13 hK13=>?_;refine wp_region_lit ?_;refine pY ha (yAssign rfl) fun a ha=>?_;refine pZ ?_;refine hK13 _ _ ?_;refine wp_ret ?_;show bodyPost Tryz.prog Tryz.f45 _ .ret _ _;refine ret1 rfl ha rfl ?_;rw [List.take_of_length_le (by omega),List.take_of_length_le (by omega)] at h2; exact ⟨congrArg Value.bool (decide_eq_true h2).symm,hs.drop.drop⟩
theorem SameA_c {A A' : Option Addr} {n n' c c' : Nat} {x y : Actn} (hs : Sep W w cs) (hk : Pick cs (.rd kComp (.slice A n c) x.ops) r) (hk' : Pick cs (.rd kComp (.slice A' n' c') y.ops) r') :
    Calls P 87 #[.agg [.int .i64 x.kind,.int .i64 x.id,.int .i64 x.parent,.string x.name,.bool x.dir,.slice A n c].toArray,.agg [.int .i64 y.kind,.int .i64 y.id,.int .i64 y.parent,.string y.name,.bool y.dir,.slice A' n' c'].toArray] w (Rt fun v w'=>v = .bool (decide (x = y))∧Sep W w' cs):=by
  refine enter Tryz.func87 Tryz.ntmps87 rfl rfl fun a (ha : Has a 47 [(0,_),(1,_)])=>?_;refine wp_seq_k fun K1 hK1=>?_
  have key : (x.kind = y.kind∧x.id = y.id∧x.parent = y.parent∧x.name = y.name∧x.dir = y.dir)∧x.ops = y.ops ↔ x = y:=⟨fun ⟨⟨h1,h2,h3,h4,h5⟩,h6⟩=>by cases x; cases y; simp_all,by rintro rfl; exact ⟨⟨rfl,rfl,rfl,rfl,rfl⟩,rfl⟩⟩
  refine wp_region_lit ?_;refine pBox (es:=_) ha rfl rfl hs rfl fun b w hs a ha=>?_;refine pBox (es:=_) ha rfl rfl hs rfl fun b w hs a ha=>?_;refine pY ha (yAssign rfl) fun a ha=>?_;refine pZ ?_;refine hK1 _ _ ?_;refine wp_seq_k fun K2 hK2=>?_;refine cutC (fun a w=>∃ b b',Has a 47 [(5,.bool (decide (x.kind = y.kind∧x.id = y.id∧x.parent = y.parent∧x.name = y.name∧x.dir = y.dir))),(2,.pointer (some ⟨b,0,none⟩)),(3,.pointer (some ⟨b',0,none⟩))]∧Sep W w (.blk b' 48 [.int .i64 y.kind,.int .i64 y.id,.int .i64 y.parent,.string y.name,.bool y.dir,.slice A' n' c']::.blk b 48 [.int .i64 x.kind,.int .i64 x.id,.int .i64 x.parent,.string x.name,.bool x.dir,.slice A n c]::cs)) ?_ ?_
  · refine wp_region_lit ?_;refine pY ha (yFieldA Tryz.runUnderlying48 rfl Tryz.sizeOf3 rfl rfl) fun a ha=>?_;refine pY ha (yLoadB Tryz.isAgg3 hs rfl pk1 rfl) fun a ha=>?_;refine pY ha (yFieldA Tryz.runUnderlying48 rfl Tryz.sizeOf3 rfl rfl) fun a ha=>?_;refine pY ha (yLoadB Tryz.isAgg3 hs rfl pk0 rfl) fun a ha=>?_;refine pY ha (yEql rfl rfl) fun a ha=>?_;refine pY ha (yMove rfl) fun a ha=>?_;refine gDec (t:=11) ha rfl (fun hg5 hp5=>?_) (fun hg5 hp5=>?_)
    · rw [hg5] at ha;refine gOff ha fun a ha=>?_;refine gOff ha fun a ha=>?_;refine gOff ha fun a ha=>?_;refine gOff ha fun a ha=>?_;refine gOff ha fun a ha=>?_;refine pY ha (yPickF rfl rfl) fun a ha=>?_;refine pY ha (yMove rfl) fun a ha=>?_;refine gOff ha fun a ha=>?_;refine gOff ha fun a ha=>?_;refine gOff ha fun a ha=>?_;refine gOff ha fun a ha=>?_;refine gOff ha fun a ha=>?_;refine pY ha (yPickF rfl rfl) fun a ha=>?_;refine pY ha (yMove rfl) fun a ha=>?_;refine gOff ha fun a ha=>?_;refine gOff ha fun a ha=>?_;refine gOff ha fun a ha=>?_;refine gOff ha fun a ha=>?_;refine gOff ha fun a ha=>?_;refine pY ha (yPickF rfl rfl) fun a ha=>?_;refine pY ha (yMove rfl) fun a ha=>?_;refine gOff ha fun a ha=>?_;refine gOff ha fun a ha=>?_;refine gOff ha fun a ha=>?_;refine gOff ha fun a ha=>?_;refine gOff ha fun a ha=>?_;refine pY ha (yPickF rfl rfl) fun a ha=>?_;refine pY ha (yAssign rfl) fun a ha=>?_;refine pZ ⟨rfl,?_⟩;exact ⟨_,_,has3 ha (bF (by rintro ⟨h1,h2,h3,h4,h5⟩; exact hp5 h1)) rfl rfl,hs⟩
    · rw [hg5] at ha;refine gOn ha ?_;refine pY ha (yFieldA Tryz.runUnderlying48 rfl Tryz.sizeOf3 rfl rfl) fun a ha=>?_;refine gOn ha ?_;refine pY ha (yLoadB Tryz.isAgg3 hs rfl pk1 rfl) fun a ha=>?_;refine gOn ha ?_;refine pY ha (yFieldA Tryz.runUnderlying48 rfl Tryz.sizeOf3 rfl rfl) fun a ha=>?_;refine gOn ha ?_;refine pY ha (yLoadB Tryz.isAgg3 hs rfl pk0 rfl) fun a ha=>?_;refine gOn ha ?_;refine pY ha (yEql rfl rfl) fun a ha=>?_;refine pY ha (yPickT rfl rfl) fun a ha=>?_;refine pY ha (yMove rfl) fun a ha=>?_;refine gSplit (t:=18) ha rfl (fun hg12=>?_) (fun hg12=>?_)
      · rw [hg12] at ha
        have hp12:=of_decide_eq_false hg12
        refine gOff ha fun a ha=>?_;refine gOff ha fun a ha=>?_;refine gOff ha fun a ha=>?_;refine gOff ha fun a ha=>?_;refine gOff ha fun a ha=>?_;refine pY ha (yPickF rfl rfl) fun a ha=>?_;refine pY ha (yMove rfl) fun a ha=>?_;refine gOff ha fun a ha=>?_;refine gOff ha fun a ha=>?_;refine gOff ha fun a ha=>?_;refine gOff ha fun a ha=>?_;refine gOff ha fun a ha=>?_;refine pY ha (yPickF rfl rfl) fun a ha=>?_;refine pY ha (yMove rfl) fun a ha=>?_;refine gOff ha fun a ha=>?_;refine gOff ha fun a ha=>?_;refine gOff ha fun a ha=>?_;refine gOff ha fun a ha=>?_;refine gOff ha fun a ha=>?_;refine pY ha (yPickF rfl rfl) fun a ha=>?_;refine pY ha (yAssign rfl) fun a ha=>?_;refine pZ ⟨rfl,?_⟩;exact ⟨_,_,has3 ha (bF (by rintro ⟨h1,h2,h3,h4,h5⟩; exact hp12 h2)) rfl rfl,hs⟩
      · rw [hg12] at ha
        have hp12:=of_decide_eq_true hg12
        refine gOn ha ?_;refine pY ha (yFieldA Tryz.runUnderlying48 rfl Tryz.sizeOf3 rfl rfl) fun a ha=>?_;refine gOn ha ?_;refine pY ha (yLoadB Tryz.isAgg3 hs rfl pk1 rfl) fun a ha=>?_;refine gOn ha ?_;refine pY ha (yFieldA Tryz.runUnderlying48 rfl Tryz.sizeOf3 rfl rfl) fun a ha=>?_;refine gOn ha ?_;refine pY ha (yLoadB Tryz.isAgg3 hs rfl pk0 rfl) fun a ha=>?_;refine gOn ha ?_;refine pY ha (yEql rfl rfl) fun a ha=>?_;refine pY ha (yPickT rfl rfl) fun a ha=>?_;refine pY ha (yMove rfl) fun a ha=>?_;refine gSplit (t:=25) ha rfl (fun hg19=>?_) (fun hg19=>?_)
        · rw [hg19] at ha
          have hp19:=of_decide_eq_false hg19
          refine gOff ha fun a ha=>?_;refine gOff ha fun a ha=>?_;refine gOff ha fun a ha=>?_;refine gOff ha fun a ha=>?_;refine gOff ha fun a ha=>?_;refine pY ha (yPickF rfl rfl) fun a ha=>?_;refine pY ha (yMove rfl) fun a ha=>?_;refine gOff ha fun a ha=>?_;refine gOff ha fun a ha=>?_;refine gOff ha fun a ha=>?_;refine gOff ha fun a ha=>?_;refine gOff ha fun a ha=>?_;refine pY ha (yPickF rfl rfl) fun a ha=>?_;refine pY ha (yAssign rfl) fun a ha=>?_;refine pZ ⟨rfl,?_⟩;exact ⟨_,_,has3 ha (bF (by rintro ⟨h1,h2,h3,h4,h5⟩; exact hp19 h3)) rfl rfl,hs⟩
        · rw [hg19] at ha
          have hp19:=of_decide_eq_true hg19
          refine gOn ha ?_;refine pY ha (yFieldA Tryz.runUnderlying48 rfl Tryz.sizeOf9 rfl rfl) fun a ha=>?_;refine gOn ha ?_;refine pY ha (yLoadB Tryz.isAgg9 hs rfl pk1 rfl) fun a ha=>?_;refine gOn ha ?_;refine pY ha (yFieldA Tryz.runUnderlying48 rfl Tryz.sizeOf9 rfl rfl) fun a ha=>?_;refine gOn ha ?_;refine pY ha (yLoadB Tryz.isAgg9 hs rfl pk0 rfl) fun a ha=>?_;refine gOn ha ?_;refine pY ha (yStrEql rfl rfl) fun a ha=>?_;refine pY ha (yPickT rfl rfl) fun a ha=>?_;refine pY ha (yMove rfl) fun a ha=>?_;refine gSplit (t:=32) ha rfl (fun hg26=>?_) (fun hg26=>?_)
          · rw [hg26] at ha
            have hp26:=of_decide_eq_false hg26
            refine gOff ha fun a ha=>?_;refine gOff ha fun a ha=>?_;refine gOff ha fun a ha=>?_;refine gOff ha fun a ha=>?_;refine gOff ha fun a ha=>?_;refine pY ha (yPickF rfl rfl) fun a ha=>?_;refine pY ha (yAssign rfl) fun a ha=>?_;refine pZ ⟨rfl,?_⟩;exact ⟨_,_,has3 ha (bF (by rintro ⟨h1,h2,h3,h4,h5⟩; exact hp26 h4)) rfl rfl,hs⟩
          · rw [hg26] at ha
            have hp26:=of_decide_eq_true hg26
            refine gOn ha ?_;refine pY ha (yFieldA Tryz.runUnderlying48 rfl Tryz.sizeOf4 rfl rfl) fun a ha=>?_;refine gOn ha ?_;refine pY ha (yLoadB Tryz.isAgg4 hs rfl pk1 rfl) fun a ha=>?_;refine gOn ha ?_;refine pY ha (yFieldA Tryz.runUnderlying48 rfl Tryz.sizeOf4 rfl rfl) fun a ha=>?_;refine gOn ha ?_;refine pY ha (yLoadB Tryz.isAgg4 hs rfl pk0 rfl) fun a ha=>?_;refine gOn ha ?_;refine pY ha (yBoolEql Tryz.underlying4 rfl rfl) fun a ha=>?_;refine pY ha (yPickT rfl rfl) fun a ha=>?_;refine pY ha (yAssign rfl) fun a ha=>?_;refine pZ ⟨rfl,?_⟩;exact ⟨_,_,has3 ha (bT ⟨fun h=>⟨hp5,hp12,hp19,hp26,h⟩,fun h=>h.2.2.2.2⟩) rfl rfl,hs⟩
  rintro a w ⟨b,b',ha,hs⟩;refine hK2 _ _ ?_;refine wp_seq_k fun K3 hK3=>?_;refine wp_region_lit ?_;refine pY ha (yMove rfl) fun a ha=>?_;refine pY ha (yMove rfl) fun a ha=>?_;refine gSplit (t:=40) ha rfl (fun hg1=>?_) (fun hg1=>?_)
  · rw [hg1] at ha;refine gOff ha fun a ha=>?_;refine gOff ha fun a ha=>?_;refine gOff ha fun a ha=>?_;refine gOff ha fun a ha=>?_;refine gOff ha fun a ha=>?_;refine pY ha (yPickF rfl rfl) fun a ha=>?_;refine pY ha (yAssign rfl) fun a ha=>?_;refine pZ ?_;refine hK3 _ _ ?_;refine wp_ret ?_;show bodyPost Tryz.prog Tryz.f87 _ .ret _ _;refine ret1 rfl ha rfl ?_;refine ⟨?_,hs.drop.drop⟩;exact congrArg Value.bool (decide_eq_false (fun h=>of_decide_eq_false hg1 (key.2 h).1)).symm
  · rw [hg1] at ha;refine gOn ha ?_;refine pY ha (yFieldA Tryz.runUnderlying48 rfl Tryz.sizeOf46 rfl rfl) fun a ha=>?_;refine gOn ha ?_;refine pY ha (yLoadB Tryz.isAgg46 hs rfl pk1 rfl) fun a ha=>?_;refine gOn ha ?_;refine pY ha (yFieldA Tryz.runUnderlying48 rfl Tryz.sizeOf46 rfl rfl) fun a ha=>?_;refine gOn ha ?_;refine pY ha (yLoadB Tryz.isAgg46 hs rfl pk0 rfl) fun a ha=>?_;refine gOn ha ?_;refine pC ha (nCall Tryz.call114 rfl) rfl (EqComps_c hs (.there (.there hk)) (.there (.there hk'))) ?_;rintro v w ⟨rfl,hs⟩ a ha;refine pY ha (yPickT rfl rfl) fun a ha=>?_;refine pY ha (yAssign rfl) fun a ha=>?_;refine pZ ?_;refine hK3 _ _ ?_;refine wp_ret ?_;show bodyPost Tryz.prog Tryz.f87 _ .ret _ _;refine ret1 rfl ha rfl ?_;refine ⟨?_,hs.drop.drop⟩;exact congrArg Value.bool (decide_eq_decide.2 ⟨fun h=>key.1 ⟨of_decide_eq_true hg1,h⟩,fun h=>(key.2 h).2⟩)
end
end Go.Proofs.YtnlhbkaieoogfaaGreatDoor

set_option linter.unusedVariables false
set_option linter.unusedSimpArgs false
namespace Go.Proofs.YtnlhbkaieoogfaaGreatDoor
open Go.RowKit
section
variable {W w : World} {cs r r' : List Ch}
theorem EqActs_c {A A' : Option Addr} {n n' c c' : Nat} {xs ys : List Actn} (hs : Sep W w cs) (hk : Pick cs (.rd kActn (.slice A n c) xs) r) (hk' : Pick cs (.rd kActn (.slice A' n' c') ys) r') :
    Calls P 86 #[.slice A n c,.slice A' n' c',.func (.func 87) #[] #[]] w (Rt fun v w'=>v = .bool (decide (xs = ys))∧Sep W w' cs):=by
  obtain ⟨rfl,hl⟩:=hs.rd_shape hk;obtain ⟨rfl,hl'⟩:=hs.rd_shape hk';unfold maxLen at hl hl'
  have hs:=(hs.cpR hk).cpR (.there hk')
  refine enter Tryz.func86 Tryz.ntmps86 rfl rfl fun a (ha : Has a 32 [(0,_),(1,_),(2,_)])=>?_;refine wp_seq_k fun K1 hK1=>?_;refine wp_region_lit ?_;refine pY ha (yAssign rfl) fun a ha=>?_;refine pZ ?_;refine hK1 _ _ ?_;refine wp_seq_k fun K2 hK2=>?_;refine wp_seq_k fun K3 hK3=>?_;refine wp_region_lit ?_;refine pY ha (yMove rfl) fun a ha=>?_;refine pY ha (yLenS Tryz.runUnderlying22 rfl) fun a ha=>?_;refine pY ha (yMove rfl) fun a ha=>?_;refine pY ha (yLenS Tryz.runUnderlying22 rfl) fun a ha=>?_;refine pY ha (yNeq rfl rfl) fun a ha=>?_;refine pZ ?_;refine hK3 _ _ ?_;refine cNDec ha rfl (fun hc14=>?_) (fun hc14=>?_)
  · refine wp_seq_k fun K4 hK4=>?_;refine wp_region_lit ?_;refine pY ha (yAssign rfl) fun a ha=>?_;refine pZ ?_;refine hK4 _ _ ?_;refine wp_ret ?_;show bodyPost Tryz.prog Tryz.f86 _ .ret _ _;refine ret1 rfl ha rfl ?_;exact ⟨congrArg Value.bool (decide_eq_false (by rintro rfl; exact hc14 rfl)).symm,hs.drop.drop⟩
  · refine wp_skip ?_;refine hK2 _ _ ?_;refine wp_seq_k fun K5 hK5=>?_;refine wp_seq_k fun K6 hK6=>?_;refine wp_region_lit ?_;refine pY ha (yMove rfl) fun a ha=>?_;refine pY ha (yLenS Tryz.runUnderlying22 rfl) fun a ha=>?_;refine pY ha (yMove rfl) fun a ha=>?_;refine pZ ?_;refine hK6 _ _ ?_;refine wp_block ?_;refine loopI (ι:=Nat) (fun i a w=>i≤xs.length∧xs.take i = ys.take i∧Has a 32 [(1,.slice A' ys.length c'),(2,.func (.func 87) #[] #[]),(15,.slice A xs.length c),(16,.int .i64 xs.length),(17,.int .i64 i)]∧Sep W w (.rd kActn (.slice A' ys.length c') ys::.rd kActn (.slice A xs.length c) xs::cs)) (fun i=>xs.length - i) (0) ?_ ?_
    · exact ⟨Nat.zero_le _,rfl,has5 ha rfl rfl rfl rfl rfl,hs⟩
    · rintro i a w ⟨h1,h2,ha,hs⟩;refine wp_seq_k fun K7 hK7=>?_;refine wp_region_lit ?_;refine pY ha (yLss rfl rfl) fun a ha=>?_;refine pZ ?_;refine hK7 _ _ ?_;refine wp_seq_k fun K8 hK8=>?_;refine cDec ha rfl (fun hc18=>?_) (fun hc18=>?_)
      · obtain ⟨x,hx⟩ : ∃ x,xs[i]? = some x:=⟨_,List.getElem?_eq_getElem (by omega)⟩;obtain ⟨y,hy⟩ : ∃ y,ys[i]? = some y:=⟨_,List.getElem?_eq_getElem (by omega)⟩;obtain ⟨b,off,B,m,d,rfl,hs⟩:=hs.rd_actn (.there .here) hx;obtain ⟨b',off',B',m',d',rfl,hs⟩:=hs.rd_actn (.there (.there .here)) hy;refine wp_skip ?_;refine hK8 _ _ ?_;refine wp_seq_k fun K9 hK9=>?_;refine wp_block ?_;refine wp_seq_k fun K10 hK10=>?_;refine wp_region_lit ?_;refine pY ha (yMove rfl) fun a ha=>?_;refine pY ha (yIndexA Tryz.runUnderlying22 Tryz.sizeOf48 rfl rfl (by omega) (by omega)) fun a ha=>?_;refine pY ha (yLoadRA Tryz.isAgg48 Tryz.sizeOf48 hs rfl pk2 rfl) fun a ha=>?_;refine pAlloc (zs:=[.int .i64 0,.int .i64 0,.int .i64 0,.string ⟨#[]⟩,.bool false,.slice none 0 0]) ha Tryz.zeroValue48 rfl hs rfl fun b w hs a ha=>?_;refine pY ha (yAssign rfl) fun a ha=>?_;refine pStoreA ha Tryz.sizeOf48 hs rfl rfl pk0 rfl rfl rfl fun w hs=>?_;refine pZ ?_;refine hK10 _ _ ?_;refine wp_seq_k fun K11 hK11=>?_;refine wp_region_lit ?_;refine pY ha (yMove rfl) fun a ha=>?_;refine pY ha (yMove rfl) fun a ha=>?_;refine pY ha (yIndexA Tryz.runUnderlying22 Tryz.sizeOf48 rfl rfl (by omega) (by omega)) fun a ha=>?_;refine pY ha (yLoadRA Tryz.isAgg48 Tryz.sizeOf48 hs rfl pk1 rfl) fun a ha=>?_;refine pAlloc (zs:=[.int .i64 0,.int .i64 0,.int .i64 0,.string ⟨#[]⟩,.bool false,.slice none 0 0]) ha Tryz.zeroValue48 rfl hs rfl fun b w hs a ha=>?_;refine pStoreA ha Tryz.sizeOf48 hs rfl rfl pk0 rfl rfl rfl fun w hs=>?_;refine pZ ?_;refine hK11 _ _ ?_;refine wp_seq_k fun K12 hK12=>?_;refine wp_region_lit ?_;refine pY ha (yMove rfl) fun a ha=>?_;refine pY ha (yLoadBA Tryz.isAgg48 Tryz.sizeOf48 hs rfl pk1 rfl) fun a ha=>?_;refine pY ha (yLoadBA Tryz.isAgg48 Tryz.sizeOf48 hs rfl pk0 rfl) fun a ha=>?_;refine pC ha (nCallV (cl:=[]) Tryz.call87 rfl rfl rfl) rfl (SameA_c (x:=x) (y:=y) hs (.there (.there (.there (.there (.there .here))))) (.there (.there (.there .here)))) ?_;rintro v w ⟨rfl,hs⟩ a ha;refine pY ha (yNot rfl) fun a ha=>?_;refine pZ ?_;refine hK12 _ _ ?_;refine cNDec ha rfl (fun hc30=>?_) (fun hc30=>?_)
        · refine wp_seq_k fun K13 hK13=>?_;refine wp_region_lit ?_;refine pY ha (yAssign rfl) fun a ha=>?_;refine pZ ?_;refine hK13 _ _ ?_;refine wp_ret ?_;show bodyPost Tryz.prog Tryz.f86 _ .ret _ _;refine ret1 rfl ha rfl ?_;exact ⟨congrArg Value.bool (decide_eq_false (take_ne hx hy hc30)).symm,hs.drop.drop.drop.drop.drop.drop.drop.drop⟩
        · refine wp_skip ?_;refine hK9 _ _ ?_;refine wp_region_lit ?_;refine pY ha (yAddN rfl rfl ⟨by omega,by omega⟩) fun a ha=>?_;refine pY ha (yMove rfl) fun a ha=>?_;refine pZ ?_;exact ⟨i + 1,⟨by omega,take_more h2 hx hy hc30,has5 ha rfl rfl rfl rfl rfl,hs.drop.drop.drop.drop.drop.drop⟩,by omega⟩
      · refine wp_exit ?_;refine hK5 _ _ ?_;refine wp_seq_k fun K14 hK14=>?_;refine wp_region_lit ?_;refine pY ha (yAssign rfl) fun a ha=>?_;refine pZ ?_;refine hK14 _ _ ?_;refine wp_ret ?_;show bodyPost Tryz.prog Tryz.f86 _ .ret _ _;refine ret1 rfl ha rfl ?_;rw [List.take_of_length_le (by omega),List.take_of_length_le (by omega)] at h2; exact ⟨congrArg Value.bool (decide_eq_true h2).symm,hs.drop.drop⟩
theorem SameT_c {A A' : Option Addr} {n n' c c' : Nat} {xs ys : List Actn} (hs : Sep W w cs) (hk : Pick cs (.rd kActn (.slice A n c) xs) r) (hk' : Pick cs (.rd kActn (.slice A' n' c') ys) r') :
    Calls P 42 #[.slice A n c,.slice A' n' c'] w (Rt fun v w'=>v = .bool (decide (xs = ys))∧Sep W w' cs):=by
  refine enter Tryz.func42 Tryz.ntmps42 rfl rfl fun a (ha : Has a 8 [(0,_),(1,_)])=>?_;refine wp_seq_k fun K1 hK1=>?_;refine wp_region_lit ?_;refine pY ha (yAssign rfl) fun a ha=>?_;refine pZ ?_;refine hK1 _ _ ?_;refine wp_seq_k fun K2 hK2=>?_;refine wp_region_lit ?_;refine pY ha (yMove rfl) fun a ha=>?_;refine pY ha (yMove rfl) fun a ha=>?_;refine pC ha (nCall Tryz.call86 rfl) rfl (EqActs_c hs hk hk') ?_;rintro v w ⟨rfl,hs⟩ a ha;refine pY ha (yAssign rfl) fun a ha=>?_;refine pZ ?_;refine hK2 _ _ ?_;refine wp_ret ?_;show bodyPost Tryz.prog Tryz.f42 _ .ret _ _;refine ret1 rfl ha rfl ?_;exact ⟨rfl,hs⟩
theorem SameCm_c {A A' : Option Addr} {n n' c c' : Nat} {x y : Cmt} (hs : Sep W w cs) (hk : Pick cs (.rd kActn (.slice A n c) x.acts) r) (hk' : Pick cs (.rd kActn (.slice A' n' c') y.acts) r') :
    Calls P 44 #[.agg [.int .i64 x.rev,.int .i64 x.client,.int .i64 x.seq,.slice A n c].toArray,.agg [.int .i64 y.rev,.int .i64 y.client,.int .i64 y.seq,.slice A' n' c'].toArray] w (Rt fun v w'=>v = .bool (decide (x = y))∧Sep W w' cs):=by
  refine enter Tryz.func44 Tryz.ntmps44 rfl rfl fun a (ha : Has a 31 [(0,_),(1,_)])=>?_;refine wp_seq_k fun K1 hK1=>?_
  have key : x.rev = y.rev∧x.client = y.client∧x.seq = y.seq∧x.acts = y.acts ↔ x = y:=⟨fun ⟨h1,h2,h3,h4⟩=>by cases x; cases y; simp_all,by rintro rfl; exact ⟨rfl,rfl,rfl,rfl⟩⟩
  refine wp_region_lit ?_;refine pBox (es:=_) ha rfl rfl hs rfl fun b w hs a ha=>?_;refine pBox (es:=_) ha rfl rfl hs rfl fun b w hs a ha=>?_;refine pY ha (yAssign rfl) fun a ha=>?_;refine pZ ?_;refine hK1 _ _ ?_;refine wp_seq_k fun K2 hK2=>?_;refine wp_region_lit ?_;refine pY ha (yFieldA Tryz.runUnderlying58 rfl Tryz.sizeOf3 rfl rfl) fun a ha=>?_;refine pY ha (yLoadB Tryz.isAgg3 hs rfl pk1 rfl) fun a ha=>?_;refine pY ha (yFieldA Tryz.runUnderlying58 rfl Tryz.sizeOf3 rfl rfl) fun a ha=>?_;refine pY ha (yLoadB Tryz.isAgg3 hs rfl pk0 rfl) fun a ha=>?_;refine pY ha (yEql rfl rfl) fun a ha=>?_;refine pY ha (yMove rfl) fun a ha=>?_;refine gDec (t:=10) ha rfl (fun hg5 hp5=>?_) (fun hg5 hp5=>?_)
  · rw [hg5] at ha;refine gOff ha fun a ha=>?_;refine gOff ha fun a ha=>?_;refine gOff ha fun a ha=>?_;refine gOff ha fun a ha=>?_;refine gOff ha fun a ha=>?_;refine pY ha (yPickF rfl rfl) fun a ha=>?_;refine pY ha (yMove rfl) fun a ha=>?_;refine gOff ha fun a ha=>?_;refine gOff ha fun a ha=>?_;refine gOff ha fun a ha=>?_;refine gOff ha fun a ha=>?_;refine gOff ha fun a ha=>?_;refine pY ha (yPickF rfl rfl) fun a ha=>?_;refine pY ha (yMove rfl) fun a ha=>?_;refine gOff ha fun a ha=>?_;refine gOff ha fun a ha=>?_;refine gOff ha fun a ha=>?_;refine gOff ha fun a ha=>?_;refine gOff ha fun a ha=>?_;refine pY ha (yPickF rfl rfl) fun a ha=>?_;refine pY ha (yAssign rfl) fun a ha=>?_;refine pZ ?_;refine hK2 _ _ ?_;refine wp_ret ?_;show bodyPost Tryz.prog Tryz.f44 _ .ret _ _;refine ret1 rfl ha rfl ?_;refine ⟨?_,hs.drop.drop⟩;exact congrArg Value.bool (decide_eq_false (fun h=>by have h:=key.2 h; exact hp5 h.1)).symm
  · rw [hg5] at ha;refine gOn ha ?_;refine pY ha (yFieldA Tryz.runUnderlying58 rfl Tryz.sizeOf3 rfl rfl) fun a ha=>?_;refine gOn ha ?_;refine pY ha (yLoadB Tryz.isAgg3 hs rfl pk1 rfl) fun a ha=>?_;refine gOn ha ?_;refine pY ha (yFieldA Tryz.runUnderlying58 rfl Tryz.sizeOf3 rfl rfl) fun a ha=>?_;refine gOn ha ?_;refine pY ha (yLoadB Tryz.isAgg3 hs rfl pk0 rfl) fun a ha=>?_;refine gOn ha ?_;refine pY ha (yEql rfl rfl) fun a ha=>?_;refine pY ha (yPickT rfl rfl) fun a ha=>?_;refine pY ha (yMove rfl) fun a ha=>?_;refine gSplit (t:=17) ha rfl (fun hg12=>?_) (fun hg12=>?_)
    · rw [hg12] at ha
      have hp12:=of_decide_eq_false hg12
      refine gOff ha fun a ha=>?_;refine gOff ha fun a ha=>?_;refine gOff ha fun a ha=>?_;refine gOff ha fun a ha=>?_;refine gOff ha fun a ha=>?_;refine pY ha (yPickF rfl rfl) fun a ha=>?_;refine pY ha (yMove rfl) fun a ha=>?_;refine gOff ha fun a ha=>?_;refine gOff ha fun a ha=>?_;refine gOff ha fun a ha=>?_;refine gOff ha fun a ha=>?_;refine gOff ha fun a ha=>?_;refine pY ha (yPickF rfl rfl) fun a ha=>?_;refine pY ha (yAssign rfl) fun a ha=>?_;refine pZ ?_;refine hK2 _ _ ?_;refine wp_ret ?_;show bodyPost Tryz.prog Tryz.f44 _ .ret _ _;refine ret1 rfl ha rfl ?_;refine ⟨?_,hs.drop.drop⟩;exact congrArg Value.bool (decide_eq_false (fun h=>by have h:=key.2 h; exact hp12 h.2.1)).symm
    · rw [hg12] at ha
      have hp12:=of_decide_eq_true hg12
      refine gOn ha ?_;refine pY ha (yFieldA Tryz.runUnderlying58 rfl Tryz.sizeOf3 rfl rfl) fun a ha=>?_;refine gOn ha ?_;refine pY ha (yLoadB Tryz.isAgg3 hs rfl pk1 rfl) fun a ha=>?_;refine gOn ha ?_;refine pY ha (yFieldA Tryz.runUnderlying58 rfl Tryz.sizeOf3 rfl rfl) fun a ha=>?_;refine gOn ha ?_;refine pY ha (yLoadB Tryz.isAgg3 hs rfl pk0 rfl) fun a ha=>?_;refine gOn ha ?_;refine pY ha (yEql rfl rfl) fun a ha=>?_;refine pY ha (yPickT rfl rfl) fun a ha=>?_;refine pY ha (yMove rfl) fun a ha=>?_;refine gSplit (t:=24) ha rfl (fun hg19=>?_) (fun hg19=>?_)
      · rw [hg19] at ha
        have hp19:=of_decide_eq_false hg19
        refine gOff ha fun a ha=>?_;refine gOff ha fun a ha=>?_;refine gOff ha fun a ha=>?_;refine gOff ha fun a ha=>?_;refine gOff ha fun a ha=>?_;refine pY ha (yPickF rfl rfl) fun a ha=>?_;refine pY ha (yAssign rfl) fun a ha=>?_;refine pZ ?_;refine hK2 _ _ ?_;refine wp_ret ?_;show bodyPost Tryz.prog Tryz.f44 _ .ret _ _;refine ret1 rfl ha rfl ?_;refine ⟨?_,hs.drop.drop⟩;exact congrArg Value.bool (decide_eq_false (fun h=>by have h:=key.2 h; exact hp19 h.2.2.1)).symm
      · rw [hg19] at ha
        have hp19:=of_decide_eq_true hg19
        refine gOn ha ?_;refine pY ha (yFieldA Tryz.runUnderlying58 rfl Tryz.sizeOf22 rfl rfl) fun a ha=>?_;refine gOn ha ?_;refine pY ha (yLoadB Tryz.isAgg22 hs rfl pk1 rfl) fun a ha=>?_;refine gOn ha ?_;refine pY ha (yFieldA Tryz.runUnderlying58 rfl Tryz.sizeOf22 rfl rfl) fun a ha=>?_;refine gOn ha ?_;refine pY ha (yLoadB Tryz.isAgg22 hs rfl pk0 rfl) fun a ha=>?_;refine gOn ha ?_;refine pC ha (nCall Tryz.call42 rfl) rfl (SameT_c hs (.there (.there hk)) (.there (.there hk'))) ?_;rintro v w ⟨rfl,hs⟩ a ha;refine pY ha (yPickT rfl rfl) fun a ha=>?_;refine pY ha (yAssign rfl) fun a ha=>?_;refine pZ ?_;refine hK2 _ _ ?_;refine wp_ret ?_;show bodyPost Tryz.prog Tryz.f44 _ .ret _ _;refine ret1 rfl ha rfl ?_;refine ⟨?_,hs.drop.drop⟩;exact congrArg Value.bool (decide_eq_decide.2 ⟨fun h=>key.1 ⟨hp5,hp12,hp19,h⟩,fun h=>(key.2 h).2.2.2⟩)
theorem EqCmts_c {A A' : Option Addr} {n n' c c' : Nat} {xs ys : List Cmt} (hs : Sep W w cs) (hk : Pick cs (.rd kCmt (.slice A n c) xs) r) (hk' : Pick cs (.rd kCmt (.slice A' n' c') ys) r') :
    Calls P 43 #[.slice A n c,.slice A' n' c',.func (.func 44) #[] #[]] w (Rt fun v w'=>v = .bool (decide (xs = ys))∧Sep W w' cs):=by
  obtain ⟨rfl,hl⟩:=hs.rd_shape hk;obtain ⟨rfl,hl'⟩:=hs.rd_shape hk';unfold maxLen at hl hl'
  have hs:=(hs.cpR hk).cpR (.there hk')
  refine enter Tryz.func43 Tryz.ntmps43 rfl rfl fun a (ha : Has a 32 [(0,_),(1,_),(2,_)])=>?_;refine wp_seq_k fun K1 hK1=>?_;refine wp_region_lit ?_;refine pY ha (yAssign rfl) fun a ha=>?_;refine pZ ?_;refine hK1 _ _ ?_;refine wp_seq_k fun K2 hK2=>?_;refine wp_seq_k fun K3 hK3=>?_;refine wp_region_lit ?_;refine pY ha (yMove rfl) fun a ha=>?_;refine pY ha (yLenS Tryz.runUnderlying23 rfl) fun a ha=>?_;refine pY ha (yMove rfl) fun a ha=>?_;refine pY ha (yLenS Tryz.runUnderlying23 rfl) fun a ha=>?_;refine pY ha (yNeq rfl rfl) fun a ha=>?_;refine pZ ?_;refine hK3 _ _ ?_;refine cNDec ha rfl (fun hc14=>?_) (fun hc14=>?_)
  · refine wp_seq_k fun K4 hK4=>?_;refine wp_region_lit ?_;refine pY ha (yAssign rfl) fun a ha=>?_;refine pZ ?_;refine hK4 _ _ ?_;refine wp_ret ?_;show bodyPost Tryz.prog Tryz.f43 _ .ret _ _;refine ret1 rfl ha rfl ?_;exact ⟨congrArg Value.bool (decide_eq_false (by rintro rfl; exact hc14 rfl)).symm,hs.drop.drop⟩
  · refine wp_skip ?_;refine hK2 _ _ ?_;refine wp_seq_k fun K5 hK5=>?_;refine wp_seq_k fun K6 hK6=>?_;refine wp_region_lit ?_;refine pY ha (yMove rfl) fun a ha=>?_;refine pY ha (yLenS Tryz.runUnderlying23 rfl) fun a ha=>?_;refine pY ha (yMove rfl) fun a ha=>?_;refine pZ ?_;refine hK6 _ _ ?_;refine wp_block ?_;refine loopI (ι:=Nat) (fun i a w=>i≤xs.length∧xs.take i = ys.take i∧Has a 32 [(1,.slice A' ys.length c'),(2,.func (.func 44) #[] #[]),(15,.slice A xs.length c),(16,.int .i64 xs.length),(17,.int .i64 i)]∧Sep W w (.rd kCmt (.slice A' ys.length c') ys::.rd kCmt (.slice A xs.length c) xs::cs)) (fun i=>xs.length - i) (0) ?_ ?_
    · exact ⟨Nat.zero_le _,rfl,has5 ha rfl rfl rfl rfl rfl,hs⟩
    · rintro i a w ⟨h1,h2,ha,hs⟩;refine wp_seq_k fun K7 hK7=>?_;refine wp_region_lit ?_;refine pY ha (yLss rfl rfl) fun a ha=>?_;refine pZ ?_;refine hK7 _ _ ?_;refine wp_seq_k fun K8 hK8=>?_;refine cDec ha rfl (fun hc18=>?_) (fun hc18=>?_)
      · obtain ⟨x,hx⟩ : ∃ x,xs[i]? = some x:=⟨_,List.getElem?_eq_getElem (by omega)⟩;obtain ⟨y,hy⟩ : ∃ y,ys[i]? = some y:=⟨_,List.getElem?_eq_getElem (by omega)⟩;obtain ⟨b,off,B,m,d,rfl,hs⟩:=hs.rd_cmt (.there .here) hx;obtain ⟨b',off',B',m',d',rfl,hs⟩:=hs.rd_cmt (.there (.there .here)) hy;refine wp_skip ?_;refine hK8 _ _ ?_;refine wp_seq_k fun K9 hK9=>?_;refine wp_block ?_;refine wp_seq_k fun K10 hK10=>?_;refine wp_region_lit ?_;refine pY ha (yMove rfl) fun a ha=>?_;refine pY ha (yIndexA Tryz.runUnderlying23 Tryz.sizeOf58 rfl rfl (by omega) (by omega)) fun a ha=>?_;refine pY ha (yLoadRA Tryz.isAgg58 Tryz.sizeOf58 hs rfl pk2 rfl) fun a ha=>?_;refine pAlloc (zs:=[.int .i64 0,.int .i64 0,.int .i64 0,.slice none 0 0]) ha Tryz.zeroValue58 rfl hs rfl fun b w hs a ha=>?_;refine pY ha (yAssign rfl) fun a ha=>?_;refine pStoreA ha Tryz.sizeOf58 hs rfl rfl pk0 rfl rfl rfl fun w hs=>?_;refine pZ ?_;refine hK10 _ _ ?_;refine wp_seq_k fun K11 hK11=>?_;refine wp_region_lit ?_;refine pY ha (yMove rfl) fun a ha=>?_;refine pY ha (yMove rfl) fun a ha=>?_;refine pY ha (yIndexA Tryz.runUnderlying23 Tryz.sizeOf58 rfl rfl (by omega) (by omega)) fun a ha=>?_;refine pY ha (yLoadRA Tryz.isAgg58 Tryz.sizeOf58 hs rfl pk1 rfl) fun a ha=>?_;refine pAlloc (zs:=[.int .i64 0,.int .i64 0,.int .i64 0,.slice none 0 0]) ha Tryz.zeroValue58 rfl hs rfl fun b w hs a ha=>?_;refine pStoreA ha Tryz.sizeOf58 hs rfl rfl pk0 rfl rfl rfl fun w hs=>?_;refine pZ ?_;refine hK11 _ _ ?_;refine wp_seq_k fun K12 hK12=>?_;refine wp_region_lit ?_;refine pY ha (yMove rfl) fun a ha=>?_;refine pY ha (yLoadBA Tryz.isAgg58 Tryz.sizeOf58 hs rfl pk1 rfl) fun a ha=>?_;refine pY ha (yLoadBA Tryz.isAgg58 Tryz.sizeOf58 hs rfl pk0 rfl) fun a ha=>?_;refine pC ha (nCallV (cl:=[]) Tryz.call44 rfl rfl rfl) rfl (SameCm_c (x:=x) (y:=y) hs (.there (.there (.there (.there (.there .here))))) (.there (.there (.there .here)))) ?_;rintro v w ⟨rfl,hs⟩ a ha;refine pY ha (yNot rfl) fun a ha=>?_;refine pZ ?_;refine hK12 _ _ ?_;refine cNDec ha rfl (fun hc30=>?_) (fun hc30=>?_)
        · refine wp_seq_k fun K13 hK13=>?_;refine wp_region_lit ?_;refine pY ha (yAssign rfl) fun a ha=>?_;refine pZ ?_;refine hK13 _ _ ?_;refine wp_ret ?_;show bodyPost Tryz.prog Tryz.f43 _ .ret _ _;refine ret1 rfl ha rfl ?_;exact ⟨congrArg Value.bool (decide_eq_false (take_ne hx hy hc30)).symm,hs.drop.drop.drop.drop.drop.drop.drop.drop⟩
        · refine wp_skip ?_;refine hK9 _ _ ?_;refine wp_region_lit ?_;refine pY ha (yAddN rfl rfl ⟨by omega,by omega⟩) fun a ha=>?_;refine pY ha (yMove rfl) fun a ha=>?_;refine pZ ?_;exact ⟨i + 1,⟨by omega,take_more h2 hx hy hc30,has5 ha rfl rfl rfl rfl rfl,hs.drop.drop.drop.drop.drop.drop⟩,by omega⟩
      · refine wp_exit ?_;refine hK5 _ _ ?_;refine wp_seq_k fun K14 hK14=>?_;refine wp_region_lit ?_;refine pY ha (yAssign rfl) fun a ha=>?_;refine pZ ?_;refine hK14 _ _ ?_;refine wp_ret ?_;show bodyPost Tryz.prog Tryz.f43 _ .ret _ _;refine ret1 rfl ha rfl ?_;rw [List.take_of_length_le (by omega),List.take_of_length_le (by omega)] at h2; exact ⟨congrArg Value.bool (decide_eq_true h2).symm,hs.drop.drop⟩
theorem SameM_c {es es' : List Value} {x y : Msg} (hs : Sep W w cs) (hk : Pick cs (.el kMsg x es) r) (hk' : Pick cs (.el kMsg y es') r') :
    Calls P 14 #[.agg es.toArray,.agg es'.toArray] w (Rt fun v w'=>v = .bool (decide (x = y))∧Sep W w' cs):=by
  have key : (x.kind = y.kind∧x.client = y.client∧x.seq = y.seq∧x.rev = y.rev∧x.code = y.code∧x.last = y.last)∧x.acts = y.acts∧x.commits = y.commits∧x.nodes = y.nodes ↔ x = y:=⟨fun ⟨⟨h1,h2,h3,h4,h5,h6⟩,h7,h8,h9⟩=>by cases x; cases y; simp_all,by rintro rfl; exact ⟨⟨rfl,rfl,rfl,rfl,rfl,rfl⟩,rfl,rfl,rfl⟩⟩
  obtain ⟨A1,n1,c1,A2,n2,c2,A3,n3,c3,rfl,hs⟩:=hs.el_msg hk;obtain ⟨B1,m1,d1,B2,m2,d2,B3,m3,d3,rfl,hs⟩:=hs.el_msg (.there (.there (.there hk')));refine enter Tryz.func14 Tryz.ntmps14 rfl rfl fun a (ha : Has a 68 [(0,_),(1,_)])=>?_;refine wp_seq_k fun K1 hK1=>?_;refine wp_region_lit ?_;refine pBox (es:=_) ha rfl rfl hs rfl fun b w hs a ha=>?_;refine pBox (es:=_) ha rfl rfl hs rfl fun b w hs a ha=>?_;refine pY ha (yAssign rfl) fun a ha=>?_;refine pZ ?_;refine hK1 _ _ ?_;refine wp_seq_k fun K2 hK2=>?_;refine cutC (fun a w=>∃ b b',Has a 68 [(5,.bool (decide (x.kind = y.kind∧x.client = y.client∧x.seq = y.seq∧x.rev = y.rev∧x.code = y.code∧x.last = y.last))),(2,.pointer (some ⟨b,0,none⟩)),(3,.pointer (some ⟨b',0,none⟩))]∧Sep W w (.blk b' 26 [.int .i64 y.kind,.int .i64 y.client,.int .i64 y.seq,.int .i64 y.rev,.int .i64 y.code,.slice B1 m1 d1,.slice B2 m2 d2,.slice B3 m3 d3,.int .i64 y.last]::.blk b 26 [.int .i64 x.kind,.int .i64 x.client,.int .i64 x.seq,.int .i64 x.rev,.int .i64 x.code,.slice A1 n1 c1,.slice A2 n2 c2,.slice A3 n3 c3,.int .i64 x.last]::.rd kActn (.slice B1 m1 d1) y.acts::.rd kCmt (.slice B2 m2 d2) y.commits::.rd kNod (.slice B3 m3 d3) y.nodes::.rd kActn (.slice A1 n1 c1) x.acts::.rd kCmt (.slice A2 n2 c2) x.commits::.rd kNod (.slice A3 n3 c3) x.nodes::cs)) ?_ ?_
  · refine wp_region_lit ?_;refine pY ha (yFieldA Tryz.runUnderlying26 rfl Tryz.sizeOf3 rfl rfl) fun a ha=>?_;refine pY ha (yLoadB Tryz.isAgg3 hs rfl pk1 rfl) fun a ha=>?_;refine pY ha (yFieldA Tryz.runUnderlying26 rfl Tryz.sizeOf3 rfl rfl) fun a ha=>?_;refine pY ha (yLoadB Tryz.isAgg3 hs rfl pk0 rfl) fun a ha=>?_;refine pY ha (yEql rfl rfl) fun a ha=>?_;refine pY ha (yMove rfl) fun a ha=>?_;refine gDec (t:=11) ha rfl (fun hg5 hp5=>?_) (fun hg5 hp5=>?_)
    · rw [hg5] at ha;refine gOff ha fun a ha=>?_;refine gOff ha fun a ha=>?_;refine gOff ha fun a ha=>?_;refine gOff ha fun a ha=>?_;refine gOff ha fun a ha=>?_;refine pY ha (yPickF rfl rfl) fun a ha=>?_;refine pY ha (yMove rfl) fun a ha=>?_;refine gOff ha fun a ha=>?_;refine gOff ha fun a ha=>?_;refine gOff ha fun a ha=>?_;refine gOff ha fun a ha=>?_;refine gOff ha fun a ha=>?_;refine pY ha (yPickF rfl rfl) fun a ha=>?_;refine pY ha (yMove rfl) fun a ha=>?_;refine gOff ha fun a ha=>?_;refine gOff ha fun a ha=>?_;refine gOff ha fun a ha=>?_;refine gOff ha fun a ha=>?_;refine gOff ha fun a ha=>?_;refine pY ha (yPickF rfl rfl) fun a ha=>?_;refine pY ha (yMove rfl) fun a ha=>?_;refine gOff ha fun a ha=>?_;refine gOff ha fun a ha=>?_;refine gOff ha fun a ha=>?_;refine gOff ha fun a ha=>?_;refine gOff ha fun a ha=>?_;refine pY ha (yPickF rfl rfl) fun a ha=>?_;refine pY ha (yMove rfl) fun a ha=>?_;refine gOff ha fun a ha=>?_;refine gOff ha fun a ha=>?_;refine gOff ha fun a ha=>?_;refine gOff ha fun a ha=>?_;refine gOff ha fun a ha=>?_;refine pY ha (yPickF rfl rfl) fun a ha=>?_;refine pY ha (yAssign rfl) fun a ha=>?_;refine pZ ⟨rfl,?_⟩;exact ⟨_,_,has3 ha (bF (by rintro ⟨h1,h2,h3,h4,h5,h6⟩; exact hp5 h1)) rfl rfl,hs⟩
    · rw [hg5] at ha;refine gOn ha ?_;refine pY ha (yFieldA Tryz.runUnderlying26 rfl Tryz.sizeOf3 rfl rfl) fun a ha=>?_;refine gOn ha ?_;refine pY ha (yLoadB Tryz.isAgg3 hs rfl pk1 rfl) fun a ha=>?_;refine gOn ha ?_;refine pY ha (yFieldA Tryz.runUnderlying26 rfl Tryz.sizeOf3 rfl rfl) fun a ha=>?_;refine gOn ha ?_;refine pY ha (yLoadB Tryz.isAgg3 hs rfl pk0 rfl) fun a ha=>?_;refine gOn ha ?_;refine pY ha (yEql rfl rfl) fun a ha=>?_;refine pY ha (yPickT rfl rfl) fun a ha=>?_;refine pY ha (yMove rfl) fun a ha=>?_;refine gSplit (t:=18) ha rfl (fun hg12=>?_) (fun hg12=>?_)
      · rw [hg12] at ha
        have hp12:=of_decide_eq_false hg12
        refine gOff ha fun a ha=>?_;refine gOff ha fun a ha=>?_;refine gOff ha fun a ha=>?_;refine gOff ha fun a ha=>?_;refine gOff ha fun a ha=>?_;refine pY ha (yPickF rfl rfl) fun a ha=>?_;refine pY ha (yMove rfl) fun a ha=>?_;refine gOff ha fun a ha=>?_;refine gOff ha fun a ha=>?_;refine gOff ha fun a ha=>?_;refine gOff ha fun a ha=>?_;refine gOff ha fun a ha=>?_;refine pY ha (yPickF rfl rfl) fun a ha=>?_;refine pY ha (yMove rfl) fun a ha=>?_;refine gOff ha fun a ha=>?_;refine gOff ha fun a ha=>?_;refine gOff ha fun a ha=>?_;refine gOff ha fun a ha=>?_;refine gOff ha fun a ha=>?_;refine pY ha (yPickF rfl rfl) fun a ha=>?_;refine pY ha (yMove rfl) fun a ha=>?_;refine gOff ha fun a ha=>?_;refine gOff ha fun a ha=>?_;refine gOff ha fun a ha=>?_;refine gOff ha fun a ha=>?_;refine gOff ha fun a ha=>?_;refine pY ha (yPickF rfl rfl) fun a ha=>?_;refine pY ha (yAssign rfl) fun a ha=>?_;refine pZ ⟨rfl,?_⟩;exact ⟨_,_,has3 ha (bF (by rintro ⟨h1,h2,h3,h4,h5,h6⟩; exact hp12 h2)) rfl rfl,hs⟩
      · rw [hg12] at ha
        have hp12:=of_decide_eq_true hg12
        refine gOn ha ?_;refine pY ha (yFieldA Tryz.runUnderlying26 rfl Tryz.sizeOf3 rfl rfl) fun a ha=>?_;refine gOn ha ?_;refine pY ha (yLoadB Tryz.isAgg3 hs rfl pk1 rfl) fun a ha=>?_;refine gOn ha ?_;refine pY ha (yFieldA Tryz.runUnderlying26 rfl Tryz.sizeOf3 rfl rfl) fun a ha=>?_;refine gOn ha ?_;refine pY ha (yLoadB Tryz.isAgg3 hs rfl pk0 rfl) fun a ha=>?_;refine gOn ha ?_;refine pY ha (yEql rfl rfl) fun a ha=>?_;refine pY ha (yPickT rfl rfl) fun a ha=>?_;refine pY ha (yMove rfl) fun a ha=>?_;refine gSplit (t:=25) ha rfl (fun hg19=>?_) (fun hg19=>?_)
        · rw [hg19] at ha
          have hp19:=of_decide_eq_false hg19
          refine gOff ha fun a ha=>?_;refine gOff ha fun a ha=>?_;refine gOff ha fun a ha=>?_;refine gOff ha fun a ha=>?_;refine gOff ha fun a ha=>?_;refine pY ha (yPickF rfl rfl) fun a ha=>?_;refine pY ha (yMove rfl) fun a ha=>?_;refine gOff ha fun a ha=>?_;refine gOff ha fun a ha=>?_;refine gOff ha fun a ha=>?_;refine gOff ha fun a ha=>?_;refine gOff ha fun a ha=>?_;refine pY ha (yPickF rfl rfl) fun a ha=>?_;refine pY ha (yMove rfl) fun a ha=>?_;refine gOff ha fun a ha=>?_;refine gOff ha fun a ha=>?_;refine gOff ha fun a ha=>?_;refine gOff ha fun a ha=>?_;refine gOff ha fun a ha=>?_;refine pY ha (yPickF rfl rfl) fun a ha=>?_;refine pY ha (yAssign rfl) fun a ha=>?_;refine pZ ⟨rfl,?_⟩;exact ⟨_,_,has3 ha (bF (by rintro ⟨h1,h2,h3,h4,h5,h6⟩; exact hp19 h3)) rfl rfl,hs⟩
        · rw [hg19] at ha
          have hp19:=of_decide_eq_true hg19
          refine gOn ha ?_;refine pY ha (yFieldA Tryz.runUnderlying26 rfl Tryz.sizeOf3 rfl rfl) fun a ha=>?_;refine gOn ha ?_;refine pY ha (yLoadB Tryz.isAgg3 hs rfl pk1 rfl) fun a ha=>?_;refine gOn ha ?_;refine pY ha (yFieldA Tryz.runUnderlying26 rfl Tryz.sizeOf3 rfl rfl) fun a ha=>?_;refine gOn ha ?_;refine pY ha (yLoadB Tryz.isAgg3 hs rfl pk0 rfl) fun a ha=>?_;refine gOn ha ?_;refine pY ha (yEql rfl rfl) fun a ha=>?_;refine pY ha (yPickT rfl rfl) fun a ha=>?_;refine pY ha (yMove rfl) fun a ha=>?_;refine gSplit (t:=32) ha rfl (fun hg26=>?_) (fun hg26=>?_)
          · rw [hg26] at ha
            have hp26:=of_decide_eq_false hg26
            refine gOff ha fun a ha=>?_;refine gOff ha fun a ha=>?_;refine gOff ha fun a ha=>?_;refine gOff ha fun a ha=>?_;refine gOff ha fun a ha=>?_;refine pY ha (yPickF rfl rfl) fun a ha=>?_;refine pY ha (yMove rfl) fun a ha=>?_;refine gOff ha fun a ha=>?_;refine gOff ha fun a ha=>?_;refine gOff ha fun a ha=>?_;refine gOff ha fun a ha=>?_;refine gOff ha fun a ha=>?_;refine pY ha (yPickF rfl rfl) fun a ha=>?_;refine pY ha (yAssign rfl) fun a ha=>?_;refine pZ ⟨rfl,?_⟩;exact ⟨_,_,has3 ha (bF (by rintro ⟨h1,h2,h3,h4,h5,h6⟩; exact hp26 h4)) rfl rfl,hs⟩
          · rw [hg26] at ha
            have hp26:=of_decide_eq_true hg26
            refine gOn ha ?_;refine pY ha (yFieldA Tryz.runUnderlying26 rfl Tryz.sizeOf3 rfl rfl) fun a ha=>?_;refine gOn ha ?_;refine pY ha (yLoadB Tryz.isAgg3 hs rfl pk1 rfl) fun a ha=>?_;refine gOn ha ?_;refine pY ha (yFieldA Tryz.runUnderlying26 rfl Tryz.sizeOf3 rfl rfl) fun a ha=>?_;refine gOn ha ?_;refine pY ha (yLoadB Tryz.isAgg3 hs rfl pk0 rfl) fun a ha=>?_;refine gOn ha ?_;refine pY ha (yEql rfl rfl) fun a ha=>?_;refine pY ha (yPickT rfl rfl) fun a ha=>?_;refine pY ha (yMove rfl) fun a ha=>?_;refine gSplit (t:=39) ha rfl (fun hg33=>?_) (fun hg33=>?_)
            · rw [hg33] at ha
              have hp33:=of_decide_eq_false hg33
              refine gOff ha fun a ha=>?_;refine gOff ha fun a ha=>?_;refine gOff ha fun a ha=>?_;refine gOff ha fun a ha=>?_;refine gOff ha fun a ha=>?_;refine pY ha (yPickF rfl rfl) fun a ha=>?_;refine pY ha (yAssign rfl) fun a ha=>?_;refine pZ ⟨rfl,?_⟩;exact ⟨_,_,has3 ha (bF (by rintro ⟨h1,h2,h3,h4,h5,h6⟩; exact hp33 h5)) rfl rfl,hs⟩
            · rw [hg33] at ha
              have hp33:=of_decide_eq_true hg33
              refine gOn ha ?_;refine pY ha (yFieldA Tryz.runUnderlying26 rfl Tryz.sizeOf3 rfl rfl) fun a ha=>?_;refine gOn ha ?_;refine pY ha (yLoadB Tryz.isAgg3 hs rfl pk1 rfl) fun a ha=>?_;refine gOn ha ?_;refine pY ha (yFieldA Tryz.runUnderlying26 rfl Tryz.sizeOf3 rfl rfl) fun a ha=>?_;refine gOn ha ?_;refine pY ha (yLoadB Tryz.isAgg3 hs rfl pk0 rfl) fun a ha=>?_;refine gOn ha ?_;refine pY ha (yEql rfl rfl) fun a ha=>?_;refine pY ha (yPickT rfl rfl) fun a ha=>?_;refine pY ha (yAssign rfl) fun a ha=>?_;refine pZ ⟨rfl,?_⟩;exact ⟨_,_,has3 ha (bT ⟨fun h=>⟨hp5,hp12,hp19,hp26,hp33,h⟩,fun h=>h.2.2.2.2.2⟩) rfl rfl,hs⟩
  rintro a w ⟨b,b',ha,hs⟩;refine hK2 _ _ ?_;refine wp_seq_k fun K3 hK3=>?_;refine wp_region_lit ?_;refine pY ha (yMove rfl) fun a ha=>?_;refine pY ha (yMove rfl) fun a ha=>?_;refine gSplit (t:=47) ha rfl (fun hg1=>?_) (fun hg1=>?_)
  · rw [hg1] at ha
    have hp1:=of_decide_eq_false hg1
    refine gOff ha fun a ha=>?_;refine gOff ha fun a ha=>?_;refine gOff ha fun a ha=>?_;refine gOff ha fun a ha=>?_;refine gOff ha fun a ha=>?_;refine pY ha (yPickF rfl rfl) fun a ha=>?_;refine pY ha (yMove rfl) fun a ha=>?_;refine gOff ha fun a ha=>?_;refine gOff ha fun a ha=>?_;refine gOff ha fun a ha=>?_;refine gOff ha fun a ha=>?_;refine gOff ha fun a ha=>?_;refine pY ha (yPickF rfl rfl) fun a ha=>?_;refine pY ha (yMove rfl) fun a ha=>?_;refine gOff ha fun a ha=>?_;refine gOff ha fun a ha=>?_;refine gOff ha fun a ha=>?_;refine gOff ha fun a ha=>?_;refine gOff ha fun a ha=>?_;refine pY ha (yPickF rfl rfl) fun a ha=>?_;refine pY ha (yAssign rfl) fun a ha=>?_;refine pZ ?_;refine hK3 _ _ ?_;refine wp_ret ?_;show bodyPost Tryz.prog Tryz.f14 _ .ret _ _;refine ret1 rfl ha rfl ?_;refine ⟨?_,hs.drop.drop.drop.drop.drop.drop.drop.drop⟩;exact congrArg Value.bool (decide_eq_false (fun h=>by have h:=key.2 h; exact hp1 h.1)).symm
  · rw [hg1] at ha
    have hp1:=of_decide_eq_true hg1
    refine gOn ha ?_;refine pY ha (yFieldA Tryz.runUnderlying26 rfl Tryz.sizeOf22 rfl rfl) fun a ha=>?_;refine gOn ha ?_;refine pY ha (yLoadB Tryz.isAgg22 hs rfl pk1 rfl) fun a ha=>?_;refine gOn ha ?_;refine pY ha (yFieldA Tryz.runUnderlying26 rfl Tryz.sizeOf22 rfl rfl) fun a ha=>?_;refine gOn ha ?_;refine pY ha (yLoadB Tryz.isAgg22 hs rfl pk0 rfl) fun a ha=>?_;refine gOn ha ?_;refine pC ha (nCall Tryz.call42 rfl) rfl (SameT_c (xs:=x.acts) (ys:=y.acts) hs (.there (.there (.there (.there (.there .here))))) (.there (.there .here))) ?_;rintro v w ⟨rfl,hs⟩ a ha;refine pY ha (yPickT rfl rfl) fun a ha=>?_;refine pY ha (yMove rfl) fun a ha=>?_;refine gSplit (t:=54) ha rfl (fun hg8=>?_) (fun hg8=>?_)
    · rw [hg8] at ha
      have hp8:=of_decide_eq_false hg8
      refine gOff ha fun a ha=>?_;refine gOff ha fun a ha=>?_;refine gOff ha fun a ha=>?_;refine gOff ha fun a ha=>?_;refine gOff ha fun a ha=>?_;refine pY ha (yPickF rfl rfl) fun a ha=>?_;refine pY ha (yMove rfl) fun a ha=>?_;refine gOff ha fun a ha=>?_;refine gOff ha fun a ha=>?_;refine gOff ha fun a ha=>?_;refine gOff ha fun a ha=>?_;refine gOff ha fun a ha=>?_;refine pY ha (yPickF rfl rfl) fun a ha=>?_;refine pY ha (yAssign rfl) fun a ha=>?_;refine pZ ?_;refine hK3 _ _ ?_;refine wp_ret ?_;show bodyPost Tryz.prog Tryz.f14 _ .ret _ _;refine ret1 rfl ha rfl ?_;refine ⟨?_,hs.drop.drop.drop.drop.drop.drop.drop.drop⟩;exact congrArg Value.bool (decide_eq_false (fun h=>by have h:=key.2 h; exact hp8 h.2.1)).symm
    · rw [hg8] at ha
      have hp8:=of_decide_eq_true hg8
      refine gOn ha ?_;refine pY ha (yFieldA Tryz.runUnderlying26 rfl Tryz.sizeOf23 rfl rfl) fun a ha=>?_;refine gOn ha ?_;refine pY ha (yLoadB Tryz.isAgg23 hs rfl pk1 rfl) fun a ha=>?_;refine gOn ha ?_;refine pY ha (yFieldA Tryz.runUnderlying26 rfl Tryz.sizeOf23 rfl rfl) fun a ha=>?_;refine gOn ha ?_;refine pY ha (yLoadB Tryz.isAgg23 hs rfl pk0 rfl) fun a ha=>?_;refine gOn ha ?_;refine pC ha (nCall Tryz.call43 rfl) rfl (EqCmts_c (xs:=x.commits) (ys:=y.commits) hs (.there (.there (.there (.there (.there (.there .here)))))) (.there (.there (.there .here)))) ?_;rintro v w ⟨rfl,hs⟩ a ha;refine pY ha (yPickT rfl rfl) fun a ha=>?_;refine pY ha (yMove rfl) fun a ha=>?_;refine gSplit (t:=61) ha rfl (fun hg15=>?_) (fun hg15=>?_)
      · rw [hg15] at ha
        have hp15:=of_decide_eq_false hg15
        refine gOff ha fun a ha=>?_;refine gOff ha fun a ha=>?_;refine gOff ha fun a ha=>?_;refine gOff ha fun a ha=>?_;refine gOff ha fun a ha=>?_;refine pY ha (yPickF rfl rfl) fun a ha=>?_;refine pY ha (yAssign rfl) fun a ha=>?_;refine pZ ?_;refine hK3 _ _ ?_;refine wp_ret ?_;show bodyPost Tryz.prog Tryz.f14 _ .ret _ _;refine ret1 rfl ha rfl ?_;refine ⟨?_,hs.drop.drop.drop.drop.drop.drop.drop.drop⟩;exact congrArg Value.bool (decide_eq_false (fun h=>by have h:=key.2 h; exact hp15 h.2.2.1)).symm
      · rw [hg15] at ha
        have hp15:=of_decide_eq_true hg15
        refine gOn ha ?_;refine pY ha (yFieldA Tryz.runUnderlying26 rfl Tryz.sizeOf24 rfl rfl) fun a ha=>?_;refine gOn ha ?_;refine pY ha (yLoadB Tryz.isAgg24 hs rfl pk1 rfl) fun a ha=>?_;refine gOn ha ?_;refine pY ha (yFieldA Tryz.runUnderlying26 rfl Tryz.sizeOf24 rfl rfl) fun a ha=>?_;refine gOn ha ?_;refine pY ha (yLoadB Tryz.isAgg24 hs rfl pk0 rfl) fun a ha=>?_;refine gOn ha ?_;refine pC ha (nCall Tryz.call45 rfl) rfl (EqNods_c (xs:=x.nodes) (ys:=y.nodes) hs (.there (.there (.there (.there (.there (.there (.there .here))))))) (.there (.there (.there (.there .here))))) ?_;rintro v w ⟨rfl,hs⟩ a ha;refine pY ha (yPickT rfl rfl) fun a ha=>?_;refine pY ha (yAssign rfl) fun a ha=>?_;refine pZ ?_;refine hK3 _ _ ?_;refine wp_ret ?_;show bodyPost Tryz.prog Tryz.f14 _ .ret _ _;refine ret1 rfl ha rfl ?_;refine ⟨?_,hs.drop.drop.drop.drop.drop.drop.drop.drop⟩;exact congrArg Value.bool (decide_eq_decide.2 ⟨fun h=>key.1 ⟨hp1,hp8,hp15,h⟩,fun h=>(key.2 h).2.2.2⟩)
end
end Go.Proofs.YtnlhbkaieoogfaaGreatDoor

set_option linter.unusedVariables false
set_option linter.unusedSimpArgs false
namespace Go.Proofs.YtnlhbkaieoogfaaGreatDoor
open Go.RowKit
theorem bldOwn26_0 {w : World} {l : List (Nat × Value)} {T : TypeId} {x0 : Operand} {v0 : Value} (h0 : ev l x0 = some v0) (o0 : v0.cells = #[v0]:=by rfl) : Yl Tryz.prog w l (.build 26 #[(0,x0)]) T (.agg #[v0,.int .i64 0,.int .i64 0,.int .i64 0,.int .i64 0,.slice none 0 0,.slice none 0 0,.slice none 0 0,.int .i64 0]):=fun ρ o h ho _=>by
  have hf : Instr.fill (fun i=>([(0,1),(1,1),(2,1),(3,1),(4,1),(5,1),(6,1),(7,1),(8,1)] : List (Nat × Nat))[i]?) #[.int .i64 0,.int .i64 0,.int .i64 0,.int .i64 0,.int .i64 0,.slice none 0 0,.slice none 0 0,.slice none 0 0,.int .i64 0] [(0,v0)] = some #[v0,.int .i64 0,.int .i64 0,.int .i64 0,.int .i64 0,.slice none 0 0,.slice none 0 0,.slice none 0 0,.int .i64 0]:=by
    refine (fill_v o0 rfl (by simp)).trans ?_
    simp [Instr.fill]
  unfold execOp; rw [ho]
  simp [h _ _ h0,Instr.build,Tryz.zeroValue26,Tryz.runUnderlying26,Tryz.sizeOf22,Tryz.sizeOf23,Tryz.sizeOf24,Tryz.sizeOf3,agg_cells,hf]
theorem bldOwn48_0 {w : World} {l : List (Nat × Value)} {T : TypeId} {x0 : Operand} {v0 : Value} (h0 : ev l x0 = some v0) (o0 : v0.cells = #[v0]:=by rfl) : Yl Tryz.prog w l (.build 48 #[(0,x0)]) T (.agg #[v0,.int .i64 0,.int .i64 0,.string ⟨#[]⟩,.bool false,.slice none 0 0]):=fun ρ o h ho _=>by
  have hf : Instr.fill (fun i=>([(0,1),(1,1),(2,1),(3,1),(4,1),(5,1)] : List (Nat × Nat))[i]?) #[.int .i64 0,.int .i64 0,.int .i64 0,.string ⟨#[]⟩,.bool false,.slice none 0 0] [(0,v0)] = some #[v0,.int .i64 0,.int .i64 0,.string ⟨#[]⟩,.bool false,.slice none 0 0]:=by
    refine (fill_v o0 rfl (by simp)).trans ?_
    simp [Instr.fill]
  unfold execOp; rw [ho]
  simp [h _ _ h0,Instr.build,Tryz.zeroValue48,Tryz.runUnderlying48,Tryz.sizeOf3,Tryz.sizeOf4,Tryz.sizeOf46,Tryz.sizeOf9,agg_cells,hf]
theorem bslOwn22_1_0 {w : World} {l : List (Nat × Value)} {T : TypeId} {x0 : Operand} {c0 : List Value} (h0 : ev l x0 = some (.agg c0.toArray)) (n0 : c0.length = 6:=by rfl) : Mk Tryz.prog w l (.buildSlice 22 1 #[(0,x0)]) T 48 1 c0:=fun ρ o h ho _=>by
  unfold execOp; rw [ho];exact mk1 (P:=Tryz.prog) w Tryz.runUnderlying22 Tryz.sizeOf48 Tryz.zeroValue48 (by decide) (by decide) n0 (h _ _ h0)
theorem bslOwn23_1_0 {w : World} {l : List (Nat × Value)} {T : TypeId} {x0 : Operand} {c0 : List Value} (h0 : ev l x0 = some (.agg c0.toArray)) (n0 : c0.length = 4:=by rfl) : Mk Tryz.prog w l (.buildSlice 23 1 #[(0,x0)]) T 58 1 c0:=fun ρ o h ho _=>by
  unfold execOp; rw [ho];exact mk1 (P:=Tryz.prog) w Tryz.runUnderlying23 Tryz.sizeOf58 Tryz.zeroValue58 (by decide) (by decide) n0 (h _ _ h0)
theorem bslOwn24_0_ {w : World} {l : List (Nat × Value)} {T : TypeId} : Mk Tryz.prog w l (.buildSlice 24 0 #[]) T 50 0 []:=mk0 Tryz.runUnderlying24 Tryz.sizeOf50
theorem bslOwn46_0_ {w : World} {l : List (Nat × Value)} {T : TypeId} : Mk Tryz.prog w l (.buildSlice 46 0 #[]) T 45 0 []:=mk0 Tryz.runUnderlying46 Tryz.sizeOf45
theorem elOwn22 : ElemT Tryz.prog 22 48 6 72:=elemT_mk Tryz.underlying22 rfl (by kernel_rfl)
theorem elOwn23 : ElemT Tryz.prog 23 58 4 48:=elemT_mk Tryz.underlying23 rfl (by kernel_rfl)
theorem elOwn24 : ElemT Tryz.prog 24 50 5 56:=elemT_mk Tryz.underlying24 rfl (by kernel_rfl)
theorem elOwn46 : ElemT Tryz.prog 46 45 3 32:=elemT_mk Tryz.underlying46 rfl (by kernel_rfl)
section
variable {W w : World} {cs r r' : List Ch}
theorem CloneC_c {A : Option Addr} {n c : Nat} {xs : List Comp} (hs : Sep W w cs) (hk : Pick cs (.rd kComp (.slice A n c) xs) r) (hb : xs.length≤1000000000) :
    Calls P 88 #[.slice A n c] w (Rt fun v w'=>∃ A' c',v = .slice A' xs.length c'∧Sep W w' (.rd kComp (.slice A' xs.length c') xs::cs)):=by
  obtain ⟨rfl,hl⟩:=hs.rd_shape hk;have hs:=hs.cpR hk;refine enter Tryz.func88 Tryz.ntmps88 rfl rfl fun a (ha : Has a 8 [(0,_)])=>?_;refine wp_seq_k fun K1 hK1=>?_;refine wp_region_lit ?_;refine pY ha (yAssign rfl) fun a ha=>?_;refine pZ ?_;refine hK1 _ _ ?_;refine wp_seq_k fun K2 hK2=>?_;refine wp_seq_k fun K3 hK3=>?_;refine wp_region_lit ?_;refine pY ha (yMove rfl) fun a ha=>?_;refine pY ha (ySlEql Tryz.underlying46 rfl rfl) fun a ha=>?_;refine pZ ?_;refine hK3 _ _ ?_;refine cSplit ha rfl (fun hc4=>?_) (fun hc4=>?_)
  · obtain rfl : A = none:=by simpa using hc4
    obtain rfl:=hs.rd_none .here;refine wp_seq_k fun K4 hK4=>?_;refine wp_region_lit ?_;refine pY ha (yAssign rfl) fun a ha=>?_;refine pZ ?_;refine hK4 _ _ ?_;refine wp_ret ?_;show bodyPost Tryz.prog Tryz.f88 _ .ret _ _;refine ret1 rfl ha rfl ?_;exact ⟨none,0,rfl,(hs.drop.ol_nil kComp 0 none).ol_rd .here⟩
  · refine wp_skip ?_;refine hK2 _ _ ?_;refine wp_seq_k fun K5 hK5=>?_;refine wp_region_lit ?_;refine pMake ha bslOwn46_0_ hs rfl fun b w hs a ha=>?_;have hs:=hs.blk_ol0 .here kComp;refine pY ha (yMove rfl) fun a ha=>?_;refine pAppRd ha elOwn46 rfl rfl hs pk0 pk0 rfl (by (simp [maxLen]; omega)) (by (simp [maxLen]; omega)) rfl fun A c w hs a ha=>?_;refine pY ha (yAssign rfl) fun a ha=>?_;refine pZ ?_;refine hK5 _ _ ?_;refine wp_ret ?_;show bodyPost Tryz.prog Tryz.f88 _ .ret _ _;refine ret1 rfl ha rfl ?_;exact ⟨A,c,by simp,by simpa using (hs.drop2).ol_rd .here⟩
theorem CloneN_c {A : Option Addr} {n c : Nat} {xs : List Nod} (hs : Sep W w cs) (hk : Pick cs (.rd kNod (.slice A n c) xs) r) (hb : xs.length≤1000000000) :
    Calls P 48 #[.slice A n c] w (Rt fun v w'=>∃ A' c',v = .slice A' xs.length c'∧Sep W w' (.rd kNod (.slice A' xs.length c') xs::cs)):=by
  obtain ⟨rfl,hl⟩:=hs.rd_shape hk;have hs:=hs.cpR hk;refine enter Tryz.func48 Tryz.ntmps48 rfl rfl fun a (ha : Has a 8 [(0,_)])=>?_;refine wp_seq_k fun K1 hK1=>?_;refine wp_region_lit ?_;refine pY ha (yAssign rfl) fun a ha=>?_;refine pZ ?_;refine hK1 _ _ ?_;refine wp_seq_k fun K2 hK2=>?_;refine wp_seq_k fun K3 hK3=>?_;refine wp_region_lit ?_;refine pY ha (yMove rfl) fun a ha=>?_;refine pY ha (ySlEql Tryz.underlying24 rfl rfl) fun a ha=>?_;refine pZ ?_;refine hK3 _ _ ?_;refine cSplit ha rfl (fun hc4=>?_) (fun hc4=>?_)
  · obtain rfl : A = none:=by simpa using hc4
    obtain rfl:=hs.rd_none .here;refine wp_seq_k fun K4 hK4=>?_;refine wp_region_lit ?_;refine pY ha (yAssign rfl) fun a ha=>?_;refine pZ ?_;refine hK4 _ _ ?_;refine wp_ret ?_;show bodyPost Tryz.prog Tryz.f48 _ .ret _ _;refine ret1 rfl ha rfl ?_;exact ⟨none,0,rfl,(hs.drop.ol_nil kNod 0 none).ol_rd .here⟩
  · refine wp_skip ?_;refine hK2 _ _ ?_;refine wp_seq_k fun K5 hK5=>?_;refine wp_region_lit ?_;refine pMake ha bslOwn24_0_ hs rfl fun b w hs a ha=>?_;have hs:=hs.blk_ol0 .here kNod;refine pY ha (yMove rfl) fun a ha=>?_;refine pAppRd ha elOwn24 rfl rfl hs pk0 pk0 rfl (by (simp [maxLen]; omega)) (by (simp [maxLen]; omega)) rfl fun A c w hs a ha=>?_;refine pY ha (yAssign rfl) fun a ha=>?_;refine pZ ?_;refine hK5 _ _ ?_;refine wp_ret ?_;show bodyPost Tryz.prog Tryz.f48 _ .ret _ _;refine ret1 rfl ha rfl ?_;exact ⟨A,c,by simp,by simpa using (hs.drop2).ol_rd .here⟩
theorem Own_c {A : Option Addr} {n c : Nat} {xs : List Actn} (hs : Sep W w cs) (hk : Pick cs (.rd kActn (.slice A n c) xs) r) (hb : xs.length≤1000000000) (hb2 : ∀ x ∈ xs,x.ops.length≤1000000000) :
    Calls P 46 #[.slice A n c] w (Rt fun v w'=>∃ A' c',v = .slice A' xs.length c'∧Sep W w' (.rd kActn (.slice A' xs.length c') xs::cs)):=by
  obtain ⟨rfl,hl⟩:=hs.rd_shape hk;have hs:=hs.cpR hk;refine enter Tryz.func46 Tryz.ntmps46 rfl rfl fun a (ha : Has a 21 [(0,_)])=>?_;refine wp_seq_k fun K1 hK1=>?_;refine wp_region_lit ?_;refine pY ha (yAssign rfl) fun a ha=>?_;refine pZ ?_;refine hK1 _ _ ?_;refine wp_seq_k fun K2 hK2=>?_;refine wp_seq_k fun K3 hK3=>?_;refine wp_region_lit ?_;refine pY ha (yMove rfl) fun a ha=>?_;refine pY ha (yLenS Tryz.runUnderlying22 rfl) fun a ha=>?_;refine pY ha (yMove rfl) fun a ha=>?_;refine pZ ?_;refine hK3 _ _ ?_;refine wp_block ?_;refine loopI (ι:=Nat × Option Addr × Nat) (fun i a w=>i.1≤xs.length∧Has a 21 [(2,.slice i.2.1 (xs.take i.1).length i.2.2),(5,.slice A xs.length c),(6,.int .i64 xs.length),(7,.int .i64 i.1)]∧Sep W w (.ol kActn 48 (.slice i.2.1 (xs.take i.1).length i.2.2) (xs.take i.1)::.rd kActn (.slice A xs.length c) xs::cs)) (fun i=>xs.length - i.1) ((0,none,0)) ?_ ?_
  · exact ⟨Nat.zero_le _,has4 ha rfl rfl rfl rfl,hs.ol_nil kActn _ none⟩
  · rintro i a w ⟨h1,ha,hs⟩;obtain ⟨i,B,d⟩:=i; simp only at h1 ha hs;refine wp_seq_k fun K4 hK4=>?_;refine wp_region_lit ?_;refine pY ha (yLss rfl rfl) fun a ha=>?_;refine pZ ?_;refine hK4 _ _ ?_;refine wp_seq_k fun K5 hK5=>?_;refine cDec ha rfl (fun hc8=>?_) (fun hc8=>?_)
    · obtain ⟨x,hx⟩ : ∃ x,xs[i]? = some x:=⟨_,List.getElem?_eq_getElem (by omega)⟩
      have hxo:=hb2 x (List.mem_of_getElem? hx)
      have hlt : (xs.take i).length = i:=by rw [List.length_take]; omega
      obtain ⟨b0,off,A',n',c',rfl,hs⟩:=hs.rd_actn (.there .here) hx;refine wp_skip ?_;refine hK5 _ _ ?_;refine wp_seq_k fun K6 hK6=>?_;refine wp_block ?_;refine wp_seq_k fun K7 hK7=>?_;refine wp_region_lit ?_;refine pY ha (yIndexA Tryz.runUnderlying22 Tryz.sizeOf48 rfl rfl (by omega) (by omega)) fun a ha=>?_;refine pY ha (yLoadRA Tryz.isAgg48 Tryz.sizeOf48 hs rfl pk0 rfl) fun a ha=>?_;refine pAlloc (zs:=[.int .i64 0,.int .i64 0,.int .i64 0,.string ⟨#[]⟩,.bool false,.slice none 0 0]) ha Tryz.zeroValue48 rfl hs rfl fun b w hs a ha=>?_;refine pStoreA ha Tryz.sizeOf48 hs rfl rfl pk0 rfl rfl rfl fun w hs=>?_;refine pZ ?_;refine hK7 _ _ ?_;refine wp_seq_k fun K8 hK8=>?_;refine wp_region_lit ?_;refine pY ha (yFieldA Tryz.runUnderlying48 rfl Tryz.sizeOf46 rfl rfl) fun a ha=>?_;refine pY ha (yLoadB Tryz.isAgg46 hs rfl pk0 rfl) fun a ha=>?_;refine pC ha (nCall Tryz.call88 rfl) rfl (CloneC_c (xs:=x.ops) hs pk2 hxo) ?_;rintro v w ⟨A2,c2,rfl,hs⟩ a ha;refine pY ha (yFieldA Tryz.runUnderlying48 rfl Tryz.sizeOf46 rfl rfl) fun a ha=>?_;refine pStore ha Tryz.sizeOf46 hs rfl rfl rfl rfl pk1 rfl fun w hs=>?_;refine pZ ?_;refine hK8 _ _ ?_;refine wp_region_lit ?_;refine pY ha (yMove rfl) fun a ha=>?_;refine pY ha (yLoadBA Tryz.isAgg48 Tryz.sizeOf48 hs rfl pk0 rfl) fun a ha=>?_;have hs:=hs.with_ro (p:=fun Z=>kComp.sl Z (.slice A2 x.ops.length c2) x.ops) pk1 (q:=fun Z=>kActn.R Z x [.int .i64 x.kind,.int .i64 x.id,.int .i64 x.parent,.string x.name,.bool x.dir,.slice A2 x.ops.length c2]) (m':=fun _ _ h=>kActn.mono h) (fun Z hp=>⟨A2,_,c2,rfl,hp⟩);refine pMake ha (bslOwn22_1_0 rfl) hs rfl fun b w hs a ha=>?_;refine pApp1 ha elOwn22 rfl rfl hs pk6 pk0 pk0 rfl (by omega) (by omega) rfl fun A c w hs a ha=>?_;refine pY ha (yAssign rfl) fun a ha=>?_;refine pZ ?_;refine hK6 _ _ ?_;refine wp_region_lit ?_;refine pY ha (yAddN rfl rfl ⟨by omega,by omega⟩) fun a ha=>?_;refine pY ha (yMove rfl) fun a ha=>?_;refine pZ ?_
      have e1 : xs.take (i + 1) = xs.take i++[x]:=by rw [List.take_add_one,hx]; rfl
      have e2 : (xs.take (i + 1)).length = (xs.take i).length + 1:=by rw [e1]; simp
      refine ⟨(i + 1,A,c),⟨by simp only; omega,?_,?_⟩,by simp only; omega⟩
      · rw [e2]; exact has4 ha rfl rfl rfl rfl
      · rw [e2,e1]; exact hs.drop2.drop2.drop2.drop2
    · refine wp_exit ?_;refine hK2 _ _ ?_;refine wp_seq_k fun K9 hK9=>?_;refine wp_region_lit ?_;refine pY ha (yMove rfl) fun a ha=>?_;refine pY ha (yAssign rfl) fun a ha=>?_;refine pZ ?_;refine hK9 _ _ ?_;refine wp_ret ?_;show bodyPost Tryz.prog Tryz.f46 _ .ret _ _;refine ret1 rfl ha rfl ?_;rw [List.take_of_length_le (by omega)] at hs ⊢; exact ⟨B,d,rfl,(hs.ol_rd .here).drop2⟩
theorem OwnAll_c {A : Option Addr} {n c : Nat} {xs : List Cmt} (hs : Sep W w cs) (hk : Pick cs (.rd kCmt (.slice A n c) xs) r) (hb : xs.length≤1000000000) (hb1 : ∀ x ∈ xs,x.acts.length≤1000000000) (hb2 : ∀ x ∈ xs,∀ y ∈ x.acts,y.ops.length≤1000000000) :
    Calls P 47 #[.slice A n c] w (Rt fun v w'=>∃ A' c',v = .slice A' xs.length c'∧Sep W w' (.rd kCmt (.slice A' xs.length c') xs::cs)):=by
  obtain ⟨rfl,hl⟩:=hs.rd_shape hk;have hs:=hs.cpR hk;refine enter Tryz.func47 Tryz.ntmps47 rfl rfl fun a (ha : Has a 21 [(0,_)])=>?_;refine wp_seq_k fun K1 hK1=>?_;refine wp_region_lit ?_;refine pY ha (yAssign rfl) fun a ha=>?_;refine pZ ?_;refine hK1 _ _ ?_;refine wp_seq_k fun K2 hK2=>?_;refine wp_seq_k fun K3 hK3=>?_;refine wp_region_lit ?_;refine pY ha (yMove rfl) fun a ha=>?_;refine pY ha (yLenS Tryz.runUnderlying23 rfl) fun a ha=>?_;refine pY ha (yMove rfl) fun a ha=>?_;refine pZ ?_;refine hK3 _ _ ?_;refine wp_block ?_;refine loopI (ι:=Nat × Option Addr × Nat) (fun i a w=>i.1≤xs.length∧Has a 21 [(2,.slice i.2.1 (xs.take i.1).length i.2.2),(5,.slice A xs.length c),(6,.int .i64 xs.length),(7,.int .i64 i.1)]∧Sep W w (.ol kCmt 58 (.slice i.2.1 (xs.take i.1).length i.2.2) (xs.take i.1)::.rd kCmt (.slice A xs.length c) xs::cs)) (fun i=>xs.length - i.1) ((0,none,0)) ?_ ?_
  · exact ⟨Nat.zero_le _,has4 ha rfl rfl rfl rfl,hs.ol_nil kCmt _ none⟩
  · rintro i a w ⟨h1,ha,hs⟩;obtain ⟨i,B,d⟩:=i; simp only at h1 ha hs;refine wp_seq_k fun K4 hK4=>?_;refine wp_region_lit ?_;refine pY ha (yLss rfl rfl) fun a ha=>?_;refine pZ ?_;refine hK4 _ _ ?_;refine wp_seq_k fun K5 hK5=>?_;refine cDec ha rfl (fun hc8=>?_) (fun hc8=>?_)
    · obtain ⟨x,hx⟩ : ∃ x,xs[i]? = some x:=⟨_,List.getElem?_eq_getElem (by omega)⟩
      have hxo:=hb1 x (List.mem_of_getElem? hx)
      have hxo2:=hb2 x (List.mem_of_getElem? hx)
      have hlt : (xs.take i).length = i:=by rw [List.length_take]; omega
      obtain ⟨b0,off,A',n',c',rfl,hs⟩:=hs.rd_cmt (.there .here) hx;refine wp_skip ?_;refine hK5 _ _ ?_;refine wp_seq_k fun K6 hK6=>?_;refine wp_block ?_;refine wp_seq_k fun K7 hK7=>?_;refine wp_region_lit ?_;refine pY ha (yIndexA Tryz.runUnderlying23 Tryz.sizeOf58 rfl rfl (by omega) (by omega)) fun a ha=>?_;refine pY ha (yLoadRA Tryz.isAgg58 Tryz.sizeOf58 hs rfl pk0 rfl) fun a ha=>?_;refine pAlloc (zs:=[.int .i64 0,.int .i64 0,.int .i64 0,.slice none 0 0]) ha Tryz.zeroValue58 rfl hs rfl fun b w hs a ha=>?_;refine pStoreA ha Tryz.sizeOf58 hs rfl rfl pk0 rfl rfl rfl fun w hs=>?_;refine pZ ?_;refine hK7 _ _ ?_;refine wp_seq_k fun K8 hK8=>?_;refine wp_region_lit ?_;refine pY ha (yFieldA Tryz.runUnderlying58 rfl Tryz.sizeOf22 rfl rfl) fun a ha=>?_;refine pY ha (yLoadB Tryz.isAgg22 hs rfl pk0 rfl) fun a ha=>?_;refine pC ha (nCall Tryz.call46 rfl) rfl (Own_c (xs:=x.acts) hs pk2 hxo hxo2) ?_;rintro v w ⟨A2,c2,rfl,hs⟩ a ha;refine pY ha (yFieldA Tryz.runUnderlying58 rfl Tryz.sizeOf22 rfl rfl) fun a ha=>?_;refine pStore ha Tryz.sizeOf22 hs rfl rfl rfl rfl pk1 rfl fun w hs=>?_;refine pZ ?_;refine hK8 _ _ ?_;refine wp_region_lit ?_;refine pY ha (yMove rfl) fun a ha=>?_;refine pY ha (yLoadBA Tryz.isAgg58 Tryz.sizeOf58 hs rfl pk0 rfl) fun a ha=>?_;have hs:=hs.with_ro (p:=fun Z=>kActn.sl Z (.slice A2 x.acts.length c2) x.acts) pk1 (q:=fun Z=>kCmt.R Z x [.int .i64 x.rev,.int .i64 x.client,.int .i64 x.seq,.slice A2 x.acts.length c2]) (m':=fun _ _ h=>kCmt.mono h) (fun Z hp=>⟨A2,_,c2,rfl,hp⟩);refine pMake ha (bslOwn23_1_0 rfl) hs rfl fun b w hs a ha=>?_;refine pApp1 ha elOwn23 rfl rfl hs pk6 pk0 pk0 rfl (by omega) (by omega) rfl fun A c w hs a ha=>?_;refine pY ha (yAssign rfl) fun a ha=>?_;refine pZ ?_;refine hK6 _ _ ?_;refine wp_region_lit ?_;refine pY ha (yAddN rfl rfl ⟨by omega,by omega⟩) fun a ha=>?_;refine pY ha (yMove rfl) fun a ha=>?_;refine pZ ?_
      have e1 : xs.take (i + 1) = xs.take i++[x]:=by rw [List.take_add_one,hx]; rfl
      have e2 : (xs.take (i + 1)).length = (xs.take i).length + 1:=by rw [e1]; simp
      refine ⟨(i + 1,A,c),⟨by simp only; omega,?_,?_⟩,by simp only; omega⟩
      · rw [e2]; exact has4 ha rfl rfl rfl rfl
      · rw [e2,e1]; exact hs.drop2.drop2.drop2.drop2
    · refine wp_exit ?_;refine hK2 _ _ ?_;refine wp_seq_k fun K9 hK9=>?_;refine wp_region_lit ?_;refine pY ha (yMove rfl) fun a ha=>?_;refine pY ha (yAssign rfl) fun a ha=>?_;refine pZ ?_;refine hK9 _ _ ?_;refine wp_ret ?_;show bodyPost Tryz.prog Tryz.f47 _ .ret _ _;refine ret1 rfl ha rfl ?_;rw [List.take_of_length_le (by omega)] at hs ⊢; exact ⟨B,d,rfl,(hs.ol_rd .here).drop2⟩
/-- An act as it is handed over: its cells, its parts. -/
theorem PlainA_c {A : Option Addr} {n c : Nat} {x : Actn} (hs : Sep W w cs) (hk : Pick cs (.rd kComp (.slice A n c) x.ops) r) (hb : x.ops.length≤1000000000) :
    Calls P 104 #[.agg [.int .i64 x.kind,.int .i64 x.id,.int .i64 x.parent,.string x.name,.bool x.dir,.slice A n c].toArray] w (Rt fun v w'=>∃ A' c',v = .agg [.int .i64 (plainA x).kind,.int .i64 (plainA x).id,.int .i64 (plainA x).parent,.string (plainA x).name,.bool (plainA x).dir,.slice A' (plainA x).ops.length c'].toArray∧Sep W w' (.rd kComp (.slice A' (plainA x).ops.length c') (plainA x).ops::cs)):=by
  refine enter Tryz.func104 Tryz.ntmps104 rfl rfl fun a (ha : Has a 49 [(0,_)])=>?_;refine wp_seq_k fun K1 hK1=>?_;refine wp_region_lit ?_;refine pBox (es:=_) ha rfl rfl hs rfl fun b1 w hs a ha=>?_;refine pAlloc (zs:=[.int .i64 0,.int .i64 0,.int .i64 0,.string ⟨#[]⟩,.bool false,.slice none 0 0]) ha Tryz.zeroValue48 rfl hs rfl fun b2 w hs a ha=>?_;refine pZ ?_;refine hK1 _ _ ?_;refine wp_seq_k fun K2 hK2=>?_;refine wp_region_lit ?_;refine pY ha (yFieldA Tryz.runUnderlying48 rfl Tryz.sizeOf3 rfl rfl) fun a ha=>?_;refine pY ha (yLoadB Tryz.isAgg3 hs rfl pk1 rfl) fun a ha=>?_;refine pY ha (bldOwn48_0 rfl) fun a ha=>?_;refine pAlloc (zs:=[.int .i64 0,.int .i64 0,.int .i64 0,.string ⟨#[]⟩,.bool false,.slice none 0 0]) ha Tryz.zeroValue48 rfl hs rfl fun b3 w hs a ha=>?_;refine pStoreA ha Tryz.sizeOf48 hs rfl rfl pk0 rfl rfl rfl fun w hs=>?_;refine pZ ?_;refine hK2 _ _ ?_;refine wp_seq_k fun K3 hK3=>?_
  have hJ3 : ∀ a w,(∃ A' c',Has a 49 [(1,.pointer (some ⟨b1,0,none⟩)),(2,.pointer (some ⟨b2,0,none⟩)),(3,.pointer (some ⟨b3,0,none⟩))]∧Sep W w (.rd kComp (.slice A' (plainA x).ops.length c') (plainA x).ops::.blk b3 48 [.int .i64 (plainA x).kind,.int .i64 (plainA x).id,.int .i64 (plainA x).parent,.string (plainA x).name,.bool (plainA x).dir,.slice A' (plainA x).ops.length c']::.blk b2 48 [.int .i64 0,.int .i64 0,.int .i64 0,.string ⟨#[]⟩,.bool false,.slice none 0 0]::.blk b1 48 [.int .i64 x.kind,.int .i64 x.id,.int .i64 x.parent,.string x.name,.bool x.dir,.slice A n c]::cs))→K3 a w:=by
    rintro a w ⟨A',c',ha,hs⟩;refine hK3 _ _ ?_;refine wp_seq_k fun K4 hK4=>?_;refine wp_region_lit ?_;refine pY ha (yLoadBA Tryz.isAgg48 Tryz.sizeOf48 hs rfl pk1 rfl) fun a ha=>?_;refine pStoreA ha Tryz.sizeOf48 hs rfl rfl pk2 rfl rfl rfl fun w hs=>?_;refine pZ ?_;refine hK4 _ _ ?_;refine wp_ret ?_;show bodyPost Tryz.prog Tryz.f104 _ .ret _ _;refine retC rfl ha rfl Tryz.isAgg48 Tryz.sizeOf48 hs pk0 rfl ?_;exact ⟨A',c',rfl,hs.drop.drop2.drop2⟩
  refine wp_seq_k fun K5 hK5=>?_;refine wp_region_lit ?_;refine pY ha (yFieldA Tryz.runUnderlying48 rfl Tryz.sizeOf3 rfl rfl) fun a ha=>?_;refine pY ha (yLoadB Tryz.isAgg3 hs rfl pk2 rfl) fun a ha=>?_;refine pZ ?_;refine hK5 _ _ ?_;refine wp_block ?_;refine wp_seq_k fun K6 hK6=>?_;refine wp_region_lit ?_;refine pY ha (yEql rfl rfl) fun a ha=>?_;refine pY ha (yAssign rfl) fun a ha=>?_;refine pZ ?_;refine hK6 _ _ ?_;refine cDec ha rfl (fun hc9=>?_) (fun hc9=>?_)
  · refine dStart (fun w=>∃ rs,Sep W w (.blk b1 48 [.int .i64 x.kind,.int .i64 x.id,.int .i64 x.parent,.string x.name,.bool x.dir,.slice A n c]::rs)) [15] 65535 32767 (by kernel_rfl) (by kernel_rfl) rfl (⟨_,hs.drew.pick pk2⟩) ?_
    have hs:=Sep.drew hs
    generalize World.drew _ = w at hs ⊢;refine dP 0 1 rfl ha (fun _=>yFieldA Tryz.runUnderlying48 rfl Tryz.sizeOf3 rfl rfl) fun a ha=>?_;refine dT 1 3 rfl ha (fun _ ⟨rs,hs⟩=>yLoadB Tryz.isAgg3 hs rfl pk0 rfl) (⟨_,hs.pick pk2⟩) fun a ha=>?_;refine dP 2 7 rfl ha (fun _=>yFieldA Tryz.runUnderlying48 rfl Tryz.sizeOf3 rfl rfl) fun a ha=>?_;refine dT 3 15 rfl ha (fun _ ⟨rs,hs⟩=>yLoadB Tryz.isAgg3 hs rfl pk0 rfl) (⟨_,hs.pick pk2⟩) fun a ha=>?_;refine dP 4 31 rfl ha (fun _=>yFieldA Tryz.runUnderlying48 rfl Tryz.sizeOf9 rfl rfl) fun a ha=>?_;refine dT 5 63 rfl ha (fun _ ⟨rs,hs⟩=>yLoadB Tryz.isAgg9 hs rfl pk0 rfl) (⟨_,hs.pick pk2⟩) fun a ha=>?_;refine dP 6 127 rfl ha (fun _=>yFieldA Tryz.runUnderlying48 rfl Tryz.sizeOf4 rfl rfl) fun a ha=>?_;refine dT 7 255 rfl ha (fun _ ⟨rs,hs⟩=>yLoadB Tryz.isAgg4 hs rfl pk0 rfl) (⟨_,hs.pick pk2⟩) fun a ha=>?_;refine dP 8 511 rfl ha (fun _=>yFieldA Tryz.runUnderlying48 rfl Tryz.sizeOf3 rfl rfl) fun a ha=>?_;refine dStore 9 1023 rfl (by kernel_rfl) rfl ha won0 Tryz.sizeOf3 hs rfl rfl rfl rfl pk0 rfl (fun _ hs=>⟨_,hs.pick pk2⟩) fun w hs=>?_;refine dP 10 2047 rfl ha (fun _=>yFieldA Tryz.runUnderlying48 rfl Tryz.sizeOf3 rfl rfl) fun a ha=>?_;refine dStore 11 4095 rfl (by kernel_rfl) rfl ha won0 Tryz.sizeOf3 hs rfl rfl rfl rfl pk0 rfl (fun _ hs=>⟨_,hs.pick pk2⟩) fun w hs=>?_;refine dP 12 8191 rfl ha (fun _=>yFieldA Tryz.runUnderlying48 rfl Tryz.sizeOf9 rfl rfl) fun a ha=>?_;refine dStore 13 16383 rfl (by kernel_rfl) rfl ha won0 Tryz.sizeOf9 hs rfl rfl rfl rfl pk0 rfl (fun _ hs=>⟨_,hs.pick pk2⟩) fun w hs=>?_;refine dP 14 32767 rfl ha (fun _=>yFieldA Tryz.runUnderlying48 rfl Tryz.sizeOf4 rfl rfl) fun a ha=>?_;refine dStorel 15 65535 rfl (by kernel_rfl) rfl ha won0 Tryz.sizeOf4 hs rfl rfl rfl rfl pk0 rfl fun w hs=>?_;refine dZ (by kernel_rfl) ?_;refine hJ3 _ _ ?_
    (refine ⟨none,0,has3 ha rfl rfl rfl,?_⟩; rw [show plainA x = ⟨x.kind,x.id,x.parent,x.name,x.dir,[]⟩ by unfold plainA; simp [hc9]]; exact (hs.ol_nil kComp 0 none).ol_rd .here)
  · refine wp_seq_k fun K7 hK7=>?_;refine wp_region_lit ?_;refine pY ha (yEql rfl rfl) fun a ha=>?_;refine pY ha (yAssign rfl) fun a ha=>?_;refine pZ ?_;refine hK7 _ _ ?_;refine cDec ha rfl (fun hc23=>?_) (fun hc23=>?_)
    · refine wp_region_lit ?_;refine pY ha (yFieldA Tryz.runUnderlying48 rfl Tryz.sizeOf3 rfl rfl) fun a ha=>?_;refine pY ha (yLoadB Tryz.isAgg3 hs rfl pk2 rfl) fun a ha=>?_;refine pY ha (yFieldA Tryz.runUnderlying48 rfl Tryz.sizeOf3 rfl rfl) fun a ha=>?_;refine pStore ha Tryz.sizeOf3 hs rfl rfl rfl rfl pk0 rfl fun w hs=>?_;refine pZ ?_;refine hJ3 _ _ ?_
      (refine ⟨none,0,has3 ha rfl rfl rfl,?_⟩; rw [show plainA x = ⟨x.kind,x.id,0,emp,false,[]⟩ by unfold plainA; simp [hc9,hc23]]; exact (hs.ol_nil kComp 0 none).ol_rd .here)
    · refine wp_seq_k fun K8 hK8=>?_;refine wp_region_lit ?_;refine pY ha (yEql rfl rfl) fun a ha=>?_;refine pY ha (yAssign rfl) fun a ha=>?_;refine pZ ?_;refine hK8 _ _ ?_;refine cDec ha rfl (fun hc28=>?_) (fun hc28=>?_)
      · refine dStart (fun w=>∃ rs,Sep W w (.blk b1 48 [.int .i64 x.kind,.int .i64 x.id,.int .i64 x.parent,.string x.name,.bool x.dir,.slice A n c]::rs)) [11] 4095 2047 (by kernel_rfl) (by kernel_rfl) rfl (⟨_,hs.drew.pick pk2⟩) ?_
        have hs:=Sep.drew hs
        generalize World.drew _ = w at hs ⊢;refine dP 0 1 rfl ha (fun _=>yFieldA Tryz.runUnderlying48 rfl Tryz.sizeOf3 rfl rfl) fun a ha=>?_;refine dT 1 3 rfl ha (fun _ ⟨rs,hs⟩=>yLoadB Tryz.isAgg3 hs rfl pk0 rfl) (⟨_,hs.pick pk2⟩) fun a ha=>?_;refine dP 2 7 rfl ha (fun _=>yFieldA Tryz.runUnderlying48 rfl Tryz.sizeOf3 rfl rfl) fun a ha=>?_;refine dT 3 15 rfl ha (fun _ ⟨rs,hs⟩=>yLoadB Tryz.isAgg3 hs rfl pk0 rfl) (⟨_,hs.pick pk2⟩) fun a ha=>?_;refine dP 4 31 rfl ha (fun _=>yFieldA Tryz.runUnderlying48 rfl Tryz.sizeOf9 rfl rfl) fun a ha=>?_;refine dT 5 63 rfl ha (fun _ ⟨rs,hs⟩=>yLoadB Tryz.isAgg9 hs rfl pk0 rfl) (⟨_,hs.pick pk2⟩) fun a ha=>?_;refine dP 6 127 rfl ha (fun _=>yFieldA Tryz.runUnderlying48 rfl Tryz.sizeOf3 rfl rfl) fun a ha=>?_;refine dStore 7 255 rfl (by kernel_rfl) rfl ha won0 Tryz.sizeOf3 hs rfl rfl rfl rfl pk0 rfl (fun _ hs=>⟨_,hs.pick pk2⟩) fun w hs=>?_;refine dP 8 511 rfl ha (fun _=>yFieldA Tryz.runUnderlying48 rfl Tryz.sizeOf3 rfl rfl) fun a ha=>?_;refine dStore 9 1023 rfl (by kernel_rfl) rfl ha won0 Tryz.sizeOf3 hs rfl rfl rfl rfl pk0 rfl (fun _ hs=>⟨_,hs.pick pk2⟩) fun w hs=>?_;refine dP 10 2047 rfl ha (fun _=>yFieldA Tryz.runUnderlying48 rfl Tryz.sizeOf9 rfl rfl) fun a ha=>?_;refine dStorel 11 4095 rfl (by kernel_rfl) rfl ha won0 Tryz.sizeOf9 hs rfl rfl rfl rfl pk0 rfl fun w hs=>?_;refine dZ (by kernel_rfl) ?_;refine hJ3 _ _ ?_
        (refine ⟨none,0,has3 ha rfl rfl rfl,?_⟩; rw [show plainA x = ⟨x.kind,x.id,x.parent,x.name,false,[]⟩ by unfold plainA; simp [hc9,hc23,hc28]]; exact (hs.ol_nil kComp 0 none).ol_rd .here)
      · refine wp_seq_k fun K9 hK9=>?_;refine wp_region_lit ?_;refine pY ha (yEql rfl rfl) fun a ha=>?_;refine pY ha (yAssign rfl) fun a ha=>?_;refine pZ ?_;refine hK9 _ _ ?_;refine cDec ha rfl (fun hc39=>?_) (fun hc39=>?_)
        · refine dStart (fun w=>∃ rs,Sep W w (.blk b1 48 [.int .i64 x.kind,.int .i64 x.id,.int .i64 x.parent,.string x.name,.bool x.dir,.slice A n c]::rs)) [6,8] 511 63 (by kernel_rfl) (by kernel_rfl) rfl (⟨_,hs.drew.pick pk2⟩) ?_
          have hs:=Sep.drew hs
          generalize World.drew _ = w at hs ⊢;refine dP 0 1 rfl ha (fun _=>yFieldA Tryz.runUnderlying48 rfl Tryz.sizeOf3 rfl rfl) fun a ha=>?_;refine dT 1 3 rfl ha (fun _ ⟨rs,hs⟩=>yLoadB Tryz.isAgg3 hs rfl pk0 rfl) (⟨_,hs.pick pk2⟩) fun a ha=>?_;refine dP 2 7 rfl ha (fun _=>yFieldA Tryz.runUnderlying48 rfl Tryz.sizeOf46 rfl rfl) fun a ha=>?_;refine dT 3 15 rfl ha (fun _ ⟨rs,hs⟩=>yLoadB Tryz.isAgg46 hs rfl pk0 rfl) (⟨_,hs.pick pk2⟩) fun a ha=>?_;refine dP 5 47 rfl ha (fun _=>yFieldA Tryz.runUnderlying48 rfl Tryz.sizeOf3 rfl rfl) fun a ha=>?_;refine dC 4 63 rfl (by kernel_rfl) rfl ha won0 (nCall Tryz.call88 rfl) rfl (CloneC_c (xs:=x.ops) hs (.there (.there (.there hk))) hb) ?_;rintro v w ⟨A2,c2,rfl,hs⟩;refine ⟨⟨_,hs.pick pk3⟩,fun a ha=>?_⟩;refine dStorel 6 127 rfl (by kernel_rfl) rfl ha won0 Tryz.sizeOf3 hs rfl rfl rfl rfl pk1 rfl fun w hs=>?_;refine dP 7 255 rfl ha (fun _=>yFieldA Tryz.runUnderlying48 rfl Tryz.sizeOf46 rfl rfl) fun a ha=>?_;refine dStorel 8 511 rfl (by kernel_rfl) rfl ha won0 Tryz.sizeOf46 hs rfl rfl rfl rfl pk0 rfl fun w hs=>?_;refine dZ (by kernel_rfl) ?_;refine hJ3 _ _ ?_
          (refine ⟨A2,c2,has3 ha rfl rfl rfl,?_⟩; rw [show plainA x = ⟨x.kind,x.id,0,emp,false,x.ops⟩ by unfold plainA; simp [hc9,hc23,hc28,hc39]]; exact hs.perm (List.Perm.swap _ _ _))
        · refine wp_skip ?_;refine hJ3 _ _ ?_
          (refine ⟨none,0,has3 ha rfl rfl rfl,?_⟩; rw [show plainA x = ⟨x.kind,0,0,emp,false,[]⟩ by unfold plainA; simp [hc9,hc23,hc28,hc39]]; exact (hs.ol_nil kComp 0 none).ol_rd .here)
/-- Lists that are short enough to be copied. -/
def shortM (m : Msg) : Prop:=m.acts.length≤1000000000∧(∀ x ∈ m.acts,x.ops.length≤1000000000)∧m.commits.length≤1000000000∧(∀ x ∈ m.commits,x.acts.length≤1000000000)∧(∀ x ∈ m.commits,∀ y ∈ x.acts,y.ops.length≤1000000000)∧m.nodes.length≤1000000000
theorem PlainM_c {es : List Value} {x : Msg} (hb : shortM x) (hs : Sep W w cs) (hk : Pick cs (.el kMsg x es) r) :
    Calls P 15 #[.agg es.toArray] w (Rt fun v w'=>∃ es',v = .agg es'.toArray∧Sep W w' (.el kMsg (plainM x) es'::cs)):=by
  obtain ⟨q1,q2,q3,q4,q5,q6⟩:=hb;obtain ⟨A,n,c,A',n',c',B,m,d,rfl,hs⟩:=hs.el_msg hk;refine enter Tryz.func15 Tryz.ntmps15 rfl rfl fun a (ha : Has a 97 [(0,_)])=>?_;refine wp_seq_k fun K1 hK1=>?_;refine wp_region_lit ?_;refine pBox (es:=_) ha rfl rfl hs rfl fun b1 w hs a ha=>?_;refine pAlloc (zs:=[.int .i64 0,.int .i64 0,.int .i64 0,.int .i64 0,.int .i64 0,.slice none 0 0,.slice none 0 0,.slice none 0 0,.int .i64 0]) ha Tryz.zeroValue26 rfl hs rfl fun b2 w hs a ha=>?_;refine pZ ?_;refine hK1 _ _ ?_;refine wp_seq_k fun K2 hK2=>?_;refine wp_region_lit ?_;refine pY ha (yFieldA Tryz.runUnderlying26 rfl Tryz.sizeOf3 rfl rfl) fun a ha=>?_;refine pY ha (yLoadB Tryz.isAgg3 hs rfl pk1 rfl) fun a ha=>?_;refine pY ha (bldOwn26_0 rfl) fun a ha=>?_;refine pAlloc (zs:=[.int .i64 0,.int .i64 0,.int .i64 0,.int .i64 0,.int .i64 0,.slice none 0 0,.slice none 0 0,.slice none 0 0,.int .i64 0]) ha Tryz.zeroValue26 rfl hs rfl fun b3 w hs a ha=>?_;refine pStoreA ha Tryz.sizeOf26 hs rfl rfl pk0 rfl rfl rfl fun w hs=>?_;refine pZ ?_;refine hK2 _ _ ?_;refine wp_seq_k fun K3 hK3=>?_
  have hJ3 : ∀ a w,(∃ A1 n1 c1 A2 n2 c2 A3 n3 c3,Has a 97 [(1,.pointer (some ⟨b1,0,none⟩)),(2,.pointer (some ⟨b2,0,none⟩)),(3,.pointer (some ⟨b3,0,none⟩))]∧Sep W w (.rd kActn (.slice A1 n1 c1) (plainM x).acts::.rd kCmt (.slice A2 n2 c2) (plainM x).commits::.rd kNod (.slice A3 n3 c3) (plainM x).nodes::.blk b3 26 [.int .i64 (plainM x).kind,.int .i64 (plainM x).client,.int .i64 (plainM x).seq,.int .i64 (plainM x).rev,.int .i64 (plainM x).code,.slice A1 n1 c1,.slice A2 n2 c2,.slice A3 n3 c3,.int .i64 (plainM x).last]::.blk b2 26 [.int .i64 0,.int .i64 0,.int .i64 0,.int .i64 0,.int .i64 0,.slice none 0 0,.slice none 0 0,.slice none 0 0,.int .i64 0]::.blk b1 26 [.int .i64 x.kind,.int .i64 x.client,.int .i64 x.seq,.int .i64 x.rev,.int .i64 x.code,.slice A n c,.slice A' n' c',.slice B m d,.int .i64 x.last]::.rd kActn (.slice A n c) x.acts::.rd kCmt (.slice A' n' c') x.commits::.rd kNod (.slice B m d) x.nodes::cs))→K3 a w:=by
    rintro a w ⟨A1,n1,c1,A2,n2,c2,A3,n3,c3,ha,hs⟩;refine hK3 _ _ ?_;refine wp_seq_k fun K4 hK4=>?_;refine wp_region_lit ?_;refine pY ha (yLoadBA Tryz.isAgg26 Tryz.sizeOf26 hs rfl pk3 rfl) fun a ha=>?_;refine pStoreA ha Tryz.sizeOf26 hs rfl rfl pk4 rfl rfl rfl fun w hs=>?_;refine pZ ?_;refine hK4 _ _ ?_;refine wp_ret ?_;show bodyPost Tryz.prog Tryz.f15 _ .ret _ _;refine retC rfl ha rfl Tryz.isAgg26 Tryz.sizeOf26 hs pk0 rfl ?_;exact ⟨_,rfl,(hs.drop.mk_msg (x:=plainM x) .here .here .here).drop2.drop2.drop2.drop2.drop2⟩
  refine wp_seq_k fun K5 hK5=>?_;refine wp_region_lit ?_;refine pY ha (yFieldA Tryz.runUnderlying26 rfl Tryz.sizeOf3 rfl rfl) fun a ha=>?_;refine pY ha (yLoadB Tryz.isAgg3 hs rfl pk2 rfl) fun a ha=>?_;refine pZ ?_;refine hK5 _ _ ?_;refine wp_block ?_;refine wp_seq_k fun K6 hK6=>?_;refine wp_region_lit ?_;refine pY ha (yEql rfl rfl) fun a ha=>?_;refine pY ha (yAssign rfl) fun a ha=>?_;refine pZ ?_;refine hK6 _ _ ?_;refine cDec ha rfl (fun hc9=>?_) (fun hc9=>?_)
  · refine wp_region_lit ?_;refine pY ha (yFieldA Tryz.runUnderlying26 rfl Tryz.sizeOf3 rfl rfl) fun a ha=>?_;refine pY ha (yLoadB Tryz.isAgg3 hs rfl pk2 rfl) fun a ha=>?_;refine pY ha (yFieldA Tryz.runUnderlying26 rfl Tryz.sizeOf3 rfl rfl) fun a ha=>?_;refine pStore ha Tryz.sizeOf3 hs rfl rfl rfl rfl pk0 rfl fun w hs=>?_;refine pZ ?_;refine hJ3 _ _ ?_
    (refine ⟨none,0,0,none,0,0,none,0,0,has3 ha rfl rfl rfl,?_⟩; rw [show plainM x = ⟨x.kind,x.client,0,0,0,[],[],[],0⟩ by unfold plainM; simp [hc9]]; exact ((hs.rd_nil (d:=kNod)).rd_nil (d:=kCmt)).rd_nil (d:=kActn))
  · refine wp_seq_k fun K7 hK7=>?_;refine wp_region_lit ?_;refine pY ha (yEql rfl rfl) fun a ha=>?_;refine pY ha (yAssign rfl) fun a ha=>?_;refine pZ ?_;refine hK7 _ _ ?_;refine cDec ha rfl (fun hc14=>?_) (fun hc14=>?_)
    · refine dStart (fun w=>∃ rs,Sep W w (.blk b1 26 [.int .i64 x.kind,.int .i64 x.client,.int .i64 x.seq,.int .i64 x.rev,.int .i64 x.code,.slice A n c,.slice A' n' c',.slice B m d,.int .i64 x.last]::rs)) [18,20] 2097151 262143 (by kernel_rfl) (by kernel_rfl) rfl (⟨_,hs.drew.pick pk2⟩) ?_
      have hs:=Sep.drew hs
      generalize World.drew _ = w at hs ⊢;refine dP 0 1 rfl ha (fun _=>yFieldA Tryz.runUnderlying26 rfl Tryz.sizeOf3 rfl rfl) fun a ha=>?_;refine dT 1 3 rfl ha (fun _ ⟨rs,hs⟩=>yLoadB Tryz.isAgg3 hs rfl pk0 rfl) (⟨_,hs.pick pk2⟩) fun a ha=>?_;refine dP 2 7 rfl ha (fun _=>yFieldA Tryz.runUnderlying26 rfl Tryz.sizeOf3 rfl rfl) fun a ha=>?_;refine dT 3 15 rfl ha (fun _ ⟨rs,hs⟩=>yLoadB Tryz.isAgg3 hs rfl pk0 rfl) (⟨_,hs.pick pk2⟩) fun a ha=>?_;refine dP 4 31 rfl ha (fun _=>yFieldA Tryz.runUnderlying26 rfl Tryz.sizeOf3 rfl rfl) fun a ha=>?_;refine dT 5 63 rfl ha (fun _ ⟨rs,hs⟩=>yLoadB Tryz.isAgg3 hs rfl pk0 rfl) (⟨_,hs.pick pk2⟩) fun a ha=>?_;refine dP 6 127 rfl ha (fun _=>yFieldA Tryz.runUnderlying26 rfl Tryz.sizeOf3 rfl rfl) fun a ha=>?_;refine dT 7 255 rfl ha (fun _ ⟨rs,hs⟩=>yLoadB Tryz.isAgg3 hs rfl pk0 rfl) (⟨_,hs.pick pk2⟩) fun a ha=>?_;refine dP 8 511 rfl ha (fun _=>yFieldA Tryz.runUnderlying26 rfl Tryz.sizeOf22 rfl rfl) fun a ha=>?_;refine dT 9 1023 rfl ha (fun _ ⟨rs,hs⟩=>yLoadB Tryz.isAgg22 hs rfl pk0 rfl) (⟨_,hs.pick pk2⟩) fun a ha=>?_;refine dP 11 3071 rfl ha (fun _=>yFieldA Tryz.runUnderlying26 rfl Tryz.sizeOf3 rfl rfl) fun a ha=>?_;refine dC 10 4095 rfl (by kernel_rfl) rfl ha won0 (nCall Tryz.call46 rfl) rfl (Own_c (xs:=x.acts) hs pk3 q1 q2) ?_;rintro v w ⟨D,e,rfl,hs⟩;refine ⟨⟨_,hs.pick pk3⟩,fun a ha=>?_⟩;refine dStore 12 8191 rfl (by kernel_rfl) rfl ha won0 Tryz.sizeOf3 hs rfl rfl rfl rfl pk1 rfl (fun _ hs=>⟨_,hs.pick pk3⟩) fun w hs=>?_;refine dP 13 16383 rfl ha (fun _=>yFieldA Tryz.runUnderlying26 rfl Tryz.sizeOf3 rfl rfl) fun a ha=>?_;refine dStore 14 32767 rfl (by kernel_rfl) rfl ha won0 Tryz.sizeOf3 hs rfl rfl rfl rfl pk0 rfl (fun _ hs=>⟨_,hs.pick pk3⟩) fun w hs=>?_;refine dP 15 65535 rfl ha (fun _=>yFieldA Tryz.runUnderlying26 rfl Tryz.sizeOf3 rfl rfl) fun a ha=>?_;refine dStore 16 131071 rfl (by kernel_rfl) rfl ha won0 Tryz.sizeOf3 hs rfl rfl rfl rfl pk0 rfl (fun _ hs=>⟨_,hs.pick pk3⟩) fun w hs=>?_;refine dP 17 262143 rfl ha (fun _=>yFieldA Tryz.runUnderlying26 rfl Tryz.sizeOf3 rfl rfl) fun a ha=>?_;refine dStorel 18 524287 rfl (by kernel_rfl) rfl ha won0 Tryz.sizeOf3 hs rfl rfl rfl rfl pk0 rfl fun w hs=>?_;refine dP 19 1048575 rfl ha (fun _=>yFieldA Tryz.runUnderlying26 rfl Tryz.sizeOf22 rfl rfl) fun a ha=>?_;refine dStorel 20 2097151 rfl (by kernel_rfl) rfl ha won0 Tryz.sizeOf22 hs rfl rfl rfl rfl pk0 rfl fun w hs=>?_;refine dZ (by kernel_rfl) ?_;refine hJ3 _ _ ?_
      (refine ⟨D,x.acts.length,e,none,0,0,none,0,0,has3 ha rfl rfl rfl,?_⟩; rw [show plainM x = ⟨x.kind,x.client,x.seq,x.rev,x.code,x.acts,[],[],0⟩ by unfold plainM; simp [hc9,hc14]]; exact ((hs.rd_nil (d:=kNod)).rd_nil (d:=kCmt)).pick (.there (.there (.there .here))))
    · refine wp_seq_k fun K8 hK8=>?_;refine wp_region_lit ?_;refine pY ha (yEql rfl rfl) fun a ha=>?_;refine pY ha (yAssign rfl) fun a ha=>?_;refine pZ ?_;refine hK8 _ _ ?_;refine cDec ha rfl (fun hc32=>?_) (fun hc32=>?_)
      · refine dStart (fun w=>∃ rs,Sep W w (.blk b1 26 [.int .i64 x.kind,.int .i64 x.client,.int .i64 x.seq,.int .i64 x.rev,.int .i64 x.code,.slice A n c,.slice A' n' c',.slice B m d,.int .i64 x.last]::rs)) [7] 255 127 (by kernel_rfl) (by kernel_rfl) rfl (⟨_,hs.drew.pick pk2⟩) ?_
        have hs:=Sep.drew hs
        generalize World.drew _ = w at hs ⊢;refine dP 0 1 rfl ha (fun _=>yFieldA Tryz.runUnderlying26 rfl Tryz.sizeOf3 rfl rfl) fun a ha=>?_;refine dT 1 3 rfl ha (fun _ ⟨rs,hs⟩=>yLoadB Tryz.isAgg3 hs rfl pk0 rfl) (⟨_,hs.pick pk2⟩) fun a ha=>?_;refine dP 2 7 rfl ha (fun _=>yFieldA Tryz.runUnderlying26 rfl Tryz.sizeOf3 rfl rfl) fun a ha=>?_;refine dT 3 15 rfl ha (fun _ ⟨rs,hs⟩=>yLoadB Tryz.isAgg3 hs rfl pk0 rfl) (⟨_,hs.pick pk2⟩) fun a ha=>?_;refine dP 4 31 rfl ha (fun _=>yFieldA Tryz.runUnderlying26 rfl Tryz.sizeOf3 rfl rfl) fun a ha=>?_;refine dStore 5 63 rfl (by kernel_rfl) rfl ha won0 Tryz.sizeOf3 hs rfl rfl rfl rfl pk0 rfl (fun _ hs=>⟨_,hs.pick pk2⟩) fun w hs=>?_;refine dP 6 127 rfl ha (fun _=>yFieldA Tryz.runUnderlying26 rfl Tryz.sizeOf3 rfl rfl) fun a ha=>?_;refine dStorel 7 255 rfl (by kernel_rfl) rfl ha won0 Tryz.sizeOf3 hs rfl rfl rfl rfl pk0 rfl fun w hs=>?_;refine dZ (by kernel_rfl) ?_;refine hJ3 _ _ ?_
        (refine ⟨none,0,0,none,0,0,none,0,0,has3 ha rfl rfl rfl,?_⟩; rw [show plainM x = ⟨x.kind,x.client,0,x.rev,0,[],[],[],0⟩ by unfold plainM; simp [hc9,hc14,hc32]]; exact ((hs.rd_nil (d:=kNod)).rd_nil (d:=kCmt)).rd_nil (d:=kActn))
      · refine wp_seq_k fun K9 hK9=>?_;refine wp_region_lit ?_;refine pY ha (yEql rfl rfl) fun a ha=>?_;refine pY ha (yAssign rfl) fun a ha=>?_;refine pZ ?_;refine hK9 _ _ ?_;refine cDec ha rfl (fun hc40=>?_) (fun hc40=>?_)
        · refine dStart (fun w=>∃ rs,Sep W w (.blk b1 26 [.int .i64 x.kind,.int .i64 x.client,.int .i64 x.seq,.int .i64 x.rev,.int .i64 x.code,.slice A n c,.slice A' n' c',.slice B m d,.int .i64 x.last]::rs)) [11] 4095 2047 (by kernel_rfl) (by kernel_rfl) rfl (⟨_,hs.drew.pick pk2⟩) ?_
          have hs:=Sep.drew hs
          generalize World.drew _ = w at hs ⊢;refine dP 0 1 rfl ha (fun _=>yFieldA Tryz.runUnderlying26 rfl Tryz.sizeOf3 rfl rfl) fun a ha=>?_;refine dT 1 3 rfl ha (fun _ ⟨rs,hs⟩=>yLoadB Tryz.isAgg3 hs rfl pk0 rfl) (⟨_,hs.pick pk2⟩) fun a ha=>?_;refine dP 2 7 rfl ha (fun _=>yFieldA Tryz.runUnderlying26 rfl Tryz.sizeOf3 rfl rfl) fun a ha=>?_;refine dT 3 15 rfl ha (fun _ ⟨rs,hs⟩=>yLoadB Tryz.isAgg3 hs rfl pk0 rfl) (⟨_,hs.pick pk2⟩) fun a ha=>?_;refine dP 4 31 rfl ha (fun _=>yFieldA Tryz.runUnderlying26 rfl Tryz.sizeOf3 rfl rfl) fun a ha=>?_;refine dT 5 63 rfl ha (fun _ ⟨rs,hs⟩=>yLoadB Tryz.isAgg3 hs rfl pk0 rfl) (⟨_,hs.pick pk2⟩) fun a ha=>?_;refine dP 6 127 rfl ha (fun _=>yFieldA Tryz.runUnderlying26 rfl Tryz.sizeOf3 rfl rfl) fun a ha=>?_;refine dStore 7 255 rfl (by kernel_rfl) rfl ha won0 Tryz.sizeOf3 hs rfl rfl rfl rfl pk0 rfl (fun _ hs=>⟨_,hs.pick pk2⟩) fun w hs=>?_;refine dP 8 511 rfl ha (fun _=>yFieldA Tryz.runUnderlying26 rfl Tryz.sizeOf3 rfl rfl) fun a ha=>?_;refine dStore 9 1023 rfl (by kernel_rfl) rfl ha won0 Tryz.sizeOf3 hs rfl rfl rfl rfl pk0 rfl (fun _ hs=>⟨_,hs.pick pk2⟩) fun w hs=>?_;refine dP 10 2047 rfl ha (fun _=>yFieldA Tryz.runUnderlying26 rfl Tryz.sizeOf3 rfl rfl) fun a ha=>?_;refine dStorel 11 4095 rfl (by kernel_rfl) rfl ha won0 Tryz.sizeOf3 hs rfl rfl rfl rfl pk0 rfl fun w hs=>?_;refine dZ (by kernel_rfl) ?_;refine hJ3 _ _ ?_
          (refine ⟨none,0,0,none,0,0,none,0,0,has3 ha rfl rfl rfl,?_⟩; rw [show plainM x = ⟨x.kind,x.client,0,x.rev,0,[],[],[],x.last⟩ by unfold plainM; simp [hc9,hc14,hc32,hc40]]; exact ((hs.rd_nil (d:=kNod)).rd_nil (d:=kCmt)).rd_nil (d:=kActn))
        · refine wp_seq_k fun K10 hK10=>?_;refine wp_region_lit ?_;refine pY ha (yEql rfl rfl) fun a ha=>?_;refine pY ha (yAssign rfl) fun a ha=>?_;refine pZ ?_;refine hK10 _ _ ?_;refine cDec ha rfl (fun hc51=>?_) (fun hc51=>?_)
          · refine dStart (fun w=>∃ rs,Sep W w (.blk b1 26 [.int .i64 x.kind,.int .i64 x.client,.int .i64 x.seq,.int .i64 x.rev,.int .i64 x.code,.slice A n c,.slice A' n' c',.slice B m d,.int .i64 x.last]::rs)) [11] 4095 2047 (by kernel_rfl) (by kernel_rfl) rfl (⟨_,hs.drew.pick pk2⟩) ?_
            have hs:=Sep.drew hs
            generalize World.drew _ = w at hs ⊢;refine dP 0 1 rfl ha (fun _=>yFieldA Tryz.runUnderlying26 rfl Tryz.sizeOf3 rfl rfl) fun a ha=>?_;refine dT 1 3 rfl ha (fun _ ⟨rs,hs⟩=>yLoadB Tryz.isAgg3 hs rfl pk0 rfl) (⟨_,hs.pick pk2⟩) fun a ha=>?_;refine dP 2 7 rfl ha (fun _=>yFieldA Tryz.runUnderlying26 rfl Tryz.sizeOf3 rfl rfl) fun a ha=>?_;refine dT 3 15 rfl ha (fun _ ⟨rs,hs⟩=>yLoadB Tryz.isAgg3 hs rfl pk0 rfl) (⟨_,hs.pick pk2⟩) fun a ha=>?_;refine dP 4 31 rfl ha (fun _=>yFieldA Tryz.runUnderlying26 rfl Tryz.sizeOf3 rfl rfl) fun a ha=>?_;refine dT 5 63 rfl ha (fun _ ⟨rs,hs⟩=>yLoadB Tryz.isAgg3 hs rfl pk0 rfl) (⟨_,hs.pick pk2⟩) fun a ha=>?_;refine dP 6 127 rfl ha (fun _=>yFieldA Tryz.runUnderlying26 rfl Tryz.sizeOf3 rfl rfl) fun a ha=>?_;refine dStore 7 255 rfl (by kernel_rfl) rfl ha won0 Tryz.sizeOf3 hs rfl rfl rfl rfl pk0 rfl (fun _ hs=>⟨_,hs.pick pk2⟩) fun w hs=>?_;refine dP 8 511 rfl ha (fun _=>yFieldA Tryz.runUnderlying26 rfl Tryz.sizeOf3 rfl rfl) fun a ha=>?_;refine dStore 9 1023 rfl (by kernel_rfl) rfl ha won0 Tryz.sizeOf3 hs rfl rfl rfl rfl pk0 rfl (fun _ hs=>⟨_,hs.pick pk2⟩) fun w hs=>?_;refine dP 10 2047 rfl ha (fun _=>yFieldA Tryz.runUnderlying26 rfl Tryz.sizeOf3 rfl rfl) fun a ha=>?_;refine dStorel 11 4095 rfl (by kernel_rfl) rfl ha won0 Tryz.sizeOf3 hs rfl rfl rfl rfl pk0 rfl fun w hs=>?_;refine dZ (by kernel_rfl) ?_;refine hJ3 _ _ ?_
            (refine ⟨none,0,0,none,0,0,none,0,0,has3 ha rfl rfl rfl,?_⟩; rw [show plainM x = ⟨x.kind,x.client,x.seq,x.rev,0,[],[],[],0⟩ by unfold plainM; simp [hc9,hc14,hc32,hc40,hc51]]; exact ((hs.rd_nil (d:=kNod)).rd_nil (d:=kCmt)).rd_nil (d:=kActn))
          · refine wp_seq_k fun K11 hK11=>?_;refine wp_region_lit ?_;refine pY ha (yEql rfl rfl) fun a ha=>?_;refine pY ha (yAssign rfl) fun a ha=>?_;refine pZ ?_;refine hK11 _ _ ?_;refine cDec ha rfl (fun hc62=>?_) (fun hc62=>?_)
            · refine dStart (fun w=>∃ rs,Sep W w (.blk b1 26 [.int .i64 x.kind,.int .i64 x.client,.int .i64 x.seq,.int .i64 x.rev,.int .i64 x.code,.slice A n c,.slice A' n' c',.slice B m d,.int .i64 x.last]::rs)) [11] 4095 2047 (by kernel_rfl) (by kernel_rfl) rfl (⟨_,hs.drew.pick pk2⟩) ?_
              have hs:=Sep.drew hs
              generalize World.drew _ = w at hs ⊢;refine dP 0 1 rfl ha (fun _=>yFieldA Tryz.runUnderlying26 rfl Tryz.sizeOf3 rfl rfl) fun a ha=>?_;refine dT 1 3 rfl ha (fun _ ⟨rs,hs⟩=>yLoadB Tryz.isAgg3 hs rfl pk0 rfl) (⟨_,hs.pick pk2⟩) fun a ha=>?_;refine dP 2 7 rfl ha (fun _=>yFieldA Tryz.runUnderlying26 rfl Tryz.sizeOf3 rfl rfl) fun a ha=>?_;refine dT 3 15 rfl ha (fun _ ⟨rs,hs⟩=>yLoadB Tryz.isAgg3 hs rfl pk0 rfl) (⟨_,hs.pick pk2⟩) fun a ha=>?_;refine dP 4 31 rfl ha (fun _=>yFieldA Tryz.runUnderlying26 rfl Tryz.sizeOf3 rfl rfl) fun a ha=>?_;refine dT 5 63 rfl ha (fun _ ⟨rs,hs⟩=>yLoadB Tryz.isAgg3 hs rfl pk0 rfl) (⟨_,hs.pick pk2⟩) fun a ha=>?_;refine dP 6 127 rfl ha (fun _=>yFieldA Tryz.runUnderlying26 rfl Tryz.sizeOf3 rfl rfl) fun a ha=>?_;refine dStore 7 255 rfl (by kernel_rfl) rfl ha won0 Tryz.sizeOf3 hs rfl rfl rfl rfl pk0 rfl (fun _ hs=>⟨_,hs.pick pk2⟩) fun w hs=>?_;refine dP 8 511 rfl ha (fun _=>yFieldA Tryz.runUnderlying26 rfl Tryz.sizeOf3 rfl rfl) fun a ha=>?_;refine dStore 9 1023 rfl (by kernel_rfl) rfl ha won0 Tryz.sizeOf3 hs rfl rfl rfl rfl pk0 rfl (fun _ hs=>⟨_,hs.pick pk2⟩) fun w hs=>?_;refine dP 10 2047 rfl ha (fun _=>yFieldA Tryz.runUnderlying26 rfl Tryz.sizeOf3 rfl rfl) fun a ha=>?_;refine dStorel 11 4095 rfl (by kernel_rfl) rfl ha won0 Tryz.sizeOf3 hs rfl rfl rfl rfl pk0 rfl fun w hs=>?_;refine dZ (by kernel_rfl) ?_;refine hJ3 _ _ ?_
              (refine ⟨none,0,0,none,0,0,none,0,0,has3 ha rfl rfl rfl,?_⟩; rw [show plainM x = ⟨x.kind,x.client,x.seq,0,x.code,[],[],[],0⟩ by unfold plainM; simp [hc9,hc14,hc32,hc40,hc51,hc62]]; exact ((hs.rd_nil (d:=kNod)).rd_nil (d:=kCmt)).rd_nil (d:=kActn))
            · refine wp_seq_k fun K12 hK12=>?_;refine wp_region_lit ?_;refine pY ha (yEql rfl rfl) fun a ha=>?_;refine pY ha (yAssign rfl) fun a ha=>?_;refine pZ ?_;refine hK12 _ _ ?_;refine cDec ha rfl (fun hc73=>?_) (fun hc73=>?_)
              · refine dStart (fun w=>∃ rs,Sep W w (.blk b1 26 [.int .i64 x.kind,.int .i64 x.client,.int .i64 x.seq,.int .i64 x.rev,.int .i64 x.code,.slice A n c,.slice A' n' c',.slice B m d,.int .i64 x.last]::rs)) [6,8] 511 63 (by kernel_rfl) (by kernel_rfl) rfl (⟨_,hs.drew.pick pk2⟩) ?_
                have hs:=Sep.drew hs
                generalize World.drew _ = w at hs ⊢;refine dP 0 1 rfl ha (fun _=>yFieldA Tryz.runUnderlying26 rfl Tryz.sizeOf3 rfl rfl) fun a ha=>?_;refine dT 1 3 rfl ha (fun _ ⟨rs,hs⟩=>yLoadB Tryz.isAgg3 hs rfl pk0 rfl) (⟨_,hs.pick pk2⟩) fun a ha=>?_;refine dP 2 7 rfl ha (fun _=>yFieldA Tryz.runUnderlying26 rfl Tryz.sizeOf23 rfl rfl) fun a ha=>?_;refine dT 3 15 rfl ha (fun _ ⟨rs,hs⟩=>yLoadB Tryz.isAgg23 hs rfl pk0 rfl) (⟨_,hs.pick pk2⟩) fun a ha=>?_;refine dP 5 47 rfl ha (fun _=>yFieldA Tryz.runUnderlying26 rfl Tryz.sizeOf3 rfl rfl) fun a ha=>?_;refine dC 4 63 rfl (by kernel_rfl) rfl ha won0 (nCall Tryz.call47 rfl) rfl (OwnAll_c (xs:=x.commits) hs pk4 q3 q4 q5) ?_;rintro v w ⟨D,e,rfl,hs⟩;refine ⟨⟨_,hs.pick pk3⟩,fun a ha=>?_⟩;refine dStorel 6 127 rfl (by kernel_rfl) rfl ha won0 Tryz.sizeOf3 hs rfl rfl rfl rfl pk1 rfl fun w hs=>?_;refine dP 7 255 rfl ha (fun _=>yFieldA Tryz.runUnderlying26 rfl Tryz.sizeOf23 rfl rfl) fun a ha=>?_;refine dStorel 8 511 rfl (by kernel_rfl) rfl ha won0 Tryz.sizeOf23 hs rfl rfl rfl rfl pk0 rfl fun w hs=>?_;refine dZ (by kernel_rfl) ?_;refine hJ3 _ _ ?_
                (refine ⟨none,0,0,D,x.commits.length,e,none,0,0,has3 ha rfl rfl rfl,?_⟩; rw [show plainM x = ⟨x.kind,0,0,x.rev,0,[],x.commits,[],0⟩ by unfold plainM; simp [hc9,hc14,hc32,hc40,hc51,hc62,hc73]]; exact ((hs.rd_nil (d:=kNod)).pick (.there (.there .here))).rd_nil (d:=kActn))
              · refine wp_seq_k fun K13 hK13=>?_;refine wp_region_lit ?_;refine pY ha (yEql rfl rfl) fun a ha=>?_;refine pY ha (yAssign rfl) fun a ha=>?_;refine pZ ?_;refine hK13 _ _ ?_;refine cDec ha rfl (fun hc82=>?_) (fun hc82=>?_)
                · refine dStart (fun w=>∃ rs,Sep W w (.blk b1 26 [.int .i64 x.kind,.int .i64 x.client,.int .i64 x.seq,.int .i64 x.rev,.int .i64 x.code,.slice A n c,.slice A' n' c',.slice B m d,.int .i64 x.last]::rs)) [6,8] 511 63 (by kernel_rfl) (by kernel_rfl) rfl (⟨_,hs.drew.pick pk2⟩) ?_
                  have hs:=Sep.drew hs
                  generalize World.drew _ = w at hs ⊢;refine dP 0 1 rfl ha (fun _=>yFieldA Tryz.runUnderlying26 rfl Tryz.sizeOf3 rfl rfl) fun a ha=>?_;refine dT 1 3 rfl ha (fun _ ⟨rs,hs⟩=>yLoadB Tryz.isAgg3 hs rfl pk0 rfl) (⟨_,hs.pick pk2⟩) fun a ha=>?_;refine dP 2 7 rfl ha (fun _=>yFieldA Tryz.runUnderlying26 rfl Tryz.sizeOf24 rfl rfl) fun a ha=>?_;refine dT 3 15 rfl ha (fun _ ⟨rs,hs⟩=>yLoadB Tryz.isAgg24 hs rfl pk0 rfl) (⟨_,hs.pick pk2⟩) fun a ha=>?_;refine dP 5 47 rfl ha (fun _=>yFieldA Tryz.runUnderlying26 rfl Tryz.sizeOf3 rfl rfl) fun a ha=>?_;refine dC 4 63 rfl (by kernel_rfl) rfl ha won0 (nCall Tryz.call48 rfl) rfl (CloneN_c (xs:=x.nodes) hs pk5 q6) ?_;rintro v w ⟨D,e,rfl,hs⟩;refine ⟨⟨_,hs.pick pk3⟩,fun a ha=>?_⟩;refine dStorel 6 127 rfl (by kernel_rfl) rfl ha won0 Tryz.sizeOf3 hs rfl rfl rfl rfl pk1 rfl fun w hs=>?_;refine dP 7 255 rfl ha (fun _=>yFieldA Tryz.runUnderlying26 rfl Tryz.sizeOf24 rfl rfl) fun a ha=>?_;refine dStorel 8 511 rfl (by kernel_rfl) rfl ha won0 Tryz.sizeOf24 hs rfl rfl rfl rfl pk0 rfl fun w hs=>?_;refine dZ (by kernel_rfl) ?_;refine hJ3 _ _ ?_
                  (refine ⟨none,0,0,none,0,0,D,x.nodes.length,e,has3 ha rfl rfl rfl,?_⟩; rw [show plainM x = ⟨x.kind,0,0,x.rev,0,[],[],x.nodes,0⟩ by unfold plainM; simp [hc9,hc14,hc32,hc40,hc51,hc62,hc73,hc82]]; exact ((hs.pick (.there .here)).rd_nil (d:=kCmt)).rd_nil (d:=kActn))
                · refine wp_seq_k fun K14 hK14=>?_;refine wp_region_lit ?_;refine pY ha (yEql rfl rfl) fun a ha=>?_;refine pY ha (yAssign rfl) fun a ha=>?_;refine pZ ?_;refine hK14 _ _ ?_;refine cDec ha rfl (fun hc91=>?_) (fun hc91=>?_)
                  · refine wp_region_lit ?_;refine pY ha (yFieldA Tryz.runUnderlying26 rfl Tryz.sizeOf3 rfl rfl) fun a ha=>?_;refine pY ha (yLoadB Tryz.isAgg3 hs rfl pk2 rfl) fun a ha=>?_;refine pY ha (yFieldA Tryz.runUnderlying26 rfl Tryz.sizeOf3 rfl rfl) fun a ha=>?_;refine pStore ha Tryz.sizeOf3 hs rfl rfl rfl rfl pk0 rfl fun w hs=>?_;refine pZ ?_;refine hJ3 _ _ ?_
                    (refine ⟨none,0,0,none,0,0,none,0,0,has3 ha rfl rfl rfl,?_⟩; rw [show plainM x = ⟨x.kind,0,0,0,x.code,[],[],[],0⟩ by unfold plainM; simp [hc9,hc14,hc32,hc40,hc51,hc62,hc73,hc82,hc91]]; exact ((hs.rd_nil (d:=kNod)).rd_nil (d:=kCmt)).rd_nil (d:=kActn))
                  · refine wp_skip ?_;refine hJ3 _ _ ?_
                    (refine ⟨none,0,0,none,0,0,none,0,0,has3 ha rfl rfl rfl,?_⟩; rw [show plainM x = ⟨x.kind,0,0,0,0,[],[],[],0⟩ by unfold plainM; simp [hc9,hc14,hc32,hc40,hc51,hc62,hc73,hc82,hc91]]; exact ((hs.rd_nil (d:=kNod)).rd_nil (d:=kCmt)).rd_nil (d:=kActn))
end
end Go.Proofs.YtnlhbkaieoogfaaGreatDoor

