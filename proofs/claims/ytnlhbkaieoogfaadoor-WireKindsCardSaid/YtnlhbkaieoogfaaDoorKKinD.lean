/- A part of the proof of WireKinds (part 4 of 6): the words and the walks. -/
import Derived.Test.YtnlhbkaieoogfaaDoorKKinC
import Derived.Laws.IdiomStrings
import Derived.Laws.AppendOwn
set_option linter.unusedVariables false
set_option linter.unusedSimpArgs false
namespace Go.Proofs.YtnlhbkaieoogfaaDoor
open Go.RowKit Go.Lib
section
variable {P : Program} {W w w' : World} {N dd : Nat} {a : Act} {ops : Array Oper} {Q : Exit → Act → World → Prop} {rest : List Oper} {ps : String} {af : Array Edge} {l : List (Nat × Value)} {T U U' E : TypeId} {cs r : List Ch} {x y : Operand} {s : ByteArray}
/-- A text as bytes of one's own, for reading. -/
theorem pStrBytes (ha : Has a N l) (hs' : P.underlying U = some .string) (hd' : P.underlying U' = some (.slice E)) (he : P.underlying E = some (.int .u8)) (hs : Sep W w cs) (hx : ev l x = some (.string s)) (hsz : s.size ≤ 1000000000) (hd : Nat.blt dd N = true)
    (h : ∀ A c w, Sep W w (.rd kU8 (.slice A s.data.toList.length c) s.data.toList :: cs) → ∀ a, Has a N ((dd, .slice A s.data.toList.length c) :: l) → wpList P ops Q rest a w) : wpList P ops Q (⟨some dd, .convert U U' x, T, ps, af, none⟩ :: rest) a w := by
  have hr := run_bytes_of_string (P := P) w U U' E s hs' hd' he
  have hc1 := grownCap_ge w s.size 0 E
  have hc2 := grownCap_le_maxLen w s.size 0 E (by unfold maxLen; omega)
  generalize hC : grownCap w s.size 0 E = C at hr hc1 hc2
  have hlen : s.data.toList.length = s.size := by simp
  refine pE ha (v := .slice (some ⟨w.heap.size, 0, none⟩) s.data.toList.length C) (w' := w.drew.alloc (.cells (bytesRow s C) E ((bytesRow s C).size, (bytesRow s C).size + 1))) (fun ρ o hE ho hT => ?_) hd fun a ha => h _ _ _ ?_ a ha
  · unfold execOp; rw [ho]
    simp [hE _ _ hx, hr, hlen]
  · have h2 := hs.drew.alloc (.cells (bytesRow s C) E ((bytesRow s C).size, (bytesRow s C).size + 1))
    refine h2.shut fun Z H hd hc => ?_
    refine ⟨_, C, rfl, by omega, hc2, fun _ => ⟨w.heap.size, 0, _, _, _, rfl, Hp.le_un_right hd _ _ hc, fun i x hx => ⟨_, rfl, fun j u hj => ?_⟩⟩⟩
    have hi := (List.getElem?_eq_some_iff.1 hx).1
    match j, hj with
    | 0, hj =>
      simp at hj
      subst hj
      have hi2 : i < s.size := by omega
      have hx2 : s.data[i]? = some x := by simpa using hx
      have hi3 : i < s.data.size := hi2
      simp [bytesRow, kU8, Array.getElem?_append, hi3, hx2]
      intro hh; omega
    | j + 1, hj => simp at hj
end
section
variable {W w : World} {cs r : List Ch}
theorem all_at {l : List UInt8} {i : Nat} {b : UInt8} (h : (l.take i).all letter = true) (hb : l[i]? = some b) (hl : letter b = true) : (l.take (i + 1)).all letter = true := by
  rw [List.take_add_one, hb]; simp only [Option.toList, List.all_append, h, List.all_cons, hl, List.all_nil, Bool.and_self]
theorem all_no {l : List UInt8} {i : Nat} {b : UInt8} (hb : l[i]? = some b) (hl : letter b = false) : l.all letter = false := by
  cases h : l.all letter with
  | false => rfl
  | true =>
    rw [List.all_eq_true] at h
    rw [h b (List.mem_of_getElem? hb)] at hl
    cases hl
theorem Name_c (s : ByteArray) (hsz : s.size ≤ 1000000000) (hs : Sep W w cs) : Calls P 67 #[.string s] w (Rt fun v w' => v = .bool (nameOk s) ∧ Sep W w' cs) := by
  have hlen : s.data.toList.length = s.size := by simp
  refine enter Tryd.func67 Tryd.ntmps67 rfl rfl fun a (ha : Has a 32 [(0, _)]) => ?_
  refine wp_seq_k fun K1 hK1 => ?_
  refine wp_region_lit ?_
  refine pY ha (yAssign (by rfl)) rfl fun a ha => ?_
  refine pZ ?_
  refine hK1 _ _ ?_
  refine wp_seq_k fun K2 hK2 => ?_
  refine wp_seq_k fun K3 hK3 => ?_
  refine wp_region_lit ?_
  refine pY ha (yMove (by rfl)) rfl fun a ha => ?_
  refine pStrBytes ha Tryd.underlying9 Tryd.underlying29 Tryd.underlying5 hs (by rfl) (by omega) rfl ?_
  intro A c w hs a ha
  refine pY ha (yLenS Tryd.runUnderlying29 (by rfl)) rfl fun a ha => ?_
  refine pY ha (yMove (by rfl)) rfl fun a ha => ?_
  refine pZ ?_
  refine hK3 _ _ ?_
  refine wp_block ?_
  refine loopI (ι := Nat) (fun i a w => i ≤ s.size ∧ (s.data.toList.take i).all letter = true ∧ Has a 32 [(0, .string s), (6, .slice A s.data.toList.length c), (7, .int .i64 s.data.toList.length), (8, .int .i64 i)] ∧ Sep W w (.rd kU8 (.slice A s.data.toList.length c) s.data.toList :: cs)) (fun i => s.size - i) (0) ?_ ?_
  · exact ⟨Nat.zero_le _, rfl, has4 ha (by rfl) (by rfl) (by rfl) (by rfl), hs⟩
  · rintro i a w ⟨h1, h2, ha, hs⟩
    refine wp_seq_k fun K4 hK4 => ?_
    refine wp_region_lit ?_
    refine pY ha (yLss (by rfl) (by rfl)) rfl fun a ha => ?_
    refine pZ ?_
    refine hK4 _ _ ?_
    refine wp_seq_k fun K5 hK5 => ?_
    first | refine cDec ha (by rfl) (fun hc9 => ?_) (fun hc9 => ?_) | refine cSplit ha (by rfl) (fun hc9 => ?_) (fun hc9 => ?_)
    · obtain ⟨x, hx⟩ : ∃ x, s.data.toList[i]? = some x := ⟨_, List.getElem?_eq_getElem (by omega)⟩
      obtain ⟨b0, off, rfl, hs⟩ := hs.rd_byte .here hx
      refine wp_skip ?_
      refine hK5 _ _ ?_
      refine wp_seq_k fun K6 hK6 => ?_
      refine wp_block ?_
      refine wp_seq_k fun K7 hK7 => ?_
      refine wp_region_lit ?_
      refine pY ha (yIndexA Tryd.runUnderlying29 Tryd.sizeOf5 (by rfl) (by rfl) (by omega) (by omega)) rfl fun a ha => ?_
      first | refine pY ha (yLoadB Tryd.isAgg5 hs (by rfl) (by repeat first | exact .here | apply Pick.there) (by rfl)) rfl fun a ha => ?_ | refine pY ha (yLoadR Tryd.isAgg5 hs (by rfl) (by repeat first | exact .here | apply Pick.there) (by rfl)) rfl fun a ha => ?_ | refine pY ha (yLoadR0 Tryd.isAgg5 hs (by rfl) (by repeat first | exact .here | apply Pick.there) (by rfl)) rfl fun a ha => ?_
      refine pY ha (yAssign (by rfl)) rfl fun a ha => ?_
      refine pZ ?_
      refine hK7 _ _ ?_
      refine wp_seq_k fun K8 hK8 => ?_
      refine wp_region_lit ?_
      refine pY ha (yMove (by rfl)) rfl fun a ha => ?_
      refine pC ha (nCall Tryd.call78 (by rfl)) rfl (Letter_c x hs) ?_
      rintro v w ⟨rfl, hs⟩ a ha
      refine pY ha (yNot (by rfl)) rfl fun a ha => ?_
      refine pZ ?_
      refine hK8 _ _ ?_
      first | refine cNDec ha (by rfl) (fun hc14 => ?_) (fun hc14 => ?_) | refine cDec ha (by rfl) (fun hc14 => ?_) (fun hc14 => ?_) | refine cSplit ha (by rfl) (fun hc14 => ?_) (fun hc14 => ?_)
      · refine wp_seq_k fun K9 hK9 => ?_
        refine wp_region_lit ?_
        refine pY ha (yAssign (by rfl)) rfl fun a ha => ?_
        refine pZ ?_
        refine hK9 _ _ ?_
        refine wp_ret ?_
        show bodyPost Tryd.prog Tryd.f67 _ .ret _ _
        refine ret1 rfl ha (by rfl) ?_
        refine ⟨congrArg Value.bool ?_, hs.drop.drop⟩
        unfold nameOk
        rw [all_no hx (by simpa using hc14)]; rfl
      · refine wp_skip ?_
        refine hK6 _ _ ?_
        refine wp_region_lit ?_
        first | refine pY ha (yAddN (by rfl) (by rfl) ⟨by omega, by omega⟩) rfl fun a ha => ?_ | refine pY ha (yAdd (by rfl) (by rfl)) rfl fun a ha => ?_
        refine pY ha (yMove (by rfl)) rfl fun a ha => ?_
        refine pZ ?_
        exact ⟨i + 1, ⟨by omega, all_at h2 hx (by simpa using hc14), has4 ha (by rfl) (by rfl) (by rfl) (by rfl), hs.drop⟩, by omega⟩
    · refine wp_exit ?_
      refine hK2 _ _ ?_
      refine wp_seq_k fun K10 hK10 => ?_
      rw [List.take_of_length_le (by omega)] at h2
      refine cutC (fun a w => Has a 32 [(2, .bool (nameOk s))] ∧ Sep W w cs) ?_ ?_
      · refine wp_region_lit ?_
        refine pY ha (yMove (by rfl)) rfl fun a ha => ?_
        refine pY ha (yLenStr Tryd.runUnderlying9 (by rfl)) rfl fun a ha => ?_
        refine pY ha (yGeq (by rfl) (by rfl)) rfl fun a ha => ?_
        refine pY ha (yMove (by rfl)) rfl fun a ha => ?_
        refine gDec (t := 19) ha (by rfl) (fun hg3 hp3 => ?_) (fun hg3 hp3 => ?_)
        · rw [hg3] at ha
          refine gOff ha rfl rfl (by rfl) rfl rfl fun a ha => ?_
          refine gOff ha rfl rfl (by rfl) rfl rfl fun a ha => ?_
          refine gOff ha rfl rfl (by rfl) rfl rfl fun a ha => ?_
          first | refine pY ha (yPickT (by rfl) (by rfl)) rfl fun a ha => ?_ | refine pY ha (yPickF (by rfl) (by rfl)) rfl fun a ha => ?_ | refine pY ha (yPick (by rfl) (by rfl) (by rfl)) rfl fun a ha => ?_
          refine pY ha (yMove (by rfl)) rfl fun a ha => ?_
          refine gOff ha rfl rfl (by rfl) rfl rfl fun a ha => ?_
          refine gOff ha rfl rfl (by rfl) rfl rfl fun a ha => ?_
          first | refine pY ha (yPickT (by rfl) (by rfl)) rfl fun a ha => ?_ | refine pY ha (yPickF (by rfl) (by rfl)) rfl fun a ha => ?_ | refine pY ha (yPick (by rfl) (by rfl) (by rfl)) rfl fun a ha => ?_
          refine pY ha (yMove (by rfl)) rfl fun a ha => ?_
          refine gOff ha rfl rfl (by rfl) rfl rfl fun a ha => ?_
          refine gOff ha rfl rfl (by rfl) rfl rfl fun a ha => ?_
          first | refine pY ha (yPickT (by rfl) (by rfl)) rfl fun a ha => ?_ | refine pY ha (yPickF (by rfl) (by rfl)) rfl fun a ha => ?_ | refine pY ha (yPick (by rfl) (by rfl) (by rfl)) rfl fun a ha => ?_
          refine pY ha (yAssign (by rfl)) rfl fun a ha => ?_
          refine pZ ⟨rfl, ?_⟩
          refine ⟨has1 ha ?_, hs.drop⟩
          unfold nameOk
          refine congrArg (fun b => some (Value.bool b)) ?_
          rw [Bool.eq_iff_iff]
          simp only [decide_eq_true_eq, decide_eq_false_iff_not, Bool.and_eq_true, Bool.not_eq_true', h2, Bool.false_eq_true, true_and, true_iff, false_iff, iff_true, iff_false, Bool.not_eq_eq_eq_not, Bool.not_true, Bool.not_false] at *
          first | omega | (simp_all; done) | (simp_all; omega) | (simp_all; intro h; exact ⟨by omega, by omega⟩)
        · rw [hg3] at ha
          refine gOn ha rfl rfl (by rfl) ?_
          refine pY ha (yMove (by rfl)) rfl fun a ha => ?_
          refine gOn ha rfl rfl (by rfl) ?_
          refine pY ha (yLenStr Tryd.runUnderlying9 (by rfl)) rfl fun a ha => ?_
          refine gOn ha rfl rfl (by rfl) ?_
          refine pY ha (yLeq (by rfl) (by rfl)) rfl fun a ha => ?_
          first | refine pY ha (yPickT (by rfl) (by rfl)) rfl fun a ha => ?_ | refine pY ha (yPickF (by rfl) (by rfl)) rfl fun a ha => ?_ | refine pY ha (yPick (by rfl) (by rfl) (by rfl)) rfl fun a ha => ?_
          refine pY ha (yMove (by rfl)) rfl fun a ha => ?_
          refine gSplit (t := 24) ha (by rfl) (fun hg8 => ?_) (fun hg8 => ?_)
          · rw [hg8] at ha
            refine gOff ha rfl rfl (by rfl) rfl rfl fun a ha => ?_
            refine gOff ha rfl rfl (by rfl) rfl rfl fun a ha => ?_
            first | refine pY ha (yPickT (by rfl) (by rfl)) rfl fun a ha => ?_ | refine pY ha (yPickF (by rfl) (by rfl)) rfl fun a ha => ?_ | refine pY ha (yPick (by rfl) (by rfl) (by rfl)) rfl fun a ha => ?_
            refine pY ha (yMove (by rfl)) rfl fun a ha => ?_
            refine gOff ha rfl rfl (by rfl) rfl rfl fun a ha => ?_
            refine gOff ha rfl rfl (by rfl) rfl rfl fun a ha => ?_
            first | refine pY ha (yPickT (by rfl) (by rfl)) rfl fun a ha => ?_ | refine pY ha (yPickF (by rfl) (by rfl)) rfl fun a ha => ?_ | refine pY ha (yPick (by rfl) (by rfl) (by rfl)) rfl fun a ha => ?_
            refine pY ha (yAssign (by rfl)) rfl fun a ha => ?_
            refine pZ ⟨rfl, ?_⟩
            refine ⟨has1 ha ?_, hs.drop⟩
            unfold nameOk
            refine congrArg (fun b => some (Value.bool b)) ?_
            rw [Bool.eq_iff_iff]
            simp only [decide_eq_true_eq, decide_eq_false_iff_not, Bool.and_eq_true, Bool.not_eq_true', h2, Bool.false_eq_true, true_and, true_iff, false_iff, iff_true, iff_false, Bool.not_eq_eq_eq_not, Bool.not_true, Bool.not_false] at *
            first | omega | (simp_all; done) | (simp_all; omega) | (simp_all; intro h; exact ⟨by omega, by omega⟩)
          · rw [hg8] at ha
            refine gOn ha rfl rfl (by rfl) ?_
            refine pY ha (yMove (by rfl)) rfl fun a ha => ?_
            refine gOn ha rfl rfl (by rfl) ?_
            refine pY ha (yStrNeq (by rfl) (by rfl)) rfl fun a ha => ?_
            first | refine pY ha (yPickT (by rfl) (by rfl)) rfl fun a ha => ?_ | refine pY ha (yPickF (by rfl) (by rfl)) rfl fun a ha => ?_ | refine pY ha (yPick (by rfl) (by rfl) (by rfl)) rfl fun a ha => ?_
            refine pY ha (yMove (by rfl)) rfl fun a ha => ?_
            refine gSplit (t := 28) ha (by rfl) (fun hg12 => ?_) (fun hg12 => ?_)
            · rw [hg12] at ha
              refine gOff ha rfl rfl (by rfl) rfl rfl fun a ha => ?_
              refine gOff ha rfl rfl (by rfl) rfl rfl fun a ha => ?_
              first | refine pY ha (yPickT (by rfl) (by rfl)) rfl fun a ha => ?_ | refine pY ha (yPickF (by rfl) (by rfl)) rfl fun a ha => ?_ | refine pY ha (yPick (by rfl) (by rfl) (by rfl)) rfl fun a ha => ?_
              refine pY ha (yAssign (by rfl)) rfl fun a ha => ?_
              refine pZ ⟨rfl, ?_⟩
              refine ⟨has1 ha ?_, hs.drop⟩
              unfold nameOk
              refine congrArg (fun b => some (Value.bool b)) ?_
              rw [Bool.eq_iff_iff]
              simp only [decide_eq_true_eq, decide_eq_false_iff_not, Bool.and_eq_true, Bool.not_eq_true', h2, Bool.false_eq_true, true_and, true_iff, false_iff, iff_true, iff_false, Bool.not_eq_eq_eq_not, Bool.not_true, Bool.not_false] at *
              first | omega | (simp_all; done) | (simp_all; omega) | (simp_all; intro h; exact ⟨by omega, by omega⟩)
            · rw [hg12] at ha
              refine gOn ha rfl rfl (by rfl) ?_
              refine pY ha (yMove (by rfl)) rfl fun a ha => ?_
              refine gOn ha rfl rfl (by rfl) ?_
              refine pY ha (yStrNeq (by rfl) (by rfl)) rfl fun a ha => ?_
              first | refine pY ha (yPickT (by rfl) (by rfl)) rfl fun a ha => ?_ | refine pY ha (yPickF (by rfl) (by rfl)) rfl fun a ha => ?_ | refine pY ha (yPick (by rfl) (by rfl) (by rfl)) rfl fun a ha => ?_
              refine pY ha (yAssign (by rfl)) rfl fun a ha => ?_
              refine pZ ⟨rfl, ?_⟩
              refine ⟨has1 ha ?_, hs.drop⟩
              unfold nameOk
              refine congrArg (fun b => some (Value.bool b)) ?_
              rw [Bool.eq_iff_iff]
              simp only [decide_eq_true_eq, decide_eq_false_iff_not, Bool.and_eq_true, Bool.not_eq_true', h2, Bool.false_eq_true, true_and, true_iff, false_iff, iff_true, iff_false, Bool.not_eq_eq_eq_not, Bool.not_true, Bool.not_false] at *
              first | omega | (simp_all; done) | (simp_all; omega) | (simp_all; intro h; exact ⟨by omega, by omega⟩)
      rintro a w ⟨ha, hs⟩
      refine hK10 _ _ ?_
      refine wp_ret ?_
      show bodyPost Tryd.prog Tryd.f67 _ .ret _ _
      refine ret1 rfl ha (by rfl) ?_
      exact ⟨rfl, hs⟩
theorem Add_c (n x : Int) (hn : 0 ≤ n ∧ n ≤ 1099511627776) (hx : 0 ≤ x ∧ x ≤ 9223372036854775807) (hs : Sep W w cs) : Calls P 86 #[.int .i64 n, .int .i64 x] w (Rt fun v w' => v = .int .i64 (addC n x) ∧ Sep W w' cs) := by
  refine enter Tryd.func86 Tryd.ntmps86 rfl rfl fun a (ha : Has a 12 [(0, _), (1, _)]) => ?_
  refine wp_seq_k fun K1 hK1 => ?_
  refine wp_region_lit ?_
  refine pY ha (yAssign (by rfl)) rfl fun a ha => ?_
  refine pZ ?_
  refine hK1 _ _ ?_
  refine wp_seq_k fun K2 hK2 => ?_
  refine wp_seq_k fun K3 hK3 => ?_
  refine wp_region_lit ?_
  refine pY ha (yMove (by rfl)) rfl fun a ha => ?_
  refine pY ha (yMove (by rfl)) rfl fun a ha => ?_
  first | refine pY ha (ySubN (by rfl) (by rfl) ⟨by omega, by omega⟩) rfl fun a ha => ?_ | refine pY ha (ySub (by rfl) (by rfl)) rfl fun a ha => ?_
  refine pY ha (yGtr (by rfl) (by rfl)) rfl fun a ha => ?_
  refine pZ ?_
  refine hK3 _ _ ?_
  first | refine cDec ha (by rfl) (fun hc8 => ?_) (fun hc8 => ?_) | refine cSplit ha (by rfl) (fun hc8 => ?_) (fun hc8 => ?_)
  · refine wp_seq_k fun K4 hK4 => ?_
    refine wp_region_lit ?_
    refine pY ha (yAssign (by rfl)) rfl fun a ha => ?_
    refine pZ ?_
    refine hK4 _ _ ?_
    refine wp_ret ?_
    show bodyPost Tryd.prog Tryd.f86 _ .ret _ _
    refine ret1 rfl ha (by rfl) ?_
    unfold addC; rw [if_pos (by omega)]; exact ⟨rfl, hs⟩
  · refine wp_skip ?_
    refine hK2 _ _ ?_
    refine wp_seq_k fun K5 hK5 => ?_
    refine wp_region_lit ?_
    refine pY ha (yMove (by rfl)) rfl fun a ha => ?_
    refine pY ha (yMove (by rfl)) rfl fun a ha => ?_
    first | refine pY ha (yAddN (by rfl) (by rfl) ⟨by omega, by omega⟩) rfl fun a ha => ?_ | refine pY ha (yAdd (by rfl) (by rfl)) rfl fun a ha => ?_
    refine pY ha (yAssign (by rfl)) rfl fun a ha => ?_
    refine pZ ?_
    refine hK5 _ _ ?_
    refine wp_ret ?_
    show bodyPost Tryd.prog Tryd.f86 _ .ret _ _
    refine ret1 rfl ha (by rfl) ?_
    unfold addC; rw [if_neg (by omega)]; exact ⟨rfl, hs⟩
theorem OpSound_c (hT : Tabs W) (x : Comp) (hsz : x.text.size ≤ 9223372036854775807) (hs : Sep W w cs) : Calls P 85 #[.agg (cC x).toArray] w (Rt fun v w' => v = .bool (sndC x) ∧ Sep W w' cs) := by
  unfold cC
  refine enter Tryd.func85 Tryd.ntmps85 rfl rfl fun a (ha : Has a 31 [(0, _)]) => ?_
  refine wp_seq_k fun K1 hK1 => ?_
  refine wp_region_lit ?_
  refine pBox (es := _) ha (by rfl) (by rfl) hs rfl fun b w hs a ha => ?_
  refine pY ha (yAssign (by rfl)) rfl fun a ha => ?_
  refine pZ ?_
  refine hK1 _ _ ?_
  refine wp_seq_k fun K2 hK2 => ?_
  refine wp_seq_k fun K3 hK3 => ?_
  refine wp_region_lit ?_
  refine pY ha (yFieldA Tryd.runUnderlying46 rfl Tryd.sizeOf3 rfl (by rfl)) rfl fun a ha => ?_
  first | refine pY ha (yLoadB Tryd.isAgg3 hs (by rfl) (by repeat first | exact .here | apply Pick.there) (by rfl)) rfl fun a ha => ?_ | refine pY ha (yLoadR Tryd.isAgg3 hs (by rfl) (by repeat first | exact .here | apply Pick.there) (by rfl)) rfl fun a ha => ?_ | refine pY ha (yLoadR0 Tryd.isAgg3 hs (by rfl) (by repeat first | exact .here | apply Pick.there) (by rfl)) rfl fun a ha => ?_
  refine pZ ?_
  refine hK3 _ _ ?_
  refine wp_block ?_
  refine wp_seq_k fun K4 hK4 => ?_
  refine wp_region_lit ?_
  refine pY ha (yEql (by rfl) (by rfl)) rfl fun a ha => ?_
  refine pY ha (yAssign (by rfl)) rfl fun a ha => ?_
  refine pZ ?_
  refine hK4 _ _ ?_
  first | refine cDec ha (by rfl) (fun hc5 => ?_) (fun hc5 => ?_) | refine cSplit ha (by rfl) (fun hc5 => ?_) (fun hc5 => ?_)
  · refine wp_seq_k fun K5 hK5 => ?_
    refine wp_region_lit ?_
    refine pY ha (yFieldA Tryd.runUnderlying46 rfl Tryd.sizeOf3 rfl (by rfl)) rfl fun a ha => ?_
    first | refine pY ha (yLoadB Tryd.isAgg3 hs (by rfl) (by repeat first | exact .here | apply Pick.there) (by rfl)) rfl fun a ha => ?_ | refine pY ha (yLoadR Tryd.isAgg3 hs (by rfl) (by repeat first | exact .here | apply Pick.there) (by rfl)) rfl fun a ha => ?_ | refine pY ha (yLoadR0 Tryd.isAgg3 hs (by rfl) (by repeat first | exact .here | apply Pick.there) (by rfl)) rfl fun a ha => ?_
    refine pY ha (yEql (by rfl) (by rfl)) rfl fun a ha => ?_
    refine pY ha (yMove (by rfl)) rfl fun a ha => ?_
    refine gDec (t := 10) ha (by rfl) (fun hg3 hp3 => ?_) (fun hg3 hp3 => ?_)
    · rw [hg3] at ha
      have hp3 := of_decide_eq_false hg3
      refine gOff ha rfl rfl (by rfl) rfl rfl fun a ha => ?_
      refine gOff ha rfl rfl (by rfl) rfl rfl fun a ha => ?_
      refine gOff ha rfl rfl (by rfl) rfl rfl fun a ha => ?_
      first | refine pY ha (yPickT (by rfl) (by rfl)) rfl fun a ha => ?_ | refine pY ha (yPickF (by rfl) (by rfl)) rfl fun a ha => ?_ | refine pY ha (yPick (by rfl) (by rfl) (by rfl)) rfl fun a ha => ?_
      refine pY ha (yMove (by rfl)) rfl fun a ha => ?_
      refine gOff ha rfl rfl (by rfl) rfl rfl fun a ha => ?_
      refine gOff ha rfl rfl (by rfl) rfl rfl fun a ha => ?_
      refine gOff ha rfl rfl (by rfl) rfl rfl fun a ha => ?_
      first | refine pY ha (yPickT (by rfl) (by rfl)) rfl fun a ha => ?_ | refine pY ha (yPickF (by rfl) (by rfl)) rfl fun a ha => ?_ | refine pY ha (yPick (by rfl) (by rfl) (by rfl)) rfl fun a ha => ?_
      refine pY ha (yAssign (by rfl)) rfl fun a ha => ?_
      refine pZ ?_
      refine hK5 _ _ ?_
      refine wp_ret ?_
      show bodyPost Tryd.prog Tryd.f85 _ .ret _ _
      refine ret1 rfl ha (by rfl) ?_
      refine ⟨congrArg Value.bool ?_, hs.drop⟩
      unfold sndC emp
      first
        | (rw [if_pos hc5]; simp_all; done)
        | (rw [if_neg hc5, if_pos hc20]; have hp3' : x.n > 0 := hp3; rw [decide_eq_true hp3']; simp; done)
        | (rw [if_neg hc5, if_pos hc20]; have hp3' : ¬ x.n > 0 := hp3; rw [decide_eq_false hp3']; rfl)
        | (rw [if_neg hc5, if_neg hc20])
    · rw [hg3] at ha
      have hp3 := of_decide_eq_true hg3
      refine gOn ha rfl rfl (by rfl) ?_
      refine pY ha (yFieldA Tryd.runUnderlying46 rfl Tryd.sizeOf9 rfl (by rfl)) rfl fun a ha => ?_
      refine gOn ha rfl rfl (by rfl) ?_
      first | refine pY ha (yLoadB Tryd.isAgg9 hs (by rfl) (by repeat first | exact .here | apply Pick.there) (by rfl)) rfl fun a ha => ?_ | refine pY ha (yLoadR Tryd.isAgg9 hs (by rfl) (by repeat first | exact .here | apply Pick.there) (by rfl)) rfl fun a ha => ?_ | refine pY ha (yLoadR0 Tryd.isAgg9 hs (by rfl) (by repeat first | exact .here | apply Pick.there) (by rfl)) rfl fun a ha => ?_
      refine gOn ha rfl rfl (by rfl) ?_
      refine pY ha (yStrNeq (by rfl) (by rfl)) rfl fun a ha => ?_
      first | refine pY ha (yPickT (by rfl) (by rfl)) rfl fun a ha => ?_ | refine pY ha (yPickF (by rfl) (by rfl)) rfl fun a ha => ?_ | refine pY ha (yPick (by rfl) (by rfl) (by rfl)) rfl fun a ha => ?_
      refine pY ha (yMove (by rfl)) rfl fun a ha => ?_
      refine gSplit (t := 15) ha (by rfl) (fun hg8 => ?_) (fun hg8 => ?_)
      · rw [hg8] at ha
        refine gOff ha rfl rfl (by rfl) rfl rfl fun a ha => ?_
        refine gOff ha rfl rfl (by rfl) rfl rfl fun a ha => ?_
        refine gOff ha rfl rfl (by rfl) rfl rfl fun a ha => ?_
        first | refine pY ha (yPickT (by rfl) (by rfl)) rfl fun a ha => ?_ | refine pY ha (yPickF (by rfl) (by rfl)) rfl fun a ha => ?_ | refine pY ha (yPick (by rfl) (by rfl) (by rfl)) rfl fun a ha => ?_
        refine pY ha (yAssign (by rfl)) rfl fun a ha => ?_
        refine pZ ?_
        refine hK5 _ _ ?_
        refine wp_ret ?_
        show bodyPost Tryd.prog Tryd.f85 _ .ret _ _
        refine ret1 rfl ha (by rfl) ?_
        refine ⟨congrArg Value.bool ?_, hs.drop⟩
        unfold sndC emp
        first
          | (rw [if_pos hc5]; simp_all; done)
          | (rw [if_neg hc5, if_pos hc20]; have hp3' : x.n > 0 := hp3; rw [decide_eq_true hp3']; simp; done)
          | (rw [if_neg hc5, if_pos hc20]; have hp3' : ¬ x.n > 0 := hp3; rw [decide_eq_false hp3']; rfl)
          | (rw [if_neg hc5, if_neg hc20])
      · rw [hg8] at ha
        refine gOn ha rfl rfl (by rfl) ?_
        refine pY ha (yFieldA Tryd.runUnderlying46 rfl Tryd.sizeOf9 rfl (by rfl)) rfl fun a ha => ?_
        refine gOn ha rfl rfl (by rfl) ?_
        first | refine pY ha (yLoadB Tryd.isAgg9 hs (by rfl) (by repeat first | exact .here | apply Pick.there) (by rfl)) rfl fun a ha => ?_ | refine pY ha (yLoadR Tryd.isAgg9 hs (by rfl) (by repeat first | exact .here | apply Pick.there) (by rfl)) rfl fun a ha => ?_ | refine pY ha (yLoadR0 Tryd.isAgg9 hs (by rfl) (by repeat first | exact .here | apply Pick.there) (by rfl)) rfl fun a ha => ?_
        refine gOn ha rfl rfl (by rfl) ?_
        refine pC ha (nCall Tryd.call75 (by rfl)) rfl (Valid_c hT x.text hsz hs) ?_
        rintro v w ⟨rfl, hs⟩ a ha
        first | refine pY ha (yPickT (by rfl) (by rfl)) rfl fun a ha => ?_ | refine pY ha (yPickF (by rfl) (by rfl)) rfl fun a ha => ?_ | refine pY ha (yPick (by rfl) (by rfl) (by rfl)) rfl fun a ha => ?_
        refine pY ha (yAssign (by rfl)) rfl fun a ha => ?_
        refine pZ ?_
        refine hK5 _ _ ?_
        refine wp_ret ?_
        show bodyPost Tryd.prog Tryd.f85 _ .ret _ _
        refine ret1 rfl ha (by rfl) ?_
        refine ⟨congrArg Value.bool ?_, hs.drop⟩
        unfold sndC emp
        first
          | (rw [if_pos hc5]; simp_all; done)
          | (rw [if_neg hc5, if_pos hc20]; have hp3' : x.n > 0 := hp3; rw [decide_eq_true hp3']; simp; done)
          | (rw [if_neg hc5, if_pos hc20]; have hp3' : ¬ x.n > 0 := hp3; rw [decide_eq_false hp3']; rfl)
          | (rw [if_neg hc5, if_neg hc20])
  · refine wp_seq_k fun K6 hK6 => ?_
    have hJ6 : ∀ a w, (Has a 31 [(20, .bool (decide (x.kind = 1 ∨ x.kind = 3))), (1, .pointer (some ⟨b, 0, none⟩)), (2, .bool false)] ∧ Sep W w (.blk b 46 [.int .i64 x.kind, .int .i64 x.n, .string x.text] :: cs)) → K6 a w := by
      rintro a w ⟨ha, hs⟩
      refine hK6 _ _ ?_
      first | refine cNDec ha (by rfl) (fun hc20 => ?_) (fun hc20 => ?_) | refine cDec ha (by rfl) (fun hc20 => ?_) (fun hc20 => ?_) | refine cSplit ha (by rfl) (fun hc20 => ?_) (fun hc20 => ?_)
      · refine wp_seq_k fun K7 hK7 => ?_
        refine wp_region_lit ?_
        refine pY ha (yFieldA Tryd.runUnderlying46 rfl Tryd.sizeOf3 rfl (by rfl)) rfl fun a ha => ?_
        first | refine pY ha (yLoadB Tryd.isAgg3 hs (by rfl) (by repeat first | exact .here | apply Pick.there) (by rfl)) rfl fun a ha => ?_ | refine pY ha (yLoadR Tryd.isAgg3 hs (by rfl) (by repeat first | exact .here | apply Pick.there) (by rfl)) rfl fun a ha => ?_ | refine pY ha (yLoadR0 Tryd.isAgg3 hs (by rfl) (by repeat first | exact .here | apply Pick.there) (by rfl)) rfl fun a ha => ?_
        refine pY ha (yGtr (by rfl) (by rfl)) rfl fun a ha => ?_
        refine pY ha (yMove (by rfl)) rfl fun a ha => ?_
        refine gDec (t := 26) ha (by rfl) (fun hg3 hp3 => ?_) (fun hg3 hp3 => ?_)
        · rw [hg3] at ha
          have hp3 := of_decide_eq_false hg3
          refine gOff ha rfl rfl (by rfl) rfl rfl fun a ha => ?_
          refine gOff ha rfl rfl (by rfl) rfl rfl fun a ha => ?_
          refine gOff ha rfl rfl (by rfl) rfl rfl fun a ha => ?_
          first | refine pY ha (yPickT (by rfl) (by rfl)) rfl fun a ha => ?_ | refine pY ha (yPickF (by rfl) (by rfl)) rfl fun a ha => ?_ | refine pY ha (yPick (by rfl) (by rfl) (by rfl)) rfl fun a ha => ?_
          refine pY ha (yAssign (by rfl)) rfl fun a ha => ?_
          refine pZ ?_
          refine hK7 _ _ ?_
          refine wp_ret ?_
          show bodyPost Tryd.prog Tryd.f85 _ .ret _ _
          refine ret1 rfl ha (by rfl) ?_
          refine ⟨congrArg Value.bool ?_, hs.drop⟩
          unfold sndC emp
          first
            | (rw [if_pos hc5]; simp_all; done)
            | (rw [if_neg hc5, if_pos hc20]; have hp3' : x.n > 0 := hp3; rw [decide_eq_true hp3']; simp; done)
            | (rw [if_neg hc5, if_pos hc20]; have hp3' : ¬ x.n > 0 := hp3; rw [decide_eq_false hp3']; rfl)
            | (rw [if_neg hc5, if_neg hc20])
        · rw [hg3] at ha
          have hp3 := of_decide_eq_true hg3
          refine gOn ha rfl rfl (by rfl) ?_
          refine pY ha (yFieldA Tryd.runUnderlying46 rfl Tryd.sizeOf9 rfl (by rfl)) rfl fun a ha => ?_
          refine gOn ha rfl rfl (by rfl) ?_
          first | refine pY ha (yLoadB Tryd.isAgg9 hs (by rfl) (by repeat first | exact .here | apply Pick.there) (by rfl)) rfl fun a ha => ?_ | refine pY ha (yLoadR Tryd.isAgg9 hs (by rfl) (by repeat first | exact .here | apply Pick.there) (by rfl)) rfl fun a ha => ?_ | refine pY ha (yLoadR0 Tryd.isAgg9 hs (by rfl) (by repeat first | exact .here | apply Pick.there) (by rfl)) rfl fun a ha => ?_
          refine gOn ha rfl rfl (by rfl) ?_
          refine pY ha (yStrEql (by rfl) (by rfl)) rfl fun a ha => ?_
          first | refine pY ha (yPickT (by rfl) (by rfl)) rfl fun a ha => ?_ | refine pY ha (yPickF (by rfl) (by rfl)) rfl fun a ha => ?_ | refine pY ha (yPick (by rfl) (by rfl) (by rfl)) rfl fun a ha => ?_
          refine pY ha (yAssign (by rfl)) rfl fun a ha => ?_
          refine pZ ?_
          refine hK7 _ _ ?_
          refine wp_ret ?_
          show bodyPost Tryd.prog Tryd.f85 _ .ret _ _
          refine ret1 rfl ha (by rfl) ?_
          refine ⟨congrArg Value.bool ?_, hs.drop⟩
          unfold sndC emp
          first
            | (rw [if_pos hc5]; simp_all; done)
            | (rw [if_neg hc5, if_pos hc20]; have hp3' : x.n > 0 := hp3; rw [decide_eq_true hp3']; simp; done)
            | (rw [if_neg hc5, if_pos hc20]; have hp3' : ¬ x.n > 0 := hp3; rw [decide_eq_false hp3']; rfl)
            | (rw [if_neg hc5, if_neg hc20])
      · refine wp_skip ?_
        refine hK2 _ _ ?_
        refine wp_seq_k fun K8 hK8 => ?_
        refine wp_region_lit ?_
        refine pY ha (yAssign (by rfl)) rfl fun a ha => ?_
        refine pZ ?_
        refine hK8 _ _ ?_
        refine wp_ret ?_
        show bodyPost Tryd.prog Tryd.f85 _ .ret _ _
        refine ret1 rfl ha (by rfl) ?_
        refine ⟨congrArg Value.bool ?_, hs.drop⟩
        unfold sndC emp
        first
          | (rw [if_pos hc5]; simp_all; done)
          | (rw [if_neg hc5, if_pos hc20]; have hp3' : x.n > 0 := hp3; rw [decide_eq_true hp3']; simp; done)
          | (rw [if_neg hc5, if_pos hc20]; have hp3' : ¬ x.n > 0 := hp3; rw [decide_eq_false hp3']; rfl)
          | (rw [if_neg hc5, if_neg hc20])
    refine wp_seq_k fun K9 hK9 => ?_
    refine wp_region_lit ?_
    refine pY ha (yEql (by rfl) (by rfl)) rfl fun a ha => ?_
    refine pY ha (yAssign (by rfl)) rfl fun a ha => ?_
    refine pZ ?_
    refine hK9 _ _ ?_
    first | refine cNDec ha (by rfl) (fun hc20 => ?_) (fun hc20 => ?_) | refine cDec ha (by rfl) (fun hc20 => ?_) (fun hc20 => ?_) | refine cSplit ha (by rfl) (fun hc20 => ?_) (fun hc20 => ?_)
    · refine wp_skip ?_
      refine hJ6 _ _ ?_
      first | exact ⟨has3 ha (bY (by omega)) (by rfl) (by rfl), hs⟩ | exact ⟨has3 ha (bT (by omega)) (by rfl) (by rfl), hs⟩
    · refine wp_region_lit ?_
      refine pY ha (yEql (by rfl) (by rfl)) rfl fun a ha => ?_
      refine pY ha (yAssign (by rfl)) rfl fun a ha => ?_
      refine pZ ?_
      refine hJ6 _ _ ?_
      first | exact ⟨has3 ha (bY (by omega)) (by rfl) (by rfl), hs⟩ | exact ⟨has3 ha (bT (by omega)) (by rfl) (by rfl), hs⟩
theorem Normal_c (hT : Tabs W) {A : Option Addr} {n c : Nat} {xs : List Comp} (hsz : ∀ x ∈ xs, x.text.size ≤ 9223372036854775807) (hs : Sep W w cs) (hk : Pick cs (.rd kComp (.slice A n c) xs) r) :
    Calls P 79 #[.slice A n c] w (Rt fun v w' => v = .bool (normC xs) ∧ Sep W w' cs) := by
  obtain ⟨rfl, hl⟩ := hs.rd_shape hk
  unfold maxLen at hl
  have hs := hs.cpR hk
  refine enter Tryd.func79 Tryd.ntmps79 rfl rfl fun a (ha : Has a 45 [(0, _)]) => ?_
  refine wp_seq_k fun K1 hK1 => ?_
  refine wp_region_lit ?_
  refine pY ha (yAssign (by rfl)) rfl fun a ha => ?_
  refine pZ ?_
  refine hK1 _ _ ?_
  refine wp_seq_k fun K2 hK2 => ?_
  refine wp_seq_k fun K3 hK3 => ?_
  refine wp_region_lit ?_
  refine pY ha (yMove (by rfl)) rfl fun a ha => ?_
  refine pY ha (yLenS Tryd.runUnderlying41 (by rfl)) rfl fun a ha => ?_
  refine pY ha (yMove (by rfl)) rfl fun a ha => ?_
  refine pZ ?_
  refine hK3 _ _ ?_
  refine wp_block ?_
  refine loopI (ι := Nat) (fun i a w => i ≤ xs.length ∧ allN (goodC xs) i = true ∧ Has a 45 [(0, .slice A xs.length c), (5, .slice A xs.length c), (6, .int .i64 xs.length), (7, .int .i64 i)] ∧ Sep W w (.rd kComp (.slice A xs.length c) xs :: cs)) (fun i => xs.length - i) (0) ?_ ?_
  · exact ⟨Nat.zero_le _, rfl, has4 ha (by rfl) (by rfl) (by rfl) (by rfl), hs⟩
  · rintro i a w ⟨h1, h2, ha, hs⟩
    refine wp_seq_k fun K4 hK4 => ?_
    refine wp_region_lit ?_
    refine pY ha (yLss (by rfl) (by rfl)) rfl fun a ha => ?_
    refine pZ ?_
    refine hK4 _ _ ?_
    refine wp_seq_k fun K5 hK5 => ?_
    first | refine cDec ha (by rfl) (fun hc8 => ?_) (fun hc8 => ?_) | refine cSplit ha (by rfl) (fun hc8 => ?_) (fun hc8 => ?_)
    · obtain ⟨x, hx⟩ : ∃ x, xs[i]? = some x := ⟨_, List.getElem?_eq_getElem (by omega)⟩
      obtain ⟨y, hy⟩ : ∃ y, xs[i - 1]? = some y := ⟨_, List.getElem?_eq_getElem (by omega)⟩
      have hsx := hsz x (List.mem_of_getElem? hx)
      have hgood : goodC xs i = (sndC x && (decide (i = 0) || !(decide (y.kind = x.kind) || decide (y.kind = 3) && decide (x.kind = 2)))) := by
        unfold goodC
        rw [List.getD_eq_getElem?_getD, List.getD_eq_getElem?_getD, hx, hy]; rfl
      obtain ⟨b0, off, rfl, hs⟩ := hs.rd_comp .here hx
      refine wp_skip ?_
      refine hK5 _ _ ?_
      refine wp_seq_k fun K6 hK6 => ?_
      refine wp_block ?_
      refine wp_seq_k fun K7 hK7 => ?_
      refine wp_region_lit ?_
      refine pY ha (yMove (by rfl)) rfl fun a ha => ?_
      refine pY ha (yIndexA Tryd.runUnderlying41 Tryd.sizeOf46 (by rfl) (by rfl) (by omega) (by omega)) rfl fun a ha => ?_
      first | refine pY ha (yLoadRA Tryd.isAgg46 Tryd.sizeOf46 hs (by rfl) (by repeat first | exact .here | apply Pick.there) (by rfl)) rfl fun a ha => ?_ | refine pY ha (yLoadBA Tryd.isAgg46 Tryd.sizeOf46 hs (by rfl) (by repeat first | exact .here | apply Pick.there) (by rfl)) rfl fun a ha => ?_
      refine pAlloc (zs := [.int .i64 0, .int .i64 0, .string ⟨#[]⟩]) ha Tryd.zeroValue46 (by rfl) hs rfl fun b w hs a ha => ?_
      refine pY ha (yAssign (by rfl)) rfl fun a ha => ?_
      refine pStoreA ha Tryd.sizeOf46 hs (by rfl) (by rfl) (by repeat first | exact .here | apply Pick.there) (by rfl) (by rfl) (by rfl) fun w hs => ?_
      refine pZ ?_
      refine hK7 _ _ ?_
      refine wp_seq_k fun K8 hK8 => ?_
      obtain ⟨b1, off1, e1, hs⟩ := hs.rd_comp (.there (.there .here)) hy
      simp only [Option.some.injEq, Addr.mk.injEq, and_true] at e1
      obtain ⟨rfl, rfl⟩ := e1
      rw [show i - 1 = ((i : Int) - 1).toNat by omega] at hs
      refine cutC (fun a w => Has a 45 [(43, .bool (!goodC xs i)), (0, .slice (some ⟨b0, off, none⟩) xs.length c), (5, .slice (some ⟨b0, off, none⟩) xs.length c), (6, .int .i64 xs.length), (7, .int .i64 i)] ∧ Sep W w (.rd kComp (.slice (some ⟨b0, off, none⟩) xs.length c) xs :: cs)) ?_ ?_
      · refine dStart (fun w => ∃ rs, Sep W w (.at b0 (off + ((i : Int) - 1).toNat * 3) [.int .i64 y.kind, .int .i64 y.n, .string y.text] :: .blk b 46 [.int .i64 x.kind, .int .i64 x.n, .string x.text] :: rs)) [] (by kernel_rfl) rfl (⟨_, hs.drew.pick (by repeat first | exact .here | apply Pick.there)⟩) ?_
        have hs := Sep.drew hs
        generalize World.drew _ = w at hs ⊢
        first | refine dT 0 rfl (by kernel_rfl) ha won0 (fun _ ⟨rs, hs⟩ => yLoadRA Tryd.isAgg46 Tryd.sizeOf46 hs (by rfl) (by repeat first | exact .here | apply Pick.there) (by rfl)) (⟨_, hs.pick (by repeat first | exact .here | apply Pick.there)⟩) rfl (fun _ _ _ h => nomatch h.1) fun a ha => ?_ | refine dT 0 rfl (by kernel_rfl) ha won0 (fun _ ⟨rs, hs⟩ => yLoadBA Tryd.isAgg46 Tryd.sizeOf46 hs (by rfl) (by repeat first | exact .here | apply Pick.there) (by rfl)) (⟨_, hs.pick (by repeat first | exact .here | apply Pick.there)⟩) rfl (fun _ _ _ h => nomatch h.1) fun a ha => ?_
        refine dC 1 rfl (by kernel_rfl) rfl ha won0 (nCall Tryd.call85 (by rfl)) rfl (OpSound_c hT x hsx hs) ?_
        rintro v w ⟨rfl, hs⟩
        refine ⟨⟨_, hs.pick (by repeat first | exact .here | apply Pick.there)⟩, fun a ha => ?_⟩
        refine dP 2 rfl (by kernel_rfl) ha won0 (fun _ => yNot (by rfl)) rfl (fun _ _ _ h => nomatch h.1) fun a ha => ?_
        refine dP 3 rfl (by kernel_rfl) ha won0 (fun _ => yMove (by rfl)) rfl (fun _ _ _ h => nomatch h.1) fun a ha => ?_
        refine gSplit (t := 15) ha (by rfl) (fun hg3 => ?_) (fun hg3 => ?_)
        · rw [hg3] at ha
          refine dP 4 rfl (by kernel_rfl) ha (won1 rfl rfl (by rfl)) (fun _ => yMove (by rfl)) rfl (fun _ _ _ h => nomatch h.1) fun a ha => ?_
          refine dP 5 rfl (by kernel_rfl) ha (won1 rfl rfl (by rfl)) (fun _ => yGtr (by rfl) (by rfl)) rfl (fun _ _ _ h => nomatch h.1) fun a ha => ?_
          refine dP 6 rfl (by kernel_rfl) ha (won1 rfl rfl (by rfl)) (fun _ => yMove (by rfl)) rfl (fun _ _ _ h => nomatch h.1) fun a ha => ?_
          refine gDec (t := 18) ha (by rfl) (fun hg6 hp6 => ?_) (fun hg6 hp6 => ?_)
          · rw [hg6] at ha
            refine dOff 7 rfl (by kernel_rfl) ha rfl rfl (by rfl) rfl rfl (fun _ _ _ h => nomatch h.1) fun a ha => ?_
            refine dOff 8 rfl (by kernel_rfl) ha rfl rfl (by rfl) rfl rfl (fun _ _ _ h => nomatch h.1) fun a ha => ?_
            refine dOff 9 rfl (by kernel_rfl) ha rfl rfl (by rfl) rfl rfl (fun _ _ _ h => nomatch h.1) fun a ha => ?_
            refine dOff 10 rfl (by kernel_rfl) ha rfl rfl (by rfl) rfl rfl (fun _ _ _ h => nomatch h.1) fun a ha => ?_
            refine dOff 11 rfl (by kernel_rfl) ha rfl rfl (by rfl) rfl rfl (fun _ _ _ h => nomatch h.1) fun a ha => ?_
            refine dOff 12 rfl (by kernel_rfl) ha rfl rfl (by rfl) rfl rfl (fun _ _ _ h => nomatch h.1) fun a ha => ?_
            refine dOff 13 rfl (by kernel_rfl) ha rfl rfl (by rfl) rfl rfl (fun _ _ _ h => nomatch h.1) fun a ha => ?_
            refine dOff 14 rfl (by kernel_rfl) ha rfl rfl (by rfl) rfl rfl (fun _ _ _ h => nomatch h.1) fun a ha => ?_
            refine dOff 15 rfl (by kernel_rfl) ha rfl rfl (by rfl) rfl rfl (fun _ _ _ h => nomatch h.1) fun a ha => ?_
            refine dOff 16 rfl (by kernel_rfl) ha rfl rfl (by rfl) rfl rfl (fun _ _ _ h => nomatch h.1) fun a ha => ?_
            refine dOffU 17 rfl (by kernel_rfl) ha rfl rfl (by rfl) rfl (fun _ _ _ h => nomatch h.1) fun a ha => ?_
            refine dOffU 18 rfl (by kernel_rfl) ha rfl rfl (by rfl) rfl (fun _ _ _ h => nomatch h.1) fun a ha => ?_
            refine dOffU 19 rfl (by kernel_rfl) ha rfl rfl (by rfl) rfl (fun _ _ _ h => nomatch h.1) fun a ha => ?_
            refine dOffU 20 rfl (by kernel_rfl) ha rfl rfl (by rfl) rfl (fun _ _ _ h => nomatch h.1) fun a ha => ?_
            refine dOffU 21 rfl (by kernel_rfl) ha rfl rfl (by rfl) rfl (fun _ _ _ h => nomatch h.1) fun a ha => ?_
            refine dOffU 22 rfl (by kernel_rfl) ha rfl rfl (by rfl) rfl (fun _ _ _ h => nomatch h.1) fun a ha => ?_
            refine dOffU 23 rfl (by kernel_rfl) ha rfl rfl (by rfl) rfl (fun _ _ _ h => nomatch h.1) fun a ha => ?_
            refine dOffU 24 rfl (by kernel_rfl) ha rfl rfl (by rfl) rfl (fun _ _ _ h => nomatch h.1) fun a ha => ?_
            refine dOffU 25 rfl (by kernel_rfl) ha rfl rfl (by rfl) rfl (fun _ _ _ h => nomatch h.1) fun a ha => ?_
            refine dOffU 26 rfl (by kernel_rfl) ha rfl rfl (by rfl) rfl (fun _ _ _ h => nomatch h.1) fun a ha => ?_
            refine dOffU 27 rfl (by kernel_rfl) ha rfl rfl (by rfl) rfl (fun _ _ _ h => nomatch h.1) fun a ha => ?_
            refine dOffU 28 rfl (by kernel_rfl) ha rfl rfl (by rfl) rfl (fun _ _ _ h => nomatch h.1) fun a ha => ?_
            refine dOff 29 rfl (by kernel_rfl) ha rfl rfl (by rfl) rfl rfl (fun _ _ _ h => nomatch h.1) fun a ha => ?_
            first | refine dP 30 rfl (by kernel_rfl) ha (won1 rfl rfl (by rfl)) (fun _ => yPickT (by rfl) (by rfl)) rfl (fun _ _ _ h => nomatch h.1) fun a ha => ?_ | refine dP 30 rfl (by kernel_rfl) ha (won1 rfl rfl (by rfl)) (fun _ => yPickF (by rfl) (by rfl)) rfl (fun _ _ _ h => nomatch h.1) fun a ha => ?_ | refine dP 30 rfl (by kernel_rfl) ha (won1 rfl rfl (by rfl)) (fun _ => yPick (by rfl) (by rfl) (by rfl)) rfl (fun _ _ _ h => nomatch h.1) fun a ha => ?_
            first | refine dP 31 rfl (by kernel_rfl) ha won0 (fun _ => yPickT (by rfl) (by rfl)) rfl (fun _ _ _ h => nomatch h.1) fun a ha => ?_ | refine dP 31 rfl (by kernel_rfl) ha won0 (fun _ => yPickF (by rfl) (by rfl)) rfl (fun _ _ _ h => nomatch h.1) fun a ha => ?_ | refine dP 31 rfl (by kernel_rfl) ha won0 (fun _ => yPick (by rfl) (by rfl) (by rfl)) rfl (fun _ _ _ h => nomatch h.1) fun a ha => ?_
            refine dZ (by kernel_rfl) ?_
            refine ⟨rfl, ?_⟩
            refine ⟨has5 ha ?_ (by rfl) (by rfl) (by rfl) (by rfl), hs.drop.drop.drop⟩
            rw [hgood]
            refine congrArg (fun b => some (Value.bool b)) ?_
            rw [Bool.eq_iff_iff]
            simp only [decide_eq_true_eq, decide_eq_false_iff_not, Bool.and_eq_true, Bool.or_eq_true, Bool.not_eq_true', Bool.not_eq_false', Bool.and_eq_false_iff, Bool.or_eq_false_iff, Bool.false_eq_true, true_iff, false_iff, iff_true, iff_false, Bool.not_eq_eq_eq_not, Bool.not_true, Bool.not_false] at *
            first | omega | (simp_all; done) | (simp_all; omega)
          · rw [hg6] at ha
            refine dP 7 rfl (by kernel_rfl) ha (won1 rfl rfl (by rfl)) (fun _ => yMove (by rfl)) rfl (fun _ _ _ h => nomatch h.1) fun a ha => ?_
            refine dP 8 rfl (by kernel_rfl) ha (won1 rfl rfl (by rfl)) (fun _ => yMove (by rfl)) rfl (fun _ _ _ h => nomatch h.1) fun a ha => ?_
            first | refine dP 9 rfl (by kernel_rfl) ha (won1 rfl rfl (by rfl)) (fun _ => ySubN (by rfl) (by rfl) ⟨by omega, by omega⟩) rfl (fun _ _ _ h => nomatch h.1) fun a ha => ?_ | refine dP 9 rfl (by kernel_rfl) ha (won1 rfl rfl (by rfl)) (fun _ => ySub (by rfl) (by rfl)) rfl (fun _ _ _ h => nomatch h.1) fun a ha => ?_
            refine dP 10 rfl (by kernel_rfl) ha (won1 rfl rfl (by rfl)) (fun _ => yIndexA Tryd.runUnderlying41 Tryd.sizeOf46 (by rfl) (by rfl) (by omega) (by omega)) rfl (fun _ _ _ h => nomatch h.1) fun a ha => ?_
            refine dP 11 rfl (by kernel_rfl) ha (won1 rfl rfl (by rfl)) (fun _ => yFieldA Tryd.runUnderlying46 rfl Tryd.sizeOf3 rfl (by rfl)) rfl (fun _ _ _ h => nomatch h.1) fun a ha => ?_
            first | refine dT 12 rfl (by kernel_rfl) ha (won1 rfl rfl (by rfl)) (fun _ ⟨rs, hs⟩ => yLoadB Tryd.isAgg3 hs (by rfl) (by repeat first | exact .here | apply Pick.there) (by rfl)) (⟨_, hs.pick (by repeat first | exact .here | apply Pick.there)⟩) rfl (fun _ _ _ h => nomatch h.1) fun a ha => ?_ | refine dT 12 rfl (by kernel_rfl) ha (won1 rfl rfl (by rfl)) (fun _ ⟨rs, hs⟩ => yLoadR Tryd.isAgg3 hs (by rfl) (by repeat first | exact .here | apply Pick.there) (by rfl)) (⟨_, hs.pick (by repeat first | exact .here | apply Pick.there)⟩) rfl (fun _ _ _ h => nomatch h.1) fun a ha => ?_ | refine dT 12 rfl (by kernel_rfl) ha (won1 rfl rfl (by rfl)) (fun _ ⟨rs, hs⟩ => yLoadR0 Tryd.isAgg3 hs (by rfl) (by repeat first | exact .here | apply Pick.there) (by rfl)) (⟨_, hs.pick (by repeat first | exact .here | apply Pick.there)⟩) rfl (fun _ _ _ h => nomatch h.1) fun a ha => ?_
            refine dP 13 rfl (by kernel_rfl) ha (won1 rfl rfl (by rfl)) (fun _ => yFieldA Tryd.runUnderlying46 rfl Tryd.sizeOf3 rfl (by rfl)) rfl (fun _ _ _ h => nomatch h.1) fun a ha => ?_
            first | refine dT 14 rfl (by kernel_rfl) ha (won1 rfl rfl (by rfl)) (fun _ ⟨rs, hs⟩ => yLoadB Tryd.isAgg3 hs (by rfl) (by repeat first | exact .here | apply Pick.there) (by rfl)) (⟨_, hs.pick (by repeat first | exact .here | apply Pick.there)⟩) rfl (fun _ _ _ h => nomatch h.1) fun a ha => ?_ | refine dT 14 rfl (by kernel_rfl) ha (won1 rfl rfl (by rfl)) (fun _ ⟨rs, hs⟩ => yLoadR Tryd.isAgg3 hs (by rfl) (by repeat first | exact .here | apply Pick.there) (by rfl)) (⟨_, hs.pick (by repeat first | exact .here | apply Pick.there)⟩) rfl (fun _ _ _ h => nomatch h.1) fun a ha => ?_ | refine dT 14 rfl (by kernel_rfl) ha (won1 rfl rfl (by rfl)) (fun _ ⟨rs, hs⟩ => yLoadR0 Tryd.isAgg3 hs (by rfl) (by repeat first | exact .here | apply Pick.there) (by rfl)) (⟨_, hs.pick (by repeat first | exact .here | apply Pick.there)⟩) rfl (fun _ _ _ h => nomatch h.1) fun a ha => ?_
            refine dP 15 rfl (by kernel_rfl) ha (won1 rfl rfl (by rfl)) (fun _ => yEql (by rfl) (by rfl)) rfl (fun _ _ _ h => nomatch h.1) fun a ha => ?_
            refine dP 16 rfl (by kernel_rfl) ha (won1 rfl rfl (by rfl)) (fun _ => yMove (by rfl)) rfl (fun _ _ _ h => nomatch h.1) fun a ha => ?_
            refine gDec (t := 28) ha (by rfl) (fun hg16 hp16 => ?_) (fun hg16 hp16 => ?_)
            · rw [hg16] at ha
              refine dP 17 rfl (by kernel_rfl) ha (won1 rfl rfl (by rfl)) (fun _ => yMove (by rfl)) rfl (fun _ _ _ h => nomatch h.1) fun a ha => ?_
              refine dP 18 rfl (by kernel_rfl) ha (won1 rfl rfl (by rfl)) (fun _ => yMove (by rfl)) rfl (fun _ _ _ h => nomatch h.1) fun a ha => ?_
              first | refine dP 19 rfl (by kernel_rfl) ha (won1 rfl rfl (by rfl)) (fun _ => ySubN (by rfl) (by rfl) ⟨by omega, by omega⟩) rfl (fun _ _ _ h => nomatch h.1) fun a ha => ?_ | refine dP 19 rfl (by kernel_rfl) ha (won1 rfl rfl (by rfl)) (fun _ => ySub (by rfl) (by rfl)) rfl (fun _ _ _ h => nomatch h.1) fun a ha => ?_
              refine dP 20 rfl (by kernel_rfl) ha (won1 rfl rfl (by rfl)) (fun _ => yIndexA Tryd.runUnderlying41 Tryd.sizeOf46 (by rfl) (by rfl) (by omega) (by omega)) rfl (fun _ _ _ h => nomatch h.1) fun a ha => ?_
              refine dP 21 rfl (by kernel_rfl) ha (won1 rfl rfl (by rfl)) (fun _ => yFieldA Tryd.runUnderlying46 rfl Tryd.sizeOf3 rfl (by rfl)) rfl (fun _ _ _ h => nomatch h.1) fun a ha => ?_
              first | refine dT 22 rfl (by kernel_rfl) ha (won1 rfl rfl (by rfl)) (fun _ ⟨rs, hs⟩ => yLoadB Tryd.isAgg3 hs (by rfl) (by repeat first | exact .here | apply Pick.there) (by rfl)) (⟨_, hs.pick (by repeat first | exact .here | apply Pick.there)⟩) rfl (fun _ _ _ h => nomatch h.1) fun a ha => ?_ | refine dT 22 rfl (by kernel_rfl) ha (won1 rfl rfl (by rfl)) (fun _ ⟨rs, hs⟩ => yLoadR Tryd.isAgg3 hs (by rfl) (by repeat first | exact .here | apply Pick.there) (by rfl)) (⟨_, hs.pick (by repeat first | exact .here | apply Pick.there)⟩) rfl (fun _ _ _ h => nomatch h.1) fun a ha => ?_ | refine dT 22 rfl (by kernel_rfl) ha (won1 rfl rfl (by rfl)) (fun _ ⟨rs, hs⟩ => yLoadR0 Tryd.isAgg3 hs (by rfl) (by repeat first | exact .here | apply Pick.there) (by rfl)) (⟨_, hs.pick (by repeat first | exact .here | apply Pick.there)⟩) rfl (fun _ _ _ h => nomatch h.1) fun a ha => ?_
              refine dP 23 rfl (by kernel_rfl) ha (won1 rfl rfl (by rfl)) (fun _ => yEql (by rfl) (by rfl)) rfl (fun _ _ _ h => nomatch h.1) fun a ha => ?_
              refine dP 24 rfl (by kernel_rfl) ha (won1 rfl rfl (by rfl)) (fun _ => yMove (by rfl)) rfl (fun _ _ _ h => nomatch h.1) fun a ha => ?_
              refine gDec (t := 36) ha (by rfl) (fun hg24 hp24 => ?_) (fun hg24 hp24 => ?_)
              · rw [hg24] at ha
                refine dOff 25 rfl (by kernel_rfl) ha rfl rfl (by rfl) rfl rfl (fun _ _ _ h => nomatch h.1) fun a ha => ?_
                refine dOff 26 rfl (by kernel_rfl) ha rfl rfl (by rfl) rfl rfl (fun _ _ _ h => nomatch h.1) fun a ha => ?_
                refine dOff 27 rfl (by kernel_rfl) ha rfl rfl (by rfl) rfl rfl (fun _ _ _ h => nomatch h.1) fun a ha => ?_
                first | refine dP 28 rfl (by kernel_rfl) ha (won1 rfl rfl (by rfl)) (fun _ => yPickT (by rfl) (by rfl)) rfl (fun _ _ _ h => nomatch h.1) fun a ha => ?_ | refine dP 28 rfl (by kernel_rfl) ha (won1 rfl rfl (by rfl)) (fun _ => yPickF (by rfl) (by rfl)) rfl (fun _ _ _ h => nomatch h.1) fun a ha => ?_ | refine dP 28 rfl (by kernel_rfl) ha (won1 rfl rfl (by rfl)) (fun _ => yPick (by rfl) (by rfl) (by rfl)) rfl (fun _ _ _ h => nomatch h.1) fun a ha => ?_
                first | refine dP 29 rfl (by kernel_rfl) ha (won1 rfl rfl (by rfl)) (fun _ => yPickT (by rfl) (by rfl)) rfl (fun _ _ _ h => nomatch h.1) fun a ha => ?_ | refine dP 29 rfl (by kernel_rfl) ha (won1 rfl rfl (by rfl)) (fun _ => yPickF (by rfl) (by rfl)) rfl (fun _ _ _ h => nomatch h.1) fun a ha => ?_ | refine dP 29 rfl (by kernel_rfl) ha (won1 rfl rfl (by rfl)) (fun _ => yPick (by rfl) (by rfl) (by rfl)) rfl (fun _ _ _ h => nomatch h.1) fun a ha => ?_
                first | refine dP 30 rfl (by kernel_rfl) ha (won1 rfl rfl (by rfl)) (fun _ => yPickT (by rfl) (by rfl)) rfl (fun _ _ _ h => nomatch h.1) fun a ha => ?_ | refine dP 30 rfl (by kernel_rfl) ha (won1 rfl rfl (by rfl)) (fun _ => yPickF (by rfl) (by rfl)) rfl (fun _ _ _ h => nomatch h.1) fun a ha => ?_ | refine dP 30 rfl (by kernel_rfl) ha (won1 rfl rfl (by rfl)) (fun _ => yPick (by rfl) (by rfl) (by rfl)) rfl (fun _ _ _ h => nomatch h.1) fun a ha => ?_
                first | refine dP 31 rfl (by kernel_rfl) ha won0 (fun _ => yPickT (by rfl) (by rfl)) rfl (fun _ _ _ h => nomatch h.1) fun a ha => ?_ | refine dP 31 rfl (by kernel_rfl) ha won0 (fun _ => yPickF (by rfl) (by rfl)) rfl (fun _ _ _ h => nomatch h.1) fun a ha => ?_ | refine dP 31 rfl (by kernel_rfl) ha won0 (fun _ => yPick (by rfl) (by rfl) (by rfl)) rfl (fun _ _ _ h => nomatch h.1) fun a ha => ?_
                refine dZ (by kernel_rfl) ?_
                refine ⟨rfl, ?_⟩
                refine ⟨has5 ha ?_ (by rfl) (by rfl) (by rfl) (by rfl), hs.drop.drop.drop⟩
                rw [hgood]
                refine congrArg (fun b => some (Value.bool b)) ?_
                rw [Bool.eq_iff_iff]
                simp only [decide_eq_true_eq, decide_eq_false_iff_not, Bool.and_eq_true, Bool.or_eq_true, Bool.not_eq_true', Bool.not_eq_false', Bool.and_eq_false_iff, Bool.or_eq_false_iff, Bool.false_eq_true, true_iff, false_iff, iff_true, iff_false, Bool.not_eq_eq_eq_not, Bool.not_true, Bool.not_false] at *
                first | omega | (simp_all; done) | (simp_all; omega)
              · rw [hg24] at ha
                refine dP 25 rfl (by kernel_rfl) ha (won1 rfl rfl (by rfl)) (fun _ => yFieldA Tryd.runUnderlying46 rfl Tryd.sizeOf3 rfl (by rfl)) rfl (fun _ _ _ h => nomatch h.1) fun a ha => ?_
                first | refine dT 26 rfl (by kernel_rfl) ha (won1 rfl rfl (by rfl)) (fun _ ⟨rs, hs⟩ => yLoadB Tryd.isAgg3 hs (by rfl) (by repeat first | exact .here | apply Pick.there) (by rfl)) (⟨_, hs.pick (by repeat first | exact .here | apply Pick.there)⟩) rfl (fun _ _ _ h => nomatch h.1) fun a ha => ?_ | refine dT 26 rfl (by kernel_rfl) ha (won1 rfl rfl (by rfl)) (fun _ ⟨rs, hs⟩ => yLoadR Tryd.isAgg3 hs (by rfl) (by repeat first | exact .here | apply Pick.there) (by rfl)) (⟨_, hs.pick (by repeat first | exact .here | apply Pick.there)⟩) rfl (fun _ _ _ h => nomatch h.1) fun a ha => ?_ | refine dT 26 rfl (by kernel_rfl) ha (won1 rfl rfl (by rfl)) (fun _ ⟨rs, hs⟩ => yLoadR0 Tryd.isAgg3 hs (by rfl) (by repeat first | exact .here | apply Pick.there) (by rfl)) (⟨_, hs.pick (by repeat first | exact .here | apply Pick.there)⟩) rfl (fun _ _ _ h => nomatch h.1) fun a ha => ?_
                refine dP 27 rfl (by kernel_rfl) ha (won1 rfl rfl (by rfl)) (fun _ => yEql (by rfl) (by rfl)) rfl (fun _ _ _ h => nomatch h.1) fun a ha => ?_
                first | refine dP 28 rfl (by kernel_rfl) ha (won1 rfl rfl (by rfl)) (fun _ => yPickT (by rfl) (by rfl)) rfl (fun _ _ _ h => nomatch h.1) fun a ha => ?_ | refine dP 28 rfl (by kernel_rfl) ha (won1 rfl rfl (by rfl)) (fun _ => yPickF (by rfl) (by rfl)) rfl (fun _ _ _ h => nomatch h.1) fun a ha => ?_ | refine dP 28 rfl (by kernel_rfl) ha (won1 rfl rfl (by rfl)) (fun _ => yPick (by rfl) (by rfl) (by rfl)) rfl (fun _ _ _ h => nomatch h.1) fun a ha => ?_
                first | refine dP 29 rfl (by kernel_rfl) ha (won1 rfl rfl (by rfl)) (fun _ => yPickT (by rfl) (by rfl)) rfl (fun _ _ _ h => nomatch h.1) fun a ha => ?_ | refine dP 29 rfl (by kernel_rfl) ha (won1 rfl rfl (by rfl)) (fun _ => yPickF (by rfl) (by rfl)) rfl (fun _ _ _ h => nomatch h.1) fun a ha => ?_ | refine dP 29 rfl (by kernel_rfl) ha (won1 rfl rfl (by rfl)) (fun _ => yPick (by rfl) (by rfl) (by rfl)) rfl (fun _ _ _ h => nomatch h.1) fun a ha => ?_
                first | refine dP 30 rfl (by kernel_rfl) ha (won1 rfl rfl (by rfl)) (fun _ => yPickT (by rfl) (by rfl)) rfl (fun _ _ _ h => nomatch h.1) fun a ha => ?_ | refine dP 30 rfl (by kernel_rfl) ha (won1 rfl rfl (by rfl)) (fun _ => yPickF (by rfl) (by rfl)) rfl (fun _ _ _ h => nomatch h.1) fun a ha => ?_ | refine dP 30 rfl (by kernel_rfl) ha (won1 rfl rfl (by rfl)) (fun _ => yPick (by rfl) (by rfl) (by rfl)) rfl (fun _ _ _ h => nomatch h.1) fun a ha => ?_
                first | refine dP 31 rfl (by kernel_rfl) ha won0 (fun _ => yPickT (by rfl) (by rfl)) rfl (fun _ _ _ h => nomatch h.1) fun a ha => ?_ | refine dP 31 rfl (by kernel_rfl) ha won0 (fun _ => yPickF (by rfl) (by rfl)) rfl (fun _ _ _ h => nomatch h.1) fun a ha => ?_ | refine dP 31 rfl (by kernel_rfl) ha won0 (fun _ => yPick (by rfl) (by rfl) (by rfl)) rfl (fun _ _ _ h => nomatch h.1) fun a ha => ?_
                refine dZ (by kernel_rfl) ?_
                refine ⟨rfl, ?_⟩
                refine ⟨has5 ha ?_ (by rfl) (by rfl) (by rfl) (by rfl), hs.drop.drop.drop⟩
                rw [hgood]
                refine congrArg (fun b => some (Value.bool b)) ?_
                rw [Bool.eq_iff_iff]
                simp only [decide_eq_true_eq, decide_eq_false_iff_not, Bool.and_eq_true, Bool.or_eq_true, Bool.not_eq_true', Bool.not_eq_false', Bool.and_eq_false_iff, Bool.or_eq_false_iff, Bool.false_eq_true, true_iff, false_iff, iff_true, iff_false, Bool.not_eq_eq_eq_not, Bool.not_true, Bool.not_false] at *
                first | omega | (simp_all; done) | (simp_all; omega)
            · rw [hg16] at ha
              refine dOff 17 rfl (by kernel_rfl) ha rfl rfl (by rfl) rfl rfl (fun _ _ _ h => nomatch h.1) fun a ha => ?_
              refine dOff 18 rfl (by kernel_rfl) ha rfl rfl (by rfl) rfl rfl (fun _ _ _ h => nomatch h.1) fun a ha => ?_
              refine dOff 19 rfl (by kernel_rfl) ha rfl rfl (by rfl) rfl rfl (fun _ _ _ h => nomatch h.1) fun a ha => ?_
              refine dOff 20 rfl (by kernel_rfl) ha rfl rfl (by rfl) rfl rfl (fun _ _ _ h => nomatch h.1) fun a ha => ?_
              refine dOff 21 rfl (by kernel_rfl) ha rfl rfl (by rfl) rfl rfl (fun _ _ _ h => nomatch h.1) fun a ha => ?_
              refine dOff 22 rfl (by kernel_rfl) ha rfl rfl (by rfl) rfl rfl (fun _ _ _ h => nomatch h.1) fun a ha => ?_
              refine dOff 23 rfl (by kernel_rfl) ha rfl rfl (by rfl) rfl rfl (fun _ _ _ h => nomatch h.1) fun a ha => ?_
              refine dOff 24 rfl (by kernel_rfl) ha rfl rfl (by rfl) rfl rfl (fun _ _ _ h => nomatch h.1) fun a ha => ?_
              refine dOffU 25 rfl (by kernel_rfl) ha rfl rfl (by rfl) rfl (fun _ _ _ h => nomatch h.1) fun a ha => ?_
              refine dOffU 26 rfl (by kernel_rfl) ha rfl rfl (by rfl) rfl (fun _ _ _ h => nomatch h.1) fun a ha => ?_
              refine dOffU 27 rfl (by kernel_rfl) ha rfl rfl (by rfl) rfl (fun _ _ _ h => nomatch h.1) fun a ha => ?_
              refine dOff 28 rfl (by kernel_rfl) ha rfl rfl (by rfl) rfl rfl (fun _ _ _ h => nomatch h.1) fun a ha => ?_
              first | refine dP 29 rfl (by kernel_rfl) ha (won1 rfl rfl (by rfl)) (fun _ => yPickT (by rfl) (by rfl)) rfl (fun _ _ _ h => nomatch h.1) fun a ha => ?_ | refine dP 29 rfl (by kernel_rfl) ha (won1 rfl rfl (by rfl)) (fun _ => yPickF (by rfl) (by rfl)) rfl (fun _ _ _ h => nomatch h.1) fun a ha => ?_ | refine dP 29 rfl (by kernel_rfl) ha (won1 rfl rfl (by rfl)) (fun _ => yPick (by rfl) (by rfl) (by rfl)) rfl (fun _ _ _ h => nomatch h.1) fun a ha => ?_
              first | refine dP 30 rfl (by kernel_rfl) ha (won1 rfl rfl (by rfl)) (fun _ => yPickT (by rfl) (by rfl)) rfl (fun _ _ _ h => nomatch h.1) fun a ha => ?_ | refine dP 30 rfl (by kernel_rfl) ha (won1 rfl rfl (by rfl)) (fun _ => yPickF (by rfl) (by rfl)) rfl (fun _ _ _ h => nomatch h.1) fun a ha => ?_ | refine dP 30 rfl (by kernel_rfl) ha (won1 rfl rfl (by rfl)) (fun _ => yPick (by rfl) (by rfl) (by rfl)) rfl (fun _ _ _ h => nomatch h.1) fun a ha => ?_
              first | refine dP 31 rfl (by kernel_rfl) ha won0 (fun _ => yPickT (by rfl) (by rfl)) rfl (fun _ _ _ h => nomatch h.1) fun a ha => ?_ | refine dP 31 rfl (by kernel_rfl) ha won0 (fun _ => yPickF (by rfl) (by rfl)) rfl (fun _ _ _ h => nomatch h.1) fun a ha => ?_ | refine dP 31 rfl (by kernel_rfl) ha won0 (fun _ => yPick (by rfl) (by rfl) (by rfl)) rfl (fun _ _ _ h => nomatch h.1) fun a ha => ?_
              refine dZ (by kernel_rfl) ?_
              refine ⟨rfl, ?_⟩
              refine ⟨has5 ha ?_ (by rfl) (by rfl) (by rfl) (by rfl), hs.drop.drop.drop⟩
              rw [hgood]
              refine congrArg (fun b => some (Value.bool b)) ?_
              rw [Bool.eq_iff_iff]
              simp only [decide_eq_true_eq, decide_eq_false_iff_not, Bool.and_eq_true, Bool.or_eq_true, Bool.not_eq_true', Bool.not_eq_false', Bool.and_eq_false_iff, Bool.or_eq_false_iff, Bool.false_eq_true, true_iff, false_iff, iff_true, iff_false, Bool.not_eq_eq_eq_not, Bool.not_true, Bool.not_false] at *
              first | omega | (simp_all; done) | (simp_all; omega)
        · rw [hg3] at ha
          refine dOff 4 rfl (by kernel_rfl) ha rfl rfl (by rfl) rfl rfl (fun _ _ _ h => nomatch h.1) fun a ha => ?_
          refine dOff 5 rfl (by kernel_rfl) ha rfl rfl (by rfl) rfl rfl (fun _ _ _ h => nomatch h.1) fun a ha => ?_
          refine dOff 6 rfl (by kernel_rfl) ha rfl rfl (by rfl) rfl rfl (fun _ _ _ h => nomatch h.1) fun a ha => ?_
          refine dOffU 7 rfl (by kernel_rfl) ha rfl rfl (by rfl) rfl (fun _ _ _ h => nomatch h.1) fun a ha => ?_
          refine dOffU 8 rfl (by kernel_rfl) ha rfl rfl (by rfl) rfl (fun _ _ _ h => nomatch h.1) fun a ha => ?_
          refine dOffU 9 rfl (by kernel_rfl) ha rfl rfl (by rfl) rfl (fun _ _ _ h => nomatch h.1) fun a ha => ?_
          refine dOffU 10 rfl (by kernel_rfl) ha rfl rfl (by rfl) rfl (fun _ _ _ h => nomatch h.1) fun a ha => ?_
          refine dOffU 11 rfl (by kernel_rfl) ha rfl rfl (by rfl) rfl (fun _ _ _ h => nomatch h.1) fun a ha => ?_
          refine dOffU 12 rfl (by kernel_rfl) ha rfl rfl (by rfl) rfl (fun _ _ _ h => nomatch h.1) fun a ha => ?_
          refine dOffU 13 rfl (by kernel_rfl) ha rfl rfl (by rfl) rfl (fun _ _ _ h => nomatch h.1) fun a ha => ?_
          refine dOffU 14 rfl (by kernel_rfl) ha rfl rfl (by rfl) rfl (fun _ _ _ h => nomatch h.1) fun a ha => ?_
          refine dOffU 15 rfl (by kernel_rfl) ha rfl rfl (by rfl) rfl (fun _ _ _ h => nomatch h.1) fun a ha => ?_
          refine dOffU 16 rfl (by kernel_rfl) ha rfl rfl (by rfl) rfl (fun _ _ _ h => nomatch h.1) fun a ha => ?_
          refine dOffU 17 rfl (by kernel_rfl) ha rfl rfl (by rfl) rfl (fun _ _ _ h => nomatch h.1) fun a ha => ?_
          refine dOffU 18 rfl (by kernel_rfl) ha rfl rfl (by rfl) rfl (fun _ _ _ h => nomatch h.1) fun a ha => ?_
          refine dOffU 19 rfl (by kernel_rfl) ha rfl rfl (by rfl) rfl (fun _ _ _ h => nomatch h.1) fun a ha => ?_
          refine dOffU 20 rfl (by kernel_rfl) ha rfl rfl (by rfl) rfl (fun _ _ _ h => nomatch h.1) fun a ha => ?_
          refine dOffU 21 rfl (by kernel_rfl) ha rfl rfl (by rfl) rfl (fun _ _ _ h => nomatch h.1) fun a ha => ?_
          refine dOffU 22 rfl (by kernel_rfl) ha rfl rfl (by rfl) rfl (fun _ _ _ h => nomatch h.1) fun a ha => ?_
          refine dOffU 23 rfl (by kernel_rfl) ha rfl rfl (by rfl) rfl (fun _ _ _ h => nomatch h.1) fun a ha => ?_
          refine dOffU 24 rfl (by kernel_rfl) ha rfl rfl (by rfl) rfl (fun _ _ _ h => nomatch h.1) fun a ha => ?_
          refine dOffU 25 rfl (by kernel_rfl) ha rfl rfl (by rfl) rfl (fun _ _ _ h => nomatch h.1) fun a ha => ?_
          refine dOffU 26 rfl (by kernel_rfl) ha rfl rfl (by rfl) rfl (fun _ _ _ h => nomatch h.1) fun a ha => ?_
          refine dOffU 27 rfl (by kernel_rfl) ha rfl rfl (by rfl) rfl (fun _ _ _ h => nomatch h.1) fun a ha => ?_
          refine dOffU 28 rfl (by kernel_rfl) ha rfl rfl (by rfl) rfl (fun _ _ _ h => nomatch h.1) fun a ha => ?_
          refine dOffU 29 rfl (by kernel_rfl) ha rfl rfl (by rfl) rfl (fun _ _ _ h => nomatch h.1) fun a ha => ?_
          refine dOff 30 rfl (by kernel_rfl) ha rfl rfl (by rfl) rfl rfl (fun _ _ _ h => nomatch h.1) fun a ha => ?_
          first | refine dP 31 rfl (by kernel_rfl) ha won0 (fun _ => yPickT (by rfl) (by rfl)) rfl (fun _ _ _ h => nomatch h.1) fun a ha => ?_ | refine dP 31 rfl (by kernel_rfl) ha won0 (fun _ => yPickF (by rfl) (by rfl)) rfl (fun _ _ _ h => nomatch h.1) fun a ha => ?_ | refine dP 31 rfl (by kernel_rfl) ha won0 (fun _ => yPick (by rfl) (by rfl) (by rfl)) rfl (fun _ _ _ h => nomatch h.1) fun a ha => ?_
          refine dZ (by kernel_rfl) ?_
          refine ⟨rfl, ?_⟩
          refine ⟨has5 ha ?_ (by rfl) (by rfl) (by rfl) (by rfl), hs.drop.drop.drop⟩
          rw [hgood]
          refine congrArg (fun b => some (Value.bool b)) ?_
          rw [Bool.eq_iff_iff]
          simp only [decide_eq_true_eq, decide_eq_false_iff_not, Bool.and_eq_true, Bool.or_eq_true, Bool.not_eq_true', Bool.not_eq_false', Bool.and_eq_false_iff, Bool.or_eq_false_iff, Bool.false_eq_true, true_iff, false_iff, iff_true, iff_false, Bool.not_eq_eq_eq_not, Bool.not_true, Bool.not_false] at *
          first | omega | (simp_all; done) | (simp_all; omega)
      rintro a w ⟨ha, hs⟩
      refine hK8 _ _ ?_
      first | refine cNDec ha (by rfl) (fun hc43 => ?_) (fun hc43 => ?_) | refine cDec ha (by rfl) (fun hc43 => ?_) (fun hc43 => ?_) | refine cSplit ha (by rfl) (fun hc43 => ?_) (fun hc43 => ?_)
      · refine wp_seq_k fun K9 hK9 => ?_
        refine wp_region_lit ?_
        refine pY ha (yAssign (by rfl)) rfl fun a ha => ?_
        refine pZ ?_
        refine hK9 _ _ ?_
        refine wp_ret ?_
        show bodyPost Tryd.prog Tryd.f79 _ .ret _ _
        refine ret1 rfl ha (by rfl) ?_
        exact ⟨congrArg Value.bool (allN_no (i := i) (n := xs.length) (by omega) (by simpa using hc43)).symm, hs.drop⟩
      · refine wp_skip ?_
        refine hK6 _ _ ?_
        refine wp_region_lit ?_
        first | refine pY ha (yAddN (by rfl) (by rfl) ⟨by omega, by omega⟩) rfl fun a ha => ?_ | refine pY ha (yAdd (by rfl) (by rfl)) rfl fun a ha => ?_
        refine pY ha (yMove (by rfl)) rfl fun a ha => ?_
        refine pZ ?_
        exact ⟨i + 1, ⟨by omega, by simp only [allN, h2, Bool.true_and]; simpa using hc43, has4 ha (by rfl) (by rfl) (by rfl) (by rfl), hs⟩, by omega⟩
    · refine wp_exit ?_
      refine hK2 _ _ ?_
      refine wp_seq_k fun K10 hK10 => ?_
      refine wp_region_lit ?_
      refine pY ha (yAssign (by rfl)) rfl fun a ha => ?_
      refine pZ ?_
      refine hK10 _ _ ?_
      refine wp_ret ?_
      show bodyPost Tryd.prog Tryd.f79 _ .ret _ _
      refine ret1 rfl ha (by rfl) ?_
      obtain rfl : i = xs.length := by omega
      exact ⟨congrArg Value.bool h2.symm, hs.drop⟩
theorem maxE (a : Int) : (if (0 : Int) > a then 0 else a) = max a 0 := by omega
theorem addC_ok {n x : Int} (hn : 0 ≤ n ∧ n ≤ 1099511627776) (hx : 0 ≤ x) : 0 ≤ addC n x ∧ addC n x ≤ 1099511627776 := by unfold addC; split <;> omega
theorem baseC_at {xs : List Comp} {i : Nat} {x : Comp} (hx : xs[i]? = some x) (n : Int) : baseC (xs.drop i) n = baseC (xs.drop (i + 1)) (if x.kind = 1 ∨ x.kind = 3 then addC n (max x.n 0) else n) := by
  obtain ⟨hi, rfl⟩ := List.getElem?_eq_some_iff.1 hx
  rw [List.drop_eq_getElem_cons hi, baseC]
theorem outC_at {xs : List Comp} {i : Nat} {x : Comp} (hx : xs[i]? = some x) (n : Int) : outC (xs.drop i) n = outC (xs.drop (i + 1)) (if x.kind = 1 then addC n (max x.n 0) else if x.kind = 2 then addC n (cnt x.text.data.toList) else n) := by
  obtain ⟨hi, rfl⟩ := List.getElem?_eq_some_iff.1 hx
  rw [List.drop_eq_getElem_cons hi, outC]
/-- Numbers of the machine. -/
def i64C (x : Comp) : Prop := x.n ≤ 9223372036854775807
theorem Base_c {A : Option Addr} {n c : Nat} {xs : List Comp} (hsz : ∀ x ∈ xs, i64C x) (hs : Sep W w cs) (hk : Pick cs (.rd kComp (.slice A n c) xs) r) :
    Calls P 80 #[.slice A n c] w (Rt fun v w' => v = .int .i64 (baseC xs 0) ∧ Sep W w' cs) := by
  obtain ⟨rfl, hl⟩ := hs.rd_shape hk
  unfold maxLen at hl
  have hs := hs.cpR hk
  refine enter Tryd.func80 Tryd.ntmps80 rfl rfl fun a (ha : Has a 26 [(0, _)]) => ?_
  refine wp_seq_k fun K1 hK1 => ?_
  refine wp_region_lit ?_
  refine pY ha (yAssign (by rfl)) rfl fun a ha => ?_
  refine pZ ?_
  refine hK1 _ _ ?_
  refine wp_seq_k fun K2 hK2 => ?_
  refine wp_seq_k fun K3 hK3 => ?_
  refine wp_region_lit ?_
  refine pY ha (yMove (by rfl)) rfl fun a ha => ?_
  refine pY ha (yLenS Tryd.runUnderlying41 (by rfl)) rfl fun a ha => ?_
  refine pY ha (yMove (by rfl)) rfl fun a ha => ?_
  refine pZ ?_
  refine hK3 _ _ ?_
  refine wp_block ?_
  refine loopI (ι := Nat × Int) (fun i a w => i.1 ≤ xs.length ∧ (0 ≤ i.2 ∧ i.2 ≤ 1099511627776) ∧ baseC (xs.drop i.1) i.2 = baseC xs 0 ∧ Has a 26 [(2, .int .i64 i.2), (5, .slice A xs.length c), (6, .int .i64 xs.length), (7, .int .i64 i.1)] ∧ Sep W w (.rd kComp (.slice A xs.length c) xs :: cs)) (fun i => xs.length - i.1) ((0, 0)) ?_ ?_
  · exact ⟨Nat.zero_le _, by decide, rfl, has4 ha (by rfl) (by rfl) (by rfl) (by rfl), hs⟩
  · rintro i a w ⟨h1, h2, h3, ha, hs⟩
    obtain ⟨i, m⟩ := i; simp only at h1 h2 h3 ha hs
    refine wp_seq_k fun K4 hK4 => ?_
    refine wp_region_lit ?_
    refine pY ha (yLss (by rfl) (by rfl)) rfl fun a ha => ?_
    refine pZ ?_
    refine hK4 _ _ ?_
    refine wp_seq_k fun K5 hK5 => ?_
    first | refine cDec ha (by rfl) (fun hc8 => ?_) (fun hc8 => ?_) | refine cSplit ha (by rfl) (fun hc8 => ?_) (fun hc8 => ?_)
    · obtain ⟨x, hx⟩ : ∃ x, xs[i]? = some x := ⟨_, List.getElem?_eq_getElem (by omega)⟩
      have hsx := hsz x (List.mem_of_getElem? hx)
      unfold i64C at hsx
      obtain ⟨b0, off, rfl, hs⟩ := hs.rd_comp .here hx
      refine wp_skip ?_
      refine hK5 _ _ ?_
      refine wp_seq_k fun K6 hK6 => ?_
      refine wp_block ?_
      refine wp_seq_k fun K7 hK7 => ?_
      refine wp_region_lit ?_
      refine pY ha (yIndexA Tryd.runUnderlying41 Tryd.sizeOf46 (by rfl) (by rfl) (by omega) (by omega)) rfl fun a ha => ?_
      first | refine pY ha (yLoadRA Tryd.isAgg46 Tryd.sizeOf46 hs (by rfl) (by repeat first | exact .here | apply Pick.there) (by rfl)) rfl fun a ha => ?_ | refine pY ha (yLoadBA Tryd.isAgg46 Tryd.sizeOf46 hs (by rfl) (by repeat first | exact .here | apply Pick.there) (by rfl)) rfl fun a ha => ?_
      refine pAlloc (zs := [.int .i64 0, .int .i64 0, .string ⟨#[]⟩]) ha Tryd.zeroValue46 (by rfl) hs rfl fun b w hs a ha => ?_
      refine pStoreA ha Tryd.sizeOf46 hs (by rfl) (by rfl) (by repeat first | exact .here | apply Pick.there) (by rfl) (by rfl) (by rfl) fun w hs => ?_
      refine pZ ?_
      refine hK7 _ _ ?_
      refine wp_seq_k fun K8 hK8 => ?_
      refine wp_region_lit ?_
      refine pY ha (yFieldA Tryd.runUnderlying46 rfl Tryd.sizeOf3 rfl (by rfl)) rfl fun a ha => ?_
      first | refine pY ha (yLoadB Tryd.isAgg3 hs (by rfl) (by repeat first | exact .here | apply Pick.there) (by rfl)) rfl fun a ha => ?_ | refine pY ha (yLoadR Tryd.isAgg3 hs (by rfl) (by repeat first | exact .here | apply Pick.there) (by rfl)) rfl fun a ha => ?_ | refine pY ha (yLoadR0 Tryd.isAgg3 hs (by rfl) (by repeat first | exact .here | apply Pick.there) (by rfl)) rfl fun a ha => ?_
      refine pY ha (yEql (by rfl) (by rfl)) rfl fun a ha => ?_
      refine pY ha (yMove (by rfl)) rfl fun a ha => ?_
      refine gDec (t := 14) ha (by rfl) (fun hg3 hp3 => ?_) (fun hg3 hp3 => ?_)
      · rw [hg3] at ha
        refine gOn ha rfl rfl (by rfl) ?_
        refine pY ha (yFieldA Tryd.runUnderlying46 rfl Tryd.sizeOf3 rfl (by rfl)) rfl fun a ha => ?_
        refine gOn ha rfl rfl (by rfl) ?_
        first | refine pY ha (yLoadB Tryd.isAgg3 hs (by rfl) (by repeat first | exact .here | apply Pick.there) (by rfl)) rfl fun a ha => ?_ | refine pY ha (yLoadR Tryd.isAgg3 hs (by rfl) (by repeat first | exact .here | apply Pick.there) (by rfl)) rfl fun a ha => ?_ | refine pY ha (yLoadR0 Tryd.isAgg3 hs (by rfl) (by repeat first | exact .here | apply Pick.there) (by rfl)) rfl fun a ha => ?_
        refine gOn ha rfl rfl (by rfl) ?_
        refine pY ha (yEql (by rfl) (by rfl)) rfl fun a ha => ?_
        first | refine pY ha (yPickT (by rfl) (by rfl)) rfl fun a ha => ?_ | refine pY ha (yPickF (by rfl) (by rfl)) rfl fun a ha => ?_ | refine pY ha (yPick (by rfl) (by rfl) (by rfl)) rfl fun a ha => ?_
        refine pZ ?_
        refine hK8 _ _ ?_
        first | refine cNDec ha (by rfl) (fun hc18 => ?_) (fun hc18 => ?_) | refine cDec ha (by rfl) (fun hc18 => ?_) (fun hc18 => ?_) | refine cSplit ha (by rfl) (fun hc18 => ?_) (fun hc18 => ?_)
        · refine wp_region_lit ?_
          refine pY ha (yMove (by rfl)) rfl fun a ha => ?_
          refine pY ha (yFieldA Tryd.runUnderlying46 rfl Tryd.sizeOf3 rfl (by rfl)) rfl fun a ha => ?_
          first | refine pY ha (yLoadB Tryd.isAgg3 hs (by rfl) (by repeat first | exact .here | apply Pick.there) (by rfl)) rfl fun a ha => ?_ | refine pY ha (yLoadR Tryd.isAgg3 hs (by rfl) (by repeat first | exact .here | apply Pick.there) (by rfl)) rfl fun a ha => ?_ | refine pY ha (yLoadR0 Tryd.isAgg3 hs (by rfl) (by repeat first | exact .here | apply Pick.there) (by rfl)) rfl fun a ha => ?_
          refine pY ha (yMax2 (by rfl) (by rfl)) rfl fun a ha => ?_
          refine pC ha (nCall Tryd.call86 (by rfl)) rfl (Add_c m (if (0 : Int) > x.n then 0 else x.n) h2 (by split <;> omega) hs) ?_
          rintro v w ⟨rfl, hs⟩ a ha
          refine pY ha (yAssign (by rfl)) rfl fun a ha => ?_
          refine pZ ?_
          refine hK6 _ _ ?_
          refine wp_region_lit ?_
          first | refine pY ha (yAddN (by rfl) (by rfl) ⟨by omega, by omega⟩) rfl fun a ha => ?_ | refine pY ha (yAdd (by rfl) (by rfl)) rfl fun a ha => ?_
          refine pY ha (yMove (by rfl)) rfl fun a ha => ?_
          refine pZ ?_
          rw [baseC_at hx] at h3
          have hm := maxE x.n
          have hao := addC_ok h2 (x := max x.n 0) (by omega)
          first
            | (rw [if_pos (by first | (have := of_decide_eq_true hg3; omega) | omega)] at h3; exact ⟨(i + 1, addC m (max x.n 0)), ⟨by simp only; omega, hao, h3, has4 ha (by rw [← hm]; rfl) (by rfl) (by rfl) (by rfl), hs.drop.drop⟩, by simp only; omega⟩)
            | (rw [if_neg (by have := of_decide_eq_false hg3; omega)] at h3; exact ⟨(i + 1, m), ⟨by simp only; omega, h2, h3, has4 ha (by rfl) (by rfl) (by rfl) (by rfl), hs.drop.drop⟩, by simp only; omega⟩)
        · refine wp_skip ?_
          refine hK6 _ _ ?_
          refine wp_region_lit ?_
          first | refine pY ha (yAddN (by rfl) (by rfl) ⟨by omega, by omega⟩) rfl fun a ha => ?_ | refine pY ha (yAdd (by rfl) (by rfl)) rfl fun a ha => ?_
          refine pY ha (yMove (by rfl)) rfl fun a ha => ?_
          refine pZ ?_
          rw [baseC_at hx] at h3
          have hm := maxE x.n
          have hao := addC_ok h2 (x := max x.n 0) (by omega)
          first
            | (rw [if_pos (by first | (have := of_decide_eq_true hg3; omega) | omega)] at h3; exact ⟨(i + 1, addC m (max x.n 0)), ⟨by simp only; omega, hao, h3, has4 ha (by rw [← hm]; rfl) (by rfl) (by rfl) (by rfl), hs.drop.drop⟩, by simp only; omega⟩)
            | (rw [if_neg (by have := of_decide_eq_false hg3; omega)] at h3; exact ⟨(i + 1, m), ⟨by simp only; omega, h2, h3, has4 ha (by rfl) (by rfl) (by rfl) (by rfl), hs.drop.drop⟩, by simp only; omega⟩)
      · rw [hg3] at ha
        refine gOff ha rfl rfl (by rfl) rfl rfl fun a ha => ?_
        refine gOff ha rfl rfl (by rfl) rfl rfl fun a ha => ?_
        refine gOff ha rfl rfl (by rfl) rfl rfl fun a ha => ?_
        first | refine pY ha (yPickT (by rfl) (by rfl)) rfl fun a ha => ?_ | refine pY ha (yPickF (by rfl) (by rfl)) rfl fun a ha => ?_ | refine pY ha (yPick (by rfl) (by rfl) (by rfl)) rfl fun a ha => ?_
        refine pZ ?_
        refine hK8 _ _ ?_
        refine cTrue ha (by rfl) ?_
        refine wp_region_lit ?_
        refine pY ha (yMove (by rfl)) rfl fun a ha => ?_
        refine pY ha (yFieldA Tryd.runUnderlying46 rfl Tryd.sizeOf3 rfl (by rfl)) rfl fun a ha => ?_
        first | refine pY ha (yLoadB Tryd.isAgg3 hs (by rfl) (by repeat first | exact .here | apply Pick.there) (by rfl)) rfl fun a ha => ?_ | refine pY ha (yLoadR Tryd.isAgg3 hs (by rfl) (by repeat first | exact .here | apply Pick.there) (by rfl)) rfl fun a ha => ?_ | refine pY ha (yLoadR0 Tryd.isAgg3 hs (by rfl) (by repeat first | exact .here | apply Pick.there) (by rfl)) rfl fun a ha => ?_
        refine pY ha (yMax2 (by rfl) (by rfl)) rfl fun a ha => ?_
        refine pC ha (nCall Tryd.call86 (by rfl)) rfl (Add_c m (if (0 : Int) > x.n then 0 else x.n) h2 (by split <;> omega) hs) ?_
        rintro v w ⟨rfl, hs⟩ a ha
        refine pY ha (yAssign (by rfl)) rfl fun a ha => ?_
        refine pZ ?_
        refine hK6 _ _ ?_
        refine wp_region_lit ?_
        first | refine pY ha (yAddN (by rfl) (by rfl) ⟨by omega, by omega⟩) rfl fun a ha => ?_ | refine pY ha (yAdd (by rfl) (by rfl)) rfl fun a ha => ?_
        refine pY ha (yMove (by rfl)) rfl fun a ha => ?_
        refine pZ ?_
        rw [baseC_at hx] at h3
        have hm := maxE x.n
        have hao := addC_ok h2 (x := max x.n 0) (by omega)
        first
          | (rw [if_pos (by first | (have := of_decide_eq_true hg3; omega) | omega)] at h3; exact ⟨(i + 1, addC m (max x.n 0)), ⟨by simp only; omega, hao, h3, has4 ha (by rw [← hm]; rfl) (by rfl) (by rfl) (by rfl), hs.drop.drop⟩, by simp only; omega⟩)
          | (rw [if_neg (by have := of_decide_eq_false hg3; omega)] at h3; exact ⟨(i + 1, m), ⟨by simp only; omega, h2, h3, has4 ha (by rfl) (by rfl) (by rfl) (by rfl), hs.drop.drop⟩, by simp only; omega⟩)
    · refine wp_exit ?_
      refine hK2 _ _ ?_
      refine wp_seq_k fun K9 hK9 => ?_
      refine wp_region_lit ?_
      refine pY ha (yMove (by rfl)) rfl fun a ha => ?_
      refine pY ha (yAssign (by rfl)) rfl fun a ha => ?_
      refine pZ ?_
      refine hK9 _ _ ?_
      refine wp_ret ?_
      show bodyPost Tryd.prog Tryd.f80 _ .ret _ _
      refine ret1 rfl ha (by rfl) ?_
      rw [List.drop_eq_nil_of_le (by omega)] at h3; exact ⟨congrArg (Value.int .i64) h3, hs.drop⟩
theorem Out_c {A : Option Addr} {n c : Nat} {xs : List Comp} (hsz : ∀ x ∈ xs, i64C x ∧ x.text.size ≤ 1000000000 ∧ (x.kind = 2 → okText x.text.data.toList = true)) (hs : Sep W w cs) (hk : Pick cs (.rd kComp (.slice A n c) xs) r) :
    Calls P 81 #[.slice A n c] w (Rt fun v w' => v = .int .i64 (outC xs 0) ∧ Sep W w' cs) := by
  obtain ⟨rfl, hl⟩ := hs.rd_shape hk
  unfold maxLen at hl
  have hs := hs.cpR hk
  refine enter Tryd.func81 Tryd.ntmps81 rfl rfl fun a (ha : Has a 29 [(0, _)]) => ?_
  refine wp_seq_k fun K1 hK1 => ?_
  refine wp_region_lit ?_
  refine pY ha (yAssign (by rfl)) rfl fun a ha => ?_
  refine pZ ?_
  refine hK1 _ _ ?_
  refine wp_seq_k fun K2 hK2 => ?_
  refine wp_seq_k fun K3 hK3 => ?_
  refine wp_region_lit ?_
  refine pY ha (yMove (by rfl)) rfl fun a ha => ?_
  refine pY ha (yLenS Tryd.runUnderlying41 (by rfl)) rfl fun a ha => ?_
  refine pY ha (yMove (by rfl)) rfl fun a ha => ?_
  refine pZ ?_
  refine hK3 _ _ ?_
  refine wp_block ?_
  refine loopI (ι := Nat × Int) (fun i a w => i.1 ≤ xs.length ∧ (0 ≤ i.2 ∧ i.2 ≤ 1099511627776) ∧ outC (xs.drop i.1) i.2 = outC xs 0 ∧ Has a 29 [(2, .int .i64 i.2), (5, .slice A xs.length c), (6, .int .i64 xs.length), (7, .int .i64 i.1)] ∧ Sep W w (.rd kComp (.slice A xs.length c) xs :: cs)) (fun i => xs.length - i.1) ((0, 0)) ?_ ?_
  · exact ⟨Nat.zero_le _, by decide, rfl, has4 ha (by rfl) (by rfl) (by rfl) (by rfl), hs⟩
  · rintro i a w ⟨h1, h2, h3, ha, hs⟩
    obtain ⟨i, m⟩ := i; simp only at h1 h2 h3 ha hs
    refine wp_seq_k fun K4 hK4 => ?_
    refine wp_region_lit ?_
    refine pY ha (yLss (by rfl) (by rfl)) rfl fun a ha => ?_
    refine pZ ?_
    refine hK4 _ _ ?_
    refine wp_seq_k fun K5 hK5 => ?_
    first | refine cDec ha (by rfl) (fun hc8 => ?_) (fun hc8 => ?_) | refine cSplit ha (by rfl) (fun hc8 => ?_) (fun hc8 => ?_)
    · obtain ⟨x, hx⟩ : ∃ x, xs[i]? = some x := ⟨_, List.getElem?_eq_getElem (by omega)⟩
      obtain ⟨hsx, hsx2, hsx3⟩ := hsz x (List.mem_of_getElem? hx)
      unfold i64C at hsx
      have hcl := cnt_le x.text.data.toList
      have hlen : x.text.data.toList.length = x.text.size := by simp
      obtain ⟨b0, off, rfl, hs⟩ := hs.rd_comp .here hx
      refine wp_skip ?_
      refine hK5 _ _ ?_
      refine wp_seq_k fun K6 hK6 => ?_
      refine wp_block ?_
      refine wp_seq_k fun K7 hK7 => ?_
      refine wp_region_lit ?_
      refine pY ha (yIndexA Tryd.runUnderlying41 Tryd.sizeOf46 (by rfl) (by rfl) (by omega) (by omega)) rfl fun a ha => ?_
      first | refine pY ha (yLoadRA Tryd.isAgg46 Tryd.sizeOf46 hs (by rfl) (by repeat first | exact .here | apply Pick.there) (by rfl)) rfl fun a ha => ?_ | refine pY ha (yLoadBA Tryd.isAgg46 Tryd.sizeOf46 hs (by rfl) (by repeat first | exact .here | apply Pick.there) (by rfl)) rfl fun a ha => ?_
      refine pAlloc (zs := [.int .i64 0, .int .i64 0, .string ⟨#[]⟩]) ha Tryd.zeroValue46 (by rfl) hs rfl fun b w hs a ha => ?_
      refine pStoreA ha Tryd.sizeOf46 hs (by rfl) (by rfl) (by repeat first | exact .here | apply Pick.there) (by rfl) (by rfl) (by rfl) fun w hs => ?_
      refine pZ ?_
      refine hK7 _ _ ?_
      refine wp_seq_k fun K8 hK8 => ?_
      refine wp_region_lit ?_
      refine pY ha (yFieldA Tryd.runUnderlying46 rfl Tryd.sizeOf3 rfl (by rfl)) rfl fun a ha => ?_
      first | refine pY ha (yLoadB Tryd.isAgg3 hs (by rfl) (by repeat first | exact .here | apply Pick.there) (by rfl)) rfl fun a ha => ?_ | refine pY ha (yLoadR Tryd.isAgg3 hs (by rfl) (by repeat first | exact .here | apply Pick.there) (by rfl)) rfl fun a ha => ?_ | refine pY ha (yLoadR0 Tryd.isAgg3 hs (by rfl) (by repeat first | exact .here | apply Pick.there) (by rfl)) rfl fun a ha => ?_
      refine pZ ?_
      refine hK8 _ _ ?_
      refine wp_block ?_
      refine wp_seq_k fun K9 hK9 => ?_
      refine wp_region_lit ?_
      refine pY ha (yEql (by rfl) (by rfl)) rfl fun a ha => ?_
      refine pY ha (yAssign (by rfl)) rfl fun a ha => ?_
      refine pZ ?_
      refine hK9 _ _ ?_
      first | refine cDec ha (by rfl) (fun hc13 => ?_) (fun hc13 => ?_) | refine cSplit ha (by rfl) (fun hc13 => ?_) (fun hc13 => ?_)
      · refine wp_region_lit ?_
        refine pY ha (yMove (by rfl)) rfl fun a ha => ?_
        refine pY ha (yFieldA Tryd.runUnderlying46 rfl Tryd.sizeOf3 rfl (by rfl)) rfl fun a ha => ?_
        first | refine pY ha (yLoadB Tryd.isAgg3 hs (by rfl) (by repeat first | exact .here | apply Pick.there) (by rfl)) rfl fun a ha => ?_ | refine pY ha (yLoadR Tryd.isAgg3 hs (by rfl) (by repeat first | exact .here | apply Pick.there) (by rfl)) rfl fun a ha => ?_ | refine pY ha (yLoadR0 Tryd.isAgg3 hs (by rfl) (by repeat first | exact .here | apply Pick.there) (by rfl)) rfl fun a ha => ?_
        refine pY ha (yMax2 (by rfl) (by rfl)) rfl fun a ha => ?_
        refine pC ha (nCall Tryd.call86 (by rfl)) rfl (Add_c m (if (0 : Int) > x.n then 0 else x.n) h2 (by split <;> omega) hs) ?_
        rintro v w ⟨rfl, hs⟩ a ha
        refine pY ha (yAssign (by rfl)) rfl fun a ha => ?_
        refine pZ ?_
        refine hK6 _ _ ?_
        refine wp_region_lit ?_
        first | refine pY ha (yAddN (by rfl) (by rfl) ⟨by omega, by omega⟩) rfl fun a ha => ?_ | refine pY ha (yAdd (by rfl) (by rfl)) rfl fun a ha => ?_
        refine pY ha (yMove (by rfl)) rfl fun a ha => ?_
        refine pZ ?_
        rw [outC_at hx] at h3
        have hm := maxE x.n
        have hao := addC_ok h2 (x := max x.n 0) (by omega)
        have hao2 := addC_ok h2 (x := (cnt x.text.data.toList : Int)) (by omega)
        first
          | (rw [if_pos hc13] at h3; exact ⟨(i + 1, addC m (max x.n 0)), ⟨by simp only; omega, hao, h3, has4 ha (by rw [← hm]; rfl) (by rfl) (by rfl) (by rfl), hs.drop.drop⟩, by simp only; omega⟩)
          | (rw [if_neg hc13, if_pos hc20] at h3; exact ⟨(i + 1, addC m (cnt x.text.data.toList)), ⟨by simp only; omega, hao2, h3, has4 ha (by rfl) (by rfl) (by rfl) (by rfl), hs.drop.drop⟩, by simp only; omega⟩)
          | (rw [if_neg hc13, if_neg hc20] at h3; exact ⟨(i + 1, m), ⟨by simp only; omega, h2, h3, has4 ha (by rfl) (by rfl) (by rfl) (by rfl), hs.drop.drop⟩, by simp only; omega⟩)
      · refine wp_seq_k fun K10 hK10 => ?_
        refine wp_region_lit ?_
        refine pY ha (yEql (by rfl) (by rfl)) rfl fun a ha => ?_
        refine pY ha (yAssign (by rfl)) rfl fun a ha => ?_
        refine pZ ?_
        refine hK10 _ _ ?_
        first | refine cDec ha (by rfl) (fun hc20 => ?_) (fun hc20 => ?_) | refine cSplit ha (by rfl) (fun hc20 => ?_) (fun hc20 => ?_)
        · refine wp_region_lit ?_
          refine pY ha (yMove (by rfl)) rfl fun a ha => ?_
          refine pY ha (yFieldA Tryd.runUnderlying46 rfl Tryd.sizeOf9 rfl (by rfl)) rfl fun a ha => ?_
          first | refine pY ha (yLoadB Tryd.isAgg9 hs (by rfl) (by repeat first | exact .here | apply Pick.there) (by rfl)) rfl fun a ha => ?_ | refine pY ha (yLoadR Tryd.isAgg9 hs (by rfl) (by repeat first | exact .here | apply Pick.there) (by rfl)) rfl fun a ha => ?_ | refine pY ha (yLoadR0 Tryd.isAgg9 hs (by rfl) (by repeat first | exact .here | apply Pick.there) (by rfl)) rfl fun a ha => ?_
          refine pC ha (nCall Tryd.call70 (by rfl)) rfl (RuneCount_c x.text (hsx3 hc20) (by omega) hs) ?_
          rintro v w ⟨rfl, hs⟩ a ha
          refine pC ha (nCall Tryd.call86 (by rfl)) rfl (Add_c m (cnt x.text.data.toList) h2 (by omega) hs) ?_
          rintro v w ⟨rfl, hs⟩ a ha
          refine pY ha (yAssign (by rfl)) rfl fun a ha => ?_
          refine pZ ?_
          refine hK6 _ _ ?_
          refine wp_region_lit ?_
          first | refine pY ha (yAddN (by rfl) (by rfl) ⟨by omega, by omega⟩) rfl fun a ha => ?_ | refine pY ha (yAdd (by rfl) (by rfl)) rfl fun a ha => ?_
          refine pY ha (yMove (by rfl)) rfl fun a ha => ?_
          refine pZ ?_
          rw [outC_at hx] at h3
          have hm := maxE x.n
          have hao := addC_ok h2 (x := max x.n 0) (by omega)
          have hao2 := addC_ok h2 (x := (cnt x.text.data.toList : Int)) (by omega)
          first
            | (rw [if_pos hc13] at h3; exact ⟨(i + 1, addC m (max x.n 0)), ⟨by simp only; omega, hao, h3, has4 ha (by rw [← hm]; rfl) (by rfl) (by rfl) (by rfl), hs.drop.drop⟩, by simp only; omega⟩)
            | (rw [if_neg hc13, if_pos hc20] at h3; exact ⟨(i + 1, addC m (cnt x.text.data.toList)), ⟨by simp only; omega, hao2, h3, has4 ha (by rfl) (by rfl) (by rfl) (by rfl), hs.drop.drop⟩, by simp only; omega⟩)
            | (rw [if_neg hc13, if_neg hc20] at h3; exact ⟨(i + 1, m), ⟨by simp only; omega, h2, h3, has4 ha (by rfl) (by rfl) (by rfl) (by rfl), hs.drop.drop⟩, by simp only; omega⟩)
        · refine wp_skip ?_
          refine hK6 _ _ ?_
          refine wp_region_lit ?_
          first | refine pY ha (yAddN (by rfl) (by rfl) ⟨by omega, by omega⟩) rfl fun a ha => ?_ | refine pY ha (yAdd (by rfl) (by rfl)) rfl fun a ha => ?_
          refine pY ha (yMove (by rfl)) rfl fun a ha => ?_
          refine pZ ?_
          rw [outC_at hx] at h3
          have hm := maxE x.n
          have hao := addC_ok h2 (x := max x.n 0) (by omega)
          have hao2 := addC_ok h2 (x := (cnt x.text.data.toList : Int)) (by omega)
          first
            | (rw [if_pos hc13] at h3; exact ⟨(i + 1, addC m (max x.n 0)), ⟨by simp only; omega, hao, h3, has4 ha (by rw [← hm]; rfl) (by rfl) (by rfl) (by rfl), hs.drop.drop⟩, by simp only; omega⟩)
            | (rw [if_neg hc13, if_pos hc20] at h3; exact ⟨(i + 1, addC m (cnt x.text.data.toList)), ⟨by simp only; omega, hao2, h3, has4 ha (by rfl) (by rfl) (by rfl) (by rfl), hs.drop.drop⟩, by simp only; omega⟩)
            | (rw [if_neg hc13, if_neg hc20] at h3; exact ⟨(i + 1, m), ⟨by simp only; omega, h2, h3, has4 ha (by rfl) (by rfl) (by rfl) (by rfl), hs.drop.drop⟩, by simp only; omega⟩)
    · refine wp_exit ?_
      refine hK2 _ _ ?_
      refine wp_seq_k fun K11 hK11 => ?_
      refine wp_region_lit ?_
      refine pY ha (yMove (by rfl)) rfl fun a ha => ?_
      refine pY ha (yAssign (by rfl)) rfl fun a ha => ?_
      refine pZ ?_
      refine hK11 _ _ ?_
      refine wp_ret ?_
      show bodyPost Tryd.prog Tryd.f81 _ .ret _ _
      refine ret1 rfl ha (by rfl) ?_
      rw [List.drop_eq_nil_of_le (by omega)] at h3; exact ⟨congrArg (Value.int .i64) h3, hs.drop⟩
/-- A part as the machine holds it. -/
def mC (x : Comp) : Prop := x.n ≤ 9223372036854775807 ∧ x.text.size ≤ 1000000000
theorem OpCheck_c (hT : Tabs W) {A : Option Addr} {n c : Nat} {xs : List Comp} (hsz : ∀ x ∈ xs, mC x) (hs : Sep W w cs) (hk : Pick cs (.rd kComp (.slice A n c) xs) r) :
    Calls P 68 #[.slice A n c] w (Rt fun v w' => v = .int .i64 (opE xs) ∧ Sep W w' cs) := by
  obtain ⟨rfl, hl⟩ := hs.rd_shape hk
  unfold maxLen at hl
  refine enter Tryd.func68 Tryd.ntmps68 rfl rfl fun a (ha : Has a 20 [(0, _)]) => ?_
  refine wp_seq_k fun K1 hK1 => ?_
  refine wp_region_lit ?_
  refine pY ha (yAssign (by rfl)) rfl fun a ha => ?_
  refine pZ ?_
  refine hK1 _ _ ?_
  refine wp_seq_k fun K2 hK2 => ?_
  refine wp_block ?_
  refine wp_seq_k fun K3 hK3 => ?_
  refine wp_region_lit ?_
  refine pY ha (yMove (by rfl)) rfl fun a ha => ?_
  refine pY ha (yLenS Tryd.runUnderlying41 (by rfl)) rfl fun a ha => ?_
  refine pY ha (yGtr (by rfl) (by rfl)) rfl fun a ha => ?_
  refine pY ha (yAssign (by rfl)) rfl fun a ha => ?_
  refine pZ ?_
  refine hK3 _ _ ?_
  first | refine cDec ha (by rfl) (fun hc3 => ?_) (fun hc3 => ?_) | refine cSplit ha (by rfl) (fun hc3 => ?_) (fun hc3 => ?_)
  · refine wp_seq_k fun K4 hK4 => ?_
    refine wp_region_lit ?_
    refine pY ha (yAssign (by rfl)) rfl fun a ha => ?_
    refine pZ ?_
    refine hK4 _ _ ?_
    refine wp_ret ?_
    show bodyPost Tryd.prog Tryd.f68 _ .ret _ _
    refine ret1 rfl ha (by rfl) ?_
    refine ⟨congrArg (Value.int .i64) ?_, hs⟩
    unfold opE
    first
      | (rw [if_pos (by omega)])
      | (rw [if_neg (by omega), if_pos (by simpa using hc7)])
      | (rw [if_neg (by omega), if_neg (by rw [hn]; decide), if_pos (by omega)])
      | (rw [if_neg (by omega), if_neg (by rw [hn]; decide), if_neg (by omega)])
  · refine wp_seq_k fun K5 hK5 => ?_
    refine wp_region_lit ?_
    refine pY ha (yMove (by rfl)) rfl fun a ha => ?_
    refine pC ha (nCall Tryd.call79 (by rfl)) rfl (Normal_c hT (xs := xs) (fun x hx => by have := (hsz x hx).2; omega) hs hk) ?_
    rintro v w ⟨rfl, hs⟩ a ha
    refine pY ha (yNot (by rfl)) rfl fun a ha => ?_
    refine pY ha (yAssign (by rfl)) rfl fun a ha => ?_
    refine pZ ?_
    refine hK5 _ _ ?_
    first | refine cNDec ha (by rfl) (fun hc7 => ?_) (fun hc7 => ?_) | refine cDec ha (by rfl) (fun hc7 => ?_) (fun hc7 => ?_) | refine cSplit ha (by rfl) (fun hc7 => ?_) (fun hc7 => ?_)
    · refine wp_seq_k fun K6 hK6 => ?_
      refine wp_region_lit ?_
      refine pY ha (yAssign (by rfl)) rfl fun a ha => ?_
      refine pZ ?_
      refine hK6 _ _ ?_
      refine wp_ret ?_
      show bodyPost Tryd.prog Tryd.f68 _ .ret _ _
      refine ret1 rfl ha (by rfl) ?_
      refine ⟨congrArg (Value.int .i64) ?_, hs⟩
      unfold opE
      first
        | (rw [if_pos (by omega)])
        | (rw [if_neg (by omega), if_pos (by simpa using hc7)])
        | (rw [if_neg (by omega), if_neg (by rw [hn]; decide), if_pos (by omega)])
        | (rw [if_neg (by omega), if_neg (by rw [hn]; decide), if_neg (by omega)])
    · have hn : normC xs = true := by simpa using hc7
      have hO : ∀ x ∈ xs, i64C x ∧ x.text.size ≤ 1000000000 ∧ (x.kind = 2 → okText x.text.data.toList = true) := fun x hx => by
        obtain ⟨i, hi, rfl⟩ := List.mem_iff_getElem.1 hx
        have hg := allN_iff.1 hn i hi
        unfold goodC at hg
        rw [Bool.and_eq_true, List.getD_eq_getElem?_getD, List.getElem?_eq_getElem hi, Option.getD_some] at hg
        refine ⟨(hsz _ hx).1, (hsz _ hx).2, fun hk => ?_⟩
        rcases snd_ok hg.1 with ⟨_, e⟩ | ⟨e, _⟩
        · exact e
        · exact absurd hk e
      refine wp_seq_k fun K7 hK7 => ?_
      refine wp_region_lit ?_
      refine pY ha (yMove (by rfl)) rfl fun a ha => ?_
      refine pC ha (nCall Tryd.call80 (by rfl)) rfl (Base_c (xs := xs) (fun x hx => (hsz x hx).1) hs hk) ?_
      rintro v w ⟨rfl, hs⟩ a ha
      refine pY ha (yGtr (by rfl) (by rfl)) rfl fun a ha => ?_
      refine pY ha (yMove (by rfl)) rfl fun a ha => ?_
      refine gDec (t := 15) ha (by rfl) (fun hg3 hp3 => ?_) (fun hg3 hp3 => ?_)
      · rw [hg3] at ha
        have hp3 := of_decide_eq_false hg3
        refine gOn ha rfl rfl (by rfl) ?_
        refine pY ha (yMove (by rfl)) rfl fun a ha => ?_
        refine gOn ha rfl rfl (by rfl) ?_
        refine pC ha (nCall Tryd.call81 (by rfl)) rfl (Out_c (xs := xs) hO hs hk) ?_
        rintro v w ⟨rfl, hs⟩ a ha
        refine gOn ha rfl rfl (by rfl) ?_
        refine pY ha (yGtr (by rfl) (by rfl)) rfl fun a ha => ?_
        first | refine pY ha (yPickT (by rfl) (by rfl)) rfl fun a ha => ?_ | refine pY ha (yPickF (by rfl) (by rfl)) rfl fun a ha => ?_ | refine pY ha (yPick (by rfl) (by rfl) (by rfl)) rfl fun a ha => ?_
        refine pY ha (yAssign (by rfl)) rfl fun a ha => ?_
        refine pZ ?_
        refine hK7 _ _ ?_
        first | refine cNDec ha (by rfl) (fun hc11 => ?_) (fun hc11 => ?_) | refine cDec ha (by rfl) (fun hc11 => ?_) (fun hc11 => ?_) | refine cSplit ha (by rfl) (fun hc11 => ?_) (fun hc11 => ?_)
        · refine wp_seq_k fun K8 hK8 => ?_
          refine wp_region_lit ?_
          refine pY ha (yAssign (by rfl)) rfl fun a ha => ?_
          refine pZ ?_
          refine hK8 _ _ ?_
          refine wp_ret ?_
          show bodyPost Tryd.prog Tryd.f68 _ .ret _ _
          refine ret1 rfl ha (by rfl) ?_
          refine ⟨congrArg (Value.int .i64) ?_, hs⟩
          unfold opE
          first
            | (rw [if_pos (by omega)])
            | (rw [if_neg (by omega), if_pos (by simpa using hc7)])
            | (rw [if_neg (by omega), if_neg (by rw [hn]; decide), if_pos (by omega)])
            | (rw [if_neg (by omega), if_neg (by rw [hn]; decide), if_neg (by omega)])
        · refine wp_skip ?_
          refine hK2 _ _ ?_
          refine wp_seq_k fun K9 hK9 => ?_
          refine wp_region_lit ?_
          refine pY ha (yAssign (by rfl)) rfl fun a ha => ?_
          refine pZ ?_
          refine hK9 _ _ ?_
          refine wp_ret ?_
          show bodyPost Tryd.prog Tryd.f68 _ .ret _ _
          refine ret1 rfl ha (by rfl) ?_
          refine ⟨congrArg (Value.int .i64) ?_, hs⟩
          unfold opE
          first
            | (rw [if_pos (by omega)])
            | (rw [if_neg (by omega), if_pos (by simpa using hc7)])
            | (rw [if_neg (by omega), if_neg (by rw [hn]; decide), if_pos (by omega)])
            | (rw [if_neg (by omega), if_neg (by rw [hn]; decide), if_neg (by omega)])
      · rw [hg3] at ha
        have hp3 := of_decide_eq_true hg3
        refine gOff ha rfl rfl (by rfl) rfl rfl fun a ha => ?_
        refine gOff ha rfl rfl (by rfl) rfl rfl fun a ha => ?_
        refine gOff ha rfl rfl (by rfl) rfl rfl fun a ha => ?_
        first | refine pY ha (yPickT (by rfl) (by rfl)) rfl fun a ha => ?_ | refine pY ha (yPickF (by rfl) (by rfl)) rfl fun a ha => ?_ | refine pY ha (yPick (by rfl) (by rfl) (by rfl)) rfl fun a ha => ?_
        refine pY ha (yAssign (by rfl)) rfl fun a ha => ?_
        refine pZ ?_
        refine hK7 _ _ ?_
        refine cTrue ha (by rfl) ?_
        refine wp_seq_k fun K10 hK10 => ?_
        refine wp_region_lit ?_
        refine pY ha (yAssign (by rfl)) rfl fun a ha => ?_
        refine pZ ?_
        refine hK10 _ _ ?_
        refine wp_ret ?_
        show bodyPost Tryd.prog Tryd.f68 _ .ret _ _
        refine ret1 rfl ha (by rfl) ?_
        refine ⟨congrArg (Value.int .i64) ?_, hs⟩
        unfold opE
        first
          | (rw [if_pos (by omega)])
          | (rw [if_neg (by omega), if_pos (by simpa using hc7)])
          | (rw [if_neg (by omega), if_neg (by rw [hn]; decide), if_pos (by omega)])
          | (rw [if_neg (by omega), if_neg (by rw [hn]; decide), if_neg (by omega)])
end
end Go.Proofs.YtnlhbkaieoogfaaDoor

set_option linter.unusedVariables false
set_option linter.unusedSimpArgs false
namespace Go.Proofs.YtnlhbkaieoogfaaDoor
open Go.RowKit Go.Lib
/-- An act as the machine holds it. -/
def mA (x : Actn) : Prop := x.name.size ≤ 1000000000 ∧ x.ops.length ≤ 1000000000 ∧ ∀ c ∈ x.ops, mC c
def bad1 (x : Actn) : Prop := x.kind < 1 ∨ x.kind > 4 ∨ x ≠ plainA x ∨ x.id < 1 ∨ x.id > 1099511627776
instance (a : Actn) : Decidable (bad1 a) := by unfold bad1; infer_instance
theorem bad_iff (x : Actn) : badA x ↔ bad1 x ∨ x.parent < 0 ∨ x.parent > 1099511627776 ∨ ((x.kind = 1 ∨ x.kind = 3) ∧ nameOk x.name = false) := by
  unfold badA bad1
  simp only [or_assoc]
section
variable {W w : World} {cs r r2 : List Ch}
theorem Names_c {A : Option Addr} {n c : Nat} {x : Actn} (hs : Sep W w cs) :
    Calls P 66 #[.agg [.int .i64 x.kind, .int .i64 x.id, .int .i64 x.parent, .string x.name, .bool x.dir, .slice A n c].toArray] w (Rt fun v w' => v = .bool (decide (x.kind = 1 ∨ x.kind = 3)) ∧ Sep W w' cs) := by
  refine enter Tryd.func66 Tryd.ntmps66 rfl rfl fun a (ha : Has a 11 [(0, _)]) => ?_
  refine wp_seq_k fun K1 hK1 => ?_
  refine wp_region_lit ?_
  refine pBox (es := _) ha (by rfl) (by rfl) hs rfl fun b w hs a ha => ?_
  refine pY ha (yAssign (by rfl)) rfl fun a ha => ?_
  refine pZ ?_
  refine hK1 _ _ ?_
  refine wp_seq_k fun K2 hK2 => ?_
  refine wp_region_lit ?_
  refine pY ha (yFieldA Tryd.runUnderlying43 rfl Tryd.sizeOf3 rfl (by rfl)) rfl fun a ha => ?_
  first | refine pY ha (yLoadB Tryd.isAgg3 hs (by rfl) (by repeat first | exact .here | apply Pick.there) (by rfl)) rfl fun a ha => ?_ | refine pY ha (yLoadR Tryd.isAgg3 hs (by rfl) (by repeat first | exact .here | apply Pick.there) (by rfl)) rfl fun a ha => ?_ | refine pY ha (yLoadR0 Tryd.isAgg3 hs (by rfl) (by repeat first | exact .here | apply Pick.there) (by rfl)) rfl fun a ha => ?_
  refine pY ha (yEql (by rfl) (by rfl)) rfl fun a ha => ?_
  refine pY ha (yMove (by rfl)) rfl fun a ha => ?_
  refine gDec (t := 6) ha (by rfl) (fun hg3 hp3 => ?_) (fun hg3 hp3 => ?_)
  · rw [hg3] at ha
    refine gOn ha rfl rfl (by rfl) ?_
    refine pY ha (yFieldA Tryd.runUnderlying43 rfl Tryd.sizeOf3 rfl (by rfl)) rfl fun a ha => ?_
    refine gOn ha rfl rfl (by rfl) ?_
    first | refine pY ha (yLoadB Tryd.isAgg3 hs (by rfl) (by repeat first | exact .here | apply Pick.there) (by rfl)) rfl fun a ha => ?_ | refine pY ha (yLoadR Tryd.isAgg3 hs (by rfl) (by repeat first | exact .here | apply Pick.there) (by rfl)) rfl fun a ha => ?_ | refine pY ha (yLoadR0 Tryd.isAgg3 hs (by rfl) (by repeat first | exact .here | apply Pick.there) (by rfl)) rfl fun a ha => ?_
    refine gOn ha rfl rfl (by rfl) ?_
    refine pY ha (yEql (by rfl) (by rfl)) rfl fun a ha => ?_
    first | refine pY ha (yPickT (by rfl) (by rfl)) rfl fun a ha => ?_ | refine pY ha (yPickF (by rfl) (by rfl)) rfl fun a ha => ?_ | refine pY ha (yPick (by rfl) (by rfl) (by rfl)) rfl fun a ha => ?_
    refine pY ha (yAssign (by rfl)) rfl fun a ha => ?_
    refine pZ ?_
    refine hK2 _ _ ?_
    refine wp_ret ?_
    show bodyPost Tryd.prog Tryd.f66 _ .ret _ _
    refine ret1 rfl ha (by rfl) ?_
    refine ⟨congrArg Value.bool ?_, hs.drop⟩
    first
      | exact (decide_eq_true (.inl (of_decide_eq_true hg3))).symm
      | exact decide_eq_decide.2 ⟨.inr, fun h => h.resolve_left (of_decide_eq_false hg3)⟩
  · rw [hg3] at ha
    refine gOff ha rfl rfl (by rfl) rfl rfl fun a ha => ?_
    refine gOff ha rfl rfl (by rfl) rfl rfl fun a ha => ?_
    refine gOff ha rfl rfl (by rfl) rfl rfl fun a ha => ?_
    first | refine pY ha (yPickT (by rfl) (by rfl)) rfl fun a ha => ?_ | refine pY ha (yPickF (by rfl) (by rfl)) rfl fun a ha => ?_ | refine pY ha (yPick (by rfl) (by rfl) (by rfl)) rfl fun a ha => ?_
    refine pY ha (yAssign (by rfl)) rfl fun a ha => ?_
    refine pZ ?_
    refine hK2 _ _ ?_
    refine wp_ret ?_
    show bodyPost Tryd.prog Tryd.f66 _ .ret _ _
    refine ret1 rfl ha (by rfl) ?_
    refine ⟨congrArg Value.bool ?_, hs.drop⟩
    first
      | exact (decide_eq_true (.inl (of_decide_eq_true hg3))).symm
      | exact decide_eq_decide.2 ⟨.inr, fun h => h.resolve_left (of_decide_eq_false hg3)⟩
theorem One_c (hT : Tabs W) {A : Option Addr} {n c : Nat} {x : Actn} (hm : mA x) (hs : Sep W w cs) (hk : Pick cs (.rd kComp (.slice A n c) x.ops) r) :
    Calls P 46 #[.agg [.int .i64 x.kind, .int .i64 x.id, .int .i64 x.parent, .string x.name, .bool x.dir, .slice A n c].toArray] w (Rt fun v w' => v = .int .i64 (oneE x) ∧ Sep W w' cs) := by
  obtain ⟨hm1, hm2, hm3⟩ := hm
  refine enter Tryd.func46 Tryd.ntmps46 rfl rfl fun a (ha : Has a 58 [(0, _)]) => ?_
  refine wp_seq_k fun K1 hK1 => ?_
  refine wp_region_lit ?_
  refine pBox (es := _) ha (by rfl) (by rfl) hs rfl fun b1 w hs a ha => ?_
  refine pY ha (yAssign (by rfl)) rfl fun a ha => ?_
  refine pZ ?_
  refine hK1 _ _ ?_
  refine wp_seq_k fun K2 hK2 => ?_
  refine cutC (fun a w => Has a 58 [(3, .bool (decide (bad1 x))), (1, .pointer (some ⟨b1, 0, none⟩))] ∧ Sep W w (.blk b1 43 [.int .i64 x.kind, .int .i64 x.id, .int .i64 x.parent, .string x.name, .bool x.dir, .slice A n c] :: cs)) ?_ ?_
  · refine dStart (fun w => ∃ rs, Sep W w (.blk b1 43 [.int .i64 x.kind, .int .i64 x.id, .int .i64 x.parent, .string x.name, .bool x.dir, .slice A n c] :: rs)) [] (by kernel_rfl) rfl (⟨_, hs.drew.pick (by repeat first | exact .here | apply Pick.there)⟩) ?_
    have hs := Sep.drew hs
    generalize World.drew _ = w at hs ⊢
    refine dP 0 rfl (by kernel_rfl) ha won0 (fun _ => yFieldA Tryd.runUnderlying43 rfl Tryd.sizeOf3 rfl (by rfl)) rfl (fun _ _ _ h => nomatch h.1) fun a ha => ?_
    first | refine dT 1 rfl (by kernel_rfl) ha won0 (fun _ ⟨rs, hs⟩ => yLoadB Tryd.isAgg3 hs (by rfl) (by repeat first | exact .here | apply Pick.there) (by rfl)) (⟨_, hs.pick (by repeat first | exact .here | apply Pick.there)⟩) rfl (fun _ _ _ h => nomatch h.1) fun a ha => ?_ | refine dT 1 rfl (by kernel_rfl) ha won0 (fun _ ⟨rs, hs⟩ => yLoadR Tryd.isAgg3 hs (by rfl) (by repeat first | exact .here | apply Pick.there) (by rfl)) (⟨_, hs.pick (by repeat first | exact .here | apply Pick.there)⟩) rfl (fun _ _ _ h => nomatch h.1) fun a ha => ?_ | refine dT 1 rfl (by kernel_rfl) ha won0 (fun _ ⟨rs, hs⟩ => yLoadR0 Tryd.isAgg3 hs (by rfl) (by repeat first | exact .here | apply Pick.there) (by rfl)) (⟨_, hs.pick (by repeat first | exact .here | apply Pick.there)⟩) rfl (fun _ _ _ h => nomatch h.1) fun a ha => ?_
    refine dP 2 rfl (by kernel_rfl) ha won0 (fun _ => yLss (by rfl) (by rfl)) rfl (fun _ _ _ h => nomatch h.1) fun a ha => ?_
    refine dP 3 rfl (by kernel_rfl) ha won0 (fun _ => yMove (by rfl)) rfl (fun _ _ _ h => nomatch h.1) fun a ha => ?_
    refine gDec (t := 7) ha (by rfl) (fun hg3 hp3 => ?_) (fun hg3 hp3 => ?_)
    · rw [hg3] at ha
      refine dP 4 rfl (by kernel_rfl) ha (won1 rfl rfl (by rfl)) (fun _ => yFieldA Tryd.runUnderlying43 rfl Tryd.sizeOf3 rfl (by rfl)) rfl (fun _ _ _ h => nomatch h.1) fun a ha => ?_
      first | refine dT 5 rfl (by kernel_rfl) ha (won1 rfl rfl (by rfl)) (fun _ ⟨rs, hs⟩ => yLoadB Tryd.isAgg3 hs (by rfl) (by repeat first | exact .here | apply Pick.there) (by rfl)) (⟨_, hs.pick (by repeat first | exact .here | apply Pick.there)⟩) rfl (fun _ _ _ h => nomatch h.1) fun a ha => ?_ | refine dT 5 rfl (by kernel_rfl) ha (won1 rfl rfl (by rfl)) (fun _ ⟨rs, hs⟩ => yLoadR Tryd.isAgg3 hs (by rfl) (by repeat first | exact .here | apply Pick.there) (by rfl)) (⟨_, hs.pick (by repeat first | exact .here | apply Pick.there)⟩) rfl (fun _ _ _ h => nomatch h.1) fun a ha => ?_ | refine dT 5 rfl (by kernel_rfl) ha (won1 rfl rfl (by rfl)) (fun _ ⟨rs, hs⟩ => yLoadR0 Tryd.isAgg3 hs (by rfl) (by repeat first | exact .here | apply Pick.there) (by rfl)) (⟨_, hs.pick (by repeat first | exact .here | apply Pick.there)⟩) rfl (fun _ _ _ h => nomatch h.1) fun a ha => ?_
      refine dP 6 rfl (by kernel_rfl) ha (won1 rfl rfl (by rfl)) (fun _ => yGtr (by rfl) (by rfl)) rfl (fun _ _ _ h => nomatch h.1) fun a ha => ?_
      first | refine dP 7 rfl (by kernel_rfl) ha won0 (fun _ => yPickT (by rfl) (by rfl)) rfl (fun _ _ _ h => nomatch h.1) fun a ha => ?_ | refine dP 7 rfl (by kernel_rfl) ha won0 (fun _ => yPickF (by rfl) (by rfl)) rfl (fun _ _ _ h => nomatch h.1) fun a ha => ?_ | refine dP 7 rfl (by kernel_rfl) ha won0 (fun _ => yPick (by rfl) (by rfl) (by rfl)) rfl (fun _ _ _ h => nomatch h.1) fun a ha => ?_
      refine dP 8 rfl (by kernel_rfl) ha won0 (fun _ => yMove (by rfl)) rfl (fun _ _ _ h => nomatch h.1) fun a ha => ?_
      refine gSplit (t := 12) ha (by rfl) (fun hg8 => ?_) (fun hg8 => ?_)
      · rw [hg8] at ha
        have hp8 := of_decide_eq_false hg8
        first | refine dT 9 rfl (by kernel_rfl) ha (won1 rfl rfl (by rfl)) (fun _ ⟨rs, hs⟩ => yLoadRA Tryd.isAgg43 Tryd.sizeOf43 hs (by rfl) (by repeat first | exact .here | apply Pick.there) (by rfl)) (⟨_, hs.pick (by repeat first | exact .here | apply Pick.there)⟩) rfl (fun _ _ _ h => nomatch h.1) fun a ha => ?_ | refine dT 9 rfl (by kernel_rfl) ha (won1 rfl rfl (by rfl)) (fun _ ⟨rs, hs⟩ => yLoadBA Tryd.isAgg43 Tryd.sizeOf43 hs (by rfl) (by repeat first | exact .here | apply Pick.there) (by rfl)) (⟨_, hs.pick (by repeat first | exact .here | apply Pick.there)⟩) rfl (fun _ _ _ h => nomatch h.1) fun a ha => ?_
        first | refine dT 10 rfl (by kernel_rfl) ha (won1 rfl rfl (by rfl)) (fun _ ⟨rs, hs⟩ => yLoadRA Tryd.isAgg43 Tryd.sizeOf43 hs (by rfl) (by repeat first | exact .here | apply Pick.there) (by rfl)) (⟨_, hs.pick (by repeat first | exact .here | apply Pick.there)⟩) rfl (fun _ _ _ h => nomatch h.1) fun a ha => ?_ | refine dT 10 rfl (by kernel_rfl) ha (won1 rfl rfl (by rfl)) (fun _ ⟨rs, hs⟩ => yLoadBA Tryd.isAgg43 Tryd.sizeOf43 hs (by rfl) (by repeat first | exact .here | apply Pick.there) (by rfl)) (⟨_, hs.pick (by repeat first | exact .here | apply Pick.there)⟩) rfl (fun _ _ _ h => nomatch h.1) fun a ha => ?_
        refine dC 11 rfl (by kernel_rfl) rfl ha (won1 rfl rfl (by rfl)) (nCall Tryd.call65 (by rfl)) rfl (PlainA_c (x := x) hs (.there hk) hm2) ?_
        rintro v w ⟨A2, c2, rfl, hs⟩
        refine ⟨⟨_, hs.pick (by repeat first | exact .here | apply Pick.there)⟩, fun a ha => ?_⟩
        refine dC 12 rfl (by kernel_rfl) rfl ha (won1 rfl rfl (by rfl)) (nCall Tryd.call58 (by rfl)) rfl (SameA_c (x := x) (y := plainA x) hs (.there (.there hk)) .here) ?_
        rintro v w ⟨rfl, hs⟩
        refine ⟨⟨_, hs.pick (by repeat first | exact .here | apply Pick.there)⟩, fun a ha => ?_⟩
        refine dP 13 rfl (by kernel_rfl) ha (won1 rfl rfl (by rfl)) (fun _ => yNot (by rfl)) rfl (fun _ _ _ h => nomatch h.1) fun a ha => ?_
        first | refine dP 14 rfl (by kernel_rfl) ha won0 (fun _ => yPickT (by rfl) (by rfl)) rfl (fun _ _ _ h => nomatch h.1) fun a ha => ?_ | refine dP 14 rfl (by kernel_rfl) ha won0 (fun _ => yPickF (by rfl) (by rfl)) rfl (fun _ _ _ h => nomatch h.1) fun a ha => ?_ | refine dP 14 rfl (by kernel_rfl) ha won0 (fun _ => yPick (by rfl) (by rfl) (by rfl)) rfl (fun _ _ _ h => nomatch h.1) fun a ha => ?_
        refine dP 15 rfl (by kernel_rfl) ha won0 (fun _ => yMove (by rfl)) rfl (fun _ _ _ h => nomatch h.1) fun a ha => ?_
        refine gSplit (t := 19) ha (by rfl) (fun hg15 => ?_) (fun hg15 => ?_)
        · rw [hg15] at ha
          have hp15 : x = plainA x := by simpa using hg15
          refine dP 16 rfl (by kernel_rfl) ha (won1 rfl rfl (by rfl)) (fun _ => yFieldA Tryd.runUnderlying43 rfl Tryd.sizeOf3 rfl (by rfl)) rfl (fun _ _ _ h => nomatch h.1) fun a ha => ?_
          first | refine dT 17 rfl (by kernel_rfl) ha (won1 rfl rfl (by rfl)) (fun _ ⟨rs, hs⟩ => yLoadB Tryd.isAgg3 hs (by rfl) (by repeat first | exact .here | apply Pick.there) (by rfl)) (⟨_, hs.pick (by repeat first | exact .here | apply Pick.there)⟩) rfl (fun _ _ _ h => nomatch h.1) fun a ha => ?_ | refine dT 17 rfl (by kernel_rfl) ha (won1 rfl rfl (by rfl)) (fun _ ⟨rs, hs⟩ => yLoadR Tryd.isAgg3 hs (by rfl) (by repeat first | exact .here | apply Pick.there) (by rfl)) (⟨_, hs.pick (by repeat first | exact .here | apply Pick.there)⟩) rfl (fun _ _ _ h => nomatch h.1) fun a ha => ?_ | refine dT 17 rfl (by kernel_rfl) ha (won1 rfl rfl (by rfl)) (fun _ ⟨rs, hs⟩ => yLoadR0 Tryd.isAgg3 hs (by rfl) (by repeat first | exact .here | apply Pick.there) (by rfl)) (⟨_, hs.pick (by repeat first | exact .here | apply Pick.there)⟩) rfl (fun _ _ _ h => nomatch h.1) fun a ha => ?_
          refine dP 18 rfl (by kernel_rfl) ha (won1 rfl rfl (by rfl)) (fun _ => yLss (by rfl) (by rfl)) rfl (fun _ _ _ h => nomatch h.1) fun a ha => ?_
          first | refine dP 19 rfl (by kernel_rfl) ha won0 (fun _ => yPickT (by rfl) (by rfl)) rfl (fun _ _ _ h => nomatch h.1) fun a ha => ?_ | refine dP 19 rfl (by kernel_rfl) ha won0 (fun _ => yPickF (by rfl) (by rfl)) rfl (fun _ _ _ h => nomatch h.1) fun a ha => ?_ | refine dP 19 rfl (by kernel_rfl) ha won0 (fun _ => yPick (by rfl) (by rfl) (by rfl)) rfl (fun _ _ _ h => nomatch h.1) fun a ha => ?_
          refine dP 20 rfl (by kernel_rfl) ha won0 (fun _ => yMove (by rfl)) rfl (fun _ _ _ h => nomatch h.1) fun a ha => ?_
          refine gSplit (t := 24) ha (by rfl) (fun hg20 => ?_) (fun hg20 => ?_)
          · rw [hg20] at ha
            have hp20 := of_decide_eq_false hg20
            refine dP 21 rfl (by kernel_rfl) ha (won1 rfl rfl (by rfl)) (fun _ => yFieldA Tryd.runUnderlying43 rfl Tryd.sizeOf3 rfl (by rfl)) rfl (fun _ _ _ h => nomatch h.1) fun a ha => ?_
            first | refine dT 22 rfl (by kernel_rfl) ha (won1 rfl rfl (by rfl)) (fun _ ⟨rs, hs⟩ => yLoadB Tryd.isAgg3 hs (by rfl) (by repeat first | exact .here | apply Pick.there) (by rfl)) (⟨_, hs.pick (by repeat first | exact .here | apply Pick.there)⟩) rfl (fun _ _ _ h => nomatch h.1) fun a ha => ?_ | refine dT 22 rfl (by kernel_rfl) ha (won1 rfl rfl (by rfl)) (fun _ ⟨rs, hs⟩ => yLoadR Tryd.isAgg3 hs (by rfl) (by repeat first | exact .here | apply Pick.there) (by rfl)) (⟨_, hs.pick (by repeat first | exact .here | apply Pick.there)⟩) rfl (fun _ _ _ h => nomatch h.1) fun a ha => ?_ | refine dT 22 rfl (by kernel_rfl) ha (won1 rfl rfl (by rfl)) (fun _ ⟨rs, hs⟩ => yLoadR0 Tryd.isAgg3 hs (by rfl) (by repeat first | exact .here | apply Pick.there) (by rfl)) (⟨_, hs.pick (by repeat first | exact .here | apply Pick.there)⟩) rfl (fun _ _ _ h => nomatch h.1) fun a ha => ?_
            refine dP 23 rfl (by kernel_rfl) ha (won1 rfl rfl (by rfl)) (fun _ => yGtr (by rfl) (by rfl)) rfl (fun _ _ _ h => nomatch h.1) fun a ha => ?_
            first | refine dP 24 rfl (by kernel_rfl) ha won0 (fun _ => yPickT (by rfl) (by rfl)) rfl (fun _ _ _ h => nomatch h.1) fun a ha => ?_ | refine dP 24 rfl (by kernel_rfl) ha won0 (fun _ => yPickF (by rfl) (by rfl)) rfl (fun _ _ _ h => nomatch h.1) fun a ha => ?_ | refine dP 24 rfl (by kernel_rfl) ha won0 (fun _ => yPick (by rfl) (by rfl) (by rfl)) rfl (fun _ _ _ h => nomatch h.1) fun a ha => ?_
            refine dP 25 rfl (by kernel_rfl) ha won0 (fun _ => yAssign (by rfl)) rfl (fun _ _ _ h => nomatch h.1) fun a ha => ?_
            refine dZ (by kernel_rfl) ?_
            refine ⟨rfl, ?_⟩
            first
              | exact ⟨has2 ha (bY (.inl hp3)) (by rfl), hs⟩
              | exact ⟨has2 ha (bY (.inr (.inl hp8))) (by rfl), hs⟩
              | exact ⟨has2 ha (bY (.inr (.inr (.inl hp15)))) (by rfl), hs.drop⟩
              | exact ⟨has2 ha (bY (.inr (.inr (.inr (.inl hp20))))) (by rfl), hs.drop⟩
              | exact ⟨has2 ha (bT ⟨fun h => .inr (.inr (.inr (.inr h))), fun h => (((h.resolve_left hp3).resolve_left hp8).resolve_left (fun q => q hp15)).resolve_left hp20⟩) (by rfl), hs.drop⟩
          · rw [hg20] at ha
            have hp20 := of_decide_eq_true hg20
            refine dOff 21 rfl (by kernel_rfl) ha rfl rfl (by rfl) rfl rfl (fun _ _ _ h => nomatch h.1) fun a ha => ?_
            refine dOff 22 rfl (by kernel_rfl) ha rfl rfl (by rfl) rfl rfl (fun _ _ _ h => nomatch h.1) fun a ha => ?_
            refine dOff 23 rfl (by kernel_rfl) ha rfl rfl (by rfl) rfl rfl (fun _ _ _ h => nomatch h.1) fun a ha => ?_
            first | refine dP 24 rfl (by kernel_rfl) ha won0 (fun _ => yPickT (by rfl) (by rfl)) rfl (fun _ _ _ h => nomatch h.1) fun a ha => ?_ | refine dP 24 rfl (by kernel_rfl) ha won0 (fun _ => yPickF (by rfl) (by rfl)) rfl (fun _ _ _ h => nomatch h.1) fun a ha => ?_ | refine dP 24 rfl (by kernel_rfl) ha won0 (fun _ => yPick (by rfl) (by rfl) (by rfl)) rfl (fun _ _ _ h => nomatch h.1) fun a ha => ?_
            refine dP 25 rfl (by kernel_rfl) ha won0 (fun _ => yAssign (by rfl)) rfl (fun _ _ _ h => nomatch h.1) fun a ha => ?_
            refine dZ (by kernel_rfl) ?_
            refine ⟨rfl, ?_⟩
            first
              | exact ⟨has2 ha (bY (.inl hp3)) (by rfl), hs⟩
              | exact ⟨has2 ha (bY (.inr (.inl hp8))) (by rfl), hs⟩
              | exact ⟨has2 ha (bY (.inr (.inr (.inl hp15)))) (by rfl), hs.drop⟩
              | exact ⟨has2 ha (bY (.inr (.inr (.inr (.inl hp20))))) (by rfl), hs.drop⟩
              | exact ⟨has2 ha (bT ⟨fun h => .inr (.inr (.inr (.inr h))), fun h => (((h.resolve_left hp3).resolve_left hp8).resolve_left (fun q => q hp15)).resolve_left hp20⟩) (by rfl), hs.drop⟩
        · rw [hg15] at ha
          have hp15 : x ≠ plainA x := by simpa using hg15
          refine dOff 16 rfl (by kernel_rfl) ha rfl rfl (by rfl) rfl rfl (fun _ _ _ h => nomatch h.1) fun a ha => ?_
          refine dOff 17 rfl (by kernel_rfl) ha rfl rfl (by rfl) rfl rfl (fun _ _ _ h => nomatch h.1) fun a ha => ?_
          refine dOff 18 rfl (by kernel_rfl) ha rfl rfl (by rfl) rfl rfl (fun _ _ _ h => nomatch h.1) fun a ha => ?_
          first | refine dP 19 rfl (by kernel_rfl) ha won0 (fun _ => yPickT (by rfl) (by rfl)) rfl (fun _ _ _ h => nomatch h.1) fun a ha => ?_ | refine dP 19 rfl (by kernel_rfl) ha won0 (fun _ => yPickF (by rfl) (by rfl)) rfl (fun _ _ _ h => nomatch h.1) fun a ha => ?_ | refine dP 19 rfl (by kernel_rfl) ha won0 (fun _ => yPick (by rfl) (by rfl) (by rfl)) rfl (fun _ _ _ h => nomatch h.1) fun a ha => ?_
          refine dP 20 rfl (by kernel_rfl) ha won0 (fun _ => yMove (by rfl)) rfl (fun _ _ _ h => nomatch h.1) fun a ha => ?_
          refine dOff 21 rfl (by kernel_rfl) ha rfl rfl (by rfl) rfl rfl (fun _ _ _ h => nomatch h.1) fun a ha => ?_
          refine dOff 22 rfl (by kernel_rfl) ha rfl rfl (by rfl) rfl rfl (fun _ _ _ h => nomatch h.1) fun a ha => ?_
          refine dOff 23 rfl (by kernel_rfl) ha rfl rfl (by rfl) rfl rfl (fun _ _ _ h => nomatch h.1) fun a ha => ?_
          first | refine dP 24 rfl (by kernel_rfl) ha won0 (fun _ => yPickT (by rfl) (by rfl)) rfl (fun _ _ _ h => nomatch h.1) fun a ha => ?_ | refine dP 24 rfl (by kernel_rfl) ha won0 (fun _ => yPickF (by rfl) (by rfl)) rfl (fun _ _ _ h => nomatch h.1) fun a ha => ?_ | refine dP 24 rfl (by kernel_rfl) ha won0 (fun _ => yPick (by rfl) (by rfl) (by rfl)) rfl (fun _ _ _ h => nomatch h.1) fun a ha => ?_
          refine dP 25 rfl (by kernel_rfl) ha won0 (fun _ => yAssign (by rfl)) rfl (fun _ _ _ h => nomatch h.1) fun a ha => ?_
          refine dZ (by kernel_rfl) ?_
          refine ⟨rfl, ?_⟩
          first
            | exact ⟨has2 ha (bY (.inl hp3)) (by rfl), hs⟩
            | exact ⟨has2 ha (bY (.inr (.inl hp8))) (by rfl), hs⟩
            | exact ⟨has2 ha (bY (.inr (.inr (.inl hp15)))) (by rfl), hs.drop⟩
            | exact ⟨has2 ha (bY (.inr (.inr (.inr (.inl hp20))))) (by rfl), hs.drop⟩
            | exact ⟨has2 ha (bT ⟨fun h => .inr (.inr (.inr (.inr h))), fun h => (((h.resolve_left hp3).resolve_left hp8).resolve_left (fun q => q hp15)).resolve_left hp20⟩) (by rfl), hs.drop⟩
      · rw [hg8] at ha
        have hp8 := of_decide_eq_true hg8
        refine dOff 9 rfl (by kernel_rfl) ha rfl rfl (by rfl) rfl rfl (fun _ _ _ h => nomatch h.1) fun a ha => ?_
        refine dOff 10 rfl (by kernel_rfl) ha rfl rfl (by rfl) rfl rfl (fun _ _ _ h => nomatch h.1) fun a ha => ?_
        refine dOff 11 rfl (by kernel_rfl) ha rfl rfl (by rfl) rfl rfl (fun _ _ _ h => nomatch h.1) fun a ha => ?_
        refine dOff 12 rfl (by kernel_rfl) ha rfl rfl (by rfl) rfl rfl (fun _ _ _ h => nomatch h.1) fun a ha => ?_
        refine dOff 13 rfl (by kernel_rfl) ha rfl rfl (by rfl) rfl rfl (fun _ _ _ h => nomatch h.1) fun a ha => ?_
        first | refine dP 14 rfl (by kernel_rfl) ha won0 (fun _ => yPickT (by rfl) (by rfl)) rfl (fun _ _ _ h => nomatch h.1) fun a ha => ?_ | refine dP 14 rfl (by kernel_rfl) ha won0 (fun _ => yPickF (by rfl) (by rfl)) rfl (fun _ _ _ h => nomatch h.1) fun a ha => ?_ | refine dP 14 rfl (by kernel_rfl) ha won0 (fun _ => yPick (by rfl) (by rfl) (by rfl)) rfl (fun _ _ _ h => nomatch h.1) fun a ha => ?_
        refine dP 15 rfl (by kernel_rfl) ha won0 (fun _ => yMove (by rfl)) rfl (fun _ _ _ h => nomatch h.1) fun a ha => ?_
        refine dOff 16 rfl (by kernel_rfl) ha rfl rfl (by rfl) rfl rfl (fun _ _ _ h => nomatch h.1) fun a ha => ?_
        refine dOff 17 rfl (by kernel_rfl) ha rfl rfl (by rfl) rfl rfl (fun _ _ _ h => nomatch h.1) fun a ha => ?_
        refine dOff 18 rfl (by kernel_rfl) ha rfl rfl (by rfl) rfl rfl (fun _ _ _ h => nomatch h.1) fun a ha => ?_
        first | refine dP 19 rfl (by kernel_rfl) ha won0 (fun _ => yPickT (by rfl) (by rfl)) rfl (fun _ _ _ h => nomatch h.1) fun a ha => ?_ | refine dP 19 rfl (by kernel_rfl) ha won0 (fun _ => yPickF (by rfl) (by rfl)) rfl (fun _ _ _ h => nomatch h.1) fun a ha => ?_ | refine dP 19 rfl (by kernel_rfl) ha won0 (fun _ => yPick (by rfl) (by rfl) (by rfl)) rfl (fun _ _ _ h => nomatch h.1) fun a ha => ?_
        refine dP 20 rfl (by kernel_rfl) ha won0 (fun _ => yMove (by rfl)) rfl (fun _ _ _ h => nomatch h.1) fun a ha => ?_
        refine dOff 21 rfl (by kernel_rfl) ha rfl rfl (by rfl) rfl rfl (fun _ _ _ h => nomatch h.1) fun a ha => ?_
        refine dOff 22 rfl (by kernel_rfl) ha rfl rfl (by rfl) rfl rfl (fun _ _ _ h => nomatch h.1) fun a ha => ?_
        refine dOff 23 rfl (by kernel_rfl) ha rfl rfl (by rfl) rfl rfl (fun _ _ _ h => nomatch h.1) fun a ha => ?_
        first | refine dP 24 rfl (by kernel_rfl) ha won0 (fun _ => yPickT (by rfl) (by rfl)) rfl (fun _ _ _ h => nomatch h.1) fun a ha => ?_ | refine dP 24 rfl (by kernel_rfl) ha won0 (fun _ => yPickF (by rfl) (by rfl)) rfl (fun _ _ _ h => nomatch h.1) fun a ha => ?_ | refine dP 24 rfl (by kernel_rfl) ha won0 (fun _ => yPick (by rfl) (by rfl) (by rfl)) rfl (fun _ _ _ h => nomatch h.1) fun a ha => ?_
        refine dP 25 rfl (by kernel_rfl) ha won0 (fun _ => yAssign (by rfl)) rfl (fun _ _ _ h => nomatch h.1) fun a ha => ?_
        refine dZ (by kernel_rfl) ?_
        refine ⟨rfl, ?_⟩
        first
          | exact ⟨has2 ha (bY (.inl hp3)) (by rfl), hs⟩
          | exact ⟨has2 ha (bY (.inr (.inl hp8))) (by rfl), hs⟩
          | exact ⟨has2 ha (bY (.inr (.inr (.inl hp15)))) (by rfl), hs.drop⟩
          | exact ⟨has2 ha (bY (.inr (.inr (.inr (.inl hp20))))) (by rfl), hs.drop⟩
          | exact ⟨has2 ha (bT ⟨fun h => .inr (.inr (.inr (.inr h))), fun h => (((h.resolve_left hp3).resolve_left hp8).resolve_left (fun q => q hp15)).resolve_left hp20⟩) (by rfl), hs.drop⟩
    · rw [hg3] at ha
      refine dOff 4 rfl (by kernel_rfl) ha rfl rfl (by rfl) rfl rfl (fun _ _ _ h => nomatch h.1) fun a ha => ?_
      refine dOff 5 rfl (by kernel_rfl) ha rfl rfl (by rfl) rfl rfl (fun _ _ _ h => nomatch h.1) fun a ha => ?_
      refine dOff 6 rfl (by kernel_rfl) ha rfl rfl (by rfl) rfl rfl (fun _ _ _ h => nomatch h.1) fun a ha => ?_
      first | refine dP 7 rfl (by kernel_rfl) ha won0 (fun _ => yPickT (by rfl) (by rfl)) rfl (fun _ _ _ h => nomatch h.1) fun a ha => ?_ | refine dP 7 rfl (by kernel_rfl) ha won0 (fun _ => yPickF (by rfl) (by rfl)) rfl (fun _ _ _ h => nomatch h.1) fun a ha => ?_ | refine dP 7 rfl (by kernel_rfl) ha won0 (fun _ => yPick (by rfl) (by rfl) (by rfl)) rfl (fun _ _ _ h => nomatch h.1) fun a ha => ?_
      refine dP 8 rfl (by kernel_rfl) ha won0 (fun _ => yMove (by rfl)) rfl (fun _ _ _ h => nomatch h.1) fun a ha => ?_
      refine dOff 9 rfl (by kernel_rfl) ha rfl rfl (by rfl) rfl rfl (fun _ _ _ h => nomatch h.1) fun a ha => ?_
      refine dOff 10 rfl (by kernel_rfl) ha rfl rfl (by rfl) rfl rfl (fun _ _ _ h => nomatch h.1) fun a ha => ?_
      refine dOff 11 rfl (by kernel_rfl) ha rfl rfl (by rfl) rfl rfl (fun _ _ _ h => nomatch h.1) fun a ha => ?_
      refine dOff 12 rfl (by kernel_rfl) ha rfl rfl (by rfl) rfl rfl (fun _ _ _ h => nomatch h.1) fun a ha => ?_
      refine dOff 13 rfl (by kernel_rfl) ha rfl rfl (by rfl) rfl rfl (fun _ _ _ h => nomatch h.1) fun a ha => ?_
      first | refine dP 14 rfl (by kernel_rfl) ha won0 (fun _ => yPickT (by rfl) (by rfl)) rfl (fun _ _ _ h => nomatch h.1) fun a ha => ?_ | refine dP 14 rfl (by kernel_rfl) ha won0 (fun _ => yPickF (by rfl) (by rfl)) rfl (fun _ _ _ h => nomatch h.1) fun a ha => ?_ | refine dP 14 rfl (by kernel_rfl) ha won0 (fun _ => yPick (by rfl) (by rfl) (by rfl)) rfl (fun _ _ _ h => nomatch h.1) fun a ha => ?_
      refine dP 15 rfl (by kernel_rfl) ha won0 (fun _ => yMove (by rfl)) rfl (fun _ _ _ h => nomatch h.1) fun a ha => ?_
      refine dOff 16 rfl (by kernel_rfl) ha rfl rfl (by rfl) rfl rfl (fun _ _ _ h => nomatch h.1) fun a ha => ?_
      refine dOff 17 rfl (by kernel_rfl) ha rfl rfl (by rfl) rfl rfl (fun _ _ _ h => nomatch h.1) fun a ha => ?_
      refine dOff 18 rfl (by kernel_rfl) ha rfl rfl (by rfl) rfl rfl (fun _ _ _ h => nomatch h.1) fun a ha => ?_
      first | refine dP 19 rfl (by kernel_rfl) ha won0 (fun _ => yPickT (by rfl) (by rfl)) rfl (fun _ _ _ h => nomatch h.1) fun a ha => ?_ | refine dP 19 rfl (by kernel_rfl) ha won0 (fun _ => yPickF (by rfl) (by rfl)) rfl (fun _ _ _ h => nomatch h.1) fun a ha => ?_ | refine dP 19 rfl (by kernel_rfl) ha won0 (fun _ => yPick (by rfl) (by rfl) (by rfl)) rfl (fun _ _ _ h => nomatch h.1) fun a ha => ?_
      refine dP 20 rfl (by kernel_rfl) ha won0 (fun _ => yMove (by rfl)) rfl (fun _ _ _ h => nomatch h.1) fun a ha => ?_
      refine dOff 21 rfl (by kernel_rfl) ha rfl rfl (by rfl) rfl rfl (fun _ _ _ h => nomatch h.1) fun a ha => ?_
      refine dOff 22 rfl (by kernel_rfl) ha rfl rfl (by rfl) rfl rfl (fun _ _ _ h => nomatch h.1) fun a ha => ?_
      refine dOff 23 rfl (by kernel_rfl) ha rfl rfl (by rfl) rfl rfl (fun _ _ _ h => nomatch h.1) fun a ha => ?_
      first | refine dP 24 rfl (by kernel_rfl) ha won0 (fun _ => yPickT (by rfl) (by rfl)) rfl (fun _ _ _ h => nomatch h.1) fun a ha => ?_ | refine dP 24 rfl (by kernel_rfl) ha won0 (fun _ => yPickF (by rfl) (by rfl)) rfl (fun _ _ _ h => nomatch h.1) fun a ha => ?_ | refine dP 24 rfl (by kernel_rfl) ha won0 (fun _ => yPick (by rfl) (by rfl) (by rfl)) rfl (fun _ _ _ h => nomatch h.1) fun a ha => ?_
      refine dP 25 rfl (by kernel_rfl) ha won0 (fun _ => yAssign (by rfl)) rfl (fun _ _ _ h => nomatch h.1) fun a ha => ?_
      refine dZ (by kernel_rfl) ?_
      refine ⟨rfl, ?_⟩
      first
        | exact ⟨has2 ha (bY (.inl hp3)) (by rfl), hs⟩
        | exact ⟨has2 ha (bY (.inr (.inl hp8))) (by rfl), hs⟩
        | exact ⟨has2 ha (bY (.inr (.inr (.inl hp15)))) (by rfl), hs.drop⟩
        | exact ⟨has2 ha (bY (.inr (.inr (.inr (.inl hp20))))) (by rfl), hs.drop⟩
        | exact ⟨has2 ha (bT ⟨fun h => .inr (.inr (.inr (.inr h))), fun h => (((h.resolve_left hp3).resolve_left hp8).resolve_left (fun q => q hp15)).resolve_left hp20⟩) (by rfl), hs.drop⟩
  rintro a w ⟨ha, hs⟩
  refine hK2 _ _ ?_
  refine wp_seq_k fun K3 hK3 => ?_
  refine wp_block ?_
  refine wp_seq_k fun K4 hK4 => ?_
  refine cutC (fun a w => Has a 58 [(29, .bool (decide (badA x))), (1, .pointer (some ⟨b1, 0, none⟩))] ∧ Sep W w (.blk b1 43 [.int .i64 x.kind, .int .i64 x.id, .int .i64 x.parent, .string x.name, .bool x.dir, .slice A n c] :: cs)) ?_ ?_
  · refine wp_region_lit ?_
    refine pY ha (yMove (by rfl)) rfl fun a ha => ?_
    refine pY ha (yMove (by rfl)) rfl fun a ha => ?_
    refine gSplit (t := 31) ha (by rfl) (fun hg1 => ?_) (fun hg1 => ?_)
    · rw [hg1] at ha
      have hp1 := of_decide_eq_false hg1
      refine gOn ha rfl rfl (by rfl) ?_
      refine pY ha (yFieldA Tryd.runUnderlying43 rfl Tryd.sizeOf3 rfl (by rfl)) rfl fun a ha => ?_
      refine gOn ha rfl rfl (by rfl) ?_
      first | refine pY ha (yLoadB Tryd.isAgg3 hs (by rfl) (by repeat first | exact .here | apply Pick.there) (by rfl)) rfl fun a ha => ?_ | refine pY ha (yLoadR Tryd.isAgg3 hs (by rfl) (by repeat first | exact .here | apply Pick.there) (by rfl)) rfl fun a ha => ?_ | refine pY ha (yLoadR0 Tryd.isAgg3 hs (by rfl) (by repeat first | exact .here | apply Pick.there) (by rfl)) rfl fun a ha => ?_
      refine gOn ha rfl rfl (by rfl) ?_
      refine pY ha (yLss (by rfl) (by rfl)) rfl fun a ha => ?_
      first | refine pY ha (yPickT (by rfl) (by rfl)) rfl fun a ha => ?_ | refine pY ha (yPickF (by rfl) (by rfl)) rfl fun a ha => ?_ | refine pY ha (yPick (by rfl) (by rfl) (by rfl)) rfl fun a ha => ?_
      refine pY ha (yMove (by rfl)) rfl fun a ha => ?_
      refine gSplit (t := 36) ha (by rfl) (fun hg6 => ?_) (fun hg6 => ?_)
      · rw [hg6] at ha
        have hp6 := of_decide_eq_false hg6
        refine gOn ha rfl rfl (by rfl) ?_
        refine pY ha (yFieldA Tryd.runUnderlying43 rfl Tryd.sizeOf3 rfl (by rfl)) rfl fun a ha => ?_
        refine gOn ha rfl rfl (by rfl) ?_
        first | refine pY ha (yLoadB Tryd.isAgg3 hs (by rfl) (by repeat first | exact .here | apply Pick.there) (by rfl)) rfl fun a ha => ?_ | refine pY ha (yLoadR Tryd.isAgg3 hs (by rfl) (by repeat first | exact .here | apply Pick.there) (by rfl)) rfl fun a ha => ?_ | refine pY ha (yLoadR0 Tryd.isAgg3 hs (by rfl) (by repeat first | exact .here | apply Pick.there) (by rfl)) rfl fun a ha => ?_
        refine gOn ha rfl rfl (by rfl) ?_
        refine pY ha (yGtr (by rfl) (by rfl)) rfl fun a ha => ?_
        first | refine pY ha (yPickT (by rfl) (by rfl)) rfl fun a ha => ?_ | refine pY ha (yPickF (by rfl) (by rfl)) rfl fun a ha => ?_ | refine pY ha (yPick (by rfl) (by rfl) (by rfl)) rfl fun a ha => ?_
        refine pY ha (yMove (by rfl)) rfl fun a ha => ?_
        refine gSplit (t := 41) ha (by rfl) (fun hg11 => ?_) (fun hg11 => ?_)
        · rw [hg11] at ha
          have hp11 := of_decide_eq_false hg11
          refine gOn ha rfl rfl (by rfl) ?_
          first | refine pY ha (yLoadRA Tryd.isAgg43 Tryd.sizeOf43 hs (by rfl) (by repeat first | exact .here | apply Pick.there) (by rfl)) rfl fun a ha => ?_ | refine pY ha (yLoadBA Tryd.isAgg43 Tryd.sizeOf43 hs (by rfl) (by repeat first | exact .here | apply Pick.there) (by rfl)) rfl fun a ha => ?_
          refine gOn ha rfl rfl (by rfl) ?_
          refine pC ha (nCall Tryd.call66 (by rfl)) rfl (Names_c (x := x) hs) ?_
          rintro v w ⟨rfl, hs⟩ a ha
          refine gOn ha rfl rfl (by rfl) ?_
          refine pY ha (yMove (by rfl)) rfl fun a ha => ?_
          refine gSplit (t := 44) ha (by rfl) (fun hg14 => ?_) (fun hg14 => ?_)
          · rw [hg14] at ha
            have hp14 := of_decide_eq_false hg14
            refine gOff ha rfl rfl (by rfl) rfl rfl fun a ha => ?_
            refine gOff ha rfl rfl (by rfl) rfl rfl fun a ha => ?_
            refine gOff ha rfl rfl (by rfl) rfl rfl fun a ha => ?_
            refine gOff ha rfl rfl (by rfl) rfl rfl fun a ha => ?_
            refine gOn ha rfl rfl (by rfl) ?_
            first | refine pY ha (yPickT (by rfl) (by rfl)) rfl fun a ha => ?_ | refine pY ha (yPickF (by rfl) (by rfl)) rfl fun a ha => ?_ | refine pY ha (yPick (by rfl) (by rfl) (by rfl)) rfl fun a ha => ?_
            first | refine pY ha (yPickT (by rfl) (by rfl)) rfl fun a ha => ?_ | refine pY ha (yPickF (by rfl) (by rfl)) rfl fun a ha => ?_ | refine pY ha (yPick (by rfl) (by rfl) (by rfl)) rfl fun a ha => ?_
            refine pY ha (yAssign (by rfl)) rfl fun a ha => ?_
            refine pZ ⟨rfl, ?_⟩
            first
              | exact ⟨has2 ha (bY ((bad_iff x).2 (.inl hp1))) (by rfl), hs⟩
              | exact ⟨has2 ha (bY ((bad_iff x).2 (.inr (.inl hp6)))) (by rfl), hs⟩
              | exact ⟨has2 ha (bY ((bad_iff x).2 (.inr (.inr (.inl hp11))))) (by rfl), hs⟩
              | exact ⟨has2 ha (bN ⟨fun h => (bad_iff x).2 (.inr (.inr (.inr ⟨hp14, by simpa using h⟩))), fun h => by have := (((bad_iff x).1 h).resolve_left hp1 |>.resolve_left hp6).resolve_left hp11; rw [this.2]; rfl⟩) (by rfl), hs⟩
              | exact ⟨has2 ha (bF (fun h => hp14 (((((bad_iff x).1 h).resolve_left hp1).resolve_left hp6).resolve_left hp11).1)) (by rfl), hs⟩
          · rw [hg14] at ha
            have hp14 := of_decide_eq_true hg14
            refine gOn ha rfl rfl (by rfl) ?_
            refine pY ha (yFieldA Tryd.runUnderlying43 rfl Tryd.sizeOf9 rfl (by rfl)) rfl fun a ha => ?_
            refine gOn ha rfl rfl (by rfl) ?_
            first | refine pY ha (yLoadB Tryd.isAgg9 hs (by rfl) (by repeat first | exact .here | apply Pick.there) (by rfl)) rfl fun a ha => ?_ | refine pY ha (yLoadR Tryd.isAgg9 hs (by rfl) (by repeat first | exact .here | apply Pick.there) (by rfl)) rfl fun a ha => ?_ | refine pY ha (yLoadR0 Tryd.isAgg9 hs (by rfl) (by repeat first | exact .here | apply Pick.there) (by rfl)) rfl fun a ha => ?_
            refine gOn ha rfl rfl (by rfl) ?_
            refine pC ha (nCall Tryd.call67 (by rfl)) rfl (Name_c x.name hm1 hs) ?_
            rintro v w ⟨rfl, hs⟩ a ha
            refine gOn ha rfl rfl (by rfl) ?_
            refine pY ha (yNot (by rfl)) rfl fun a ha => ?_
            refine gOn ha rfl rfl (by rfl) ?_
            first | refine pY ha (yPickT (by rfl) (by rfl)) rfl fun a ha => ?_ | refine pY ha (yPickF (by rfl) (by rfl)) rfl fun a ha => ?_ | refine pY ha (yPick (by rfl) (by rfl) (by rfl)) rfl fun a ha => ?_
            first | refine pY ha (yPickT (by rfl) (by rfl)) rfl fun a ha => ?_ | refine pY ha (yPickF (by rfl) (by rfl)) rfl fun a ha => ?_ | refine pY ha (yPick (by rfl) (by rfl) (by rfl)) rfl fun a ha => ?_
            refine pY ha (yAssign (by rfl)) rfl fun a ha => ?_
            refine pZ ⟨rfl, ?_⟩
            first
              | exact ⟨has2 ha (bY ((bad_iff x).2 (.inl hp1))) (by rfl), hs⟩
              | exact ⟨has2 ha (bY ((bad_iff x).2 (.inr (.inl hp6)))) (by rfl), hs⟩
              | exact ⟨has2 ha (bY ((bad_iff x).2 (.inr (.inr (.inl hp11))))) (by rfl), hs⟩
              | exact ⟨has2 ha (bN ⟨fun h => (bad_iff x).2 (.inr (.inr (.inr ⟨hp14, by simpa using h⟩))), fun h => by have := (((bad_iff x).1 h).resolve_left hp1 |>.resolve_left hp6).resolve_left hp11; rw [this.2]; rfl⟩) (by rfl), hs⟩
              | exact ⟨has2 ha (bF (fun h => hp14 (((((bad_iff x).1 h).resolve_left hp1).resolve_left hp6).resolve_left hp11).1)) (by rfl), hs⟩
        · rw [hg11] at ha
          have hp11 := of_decide_eq_true hg11
          refine gOff ha rfl rfl (by rfl) rfl rfl fun a ha => ?_
          refine gOff ha rfl rfl (by rfl) rfl rfl fun a ha => ?_
          refine gOff ha rfl rfl (by rfl) rfl rfl fun a ha => ?_
          refine gOffU ha rfl rfl (by rfl) rfl fun a ha => ?_
          refine gOffU ha rfl rfl (by rfl) rfl fun a ha => ?_
          refine gOffU ha rfl rfl (by rfl) rfl fun a ha => ?_
          refine gOffU ha rfl rfl (by rfl) rfl fun a ha => ?_
          refine gOff ha rfl rfl (by rfl) rfl rfl fun a ha => ?_
          first | refine pY ha (yPickT (by rfl) (by rfl)) rfl fun a ha => ?_ | refine pY ha (yPickF (by rfl) (by rfl)) rfl fun a ha => ?_ | refine pY ha (yPick (by rfl) (by rfl) (by rfl)) rfl fun a ha => ?_
          refine pY ha (yAssign (by rfl)) rfl fun a ha => ?_
          refine pZ ⟨rfl, ?_⟩
          first
            | exact ⟨has2 ha (bY ((bad_iff x).2 (.inl hp1))) (by rfl), hs⟩
            | exact ⟨has2 ha (bY ((bad_iff x).2 (.inr (.inl hp6)))) (by rfl), hs⟩
            | exact ⟨has2 ha (bY ((bad_iff x).2 (.inr (.inr (.inl hp11))))) (by rfl), hs⟩
            | exact ⟨has2 ha (bN ⟨fun h => (bad_iff x).2 (.inr (.inr (.inr ⟨hp14, by simpa using h⟩))), fun h => by have := (((bad_iff x).1 h).resolve_left hp1 |>.resolve_left hp6).resolve_left hp11; rw [this.2]; rfl⟩) (by rfl), hs⟩
            | exact ⟨has2 ha (bF (fun h => hp14 (((((bad_iff x).1 h).resolve_left hp1).resolve_left hp6).resolve_left hp11).1)) (by rfl), hs⟩
      · rw [hg6] at ha
        have hp6 := of_decide_eq_true hg6
        refine gOff ha rfl rfl (by rfl) rfl rfl fun a ha => ?_
        refine gOff ha rfl rfl (by rfl) rfl rfl fun a ha => ?_
        refine gOff ha rfl rfl (by rfl) rfl rfl fun a ha => ?_
        first | refine pY ha (yPickT (by rfl) (by rfl)) rfl fun a ha => ?_ | refine pY ha (yPickF (by rfl) (by rfl)) rfl fun a ha => ?_ | refine pY ha (yPick (by rfl) (by rfl) (by rfl)) rfl fun a ha => ?_
        refine pY ha (yMove (by rfl)) rfl fun a ha => ?_
        refine gOff ha rfl rfl (by rfl) rfl rfl fun a ha => ?_
        refine gOff ha rfl rfl (by rfl) rfl rfl fun a ha => ?_
        refine gOff ha rfl rfl (by rfl) rfl rfl fun a ha => ?_
        refine gOffU ha rfl rfl (by rfl) rfl fun a ha => ?_
        refine gOffU ha rfl rfl (by rfl) rfl fun a ha => ?_
        refine gOffU ha rfl rfl (by rfl) rfl fun a ha => ?_
        refine gOffU ha rfl rfl (by rfl) rfl fun a ha => ?_
        refine gOff ha rfl rfl (by rfl) rfl rfl fun a ha => ?_
        first | refine pY ha (yPickT (by rfl) (by rfl)) rfl fun a ha => ?_ | refine pY ha (yPickF (by rfl) (by rfl)) rfl fun a ha => ?_ | refine pY ha (yPick (by rfl) (by rfl) (by rfl)) rfl fun a ha => ?_
        refine pY ha (yAssign (by rfl)) rfl fun a ha => ?_
        refine pZ ⟨rfl, ?_⟩
        first
          | exact ⟨has2 ha (bY ((bad_iff x).2 (.inl hp1))) (by rfl), hs⟩
          | exact ⟨has2 ha (bY ((bad_iff x).2 (.inr (.inl hp6)))) (by rfl), hs⟩
          | exact ⟨has2 ha (bY ((bad_iff x).2 (.inr (.inr (.inl hp11))))) (by rfl), hs⟩
          | exact ⟨has2 ha (bN ⟨fun h => (bad_iff x).2 (.inr (.inr (.inr ⟨hp14, by simpa using h⟩))), fun h => by have := (((bad_iff x).1 h).resolve_left hp1 |>.resolve_left hp6).resolve_left hp11; rw [this.2]; rfl⟩) (by rfl), hs⟩
          | exact ⟨has2 ha (bF (fun h => hp14 (((((bad_iff x).1 h).resolve_left hp1).resolve_left hp6).resolve_left hp11).1)) (by rfl), hs⟩
    · rw [hg1] at ha
      have hp1 := of_decide_eq_true hg1
      refine gOff ha rfl rfl (by rfl) rfl rfl fun a ha => ?_
      refine gOff ha rfl rfl (by rfl) rfl rfl fun a ha => ?_
      refine gOff ha rfl rfl (by rfl) rfl rfl fun a ha => ?_
      first | refine pY ha (yPickT (by rfl) (by rfl)) rfl fun a ha => ?_ | refine pY ha (yPickF (by rfl) (by rfl)) rfl fun a ha => ?_ | refine pY ha (yPick (by rfl) (by rfl) (by rfl)) rfl fun a ha => ?_
      refine pY ha (yMove (by rfl)) rfl fun a ha => ?_
      refine gOff ha rfl rfl (by rfl) rfl rfl fun a ha => ?_
      refine gOff ha rfl rfl (by rfl) rfl rfl fun a ha => ?_
      refine gOff ha rfl rfl (by rfl) rfl rfl fun a ha => ?_
      first | refine pY ha (yPickT (by rfl) (by rfl)) rfl fun a ha => ?_ | refine pY ha (yPickF (by rfl) (by rfl)) rfl fun a ha => ?_ | refine pY ha (yPick (by rfl) (by rfl) (by rfl)) rfl fun a ha => ?_
      refine pY ha (yMove (by rfl)) rfl fun a ha => ?_
      refine gOff ha rfl rfl (by rfl) rfl rfl fun a ha => ?_
      refine gOff ha rfl rfl (by rfl) rfl rfl fun a ha => ?_
      refine gOff ha rfl rfl (by rfl) rfl rfl fun a ha => ?_
      refine gOffU ha rfl rfl (by rfl) rfl fun a ha => ?_
      refine gOffU ha rfl rfl (by rfl) rfl fun a ha => ?_
      refine gOffU ha rfl rfl (by rfl) rfl fun a ha => ?_
      refine gOffU ha rfl rfl (by rfl) rfl fun a ha => ?_
      refine gOff ha rfl rfl (by rfl) rfl rfl fun a ha => ?_
      first | refine pY ha (yPickT (by rfl) (by rfl)) rfl fun a ha => ?_ | refine pY ha (yPickF (by rfl) (by rfl)) rfl fun a ha => ?_ | refine pY ha (yPick (by rfl) (by rfl) (by rfl)) rfl fun a ha => ?_
      refine pY ha (yAssign (by rfl)) rfl fun a ha => ?_
      refine pZ ⟨rfl, ?_⟩
      first
        | exact ⟨has2 ha (bY ((bad_iff x).2 (.inl hp1))) (by rfl), hs⟩
        | exact ⟨has2 ha (bY ((bad_iff x).2 (.inr (.inl hp6)))) (by rfl), hs⟩
        | exact ⟨has2 ha (bY ((bad_iff x).2 (.inr (.inr (.inl hp11))))) (by rfl), hs⟩
        | exact ⟨has2 ha (bN ⟨fun h => (bad_iff x).2 (.inr (.inr (.inr ⟨hp14, by simpa using h⟩))), fun h => by have := (((bad_iff x).1 h).resolve_left hp1 |>.resolve_left hp6).resolve_left hp11; rw [this.2]; rfl⟩) (by rfl), hs⟩
        | exact ⟨has2 ha (bF (fun h => hp14 (((((bad_iff x).1 h).resolve_left hp1).resolve_left hp6).resolve_left hp11).1)) (by rfl), hs⟩
  rintro a w ⟨ha, hs⟩
  refine hK4 _ _ ?_
  first | refine cDec ha (by rfl) (fun hc29 => ?_) (fun hc29 => ?_) | refine cSplit ha (by rfl) (fun hc29 => ?_) (fun hc29 => ?_)
  · refine wp_seq_k fun K5 hK5 => ?_
    refine wp_region_lit ?_
    refine pY ha (yAssign (by rfl)) rfl fun a ha => ?_
    refine pZ ?_
    refine hK5 _ _ ?_
    refine wp_ret ?_
    show bodyPost Tryd.prog Tryd.f46 _ .ret _ _
    refine ret1 rfl ha (by rfl) ?_
    refine ⟨congrArg (Value.int .i64) ?_, hs.drop⟩
    unfold oneE
    first
      | (rw [if_pos hc29])
      | (rw [if_neg hc29, if_pos hc51])
      | (rw [if_neg hc29, if_neg hc51])
  · refine wp_seq_k fun K6 hK6 => ?_
    refine wp_region_lit ?_
    refine pY ha (yFieldA Tryd.runUnderlying43 rfl Tryd.sizeOf3 rfl (by rfl)) rfl fun a ha => ?_
    first | refine pY ha (yLoadB Tryd.isAgg3 hs (by rfl) (by repeat first | exact .here | apply Pick.there) (by rfl)) rfl fun a ha => ?_ | refine pY ha (yLoadR Tryd.isAgg3 hs (by rfl) (by repeat first | exact .here | apply Pick.there) (by rfl)) rfl fun a ha => ?_ | refine pY ha (yLoadR0 Tryd.isAgg3 hs (by rfl) (by repeat first | exact .here | apply Pick.there) (by rfl)) rfl fun a ha => ?_
    refine pY ha (yEql (by rfl) (by rfl)) rfl fun a ha => ?_
    refine pY ha (yAssign (by rfl)) rfl fun a ha => ?_
    refine pZ ?_
    refine hK6 _ _ ?_
    first | refine cDec ha (by rfl) (fun hc51 => ?_) (fun hc51 => ?_) | refine cSplit ha (by rfl) (fun hc51 => ?_) (fun hc51 => ?_)
    · refine wp_seq_k fun K7 hK7 => ?_
      refine wp_region_lit ?_
      refine pY ha (yFieldA Tryd.runUnderlying43 rfl Tryd.sizeOf41 rfl (by rfl)) rfl fun a ha => ?_
      first | refine pY ha (yLoadB Tryd.isAgg41 hs (by rfl) (by repeat first | exact .here | apply Pick.there) (by rfl)) rfl fun a ha => ?_ | refine pY ha (yLoadR Tryd.isAgg41 hs (by rfl) (by repeat first | exact .here | apply Pick.there) (by rfl)) rfl fun a ha => ?_ | refine pY ha (yLoadR0 Tryd.isAgg41 hs (by rfl) (by repeat first | exact .here | apply Pick.there) (by rfl)) rfl fun a ha => ?_
      refine pC ha (nCall Tryd.call68 (by rfl)) rfl (OpCheck_c hT (xs := x.ops) hm3 hs (.there hk)) ?_
      rintro v w ⟨rfl, hs⟩ a ha
      refine pY ha (yAssign (by rfl)) rfl fun a ha => ?_
      refine pZ ?_
      refine hK7 _ _ ?_
      refine wp_ret ?_
      show bodyPost Tryd.prog Tryd.f46 _ .ret _ _
      refine ret1 rfl ha (by rfl) ?_
      refine ⟨congrArg (Value.int .i64) ?_, hs.drop⟩
      unfold oneE
      first
        | (rw [if_pos hc29])
        | (rw [if_neg hc29, if_pos hc51])
        | (rw [if_neg hc29, if_neg hc51])
    · refine wp_skip ?_
      refine hK3 _ _ ?_
      refine wp_seq_k fun K8 hK8 => ?_
      refine wp_region_lit ?_
      refine pY ha (yAssign (by rfl)) rfl fun a ha => ?_
      refine pZ ?_
      refine hK8 _ _ ?_
      refine wp_ret ?_
      show bodyPost Tryd.prog Tryd.f46 _ .ret _ _
      refine ret1 rfl ha (by rfl) ?_
      refine ⟨congrArg (Value.int .i64) ?_, hs.drop⟩
      unfold oneE
      first
        | (rw [if_pos hc29])
        | (rw [if_neg hc29, if_pos hc51])
        | (rw [if_neg hc29, if_neg hc51])
theorem TwinF_c {A A2 : Option Addr} {n n2 c c2 ba : Nat} {x a : Actn} (hs : Sep W w cs) (hk : Pick cs (.blk ba 43 [.int .i64 a.kind, .int .i64 a.id, .int .i64 a.parent, .string a.name, .bool a.dir, .slice A2 n2 c2]) r) :
    Calls P 48 #[.agg [.int .i64 x.kind, .int .i64 x.id, .int .i64 x.parent, .string x.name, .bool x.dir, .slice A n c].toArray, .pointer (some ⟨ba, 0, none⟩)] w (Rt fun v w' => v = .bool (decide (x.kind = 4 ∧ x.id = a.id)) ∧ Sep W w' cs) := by
  have hs := hs.pick hk
  have hk2 := hk
  refine enter Tryd.func48 Tryd.ntmps48 rfl rfl fun a (ha : Has a 14 [(0, _), (1, _)]) => ?_
  refine wp_seq_k fun K1 hK1 => ?_
  refine wp_region_lit ?_
  refine pBox (es := _) ha (by rfl) (by rfl) hs rfl fun b w hs a ha => ?_
  refine pY ha (yAssign (by rfl)) rfl fun a ha => ?_
  refine pZ ?_
  refine hK1 _ _ ?_
  refine wp_seq_k fun K2 hK2 => ?_
  refine wp_region_lit ?_
  refine pY ha (yFieldA Tryd.runUnderlying43 rfl Tryd.sizeOf3 rfl (by rfl)) rfl fun a ha => ?_
  first | refine pY ha (yLoadB Tryd.isAgg3 hs (by rfl) (by repeat first | exact .here | apply Pick.there) (by rfl)) rfl fun a ha => ?_ | refine pY ha (yLoadR Tryd.isAgg3 hs (by rfl) (by repeat first | exact .here | apply Pick.there) (by rfl)) rfl fun a ha => ?_ | refine pY ha (yLoadR0 Tryd.isAgg3 hs (by rfl) (by repeat first | exact .here | apply Pick.there) (by rfl)) rfl fun a ha => ?_
  refine pY ha (yEql (by rfl) (by rfl)) rfl fun a ha => ?_
  refine pY ha (yMove (by rfl)) rfl fun a ha => ?_
  refine gDec (t := 7) ha (by rfl) (fun hg3 hp3 => ?_) (fun hg3 hp3 => ?_)
  · rw [hg3] at ha
    refine gOff ha rfl rfl (by rfl) rfl rfl fun a ha => ?_
    refine gOff ha rfl rfl (by rfl) rfl rfl fun a ha => ?_
    refine gOff ha rfl rfl (by rfl) rfl rfl fun a ha => ?_
    refine gOff ha rfl rfl (by rfl) rfl rfl fun a ha => ?_
    refine gOff ha rfl rfl (by rfl) rfl rfl fun a ha => ?_
    first | refine pY ha (yPickT (by rfl) (by rfl)) rfl fun a ha => ?_ | refine pY ha (yPickF (by rfl) (by rfl)) rfl fun a ha => ?_ | refine pY ha (yPick (by rfl) (by rfl) (by rfl)) rfl fun a ha => ?_
    refine pY ha (yAssign (by rfl)) rfl fun a ha => ?_
    refine pZ ?_
    refine hK2 _ _ ?_
    refine wp_ret ?_
    show bodyPost Tryd.prog Tryd.f48 _ .ret _ _
    refine ret1 rfl ha (by rfl) ?_
    refine ⟨congrArg Value.bool ?_, hs.drop.unpick hk2⟩
    first
      | exact decide_eq_decide.2 ⟨fun h => ⟨of_decide_eq_true hg3, h⟩, fun h => h.2⟩
      | exact (decide_eq_false (fun h => of_decide_eq_false hg3 h.1)).symm
  · rw [hg3] at ha
    refine gOn ha rfl rfl (by rfl) ?_
    refine pY ha (yFieldA Tryd.runUnderlying43 rfl Tryd.sizeOf3 rfl (by rfl)) rfl fun a ha => ?_
    refine gOn ha rfl rfl (by rfl) ?_
    first | refine pY ha (yLoadB Tryd.isAgg3 hs (by rfl) (by repeat first | exact .here | apply Pick.there) (by rfl)) rfl fun a ha => ?_ | refine pY ha (yLoadR Tryd.isAgg3 hs (by rfl) (by repeat first | exact .here | apply Pick.there) (by rfl)) rfl fun a ha => ?_ | refine pY ha (yLoadR0 Tryd.isAgg3 hs (by rfl) (by repeat first | exact .here | apply Pick.there) (by rfl)) rfl fun a ha => ?_
    refine gOn ha rfl rfl (by rfl) ?_
    refine pY ha (yFieldA Tryd.runUnderlying43 rfl Tryd.sizeOf3 rfl (by rfl)) rfl fun a ha => ?_
    refine gOn ha rfl rfl (by rfl) ?_
    first | refine pY ha (yLoadB Tryd.isAgg3 hs (by rfl) (by repeat first | exact .here | apply Pick.there) (by rfl)) rfl fun a ha => ?_ | refine pY ha (yLoadR Tryd.isAgg3 hs (by rfl) (by repeat first | exact .here | apply Pick.there) (by rfl)) rfl fun a ha => ?_ | refine pY ha (yLoadR0 Tryd.isAgg3 hs (by rfl) (by repeat first | exact .here | apply Pick.there) (by rfl)) rfl fun a ha => ?_
    refine gOn ha rfl rfl (by rfl) ?_
    refine pY ha (yEql (by rfl) (by rfl)) rfl fun a ha => ?_
    first | refine pY ha (yPickT (by rfl) (by rfl)) rfl fun a ha => ?_ | refine pY ha (yPickF (by rfl) (by rfl)) rfl fun a ha => ?_ | refine pY ha (yPick (by rfl) (by rfl) (by rfl)) rfl fun a ha => ?_
    refine pY ha (yAssign (by rfl)) rfl fun a ha => ?_
    refine pZ ?_
    refine hK2 _ _ ?_
    refine wp_ret ?_
    show bodyPost Tryd.prog Tryd.f48 _ .ret _ _
    refine ret1 rfl ha (by rfl) ?_
    refine ⟨congrArg Value.bool ?_, hs.drop.unpick hk2⟩
    first
      | exact decide_eq_decide.2 ⟨fun h => ⟨of_decide_eq_true hg3, h⟩, fun h => h.2⟩
      | exact (decide_eq_false (fun h => of_decide_eq_false hg3 h.1)).symm
theorem any_at {α : Type} {f : α → Bool} {xs : List α} {i : Nat} {x : α} (h : (xs.take i).any f = false) (hx : xs[i]? = some x) (hf : f x = false) : (xs.take (i + 1)).any f = false := by
  rw [List.take_add_one, hx]; simp only [Option.toList, List.any_append, h, List.any_cons, hf, List.any_nil, Bool.or_self]
theorem any_yes {α : Type} {f : α → Bool} {xs : List α} {i : Nat} {x : α} (hx : xs[i]? = some x) (hf : f x = true) : xs.any f = true := List.any_eq_true.2 ⟨x, List.mem_of_getElem? hx, hf⟩
theorem IndexA_c {A A2 : Option Addr} {n n2 c c2 ba : Nat} {xs : List Actn} {a0 : Actn} (hs : Sep W w cs) (hk : Pick cs (.rd kActn (.slice A n c) xs) r) (hk2 : Pick cs (.blk ba 43 [.int .i64 a0.kind, .int .i64 a0.id, .int .i64 a0.parent, .string a0.name, .bool a0.dir, .slice A2 n2 c2]) r2) :
    Calls P 69 #[.slice A n c, .func (.func 48) #[] #[.pointer (some ⟨ba, 0, none⟩)]] w (Rt fun v w' => ∃ k : Int, v = .int .i64 k ∧ (0 ≤ k ↔ twinA xs a0 = true) ∧ Sep W w' cs) := by
  obtain ⟨rfl, hl⟩ := hs.rd_shape hk
  unfold maxLen at hl
  have hs := hs.cpR hk
  have hk3 := hk2
  refine enter Tryd.func69 Tryd.ntmps69 rfl rfl fun a (ha : Has a 19 [(0, _), (1, _)]) => ?_
  refine wp_seq_k fun K1 hK1 => ?_
  refine wp_region_lit ?_
  refine pY ha (yAssign (by rfl)) rfl fun a ha => ?_
  refine pZ ?_
  refine hK1 _ _ ?_
  refine wp_seq_k fun K2 hK2 => ?_
  refine wp_seq_k fun K3 hK3 => ?_
  refine wp_region_lit ?_
  refine pY ha (yMove (by rfl)) rfl fun a ha => ?_
  refine pY ha (yLenS Tryd.runUnderlying22 (by rfl)) rfl fun a ha => ?_
  refine pY ha (yMove (by rfl)) rfl fun a ha => ?_
  refine pZ ?_
  refine hK3 _ _ ?_
  refine wp_block ?_
  refine loopI (ι := Nat) (fun i a w => i ≤ xs.length ∧ twinA (xs.take i) a0 = false ∧ Has a 19 [(0, .slice A xs.length c), (1, .func (.func 48) #[] #[.pointer (some ⟨ba, 0, none⟩)]), (7, .int .i64 xs.length), (8, .int .i64 i)] ∧ Sep W w (.rd kActn (.slice A xs.length c) xs :: cs)) (fun i => xs.length - i) (0) ?_ ?_
  · exact ⟨Nat.zero_le _, rfl, has4 ha (by rfl) (by rfl) (by rfl) (by rfl), hs⟩
  · rintro i a w ⟨h1, h2, ha, hs⟩
    refine wp_seq_k fun K4 hK4 => ?_
    refine wp_region_lit ?_
    refine pY ha (yLss (by rfl) (by rfl)) rfl fun a ha => ?_
    refine pZ ?_
    refine hK4 _ _ ?_
    refine wp_seq_k fun K5 hK5 => ?_
    first | refine cDec ha (by rfl) (fun hc9 => ?_) (fun hc9 => ?_) | refine cSplit ha (by rfl) (fun hc9 => ?_) (fun hc9 => ?_)
    · obtain ⟨x, hx⟩ : ∃ x, xs[i]? = some x := ⟨_, List.getElem?_eq_getElem (by omega)⟩
      obtain ⟨b0, off, A', n', c', rfl, hs⟩ := hs.rd_actn .here hx
      refine wp_skip ?_
      refine hK5 _ _ ?_
      refine wp_seq_k fun K6 hK6 => ?_
      refine wp_block ?_
      refine wp_seq_k fun K7 hK7 => ?_
      refine wp_region_lit ?_
      refine pY ha (yMove (by rfl)) rfl fun a ha => ?_
      refine pY ha (yAssign (by rfl)) rfl fun a ha => ?_
      refine pZ ?_
      refine hK7 _ _ ?_
      refine wp_seq_k fun K8 hK8 => ?_
      refine wp_region_lit ?_
      refine pY ha (yMove (by rfl)) rfl fun a ha => ?_
      refine pY ha (yMove (by rfl)) rfl fun a ha => ?_
      refine pY ha (yMove (by rfl)) rfl fun a ha => ?_
      refine pY ha (yIndexA Tryd.runUnderlying22 Tryd.sizeOf43 (by rfl) (by rfl) (by omega) (by omega)) rfl fun a ha => ?_
      first | refine pY ha (yLoadRA Tryd.isAgg43 Tryd.sizeOf43 hs (by rfl) (by repeat first | exact .here | apply Pick.there) (by rfl)) rfl fun a ha => ?_ | refine pY ha (yLoadBA Tryd.isAgg43 Tryd.sizeOf43 hs (by rfl) (by repeat first | exact .here | apply Pick.there) (by rfl)) rfl fun a ha => ?_
      refine pC ha (nCallV (cl := [.pointer (some ⟨ba, 0, none⟩)]) Tryd.call48 (by rfl) (by rfl) (by rfl)) rfl (TwinF_c (x := x) (a := a0) hs (.there (.there (.there hk3)))) ?_
      rintro v w ⟨rfl, hs⟩ a ha
      refine pZ ?_
      refine hK8 _ _ ?_
      first | refine cNDec ha (by rfl) (fun hc16 => ?_) (fun hc16 => ?_) | refine cDec ha (by rfl) (fun hc16 => ?_) (fun hc16 => ?_) | refine cSplit ha (by rfl) (fun hc16 => ?_) (fun hc16 => ?_)
      · refine wp_seq_k fun K9 hK9 => ?_
        refine wp_region_lit ?_
        refine pY ha (yMove (by rfl)) rfl fun a ha => ?_
        refine pY ha (yAssign (by rfl)) rfl fun a ha => ?_
        refine pZ ?_
        refine hK9 _ _ ?_
        refine wp_ret ?_
        show bodyPost Tryd.prog Tryd.f69 _ .ret _ _
        refine ret1 rfl ha (by rfl) ?_
        exact ⟨i, rfl, ⟨fun _ => any_yes hx (decide_eq_true hc16), fun _ => by omega⟩, hs.drop.drop.drop⟩
      · refine wp_skip ?_
        refine hK6 _ _ ?_
        refine wp_region_lit ?_
        first | refine pY ha (yAddN (by rfl) (by rfl) ⟨by omega, by omega⟩) rfl fun a ha => ?_ | refine pY ha (yAdd (by rfl) (by rfl)) rfl fun a ha => ?_
        refine pY ha (yMove (by rfl)) rfl fun a ha => ?_
        refine pZ ?_
        exact ⟨i + 1, ⟨by omega, any_at h2 hx (decide_eq_false hc16), has4 ha (by rfl) (by rfl) (by rfl) (by rfl), hs.drop.drop⟩, by omega⟩
    · refine wp_exit ?_
      refine hK2 _ _ ?_
      refine wp_seq_k fun K10 hK10 => ?_
      refine wp_region_lit ?_
      refine pY ha (yAssign (by rfl)) rfl fun a ha => ?_
      refine pZ ?_
      refine hK10 _ _ ?_
      refine wp_ret ?_
      show bodyPost Tryd.prog Tryd.f69 _ .ret _ _
      refine ret1 rfl ha (by rfl) ?_
      rw [List.take_of_length_le (by omega)] at h2; exact ⟨-1, rfl, ⟨fun h => absurd h (by decide), fun h => by rw [h2] at h; cases h⟩, hs.drop⟩
theorem ContainsA_c {A A2 : Option Addr} {n n2 c c2 ba : Nat} {xs : List Actn} {a0 : Actn} (hs : Sep W w cs) (hk : Pick cs (.rd kActn (.slice A n c) xs) r) (hk2 : Pick cs (.blk ba 43 [.int .i64 a0.kind, .int .i64 a0.id, .int .i64 a0.parent, .string a0.name, .bool a0.dir, .slice A2 n2 c2]) r2) :
    Calls P 47 #[.slice A n c, .func (.func 48) #[] #[.pointer (some ⟨ba, 0, none⟩)]] w (Rt fun v w' => v = .bool (twinA xs a0) ∧ Sep W w' cs) := by
  refine enter Tryd.func47 Tryd.ntmps47 rfl rfl fun a (ha : Has a 9 [(0, _), (1, _)]) => ?_
  refine wp_seq_k fun K1 hK1 => ?_
  refine wp_region_lit ?_
  refine pY ha (yAssign (by rfl)) rfl fun a ha => ?_
  refine pZ ?_
  refine hK1 _ _ ?_
  refine wp_seq_k fun K2 hK2 => ?_
  refine wp_region_lit ?_
  refine pY ha (yMove (by rfl)) rfl fun a ha => ?_
  refine pY ha (yMove (by rfl)) rfl fun a ha => ?_
  refine pC ha (nCall Tryd.call69 (by rfl)) rfl (IndexA_c (a0 := a0) hs hk hk2) ?_
  rintro v w ⟨k, rfl, hkk, hs⟩ a ha
  refine pY ha (yGeq (by rfl) (by rfl)) rfl fun a ha => ?_
  refine pY ha (yAssign (by rfl)) rfl fun a ha => ?_
  refine pZ ?_
  refine hK2 _ _ ?_
  refine wp_ret ?_
  show bodyPost Tryd.prog Tryd.f47 _ .ret _ _
  refine ret1 rfl ha (by rfl) ?_
  refine ⟨congrArg Value.bool ?_, hs⟩
  rw [Bool.eq_iff_iff, decide_eq_true_eq]; exact hkk
theorem putsC_append (a b : List Comp) : putsC (a ++ b) = putsC a + putsC b := by
  induction a with
  | nil => simp [putsC]
  | cons x r ih => simp only [List.cons_append, putsC, ih]; omega
theorem putsA_append (a b : List Actn) : putsA (a ++ b) = putsA a + putsA b := by
  induction a with
  | nil => simp [putsA]
  | cons x r ih => simp only [List.cons_append, putsA, ih]; omega
theorem putsC_le {B : Nat} : ∀ (l : List Comp), (∀ c ∈ l, c.text.size ≤ B) → putsC l ≤ l.length * B
  | [], _ => by simp [putsC]
  | c :: r, h => by
    have h1 := putsC_le r (fun x hx => h x (by simp [hx]))
    have h2 := h c (by simp)
    have h3 := cnt_le c.text.data.toList
    have h4 : c.text.data.toList.length = c.text.size := by simp
    simp only [putsC, List.length_cons, Nat.add_mul, Nat.one_mul]
    split <;> omega
theorem putsA_le {B : Nat} : ∀ (l : List Actn), (∀ a ∈ l, putsC a.ops ≤ B) → putsA l ≤ l.length * B
  | [], _ => by simp [putsA]
  | a :: r, h => by
    have h1 := putsA_le r (fun x hx => h x (by simp [hx]))
    have h2 := h a (by simp)
    simp only [putsA, List.length_cons, Nat.add_mul, Nat.one_mul]
    omega
/-- Acts whose texts may be, and not too many. -/
def fitA (x : Actn) : Prop := x.ops.length ≤ 100 ∧ ∀ c ∈ x.ops, c.text.size ≤ 1000000000 ∧ (c.kind = 2 → okText c.text.data.toList = true)
theorem Puts_c {A : Option Addr} {n c : Nat} {xs : List Actn} (hn : xs.length ≤ 20) (hf : ∀ x ∈ xs, fitA x) (hs : Sep W w cs) (hk : Pick cs (.rd kActn (.slice A n c) xs) r) :
    Calls P 49 #[.slice A n c] w (Rt fun v w' => v = .int .i64 (putsA xs) ∧ Sep W w' cs) := by
  obtain ⟨rfl, hl⟩ := hs.rd_shape hk
  unfold maxLen at hl
  have hs := hs.cpR hk
  have hB : ∀ x ∈ xs, putsC x.ops ≤ 100000000000 := fun x hx => by
    obtain ⟨g1, g2⟩ := hf x hx
    have := putsC_le (B := 1000000000) x.ops (fun c hc => (g2 c hc).1)
    have : x.ops.length * 1000000000 ≤ 100 * 1000000000 := Nat.mul_le_mul_right _ g1
    omega
  refine enter Tryd.func49 Tryd.ntmps49 rfl rfl fun a (ha : Has a 31 [(0, _)]) => ?_
  refine wp_seq_k fun K1 hK1 => ?_
  refine wp_region_lit ?_
  refine pY ha (yAssign (by rfl)) rfl fun a ha => ?_
  refine pZ ?_
  refine hK1 _ _ ?_
  refine wp_seq_k fun K2 hK2 => ?_
  refine wp_seq_k fun K3 hK3 => ?_
  refine wp_region_lit ?_
  refine pY ha (yMove (by rfl)) rfl fun a ha => ?_
  refine pY ha (yLenS Tryd.runUnderlying22 (by rfl)) rfl fun a ha => ?_
  refine pY ha (yMove (by rfl)) rfl fun a ha => ?_
  refine pZ ?_
  refine hK3 _ _ ?_
  refine wp_block ?_
  refine loopI (ι := Nat) (fun i a w => i ≤ xs.length ∧ Has a 31 [(2, .int .i64 (putsA (xs.take i))), (7, .slice A xs.length c), (8, .int .i64 xs.length), (9, .int .i64 i)] ∧ Sep W w (.rd kActn (.slice A xs.length c) xs :: cs)) (fun i => xs.length - i) (0) ?_ ?_
  · exact ⟨Nat.zero_le _, has4 ha (by rfl) (by rfl) (by rfl) (by rfl), hs⟩
  · rintro i a w ⟨h1, ha, hs⟩
    refine wp_seq_k fun K4 hK4 => ?_
    refine wp_region_lit ?_
    refine pY ha (yLss (by rfl) (by rfl)) rfl fun a ha => ?_
    refine pZ ?_
    refine hK4 _ _ ?_
    refine wp_seq_k fun K5 hK5 => ?_
    first | refine cDec ha (by rfl) (fun hc10 => ?_) (fun hc10 => ?_) | refine cSplit ha (by rfl) (fun hc10 => ?_) (fun hc10 => ?_)
    · obtain ⟨x, hx⟩ : ∃ x, xs[i]? = some x := ⟨_, List.getElem?_eq_getElem (by omega)⟩
      obtain ⟨hx1, hx2⟩ := hf x (List.mem_of_getElem? hx)
      have hp1 := putsA_le (B := 100000000000) (xs.take i) (fun y hy => hB y (List.mem_of_mem_take hy))
      rw [List.length_take, Nat.min_eq_left (by omega)] at hp1
      obtain ⟨b0, off, A', n', c', rfl, hs⟩ := hs.rd_actn .here hx
      obtain ⟨rfl, hl2⟩ := hs.rd_shape (.there .here)
      refine wp_skip ?_
      refine hK5 _ _ ?_
      refine wp_seq_k fun K6 hK6 => ?_
      refine wp_block ?_
      refine wp_seq_k fun K7 hK7 => ?_
      refine wp_region_lit ?_
      refine pY ha (yIndexA Tryd.runUnderlying22 Tryd.sizeOf43 (by rfl) (by rfl) (by omega) (by omega)) rfl fun a ha => ?_
      first | refine pY ha (yLoadRA Tryd.isAgg43 Tryd.sizeOf43 hs (by rfl) (by repeat first | exact .here | apply Pick.there) (by rfl)) rfl fun a ha => ?_ | refine pY ha (yLoadBA Tryd.isAgg43 Tryd.sizeOf43 hs (by rfl) (by repeat first | exact .here | apply Pick.there) (by rfl)) rfl fun a ha => ?_
      refine pAlloc (zs := [.int .i64 0, .int .i64 0, .int .i64 0, .string ⟨#[]⟩, .bool false, .slice none 0 0]) ha Tryd.zeroValue43 (by rfl) hs rfl fun b w hs a ha => ?_
      refine pStoreA ha Tryd.sizeOf43 hs (by rfl) (by rfl) (by repeat first | exact .here | apply Pick.there) (by rfl) (by rfl) (by rfl) fun w hs => ?_
      refine pZ ?_
      refine hK7 _ _ ?_
      refine wp_seq_k fun K8 hK8 => ?_
      refine wp_region_lit ?_
      refine pY ha (yFieldA Tryd.runUnderlying43 rfl Tryd.sizeOf41 rfl (by rfl)) rfl fun a ha => ?_
      first | refine pY ha (yLoadB Tryd.isAgg41 hs (by rfl) (by repeat first | exact .here | apply Pick.there) (by rfl)) rfl fun a ha => ?_ | refine pY ha (yLoadR Tryd.isAgg41 hs (by rfl) (by repeat first | exact .here | apply Pick.there) (by rfl)) rfl fun a ha => ?_ | refine pY ha (yLoadR0 Tryd.isAgg41 hs (by rfl) (by repeat first | exact .here | apply Pick.there) (by rfl)) rfl fun a ha => ?_
      refine pY ha (yLenS Tryd.runUnderlying41 (by rfl)) rfl fun a ha => ?_
      refine pY ha (yMove (by rfl)) rfl fun a ha => ?_
      refine pZ ?_
      refine hK8 _ _ ?_
      refine wp_block ?_
      refine loopI (ι := Nat) (fun j a w => j ≤ x.ops.length ∧ Has a 31 [(2, .int .i64 ((putsA (xs.take i) + putsC (x.ops.take j) : Nat) : Int)), (7, .slice (some ⟨b0, off, none⟩) xs.length c), (8, .int .i64 xs.length), (9, .int .i64 i), (14, .slice A' x.ops.length c'), (15, .int .i64 x.ops.length), (16, .int .i64 j)] ∧ Sep W w (.rd kComp (.slice A' x.ops.length c') x.ops :: .rd kActn (.slice (some ⟨b0, off, none⟩) xs.length c) xs :: cs)) (fun j => x.ops.length - j) (0) ?_ ?_
      · exact ⟨Nat.zero_le _, ha.cons (has6 ha (by rfl) (by rfl) (by rfl) (by rfl) (by rfl) (by rfl)) (by rfl), (hs.pick (.there (.there .here))).drop2.drop2⟩
      · rintro j a w ⟨g1, ha, hs⟩
        refine wp_seq_k fun K9 hK9 => ?_
        refine wp_region_lit ?_
        refine pY ha (yLss (by rfl) (by rfl)) rfl fun a ha => ?_
        refine pZ ?_
        refine hK9 _ _ ?_
        refine wp_seq_k fun K10 hK10 => ?_
        first | refine cDec ha (by rfl) (fun hc17 => ?_) (fun hc17 => ?_) | refine cSplit ha (by rfl) (fun hc17 => ?_) (fun hc17 => ?_)
        · obtain ⟨y, hy⟩ : ∃ y, x.ops[j]? = some y := ⟨_, List.getElem?_eq_getElem (by omega)⟩
          obtain ⟨hy1, hy2⟩ := hx2 y (List.mem_of_getElem? hy)
          have hcl := cnt_le y.text.data.toList
          have hlen : y.text.data.toList.length = y.text.size := by simp
          have hp2 := putsC_le (B := 1000000000) (x.ops.take j) (fun z hz => (hx2 z (List.mem_of_mem_take hz)).1)
          rw [List.length_take, Nat.min_eq_left (by omega)] at hp2
          obtain ⟨b1, off1, rfl, hs⟩ := hs.rd_comp .here hy
          refine wp_skip ?_
          refine hK10 _ _ ?_
          refine wp_seq_k fun K11 hK11 => ?_
          refine wp_block ?_
          refine wp_seq_k fun K12 hK12 => ?_
          refine wp_region_lit ?_
          refine pY ha (yIndexA Tryd.runUnderlying41 Tryd.sizeOf46 (by rfl) (by rfl) (by omega) (by omega)) rfl fun a ha => ?_
          first | refine pY ha (yLoadRA Tryd.isAgg46 Tryd.sizeOf46 hs (by rfl) (by repeat first | exact .here | apply Pick.there) (by rfl)) rfl fun a ha => ?_ | refine pY ha (yLoadBA Tryd.isAgg46 Tryd.sizeOf46 hs (by rfl) (by repeat first | exact .here | apply Pick.there) (by rfl)) rfl fun a ha => ?_
          refine pAlloc (zs := [.int .i64 0, .int .i64 0, .string ⟨#[]⟩]) ha Tryd.zeroValue46 (by rfl) hs rfl fun b w hs a ha => ?_
          refine pStoreA ha Tryd.sizeOf46 hs (by rfl) (by rfl) (by repeat first | exact .here | apply Pick.there) (by rfl) (by rfl) (by rfl) fun w hs => ?_
          refine pZ ?_
          refine hK12 _ _ ?_
          refine wp_seq_k fun K13 hK13 => ?_
          refine wp_region_lit ?_
          refine pY ha (yFieldA Tryd.runUnderlying46 rfl Tryd.sizeOf3 rfl (by rfl)) rfl fun a ha => ?_
          first | refine pY ha (yLoadB Tryd.isAgg3 hs (by rfl) (by repeat first | exact .here | apply Pick.there) (by rfl)) rfl fun a ha => ?_ | refine pY ha (yLoadR Tryd.isAgg3 hs (by rfl) (by repeat first | exact .here | apply Pick.there) (by rfl)) rfl fun a ha => ?_ | refine pY ha (yLoadR0 Tryd.isAgg3 hs (by rfl) (by repeat first | exact .here | apply Pick.there) (by rfl)) rfl fun a ha => ?_
          refine pY ha (yEql (by rfl) (by rfl)) rfl fun a ha => ?_
          refine pZ ?_
          refine hK13 _ _ ?_
          first | refine cDec ha (by rfl) (fun hc22 => ?_) (fun hc22 => ?_) | refine cSplit ha (by rfl) (fun hc22 => ?_) (fun hc22 => ?_)
          · refine wp_region_lit ?_
            refine pY ha (yMove (by rfl)) rfl fun a ha => ?_
            refine pY ha (yFieldA Tryd.runUnderlying46 rfl Tryd.sizeOf9 rfl (by rfl)) rfl fun a ha => ?_
            first | refine pY ha (yLoadB Tryd.isAgg9 hs (by rfl) (by repeat first | exact .here | apply Pick.there) (by rfl)) rfl fun a ha => ?_ | refine pY ha (yLoadR Tryd.isAgg9 hs (by rfl) (by repeat first | exact .here | apply Pick.there) (by rfl)) rfl fun a ha => ?_ | refine pY ha (yLoadR0 Tryd.isAgg9 hs (by rfl) (by repeat first | exact .here | apply Pick.there) (by rfl)) rfl fun a ha => ?_
            refine pC ha (nCall Tryd.call70 (by rfl)) rfl (RuneCount_c y.text (hy2 hc22) (by omega) hs) ?_
            rintro v w ⟨rfl, hs⟩ a ha
            first | refine pY ha (yAddN (by rfl) (by rfl) ⟨by omega, by omega⟩) rfl fun a ha => ?_ | refine pY ha (yAdd (by rfl) (by rfl)) rfl fun a ha => ?_
            refine pY ha (yAssign (by rfl)) rfl fun a ha => ?_
            refine pZ ?_
            refine hK11 _ _ ?_
            refine wp_region_lit ?_
            first | refine pY ha (yAddN (by rfl) (by rfl) ⟨by omega, by omega⟩) rfl fun a ha => ?_ | refine pY ha (yAdd (by rfl) (by rfl)) rfl fun a ha => ?_
            refine pY ha (yMove (by rfl)) rfl fun a ha => ?_
            refine pZ ?_
            refine ⟨j + 1, ⟨by omega, ?_, hs.drop.drop⟩, by omega⟩
            have e1 : putsC (x.ops.take (j + 1)) = putsC (x.ops.take j) + (if y.kind = 2 then cnt y.text.data.toList else 0) := by rw [List.take_add_one, hy, putsC_append]; simp [putsC]
            first
              | (rw [if_pos hc22] at e1; rw [e1, ← Nat.add_assoc]; exact ha.cons (has6 ha (by rfl) (by rfl) (by rfl) (by rfl) (by rfl) (by rfl)) (by rfl))
              | (rw [if_neg hc22] at e1; rw [e1]; exact ha.cons (has6 ha (by rfl) (by rfl) (by rfl) (by rfl) (by rfl) (by rfl)) (by rfl))
          · refine wp_skip ?_
            refine hK11 _ _ ?_
            refine wp_region_lit ?_
            first | refine pY ha (yAddN (by rfl) (by rfl) ⟨by omega, by omega⟩) rfl fun a ha => ?_ | refine pY ha (yAdd (by rfl) (by rfl)) rfl fun a ha => ?_
            refine pY ha (yMove (by rfl)) rfl fun a ha => ?_
            refine pZ ?_
            refine ⟨j + 1, ⟨by omega, ?_, hs.drop.drop⟩, by omega⟩
            have e1 : putsC (x.ops.take (j + 1)) = putsC (x.ops.take j) + (if y.kind = 2 then cnt y.text.data.toList else 0) := by rw [List.take_add_one, hy, putsC_append]; simp [putsC]
            first
              | (rw [if_pos hc22] at e1; rw [e1, ← Nat.add_assoc]; exact ha.cons (has6 ha (by rfl) (by rfl) (by rfl) (by rfl) (by rfl) (by rfl)) (by rfl))
              | (rw [if_neg hc22] at e1; rw [e1]; exact ha.cons (has6 ha (by rfl) (by rfl) (by rfl) (by rfl) (by rfl) (by rfl)) (by rfl))
        · refine wp_exit ?_
          refine hK6 _ _ ?_
          refine wp_region_lit ?_
          first | refine pY ha (yAddN (by rfl) (by rfl) ⟨by omega, by omega⟩) rfl fun a ha => ?_ | refine pY ha (yAdd (by rfl) (by rfl)) rfl fun a ha => ?_
          refine pY ha (yMove (by rfl)) rfl fun a ha => ?_
          refine pZ ?_
          refine ⟨i + 1, ⟨by omega, ?_, hs.drop⟩, by omega⟩
          rw [show x.ops.take j = x.ops from List.take_of_length_le (by omega)] at ha
          have e1 : putsA (xs.take (i + 1)) = putsA (xs.take i) + putsC x.ops := by rw [List.take_add_one, hx, putsA_append]; simp [putsA]
          rw [e1]
          exact has4 ha (by rfl) (by rfl) (by rfl) (by rfl)
    · refine wp_exit ?_
      refine hK2 _ _ ?_
      refine wp_seq_k fun K14 hK14 => ?_
      refine wp_region_lit ?_
      refine pY ha (yMove (by rfl)) rfl fun a ha => ?_
      refine pY ha (yAssign (by rfl)) rfl fun a ha => ?_
      refine pZ ?_
      refine hK14 _ _ ?_
      refine wp_ret ?_
      show bodyPost Tryd.prog Tryd.f49 _ .ret _ _
      refine ret1 rfl ha (by rfl) ?_
      rw [List.take_of_length_le (by omega)]; exact ⟨rfl, hs.drop⟩
end
end Go.Proofs.YtnlhbkaieoogfaaDoor

set_option linter.unusedVariables false
set_option linter.unusedSimpArgs false
namespace Go.Proofs.YtnlhbkaieoogfaaDoor
open Go.RowKit Go.Lib
theorem bslChk76_3_0_1_2 {w : World} {l : List (Nat × Value)} {T : TypeId} {x0 x1 x2 : Operand} {v0 : Value} (h0 : ev l x0 = some v0) {v1 : Value} (h1 : ev l x1 = some v1) {v2 : Value} (h2 : ev l x2 = some v2) (o0 : v0.cells = #[v0] := by rfl) (o1 : v1.cells = #[v1] := by rfl) (o2 : v2.cells = #[v2] := by rfl) : Mk Tryd.prog w l (.buildSlice 76 3 #[(0, x0), (1, x1), (2, x2)]) T 3 3 [v0, v1, v2] := fun ρ o h ho _ => by
  have hm := mkvs (P := Tryd.prog) [v0, v1, v2] w Tryd.runUnderlying76 Tryd.sizeOf3 Tryd.zeroValue3 (by intro v hv; simp at hv; rcases hv with rfl | rfl | rfl <;> assumption) (by simp) (by simp)
  unfold execOp; rw [ho]
  simp only [h _ _ h0, h _ _ h1, h _ _ h2, List.map_toArray, List.map_cons, List.map_nil]
  simp only [List.length_cons, List.length_nil, prt] at hm
  simp at hm
  simp [hm]
theorem txn_err {l : List Actn} {i : Nat} (hn : l.length ≤ 20) (h0 : fe (actE l) i = 0) (hi : i < l.length) (h : actE l i ≠ 0) : txnE l = actE l i := by
  unfold txnE
  have := fe_at h0 h hi
  rw [if_neg (by omega), this, if_pos h]
theorem txn_end {l : List Actn} (hn : l.length ≤ 20) (h0 : fe (actE l) l.length = 0) : txnE l = if putsA l > 2000 then 3 else 0 := by
  unfold txnE
  rw [if_neg (by omega), h0]; simp
theorem actE_at {l : List Actn} {i : Nat} {x : Actn} (hx : l[i]? = some x) : actE l i = if oneE x ≠ 0 then oneE x else if x.kind = 4 ∧ twinA (l.take i) x = true then 1 else 0 := by
  unfold actE
  rw [List.getD_eq_getElem?_getD, hx]; rfl
theorem one_sound {a : Actn} (h : oneE a = 0) : a.ops.length ≤ 100 ∧ ∀ c ∈ a.ops, sndC c = true := by
  obtain ⟨hb, ho⟩ := one_ok h
  by_cases k4 : a.kind = 4
  · exact op_ok (ho k4)
  · unfold badA at hb
    simp only [not_or] at hb
    have b3 : a = plainA a := Classical.not_not.1 hb.2.2.1
    have : a.ops = [] := by
      rw [b3]; unfold plainA
      repeat' split
      all_goals first | rfl | exact absurd ‹a.kind = 4› k4
    rw [this]
    exact ⟨by simp, fun c hc => by cases hc⟩
theorem fit_of {a : Actn} (hm : mA a) (h : oneE a = 0) : fitA a := by
  obtain ⟨h1, h2⟩ := one_sound h
  refine ⟨h1, fun c hc => ⟨(hm.2.2 c hc).2, fun hk => ?_⟩⟩
  rcases snd_ok (h2 c hc) with ⟨_, e⟩ | ⟨e, _⟩
  · exact e
  · exact absurd hk e
theorem fe_one {l : List Actn} (h0 : fe (actE l) l.length = 0) : ∀ a ∈ l, oneE a = 0 := fun a ha => by
  obtain ⟨i, hi, rfl⟩ := List.mem_iff_getElem.1 ha
  have := fe_zero h0 i hi
  rw [actE_at (List.getElem?_eq_getElem hi)] at this
  split at this
  · rename_i h4; exact absurd this h4
  · rename_i h4; simpa using h4
section
variable {W w : World} {cs r r2 : List Ch}
theorem TxnCheck_c (hT : Tabs W) {A : Option Addr} {n c : Nat} {xs : List Actn} (hm : ∀ x ∈ xs, mA x) (hs : Sep W w cs) (hk : Pick cs (.rd kActn (.slice A n c) xs) r) :
    Calls P 21 #[.slice A n c] w (Rt fun v w' => v = .int .i64 (txnE xs) ∧ Sep W w' cs) := by
  obtain ⟨rfl, hl⟩ := hs.rd_shape hk
  unfold maxLen at hl
  have hs := hs.cpR hk
  refine enter Tryd.func21 Tryd.ntmps21 rfl rfl fun a (ha : Has a 34 [(0, _)]) => ?_
  refine wp_seq_k fun K1 hK1 => ?_
  refine wp_region_lit ?_
  refine pY ha (yAssign (by rfl)) rfl fun a ha => ?_
  refine pZ ?_
  refine hK1 _ _ ?_
  refine scopeF 1 99999 ?_
  refine wp_seq_k fun K2 hK2 => ?_
  refine wp_seq_k fun K3 hK3 => ?_
  refine wp_region_lit ?_
  refine pY ha (yMove (by rfl)) rfl fun a ha => ?_
  refine pY ha (yLenS Tryd.runUnderlying22 (by rfl)) rfl fun a ha => ?_
  refine pY ha (yGtr (by rfl) (by rfl)) rfl fun a ha => ?_
  refine pZ ?_
  refine hK3 _ _ ?_
  first | refine cDec ha (by rfl) (fun hc7 => ?_) (fun hc7 => ?_) | refine cSplit ha (by rfl) (fun hc7 => ?_) (fun hc7 => ?_)
  · refine wp_seq_k fun K4 hK4 => ?_
    refine wp_region_lit ?_
    refine pY ha (yAssign (by rfl)) rfl fun a ha => ?_
    refine pZ ?_
    refine hK4 _ _ ?_
    refine wp_ret ?_
    show bodyPost Tryd.prog Tryd.f21 _ .ret _ _
    refine ret1 rfl ha (by rfl) ?_
    first
      | (refine ⟨congrArg (Value.int .i64) ?_, hs.drop⟩; unfold txnE; rw [if_pos (by omega)])
      | (refine ⟨congrArg (Value.int .i64) ?_, hs.drop.drop.drop.drop⟩; rw [txn_err hn20 h2 (by omega) (by rw [actE_at hx, if_pos hc18]; exact hc18), actE_at hx, if_pos hc18])
      | (refine ⟨congrArg (Value.int .i64) ?_, hs.drop.drop.drop.drop⟩; have he : actE xs i = 1 := by (rw [actE_at hx, if_neg (by simpa using hc18), if_pos ⟨of_decide_eq_true hg3, hc28⟩])
         rw [txn_err hn20 h2 (by omega) (by rw [he]; decide), he])
      | (obtain rfl : i = xs.length := by omega
         refine ⟨congrArg (Value.int .i64) ?_, hs.drop⟩
         rw [txn_end hn20 h2]
         first | rw [if_pos (by omega)] | rw [if_neg (by omega)])
  · have hn20 : xs.length ≤ 20 := by omega
    refine wp_skip ?_
    refine hK2 _ _ ?_
    refine wp_seq_k fun K5 hK5 => ?_
    refine wp_seq_k fun K6 hK6 => ?_
    refine wp_region_lit ?_
    refine pY ha (yMove (by rfl)) rfl fun a ha => ?_
    refine pY ha (yLenS Tryd.runUnderlying22 (by rfl)) rfl fun a ha => ?_
    refine pY ha (yMove (by rfl)) rfl fun a ha => ?_
    refine pZ ?_
    refine hK6 _ _ ?_
    refine wp_block ?_
    refine loopI (ι := Nat) (fun i a w => i ≤ xs.length ∧ fe (actE xs) i = 0 ∧ Has a 34 [(0, .slice A xs.length c), (2, .int .i64 0), (8, .slice A xs.length c), (9, .int .i64 xs.length), (10, .int .i64 i)] ∧ Sep W w (.rd kActn (.slice A xs.length c) xs :: cs)) (fun i => xs.length - i) (0) ?_ ?_
    · exact ⟨Nat.zero_le _, rfl, has5 ha (by rfl) (by rfl) (by rfl) (by rfl) (by rfl), hs⟩
    · rintro i a w ⟨h1, h2, ha, hs⟩
      refine wp_seq_k fun K7 hK7 => ?_
      refine wp_region_lit ?_
      refine pY ha (yLss (by rfl) (by rfl)) rfl fun a ha => ?_
      refine pZ ?_
      refine hK7 _ _ ?_
      refine wp_seq_k fun K8 hK8 => ?_
      first | refine cDec ha (by rfl) (fun hc11 => ?_) (fun hc11 => ?_) | refine cSplit ha (by rfl) (fun hc11 => ?_) (fun hc11 => ?_)
      · obtain ⟨x, hx⟩ : ∃ x, xs[i]? = some x := ⟨_, List.getElem?_eq_getElem (by omega)⟩
        have hmx := hm x (List.mem_of_getElem? hx)
        obtain ⟨b0, off, A', n', c', rfl, hs⟩ := hs.rd_actn .here hx
        refine wp_skip ?_
        refine hK8 _ _ ?_
        refine wp_seq_k fun K9 hK9 => ?_
        refine wp_block ?_
        refine wp_seq_k fun K10 hK10 => ?_
        refine wp_region_lit ?_
        refine pY ha (yMove (by rfl)) rfl fun a ha => ?_
        refine pY ha (yIndexA Tryd.runUnderlying22 Tryd.sizeOf43 (by rfl) (by rfl) (by omega) (by omega)) rfl fun a ha => ?_
        first | refine pY ha (yLoadRA Tryd.isAgg43 Tryd.sizeOf43 hs (by rfl) (by repeat first | exact .here | apply Pick.there) (by rfl)) rfl fun a ha => ?_ | refine pY ha (yLoadBA Tryd.isAgg43 Tryd.sizeOf43 hs (by rfl) (by repeat first | exact .here | apply Pick.there) (by rfl)) rfl fun a ha => ?_
        refine pAlloc (zs := [.int .i64 0, .int .i64 0, .int .i64 0, .string ⟨#[]⟩, .bool false, .slice none 0 0]) ha Tryd.zeroValue43 (by rfl) hs rfl fun ba w hs a ha => ?_
        refine pY ha (yAssign (by rfl)) rfl fun a ha => ?_
        refine pStoreA ha Tryd.sizeOf43 hs (by rfl) (by rfl) (by repeat first | exact .here | apply Pick.there) (by rfl) (by rfl) (by rfl) fun w hs => ?_
        refine pZ ?_
        refine hK10 _ _ ?_
        refine wp_seq_k fun K11 hK11 => ?_
        refine wp_seq_k fun K12 hK12 => ?_
        refine wp_region_lit ?_
        first | refine pY ha (yLoadRA Tryd.isAgg43 Tryd.sizeOf43 hs (by rfl) (by repeat first | exact .here | apply Pick.there) (by rfl)) rfl fun a ha => ?_ | refine pY ha (yLoadBA Tryd.isAgg43 Tryd.sizeOf43 hs (by rfl) (by repeat first | exact .here | apply Pick.there) (by rfl)) rfl fun a ha => ?_
        refine pC ha (nCall Tryd.call46 (by rfl)) rfl (One_c hT (x := x) hmx hs (by repeat first | exact .here | apply Pick.there)) ?_
        rintro v w ⟨rfl, hs⟩ a ha
        refine pY ha (yAssign (by rfl)) rfl fun a ha => ?_
        refine pZ ?_
        refine hK12 _ _ ?_
        refine wp_seq_k fun K13 hK13 => ?_
        refine wp_region_lit ?_
        refine pY ha (yMove (by rfl)) rfl fun a ha => ?_
        refine pY ha (yNeq (by rfl) (by rfl)) rfl fun a ha => ?_
        refine pZ ?_
        refine hK13 _ _ ?_
        first | refine cNDec ha (by rfl) (fun hc18 => ?_) (fun hc18 => ?_) | refine cDec ha (by rfl) (fun hc18 => ?_) (fun hc18 => ?_) | refine cSplit ha (by rfl) (fun hc18 => ?_) (fun hc18 => ?_)
        · refine wp_goto ?_
          repeat (with_reducible first | refine gThen ?_ | refine gBlock ?_)
          refine gxF rfl rfl ?_
          refine wp_seq_k fun K14 hK14 => ?_
          refine wp_skip ?_
          refine hK14 _ _ ?_
          refine wp_seq_k fun K15 hK15 => ?_
          refine wp_region_lit ?_
          refine pY ha (yMove (by rfl)) rfl fun a ha => ?_
          refine pY ha (yAssign (by rfl)) rfl fun a ha => ?_
          refine pZ ?_
          refine hK15 _ _ ?_
          refine wp_ret ?_
          show bodyPost Tryd.prog Tryd.f21 _ .ret _ _
          refine ret1 rfl ha (by rfl) ?_
          first
            | (refine ⟨congrArg (Value.int .i64) ?_, hs.drop⟩; unfold txnE; rw [if_pos (by omega)])
            | (refine ⟨congrArg (Value.int .i64) ?_, hs.drop.drop.drop.drop⟩; rw [txn_err hn20 h2 (by omega) (by rw [actE_at hx, if_pos hc18]; exact hc18), actE_at hx, if_pos hc18])
            | (refine ⟨congrArg (Value.int .i64) ?_, hs.drop.drop.drop.drop⟩; have he : actE xs i = 1 := by (rw [actE_at hx, if_neg (by simpa using hc18), if_pos ⟨of_decide_eq_true hg3, hc28⟩])
               rw [txn_err hn20 h2 (by omega) (by rw [he]; decide), he])
            | (obtain rfl : i = xs.length := by omega
               refine ⟨congrArg (Value.int .i64) ?_, hs.drop⟩
               rw [txn_end hn20 h2]
               first | rw [if_pos (by omega)] | rw [if_neg (by omega)])
        · refine wp_skip ?_
          refine hK11 _ _ ?_
          refine wp_seq_k fun K16 hK16 => ?_
          refine wp_region_lit ?_
          refine pY ha (yFieldA Tryd.runUnderlying43 rfl Tryd.sizeOf3 rfl (by rfl)) rfl fun a ha => ?_
          first | refine pY ha (yLoadB Tryd.isAgg3 hs (by rfl) (by repeat first | exact .here | apply Pick.there) (by rfl)) rfl fun a ha => ?_ | refine pY ha (yLoadR Tryd.isAgg3 hs (by rfl) (by repeat first | exact .here | apply Pick.there) (by rfl)) rfl fun a ha => ?_ | refine pY ha (yLoadR0 Tryd.isAgg3 hs (by rfl) (by repeat first | exact .here | apply Pick.there) (by rfl)) rfl fun a ha => ?_
          refine pY ha (yEql (by rfl) (by rfl)) rfl fun a ha => ?_
          refine pY ha (yMove (by rfl)) rfl fun a ha => ?_
          refine gDec (t := 22) ha (by rfl) (fun hg3 hp3 => ?_) (fun hg3 hp3 => ?_)
          · rw [hg3] at ha
            refine gOff ha rfl rfl (by rfl) rfl rfl fun a ha => ?_
            refine gOff ha rfl rfl (by rfl) rfl rfl fun a ha => ?_
            refine gOff ha rfl rfl (by rfl) rfl rfl fun a ha => ?_
            refine gOff ha rfl rfl (by rfl) rfl rfl fun a ha => ?_
            refine gOff ha rfl rfl (by rfl) rfl rfl fun a ha => ?_
            first | refine pY ha (yPickT (by rfl) (by rfl)) rfl fun a ha => ?_ | refine pY ha (yPickF (by rfl) (by rfl)) rfl fun a ha => ?_ | refine pY ha (yPick (by rfl) (by rfl) (by rfl)) rfl fun a ha => ?_
            refine pZ ?_
            refine hK16 _ _ ?_
            refine cFalse ha (by rfl) ?_
            refine wp_skip ?_
            refine hK9 _ _ ?_
            refine wp_region_lit ?_
            first | refine pY ha (yAddN (by rfl) (by rfl) ⟨by omega, by omega⟩) rfl fun a ha => ?_ | refine pY ha (yAdd (by rfl) (by rfl)) rfl fun a ha => ?_
            refine pY ha (yMove (by rfl)) rfl fun a ha => ?_
            refine pZ ?_
            have hz : actE xs i = 0 := by
              rw [actE_at hx, if_neg (by simpa using hc18)]
              first
                | (rw [if_neg (fun h => of_decide_eq_false hg3 h.1)])
                | (rw [if_neg (fun h => by rw [h.2] at hc28; cases hc28)])
            rw [hc18] at ha
            exact ⟨i + 1, ⟨by omega, fe_next h2 hz, has5 ha (by rfl) (by rfl) (by rfl) (by rfl) (by rfl), by first | exact hs.drop.drop.drop | exact hs.drop2.drop.drop⟩, by omega⟩
          · rw [hg3] at ha
            refine gOn ha rfl rfl (by rfl) ?_
            refine pY ha (yMove (by rfl)) rfl fun a ha => ?_
            refine gOn ha rfl rfl (by rfl) ?_
            refine pY ha (yMove (by rfl)) rfl fun a ha => ?_
            refine gOn ha rfl rfl (by rfl) ?_
            refine pY ha (ySlice Tryd.runUnderlying22 Tryd.sizeOf43 (by rfl) (.inl ⟨rfl, rfl⟩) (.inr ⟨_, _, rfl, (by rfl)⟩) (by omega) (by omega)) rfl fun a ha => ?_
            refine gOn ha rfl rfl (by rfl) ?_
            refine pY ha (yMakeF (by rfl)) rfl fun a ha => ?_
            refine gOn ha rfl rfl (by rfl) ?_
            refine pC ha (nCall Tryd.call47 (by rfl)) rfl (ContainsA_c (a0 := x) (hs.rd_cut (xs := xs) (lo := 0) (hi := i) (by repeat first | exact .here | apply Pick.there) (by omega) (by omega)) .here (by repeat first | exact .here | apply Pick.there)) ?_
            rintro v w ⟨rfl, hs⟩ a ha
            have hs := hs.drop
            rw [List.drop_zero] at ha
            first | refine pY ha (yPickT (by rfl) (by rfl)) rfl fun a ha => ?_ | refine pY ha (yPickF (by rfl) (by rfl)) rfl fun a ha => ?_ | refine pY ha (yPick (by rfl) (by rfl) (by rfl)) rfl fun a ha => ?_
            refine pZ ?_
            refine hK16 _ _ ?_
            first | refine cNDec ha (by rfl) (fun hc28 => ?_) (fun hc28 => ?_) | refine cDec ha (by rfl) (fun hc28 => ?_) (fun hc28 => ?_) | refine cSplit ha (by rfl) (fun hc28 => ?_) (fun hc28 => ?_)
            · refine wp_seq_k fun K17 hK17 => ?_
              refine wp_region_lit ?_
              refine pY ha (yAssign (by rfl)) rfl fun a ha => ?_
              refine pZ ?_
              refine hK17 _ _ ?_
              refine wp_goto ?_
              repeat (with_reducible first | refine gThen ?_ | refine gBlock ?_)
              refine gxF rfl rfl ?_
              refine wp_seq_k fun K18 hK18 => ?_
              refine wp_skip ?_
              refine hK18 _ _ ?_
              refine wp_seq_k fun K19 hK19 => ?_
              refine wp_region_lit ?_
              refine pY ha (yMove (by rfl)) rfl fun a ha => ?_
              refine pY ha (yAssign (by rfl)) rfl fun a ha => ?_
              refine pZ ?_
              refine hK19 _ _ ?_
              refine wp_ret ?_
              show bodyPost Tryd.prog Tryd.f21 _ .ret _ _
              refine ret1 rfl ha (by rfl) ?_
              first
                | (refine ⟨congrArg (Value.int .i64) ?_, hs.drop⟩; unfold txnE; rw [if_pos (by omega)])
                | (refine ⟨congrArg (Value.int .i64) ?_, hs.drop.drop.drop.drop⟩; rw [txn_err hn20 h2 (by omega) (by rw [actE_at hx, if_pos hc18]; exact hc18), actE_at hx, if_pos hc18])
                | (refine ⟨congrArg (Value.int .i64) ?_, hs.drop.drop.drop.drop⟩; have he : actE xs i = 1 := by (rw [actE_at hx, if_neg (by simpa using hc18), if_pos ⟨of_decide_eq_true hg3, hc28⟩])
                   rw [txn_err hn20 h2 (by omega) (by rw [he]; decide), he])
                | (obtain rfl : i = xs.length := by omega
                   refine ⟨congrArg (Value.int .i64) ?_, hs.drop⟩
                   rw [txn_end hn20 h2]
                   first | rw [if_pos (by omega)] | rw [if_neg (by omega)])
            · refine wp_skip ?_
              refine hK9 _ _ ?_
              refine wp_region_lit ?_
              first | refine pY ha (yAddN (by rfl) (by rfl) ⟨by omega, by omega⟩) rfl fun a ha => ?_ | refine pY ha (yAdd (by rfl) (by rfl)) rfl fun a ha => ?_
              refine pY ha (yMove (by rfl)) rfl fun a ha => ?_
              refine pZ ?_
              have hz : actE xs i = 0 := by
                rw [actE_at hx, if_neg (by simpa using hc18)]
                first
                  | (rw [if_neg (fun h => of_decide_eq_false hg3 h.1)])
                  | (rw [if_neg (fun h => by rw [h.2] at hc28; cases hc28)])
              rw [hc18] at ha
              exact ⟨i + 1, ⟨by omega, fe_next h2 hz, has5 ha (by rfl) (by rfl) (by rfl) (by rfl) (by rfl), by first | exact hs.drop.drop.drop | exact hs.drop2.drop.drop⟩, by omega⟩
      · refine wp_exit ?_
        refine hK5 _ _ ?_
        refine wp_seq_k fun K20 hK20 => ?_
        refine wp_seq_k fun K21 hK21 => ?_
        refine wp_region_lit ?_
        refine pY ha (yMove (by rfl)) rfl fun a ha => ?_
        refine pC ha (nCall Tryd.call49 (by rfl)) rfl (Puts_c (xs := xs) hn20 (fun x hx => fit_of (hm x hx) (fe_one (by rwa [show i = xs.length by omega] at h2) x hx)) hs .here) ?_
        rintro v w ⟨rfl, hs⟩ a ha
        refine pY ha (yGtr (by rfl) (by rfl)) rfl fun a ha => ?_
        refine pZ ?_
        refine hK21 _ _ ?_
        first | refine cDec ha (by rfl) (fun hc32 => ?_) (fun hc32 => ?_) | refine cSplit ha (by rfl) (fun hc32 => ?_) (fun hc32 => ?_)
        · refine wp_region_lit ?_
          refine pY ha (yAssign (by rfl)) rfl fun a ha => ?_
          refine pZ ?_
          refine hK20 _ _ ?_
          refine wp_seq_k fun K22 hK22 => ?_
          refine wp_label ?_
          refine hK22 _ _ ?_
          refine wp_seq_k fun K23 hK23 => ?_
          refine wp_region_lit ?_
          refine pY ha (yMove (by rfl)) rfl fun a ha => ?_
          refine pY ha (yAssign (by rfl)) rfl fun a ha => ?_
          refine pZ ?_
          refine hK23 _ _ ?_
          refine wp_ret ?_
          show bodyPost Tryd.prog Tryd.f21 _ .ret _ _
          refine ret1 rfl ha (by rfl) ?_
          first
            | (refine ⟨congrArg (Value.int .i64) ?_, hs.drop⟩; unfold txnE; rw [if_pos (by omega)])
            | (refine ⟨congrArg (Value.int .i64) ?_, hs.drop.drop.drop.drop⟩; rw [txn_err hn20 h2 (by omega) (by rw [actE_at hx, if_pos hc18]; exact hc18), actE_at hx, if_pos hc18])
            | (refine ⟨congrArg (Value.int .i64) ?_, hs.drop.drop.drop.drop⟩; have he : actE xs i = 1 := by (rw [actE_at hx, if_neg (by simpa using hc18), if_pos ⟨of_decide_eq_true hg3, hc28⟩])
               rw [txn_err hn20 h2 (by omega) (by rw [he]; decide), he])
            | (obtain rfl : i = xs.length := by omega
               refine ⟨congrArg (Value.int .i64) ?_, hs.drop⟩
               rw [txn_end hn20 h2]
               first | rw [if_pos (by omega)] | rw [if_neg (by omega)])
        · refine wp_skip ?_
          refine hK20 _ _ ?_
          refine wp_seq_k fun K24 hK24 => ?_
          refine wp_label ?_
          refine hK24 _ _ ?_
          refine wp_seq_k fun K25 hK25 => ?_
          refine wp_region_lit ?_
          refine pY ha (yMove (by rfl)) rfl fun a ha => ?_
          refine pY ha (yAssign (by rfl)) rfl fun a ha => ?_
          refine pZ ?_
          refine hK25 _ _ ?_
          refine wp_ret ?_
          show bodyPost Tryd.prog Tryd.f21 _ .ret _ _
          refine ret1 rfl ha (by rfl) ?_
          first
            | (refine ⟨congrArg (Value.int .i64) ?_, hs.drop⟩; unfold txnE; rw [if_pos (by omega)])
            | (refine ⟨congrArg (Value.int .i64) ?_, hs.drop.drop.drop.drop⟩; rw [txn_err hn20 h2 (by omega) (by rw [actE_at hx, if_pos hc18]; exact hc18), actE_at hx, if_pos hc18])
            | (refine ⟨congrArg (Value.int .i64) ?_, hs.drop.drop.drop.drop⟩; have he : actE xs i = 1 := by (rw [actE_at hx, if_neg (by simpa using hc18), if_pos ⟨of_decide_eq_true hg3, hc28⟩])
               rw [txn_err hn20 h2 (by omega) (by rw [he]; decide), he])
            | (obtain rfl : i = xs.length := by omega
               refine ⟨congrArg (Value.int .i64) ?_, hs.drop⟩
               rw [txn_end hn20 h2]
               first | rw [if_pos (by omega)] | rw [if_neg (by omega)])
theorem FitsF_c (n : Int) (hs : Sep W w cs) : Calls P 44 #[.int .i64 n] w (Rt fun v w' => v = .bool (!fits n) ∧ Sep W w' cs) := by
  refine enter Tryd.func44 Tryd.ntmps44 rfl rfl fun a (ha : Has a 6 [(0, _)]) => ?_
  refine wp_seq_k fun K1 hK1 => ?_
  refine wp_region_lit ?_
  refine pY ha (yAssign (by rfl)) rfl fun a ha => ?_
  refine pZ ?_
  refine hK1 _ _ ?_
  refine wp_seq_k fun K2 hK2 => ?_
  refine wp_region_lit ?_
  refine pY ha (yMove (by rfl)) rfl fun a ha => ?_
  refine pC ha (nCall Tryd.call45 (by rfl)) rfl (Fits_c _ hs) ?_
  rintro v w ⟨rfl, hs⟩ a ha
  refine pY ha (yNot (by rfl)) rfl fun a ha => ?_
  refine pY ha (yAssign (by rfl)) rfl fun a ha => ?_
  refine pZ ?_
  refine hK2 _ _ ?_
  refine wp_ret ?_
  show bodyPost Tryd.prog Tryd.f44 _ .ret _ _
  refine ret1 rfl ha (by rfl) ?_
  exact ⟨rfl, hs⟩
theorem IndexI_c {A : Option Addr} {n c : Nat} {xs : List Int} (hs : Sep W w cs) (hk : Pick cs (.rd kInt (.slice A n c) xs) r) :
    Calls P 64 #[.slice A n c, .func (.func 44) #[] #[]] w (Rt fun v w' => ∃ k : Int, v = .int .i64 k ∧ (0 ≤ k ↔ xs.any (fun x => !fits x) = true) ∧ Sep W w' cs) := by
  obtain ⟨rfl, hl⟩ := hs.rd_shape hk
  unfold maxLen at hl
  have hs := hs.cpR hk
  refine enter Tryd.func64 Tryd.ntmps64 rfl rfl fun a (ha : Has a 19 [(0, _), (1, _)]) => ?_
  refine wp_seq_k fun K1 hK1 => ?_
  refine wp_region_lit ?_
  refine pY ha (yAssign (by rfl)) rfl fun a ha => ?_
  refine pZ ?_
  refine hK1 _ _ ?_
  refine wp_seq_k fun K2 hK2 => ?_
  refine wp_seq_k fun K3 hK3 => ?_
  refine wp_region_lit ?_
  refine pY ha (yMove (by rfl)) rfl fun a ha => ?_
  refine pY ha (yLenS Tryd.runUnderlying76 (by rfl)) rfl fun a ha => ?_
  refine pY ha (yMove (by rfl)) rfl fun a ha => ?_
  refine pZ ?_
  refine hK3 _ _ ?_
  refine wp_block ?_
  refine loopI (ι := Nat) (fun i a w => i ≤ xs.length ∧ (xs.take i).any (fun x => !fits x) = false ∧ Has a 19 [(0, .slice A xs.length c), (1, .func (.func 44) #[] #[]), (7, .int .i64 xs.length), (8, .int .i64 i)] ∧ Sep W w (.rd kInt (.slice A xs.length c) xs :: cs)) (fun i => xs.length - i) (0) ?_ ?_
  · exact ⟨Nat.zero_le _, rfl, has4 ha (by rfl) (by rfl) (by rfl) (by rfl), hs⟩
  · rintro i a w ⟨h1, h2, ha, hs⟩
    refine wp_seq_k fun K4 hK4 => ?_
    refine wp_region_lit ?_
    refine pY ha (yLss (by rfl) (by rfl)) rfl fun a ha => ?_
    refine pZ ?_
    refine hK4 _ _ ?_
    refine wp_seq_k fun K5 hK5 => ?_
    first | refine cDec ha (by rfl) (fun hc9 => ?_) (fun hc9 => ?_) | refine cSplit ha (by rfl) (fun hc9 => ?_) (fun hc9 => ?_)
    · obtain ⟨x, hx⟩ : ∃ x, xs[i]? = some x := ⟨_, List.getElem?_eq_getElem (by omega)⟩
      obtain ⟨b0, off, rfl, hxr, hs⟩ := hs.rd_int .here hx
      refine wp_skip ?_
      refine hK5 _ _ ?_
      refine wp_seq_k fun K6 hK6 => ?_
      refine wp_block ?_
      refine wp_seq_k fun K7 hK7 => ?_
      refine wp_region_lit ?_
      refine pY ha (yMove (by rfl)) rfl fun a ha => ?_
      refine pY ha (yAssign (by rfl)) rfl fun a ha => ?_
      refine pZ ?_
      refine hK7 _ _ ?_
      refine wp_seq_k fun K8 hK8 => ?_
      refine wp_region_lit ?_
      refine pY ha (yMove (by rfl)) rfl fun a ha => ?_
      refine pY ha (yMove (by rfl)) rfl fun a ha => ?_
      refine pY ha (yMove (by rfl)) rfl fun a ha => ?_
      refine pY ha (yIndexA Tryd.runUnderlying76 Tryd.sizeOf3 (by rfl) (by rfl) (by omega) (by omega)) rfl fun a ha => ?_
      first | refine pY ha (yLoadB Tryd.isAgg3 hs (by rfl) (by repeat first | exact .here | apply Pick.there) (by rfl)) rfl fun a ha => ?_ | refine pY ha (yLoadR Tryd.isAgg3 hs (by rfl) (by repeat first | exact .here | apply Pick.there) (by rfl)) rfl fun a ha => ?_ | refine pY ha (yLoadR0 Tryd.isAgg3 hs (by rfl) (by repeat first | exact .here | apply Pick.there) (by rfl)) rfl fun a ha => ?_
      refine pC ha (nCallV (cl := []) Tryd.call44 (by rfl) (by rfl) (by rfl)) rfl (FitsF_c x hs) ?_
      rintro v w ⟨rfl, hs⟩ a ha
      refine pZ ?_
      refine hK8 _ _ ?_
      first | refine cNDec ha (by rfl) (fun hc16 => ?_) (fun hc16 => ?_) | refine cDec ha (by rfl) (fun hc16 => ?_) (fun hc16 => ?_) | refine cSplit ha (by rfl) (fun hc16 => ?_) (fun hc16 => ?_)
      · refine wp_seq_k fun K9 hK9 => ?_
        refine wp_region_lit ?_
        refine pY ha (yMove (by rfl)) rfl fun a ha => ?_
        refine pY ha (yAssign (by rfl)) rfl fun a ha => ?_
        refine pZ ?_
        refine hK9 _ _ ?_
        refine wp_ret ?_
        show bodyPost Tryd.prog Tryd.f64 _ .ret _ _
        refine ret1 rfl ha (by rfl) ?_
        exact ⟨i, rfl, ⟨fun _ => any_yes hx hc16, fun _ => by omega⟩, hs.drop.drop⟩
      · refine wp_skip ?_
        refine hK6 _ _ ?_
        refine wp_region_lit ?_
        first | refine pY ha (yAddN (by rfl) (by rfl) ⟨by omega, by omega⟩) rfl fun a ha => ?_ | refine pY ha (yAdd (by rfl) (by rfl)) rfl fun a ha => ?_
        refine pY ha (yMove (by rfl)) rfl fun a ha => ?_
        refine pZ ?_
        exact ⟨i + 1, ⟨by omega, any_at h2 hx hc16, has4 ha (by rfl) (by rfl) (by rfl) (by rfl), hs.drop⟩, by omega⟩
    · refine wp_exit ?_
      refine hK2 _ _ ?_
      refine wp_seq_k fun K10 hK10 => ?_
      refine wp_region_lit ?_
      refine pY ha (yAssign (by rfl)) rfl fun a ha => ?_
      refine pZ ?_
      refine hK10 _ _ ?_
      refine wp_ret ?_
      show bodyPost Tryd.prog Tryd.f64 _ .ret _ _
      refine ret1 rfl ha (by rfl) ?_
      rw [List.take_of_length_le (by omega)] at h2; exact ⟨-1, rfl, ⟨fun h => absurd h (by decide), fun h => by rw [h2] at h; cases h⟩, hs.drop⟩
theorem ContainsI_c {A : Option Addr} {n c : Nat} {xs : List Int} (hs : Sep W w cs) (hk : Pick cs (.rd kInt (.slice A n c) xs) r) :
    Calls P 43 #[.slice A n c, .func (.func 44) #[] #[]] w (Rt fun v w' => v = .bool (xs.any (fun x => !fits x)) ∧ Sep W w' cs) := by
  refine enter Tryd.func43 Tryd.ntmps43 rfl rfl fun a (ha : Has a 9 [(0, _), (1, _)]) => ?_
  refine wp_seq_k fun K1 hK1 => ?_
  refine wp_region_lit ?_
  refine pY ha (yAssign (by rfl)) rfl fun a ha => ?_
  refine pZ ?_
  refine hK1 _ _ ?_
  refine wp_seq_k fun K2 hK2 => ?_
  refine wp_region_lit ?_
  refine pY ha (yMove (by rfl)) rfl fun a ha => ?_
  refine pY ha (yMove (by rfl)) rfl fun a ha => ?_
  refine pC ha (nCall Tryd.call64 (by rfl)) rfl (IndexI_c hs hk) ?_
  rintro v w ⟨k, rfl, hkk, hs⟩ a ha
  refine pY ha (yGeq (by rfl) (by rfl)) rfl fun a ha => ?_
  refine pY ha (yAssign (by rfl)) rfl fun a ha => ?_
  refine pZ ?_
  refine hK2 _ _ ?_
  refine wp_ret ?_
  show bodyPost Tryd.prog Tryd.f43 _ .ret _ _
  refine ret1 rfl ha (by rfl) ?_
  refine ⟨congrArg Value.bool ?_, hs⟩
  rw [Bool.eq_iff_iff, decide_eq_true_eq]; exact hkk
theorem WFits_c {A : Option Addr} {n c : Nat} {xs : List Int} (hs : Sep W w cs) (hk : Pick cs (.rd kInt (.slice A n c) xs) r) :
    Calls P 20 #[.slice A n c] w (Rt fun v w' => v = .bool (xs.all fits) ∧ Sep W w' cs) := by
  refine enter Tryd.func20 Tryd.ntmps20 rfl rfl fun a (ha : Has a 6 [(0, _)]) => ?_
  refine wp_seq_k fun K1 hK1 => ?_
  refine wp_region_lit ?_
  refine pY ha (yAssign (by rfl)) rfl fun a ha => ?_
  refine pZ ?_
  refine hK1 _ _ ?_
  refine wp_seq_k fun K2 hK2 => ?_
  refine wp_region_lit ?_
  refine pY ha (yMove (by rfl)) rfl fun a ha => ?_
  refine pC ha (nCall Tryd.call43 (by rfl)) rfl (ContainsI_c hs hk) ?_
  rintro v w ⟨rfl, hs⟩ a ha
  refine pY ha (yNot (by rfl)) rfl fun a ha => ?_
  refine pY ha (yAssign (by rfl)) rfl fun a ha => ?_
  refine pZ ?_
  refine hK2 _ _ ?_
  refine wp_ret ?_
  show bodyPost Tryd.prog Tryd.f20 _ .ret _ _
  refine ret1 rfl ha (by rfl) ?_
  refine ⟨congrArg Value.bool ?_, hs⟩
  rw [Bool.eq_iff_iff]
  simp
/-- Numbers of the machine. -/
def i64 (n : Int) : Prop := -9223372036854775808 ≤ n ∧ n ≤ 9223372036854775807
def mCm (x : Cmt) : Prop := i64 x.rev ∧ i64 x.client ∧ i64 x.seq ∧ ∀ a ∈ x.acts, mA a
theorem Commits_c (hT : Tabs W) {A : Option Addr} {n c : Nat} {xs : List Cmt} (hm : ∀ x ∈ xs, mCm x) (hs : Sep W w cs) (hk : Pick cs (.rd kCmt (.slice A n c) xs) r) :
    Calls P 22 #[.slice A n c] w (Rt fun v w' => v = .int .i64 (cmtsE xs) ∧ Sep W w' cs) := by
  obtain ⟨rfl, hl⟩ := hs.rd_shape hk
  unfold maxLen at hl
  have hs := hs.cpR hk
  refine enter Tryd.func22 Tryd.ntmps22 rfl rfl fun a (ha : Has a 31 [(0, _)]) => ?_
  refine wp_seq_k fun K1 hK1 => ?_
  refine wp_region_lit ?_
  refine pY ha (yAssign (by rfl)) rfl fun a ha => ?_
  refine pZ ?_
  refine hK1 _ _ ?_
  refine wp_seq_k fun K2 hK2 => ?_
  refine wp_seq_k fun K3 hK3 => ?_
  refine wp_region_lit ?_
  refine pY ha (yMove (by rfl)) rfl fun a ha => ?_
  refine pY ha (yLenS Tryd.runUnderlying23 (by rfl)) rfl fun a ha => ?_
  refine pY ha (yGtr (by rfl) (by rfl)) rfl fun a ha => ?_
  refine pZ ?_
  refine hK3 _ _ ?_
  first | refine cDec ha (by rfl) (fun hc8 => ?_) (fun hc8 => ?_) | refine cSplit ha (by rfl) (fun hc8 => ?_) (fun hc8 => ?_)
  · refine wp_seq_k fun K4 hK4 => ?_
    refine wp_region_lit ?_
    refine pY ha (yAssign (by rfl)) rfl fun a ha => ?_
    refine pZ ?_
    refine hK4 _ _ ?_
    refine wp_ret ?_
    show bodyPost Tryd.prog Tryd.f22 _ .ret _ _
    refine ret1 rfl ha (by rfl) ?_
    first
      | (refine ⟨congrArg (Value.int .i64) ?_, hs.drop⟩; unfold cmtsE; rw [if_pos (by omega)])
      | (refine ⟨congrArg (Value.int .i64) ?_, hs.drop.drop.drop.drop.drop⟩; rw [hcE, fe_at h2 (show (fun i => cmtE (xs.getD i noCm)) i ≠ 0 by simp only [hge]; decide) (show i < xs.length by omega)]; exact hge.symm)
      | (refine ⟨congrArg (Value.int .i64) ?_, hs.drop.drop.drop.drop.drop⟩; rw [hcE, fe_at h2 (show (fun i => cmtE (xs.getD i noCm)) i ≠ 0 by simp only [hge]; exact hc28) (show i < xs.length by omega)]; exact hge.symm)
      | (obtain rfl : i = xs.length := by omega
         exact ⟨congrArg (Value.int .i64) (by rw [hcE, h2]), hs.drop⟩)
  · have hn20 : xs.length ≤ 20 := by omega
    have hcE : cmtsE xs = fe (fun i => cmtE (xs.getD i noCm)) xs.length := by unfold cmtsE; rw [if_neg (by omega)]
    refine wp_skip ?_
    refine hK2 _ _ ?_
    refine wp_seq_k fun K5 hK5 => ?_
    refine wp_seq_k fun K6 hK6 => ?_
    refine wp_region_lit ?_
    refine pY ha (yMove (by rfl)) rfl fun a ha => ?_
    refine pY ha (yLenS Tryd.runUnderlying23 (by rfl)) rfl fun a ha => ?_
    refine pY ha (yMove (by rfl)) rfl fun a ha => ?_
    refine pZ ?_
    refine hK6 _ _ ?_
    refine wp_block ?_
    refine loopI (ι := Nat) (fun i a w => i ≤ xs.length ∧ fe (fun i => cmtE (xs.getD i noCm)) i = 0 ∧ Has a 31 [(9, .slice A xs.length c), (10, .int .i64 xs.length), (11, .int .i64 i)] ∧ Sep W w (.rd kCmt (.slice A xs.length c) xs :: cs)) (fun i => xs.length - i) (0) ?_ ?_
    · exact ⟨Nat.zero_le _, rfl, has3 ha (by rfl) (by rfl) (by rfl), hs⟩
    · rintro i a w ⟨h1, h2, ha, hs⟩
      refine wp_seq_k fun K7 hK7 => ?_
      refine wp_region_lit ?_
      refine pY ha (yLss (by rfl) (by rfl)) rfl fun a ha => ?_
      refine pZ ?_
      refine hK7 _ _ ?_
      refine wp_seq_k fun K8 hK8 => ?_
      first | refine cDec ha (by rfl) (fun hc12 => ?_) (fun hc12 => ?_) | refine cSplit ha (by rfl) (fun hc12 => ?_) (fun hc12 => ?_)
      · obtain ⟨x, hx⟩ : ∃ x, xs[i]? = some x := ⟨_, List.getElem?_eq_getElem (by omega)⟩
        have hmx := hm x (List.mem_of_getElem? hx)
        obtain ⟨m1, m2, m3, m4⟩ := hmx
        unfold i64 at m1 m2 m3
        have hgx : xs.getD i noCm = x := by rw [List.getD_eq_getElem?_getD, hx]; rfl
        obtain ⟨b0, off, A', n', c', rfl, hs⟩ := hs.rd_cmt .here hx
        refine wp_skip ?_
        refine hK8 _ _ ?_
        refine wp_seq_k fun K9 hK9 => ?_
        refine wp_block ?_
        refine wp_seq_k fun K10 hK10 => ?_
        refine wp_region_lit ?_
        refine pY ha (yIndexA Tryd.runUnderlying23 Tryd.sizeOf40 (by rfl) (by rfl) (by omega) (by omega)) rfl fun a ha => ?_
        first | refine pY ha (yLoadRA Tryd.isAgg40 Tryd.sizeOf40 hs (by rfl) (by repeat first | exact .here | apply Pick.there) (by rfl)) rfl fun a ha => ?_ | refine pY ha (yLoadBA Tryd.isAgg40 Tryd.sizeOf40 hs (by rfl) (by repeat first | exact .here | apply Pick.there) (by rfl)) rfl fun a ha => ?_
        refine pAlloc (zs := [.int .i64 0, .int .i64 0, .int .i64 0, .slice none 0 0]) ha Tryd.zeroValue40 (by rfl) hs rfl fun b w hs a ha => ?_
        refine pStoreA ha Tryd.sizeOf40 hs (by rfl) (by rfl) (by repeat first | exact .here | apply Pick.there) (by rfl) (by rfl) (by rfl) fun w hs => ?_
        refine pZ ?_
        refine hK10 _ _ ?_
        refine wp_seq_k fun K11 hK11 => ?_
        refine wp_seq_k fun K12 hK12 => ?_
        refine wp_region_lit ?_
        refine pY ha (yFieldA Tryd.runUnderlying40 rfl Tryd.sizeOf3 rfl (by rfl)) rfl fun a ha => ?_
        first | refine pY ha (yLoadB Tryd.isAgg3 hs (by rfl) (by repeat first | exact .here | apply Pick.there) (by rfl)) rfl fun a ha => ?_ | refine pY ha (yLoadR Tryd.isAgg3 hs (by rfl) (by repeat first | exact .here | apply Pick.there) (by rfl)) rfl fun a ha => ?_ | refine pY ha (yLoadR0 Tryd.isAgg3 hs (by rfl) (by repeat first | exact .here | apply Pick.there) (by rfl)) rfl fun a ha => ?_
        refine pY ha (yFieldA Tryd.runUnderlying40 rfl Tryd.sizeOf3 rfl (by rfl)) rfl fun a ha => ?_
        first | refine pY ha (yLoadB Tryd.isAgg3 hs (by rfl) (by repeat first | exact .here | apply Pick.there) (by rfl)) rfl fun a ha => ?_ | refine pY ha (yLoadR Tryd.isAgg3 hs (by rfl) (by repeat first | exact .here | apply Pick.there) (by rfl)) rfl fun a ha => ?_ | refine pY ha (yLoadR0 Tryd.isAgg3 hs (by rfl) (by repeat first | exact .here | apply Pick.there) (by rfl)) rfl fun a ha => ?_
        refine pY ha (yFieldA Tryd.runUnderlying40 rfl Tryd.sizeOf3 rfl (by rfl)) rfl fun a ha => ?_
        first | refine pY ha (yLoadB Tryd.isAgg3 hs (by rfl) (by repeat first | exact .here | apply Pick.there) (by rfl)) rfl fun a ha => ?_ | refine pY ha (yLoadR Tryd.isAgg3 hs (by rfl) (by repeat first | exact .here | apply Pick.there) (by rfl)) rfl fun a ha => ?_ | refine pY ha (yLoadR0 Tryd.isAgg3 hs (by rfl) (by repeat first | exact .here | apply Pick.there) (by rfl)) rfl fun a ha => ?_
        refine pMake ha (bslChk76_3_0_1_2 (by rfl) (by rfl) (by rfl)) hs rfl fun b w hs a ha => ?_
        have hs := hs.ints_rd (xs := [x.rev, x.client, x.seq]) .here (by intro y hy; simp at hy; rcases hy with rfl | rfl | rfl <;> assumption)
        refine pC ha (nCall Tryd.call20 (by rfl)) rfl (WFits_c hs .here) ?_
        rintro v w ⟨rfl, hs⟩ a ha
        refine pY ha (yNot (by rfl)) rfl fun a ha => ?_
        refine pZ ?_
        refine hK12 _ _ ?_
        first | refine cNDec ha (by rfl) (fun hc23 => ?_) (fun hc23 => ?_) | refine cDec ha (by rfl) (fun hc23 => ?_) (fun hc23 => ?_) | refine cSplit ha (by rfl) (fun hc23 => ?_) (fun hc23 => ?_)
        · have hge : cmtE (xs.getD i noCm) = 1 := by
            rw [hgx]; unfold cmtE
            rw [if_pos]
            simp only [List.all_cons, List.all_nil, Bool.and_true, Bool.not_eq_true', Bool.and_eq_false_iff] at hc23
            exact hc23
          refine wp_seq_k fun K13 hK13 => ?_
          refine wp_region_lit ?_
          refine pY ha (yAssign (by rfl)) rfl fun a ha => ?_
          refine pZ ?_
          refine hK13 _ _ ?_
          refine wp_ret ?_
          show bodyPost Tryd.prog Tryd.f22 _ .ret _ _
          refine ret1 rfl ha (by rfl) ?_
          first
            | (refine ⟨congrArg (Value.int .i64) ?_, hs.drop⟩; unfold cmtsE; rw [if_pos (by omega)])
            | (refine ⟨congrArg (Value.int .i64) ?_, hs.drop.drop.drop.drop.drop⟩; rw [hcE, fe_at h2 (show (fun i => cmtE (xs.getD i noCm)) i ≠ 0 by simp only [hge]; decide) (show i < xs.length by omega)]; exact hge.symm)
            | (refine ⟨congrArg (Value.int .i64) ?_, hs.drop.drop.drop.drop.drop⟩; rw [hcE, fe_at h2 (show (fun i => cmtE (xs.getD i noCm)) i ≠ 0 by simp only [hge]; exact hc28) (show i < xs.length by omega)]; exact hge.symm)
            | (obtain rfl : i = xs.length := by omega
               exact ⟨congrArg (Value.int .i64) (by rw [hcE, h2]), hs.drop⟩)
        · have hge : cmtE (xs.getD i noCm) = txnE x.acts := by
            rw [hgx]; unfold cmtE
            simp only [List.all_cons, List.all_nil, Bool.and_true, Bool.not_eq_false', Bool.and_eq_true] at hc23
            rw [if_neg (by rw [hc23.1, hc23.2.1, hc23.2.2]; simp)]
          refine wp_skip ?_
          refine hK11 _ _ ?_
          refine wp_seq_k fun K14 hK14 => ?_
          refine wp_region_lit ?_
          refine pY ha (yFieldA Tryd.runUnderlying40 rfl Tryd.sizeOf22 rfl (by rfl)) rfl fun a ha => ?_
          first | refine pY ha (yLoadB Tryd.isAgg22 hs (by rfl) (by repeat first | exact .here | apply Pick.there) (by rfl)) rfl fun a ha => ?_ | refine pY ha (yLoadR Tryd.isAgg22 hs (by rfl) (by repeat first | exact .here | apply Pick.there) (by rfl)) rfl fun a ha => ?_ | refine pY ha (yLoadR0 Tryd.isAgg22 hs (by rfl) (by repeat first | exact .here | apply Pick.there) (by rfl)) rfl fun a ha => ?_
          refine pC ha (nCall Tryd.call21 (by rfl)) rfl (TxnCheck_c hT (xs := x.acts) m4 hs (by repeat first | exact .here | apply Pick.there)) ?_
          rintro v w ⟨rfl, hs⟩ a ha
          refine pY ha (yAssign (by rfl)) rfl fun a ha => ?_
          refine pZ ?_
          refine hK14 _ _ ?_
          refine wp_seq_k fun K15 hK15 => ?_
          refine wp_region_lit ?_
          refine pY ha (yMove (by rfl)) rfl fun a ha => ?_
          refine pY ha (yNeq (by rfl) (by rfl)) rfl fun a ha => ?_
          refine pZ ?_
          refine hK15 _ _ ?_
          first | refine cNDec ha (by rfl) (fun hc28 => ?_) (fun hc28 => ?_) | refine cDec ha (by rfl) (fun hc28 => ?_) (fun hc28 => ?_) | refine cSplit ha (by rfl) (fun hc28 => ?_) (fun hc28 => ?_)
          · refine wp_seq_k fun K16 hK16 => ?_
            refine wp_region_lit ?_
            refine pY ha (yMove (by rfl)) rfl fun a ha => ?_
            refine pY ha (yAssign (by rfl)) rfl fun a ha => ?_
            refine pZ ?_
            refine hK16 _ _ ?_
            refine wp_ret ?_
            show bodyPost Tryd.prog Tryd.f22 _ .ret _ _
            refine ret1 rfl ha (by rfl) ?_
            first
              | (refine ⟨congrArg (Value.int .i64) ?_, hs.drop⟩; unfold cmtsE; rw [if_pos (by omega)])
              | (refine ⟨congrArg (Value.int .i64) ?_, hs.drop.drop.drop.drop.drop⟩; rw [hcE, fe_at h2 (show (fun i => cmtE (xs.getD i noCm)) i ≠ 0 by simp only [hge]; decide) (show i < xs.length by omega)]; exact hge.symm)
              | (refine ⟨congrArg (Value.int .i64) ?_, hs.drop.drop.drop.drop.drop⟩; rw [hcE, fe_at h2 (show (fun i => cmtE (xs.getD i noCm)) i ≠ 0 by simp only [hge]; exact hc28) (show i < xs.length by omega)]; exact hge.symm)
              | (obtain rfl : i = xs.length := by omega
                 exact ⟨congrArg (Value.int .i64) (by rw [hcE, h2]), hs.drop⟩)
          · refine wp_skip ?_
            refine hK9 _ _ ?_
            refine wp_region_lit ?_
            first | refine pY ha (yAddN (by rfl) (by rfl) ⟨by omega, by omega⟩) rfl fun a ha => ?_ | refine pY ha (yAdd (by rfl) (by rfl)) rfl fun a ha => ?_
            refine pY ha (yMove (by rfl)) rfl fun a ha => ?_
            refine pZ ?_
            have hz : cmtE (xs.getD i noCm) = 0 := by rw [hge]; exact hc28
            exact ⟨i + 1, ⟨by omega, fe_next h2 hz, has3 ha (by rfl) (by rfl) (by rfl), hs.drop.drop.drop.drop⟩, by omega⟩
      · refine wp_exit ?_
        refine hK5 _ _ ?_
        refine wp_seq_k fun K17 hK17 => ?_
        refine wp_region_lit ?_
        refine pY ha (yAssign (by rfl)) rfl fun a ha => ?_
        refine pZ ?_
        refine hK17 _ _ ?_
        refine wp_ret ?_
        show bodyPost Tryd.prog Tryd.f22 _ .ret _ _
        refine ret1 rfl ha (by rfl) ?_
        first
          | (refine ⟨congrArg (Value.int .i64) ?_, hs.drop⟩; unfold cmtsE; rw [if_pos (by omega)])
          | (refine ⟨congrArg (Value.int .i64) ?_, hs.drop.drop.drop.drop.drop⟩; rw [hcE, fe_at h2 (show (fun i => cmtE (xs.getD i noCm)) i ≠ 0 by simp only [hge]; decide) (show i < xs.length by omega)]; exact hge.symm)
          | (refine ⟨congrArg (Value.int .i64) ?_, hs.drop.drop.drop.drop.drop⟩; rw [hcE, fe_at h2 (show (fun i => cmtE (xs.getD i noCm)) i ≠ 0 by simp only [hge]; exact hc28) (show i < xs.length by omega)]; exact hge.symm)
          | (obtain rfl : i = xs.length := by omega
             exact ⟨congrArg (Value.int .i64) (by rw [hcE, h2]), hs.drop⟩)
end
end Go.Proofs.YtnlhbkaieoogfaaDoor

