/- CodecReads: the walk. -/
import Derived.Test.YtnkcmpmcmkljnaaDoorWrt
set_option linter.unusedVariables false
set_option linter.unusedSimpArgs false
namespace Go.Proofs.YtnkcmpmcmkljnaaDoor
open Go.RowKit Go.Lib
theorem bldReads36_0 {w : World} {l : List (Nat × Value)} {T : TypeId} {x0 : Operand} {v0 : Value} (h0 : ev l x0 = some v0) (o0 : v0.cells = #[v0] := by rfl) : Yl Tryd.prog w l (.build 36 #[(0, x0)]) T (.agg #[v0, .int .i64 0]) := fun ρ o h ho _ => by
  have hf : Instr.fill (fun i => ([(0, 1), (1, 1)] : List (Nat × Nat))[i]?) #[.slice none 0 0, .int .i64 0] [(0, v0)] = some #[v0, .int .i64 0] := by
    refine (fill_v o0 (by rfl) (by simp)).trans ?_
    simp [Instr.fill]
  unfold execOp; rw [ho]
  simp [h _ _ h0, Instr.build, Tryd.zeroValue36, Tryd.runUnderlying36, Tryd.sizeOf25, Tryd.sizeOf3, agg_cells, hf]
section
variable {W w : World} {cs r r2 : List Ch}
theorem Sep.rd_int {A : Option Addr} {n c i : Nat} {xs : List Int} {x : Int} (h : Sep W w cs) (hk : Pick cs (.rd kInt (.slice A n c) xs) r) (hx : xs[i]? = some x) :
    ∃ b off, A = some ⟨b, off, none⟩ ∧ (-9223372036854775808 ≤ x ∧ x ≤ 9223372036854775807) ∧ Sep W w (.at b (off + i * 1) [.int .i64 x] :: cs) := by
  obtain ⟨b, off, c', es, he, hl, hs⟩ := h.rd_at hk hx
  simp only [Value.slice.injEq] at he
  have hes : es = [.int .i64 x] ∧ -9223372036854775808 ≤ x ∧ x ≤ 9223372036854775807 := hs.know (.there .here) (fun Z _ hp => hp)
  obtain ⟨hes, h1⟩ := hes
  subst hes
  exact ⟨b, off, he.1, h1, hs.drop2⟩
theorem CodecReads_c (hT : Tabs W) {A A2 : Option Addr} {n c n2 c2 : Nat} {bs : List UInt8} {ks : List Int} (m : Int) (hs : Sep W w cs) (hk : Pick cs (.rd kU8 (.slice A n c) bs) r) (hk2 : Pick cs (.rd kInt (.slice A2 n2 c2) ks) r2) :
    Calls P 4 #[.slice A n c, .slice A2 n2 c2, .int .i64 m] w (Rt fun v w' => v = .bool true ∧ Sep W w' cs) := by
  obtain ⟨rfl, hl⟩ := hs.rd_shape hk
  obtain ⟨rfl, hl2⟩ := hs.rd_shape hk2
  unfold maxLen at hl hl2
  have hs := (hs.cpR hk).cpR (.there hk2)
  refine enter Tryd.func4 Tryd.ntmps4 rfl rfl fun a (ha : Has a 119 [(0, _), (1, _), (2, _)]) => ?_
  refine wp_seq_k fun K1 hK1 => ?_
  refine wp_region_lit ?_
  refine pY ha (yAssign (by rfl)) rfl fun a ha => ?_
  refine pZ ?_
  refine hK1 _ _ ?_
  refine wp_seq_k fun K2 hK2 => ?_
  refine wp_seq_k fun K3 hK3 => ?_
  refine cutC (fun a w => Has a 119 [(27, .bool (decide (600 < bs.length ∨ 60 < ks.length ∨ m < 0 ∨ 1048576 < m))), (0, .slice A bs.length c), (1, .slice A2 ks.length c2), (2, .int .i64 m)] ∧ Sep W w (.rd kInt (.slice A2 ks.length c2) ks :: .rd kU8 (.slice A bs.length c) bs :: cs)) ?_ ?_
  · refine wp_region_lit ?_
    refine pY ha (yMove (by rfl)) rfl fun a ha => ?_
    refine pY ha (yLenS Tryd.runUnderlying25 (by rfl)) rfl fun a ha => ?_
    refine pY ha (yGtr (by rfl) (by rfl)) rfl fun a ha => ?_
    refine pY ha (yMove (by rfl)) rfl fun a ha => ?_
    refine gDec (t := 15) ha (by rfl) (fun hg3 hp3 => ?_) (fun hg3 hp3 => ?_)
    · rw [hg3] at ha
      refine gOn ha rfl rfl (by rfl) ?_
      refine pY ha (yMove (by rfl)) rfl fun a ha => ?_
      refine gOn ha rfl rfl (by rfl) ?_
      refine pY ha (yLenS Tryd.runUnderlying31 (by rfl)) rfl fun a ha => ?_
      refine gOn ha rfl rfl (by rfl) ?_
      refine pY ha (yGtr (by rfl) (by rfl)) rfl fun a ha => ?_
      first | refine pY ha (yPickT (by rfl) (by rfl)) rfl fun a ha => ?_ | refine pY ha (yPickF (by rfl) (by rfl)) rfl fun a ha => ?_ | refine pY ha (yPick (by rfl) (by rfl) (by rfl)) rfl fun a ha => ?_
      refine pY ha (yMove (by rfl)) rfl fun a ha => ?_
      refine gSplit (t := 20) ha (by rfl) (fun hg8 => ?_) (fun hg8 => ?_)
      · rw [hg8] at ha
        refine gOn ha rfl rfl (by rfl) ?_
        refine pY ha (yMove (by rfl)) rfl fun a ha => ?_
        refine gOn ha rfl rfl (by rfl) ?_
        refine pY ha (yLss (by rfl) (by rfl)) rfl fun a ha => ?_
        first | refine pY ha (yPickT (by rfl) (by rfl)) rfl fun a ha => ?_ | refine pY ha (yPickF (by rfl) (by rfl)) rfl fun a ha => ?_ | refine pY ha (yPick (by rfl) (by rfl) (by rfl)) rfl fun a ha => ?_
        refine pY ha (yMove (by rfl)) rfl fun a ha => ?_
        refine gSplit (t := 24) ha (by rfl) (fun hg12 => ?_) (fun hg12 => ?_)
        · rw [hg12] at ha
          refine gOn ha rfl rfl (by rfl) ?_
          refine pY ha (yMove (by rfl)) rfl fun a ha => ?_
          refine gOn ha rfl rfl (by rfl) ?_
          refine pY ha (yGtr (by rfl) (by rfl)) rfl fun a ha => ?_
          first | refine pY ha (yPickT (by rfl) (by rfl)) rfl fun a ha => ?_ | refine pY ha (yPickF (by rfl) (by rfl)) rfl fun a ha => ?_ | refine pY ha (yPick (by rfl) (by rfl) (by rfl)) rfl fun a ha => ?_
          refine pZ ⟨rfl, ?_⟩
          first
            | exact ⟨has4 ha (bT (by first | omega | (have q := of_decide_eq_false hg8; omega) | (have q := of_decide_eq_false hg8; have q2 := of_decide_eq_false hg12; omega))) (by rfl) (by rfl) (by rfl), hs⟩
            | exact ⟨has4 ha (bY (by first | omega | (have q := of_decide_eq_true hg8; omega) | (have q := of_decide_eq_true hg12; omega))) (by rfl) (by rfl) (by rfl), hs⟩
        · rw [hg12] at ha
          refine gOff ha rfl rfl (by rfl) rfl rfl fun a ha => ?_
          refine gOff ha rfl rfl (by rfl) rfl rfl fun a ha => ?_
          first | refine pY ha (yPickT (by rfl) (by rfl)) rfl fun a ha => ?_ | refine pY ha (yPickF (by rfl) (by rfl)) rfl fun a ha => ?_ | refine pY ha (yPick (by rfl) (by rfl) (by rfl)) rfl fun a ha => ?_
          refine pZ ⟨rfl, ?_⟩
          first
            | exact ⟨has4 ha (bT (by first | omega | (have q := of_decide_eq_false hg8; omega) | (have q := of_decide_eq_false hg8; have q2 := of_decide_eq_false hg12; omega))) (by rfl) (by rfl) (by rfl), hs⟩
            | exact ⟨has4 ha (bY (by first | omega | (have q := of_decide_eq_true hg8; omega) | (have q := of_decide_eq_true hg12; omega))) (by rfl) (by rfl) (by rfl), hs⟩
      · rw [hg8] at ha
        refine gOff ha rfl rfl (by rfl) rfl rfl fun a ha => ?_
        refine gOff ha rfl rfl (by rfl) rfl rfl fun a ha => ?_
        first | refine pY ha (yPickT (by rfl) (by rfl)) rfl fun a ha => ?_ | refine pY ha (yPickF (by rfl) (by rfl)) rfl fun a ha => ?_ | refine pY ha (yPick (by rfl) (by rfl) (by rfl)) rfl fun a ha => ?_
        refine pY ha (yMove (by rfl)) rfl fun a ha => ?_
        refine gOff ha rfl rfl (by rfl) rfl rfl fun a ha => ?_
        refine gOff ha rfl rfl (by rfl) rfl rfl fun a ha => ?_
        first | refine pY ha (yPickT (by rfl) (by rfl)) rfl fun a ha => ?_ | refine pY ha (yPickF (by rfl) (by rfl)) rfl fun a ha => ?_ | refine pY ha (yPick (by rfl) (by rfl) (by rfl)) rfl fun a ha => ?_
        refine pZ ⟨rfl, ?_⟩
        first
          | exact ⟨has4 ha (bT (by first | omega | (have q := of_decide_eq_false hg8; omega) | (have q := of_decide_eq_false hg8; have q2 := of_decide_eq_false hg12; omega))) (by rfl) (by rfl) (by rfl), hs⟩
          | exact ⟨has4 ha (bY (by first | omega | (have q := of_decide_eq_true hg8; omega) | (have q := of_decide_eq_true hg12; omega))) (by rfl) (by rfl) (by rfl), hs⟩
    · rw [hg3] at ha
      refine gOff ha rfl rfl (by rfl) rfl rfl fun a ha => ?_
      refine gOff ha rfl rfl (by rfl) rfl rfl fun a ha => ?_
      refine gOff ha rfl rfl (by rfl) rfl rfl fun a ha => ?_
      first | refine pY ha (yPickT (by rfl) (by rfl)) rfl fun a ha => ?_ | refine pY ha (yPickF (by rfl) (by rfl)) rfl fun a ha => ?_ | refine pY ha (yPick (by rfl) (by rfl) (by rfl)) rfl fun a ha => ?_
      refine pY ha (yMove (by rfl)) rfl fun a ha => ?_
      refine gOff ha rfl rfl (by rfl) rfl rfl fun a ha => ?_
      refine gOff ha rfl rfl (by rfl) rfl rfl fun a ha => ?_
      first | refine pY ha (yPickT (by rfl) (by rfl)) rfl fun a ha => ?_ | refine pY ha (yPickF (by rfl) (by rfl)) rfl fun a ha => ?_ | refine pY ha (yPick (by rfl) (by rfl) (by rfl)) rfl fun a ha => ?_
      refine pY ha (yMove (by rfl)) rfl fun a ha => ?_
      refine gOff ha rfl rfl (by rfl) rfl rfl fun a ha => ?_
      refine gOff ha rfl rfl (by rfl) rfl rfl fun a ha => ?_
      first | refine pY ha (yPickT (by rfl) (by rfl)) rfl fun a ha => ?_ | refine pY ha (yPickF (by rfl) (by rfl)) rfl fun a ha => ?_ | refine pY ha (yPick (by rfl) (by rfl) (by rfl)) rfl fun a ha => ?_
      refine pZ ⟨rfl, ?_⟩
      first
        | exact ⟨has4 ha (bT (by first | omega | (have q := of_decide_eq_false hg8; omega) | (have q := of_decide_eq_false hg8; have q2 := of_decide_eq_false hg12; omega))) (by rfl) (by rfl) (by rfl), hs⟩
        | exact ⟨has4 ha (bY (by first | omega | (have q := of_decide_eq_true hg8; omega) | (have q := of_decide_eq_true hg12; omega))) (by rfl) (by rfl) (by rfl), hs⟩
  rintro a w ⟨ha, hs⟩
  refine hK3 _ _ ?_
  first | refine cDec ha (by rfl) (fun hc27 => ?_) (fun hc27 => ?_) | refine cSplit ha (by rfl) (fun hc27 => ?_) (fun hc27 => ?_)
  · refine wp_seq_k fun K4 hK4 => ?_
    refine wp_region_lit ?_
    refine pC ha (nCall Tryd.call8 (by rfl)) rfl (awake_c hs) ?_
    rintro v w ⟨rfl, hs⟩ a ha
    refine pY ha (yAssign (by rfl)) rfl fun a ha => ?_
    refine pZ ?_
    refine hK4 _ _ ?_
    refine wp_ret ?_
    show bodyPost Tryd.prog Tryd.f4 _ .ret _ _
    refine ret1 rfl ha (by rfl) ?_
    exact ⟨rfl, hs.drop.drop⟩
  · refine wp_skip ?_
    refine hK2 _ _ ?_
    refine wp_seq_k fun K5 hK5 => ?_
    refine wp_region_lit ?_
    refine pY ha (yMove (by rfl)) rfl fun a ha => ?_
    refine pC ha (nCall Tryd.call13 (by rfl)) rfl (NewReader_c hs (.there .here) (by omega)) ?_
    rintro v w ⟨q, rfl, hs⟩ a ha
    refine pY ha (yAssign (by rfl)) rfl fun a ha => ?_
    refine pZ ?_
    refine hK5 _ _ ?_
    refine wp_seq_k fun K6 hK6 => ?_
    refine wp_region_lit ?_
    refine pY ha (yMove (by rfl)) rfl fun a ha => ?_
    refine pY ha (bldReads36_0 (by rfl)) rfl fun a ha => ?_
    refine pBox (es := _) ha (by rfl) (by rfl) hs rfl fun b w hs a ha => ?_
    have hs := ((hs.cpR (.there (.there (.there .here)))).perm (List.Perm.swap _ _ _)).rdr_shut .here .here
    refine pY ha (yAssign (by rfl)) rfl fun a ha => ?_
    refine pZ ?_
    refine hK6 _ _ ?_
    refine wp_seq_k fun K7 hK7 => ?_
    refine wp_seq_k fun K8 hK8 => ?_
    refine wp_region_lit ?_
    refine pY ha (yMove (by rfl)) rfl fun a ha => ?_
    refine pY ha (yPtrEqlN Tryd.underlying32 (by rfl) (by rfl)) rfl fun a ha => ?_
    refine pZ ?_
    refine hK8 _ _ ?_
    first | refine cNDec ha (by rfl) (fun hc35 => ?_) (fun hc35 => ?_) | refine cDec ha (by rfl) (fun hc35 => ?_) (fun hc35 => ?_) | refine cSplit ha (by rfl) (fun hc35 => ?_) (fun hc35 => ?_)
    · simp at hc35
    · refine wp_skip ?_
      refine hK7 _ _ ?_
      refine wp_seq_k fun K9 hK9 => ?_
      refine wp_seq_k fun K10 hK10 => ?_
      refine wp_region_lit ?_
      refine pY ha (yAssign (by rfl)) rfl fun a ha => ?_
      refine pZ ?_
      refine hK10 _ _ ?_
      refine wp_block ?_
      refine loopI (ι := Nat × St) (fun i a w => i.1 ≤ ks.length ∧ Has a 119 [(1, .slice A2 ks.length c2), (2, .int .i64 m), (7, .pointer (some ⟨q, 0, none⟩)), (8, .pointer (some ⟨b, 0, none⟩)), (9, .int .i64 i.1)] ∧ Sep W w (.rdr b 36 i.2 :: .rdr q 83 i.2 :: .rd kInt (.slice A2 ks.length c2) ks :: .rd kU8 (.slice A bs.length c) bs :: cs)) (fun i => ks.length - i.1) ((0, (bs, 0))) ?_ ?_
      · exact ⟨Nat.zero_le _, has5 ha (by rfl) (by rfl) (by rfl) (by rfl) (by rfl), hs⟩
      · rintro i a w ⟨h1, ha, hs⟩
        obtain ⟨i, st⟩ := i; simp only at h1 ha hs
        refine wp_seq_k fun K11 hK11 => ?_
        refine wp_seq_k fun K12 hK12 => ?_
        refine wp_region_lit ?_
        refine pY ha (yMove (by rfl)) rfl fun a ha => ?_
        refine pY ha (yMove (by rfl)) rfl fun a ha => ?_
        refine pY ha (yLenS Tryd.runUnderlying31 (by rfl)) rfl fun a ha => ?_
        refine pY ha (yLss (by rfl) (by rfl)) rfl fun a ha => ?_
        refine pZ ?_
        refine hK12 _ _ ?_
        first | refine cDec ha (by rfl) (fun hc39 => ?_) (fun hc39 => ?_) | refine cSplit ha (by rfl) (fun hc39 => ?_) (fun hc39 => ?_)
        · refine wp_skip ?_
          refine hK11 _ _ ?_
          refine wp_seq_k fun K13 hK13 => ?_
          refine wp_block ?_
          refine wp_seq_k fun K14 hK14 => ?_
          refine wp_region_lit ?_
          refine pY ha (yAssign (by rfl)) rfl fun a ha => ?_
          refine pZ ?_
          refine hK14 _ _ ?_
          refine wp_seq_k fun K15 hK15 => ?_
          refine wp_seq_k fun K16 hK16 => ?_
          obtain ⟨x, hx⟩ : ∃ x, ks[i]? = some x := ⟨_, List.getElem?_eq_getElem (by omega)⟩
          obtain ⟨b2, off, rfl, hxr, hs⟩ := hs.rd_int (.there (.there .here)) hx
          refine wp_region_lit ?_
          refine pY ha (yMove (by rfl)) rfl fun a ha => ?_
          refine pY ha (yMove (by rfl)) rfl fun a ha => ?_
          refine pY ha (yIndexA Tryd.runUnderlying31 Tryd.sizeOf3 (by rfl) (by rfl) (by omega) (by omega)) rfl fun a ha => ?_
          first | refine pY ha (yLoadB Tryd.isAgg3 hs (by rfl) (by repeat first | exact .here | apply Pick.there) (by rfl)) rfl fun a ha => ?_ | refine pY ha (yLoadR Tryd.isAgg3 hs (by rfl) (by repeat first | exact .here | apply Pick.there) (by rfl)) rfl fun a ha => ?_ | refine pY ha (yLoadR0 Tryd.isAgg3 hs (by rfl) (by repeat first | exact .here | apply Pick.there) (by rfl)) rfl fun a ha => ?_
          refine pC ha (nCall Tryd.call14 (by rfl)) rfl (Round_c x 6 (by decide) (by decide) hxr hs) ?_
          rintro v w ⟨rfl, hs⟩ a ha
          have hs := hs.drop
          have hx6 : 0 ≤ x % 6 ∧ x % 6 < 6 := by omega
          refine pZ ?_
          refine hK16 _ _ ?_
          refine cutC (fun a w => ∃ st2, Has a 119 [(1, .slice (some ⟨b2, off, none⟩) ks.length c2), (2, .int .i64 m), (7, .pointer (some ⟨q, 0, none⟩)), (8, .pointer (some ⟨b, 0, none⟩)), (9, .int .i64 i), (10, .bool true)] ∧ Sep W w (.rdr q 83 st2 :: .rdr b 36 st2 :: .rd kInt (.slice (some ⟨b2, off, none⟩) ks.length c2) ks :: .rd kU8 (.slice A bs.length c) bs :: cs)) ?_ ?_
          · refine wp_block ?_
            refine wp_seq_k fun K17 hK17 => ?_
            refine wp_region_lit ?_
            refine pY ha (yEql (by rfl) (by rfl)) rfl fun a ha => ?_
            refine pY ha (yAssign (by rfl)) rfl fun a ha => ?_
            refine pZ ?_
            refine hK17 _ _ ?_
            first | refine cDec ha (by rfl) (fun hc47 => ?_) (fun hc47 => ?_) | refine cSplit ha (by rfl) (fun hc47 => ?_) (fun hc47 => ?_)
            · refine wp_region_lit ?_
              refine pY ha (yMove (by rfl)) rfl fun a ha => ?_
              refine pC ha (nCall Tryd.call15 (by rfl)) rfl (RdNum_c hs (by repeat first | exact .here | apply Pick.there)) ?_
              rintro v w ⟨rfl, hs⟩ a ha
              refine pY ha (yMove (by rfl)) rfl fun a ha => ?_
              refine pC ha (nCall Tryd.call16 (by rfl)) rfl (InNum_c hs (by repeat first | exact .here | apply Pick.there)) ?_
              rintro v w ⟨rfl, hs⟩ a ha
              refine pY ha (yEql (by rfl) (by rfl)) rfl fun a ha => ?_
              refine pY ha (yAssign (by rfl)) rfl fun a ha => ?_
              refine pZ ?_
              refine @And.intro _ _ rfl ?_
              first
                | (exfalso; omega)
                | exact ⟨_, has6 ha (by rfl) (by rfl) (by rfl) (by rfl) (by rfl) (by first | rfl | exact congrArg (fun z => some (Value.bool z)) (decide_eq_true rfl)), by first | exact hs.perm (List.Perm.swap _ _ _) | exact hs.drop.drop2.perm (List.Perm.swap _ _ _)⟩
            · refine wp_seq_k fun K18 hK18 => ?_
              refine wp_region_lit ?_
              refine pY ha (yEql (by rfl) (by rfl)) rfl fun a ha => ?_
              refine pY ha (yAssign (by rfl)) rfl fun a ha => ?_
              refine pZ ?_
              refine hK18 _ _ ?_
              first | refine cDec ha (by rfl) (fun hc54 => ?_) (fun hc54 => ?_) | refine cSplit ha (by rfl) (fun hc54 => ?_) (fun hc54 => ?_)
              · refine wp_region_lit ?_
                refine pY ha (yMove (by rfl)) rfl fun a ha => ?_
                refine pY ha (yMove (by rfl)) rfl fun a ha => ?_
                refine pC ha (nCall Tryd.call17 (by rfl)) rfl (RdText_c hT m hs (by repeat first | exact .here | apply Pick.there)) ?_
                rintro v w ⟨rfl, hs⟩ a ha
                refine pY ha (yMove (by rfl)) rfl fun a ha => ?_
                refine pY ha (yMove (by rfl)) rfl fun a ha => ?_
                refine pC ha (nCall Tryd.call18 (by rfl)) rfl (InText_c m hs (by repeat first | exact .here | apply Pick.there)) ?_
                rintro v w ⟨rfl, hs⟩ a ha
                refine pY ha (yStrEql (by rfl) (by rfl)) rfl fun a ha => ?_
                refine pY ha (yAssign (by rfl)) rfl fun a ha => ?_
                refine pZ ?_
                refine @And.intro _ _ rfl ?_
                first
                  | (exfalso; omega)
                  | exact ⟨_, has6 ha (by rfl) (by rfl) (by rfl) (by rfl) (by rfl) (by first | rfl | exact congrArg (fun z => some (Value.bool z)) (decide_eq_true rfl)), by first | exact hs.perm (List.Perm.swap _ _ _) | exact hs.drop.drop2.perm (List.Perm.swap _ _ _)⟩
              · refine wp_seq_k fun K19 hK19 => ?_
                refine wp_region_lit ?_
                refine pY ha (yEql (by rfl) (by rfl)) rfl fun a ha => ?_
                refine pY ha (yAssign (by rfl)) rfl fun a ha => ?_
                refine pZ ?_
                refine hK19 _ _ ?_
                first | refine cDec ha (by rfl) (fun hc63 => ?_) (fun hc63 => ?_) | refine cSplit ha (by rfl) (fun hc63 => ?_) (fun hc63 => ?_)
                · refine wp_region_lit ?_
                  refine pY ha (yMove (by rfl)) rfl fun a ha => ?_
                  refine pC ha (nCall Tryd.call19 (by rfl)) rfl (RdFlag_c hs (by repeat first | exact .here | apply Pick.there)) ?_
                  rintro v w ⟨rfl, hs⟩ a ha
                  refine pY ha (yMove (by rfl)) rfl fun a ha => ?_
                  refine pC ha (nCall Tryd.call20 (by rfl)) rfl (InFlag_c hs (by repeat first | exact .here | apply Pick.there)) ?_
                  rintro v w ⟨rfl, hs⟩ a ha
                  refine pY ha (yBoolEql Tryd.underlying4 (by rfl) (by rfl)) rfl fun a ha => ?_
                  refine pY ha (yAssign (by rfl)) rfl fun a ha => ?_
                  refine pZ ?_
                  refine @And.intro _ _ rfl ?_
                  first
                    | (exfalso; omega)
                    | exact ⟨_, has6 ha (by rfl) (by rfl) (by rfl) (by rfl) (by rfl) (by first | rfl | exact congrArg (fun z => some (Value.bool z)) (decide_eq_true rfl)), by first | exact hs.perm (List.Perm.swap _ _ _) | exact hs.drop.drop2.perm (List.Perm.swap _ _ _)⟩
                · refine wp_seq_k fun K20 hK20 => ?_
                  refine wp_region_lit ?_
                  refine pY ha (yEql (by rfl) (by rfl)) rfl fun a ha => ?_
                  refine pY ha (yAssign (by rfl)) rfl fun a ha => ?_
                  refine pZ ?_
                  refine hK20 _ _ ?_
                  first | refine cDec ha (by rfl) (fun hc70 => ?_) (fun hc70 => ?_) | refine cSplit ha (by rfl) (fun hc70 => ?_) (fun hc70 => ?_)
                  · refine wp_region_lit ?_
                    refine pY ha (yMove (by rfl)) rfl fun a ha => ?_
                    refine pC ha (nCall Tryd.call22 (by rfl)) rfl (RdComps_c hT hs (by repeat first | exact .here | apply Pick.there)) ?_
                    rintro v w ⟨B, d, rfl, hs⟩ a ha
                    have hs := hs.ol_rd .here
                    refine pY ha (yMove (by rfl)) rfl fun a ha => ?_
                    refine pC ha (nCall Tryd.call23 (by rfl)) rfl (InComps_c hs (by repeat first | exact .here | apply Pick.there)) ?_
                    rintro v w ⟨B', d', rfl, hs⟩ a ha
                    have hs := hs.ol_rd .here
                    refine pC ha (nCall Tryd.call21 (by rfl)) rfl (Same_c hs (by repeat first | exact .here | apply Pick.there) (by repeat first | exact .here | apply Pick.there)) ?_
                    rintro v w ⟨rfl, hs⟩ a ha
                    refine pY ha (yAssign (by rfl)) rfl fun a ha => ?_
                    refine pZ ?_
                    refine @And.intro _ _ rfl ?_
                    first
                      | (exfalso; omega)
                      | exact ⟨_, has6 ha (by rfl) (by rfl) (by rfl) (by rfl) (by rfl) (by first | rfl | exact congrArg (fun z => some (Value.bool z)) (decide_eq_true rfl)), by first | exact hs.perm (List.Perm.swap _ _ _) | exact hs.drop.drop2.perm (List.Perm.swap _ _ _)⟩
                  · refine wp_seq_k fun K21 hK21 => ?_
                    refine wp_region_lit ?_
                    refine pY ha (yEql (by rfl) (by rfl)) rfl fun a ha => ?_
                    refine pY ha (yAssign (by rfl)) rfl fun a ha => ?_
                    refine pZ ?_
                    refine hK21 _ _ ?_
                    first | refine cDec ha (by rfl) (fun hc77 => ?_) (fun hc77 => ?_) | refine cSplit ha (by rfl) (fun hc77 => ?_) (fun hc77 => ?_)
                    · refine wp_region_lit ?_
                      refine pY ha (yMove (by rfl)) rfl fun a ha => ?_
                      refine pC ha (nCall Tryd.call25 (by rfl)) rfl (RdActns_c hT hs (by repeat first | exact .here | apply Pick.there)) ?_
                      rintro v w ⟨B, d, rfl, hs⟩ a ha
                      have hs := hs.ol_rd .here
                      refine pY ha (yMove (by rfl)) rfl fun a ha => ?_
                      refine pC ha (nCall Tryd.call26 (by rfl)) rfl (InActns_c hs (by repeat first | exact .here | apply Pick.there)) ?_
                      rintro v w ⟨B', d', rfl, hs⟩ a ha
                      have hs := hs.ol_rd .here
                      refine pC ha (nCall Tryd.call24 (by rfl)) rfl (SameActs_c hs (by repeat first | exact .here | apply Pick.there) (by repeat first | exact .here | apply Pick.there)) ?_
                      rintro v w ⟨rfl, hs⟩ a ha
                      refine pY ha (yAssign (by rfl)) rfl fun a ha => ?_
                      refine pZ ?_
                      refine @And.intro _ _ rfl ?_
                      first
                        | (exfalso; omega)
                        | exact ⟨_, has6 ha (by rfl) (by rfl) (by rfl) (by rfl) (by rfl) (by first | rfl | exact congrArg (fun z => some (Value.bool z)) (decide_eq_true rfl)), by first | exact hs.perm (List.Perm.swap _ _ _) | exact hs.drop.drop2.perm (List.Perm.swap _ _ _)⟩
                    · refine wp_seq_k fun K22 hK22 => ?_
                      refine wp_region_lit ?_
                      refine pY ha (yEql (by rfl) (by rfl)) rfl fun a ha => ?_
                      refine pY ha (yAssign (by rfl)) rfl fun a ha => ?_
                      refine pZ ?_
                      refine hK22 _ _ ?_
                      first | refine cDec ha (by rfl) (fun hc84 => ?_) (fun hc84 => ?_) | refine cSplit ha (by rfl) (fun hc84 => ?_) (fun hc84 => ?_)
                      · refine wp_region_lit ?_
                        refine pY ha (yMove (by rfl)) rfl fun a ha => ?_
                        refine pC ha (nCall Tryd.call28 (by rfl)) rfl (RdNods_c hT hs (by repeat first | exact .here | apply Pick.there)) ?_
                        rintro v w ⟨B, d, rfl, hs⟩ a ha
                        have hs := hs.ol_rd .here
                        refine pY ha (yMove (by rfl)) rfl fun a ha => ?_
                        refine pC ha (nCall Tryd.call29 (by rfl)) rfl (InNods_c hs (by repeat first | exact .here | apply Pick.there)) ?_
                        rintro v w ⟨B', d', rfl, hs⟩ a ha
                        have hs := hs.ol_rd .here
                        refine pC ha (nCall Tryd.call27 (by rfl)) rfl (SameNodes_c hs (by repeat first | exact .here | apply Pick.there) (by repeat first | exact .here | apply Pick.there)) ?_
                        rintro v w ⟨rfl, hs⟩ a ha
                        refine pY ha (yAssign (by rfl)) rfl fun a ha => ?_
                        refine pZ ?_
                        refine @And.intro _ _ rfl ?_
                        first
                          | (exfalso; omega)
                          | exact ⟨_, has6 ha (by rfl) (by rfl) (by rfl) (by rfl) (by rfl) (by first | rfl | exact congrArg (fun z => some (Value.bool z)) (decide_eq_true rfl)), by first | exact hs.perm (List.Perm.swap _ _ _) | exact hs.drop.drop2.perm (List.Perm.swap _ _ _)⟩
                      · refine wp_skip ?_
                        refine @And.intro _ _ rfl ?_
                        first
                          | (exfalso; omega)
                          | exact ⟨_, has6 ha (by rfl) (by rfl) (by rfl) (by rfl) (by rfl) (by first | rfl | exact congrArg (fun z => some (Value.bool z)) (decide_eq_true rfl)), by first | exact hs.perm (List.Perm.swap _ _ _) | exact hs.drop.drop2.perm (List.Perm.swap _ _ _)⟩
          rintro a w ⟨st2, ha, hs⟩
          refine hK15 _ _ ?_
          refine wp_seq_k fun K23 hK23 => ?_
          obtain ⟨D, e, hs⟩ := hs.rdr_open (.there .here)
          refine wp_region_lit ?_
          refine pY ha (yMove (by rfl)) rfl fun a ha => ?_
          refine pY ha (yNilP (by rfl)) rfl fun a ha => ?_
          refine pY ha (yFieldA Tryd.runUnderlying36 rfl Tryd.sizeOf25 rfl (by rfl)) rfl fun a ha => ?_
          first | refine pY ha (yLoadB Tryd.isAgg25 hs (by rfl) (by repeat first | exact .here | apply Pick.there) (by rfl)) rfl fun a ha => ?_ | refine pY ha (yLoadR Tryd.isAgg25 hs (by rfl) (by repeat first | exact .here | apply Pick.there) (by rfl)) rfl fun a ha => ?_ | refine pY ha (yLoadR0 Tryd.isAgg25 hs (by rfl) (by repeat first | exact .here | apply Pick.there) (by rfl)) rfl fun a ha => ?_
          refine pY ha (yLenS Tryd.runUnderlying25 (by rfl)) rfl fun a ha => ?_
          refine pY ha (yAssign (by rfl)) rfl fun a ha => ?_
          refine pZ ?_
          refine hK23 _ _ ?_
          refine wp_seq_k fun K24 hK24 => ?_
          refine wp_seq_k fun K25 hK25 => ?_
          refine wp_region_lit ?_
          refine pY ha (yMove (by rfl)) rfl fun a ha => ?_
          refine pY ha (yNilP (by rfl)) rfl fun a ha => ?_
          refine pY ha (yFieldA Tryd.runUnderlying36 rfl Tryd.sizeOf3 rfl (by rfl)) rfl fun a ha => ?_
          first | refine pY ha (yLoadB Tryd.isAgg3 hs (by rfl) (by repeat first | exact .here | apply Pick.there) (by rfl)) rfl fun a ha => ?_ | refine pY ha (yLoadR Tryd.isAgg3 hs (by rfl) (by repeat first | exact .here | apply Pick.there) (by rfl)) rfl fun a ha => ?_ | refine pY ha (yLoadR0 Tryd.isAgg3 hs (by rfl) (by repeat first | exact .here | apply Pick.there) (by rfl)) rfl fun a ha => ?_
          refine pY ha (yNeq (by rfl) (by rfl)) rfl fun a ha => ?_
          refine pZ ?_
          refine hK25 _ _ ?_
          first | refine cNDec ha (by rfl) (fun hc100 => ?_) (fun hc100 => ?_) | refine cDec ha (by rfl) (fun hc100 => ?_) (fun hc100 => ?_) | refine cSplit ha (by rfl) (fun hc100 => ?_) (fun hc100 => ?_)
          · refine wp_region_lit ?_
            refine pY ha (yAssign (by rfl)) rfl fun a ha => ?_
            refine pZ ?_
            refine hK24 _ _ ?_
            refine wp_seq_k fun K26 hK26 => ?_
            have hs := (hs.perm ((List.Perm.swap _ _ _).cons _)).perm (List.Perm.swap _ _ _)
            refine dStart (fun w => Sep W w _) [] (by kernel_rfl) rfl (hs.drew) ?_
            have hs := Sep.drew hs
            generalize World.drew _ = w at hs ⊢
            refine dP 0 rfl (by kernel_rfl) ha won0 (fun _ => yMove (by rfl)) rfl (fun _ _ _ h => h) fun a ha => ?_
            refine dP 1 rfl (by kernel_rfl) ha won0 (fun _ => yNot (by rfl)) rfl (fun _ _ _ h => h) fun a ha => ?_
            refine dP 2 rfl (by kernel_rfl) ha won0 (fun _ => yMove (by rfl)) rfl (fun _ _ _ h => h) fun a ha => ?_
            refine gSplit (t := 103) ha (by rfl) (fun hg2 => ?_) (fun hg2 => ?_)
            · rw [hg2] at ha
              refine dP 3 rfl (by kernel_rfl) ha (won1 rfl rfl (by rfl)) (fun _ => yMove (by rfl)) rfl (fun _ _ _ h => h) fun a ha => ?_
              refine dP 5 rfl (by kernel_rfl) ha (won1 rfl rfl (by rfl)) (fun _ => yMove (by rfl)) rfl (fun _ _ _ h => h) fun a ha => ?_
              refine dC 4 rfl (by kernel_rfl) rfl ha (won1 rfl rfl (by rfl)) (nCall Tryd.call30 (by rfl)) rfl (Left_c hs .here) ?_
              rintro v w ⟨rfl, hs⟩
              refine ⟨hs, fun a ha => ?_⟩
              refine dP 6 rfl (by kernel_rfl) ha (won1 rfl rfl (by rfl)) (fun _ => yNeq (by rfl) (by rfl)) rfl (fun _ _ _ h => h) fun a ha => ?_
              first | refine dP 7 rfl (by kernel_rfl) ha won0 (fun _ => yPickT (by rfl) (by rfl)) rfl (fun _ _ _ h => h) fun a ha => ?_ | refine dP 7 rfl (by kernel_rfl) ha won0 (fun _ => yPickF (by rfl) (by rfl)) rfl (fun _ _ _ h => h) fun a ha => ?_ | refine dP 7 rfl (by kernel_rfl) ha won0 (fun _ => yPick (by rfl) (by rfl) (by rfl)) rfl (fun _ _ _ h => h) fun a ha => ?_
              refine dP 8 rfl (by kernel_rfl) ha won0 (fun _ => yMove (by rfl)) rfl (fun _ _ _ h => h) fun a ha => ?_
              refine gSplit (t := 109) ha (by rfl) (fun hg8 => ?_) (fun hg8 => ?_)
              · rw [hg8] at ha
                refine dP 9 rfl (by kernel_rfl) ha (won1 rfl rfl (by rfl)) (fun _ => yMove (by rfl)) rfl (fun _ _ _ h => h) fun a ha => ?_
                refine dP 11 rfl (by kernel_rfl) ha (won1 rfl rfl (by rfl)) (fun _ => yMove (by rfl)) rfl (fun _ _ _ h => h) fun a ha => ?_
                refine dP 12 rfl (by kernel_rfl) ha (won1 rfl rfl (by rfl)) (fun _ => yNilP (by rfl)) rfl (fun _ _ _ h => h) fun a ha => ?_
                refine dP 13 rfl (by kernel_rfl) ha (won1 rfl rfl (by rfl)) (fun _ => yFieldA Tryd.runUnderlying36 rfl Tryd.sizeOf3 rfl (by rfl)) rfl (fun _ _ _ h => h) fun a ha => ?_
                first | refine dT 14 rfl (by kernel_rfl) ha (won1 rfl rfl (by rfl)) (fun _ hs => yLoadB Tryd.isAgg3 hs (by rfl) (by repeat first | exact .here | apply Pick.there) (by rfl)) (hs) rfl (fun _ _ _ h => h) fun a ha => ?_ | refine dT 14 rfl (by kernel_rfl) ha (won1 rfl rfl (by rfl)) (fun _ hs => yLoadR Tryd.isAgg3 hs (by rfl) (by repeat first | exact .here | apply Pick.there) (by rfl)) (hs) rfl (fun _ _ _ h => h) fun a ha => ?_ | refine dT 14 rfl (by kernel_rfl) ha (won1 rfl rfl (by rfl)) (fun _ hs => yLoadR0 Tryd.isAgg3 hs (by rfl) (by repeat first | exact .here | apply Pick.there) (by rfl)) (hs) rfl (fun _ _ _ h => h) fun a ha => ?_
                refine dC 10 rfl (by kernel_rfl) rfl ha (won1 rfl rfl (by rfl)) (nCall Tryd.call31 (by rfl)) rfl (ErrK_c hs .here) ?_
                rintro v w ⟨rfl, hs⟩
                refine ⟨hs, fun a ha => ?_⟩
                refine dP 15 rfl (by kernel_rfl) ha (won1 rfl rfl (by rfl)) (fun _ => yNeq (by rfl) (by rfl)) rfl (fun _ _ _ h => h) fun a ha => ?_
                first | refine dP 16 rfl (by kernel_rfl) ha won0 (fun _ => yPickT (by rfl) (by rfl)) rfl (fun _ _ _ h => h) fun a ha => ?_ | refine dP 16 rfl (by kernel_rfl) ha won0 (fun _ => yPickF (by rfl) (by rfl)) rfl (fun _ _ _ h => h) fun a ha => ?_ | refine dP 16 rfl (by kernel_rfl) ha won0 (fun _ => yPick (by rfl) (by rfl) (by rfl)) rfl (fun _ _ _ h => h) fun a ha => ?_
                refine dZ (by kernel_rfl) ?_
                refine hK26 _ _ ?_
                first | refine cNDec ha (by rfl) (fun hc117 => ?_) (fun hc117 => ?_) | refine cDec ha (by rfl) (fun hc117 => ?_) (fun hc117 => ?_) | refine cSplit ha (by rfl) (fun hc117 => ?_) (fun hc117 => ?_)
                · exact absurd rfl hc117
                · refine wp_skip ?_
                  refine hK13 _ _ ?_
                  refine wp_region_lit ?_
                  refine pY ha (yMove (by rfl)) rfl fun a ha => ?_
                  first | refine pY ha (yAddN (by rfl) (by rfl) ⟨by omega, by omega⟩) rfl fun a ha => ?_ | refine pY ha (yAdd (by rfl) (by rfl)) rfl fun a ha => ?_
                  refine pY ha (yAssign (by rfl)) rfl fun a ha => ?_
                  refine pZ ?_
                  exact ⟨(i + 1, st2), ⟨by simp only; omega, has5 ha (by rfl) (by rfl) (by rfl) (by rfl) (by rfl), hs.rdr_shut (.there .here) (.there .here)⟩, by simp only; omega⟩
              · simp [hc100] at hg8
            · simp at hg2
          · refine wp_skip ?_
            refine hK24 _ _ ?_
            refine wp_seq_k fun K27 hK27 => ?_
            have hs := (hs.perm ((List.Perm.swap _ _ _).cons _)).perm (List.Perm.swap _ _ _)
            refine dStart (fun w => Sep W w _) [] (by kernel_rfl) rfl (hs.drew) ?_
            have hs := Sep.drew hs
            generalize World.drew _ = w at hs ⊢
            refine dP 0 rfl (by kernel_rfl) ha won0 (fun _ => yMove (by rfl)) rfl (fun _ _ _ h => h) fun a ha => ?_
            refine dP 1 rfl (by kernel_rfl) ha won0 (fun _ => yNot (by rfl)) rfl (fun _ _ _ h => h) fun a ha => ?_
            refine dP 2 rfl (by kernel_rfl) ha won0 (fun _ => yMove (by rfl)) rfl (fun _ _ _ h => h) fun a ha => ?_
            refine gSplit (t := 103) ha (by rfl) (fun hg2 => ?_) (fun hg2 => ?_)
            · rw [hg2] at ha
              refine dP 3 rfl (by kernel_rfl) ha (won1 rfl rfl (by rfl)) (fun _ => yMove (by rfl)) rfl (fun _ _ _ h => h) fun a ha => ?_
              refine dP 5 rfl (by kernel_rfl) ha (won1 rfl rfl (by rfl)) (fun _ => yMove (by rfl)) rfl (fun _ _ _ h => h) fun a ha => ?_
              refine dC 4 rfl (by kernel_rfl) rfl ha (won1 rfl rfl (by rfl)) (nCall Tryd.call30 (by rfl)) rfl (Left_c hs .here) ?_
              rintro v w ⟨rfl, hs⟩
              refine ⟨hs, fun a ha => ?_⟩
              refine dP 6 rfl (by kernel_rfl) ha (won1 rfl rfl (by rfl)) (fun _ => yNeq (by rfl) (by rfl)) rfl (fun _ _ _ h => h) fun a ha => ?_
              first | refine dP 7 rfl (by kernel_rfl) ha won0 (fun _ => yPickT (by rfl) (by rfl)) rfl (fun _ _ _ h => h) fun a ha => ?_ | refine dP 7 rfl (by kernel_rfl) ha won0 (fun _ => yPickF (by rfl) (by rfl)) rfl (fun _ _ _ h => h) fun a ha => ?_ | refine dP 7 rfl (by kernel_rfl) ha won0 (fun _ => yPick (by rfl) (by rfl) (by rfl)) rfl (fun _ _ _ h => h) fun a ha => ?_
              refine dP 8 rfl (by kernel_rfl) ha won0 (fun _ => yMove (by rfl)) rfl (fun _ _ _ h => h) fun a ha => ?_
              refine gSplit (t := 109) ha (by rfl) (fun hg8 => ?_) (fun hg8 => ?_)
              · rw [hg8] at ha
                refine dP 9 rfl (by kernel_rfl) ha (won1 rfl rfl (by rfl)) (fun _ => yMove (by rfl)) rfl (fun _ _ _ h => h) fun a ha => ?_
                refine dP 11 rfl (by kernel_rfl) ha (won1 rfl rfl (by rfl)) (fun _ => yMove (by rfl)) rfl (fun _ _ _ h => h) fun a ha => ?_
                refine dP 12 rfl (by kernel_rfl) ha (won1 rfl rfl (by rfl)) (fun _ => yNilP (by rfl)) rfl (fun _ _ _ h => h) fun a ha => ?_
                refine dP 13 rfl (by kernel_rfl) ha (won1 rfl rfl (by rfl)) (fun _ => yFieldA Tryd.runUnderlying36 rfl Tryd.sizeOf3 rfl (by rfl)) rfl (fun _ _ _ h => h) fun a ha => ?_
                first | refine dT 14 rfl (by kernel_rfl) ha (won1 rfl rfl (by rfl)) (fun _ hs => yLoadB Tryd.isAgg3 hs (by rfl) (by repeat first | exact .here | apply Pick.there) (by rfl)) (hs) rfl (fun _ _ _ h => h) fun a ha => ?_ | refine dT 14 rfl (by kernel_rfl) ha (won1 rfl rfl (by rfl)) (fun _ hs => yLoadR Tryd.isAgg3 hs (by rfl) (by repeat first | exact .here | apply Pick.there) (by rfl)) (hs) rfl (fun _ _ _ h => h) fun a ha => ?_ | refine dT 14 rfl (by kernel_rfl) ha (won1 rfl rfl (by rfl)) (fun _ hs => yLoadR0 Tryd.isAgg3 hs (by rfl) (by repeat first | exact .here | apply Pick.there) (by rfl)) (hs) rfl (fun _ _ _ h => h) fun a ha => ?_
                refine dC 10 rfl (by kernel_rfl) rfl ha (won1 rfl rfl (by rfl)) (nCall Tryd.call31 (by rfl)) rfl (ErrK_c hs .here) ?_
                rintro v w ⟨rfl, hs⟩
                refine ⟨hs, fun a ha => ?_⟩
                refine dP 15 rfl (by kernel_rfl) ha (won1 rfl rfl (by rfl)) (fun _ => yNeq (by rfl) (by rfl)) rfl (fun _ _ _ h => h) fun a ha => ?_
                first | refine dP 16 rfl (by kernel_rfl) ha won0 (fun _ => yPickT (by rfl) (by rfl)) rfl (fun _ _ _ h => h) fun a ha => ?_ | refine dP 16 rfl (by kernel_rfl) ha won0 (fun _ => yPickF (by rfl) (by rfl)) rfl (fun _ _ _ h => h) fun a ha => ?_ | refine dP 16 rfl (by kernel_rfl) ha won0 (fun _ => yPick (by rfl) (by rfl) (by rfl)) rfl (fun _ _ _ h => h) fun a ha => ?_
                refine dZ (by kernel_rfl) ?_
                refine hK27 _ _ ?_
                first | refine cNDec ha (by rfl) (fun hc117 => ?_) (fun hc117 => ?_) | refine cDec ha (by rfl) (fun hc117 => ?_) (fun hc117 => ?_) | refine cSplit ha (by rfl) (fun hc117 => ?_) (fun hc117 => ?_)
                · exact absurd rfl hc117
                · refine wp_skip ?_
                  refine hK13 _ _ ?_
                  refine wp_region_lit ?_
                  refine pY ha (yMove (by rfl)) rfl fun a ha => ?_
                  first | refine pY ha (yAddN (by rfl) (by rfl) ⟨by omega, by omega⟩) rfl fun a ha => ?_ | refine pY ha (yAdd (by rfl) (by rfl)) rfl fun a ha => ?_
                  refine pY ha (yAssign (by rfl)) rfl fun a ha => ?_
                  refine pZ ?_
                  exact ⟨(i + 1, st2), ⟨by simp only; omega, has5 ha (by rfl) (by rfl) (by rfl) (by rfl) (by rfl), hs.rdr_shut (.there .here) (.there .here)⟩, by simp only; omega⟩
              · simp [hc100] at hg8
            · simp at hg2
        · refine wp_exit ?_
          refine hK9 _ _ ?_
          refine wp_seq_k fun K28 hK28 => ?_
          refine wp_region_lit ?_
          refine pC ha (nCall Tryd.call8 (by rfl)) rfl (awake_c hs) ?_
          rintro v w ⟨rfl, hs⟩ a ha
          refine pY ha (yAssign (by rfl)) rfl fun a ha => ?_
          refine pZ ?_
          refine hK28 _ _ ?_
          refine wp_ret ?_
          show bodyPost Tryd.prog Tryd.f4 _ .ret _ _
          refine ret1 rfl ha (by rfl) ?_
          exact ⟨rfl, hs.drop.drop.drop.drop⟩
end
end Go.Proofs.YtnkcmpmcmkljnaaDoor
