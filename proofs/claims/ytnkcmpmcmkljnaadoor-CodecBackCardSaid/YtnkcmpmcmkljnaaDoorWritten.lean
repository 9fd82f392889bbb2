/- What is written of items: by the codec's writer, by the document's. -/
import Derived.Test.YtnkcmpmcmkljnaaDoorItem
set_option linter.unusedVariables false
set_option linter.unusedSimpArgs false
namespace Go.Proofs.YtnkcmpmcmkljnaaDoor
open Go.RowKit Go.Lib
theorem bldWritten53_ {w : World} {l : List (Nat × Value)} {T : TypeId} : Yl Tryd.prog w l (.build 53 #[]) T (.agg #[.slice none 0 0, .bool false]) := fun ρ o h ho _ => by
  unfold execOp; rw [ho]
  simp [Instr.build, Instr.fill, Tryd.zeroValue53, Tryd.runUnderlying53, Tryd.sizeOf25, Tryd.sizeOf4, agg_cells]
section
variable {W w : World} {cs r r2 : List Ch}
theorem written_c (hT : Tabs W) {A : Option Addr} {n c : Nat} {xs : List Item} (hb : tItems xs ≤ 3000) (hs : Sep W w cs) (hk : Pick cs (.rd kItem (.slice A n c) xs) r) :
    Calls P 9 #[.slice A n c] w (Rt fun v w' => if (wItems xs).2 = true then v = .tuple #[.slice none 0 0, .bool false] ∧ Sep W w' cs
      else ∃ A' c', v = .tuple #[.slice A' (wItems xs).1.length c', .bool true] ∧ Sep W w' (.ol kU8 5 (.slice A' (wItems xs).1.length c') (wItems xs).1 :: cs)) := by
  obtain ⟨rfl, hl⟩ := hs.rd_shape hk
  unfold maxLen at hl
  have hs := hs.cpR hk
  have hwl := wItems_len xs
  refine enter Tryd.func9 Tryd.ntmps9 rfl rfl fun a (ha : Has a 77 [(0, _)]) => ?_
  refine wp_seq_k fun K1 hK1 => ?_
  refine wp_region_lit ?_
  refine pY ha (yAssign (by rfl)) rfl fun a ha => ?_
  refine pY ha (yAssign (by rfl)) rfl fun a ha => ?_
  refine pZ ?_
  refine hK1 _ _ ?_
  refine wp_seq_k fun K2 hK2 => ?_
  refine wp_region_lit ?_
  refine pY ha (bldWritten53_ ) rfl fun a ha => ?_
  refine pBox (es := _) ha (by rfl) (by rfl) hs rfl fun b w hs a ha => ?_
  have hs := ((hs.ol_nil kU8 5 none).perm (List.Perm.swap _ _ _)).wtr_shut .here .here
  refine pY ha (yAssign (by rfl)) rfl fun a ha => ?_
  refine pZ ?_
  refine hK2 _ _ ?_
  refine wp_seq_k fun K3 hK3 => ?_
  refine wp_seq_k fun K4 hK4 => ?_
  refine wp_region_lit ?_
  refine pY ha (yAssign (by rfl)) rfl fun a ha => ?_
  refine pZ ?_
  refine hK4 _ _ ?_
  refine wp_block ?_
  refine loopI (ι := Nat) (fun i a w => i ≤ xs.length ∧ Has a 77 [(0, .slice A xs.length c), (4, .pointer (some ⟨b, 0, none⟩)), (5, .int .i64 i)] ∧ Sep W w (.wtr b 53 ((xs.take i).foldl wItem ([], false)) :: .rd kItem (.slice A xs.length c) xs :: cs)) (fun i => xs.length - i) (0) ?_ ?_
  · exact ⟨Nat.zero_le _, has3 ha (by rfl) (by rfl) (by rfl), hs⟩
  · rintro i a w ⟨h1, ha, hs⟩
    refine wp_seq_k fun K5 hK5 => ?_
    refine wp_seq_k fun K6 hK6 => ?_
    refine wp_region_lit ?_
    refine pY ha (yMove (by rfl)) rfl fun a ha => ?_
    refine pY ha (yMove (by rfl)) rfl fun a ha => ?_
    refine pY ha (yLenS Tryd.runUnderlying22 (by rfl)) rfl fun a ha => ?_
    refine pY ha (yLss (by rfl) (by rfl)) rfl fun a ha => ?_
    refine pZ ?_
    refine hK6 _ _ ?_
    first | refine cDec ha (by rfl) (fun hc11 => ?_) (fun hc11 => ?_) | refine cSplit ha (by rfl) (fun hc11 => ?_) (fun hc11 => ?_)
    · refine wp_skip ?_
      refine hK5 _ _ ?_
      refine wp_seq_k fun K7 hK7 => ?_
      refine wp_block ?_
      refine wp_seq_k fun K8 hK8 => ?_
      obtain ⟨x, hx⟩ : ∃ x, xs[i]? = some x := ⟨_, List.getElem?_eq_getElem (by omega)⟩
      obtain ⟨hf1, hf2⟩ := fold_at (f := wItem) wItem_le (s0 := (([], false) : Wt)) hx
      have hf3 : (wItem ((xs.take i).foldl wItem ([], false)) x).1.length ≤ 36000 := Nat.le_trans hf2 (by unfold wItems at hwl; omega)
      generalize (xs.take i).foldl wItem ([], false) = s0 at hs hf1 hf2 hf3
      obtain ⟨b0, off, A1, n1, c1, A2, n2, c2, A3, n3, c3, rfl, hs⟩ := hs.rd_item (.there .here) hx
      refine wp_region_lit ?_
      refine pY ha (yMove (by rfl)) rfl fun a ha => ?_
      refine pY ha (yMove (by rfl)) rfl fun a ha => ?_
      refine pY ha (yIndexA Tryd.runUnderlying22 Tryd.sizeOf61 (by rfl) (by rfl) (by omega) (by omega)) rfl fun a ha => ?_
      refine pY ha (yFieldA Tryd.runUnderlying61 rfl Tryd.sizeOf3 rfl (by rfl)) rfl fun a ha => ?_
      first | refine pY ha (yLoadB Tryd.isAgg3 hs (by rfl) (by repeat first | exact .here | apply Pick.there) (by rfl)) rfl fun a ha => ?_ | refine pY ha (yLoadR Tryd.isAgg3 hs (by rfl) (by repeat first | exact .here | apply Pick.there) (by rfl)) rfl fun a ha => ?_ | refine pY ha (yLoadR0 Tryd.isAgg3 hs (by rfl) (by repeat first | exact .here | apply Pick.there) (by rfl)) rfl fun a ha => ?_
      refine pZ ?_
      refine hK8 _ _ ?_
      refine cutC (fun a w => Has a 77 [(0, .slice (some ⟨b0, off, none⟩) xs.length c), (4, .pointer (some ⟨b, 0, none⟩)), (5, .int .i64 i)] ∧ Sep W w (.wtr b 53 (wItem s0 x) :: .rd kItem (.slice (some ⟨b0, off, none⟩) xs.length c) xs :: cs)) ?_ ?_
      · refine wp_block ?_
        refine wp_seq_k fun K9 hK9 => ?_
        refine wp_region_lit ?_
        refine pY ha (yEql (by rfl) (by rfl)) rfl fun a ha => ?_
        refine pY ha (yAssign (by rfl)) rfl fun a ha => ?_
        refine pZ ?_
        refine hK9 _ _ ?_
        first | refine cDec ha (by rfl) (fun hc19 => ?_) (fun hc19 => ?_) | refine cSplit ha (by rfl) (fun hc19 => ?_) (fun hc19 => ?_)
        · rw [wItem, if_pos hc19] at hf3
          refine wp_region_lit ?_
          refine pY ha (yMove (by rfl)) rfl fun a ha => ?_
          refine pY ha (yMove (by rfl)) rfl fun a ha => ?_
          refine pY ha (yMove (by rfl)) rfl fun a ha => ?_
          refine pY ha (yIndexA Tryd.runUnderlying22 Tryd.sizeOf61 (by rfl) (by rfl) (by omega) (by omega)) rfl fun a ha => ?_
          refine pY ha (yFieldA Tryd.runUnderlying61 rfl Tryd.sizeOf3 rfl (by rfl)) rfl fun a ha => ?_
          first | refine pY ha (yLoadB Tryd.isAgg3 hs (by rfl) (by repeat first | exact .here | apply Pick.there) (by rfl)) rfl fun a ha => ?_ | refine pY ha (yLoadR Tryd.isAgg3 hs (by rfl) (by repeat first | exact .here | apply Pick.there) (by rfl)) rfl fun a ha => ?_ | refine pY ha (yLoadR0 Tryd.isAgg3 hs (by rfl) (by repeat first | exact .here | apply Pick.there) (by rfl)) rfl fun a ha => ?_
          refine pC ha (nCall Tryd.call12 (by rfl)) rfl (WrNum_c (st := s0) x.n (by omega) hs (by repeat first | exact .here | apply Pick.there)) ?_
          rintro v w ⟨rfl, hs⟩ a ha
          refine pZ ?_
          refine @And.intro _ _ rfl ?_
          refine ⟨has3 ha (by rfl) (by rfl) (by rfl), ?_⟩; first | (rw [wItem, if_pos hc19]; exact hs.drop2.drop2.drop2.drop2) | (rw [wItem, if_neg hc19, if_pos hc28]; exact hs.drop2.drop2.drop2.drop2) | (rw [wItem, if_neg hc19, if_neg hc28, if_pos hc37]; exact hs.drop2.drop2.drop2.drop2) | (rw [wItem, if_neg hc19, if_neg hc28, if_neg hc37, if_pos hc46]; exact hs.drop2.drop2.drop2.drop2) | (rw [wItem, if_neg hc19, if_neg hc28, if_neg hc37, if_neg hc46, if_pos hc55]; exact hs.drop2.drop2.drop2.drop2) | (rw [wItem, if_neg hc19, if_neg hc28, if_neg hc37, if_neg hc46, if_neg hc55, if_pos hc64]; exact hs.drop2.drop2.drop2.drop2) | (rw [wItem, if_neg hc19, if_neg hc28, if_neg hc37, if_neg hc46, if_neg hc55, if_neg hc64]; exact hs.drop.drop.drop.drop)
        · refine wp_seq_k fun K10 hK10 => ?_
          refine wp_region_lit ?_
          refine pY ha (yEql (by rfl) (by rfl)) rfl fun a ha => ?_
          refine pY ha (yAssign (by rfl)) rfl fun a ha => ?_
          refine pZ ?_
          refine hK10 _ _ ?_
          first | refine cDec ha (by rfl) (fun hc28 => ?_) (fun hc28 => ?_) | refine cSplit ha (by rfl) (fun hc28 => ?_) (fun hc28 => ?_)
          · rw [wItem, if_neg hc19, if_pos hc28] at hf3
            refine wp_region_lit ?_
            refine pY ha (yMove (by rfl)) rfl fun a ha => ?_
            refine pY ha (yMove (by rfl)) rfl fun a ha => ?_
            refine pY ha (yMove (by rfl)) rfl fun a ha => ?_
            refine pY ha (yIndexA Tryd.runUnderlying22 Tryd.sizeOf61 (by rfl) (by rfl) (by omega) (by omega)) rfl fun a ha => ?_
            refine pY ha (yFieldA Tryd.runUnderlying61 rfl Tryd.sizeOf9 rfl (by rfl)) rfl fun a ha => ?_
            first | refine pY ha (yLoadB Tryd.isAgg9 hs (by rfl) (by repeat first | exact .here | apply Pick.there) (by rfl)) rfl fun a ha => ?_ | refine pY ha (yLoadR Tryd.isAgg9 hs (by rfl) (by repeat first | exact .here | apply Pick.there) (by rfl)) rfl fun a ha => ?_ | refine pY ha (yLoadR0 Tryd.isAgg9 hs (by rfl) (by repeat first | exact .here | apply Pick.there) (by rfl)) rfl fun a ha => ?_
            refine pC ha (nCall Tryd.call32 (by rfl)) rfl (WrText_c (st := s0) hT x.text (by have := wText_le s0 x.text; omega) (by omega) hs (by repeat first | exact .here | apply Pick.there)) ?_
            rintro v w ⟨rfl, hs⟩ a ha
            refine pZ ?_
            refine @And.intro _ _ rfl ?_
            refine ⟨has3 ha (by rfl) (by rfl) (by rfl), ?_⟩; first | (rw [wItem, if_pos hc19]; exact hs.drop2.drop2.drop2.drop2) | (rw [wItem, if_neg hc19, if_pos hc28]; exact hs.drop2.drop2.drop2.drop2) | (rw [wItem, if_neg hc19, if_neg hc28, if_pos hc37]; exact hs.drop2.drop2.drop2.drop2) | (rw [wItem, if_neg hc19, if_neg hc28, if_neg hc37, if_pos hc46]; exact hs.drop2.drop2.drop2.drop2) | (rw [wItem, if_neg hc19, if_neg hc28, if_neg hc37, if_neg hc46, if_pos hc55]; exact hs.drop2.drop2.drop2.drop2) | (rw [wItem, if_neg hc19, if_neg hc28, if_neg hc37, if_neg hc46, if_neg hc55, if_pos hc64]; exact hs.drop2.drop2.drop2.drop2) | (rw [wItem, if_neg hc19, if_neg hc28, if_neg hc37, if_neg hc46, if_neg hc55, if_neg hc64]; exact hs.drop.drop.drop.drop)
          · refine wp_seq_k fun K11 hK11 => ?_
            refine wp_region_lit ?_
            refine pY ha (yEql (by rfl) (by rfl)) rfl fun a ha => ?_
            refine pY ha (yAssign (by rfl)) rfl fun a ha => ?_
            refine pZ ?_
            refine hK11 _ _ ?_
            first | refine cDec ha (by rfl) (fun hc37 => ?_) (fun hc37 => ?_) | refine cSplit ha (by rfl) (fun hc37 => ?_) (fun hc37 => ?_)
            · rw [wItem, if_neg hc19, if_neg hc28, if_pos hc37] at hf3
              refine wp_region_lit ?_
              refine pY ha (yMove (by rfl)) rfl fun a ha => ?_
              refine pY ha (yMove (by rfl)) rfl fun a ha => ?_
              refine pY ha (yMove (by rfl)) rfl fun a ha => ?_
              refine pY ha (yIndexA Tryd.runUnderlying22 Tryd.sizeOf61 (by rfl) (by rfl) (by omega) (by omega)) rfl fun a ha => ?_
              refine pY ha (yFieldA Tryd.runUnderlying61 rfl Tryd.sizeOf4 rfl (by rfl)) rfl fun a ha => ?_
              first | refine pY ha (yLoadB Tryd.isAgg4 hs (by rfl) (by repeat first | exact .here | apply Pick.there) (by rfl)) rfl fun a ha => ?_ | refine pY ha (yLoadR Tryd.isAgg4 hs (by rfl) (by repeat first | exact .here | apply Pick.there) (by rfl)) rfl fun a ha => ?_ | refine pY ha (yLoadR0 Tryd.isAgg4 hs (by rfl) (by repeat first | exact .here | apply Pick.there) (by rfl)) rfl fun a ha => ?_
              refine pC ha (nCall Tryd.call39 (by rfl)) rfl (WrFlag_c (st := s0) x.flag (by omega) hs (by repeat first | exact .here | apply Pick.there)) ?_
              rintro v w ⟨rfl, hs⟩ a ha
              refine pZ ?_
              refine @And.intro _ _ rfl ?_
              refine ⟨has3 ha (by rfl) (by rfl) (by rfl), ?_⟩; first | (rw [wItem, if_pos hc19]; exact hs.drop2.drop2.drop2.drop2) | (rw [wItem, if_neg hc19, if_pos hc28]; exact hs.drop2.drop2.drop2.drop2) | (rw [wItem, if_neg hc19, if_neg hc28, if_pos hc37]; exact hs.drop2.drop2.drop2.drop2) | (rw [wItem, if_neg hc19, if_neg hc28, if_neg hc37, if_pos hc46]; exact hs.drop2.drop2.drop2.drop2) | (rw [wItem, if_neg hc19, if_neg hc28, if_neg hc37, if_neg hc46, if_pos hc55]; exact hs.drop2.drop2.drop2.drop2) | (rw [wItem, if_neg hc19, if_neg hc28, if_neg hc37, if_neg hc46, if_neg hc55, if_pos hc64]; exact hs.drop2.drop2.drop2.drop2) | (rw [wItem, if_neg hc19, if_neg hc28, if_neg hc37, if_neg hc46, if_neg hc55, if_neg hc64]; exact hs.drop.drop.drop.drop)
            · refine wp_seq_k fun K12 hK12 => ?_
              refine wp_region_lit ?_
              refine pY ha (yEql (by rfl) (by rfl)) rfl fun a ha => ?_
              refine pY ha (yAssign (by rfl)) rfl fun a ha => ?_
              refine pZ ?_
              refine hK12 _ _ ?_
              first | refine cDec ha (by rfl) (fun hc46 => ?_) (fun hc46 => ?_) | refine cSplit ha (by rfl) (fun hc46 => ?_) (fun hc46 => ?_)
              · rw [wItem, if_neg hc19, if_neg hc28, if_neg hc37, if_pos hc46] at hf3
                refine wp_region_lit ?_
                refine pY ha (yMove (by rfl)) rfl fun a ha => ?_
                refine pY ha (yMove (by rfl)) rfl fun a ha => ?_
                refine pY ha (yMove (by rfl)) rfl fun a ha => ?_
                refine pY ha (yIndexA Tryd.runUnderlying22 Tryd.sizeOf61 (by rfl) (by rfl) (by omega) (by omega)) rfl fun a ha => ?_
                refine pY ha (yFieldA Tryd.runUnderlying61 rfl Tryd.sizeOf41 rfl (by rfl)) rfl fun a ha => ?_
                first | refine pY ha (yLoadB Tryd.isAgg41 hs (by rfl) (by repeat first | exact .here | apply Pick.there) (by rfl)) rfl fun a ha => ?_ | refine pY ha (yLoadR Tryd.isAgg41 hs (by rfl) (by repeat first | exact .here | apply Pick.there) (by rfl)) rfl fun a ha => ?_ | refine pY ha (yLoadR0 Tryd.isAgg41 hs (by rfl) (by repeat first | exact .here | apply Pick.there) (by rfl)) rfl fun a ha => ?_
                refine pC ha (nCall Tryd.call40 (by rfl)) rfl (WrComps_c (st := s0) (xs := x.comps) hT (by omega) hs (by repeat first | exact .here | apply Pick.there) (by repeat first | exact .here | apply Pick.there)) ?_
                rintro v w ⟨rfl, hs⟩ a ha
                refine pZ ?_
                refine @And.intro _ _ rfl ?_
                refine ⟨has3 ha (by rfl) (by rfl) (by rfl), ?_⟩; first | (rw [wItem, if_pos hc19]; exact hs.drop2.drop2.drop2.drop2) | (rw [wItem, if_neg hc19, if_pos hc28]; exact hs.drop2.drop2.drop2.drop2) | (rw [wItem, if_neg hc19, if_neg hc28, if_pos hc37]; exact hs.drop2.drop2.drop2.drop2) | (rw [wItem, if_neg hc19, if_neg hc28, if_neg hc37, if_pos hc46]; exact hs.drop2.drop2.drop2.drop2) | (rw [wItem, if_neg hc19, if_neg hc28, if_neg hc37, if_neg hc46, if_pos hc55]; exact hs.drop2.drop2.drop2.drop2) | (rw [wItem, if_neg hc19, if_neg hc28, if_neg hc37, if_neg hc46, if_neg hc55, if_pos hc64]; exact hs.drop2.drop2.drop2.drop2) | (rw [wItem, if_neg hc19, if_neg hc28, if_neg hc37, if_neg hc46, if_neg hc55, if_neg hc64]; exact hs.drop.drop.drop.drop)
              · refine wp_seq_k fun K13 hK13 => ?_
                refine wp_region_lit ?_
                refine pY ha (yEql (by rfl) (by rfl)) rfl fun a ha => ?_
                refine pY ha (yAssign (by rfl)) rfl fun a ha => ?_
                refine pZ ?_
                refine hK13 _ _ ?_
                first | refine cDec ha (by rfl) (fun hc55 => ?_) (fun hc55 => ?_) | refine cSplit ha (by rfl) (fun hc55 => ?_) (fun hc55 => ?_)
                · rw [wItem, if_neg hc19, if_neg hc28, if_neg hc37, if_neg hc46, if_pos hc55] at hf3
                  refine wp_region_lit ?_
                  refine pY ha (yMove (by rfl)) rfl fun a ha => ?_
                  refine pY ha (yMove (by rfl)) rfl fun a ha => ?_
                  refine pY ha (yMove (by rfl)) rfl fun a ha => ?_
                  refine pY ha (yIndexA Tryd.runUnderlying22 Tryd.sizeOf61 (by rfl) (by rfl) (by omega) (by omega)) rfl fun a ha => ?_
                  refine pY ha (yFieldA Tryd.runUnderlying61 rfl Tryd.sizeOf44 rfl (by rfl)) rfl fun a ha => ?_
                  first | refine pY ha (yLoadB Tryd.isAgg44 hs (by rfl) (by repeat first | exact .here | apply Pick.there) (by rfl)) rfl fun a ha => ?_ | refine pY ha (yLoadR Tryd.isAgg44 hs (by rfl) (by repeat first | exact .here | apply Pick.there) (by rfl)) rfl fun a ha => ?_ | refine pY ha (yLoadR0 Tryd.isAgg44 hs (by rfl) (by repeat first | exact .here | apply Pick.there) (by rfl)) rfl fun a ha => ?_
                  refine pC ha (nCall Tryd.call41 (by rfl)) rfl (WrActns_c (st := s0) (xs := x.acts) hT (by omega) hs (by repeat first | exact .here | apply Pick.there) (by repeat first | exact .here | apply Pick.there)) ?_
                  rintro v w ⟨rfl, hs⟩ a ha
                  refine pZ ?_
                  refine @And.intro _ _ rfl ?_
                  refine ⟨has3 ha (by rfl) (by rfl) (by rfl), ?_⟩; first | (rw [wItem, if_pos hc19]; exact hs.drop2.drop2.drop2.drop2) | (rw [wItem, if_neg hc19, if_pos hc28]; exact hs.drop2.drop2.drop2.drop2) | (rw [wItem, if_neg hc19, if_neg hc28, if_pos hc37]; exact hs.drop2.drop2.drop2.drop2) | (rw [wItem, if_neg hc19, if_neg hc28, if_neg hc37, if_pos hc46]; exact hs.drop2.drop2.drop2.drop2) | (rw [wItem, if_neg hc19, if_neg hc28, if_neg hc37, if_neg hc46, if_pos hc55]; exact hs.drop2.drop2.drop2.drop2) | (rw [wItem, if_neg hc19, if_neg hc28, if_neg hc37, if_neg hc46, if_neg hc55, if_pos hc64]; exact hs.drop2.drop2.drop2.drop2) | (rw [wItem, if_neg hc19, if_neg hc28, if_neg hc37, if_neg hc46, if_neg hc55, if_neg hc64]; exact hs.drop.drop.drop.drop)
                · refine wp_seq_k fun K14 hK14 => ?_
                  refine wp_region_lit ?_
                  refine pY ha (yEql (by rfl) (by rfl)) rfl fun a ha => ?_
                  refine pY ha (yAssign (by rfl)) rfl fun a ha => ?_
                  refine pZ ?_
                  refine hK14 _ _ ?_
                  first | refine cDec ha (by rfl) (fun hc64 => ?_) (fun hc64 => ?_) | refine cSplit ha (by rfl) (fun hc64 => ?_) (fun hc64 => ?_)
                  · rw [wItem, if_neg hc19, if_neg hc28, if_neg hc37, if_neg hc46, if_neg hc55, if_pos hc64] at hf3
                    refine wp_region_lit ?_
                    refine pY ha (yMove (by rfl)) rfl fun a ha => ?_
                    refine pY ha (yMove (by rfl)) rfl fun a ha => ?_
                    refine pY ha (yMove (by rfl)) rfl fun a ha => ?_
                    refine pY ha (yIndexA Tryd.runUnderlying22 Tryd.sizeOf61 (by rfl) (by rfl) (by omega) (by omega)) rfl fun a ha => ?_
                    refine pY ha (yFieldA Tryd.runUnderlying61 rfl Tryd.sizeOf47 rfl (by rfl)) rfl fun a ha => ?_
                    first | refine pY ha (yLoadB Tryd.isAgg47 hs (by rfl) (by repeat first | exact .here | apply Pick.there) (by rfl)) rfl fun a ha => ?_ | refine pY ha (yLoadR Tryd.isAgg47 hs (by rfl) (by repeat first | exact .here | apply Pick.there) (by rfl)) rfl fun a ha => ?_ | refine pY ha (yLoadR0 Tryd.isAgg47 hs (by rfl) (by repeat first | exact .here | apply Pick.there) (by rfl)) rfl fun a ha => ?_
                    refine pC ha (nCall Tryd.call42 (by rfl)) rfl (WrNods_c (st := s0) (xs := x.nods) hT (by omega) hs (by repeat first | exact .here | apply Pick.there) (by repeat first | exact .here | apply Pick.there)) ?_
                    rintro v w ⟨rfl, hs⟩ a ha
                    refine pZ ?_
                    refine @And.intro _ _ rfl ?_
                    refine ⟨has3 ha (by rfl) (by rfl) (by rfl), ?_⟩; first | (rw [wItem, if_pos hc19]; exact hs.drop2.drop2.drop2.drop2) | (rw [wItem, if_neg hc19, if_pos hc28]; exact hs.drop2.drop2.drop2.drop2) | (rw [wItem, if_neg hc19, if_neg hc28, if_pos hc37]; exact hs.drop2.drop2.drop2.drop2) | (rw [wItem, if_neg hc19, if_neg hc28, if_neg hc37, if_pos hc46]; exact hs.drop2.drop2.drop2.drop2) | (rw [wItem, if_neg hc19, if_neg hc28, if_neg hc37, if_neg hc46, if_pos hc55]; exact hs.drop2.drop2.drop2.drop2) | (rw [wItem, if_neg hc19, if_neg hc28, if_neg hc37, if_neg hc46, if_neg hc55, if_pos hc64]; exact hs.drop2.drop2.drop2.drop2) | (rw [wItem, if_neg hc19, if_neg hc28, if_neg hc37, if_neg hc46, if_neg hc55, if_neg hc64]; exact hs.drop.drop.drop.drop)
                  · refine wp_skip ?_
                    refine @And.intro _ _ rfl ?_
                    refine ⟨has3 ha (by rfl) (by rfl) (by rfl), ?_⟩; first | (rw [wItem, if_pos hc19]; exact hs.drop2.drop2.drop2.drop2) | (rw [wItem, if_neg hc19, if_pos hc28]; exact hs.drop2.drop2.drop2.drop2) | (rw [wItem, if_neg hc19, if_neg hc28, if_pos hc37]; exact hs.drop2.drop2.drop2.drop2) | (rw [wItem, if_neg hc19, if_neg hc28, if_neg hc37, if_pos hc46]; exact hs.drop2.drop2.drop2.drop2) | (rw [wItem, if_neg hc19, if_neg hc28, if_neg hc37, if_neg hc46, if_pos hc55]; exact hs.drop2.drop2.drop2.drop2) | (rw [wItem, if_neg hc19, if_neg hc28, if_neg hc37, if_neg hc46, if_neg hc55, if_pos hc64]; exact hs.drop2.drop2.drop2.drop2) | (rw [wItem, if_neg hc19, if_neg hc28, if_neg hc37, if_neg hc46, if_neg hc55, if_neg hc64]; exact hs.drop.drop.drop.drop)
      rintro a w ⟨ha, hs⟩
      refine hK7 _ _ ?_
      refine wp_region_lit ?_
      refine pY ha (yMove (by rfl)) rfl fun a ha => ?_
      first | refine pY ha (yAddN (by rfl) (by rfl) ⟨by omega, by omega⟩) rfl fun a ha => ?_ | refine pY ha (yAdd (by rfl) (by rfl)) rfl fun a ha => ?_
      refine pY ha (yAssign (by rfl)) rfl fun a ha => ?_
      refine pZ ?_
      exact ⟨i + 1, ⟨by omega, has3 ha (by rfl) (by rfl) (by rfl), by rw [hf1]; exact hs⟩, by omega⟩
    · refine wp_exit ?_
      refine hK3 _ _ ?_
      refine wp_seq_k fun K15 hK15 => ?_
      rw [List.take_of_length_le (by omega)] at hs
      change Sep W w (.wtr b _ (wItems xs) :: _) at hs
      refine wp_region_lit ?_
      refine pY ha (yMove (by rfl)) rfl fun a ha => ?_
      refine pC ha (nCall Tryd.call11 (by rfl)) rfl (WrDone_c (by omega) hs .here) ?_
      rintro v w hv a ha
      cases hI : (wItems xs).2
      · rw [if_neg (by simp [hI])] at hv
        obtain ⟨A', c', rfl, hs⟩ := hv
        refine pY ha (yExtract (by rfl) (by rfl)) rfl fun a ha => ?_
        refine pY ha (yExtract (by rfl) (by rfl)) rfl fun a ha => ?_
        refine pY ha (yAssign (by rfl)) rfl fun a ha => ?_
        refine pY ha (yAssign (by rfl)) rfl fun a ha => ?_
        refine pZ ?_
        refine hK15 _ _ ?_
        refine wp_ret ?_
        show bodyPost Tryd.prog Tryd.f9 _ .ret _ _
        refine ret2 rfl ha (by rfl) (by rfl) ?_
        rw [if_neg (by simp [hI])]; exact ⟨A', c', rfl, hs.drop2⟩
      · rw [if_pos hI] at hv
        obtain ⟨rfl, hs⟩ := hv
        refine pY ha (yExtract (by rfl) (by rfl)) rfl fun a ha => ?_
        refine pY ha (yExtract (by rfl) (by rfl)) rfl fun a ha => ?_
        refine pY ha (yAssign (by rfl)) rfl fun a ha => ?_
        refine pY ha (yAssign (by rfl)) rfl fun a ha => ?_
        refine pZ ?_
        refine hK15 _ _ ?_
        refine wp_ret ?_
        show bodyPost Tryd.prog Tryd.f9 _ .ret _ _
        refine ret2 rfl ha (by rfl) (by rfl) ?_
        rw [if_pos hI]; exact ⟨rfl, hs.drop.drop⟩
theorem made_c {A : Option Addr} {n c : Nat} {xs : List Item} (hb : tItems xs ≤ 3000) (hs : Sep W w cs) (hk : Pick cs (.rd kItem (.slice A n c) xs) r) :
    Calls P 10 #[.slice A n c] w (Rt fun v w' => if (wItems xs).2 = true then v = .tuple #[.slice none 0 0, .bool false] ∧ Sep W w' cs
      else ∃ A' c', v = .tuple #[.slice A' (wItems xs).1.length c', .bool true] ∧ Sep W w' (.ol kU8 5 (.slice A' (wItems xs).1.length c') (wItems xs).1 :: cs)) := by
  obtain ⟨rfl, hl⟩ := hs.rd_shape hk
  unfold maxLen at hl
  have hs := hs.cpR hk
  have hwl := wItems_len xs
  refine enter Tryd.func10 Tryd.ntmps10 rfl rfl fun a (ha : Has a 68 [(0, _)]) => ?_
  refine wp_seq_k fun K1 hK1 => ?_
  refine wp_region_lit ?_
  refine pY ha (yAssign (by rfl)) rfl fun a ha => ?_
  refine pY ha (yAssign (by rfl)) rfl fun a ha => ?_
  refine pZ ?_
  refine hK1 _ _ ?_
  refine wp_seq_k fun K2 hK2 => ?_
  refine wp_region_lit ?_
  refine pAlloc (zs := [.slice none 0 0, .bool false]) ha Tryd.zeroValue57 (by rfl) hs rfl fun b w hs a ha => ?_
  have hs := ((hs.ol_nil kU8 5 none).perm (List.Perm.swap _ _ _)).wtr_shut .here .here
  refine pZ ?_
  refine hK2 _ _ ?_
  refine wp_seq_k fun K3 hK3 => ?_
  refine wp_seq_k fun K4 hK4 => ?_
  refine wp_region_lit ?_
  refine pY ha (yAssign (by rfl)) rfl fun a ha => ?_
  refine pZ ?_
  refine hK4 _ _ ?_
  refine wp_block ?_
  refine loopI (ι := Nat) (fun i a w => i ≤ xs.length ∧ Has a 68 [(0, .slice A xs.length c), (4, .pointer (some ⟨b, 0, none⟩)), (5, .int .i64 i)] ∧ Sep W w (.wtr b 57 ((xs.take i).foldl wItem ([], false)) :: .rd kItem (.slice A xs.length c) xs :: cs)) (fun i => xs.length - i) (0) ?_ ?_
  · exact ⟨Nat.zero_le _, has3 ha (by rfl) (by rfl) (by rfl), hs⟩
  · rintro i a w ⟨h1, ha, hs⟩
    refine wp_seq_k fun K5 hK5 => ?_
    refine wp_seq_k fun K6 hK6 => ?_
    refine wp_region_lit ?_
    refine pY ha (yMove (by rfl)) rfl fun a ha => ?_
    refine pY ha (yMove (by rfl)) rfl fun a ha => ?_
    refine pY ha (yLenS Tryd.runUnderlying22 (by rfl)) rfl fun a ha => ?_
    refine pY ha (yLss (by rfl) (by rfl)) rfl fun a ha => ?_
    refine pZ ?_
    refine hK6 _ _ ?_
    first | refine cDec ha (by rfl) (fun hc9 => ?_) (fun hc9 => ?_) | refine cSplit ha (by rfl) (fun hc9 => ?_) (fun hc9 => ?_)
    · refine wp_skip ?_
      refine hK5 _ _ ?_
      refine wp_seq_k fun K7 hK7 => ?_
      refine wp_block ?_
      refine wp_seq_k fun K8 hK8 => ?_
      obtain ⟨x, hx⟩ : ∃ x, xs[i]? = some x := ⟨_, List.getElem?_eq_getElem (by omega)⟩
      obtain ⟨hf1, hf2⟩ := fold_at (f := wItem) wItem_le (s0 := (([], false) : Wt)) hx
      have hf3 : (wItem ((xs.take i).foldl wItem ([], false)) x).1.length ≤ 36000 := Nat.le_trans hf2 (by unfold wItems at hwl; omega)
      generalize (xs.take i).foldl wItem ([], false) = s0 at hs hf1 hf2 hf3
      obtain ⟨b0, off, A1, n1, c1, A2, n2, c2, A3, n3, c3, rfl, hs⟩ := hs.rd_item (.there .here) hx
      refine wp_region_lit ?_
      refine pY ha (yMove (by rfl)) rfl fun a ha => ?_
      refine pY ha (yMove (by rfl)) rfl fun a ha => ?_
      refine pY ha (yIndexA Tryd.runUnderlying22 Tryd.sizeOf61 (by rfl) (by rfl) (by omega) (by omega)) rfl fun a ha => ?_
      refine pY ha (yFieldA Tryd.runUnderlying61 rfl Tryd.sizeOf3 rfl (by rfl)) rfl fun a ha => ?_
      first | refine pY ha (yLoadB Tryd.isAgg3 hs (by rfl) (by repeat first | exact .here | apply Pick.there) (by rfl)) rfl fun a ha => ?_ | refine pY ha (yLoadR Tryd.isAgg3 hs (by rfl) (by repeat first | exact .here | apply Pick.there) (by rfl)) rfl fun a ha => ?_ | refine pY ha (yLoadR0 Tryd.isAgg3 hs (by rfl) (by repeat first | exact .here | apply Pick.there) (by rfl)) rfl fun a ha => ?_
      refine pZ ?_
      refine hK8 _ _ ?_
      refine cutC (fun a w => Has a 68 [(0, .slice (some ⟨b0, off, none⟩) xs.length c), (4, .pointer (some ⟨b, 0, none⟩)), (5, .int .i64 i)] ∧ Sep W w (.wtr b 57 (wItem s0 x) :: .rd kItem (.slice (some ⟨b0, off, none⟩) xs.length c) xs :: cs)) ?_ ?_
      · refine wp_block ?_
        refine wp_seq_k fun K9 hK9 => ?_
        refine wp_region_lit ?_
        refine pY ha (yEql (by rfl) (by rfl)) rfl fun a ha => ?_
        refine pY ha (yAssign (by rfl)) rfl fun a ha => ?_
        refine pZ ?_
        refine hK9 _ _ ?_
        first | refine cDec ha (by rfl) (fun hc17 => ?_) (fun hc17 => ?_) | refine cSplit ha (by rfl) (fun hc17 => ?_) (fun hc17 => ?_)
        · rw [wItem, if_pos hc17] at hf3
          refine wp_region_lit ?_
          refine pY ha (yMove (by rfl)) rfl fun a ha => ?_
          refine pY ha (yMove (by rfl)) rfl fun a ha => ?_
          refine pY ha (yIndexA Tryd.runUnderlying22 Tryd.sizeOf61 (by rfl) (by rfl) (by omega) (by omega)) rfl fun a ha => ?_
          refine pY ha (yFieldA Tryd.runUnderlying61 rfl Tryd.sizeOf3 rfl (by rfl)) rfl fun a ha => ?_
          first | refine pY ha (yLoadB Tryd.isAgg3 hs (by rfl) (by repeat first | exact .here | apply Pick.there) (by rfl)) rfl fun a ha => ?_ | refine pY ha (yLoadR Tryd.isAgg3 hs (by rfl) (by repeat first | exact .here | apply Pick.there) (by rfl)) rfl fun a ha => ?_ | refine pY ha (yLoadR0 Tryd.isAgg3 hs (by rfl) (by repeat first | exact .here | apply Pick.there) (by rfl)) rfl fun a ha => ?_
          refine pC ha (nCall Tryd.call34 (by rfl)) rfl (OutNum_c (st := s0) x.n (by omega) hs (by repeat first | exact .here | apply Pick.there)) ?_
          rintro v w ⟨rfl, hs⟩ a ha
          refine pZ ?_
          refine @And.intro _ _ rfl ?_
          refine ⟨has3 ha (by rfl) (by rfl) (by rfl), ?_⟩; first | (rw [wItem, if_pos hc17]; exact hs.drop2.drop2.drop2.drop2) | (rw [wItem, if_neg hc17, if_pos hc25]; exact hs.drop2.drop2.drop2.drop2) | (rw [wItem, if_neg hc17, if_neg hc25, if_pos hc33]; exact hs.drop2.drop2.drop2.drop2) | (rw [wItem, if_neg hc17, if_neg hc25, if_neg hc33, if_pos hc41]; exact hs.drop2.drop2.drop2.drop2) | (rw [wItem, if_neg hc17, if_neg hc25, if_neg hc33, if_neg hc41, if_pos hc49]; exact hs.drop2.drop2.drop2.drop2) | (rw [wItem, if_neg hc17, if_neg hc25, if_neg hc33, if_neg hc41, if_neg hc49, if_pos hc57]; exact hs.drop2.drop2.drop2.drop2) | (rw [wItem, if_neg hc17, if_neg hc25, if_neg hc33, if_neg hc41, if_neg hc49, if_neg hc57]; exact hs.drop.drop.drop.drop)
        · refine wp_seq_k fun K10 hK10 => ?_
          refine wp_region_lit ?_
          refine pY ha (yEql (by rfl) (by rfl)) rfl fun a ha => ?_
          refine pY ha (yAssign (by rfl)) rfl fun a ha => ?_
          refine pZ ?_
          refine hK10 _ _ ?_
          first | refine cDec ha (by rfl) (fun hc25 => ?_) (fun hc25 => ?_) | refine cSplit ha (by rfl) (fun hc25 => ?_) (fun hc25 => ?_)
          · rw [wItem, if_neg hc17, if_pos hc25] at hf3
            refine wp_region_lit ?_
            refine pY ha (yMove (by rfl)) rfl fun a ha => ?_
            refine pY ha (yMove (by rfl)) rfl fun a ha => ?_
            refine pY ha (yIndexA Tryd.runUnderlying22 Tryd.sizeOf61 (by rfl) (by rfl) (by omega) (by omega)) rfl fun a ha => ?_
            refine pY ha (yFieldA Tryd.runUnderlying61 rfl Tryd.sizeOf9 rfl (by rfl)) rfl fun a ha => ?_
            first | refine pY ha (yLoadB Tryd.isAgg9 hs (by rfl) (by repeat first | exact .here | apply Pick.there) (by rfl)) rfl fun a ha => ?_ | refine pY ha (yLoadR Tryd.isAgg9 hs (by rfl) (by repeat first | exact .here | apply Pick.there) (by rfl)) rfl fun a ha => ?_ | refine pY ha (yLoadR0 Tryd.isAgg9 hs (by rfl) (by repeat first | exact .here | apply Pick.there) (by rfl)) rfl fun a ha => ?_
            refine pC ha (nCall Tryd.call43 (by rfl)) rfl (OutText_c (st := s0) x.text (by have := wText_le s0 x.text; omega) (by omega) hs (by repeat first | exact .here | apply Pick.there)) ?_
            rintro v w ⟨rfl, hs⟩ a ha
            refine pZ ?_
            refine @And.intro _ _ rfl ?_
            refine ⟨has3 ha (by rfl) (by rfl) (by rfl), ?_⟩; first | (rw [wItem, if_pos hc17]; exact hs.drop2.drop2.drop2.drop2) | (rw [wItem, if_neg hc17, if_pos hc25]; exact hs.drop2.drop2.drop2.drop2) | (rw [wItem, if_neg hc17, if_neg hc25, if_pos hc33]; exact hs.drop2.drop2.drop2.drop2) | (rw [wItem, if_neg hc17, if_neg hc25, if_neg hc33, if_pos hc41]; exact hs.drop2.drop2.drop2.drop2) | (rw [wItem, if_neg hc17, if_neg hc25, if_neg hc33, if_neg hc41, if_pos hc49]; exact hs.drop2.drop2.drop2.drop2) | (rw [wItem, if_neg hc17, if_neg hc25, if_neg hc33, if_neg hc41, if_neg hc49, if_pos hc57]; exact hs.drop2.drop2.drop2.drop2) | (rw [wItem, if_neg hc17, if_neg hc25, if_neg hc33, if_neg hc41, if_neg hc49, if_neg hc57]; exact hs.drop.drop.drop.drop)
          · refine wp_seq_k fun K11 hK11 => ?_
            refine wp_region_lit ?_
            refine pY ha (yEql (by rfl) (by rfl)) rfl fun a ha => ?_
            refine pY ha (yAssign (by rfl)) rfl fun a ha => ?_
            refine pZ ?_
            refine hK11 _ _ ?_
            first | refine cDec ha (by rfl) (fun hc33 => ?_) (fun hc33 => ?_) | refine cSplit ha (by rfl) (fun hc33 => ?_) (fun hc33 => ?_)
            · rw [wItem, if_neg hc17, if_neg hc25, if_pos hc33] at hf3
              refine wp_region_lit ?_
              refine pY ha (yMove (by rfl)) rfl fun a ha => ?_
              refine pY ha (yMove (by rfl)) rfl fun a ha => ?_
              refine pY ha (yIndexA Tryd.runUnderlying22 Tryd.sizeOf61 (by rfl) (by rfl) (by omega) (by omega)) rfl fun a ha => ?_
              refine pY ha (yFieldA Tryd.runUnderlying61 rfl Tryd.sizeOf4 rfl (by rfl)) rfl fun a ha => ?_
              first | refine pY ha (yLoadB Tryd.isAgg4 hs (by rfl) (by repeat first | exact .here | apply Pick.there) (by rfl)) rfl fun a ha => ?_ | refine pY ha (yLoadR Tryd.isAgg4 hs (by rfl) (by repeat first | exact .here | apply Pick.there) (by rfl)) rfl fun a ha => ?_ | refine pY ha (yLoadR0 Tryd.isAgg4 hs (by rfl) (by repeat first | exact .here | apply Pick.there) (by rfl)) rfl fun a ha => ?_
              refine pC ha (nCall Tryd.call44 (by rfl)) rfl (OutFlag_c (st := s0) x.flag (by omega) hs (by repeat first | exact .here | apply Pick.there)) ?_
              rintro v w ⟨rfl, hs⟩ a ha
              refine pZ ?_
              refine @And.intro _ _ rfl ?_
              refine ⟨has3 ha (by rfl) (by rfl) (by rfl), ?_⟩; first | (rw [wItem, if_pos hc17]; exact hs.drop2.drop2.drop2.drop2) | (rw [wItem, if_neg hc17, if_pos hc25]; exact hs.drop2.drop2.drop2.drop2) | (rw [wItem, if_neg hc17, if_neg hc25, if_pos hc33]; exact hs.drop2.drop2.drop2.drop2) | (rw [wItem, if_neg hc17, if_neg hc25, if_neg hc33, if_pos hc41]; exact hs.drop2.drop2.drop2.drop2) | (rw [wItem, if_neg hc17, if_neg hc25, if_neg hc33, if_neg hc41, if_pos hc49]; exact hs.drop2.drop2.drop2.drop2) | (rw [wItem, if_neg hc17, if_neg hc25, if_neg hc33, if_neg hc41, if_neg hc49, if_pos hc57]; exact hs.drop2.drop2.drop2.drop2) | (rw [wItem, if_neg hc17, if_neg hc25, if_neg hc33, if_neg hc41, if_neg hc49, if_neg hc57]; exact hs.drop.drop.drop.drop)
            · refine wp_seq_k fun K12 hK12 => ?_
              refine wp_region_lit ?_
              refine pY ha (yEql (by rfl) (by rfl)) rfl fun a ha => ?_
              refine pY ha (yAssign (by rfl)) rfl fun a ha => ?_
              refine pZ ?_
              refine hK12 _ _ ?_
              first | refine cDec ha (by rfl) (fun hc41 => ?_) (fun hc41 => ?_) | refine cSplit ha (by rfl) (fun hc41 => ?_) (fun hc41 => ?_)
              · rw [wItem, if_neg hc17, if_neg hc25, if_neg hc33, if_pos hc41] at hf3
                refine wp_region_lit ?_
                refine pY ha (yMove (by rfl)) rfl fun a ha => ?_
                refine pY ha (yMove (by rfl)) rfl fun a ha => ?_
                refine pY ha (yIndexA Tryd.runUnderlying22 Tryd.sizeOf61 (by rfl) (by rfl) (by omega) (by omega)) rfl fun a ha => ?_
                refine pY ha (yFieldA Tryd.runUnderlying61 rfl Tryd.sizeOf41 rfl (by rfl)) rfl fun a ha => ?_
                first | refine pY ha (yLoadB Tryd.isAgg41 hs (by rfl) (by repeat first | exact .here | apply Pick.there) (by rfl)) rfl fun a ha => ?_ | refine pY ha (yLoadR Tryd.isAgg41 hs (by rfl) (by repeat first | exact .here | apply Pick.there) (by rfl)) rfl fun a ha => ?_ | refine pY ha (yLoadR0 Tryd.isAgg41 hs (by rfl) (by repeat first | exact .here | apply Pick.there) (by rfl)) rfl fun a ha => ?_
                refine pC ha (nCall Tryd.call45 (by rfl)) rfl (OutComps_c (st := s0) (xs := x.comps) (by omega) hs (by repeat first | exact .here | apply Pick.there) (by repeat first | exact .here | apply Pick.there)) ?_
                rintro v w ⟨rfl, hs⟩ a ha
                refine pZ ?_
                refine @And.intro _ _ rfl ?_
                refine ⟨has3 ha (by rfl) (by rfl) (by rfl), ?_⟩; first | (rw [wItem, if_pos hc17]; exact hs.drop2.drop2.drop2.drop2) | (rw [wItem, if_neg hc17, if_pos hc25]; exact hs.drop2.drop2.drop2.drop2) | (rw [wItem, if_neg hc17, if_neg hc25, if_pos hc33]; exact hs.drop2.drop2.drop2.drop2) | (rw [wItem, if_neg hc17, if_neg hc25, if_neg hc33, if_pos hc41]; exact hs.drop2.drop2.drop2.drop2) | (rw [wItem, if_neg hc17, if_neg hc25, if_neg hc33, if_neg hc41, if_pos hc49]; exact hs.drop2.drop2.drop2.drop2) | (rw [wItem, if_neg hc17, if_neg hc25, if_neg hc33, if_neg hc41, if_neg hc49, if_pos hc57]; exact hs.drop2.drop2.drop2.drop2) | (rw [wItem, if_neg hc17, if_neg hc25, if_neg hc33, if_neg hc41, if_neg hc49, if_neg hc57]; exact hs.drop.drop.drop.drop)
              · refine wp_seq_k fun K13 hK13 => ?_
                refine wp_region_lit ?_
                refine pY ha (yEql (by rfl) (by rfl)) rfl fun a ha => ?_
                refine pY ha (yAssign (by rfl)) rfl fun a ha => ?_
                refine pZ ?_
                refine hK13 _ _ ?_
                first | refine cDec ha (by rfl) (fun hc49 => ?_) (fun hc49 => ?_) | refine cSplit ha (by rfl) (fun hc49 => ?_) (fun hc49 => ?_)
                · rw [wItem, if_neg hc17, if_neg hc25, if_neg hc33, if_neg hc41, if_pos hc49] at hf3
                  refine wp_region_lit ?_
                  refine pY ha (yMove (by rfl)) rfl fun a ha => ?_
                  refine pY ha (yMove (by rfl)) rfl fun a ha => ?_
                  refine pY ha (yIndexA Tryd.runUnderlying22 Tryd.sizeOf61 (by rfl) (by rfl) (by omega) (by omega)) rfl fun a ha => ?_
                  refine pY ha (yFieldA Tryd.runUnderlying61 rfl Tryd.sizeOf44 rfl (by rfl)) rfl fun a ha => ?_
                  first | refine pY ha (yLoadB Tryd.isAgg44 hs (by rfl) (by repeat first | exact .here | apply Pick.there) (by rfl)) rfl fun a ha => ?_ | refine pY ha (yLoadR Tryd.isAgg44 hs (by rfl) (by repeat first | exact .here | apply Pick.there) (by rfl)) rfl fun a ha => ?_ | refine pY ha (yLoadR0 Tryd.isAgg44 hs (by rfl) (by repeat first | exact .here | apply Pick.there) (by rfl)) rfl fun a ha => ?_
                  refine pC ha (nCall Tryd.call46 (by rfl)) rfl (OutActns_c (st := s0) (xs := x.acts) (by omega) hs (by repeat first | exact .here | apply Pick.there) (by repeat first | exact .here | apply Pick.there)) ?_
                  rintro v w ⟨rfl, hs⟩ a ha
                  refine pZ ?_
                  refine @And.intro _ _ rfl ?_
                  refine ⟨has3 ha (by rfl) (by rfl) (by rfl), ?_⟩; first | (rw [wItem, if_pos hc17]; exact hs.drop2.drop2.drop2.drop2) | (rw [wItem, if_neg hc17, if_pos hc25]; exact hs.drop2.drop2.drop2.drop2) | (rw [wItem, if_neg hc17, if_neg hc25, if_pos hc33]; exact hs.drop2.drop2.drop2.drop2) | (rw [wItem, if_neg hc17, if_neg hc25, if_neg hc33, if_pos hc41]; exact hs.drop2.drop2.drop2.drop2) | (rw [wItem, if_neg hc17, if_neg hc25, if_neg hc33, if_neg hc41, if_pos hc49]; exact hs.drop2.drop2.drop2.drop2) | (rw [wItem, if_neg hc17, if_neg hc25, if_neg hc33, if_neg hc41, if_neg hc49, if_pos hc57]; exact hs.drop2.drop2.drop2.drop2) | (rw [wItem, if_neg hc17, if_neg hc25, if_neg hc33, if_neg hc41, if_neg hc49, if_neg hc57]; exact hs.drop.drop.drop.drop)
                · refine wp_seq_k fun K14 hK14 => ?_
                  refine wp_region_lit ?_
                  refine pY ha (yEql (by rfl) (by rfl)) rfl fun a ha => ?_
                  refine pY ha (yAssign (by rfl)) rfl fun a ha => ?_
                  refine pZ ?_
                  refine hK14 _ _ ?_
                  first | refine cDec ha (by rfl) (fun hc57 => ?_) (fun hc57 => ?_) | refine cSplit ha (by rfl) (fun hc57 => ?_) (fun hc57 => ?_)
                  · rw [wItem, if_neg hc17, if_neg hc25, if_neg hc33, if_neg hc41, if_neg hc49, if_pos hc57] at hf3
                    refine wp_region_lit ?_
                    refine pY ha (yMove (by rfl)) rfl fun a ha => ?_
                    refine pY ha (yMove (by rfl)) rfl fun a ha => ?_
                    refine pY ha (yIndexA Tryd.runUnderlying22 Tryd.sizeOf61 (by rfl) (by rfl) (by omega) (by omega)) rfl fun a ha => ?_
                    refine pY ha (yFieldA Tryd.runUnderlying61 rfl Tryd.sizeOf47 rfl (by rfl)) rfl fun a ha => ?_
                    first | refine pY ha (yLoadB Tryd.isAgg47 hs (by rfl) (by repeat first | exact .here | apply Pick.there) (by rfl)) rfl fun a ha => ?_ | refine pY ha (yLoadR Tryd.isAgg47 hs (by rfl) (by repeat first | exact .here | apply Pick.there) (by rfl)) rfl fun a ha => ?_ | refine pY ha (yLoadR0 Tryd.isAgg47 hs (by rfl) (by repeat first | exact .here | apply Pick.there) (by rfl)) rfl fun a ha => ?_
                    refine pC ha (nCall Tryd.call47 (by rfl)) rfl (OutNods_c (st := s0) (xs := x.nods) (by omega) hs (by repeat first | exact .here | apply Pick.there) (by repeat first | exact .here | apply Pick.there)) ?_
                    rintro v w ⟨rfl, hs⟩ a ha
                    refine pZ ?_
                    refine @And.intro _ _ rfl ?_
                    refine ⟨has3 ha (by rfl) (by rfl) (by rfl), ?_⟩; first | (rw [wItem, if_pos hc17]; exact hs.drop2.drop2.drop2.drop2) | (rw [wItem, if_neg hc17, if_pos hc25]; exact hs.drop2.drop2.drop2.drop2) | (rw [wItem, if_neg hc17, if_neg hc25, if_pos hc33]; exact hs.drop2.drop2.drop2.drop2) | (rw [wItem, if_neg hc17, if_neg hc25, if_neg hc33, if_pos hc41]; exact hs.drop2.drop2.drop2.drop2) | (rw [wItem, if_neg hc17, if_neg hc25, if_neg hc33, if_neg hc41, if_pos hc49]; exact hs.drop2.drop2.drop2.drop2) | (rw [wItem, if_neg hc17, if_neg hc25, if_neg hc33, if_neg hc41, if_neg hc49, if_pos hc57]; exact hs.drop2.drop2.drop2.drop2) | (rw [wItem, if_neg hc17, if_neg hc25, if_neg hc33, if_neg hc41, if_neg hc49, if_neg hc57]; exact hs.drop.drop.drop.drop)
                  · refine wp_skip ?_
                    refine @And.intro _ _ rfl ?_
                    refine ⟨has3 ha (by rfl) (by rfl) (by rfl), ?_⟩; first | (rw [wItem, if_pos hc17]; exact hs.drop2.drop2.drop2.drop2) | (rw [wItem, if_neg hc17, if_pos hc25]; exact hs.drop2.drop2.drop2.drop2) | (rw [wItem, if_neg hc17, if_neg hc25, if_pos hc33]; exact hs.drop2.drop2.drop2.drop2) | (rw [wItem, if_neg hc17, if_neg hc25, if_neg hc33, if_pos hc41]; exact hs.drop2.drop2.drop2.drop2) | (rw [wItem, if_neg hc17, if_neg hc25, if_neg hc33, if_neg hc41, if_pos hc49]; exact hs.drop2.drop2.drop2.drop2) | (rw [wItem, if_neg hc17, if_neg hc25, if_neg hc33, if_neg hc41, if_neg hc49, if_pos hc57]; exact hs.drop2.drop2.drop2.drop2) | (rw [wItem, if_neg hc17, if_neg hc25, if_neg hc33, if_neg hc41, if_neg hc49, if_neg hc57]; exact hs.drop.drop.drop.drop)
      rintro a w ⟨ha, hs⟩
      refine hK7 _ _ ?_
      refine wp_region_lit ?_
      refine pY ha (yMove (by rfl)) rfl fun a ha => ?_
      first | refine pY ha (yAddN (by rfl) (by rfl) ⟨by omega, by omega⟩) rfl fun a ha => ?_ | refine pY ha (yAdd (by rfl) (by rfl)) rfl fun a ha => ?_
      refine pY ha (yAssign (by rfl)) rfl fun a ha => ?_
      refine pZ ?_
      exact ⟨i + 1, ⟨by omega, has3 ha (by rfl) (by rfl) (by rfl), by rw [hf1]; exact hs⟩, by omega⟩
    · refine wp_exit ?_
      refine hK3 _ _ ?_
      refine wp_seq_k fun K15 hK15 => ?_
      rw [List.take_of_length_le (by omega)] at hs
      change Sep W w (.wtr b _ (wItems xs) :: _) at hs
      refine wp_region_lit ?_
      refine pC ha (nCall Tryd.call48 (by rfl)) rfl (OutDone_c hs .here) ?_
      rintro v w hv a ha
      cases hI : (wItems xs).2
      · rw [if_neg (by simp [hI])] at hv
        obtain ⟨A', c', rfl, hs⟩ := hv
        refine pY ha (yExtract (by rfl) (by rfl)) rfl fun a ha => ?_
        refine pY ha (yExtract (by rfl) (by rfl)) rfl fun a ha => ?_
        refine pY ha (yAssign (by rfl)) rfl fun a ha => ?_
        refine pY ha (yAssign (by rfl)) rfl fun a ha => ?_
        refine pZ ?_
        refine hK15 _ _ ?_
        refine wp_ret ?_
        show bodyPost Tryd.prog Tryd.f10 _ .ret _ _
        refine ret2 rfl ha (by rfl) (by rfl) ?_
        rw [if_neg (by simp [hI])]; exact ⟨A', c', rfl, hs.drop2⟩
      · rw [if_pos hI] at hv
        obtain ⟨rfl, hs⟩ := hv
        refine pY ha (yExtract (by rfl) (by rfl)) rfl fun a ha => ?_
        refine pY ha (yExtract (by rfl) (by rfl)) rfl fun a ha => ?_
        refine pY ha (yAssign (by rfl)) rfl fun a ha => ?_
        refine pY ha (yAssign (by rfl)) rfl fun a ha => ?_
        refine pZ ?_
        refine hK15 _ _ ?_
        refine wp_ret ?_
        show bodyPost Tryd.prog Tryd.f10 _ .ret _ _
        refine ret2 rfl ha (by rfl) (by rfl) ?_
        rw [if_pos hI]; exact ⟨rfl, hs.drop.drop⟩
end
end Go.Proofs.YtnkcmpmcmkljnaaDoor
