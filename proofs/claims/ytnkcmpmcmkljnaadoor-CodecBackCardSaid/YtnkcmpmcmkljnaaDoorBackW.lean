/- CodecBack: the walk. -/
import Derived.Test.YtnkcmpmcmkljnaaDoorChain
set_option linter.unusedVariables false
set_option linter.unusedSimpArgs false
namespace Go.Proofs.YtnkcmpmcmkljnaaDoor
open Go.RowKit Go.Lib
section
variable {W w : World} {cs r r2 : List Ch}
theorem Sep.drop4 {a b c x : Ch} (h : Sep W w (a :: b :: c :: x :: r)) : Sep W w (a :: b :: c :: r) := (h.pick (.there (.there (.there .here)))).drop
set_option maxHeartbeats 2000000 in
theorem CodecBack_c (hT : Tabs W) {A : Option Addr} {n c : Nat} {xs : List Item} (hsz : ∀ x ∈ xs, okItem x) (hs : Sep W w cs) (hk : Pick cs (.rd kItem (.slice A n c) xs) r) :
    Calls P 6 #[.slice A n c] w (Rt fun v w' => v = .bool true ∧ Sep W w' cs) := by
  obtain ⟨rfl, hl⟩ := hs.rd_shape hk
  unfold maxLen at hl
  have hs := hs.cpR hk
  refine enter Tryd.func6 Tryd.ntmps6 rfl rfl fun a (ha : Has a 195 [(0, _)]) => ?_
  refine wp_seq_k fun K1 hK1 => ?_
  refine wp_region_lit ?_
  refine pY ha (yAssign (by rfl)) rfl fun a ha => ?_
  refine pZ ?_
  refine hK1 _ _ ?_
  refine wp_seq_k fun K2 hK2 => ?_
  refine wp_seq_k fun K3 hK3 => ?_
  refine wp_region_lit ?_
  refine pY ha (yMove (by rfl)) rfl fun a ha => ?_
  refine pC ha (nCall Tryd.call7 (by rfl)) rfl (small_c hsz hs .here) ?_
  rintro v w ⟨sm, rfl, hsm, hs⟩ a ha
  refine pY ha (yNot (by rfl)) rfl fun a ha => ?_
  refine pZ ?_
  refine hK3 _ _ ?_
  first | refine cNDec ha (by rfl) (fun hc16 => ?_) (fun hc16 => ?_) | refine cDec ha (by rfl) (fun hc16 => ?_) (fun hc16 => ?_) | refine cSplit ha (by rfl) (fun hc16 => ?_) (fun hc16 => ?_)
  · refine wp_seq_k fun K4 hK4 => ?_
    refine wp_region_lit ?_
    refine pC ha (nCall Tryd.call8 (by rfl)) rfl (awake_c hs) ?_
    rintro v w ⟨rfl, hs⟩ a ha
    refine pY ha (yAssign (by rfl)) rfl fun a ha => ?_
    refine pZ ?_
    refine hK4 _ _ ?_
    refine wp_ret ?_
    show bodyPost Tryd.prog Tryd.f6 _ .ret _ _
    refine ret1 rfl ha (by rfl) ?_
    repeat (first | exact ⟨rfl, hs⟩ | replace hs := Sep.drop hs)
  · have hb := hsm (by simpa using hc16)
    refine wp_skip ?_
    refine hK2 _ _ ?_
    refine wp_seq_k fun K5 hK5 => ?_
    refine wp_seq_k fun K6 hK6 => ?_
    refine wp_region_lit ?_
    refine pY ha (yAssign (by rfl)) rfl fun a ha => ?_
    refine pZ ?_
    refine hK6 _ _ ?_
    refine wp_block ?_
    refine loopI (ι := Nat) (fun i a w => i ≤ xs.length ∧ (∀ j y, j < i → xs[j]? = some y → fair y) ∧ Has a 195 [(0, .slice A xs.length c), (3, .int .i64 i)] ∧ Sep W w (.rd kItem (.slice A xs.length c) xs :: cs)) (fun i => xs.length - i) (0) ?_ ?_
    · exact ⟨Nat.zero_le _, fun j y hj => absurd hj (by omega), has2 ha (by rfl) (by rfl), hs⟩
    · rintro i a w ⟨h1, h2, ha, hs⟩
      refine wp_seq_k fun K7 hK7 => ?_
      refine wp_seq_k fun K8 hK8 => ?_
      refine wp_region_lit ?_
      refine pY ha (yMove (by rfl)) rfl fun a ha => ?_
      refine pY ha (yMove (by rfl)) rfl fun a ha => ?_
      refine pY ha (yLenS Tryd.runUnderlying22 (by rfl)) rfl fun a ha => ?_
      refine pY ha (yLss (by rfl) (by rfl)) rfl fun a ha => ?_
      refine pZ ?_
      refine hK8 _ _ ?_
      first | refine cDec ha (by rfl) (fun hc21 => ?_) (fun hc21 => ?_) | refine cSplit ha (by rfl) (fun hc21 => ?_) (fun hc21 => ?_)
      · obtain ⟨x, hx⟩ : ∃ x, xs[i]? = some x := ⟨_, List.getElem?_eq_getElem (by omega)⟩
        obtain ⟨b0, off, A1, n1, c1, A2, n2, c2, A3, n3, c3, rfl, hs⟩ := hs.rd_item .here hx
        obtain ⟨rfl, _⟩ := hs.rd_shape (.there .here)
        obtain ⟨rfl, hlA⟩ := hs.rd_shape (.there (.there .here))
        obtain ⟨rfl, hlN⟩ := hs.rd_shape (.there (.there (.there .here)))
        unfold maxLen at hlA hlN
        refine wp_skip ?_
        refine hK7 _ _ ?_
        refine wp_seq_k fun K9 hK9 => ?_
        refine wp_block ?_
        refine wp_seq_k fun K10 hK10 => ?_
        refine wp_seq_k fun K11 hK11 => ?_
        refine cutC (fun a w => Has a 195 [(48, .bool (decide (100 < x.comps.length ∨ 20 < x.acts.length ∨ 100 < x.nods.length))), (0, .slice (some ⟨b0, off, none⟩) xs.length c), (3, .int .i64 i)] ∧ Sep W w (.at b0 (off + i * 7) [.int .i64 x.kind, .int .i64 x.n, .string x.text, .bool x.flag, .slice A1 x.comps.length c1, .slice A2 x.acts.length c2, .slice A3 x.nods.length c3] :: .rd kComp (.slice A1 x.comps.length c1) x.comps :: .rd kActn (.slice A2 x.acts.length c2) x.acts :: .rd kNod (.slice A3 x.nods.length c3) x.nods :: .rd kItem (.slice (some ⟨b0, off, none⟩) xs.length c) xs :: cs)) ?_ ?_
        · refine wp_region_lit ?_
          refine pY ha (yMove (by rfl)) rfl fun a ha => ?_
          refine pY ha (yMove (by rfl)) rfl fun a ha => ?_
          refine pY ha (yIndexA Tryd.runUnderlying22 Tryd.sizeOf61 (by rfl) (by rfl) (by omega) (by omega)) rfl fun a ha => ?_
          refine pY ha (yFieldA Tryd.runUnderlying61 rfl Tryd.sizeOf41 rfl (by rfl)) rfl fun a ha => ?_
          first | refine pY ha (yLoadB Tryd.isAgg41 hs (by rfl) (by repeat first | exact .here | apply Pick.there) (by rfl)) rfl fun a ha => ?_ | refine pY ha (yLoadR Tryd.isAgg41 hs (by rfl) (by repeat first | exact .here | apply Pick.there) (by rfl)) rfl fun a ha => ?_ | refine pY ha (yLoadR0 Tryd.isAgg41 hs (by rfl) (by repeat first | exact .here | apply Pick.there) (by rfl)) rfl fun a ha => ?_
          refine pY ha (yLenS Tryd.runUnderlying41 (by rfl)) rfl fun a ha => ?_
          refine pY ha (yGtr (by rfl) (by rfl)) rfl fun a ha => ?_
          refine pY ha (yMove (by rfl)) rfl fun a ha => ?_
          refine gDec (t := 31) ha (by rfl) (fun hg7 hp7 => ?_) (fun hg7 hp7 => ?_)
          · rw [hg7] at ha
            refine gOn ha rfl rfl (by rfl) ?_
            refine pY ha (yMove (by rfl)) rfl fun a ha => ?_
            refine gOn ha rfl rfl (by rfl) ?_
            refine pY ha (yMove (by rfl)) rfl fun a ha => ?_
            refine gOn ha rfl rfl (by rfl) ?_
            refine pY ha (yIndexA Tryd.runUnderlying22 Tryd.sizeOf61 (by rfl) (by rfl) (by omega) (by omega)) rfl fun a ha => ?_
            refine gOn ha rfl rfl (by rfl) ?_
            refine pY ha (yFieldA Tryd.runUnderlying61 rfl Tryd.sizeOf44 rfl (by rfl)) rfl fun a ha => ?_
            refine gOn ha rfl rfl (by rfl) ?_
            first | refine pY ha (yLoadB Tryd.isAgg44 hs (by rfl) (by repeat first | exact .here | apply Pick.there) (by rfl)) rfl fun a ha => ?_ | refine pY ha (yLoadR Tryd.isAgg44 hs (by rfl) (by repeat first | exact .here | apply Pick.there) (by rfl)) rfl fun a ha => ?_ | refine pY ha (yLoadR0 Tryd.isAgg44 hs (by rfl) (by repeat first | exact .here | apply Pick.there) (by rfl)) rfl fun a ha => ?_
            refine gOn ha rfl rfl (by rfl) ?_
            refine pY ha (yLenS Tryd.runUnderlying44 (by rfl)) rfl fun a ha => ?_
            refine gOn ha rfl rfl (by rfl) ?_
            refine pY ha (yGtr (by rfl) (by rfl)) rfl fun a ha => ?_
            first | refine pY ha (yPickT (by rfl) (by rfl)) rfl fun a ha => ?_ | refine pY ha (yPickF (by rfl) (by rfl)) rfl fun a ha => ?_ | refine pY ha (yPick (by rfl) (by rfl) (by rfl)) rfl fun a ha => ?_
            refine pY ha (yMove (by rfl)) rfl fun a ha => ?_
            refine gSplit (t := 40) ha (by rfl) (fun hg16 => ?_) (fun hg16 => ?_)
            · rw [hg16] at ha
              refine gOn ha rfl rfl (by rfl) ?_
              refine pY ha (yMove (by rfl)) rfl fun a ha => ?_
              refine gOn ha rfl rfl (by rfl) ?_
              refine pY ha (yMove (by rfl)) rfl fun a ha => ?_
              refine gOn ha rfl rfl (by rfl) ?_
              refine pY ha (yIndexA Tryd.runUnderlying22 Tryd.sizeOf61 (by rfl) (by rfl) (by omega) (by omega)) rfl fun a ha => ?_
              refine gOn ha rfl rfl (by rfl) ?_
              refine pY ha (yFieldA Tryd.runUnderlying61 rfl Tryd.sizeOf47 rfl (by rfl)) rfl fun a ha => ?_
              refine gOn ha rfl rfl (by rfl) ?_
              first | refine pY ha (yLoadB Tryd.isAgg47 hs (by rfl) (by repeat first | exact .here | apply Pick.there) (by rfl)) rfl fun a ha => ?_ | refine pY ha (yLoadR Tryd.isAgg47 hs (by rfl) (by repeat first | exact .here | apply Pick.there) (by rfl)) rfl fun a ha => ?_ | refine pY ha (yLoadR0 Tryd.isAgg47 hs (by rfl) (by repeat first | exact .here | apply Pick.there) (by rfl)) rfl fun a ha => ?_
              refine gOn ha rfl rfl (by rfl) ?_
              refine pY ha (yLenS Tryd.runUnderlying47 (by rfl)) rfl fun a ha => ?_
              refine gOn ha rfl rfl (by rfl) ?_
              refine pY ha (yGtr (by rfl) (by rfl)) rfl fun a ha => ?_
              first | refine pY ha (yPickT (by rfl) (by rfl)) rfl fun a ha => ?_ | refine pY ha (yPickF (by rfl) (by rfl)) rfl fun a ha => ?_ | refine pY ha (yPick (by rfl) (by rfl) (by rfl)) rfl fun a ha => ?_
              refine pZ ⟨rfl, ?_⟩
              first
                | exact ⟨has3 ha (bT (by first | omega | (have q := of_decide_eq_false hg16; omega))) (by rfl) (by rfl), hs⟩
                | exact ⟨has3 ha (bY (by first | omega | (have q := of_decide_eq_true hg16; omega))) (by rfl) (by rfl), hs⟩
            · rw [hg16] at ha
              refine gOff ha rfl rfl (by rfl) rfl rfl fun a ha => ?_
              refine gOff ha rfl rfl (by rfl) rfl rfl fun a ha => ?_
              refine gOff ha rfl rfl (by rfl) rfl rfl fun a ha => ?_
              refine gOff ha rfl rfl (by rfl) rfl rfl fun a ha => ?_
              refine gOff ha rfl rfl (by rfl) rfl rfl fun a ha => ?_
              refine gOff ha rfl rfl (by rfl) rfl rfl fun a ha => ?_
              refine gOff ha rfl rfl (by rfl) rfl rfl fun a ha => ?_
              first | refine pY ha (yPickT (by rfl) (by rfl)) rfl fun a ha => ?_ | refine pY ha (yPickF (by rfl) (by rfl)) rfl fun a ha => ?_ | refine pY ha (yPick (by rfl) (by rfl) (by rfl)) rfl fun a ha => ?_
              refine pZ ⟨rfl, ?_⟩
              first
                | exact ⟨has3 ha (bT (by first | omega | (have q := of_decide_eq_false hg16; omega))) (by rfl) (by rfl), hs⟩
                | exact ⟨has3 ha (bY (by first | omega | (have q := of_decide_eq_true hg16; omega))) (by rfl) (by rfl), hs⟩
          · rw [hg7] at ha
            refine gOff ha rfl rfl (by rfl) rfl rfl fun a ha => ?_
            refine gOff ha rfl rfl (by rfl) rfl rfl fun a ha => ?_
            refine gOff ha rfl rfl (by rfl) rfl rfl fun a ha => ?_
            refine gOff ha rfl rfl (by rfl) rfl rfl fun a ha => ?_
            refine gOff ha rfl rfl (by rfl) rfl rfl fun a ha => ?_
            refine gOff ha rfl rfl (by rfl) rfl rfl fun a ha => ?_
            refine gOff ha rfl rfl (by rfl) rfl rfl fun a ha => ?_
            first | refine pY ha (yPickT (by rfl) (by rfl)) rfl fun a ha => ?_ | refine pY ha (yPickF (by rfl) (by rfl)) rfl fun a ha => ?_ | refine pY ha (yPick (by rfl) (by rfl) (by rfl)) rfl fun a ha => ?_
            refine pY ha (yMove (by rfl)) rfl fun a ha => ?_
            refine gOff ha rfl rfl (by rfl) rfl rfl fun a ha => ?_
            refine gOff ha rfl rfl (by rfl) rfl rfl fun a ha => ?_
            refine gOff ha rfl rfl (by rfl) rfl rfl fun a ha => ?_
            refine gOff ha rfl rfl (by rfl) rfl rfl fun a ha => ?_
            refine gOff ha rfl rfl (by rfl) rfl rfl fun a ha => ?_
            refine gOff ha rfl rfl (by rfl) rfl rfl fun a ha => ?_
            refine gOff ha rfl rfl (by rfl) rfl rfl fun a ha => ?_
            first | refine pY ha (yPickT (by rfl) (by rfl)) rfl fun a ha => ?_ | refine pY ha (yPickF (by rfl) (by rfl)) rfl fun a ha => ?_ | refine pY ha (yPick (by rfl) (by rfl) (by rfl)) rfl fun a ha => ?_
            refine pZ ⟨rfl, ?_⟩
            first
              | exact ⟨has3 ha (bT (by first | omega | (have q := of_decide_eq_false hg16; omega))) (by rfl) (by rfl), hs⟩
              | exact ⟨has3 ha (bY (by first | omega | (have q := of_decide_eq_true hg16; omega))) (by rfl) (by rfl), hs⟩
        rintro a w ⟨ha, hs⟩
        refine hK11 _ _ ?_
        first | refine cDec ha (by rfl) (fun hc48 => ?_) (fun hc48 => ?_) | refine cSplit ha (by rfl) (fun hc48 => ?_) (fun hc48 => ?_)
        · refine wp_seq_k fun K12 hK12 => ?_
          refine wp_region_lit ?_
          refine pC ha (nCall Tryd.call8 (by rfl)) rfl (awake_c hs) ?_
          rintro v w ⟨rfl, hs⟩ a ha
          refine pY ha (yAssign (by rfl)) rfl fun a ha => ?_
          refine pZ ?_
          refine hK12 _ _ ?_
          refine wp_ret ?_
          show bodyPost Tryd.prog Tryd.f6 _ .ret _ _
          refine ret1 rfl ha (by rfl) ?_
          repeat (first | exact ⟨rfl, hs⟩ | replace hs := Sep.drop hs)
        · refine wp_skip ?_
          refine hK10 _ _ ?_
          refine wp_seq_k fun K13 hK13 => ?_
          refine wp_seq_k fun K14 hK14 => ?_
          refine wp_region_lit ?_
          refine pY ha (yAssign (by rfl)) rfl fun a ha => ?_
          refine pZ ?_
          refine hK14 _ _ ?_
          refine wp_block ?_
          refine loopI (ι := Nat) (fun i2 a w => i2 ≤ x.acts.length ∧ (∀ k a, k < i2 → x.acts[k]? = some a → a.name.size ≤ 100 ∧ a.ops.length ≤ 100) ∧ Has a 195 [(0, .slice (some ⟨b0, off, none⟩) xs.length c), (3, .int .i64 i), (4, .int .i64 i2)] ∧ Sep W w (.at b0 (off + i * 7) [.int .i64 x.kind, .int .i64 x.n, .string x.text, .bool x.flag, .slice A1 x.comps.length c1, .slice A2 x.acts.length c2, .slice A3 x.nods.length c3] :: .rd kComp (.slice A1 x.comps.length c1) x.comps :: .rd kActn (.slice A2 x.acts.length c2) x.acts :: .rd kNod (.slice A3 x.nods.length c3) x.nods :: .rd kItem (.slice (some ⟨b0, off, none⟩) xs.length c) xs :: cs)) (fun i2 => x.acts.length - i2) (0) ?_ ?_
          · exact ⟨Nat.zero_le _, fun j y hj => absurd hj (by omega), has3 ha (by rfl) (by rfl) (by rfl), hs⟩
          · rintro i2 a w ⟨m1, m2, ha, hs⟩
            refine wp_seq_k fun K15 hK15 => ?_
            refine wp_seq_k fun K16 hK16 => ?_
            refine wp_region_lit ?_
            refine pY ha (yMove (by rfl)) rfl fun a ha => ?_
            refine pY ha (yMove (by rfl)) rfl fun a ha => ?_
            refine pY ha (yMove (by rfl)) rfl fun a ha => ?_
            refine pY ha (yIndexA Tryd.runUnderlying22 Tryd.sizeOf61 (by rfl) (by rfl) (by omega) (by omega)) rfl fun a ha => ?_
            refine pY ha (yFieldA Tryd.runUnderlying61 rfl Tryd.sizeOf44 rfl (by rfl)) rfl fun a ha => ?_
            first | refine pY ha (yLoadB Tryd.isAgg44 hs (by rfl) (by repeat first | exact .here | apply Pick.there) (by rfl)) rfl fun a ha => ?_ | refine pY ha (yLoadR Tryd.isAgg44 hs (by rfl) (by repeat first | exact .here | apply Pick.there) (by rfl)) rfl fun a ha => ?_ | refine pY ha (yLoadR0 Tryd.isAgg44 hs (by rfl) (by repeat first | exact .here | apply Pick.there) (by rfl)) rfl fun a ha => ?_
            refine pY ha (yLenS Tryd.runUnderlying44 (by rfl)) rfl fun a ha => ?_
            refine pY ha (yLss (by rfl) (by rfl)) rfl fun a ha => ?_
            refine pZ ?_
            refine hK16 _ _ ?_
            first | refine cDec ha (by rfl) (fun hc57 => ?_) (fun hc57 => ?_) | refine cSplit ha (by rfl) (fun hc57 => ?_) (fun hc57 => ?_)
            · obtain ⟨y, hy⟩ : ∃ y, x.acts[i2]? = some y := ⟨_, List.getElem?_eq_getElem (by omega)⟩
              obtain ⟨b1, off1, A', n', c', rfl, hs⟩ := hs.rd_actn (.there (.there .here)) hy
              obtain ⟨rfl, _⟩ := hs.rd_shape (.there .here)
              refine wp_skip ?_
              refine hK15 _ _ ?_
              refine wp_seq_k fun K17 hK17 => ?_
              refine wp_block ?_
              refine wp_seq_k fun K18 hK18 => ?_
              refine cutC (fun a w => Has a 195 [(83, .bool (decide (100 < y.name.size ∨ 100 < y.ops.length))), (0, .slice (some ⟨b0, off, none⟩) xs.length c), (3, .int .i64 i), (4, .int .i64 i2)] ∧ Sep W w (.at b1 (off1 + i2 * 6) [.int .i64 y.kind, .int .i64 y.id, .int .i64 y.parent, .string y.name, .bool y.dir, .slice A' y.ops.length c'] :: .rd kComp (.slice A' y.ops.length c') y.ops :: .at b0 (off + i * 7) [.int .i64 x.kind, .int .i64 x.n, .string x.text, .bool x.flag, .slice A1 x.comps.length c1, .slice (some ⟨b1, off1, none⟩) x.acts.length c2, .slice A3 x.nods.length c3] :: .rd kComp (.slice A1 x.comps.length c1) x.comps :: .rd kActn (.slice (some ⟨b1, off1, none⟩) x.acts.length c2) x.acts :: .rd kNod (.slice A3 x.nods.length c3) x.nods :: .rd kItem (.slice (some ⟨b0, off, none⟩) xs.length c) xs :: cs)) ?_ ?_
              · refine wp_region_lit ?_
                refine pY ha (yMove (by rfl)) rfl fun a ha => ?_
                refine pY ha (yMove (by rfl)) rfl fun a ha => ?_
                refine pY ha (yIndexA Tryd.runUnderlying22 Tryd.sizeOf61 (by rfl) (by rfl) (by omega) (by omega)) rfl fun a ha => ?_
                refine pY ha (yFieldA Tryd.runUnderlying61 rfl Tryd.sizeOf44 rfl (by rfl)) rfl fun a ha => ?_
                first | refine pY ha (yLoadB Tryd.isAgg44 hs (by rfl) (by repeat first | exact .here | apply Pick.there) (by rfl)) rfl fun a ha => ?_ | refine pY ha (yLoadR Tryd.isAgg44 hs (by rfl) (by repeat first | exact .here | apply Pick.there) (by rfl)) rfl fun a ha => ?_ | refine pY ha (yLoadR0 Tryd.isAgg44 hs (by rfl) (by repeat first | exact .here | apply Pick.there) (by rfl)) rfl fun a ha => ?_
                refine pY ha (yMove (by rfl)) rfl fun a ha => ?_
                refine pY ha (yIndexA Tryd.runUnderlying44 Tryd.sizeOf63 (by rfl) (by rfl) (by omega) (by omega)) rfl fun a ha => ?_
                refine pY ha (yFieldA Tryd.runUnderlying63 rfl Tryd.sizeOf9 rfl (by rfl)) rfl fun a ha => ?_
                first | refine pY ha (yLoadB Tryd.isAgg9 hs (by rfl) (by repeat first | exact .here | apply Pick.there) (by rfl)) rfl fun a ha => ?_ | refine pY ha (yLoadR Tryd.isAgg9 hs (by rfl) (by repeat first | exact .here | apply Pick.there) (by rfl)) rfl fun a ha => ?_ | refine pY ha (yLoadR0 Tryd.isAgg9 hs (by rfl) (by repeat first | exact .here | apply Pick.there) (by rfl)) rfl fun a ha => ?_
                refine pY ha (yLenStr Tryd.runUnderlying9 (by rfl)) rfl fun a ha => ?_
                refine pY ha (yGtr (by rfl) (by rfl)) rfl fun a ha => ?_
                refine pY ha (yMove (by rfl)) rfl fun a ha => ?_
                refine gDec (t := 71) ha (by rfl) (fun hg11 hp11 => ?_) (fun hg11 hp11 => ?_)
                · rw [hg11] at ha
                  refine gOn ha rfl rfl (by rfl) ?_
                  refine pY ha (yMove (by rfl)) rfl fun a ha => ?_
                  refine gOn ha rfl rfl (by rfl) ?_
                  refine pY ha (yMove (by rfl)) rfl fun a ha => ?_
                  refine gOn ha rfl rfl (by rfl) ?_
                  refine pY ha (yIndexA Tryd.runUnderlying22 Tryd.sizeOf61 (by rfl) (by rfl) (by omega) (by omega)) rfl fun a ha => ?_
                  refine gOn ha rfl rfl (by rfl) ?_
                  refine pY ha (yFieldA Tryd.runUnderlying61 rfl Tryd.sizeOf44 rfl (by rfl)) rfl fun a ha => ?_
                  refine gOn ha rfl rfl (by rfl) ?_
                  first | refine pY ha (yLoadB Tryd.isAgg44 hs (by rfl) (by repeat first | exact .here | apply Pick.there) (by rfl)) rfl fun a ha => ?_ | refine pY ha (yLoadR Tryd.isAgg44 hs (by rfl) (by repeat first | exact .here | apply Pick.there) (by rfl)) rfl fun a ha => ?_ | refine pY ha (yLoadR0 Tryd.isAgg44 hs (by rfl) (by repeat first | exact .here | apply Pick.there) (by rfl)) rfl fun a ha => ?_
                  refine gOn ha rfl rfl (by rfl) ?_
                  refine pY ha (yMove (by rfl)) rfl fun a ha => ?_
                  refine gOn ha rfl rfl (by rfl) ?_
                  refine pY ha (yIndexA Tryd.runUnderlying44 Tryd.sizeOf63 (by rfl) (by rfl) (by omega) (by omega)) rfl fun a ha => ?_
                  refine gOn ha rfl rfl (by rfl) ?_
                  refine pY ha (yFieldA Tryd.runUnderlying63 rfl Tryd.sizeOf41 rfl (by rfl)) rfl fun a ha => ?_
                  refine gOn ha rfl rfl (by rfl) ?_
                  first | refine pY ha (yLoadB Tryd.isAgg41 hs (by rfl) (by repeat first | exact .here | apply Pick.there) (by rfl)) rfl fun a ha => ?_ | refine pY ha (yLoadR Tryd.isAgg41 hs (by rfl) (by repeat first | exact .here | apply Pick.there) (by rfl)) rfl fun a ha => ?_ | refine pY ha (yLoadR0 Tryd.isAgg41 hs (by rfl) (by repeat first | exact .here | apply Pick.there) (by rfl)) rfl fun a ha => ?_
                  refine gOn ha rfl rfl (by rfl) ?_
                  refine pY ha (yLenS Tryd.runUnderlying41 (by rfl)) rfl fun a ha => ?_
                  refine gOn ha rfl rfl (by rfl) ?_
                  refine pY ha (yGtr (by rfl) (by rfl)) rfl fun a ha => ?_
                  first | refine pY ha (yPickT (by rfl) (by rfl)) rfl fun a ha => ?_ | refine pY ha (yPickF (by rfl) (by rfl)) rfl fun a ha => ?_ | refine pY ha (yPick (by rfl) (by rfl) (by rfl)) rfl fun a ha => ?_
                  refine pZ ⟨rfl, ?_⟩
                  first
                    | exact ⟨has4 ha (bT (by omega)) (by rfl) (by rfl) (by rfl), hs⟩
                    | exact ⟨has4 ha (bY (by omega)) (by rfl) (by rfl) (by rfl), hs⟩
                · rw [hg11] at ha
                  refine gOff ha rfl rfl (by rfl) rfl rfl fun a ha => ?_
                  refine gOff ha rfl rfl (by rfl) rfl rfl fun a ha => ?_
                  refine gOff ha rfl rfl (by rfl) rfl rfl fun a ha => ?_
                  refine gOff ha rfl rfl (by rfl) rfl rfl fun a ha => ?_
                  refine gOff ha rfl rfl (by rfl) rfl rfl fun a ha => ?_
                  refine gOff ha rfl rfl (by rfl) rfl rfl fun a ha => ?_
                  refine gOff ha rfl rfl (by rfl) rfl rfl fun a ha => ?_
                  refine gOff ha rfl rfl (by rfl) rfl rfl fun a ha => ?_
                  refine gOff ha rfl rfl (by rfl) rfl rfl fun a ha => ?_
                  refine gOff ha rfl rfl (by rfl) rfl rfl fun a ha => ?_
                  refine gOff ha rfl rfl (by rfl) rfl rfl fun a ha => ?_
                  first | refine pY ha (yPickT (by rfl) (by rfl)) rfl fun a ha => ?_ | refine pY ha (yPickF (by rfl) (by rfl)) rfl fun a ha => ?_ | refine pY ha (yPick (by rfl) (by rfl) (by rfl)) rfl fun a ha => ?_
                  refine pZ ⟨rfl, ?_⟩
                  first
                    | exact ⟨has4 ha (bT (by omega)) (by rfl) (by rfl) (by rfl), hs⟩
                    | exact ⟨has4 ha (bY (by omega)) (by rfl) (by rfl) (by rfl), hs⟩
              rintro a w ⟨ha, hs⟩
              refine hK18 _ _ ?_
              first | refine cDec ha (by rfl) (fun hc83 => ?_) (fun hc83 => ?_) | refine cSplit ha (by rfl) (fun hc83 => ?_) (fun hc83 => ?_)
              · refine wp_seq_k fun K19 hK19 => ?_
                refine wp_region_lit ?_
                refine pC ha (nCall Tryd.call8 (by rfl)) rfl (awake_c hs) ?_
                rintro v w ⟨rfl, hs⟩ a ha
                refine pY ha (yAssign (by rfl)) rfl fun a ha => ?_
                refine pZ ?_
                refine hK19 _ _ ?_
                refine wp_ret ?_
                show bodyPost Tryd.prog Tryd.f6 _ .ret _ _
                refine ret1 rfl ha (by rfl) ?_
                repeat (first | exact ⟨rfl, hs⟩ | replace hs := Sep.drop hs)
              · refine wp_skip ?_
                refine hK17 _ _ ?_
                refine wp_region_lit ?_
                refine pY ha (yMove (by rfl)) rfl fun a ha => ?_
                first | refine pY ha (yAddN (by rfl) (by rfl) ⟨by omega, by omega⟩) rfl fun a ha => ?_ | refine pY ha (yAdd (by rfl) (by rfl)) rfl fun a ha => ?_
                refine pY ha (yAssign (by rfl)) rfl fun a ha => ?_
                refine pZ ?_
                refine ⟨i2 + 1, ⟨by omega, fun k z hk hz => ?_, has3 ha (by rfl) (by rfl) (by rfl), hs.drop.drop⟩, by omega⟩
                by_cases hki : k = i2
                · subst hki; rw [hy] at hz; cases hz; exact ⟨by omega, by omega⟩
                · exact m2 k z (by omega) hz
            · refine wp_exit ?_
              refine hK13 _ _ ?_
              refine wp_seq_k fun K20 hK20 => ?_
              refine wp_region_lit ?_
              refine pY ha (yAssign (by rfl)) rfl fun a ha => ?_
              refine pZ ?_
              refine hK20 _ _ ?_
              refine wp_block ?_
              refine loopI (ι := Nat) (fun i2 a w => i2 ≤ x.nods.length ∧ (∀ k a, k < i2 → x.nods[k]? = some a → a.name.size ≤ 100) ∧ Has a 195 [(0, .slice (some ⟨b0, off, none⟩) xs.length c), (3, .int .i64 i), (5, .int .i64 i2)] ∧ Sep W w (.at b0 (off + i * 7) [.int .i64 x.kind, .int .i64 x.n, .string x.text, .bool x.flag, .slice A1 x.comps.length c1, .slice A2 x.acts.length c2, .slice A3 x.nods.length c3] :: .rd kComp (.slice A1 x.comps.length c1) x.comps :: .rd kActn (.slice A2 x.acts.length c2) x.acts :: .rd kNod (.slice A3 x.nods.length c3) x.nods :: .rd kItem (.slice (some ⟨b0, off, none⟩) xs.length c) xs :: cs)) (fun i2 => x.nods.length - i2) (0) ?_ ?_
              · exact ⟨Nat.zero_le _, fun j y hj => absurd hj (by omega), has3 ha (by rfl) (by rfl) (by rfl), hs⟩
              · rintro i2 a w ⟨p1, p2, ha, hs⟩
                refine wp_seq_k fun K21 hK21 => ?_
                refine wp_seq_k fun K22 hK22 => ?_
                refine wp_region_lit ?_
                refine pY ha (yMove (by rfl)) rfl fun a ha => ?_
                refine pY ha (yMove (by rfl)) rfl fun a ha => ?_
                refine pY ha (yMove (by rfl)) rfl fun a ha => ?_
                refine pY ha (yIndexA Tryd.runUnderlying22 Tryd.sizeOf61 (by rfl) (by rfl) (by omega) (by omega)) rfl fun a ha => ?_
                refine pY ha (yFieldA Tryd.runUnderlying61 rfl Tryd.sizeOf47 rfl (by rfl)) rfl fun a ha => ?_
                first | refine pY ha (yLoadB Tryd.isAgg47 hs (by rfl) (by repeat first | exact .here | apply Pick.there) (by rfl)) rfl fun a ha => ?_ | refine pY ha (yLoadR Tryd.isAgg47 hs (by rfl) (by repeat first | exact .here | apply Pick.there) (by rfl)) rfl fun a ha => ?_ | refine pY ha (yLoadR0 Tryd.isAgg47 hs (by rfl) (by repeat first | exact .here | apply Pick.there) (by rfl)) rfl fun a ha => ?_
                refine pY ha (yLenS Tryd.runUnderlying47 (by rfl)) rfl fun a ha => ?_
                refine pY ha (yLss (by rfl) (by rfl)) rfl fun a ha => ?_
                refine pZ ?_
                refine hK22 _ _ ?_
                first | refine cDec ha (by rfl) (fun hc92 => ?_) (fun hc92 => ?_) | refine cSplit ha (by rfl) (fun hc92 => ?_) (fun hc92 => ?_)
                · obtain ⟨y, hy⟩ : ∃ y, x.nods[i2]? = some y := ⟨_, List.getElem?_eq_getElem (by omega)⟩
                  obtain ⟨b1, off1, rfl, hs⟩ := hs.rd_nod (.there (.there (.there .here))) hy
                  refine wp_skip ?_
                  refine hK21 _ _ ?_
                  refine wp_seq_k fun K23 hK23 => ?_
                  refine wp_block ?_
                  refine wp_seq_k fun K24 hK24 => ?_
                  refine wp_region_lit ?_
                  refine pY ha (yMove (by rfl)) rfl fun a ha => ?_
                  refine pY ha (yMove (by rfl)) rfl fun a ha => ?_
                  refine pY ha (yIndexA Tryd.runUnderlying22 Tryd.sizeOf61 (by rfl) (by rfl) (by omega) (by omega)) rfl fun a ha => ?_
                  refine pY ha (yFieldA Tryd.runUnderlying61 rfl Tryd.sizeOf47 rfl (by rfl)) rfl fun a ha => ?_
                  first | refine pY ha (yLoadB Tryd.isAgg47 hs (by rfl) (by repeat first | exact .here | apply Pick.there) (by rfl)) rfl fun a ha => ?_ | refine pY ha (yLoadR Tryd.isAgg47 hs (by rfl) (by repeat first | exact .here | apply Pick.there) (by rfl)) rfl fun a ha => ?_ | refine pY ha (yLoadR0 Tryd.isAgg47 hs (by rfl) (by repeat first | exact .here | apply Pick.there) (by rfl)) rfl fun a ha => ?_
                  refine pY ha (yMove (by rfl)) rfl fun a ha => ?_
                  refine pY ha (yIndexA Tryd.runUnderlying47 Tryd.sizeOf65 (by rfl) (by rfl) (by omega) (by omega)) rfl fun a ha => ?_
                  refine pY ha (yFieldA Tryd.runUnderlying65 rfl Tryd.sizeOf9 rfl (by rfl)) rfl fun a ha => ?_
                  first | refine pY ha (yLoadB Tryd.isAgg9 hs (by rfl) (by repeat first | exact .here | apply Pick.there) (by rfl)) rfl fun a ha => ?_ | refine pY ha (yLoadR Tryd.isAgg9 hs (by rfl) (by repeat first | exact .here | apply Pick.there) (by rfl)) rfl fun a ha => ?_ | refine pY ha (yLoadR0 Tryd.isAgg9 hs (by rfl) (by repeat first | exact .here | apply Pick.there) (by rfl)) rfl fun a ha => ?_
                  refine pY ha (yLenStr Tryd.runUnderlying9 (by rfl)) rfl fun a ha => ?_
                  refine pY ha (yGtr (by rfl) (by rfl)) rfl fun a ha => ?_
                  refine pZ ?_
                  refine hK24 _ _ ?_
                  first | refine cDec ha (by rfl) (fun hc105 => ?_) (fun hc105 => ?_) | refine cSplit ha (by rfl) (fun hc105 => ?_) (fun hc105 => ?_)
                  · refine wp_seq_k fun K25 hK25 => ?_
                    refine wp_region_lit ?_
                    refine pC ha (nCall Tryd.call8 (by rfl)) rfl (awake_c hs) ?_
                    rintro v w ⟨rfl, hs⟩ a ha
                    refine pY ha (yAssign (by rfl)) rfl fun a ha => ?_
                    refine pZ ?_
                    refine hK25 _ _ ?_
                    refine wp_ret ?_
                    show bodyPost Tryd.prog Tryd.f6 _ .ret _ _
                    refine ret1 rfl ha (by rfl) ?_
                    repeat (first | exact ⟨rfl, hs⟩ | replace hs := Sep.drop hs)
                  · refine wp_skip ?_
                    refine hK23 _ _ ?_
                    refine wp_region_lit ?_
                    refine pY ha (yMove (by rfl)) rfl fun a ha => ?_
                    first | refine pY ha (yAddN (by rfl) (by rfl) ⟨by omega, by omega⟩) rfl fun a ha => ?_ | refine pY ha (yAdd (by rfl) (by rfl)) rfl fun a ha => ?_
                    refine pY ha (yAssign (by rfl)) rfl fun a ha => ?_
                    refine pZ ?_
                    refine ⟨i2 + 1, ⟨by omega, fun k z hk hz => ?_, has3 ha (by rfl) (by rfl) (by rfl), hs.drop⟩, by omega⟩
                    by_cases hki : k = i2
                    · subst hki; rw [hy] at hz; cases hz; omega
                    · exact p2 k z (by omega) hz
                · refine wp_exit ?_
                  refine hK9 _ _ ?_
                  refine wp_region_lit ?_
                  refine pY ha (yMove (by rfl)) rfl fun a ha => ?_
                  first | refine pY ha (yAddN (by rfl) (by rfl) ⟨by omega, by omega⟩) rfl fun a ha => ?_ | refine pY ha (yAdd (by rfl) (by rfl)) rfl fun a ha => ?_
                  refine pY ha (yAssign (by rfl)) rfl fun a ha => ?_
                  refine pZ ?_
                  refine ⟨i + 1, ⟨by omega, fun j y hj hy => ?_, has2 ha (by rfl) (by rfl), hs.drop.drop.drop.drop⟩, by omega⟩
                  by_cases hji : j = i
                  · subst hji
                    rw [hx] at hy; cases hy
                    refine ⟨by omega, by omega, by omega, fun a ha => ?_, fun d hd => ?_⟩
                    · obtain ⟨k, hk⟩ := List.mem_iff_getElem?.1 ha
                      exact m2 k a (by have := (List.getElem?_eq_some_iff.1 hk).1; omega) hk
                    · obtain ⟨k, hk⟩ := List.mem_iff_getElem?.1 hd
                      exact p2 k d (by have := (List.getElem?_eq_some_iff.1 hk).1; omega) hk
                  · exact h2 j y (by omega) hy
      · refine wp_exit ?_
        refine hK5 _ _ ?_
        refine wp_seq_k fun K26 hK26 => ?_
        refine wp_region_lit ?_
        refine pY ha (yMove (by rfl)) rfl fun a ha => ?_
        refine pC ha (nCall Tryd.call9 (by rfl)) rfl (written_r hT hb hs .here) ?_
        rintro v w ⟨B, d, rfl, hs⟩ a ha
        refine pY ha (yMove (by rfl)) rfl fun a ha => ?_
        refine pY ha (yExtract (by rfl) (by rfl)) rfl fun a ha => ?_
        refine pY ha (yExtract (by rfl) (by rfl)) rfl fun a ha => ?_
        refine pY ha (yAssign (by rfl)) rfl fun a ha => ?_
        refine pY ha (yAssign (by rfl)) rfl fun a ha => ?_
        refine pZ ?_
        refine hK26 _ _ ?_
        refine wp_seq_k fun K27 hK27 => ?_
        refine wp_seq_k fun K28 hK28 => ?_
        refine wp_region_lit ?_
        refine pY ha (yMove (by rfl)) rfl fun a ha => ?_
        refine pY ha (yNot (by rfl)) rfl fun a ha => ?_
        refine pZ ?_
        refine hK28 _ _ ?_
        first | refine cNDec ha (by rfl) (fun hc113 => ?_) (fun hc113 => ?_) | refine cDec ha (by rfl) (fun hc113 => ?_) (fun hc113 => ?_) | refine cSplit ha (by rfl) (fun hc113 => ?_) (fun hc113 => ?_)
        · have hbad : (wItems xs).2 = true := by simpa using hc113
          refine wp_seq_k fun K29 hK29 => ?_
          refine wp_region_lit ?_
          refine pY ha (yMove (by rfl)) rfl fun a ha => ?_
          refine pC ha (nCall Tryd.call10 (by rfl)) rfl (made_r hb hs (.there .here)) ?_
          rintro v w ⟨B2, d2, rfl, hs⟩ a ha
          refine pY ha (yMove (by rfl)) rfl fun a ha => ?_
          refine pY ha (yExtract (by rfl) (by rfl)) rfl fun a ha => ?_
          refine pY ha (yExtract (by rfl) (by rfl)) rfl fun a ha => ?_
          refine pY ha (yAssign (by rfl)) rfl fun a ha => ?_
          refine pY ha (yAssign (by rfl)) rfl fun a ha => ?_
          refine pZ ?_
          refine hK29 _ _ ?_
          refine wp_seq_k fun K30 hK30 => ?_
          refine wp_region_lit ?_
          refine pY ha (yMove (by rfl)) rfl fun a ha => ?_
          refine pY ha (yNot (by rfl)) rfl fun a ha => ?_
          refine pY ha (yMove (by rfl)) rfl fun a ha => ?_
          refine gSplit (t := 121) ha (by rfl) (fun hg2 => ?_) (fun hg2 => ?_)
          · simp at hg2; simp [hg2] at hc113
          · rw [hg2] at ha
            refine gOn ha rfl rfl (by rfl) ?_
            refine pC ha (nCall Tryd.call8 (by rfl)) rfl (awake_c hs) ?_
            rintro v w ⟨rfl, hs⟩ a ha
            first | refine pY ha (yPickT (by rfl) (by rfl)) rfl fun a ha => ?_ | refine pY ha (yPickF (by rfl) (by rfl)) rfl fun a ha => ?_ | refine pY ha (yPick (by rfl) (by rfl) (by rfl)) rfl fun a ha => ?_
            refine pY ha (yAssign (by rfl)) rfl fun a ha => ?_
            refine pZ ?_
            refine hK30 _ _ ?_
            refine wp_ret ?_
            show bodyPost Tryd.prog Tryd.f6 _ .ret _ _
            refine ret1 rfl ha (by rfl) ?_
            repeat (first | exact ⟨rfl, hs⟩ | replace hs := Sep.drop hs)
        · have hbad : (wItems xs).2 = false := by simpa using hc113
          have hwl := wItems_len xs
          have hwo : wOut xs = (wItems xs).1 := by unfold wOut; rw [if_neg (by simp [hbad])]
          have hch := chain_all (xs := xs) (fun x hx => by
            obtain ⟨k, hk⟩ := List.mem_iff_getElem?.1 hx
            exact h2 k x (by have := (List.getElem?_eq_some_iff.1 hk).1; omega) hk) hb hbad
          refine wp_skip ?_
          refine hK27 _ _ ?_
          refine wp_seq_k fun K31 hK31 => ?_
          refine wp_region_lit ?_
          refine pY ha (yMove (by rfl)) rfl fun a ha => ?_
          refine pC ha (nCall Tryd.call13 (by rfl)) rfl (NewReader_c hs .here (by rw [hwo]; omega)) ?_
          rintro v w ⟨q, rfl, hs⟩ a ha
          refine pY ha (yAssign (by rfl)) rfl fun a ha => ?_
          refine pZ ?_
          refine hK31 _ _ ?_
          refine wp_seq_k fun K32 hK32 => ?_
          refine wp_seq_k fun K33 hK33 => ?_
          refine wp_region_lit ?_
          refine pY ha (yMove (by rfl)) rfl fun a ha => ?_
          refine pY ha (yPtrEqlN Tryd.underlying32 (by rfl) (by rfl)) rfl fun a ha => ?_
          refine pZ ?_
          refine hK33 _ _ ?_
          first | refine cNDec ha (by rfl) (fun hc127 => ?_) (fun hc127 => ?_) | refine cDec ha (by rfl) (fun hc127 => ?_) (fun hc127 => ?_) | refine cSplit ha (by rfl) (fun hc127 => ?_) (fun hc127 => ?_)
          · simp at hc127
          · refine wp_skip ?_
            refine hK32 _ _ ?_
            refine wp_seq_k fun K34 hK34 => ?_
            refine wp_seq_k fun K35 hK35 => ?_
            refine wp_region_lit ?_
            refine pY ha (yAssign (by rfl)) rfl fun a ha => ?_
            refine pZ ?_
            refine hK35 _ _ ?_
            refine wp_block ?_
            refine loopI (ι := Nat × List UInt8) (fun i3 a w => i3.1 ≤ xs.length ∧ chain (xs.drop i3.1) i3.2 ∧ Has a 195 [(0, .slice A xs.length c), (10, .pointer (some ⟨q, 0, none⟩)), (11, .int .i64 i3.1)] ∧ Sep W w (.rdr q 83 (i3.2, 0) :: .rd kU8 (.slice B (wOut xs).length d) (wOut xs) :: .rd kItem (.slice A xs.length c) xs :: cs)) (fun i3 => xs.length - i3.1) ((0, wOut xs)) ?_ ?_
            · exact ⟨Nat.zero_le _, by rw [hwo]; exact hch, has3 ha (by rfl) (by rfl) (by rfl), hs⟩
            · rintro i3 a w ⟨k1, k2, ha, hs⟩
              obtain ⟨i3, l⟩ := i3; simp only at k1 k2 ha hs
              refine wp_seq_k fun K36 hK36 => ?_
              refine wp_seq_k fun K37 hK37 => ?_
              refine wp_region_lit ?_
              refine pY ha (yMove (by rfl)) rfl fun a ha => ?_
              refine pY ha (yMove (by rfl)) rfl fun a ha => ?_
              refine pY ha (yLenS Tryd.runUnderlying22 (by rfl)) rfl fun a ha => ?_
              refine pY ha (yLss (by rfl) (by rfl)) rfl fun a ha => ?_
              refine pZ ?_
              refine hK37 _ _ ?_
              first | refine cDec ha (by rfl) (fun hc131 => ?_) (fun hc131 => ?_) | refine cSplit ha (by rfl) (fun hc131 => ?_) (fun hc131 => ?_)
              · obtain ⟨x, hx⟩ : ∃ x, xs[i3]? = some x := ⟨_, List.getElem?_eq_getElem (by omega)⟩
                obtain ⟨hi3, hxe⟩ := List.getElem?_eq_some_iff.1 hx
                rw [List.drop_eq_getElem_cons hi3, hxe] at k2
                obtain ⟨m, htk, hchm⟩ := k2
                obtain ⟨b0, off, A1, n1, c1, A2, n2, c2, A3, n3, c3, rfl, hs⟩ := hs.rd_item (.there (.there .here)) hx
                refine wp_skip ?_
                refine hK36 _ _ ?_
                refine wp_seq_k fun K38 hK38 => ?_
                refine wp_block ?_
                refine wp_seq_k fun K39 hK39 => ?_
                refine wp_region_lit ?_
                refine pY ha (yMove (by rfl)) rfl fun a ha => ?_
                refine pY ha (yMove (by rfl)) rfl fun a ha => ?_
                refine pY ha (yIndexA Tryd.runUnderlying22 Tryd.sizeOf61 (by rfl) (by rfl) (by omega) (by omega)) rfl fun a ha => ?_
                first | refine pY ha (yLoadRA Tryd.isAgg61 Tryd.sizeOf61 hs (by rfl) (by repeat first | exact .here | apply Pick.there) (by rfl)) rfl fun a ha => ?_ | refine pY ha (yLoadBA Tryd.isAgg61 Tryd.sizeOf61 hs (by rfl) (by repeat first | exact .here | apply Pick.there) (by rfl)) rfl fun a ha => ?_
                refine pAlloc (zs := [.int .i64 0, .int .i64 0, .string ⟨#[]⟩, .bool false, .slice none 0 0, .slice none 0 0, .slice none 0 0]) ha Tryd.zeroValue61 (by rfl) hs rfl fun b w hs a ha => ?_
                refine pStoreA ha Tryd.sizeOf61 hs (by rfl) (by rfl) (by repeat first | exact .here | apply Pick.there) (by rfl) (by rfl) (by rfl) fun w hs => ?_
                refine pZ ?_
                refine hK39 _ _ ?_
                refine wp_seq_k fun K40 hK40 => ?_
                refine wp_region_lit ?_
                refine pY ha (yAssign (by rfl)) rfl fun a ha => ?_
                refine pZ ?_
                refine hK40 _ _ ?_
                refine wp_seq_k fun K41 hK41 => ?_
                refine wp_seq_k fun K42 hK42 => ?_
                refine wp_region_lit ?_
                refine pY ha (yFieldA Tryd.runUnderlying61 rfl Tryd.sizeOf3 rfl (by rfl)) rfl fun a ha => ?_
                first | refine pY ha (yLoadB Tryd.isAgg3 hs (by rfl) (by repeat first | exact .here | apply Pick.there) (by rfl)) rfl fun a ha => ?_ | refine pY ha (yLoadR Tryd.isAgg3 hs (by rfl) (by repeat first | exact .here | apply Pick.there) (by rfl)) rfl fun a ha => ?_ | refine pY ha (yLoadR0 Tryd.isAgg3 hs (by rfl) (by repeat first | exact .here | apply Pick.there) (by rfl)) rfl fun a ha => ?_
                refine pZ ?_
                refine hK42 _ _ ?_
                refine cutC (fun a w => Has a 195 [(13, .bool true), (0, .slice (some ⟨b0, off, none⟩) xs.length c), (10, .pointer (some ⟨q, 0, none⟩)), (11, .int .i64 i3)] ∧ Sep W w (.rdr q 83 (m, 0) :: .rd kU8 (.slice B (wOut xs).length d) (wOut xs) :: .rd kItem (.slice (some ⟨b0, off, none⟩) xs.length c) xs :: cs)) ?_ ?_
                · refine wp_block ?_
                  refine wp_seq_k fun K43 hK43 => ?_
                  refine wp_region_lit ?_
                  refine pY ha (yEql (by rfl) (by rfl)) rfl fun a ha => ?_
                  refine pY ha (yAssign (by rfl)) rfl fun a ha => ?_
                  refine pZ ?_
                  refine hK43 _ _ ?_
                  first | refine cDec ha (by rfl) (fun hc140 => ?_) (fun hc140 => ?_) | refine cSplit ha (by rfl) (fun hc140 => ?_) (fun hc140 => ?_)
                  · refine dStart (fun w => ∃ rs, Sep W w (.blk b 61 [.int .i64 x.kind, .int .i64 x.n, .string x.text, .bool x.flag, .slice A1 n1 c1, .slice A2 n2 c2, .slice A3 n3 c3] :: rs)) [] (by kernel_rfl) rfl (⟨_, hs.drew.pick (by repeat first | exact .here | apply Pick.there)⟩) ?_
                    have hs := Sep.drew hs
                    generalize World.drew _ = w at hs ⊢
                    refine dP 0 rfl (by kernel_rfl) ha won0 (fun _ => yMove (by rfl)) rfl (fun _ _ _ h => nomatch (And.left (show _ ∧ _ from h))) fun a ha => ?_
                    refine dP 2 rfl (by kernel_rfl) ha won0 (fun _ => yFieldA Tryd.runUnderlying61 rfl Tryd.sizeOf3 rfl (by rfl)) rfl (fun _ _ _ h => nomatch (And.left (show _ ∧ _ from h))) fun a ha => ?_
                    first | refine dT 3 rfl (by kernel_rfl) ha won0 (fun _ ⟨rs, hs⟩ => yLoadB Tryd.isAgg3 hs (by rfl) (by repeat first | exact .here | apply Pick.there) (by rfl)) (⟨_, hs.pick (by repeat first | exact .here | apply Pick.there)⟩) rfl (fun _ _ _ h => nomatch (And.left (show _ ∧ _ from h))) fun a ha => ?_ | refine dT 3 rfl (by kernel_rfl) ha won0 (fun _ ⟨rs, hs⟩ => yLoadR Tryd.isAgg3 hs (by rfl) (by repeat first | exact .here | apply Pick.there) (by rfl)) (⟨_, hs.pick (by repeat first | exact .here | apply Pick.there)⟩) rfl (fun _ _ _ h => nomatch (And.left (show _ ∧ _ from h))) fun a ha => ?_ | refine dT 3 rfl (by kernel_rfl) ha won0 (fun _ ⟨rs, hs⟩ => yLoadR0 Tryd.isAgg3 hs (by rfl) (by repeat first | exact .here | apply Pick.there) (by rfl)) (⟨_, hs.pick (by repeat first | exact .here | apply Pick.there)⟩) rfl (fun _ _ _ h => nomatch (And.left (show _ ∧ _ from h))) fun a ha => ?_
                    refine dC 1 rfl (by kernel_rfl) rfl ha won0 (nCall Tryd.call15 (by rfl)) rfl (RdNum_c (st := (l, 0)) hs (by repeat first | exact .here | apply Pick.there)) ?_
                    rintro v w ⟨rfl, hs⟩
                    refine ⟨⟨_, hs.pick (by repeat first | exact .here | apply Pick.there)⟩, fun a ha => ?_⟩
                    rw [htk.1 hc140] at ha hs
                    refine dP 4 rfl (by kernel_rfl) ha won0 (fun _ => yEql (by rfl) (by rfl)) rfl (fun _ _ _ h => nomatch (And.left (show _ ∧ _ from h))) fun a ha => ?_
                    refine dP 5 rfl (by kernel_rfl) ha won0 (fun _ => yAssign (by rfl)) rfl (fun _ _ _ h => nomatch (And.left (show _ ∧ _ from h))) fun a ha => ?_
                    refine dZ (by kernel_rfl) ?_
                    refine @And.intro _ _ rfl ?_
                    try (have hlm := htk.2.2.2.2.2.2 hc140 hc147 hc154 hc161 hc168 hc175; subst hlm)
                    refine ⟨has4 ha (by first | rfl | exact congrArg (fun z => some (Value.bool z)) (decide_eq_true rfl)) (by rfl) (by rfl) (by rfl), ?_⟩
                    have hs := hs.pick (c := .rd kItem (.slice (some ⟨b0, off, none⟩) xs.length c) xs) (by repeat first | exact .here | apply Pick.there)
                    have hs := hs.pick (c := .rd kU8 (.slice B (wOut xs).length d) (wOut xs)) (by repeat first | exact .here | apply Pick.there)
                    have hs := hs.pick (c := .rdr q 83 (_, 0)) (by repeat first | exact .here | apply Pick.there)
                    repeat (first | exact hs | replace hs := hs.drop4)
                  · refine wp_seq_k fun K44 hK44 => ?_
                    refine wp_region_lit ?_
                    refine pY ha (yEql (by rfl) (by rfl)) rfl fun a ha => ?_
                    refine pY ha (yAssign (by rfl)) rfl fun a ha => ?_
                    refine pZ ?_
                    refine hK44 _ _ ?_
                    first | refine cDec ha (by rfl) (fun hc147 => ?_) (fun hc147 => ?_) | refine cSplit ha (by rfl) (fun hc147 => ?_) (fun hc147 => ?_)
                    · refine dStart (fun w => ∃ rs, Sep W w (.blk b 61 [.int .i64 x.kind, .int .i64 x.n, .string x.text, .bool x.flag, .slice A1 n1 c1, .slice A2 n2 c2, .slice A3 n3 c3] :: rs)) [] (by kernel_rfl) rfl (⟨_, hs.drew.pick (by repeat first | exact .here | apply Pick.there)⟩) ?_
                      have hs := Sep.drew hs
                      generalize World.drew _ = w at hs ⊢
                      refine dP 0 rfl (by kernel_rfl) ha won0 (fun _ => yMove (by rfl)) rfl (fun _ _ _ h => nomatch (And.left (show _ ∧ _ from h))) fun a ha => ?_
                      refine dP 2 rfl (by kernel_rfl) ha won0 (fun _ => yFieldA Tryd.runUnderlying61 rfl Tryd.sizeOf9 rfl (by rfl)) rfl (fun _ _ _ h => nomatch (And.left (show _ ∧ _ from h))) fun a ha => ?_
                      first | refine dT 3 rfl (by kernel_rfl) ha won0 (fun _ ⟨rs, hs⟩ => yLoadB Tryd.isAgg9 hs (by rfl) (by repeat first | exact .here | apply Pick.there) (by rfl)) (⟨_, hs.pick (by repeat first | exact .here | apply Pick.there)⟩) rfl (fun _ _ _ h => nomatch (And.left (show _ ∧ _ from h))) fun a ha => ?_ | refine dT 3 rfl (by kernel_rfl) ha won0 (fun _ ⟨rs, hs⟩ => yLoadR Tryd.isAgg9 hs (by rfl) (by repeat first | exact .here | apply Pick.there) (by rfl)) (⟨_, hs.pick (by repeat first | exact .here | apply Pick.there)⟩) rfl (fun _ _ _ h => nomatch (And.left (show _ ∧ _ from h))) fun a ha => ?_ | refine dT 3 rfl (by kernel_rfl) ha won0 (fun _ ⟨rs, hs⟩ => yLoadR0 Tryd.isAgg9 hs (by rfl) (by repeat first | exact .here | apply Pick.there) (by rfl)) (⟨_, hs.pick (by repeat first | exact .here | apply Pick.there)⟩) rfl (fun _ _ _ h => nomatch (And.left (show _ ∧ _ from h))) fun a ha => ?_
                      refine dC 1 rfl (by kernel_rfl) rfl ha won0 (nCall Tryd.call17 (by rfl)) rfl (RdText_c (st := (l, 0)) hT 3000 hs (by repeat first | exact .here | apply Pick.there)) ?_
                      rintro v w ⟨rfl, hs⟩
                      refine ⟨⟨_, hs.pick (by repeat first | exact .here | apply Pick.there)⟩, fun a ha => ?_⟩
                      rw [htk.2.1 hc147] at ha hs
                      refine dP 4 rfl (by kernel_rfl) ha won0 (fun _ => yStrEql (by rfl) (by rfl)) rfl (fun _ _ _ h => nomatch (And.left (show _ ∧ _ from h))) fun a ha => ?_
                      refine dP 5 rfl (by kernel_rfl) ha won0 (fun _ => yAssign (by rfl)) rfl (fun _ _ _ h => nomatch (And.left (show _ ∧ _ from h))) fun a ha => ?_
                      refine dZ (by kernel_rfl) ?_
                      refine @And.intro _ _ rfl ?_
                      try (have hlm := htk.2.2.2.2.2.2 hc140 hc147 hc154 hc161 hc168 hc175; subst hlm)
                      refine ⟨has4 ha (by first | rfl | exact congrArg (fun z => some (Value.bool z)) (decide_eq_true rfl)) (by rfl) (by rfl) (by rfl), ?_⟩
                      have hs := hs.pick (c := .rd kItem (.slice (some ⟨b0, off, none⟩) xs.length c) xs) (by repeat first | exact .here | apply Pick.there)
                      have hs := hs.pick (c := .rd kU8 (.slice B (wOut xs).length d) (wOut xs)) (by repeat first | exact .here | apply Pick.there)
                      have hs := hs.pick (c := .rdr q 83 (_, 0)) (by repeat first | exact .here | apply Pick.there)
                      repeat (first | exact hs | replace hs := hs.drop4)
                    · refine wp_seq_k fun K45 hK45 => ?_
                      refine wp_region_lit ?_
                      refine pY ha (yEql (by rfl) (by rfl)) rfl fun a ha => ?_
                      refine pY ha (yAssign (by rfl)) rfl fun a ha => ?_
                      refine pZ ?_
                      refine hK45 _ _ ?_
                      first | refine cDec ha (by rfl) (fun hc154 => ?_) (fun hc154 => ?_) | refine cSplit ha (by rfl) (fun hc154 => ?_) (fun hc154 => ?_)
                      · refine dStart (fun w => ∃ rs, Sep W w (.blk b 61 [.int .i64 x.kind, .int .i64 x.n, .string x.text, .bool x.flag, .slice A1 n1 c1, .slice A2 n2 c2, .slice A3 n3 c3] :: rs)) [] (by kernel_rfl) rfl (⟨_, hs.drew.pick (by repeat first | exact .here | apply Pick.there)⟩) ?_
                        have hs := Sep.drew hs
                        generalize World.drew _ = w at hs ⊢
                        refine dP 0 rfl (by kernel_rfl) ha won0 (fun _ => yMove (by rfl)) rfl (fun _ _ _ h => nomatch (And.left (show _ ∧ _ from h))) fun a ha => ?_
                        refine dP 2 rfl (by kernel_rfl) ha won0 (fun _ => yFieldA Tryd.runUnderlying61 rfl Tryd.sizeOf4 rfl (by rfl)) rfl (fun _ _ _ h => nomatch (And.left (show _ ∧ _ from h))) fun a ha => ?_
                        first | refine dT 3 rfl (by kernel_rfl) ha won0 (fun _ ⟨rs, hs⟩ => yLoadB Tryd.isAgg4 hs (by rfl) (by repeat first | exact .here | apply Pick.there) (by rfl)) (⟨_, hs.pick (by repeat first | exact .here | apply Pick.there)⟩) rfl (fun _ _ _ h => nomatch (And.left (show _ ∧ _ from h))) fun a ha => ?_ | refine dT 3 rfl (by kernel_rfl) ha won0 (fun _ ⟨rs, hs⟩ => yLoadR Tryd.isAgg4 hs (by rfl) (by repeat first | exact .here | apply Pick.there) (by rfl)) (⟨_, hs.pick (by repeat first | exact .here | apply Pick.there)⟩) rfl (fun _ _ _ h => nomatch (And.left (show _ ∧ _ from h))) fun a ha => ?_ | refine dT 3 rfl (by kernel_rfl) ha won0 (fun _ ⟨rs, hs⟩ => yLoadR0 Tryd.isAgg4 hs (by rfl) (by repeat first | exact .here | apply Pick.there) (by rfl)) (⟨_, hs.pick (by repeat first | exact .here | apply Pick.there)⟩) rfl (fun _ _ _ h => nomatch (And.left (show _ ∧ _ from h))) fun a ha => ?_
                        refine dC 1 rfl (by kernel_rfl) rfl ha won0 (nCall Tryd.call19 (by rfl)) rfl (RdFlag_c (st := (l, 0)) hs (by repeat first | exact .here | apply Pick.there)) ?_
                        rintro v w ⟨rfl, hs⟩
                        refine ⟨⟨_, hs.pick (by repeat first | exact .here | apply Pick.there)⟩, fun a ha => ?_⟩
                        rw [htk.2.2.1 hc154] at ha hs
                        refine dP 4 rfl (by kernel_rfl) ha won0 (fun _ => yBoolEql Tryd.underlying4 (by rfl) (by rfl)) rfl (fun _ _ _ h => nomatch (And.left (show _ ∧ _ from h))) fun a ha => ?_
                        refine dP 5 rfl (by kernel_rfl) ha won0 (fun _ => yAssign (by rfl)) rfl (fun _ _ _ h => nomatch (And.left (show _ ∧ _ from h))) fun a ha => ?_
                        refine dZ (by kernel_rfl) ?_
                        refine @And.intro _ _ rfl ?_
                        try (have hlm := htk.2.2.2.2.2.2 hc140 hc147 hc154 hc161 hc168 hc175; subst hlm)
                        refine ⟨has4 ha (by first | rfl | exact congrArg (fun z => some (Value.bool z)) (decide_eq_true rfl)) (by rfl) (by rfl) (by rfl), ?_⟩
                        have hs := hs.pick (c := .rd kItem (.slice (some ⟨b0, off, none⟩) xs.length c) xs) (by repeat first | exact .here | apply Pick.there)
                        have hs := hs.pick (c := .rd kU8 (.slice B (wOut xs).length d) (wOut xs)) (by repeat first | exact .here | apply Pick.there)
                        have hs := hs.pick (c := .rdr q 83 (_, 0)) (by repeat first | exact .here | apply Pick.there)
                        repeat (first | exact hs | replace hs := hs.drop4)
                      · refine wp_seq_k fun K46 hK46 => ?_
                        refine wp_region_lit ?_
                        refine pY ha (yEql (by rfl) (by rfl)) rfl fun a ha => ?_
                        refine pY ha (yAssign (by rfl)) rfl fun a ha => ?_
                        refine pZ ?_
                        refine hK46 _ _ ?_
                        first | refine cDec ha (by rfl) (fun hc161 => ?_) (fun hc161 => ?_) | refine cSplit ha (by rfl) (fun hc161 => ?_) (fun hc161 => ?_)
                        · refine dStart (fun w => ∃ rs, Sep W w (.blk b 61 [.int .i64 x.kind, .int .i64 x.n, .string x.text, .bool x.flag, .slice A1 n1 c1, .slice A2 n2 c2, .slice A3 n3 c3] :: rs)) [4] (by kernel_rfl) rfl (⟨_, hs.drew.pick (by repeat first | exact .here | apply Pick.there)⟩) ?_
                          have hs := Sep.drew hs
                          generalize World.drew _ = w at hs ⊢
                          refine dP 0 rfl (by kernel_rfl) ha won0 (fun _ => yMove (by rfl)) rfl (fun _ _ _ h => nomatch (And.left (show _ ∧ _ from h))) fun a ha => ?_
                          refine dP 2 rfl (by kernel_rfl) ha won0 (fun _ => yFieldA Tryd.runUnderlying61 rfl Tryd.sizeOf41 rfl (by rfl)) rfl (fun _ _ _ h => nomatch (And.left (show _ ∧ _ from h))) fun a ha => ?_
                          first | refine dT 3 rfl (by kernel_rfl) ha won0 (fun _ ⟨rs, hs⟩ => yLoadB Tryd.isAgg41 hs (by rfl) (by repeat first | exact .here | apply Pick.there) (by rfl)) (⟨_, hs.pick (by repeat first | exact .here | apply Pick.there)⟩) rfl (fun _ _ _ h => nomatch (And.left (show _ ∧ _ from h))) fun a ha => ?_ | refine dT 3 rfl (by kernel_rfl) ha won0 (fun _ ⟨rs, hs⟩ => yLoadR Tryd.isAgg41 hs (by rfl) (by repeat first | exact .here | apply Pick.there) (by rfl)) (⟨_, hs.pick (by repeat first | exact .here | apply Pick.there)⟩) rfl (fun _ _ _ h => nomatch (And.left (show _ ∧ _ from h))) fun a ha => ?_ | refine dT 3 rfl (by kernel_rfl) ha won0 (fun _ ⟨rs, hs⟩ => yLoadR0 Tryd.isAgg41 hs (by rfl) (by repeat first | exact .here | apply Pick.there) (by rfl)) (⟨_, hs.pick (by repeat first | exact .here | apply Pick.there)⟩) rfl (fun _ _ _ h => nomatch (And.left (show _ ∧ _ from h))) fun a ha => ?_
                          refine dC 1 rfl (by kernel_rfl) rfl ha won0 (nCall Tryd.call22 (by rfl)) rfl (RdComps_c (st := (l, 0)) hT hs (by repeat first | exact .here | apply Pick.there)) ?_
                          rintro v w ⟨D, e, rfl, hs⟩
                          refine ⟨⟨_, hs.pick (by repeat first | exact .here | apply Pick.there)⟩, fun a ha => ?_⟩
                          rw [htk.2.2.2.1 hc161] at ha hs
                          have hs := hs.ol_rd .here
                          refine dCl 4 rfl (by kernel_rfl) rfl ha won0 (nCall Tryd.call21 (by rfl)) rfl (Same_c hs (by repeat first | exact .here | apply Pick.there) (by repeat first | exact .here | apply Pick.there)) ?_
                          rintro v w ⟨rfl, hs⟩ a ha
                          refine dP 5 rfl (by kernel_rfl) ha won0 (fun _ => yAssign (by rfl)) rfl (fun _ _ _ h => nomatch (And.left (show _ ∧ _ from h))) fun a ha => ?_
                          refine dZ (by kernel_rfl) ?_
                          refine @And.intro _ _ rfl ?_
                          try (have hlm := htk.2.2.2.2.2.2 hc140 hc147 hc154 hc161 hc168 hc175; subst hlm)
                          refine ⟨has4 ha (by first | rfl | exact congrArg (fun z => some (Value.bool z)) (decide_eq_true rfl)) (by rfl) (by rfl) (by rfl), ?_⟩
                          have hs := hs.pick (c := .rd kItem (.slice (some ⟨b0, off, none⟩) xs.length c) xs) (by repeat first | exact .here | apply Pick.there)
                          have hs := hs.pick (c := .rd kU8 (.slice B (wOut xs).length d) (wOut xs)) (by repeat first | exact .here | apply Pick.there)
                          have hs := hs.pick (c := .rdr q 83 (_, 0)) (by repeat first | exact .here | apply Pick.there)
                          repeat (first | exact hs | replace hs := hs.drop4)
                        · refine wp_seq_k fun K47 hK47 => ?_
                          refine wp_region_lit ?_
                          refine pY ha (yEql (by rfl) (by rfl)) rfl fun a ha => ?_
                          refine pY ha (yAssign (by rfl)) rfl fun a ha => ?_
                          refine pZ ?_
                          refine hK47 _ _ ?_
                          first | refine cDec ha (by rfl) (fun hc168 => ?_) (fun hc168 => ?_) | refine cSplit ha (by rfl) (fun hc168 => ?_) (fun hc168 => ?_)
                          · refine dStart (fun w => ∃ rs, Sep W w (.blk b 61 [.int .i64 x.kind, .int .i64 x.n, .string x.text, .bool x.flag, .slice A1 n1 c1, .slice A2 n2 c2, .slice A3 n3 c3] :: rs)) [4] (by kernel_rfl) rfl (⟨_, hs.drew.pick (by repeat first | exact .here | apply Pick.there)⟩) ?_
                            have hs := Sep.drew hs
                            generalize World.drew _ = w at hs ⊢
                            refine dP 0 rfl (by kernel_rfl) ha won0 (fun _ => yMove (by rfl)) rfl (fun _ _ _ h => nomatch (And.left (show _ ∧ _ from h))) fun a ha => ?_
                            refine dP 2 rfl (by kernel_rfl) ha won0 (fun _ => yFieldA Tryd.runUnderlying61 rfl Tryd.sizeOf44 rfl (by rfl)) rfl (fun _ _ _ h => nomatch (And.left (show _ ∧ _ from h))) fun a ha => ?_
                            first | refine dT 3 rfl (by kernel_rfl) ha won0 (fun _ ⟨rs, hs⟩ => yLoadB Tryd.isAgg44 hs (by rfl) (by repeat first | exact .here | apply Pick.there) (by rfl)) (⟨_, hs.pick (by repeat first | exact .here | apply Pick.there)⟩) rfl (fun _ _ _ h => nomatch (And.left (show _ ∧ _ from h))) fun a ha => ?_ | refine dT 3 rfl (by kernel_rfl) ha won0 (fun _ ⟨rs, hs⟩ => yLoadR Tryd.isAgg44 hs (by rfl) (by repeat first | exact .here | apply Pick.there) (by rfl)) (⟨_, hs.pick (by repeat first | exact .here | apply Pick.there)⟩) rfl (fun _ _ _ h => nomatch (And.left (show _ ∧ _ from h))) fun a ha => ?_ | refine dT 3 rfl (by kernel_rfl) ha won0 (fun _ ⟨rs, hs⟩ => yLoadR0 Tryd.isAgg44 hs (by rfl) (by repeat first | exact .here | apply Pick.there) (by rfl)) (⟨_, hs.pick (by repeat first | exact .here | apply Pick.there)⟩) rfl (fun _ _ _ h => nomatch (And.left (show _ ∧ _ from h))) fun a ha => ?_
                            refine dC 1 rfl (by kernel_rfl) rfl ha won0 (nCall Tryd.call25 (by rfl)) rfl (RdActns_c (st := (l, 0)) hT hs (by repeat first | exact .here | apply Pick.there)) ?_
                            rintro v w ⟨D, e, rfl, hs⟩
                            refine ⟨⟨_, hs.pick (by repeat first | exact .here | apply Pick.there)⟩, fun a ha => ?_⟩
                            rw [htk.2.2.2.2.1 hc168] at ha hs
                            have hs := hs.ol_rd .here
                            refine dCl 4 rfl (by kernel_rfl) rfl ha won0 (nCall Tryd.call24 (by rfl)) rfl (SameActs_c hs (by repeat first | exact .here | apply Pick.there) (by repeat first | exact .here | apply Pick.there)) ?_
                            rintro v w ⟨rfl, hs⟩ a ha
                            refine dP 5 rfl (by kernel_rfl) ha won0 (fun _ => yAssign (by rfl)) rfl (fun _ _ _ h => nomatch (And.left (show _ ∧ _ from h))) fun a ha => ?_
                            refine dZ (by kernel_rfl) ?_
                            refine @And.intro _ _ rfl ?_
                            try (have hlm := htk.2.2.2.2.2.2 hc140 hc147 hc154 hc161 hc168 hc175; subst hlm)
                            refine ⟨has4 ha (by first | rfl | exact congrArg (fun z => some (Value.bool z)) (decide_eq_true rfl)) (by rfl) (by rfl) (by rfl), ?_⟩
                            have hs := hs.pick (c := .rd kItem (.slice (some ⟨b0, off, none⟩) xs.length c) xs) (by repeat first | exact .here | apply Pick.there)
                            have hs := hs.pick (c := .rd kU8 (.slice B (wOut xs).length d) (wOut xs)) (by repeat first | exact .here | apply Pick.there)
                            have hs := hs.pick (c := .rdr q 83 (_, 0)) (by repeat first | exact .here | apply Pick.there)
                            repeat (first | exact hs | replace hs := hs.drop4)
                          · refine wp_seq_k fun K48 hK48 => ?_
                            refine wp_region_lit ?_
                            refine pY ha (yEql (by rfl) (by rfl)) rfl fun a ha => ?_
                            refine pY ha (yAssign (by rfl)) rfl fun a ha => ?_
                            refine pZ ?_
                            refine hK48 _ _ ?_
                            first | refine cDec ha (by rfl) (fun hc175 => ?_) (fun hc175 => ?_) | refine cSplit ha (by rfl) (fun hc175 => ?_) (fun hc175 => ?_)
                            · refine dStart (fun w => ∃ rs, Sep W w (.blk b 61 [.int .i64 x.kind, .int .i64 x.n, .string x.text, .bool x.flag, .slice A1 n1 c1, .slice A2 n2 c2, .slice A3 n3 c3] :: rs)) [4] (by kernel_rfl) rfl (⟨_, hs.drew.pick (by repeat first | exact .here | apply Pick.there)⟩) ?_
                              have hs := Sep.drew hs
                              generalize World.drew _ = w at hs ⊢
                              refine dP 0 rfl (by kernel_rfl) ha won0 (fun _ => yMove (by rfl)) rfl (fun _ _ _ h => nomatch (And.left (show _ ∧ _ from h))) fun a ha => ?_
                              refine dP 2 rfl (by kernel_rfl) ha won0 (fun _ => yFieldA Tryd.runUnderlying61 rfl Tryd.sizeOf47 rfl (by rfl)) rfl (fun _ _ _ h => nomatch (And.left (show _ ∧ _ from h))) fun a ha => ?_
                              first | refine dT 3 rfl (by kernel_rfl) ha won0 (fun _ ⟨rs, hs⟩ => yLoadB Tryd.isAgg47 hs (by rfl) (by repeat first | exact .here | apply Pick.there) (by rfl)) (⟨_, hs.pick (by repeat first | exact .here | apply Pick.there)⟩) rfl (fun _ _ _ h => nomatch (And.left (show _ ∧ _ from h))) fun a ha => ?_ | refine dT 3 rfl (by kernel_rfl) ha won0 (fun _ ⟨rs, hs⟩ => yLoadR Tryd.isAgg47 hs (by rfl) (by repeat first | exact .here | apply Pick.there) (by rfl)) (⟨_, hs.pick (by repeat first | exact .here | apply Pick.there)⟩) rfl (fun _ _ _ h => nomatch (And.left (show _ ∧ _ from h))) fun a ha => ?_ | refine dT 3 rfl (by kernel_rfl) ha won0 (fun _ ⟨rs, hs⟩ => yLoadR0 Tryd.isAgg47 hs (by rfl) (by repeat first | exact .here | apply Pick.there) (by rfl)) (⟨_, hs.pick (by repeat first | exact .here | apply Pick.there)⟩) rfl (fun _ _ _ h => nomatch (And.left (show _ ∧ _ from h))) fun a ha => ?_
                              refine dC 1 rfl (by kernel_rfl) rfl ha won0 (nCall Tryd.call28 (by rfl)) rfl (RdNods_c (st := (l, 0)) hT hs (by repeat first | exact .here | apply Pick.there)) ?_
                              rintro v w ⟨D, e, rfl, hs⟩
                              refine ⟨⟨_, hs.pick (by repeat first | exact .here | apply Pick.there)⟩, fun a ha => ?_⟩
                              rw [htk.2.2.2.2.2.1 hc175] at ha hs
                              have hs := hs.ol_rd .here
                              refine dCl 4 rfl (by kernel_rfl) rfl ha won0 (nCall Tryd.call27 (by rfl)) rfl (SameNodes_c hs (by repeat first | exact .here | apply Pick.there) (by repeat first | exact .here | apply Pick.there)) ?_
                              rintro v w ⟨rfl, hs⟩ a ha
                              refine dP 5 rfl (by kernel_rfl) ha won0 (fun _ => yAssign (by rfl)) rfl (fun _ _ _ h => nomatch (And.left (show _ ∧ _ from h))) fun a ha => ?_
                              refine dZ (by kernel_rfl) ?_
                              refine @And.intro _ _ rfl ?_
                              try (have hlm := htk.2.2.2.2.2.2 hc140 hc147 hc154 hc161 hc168 hc175; subst hlm)
                              refine ⟨has4 ha (by first | rfl | exact congrArg (fun z => some (Value.bool z)) (decide_eq_true rfl)) (by rfl) (by rfl) (by rfl), ?_⟩
                              have hs := hs.pick (c := .rd kItem (.slice (some ⟨b0, off, none⟩) xs.length c) xs) (by repeat first | exact .here | apply Pick.there)
                              have hs := hs.pick (c := .rd kU8 (.slice B (wOut xs).length d) (wOut xs)) (by repeat first | exact .here | apply Pick.there)
                              have hs := hs.pick (c := .rdr q 83 (_, 0)) (by repeat first | exact .here | apply Pick.there)
                              repeat (first | exact hs | replace hs := hs.drop4)
                            · refine wp_skip ?_
                              refine @And.intro _ _ rfl ?_
                              try (have hlm := htk.2.2.2.2.2.2 hc140 hc147 hc154 hc161 hc168 hc175; subst hlm)
                              refine ⟨has4 ha (by first | rfl | exact congrArg (fun z => some (Value.bool z)) (decide_eq_true rfl)) (by rfl) (by rfl) (by rfl), ?_⟩
                              have hs := hs.pick (c := .rd kItem (.slice (some ⟨b0, off, none⟩) xs.length c) xs) (by repeat first | exact .here | apply Pick.there)
                              have hs := hs.pick (c := .rd kU8 (.slice B (wOut xs).length d) (wOut xs)) (by repeat first | exact .here | apply Pick.there)
                              have hs := hs.pick (c := .rdr q 83 (_, 0)) (by repeat first | exact .here | apply Pick.there)
                              repeat (first | exact hs | replace hs := hs.drop4)
                rintro a w ⟨ha, hs⟩
                refine hK41 _ _ ?_
                refine wp_seq_k fun K49 hK49 => ?_
                refine wp_region_lit ?_
                refine pY ha (yMove (by rfl)) rfl fun a ha => ?_
                refine pY ha (yNot (by rfl)) rfl fun a ha => ?_
                refine pZ ?_
                refine hK49 _ _ ?_
                refine cFalse ha (by rfl) ?_
                refine wp_skip ?_
                refine hK38 _ _ ?_
                refine wp_region_lit ?_
                refine pY ha (yMove (by rfl)) rfl fun a ha => ?_
                first | refine pY ha (yAddN (by rfl) (by rfl) ⟨by omega, by omega⟩) rfl fun a ha => ?_ | refine pY ha (yAdd (by rfl) (by rfl)) rfl fun a ha => ?_
                refine pY ha (yAssign (by rfl)) rfl fun a ha => ?_
                refine pZ ?_
                exact ⟨(i3 + 1, m), ⟨by simp only; omega, hchm, has3 ha (by rfl) (by rfl) (by rfl), hs⟩, by simp only; omega⟩
              · refine wp_exit ?_
                refine hK34 _ _ ?_
                refine wp_seq_k fun K50 hK50 => ?_
                obtain rfl : l = [] := by rw [List.drop_eq_nil_of_le (by omega)] at k2; exact k2
                refine wp_region_lit ?_
                refine pY ha (yMove (by rfl)) rfl fun a ha => ?_
                refine pC ha (nCall Tryd.call31 (by rfl)) rfl (ErrK_c hs .here) ?_
                rintro v w ⟨rfl, hs⟩ a ha
                refine pY ha (yEql (by rfl) (by rfl)) rfl fun a ha => ?_
                refine pY ha (yMove (by rfl)) rfl fun a ha => ?_
                refine gDec (t := 187) ha (by rfl) (fun hg3 hp3 => ?_) (fun hg3 hp3 => ?_)
                · simp at hg3
                · rw [hg3] at ha
                  refine gOn ha rfl rfl (by rfl) ?_
                  refine pY ha (yMove (by rfl)) rfl fun a ha => ?_
                  refine gOn ha rfl rfl (by rfl) ?_
                  refine pC ha (nCall Tryd.call30 (by rfl)) rfl (Left_c hs .here) ?_
                  rintro v w ⟨rfl, hs⟩ a ha
                  refine gOn ha rfl rfl (by rfl) ?_
                  refine pY ha (yEql (by rfl) (by rfl)) rfl fun a ha => ?_
                  first | refine pY ha (yPickT (by rfl) (by rfl)) rfl fun a ha => ?_ | refine pY ha (yPickF (by rfl) (by rfl)) rfl fun a ha => ?_ | refine pY ha (yPick (by rfl) (by rfl) (by rfl)) rfl fun a ha => ?_
                  refine pY ha (yMove (by rfl)) rfl fun a ha => ?_
                  refine gSplit (t := 192) ha (by rfl) (fun hg8 => ?_) (fun hg8 => ?_)
                  · simp at hg8
                  · rw [hg8] at ha
                    refine gOn ha rfl rfl (by rfl) ?_
                    refine pC ha (nCall Tryd.call8 (by rfl)) rfl (awake_c hs) ?_
                    rintro v w ⟨rfl, hs⟩ a ha
                    first | refine pY ha (yPickT (by rfl) (by rfl)) rfl fun a ha => ?_ | refine pY ha (yPickF (by rfl) (by rfl)) rfl fun a ha => ?_ | refine pY ha (yPick (by rfl) (by rfl) (by rfl)) rfl fun a ha => ?_
                    refine pY ha (yAssign (by rfl)) rfl fun a ha => ?_
                    refine pZ ?_
                    refine hK50 _ _ ?_
                    refine wp_ret ?_
                    show bodyPost Tryd.prog Tryd.f6 _ .ret _ _
                    refine ret1 rfl ha (by rfl) ?_
                    repeat (first | exact ⟨rfl, hs⟩ | replace hs := Sep.drop hs)
end
end Go.Proofs.YtnkcmpmcmkljnaaDoor
