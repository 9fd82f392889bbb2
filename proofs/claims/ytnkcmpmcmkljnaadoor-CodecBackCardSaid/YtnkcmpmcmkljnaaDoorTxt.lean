/- The reference's check of a text. -/
import Derived.Test.YtnkcmpmcmkljnaaDoorNum
import Derived.Test.YtnkcmpmcmkljnaaDoorUtf
set_option linter.unusedVariables false
set_option linter.unusedSimpArgs false
namespace Go.Proofs.YtnkcmpmcmkljnaaDoor
open Go.RowKit Go.Lib
theorem bslTxt31_1_0 {w : World} {l : List (Nat × Value)} {T : TypeId} {x0 : Operand} {v0 : Value} (h0 : ev l x0 = some v0) (o0 : v0.cells = #[v0] := by rfl) : Mk Tryd.prog w l (.buildSlice 31 1 #[(0, x0)]) T 3 1 [v0] := fun ρ o h ho _ => by
  unfold execOp; rw [ho]
  exact mk1v (P := Tryd.prog) w Tryd.runUnderlying31 Tryd.sizeOf3 Tryd.zeroValue3 rfl o0 (h _ _ h0)
theorem elTxt31 : ElemT Tryd.prog 31 3 1 8 := elemT_mk Tryd.underlying31 rfl (by kernel_rfl)
section
variable {W w : World} {cs r : List Ch}
theorem cont_zero (l : List UInt8) (c : Nat) : cont l 0 c = some c := by cases l <;> rfl
theorem cont_step {l : List UInt8} {k c : Nat} {x : UInt8} {g : Option Nat} {j : Nat} (hx : l[j]? = some x) (h : cont (l.drop j) (k + 1) c = g) : (if x.toNat / 64 = 2 then cont (l.drop (j + 1)) k (c * 64 + x.toNat % 64) else none) = g := by
  obtain ⟨hi, rfl⟩ := List.getElem?_eq_some_iff.1 hx
  rw [List.drop_eq_getElem_cons hi, cont] at h
  exact h
theorem list_at (s : ByteArray) {i : Nat} (hi : i < s.size) : ∃ b, s.data.toList[i]? = some b ∧ s.data.toList.drop i = b :: s.data.toList.drop (i + 1) := by
  have : i < s.data.toList.length := by simpa using hi
  exact ⟨s.data.toList[i], List.getElem?_eq_getElem this, List.drop_eq_getElem_cons this⟩
theorem Point_c (s : ByteArray) (i0 : Nat) (hsz : s.size ≤ 9223372036854775807) (hi : i0 < s.size) (hs : Sep W w cs) :
    Calls P 68 #[.string s, .int .i64 i0] w (Rt fun v w' => v = .tuple #[.int .i64 (pointL (s.data.toList.drop i0)).1, .int .i64 (pointL (s.data.toList.drop i0)).2] ∧ Sep W w' cs) := by
  obtain ⟨b0, hb, hl⟩ := list_at s hi
  rw [hl]
  have hb0 := b0.toNat_lt
  have hlen : (b0 :: s.data.toList.drop (i0 + 1)).length = s.size - i0 := by rw [← hl]; simp
  refine enter Tryd.func68 Tryd.ntmps68 rfl rfl fun a (ha : Has a 96 [(0, _), (1, _)]) => ?_
  refine wp_seq_k fun K1 hK1 => ?_
  refine wp_region_lit ?_
  refine pY ha (yAssign (by rfl)) rfl fun a ha => ?_
  refine pY ha (yAssign (by rfl)) rfl fun a ha => ?_
  refine pZ ?_
  refine hK1 _ _ ?_
  refine wp_seq_k fun K2 hK2 => ?_
  refine wp_region_lit ?_
  refine pY ha (yMove (by rfl)) rfl fun a ha => ?_
  refine pY ha (yMove (by rfl)) rfl fun a ha => ?_
  refine pY ha (yIndexSb Tryd.runUnderlying9 (by rfl) (by rfl) (by omega) hb) rfl fun a ha => ?_
  first | refine pY ha (yConvI64 (fun w => ⟨_, Tryd.runUnderlying5 w⟩) Tryd.runUnderlying3 (by rfl) ⟨by omega, by omega⟩) rfl fun a ha => ?_ | refine pY ha (yConvInt (fun w => ⟨_, Tryd.runUnderlying5 w⟩) Tryd.runUnderlying3 (by rfl)) rfl fun a ha => ?_
  refine pY ha (yAssign (by rfl)) rfl fun a ha => ?_
  refine pZ ?_
  refine hK2 _ _ ?_
  refine wp_seq_k fun K3 hK3 => ?_
  refine wp_region_lit ?_
  refine pY ha (yAssign (by rfl)) rfl fun a ha => ?_
  refine pY ha (yAssign (by rfl)) rfl fun a ha => ?_
  refine pY ha (yAssign (by rfl)) rfl fun a ha => ?_
  refine pZ ?_
  refine hK3 _ _ ?_
  refine wp_seq_k fun K4 hK4 => ?_
  have hJ4 : ∀ a w, (∃ z c m : Nat, lead b0.toNat z c m ∧ Has a 96 [(0, .string s), (1, .int .i64 i0), (7, .int .i64 z), (8, .int .i64 c), (9, .int .i64 m)] ∧ Sep W w cs) → K4 a w := by
    rintro a w ⟨z, c, m, hld, ha, hs⟩
    refine hK4 _ _ ?_
    refine wp_seq_k fun K5 hK5 => ?_
    refine wp_seq_k fun K6 hK6 => ?_
    have hld' := hld; unfold lead at hld'
    refine wp_region_lit ?_
    refine pY ha (yMove (by rfl)) rfl fun a ha => ?_
    refine pY ha (yLenStr Tryd.runUnderlying9 (by rfl)) rfl fun a ha => ?_
    refine pY ha (yMove (by rfl)) rfl fun a ha => ?_
    first | refine pY ha (ySubN (by rfl) (by rfl) ⟨by omega, by omega⟩) rfl fun a ha => ?_ | refine pY ha (ySub (by rfl) (by rfl)) rfl fun a ha => ?_
    refine pY ha (yMove (by rfl)) rfl fun a ha => ?_
    refine pY ha (yLss (by rfl) (by rfl)) rfl fun a ha => ?_
    refine pZ ?_
    refine hK6 _ _ ?_
    first | refine cDec ha (by rfl) (fun hc56 => ?_) (fun hc56 => ?_) | refine cSplit ha (by rfl) (fun hc56 => ?_) (fun hc56 => ?_)
    · refine wp_seq_k fun K7 hK7 => ?_
      refine wp_region_lit ?_
      refine pY ha (yAssign (by rfl)) rfl fun a ha => ?_
      refine pY ha (yAssign (by rfl)) rfl fun a ha => ?_
      refine pZ ?_
      refine hK7 _ _ ?_
      refine wp_ret ?_
      show bodyPost Tryd.prog Tryd.f68 _ .ret _ _
      refine ret2 rfl ha (by rfl) (by rfl) ?_
      refine ⟨?_, hs⟩
      first
        | (rw [point_ascii hc16]; rfl)
        | (rw [point_none (by omega)]; rfl)
        | (rw [point_short hld (by rw [hlen]; omega)]; rfl)
        | (rw [if_pos hc93] at hpt; rw [hpt]; rfl)
        | (rw [if_neg hc93] at hpt; rw [hpt])
        | (rw [if_neg (by omega)] at h3; rw [← h3] at hpt; rw [hpt]; rfl)
    · have hpt := point_cont (t := s.data.toList.drop (i0 + 1)) hld (by rw [hlen]; omega)
      refine wp_skip ?_
      refine hK5 _ _ ?_
      refine wp_seq_k fun K8 hK8 => ?_
      refine wp_seq_k fun K9 hK9 => ?_
      refine wp_region_lit ?_
      refine pY ha (yAssign (by rfl)) rfl fun a ha => ?_
      refine pZ ?_
      refine hK9 _ _ ?_
      refine wp_block ?_
      refine loopI (ι := Nat × Nat) (fun i a w => i.1 ≤ z ∧ ((i.1 = 1 ∧ i.2 < 32) ∨ (i.1 = 2 ∧ i.2 < 2048) ∨ (i.1 = 3 ∧ i.2 < 131072) ∨ (i.1 = 4 ∧ i.2 < 8388608)) ∧ cont (s.data.toList.drop (i0 + i.1)) (z - i.1) i.2 = cont (s.data.toList.drop (i0 + 1)) (z - 1) c ∧ Has a 96 [(0, .string s), (1, .int .i64 i0), (7, .int .i64 z), (8, .int .i64 i.2), (9, .int .i64 m), (10, .int .i64 i.1)] ∧ Sep W w cs) (fun i => 4 - i.1) ((1, c)) ?_ ?_
      · exact ⟨by simp only; omega, .inl ⟨rfl, by simp only; omega⟩, rfl, has6 ha (by rfl) (by rfl) (by rfl) (by rfl) (by rfl) (by rfl), hs⟩
      · rintro i a w ⟨h1, h2, h3, ha, hs⟩
        obtain ⟨j, p⟩ := i; simp only at h1 h2 h3 ha hs
        refine wp_seq_k fun K10 hK10 => ?_
        refine wp_seq_k fun K11 hK11 => ?_
        refine wp_region_lit ?_
        refine pY ha (yMove (by rfl)) rfl fun a ha => ?_
        refine pY ha (yMove (by rfl)) rfl fun a ha => ?_
        refine pY ha (yLss (by rfl) (by rfl)) rfl fun a ha => ?_
        refine pZ ?_
        refine hK11 _ _ ?_
        first | refine cDec ha (by rfl) (fun hc59 => ?_) (fun hc59 => ?_) | refine cSplit ha (by rfl) (fun hc59 => ?_) (fun hc59 => ?_)
        · obtain ⟨x, hx, _⟩ := list_at s (i := i0 + j) (by omega)
          have hxl := x.toNat_lt
          obtain ⟨k, hk⟩ : ∃ k, z - j = k + 1 := ⟨z - j - 1, by omega⟩
          rw [hk] at h3
          have h3 := cont_step hx h3
          obtain rfl : k = z - (j + 1) := by omega
          refine wp_skip ?_
          refine hK10 _ _ ?_
          refine wp_seq_k fun K12 hK12 => ?_
          refine wp_block ?_
          refine wp_seq_k fun K13 hK13 => ?_
          refine wp_region_lit ?_
          refine pY ha (yMove (by rfl)) rfl fun a ha => ?_
          refine pY ha (yMove (by rfl)) rfl fun a ha => ?_
          refine pY ha (yMove (by rfl)) rfl fun a ha => ?_
          first | refine pY ha (yAddN (by rfl) (by rfl) ⟨by omega, by omega⟩) rfl fun a ha => ?_ | refine pY ha (yAdd (by rfl) (by rfl)) rfl fun a ha => ?_
          refine pY ha (yIndexSb Tryd.runUnderlying9 (by rfl) (by rfl) (by omega) hx) rfl fun a ha => ?_
          first | refine pY ha (yConvI64 (fun w => ⟨_, Tryd.runUnderlying5 w⟩) Tryd.runUnderlying3 (by rfl) ⟨by omega, by omega⟩) rfl fun a ha => ?_ | refine pY ha (yConvInt (fun w => ⟨_, Tryd.runUnderlying5 w⟩) Tryd.runUnderlying3 (by rfl)) rfl fun a ha => ?_
          refine pY ha (yAssign (by rfl)) rfl fun a ha => ?_
          refine pZ ?_
          refine hK13 _ _ ?_
          refine wp_seq_k fun K14 hK14 => ?_
          refine wp_seq_k fun K15 hK15 => ?_
          refine wp_region_lit ?_
          refine pY ha (yMove (by rfl)) rfl fun a ha => ?_
          refine pY ha (yLss (by rfl) (by rfl)) rfl fun a ha => ?_
          refine pY ha (yMove (by rfl)) rfl fun a ha => ?_
          refine gDec (t := 70) ha (by rfl) (fun hg2 hp2 => ?_) (fun hg2 hp2 => ?_)
          · rw [hg2] at ha
            refine gOn ha rfl rfl (by rfl) ?_
            refine pY ha (yMove (by rfl)) rfl fun a ha => ?_
            refine gOn ha rfl rfl (by rfl) ?_
            refine pY ha (yGtr (by rfl) (by rfl)) rfl fun a ha => ?_
            first | refine pY ha (yPickT (by rfl) (by rfl)) rfl fun a ha => ?_ | refine pY ha (yPickF (by rfl) (by rfl)) rfl fun a ha => ?_ | refine pY ha (yPick (by rfl) (by rfl) (by rfl)) rfl fun a ha => ?_
            refine pZ ?_
            refine hK15 _ _ ?_
            first | refine cNDec ha (by rfl) (fun hc73 => ?_) (fun hc73 => ?_) | refine cDec ha (by rfl) (fun hc73 => ?_) (fun hc73 => ?_) | refine cSplit ha (by rfl) (fun hc73 => ?_) (fun hc73 => ?_)
            · refine wp_seq_k fun K16 hK16 => ?_
              refine wp_region_lit ?_
              refine pY ha (yAssign (by rfl)) rfl fun a ha => ?_
              refine pY ha (yAssign (by rfl)) rfl fun a ha => ?_
              refine pZ ?_
              refine hK16 _ _ ?_
              refine wp_ret ?_
              show bodyPost Tryd.prog Tryd.f68 _ .ret _ _
              refine ret2 rfl ha (by rfl) (by rfl) ?_
              refine ⟨?_, hs⟩
              first
                | (rw [point_ascii hc16]; rfl)
                | (rw [point_none (by omega)]; rfl)
                | (rw [point_short hld (by rw [hlen]; omega)]; rfl)
                | (rw [if_pos hc93] at hpt; rw [hpt]; rfl)
                | (rw [if_neg hc93] at hpt; rw [hpt])
                | (rw [if_neg (by omega)] at h3; rw [← h3] at hpt; rw [hpt]; rfl)
            · refine wp_skip ?_
              refine hK14 _ _ ?_
              refine wp_region_lit ?_
              refine pY ha (yMove (by rfl)) rfl fun a ha => ?_
              refine pY ha (yShlC (q := 64) (by rfl) (by rfl) (by decide) (by decide) (by decide) ⟨by omega, by omega⟩) rfl fun a ha => ?_
              refine pY ha (yMove (by rfl)) rfl fun a ha => ?_
              refine pY ha (yAndM (q := 64) 6 (by rfl) (by rfl) (by decide) (by decide) (by decide) (by omega) (by simp only [roomy]; omega)) rfl fun a ha => ?_
              first | refine pY ha (yOrJ (q := 128) 7 (by rfl) (by rfl) (by decide) (by omega) (by omega) (by simp only [roomy]; omega) (by omega) (by omega) (by simp only [roomy]; omega)) rfl fun a ha => ?_ | refine pY ha (yOrJ' (q := 128) 7 (by rfl) (by rfl) (by decide) (by omega) (by omega) (by simp only [roomy]; omega) (by omega) (by omega) (by simp only [roomy]; omega)) rfl fun a ha => ?_ | refine pY ha (yOrJ (q := 64) 6 (by rfl) (by rfl) (by decide) (by omega) (by omega) (by simp only [roomy]; omega) (by omega) (by omega) (by simp only [roomy]; omega)) rfl fun a ha => ?_ | refine pY ha (yOrJ' (q := 64) 6 (by rfl) (by rfl) (by decide) (by omega) (by omega) (by simp only [roomy]; omega) (by omega) (by omega) (by simp only [roomy]; omega)) rfl fun a ha => ?_
              refine pY ha (yAssign (by rfl)) rfl fun a ha => ?_
              refine pZ ?_
              refine hK12 _ _ ?_
              refine wp_region_lit ?_
              refine pY ha (yMove (by rfl)) rfl fun a ha => ?_
              first | refine pY ha (yAddN (by rfl) (by rfl) ⟨by omega, by omega⟩) rfl fun a ha => ?_ | refine pY ha (yAdd (by rfl) (by rfl)) rfl fun a ha => ?_
              refine pY ha (yAssign (by rfl)) rfl fun a ha => ?_
              refine pZ ?_
              refine ⟨(j + 1, p * 64 + x.toNat % 64), ⟨by simp only; omega, by simp only; omega, ?_, has6 ha (by rfl) (by rfl) (by rfl) (by rfl) (by rfl) (by rfl), hs⟩, by simp only; omega⟩
              rw [← h3, if_pos (by omega)]
              rfl
          · rw [hg2] at ha
            refine gOff ha rfl rfl (by rfl) rfl rfl fun a ha => ?_
            refine gOff ha rfl rfl (by rfl) rfl rfl fun a ha => ?_
            first | refine pY ha (yPickT (by rfl) (by rfl)) rfl fun a ha => ?_ | refine pY ha (yPickF (by rfl) (by rfl)) rfl fun a ha => ?_ | refine pY ha (yPick (by rfl) (by rfl) (by rfl)) rfl fun a ha => ?_
            refine pZ ?_
            refine hK15 _ _ ?_
            refine cTrue ha (by rfl) ?_
            refine wp_seq_k fun K17 hK17 => ?_
            refine wp_region_lit ?_
            refine pY ha (yAssign (by rfl)) rfl fun a ha => ?_
            refine pY ha (yAssign (by rfl)) rfl fun a ha => ?_
            refine pZ ?_
            refine hK17 _ _ ?_
            refine wp_ret ?_
            show bodyPost Tryd.prog Tryd.f68 _ .ret _ _
            refine ret2 rfl ha (by rfl) (by rfl) ?_
            refine ⟨?_, hs⟩
            first
              | (rw [point_ascii hc16]; rfl)
              | (rw [point_none (by omega)]; rfl)
              | (rw [point_short hld (by rw [hlen]; omega)]; rfl)
              | (rw [if_pos hc93] at hpt; rw [hpt]; rfl)
              | (rw [if_neg hc93] at hpt; rw [hpt])
              | (rw [if_neg (by omega)] at h3; rw [← h3] at hpt; rw [hpt]; rfl)
        · refine wp_exit ?_
          refine hK8 _ _ ?_
          refine wp_seq_k fun K18 hK18 => ?_
          refine wp_seq_k fun K19 hK19 => ?_
          obtain rfl : j = z := by omega
          rw [Nat.sub_self, cont_zero] at h3
          rw [← h3] at hpt
          simp only at hpt
          refine cutC (fun a w => Has a 96 [(93, .bool (decide (p < m ∨ (55296 ≤ p ∧ p < 57344) ∨ 1114111 < p))), (7, .int .i64 j), (8, .int .i64 p)] ∧ Sep W w cs) ?_ ?_
          · refine wp_region_lit ?_
            refine pY ha (yMove (by rfl)) rfl fun a ha => ?_
            refine pY ha (yMove (by rfl)) rfl fun a ha => ?_
            refine pY ha (yLss (by rfl) (by rfl)) rfl fun a ha => ?_
            refine pY ha (yMove (by rfl)) rfl fun a ha => ?_
            refine gDec (t := 82) ha (by rfl) (fun hg3 hp3 => ?_) (fun hg3 hp3 => ?_)
            · rw [hg3] at ha
              refine gOn ha rfl rfl (by rfl) ?_
              refine pY ha (yMove (by rfl)) rfl fun a ha => ?_
              refine gOn ha rfl rfl (by rfl) ?_
              refine pY ha (yGeq (by rfl) (by rfl)) rfl fun a ha => ?_
              refine gOn ha rfl rfl (by rfl) ?_
              refine pY ha (yMove (by rfl)) rfl fun a ha => ?_
              refine gDec (t := 85) ha (by rfl) (fun hg6 hp6 => ?_) (fun hg6 hp6 => ?_)
              · rw [hg6] at ha
                refine gOff ha rfl rfl (by rfl) rfl rfl fun a ha => ?_
                refine gOff ha rfl rfl (by rfl) rfl rfl fun a ha => ?_
                refine gOn ha rfl rfl (by rfl) ?_
                first | refine pY ha (yPickT (by rfl) (by rfl)) rfl fun a ha => ?_ | refine pY ha (yPickF (by rfl) (by rfl)) rfl fun a ha => ?_ | refine pY ha (yPick (by rfl) (by rfl) (by rfl)) rfl fun a ha => ?_
                first | refine pY ha (yPickT (by rfl) (by rfl)) rfl fun a ha => ?_ | refine pY ha (yPickF (by rfl) (by rfl)) rfl fun a ha => ?_ | refine pY ha (yPick (by rfl) (by rfl) (by rfl)) rfl fun a ha => ?_
                refine pY ha (yMove (by rfl)) rfl fun a ha => ?_
                refine gOn ha rfl rfl (by rfl) ?_
                refine pY ha (yMove (by rfl)) rfl fun a ha => ?_
                refine gOn ha rfl rfl (by rfl) ?_
                refine pY ha (yGtr (by rfl) (by rfl)) rfl fun a ha => ?_
                first | refine pY ha (yPickT (by rfl) (by rfl)) rfl fun a ha => ?_ | refine pY ha (yPickF (by rfl) (by rfl)) rfl fun a ha => ?_ | refine pY ha (yPick (by rfl) (by rfl) (by rfl)) rfl fun a ha => ?_
                refine pZ ⟨rfl, ?_⟩
                first | exact ⟨has3 ha (bT (by first | omega | (have := of_decide_eq_false hg11; omega))) (by rfl) (by rfl), hs⟩ | exact ⟨has3 ha (bY (by first | omega | (have := of_decide_eq_true hg11; omega))) (by rfl) (by rfl), hs⟩ | exact ⟨has3 ha (bF (by omega)) (by rfl) (by rfl), hs⟩
              · rw [hg6] at ha
                refine gOn ha rfl rfl (by rfl) ?_
                refine pY ha (yMove (by rfl)) rfl fun a ha => ?_
                refine gOn ha rfl rfl (by rfl) ?_
                refine pY ha (yLss (by rfl) (by rfl)) rfl fun a ha => ?_
                refine gOn ha rfl rfl (by rfl) ?_
                first | refine pY ha (yPickT (by rfl) (by rfl)) rfl fun a ha => ?_ | refine pY ha (yPickF (by rfl) (by rfl)) rfl fun a ha => ?_ | refine pY ha (yPick (by rfl) (by rfl) (by rfl)) rfl fun a ha => ?_
                first | refine pY ha (yPickT (by rfl) (by rfl)) rfl fun a ha => ?_ | refine pY ha (yPickF (by rfl) (by rfl)) rfl fun a ha => ?_ | refine pY ha (yPick (by rfl) (by rfl) (by rfl)) rfl fun a ha => ?_
                refine pY ha (yMove (by rfl)) rfl fun a ha => ?_
                refine gSplit (t := 90) ha (by rfl) (fun hg11 => ?_) (fun hg11 => ?_)
                · rw [hg11] at ha
                  refine gOn ha rfl rfl (by rfl) ?_
                  refine pY ha (yMove (by rfl)) rfl fun a ha => ?_
                  refine gOn ha rfl rfl (by rfl) ?_
                  refine pY ha (yGtr (by rfl) (by rfl)) rfl fun a ha => ?_
                  first | refine pY ha (yPickT (by rfl) (by rfl)) rfl fun a ha => ?_ | refine pY ha (yPickF (by rfl) (by rfl)) rfl fun a ha => ?_ | refine pY ha (yPick (by rfl) (by rfl) (by rfl)) rfl fun a ha => ?_
                  refine pZ ⟨rfl, ?_⟩
                  first | exact ⟨has3 ha (bT (by first | omega | (have := of_decide_eq_false hg11; omega))) (by rfl) (by rfl), hs⟩ | exact ⟨has3 ha (bY (by first | omega | (have := of_decide_eq_true hg11; omega))) (by rfl) (by rfl), hs⟩ | exact ⟨has3 ha (bF (by omega)) (by rfl) (by rfl), hs⟩
                · rw [hg11] at ha
                  refine gOff ha rfl rfl (by rfl) rfl rfl fun a ha => ?_
                  refine gOff ha rfl rfl (by rfl) rfl rfl fun a ha => ?_
                  first | refine pY ha (yPickT (by rfl) (by rfl)) rfl fun a ha => ?_ | refine pY ha (yPickF (by rfl) (by rfl)) rfl fun a ha => ?_ | refine pY ha (yPick (by rfl) (by rfl) (by rfl)) rfl fun a ha => ?_
                  refine pZ ⟨rfl, ?_⟩
                  first | exact ⟨has3 ha (bT (by first | omega | (have := of_decide_eq_false hg11; omega))) (by rfl) (by rfl), hs⟩ | exact ⟨has3 ha (bY (by first | omega | (have := of_decide_eq_true hg11; omega))) (by rfl) (by rfl), hs⟩ | exact ⟨has3 ha (bF (by omega)) (by rfl) (by rfl), hs⟩
            · rw [hg3] at ha
              refine gOff ha rfl rfl (by rfl) rfl rfl fun a ha => ?_
              refine gOff ha rfl rfl (by rfl) rfl rfl fun a ha => ?_
              refine gOff ha rfl rfl (by rfl) rfl rfl fun a ha => ?_
              refine gOffU ha rfl rfl (by rfl) rfl fun a ha => ?_
              refine gOffU ha rfl rfl (by rfl) rfl fun a ha => ?_
              refine gOff ha rfl rfl (by rfl) rfl rfl fun a ha => ?_
              first | refine pY ha (yPickT (by rfl) (by rfl)) rfl fun a ha => ?_ | refine pY ha (yPickF (by rfl) (by rfl)) rfl fun a ha => ?_ | refine pY ha (yPick (by rfl) (by rfl) (by rfl)) rfl fun a ha => ?_
              refine pY ha (yMove (by rfl)) rfl fun a ha => ?_
              refine gOff ha rfl rfl (by rfl) rfl rfl fun a ha => ?_
              refine gOff ha rfl rfl (by rfl) rfl rfl fun a ha => ?_
              first | refine pY ha (yPickT (by rfl) (by rfl)) rfl fun a ha => ?_ | refine pY ha (yPickF (by rfl) (by rfl)) rfl fun a ha => ?_ | refine pY ha (yPick (by rfl) (by rfl) (by rfl)) rfl fun a ha => ?_
              refine pZ ⟨rfl, ?_⟩
              first | exact ⟨has3 ha (bT (by first | omega | (have := of_decide_eq_false hg11; omega))) (by rfl) (by rfl), hs⟩ | exact ⟨has3 ha (bY (by first | omega | (have := of_decide_eq_true hg11; omega))) (by rfl) (by rfl), hs⟩ | exact ⟨has3 ha (bF (by omega)) (by rfl) (by rfl), hs⟩
          rintro a w ⟨ha, hs⟩
          refine hK19 _ _ ?_
          first | refine cDec ha (by rfl) (fun hc93 => ?_) (fun hc93 => ?_) | refine cSplit ha (by rfl) (fun hc93 => ?_) (fun hc93 => ?_)
          · refine wp_seq_k fun K20 hK20 => ?_
            refine wp_region_lit ?_
            refine pY ha (yAssign (by rfl)) rfl fun a ha => ?_
            refine pY ha (yAssign (by rfl)) rfl fun a ha => ?_
            refine pZ ?_
            refine hK20 _ _ ?_
            refine wp_ret ?_
            show bodyPost Tryd.prog Tryd.f68 _ .ret _ _
            refine ret2 rfl ha (by rfl) (by rfl) ?_
            refine ⟨?_, hs⟩
            first
              | (rw [point_ascii hc16]; rfl)
              | (rw [point_none (by omega)]; rfl)
              | (rw [point_short hld (by rw [hlen]; omega)]; rfl)
              | (rw [if_pos hc93] at hpt; rw [hpt]; rfl)
              | (rw [if_neg hc93] at hpt; rw [hpt])
              | (rw [if_neg (by omega)] at h3; rw [← h3] at hpt; rw [hpt]; rfl)
          · refine wp_skip ?_
            refine hK18 _ _ ?_
            refine wp_seq_k fun K21 hK21 => ?_
            refine wp_region_lit ?_
            refine pY ha (yMove (by rfl)) rfl fun a ha => ?_
            refine pY ha (yMove (by rfl)) rfl fun a ha => ?_
            refine pY ha (yAssign (by rfl)) rfl fun a ha => ?_
            refine pY ha (yAssign (by rfl)) rfl fun a ha => ?_
            refine pZ ?_
            refine hK21 _ _ ?_
            refine wp_ret ?_
            show bodyPost Tryd.prog Tryd.f68 _ .ret _ _
            refine ret2 rfl ha (by rfl) (by rfl) ?_
            refine ⟨?_, hs⟩
            first
              | (rw [point_ascii hc16]; rfl)
              | (rw [point_none (by omega)]; rfl)
              | (rw [point_short hld (by rw [hlen]; omega)]; rfl)
              | (rw [if_pos hc93] at hpt; rw [hpt]; rfl)
              | (rw [if_neg hc93] at hpt; rw [hpt])
              | (rw [if_neg (by omega)] at h3; rw [← h3] at hpt; rw [hpt]; rfl)
  refine wp_block ?_
  refine wp_seq_k fun K22 hK22 => ?_
  refine cutC (fun a w => Has a 96 [(16, .bool (decide (1 ≤ b0.toNat ∧ b0.toNat < 128))), (0, .string s), (1, .int .i64 i0), (6, .int .i64 b0.toNat)] ∧ Sep W w cs) ?_ ?_
  · refine wp_region_lit ?_
    refine pY ha (yMove (by rfl)) rfl fun a ha => ?_
    refine pY ha (yGeq (by rfl) (by rfl)) rfl fun a ha => ?_
    refine pY ha (yMove (by rfl)) rfl fun a ha => ?_
    refine gDec (t := 19) ha (by rfl) (fun hg2 hp2 => ?_) (fun hg2 hp2 => ?_)
    · rw [hg2] at ha
      refine gOff ha rfl rfl (by rfl) rfl rfl fun a ha => ?_
      refine gOff ha rfl rfl (by rfl) rfl rfl fun a ha => ?_
      first | refine pY ha (yPickT (by rfl) (by rfl)) rfl fun a ha => ?_ | refine pY ha (yPickF (by rfl) (by rfl)) rfl fun a ha => ?_ | refine pY ha (yPick (by rfl) (by rfl) (by rfl)) rfl fun a ha => ?_
      refine pY ha (yAssign (by rfl)) rfl fun a ha => ?_
      refine pZ ⟨rfl, ?_⟩
      first | exact ⟨has4 ha (bT (by omega)) (by rfl) (by rfl) (by rfl), hs⟩ | exact ⟨has4 ha (bF (by omega)) (by rfl) (by rfl) (by rfl), hs⟩
    · rw [hg2] at ha
      refine gOn ha rfl rfl (by rfl) ?_
      refine pY ha (yMove (by rfl)) rfl fun a ha => ?_
      refine gOn ha rfl rfl (by rfl) ?_
      refine pY ha (yLss (by rfl) (by rfl)) rfl fun a ha => ?_
      first | refine pY ha (yPickT (by rfl) (by rfl)) rfl fun a ha => ?_ | refine pY ha (yPickF (by rfl) (by rfl)) rfl fun a ha => ?_ | refine pY ha (yPick (by rfl) (by rfl) (by rfl)) rfl fun a ha => ?_
      refine pY ha (yAssign (by rfl)) rfl fun a ha => ?_
      refine pZ ⟨rfl, ?_⟩
      first | exact ⟨has4 ha (bT (by omega)) (by rfl) (by rfl) (by rfl), hs⟩ | exact ⟨has4 ha (bF (by omega)) (by rfl) (by rfl) (by rfl), hs⟩
  rintro a w ⟨ha, hs⟩
  refine hK22 _ _ ?_
  first | refine cDec ha (by rfl) (fun hc16 => ?_) (fun hc16 => ?_) | refine cSplit ha (by rfl) (fun hc16 => ?_) (fun hc16 => ?_)
  · refine wp_seq_k fun K23 hK23 => ?_
    refine wp_region_lit ?_
    refine pY ha (yMove (by rfl)) rfl fun a ha => ?_
    refine pY ha (yAssign (by rfl)) rfl fun a ha => ?_
    refine pY ha (yAssign (by rfl)) rfl fun a ha => ?_
    refine pZ ?_
    refine hK23 _ _ ?_
    refine wp_ret ?_
    show bodyPost Tryd.prog Tryd.f68 _ .ret _ _
    refine ret2 rfl ha (by rfl) (by rfl) ?_
    refine ⟨?_, hs⟩
    first
      | (rw [point_ascii hc16]; rfl)
      | (rw [point_none (by omega)]; rfl)
      | (rw [point_short hld (by rw [hlen]; omega)]; rfl)
      | (rw [if_pos hc93] at hpt; rw [hpt]; rfl)
      | (rw [if_neg hc93] at hpt; rw [hpt])
      | (rw [if_neg (by omega)] at h3; rw [← h3] at hpt; rw [hpt]; rfl)
  · refine wp_seq_k fun K24 hK24 => ?_
    refine cutC (fun a w => Has a 96 [(24, .bool (decide (194 ≤ b0.toNat ∧ b0.toNat < 224))), (0, .string s), (1, .int .i64 i0), (6, .int .i64 b0.toNat)] ∧ Sep W w cs) ?_ ?_
    · refine wp_region_lit ?_
      refine pY ha (yMove (by rfl)) rfl fun a ha => ?_
      refine pY ha (yGeq (by rfl) (by rfl)) rfl fun a ha => ?_
      refine pY ha (yMove (by rfl)) rfl fun a ha => ?_
      refine gDec (t := 27) ha (by rfl) (fun hg2 hp2 => ?_) (fun hg2 hp2 => ?_)
      · rw [hg2] at ha
        refine gOff ha rfl rfl (by rfl) rfl rfl fun a ha => ?_
        refine gOff ha rfl rfl (by rfl) rfl rfl fun a ha => ?_
        first | refine pY ha (yPickT (by rfl) (by rfl)) rfl fun a ha => ?_ | refine pY ha (yPickF (by rfl) (by rfl)) rfl fun a ha => ?_ | refine pY ha (yPick (by rfl) (by rfl) (by rfl)) rfl fun a ha => ?_
        refine pY ha (yAssign (by rfl)) rfl fun a ha => ?_
        refine pZ ⟨rfl, ?_⟩
        first | exact ⟨has4 ha (bT (by omega)) (by rfl) (by rfl) (by rfl), hs⟩ | exact ⟨has4 ha (bF (by omega)) (by rfl) (by rfl) (by rfl), hs⟩
      · rw [hg2] at ha
        refine gOn ha rfl rfl (by rfl) ?_
        refine pY ha (yMove (by rfl)) rfl fun a ha => ?_
        refine gOn ha rfl rfl (by rfl) ?_
        refine pY ha (yLss (by rfl) (by rfl)) rfl fun a ha => ?_
        first | refine pY ha (yPickT (by rfl) (by rfl)) rfl fun a ha => ?_ | refine pY ha (yPickF (by rfl) (by rfl)) rfl fun a ha => ?_ | refine pY ha (yPick (by rfl) (by rfl) (by rfl)) rfl fun a ha => ?_
        refine pY ha (yAssign (by rfl)) rfl fun a ha => ?_
        refine pZ ⟨rfl, ?_⟩
        first | exact ⟨has4 ha (bT (by omega)) (by rfl) (by rfl) (by rfl), hs⟩ | exact ⟨has4 ha (bF (by omega)) (by rfl) (by rfl) (by rfl), hs⟩
    rintro a w ⟨ha, hs⟩
    refine hK24 _ _ ?_
    first | refine cDec ha (by rfl) (fun hc24 => ?_) (fun hc24 => ?_) | refine cSplit ha (by rfl) (fun hc24 => ?_) (fun hc24 => ?_)
    · refine wp_region_lit ?_
      refine pY ha (yMove (by rfl)) rfl fun a ha => ?_
      refine pY ha (yAndM (q := 32) 5 (by rfl) (by rfl) (by decide) (by decide) (by decide) (by omega) (by simp only [roomy]; omega)) rfl fun a ha => ?_
      refine pY ha (yAssign (by rfl)) rfl fun a ha => ?_
      refine pY ha (yAssign (by rfl)) rfl fun a ha => ?_
      refine pY ha (yAssign (by rfl)) rfl fun a ha => ?_
      refine pZ ?_
      refine hJ4 _ _ ?_
      first
        | exact ⟨2, b0.toNat % 32, 128, by unfold lead; omega, has5 ha (by rfl) (by rfl) (by rfl) (by rfl) (by rfl), hs⟩
        | exact ⟨3, b0.toNat % 16, 2048, by unfold lead; omega, has5 ha (by rfl) (by rfl) (by rfl) (by rfl) (by rfl), hs⟩
        | exact ⟨4, b0.toNat % 8, 65536, by unfold lead; omega, has5 ha (by rfl) (by rfl) (by rfl) (by rfl) (by rfl), hs⟩
    · refine wp_seq_k fun K25 hK25 => ?_
      refine cutC (fun a w => Has a 96 [(33, .bool (decide (224 ≤ b0.toNat ∧ b0.toNat < 240))), (0, .string s), (1, .int .i64 i0), (6, .int .i64 b0.toNat)] ∧ Sep W w cs) ?_ ?_
      · refine wp_region_lit ?_
        refine pY ha (yMove (by rfl)) rfl fun a ha => ?_
        refine pY ha (yGeq (by rfl) (by rfl)) rfl fun a ha => ?_
        refine pY ha (yMove (by rfl)) rfl fun a ha => ?_
        refine gDec (t := 36) ha (by rfl) (fun hg2 hp2 => ?_) (fun hg2 hp2 => ?_)
        · rw [hg2] at ha
          refine gOff ha rfl rfl (by rfl) rfl rfl fun a ha => ?_
          refine gOff ha rfl rfl (by rfl) rfl rfl fun a ha => ?_
          first | refine pY ha (yPickT (by rfl) (by rfl)) rfl fun a ha => ?_ | refine pY ha (yPickF (by rfl) (by rfl)) rfl fun a ha => ?_ | refine pY ha (yPick (by rfl) (by rfl) (by rfl)) rfl fun a ha => ?_
          refine pY ha (yAssign (by rfl)) rfl fun a ha => ?_
          refine pZ ⟨rfl, ?_⟩
          first | exact ⟨has4 ha (bT (by omega)) (by rfl) (by rfl) (by rfl), hs⟩ | exact ⟨has4 ha (bF (by omega)) (by rfl) (by rfl) (by rfl), hs⟩
        · rw [hg2] at ha
          refine gOn ha rfl rfl (by rfl) ?_
          refine pY ha (yMove (by rfl)) rfl fun a ha => ?_
          refine gOn ha rfl rfl (by rfl) ?_
          refine pY ha (yLss (by rfl) (by rfl)) rfl fun a ha => ?_
          first | refine pY ha (yPickT (by rfl) (by rfl)) rfl fun a ha => ?_ | refine pY ha (yPickF (by rfl) (by rfl)) rfl fun a ha => ?_ | refine pY ha (yPick (by rfl) (by rfl) (by rfl)) rfl fun a ha => ?_
          refine pY ha (yAssign (by rfl)) rfl fun a ha => ?_
          refine pZ ⟨rfl, ?_⟩
          first | exact ⟨has4 ha (bT (by omega)) (by rfl) (by rfl) (by rfl), hs⟩ | exact ⟨has4 ha (bF (by omega)) (by rfl) (by rfl) (by rfl), hs⟩
      rintro a w ⟨ha, hs⟩
      refine hK25 _ _ ?_
      first | refine cDec ha (by rfl) (fun hc33 => ?_) (fun hc33 => ?_) | refine cSplit ha (by rfl) (fun hc33 => ?_) (fun hc33 => ?_)
      · refine wp_region_lit ?_
        refine pY ha (yMove (by rfl)) rfl fun a ha => ?_
        refine pY ha (yAndM (q := 16) 4 (by rfl) (by rfl) (by decide) (by decide) (by decide) (by omega) (by simp only [roomy]; omega)) rfl fun a ha => ?_
        refine pY ha (yAssign (by rfl)) rfl fun a ha => ?_
        refine pY ha (yAssign (by rfl)) rfl fun a ha => ?_
        refine pY ha (yAssign (by rfl)) rfl fun a ha => ?_
        refine pZ ?_
        refine hJ4 _ _ ?_
        first
          | exact ⟨2, b0.toNat % 32, 128, by unfold lead; omega, has5 ha (by rfl) (by rfl) (by rfl) (by rfl) (by rfl), hs⟩
          | exact ⟨3, b0.toNat % 16, 2048, by unfold lead; omega, has5 ha (by rfl) (by rfl) (by rfl) (by rfl) (by rfl), hs⟩
          | exact ⟨4, b0.toNat % 8, 65536, by unfold lead; omega, has5 ha (by rfl) (by rfl) (by rfl) (by rfl) (by rfl), hs⟩
      · refine wp_seq_k fun K26 hK26 => ?_
        refine cutC (fun a w => Has a 96 [(42, .bool (decide (240 ≤ b0.toNat ∧ b0.toNat < 245))), (0, .string s), (1, .int .i64 i0), (6, .int .i64 b0.toNat)] ∧ Sep W w cs) ?_ ?_
        · refine wp_region_lit ?_
          refine pY ha (yMove (by rfl)) rfl fun a ha => ?_
          refine pY ha (yGeq (by rfl) (by rfl)) rfl fun a ha => ?_
          refine pY ha (yMove (by rfl)) rfl fun a ha => ?_
          refine gDec (t := 45) ha (by rfl) (fun hg2 hp2 => ?_) (fun hg2 hp2 => ?_)
          · rw [hg2] at ha
            refine gOff ha rfl rfl (by rfl) rfl rfl fun a ha => ?_
            refine gOff ha rfl rfl (by rfl) rfl rfl fun a ha => ?_
            first | refine pY ha (yPickT (by rfl) (by rfl)) rfl fun a ha => ?_ | refine pY ha (yPickF (by rfl) (by rfl)) rfl fun a ha => ?_ | refine pY ha (yPick (by rfl) (by rfl) (by rfl)) rfl fun a ha => ?_
            refine pY ha (yAssign (by rfl)) rfl fun a ha => ?_
            refine pZ ⟨rfl, ?_⟩
            first | exact ⟨has4 ha (bT (by omega)) (by rfl) (by rfl) (by rfl), hs⟩ | exact ⟨has4 ha (bF (by omega)) (by rfl) (by rfl) (by rfl), hs⟩
          · rw [hg2] at ha
            refine gOn ha rfl rfl (by rfl) ?_
            refine pY ha (yMove (by rfl)) rfl fun a ha => ?_
            refine gOn ha rfl rfl (by rfl) ?_
            refine pY ha (yLss (by rfl) (by rfl)) rfl fun a ha => ?_
            first | refine pY ha (yPickT (by rfl) (by rfl)) rfl fun a ha => ?_ | refine pY ha (yPickF (by rfl) (by rfl)) rfl fun a ha => ?_ | refine pY ha (yPick (by rfl) (by rfl) (by rfl)) rfl fun a ha => ?_
            refine pY ha (yAssign (by rfl)) rfl fun a ha => ?_
            refine pZ ⟨rfl, ?_⟩
            first | exact ⟨has4 ha (bT (by omega)) (by rfl) (by rfl) (by rfl), hs⟩ | exact ⟨has4 ha (bF (by omega)) (by rfl) (by rfl) (by rfl), hs⟩
        rintro a w ⟨ha, hs⟩
        refine hK26 _ _ ?_
        first | refine cDec ha (by rfl) (fun hc42 => ?_) (fun hc42 => ?_) | refine cSplit ha (by rfl) (fun hc42 => ?_) (fun hc42 => ?_)
        · refine wp_region_lit ?_
          refine pY ha (yMove (by rfl)) rfl fun a ha => ?_
          refine pY ha (yAndM (q := 8) 3 (by rfl) (by rfl) (by decide) (by decide) (by decide) (by omega) (by simp only [roomy]; omega)) rfl fun a ha => ?_
          refine pY ha (yAssign (by rfl)) rfl fun a ha => ?_
          refine pY ha (yAssign (by rfl)) rfl fun a ha => ?_
          refine pY ha (yAssign (by rfl)) rfl fun a ha => ?_
          refine pZ ?_
          refine hJ4 _ _ ?_
          first
            | exact ⟨2, b0.toNat % 32, 128, by unfold lead; omega, has5 ha (by rfl) (by rfl) (by rfl) (by rfl) (by rfl), hs⟩
            | exact ⟨3, b0.toNat % 16, 2048, by unfold lead; omega, has5 ha (by rfl) (by rfl) (by rfl) (by rfl) (by rfl), hs⟩
            | exact ⟨4, b0.toNat % 8, 65536, by unfold lead; omega, has5 ha (by rfl) (by rfl) (by rfl) (by rfl) (by rfl), hs⟩
        · refine wp_seq_k fun K27 hK27 => ?_
          refine wp_region_lit ?_
          refine pY ha (yAssign (by rfl)) rfl fun a ha => ?_
          refine pY ha (yAssign (by rfl)) rfl fun a ha => ?_
          refine pZ ?_
          refine hK27 _ _ ?_
          refine wp_ret ?_
          show bodyPost Tryd.prog Tryd.f68 _ .ret _ _
          refine ret2 rfl ha (by rfl) (by rfl) ?_
          refine ⟨?_, hs⟩
          first
            | (rw [point_ascii hc16]; rfl)
            | (rw [point_none (by omega)]; rfl)
            | (rw [point_short hld (by rw [hlen]; omega)]; rfl)
            | (rw [if_pos hc93] at hpt; rw [hpt]; rfl)
            | (rw [if_neg hc93] at hpt; rw [hpt])
            | (rw [if_neg (by omega)] at h3; rw [← h3] at hpt; rw [hpt]; rfl)
theorem points_step {n : Nat} {l : List UInt8} (h : l ≠ []) : pointsL (n + 1) l = if (pointL l).2 = 0 then none else (pointsL n (l.drop (pointL l).2)).map ((pointL l).1 :: ·) := by
  rw [pointsL, if_neg h]
theorem points_nil : ∀ n, pointsL n [] = some []
  | 0 => rfl
  | n + 1 => by rw [pointsL, if_pos rfl]
theorem points_fuel : ∀ (n m : Nat) (l : List UInt8), l.length ≤ n → l.length ≤ m → pointsL n l = pointsL m l
  | 0, m, l, h, _ => by
    obtain rfl : l = [] := List.eq_nil_of_length_eq_zero (by omega)
    rw [points_nil, points_nil]
  | n + 1, 0, l, _, h => by
    obtain rfl : l = [] := List.eq_nil_of_length_eq_zero (by omega)
    rw [points_nil, points_nil]
  | n + 1, m + 1, l, h, h' => by
    by_cases hl : l = []
    · subst hl; rw [points_nil, points_nil]
    · rw [points_step hl, points_step hl]
      split
      · rfl
      · rw [points_fuel n m _ (by rw [List.length_drop]; have := List.length_pos_iff.2 hl; omega) (by rw [List.length_drop]; have := List.length_pos_iff.2 hl; omega)]
theorem points_len : ∀ (n : Nat) (l : List UInt8) (ps : List Nat), pointsL n l = some ps → ps.length ≤ n
  | 0, l, ps, h => by simp only [pointsL, Option.some.injEq] at h; subst h; simp
  | n + 1, l, ps, h => by
    by_cases hl : l = []
    · subst hl; rw [points_nil] at h; simp only [Option.some.injEq] at h; subst h; simp
    · rw [points_step hl] at h
      split at h
      · simp at h
      · simp only [Option.map_eq_some_iff] at h
        obtain ⟨qs, hq, rfl⟩ := h
        have := points_len n _ qs hq
        simp; omega
/-- The points of a text. -/
def ptsOf (s : ByteArray) : Option (List Int) := (pointsL s.size s.data.toList).map (·.map Int.ofNat)
theorem Points_c (s : ByteArray) (hsz : s.size ≤ 140737488355328 / 8) (hs : Sep W w cs) :
    Calls P 65 #[.string s] w (Rt fun v w' => match ptsOf s with
      | none => v = .tuple #[.slice none 0 0, .bool false] ∧ Sep W w' cs
      | some ps => ∃ A c, v = .tuple #[.slice A ps.length c, .bool true] ∧ Sep W w' (.ol kInt 3 (.slice A ps.length c) ps :: cs)) := by
  refine enter Tryd.func65 Tryd.ntmps65 rfl rfl fun a (ha : Has a 28 [(0, _)]) => ?_
  refine wp_seq_k fun K1 hK1 => ?_
  refine wp_region_lit ?_
  refine pY ha (yAssign (by rfl)) rfl fun a ha => ?_
  refine pY ha (yAssign (by rfl)) rfl fun a ha => ?_
  refine pZ ?_
  refine hK1 _ _ ?_
  refine wp_seq_k fun K2 hK2 => ?_
  refine wp_region_lit ?_
  refine pY ha (yAssign (by rfl)) rfl fun a ha => ?_
  refine pZ ?_
  refine hK2 _ _ ?_
  refine wp_seq_k fun K3 hK3 => ?_
  refine wp_seq_k fun K4 hK4 => ?_
  refine wp_region_lit ?_
  refine pY ha (yAssign (by rfl)) rfl fun a ha => ?_
  refine pZ ?_
  refine hK4 _ _ ?_
  refine wp_block ?_
  refine loopI (ι := Nat × List Nat × Option Addr × Nat) (fun i a w => i.1 ≤ s.size ∧ i.2.1.length ≤ i.1 ∧ pointsL s.size s.data.toList = (pointsL (s.size - i.1) (s.data.toList.drop i.1)).map (i.2.1 ++ ·) ∧ Has a 28 [(0, .string s), (5, .int .i64 i.1), (4, .slice i.2.2.1 i.2.1.length i.2.2.2)] ∧ Sep W w (.ol kInt 3 (.slice i.2.2.1 i.2.1.length i.2.2.2) (i.2.1.map Int.ofNat) :: cs)) (fun i => s.size - i.1) ((0, [], none, 0)) ?_ ?_
  · exact ⟨Nat.zero_le _, Nat.le_refl _, by simp, has3 ha (by rfl) (by rfl) (by rfl), hs.ol_nil kInt _ none⟩
  · rintro i a w ⟨h1, h2, h3, ha, hs⟩
    obtain ⟨i, ps, A, c⟩ := i; simp only at h1 h2 h3 ha hs
    refine wp_seq_k fun K5 hK5 => ?_
    refine wp_seq_k fun K6 hK6 => ?_
    refine wp_region_lit ?_
    refine pY ha (yMove (by rfl)) rfl fun a ha => ?_
    refine pY ha (yMove (by rfl)) rfl fun a ha => ?_
    refine pY ha (yLenStr Tryd.runUnderlying9 (by rfl)) rfl fun a ha => ?_
    refine pY ha (yLss (by rfl) (by rfl)) rfl fun a ha => ?_
    refine pZ ?_
    refine hK6 _ _ ?_
    first | refine cDec ha (by rfl) (fun hc11 => ?_) (fun hc11 => ?_) | refine cSplit ha (by rfl) (fun hc11 => ?_) (fun hc11 => ?_)
    · have hll : s.data.toList.length = s.size := by simp
      have hne : s.data.toList.drop i ≠ [] := by intro e; have := congrArg List.length e; rw [List.length_drop] at this; simp at this; omega
      have hf := pointL_fst (s.data.toList.drop i)
      have hw := pointL_width hne
      rw [List.length_drop] at hw
      refine wp_skip ?_
      refine hK5 _ _ ?_
      refine wp_block ?_
      refine wp_seq_k fun K7 hK7 => ?_
      refine wp_region_lit ?_
      refine pY ha (yMove (by rfl)) rfl fun a ha => ?_
      refine pY ha (yMove (by rfl)) rfl fun a ha => ?_
      refine pC ha (nCall Tryd.call68 (by rfl)) rfl (Point_c s i (by omega) (by omega) hs) ?_
      rintro v w ⟨rfl, hs⟩ a ha
      refine pY ha (yMove (by rfl)) rfl fun a ha => ?_
      refine pY ha (yExtract (by rfl) (by rfl)) rfl fun a ha => ?_
      refine pY ha (yExtract (by rfl) (by rfl)) rfl fun a ha => ?_
      refine pY ha (yAssign (by rfl)) rfl fun a ha => ?_
      refine pY ha (yAssign (by rfl)) rfl fun a ha => ?_
      refine pZ ?_
      refine hK7 _ _ ?_
      refine wp_seq_k fun K8 hK8 => ?_
      refine wp_seq_k fun K9 hK9 => ?_
      refine wp_region_lit ?_
      refine pY ha (yMove (by rfl)) rfl fun a ha => ?_
      refine pY ha (yEql (by rfl) (by rfl)) rfl fun a ha => ?_
      refine pZ ?_
      refine hK9 _ _ ?_
      first | refine cDec ha (by rfl) (fun hc19 => ?_) (fun hc19 => ?_) | refine cSplit ha (by rfl) (fun hc19 => ?_) (fun hc19 => ?_)
      · refine wp_seq_k fun K10 hK10 => ?_
        refine wp_region_lit ?_
        refine pY ha (yAssign (by rfl)) rfl fun a ha => ?_
        refine pY ha (yAssign (by rfl)) rfl fun a ha => ?_
        refine pZ ?_
        refine hK10 _ _ ?_
        refine wp_ret ?_
        show bodyPost Tryd.prog Tryd.f65 _ .ret _ _
        refine ret2 rfl ha (by rfl) (by rfl) ?_
        obtain ⟨k, hk⟩ : ∃ k, s.size - i = k + 1 := ⟨s.size - i - 1, by omega⟩
        rw [hk, points_step hne, if_pos (by omega)] at h3
        unfold ptsOf
        rw [h3]
        exact ⟨rfl, hs.drop⟩
      · refine wp_skip ?_
        refine hK8 _ _ ?_
        refine wp_seq_k fun K11 hK11 => ?_
        refine wp_region_lit ?_
        refine pY ha (yMove (by rfl)) rfl fun a ha => ?_
        refine pY ha (yMove (by rfl)) rfl fun a ha => ?_
        refine pMake ha (bslTxt31_1_0 (by rfl)) hs rfl fun b w hs a ha => ?_
        first | refine pApp1 ha elTxt31 (by rfl) (by rfl) hs (by repeat first | exact .here | apply Pick.there) (by repeat first | exact .here | apply Pick.there) (by repeat first | exact .here | apply Pick.there) (by rfl) (by first | omega | (unfold maxLen; omega) | (simp [maxLen]; done) | (simp [maxLen]; omega)) (by first | omega | (unfold maxLen; omega) | (simp [maxLen]; done) | (simp [maxLen]; omega)) rfl fun A c w hs a ha => ?_ | refine pAppRd ha elTxt31 (by rfl) (by rfl) hs (by repeat first | exact .here | apply Pick.there) (by repeat first | exact .here | apply Pick.there) (by rfl) (by first | omega | (unfold maxLen; omega) | (simp [maxLen]; done) | (simp [maxLen]; omega)) (by first | omega | (unfold maxLen; omega) | (simp [maxLen]; done) | (simp [maxLen]; omega)) rfl fun A c w hs a ha => ?_ | refine pApp1F ha elTxt31 (by rfl) (by rfl) hs (by repeat first | exact .here | apply Pick.there) (by repeat first | exact .here | apply Pick.there) (by intro Z; first | rfl | exact ⟨rfl, by omega, by omega⟩) (by rfl) (by first | omega | (unfold maxLen; omega) | (simp [maxLen]; done) | (simp [maxLen]; omega)) (by first | omega | (unfold maxLen; omega) | (simp [maxLen]; done) | (simp [maxLen]; omega)) rfl fun A c w hs a ha => ?_
        refine pY ha (yAssign (by rfl)) rfl fun a ha => ?_
        refine pZ ?_
        refine hK11 _ _ ?_
        refine wp_region_lit ?_
        refine pY ha (yMove (by rfl)) rfl fun a ha => ?_
        refine pY ha (yMove (by rfl)) rfl fun a ha => ?_
        first | refine pY ha (yAddN (by rfl) (by rfl) ⟨by omega, by omega⟩) rfl fun a ha => ?_ | refine pY ha (yAdd (by rfl) (by rfl)) rfl fun a ha => ?_
        refine pY ha (yAssign (by rfl)) rfl fun a ha => ?_
        refine pZ ?_
        refine ⟨(i + (pointL (s.data.toList.drop i)).2, ps ++ [(pointL (s.data.toList.drop i)).1], A, c), ⟨by simp only; omega, by simp; omega, ?_, has3 ha (by rfl) (by rfl) (by simp only [List.length_append, List.length_map]; rfl), by simpa using hs⟩, by simp only; omega⟩
        obtain ⟨k, hk⟩ : ∃ k, s.size - i = k + 1 := ⟨s.size - i - 1, by omega⟩
        rw [h3, hk, points_step hne, if_neg (by omega), List.drop_drop, Option.map_map]
        rw [points_fuel k (s.size - (i + (pointL (s.data.toList.drop i)).2)) _ (by rw [List.length_drop]; omega) (by rw [List.length_drop]; omega)]
        congr 1
        funext x; simp
    · refine wp_exit ?_
      refine hK3 _ _ ?_
      refine wp_seq_k fun K12 hK12 => ?_
      refine wp_region_lit ?_
      refine pY ha (yMove (by rfl)) rfl fun a ha => ?_
      refine pY ha (yAssign (by rfl)) rfl fun a ha => ?_
      refine pY ha (yAssign (by rfl)) rfl fun a ha => ?_
      refine pZ ?_
      refine hK12 _ _ ?_
      refine wp_ret ?_
      show bodyPost Tryd.prog Tryd.f65 _ .ret _ _
      refine ret2 rfl ha (by rfl) (by rfl) ?_
      obtain rfl : i = s.size := by omega
      rw [List.drop_eq_nil_of_le (by simp), points_nil] at h3
      unfold ptsOf
      rw [h3]
      exact ⟨A, c, by simp, by simpa using hs⟩
theorem Points_b (s : ByteArray) (hsz : s.size ≤ 140737488355328 / 8) (hs : Sep W w cs) :
    Calls P 65 #[.string s] w (Rt fun v w' => ∃ V, v = .tuple #[V, .bool (ptsOf s).isSome] ∧ Sep W w' cs) :=
  (Points_c s hsz hs).mono fun e w' h => by
    cases e with
    | returned v =>
      change (match ptsOf s with | none => _ | some ps => _) at h
      show ∃ V, _
      cases hp : ptsOf s with
      | none => rw [hp] at h; exact ⟨_, h.1, h.2⟩
      | some ps =>
        rw [hp] at h
        obtain ⟨A, c, rfl, h⟩ := h
        exact ⟨_, rfl, h.drop⟩
    | _ => exact h
theorem RValid_c (s : ByteArray) (hsz : s.size ≤ 140737488355328 / 8) (hs : Sep W w cs) :
    Calls P 56 #[.string s] w (Rt fun v w' => v = .bool (okText s.data.toList) ∧ Sep W w' cs) := by
  have hp : (ptsOf s).isSome = okText s.data.toList := by
    unfold ptsOf
    rw [Option.isSome_map]
    exact points_ok _ _ (by simp)
  refine enter Tryd.func56 Tryd.ntmps56 rfl rfl fun a (ha : Has a 11 [(0, _)]) => ?_
  refine wp_seq_k fun K1 hK1 => ?_
  refine wp_region_lit ?_
  refine pY ha (yAssign (by rfl)) rfl fun a ha => ?_
  refine pZ ?_
  refine hK1 _ _ ?_
  refine wp_seq_k fun K2 hK2 => ?_
  refine wp_region_lit ?_
  refine pY ha (yMove (by rfl)) rfl fun a ha => ?_
  refine pC ha (nCall Tryd.call65 (by rfl)) rfl (Points_b s hsz hs) ?_
  rintro v w ⟨V, rfl, hs⟩ a ha
  refine pY ha (yMove (by rfl)) rfl fun a ha => ?_
  refine pY ha (yExtract (by rfl) (by rfl)) rfl fun a ha => ?_
  refine pY ha (yExtract (by rfl) (by rfl)) rfl fun a ha => ?_
  refine pY ha (yAssign (by rfl)) rfl fun a ha => ?_
  refine pY ha (yAssign (by rfl)) rfl fun a ha => ?_
  refine pZ ?_
  refine hK2 _ _ ?_
  refine wp_seq_k fun K3 hK3 => ?_
  refine wp_region_lit ?_
  refine pY ha (yMove (by rfl)) rfl fun a ha => ?_
  refine pY ha (yAssign (by rfl)) rfl fun a ha => ?_
  refine pZ ?_
  refine hK3 _ _ ?_
  refine wp_ret ?_
  show bodyPost Tryd.prog Tryd.f56 _ .ret _ _
  refine ret1 rfl ha (by rfl) ?_
  rw [hp]; exact ⟨rfl, hs⟩
end
end Go.Proofs.YtnkcmpmcmkljnaaDoor
