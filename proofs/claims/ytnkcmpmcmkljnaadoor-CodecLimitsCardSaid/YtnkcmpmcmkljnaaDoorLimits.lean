/- CodecLimits: the walk. -/
import Derived.Test.YtnkcmpmcmkljnaaDoorLimB
set_option linter.unusedVariables false
set_option linter.unusedSimpArgs false
namespace Go.Proofs.YtnkcmpmcmkljnaaDoor
open Go.RowKit Go.Lib
theorem bslLimits25_0_ {w : World} {l : List (Nat × Value)} {T : TypeId} : Mk Tryd.prog w l (.buildSlice 25 0 #[]) T 5 0 [] := mk0 Tryd.runUnderlying25 Tryd.sizeOf5
theorem elLimits25 : ElemT Tryd.prog 25 5 1 1 := elemT_mk Tryd.underlying25 rfl (by kernel_rfl)
theorem blockL_len (n : Nat) (k : Int) : (blockL n k).length = n := by simp [blockL]
theorem lim_wr (n : Nat) (h : n ≤ 1099511627776) : wText (([] : List UInt8), false) ⟨(blockL n 1).toArray⟩ = (put n ++ blockL n 1, false) := by
  simp only [wText, size_mk, blockL_len, block_ok]
  rw [wNum_ok h]
  simp
theorem lim_text (n m : Nat) (h : n ≤ 1099511627776) : rText m (put n ++ blockL n 1, 0) = if m < n then (⟨#[]⟩, (blockL n 1, 3)) else (⟨(blockL n 1).toArray⟩, ([], 0)) := by
  have hq := rNum_put h (blockL n 1)
  have hl := blockL_len n 1
  have ht : (blockL n 1).take n = blockL n 1 := List.take_of_length_le (by omega)
  split
  · rw [rText_3 hq (by omega) (by rw [ht]; exact block_ok _ _) (by omega)]
  · rw [rText_4 hq (by omega) (by rw [ht]; exact block_ok _ _) (by omega), ht, List.drop_eq_nil_of_le (by omega)]
theorem lim_err {α : Type} (f : St → α × St) (hf : ∀ st : St, st.2 ≠ 0 → (f st).2 = st) (h0 : (f ([], 0)).2 = ([], 2)) (most : Nat) (n : Nat) (hn : n ≤ 1099511627776) (l : List UInt8) :
    (n ≤ most ∨ (rAll f most (put n ++ l, 0)).2.2 = 3) ∧ (n = 0 ∨ 0 < l.length ∨ (rAll f most (put n ++ l, 0)).2.2 ≠ 0) := by
  have hq := rNum_put hn l
  by_cases hm : n ≤ most
  · refine ⟨.inl hm, ?_⟩
    by_cases h1 : n = 0
    · exact .inl h1
    · by_cases h2 : 0 < l.length
      · exact .inr (.inl h2)
      · obtain rfl : l = [] := List.eq_nil_of_length_eq_zero (by omega)
        refine .inr (.inr ?_)
        have hM : rMany most (put n ++ [], 0) = ((n : Int), ([], 0)) := by
          simp only [rMany, hq]; rw [if_neg (by omega)]
        rw [rAll_at (m := n) (by rw [hM]) (by rw [hM])]
        obtain ⟨k, rfl⟩ : ∃ k, n = k + 1 := ⟨n - 1, by omega⟩
        have h3 : (rList f (k + 1) ([], 0)).2 = ([], 2) := by
          simp only [rList, h0]
          exact rList_err hf k _ (by simp)
        rw [h3, if_neg (by decide)]
        simp
  · have hM : rMany most (put n ++ l, 0) = (0, (l, 3)) := by
      simp only [rMany, hq]; rw [if_pos (by omega)]; rfl
    have h4 : rAll f most (put n ++ l, 0) = ([], (l, 3)) := by
      rw [rAll_at (m := 0) (by rw [hM]; rfl) (by rw [hM])]; rfl
    rw [h4]
    exact ⟨.inr rfl, .inr (.inr (by simp))⟩
theorem rNum_nil : rNum (([] : List UInt8), 0) = (0, ([], 2)) := by simp [rNum, getN, getR]
theorem lim_comps (n : Nat) (hn : n ≤ 1099511627776) (l : List UInt8) : (n ≤ 100 ∨ (rComps (put n ++ l, 0)).2.2 = 3) ∧ (n = 0 ∨ 0 < l.length ∨ (rComps (put n ++ l, 0)).2.2 ≠ 0) :=
  lim_err rComp (fun st h => rComp_err h) (by simp [rComp, rNum_nil, rNum_err, rText_err]) 100 n hn l
theorem lim_actns (n : Nat) (hn : n ≤ 1099511627776) (l : List UInt8) : (n ≤ 20 ∨ (rActns (put n ++ l, 0)).2.2 = 3) ∧ (n = 0 ∨ 0 < l.length ∨ (rActns (put n ++ l, 0)).2.2 ≠ 0) :=
  lim_err rActn (fun st h => rActn_err h) (by simp [rActn, rNum_nil, rNum_err, rText_err, rFlag_err, rComps, rAll_err]) 20 n hn l
theorem lim_nods (n : Nat) (hn : n ≤ 1099511627776) (l : List UInt8) : (n ≤ 100 ∨ (rNods (put n ++ l, 0)).2.2 = 3) ∧ (n = 0 ∨ 0 < l.length ∨ (rNods (put n ++ l, 0)).2.2 ≠ 0) :=
  lim_err rNod (fun st h => rNod_err h) (by simp [rNod, rNum_nil, rNum_err, rText_err, rFlag_err]) 100 n hn l
section
variable {W w : World} {cs r : List Ch}
set_option maxHeartbeats 1000000 in
theorem CodecLimits_c (hT : Tabs W) {A : Option Addr} {n c : Nat} {tl : List UInt8} (x y z : Int) (hs : Sep W w cs) (hk : Pick cs (.rd kU8 (.slice A n c) tl) r) :
    Calls P 5 #[.int .i64 x, .int .i64 y, .int .i64 z, .slice A n c] w (Rt fun v w' => v = .bool true ∧ Sep W w' cs) := by
  obtain ⟨rfl, hl⟩ := hs.rd_shape hk
  unfold maxLen at hl
  have hs := hs.cpR hk
  refine enter Tryd.func5 Tryd.ntmps5 rfl rfl fun a (ha : Has a 178 [(0, _), (1, _), (2, _), (3, _)]) => ?_
  refine wp_seq_k fun K1 hK1 => ?_
  refine wp_region_lit ?_
  refine pY ha (yAssign (by rfl)) rfl fun a ha => ?_
  refine pZ ?_
  refine hK1 _ _ ?_
  refine wp_seq_k fun K2 hK2 => ?_
  refine wp_seq_k fun K3 hK3 => ?_
  refine cutC (fun a w => Has a 178 [(45, .bool (decide (x < 0 ∨ 300 < x ∨ y < 0 ∨ 400 < y ∨ z < 0 ∨ 300 < z ∨ 100 < tl.length))), (0, .int .i64 x), (1, .int .i64 y), (2, .int .i64 z), (3, .slice A tl.length c)] ∧ Sep W w (.rd kU8 (.slice A tl.length c) tl :: cs)) ?_ ?_
  · refine wp_region_lit ?_
    refine pY ha (yMove (by rfl)) rfl fun a ha => ?_
    refine pY ha (yLss (by rfl) (by rfl)) rfl fun a ha => ?_
    refine pY ha (yMove (by rfl)) rfl fun a ha => ?_
    refine gDec (t := 21) ha (by rfl) (fun hg2 hp2 => ?_) (fun hg2 hp2 => ?_)
    · rw [hg2] at ha
      refine gOn ha rfl rfl (by rfl) ?_
      refine pY ha (yMove (by rfl)) rfl fun a ha => ?_
      refine gOn ha rfl rfl (by rfl) ?_
      refine pY ha (yGtr (by rfl) (by rfl)) rfl fun a ha => ?_
      first | refine pY ha (yPickT (by rfl) (by rfl)) rfl fun a ha => ?_ | refine pY ha (yPickF (by rfl) (by rfl)) rfl fun a ha => ?_ | refine pY ha (yPick (by rfl) (by rfl) (by rfl)) rfl fun a ha => ?_
      refine pY ha (yMove (by rfl)) rfl fun a ha => ?_
      refine gSplit (t := 25) ha (by rfl) (fun hg6 => ?_) (fun hg6 => ?_)
      · rw [hg6] at ha
        refine gOn ha rfl rfl (by rfl) ?_
        refine pY ha (yMove (by rfl)) rfl fun a ha => ?_
        refine gOn ha rfl rfl (by rfl) ?_
        refine pY ha (yLss (by rfl) (by rfl)) rfl fun a ha => ?_
        first | refine pY ha (yPickT (by rfl) (by rfl)) rfl fun a ha => ?_ | refine pY ha (yPickF (by rfl) (by rfl)) rfl fun a ha => ?_ | refine pY ha (yPick (by rfl) (by rfl) (by rfl)) rfl fun a ha => ?_
        refine pY ha (yMove (by rfl)) rfl fun a ha => ?_
        refine gSplit (t := 29) ha (by rfl) (fun hg10 => ?_) (fun hg10 => ?_)
        · rw [hg10] at ha
          refine gOn ha rfl rfl (by rfl) ?_
          refine pY ha (yMove (by rfl)) rfl fun a ha => ?_
          refine gOn ha rfl rfl (by rfl) ?_
          refine pY ha (yGtr (by rfl) (by rfl)) rfl fun a ha => ?_
          first | refine pY ha (yPickT (by rfl) (by rfl)) rfl fun a ha => ?_ | refine pY ha (yPickF (by rfl) (by rfl)) rfl fun a ha => ?_ | refine pY ha (yPick (by rfl) (by rfl) (by rfl)) rfl fun a ha => ?_
          refine pY ha (yMove (by rfl)) rfl fun a ha => ?_
          refine gSplit (t := 33) ha (by rfl) (fun hg14 => ?_) (fun hg14 => ?_)
          · rw [hg14] at ha
            refine gOn ha rfl rfl (by rfl) ?_
            refine pY ha (yMove (by rfl)) rfl fun a ha => ?_
            refine gOn ha rfl rfl (by rfl) ?_
            refine pY ha (yLss (by rfl) (by rfl)) rfl fun a ha => ?_
            first | refine pY ha (yPickT (by rfl) (by rfl)) rfl fun a ha => ?_ | refine pY ha (yPickF (by rfl) (by rfl)) rfl fun a ha => ?_ | refine pY ha (yPick (by rfl) (by rfl) (by rfl)) rfl fun a ha => ?_
            refine pY ha (yMove (by rfl)) rfl fun a ha => ?_
            refine gSplit (t := 37) ha (by rfl) (fun hg18 => ?_) (fun hg18 => ?_)
            · rw [hg18] at ha
              refine gOn ha rfl rfl (by rfl) ?_
              refine pY ha (yMove (by rfl)) rfl fun a ha => ?_
              refine gOn ha rfl rfl (by rfl) ?_
              refine pY ha (yGtr (by rfl) (by rfl)) rfl fun a ha => ?_
              first | refine pY ha (yPickT (by rfl) (by rfl)) rfl fun a ha => ?_ | refine pY ha (yPickF (by rfl) (by rfl)) rfl fun a ha => ?_ | refine pY ha (yPick (by rfl) (by rfl) (by rfl)) rfl fun a ha => ?_
              refine pY ha (yMove (by rfl)) rfl fun a ha => ?_
              refine gSplit (t := 41) ha (by rfl) (fun hg22 => ?_) (fun hg22 => ?_)
              · rw [hg22] at ha
                refine gOn ha rfl rfl (by rfl) ?_
                refine pY ha (yMove (by rfl)) rfl fun a ha => ?_
                refine gOn ha rfl rfl (by rfl) ?_
                refine pY ha (yLenS Tryd.runUnderlying25 (by rfl)) rfl fun a ha => ?_
                refine gOn ha rfl rfl (by rfl) ?_
                refine pY ha (yGtr (by rfl) (by rfl)) rfl fun a ha => ?_
                first | refine pY ha (yPickT (by rfl) (by rfl)) rfl fun a ha => ?_ | refine pY ha (yPickF (by rfl) (by rfl)) rfl fun a ha => ?_ | refine pY ha (yPick (by rfl) (by rfl) (by rfl)) rfl fun a ha => ?_
                refine pZ ⟨rfl, ?_⟩
                first
                  | exact ⟨has5 ha (bT (by have q6 := of_decide_eq_false hg6; have q10 := of_decide_eq_false hg10; have q14 := of_decide_eq_false hg14; have q18 := of_decide_eq_false hg18; have q22 := of_decide_eq_false hg22; omega)) (by rfl) (by rfl) (by rfl) (by rfl), hs⟩
                  | exact ⟨has5 ha (bY (by first | omega | (have q := of_decide_eq_true hg22; omega) | (have q := of_decide_eq_true hg18; omega) | (have q := of_decide_eq_true hg14; omega) | (have q := of_decide_eq_true hg10; omega) | (have q := of_decide_eq_true hg6; omega))) (by rfl) (by rfl) (by rfl) (by rfl), hs⟩
              · rw [hg22] at ha
                refine gOff ha rfl rfl (by rfl) rfl rfl fun a ha => ?_
                refine gOff ha rfl rfl (by rfl) rfl rfl fun a ha => ?_
                refine gOff ha rfl rfl (by rfl) rfl rfl fun a ha => ?_
                first | refine pY ha (yPickT (by rfl) (by rfl)) rfl fun a ha => ?_ | refine pY ha (yPickF (by rfl) (by rfl)) rfl fun a ha => ?_ | refine pY ha (yPick (by rfl) (by rfl) (by rfl)) rfl fun a ha => ?_
                refine pZ ⟨rfl, ?_⟩
                first
                  | exact ⟨has5 ha (bT (by have q6 := of_decide_eq_false hg6; have q10 := of_decide_eq_false hg10; have q14 := of_decide_eq_false hg14; have q18 := of_decide_eq_false hg18; have q22 := of_decide_eq_false hg22; omega)) (by rfl) (by rfl) (by rfl) (by rfl), hs⟩
                  | exact ⟨has5 ha (bY (by first | omega | (have q := of_decide_eq_true hg22; omega) | (have q := of_decide_eq_true hg18; omega) | (have q := of_decide_eq_true hg14; omega) | (have q := of_decide_eq_true hg10; omega) | (have q := of_decide_eq_true hg6; omega))) (by rfl) (by rfl) (by rfl) (by rfl), hs⟩
            · rw [hg18] at ha
              refine gOff ha rfl rfl (by rfl) rfl rfl fun a ha => ?_
              refine gOff ha rfl rfl (by rfl) rfl rfl fun a ha => ?_
              first | refine pY ha (yPickT (by rfl) (by rfl)) rfl fun a ha => ?_ | refine pY ha (yPickF (by rfl) (by rfl)) rfl fun a ha => ?_ | refine pY ha (yPick (by rfl) (by rfl) (by rfl)) rfl fun a ha => ?_
              refine pY ha (yMove (by rfl)) rfl fun a ha => ?_
              refine gOff ha rfl rfl (by rfl) rfl rfl fun a ha => ?_
              refine gOff ha rfl rfl (by rfl) rfl rfl fun a ha => ?_
              refine gOff ha rfl rfl (by rfl) rfl rfl fun a ha => ?_
              first | refine pY ha (yPickT (by rfl) (by rfl)) rfl fun a ha => ?_ | refine pY ha (yPickF (by rfl) (by rfl)) rfl fun a ha => ?_ | refine pY ha (yPick (by rfl) (by rfl) (by rfl)) rfl fun a ha => ?_
              refine pZ ⟨rfl, ?_⟩
              first
                | exact ⟨has5 ha (bT (by have q6 := of_decide_eq_false hg6; have q10 := of_decide_eq_false hg10; have q14 := of_decide_eq_false hg14; have q18 := of_decide_eq_false hg18; have q22 := of_decide_eq_false hg22; omega)) (by rfl) (by rfl) (by rfl) (by rfl), hs⟩
                | exact ⟨has5 ha (bY (by first | omega | (have q := of_decide_eq_true hg22; omega) | (have q := of_decide_eq_true hg18; omega) | (have q := of_decide_eq_true hg14; omega) | (have q := of_decide_eq_true hg10; omega) | (have q := of_decide_eq_true hg6; omega))) (by rfl) (by rfl) (by rfl) (by rfl), hs⟩
          · rw [hg14] at ha
            refine gOff ha rfl rfl (by rfl) rfl rfl fun a ha => ?_
            refine gOff ha rfl rfl (by rfl) rfl rfl fun a ha => ?_
            first | refine pY ha (yPickT (by rfl) (by rfl)) rfl fun a ha => ?_ | refine pY ha (yPickF (by rfl) (by rfl)) rfl fun a ha => ?_ | refine pY ha (yPick (by rfl) (by rfl) (by rfl)) rfl fun a ha => ?_
            refine pY ha (yMove (by rfl)) rfl fun a ha => ?_
            refine gOff ha rfl rfl (by rfl) rfl rfl fun a ha => ?_
            refine gOff ha rfl rfl (by rfl) rfl rfl fun a ha => ?_
            first | refine pY ha (yPickT (by rfl) (by rfl)) rfl fun a ha => ?_ | refine pY ha (yPickF (by rfl) (by rfl)) rfl fun a ha => ?_ | refine pY ha (yPick (by rfl) (by rfl) (by rfl)) rfl fun a ha => ?_
            refine pY ha (yMove (by rfl)) rfl fun a ha => ?_
            refine gOff ha rfl rfl (by rfl) rfl rfl fun a ha => ?_
            refine gOff ha rfl rfl (by rfl) rfl rfl fun a ha => ?_
            refine gOff ha rfl rfl (by rfl) rfl rfl fun a ha => ?_
            first | refine pY ha (yPickT (by rfl) (by rfl)) rfl fun a ha => ?_ | refine pY ha (yPickF (by rfl) (by rfl)) rfl fun a ha => ?_ | refine pY ha (yPick (by rfl) (by rfl) (by rfl)) rfl fun a ha => ?_
            refine pZ ⟨rfl, ?_⟩
            first
              | exact ⟨has5 ha (bT (by have q6 := of_decide_eq_false hg6; have q10 := of_decide_eq_false hg10; have q14 := of_decide_eq_false hg14; have q18 := of_decide_eq_false hg18; have q22 := of_decide_eq_false hg22; omega)) (by rfl) (by rfl) (by rfl) (by rfl), hs⟩
              | exact ⟨has5 ha (bY (by first | omega | (have q := of_decide_eq_true hg22; omega) | (have q := of_decide_eq_true hg18; omega) | (have q := of_decide_eq_true hg14; omega) | (have q := of_decide_eq_true hg10; omega) | (have q := of_decide_eq_true hg6; omega))) (by rfl) (by rfl) (by rfl) (by rfl), hs⟩
        · rw [hg10] at ha
          refine gOff ha rfl rfl (by rfl) rfl rfl fun a ha => ?_
          refine gOff ha rfl rfl (by rfl) rfl rfl fun a ha => ?_
          first | refine pY ha (yPickT (by rfl) (by rfl)) rfl fun a ha => ?_ | refine pY ha (yPickF (by rfl) (by rfl)) rfl fun a ha => ?_ | refine pY ha (yPick (by rfl) (by rfl) (by rfl)) rfl fun a ha => ?_
          refine pY ha (yMove (by rfl)) rfl fun a ha => ?_
          refine gOff ha rfl rfl (by rfl) rfl rfl fun a ha => ?_
          refine gOff ha rfl rfl (by rfl) rfl rfl fun a ha => ?_
          first | refine pY ha (yPickT (by rfl) (by rfl)) rfl fun a ha => ?_ | refine pY ha (yPickF (by rfl) (by rfl)) rfl fun a ha => ?_ | refine pY ha (yPick (by rfl) (by rfl) (by rfl)) rfl fun a ha => ?_
          refine pY ha (yMove (by rfl)) rfl fun a ha => ?_
          refine gOff ha rfl rfl (by rfl) rfl rfl fun a ha => ?_
          refine gOff ha rfl rfl (by rfl) rfl rfl fun a ha => ?_
          first | refine pY ha (yPickT (by rfl) (by rfl)) rfl fun a ha => ?_ | refine pY ha (yPickF (by rfl) (by rfl)) rfl fun a ha => ?_ | refine pY ha (yPick (by rfl) (by rfl) (by rfl)) rfl fun a ha => ?_
          refine pY ha (yMove (by rfl)) rfl fun a ha => ?_
          refine gOff ha rfl rfl (by rfl) rfl rfl fun a ha => ?_
          refine gOff ha rfl rfl (by rfl) rfl rfl fun a ha => ?_
          refine gOff ha rfl rfl (by rfl) rfl rfl fun a ha => ?_
          first | refine pY ha (yPickT (by rfl) (by rfl)) rfl fun a ha => ?_ | refine pY ha (yPickF (by rfl) (by rfl)) rfl fun a ha => ?_ | refine pY ha (yPick (by rfl) (by rfl) (by rfl)) rfl fun a ha => ?_
          refine pZ ⟨rfl, ?_⟩
          first
            | exact ⟨has5 ha (bT (by have q6 := of_decide_eq_false hg6; have q10 := of_decide_eq_false hg10; have q14 := of_decide_eq_false hg14; have q18 := of_decide_eq_false hg18; have q22 := of_decide_eq_false hg22; omega)) (by rfl) (by rfl) (by rfl) (by rfl), hs⟩
            | exact ⟨has5 ha (bY (by first | omega | (have q := of_decide_eq_true hg22; omega) | (have q := of_decide_eq_true hg18; omega) | (have q := of_decide_eq_true hg14; omega) | (have q := of_decide_eq_true hg10; omega) | (have q := of_decide_eq_true hg6; omega))) (by rfl) (by rfl) (by rfl) (by rfl), hs⟩
      · rw [hg6] at ha
        refine gOff ha rfl rfl (by rfl) rfl rfl fun a ha => ?_
        refine gOff ha rfl rfl (by rfl) rfl rfl fun a ha => ?_
        first | refine pY ha (yPickT (by rfl) (by rfl)) rfl fun a ha => ?_ | refine pY ha (yPickF (by rfl) (by rfl)) rfl fun a ha => ?_ | refine pY ha (yPick (by rfl) (by rfl) (by rfl)) rfl fun a ha => ?_
        refine pY ha (yMove (by rfl)) rfl fun a ha => ?_
        refine gOff ha rfl rfl (by rfl) rfl rfl fun a ha => ?_
        refine gOff ha rfl rfl (by rfl) rfl rfl fun a ha => ?_
        first | refine pY ha (yPickT (by rfl) (by rfl)) rfl fun a ha => ?_ | refine pY ha (yPickF (by rfl) (by rfl)) rfl fun a ha => ?_ | refine pY ha (yPick (by rfl) (by rfl) (by rfl)) rfl fun a ha => ?_
        refine pY ha (yMove (by rfl)) rfl fun a ha => ?_
        refine gOff ha rfl rfl (by rfl) rfl rfl fun a ha => ?_
        refine gOff ha rfl rfl (by rfl) rfl rfl fun a ha => ?_
        first | refine pY ha (yPickT (by rfl) (by rfl)) rfl fun a ha => ?_ | refine pY ha (yPickF (by rfl) (by rfl)) rfl fun a ha => ?_ | refine pY ha (yPick (by rfl) (by rfl) (by rfl)) rfl fun a ha => ?_
        refine pY ha (yMove (by rfl)) rfl fun a ha => ?_
        refine gOff ha rfl rfl (by rfl) rfl rfl fun a ha => ?_
        refine gOff ha rfl rfl (by rfl) rfl rfl fun a ha => ?_
        first | refine pY ha (yPickT (by rfl) (by rfl)) rfl fun a ha => ?_ | refine pY ha (yPickF (by rfl) (by rfl)) rfl fun a ha => ?_ | refine pY ha (yPick (by rfl) (by rfl) (by rfl)) rfl fun a ha => ?_
        refine pY ha (yMove (by rfl)) rfl fun a ha => ?_
        refine gOff ha rfl rfl (by rfl) rfl rfl fun a ha => ?_
        refine gOff ha rfl rfl (by rfl) rfl rfl fun a ha => ?_
        refine gOff ha rfl rfl (by rfl) rfl rfl fun a ha => ?_
        first | refine pY ha (yPickT (by rfl) (by rfl)) rfl fun a ha => ?_ | refine pY ha (yPickF (by rfl) (by rfl)) rfl fun a ha => ?_ | refine pY ha (yPick (by rfl) (by rfl) (by rfl)) rfl fun a ha => ?_
        refine pZ ⟨rfl, ?_⟩
        first
          | exact ⟨has5 ha (bT (by have q6 := of_decide_eq_false hg6; have q10 := of_decide_eq_false hg10; have q14 := of_decide_eq_false hg14; have q18 := of_decide_eq_false hg18; have q22 := of_decide_eq_false hg22; omega)) (by rfl) (by rfl) (by rfl) (by rfl), hs⟩
          | exact ⟨has5 ha (bY (by first | omega | (have q := of_decide_eq_true hg22; omega) | (have q := of_decide_eq_true hg18; omega) | (have q := of_decide_eq_true hg14; omega) | (have q := of_decide_eq_true hg10; omega) | (have q := of_decide_eq_true hg6; omega))) (by rfl) (by rfl) (by rfl) (by rfl), hs⟩
    · rw [hg2] at ha
      refine gOff ha rfl rfl (by rfl) rfl rfl fun a ha => ?_
      refine gOff ha rfl rfl (by rfl) rfl rfl fun a ha => ?_
      first | refine pY ha (yPickT (by rfl) (by rfl)) rfl fun a ha => ?_ | refine pY ha (yPickF (by rfl) (by rfl)) rfl fun a ha => ?_ | refine pY ha (yPick (by rfl) (by rfl) (by rfl)) rfl fun a ha => ?_
      refine pY ha (yMove (by rfl)) rfl fun a ha => ?_
      refine gOff ha rfl rfl (by rfl) rfl rfl fun a ha => ?_
      refine gOff ha rfl rfl (by rfl) rfl rfl fun a ha => ?_
      first | refine pY ha (yPickT (by rfl) (by rfl)) rfl fun a ha => ?_ | refine pY ha (yPickF (by rfl) (by rfl)) rfl fun a ha => ?_ | refine pY ha (yPick (by rfl) (by rfl) (by rfl)) rfl fun a ha => ?_
      refine pY ha (yMove (by rfl)) rfl fun a ha => ?_
      refine gOff ha rfl rfl (by rfl) rfl rfl fun a ha => ?_
      refine gOff ha rfl rfl (by rfl) rfl rfl fun a ha => ?_
      first | refine pY ha (yPickT (by rfl) (by rfl)) rfl fun a ha => ?_ | refine pY ha (yPickF (by rfl) (by rfl)) rfl fun a ha => ?_ | refine pY ha (yPick (by rfl) (by rfl) (by rfl)) rfl fun a ha => ?_
      refine pY ha (yMove (by rfl)) rfl fun a ha => ?_
      refine gOff ha rfl rfl (by rfl) rfl rfl fun a ha => ?_
      refine gOff ha rfl rfl (by rfl) rfl rfl fun a ha => ?_
      first | refine pY ha (yPickT (by rfl) (by rfl)) rfl fun a ha => ?_ | refine pY ha (yPickF (by rfl) (by rfl)) rfl fun a ha => ?_ | refine pY ha (yPick (by rfl) (by rfl) (by rfl)) rfl fun a ha => ?_
      refine pY ha (yMove (by rfl)) rfl fun a ha => ?_
      refine gOff ha rfl rfl (by rfl) rfl rfl fun a ha => ?_
      refine gOff ha rfl rfl (by rfl) rfl rfl fun a ha => ?_
      first | refine pY ha (yPickT (by rfl) (by rfl)) rfl fun a ha => ?_ | refine pY ha (yPickF (by rfl) (by rfl)) rfl fun a ha => ?_ | refine pY ha (yPick (by rfl) (by rfl) (by rfl)) rfl fun a ha => ?_
      refine pY ha (yMove (by rfl)) rfl fun a ha => ?_
      refine gOff ha rfl rfl (by rfl) rfl rfl fun a ha => ?_
      refine gOff ha rfl rfl (by rfl) rfl rfl fun a ha => ?_
      refine gOff ha rfl rfl (by rfl) rfl rfl fun a ha => ?_
      first | refine pY ha (yPickT (by rfl) (by rfl)) rfl fun a ha => ?_ | refine pY ha (yPickF (by rfl) (by rfl)) rfl fun a ha => ?_ | refine pY ha (yPick (by rfl) (by rfl) (by rfl)) rfl fun a ha => ?_
      refine pZ ⟨rfl, ?_⟩
      first
        | exact ⟨has5 ha (bT (by have q6 := of_decide_eq_false hg6; have q10 := of_decide_eq_false hg10; have q14 := of_decide_eq_false hg14; have q18 := of_decide_eq_false hg18; have q22 := of_decide_eq_false hg22; omega)) (by rfl) (by rfl) (by rfl) (by rfl), hs⟩
        | exact ⟨has5 ha (bY (by first | omega | (have q := of_decide_eq_true hg22; omega) | (have q := of_decide_eq_true hg18; omega) | (have q := of_decide_eq_true hg14; omega) | (have q := of_decide_eq_true hg10; omega) | (have q := of_decide_eq_true hg6; omega))) (by rfl) (by rfl) (by rfl) (by rfl), hs⟩
  rintro a w ⟨ha, hs⟩
  refine hK3 _ _ ?_
  first | refine cDec ha (by rfl) (fun hc45 => ?_) (fun hc45 => ?_) | refine cSplit ha (by rfl) (fun hc45 => ?_) (fun hc45 => ?_)
  · refine wp_seq_k fun K4 hK4 => ?_
    refine wp_region_lit ?_
    refine pC ha (nCall Tryd.call8 (by rfl)) rfl (awake_c hs) ?_
    rintro v w ⟨rfl, hs⟩ a ha
    refine pY ha (yAssign (by rfl)) rfl fun a ha => ?_
    refine pZ ?_
    refine hK4 _ _ ?_
    refine wp_ret ?_
    show bodyPost Tryd.prog Tryd.f5 _ .ret _ _
    refine ret1 rfl ha (by rfl) ?_
    exact ⟨rfl, hs.drop⟩
  · obtain ⟨sz, rfl⟩ := Int.eq_ofNat_of_zero_le (by omega : 0 ≤ x)
    obtain ⟨mo, rfl⟩ := Int.eq_ofNat_of_zero_le (by omega : 0 ≤ y)
    obtain ⟨ct, rfl⟩ := Int.eq_ofNat_of_zero_le (by omega : 0 ≤ z)
    have hlb := blockL_len sz 1
    have h6 := put_six sz
    have h6c := put_six ct
    refine wp_skip ?_
    refine hK2 _ _ ?_
    refine wp_seq_k fun K5 hK5 => ?_
    refine wp_region_lit ?_
    refine pAlloc (zs := [.slice none 0 0, .bool false]) ha Tryd.zeroValue53 (by rfl) hs rfl fun b w hs a ha => ?_
    have hs := ((hs.ol_nil kU8 5 none).perm (List.Perm.swap _ _ _)).wtr_shut .here .here
    refine pZ ?_
    refine hK5 _ _ ?_
    refine wp_seq_k fun K6 hK6 => ?_
    refine wp_region_lit ?_
    refine pY ha (yMove (by rfl)) rfl fun a ha => ?_
    refine pC ha (nCall Tryd.call33 (by rfl)) rfl (Block_c sz 1 (by omega) (by omega) (by omega) hs) ?_
    rintro v w ⟨rfl, hs⟩ a ha
    refine pC ha (nCall Tryd.call32 (by rfl)) rfl (WrText_c hT _ (by rw [size_mk]; omega) (by rw [lim_wr sz (by omega)]; simp only [List.length_append]; omega) hs .here) ?_
    rintro v w ⟨rfl, hs⟩ a ha
    rw [lim_wr sz (by omega)] at hs
    refine pZ ?_
    refine hK6 _ _ ?_
    refine wp_seq_k fun K7 hK7 => ?_
    refine wp_region_lit ?_
    refine pC ha (nCall Tryd.call11 (by rfl)) rfl (WrDone_c (by simp only [List.length_append]; omega) hs .here) ?_
    rintro v w hv a ha
    rw [if_neg (by simp)] at hv
    obtain ⟨A1, c1, rfl, hs⟩ := hv
    have hs := hs.ol_rd .here
    refine pY ha (yMove (by rfl)) rfl fun a ha => ?_
    refine pY ha (yExtract (by rfl) (by rfl)) rfl fun a ha => ?_
    refine pY ha (yExtract (by rfl) (by rfl)) rfl fun a ha => ?_
    refine pY ha (yAssign (by rfl)) rfl fun a ha => ?_
    refine pY ha (yAssign (by rfl)) rfl fun a ha => ?_
    refine pZ ?_
    refine hK7 _ _ ?_
    refine wp_seq_k fun K8 hK8 => ?_
    refine wp_seq_k fun K9 hK9 => ?_
    refine wp_region_lit ?_
    refine pY ha (yMove (by rfl)) rfl fun a ha => ?_
    refine pY ha (yNot (by rfl)) rfl fun a ha => ?_
    refine pZ ?_
    refine hK9 _ _ ?_
    first | refine cNDec ha (by rfl) (fun hc55 => ?_) (fun hc55 => ?_) | refine cDec ha (by rfl) (fun hc55 => ?_) (fun hc55 => ?_) | refine cSplit ha (by rfl) (fun hc55 => ?_) (fun hc55 => ?_)
    · simp at hc55
    · refine wp_skip ?_
      refine hK8 _ _ ?_
      refine wp_seq_k fun K10 hK10 => ?_
      refine wp_region_lit ?_
      refine pY ha (yMove (by rfl)) rfl fun a ha => ?_
      refine pC ha (nCall Tryd.call13 (by rfl)) rfl (NewReader_c hs .here (by simp only [List.length_append]; omega)) ?_
      rintro v w ⟨q, rfl, hs⟩ a ha
      refine pY ha (yAssign (by rfl)) rfl fun a ha => ?_
      refine pZ ?_
      refine hK10 _ _ ?_
      refine wp_seq_k fun K11 hK11 => ?_
      refine wp_seq_k fun K12 hK12 => ?_
      refine wp_region_lit ?_
      refine pY ha (yMove (by rfl)) rfl fun a ha => ?_
      refine pY ha (yPtrEqlN Tryd.underlying32 (by rfl) (by rfl)) rfl fun a ha => ?_
      refine pZ ?_
      refine hK12 _ _ ?_
      first | refine cNDec ha (by rfl) (fun hc59 => ?_) (fun hc59 => ?_) | refine cDec ha (by rfl) (fun hc59 => ?_) (fun hc59 => ?_) | refine cSplit ha (by rfl) (fun hc59 => ?_) (fun hc59 => ?_)
      · simp at hc59
      · refine wp_skip ?_
        refine hK11 _ _ ?_
        refine wp_seq_k fun K13 hK13 => ?_
        refine wp_region_lit ?_
        refine pY ha (yMove (by rfl)) rfl fun a ha => ?_
        refine pY ha (yMove (by rfl)) rfl fun a ha => ?_
        refine pC ha (nCall Tryd.call17 (by rfl)) rfl (RdText_c hT mo hs .here) ?_
        rintro v w ⟨rfl, hs⟩ a ha
        rw [lim_text sz mo (by omega)] at ha hs
        refine pY ha (yAssign (by rfl)) rfl fun a ha => ?_
        refine pZ ?_
        refine hK13 _ _ ?_
        refine wp_seq_k fun K14 hK14 => ?_
        refine wp_seq_k fun K15 hK15 => ?_
        refine cutC (fun a w => Has a 178 [(95, .bool false), (2, .int .i64 ct), (3, .slice A tl.length c)] ∧ Sep W w (.rd kU8 (.slice A tl.length c) tl :: cs)) ?_ ?_
        · refine wp_region_lit ?_
          refine pY ha (yMove (by rfl)) rfl fun a ha => ?_
          refine pY ha (yMove (by rfl)) rfl fun a ha => ?_
          refine pY ha (yGtr (by rfl) (by rfl)) rfl fun a ha => ?_
          refine pY ha (yMove (by rfl)) rfl fun a ha => ?_
          refine gDec (t := 66) ha (by rfl) (fun hg3 hp3 => ?_) (fun hg3 hp3 => ?_)
          · rw [hg3] at ha
            rw [if_neg (by omega)] at ha hs
            refine gOff ha rfl rfl (by rfl) rfl rfl fun a ha => ?_
            refine gOff ha rfl rfl (by rfl) rfl rfl fun a ha => ?_
            refine gOff ha rfl rfl (by rfl) rfl rfl fun a ha => ?_
            refine gOffU ha rfl rfl (by rfl) rfl fun a ha => ?_
            refine gOffU ha rfl rfl (by rfl) rfl fun a ha => ?_
            refine gOffU ha rfl rfl (by rfl) rfl fun a ha => ?_
            refine gOff ha rfl rfl (by rfl) rfl rfl fun a ha => ?_
            refine gOff ha rfl rfl (by rfl) rfl rfl fun a ha => ?_
            refine gOffU ha rfl rfl (by rfl) rfl fun a ha => ?_
            refine gOffU ha rfl rfl (by rfl) rfl fun a ha => ?_
            refine gOffU ha rfl rfl (by rfl) rfl fun a ha => ?_
            refine gOff ha rfl rfl (by rfl) rfl rfl fun a ha => ?_
            first | refine pY ha (yPickT (by rfl) (by rfl)) rfl fun a ha => ?_ | refine pY ha (yPickF (by rfl) (by rfl)) rfl fun a ha => ?_ | refine pY ha (yPick (by rfl) (by rfl) (by rfl)) rfl fun a ha => ?_
            refine pY ha (yMove (by rfl)) rfl fun a ha => ?_
            refine gOn ha rfl rfl (by rfl) ?_
            refine pY ha (yMove (by rfl)) rfl fun a ha => ?_
            refine gOn ha rfl rfl (by rfl) ?_
            refine pY ha (yMove (by rfl)) rfl fun a ha => ?_
            refine gOn ha rfl rfl (by rfl) ?_
            refine pY ha (yLeq (by rfl) (by rfl)) rfl fun a ha => ?_
            refine gOn ha rfl rfl (by rfl) ?_
            refine pY ha (yMove (by rfl)) rfl fun a ha => ?_
            refine gDec (t := 84) ha (by rfl) (fun hg21 hp21 => ?_) (fun hg21 hp21 => ?_)
            · first
              | (exfalso; omega)
              | (rw [hg21] at ha
                 refine gOff ha rfl rfl (by rfl) rfl rfl fun a ha => ?_
                 refine gOff ha rfl rfl (by rfl) rfl rfl fun a ha => ?_
                 refine gOff ha rfl rfl (by rfl) rfl rfl fun a ha => ?_
                 refine gOff ha rfl rfl (by rfl) rfl rfl fun a ha => ?_
                 refine gOff ha rfl rfl (by rfl) rfl rfl fun a ha => ?_
                 refine gOffU ha rfl rfl (by rfl) rfl fun a ha => ?_
                 refine gOffU ha rfl rfl (by rfl) rfl fun a ha => ?_
                 refine gOffU ha rfl rfl (by rfl) rfl fun a ha => ?_
                 refine gOff ha rfl rfl (by rfl) rfl rfl fun a ha => ?_
                 refine gOn ha rfl rfl (by rfl) ?_
                 first | refine pY ha (yPickT (by rfl) (by rfl)) rfl fun a ha => ?_ | refine pY ha (yPickF (by rfl) (by rfl)) rfl fun a ha => ?_ | refine pY ha (yPick (by rfl) (by rfl) (by rfl)) rfl fun a ha => ?_
                 first | refine pY ha (yPickT (by rfl) (by rfl)) rfl fun a ha => ?_ | refine pY ha (yPickF (by rfl) (by rfl)) rfl fun a ha => ?_ | refine pY ha (yPick (by rfl) (by rfl) (by rfl)) rfl fun a ha => ?_
                 refine pZ ⟨rfl, ?_⟩
                 exact ⟨has3 ha (by first | rfl | exact bF0 (by simp) | simp [lk]) (by rfl) (by rfl), hs.drop.drop⟩)
            · first
              | (exfalso; omega)
              | (rw [hg21] at ha
                 refine gOn ha rfl rfl (by rfl) ?_
                 refine pY ha (yMove (by rfl)) rfl fun a ha => ?_
                 refine gOn ha rfl rfl (by rfl) ?_
                 refine pY ha (yLenStr Tryd.runUnderlying9 (by rfl)) rfl fun a ha => ?_
                 refine gOn ha rfl rfl (by rfl) ?_
                 refine pY ha (yMove (by rfl)) rfl fun a ha => ?_
                 refine gOn ha rfl rfl (by rfl) ?_
                 refine pY ha (yNeq (by rfl) (by rfl)) rfl fun a ha => ?_
                 refine gOn ha rfl rfl (by rfl) ?_
                 refine pY ha (yMove (by rfl)) rfl fun a ha => ?_
                 refine gSplit (t := 89) ha (by rfl) (fun hg26 => ?_) (fun hg26 => ?_)
                 · rw [hg26] at ha
                   refine gOn ha rfl rfl (by rfl) ?_
                   refine pY ha (yMove (by rfl)) rfl fun a ha => ?_
                   refine gOn ha rfl rfl (by rfl) ?_
                   refine pC ha (nCall Tryd.call31 (by rfl)) rfl (ErrK_c hs .here) ?_
                   rintro v w ⟨rfl, hs⟩ a ha
                   refine gOn ha rfl rfl (by rfl) ?_
                   refine pY ha (yNeq (by rfl) (by rfl)) rfl fun a ha => ?_
                   refine gOn ha rfl rfl (by rfl) ?_
                   first | refine pY ha (yPickT (by rfl) (by rfl)) rfl fun a ha => ?_ | refine pY ha (yPickF (by rfl) (by rfl)) rfl fun a ha => ?_ | refine pY ha (yPick (by rfl) (by rfl) (by rfl)) rfl fun a ha => ?_
                   refine gOn ha rfl rfl (by rfl) ?_
                   first | refine pY ha (yPickT (by rfl) (by rfl)) rfl fun a ha => ?_ | refine pY ha (yPickF (by rfl) (by rfl)) rfl fun a ha => ?_ | refine pY ha (yPick (by rfl) (by rfl) (by rfl)) rfl fun a ha => ?_
                   first | refine pY ha (yPickT (by rfl) (by rfl)) rfl fun a ha => ?_ | refine pY ha (yPickF (by rfl) (by rfl)) rfl fun a ha => ?_ | refine pY ha (yPick (by rfl) (by rfl) (by rfl)) rfl fun a ha => ?_
                   refine pZ ⟨rfl, ?_⟩
                   exact ⟨has3 ha (by first | rfl | exact bF0 (by simp) | simp [lk]) (by rfl) (by rfl), hs.drop.drop⟩
                 · simp [size_mk, hlb] at hg26)
          · rw [hg3] at ha
            rw [if_pos (by omega)] at ha hs
            refine gOn ha rfl rfl (by rfl) ?_
            refine pY ha (yMove (by rfl)) rfl fun a ha => ?_
            refine gOn ha rfl rfl (by rfl) ?_
            refine pY ha (yStrNeq (by rfl) (by rfl)) rfl fun a ha => ?_
            refine gOn ha rfl rfl (by rfl) ?_
            refine pY ha (yMove (by rfl)) rfl fun a ha => ?_
            refine gSplit (t := 69) ha (by rfl) (fun hg6 => ?_) (fun hg6 => ?_)
            · rw [hg6] at ha
              refine gOn ha rfl rfl (by rfl) ?_
              refine pY ha (yMove (by rfl)) rfl fun a ha => ?_
              refine gOn ha rfl rfl (by rfl) ?_
              refine pC ha (nCall Tryd.call31 (by rfl)) rfl (ErrK_c hs .here) ?_
              rintro v w ⟨rfl, hs⟩ a ha
              refine gOn ha rfl rfl (by rfl) ?_
              refine pY ha (yNeq (by rfl) (by rfl)) rfl fun a ha => ?_
              refine gOn ha rfl rfl (by rfl) ?_
              first | refine pY ha (yPickT (by rfl) (by rfl)) rfl fun a ha => ?_ | refine pY ha (yPickF (by rfl) (by rfl)) rfl fun a ha => ?_ | refine pY ha (yPick (by rfl) (by rfl) (by rfl)) rfl fun a ha => ?_
              refine gOn ha rfl rfl (by rfl) ?_
              refine pY ha (yMove (by rfl)) rfl fun a ha => ?_
              refine gSplit (t := 74) ha (by rfl) (fun hg11 => ?_) (fun hg11 => ?_)
              · rw [hg11] at ha
                refine gOn ha rfl rfl (by rfl) ?_
                refine pY ha (yMove (by rfl)) rfl fun a ha => ?_
                refine gOn ha rfl rfl (by rfl) ?_
                refine pC ha (nCall Tryd.call30 (by rfl)) rfl (Left_c hs .here) ?_
                rintro v w ⟨rfl, hs⟩ a ha
                refine gOn ha rfl rfl (by rfl) ?_
                refine pY ha (yNeq (by rfl) (by rfl)) rfl fun a ha => ?_
                refine gOn ha rfl rfl (by rfl) ?_
                first | refine pY ha (yPickT (by rfl) (by rfl)) rfl fun a ha => ?_ | refine pY ha (yPickF (by rfl) (by rfl)) rfl fun a ha => ?_ | refine pY ha (yPick (by rfl) (by rfl) (by rfl)) rfl fun a ha => ?_
                first | refine pY ha (yPickT (by rfl) (by rfl)) rfl fun a ha => ?_ | refine pY ha (yPickF (by rfl) (by rfl)) rfl fun a ha => ?_ | refine pY ha (yPick (by rfl) (by rfl) (by rfl)) rfl fun a ha => ?_
                refine pY ha (yMove (by rfl)) rfl fun a ha => ?_
                refine gSplit (t := 80) ha (by rfl) (fun hg17 => ?_) (fun hg17 => ?_)
                · rw [hg17] at ha
                  refine gOn ha rfl rfl (by rfl) ?_
                  refine pY ha (yMove (by rfl)) rfl fun a ha => ?_
                  refine gOn ha rfl rfl (by rfl) ?_
                  refine pY ha (yMove (by rfl)) rfl fun a ha => ?_
                  refine gOn ha rfl rfl (by rfl) ?_
                  refine pY ha (yLeq (by rfl) (by rfl)) rfl fun a ha => ?_
                  refine gOn ha rfl rfl (by rfl) ?_
                  refine pY ha (yMove (by rfl)) rfl fun a ha => ?_
                  refine gDec (t := 84) ha (by rfl) (fun hg21 hp21 => ?_) (fun hg21 hp21 => ?_)
                  · first
                    | (exfalso; omega)
                    | (rw [hg21] at ha
                       refine gOff ha rfl rfl (by rfl) rfl rfl fun a ha => ?_
                       refine gOff ha rfl rfl (by rfl) rfl rfl fun a ha => ?_
                       refine gOff ha rfl rfl (by rfl) rfl rfl fun a ha => ?_
                       refine gOff ha rfl rfl (by rfl) rfl rfl fun a ha => ?_
                       refine gOff ha rfl rfl (by rfl) rfl rfl fun a ha => ?_
                       refine gOffU ha rfl rfl (by rfl) rfl fun a ha => ?_
                       refine gOffU ha rfl rfl (by rfl) rfl fun a ha => ?_
                       refine gOffU ha rfl rfl (by rfl) rfl fun a ha => ?_
                       refine gOff ha rfl rfl (by rfl) rfl rfl fun a ha => ?_
                       refine gOn ha rfl rfl (by rfl) ?_
                       first | refine pY ha (yPickT (by rfl) (by rfl)) rfl fun a ha => ?_ | refine pY ha (yPickF (by rfl) (by rfl)) rfl fun a ha => ?_ | refine pY ha (yPick (by rfl) (by rfl) (by rfl)) rfl fun a ha => ?_
                       first | refine pY ha (yPickT (by rfl) (by rfl)) rfl fun a ha => ?_ | refine pY ha (yPickF (by rfl) (by rfl)) rfl fun a ha => ?_ | refine pY ha (yPick (by rfl) (by rfl) (by rfl)) rfl fun a ha => ?_
                       refine pZ ⟨rfl, ?_⟩
                       exact ⟨has3 ha (by first | rfl | exact bF0 (by simp) | simp [lk]) (by rfl) (by rfl), hs.drop.drop⟩)
                  · first
                    | (exfalso; omega)
                    | (rw [hg21] at ha
                       refine gOn ha rfl rfl (by rfl) ?_
                       refine pY ha (yMove (by rfl)) rfl fun a ha => ?_
                       refine gOn ha rfl rfl (by rfl) ?_
                       refine pY ha (yLenStr Tryd.runUnderlying9 (by rfl)) rfl fun a ha => ?_
                       refine gOn ha rfl rfl (by rfl) ?_
                       refine pY ha (yMove (by rfl)) rfl fun a ha => ?_
                       refine gOn ha rfl rfl (by rfl) ?_
                       refine pY ha (yNeq (by rfl) (by rfl)) rfl fun a ha => ?_
                       refine gOn ha rfl rfl (by rfl) ?_
                       refine pY ha (yMove (by rfl)) rfl fun a ha => ?_
                       refine gSplit (t := 89) ha (by rfl) (fun hg26 => ?_) (fun hg26 => ?_)
                       · rw [hg26] at ha
                         refine gOn ha rfl rfl (by rfl) ?_
                         refine pY ha (yMove (by rfl)) rfl fun a ha => ?_
                         refine gOn ha rfl rfl (by rfl) ?_
                         refine pC ha (nCall Tryd.call31 (by rfl)) rfl (ErrK_c hs .here) ?_
                         rintro v w ⟨rfl, hs⟩ a ha
                         refine gOn ha rfl rfl (by rfl) ?_
                         refine pY ha (yNeq (by rfl) (by rfl)) rfl fun a ha => ?_
                         refine gOn ha rfl rfl (by rfl) ?_
                         first | refine pY ha (yPickT (by rfl) (by rfl)) rfl fun a ha => ?_ | refine pY ha (yPickF (by rfl) (by rfl)) rfl fun a ha => ?_ | refine pY ha (yPick (by rfl) (by rfl) (by rfl)) rfl fun a ha => ?_
                         refine gOn ha rfl rfl (by rfl) ?_
                         first | refine pY ha (yPickT (by rfl) (by rfl)) rfl fun a ha => ?_ | refine pY ha (yPickF (by rfl) (by rfl)) rfl fun a ha => ?_ | refine pY ha (yPick (by rfl) (by rfl) (by rfl)) rfl fun a ha => ?_
                         first | refine pY ha (yPickT (by rfl) (by rfl)) rfl fun a ha => ?_ | refine pY ha (yPickF (by rfl) (by rfl)) rfl fun a ha => ?_ | refine pY ha (yPick (by rfl) (by rfl) (by rfl)) rfl fun a ha => ?_
                         refine pZ ⟨rfl, ?_⟩
                         exact ⟨has3 ha (by first | rfl | exact bF0 (by simp) | simp [lk]) (by rfl) (by rfl), hs.drop.drop⟩
                       · simp [size_mk, hlb] at hg26)
                · simp at hg17
              · simp at hg11
            · simp at hg6
        rintro a w ⟨ha, hs⟩
        refine hK15 _ _ ?_
        refine cFalse ha (by rfl) ?_
        refine wp_skip ?_
        refine hK14 _ _ ?_
        refine wp_seq_k fun K16 hK16 => ?_
        refine wp_region_lit ?_
        refine pAlloc (zs := [.slice none 0 0, .bool false]) ha Tryd.zeroValue57 (by rfl) hs rfl fun b w hs a ha => ?_
        have hs := ((hs.ol_nil kU8 5 none).perm (List.Perm.swap _ _ _)).wtr_shut .here .here
        refine pZ ?_
        refine hK16 _ _ ?_
        refine wp_seq_k fun K17 hK17 => ?_
        refine wp_region_lit ?_
        refine pY ha (yMove (by rfl)) rfl fun a ha => ?_
        refine pC ha (nCall Tryd.call34 (by rfl)) rfl (OutNum_c ct (by rw [wNum_ok (by omega)]; simp only [List.nil_append]; omega) hs .here) ?_
        rintro v w ⟨rfl, hs⟩ a ha
        rw [wNum_ok (by omega)] at hs
        simp only [List.nil_append] at hs
        obtain ⟨A2, c2, hs⟩ := hs.wtr_open .here
        have hs := hs.ol_rd (.there .here)
        have hz : ([] : List UInt8).length = 0 := rfl
        refine pZ ?_
        refine hK17 _ _ ?_
        refine wp_seq_k fun K18 hK18 => ?_
        refine wp_region_lit ?_
        refine pMake ha bslLimits25_0_ hs rfl fun b w hs a ha => ?_
        have hs := hs.blk_ol0 .here kU8
        refine pY ha (yFieldA Tryd.runUnderlying57 rfl Tryd.sizeOf25 rfl (by rfl)) rfl fun a ha => ?_
        first | refine pY ha (yLoadB Tryd.isAgg25 hs (by rfl) (by repeat first | exact .here | apply Pick.there) (by rfl)) rfl fun a ha => ?_ | refine pY ha (yLoadR Tryd.isAgg25 hs (by rfl) (by repeat first | exact .here | apply Pick.there) (by rfl)) rfl fun a ha => ?_ | refine pY ha (yLoadR0 Tryd.isAgg25 hs (by rfl) (by repeat first | exact .here | apply Pick.there) (by rfl)) rfl fun a ha => ?_
        first | refine pApp1 ha elLimits25 (by rfl) (by rfl) hs (by repeat first | exact .here | apply Pick.there) (by repeat first | exact .here | apply Pick.there) (by repeat first | exact .here | apply Pick.there) (by rfl) (by first | omega | (unfold maxLen; omega) | (simp [maxLen]; done) | (simp [maxLen]; omega)) (by first | omega | (unfold maxLen; omega) | (simp [maxLen]; done) | (simp [maxLen]; omega)) rfl fun A c w hs a ha => ?_ | refine pAppRd ha elLimits25 (by rfl) (by rfl) hs (by repeat first | exact .here | apply Pick.there) (by repeat first | exact .here | apply Pick.there) (by rfl) (by first | omega | (unfold maxLen; omega) | (simp [maxLen]; done) | (simp [maxLen]; omega)) (by first | omega | (unfold maxLen; omega) | (simp [maxLen]; done) | (simp [maxLen]; omega)) rfl fun A c w hs a ha => ?_ | refine pApp1F ha elLimits25 (by rfl) (by rfl) hs (by repeat first | exact .here | apply Pick.there) (by repeat first | exact .here | apply Pick.there) (by intro Z; first | rfl | exact ⟨rfl, by omega, by omega⟩) (by rfl) (by first | omega | (unfold maxLen; omega) | (simp [maxLen]; done) | (simp [maxLen]; omega)) (by first | omega | (unfold maxLen; omega) | (simp [maxLen]; done) | (simp [maxLen]; omega)) rfl fun A c w hs a ha => ?_
        refine pY ha (yMove (by rfl)) rfl fun a ha => ?_
        first | refine pApp1 ha elLimits25 (by rfl) (by rfl) hs (by repeat first | exact .here | apply Pick.there) (by repeat first | exact .here | apply Pick.there) (by repeat first | exact .here | apply Pick.there) (by rfl) (by first | omega | (unfold maxLen; omega) | (simp [maxLen]; done) | (simp [maxLen]; omega)) (by first | omega | (unfold maxLen; omega) | (simp [maxLen]; done) | (simp [maxLen]; omega)) rfl fun A c w hs a ha => ?_ | refine pAppRd ha elLimits25 (by rfl) (by rfl) hs (by repeat first | exact .here | apply Pick.there) (by repeat first | exact .here | apply Pick.there) (by rfl) (by first | omega | (unfold maxLen; omega) | (simp [maxLen]; done) | (simp [maxLen]; omega)) (by first | omega | (unfold maxLen; omega) | (simp [maxLen]; done) | (simp [maxLen]; omega)) rfl fun A c w hs a ha => ?_ | refine pApp1F ha elLimits25 (by rfl) (by rfl) hs (by repeat first | exact .here | apply Pick.there) (by repeat first | exact .here | apply Pick.there) (by intro Z; first | rfl | exact ⟨rfl, by omega, by omega⟩) (by rfl) (by first | omega | (unfold maxLen; omega) | (simp [maxLen]; done) | (simp [maxLen]; omega)) (by first | omega | (unfold maxLen; omega) | (simp [maxLen]; done) | (simp [maxLen]; omega)) rfl fun A c w hs a ha => ?_
        have hs := hs.ol_rd .here
        obtain ⟨hn, _⟩ := hs.rd_shape .here
        rw [hn] at ha hs
        simp only [List.nil_append] at ha hs
        refine pY ha (yAssign (by rfl)) rfl fun a ha => ?_
        refine pZ ?_
        refine hK18 _ _ ?_
        refine wp_seq_k fun K19 hK19 => ?_
        refine wp_region_lit ?_
        refine pY ha (yMove (by rfl)) rfl fun a ha => ?_
        refine pC ha (nCall Tryd.call13 (by rfl)) rfl (NewReader_c hs (by repeat first | exact .here | apply Pick.there) (by simp only [List.length_append]; omega)) ?_
        rintro v w ⟨q1, rfl, hs⟩ a ha
        refine pY ha (yMove (by rfl)) rfl fun a ha => ?_
        refine pC ha (nCall Tryd.call13 (by rfl)) rfl (NewReader_c hs (by repeat first | exact .here | apply Pick.there) (by simp only [List.length_append]; omega)) ?_
        rintro v w ⟨q2, rfl, hs⟩ a ha
        refine pY ha (yMove (by rfl)) rfl fun a ha => ?_
        refine pC ha (nCall Tryd.call13 (by rfl)) rfl (NewReader_c hs (by repeat first | exact .here | apply Pick.there) (by simp only [List.length_append]; omega)) ?_
        rintro v w ⟨q3, rfl, hs⟩ a ha
        refine pY ha (yAssign (by rfl)) rfl fun a ha => ?_
        refine pY ha (yAssign (by rfl)) rfl fun a ha => ?_
        refine pY ha (yAssign (by rfl)) rfl fun a ha => ?_
        refine pZ ?_
        refine hK19 _ _ ?_
        refine wp_seq_k fun K20 hK20 => ?_
        refine wp_seq_k fun K21 hK21 => ?_
        refine wp_region_lit ?_
        refine pY ha (yMove (by rfl)) rfl fun a ha => ?_
        refine pY ha (yPtrEqlN Tryd.underlying32 (by rfl) (by rfl)) rfl fun a ha => ?_
        refine pY ha (yMove (by rfl)) rfl fun a ha => ?_
        refine gSplit (t := 112) ha (by rfl) (fun hg2 => ?_) (fun hg2 => ?_)
        · rw [hg2] at ha
          refine gOn ha rfl rfl (by rfl) ?_
          refine pY ha (yMove (by rfl)) rfl fun a ha => ?_
          refine gOn ha rfl rfl (by rfl) ?_
          refine pY ha (yPtrEqlN Tryd.underlying32 (by rfl) (by rfl)) rfl fun a ha => ?_
          first | refine pY ha (yPickT (by rfl) (by rfl)) rfl fun a ha => ?_ | refine pY ha (yPickF (by rfl) (by rfl)) rfl fun a ha => ?_ | refine pY ha (yPick (by rfl) (by rfl) (by rfl)) rfl fun a ha => ?_
          refine pY ha (yMove (by rfl)) rfl fun a ha => ?_
          refine gSplit (t := 116) ha (by rfl) (fun hg6 => ?_) (fun hg6 => ?_)
          · rw [hg6] at ha
            refine gOn ha rfl rfl (by rfl) ?_
            refine pY ha (yMove (by rfl)) rfl fun a ha => ?_
            refine gOn ha rfl rfl (by rfl) ?_
            refine pY ha (yPtrEqlN Tryd.underlying32 (by rfl) (by rfl)) rfl fun a ha => ?_
            first | refine pY ha (yPickT (by rfl) (by rfl)) rfl fun a ha => ?_ | refine pY ha (yPickF (by rfl) (by rfl)) rfl fun a ha => ?_ | refine pY ha (yPick (by rfl) (by rfl) (by rfl)) rfl fun a ha => ?_
            refine pZ ?_
            refine hK21 _ _ ?_
            first | refine cNDec ha (by rfl) (fun hc119 => ?_) (fun hc119 => ?_) | refine cDec ha (by rfl) (fun hc119 => ?_) (fun hc119 => ?_) | refine cSplit ha (by rfl) (fun hc119 => ?_) (fun hc119 => ?_)
            · simp at hc119
            · refine wp_skip ?_
              refine hK20 _ _ ?_
              refine wp_seq_k fun K22 hK22 => ?_
              refine wp_region_lit ?_
              refine pY ha (yMove (by rfl)) rfl fun a ha => ?_
              refine pC ha (nCall Tryd.call22 (by rfl)) rfl (RdComps_c hT hs (by repeat first | exact .here | apply Pick.there)) ?_
              rintro v w ⟨B1, d1, rfl, hs⟩ a ha
              refine pZ ?_
              refine hK22 _ _ ?_
              refine wp_seq_k fun K23 hK23 => ?_
              refine wp_region_lit ?_
              refine pY ha (yMove (by rfl)) rfl fun a ha => ?_
              refine pC ha (nCall Tryd.call25 (by rfl)) rfl (RdActns_c hT hs (by repeat first | exact .here | apply Pick.there)) ?_
              rintro v w ⟨B2, d2, rfl, hs⟩ a ha
              refine pZ ?_
              refine hK23 _ _ ?_
              refine wp_seq_k fun K24 hK24 => ?_
              refine wp_region_lit ?_
              refine pY ha (yMove (by rfl)) rfl fun a ha => ?_
              refine pC ha (nCall Tryd.call28 (by rfl)) rfl (RdNods_c hT hs (by repeat first | exact .here | apply Pick.there)) ?_
              rintro v w ⟨B3, d3, rfl, hs⟩ a ha
              refine pZ ?_
              refine hK24 _ _ ?_
              refine wp_seq_k fun K25 hK25 => ?_
              obtain ⟨F1, F2⟩ := lim_comps ct (by omega) tl
              obtain ⟨G1, G2⟩ := lim_actns ct (by omega) tl
              obtain ⟨K1, K2⟩ := lim_nods ct (by omega) tl
              refine wp_region_lit ?_
              refine pY ha (yMove (by rfl)) rfl fun a ha => ?_
              refine pY ha (yLeq (by rfl) (by rfl)) rfl fun a ha => ?_
              refine pY ha (yMove (by rfl)) rfl fun a ha => ?_
              refine gDec (t := 128) ha (by rfl) (fun hg2 hp2 => ?_) (fun hg2 hp2 => ?_)
              · rw [hg2] at ha
                refine gOn ha rfl rfl (by rfl) ?_
                refine pY ha (yMove (by rfl)) rfl fun a ha => ?_
                refine gOn ha rfl rfl (by rfl) ?_
                refine pC ha (nCall Tryd.call31 (by rfl)) rfl (ErrK_c hs (by repeat first | exact .here | apply Pick.there)) ?_
                rintro v w ⟨rfl, hs⟩ a ha
                refine gOn ha rfl rfl (by rfl) ?_
                refine pY ha (yEql (by rfl) (by rfl)) rfl fun a ha => ?_
                first | refine pY ha (yPickT (by rfl) (by rfl)) rfl fun a ha => ?_ | refine pY ha (yPickF (by rfl) (by rfl)) rfl fun a ha => ?_ | refine pY ha (yPick (by rfl) (by rfl) (by rfl)) rfl fun a ha => ?_
                refine pY ha (yMove (by rfl)) rfl fun a ha => ?_
                refine gSplit (t := 133) ha (by rfl) (fun hg7 => ?_) (fun hg7 => ?_)
                · have q := of_decide_eq_false hg7; omega
                · rw [hg7] at ha
                  refine gOn ha rfl rfl (by rfl) ?_
                  refine pY ha (yMove (by rfl)) rfl fun a ha => ?_
                  refine gOn ha rfl rfl (by rfl) ?_
                  refine pY ha (yLeq (by rfl) (by rfl)) rfl fun a ha => ?_
                  refine gOn ha rfl rfl (by rfl) ?_
                  refine pY ha (yMove (by rfl)) rfl fun a ha => ?_
                  refine gDec (t := 136) ha (by rfl) (fun hg10 hp10 => ?_) (fun hg10 hp10 => ?_)
                  · rw [hg10] at ha
                    refine gOn ha rfl rfl (by rfl) ?_
                    refine pY ha (yMove (by rfl)) rfl fun a ha => ?_
                    refine gOn ha rfl rfl (by rfl) ?_
                    refine pC ha (nCall Tryd.call31 (by rfl)) rfl (ErrK_c hs (by repeat first | exact .here | apply Pick.there)) ?_
                    rintro v w ⟨rfl, hs⟩ a ha
                    refine gOn ha rfl rfl (by rfl) ?_
                    refine pY ha (yEql (by rfl) (by rfl)) rfl fun a ha => ?_
                    refine gOn ha rfl rfl (by rfl) ?_
                    first | refine pY ha (yPickT (by rfl) (by rfl)) rfl fun a ha => ?_ | refine pY ha (yPickF (by rfl) (by rfl)) rfl fun a ha => ?_ | refine pY ha (yPick (by rfl) (by rfl) (by rfl)) rfl fun a ha => ?_
                    first | refine pY ha (yPickT (by rfl) (by rfl)) rfl fun a ha => ?_ | refine pY ha (yPickF (by rfl) (by rfl)) rfl fun a ha => ?_ | refine pY ha (yPick (by rfl) (by rfl) (by rfl)) rfl fun a ha => ?_
                    refine pY ha (yMove (by rfl)) rfl fun a ha => ?_
                    refine gSplit (t := 142) ha (by rfl) (fun hg16 => ?_) (fun hg16 => ?_)
                    · have q := of_decide_eq_false hg16; omega
                    · rw [hg16] at ha
                      refine gOn ha rfl rfl (by rfl) ?_
                      refine pY ha (yMove (by rfl)) rfl fun a ha => ?_
                      refine gOn ha rfl rfl (by rfl) ?_
                      refine pY ha (yLeq (by rfl) (by rfl)) rfl fun a ha => ?_
                      refine gOn ha rfl rfl (by rfl) ?_
                      refine pY ha (yMove (by rfl)) rfl fun a ha => ?_
                      refine gDec (t := 145) ha (by rfl) (fun hg19 hp19 => ?_) (fun hg19 hp19 => ?_)
                      · first
                        | (exfalso; omega)
                        | (rw [hg19] at ha
                           refine gOn ha rfl rfl (by rfl) ?_
                           refine pY ha (yMove (by rfl)) rfl fun a ha => ?_
                           refine gOn ha rfl rfl (by rfl) ?_
                           refine pC ha (nCall Tryd.call31 (by rfl)) rfl (ErrK_c hs (by repeat first | exact .here | apply Pick.there)) ?_
                           rintro v w ⟨rfl, hs⟩ a ha
                           refine gOn ha rfl rfl (by rfl) ?_
                           refine pY ha (yEql (by rfl) (by rfl)) rfl fun a ha => ?_
                           refine gOn ha rfl rfl (by rfl) ?_
                           first | refine pY ha (yPickT (by rfl) (by rfl)) rfl fun a ha => ?_ | refine pY ha (yPickF (by rfl) (by rfl)) rfl fun a ha => ?_ | refine pY ha (yPick (by rfl) (by rfl) (by rfl)) rfl fun a ha => ?_
                           first | refine pY ha (yPickT (by rfl) (by rfl)) rfl fun a ha => ?_ | refine pY ha (yPickF (by rfl) (by rfl)) rfl fun a ha => ?_ | refine pY ha (yPick (by rfl) (by rfl) (by rfl)) rfl fun a ha => ?_
                           refine pY ha (yMove (by rfl)) rfl fun a ha => ?_
                           refine gSplit (t := 151) ha (by rfl) (fun hg25 => ?_) (fun hg25 => ?_)
                           · have q := of_decide_eq_false hg25; omega
                           · rw [hg25] at ha
                             refine gOn ha rfl rfl (by rfl) ?_
                             refine pY ha (yMove (by rfl)) rfl fun a ha => ?_
                             refine gOn ha rfl rfl (by rfl) ?_
                             refine pY ha (yEql (by rfl) (by rfl)) rfl fun a ha => ?_
                             refine gOn ha rfl rfl (by rfl) ?_
                             refine pY ha (yMove (by rfl)) rfl fun a ha => ?_
                             refine gDec (t := 154) ha (by rfl) (fun hg28 hp28 => ?_) (fun hg28 hp28 => ?_)
                             · rw [hg28] at ha
                               refine gOn ha rfl rfl (by rfl) ?_
                               refine pY ha (yMove (by rfl)) rfl fun a ha => ?_
                               refine gOn ha rfl rfl (by rfl) ?_
                               refine pY ha (yLenS Tryd.runUnderlying25 (by rfl)) rfl fun a ha => ?_
                               refine gOn ha rfl rfl (by rfl) ?_
                               refine pY ha (yGtr (by rfl) (by rfl)) rfl fun a ha => ?_
                               refine gOn ha rfl rfl (by rfl) ?_
                               first | refine pY ha (yPickT (by rfl) (by rfl)) rfl fun a ha => ?_ | refine pY ha (yPickF (by rfl) (by rfl)) rfl fun a ha => ?_ | refine pY ha (yPick (by rfl) (by rfl) (by rfl)) rfl fun a ha => ?_
                               refine gOn ha rfl rfl (by rfl) ?_
                               refine pY ha (yMove (by rfl)) rfl fun a ha => ?_
                               refine gSplit (t := 159) ha (by rfl) (fun hg33 => ?_) (fun hg33 => ?_)
                               · rw [hg33] at ha
                                 refine gOn ha rfl rfl (by rfl) ?_
                                 refine pY ha (yMove (by rfl)) rfl fun a ha => ?_
                                 refine gOn ha rfl rfl (by rfl) ?_
                                 refine pC ha (nCall Tryd.call31 (by rfl)) rfl (ErrK_c hs (by repeat first | exact .here | apply Pick.there)) ?_
                                 rintro v w ⟨rfl, hs⟩ a ha
                                 refine gOn ha rfl rfl (by rfl) ?_
                                 refine pY ha (yNeq (by rfl) (by rfl)) rfl fun a ha => ?_
                                 refine gOn ha rfl rfl (by rfl) ?_
                                 refine pY ha (yMove (by rfl)) rfl fun a ha => ?_
                                 refine gSplit (t := 163) ha (by rfl) (fun hg37 => ?_) (fun hg37 => ?_)
                                 · have q0 := of_decide_eq_false hg33; simp at hg37; omega
                                 · rw [hg37] at ha
                                   refine gOn ha rfl rfl (by rfl) ?_
                                   refine pY ha (yMove (by rfl)) rfl fun a ha => ?_
                                   refine gOn ha rfl rfl (by rfl) ?_
                                   refine pC ha (nCall Tryd.call31 (by rfl)) rfl (ErrK_c hs (by repeat first | exact .here | apply Pick.there)) ?_
                                   rintro v w ⟨rfl, hs⟩ a ha
                                   refine gOn ha rfl rfl (by rfl) ?_
                                   refine pY ha (yNeq (by rfl) (by rfl)) rfl fun a ha => ?_
                                   refine gOn ha rfl rfl (by rfl) ?_
                                   first | refine pY ha (yPickT (by rfl) (by rfl)) rfl fun a ha => ?_ | refine pY ha (yPickF (by rfl) (by rfl)) rfl fun a ha => ?_ | refine pY ha (yPick (by rfl) (by rfl) (by rfl)) rfl fun a ha => ?_
                                   refine gOn ha rfl rfl (by rfl) ?_
                                   refine pY ha (yMove (by rfl)) rfl fun a ha => ?_
                                   refine gSplit (t := 168) ha (by rfl) (fun hg42 => ?_) (fun hg42 => ?_)
                                   · have q0 := of_decide_eq_false hg33; simp at hg42; omega
                                   · rw [hg42] at ha
                                     refine gOn ha rfl rfl (by rfl) ?_
                                     refine pY ha (yMove (by rfl)) rfl fun a ha => ?_
                                     refine gOn ha rfl rfl (by rfl) ?_
                                     refine pC ha (nCall Tryd.call31 (by rfl)) rfl (ErrK_c hs (by repeat first | exact .here | apply Pick.there)) ?_
                                     rintro v w ⟨rfl, hs⟩ a ha
                                     refine gOn ha rfl rfl (by rfl) ?_
                                     refine pY ha (yNeq (by rfl) (by rfl)) rfl fun a ha => ?_
                                     refine gOn ha rfl rfl (by rfl) ?_
                                     first | refine pY ha (yPickT (by rfl) (by rfl)) rfl fun a ha => ?_ | refine pY ha (yPickF (by rfl) (by rfl)) rfl fun a ha => ?_ | refine pY ha (yPick (by rfl) (by rfl) (by rfl)) rfl fun a ha => ?_
                                     refine gOn ha rfl rfl (by rfl) ?_
                                     first | refine pY ha (yPickT (by rfl) (by rfl)) rfl fun a ha => ?_ | refine pY ha (yPickF (by rfl) (by rfl)) rfl fun a ha => ?_ | refine pY ha (yPick (by rfl) (by rfl) (by rfl)) rfl fun a ha => ?_
                                     first | refine pY ha (yPickT (by rfl) (by rfl)) rfl fun a ha => ?_ | refine pY ha (yPickF (by rfl) (by rfl)) rfl fun a ha => ?_ | refine pY ha (yPick (by rfl) (by rfl) (by rfl)) rfl fun a ha => ?_
                                     refine pY ha (yMove (by rfl)) rfl fun a ha => ?_
                                     refine gSplit (t := 175) ha (by rfl) (fun hg49 => ?_) (fun hg49 => ?_)
                                     · have q0 := of_decide_eq_false hg33; simp at hg49; omega
                                     · rw [hg49] at ha
                                       refine gOn ha rfl rfl (by rfl) ?_
                                       refine pC ha (nCall Tryd.call8 (by rfl)) rfl (awake_c hs) ?_
                                       rintro v w ⟨rfl, hs⟩ a ha
                                       first | refine pY ha (yPickT (by rfl) (by rfl)) rfl fun a ha => ?_ | refine pY ha (yPickF (by rfl) (by rfl)) rfl fun a ha => ?_ | refine pY ha (yPick (by rfl) (by rfl) (by rfl)) rfl fun a ha => ?_
                                       refine pY ha (yAssign (by rfl)) rfl fun a ha => ?_
                                       refine pZ ?_
                                       refine hK25 _ _ ?_
                                       refine wp_ret ?_
                                       show bodyPost Tryd.prog Tryd.f5 _ .ret _ _
                                       refine ret1 rfl ha (by rfl) ?_
                                       repeat (first | exact ⟨rfl, hs⟩ | replace hs := Sep.drop hs)
                               · rw [hg33] at ha
                                 refine gOff ha rfl rfl (by rfl) rfl rfl fun a ha => ?_
                                 refine gOff ha rfl rfl (by rfl) rfl rfl fun a ha => ?_
                                 refine gOff ha rfl rfl (by rfl) rfl rfl fun a ha => ?_
                                 refine gOff ha rfl rfl (by rfl) rfl rfl fun a ha => ?_
                                 refine gOffU ha rfl rfl (by rfl) rfl fun a ha => ?_
                                 refine gOffU ha rfl rfl (by rfl) rfl fun a ha => ?_
                                 refine gOffU ha rfl rfl (by rfl) rfl fun a ha => ?_
                                 refine gOff ha rfl rfl (by rfl) rfl rfl fun a ha => ?_
                                 refine gOff ha rfl rfl (by rfl) rfl rfl fun a ha => ?_
                                 refine gOffU ha rfl rfl (by rfl) rfl fun a ha => ?_
                                 refine gOffU ha rfl rfl (by rfl) rfl fun a ha => ?_
                                 refine gOffU ha rfl rfl (by rfl) rfl fun a ha => ?_
                                 refine gOff ha rfl rfl (by rfl) rfl rfl fun a ha => ?_
                                 refine gOn ha rfl rfl (by rfl) ?_
                                 first | refine pY ha (yPickT (by rfl) (by rfl)) rfl fun a ha => ?_ | refine pY ha (yPickF (by rfl) (by rfl)) rfl fun a ha => ?_ | refine pY ha (yPick (by rfl) (by rfl) (by rfl)) rfl fun a ha => ?_
                                 first | refine pY ha (yPickT (by rfl) (by rfl)) rfl fun a ha => ?_ | refine pY ha (yPickF (by rfl) (by rfl)) rfl fun a ha => ?_ | refine pY ha (yPick (by rfl) (by rfl) (by rfl)) rfl fun a ha => ?_
                                 refine pY ha (yMove (by rfl)) rfl fun a ha => ?_
                                 refine gOn ha rfl rfl (by rfl) ?_
                                 refine pC ha (nCall Tryd.call8 (by rfl)) rfl (awake_c hs) ?_
                                 rintro v w ⟨rfl, hs⟩ a ha
                                 first | refine pY ha (yPickT (by rfl) (by rfl)) rfl fun a ha => ?_ | refine pY ha (yPickF (by rfl) (by rfl)) rfl fun a ha => ?_ | refine pY ha (yPick (by rfl) (by rfl) (by rfl)) rfl fun a ha => ?_
                                 refine pY ha (yAssign (by rfl)) rfl fun a ha => ?_
                                 refine pZ ?_
                                 refine hK25 _ _ ?_
                                 refine wp_ret ?_
                                 show bodyPost Tryd.prog Tryd.f5 _ .ret _ _
                                 refine ret1 rfl ha (by rfl) ?_
                                 repeat (first | exact ⟨rfl, hs⟩ | replace hs := Sep.drop hs)
                             · rw [hg28] at ha
                               refine gOff ha rfl rfl (by rfl) rfl rfl fun a ha => ?_
                               refine gOff ha rfl rfl (by rfl) rfl rfl fun a ha => ?_
                               refine gOff ha rfl rfl (by rfl) rfl rfl fun a ha => ?_
                               refine gOn ha rfl rfl (by rfl) ?_
                               first | refine pY ha (yPickT (by rfl) (by rfl)) rfl fun a ha => ?_ | refine pY ha (yPickF (by rfl) (by rfl)) rfl fun a ha => ?_ | refine pY ha (yPick (by rfl) (by rfl) (by rfl)) rfl fun a ha => ?_
                               refine gOn ha rfl rfl (by rfl) ?_
                               refine pY ha (yMove (by rfl)) rfl fun a ha => ?_
                               refine gOff ha rfl rfl (by rfl) rfl rfl fun a ha => ?_
                               refine gOff ha rfl rfl (by rfl) rfl rfl fun a ha => ?_
                               refine gOff ha rfl rfl (by rfl) rfl rfl fun a ha => ?_
                               refine gOff ha rfl rfl (by rfl) rfl rfl fun a ha => ?_
                               refine gOffU ha rfl rfl (by rfl) rfl fun a ha => ?_
                               refine gOffU ha rfl rfl (by rfl) rfl fun a ha => ?_
                               refine gOffU ha rfl rfl (by rfl) rfl fun a ha => ?_
                               refine gOff ha rfl rfl (by rfl) rfl rfl fun a ha => ?_
                               refine gOff ha rfl rfl (by rfl) rfl rfl fun a ha => ?_
                               refine gOffU ha rfl rfl (by rfl) rfl fun a ha => ?_
                               refine gOffU ha rfl rfl (by rfl) rfl fun a ha => ?_
                               refine gOffU ha rfl rfl (by rfl) rfl fun a ha => ?_
                               refine gOff ha rfl rfl (by rfl) rfl rfl fun a ha => ?_
                               refine gOn ha rfl rfl (by rfl) ?_
                               first | refine pY ha (yPickT (by rfl) (by rfl)) rfl fun a ha => ?_ | refine pY ha (yPickF (by rfl) (by rfl)) rfl fun a ha => ?_ | refine pY ha (yPick (by rfl) (by rfl) (by rfl)) rfl fun a ha => ?_
                               first | refine pY ha (yPickT (by rfl) (by rfl)) rfl fun a ha => ?_ | refine pY ha (yPickF (by rfl) (by rfl)) rfl fun a ha => ?_ | refine pY ha (yPick (by rfl) (by rfl) (by rfl)) rfl fun a ha => ?_
                               refine pY ha (yMove (by rfl)) rfl fun a ha => ?_
                               refine gOn ha rfl rfl (by rfl) ?_
                               refine pC ha (nCall Tryd.call8 (by rfl)) rfl (awake_c hs) ?_
                               rintro v w ⟨rfl, hs⟩ a ha
                               first | refine pY ha (yPickT (by rfl) (by rfl)) rfl fun a ha => ?_ | refine pY ha (yPickF (by rfl) (by rfl)) rfl fun a ha => ?_ | refine pY ha (yPick (by rfl) (by rfl) (by rfl)) rfl fun a ha => ?_
                               refine pY ha (yAssign (by rfl)) rfl fun a ha => ?_
                               refine pZ ?_
                               refine hK25 _ _ ?_
                               refine wp_ret ?_
                               show bodyPost Tryd.prog Tryd.f5 _ .ret _ _
                               refine ret1 rfl ha (by rfl) ?_
                               repeat (first | exact ⟨rfl, hs⟩ | replace hs := Sep.drop hs))
                      · first
                        | (exfalso; omega)
                        | (rw [hg19] at ha
                           refine gOff ha rfl rfl (by rfl) rfl rfl fun a ha => ?_
                           refine gOff ha rfl rfl (by rfl) rfl rfl fun a ha => ?_
                           refine gOff ha rfl rfl (by rfl) rfl rfl fun a ha => ?_
                           refine gOn ha rfl rfl (by rfl) ?_
                           first | refine pY ha (yPickT (by rfl) (by rfl)) rfl fun a ha => ?_ | refine pY ha (yPickF (by rfl) (by rfl)) rfl fun a ha => ?_ | refine pY ha (yPick (by rfl) (by rfl) (by rfl)) rfl fun a ha => ?_
                           first | refine pY ha (yPickT (by rfl) (by rfl)) rfl fun a ha => ?_ | refine pY ha (yPickF (by rfl) (by rfl)) rfl fun a ha => ?_ | refine pY ha (yPick (by rfl) (by rfl) (by rfl)) rfl fun a ha => ?_
                           refine pY ha (yMove (by rfl)) rfl fun a ha => ?_
                           refine gOn ha rfl rfl (by rfl) ?_
                           refine pY ha (yMove (by rfl)) rfl fun a ha => ?_
                           refine gOn ha rfl rfl (by rfl) ?_
                           refine pY ha (yEql (by rfl) (by rfl)) rfl fun a ha => ?_
                           refine gOn ha rfl rfl (by rfl) ?_
                           refine pY ha (yMove (by rfl)) rfl fun a ha => ?_
                           refine gDec (t := 154) ha (by rfl) (fun hg28 hp28 => ?_) (fun hg28 hp28 => ?_)
                           · rw [hg28] at ha
                             refine gOn ha rfl rfl (by rfl) ?_
                             refine pY ha (yMove (by rfl)) rfl fun a ha => ?_
                             refine gOn ha rfl rfl (by rfl) ?_
                             refine pY ha (yLenS Tryd.runUnderlying25 (by rfl)) rfl fun a ha => ?_
                             refine gOn ha rfl rfl (by rfl) ?_
                             refine pY ha (yGtr (by rfl) (by rfl)) rfl fun a ha => ?_
                             refine gOn ha rfl rfl (by rfl) ?_
                             first | refine pY ha (yPickT (by rfl) (by rfl)) rfl fun a ha => ?_ | refine pY ha (yPickF (by rfl) (by rfl)) rfl fun a ha => ?_ | refine pY ha (yPick (by rfl) (by rfl) (by rfl)) rfl fun a ha => ?_
                             refine gOn ha rfl rfl (by rfl) ?_
                             refine pY ha (yMove (by rfl)) rfl fun a ha => ?_
                             refine gSplit (t := 159) ha (by rfl) (fun hg33 => ?_) (fun hg33 => ?_)
                             · rw [hg33] at ha
                               refine gOn ha rfl rfl (by rfl) ?_
                               refine pY ha (yMove (by rfl)) rfl fun a ha => ?_
                               refine gOn ha rfl rfl (by rfl) ?_
                               refine pC ha (nCall Tryd.call31 (by rfl)) rfl (ErrK_c hs (by repeat first | exact .here | apply Pick.there)) ?_
                               rintro v w ⟨rfl, hs⟩ a ha
                               refine gOn ha rfl rfl (by rfl) ?_
                               refine pY ha (yNeq (by rfl) (by rfl)) rfl fun a ha => ?_
                               refine gOn ha rfl rfl (by rfl) ?_
                               refine pY ha (yMove (by rfl)) rfl fun a ha => ?_
                               refine gSplit (t := 163) ha (by rfl) (fun hg37 => ?_) (fun hg37 => ?_)
                               · have q0 := of_decide_eq_false hg33; simp at hg37; omega
                               · rw [hg37] at ha
                                 refine gOn ha rfl rfl (by rfl) ?_
                                 refine pY ha (yMove (by rfl)) rfl fun a ha => ?_
                                 refine gOn ha rfl rfl (by rfl) ?_
                                 refine pC ha (nCall Tryd.call31 (by rfl)) rfl (ErrK_c hs (by repeat first | exact .here | apply Pick.there)) ?_
                                 rintro v w ⟨rfl, hs⟩ a ha
                                 refine gOn ha rfl rfl (by rfl) ?_
                                 refine pY ha (yNeq (by rfl) (by rfl)) rfl fun a ha => ?_
                                 refine gOn ha rfl rfl (by rfl) ?_
                                 first | refine pY ha (yPickT (by rfl) (by rfl)) rfl fun a ha => ?_ | refine pY ha (yPickF (by rfl) (by rfl)) rfl fun a ha => ?_ | refine pY ha (yPick (by rfl) (by rfl) (by rfl)) rfl fun a ha => ?_
                                 refine gOn ha rfl rfl (by rfl) ?_
                                 refine pY ha (yMove (by rfl)) rfl fun a ha => ?_
                                 refine gSplit (t := 168) ha (by rfl) (fun hg42 => ?_) (fun hg42 => ?_)
                                 · have q0 := of_decide_eq_false hg33; simp at hg42; omega
                                 · rw [hg42] at ha
                                   refine gOn ha rfl rfl (by rfl) ?_
                                   refine pY ha (yMove (by rfl)) rfl fun a ha => ?_
                                   refine gOn ha rfl rfl (by rfl) ?_
                                   refine pC ha (nCall Tryd.call31 (by rfl)) rfl (ErrK_c hs (by repeat first | exact .here | apply Pick.there)) ?_
                                   rintro v w ⟨rfl, hs⟩ a ha
                                   refine gOn ha rfl rfl (by rfl) ?_
                                   refine pY ha (yNeq (by rfl) (by rfl)) rfl fun a ha => ?_
                                   refine gOn ha rfl rfl (by rfl) ?_
                                   first | refine pY ha (yPickT (by rfl) (by rfl)) rfl fun a ha => ?_ | refine pY ha (yPickF (by rfl) (by rfl)) rfl fun a ha => ?_ | refine pY ha (yPick (by rfl) (by rfl) (by rfl)) rfl fun a ha => ?_
                                   refine gOn ha rfl rfl (by rfl) ?_
                                   first | refine pY ha (yPickT (by rfl) (by rfl)) rfl fun a ha => ?_ | refine pY ha (yPickF (by rfl) (by rfl)) rfl fun a ha => ?_ | refine pY ha (yPick (by rfl) (by rfl) (by rfl)) rfl fun a ha => ?_
                                   first | refine pY ha (yPickT (by rfl) (by rfl)) rfl fun a ha => ?_ | refine pY ha (yPickF (by rfl) (by rfl)) rfl fun a ha => ?_ | refine pY ha (yPick (by rfl) (by rfl) (by rfl)) rfl fun a ha => ?_
                                   refine pY ha (yMove (by rfl)) rfl fun a ha => ?_
                                   refine gSplit (t := 175) ha (by rfl) (fun hg49 => ?_) (fun hg49 => ?_)
                                   · have q0 := of_decide_eq_false hg33; simp at hg49; omega
                                   · rw [hg49] at ha
                                     refine gOn ha rfl rfl (by rfl) ?_
                                     refine pC ha (nCall Tryd.call8 (by rfl)) rfl (awake_c hs) ?_
                                     rintro v w ⟨rfl, hs⟩ a ha
                                     first | refine pY ha (yPickT (by rfl) (by rfl)) rfl fun a ha => ?_ | refine pY ha (yPickF (by rfl) (by rfl)) rfl fun a ha => ?_ | refine pY ha (yPick (by rfl) (by rfl) (by rfl)) rfl fun a ha => ?_
                                     refine pY ha (yAssign (by rfl)) rfl fun a ha => ?_
                                     refine pZ ?_
                                     refine hK25 _ _ ?_
                                     refine wp_ret ?_
                                     show bodyPost Tryd.prog Tryd.f5 _ .ret _ _
                                     refine ret1 rfl ha (by rfl) ?_
                                     repeat (first | exact ⟨rfl, hs⟩ | replace hs := Sep.drop hs)
                             · rw [hg33] at ha
                               refine gOff ha rfl rfl (by rfl) rfl rfl fun a ha => ?_
                               refine gOff ha rfl rfl (by rfl) rfl rfl fun a ha => ?_
                               refine gOff ha rfl rfl (by rfl) rfl rfl fun a ha => ?_
                               refine gOff ha rfl rfl (by rfl) rfl rfl fun a ha => ?_
                               refine gOffU ha rfl rfl (by rfl) rfl fun a ha => ?_
                               refine gOffU ha rfl rfl (by rfl) rfl fun a ha => ?_
                               refine gOffU ha rfl rfl (by rfl) rfl fun a ha => ?_
                               refine gOff ha rfl rfl (by rfl) rfl rfl fun a ha => ?_
                               refine gOff ha rfl rfl (by rfl) rfl rfl fun a ha => ?_
                               refine gOffU ha rfl rfl (by rfl) rfl fun a ha => ?_
                               refine gOffU ha rfl rfl (by rfl) rfl fun a ha => ?_
                               refine gOffU ha rfl rfl (by rfl) rfl fun a ha => ?_
                               refine gOff ha rfl rfl (by rfl) rfl rfl fun a ha => ?_
                               refine gOn ha rfl rfl (by rfl) ?_
                               first | refine pY ha (yPickT (by rfl) (by rfl)) rfl fun a ha => ?_ | refine pY ha (yPickF (by rfl) (by rfl)) rfl fun a ha => ?_ | refine pY ha (yPick (by rfl) (by rfl) (by rfl)) rfl fun a ha => ?_
                               first | refine pY ha (yPickT (by rfl) (by rfl)) rfl fun a ha => ?_ | refine pY ha (yPickF (by rfl) (by rfl)) rfl fun a ha => ?_ | refine pY ha (yPick (by rfl) (by rfl) (by rfl)) rfl fun a ha => ?_
                               refine pY ha (yMove (by rfl)) rfl fun a ha => ?_
                               refine gOn ha rfl rfl (by rfl) ?_
                               refine pC ha (nCall Tryd.call8 (by rfl)) rfl (awake_c hs) ?_
                               rintro v w ⟨rfl, hs⟩ a ha
                               first | refine pY ha (yPickT (by rfl) (by rfl)) rfl fun a ha => ?_ | refine pY ha (yPickF (by rfl) (by rfl)) rfl fun a ha => ?_ | refine pY ha (yPick (by rfl) (by rfl) (by rfl)) rfl fun a ha => ?_
                               refine pY ha (yAssign (by rfl)) rfl fun a ha => ?_
                               refine pZ ?_
                               refine hK25 _ _ ?_
                               refine wp_ret ?_
                               show bodyPost Tryd.prog Tryd.f5 _ .ret _ _
                               refine ret1 rfl ha (by rfl) ?_
                               repeat (first | exact ⟨rfl, hs⟩ | replace hs := Sep.drop hs)
                           · rw [hg28] at ha
                             refine gOff ha rfl rfl (by rfl) rfl rfl fun a ha => ?_
                             refine gOff ha rfl rfl (by rfl) rfl rfl fun a ha => ?_
                             refine gOff ha rfl rfl (by rfl) rfl rfl fun a ha => ?_
                             refine gOn ha rfl rfl (by rfl) ?_
                             first | refine pY ha (yPickT (by rfl) (by rfl)) rfl fun a ha => ?_ | refine pY ha (yPickF (by rfl) (by rfl)) rfl fun a ha => ?_ | refine pY ha (yPick (by rfl) (by rfl) (by rfl)) rfl fun a ha => ?_
                             refine gOn ha rfl rfl (by rfl) ?_
                             refine pY ha (yMove (by rfl)) rfl fun a ha => ?_
                             refine gOff ha rfl rfl (by rfl) rfl rfl fun a ha => ?_
                             refine gOff ha rfl rfl (by rfl) rfl rfl fun a ha => ?_
                             refine gOff ha rfl rfl (by rfl) rfl rfl fun a ha => ?_
                             refine gOff ha rfl rfl (by rfl) rfl rfl fun a ha => ?_
                             refine gOffU ha rfl rfl (by rfl) rfl fun a ha => ?_
                             refine gOffU ha rfl rfl (by rfl) rfl fun a ha => ?_
                             refine gOffU ha rfl rfl (by rfl) rfl fun a ha => ?_
                             refine gOff ha rfl rfl (by rfl) rfl rfl fun a ha => ?_
                             refine gOff ha rfl rfl (by rfl) rfl rfl fun a ha => ?_
                             refine gOffU ha rfl rfl (by rfl) rfl fun a ha => ?_
                             refine gOffU ha rfl rfl (by rfl) rfl fun a ha => ?_
                             refine gOffU ha rfl rfl (by rfl) rfl fun a ha => ?_
                             refine gOff ha rfl rfl (by rfl) rfl rfl fun a ha => ?_
                             refine gOn ha rfl rfl (by rfl) ?_
                             first | refine pY ha (yPickT (by rfl) (by rfl)) rfl fun a ha => ?_ | refine pY ha (yPickF (by rfl) (by rfl)) rfl fun a ha => ?_ | refine pY ha (yPick (by rfl) (by rfl) (by rfl)) rfl fun a ha => ?_
                             first | refine pY ha (yPickT (by rfl) (by rfl)) rfl fun a ha => ?_ | refine pY ha (yPickF (by rfl) (by rfl)) rfl fun a ha => ?_ | refine pY ha (yPick (by rfl) (by rfl) (by rfl)) rfl fun a ha => ?_
                             refine pY ha (yMove (by rfl)) rfl fun a ha => ?_
                             refine gOn ha rfl rfl (by rfl) ?_
                             refine pC ha (nCall Tryd.call8 (by rfl)) rfl (awake_c hs) ?_
                             rintro v w ⟨rfl, hs⟩ a ha
                             first | refine pY ha (yPickT (by rfl) (by rfl)) rfl fun a ha => ?_ | refine pY ha (yPickF (by rfl) (by rfl)) rfl fun a ha => ?_ | refine pY ha (yPick (by rfl) (by rfl) (by rfl)) rfl fun a ha => ?_
                             refine pY ha (yAssign (by rfl)) rfl fun a ha => ?_
                             refine pZ ?_
                             refine hK25 _ _ ?_
                             refine wp_ret ?_
                             show bodyPost Tryd.prog Tryd.f5 _ .ret _ _
                             refine ret1 rfl ha (by rfl) ?_
                             repeat (first | exact ⟨rfl, hs⟩ | replace hs := Sep.drop hs))
                  · first
                    | (exfalso; omega)
                    | (rw [hg10] at ha
                       refine gOff ha rfl rfl (by rfl) rfl rfl fun a ha => ?_
                       refine gOff ha rfl rfl (by rfl) rfl rfl fun a ha => ?_
                       refine gOff ha rfl rfl (by rfl) rfl rfl fun a ha => ?_
                       refine gOn ha rfl rfl (by rfl) ?_
                       first | refine pY ha (yPickT (by rfl) (by rfl)) rfl fun a ha => ?_ | refine pY ha (yPickF (by rfl) (by rfl)) rfl fun a ha => ?_ | refine pY ha (yPick (by rfl) (by rfl) (by rfl)) rfl fun a ha => ?_
                       first | refine pY ha (yPickT (by rfl) (by rfl)) rfl fun a ha => ?_ | refine pY ha (yPickF (by rfl) (by rfl)) rfl fun a ha => ?_ | refine pY ha (yPick (by rfl) (by rfl) (by rfl)) rfl fun a ha => ?_
                       refine pY ha (yMove (by rfl)) rfl fun a ha => ?_
                       refine gOn ha rfl rfl (by rfl) ?_
                       refine pY ha (yMove (by rfl)) rfl fun a ha => ?_
                       refine gOn ha rfl rfl (by rfl) ?_
                       refine pY ha (yLeq (by rfl) (by rfl)) rfl fun a ha => ?_
                       refine gOn ha rfl rfl (by rfl) ?_
                       refine pY ha (yMove (by rfl)) rfl fun a ha => ?_
                       refine gDec (t := 145) ha (by rfl) (fun hg19 hp19 => ?_) (fun hg19 hp19 => ?_)
                       · first
                         | (exfalso; omega)
                         | (rw [hg19] at ha
                            refine gOn ha rfl rfl (by rfl) ?_
                            refine pY ha (yMove (by rfl)) rfl fun a ha => ?_
                            refine gOn ha rfl rfl (by rfl) ?_
                            refine pC ha (nCall Tryd.call31 (by rfl)) rfl (ErrK_c hs (by repeat first | exact .here | apply Pick.there)) ?_
                            rintro v w ⟨rfl, hs⟩ a ha
                            refine gOn ha rfl rfl (by rfl) ?_
                            refine pY ha (yEql (by rfl) (by rfl)) rfl fun a ha => ?_
                            refine gOn ha rfl rfl (by rfl) ?_
                            first | refine pY ha (yPickT (by rfl) (by rfl)) rfl fun a ha => ?_ | refine pY ha (yPickF (by rfl) (by rfl)) rfl fun a ha => ?_ | refine pY ha (yPick (by rfl) (by rfl) (by rfl)) rfl fun a ha => ?_
                            first | refine pY ha (yPickT (by rfl) (by rfl)) rfl fun a ha => ?_ | refine pY ha (yPickF (by rfl) (by rfl)) rfl fun a ha => ?_ | refine pY ha (yPick (by rfl) (by rfl) (by rfl)) rfl fun a ha => ?_
                            refine pY ha (yMove (by rfl)) rfl fun a ha => ?_
                            refine gSplit (t := 151) ha (by rfl) (fun hg25 => ?_) (fun hg25 => ?_)
                            · have q := of_decide_eq_false hg25; omega
                            · rw [hg25] at ha
                              refine gOn ha rfl rfl (by rfl) ?_
                              refine pY ha (yMove (by rfl)) rfl fun a ha => ?_
                              refine gOn ha rfl rfl (by rfl) ?_
                              refine pY ha (yEql (by rfl) (by rfl)) rfl fun a ha => ?_
                              refine gOn ha rfl rfl (by rfl) ?_
                              refine pY ha (yMove (by rfl)) rfl fun a ha => ?_
                              refine gDec (t := 154) ha (by rfl) (fun hg28 hp28 => ?_) (fun hg28 hp28 => ?_)
                              · rw [hg28] at ha
                                refine gOn ha rfl rfl (by rfl) ?_
                                refine pY ha (yMove (by rfl)) rfl fun a ha => ?_
                                refine gOn ha rfl rfl (by rfl) ?_
                                refine pY ha (yLenS Tryd.runUnderlying25 (by rfl)) rfl fun a ha => ?_
                                refine gOn ha rfl rfl (by rfl) ?_
                                refine pY ha (yGtr (by rfl) (by rfl)) rfl fun a ha => ?_
                                refine gOn ha rfl rfl (by rfl) ?_
                                first | refine pY ha (yPickT (by rfl) (by rfl)) rfl fun a ha => ?_ | refine pY ha (yPickF (by rfl) (by rfl)) rfl fun a ha => ?_ | refine pY ha (yPick (by rfl) (by rfl) (by rfl)) rfl fun a ha => ?_
                                refine gOn ha rfl rfl (by rfl) ?_
                                refine pY ha (yMove (by rfl)) rfl fun a ha => ?_
                                refine gSplit (t := 159) ha (by rfl) (fun hg33 => ?_) (fun hg33 => ?_)
                                · rw [hg33] at ha
                                  refine gOn ha rfl rfl (by rfl) ?_
                                  refine pY ha (yMove (by rfl)) rfl fun a ha => ?_
                                  refine gOn ha rfl rfl (by rfl) ?_
                                  refine pC ha (nCall Tryd.call31 (by rfl)) rfl (ErrK_c hs (by repeat first | exact .here | apply Pick.there)) ?_
                                  rintro v w ⟨rfl, hs⟩ a ha
                                  refine gOn ha rfl rfl (by rfl) ?_
                                  refine pY ha (yNeq (by rfl) (by rfl)) rfl fun a ha => ?_
                                  refine gOn ha rfl rfl (by rfl) ?_
                                  refine pY ha (yMove (by rfl)) rfl fun a ha => ?_
                                  refine gSplit (t := 163) ha (by rfl) (fun hg37 => ?_) (fun hg37 => ?_)
                                  · have q0 := of_decide_eq_false hg33; simp at hg37; omega
                                  · rw [hg37] at ha
                                    refine gOn ha rfl rfl (by rfl) ?_
                                    refine pY ha (yMove (by rfl)) rfl fun a ha => ?_
                                    refine gOn ha rfl rfl (by rfl) ?_
                                    refine pC ha (nCall Tryd.call31 (by rfl)) rfl (ErrK_c hs (by repeat first | exact .here | apply Pick.there)) ?_
                                    rintro v w ⟨rfl, hs⟩ a ha
                                    refine gOn ha rfl rfl (by rfl) ?_
                                    refine pY ha (yNeq (by rfl) (by rfl)) rfl fun a ha => ?_
                                    refine gOn ha rfl rfl (by rfl) ?_
                                    first | refine pY ha (yPickT (by rfl) (by rfl)) rfl fun a ha => ?_ | refine pY ha (yPickF (by rfl) (by rfl)) rfl fun a ha => ?_ | refine pY ha (yPick (by rfl) (by rfl) (by rfl)) rfl fun a ha => ?_
                                    refine gOn ha rfl rfl (by rfl) ?_
                                    refine pY ha (yMove (by rfl)) rfl fun a ha => ?_
                                    refine gSplit (t := 168) ha (by rfl) (fun hg42 => ?_) (fun hg42 => ?_)
                                    · have q0 := of_decide_eq_false hg33; simp at hg42; omega
                                    · rw [hg42] at ha
                                      refine gOn ha rfl rfl (by rfl) ?_
                                      refine pY ha (yMove (by rfl)) rfl fun a ha => ?_
                                      refine gOn ha rfl rfl (by rfl) ?_
                                      refine pC ha (nCall Tryd.call31 (by rfl)) rfl (ErrK_c hs (by repeat first | exact .here | apply Pick.there)) ?_
                                      rintro v w ⟨rfl, hs⟩ a ha
                                      refine gOn ha rfl rfl (by rfl) ?_
                                      refine pY ha (yNeq (by rfl) (by rfl)) rfl fun a ha => ?_
                                      refine gOn ha rfl rfl (by rfl) ?_
                                      first | refine pY ha (yPickT (by rfl) (by rfl)) rfl fun a ha => ?_ | refine pY ha (yPickF (by rfl) (by rfl)) rfl fun a ha => ?_ | refine pY ha (yPick (by rfl) (by rfl) (by rfl)) rfl fun a ha => ?_
                                      refine gOn ha rfl rfl (by rfl) ?_
                                      first | refine pY ha (yPickT (by rfl) (by rfl)) rfl fun a ha => ?_ | refine pY ha (yPickF (by rfl) (by rfl)) rfl fun a ha => ?_ | refine pY ha (yPick (by rfl) (by rfl) (by rfl)) rfl fun a ha => ?_
                                      first | refine pY ha (yPickT (by rfl) (by rfl)) rfl fun a ha => ?_ | refine pY ha (yPickF (by rfl) (by rfl)) rfl fun a ha => ?_ | refine pY ha (yPick (by rfl) (by rfl) (by rfl)) rfl fun a ha => ?_
                                      refine pY ha (yMove (by rfl)) rfl fun a ha => ?_
                                      refine gSplit (t := 175) ha (by rfl) (fun hg49 => ?_) (fun hg49 => ?_)
                                      · have q0 := of_decide_eq_false hg33; simp at hg49; omega
                                      · rw [hg49] at ha
                                        refine gOn ha rfl rfl (by rfl) ?_
                                        refine pC ha (nCall Tryd.call8 (by rfl)) rfl (awake_c hs) ?_
                                        rintro v w ⟨rfl, hs⟩ a ha
                                        first | refine pY ha (yPickT (by rfl) (by rfl)) rfl fun a ha => ?_ | refine pY ha (yPickF (by rfl) (by rfl)) rfl fun a ha => ?_ | refine pY ha (yPick (by rfl) (by rfl) (by rfl)) rfl fun a ha => ?_
                                        refine pY ha (yAssign (by rfl)) rfl fun a ha => ?_
                                        refine pZ ?_
                                        refine hK25 _ _ ?_
                                        refine wp_ret ?_
                                        show bodyPost Tryd.prog Tryd.f5 _ .ret _ _
                                        refine ret1 rfl ha (by rfl) ?_
                                        repeat (first | exact ⟨rfl, hs⟩ | replace hs := Sep.drop hs)
                                · rw [hg33] at ha
                                  refine gOff ha rfl rfl (by rfl) rfl rfl fun a ha => ?_
                                  refine gOff ha rfl rfl (by rfl) rfl rfl fun a ha => ?_
                                  refine gOff ha rfl rfl (by rfl) rfl rfl fun a ha => ?_
                                  refine gOff ha rfl rfl (by rfl) rfl rfl fun a ha => ?_
                                  refine gOffU ha rfl rfl (by rfl) rfl fun a ha => ?_
                                  refine gOffU ha rfl rfl (by rfl) rfl fun a ha => ?_
                                  refine gOffU ha rfl rfl (by rfl) rfl fun a ha => ?_
                                  refine gOff ha rfl rfl (by rfl) rfl rfl fun a ha => ?_
                                  refine gOff ha rfl rfl (by rfl) rfl rfl fun a ha => ?_
                                  refine gOffU ha rfl rfl (by rfl) rfl fun a ha => ?_
                                  refine gOffU ha rfl rfl (by rfl) rfl fun a ha => ?_
                                  refine gOffU ha rfl rfl (by rfl) rfl fun a ha => ?_
                                  refine gOff ha rfl rfl (by rfl) rfl rfl fun a ha => ?_
                                  refine gOn ha rfl rfl (by rfl) ?_
                                  first | refine pY ha (yPickT (by rfl) (by rfl)) rfl fun a ha => ?_ | refine pY ha (yPickF (by rfl) (by rfl)) rfl fun a ha => ?_ | refine pY ha (yPick (by rfl) (by rfl) (by rfl)) rfl fun a ha => ?_
                                  first | refine pY ha (yPickT (by rfl) (by rfl)) rfl fun a ha => ?_ | refine pY ha (yPickF (by rfl) (by rfl)) rfl fun a ha => ?_ | refine pY ha (yPick (by rfl) (by rfl) (by rfl)) rfl fun a ha => ?_
                                  refine pY ha (yMove (by rfl)) rfl fun a ha => ?_
                                  refine gOn ha rfl rfl (by rfl) ?_
                                  refine pC ha (nCall Tryd.call8 (by rfl)) rfl (awake_c hs) ?_
                                  rintro v w ⟨rfl, hs⟩ a ha
                                  first | refine pY ha (yPickT (by rfl) (by rfl)) rfl fun a ha => ?_ | refine pY ha (yPickF (by rfl) (by rfl)) rfl fun a ha => ?_ | refine pY ha (yPick (by rfl) (by rfl) (by rfl)) rfl fun a ha => ?_
                                  refine pY ha (yAssign (by rfl)) rfl fun a ha => ?_
                                  refine pZ ?_
                                  refine hK25 _ _ ?_
                                  refine wp_ret ?_
                                  show bodyPost Tryd.prog Tryd.f5 _ .ret _ _
                                  refine ret1 rfl ha (by rfl) ?_
                                  repeat (first | exact ⟨rfl, hs⟩ | replace hs := Sep.drop hs)
                              · rw [hg28] at ha
                                refine gOff ha rfl rfl (by rfl) rfl rfl fun a ha => ?_
                                refine gOff ha rfl rfl (by rfl) rfl rfl fun a ha => ?_
                                refine gOff ha rfl rfl (by rfl) rfl rfl fun a ha => ?_
                                refine gOn ha rfl rfl (by rfl) ?_
                                first | refine pY ha (yPickT (by rfl) (by rfl)) rfl fun a ha => ?_ | refine pY ha (yPickF (by rfl) (by rfl)) rfl fun a ha => ?_ | refine pY ha (yPick (by rfl) (by rfl) (by rfl)) rfl fun a ha => ?_
                                refine gOn ha rfl rfl (by rfl) ?_
                                refine pY ha (yMove (by rfl)) rfl fun a ha => ?_
                                refine gOff ha rfl rfl (by rfl) rfl rfl fun a ha => ?_
                                refine gOff ha rfl rfl (by rfl) rfl rfl fun a ha => ?_
                                refine gOff ha rfl rfl (by rfl) rfl rfl fun a ha => ?_
                                refine gOff ha rfl rfl (by rfl) rfl rfl fun a ha => ?_
                                refine gOffU ha rfl rfl (by rfl) rfl fun a ha => ?_
                                refine gOffU ha rfl rfl (by rfl) rfl fun a ha => ?_
                                refine gOffU ha rfl rfl (by rfl) rfl fun a ha => ?_
                                refine gOff ha rfl rfl (by rfl) rfl rfl fun a ha => ?_
                                refine gOff ha rfl rfl (by rfl) rfl rfl fun a ha => ?_
                                refine gOffU ha rfl rfl (by rfl) rfl fun a ha => ?_
                                refine gOffU ha rfl rfl (by rfl) rfl fun a ha => ?_
                                refine gOffU ha rfl rfl (by rfl) rfl fun a ha => ?_
                                refine gOff ha rfl rfl (by rfl) rfl rfl fun a ha => ?_
                                refine gOn ha rfl rfl (by rfl) ?_
                                first | refine pY ha (yPickT (by rfl) (by rfl)) rfl fun a ha => ?_ | refine pY ha (yPickF (by rfl) (by rfl)) rfl fun a ha => ?_ | refine pY ha (yPick (by rfl) (by rfl) (by rfl)) rfl fun a ha => ?_
                                first | refine pY ha (yPickT (by rfl) (by rfl)) rfl fun a ha => ?_ | refine pY ha (yPickF (by rfl) (by rfl)) rfl fun a ha => ?_ | refine pY ha (yPick (by rfl) (by rfl) (by rfl)) rfl fun a ha => ?_
                                refine pY ha (yMove (by rfl)) rfl fun a ha => ?_
                                refine gOn ha rfl rfl (by rfl) ?_
                                refine pC ha (nCall Tryd.call8 (by rfl)) rfl (awake_c hs) ?_
                                rintro v w ⟨rfl, hs⟩ a ha
                                first | refine pY ha (yPickT (by rfl) (by rfl)) rfl fun a ha => ?_ | refine pY ha (yPickF (by rfl) (by rfl)) rfl fun a ha => ?_ | refine pY ha (yPick (by rfl) (by rfl) (by rfl)) rfl fun a ha => ?_
                                refine pY ha (yAssign (by rfl)) rfl fun a ha => ?_
                                refine pZ ?_
                                refine hK25 _ _ ?_
                                refine wp_ret ?_
                                show bodyPost Tryd.prog Tryd.f5 _ .ret _ _
                                refine ret1 rfl ha (by rfl) ?_
                                repeat (first | exact ⟨rfl, hs⟩ | replace hs := Sep.drop hs))
                       · first
                         | (exfalso; omega)
                         | (rw [hg19] at ha
                            refine gOff ha rfl rfl (by rfl) rfl rfl fun a ha => ?_
                            refine gOff ha rfl rfl (by rfl) rfl rfl fun a ha => ?_
                            refine gOff ha rfl rfl (by rfl) rfl rfl fun a ha => ?_
                            refine gOn ha rfl rfl (by rfl) ?_
                            first | refine pY ha (yPickT (by rfl) (by rfl)) rfl fun a ha => ?_ | refine pY ha (yPickF (by rfl) (by rfl)) rfl fun a ha => ?_ | refine pY ha (yPick (by rfl) (by rfl) (by rfl)) rfl fun a ha => ?_
                            first | refine pY ha (yPickT (by rfl) (by rfl)) rfl fun a ha => ?_ | refine pY ha (yPickF (by rfl) (by rfl)) rfl fun a ha => ?_ | refine pY ha (yPick (by rfl) (by rfl) (by rfl)) rfl fun a ha => ?_
                            refine pY ha (yMove (by rfl)) rfl fun a ha => ?_
                            refine gOn ha rfl rfl (by rfl) ?_
                            refine pY ha (yMove (by rfl)) rfl fun a ha => ?_
                            refine gOn ha rfl rfl (by rfl) ?_
                            refine pY ha (yEql (by rfl) (by rfl)) rfl fun a ha => ?_
                            refine gOn ha rfl rfl (by rfl) ?_
                            refine pY ha (yMove (by rfl)) rfl fun a ha => ?_
                            refine gDec (t := 154) ha (by rfl) (fun hg28 hp28 => ?_) (fun hg28 hp28 => ?_)
                            · rw [hg28] at ha
                              refine gOn ha rfl rfl (by rfl) ?_
                              refine pY ha (yMove (by rfl)) rfl fun a ha => ?_
                              refine gOn ha rfl rfl (by rfl) ?_
                              refine pY ha (yLenS Tryd.runUnderlying25 (by rfl)) rfl fun a ha => ?_
                              refine gOn ha rfl rfl (by rfl) ?_
                              refine pY ha (yGtr (by rfl) (by rfl)) rfl fun a ha => ?_
                              refine gOn ha rfl rfl (by rfl) ?_
                              first | refine pY ha (yPickT (by rfl) (by rfl)) rfl fun a ha => ?_ | refine pY ha (yPickF (by rfl) (by rfl)) rfl fun a ha => ?_ | refine pY ha (yPick (by rfl) (by rfl) (by rfl)) rfl fun a ha => ?_
                              refine gOn ha rfl rfl (by rfl) ?_
                              refine pY ha (yMove (by rfl)) rfl fun a ha => ?_
                              refine gSplit (t := 159) ha (by rfl) (fun hg33 => ?_) (fun hg33 => ?_)
                              · rw [hg33] at ha
                                refine gOn ha rfl rfl (by rfl) ?_
                                refine pY ha (yMove (by rfl)) rfl fun a ha => ?_
                                refine gOn ha rfl rfl (by rfl) ?_
                                refine pC ha (nCall Tryd.call31 (by rfl)) rfl (ErrK_c hs (by repeat first | exact .here | apply Pick.there)) ?_
                                rintro v w ⟨rfl, hs⟩ a ha
                                refine gOn ha rfl rfl (by rfl) ?_
                                refine pY ha (yNeq (by rfl) (by rfl)) rfl fun a ha => ?_
                                refine gOn ha rfl rfl (by rfl) ?_
                                refine pY ha (yMove (by rfl)) rfl fun a ha => ?_
                                refine gSplit (t := 163) ha (by rfl) (fun hg37 => ?_) (fun hg37 => ?_)
                                · have q0 := of_decide_eq_false hg33; simp at hg37; omega
                                · rw [hg37] at ha
                                  refine gOn ha rfl rfl (by rfl) ?_
                                  refine pY ha (yMove (by rfl)) rfl fun a ha => ?_
                                  refine gOn ha rfl rfl (by rfl) ?_
                                  refine pC ha (nCall Tryd.call31 (by rfl)) rfl (ErrK_c hs (by repeat first | exact .here | apply Pick.there)) ?_
                                  rintro v w ⟨rfl, hs⟩ a ha
                                  refine gOn ha rfl rfl (by rfl) ?_
                                  refine pY ha (yNeq (by rfl) (by rfl)) rfl fun a ha => ?_
                                  refine gOn ha rfl rfl (by rfl) ?_
                                  first | refine pY ha (yPickT (by rfl) (by rfl)) rfl fun a ha => ?_ | refine pY ha (yPickF (by rfl) (by rfl)) rfl fun a ha => ?_ | refine pY ha (yPick (by rfl) (by rfl) (by rfl)) rfl fun a ha => ?_
                                  refine gOn ha rfl rfl (by rfl) ?_
                                  refine pY ha (yMove (by rfl)) rfl fun a ha => ?_
                                  refine gSplit (t := 168) ha (by rfl) (fun hg42 => ?_) (fun hg42 => ?_)
                                  · have q0 := of_decide_eq_false hg33; simp at hg42; omega
                                  · rw [hg42] at ha
                                    refine gOn ha rfl rfl (by rfl) ?_
                                    refine pY ha (yMove (by rfl)) rfl fun a ha => ?_
                                    refine gOn ha rfl rfl (by rfl) ?_
                                    refine pC ha (nCall Tryd.call31 (by rfl)) rfl (ErrK_c hs (by repeat first | exact .here | apply Pick.there)) ?_
                                    rintro v w ⟨rfl, hs⟩ a ha
                                    refine gOn ha rfl rfl (by rfl) ?_
                                    refine pY ha (yNeq (by rfl) (by rfl)) rfl fun a ha => ?_
                                    refine gOn ha rfl rfl (by rfl) ?_
                                    first | refine pY ha (yPickT (by rfl) (by rfl)) rfl fun a ha => ?_ | refine pY ha (yPickF (by rfl) (by rfl)) rfl fun a ha => ?_ | refine pY ha (yPick (by rfl) (by rfl) (by rfl)) rfl fun a ha => ?_
                                    refine gOn ha rfl rfl (by rfl) ?_
                                    first | refine pY ha (yPickT (by rfl) (by rfl)) rfl fun a ha => ?_ | refine pY ha (yPickF (by rfl) (by rfl)) rfl fun a ha => ?_ | refine pY ha (yPick (by rfl) (by rfl) (by rfl)) rfl fun a ha => ?_
                                    first | refine pY ha (yPickT (by rfl) (by rfl)) rfl fun a ha => ?_ | refine pY ha (yPickF (by rfl) (by rfl)) rfl fun a ha => ?_ | refine pY ha (yPick (by rfl) (by rfl) (by rfl)) rfl fun a ha => ?_
                                    refine pY ha (yMove (by rfl)) rfl fun a ha => ?_
                                    refine gSplit (t := 175) ha (by rfl) (fun hg49 => ?_) (fun hg49 => ?_)
                                    · have q0 := of_decide_eq_false hg33; simp at hg49; omega
                                    · rw [hg49] at ha
                                      refine gOn ha rfl rfl (by rfl) ?_
                                      refine pC ha (nCall Tryd.call8 (by rfl)) rfl (awake_c hs) ?_
                                      rintro v w ⟨rfl, hs⟩ a ha
                                      first | refine pY ha (yPickT (by rfl) (by rfl)) rfl fun a ha => ?_ | refine pY ha (yPickF (by rfl) (by rfl)) rfl fun a ha => ?_ | refine pY ha (yPick (by rfl) (by rfl) (by rfl)) rfl fun a ha => ?_
                                      refine pY ha (yAssign (by rfl)) rfl fun a ha => ?_
                                      refine pZ ?_
                                      refine hK25 _ _ ?_
                                      refine wp_ret ?_
                                      show bodyPost Tryd.prog Tryd.f5 _ .ret _ _
                                      refine ret1 rfl ha (by rfl) ?_
                                      repeat (first | exact ⟨rfl, hs⟩ | replace hs := Sep.drop hs)
                              · rw [hg33] at ha
                                refine gOff ha rfl rfl (by rfl) rfl rfl fun a ha => ?_
                                refine gOff ha rfl rfl (by rfl) rfl rfl fun a ha => ?_
                                refine gOff ha rfl rfl (by rfl) rfl rfl fun a ha => ?_
                                refine gOff ha rfl rfl (by rfl) rfl rfl fun a ha => ?_
                                refine gOffU ha rfl rfl (by rfl) rfl fun a ha => ?_
                                refine gOffU ha rfl rfl (by rfl) rfl fun a ha => ?_
                                refine gOffU ha rfl rfl (by rfl) rfl fun a ha => ?_
                                refine gOff ha rfl rfl (by rfl) rfl rfl fun a ha => ?_
                                refine gOff ha rfl rfl (by rfl) rfl rfl fun a ha => ?_
                                refine gOffU ha rfl rfl (by rfl) rfl fun a ha => ?_
                                refine gOffU ha rfl rfl (by rfl) rfl fun a ha => ?_
                                refine gOffU ha rfl rfl (by rfl) rfl fun a ha => ?_
                                refine gOff ha rfl rfl (by rfl) rfl rfl fun a ha => ?_
                                refine gOn ha rfl rfl (by rfl) ?_
                                first | refine pY ha (yPickT (by rfl) (by rfl)) rfl fun a ha => ?_ | refine pY ha (yPickF (by rfl) (by rfl)) rfl fun a ha => ?_ | refine pY ha (yPick (by rfl) (by rfl) (by rfl)) rfl fun a ha => ?_
                                first | refine pY ha (yPickT (by rfl) (by rfl)) rfl fun a ha => ?_ | refine pY ha (yPickF (by rfl) (by rfl)) rfl fun a ha => ?_ | refine pY ha (yPick (by rfl) (by rfl) (by rfl)) rfl fun a ha => ?_
                                refine pY ha (yMove (by rfl)) rfl fun a ha => ?_
                                refine gOn ha rfl rfl (by rfl) ?_
                                refine pC ha (nCall Tryd.call8 (by rfl)) rfl (awake_c hs) ?_
                                rintro v w ⟨rfl, hs⟩ a ha
                                first | refine pY ha (yPickT (by rfl) (by rfl)) rfl fun a ha => ?_ | refine pY ha (yPickF (by rfl) (by rfl)) rfl fun a ha => ?_ | refine pY ha (yPick (by rfl) (by rfl) (by rfl)) rfl fun a ha => ?_
                                refine pY ha (yAssign (by rfl)) rfl fun a ha => ?_
                                refine pZ ?_
                                refine hK25 _ _ ?_
                                refine wp_ret ?_
                                show bodyPost Tryd.prog Tryd.f5 _ .ret _ _
                                refine ret1 rfl ha (by rfl) ?_
                                repeat (first | exact ⟨rfl, hs⟩ | replace hs := Sep.drop hs)
                            · rw [hg28] at ha
                              refine gOff ha rfl rfl (by rfl) rfl rfl fun a ha => ?_
                              refine gOff ha rfl rfl (by rfl) rfl rfl fun a ha => ?_
                              refine gOff ha rfl rfl (by rfl) rfl rfl fun a ha => ?_
                              refine gOn ha rfl rfl (by rfl) ?_
                              first | refine pY ha (yPickT (by rfl) (by rfl)) rfl fun a ha => ?_ | refine pY ha (yPickF (by rfl) (by rfl)) rfl fun a ha => ?_ | refine pY ha (yPick (by rfl) (by rfl) (by rfl)) rfl fun a ha => ?_
                              refine gOn ha rfl rfl (by rfl) ?_
                              refine pY ha (yMove (by rfl)) rfl fun a ha => ?_
                              refine gOff ha rfl rfl (by rfl) rfl rfl fun a ha => ?_
                              refine gOff ha rfl rfl (by rfl) rfl rfl fun a ha => ?_
                              refine gOff ha rfl rfl (by rfl) rfl rfl fun a ha => ?_
                              refine gOff ha rfl rfl (by rfl) rfl rfl fun a ha => ?_
                              refine gOffU ha rfl rfl (by rfl) rfl fun a ha => ?_
                              refine gOffU ha rfl rfl (by rfl) rfl fun a ha => ?_
                              refine gOffU ha rfl rfl (by rfl) rfl fun a ha => ?_
                              refine gOff ha rfl rfl (by rfl) rfl rfl fun a ha => ?_
                              refine gOff ha rfl rfl (by rfl) rfl rfl fun a ha => ?_
                              refine gOffU ha rfl rfl (by rfl) rfl fun a ha => ?_
                              refine gOffU ha rfl rfl (by rfl) rfl fun a ha => ?_
                              refine gOffU ha rfl rfl (by rfl) rfl fun a ha => ?_
                              refine gOff ha rfl rfl (by rfl) rfl rfl fun a ha => ?_
                              refine gOn ha rfl rfl (by rfl) ?_
                              first | refine pY ha (yPickT (by rfl) (by rfl)) rfl fun a ha => ?_ | refine pY ha (yPickF (by rfl) (by rfl)) rfl fun a ha => ?_ | refine pY ha (yPick (by rfl) (by rfl) (by rfl)) rfl fun a ha => ?_
                              first | refine pY ha (yPickT (by rfl) (by rfl)) rfl fun a ha => ?_ | refine pY ha (yPickF (by rfl) (by rfl)) rfl fun a ha => ?_ | refine pY ha (yPick (by rfl) (by rfl) (by rfl)) rfl fun a ha => ?_
                              refine pY ha (yMove (by rfl)) rfl fun a ha => ?_
                              refine gOn ha rfl rfl (by rfl) ?_
                              refine pC ha (nCall Tryd.call8 (by rfl)) rfl (awake_c hs) ?_
                              rintro v w ⟨rfl, hs⟩ a ha
                              first | refine pY ha (yPickT (by rfl) (by rfl)) rfl fun a ha => ?_ | refine pY ha (yPickF (by rfl) (by rfl)) rfl fun a ha => ?_ | refine pY ha (yPick (by rfl) (by rfl) (by rfl)) rfl fun a ha => ?_
                              refine pY ha (yAssign (by rfl)) rfl fun a ha => ?_
                              refine pZ ?_
                              refine hK25 _ _ ?_
                              refine wp_ret ?_
                              show bodyPost Tryd.prog Tryd.f5 _ .ret _ _
                              refine ret1 rfl ha (by rfl) ?_
                              repeat (first | exact ⟨rfl, hs⟩ | replace hs := Sep.drop hs)))
              · rw [hg2] at ha
                refine gOff ha rfl rfl (by rfl) rfl rfl fun a ha => ?_
                refine gOff ha rfl rfl (by rfl) rfl rfl fun a ha => ?_
                refine gOff ha rfl rfl (by rfl) rfl rfl fun a ha => ?_
                first | refine pY ha (yPickT (by rfl) (by rfl)) rfl fun a ha => ?_ | refine pY ha (yPickF (by rfl) (by rfl)) rfl fun a ha => ?_ | refine pY ha (yPick (by rfl) (by rfl) (by rfl)) rfl fun a ha => ?_
                refine pY ha (yMove (by rfl)) rfl fun a ha => ?_
                refine gOn ha rfl rfl (by rfl) ?_
                refine pY ha (yMove (by rfl)) rfl fun a ha => ?_
                refine gOn ha rfl rfl (by rfl) ?_
                refine pY ha (yLeq (by rfl) (by rfl)) rfl fun a ha => ?_
                refine gOn ha rfl rfl (by rfl) ?_
                refine pY ha (yMove (by rfl)) rfl fun a ha => ?_
                refine gDec (t := 136) ha (by rfl) (fun hg10 hp10 => ?_) (fun hg10 hp10 => ?_)
                · rw [hg10] at ha
                  refine gOn ha rfl rfl (by rfl) ?_
                  refine pY ha (yMove (by rfl)) rfl fun a ha => ?_
                  refine gOn ha rfl rfl (by rfl) ?_
                  refine pC ha (nCall Tryd.call31 (by rfl)) rfl (ErrK_c hs (by repeat first | exact .here | apply Pick.there)) ?_
                  rintro v w ⟨rfl, hs⟩ a ha
                  refine gOn ha rfl rfl (by rfl) ?_
                  refine pY ha (yEql (by rfl) (by rfl)) rfl fun a ha => ?_
                  refine gOn ha rfl rfl (by rfl) ?_
                  first | refine pY ha (yPickT (by rfl) (by rfl)) rfl fun a ha => ?_ | refine pY ha (yPickF (by rfl) (by rfl)) rfl fun a ha => ?_ | refine pY ha (yPick (by rfl) (by rfl) (by rfl)) rfl fun a ha => ?_
                  first | refine pY ha (yPickT (by rfl) (by rfl)) rfl fun a ha => ?_ | refine pY ha (yPickF (by rfl) (by rfl)) rfl fun a ha => ?_ | refine pY ha (yPick (by rfl) (by rfl) (by rfl)) rfl fun a ha => ?_
                  refine pY ha (yMove (by rfl)) rfl fun a ha => ?_
                  refine gSplit (t := 142) ha (by rfl) (fun hg16 => ?_) (fun hg16 => ?_)
                  · have q := of_decide_eq_false hg16; omega
                  · rw [hg16] at ha
                    refine gOn ha rfl rfl (by rfl) ?_
                    refine pY ha (yMove (by rfl)) rfl fun a ha => ?_
                    refine gOn ha rfl rfl (by rfl) ?_
                    refine pY ha (yLeq (by rfl) (by rfl)) rfl fun a ha => ?_
                    refine gOn ha rfl rfl (by rfl) ?_
                    refine pY ha (yMove (by rfl)) rfl fun a ha => ?_
                    refine gDec (t := 145) ha (by rfl) (fun hg19 hp19 => ?_) (fun hg19 hp19 => ?_)
                    · first
                      | (exfalso; omega)
                      | (rw [hg19] at ha
                         refine gOn ha rfl rfl (by rfl) ?_
                         refine pY ha (yMove (by rfl)) rfl fun a ha => ?_
                         refine gOn ha rfl rfl (by rfl) ?_
                         refine pC ha (nCall Tryd.call31 (by rfl)) rfl (ErrK_c hs (by repeat first | exact .here | apply Pick.there)) ?_
                         rintro v w ⟨rfl, hs⟩ a ha
                         refine gOn ha rfl rfl (by rfl) ?_
                         refine pY ha (yEql (by rfl) (by rfl)) rfl fun a ha => ?_
                         refine gOn ha rfl rfl (by rfl) ?_
                         first | refine pY ha (yPickT (by rfl) (by rfl)) rfl fun a ha => ?_ | refine pY ha (yPickF (by rfl) (by rfl)) rfl fun a ha => ?_ | refine pY ha (yPick (by rfl) (by rfl) (by rfl)) rfl fun a ha => ?_
                         first | refine pY ha (yPickT (by rfl) (by rfl)) rfl fun a ha => ?_ | refine pY ha (yPickF (by rfl) (by rfl)) rfl fun a ha => ?_ | refine pY ha (yPick (by rfl) (by rfl) (by rfl)) rfl fun a ha => ?_
                         refine pY ha (yMove (by rfl)) rfl fun a ha => ?_
                         refine gSplit (t := 151) ha (by rfl) (fun hg25 => ?_) (fun hg25 => ?_)
                         · have q := of_decide_eq_false hg25; omega
                         · rw [hg25] at ha
                           refine gOn ha rfl rfl (by rfl) ?_
                           refine pY ha (yMove (by rfl)) rfl fun a ha => ?_
                           refine gOn ha rfl rfl (by rfl) ?_
                           refine pY ha (yEql (by rfl) (by rfl)) rfl fun a ha => ?_
                           refine gOn ha rfl rfl (by rfl) ?_
                           refine pY ha (yMove (by rfl)) rfl fun a ha => ?_
                           refine gDec (t := 154) ha (by rfl) (fun hg28 hp28 => ?_) (fun hg28 hp28 => ?_)
                           · rw [hg28] at ha
                             refine gOn ha rfl rfl (by rfl) ?_
                             refine pY ha (yMove (by rfl)) rfl fun a ha => ?_
                             refine gOn ha rfl rfl (by rfl) ?_
                             refine pY ha (yLenS Tryd.runUnderlying25 (by rfl)) rfl fun a ha => ?_
                             refine gOn ha rfl rfl (by rfl) ?_
                             refine pY ha (yGtr (by rfl) (by rfl)) rfl fun a ha => ?_
                             refine gOn ha rfl rfl (by rfl) ?_
                             first | refine pY ha (yPickT (by rfl) (by rfl)) rfl fun a ha => ?_ | refine pY ha (yPickF (by rfl) (by rfl)) rfl fun a ha => ?_ | refine pY ha (yPick (by rfl) (by rfl) (by rfl)) rfl fun a ha => ?_
                             refine gOn ha rfl rfl (by rfl) ?_
                             refine pY ha (yMove (by rfl)) rfl fun a ha => ?_
                             refine gSplit (t := 159) ha (by rfl) (fun hg33 => ?_) (fun hg33 => ?_)
                             · rw [hg33] at ha
                               refine gOn ha rfl rfl (by rfl) ?_
                               refine pY ha (yMove (by rfl)) rfl fun a ha => ?_
                               refine gOn ha rfl rfl (by rfl) ?_
                               refine pC ha (nCall Tryd.call31 (by rfl)) rfl (ErrK_c hs (by repeat first | exact .here | apply Pick.there)) ?_
                               rintro v w ⟨rfl, hs⟩ a ha
                               refine gOn ha rfl rfl (by rfl) ?_
                               refine pY ha (yNeq (by rfl) (by rfl)) rfl fun a ha => ?_
                               refine gOn ha rfl rfl (by rfl) ?_
                               refine pY ha (yMove (by rfl)) rfl fun a ha => ?_
                               refine gSplit (t := 163) ha (by rfl) (fun hg37 => ?_) (fun hg37 => ?_)
                               · have q0 := of_decide_eq_false hg33; simp at hg37; omega
                               · rw [hg37] at ha
                                 refine gOn ha rfl rfl (by rfl) ?_
                                 refine pY ha (yMove (by rfl)) rfl fun a ha => ?_
                                 refine gOn ha rfl rfl (by rfl) ?_
                                 refine pC ha (nCall Tryd.call31 (by rfl)) rfl (ErrK_c hs (by repeat first | exact .here | apply Pick.there)) ?_
                                 rintro v w ⟨rfl, hs⟩ a ha
                                 refine gOn ha rfl rfl (by rfl) ?_
                                 refine pY ha (yNeq (by rfl) (by rfl)) rfl fun a ha => ?_
                                 refine gOn ha rfl rfl (by rfl) ?_
                                 first | refine pY ha (yPickT (by rfl) (by rfl)) rfl fun a ha => ?_ | refine pY ha (yPickF (by rfl) (by rfl)) rfl fun a ha => ?_ | refine pY ha (yPick (by rfl) (by rfl) (by rfl)) rfl fun a ha => ?_
                                 refine gOn ha rfl rfl (by rfl) ?_
                                 refine pY ha (yMove (by rfl)) rfl fun a ha => ?_
                                 refine gSplit (t := 168) ha (by rfl) (fun hg42 => ?_) (fun hg42 => ?_)
                                 · have q0 := of_decide_eq_false hg33; simp at hg42; omega
                                 · rw [hg42] at ha
                                   refine gOn ha rfl rfl (by rfl) ?_
                                   refine pY ha (yMove (by rfl)) rfl fun a ha => ?_
                                   refine gOn ha rfl rfl (by rfl) ?_
                                   refine pC ha (nCall Tryd.call31 (by rfl)) rfl (ErrK_c hs (by repeat first | exact .here | apply Pick.there)) ?_
                                   rintro v w ⟨rfl, hs⟩ a ha
                                   refine gOn ha rfl rfl (by rfl) ?_
                                   refine pY ha (yNeq (by rfl) (by rfl)) rfl fun a ha => ?_
                                   refine gOn ha rfl rfl (by rfl) ?_
                                   first | refine pY ha (yPickT (by rfl) (by rfl)) rfl fun a ha => ?_ | refine pY ha (yPickF (by rfl) (by rfl)) rfl fun a ha => ?_ | refine pY ha (yPick (by rfl) (by rfl) (by rfl)) rfl fun a ha => ?_
                                   refine gOn ha rfl rfl (by rfl) ?_
                                   first | refine pY ha (yPickT (by rfl) (by rfl)) rfl fun a ha => ?_ | refine pY ha (yPickF (by rfl) (by rfl)) rfl fun a ha => ?_ | refine pY ha (yPick (by rfl) (by rfl) (by rfl)) rfl fun a ha => ?_
                                   first | refine pY ha (yPickT (by rfl) (by rfl)) rfl fun a ha => ?_ | refine pY ha (yPickF (by rfl) (by rfl)) rfl fun a ha => ?_ | refine pY ha (yPick (by rfl) (by rfl) (by rfl)) rfl fun a ha => ?_
                                   refine pY ha (yMove (by rfl)) rfl fun a ha => ?_
                                   refine gSplit (t := 175) ha (by rfl) (fun hg49 => ?_) (fun hg49 => ?_)
                                   · have q0 := of_decide_eq_false hg33; simp at hg49; omega
                                   · rw [hg49] at ha
                                     refine gOn ha rfl rfl (by rfl) ?_
                                     refine pC ha (nCall Tryd.call8 (by rfl)) rfl (awake_c hs) ?_
                                     rintro v w ⟨rfl, hs⟩ a ha
                                     first | refine pY ha (yPickT (by rfl) (by rfl)) rfl fun a ha => ?_ | refine pY ha (yPickF (by rfl) (by rfl)) rfl fun a ha => ?_ | refine pY ha (yPick (by rfl) (by rfl) (by rfl)) rfl fun a ha => ?_
                                     refine pY ha (yAssign (by rfl)) rfl fun a ha => ?_
                                     refine pZ ?_
                                     refine hK25 _ _ ?_
                                     refine wp_ret ?_
                                     show bodyPost Tryd.prog Tryd.f5 _ .ret _ _
                                     refine ret1 rfl ha (by rfl) ?_
                                     repeat (first | exact ⟨rfl, hs⟩ | replace hs := Sep.drop hs)
                             · rw [hg33] at ha
                               refine gOff ha rfl rfl (by rfl) rfl rfl fun a ha => ?_
                               refine gOff ha rfl rfl (by rfl) rfl rfl fun a ha => ?_
                               refine gOff ha rfl rfl (by rfl) rfl rfl fun a ha => ?_
                               refine gOff ha rfl rfl (by rfl) rfl rfl fun a ha => ?_
                               refine gOffU ha rfl rfl (by rfl) rfl fun a ha => ?_
                               refine gOffU ha rfl rfl (by rfl) rfl fun a ha => ?_
                               refine gOffU ha rfl rfl (by rfl) rfl fun a ha => ?_
                               refine gOff ha rfl rfl (by rfl) rfl rfl fun a ha => ?_
                               refine gOff ha rfl rfl (by rfl) rfl rfl fun a ha => ?_
                               refine gOffU ha rfl rfl (by rfl) rfl fun a ha => ?_
                               refine gOffU ha rfl rfl (by rfl) rfl fun a ha => ?_
                               refine gOffU ha rfl rfl (by rfl) rfl fun a ha => ?_
                               refine gOff ha rfl rfl (by rfl) rfl rfl fun a ha => ?_
                               refine gOn ha rfl rfl (by rfl) ?_
                               first | refine pY ha (yPickT (by rfl) (by rfl)) rfl fun a ha => ?_ | refine pY ha (yPickF (by rfl) (by rfl)) rfl fun a ha => ?_ | refine pY ha (yPick (by rfl) (by rfl) (by rfl)) rfl fun a ha => ?_
                               first | refine pY ha (yPickT (by rfl) (by rfl)) rfl fun a ha => ?_ | refine pY ha (yPickF (by rfl) (by rfl)) rfl fun a ha => ?_ | refine pY ha (yPick (by rfl) (by rfl) (by rfl)) rfl fun a ha => ?_
                               refine pY ha (yMove (by rfl)) rfl fun a ha => ?_
                               refine gOn ha rfl rfl (by rfl) ?_
                               refine pC ha (nCall Tryd.call8 (by rfl)) rfl (awake_c hs) ?_
                               rintro v w ⟨rfl, hs⟩ a ha
                               first | refine pY ha (yPickT (by rfl) (by rfl)) rfl fun a ha => ?_ | refine pY ha (yPickF (by rfl) (by rfl)) rfl fun a ha => ?_ | refine pY ha (yPick (by rfl) (by rfl) (by rfl)) rfl fun a ha => ?_
                               refine pY ha (yAssign (by rfl)) rfl fun a ha => ?_
                               refine pZ ?_
                               refine hK25 _ _ ?_
                               refine wp_ret ?_
                               show bodyPost Tryd.prog Tryd.f5 _ .ret _ _
                               refine ret1 rfl ha (by rfl) ?_
                               repeat (first | exact ⟨rfl, hs⟩ | replace hs := Sep.drop hs)
                           · rw [hg28] at ha
                             refine gOff ha rfl rfl (by rfl) rfl rfl fun a ha => ?_
                             refine gOff ha rfl rfl (by rfl) rfl rfl fun a ha => ?_
                             refine gOff ha rfl rfl (by rfl) rfl rfl fun a ha => ?_
                             refine gOn ha rfl rfl (by rfl) ?_
                             first | refine pY ha (yPickT (by rfl) (by rfl)) rfl fun a ha => ?_ | refine pY ha (yPickF (by rfl) (by rfl)) rfl fun a ha => ?_ | refine pY ha (yPick (by rfl) (by rfl) (by rfl)) rfl fun a ha => ?_
                             refine gOn ha rfl rfl (by rfl) ?_
                             refine pY ha (yMove (by rfl)) rfl fun a ha => ?_
                             refine gOff ha rfl rfl (by rfl) rfl rfl fun a ha => ?_
                             refine gOff ha rfl rfl (by rfl) rfl rfl fun a ha => ?_
                             refine gOff ha rfl rfl (by rfl) rfl rfl fun a ha => ?_
                             refine gOff ha rfl rfl (by rfl) rfl rfl fun a ha => ?_
                             refine gOffU ha rfl rfl (by rfl) rfl fun a ha => ?_
                             refine gOffU ha rfl rfl (by rfl) rfl fun a ha => ?_
                             refine gOffU ha rfl rfl (by rfl) rfl fun a ha => ?_
                             refine gOff ha rfl rfl (by rfl) rfl rfl fun a ha => ?_
                             refine gOff ha rfl rfl (by rfl) rfl rfl fun a ha => ?_
                             refine gOffU ha rfl rfl (by rfl) rfl fun a ha => ?_
                             refine gOffU ha rfl rfl (by rfl) rfl fun a ha => ?_
                             refine gOffU ha rfl rfl (by rfl) rfl fun a ha => ?_
                             refine gOff ha rfl rfl (by rfl) rfl rfl fun a ha => ?_
                             refine gOn ha rfl rfl (by rfl) ?_
                             first | refine pY ha (yPickT (by rfl) (by rfl)) rfl fun a ha => ?_ | refine pY ha (yPickF (by rfl) (by rfl)) rfl fun a ha => ?_ | refine pY ha (yPick (by rfl) (by rfl) (by rfl)) rfl fun a ha => ?_
                             first | refine pY ha (yPickT (by rfl) (by rfl)) rfl fun a ha => ?_ | refine pY ha (yPickF (by rfl) (by rfl)) rfl fun a ha => ?_ | refine pY ha (yPick (by rfl) (by rfl) (by rfl)) rfl fun a ha => ?_
                             refine pY ha (yMove (by rfl)) rfl fun a ha => ?_
                             refine gOn ha rfl rfl (by rfl) ?_
                             refine pC ha (nCall Tryd.call8 (by rfl)) rfl (awake_c hs) ?_
                             rintro v w ⟨rfl, hs⟩ a ha
                             first | refine pY ha (yPickT (by rfl) (by rfl)) rfl fun a ha => ?_ | refine pY ha (yPickF (by rfl) (by rfl)) rfl fun a ha => ?_ | refine pY ha (yPick (by rfl) (by rfl) (by rfl)) rfl fun a ha => ?_
                             refine pY ha (yAssign (by rfl)) rfl fun a ha => ?_
                             refine pZ ?_
                             refine hK25 _ _ ?_
                             refine wp_ret ?_
                             show bodyPost Tryd.prog Tryd.f5 _ .ret _ _
                             refine ret1 rfl ha (by rfl) ?_
                             repeat (first | exact ⟨rfl, hs⟩ | replace hs := Sep.drop hs))
                    · first
                      | (exfalso; omega)
                      | (rw [hg19] at ha
                         refine gOff ha rfl rfl (by rfl) rfl rfl fun a ha => ?_
                         refine gOff ha rfl rfl (by rfl) rfl rfl fun a ha => ?_
                         refine gOff ha rfl rfl (by rfl) rfl rfl fun a ha => ?_
                         refine gOn ha rfl rfl (by rfl) ?_
                         first | refine pY ha (yPickT (by rfl) (by rfl)) rfl fun a ha => ?_ | refine pY ha (yPickF (by rfl) (by rfl)) rfl fun a ha => ?_ | refine pY ha (yPick (by rfl) (by rfl) (by rfl)) rfl fun a ha => ?_
                         first | refine pY ha (yPickT (by rfl) (by rfl)) rfl fun a ha => ?_ | refine pY ha (yPickF (by rfl) (by rfl)) rfl fun a ha => ?_ | refine pY ha (yPick (by rfl) (by rfl) (by rfl)) rfl fun a ha => ?_
                         refine pY ha (yMove (by rfl)) rfl fun a ha => ?_
                         refine gOn ha rfl rfl (by rfl) ?_
                         refine pY ha (yMove (by rfl)) rfl fun a ha => ?_
                         refine gOn ha rfl rfl (by rfl) ?_
                         refine pY ha (yEql (by rfl) (by rfl)) rfl fun a ha => ?_
                         refine gOn ha rfl rfl (by rfl) ?_
                         refine pY ha (yMove (by rfl)) rfl fun a ha => ?_
                         refine gDec (t := 154) ha (by rfl) (fun hg28 hp28 => ?_) (fun hg28 hp28 => ?_)
                         · rw [hg28] at ha
                           refine gOn ha rfl rfl (by rfl) ?_
                           refine pY ha (yMove (by rfl)) rfl fun a ha => ?_
                           refine gOn ha rfl rfl (by rfl) ?_
                           refine pY ha (yLenS Tryd.runUnderlying25 (by rfl)) rfl fun a ha => ?_
                           refine gOn ha rfl rfl (by rfl) ?_
                           refine pY ha (yGtr (by rfl) (by rfl)) rfl fun a ha => ?_
                           refine gOn ha rfl rfl (by rfl) ?_
                           first | refine pY ha (yPickT (by rfl) (by rfl)) rfl fun a ha => ?_ | refine pY ha (yPickF (by rfl) (by rfl)) rfl fun a ha => ?_ | refine pY ha (yPick (by rfl) (by rfl) (by rfl)) rfl fun a ha => ?_
                           refine gOn ha rfl rfl (by rfl) ?_
                           refine pY ha (yMove (by rfl)) rfl fun a ha => ?_
                           refine gSplit (t := 159) ha (by rfl) (fun hg33 => ?_) (fun hg33 => ?_)
                           · rw [hg33] at ha
                             refine gOn ha rfl rfl (by rfl) ?_
                             refine pY ha (yMove (by rfl)) rfl fun a ha => ?_
                             refine gOn ha rfl rfl (by rfl) ?_
                             refine pC ha (nCall Tryd.call31 (by rfl)) rfl (ErrK_c hs (by repeat first | exact .here | apply Pick.there)) ?_
                             rintro v w ⟨rfl, hs⟩ a ha
                             refine gOn ha rfl rfl (by rfl) ?_
                             refine pY ha (yNeq (by rfl) (by rfl)) rfl fun a ha => ?_
                             refine gOn ha rfl rfl (by rfl) ?_
                             refine pY ha (yMove (by rfl)) rfl fun a ha => ?_
                             refine gSplit (t := 163) ha (by rfl) (fun hg37 => ?_) (fun hg37 => ?_)
                             · have q0 := of_decide_eq_false hg33; simp at hg37; omega
                             · rw [hg37] at ha
                               refine gOn ha rfl rfl (by rfl) ?_
                               refine pY ha (yMove (by rfl)) rfl fun a ha => ?_
                               refine gOn ha rfl rfl (by rfl) ?_
                               refine pC ha (nCall Tryd.call31 (by rfl)) rfl (ErrK_c hs (by repeat first | exact .here | apply Pick.there)) ?_
                               rintro v w ⟨rfl, hs⟩ a ha
                               refine gOn ha rfl rfl (by rfl) ?_
                               refine pY ha (yNeq (by rfl) (by rfl)) rfl fun a ha => ?_
                               refine gOn ha rfl rfl (by rfl) ?_
                               first | refine pY ha (yPickT (by rfl) (by rfl)) rfl fun a ha => ?_ | refine pY ha (yPickF (by rfl) (by rfl)) rfl fun a ha => ?_ | refine pY ha (yPick (by rfl) (by rfl) (by rfl)) rfl fun a ha => ?_
                               refine gOn ha rfl rfl (by rfl) ?_
                               refine pY ha (yMove (by rfl)) rfl fun a ha => ?_
                               refine gSplit (t := 168) ha (by rfl) (fun hg42 => ?_) (fun hg42 => ?_)
                               · have q0 := of_decide_eq_false hg33; simp at hg42; omega
                               · rw [hg42] at ha
                                 refine gOn ha rfl rfl (by rfl) ?_
                                 refine pY ha (yMove (by rfl)) rfl fun a ha => ?_
                                 refine gOn ha rfl rfl (by rfl) ?_
                                 refine pC ha (nCall Tryd.call31 (by rfl)) rfl (ErrK_c hs (by repeat first | exact .here | apply Pick.there)) ?_
                                 rintro v w ⟨rfl, hs⟩ a ha
                                 refine gOn ha rfl rfl (by rfl) ?_
                                 refine pY ha (yNeq (by rfl) (by rfl)) rfl fun a ha => ?_
                                 refine gOn ha rfl rfl (by rfl) ?_
                                 first | refine pY ha (yPickT (by rfl) (by rfl)) rfl fun a ha => ?_ | refine pY ha (yPickF (by rfl) (by rfl)) rfl fun a ha => ?_ | refine pY ha (yPick (by rfl) (by rfl) (by rfl)) rfl fun a ha => ?_
                                 refine gOn ha rfl rfl (by rfl) ?_
                                 first | refine pY ha (yPickT (by rfl) (by rfl)) rfl fun a ha => ?_ | refine pY ha (yPickF (by rfl) (by rfl)) rfl fun a ha => ?_ | refine pY ha (yPick (by rfl) (by rfl) (by rfl)) rfl fun a ha => ?_
                                 first | refine pY ha (yPickT (by rfl) (by rfl)) rfl fun a ha => ?_ | refine pY ha (yPickF (by rfl) (by rfl)) rfl fun a ha => ?_ | refine pY ha (yPick (by rfl) (by rfl) (by rfl)) rfl fun a ha => ?_
                                 refine pY ha (yMove (by rfl)) rfl fun a ha => ?_
                                 refine gSplit (t := 175) ha (by rfl) (fun hg49 => ?_) (fun hg49 => ?_)
                                 · have q0 := of_decide_eq_false hg33; simp at hg49; omega
                                 · rw [hg49] at ha
                                   refine gOn ha rfl rfl (by rfl) ?_
                                   refine pC ha (nCall Tryd.call8 (by rfl)) rfl (awake_c hs) ?_
                                   rintro v w ⟨rfl, hs⟩ a ha
                                   first | refine pY ha (yPickT (by rfl) (by rfl)) rfl fun a ha => ?_ | refine pY ha (yPickF (by rfl) (by rfl)) rfl fun a ha => ?_ | refine pY ha (yPick (by rfl) (by rfl) (by rfl)) rfl fun a ha => ?_
                                   refine pY ha (yAssign (by rfl)) rfl fun a ha => ?_
                                   refine pZ ?_
                                   refine hK25 _ _ ?_
                                   refine wp_ret ?_
                                   show bodyPost Tryd.prog Tryd.f5 _ .ret _ _
                                   refine ret1 rfl ha (by rfl) ?_
                                   repeat (first | exact ⟨rfl, hs⟩ | replace hs := Sep.drop hs)
                           · rw [hg33] at ha
                             refine gOff ha rfl rfl (by rfl) rfl rfl fun a ha => ?_
                             refine gOff ha rfl rfl (by rfl) rfl rfl fun a ha => ?_
                             refine gOff ha rfl rfl (by rfl) rfl rfl fun a ha => ?_
                             refine gOff ha rfl rfl (by rfl) rfl rfl fun a ha => ?_
                             refine gOffU ha rfl rfl (by rfl) rfl fun a ha => ?_
                             refine gOffU ha rfl rfl (by rfl) rfl fun a ha => ?_
                             refine gOffU ha rfl rfl (by rfl) rfl fun a ha => ?_
                             refine gOff ha rfl rfl (by rfl) rfl rfl fun a ha => ?_
                             refine gOff ha rfl rfl (by rfl) rfl rfl fun a ha => ?_
                             refine gOffU ha rfl rfl (by rfl) rfl fun a ha => ?_
                             refine gOffU ha rfl rfl (by rfl) rfl fun a ha => ?_
                             refine gOffU ha rfl rfl (by rfl) rfl fun a ha => ?_
                             refine gOff ha rfl rfl (by rfl) rfl rfl fun a ha => ?_
                             refine gOn ha rfl rfl (by rfl) ?_
                             first | refine pY ha (yPickT (by rfl) (by rfl)) rfl fun a ha => ?_ | refine pY ha (yPickF (by rfl) (by rfl)) rfl fun a ha => ?_ | refine pY ha (yPick (by rfl) (by rfl) (by rfl)) rfl fun a ha => ?_
                             first | refine pY ha (yPickT (by rfl) (by rfl)) rfl fun a ha => ?_ | refine pY ha (yPickF (by rfl) (by rfl)) rfl fun a ha => ?_ | refine pY ha (yPick (by rfl) (by rfl) (by rfl)) rfl fun a ha => ?_
                             refine pY ha (yMove (by rfl)) rfl fun a ha => ?_
                             refine gOn ha rfl rfl (by rfl) ?_
                             refine pC ha (nCall Tryd.call8 (by rfl)) rfl (awake_c hs) ?_
                             rintro v w ⟨rfl, hs⟩ a ha
                             first | refine pY ha (yPickT (by rfl) (by rfl)) rfl fun a ha => ?_ | refine pY ha (yPickF (by rfl) (by rfl)) rfl fun a ha => ?_ | refine pY ha (yPick (by rfl) (by rfl) (by rfl)) rfl fun a ha => ?_
                             refine pY ha (yAssign (by rfl)) rfl fun a ha => ?_
                             refine pZ ?_
                             refine hK25 _ _ ?_
                             refine wp_ret ?_
                             show bodyPost Tryd.prog Tryd.f5 _ .ret _ _
                             refine ret1 rfl ha (by rfl) ?_
                             repeat (first | exact ⟨rfl, hs⟩ | replace hs := Sep.drop hs)
                         · rw [hg28] at ha
                           refine gOff ha rfl rfl (by rfl) rfl rfl fun a ha => ?_
                           refine gOff ha rfl rfl (by rfl) rfl rfl fun a ha => ?_
                           refine gOff ha rfl rfl (by rfl) rfl rfl fun a ha => ?_
                           refine gOn ha rfl rfl (by rfl) ?_
                           first | refine pY ha (yPickT (by rfl) (by rfl)) rfl fun a ha => ?_ | refine pY ha (yPickF (by rfl) (by rfl)) rfl fun a ha => ?_ | refine pY ha (yPick (by rfl) (by rfl) (by rfl)) rfl fun a ha => ?_
                           refine gOn ha rfl rfl (by rfl) ?_
                           refine pY ha (yMove (by rfl)) rfl fun a ha => ?_
                           refine gOff ha rfl rfl (by rfl) rfl rfl fun a ha => ?_
                           refine gOff ha rfl rfl (by rfl) rfl rfl fun a ha => ?_
                           refine gOff ha rfl rfl (by rfl) rfl rfl fun a ha => ?_
                           refine gOff ha rfl rfl (by rfl) rfl rfl fun a ha => ?_
                           refine gOffU ha rfl rfl (by rfl) rfl fun a ha => ?_
                           refine gOffU ha rfl rfl (by rfl) rfl fun a ha => ?_
                           refine gOffU ha rfl rfl (by rfl) rfl fun a ha => ?_
                           refine gOff ha rfl rfl (by rfl) rfl rfl fun a ha => ?_
                           refine gOff ha rfl rfl (by rfl) rfl rfl fun a ha => ?_
                           refine gOffU ha rfl rfl (by rfl) rfl fun a ha => ?_
                           refine gOffU ha rfl rfl (by rfl) rfl fun a ha => ?_
                           refine gOffU ha rfl rfl (by rfl) rfl fun a ha => ?_
                           refine gOff ha rfl rfl (by rfl) rfl rfl fun a ha => ?_
                           refine gOn ha rfl rfl (by rfl) ?_
                           first | refine pY ha (yPickT (by rfl) (by rfl)) rfl fun a ha => ?_ | refine pY ha (yPickF (by rfl) (by rfl)) rfl fun a ha => ?_ | refine pY ha (yPick (by rfl) (by rfl) (by rfl)) rfl fun a ha => ?_
                           first | refine pY ha (yPickT (by rfl) (by rfl)) rfl fun a ha => ?_ | refine pY ha (yPickF (by rfl) (by rfl)) rfl fun a ha => ?_ | refine pY ha (yPick (by rfl) (by rfl) (by rfl)) rfl fun a ha => ?_
                           refine pY ha (yMove (by rfl)) rfl fun a ha => ?_
                           refine gOn ha rfl rfl (by rfl) ?_
                           refine pC ha (nCall Tryd.call8 (by rfl)) rfl (awake_c hs) ?_
                           rintro v w ⟨rfl, hs⟩ a ha
                           first | refine pY ha (yPickT (by rfl) (by rfl)) rfl fun a ha => ?_ | refine pY ha (yPickF (by rfl) (by rfl)) rfl fun a ha => ?_ | refine pY ha (yPick (by rfl) (by rfl) (by rfl)) rfl fun a ha => ?_
                           refine pY ha (yAssign (by rfl)) rfl fun a ha => ?_
                           refine pZ ?_
                           refine hK25 _ _ ?_
                           refine wp_ret ?_
                           show bodyPost Tryd.prog Tryd.f5 _ .ret _ _
                           refine ret1 rfl ha (by rfl) ?_
                           repeat (first | exact ⟨rfl, hs⟩ | replace hs := Sep.drop hs))
                · first
                  | (exfalso; omega)
                  | (rw [hg10] at ha
                     refine gOff ha rfl rfl (by rfl) rfl rfl fun a ha => ?_
                     refine gOff ha rfl rfl (by rfl) rfl rfl fun a ha => ?_
                     refine gOff ha rfl rfl (by rfl) rfl rfl fun a ha => ?_
                     refine gOn ha rfl rfl (by rfl) ?_
                     first | refine pY ha (yPickT (by rfl) (by rfl)) rfl fun a ha => ?_ | refine pY ha (yPickF (by rfl) (by rfl)) rfl fun a ha => ?_ | refine pY ha (yPick (by rfl) (by rfl) (by rfl)) rfl fun a ha => ?_
                     first | refine pY ha (yPickT (by rfl) (by rfl)) rfl fun a ha => ?_ | refine pY ha (yPickF (by rfl) (by rfl)) rfl fun a ha => ?_ | refine pY ha (yPick (by rfl) (by rfl) (by rfl)) rfl fun a ha => ?_
                     refine pY ha (yMove (by rfl)) rfl fun a ha => ?_
                     refine gOn ha rfl rfl (by rfl) ?_
                     refine pY ha (yMove (by rfl)) rfl fun a ha => ?_
                     refine gOn ha rfl rfl (by rfl) ?_
                     refine pY ha (yLeq (by rfl) (by rfl)) rfl fun a ha => ?_
                     refine gOn ha rfl rfl (by rfl) ?_
                     refine pY ha (yMove (by rfl)) rfl fun a ha => ?_
                     refine gDec (t := 145) ha (by rfl) (fun hg19 hp19 => ?_) (fun hg19 hp19 => ?_)
                     · first
                       | (exfalso; omega)
                       | (rw [hg19] at ha
                          refine gOn ha rfl rfl (by rfl) ?_
                          refine pY ha (yMove (by rfl)) rfl fun a ha => ?_
                          refine gOn ha rfl rfl (by rfl) ?_
                          refine pC ha (nCall Tryd.call31 (by rfl)) rfl (ErrK_c hs (by repeat first | exact .here | apply Pick.there)) ?_
                          rintro v w ⟨rfl, hs⟩ a ha
                          refine gOn ha rfl rfl (by rfl) ?_
                          refine pY ha (yEql (by rfl) (by rfl)) rfl fun a ha => ?_
                          refine gOn ha rfl rfl (by rfl) ?_
                          first | refine pY ha (yPickT (by rfl) (by rfl)) rfl fun a ha => ?_ | refine pY ha (yPickF (by rfl) (by rfl)) rfl fun a ha => ?_ | refine pY ha (yPick (by rfl) (by rfl) (by rfl)) rfl fun a ha => ?_
                          first | refine pY ha (yPickT (by rfl) (by rfl)) rfl fun a ha => ?_ | refine pY ha (yPickF (by rfl) (by rfl)) rfl fun a ha => ?_ | refine pY ha (yPick (by rfl) (by rfl) (by rfl)) rfl fun a ha => ?_
                          refine pY ha (yMove (by rfl)) rfl fun a ha => ?_
                          refine gSplit (t := 151) ha (by rfl) (fun hg25 => ?_) (fun hg25 => ?_)
                          · have q := of_decide_eq_false hg25; omega
                          · rw [hg25] at ha
                            refine gOn ha rfl rfl (by rfl) ?_
                            refine pY ha (yMove (by rfl)) rfl fun a ha => ?_
                            refine gOn ha rfl rfl (by rfl) ?_
                            refine pY ha (yEql (by rfl) (by rfl)) rfl fun a ha => ?_
                            refine gOn ha rfl rfl (by rfl) ?_
                            refine pY ha (yMove (by rfl)) rfl fun a ha => ?_
                            refine gDec (t := 154) ha (by rfl) (fun hg28 hp28 => ?_) (fun hg28 hp28 => ?_)
                            · rw [hg28] at ha
                              refine gOn ha rfl rfl (by rfl) ?_
                              refine pY ha (yMove (by rfl)) rfl fun a ha => ?_
                              refine gOn ha rfl rfl (by rfl) ?_
                              refine pY ha (yLenS Tryd.runUnderlying25 (by rfl)) rfl fun a ha => ?_
                              refine gOn ha rfl rfl (by rfl) ?_
                              refine pY ha (yGtr (by rfl) (by rfl)) rfl fun a ha => ?_
                              refine gOn ha rfl rfl (by rfl) ?_
                              first | refine pY ha (yPickT (by rfl) (by rfl)) rfl fun a ha => ?_ | refine pY ha (yPickF (by rfl) (by rfl)) rfl fun a ha => ?_ | refine pY ha (yPick (by rfl) (by rfl) (by rfl)) rfl fun a ha => ?_
                              refine gOn ha rfl rfl (by rfl) ?_
                              refine pY ha (yMove (by rfl)) rfl fun a ha => ?_
                              refine gSplit (t := 159) ha (by rfl) (fun hg33 => ?_) (fun hg33 => ?_)
                              · rw [hg33] at ha
                                refine gOn ha rfl rfl (by rfl) ?_
                                refine pY ha (yMove (by rfl)) rfl fun a ha => ?_
                                refine gOn ha rfl rfl (by rfl) ?_
                                refine pC ha (nCall Tryd.call31 (by rfl)) rfl (ErrK_c hs (by repeat first | exact .here | apply Pick.there)) ?_
                                rintro v w ⟨rfl, hs⟩ a ha
                                refine gOn ha rfl rfl (by rfl) ?_
                                refine pY ha (yNeq (by rfl) (by rfl)) rfl fun a ha => ?_
                                refine gOn ha rfl rfl (by rfl) ?_
                                refine pY ha (yMove (by rfl)) rfl fun a ha => ?_
                                refine gSplit (t := 163) ha (by rfl) (fun hg37 => ?_) (fun hg37 => ?_)
                                · have q0 := of_decide_eq_false hg33; simp at hg37; omega
                                · rw [hg37] at ha
                                  refine gOn ha rfl rfl (by rfl) ?_
                                  refine pY ha (yMove (by rfl)) rfl fun a ha => ?_
                                  refine gOn ha rfl rfl (by rfl) ?_
                                  refine pC ha (nCall Tryd.call31 (by rfl)) rfl (ErrK_c hs (by repeat first | exact .here | apply Pick.there)) ?_
                                  rintro v w ⟨rfl, hs⟩ a ha
                                  refine gOn ha rfl rfl (by rfl) ?_
                                  refine pY ha (yNeq (by rfl) (by rfl)) rfl fun a ha => ?_
                                  refine gOn ha rfl rfl (by rfl) ?_
                                  first | refine pY ha (yPickT (by rfl) (by rfl)) rfl fun a ha => ?_ | refine pY ha (yPickF (by rfl) (by rfl)) rfl fun a ha => ?_ | refine pY ha (yPick (by rfl) (by rfl) (by rfl)) rfl fun a ha => ?_
                                  refine gOn ha rfl rfl (by rfl) ?_
                                  refine pY ha (yMove (by rfl)) rfl fun a ha => ?_
                                  refine gSplit (t := 168) ha (by rfl) (fun hg42 => ?_) (fun hg42 => ?_)
                                  · have q0 := of_decide_eq_false hg33; simp at hg42; omega
                                  · rw [hg42] at ha
                                    refine gOn ha rfl rfl (by rfl) ?_
                                    refine pY ha (yMove (by rfl)) rfl fun a ha => ?_
                                    refine gOn ha rfl rfl (by rfl) ?_
                                    refine pC ha (nCall Tryd.call31 (by rfl)) rfl (ErrK_c hs (by repeat first | exact .here | apply Pick.there)) ?_
                                    rintro v w ⟨rfl, hs⟩ a ha
                                    refine gOn ha rfl rfl (by rfl) ?_
                                    refine pY ha (yNeq (by rfl) (by rfl)) rfl fun a ha => ?_
                                    refine gOn ha rfl rfl (by rfl) ?_
                                    first | refine pY ha (yPickT (by rfl) (by rfl)) rfl fun a ha => ?_ | refine pY ha (yPickF (by rfl) (by rfl)) rfl fun a ha => ?_ | refine pY ha (yPick (by rfl) (by rfl) (by rfl)) rfl fun a ha => ?_
                                    refine gOn ha rfl rfl (by rfl) ?_
                                    first | refine pY ha (yPickT (by rfl) (by rfl)) rfl fun a ha => ?_ | refine pY ha (yPickF (by rfl) (by rfl)) rfl fun a ha => ?_ | refine pY ha (yPick (by rfl) (by rfl) (by rfl)) rfl fun a ha => ?_
                                    first | refine pY ha (yPickT (by rfl) (by rfl)) rfl fun a ha => ?_ | refine pY ha (yPickF (by rfl) (by rfl)) rfl fun a ha => ?_ | refine pY ha (yPick (by rfl) (by rfl) (by rfl)) rfl fun a ha => ?_
                                    refine pY ha (yMove (by rfl)) rfl fun a ha => ?_
                                    refine gSplit (t := 175) ha (by rfl) (fun hg49 => ?_) (fun hg49 => ?_)
                                    · have q0 := of_decide_eq_false hg33; simp at hg49; omega
                                    · rw [hg49] at ha
                                      refine gOn ha rfl rfl (by rfl) ?_
                                      refine pC ha (nCall Tryd.call8 (by rfl)) rfl (awake_c hs) ?_
                                      rintro v w ⟨rfl, hs⟩ a ha
                                      first | refine pY ha (yPickT (by rfl) (by rfl)) rfl fun a ha => ?_ | refine pY ha (yPickF (by rfl) (by rfl)) rfl fun a ha => ?_ | refine pY ha (yPick (by rfl) (by rfl) (by rfl)) rfl fun a ha => ?_
                                      refine pY ha (yAssign (by rfl)) rfl fun a ha => ?_
                                      refine pZ ?_
                                      refine hK25 _ _ ?_
                                      refine wp_ret ?_
                                      show bodyPost Tryd.prog Tryd.f5 _ .ret _ _
                                      refine ret1 rfl ha (by rfl) ?_
                                      repeat (first | exact ⟨rfl, hs⟩ | replace hs := Sep.drop hs)
                              · rw [hg33] at ha
                                refine gOff ha rfl rfl (by rfl) rfl rfl fun a ha => ?_
                                refine gOff ha rfl rfl (by rfl) rfl rfl fun a ha => ?_
                                refine gOff ha rfl rfl (by rfl) rfl rfl fun a ha => ?_
                                refine gOff ha rfl rfl (by rfl) rfl rfl fun a ha => ?_
                                refine gOffU ha rfl rfl (by rfl) rfl fun a ha => ?_
                                refine gOffU ha rfl rfl (by rfl) rfl fun a ha => ?_
                                refine gOffU ha rfl rfl (by rfl) rfl fun a ha => ?_
                                refine gOff ha rfl rfl (by rfl) rfl rfl fun a ha => ?_
                                refine gOff ha rfl rfl (by rfl) rfl rfl fun a ha => ?_
                                refine gOffU ha rfl rfl (by rfl) rfl fun a ha => ?_
                                refine gOffU ha rfl rfl (by rfl) rfl fun a ha => ?_
                                refine gOffU ha rfl rfl (by rfl) rfl fun a ha => ?_
                                refine gOff ha rfl rfl (by rfl) rfl rfl fun a ha => ?_
                                refine gOn ha rfl rfl (by rfl) ?_
                                first | refine pY ha (yPickT (by rfl) (by rfl)) rfl fun a ha => ?_ | refine pY ha (yPickF (by rfl) (by rfl)) rfl fun a ha => ?_ | refine pY ha (yPick (by rfl) (by rfl) (by rfl)) rfl fun a ha => ?_
                                first | refine pY ha (yPickT (by rfl) (by rfl)) rfl fun a ha => ?_ | refine pY ha (yPickF (by rfl) (by rfl)) rfl fun a ha => ?_ | refine pY ha (yPick (by rfl) (by rfl) (by rfl)) rfl fun a ha => ?_
                                refine pY ha (yMove (by rfl)) rfl fun a ha => ?_
                                refine gOn ha rfl rfl (by rfl) ?_
                                refine pC ha (nCall Tryd.call8 (by rfl)) rfl (awake_c hs) ?_
                                rintro v w ⟨rfl, hs⟩ a ha
                                first | refine pY ha (yPickT (by rfl) (by rfl)) rfl fun a ha => ?_ | refine pY ha (yPickF (by rfl) (by rfl)) rfl fun a ha => ?_ | refine pY ha (yPick (by rfl) (by rfl) (by rfl)) rfl fun a ha => ?_
                                refine pY ha (yAssign (by rfl)) rfl fun a ha => ?_
                                refine pZ ?_
                                refine hK25 _ _ ?_
                                refine wp_ret ?_
                                show bodyPost Tryd.prog Tryd.f5 _ .ret _ _
                                refine ret1 rfl ha (by rfl) ?_
                                repeat (first | exact ⟨rfl, hs⟩ | replace hs := Sep.drop hs)
                            · rw [hg28] at ha
                              refine gOff ha rfl rfl (by rfl) rfl rfl fun a ha => ?_
                              refine gOff ha rfl rfl (by rfl) rfl rfl fun a ha => ?_
                              refine gOff ha rfl rfl (by rfl) rfl rfl fun a ha => ?_
                              refine gOn ha rfl rfl (by rfl) ?_
                              first | refine pY ha (yPickT (by rfl) (by rfl)) rfl fun a ha => ?_ | refine pY ha (yPickF (by rfl) (by rfl)) rfl fun a ha => ?_ | refine pY ha (yPick (by rfl) (by rfl) (by rfl)) rfl fun a ha => ?_
                              refine gOn ha rfl rfl (by rfl) ?_
                              refine pY ha (yMove (by rfl)) rfl fun a ha => ?_
                              refine gOff ha rfl rfl (by rfl) rfl rfl fun a ha => ?_
                              refine gOff ha rfl rfl (by rfl) rfl rfl fun a ha => ?_
                              refine gOff ha rfl rfl (by rfl) rfl rfl fun a ha => ?_
                              refine gOff ha rfl rfl (by rfl) rfl rfl fun a ha => ?_
                              refine gOffU ha rfl rfl (by rfl) rfl fun a ha => ?_
                              refine gOffU ha rfl rfl (by rfl) rfl fun a ha => ?_
                              refine gOffU ha rfl rfl (by rfl) rfl fun a ha => ?_
                              refine gOff ha rfl rfl (by rfl) rfl rfl fun a ha => ?_
                              refine gOff ha rfl rfl (by rfl) rfl rfl fun a ha => ?_
                              refine gOffU ha rfl rfl (by rfl) rfl fun a ha => ?_
                              refine gOffU ha rfl rfl (by rfl) rfl fun a ha => ?_
                              refine gOffU ha rfl rfl (by rfl) rfl fun a ha => ?_
                              refine gOff ha rfl rfl (by rfl) rfl rfl fun a ha => ?_
                              refine gOn ha rfl rfl (by rfl) ?_
                              first | refine pY ha (yPickT (by rfl) (by rfl)) rfl fun a ha => ?_ | refine pY ha (yPickF (by rfl) (by rfl)) rfl fun a ha => ?_ | refine pY ha (yPick (by rfl) (by rfl) (by rfl)) rfl fun a ha => ?_
                              first | refine pY ha (yPickT (by rfl) (by rfl)) rfl fun a ha => ?_ | refine pY ha (yPickF (by rfl) (by rfl)) rfl fun a ha => ?_ | refine pY ha (yPick (by rfl) (by rfl) (by rfl)) rfl fun a ha => ?_
                              refine pY ha (yMove (by rfl)) rfl fun a ha => ?_
                              refine gOn ha rfl rfl (by rfl) ?_
                              refine pC ha (nCall Tryd.call8 (by rfl)) rfl (awake_c hs) ?_
                              rintro v w ⟨rfl, hs⟩ a ha
                              first | refine pY ha (yPickT (by rfl) (by rfl)) rfl fun a ha => ?_ | refine pY ha (yPickF (by rfl) (by rfl)) rfl fun a ha => ?_ | refine pY ha (yPick (by rfl) (by rfl) (by rfl)) rfl fun a ha => ?_
                              refine pY ha (yAssign (by rfl)) rfl fun a ha => ?_
                              refine pZ ?_
                              refine hK25 _ _ ?_
                              refine wp_ret ?_
                              show bodyPost Tryd.prog Tryd.f5 _ .ret _ _
                              refine ret1 rfl ha (by rfl) ?_
                              repeat (first | exact ⟨rfl, hs⟩ | replace hs := Sep.drop hs))
                     · first
                       | (exfalso; omega)
                       | (rw [hg19] at ha
                          refine gOff ha rfl rfl (by rfl) rfl rfl fun a ha => ?_
                          refine gOff ha rfl rfl (by rfl) rfl rfl fun a ha => ?_
                          refine gOff ha rfl rfl (by rfl) rfl rfl fun a ha => ?_
                          refine gOn ha rfl rfl (by rfl) ?_
                          first | refine pY ha (yPickT (by rfl) (by rfl)) rfl fun a ha => ?_ | refine pY ha (yPickF (by rfl) (by rfl)) rfl fun a ha => ?_ | refine pY ha (yPick (by rfl) (by rfl) (by rfl)) rfl fun a ha => ?_
                          first | refine pY ha (yPickT (by rfl) (by rfl)) rfl fun a ha => ?_ | refine pY ha (yPickF (by rfl) (by rfl)) rfl fun a ha => ?_ | refine pY ha (yPick (by rfl) (by rfl) (by rfl)) rfl fun a ha => ?_
                          refine pY ha (yMove (by rfl)) rfl fun a ha => ?_
                          refine gOn ha rfl rfl (by rfl) ?_
                          refine pY ha (yMove (by rfl)) rfl fun a ha => ?_
                          refine gOn ha rfl rfl (by rfl) ?_
                          refine pY ha (yEql (by rfl) (by rfl)) rfl fun a ha => ?_
                          refine gOn ha rfl rfl (by rfl) ?_
                          refine pY ha (yMove (by rfl)) rfl fun a ha => ?_
                          refine gDec (t := 154) ha (by rfl) (fun hg28 hp28 => ?_) (fun hg28 hp28 => ?_)
                          · rw [hg28] at ha
                            refine gOn ha rfl rfl (by rfl) ?_
                            refine pY ha (yMove (by rfl)) rfl fun a ha => ?_
                            refine gOn ha rfl rfl (by rfl) ?_
                            refine pY ha (yLenS Tryd.runUnderlying25 (by rfl)) rfl fun a ha => ?_
                            refine gOn ha rfl rfl (by rfl) ?_
                            refine pY ha (yGtr (by rfl) (by rfl)) rfl fun a ha => ?_
                            refine gOn ha rfl rfl (by rfl) ?_
                            first | refine pY ha (yPickT (by rfl) (by rfl)) rfl fun a ha => ?_ | refine pY ha (yPickF (by rfl) (by rfl)) rfl fun a ha => ?_ | refine pY ha (yPick (by rfl) (by rfl) (by rfl)) rfl fun a ha => ?_
                            refine gOn ha rfl rfl (by rfl) ?_
                            refine pY ha (yMove (by rfl)) rfl fun a ha => ?_
                            refine gSplit (t := 159) ha (by rfl) (fun hg33 => ?_) (fun hg33 => ?_)
                            · rw [hg33] at ha
                              refine gOn ha rfl rfl (by rfl) ?_
                              refine pY ha (yMove (by rfl)) rfl fun a ha => ?_
                              refine gOn ha rfl rfl (by rfl) ?_
                              refine pC ha (nCall Tryd.call31 (by rfl)) rfl (ErrK_c hs (by repeat first | exact .here | apply Pick.there)) ?_
                              rintro v w ⟨rfl, hs⟩ a ha
                              refine gOn ha rfl rfl (by rfl) ?_
                              refine pY ha (yNeq (by rfl) (by rfl)) rfl fun a ha => ?_
                              refine gOn ha rfl rfl (by rfl) ?_
                              refine pY ha (yMove (by rfl)) rfl fun a ha => ?_
                              refine gSplit (t := 163) ha (by rfl) (fun hg37 => ?_) (fun hg37 => ?_)
                              · have q0 := of_decide_eq_false hg33; simp at hg37; omega
                              · rw [hg37] at ha
                                refine gOn ha rfl rfl (by rfl) ?_
                                refine pY ha (yMove (by rfl)) rfl fun a ha => ?_
                                refine gOn ha rfl rfl (by rfl) ?_
                                refine pC ha (nCall Tryd.call31 (by rfl)) rfl (ErrK_c hs (by repeat first | exact .here | apply Pick.there)) ?_
                                rintro v w ⟨rfl, hs⟩ a ha
                                refine gOn ha rfl rfl (by rfl) ?_
                                refine pY ha (yNeq (by rfl) (by rfl)) rfl fun a ha => ?_
                                refine gOn ha rfl rfl (by rfl) ?_
                                first | refine pY ha (yPickT (by rfl) (by rfl)) rfl fun a ha => ?_ | refine pY ha (yPickF (by rfl) (by rfl)) rfl fun a ha => ?_ | refine pY ha (yPick (by rfl) (by rfl) (by rfl)) rfl fun a ha => ?_
                                refine gOn ha rfl rfl (by rfl) ?_
                                refine pY ha (yMove (by rfl)) rfl fun a ha => ?_
                                refine gSplit (t := 168) ha (by rfl) (fun hg42 => ?_) (fun hg42 => ?_)
                                · have q0 := of_decide_eq_false hg33; simp at hg42; omega
                                · rw [hg42] at ha
                                  refine gOn ha rfl rfl (by rfl) ?_
                                  refine pY ha (yMove (by rfl)) rfl fun a ha => ?_
                                  refine gOn ha rfl rfl (by rfl) ?_
                                  refine pC ha (nCall Tryd.call31 (by rfl)) rfl (ErrK_c hs (by repeat first | exact .here | apply Pick.there)) ?_
                                  rintro v w ⟨rfl, hs⟩ a ha
                                  refine gOn ha rfl rfl (by rfl) ?_
                                  refine pY ha (yNeq (by rfl) (by rfl)) rfl fun a ha => ?_
                                  refine gOn ha rfl rfl (by rfl) ?_
                                  first | refine pY ha (yPickT (by rfl) (by rfl)) rfl fun a ha => ?_ | refine pY ha (yPickF (by rfl) (by rfl)) rfl fun a ha => ?_ | refine pY ha (yPick (by rfl) (by rfl) (by rfl)) rfl fun a ha => ?_
                                  refine gOn ha rfl rfl (by rfl) ?_
                                  first | refine pY ha (yPickT (by rfl) (by rfl)) rfl fun a ha => ?_ | refine pY ha (yPickF (by rfl) (by rfl)) rfl fun a ha => ?_ | refine pY ha (yPick (by rfl) (by rfl) (by rfl)) rfl fun a ha => ?_
                                  first | refine pY ha (yPickT (by rfl) (by rfl)) rfl fun a ha => ?_ | refine pY ha (yPickF (by rfl) (by rfl)) rfl fun a ha => ?_ | refine pY ha (yPick (by rfl) (by rfl) (by rfl)) rfl fun a ha => ?_
                                  refine pY ha (yMove (by rfl)) rfl fun a ha => ?_
                                  refine gSplit (t := 175) ha (by rfl) (fun hg49 => ?_) (fun hg49 => ?_)
                                  · have q0 := of_decide_eq_false hg33; simp at hg49; omega
                                  · rw [hg49] at ha
                                    refine gOn ha rfl rfl (by rfl) ?_
                                    refine pC ha (nCall Tryd.call8 (by rfl)) rfl (awake_c hs) ?_
                                    rintro v w ⟨rfl, hs⟩ a ha
                                    first | refine pY ha (yPickT (by rfl) (by rfl)) rfl fun a ha => ?_ | refine pY ha (yPickF (by rfl) (by rfl)) rfl fun a ha => ?_ | refine pY ha (yPick (by rfl) (by rfl) (by rfl)) rfl fun a ha => ?_
                                    refine pY ha (yAssign (by rfl)) rfl fun a ha => ?_
                                    refine pZ ?_
                                    refine hK25 _ _ ?_
                                    refine wp_ret ?_
                                    show bodyPost Tryd.prog Tryd.f5 _ .ret _ _
                                    refine ret1 rfl ha (by rfl) ?_
                                    repeat (first | exact ⟨rfl, hs⟩ | replace hs := Sep.drop hs)
                            · rw [hg33] at ha
                              refine gOff ha rfl rfl (by rfl) rfl rfl fun a ha => ?_
                              refine gOff ha rfl rfl (by rfl) rfl rfl fun a ha => ?_
                              refine gOff ha rfl rfl (by rfl) rfl rfl fun a ha => ?_
                              refine gOff ha rfl rfl (by rfl) rfl rfl fun a ha => ?_
                              refine gOffU ha rfl rfl (by rfl) rfl fun a ha => ?_
                              refine gOffU ha rfl rfl (by rfl) rfl fun a ha => ?_
                              refine gOffU ha rfl rfl (by rfl) rfl fun a ha => ?_
                              refine gOff ha rfl rfl (by rfl) rfl rfl fun a ha => ?_
                              refine gOff ha rfl rfl (by rfl) rfl rfl fun a ha => ?_
                              refine gOffU ha rfl rfl (by rfl) rfl fun a ha => ?_
                              refine gOffU ha rfl rfl (by rfl) rfl fun a ha => ?_
                              refine gOffU ha rfl rfl (by rfl) rfl fun a ha => ?_
                              refine gOff ha rfl rfl (by rfl) rfl rfl fun a ha => ?_
                              refine gOn ha rfl rfl (by rfl) ?_
                              first | refine pY ha (yPickT (by rfl) (by rfl)) rfl fun a ha => ?_ | refine pY ha (yPickF (by rfl) (by rfl)) rfl fun a ha => ?_ | refine pY ha (yPick (by rfl) (by rfl) (by rfl)) rfl fun a ha => ?_
                              first | refine pY ha (yPickT (by rfl) (by rfl)) rfl fun a ha => ?_ | refine pY ha (yPickF (by rfl) (by rfl)) rfl fun a ha => ?_ | refine pY ha (yPick (by rfl) (by rfl) (by rfl)) rfl fun a ha => ?_
                              refine pY ha (yMove (by rfl)) rfl fun a ha => ?_
                              refine gOn ha rfl rfl (by rfl) ?_
                              refine pC ha (nCall Tryd.call8 (by rfl)) rfl (awake_c hs) ?_
                              rintro v w ⟨rfl, hs⟩ a ha
                              first | refine pY ha (yPickT (by rfl) (by rfl)) rfl fun a ha => ?_ | refine pY ha (yPickF (by rfl) (by rfl)) rfl fun a ha => ?_ | refine pY ha (yPick (by rfl) (by rfl) (by rfl)) rfl fun a ha => ?_
                              refine pY ha (yAssign (by rfl)) rfl fun a ha => ?_
                              refine pZ ?_
                              refine hK25 _ _ ?_
                              refine wp_ret ?_
                              show bodyPost Tryd.prog Tryd.f5 _ .ret _ _
                              refine ret1 rfl ha (by rfl) ?_
                              repeat (first | exact ⟨rfl, hs⟩ | replace hs := Sep.drop hs)
                          · rw [hg28] at ha
                            refine gOff ha rfl rfl (by rfl) rfl rfl fun a ha => ?_
                            refine gOff ha rfl rfl (by rfl) rfl rfl fun a ha => ?_
                            refine gOff ha rfl rfl (by rfl) rfl rfl fun a ha => ?_
                            refine gOn ha rfl rfl (by rfl) ?_
                            first | refine pY ha (yPickT (by rfl) (by rfl)) rfl fun a ha => ?_ | refine pY ha (yPickF (by rfl) (by rfl)) rfl fun a ha => ?_ | refine pY ha (yPick (by rfl) (by rfl) (by rfl)) rfl fun a ha => ?_
                            refine gOn ha rfl rfl (by rfl) ?_
                            refine pY ha (yMove (by rfl)) rfl fun a ha => ?_
                            refine gOff ha rfl rfl (by rfl) rfl rfl fun a ha => ?_
                            refine gOff ha rfl rfl (by rfl) rfl rfl fun a ha => ?_
                            refine gOff ha rfl rfl (by rfl) rfl rfl fun a ha => ?_
                            refine gOff ha rfl rfl (by rfl) rfl rfl fun a ha => ?_
                            refine gOffU ha rfl rfl (by rfl) rfl fun a ha => ?_
                            refine gOffU ha rfl rfl (by rfl) rfl fun a ha => ?_
                            refine gOffU ha rfl rfl (by rfl) rfl fun a ha => ?_
                            refine gOff ha rfl rfl (by rfl) rfl rfl fun a ha => ?_
                            refine gOff ha rfl rfl (by rfl) rfl rfl fun a ha => ?_
                            refine gOffU ha rfl rfl (by rfl) rfl fun a ha => ?_
                            refine gOffU ha rfl rfl (by rfl) rfl fun a ha => ?_
                            refine gOffU ha rfl rfl (by rfl) rfl fun a ha => ?_
                            refine gOff ha rfl rfl (by rfl) rfl rfl fun a ha => ?_
                            refine gOn ha rfl rfl (by rfl) ?_
                            first | refine pY ha (yPickT (by rfl) (by rfl)) rfl fun a ha => ?_ | refine pY ha (yPickF (by rfl) (by rfl)) rfl fun a ha => ?_ | refine pY ha (yPick (by rfl) (by rfl) (by rfl)) rfl fun a ha => ?_
                            first | refine pY ha (yPickT (by rfl) (by rfl)) rfl fun a ha => ?_ | refine pY ha (yPickF (by rfl) (by rfl)) rfl fun a ha => ?_ | refine pY ha (yPick (by rfl) (by rfl) (by rfl)) rfl fun a ha => ?_
                            refine pY ha (yMove (by rfl)) rfl fun a ha => ?_
                            refine gOn ha rfl rfl (by rfl) ?_
                            refine pC ha (nCall Tryd.call8 (by rfl)) rfl (awake_c hs) ?_
                            rintro v w ⟨rfl, hs⟩ a ha
                            first | refine pY ha (yPickT (by rfl) (by rfl)) rfl fun a ha => ?_ | refine pY ha (yPickF (by rfl) (by rfl)) rfl fun a ha => ?_ | refine pY ha (yPick (by rfl) (by rfl) (by rfl)) rfl fun a ha => ?_
                            refine pY ha (yAssign (by rfl)) rfl fun a ha => ?_
                            refine pZ ?_
                            refine hK25 _ _ ?_
                            refine wp_ret ?_
                            show bodyPost Tryd.prog Tryd.f5 _ .ret _ _
                            refine ret1 rfl ha (by rfl) ?_
                            repeat (first | exact ⟨rfl, hs⟩ | replace hs := Sep.drop hs)))
          · simp at hg6
        · simp at hg2
end
end Go.Proofs.YtnkcmpmcmkljnaaDoor
