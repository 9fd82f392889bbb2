/- Numbers in bytes. -/
import Derived.Test.YtnkcmpmcmkljnaaDoorBit
import Derived.Test.YtnkcmpmcmkljnaaDoorProg
set_option linter.unusedVariables false
set_option linter.unusedSimpArgs false
namespace Go.Proofs.YtnkcmpmcmkljnaaDoor
open Go.RowKit
noncomputable abbrev P : Program := Tryd.prog
theorem bslNum25_0_ {w : World} {l : List (Nat × Value)} {T : TypeId} : Mk Tryd.prog w l (.buildSlice 25 0 #[]) T 5 0 [] := mk0 Tryd.runUnderlying25 Tryd.sizeOf5
theorem bslNum25_1_0 {w : World} {l : List (Nat × Value)} {T : TypeId} {x0 : Operand} {v0 : Value} (h0 : ev l x0 = some v0) (o0 : v0.cells = #[v0] := by rfl) : Mk Tryd.prog w l (.buildSlice 25 1 #[(0, x0)]) T 5 1 [v0] := fun ρ o h ho _ => by
  unfold execOp; rw [ho]
  exact mk1v (P := Tryd.prog) w Tryd.runUnderlying25 Tryd.sizeOf5 Tryd.zeroValue5 rfl o0 (h _ _ h0)
theorem elNum25 : ElemT Tryd.prog 25 5 1 1 := elemT_mk Tryd.underlying25 rfl (by kernel_rfl)

def fits (n : Int) : Bool := decide (0 ≤ n) && decide (n ≤ 1099511627776)
section
variable {W w : World} {cs r : List Ch}
theorem Fits_c (n : Int) (hs : Sep W w cs) : Calls P 50 #[.int .i64 n] w (Rt fun v w' => v = .bool (fits n) ∧ Sep W w' cs) := by
  refine enter Tryd.func50 Tryd.ntmps50 rfl rfl fun a (ha : Has a 9 [(0, _)]) => ?_
  refine wp_seq_k fun K1 hK1 => ?_
  refine wp_region_lit ?_
  refine pY ha (yAssign (by rfl)) rfl fun a ha => ?_
  refine pZ ?_
  refine hK1 _ _ ?_
  refine wp_seq_k fun K2 hK2 => ?_
  refine wp_region_lit ?_
  refine pY ha (yMove (by rfl)) rfl fun a ha => ?_
  refine pY ha (yGeq (by rfl) (by rfl)) rfl fun a ha => ?_
  refine pY ha (yMove (by rfl)) rfl fun a ha => ?_
  refine gDec (t := 5) ha (by rfl) (fun hg2 hp2 => ?_) (fun hg2 hp2 => ?_)
  · rw [hg2] at ha
    refine gOff ha rfl rfl (by rfl) rfl rfl fun a ha => ?_
    refine gOff ha rfl rfl (by rfl) rfl rfl fun a ha => ?_
    first | refine pY ha (yPickT (by rfl) (by rfl)) rfl fun a ha => ?_ | refine pY ha (yPickF (by rfl) (by rfl)) rfl fun a ha => ?_ | refine pY ha (yPick (by rfl) (by rfl) (by rfl)) rfl fun a ha => ?_
    refine pY ha (yAssign (by rfl)) rfl fun a ha => ?_
    refine pZ ?_
    refine hK2 _ _ ?_
    refine wp_ret ?_
    show bodyPost Tryd.prog Tryd.f50 _ .ret _ _
    refine ret1 rfl ha (by rfl) ?_
    exact ⟨by simp [fits, hg2, *], hs⟩
  · rw [hg2] at ha
    refine gOn ha rfl rfl (by rfl) ?_
    refine pY ha (yMove (by rfl)) rfl fun a ha => ?_
    refine gOn ha rfl rfl (by rfl) ?_
    refine pY ha (yLeq (by rfl) (by rfl)) rfl fun a ha => ?_
    first | refine pY ha (yPickT (by rfl) (by rfl)) rfl fun a ha => ?_ | refine pY ha (yPickF (by rfl) (by rfl)) rfl fun a ha => ?_ | refine pY ha (yPick (by rfl) (by rfl) (by rfl)) rfl fun a ha => ?_
    refine pY ha (yAssign (by rfl)) rfl fun a ha => ?_
    refine pZ ?_
    refine hK2 _ _ ?_
    refine wp_ret ?_
    show bodyPost Tryd.prog Tryd.f50 _ .ret _ _
    refine ret1 rfl ha (by rfl) ?_
    exact ⟨by simp [fits, hg2, *], hs⟩

theorem CloneB_c {A : Option Addr} {n c : Nat} {bs : List UInt8} (hs : Sep W w cs) (hk : Pick cs (.rd kU8 (.slice A n c) bs) r) (hb : bs.length ≤ 140737488355328) :
    Calls P 49 #[.slice A n c] w (Rt fun v w' => ∃ A' c', v = .slice A' bs.length c' ∧ Sep W w' (.ol kU8 5 (.slice A' bs.length c') bs :: cs)) := by
  obtain ⟨rfl, hl⟩ := hs.rd_shape hk
  have hs := hs.cpR hk
  refine enter Tryd.func49 Tryd.ntmps49 rfl rfl fun a (ha : Has a 8 [(0, _)]) => ?_
  refine wp_seq_k fun K1 hK1 => ?_
  refine wp_region_lit ?_
  refine pY ha (yAssign (by rfl)) rfl fun a ha => ?_
  refine pZ ?_
  refine hK1 _ _ ?_
  refine wp_seq_k fun K2 hK2 => ?_
  refine wp_seq_k fun K3 hK3 => ?_
  refine wp_region_lit ?_
  refine pY ha (yMove (by rfl)) rfl fun a ha => ?_
  refine pY ha (ySlEql Tryd.underlying25 (by rfl) (by rfl)) rfl fun a ha => ?_
  refine pZ ?_
  refine hK3 _ _ ?_
  first | refine cDec ha (by rfl) (fun hc4 => ?_) (fun hc4 => ?_) | refine cSplit ha (by rfl) (fun hc4 => ?_) (fun hc4 => ?_)
  · obtain rfl : A = none := by simpa using hc4
    obtain rfl := hs.rd_none .here
    refine wp_seq_k fun K4 hK4 => ?_
    refine wp_region_lit ?_
    refine pY ha (yAssign (by rfl)) rfl fun a ha => ?_
    refine pZ ?_
    refine hK4 _ _ ?_
    refine wp_ret ?_
    show bodyPost Tryd.prog Tryd.f49 _ .ret _ _
    refine ret1 rfl ha (by rfl) ?_
    exact ⟨none, 0, rfl, hs.drop.ol_nil kU8 _ none⟩
  · refine wp_skip ?_
    refine hK2 _ _ ?_
    refine wp_seq_k fun K5 hK5 => ?_
    refine wp_region_lit ?_
    refine pMake ha bslNum25_0_ hs rfl fun b w hs a ha => ?_
    have hs := hs.blk_ol0 .here kU8
    refine pY ha (yMove (by rfl)) rfl fun a ha => ?_
    first | refine pApp1 ha elNum25 (by rfl) (by rfl) hs (by repeat first | exact .here | apply Pick.there) (by repeat first | exact .here | apply Pick.there) (by repeat first | exact .here | apply Pick.there) (by rfl) (by first | omega | (unfold maxLen; omega) | (simp [maxLen]; done) | (simp [maxLen]; omega)) (by first | omega | (unfold maxLen; omega) | (simp [maxLen]; done) | (simp [maxLen]; omega)) rfl fun A c w hs a ha => ?_ | refine pAppRd ha elNum25 (by rfl) (by rfl) hs (by repeat first | exact .here | apply Pick.there) (by repeat first | exact .here | apply Pick.there) (by rfl) (by first | omega | (unfold maxLen; omega) | (simp [maxLen]; done) | (simp [maxLen]; omega)) (by first | omega | (unfold maxLen; omega) | (simp [maxLen]; done) | (simp [maxLen]; omega)) rfl fun A c w hs a ha => ?_ | refine pApp1F ha elNum25 (by rfl) (by rfl) hs (by repeat first | exact .here | apply Pick.there) (by repeat first | exact .here | apply Pick.there) (by intro Z; first | rfl | exact ⟨rfl, by omega, by omega⟩) (by rfl) (by first | omega | (unfold maxLen; omega) | (simp [maxLen]; done) | (simp [maxLen]; omega)) (by first | omega | (unfold maxLen; omega) | (simp [maxLen]; done) | (simp [maxLen]; omega)) rfl fun A c w hs a ha => ?_
    refine pY ha (yAssign (by rfl)) rfl fun a ha => ?_
    refine pZ ?_
    refine hK5 _ _ ?_
    refine wp_ret ?_
    show bodyPost Tryd.prog Tryd.f49 _ .ret _ _
    refine ret1 rfl ha (by rfl) ?_
    exact ⟨A, c, by simp, by simpa using hs.drop2⟩
/-- The k-th byte behind i exchanges. -/
def revAt (bs : List UInt8) (i k : Nat) : UInt8 := if k < i ∨ bs.length - 1 - i < k then bs.getD (bs.length - 1 - k) 0 else bs.getD k 0
theorem revAt_zero (bs : List UInt8) {k : Nat} (hk : k < bs.length) : revAt bs 0 k = bs[k] := by
  unfold revAt
  rw [if_neg (by omega), List.getD_eq_getElem?_getD, List.getElem?_eq_getElem hk]; rfl
theorem revAt_end (bs : List UInt8) {i k : Nat} (hk : k < bs.length) (hi : bs.length ≤ 2 * i + 1) : revAt bs i k = bs.reverse.getD k 0 := by
  unfold revAt
  rw [List.getD_eq_getElem?_getD (l := bs.reverse), List.getElem?_reverse hk]
  split
  · rw [List.getD_eq_getElem?_getD]
  · rw [List.getD_eq_getElem?_getD, show bs.length - 1 - k = k from by omega]
theorem revAt_step (bs : List UInt8) {i k : Nat} (hk : k < bs.length) (hi : i < bs.length - 1 - i) : revAt bs (i + 1) k = if k = i then revAt bs i (bs.length - 1 - i) else if k = bs.length - 1 - i then revAt bs i i else revAt bs i k := by
  unfold revAt
  by_cases h1 : k = i
  · subst h1
    rw [if_pos rfl, if_pos (by omega), if_neg (by omega)]
  · rw [if_neg h1]
    by_cases h2 : k = bs.length - 1 - i
    · subst h2
      rw [if_pos rfl, if_pos (by omega), if_neg (by omega), show bs.length - 1 - (bs.length - 1 - i) = i from by omega]
    · rw [if_neg h2]
      by_cases h3 : k < i ∨ bs.length - 1 - i < k
      · rw [if_pos h3, if_pos (by omega)]
      · rw [if_neg h3, if_neg (by omega)]
theorem ReverseB_c {v : Value} {bs : List UInt8} (hs : Sep W w cs) (hk : Pick cs (.ol kU8 5 v bs) r) :
    Calls P 62 #[v] w (Rt fun u w' => u = .tuple #[] ∧ Sep W w' (.ol kU8 5 v bs.reverse :: r)) := by
  rcases hs.ol_flat kU8_flat hk with ⟨⟨A, rfl⟩, rfl, hs⟩ | ⟨b, cap, vs, rfl, h1, h2, h3, h4, hs⟩
  · refine enter Tryd.func62 Tryd.ntmps62 rfl rfl fun a (ha : Has a 28 [(0, _)]) => ?_
    refine wp_seq_k fun K1 hK1 => ?_
    refine wp_region_lit ?_
    refine pY ha (yMove (by rfl)) rfl fun a ha => ?_
    refine pY ha (yLenS Tryd.runUnderlying25 (by rfl)) rfl fun a ha => ?_
    first | refine pY ha (ySubN (by rfl) (by rfl) ⟨by omega, by omega⟩) rfl fun a ha => ?_ | refine pY ha (ySub (by rfl) (by rfl)) rfl fun a ha => ?_
    refine pY ha (yAssign (by rfl)) rfl fun a ha => ?_
    refine pY ha (yAssign (by rfl)) rfl fun a ha => ?_
    refine pZ ?_
    refine hK1 _ _ ?_
    refine wp_block ?_
    refine loopI (ι := Unit) (fun i a w => Has a 28 [(0, .slice A 0 0), (2, .int .i64 0), (3, .int .i64 (-1))] ∧ Sep W w r) (fun i => 0) (()) ?_ ?_
    · exact ⟨has3 ha (by rfl) (by rfl) (by rfl), hs⟩
    · rintro i a w ⟨ha, hs⟩
      refine wp_seq_k fun K2 hK2 => ?_
      refine wp_seq_k fun K3 hK3 => ?_
      refine wp_region_lit ?_
      refine pY ha (yMove (by rfl)) rfl fun a ha => ?_
      refine pY ha (yMove (by rfl)) rfl fun a ha => ?_
      refine pY ha (yLss (by rfl) (by rfl)) rfl fun a ha => ?_
      refine pZ ?_
      refine hK3 _ _ ?_
      first | refine cDec ha (by rfl) (fun hc9 => ?_) (fun hc9 => ?_) | refine cSplit ha (by rfl) (fun hc9 => ?_) (fun hc9 => ?_)
      · exact absurd hc9 (by omega)
      · refine wp_exit ?_
        show bodyPost Tryd.prog Tryd.f62 _ .normal _ _
        refine end0 rfl ha ?_
        exact ⟨rfl, by simpa using hs.ol_nil kU8 _ A⟩
  · have hs := hs.drop2
    unfold maxLen at h2
    refine enter Tryd.func62 Tryd.ntmps62 rfl rfl fun a (ha : Has a 28 [(0, _)]) => ?_
    refine wp_seq_k fun K1 hK1 => ?_
    refine wp_region_lit ?_
    refine pY ha (yMove (by rfl)) rfl fun a ha => ?_
    refine pY ha (yLenS Tryd.runUnderlying25 (by rfl)) rfl fun a ha => ?_
    first | refine pY ha (ySubN (by rfl) (by rfl) ⟨by omega, by omega⟩) rfl fun a ha => ?_ | refine pY ha (ySub (by rfl) (by rfl)) rfl fun a ha => ?_
    refine pY ha (yAssign (by rfl)) rfl fun a ha => ?_
    refine pY ha (yAssign (by rfl)) rfl fun a ha => ?_
    refine pZ ?_
    refine hK1 _ _ ?_
    refine wp_block ?_
    refine loopI (ι := Nat × List Value) (fun i a w => (i.1 : Int) ≤ bs.length ∧ Has a 28 [(0, .slice (some ⟨b, 0, none⟩) bs.length cap), (2, .int .i64 (i.1 : Int)), (3, .int .i64 ((bs.length : Int) - 1 - i.1))] ∧ i.2.length = cap ∧ (∀ k, k < bs.length → i.2[k]? = some (.int .u8 ((revAt bs i.1 k).toNat : Int))) ∧ Sep W w (.blk b 5 i.2 :: r)) (fun i => bs.length - i.1) ((0, vs)) ?_ ?_
    · exact ⟨by simp, has3 ha (by rfl) (by rfl) (by simp [lk]), h3, fun k hk => by rw [revAt_zero bs hk]; exact h4 k _ (List.getElem?_eq_getElem hk), hs⟩
    · rintro i a w ⟨hi, ha, h5, h6, hs⟩
      obtain ⟨i, vs⟩ := i
      simp only at hi ha h5 h6 hs
      refine wp_seq_k fun K2 hK2 => ?_
      refine wp_seq_k fun K3 hK3 => ?_
      refine wp_region_lit ?_
      refine pY ha (yMove (by rfl)) rfl fun a ha => ?_
      refine pY ha (yMove (by rfl)) rfl fun a ha => ?_
      refine pY ha (yLss (by rfl) (by rfl)) rfl fun a ha => ?_
      refine pZ ?_
      refine hK3 _ _ ?_
      first | refine cDec ha (by rfl) (fun hc9 => ?_) (fun hc9 => ?_) | refine cSplit ha (by rfl) (fun hc9 => ?_) (fun hc9 => ?_)
      · refine wp_skip ?_
        refine hK2 _ _ ?_
        refine wp_seq_k fun K4 hK4 => ?_
        refine wp_block ?_
        refine dStart (fun w => Sep W w _) [13, 15] (by kernel_rfl) rfl (hs.drew) ?_
        have hs := Sep.drew hs
        generalize World.drew _ = w at hs ⊢
        refine dP 0 rfl (by kernel_rfl) ha won0 (fun _ => yMove (by rfl)) rfl (fun _ _ _ h => h) fun a ha => ?_
        refine dP 1 rfl (by kernel_rfl) ha won0 (fun _ => yMove (by rfl)) rfl (fun _ _ _ h => h) fun a ha => ?_
        refine dP 2 rfl (by kernel_rfl) ha won0 (fun _ => yMove (by rfl)) rfl (fun _ _ _ h => h) fun a ha => ?_
        refine dP 3 rfl (by kernel_rfl) ha won0 (fun _ => yMove (by rfl)) rfl (fun _ _ _ h => h) fun a ha => ?_
        refine dP 4 rfl (by kernel_rfl) ha won0 (fun _ => yMove (by rfl)) rfl (fun _ _ _ h => h) fun a ha => ?_
        refine dP 5 rfl (by kernel_rfl) ha won0 (fun _ => yMove (by rfl)) rfl (fun _ _ _ h => h) fun a ha => ?_
        refine dP 6 rfl (by kernel_rfl) ha won0 (fun _ => yIndexA Tryd.runUnderlying25 Tryd.sizeOf5 (by rfl) (by rfl) (by omega) (by omega)) rfl (fun _ _ _ h => h) fun a ha => ?_
        first | refine dT 7 rfl (by kernel_rfl) ha won0 (fun _ hs => yLoadB Tryd.isAgg5 hs (by rfl) (by repeat first | exact .here | apply Pick.there) (v := .int .u8 ((revAt bs i (bs.length - 1 - i)).toNat : Int)) (by rw [show (0 + ((bs.length : Int) - 1 - i).toNat * 1) = bs.length - 1 - i from by omega]; exact h6 _ (by omega))) (hs) rfl (fun _ _ _ h => h) fun a ha => ?_ | refine dT 7 rfl (by kernel_rfl) ha won0 (fun _ hs => yLoadR Tryd.isAgg5 hs (by rfl) (by repeat first | exact .here | apply Pick.there) (v := .int .u8 ((revAt bs i (bs.length - 1 - i)).toNat : Int)) (by rw [show (0 + ((bs.length : Int) - 1 - i).toNat * 1) = bs.length - 1 - i from by omega]; exact h6 _ (by omega))) (hs) rfl (fun _ _ _ h => h) fun a ha => ?_ | refine dT 7 rfl (by kernel_rfl) ha won0 (fun _ hs => yLoadR0 Tryd.isAgg5 hs (by rfl) (by repeat first | exact .here | apply Pick.there) (v := .int .u8 ((revAt bs i (bs.length - 1 - i)).toNat : Int)) (by rw [show (0 + ((bs.length : Int) - 1 - i).toNat * 1) = bs.length - 1 - i from by omega]; exact h6 _ (by omega))) (hs) rfl (fun _ _ _ h => h) fun a ha => ?_
        refine dP 8 rfl (by kernel_rfl) ha won0 (fun _ => yMove (by rfl)) rfl (fun _ _ _ h => h) fun a ha => ?_
        refine dP 9 rfl (by kernel_rfl) ha won0 (fun _ => yMove (by rfl)) rfl (fun _ _ _ h => h) fun a ha => ?_
        refine dP 10 rfl (by kernel_rfl) ha won0 (fun _ => yIndexA Tryd.runUnderlying25 Tryd.sizeOf5 (by rfl) (by rfl) (by omega) (by omega)) rfl (fun _ _ _ h => h) fun a ha => ?_
        first | refine dT 11 rfl (by kernel_rfl) ha won0 (fun _ hs => yLoadB Tryd.isAgg5 hs (by rfl) (by repeat first | exact .here | apply Pick.there) (v := .int .u8 ((revAt bs i i).toNat : Int)) (by rw [show (0 + (i : Int).toNat * 1) = i from by omega]; exact h6 _ (by omega))) (hs) rfl (fun _ _ _ h => h) fun a ha => ?_ | refine dT 11 rfl (by kernel_rfl) ha won0 (fun _ hs => yLoadR Tryd.isAgg5 hs (by rfl) (by repeat first | exact .here | apply Pick.there) (v := .int .u8 ((revAt bs i i).toNat : Int)) (by rw [show (0 + (i : Int).toNat * 1) = i from by omega]; exact h6 _ (by omega))) (hs) rfl (fun _ _ _ h => h) fun a ha => ?_ | refine dT 11 rfl (by kernel_rfl) ha won0 (fun _ hs => yLoadR0 Tryd.isAgg5 hs (by rfl) (by repeat first | exact .here | apply Pick.there) (v := .int .u8 ((revAt bs i i).toNat : Int)) (by rw [show (0 + (i : Int).toNat * 1) = i from by omega]; exact h6 _ (by omega))) (hs) rfl (fun _ _ _ h => h) fun a ha => ?_
        refine dP 12 rfl (by kernel_rfl) ha won0 (fun _ => yIndexA Tryd.runUnderlying25 Tryd.sizeOf5 (by rfl) (by rfl) (by omega) (by omega)) rfl (fun _ _ _ h => h) fun a ha => ?_
        refine dStorel 13 rfl (by kernel_rfl) rfl ha won0 Tryd.sizeOf5 hs (by rfl) (by rfl) rfl rfl (by repeat first | exact .here | apply Pick.there) (by rw [show (0 + (i : Int).toNat * 1) = i from by omega]; exact h6 _ (by omega)) fun w hs => ?_
        refine dP 14 rfl (by kernel_rfl) ha won0 (fun _ => yIndexA Tryd.runUnderlying25 Tryd.sizeOf5 (by rfl) (by rfl) (by omega) (by omega)) rfl (fun _ _ _ h => h) fun a ha => ?_
        refine dStorel 15 rfl (by kernel_rfl) rfl ha won0 Tryd.sizeOf5 hs (by rfl) (by rfl) rfl rfl (by repeat first | exact .here | apply Pick.there) (by rw [show (0 + (i : Int).toNat * 1) = i from by omega, show (0 + ((bs.length : Int) - 1 - i).toNat * 1) = bs.length - 1 - i from by omega, List.getElem?_set_ne (by omega)]; exact h6 _ (by omega)) fun w hs => ?_
        refine dZ (by kernel_rfl) ?_
        refine hK4 _ _ ?_
        refine wp_region_lit ?_
        refine pY ha (yMove (by rfl)) rfl fun a ha => ?_
        first | refine pY ha (yAddN (by rfl) (by rfl) ⟨by omega, by omega⟩) rfl fun a ha => ?_ | refine pY ha (yAdd (by rfl) (by rfl)) rfl fun a ha => ?_
        refine pY ha (yMove (by rfl)) rfl fun a ha => ?_
        first | refine pY ha (ySubN (by rfl) (by rfl) ⟨by omega, by omega⟩) rfl fun a ha => ?_ | refine pY ha (ySub (by rfl) (by rfl)) rfl fun a ha => ?_
        refine pY ha (yAssign (by rfl)) rfl fun a ha => ?_
        refine pY ha (yAssign (by rfl)) rfl fun a ha => ?_
        refine pZ ?_
        refine ⟨(i + 1, _), ⟨by simp only; omega, has3 ha (by rfl) (by rfl) (by simp only [lk, cond, Nat.beq]; congr 2; omega), ?_, ?_, hs⟩, by simp only; omega⟩
        · simp [h5]
        · intro k hk
          have e1 : (0 + (i : Int).toNat * 1) = i := by omega
          have e2 : (0 + ((bs.length : Int) - 1 - i).toNat * 1) = bs.length - 1 - i := by omega
          simp only [e1, e2]
          rw [revAt_step bs hk (by omega)]
          by_cases k1 : k = i
          · subst k1
            rw [if_pos rfl, List.getElem?_set_ne (by omega), List.getElem?_set_self (by omega)]
          · rw [if_neg k1]
            by_cases k2 : k = bs.length - 1 - i
            · subst k2
              rw [if_pos rfl, List.getElem?_set_self (by simp; omega)]
            · rw [if_neg k2, List.getElem?_set_ne (by omega), List.getElem?_set_ne (by omega)]
              exact h6 k hk
      · refine wp_exit ?_
        show bodyPost Tryd.prog Tryd.f62 _ .normal _ _
        refine end0 rfl ha ?_
        refine ⟨rfl, ?_⟩
        have := Sep.flat_ol (xs := bs.reverse) (cap := cap) kU8_flat hs .here (fun x _ Z => rfl) (by simpa using h1) (by unfold maxLen; exact h2) h5 (fun k x hk => by
          have hlt : k < bs.length := by have := (List.getElem?_eq_some_iff.1 hk).1; simpa using this
          rw [h6 k hlt, revAt_end bs hlt (by omega), List.getD_eq_getElem?_getD, hk]; rfl)
        simpa using this
/-- A number's bytes but the last one, the least first. -/
def tailD (n : Nat) : List UInt8 := if h : n = 0 then [] else UInt8.ofNat (n % 128 + 128) :: tailD (n / 128)
termination_by n
decreasing_by omega
theorem tailD_zero : tailD 0 = [] := by rw [tailD]; simp
theorem tailD_pos {n : Nat} (h : 0 < n) : tailD n = UInt8.ofNat (n % 128 + 128) :: tailD (n / 128) := by rw [tailD, dif_neg (by omega)]
theorem tailD_len (n : Nat) : (tailD n).length ≤ n := by
  induction n using Nat.strongRecOn with
  | _ n ih =>
    rcases Nat.eq_zero_or_pos n with rfl | h
    · simp [tailD_zero]
    · rw [tailD_pos h, List.length_cons]
      have := ih (n / 128) (by omega)
      omega
/-- A number as bytes: P1.1. -/
def put (n : Int) : List UInt8 := if fits n = true then (UInt8.ofNat (n.toNat % 128) :: tailD (n.toNat / 128)).reverse else []
theorem put_rev {n : Nat} (h : n ≤ 1099511627776) : (put n).reverse = UInt8.ofNat (n % 128) :: tailD (n / 128) := by
  rw [put, if_pos (by simp [fits]; omega), List.reverse_reverse, Int.toNat_natCast]
theorem put_len (n : Int) : (put n).length ≤ 1099511627777 := by
  unfold put
  split
  · rename_i h
    have h' : 0 ≤ n ∧ n ≤ 1099511627776 := by simpa [fits] using h
    have := tailD_len (n.toNat / 128)
    simp only [List.length_reverse, List.length_cons]
    omega
  · simp
theorem Put_c (n : Int) (hs : Sep W w cs) : Calls P 51 #[.int .i64 n] w (Rt fun v w' => ∃ A c, v = .slice A (put n).length c ∧ Sep W w' (.ol kU8 5 (.slice A (put n).length c) (put n) :: cs)) := by
  have hlen := put_len n
  refine enter Tryd.func51 Tryd.ntmps51 rfl rfl fun a (ha : Has a 24 [(0, _)]) => ?_
  refine wp_seq_k fun K1 hK1 => ?_
  refine wp_region_lit ?_
  refine pY ha (yAssign (by rfl)) rfl fun a ha => ?_
  refine pZ ?_
  refine hK1 _ _ ?_
  refine scopeN (ι := Nat × List UInt8 × Option Addr × Nat) 0 (fun i a w => i.1 ≤ 1099511627776 ∧ i.2.1 ++ tailD (i.1 / 128) = (put n).reverse ∧ Has a 24 [(0, .int .i64 (i.1 : Int)), (2, .slice i.2.2.1 i.2.1.length i.2.2.2)] ∧ Sep W w (.ol kU8 5 (.slice i.2.2.1 i.2.1.length i.2.2.2) i.2.1 :: cs)) (fun i => i.1) 0 ?_ ?_
  · refine wp_seq_k fun K2 hK2 => ?_
    refine wp_seq_k fun K3 hK3 => ?_
    refine wp_region_lit ?_
    refine pY ha (yMove (by rfl)) rfl fun a ha => ?_
    refine pC ha (nCall Tryd.call50 (by rfl)) rfl (Fits_c _ hs) ?_
    rintro v w ⟨rfl, hs⟩ a ha
    refine pY ha (yNot (by rfl)) rfl fun a ha => ?_
    refine pZ ?_
    refine hK3 _ _ ?_
    first | refine cNDec ha (by rfl) (fun hc5 => ?_) (fun hc5 => ?_) | refine cDec ha (by rfl) (fun hc5 => ?_) (fun hc5 => ?_) | refine cSplit ha (by rfl) (fun hc5 => ?_) (fun hc5 => ?_)
    · refine wp_seq_k fun K4 hK4 => ?_
      refine wp_region_lit ?_
      refine pY ha (yAssign (by rfl)) rfl fun a ha => ?_
      refine pZ ?_
      refine hK4 _ _ ?_
      refine wp_ret ?_
      show bodyPost Tryd.prog Tryd.f51 _ .ret _ _
      refine ret1 rfl ha (by rfl) ?_
      rw [put, if_neg (by simpa using hc5)]; exact ⟨none, 0, rfl, hs.ol_nil kU8 _ none⟩
    · have hf : fits n = true := by simpa using hc5
      have hf' : 0 ≤ n ∧ n ≤ 1099511627776 := by simpa [fits] using hf
      obtain ⟨m0, rfl⟩ := Int.eq_ofNat_of_zero_le hf'.1
      have hm0 : m0 ≤ 1099511627776 := by omega
      refine wp_skip ?_
      refine hK2 _ _ ?_
      refine wp_seq_k fun K5 hK5 => ?_
      refine wp_region_lit ?_
      refine pY ha (yMove (by rfl)) rfl fun a ha => ?_
      refine pY ha (yRem (by rfl) (by rfl) (by omega) (by omega) (by omega)) rfl fun a ha => ?_
      first | refine pY ha (yConvU8 (fun w => ⟨_, Tryd.runUnderlying3 w⟩) Tryd.runUnderlying5 (by rfl) (by omega) (by omega)) rfl fun a ha => ?_ | refine pY ha (yConvInt (fun w => ⟨_, Tryd.runUnderlying3 w⟩) Tryd.runUnderlying5 (by rfl)) rfl fun a ha => ?_
      refine pMake ha (bslNum25_1_0 (by rfl)) hs rfl fun b w hs a ha => ?_
      have hs := Sep.blk_ol1 (hs.el_u8 _) (.there .here) .here
      refine pY ha (yAssign (by rfl)) rfl fun a ha => ?_
      refine pZ ?_
      refine hK5 _ _ ?_
      refine wp_seq_k fun K6 hK6 => ?_
      refine wp_label ?_
      refine hK6 _ _ ?_
      refine wp_seq_k fun K7 hK7 => ?_
      refine wp_seq_k fun K8 hK8 => ?_
      first | (obtain ⟨i, acc, A, c⟩ := i; simp only at h1 h2 ha hs; have hl := congrArg List.length h2; simp only [List.length_append, List.length_reverse] at hl) | skip
      refine wp_region_lit ?_
      refine pY ha (yMove (by rfl)) rfl fun a ha => ?_
      refine pY ha (yQuo (by rfl) (by rfl) (by omega) (by omega) (by omega)) rfl fun a ha => ?_
      refine pY ha (yAssign (by rfl)) rfl fun a ha => ?_
      refine pZ ?_
      refine hK8 _ _ ?_
      refine wp_seq_k fun K9 hK9 => ?_
      refine wp_region_lit ?_
      refine pY ha (yMove (by rfl)) rfl fun a ha => ?_
      refine pY ha (yGtr (by rfl) (by rfl)) rfl fun a ha => ?_
      refine pZ ?_
      refine hK9 _ _ ?_
      first | refine cDec ha (by rfl) (fun hc13 => ?_) (fun hc13 => ?_) | refine cSplit ha (by rfl) (fun hc13 => ?_) (fun hc13 => ?_)
      · refine wp_seq_k fun K10 hK10 => ?_
        refine wp_region_lit ?_
        refine pY ha (yMove (by rfl)) rfl fun a ha => ?_
        refine pY ha (yMove (by rfl)) rfl fun a ha => ?_
        refine pY ha (yRem (by rfl) (by rfl) (by omega) (by omega) (by omega)) rfl fun a ha => ?_
        first | refine pY ha (yAddN (by rfl) (by rfl) ⟨by omega, by omega⟩) rfl fun a ha => ?_ | refine pY ha (yAdd (by rfl) (by rfl)) rfl fun a ha => ?_
        first | refine pY ha (yConvU8 (fun w => ⟨_, Tryd.runUnderlying3 w⟩) Tryd.runUnderlying5 (by rfl) (by omega) (by omega)) rfl fun a ha => ?_ | refine pY ha (yConvInt (fun w => ⟨_, Tryd.runUnderlying3 w⟩) Tryd.runUnderlying5 (by rfl)) rfl fun a ha => ?_
        refine pMake ha (bslNum25_1_0 (by rfl)) hs rfl fun b w hs a ha => ?_
        first | refine pApp1 ha elNum25 (by rfl) (by rfl) hs (by repeat first | exact .here | apply Pick.there) (by repeat first | exact .here | apply Pick.there) (by repeat first | exact .here | apply Pick.there) (by rfl) (by first | omega | (unfold maxLen; omega) | (simp [maxLen]; done) | (simp [maxLen]; omega)) (by first | omega | (unfold maxLen; omega) | (simp [maxLen]; done) | (simp [maxLen]; omega)) rfl fun A c w hs a ha => ?_ | refine pAppRd ha elNum25 (by rfl) (by rfl) hs (by repeat first | exact .here | apply Pick.there) (by repeat first | exact .here | apply Pick.there) (by rfl) (by first | omega | (unfold maxLen; omega) | (simp [maxLen]; done) | (simp [maxLen]; omega)) (by first | omega | (unfold maxLen; omega) | (simp [maxLen]; done) | (simp [maxLen]; omega)) rfl fun A c w hs a ha => ?_ | refine pApp1F ha elNum25 (by rfl) (by rfl) hs (by repeat first | exact .here | apply Pick.there) (by repeat first | exact .here | apply Pick.there) (by intro Z; first | rfl | exact ⟨rfl, by omega, by omega⟩) (by rfl) (by first | omega | (unfold maxLen; omega) | (simp [maxLen]; done) | (simp [maxLen]; omega)) (by first | omega | (unfold maxLen; omega) | (simp [maxLen]; done) | (simp [maxLen]; omega)) rfl fun A c w hs a ha => ?_
        refine pY ha (yAssign (by rfl)) rfl fun a ha => ?_
        refine pZ ?_
        refine hK10 _ _ ?_
        refine wp_goto ?_
        repeat (with_reducible first | refine gThen ?_ | refine gBlock ?_)
        refine gxL ?_
        refine ⟨(m0 / 128, [UInt8.ofNat (m0 % 128)] ++ [UInt8.ofNat (m0 / 128 % 128 + 128)], A, c), by simp only; omega, ?_, has2 ha (by rfl) (by rfl), hs⟩
        rw [put_rev hm0, tailD_pos (by omega : 0 < m0 / 128)]
        simp
      · refine wp_skip ?_
        refine hK7 _ _ ?_
        refine wp_seq_k fun K11 hK11 => ?_
        have hz : ∀ k : Nat, ¬ (0 < (k : Int) / 128) → k / 128 = 0 := fun k hk => by omega
        refine wp_region_lit ?_
        refine pY ha (yMove (by rfl)) rfl fun a ha => ?_
        refine pC ha (nCall Tryd.call62 (by rfl)) rfl (ReverseB_c hs .here) ?_
        rintro v w ⟨rfl, hs⟩ a ha
        refine pZ ?_
        refine hK11 _ _ ?_
        refine wp_seq_k fun K12 hK12 => ?_
        refine wp_region_lit ?_
        refine pY ha (yMove (by rfl)) rfl fun a ha => ?_
        refine pY ha (yAssign (by rfl)) rfl fun a ha => ?_
        refine pZ ?_
        refine hK12 _ _ ?_
        refine wp_ret ?_
        show bodyPost Tryd.prog Tryd.f51 _ .ret _ _
        refine ret1 rfl ha (by rfl) ?_
        have hp := put_rev hm0
        rw [hz _ hc13, tailD_zero] at hp
        have hp2 : put m0 = [UInt8.ofNat (m0 % 128)].reverse := by rw [← hp, List.reverse_reverse]
        rw [hp2]
        exact ⟨_, _, rfl, hs⟩
  · rintro i a w ⟨h1, h2, ha, hs⟩
    refine ⟨_, rfl, ?_⟩
    refine wp_seq_k fun K13 hK13 => ?_
    refine wp_skip ?_
    refine hK13 _ _ ?_
    refine wp_seq_k fun K14 hK14 => ?_
    refine wp_seq_k fun K15 hK15 => ?_
    first | (obtain ⟨i, acc, A, c⟩ := i; simp only at h1 h2 ha hs; have hl := congrArg List.length h2; simp only [List.length_append, List.length_reverse] at hl) | skip
    refine wp_region_lit ?_
    refine pY ha (yMove (by rfl)) rfl fun a ha => ?_
    refine pY ha (yQuo (by rfl) (by rfl) (by omega) (by omega) (by omega)) rfl fun a ha => ?_
    refine pY ha (yAssign (by rfl)) rfl fun a ha => ?_
    refine pZ ?_
    refine hK15 _ _ ?_
    refine wp_seq_k fun K16 hK16 => ?_
    refine wp_region_lit ?_
    refine pY ha (yMove (by rfl)) rfl fun a ha => ?_
    refine pY ha (yGtr (by rfl) (by rfl)) rfl fun a ha => ?_
    refine pZ ?_
    refine hK16 _ _ ?_
    first | refine cDec ha (by rfl) (fun hc13 => ?_) (fun hc13 => ?_) | refine cSplit ha (by rfl) (fun hc13 => ?_) (fun hc13 => ?_)
    · refine wp_seq_k fun K17 hK17 => ?_
      refine wp_region_lit ?_
      refine pY ha (yMove (by rfl)) rfl fun a ha => ?_
      refine pY ha (yMove (by rfl)) rfl fun a ha => ?_
      refine pY ha (yRem (by rfl) (by rfl) (by omega) (by omega) (by omega)) rfl fun a ha => ?_
      first | refine pY ha (yAddN (by rfl) (by rfl) ⟨by omega, by omega⟩) rfl fun a ha => ?_ | refine pY ha (yAdd (by rfl) (by rfl)) rfl fun a ha => ?_
      first | refine pY ha (yConvU8 (fun w => ⟨_, Tryd.runUnderlying3 w⟩) Tryd.runUnderlying5 (by rfl) (by omega) (by omega)) rfl fun a ha => ?_ | refine pY ha (yConvInt (fun w => ⟨_, Tryd.runUnderlying3 w⟩) Tryd.runUnderlying5 (by rfl)) rfl fun a ha => ?_
      refine pMake ha (bslNum25_1_0 (by rfl)) hs rfl fun b w hs a ha => ?_
      first | refine pApp1 ha elNum25 (by rfl) (by rfl) hs (by repeat first | exact .here | apply Pick.there) (by repeat first | exact .here | apply Pick.there) (by repeat first | exact .here | apply Pick.there) (by rfl) (by first | omega | (unfold maxLen; omega) | (simp [maxLen]; done) | (simp [maxLen]; omega)) (by first | omega | (unfold maxLen; omega) | (simp [maxLen]; done) | (simp [maxLen]; omega)) rfl fun A c w hs a ha => ?_ | refine pAppRd ha elNum25 (by rfl) (by rfl) hs (by repeat first | exact .here | apply Pick.there) (by repeat first | exact .here | apply Pick.there) (by rfl) (by first | omega | (unfold maxLen; omega) | (simp [maxLen]; done) | (simp [maxLen]; omega)) (by first | omega | (unfold maxLen; omega) | (simp [maxLen]; done) | (simp [maxLen]; omega)) rfl fun A c w hs a ha => ?_ | refine pApp1F ha elNum25 (by rfl) (by rfl) hs (by repeat first | exact .here | apply Pick.there) (by repeat first | exact .here | apply Pick.there) (by intro Z; first | rfl | exact ⟨rfl, by omega, by omega⟩) (by rfl) (by first | omega | (unfold maxLen; omega) | (simp [maxLen]; done) | (simp [maxLen]; omega)) (by first | omega | (unfold maxLen; omega) | (simp [maxLen]; done) | (simp [maxLen]; omega)) rfl fun A c w hs a ha => ?_
      refine pY ha (yAssign (by rfl)) rfl fun a ha => ?_
      refine pZ ?_
      refine hK17 _ _ ?_
      refine wp_goto ?_
      repeat (with_reducible first | refine gThen ?_ | refine gBlock ?_)
      refine gxL ?_
      refine ⟨(i / 128, acc ++ [UInt8.ofNat (i / 128 % 128 + 128)], A, c), ⟨by simp only; omega, ?_, has2 ha (by rfl) (by simp [lk]), by rw [show ((i : Int) / 128 % 128 + 128).toNat = i / 128 % 128 + 128 from by omega] at hs; simpa using hs⟩, by simp only; omega⟩
      rw [← h2, tailD_pos (by omega : 0 < i / 128)]
      simp
    · refine wp_skip ?_
      refine hK14 _ _ ?_
      refine wp_seq_k fun K18 hK18 => ?_
      have hz : ∀ k : Nat, ¬ (0 < (k : Int) / 128) → k / 128 = 0 := fun k hk => by omega
      refine wp_region_lit ?_
      refine pY ha (yMove (by rfl)) rfl fun a ha => ?_
      refine pC ha (nCall Tryd.call62 (by rfl)) rfl (ReverseB_c hs .here) ?_
      rintro v w ⟨rfl, hs⟩ a ha
      refine pZ ?_
      refine hK18 _ _ ?_
      refine wp_seq_k fun K19 hK19 => ?_
      refine wp_region_lit ?_
      refine pY ha (yMove (by rfl)) rfl fun a ha => ?_
      refine pY ha (yAssign (by rfl)) rfl fun a ha => ?_
      refine pZ ?_
      refine hK19 _ _ ?_
      refine wp_ret ?_
      show bodyPost Tryd.prog Tryd.f51 _ .ret _ _
      refine ret1 rfl ha (by rfl) ?_
      rw [hz _ hc13, tailD_zero, List.append_nil] at h2
      have hp2 : put n = acc.reverse := by rw [h2, List.reverse_reverse]
      rw [hp2]
      exact ⟨A, c, by simp, by simpa using hs⟩
/-! The reference's. -/
theorem RFits_c (n : Int) (hs : Sep W w cs) : Calls P 60 #[.int .i64 n] w (Rt fun v w' => v = .bool (fits n) ∧ Sep W w' cs) := by
  refine enter Tryd.func60 Tryd.ntmps60 rfl rfl fun a (ha : Has a 9 [(0, _)]) => ?_
  refine wp_seq_k fun K1 hK1 => ?_
  refine wp_region_lit ?_
  refine pY ha (yAssign (by rfl)) rfl fun a ha => ?_
  refine pZ ?_
  refine hK1 _ _ ?_
  refine wp_seq_k fun K2 hK2 => ?_
  refine wp_region_lit ?_
  refine pY ha (yMove (by rfl)) rfl fun a ha => ?_
  refine pY ha (yGeq (by rfl) (by rfl)) rfl fun a ha => ?_
  refine pY ha (yMove (by rfl)) rfl fun a ha => ?_
  refine gDec (t := 5) ha (by rfl) (fun hg2 hp2 => ?_) (fun hg2 hp2 => ?_)
  · rw [hg2] at ha
    refine gOff ha rfl rfl (by rfl) rfl rfl fun a ha => ?_
    refine gOff ha rfl rfl (by rfl) rfl rfl fun a ha => ?_
    first | refine pY ha (yPickT (by rfl) (by rfl)) rfl fun a ha => ?_ | refine pY ha (yPickF (by rfl) (by rfl)) rfl fun a ha => ?_ | refine pY ha (yPick (by rfl) (by rfl) (by rfl)) rfl fun a ha => ?_
    refine pY ha (yAssign (by rfl)) rfl fun a ha => ?_
    refine pZ ?_
    refine hK2 _ _ ?_
    refine wp_ret ?_
    show bodyPost Tryd.prog Tryd.f60 _ .ret _ _
    refine ret1 rfl ha (by rfl) ?_
    exact ⟨by simp [fits, hg2, *], hs⟩
  · rw [hg2] at ha
    refine gOn ha rfl rfl (by rfl) ?_
    refine pY ha (yMove (by rfl)) rfl fun a ha => ?_
    refine gOn ha rfl rfl (by rfl) ?_
    refine pY ha (yLeq (by rfl) (by rfl)) rfl fun a ha => ?_
    first | refine pY ha (yPickT (by rfl) (by rfl)) rfl fun a ha => ?_ | refine pY ha (yPickF (by rfl) (by rfl)) rfl fun a ha => ?_ | refine pY ha (yPick (by rfl) (by rfl) (by rfl)) rfl fun a ha => ?_
    refine pY ha (yAssign (by rfl)) rfl fun a ha => ?_
    refine pZ ?_
    refine hK2 _ _ ?_
    refine wp_ret ?_
    show bodyPost Tryd.prog Tryd.f60 _ .ret _ _
    refine ret1 rfl ha (by rfl) ?_
    exact ⟨by simp [fits, hg2, *], hs⟩
theorem RPut_c (n : Int) (hs : Sep W w cs) : Calls P 61 #[.int .i64 n] w (Rt fun v w' => ∃ A c, v = .slice A (put n).length c ∧ Sep W w' (.ol kU8 5 (.slice A (put n).length c) (put n) :: cs)) := by
  have hlen := put_len n
  refine enter Tryd.func61 Tryd.ntmps61 rfl rfl fun a (ha : Has a 25 [(0, _)]) => ?_
  refine wp_seq_k fun K1 hK1 => ?_
  refine wp_region_lit ?_
  refine pY ha (yAssign (by rfl)) rfl fun a ha => ?_
  refine pZ ?_
  refine hK1 _ _ ?_
  refine wp_seq_k fun K2 hK2 => ?_
  refine wp_seq_k fun K3 hK3 => ?_
  refine wp_region_lit ?_
  refine pY ha (yMove (by rfl)) rfl fun a ha => ?_
  refine pC ha (nCall Tryd.call60 (by rfl)) rfl (RFits_c _ hs) ?_
  rintro v w ⟨rfl, hs⟩ a ha
  refine pY ha (yNot (by rfl)) rfl fun a ha => ?_
  refine pZ ?_
  refine hK3 _ _ ?_
  first | refine cNDec ha (by rfl) (fun hc6 => ?_) (fun hc6 => ?_) | refine cDec ha (by rfl) (fun hc6 => ?_) (fun hc6 => ?_) | refine cSplit ha (by rfl) (fun hc6 => ?_) (fun hc6 => ?_)
  · refine wp_seq_k fun K4 hK4 => ?_
    refine wp_region_lit ?_
    refine pY ha (yAssign (by rfl)) rfl fun a ha => ?_
    refine pZ ?_
    refine hK4 _ _ ?_
    refine wp_ret ?_
    show bodyPost Tryd.prog Tryd.f61 _ .ret _ _
    refine ret1 rfl ha (by rfl) ?_
    rw [put, if_neg (by simpa using hc6)]; exact ⟨none, 0, rfl, hs.ol_nil kU8 _ none⟩
  · have hf : fits n = true := by simpa using hc6
    have hf' : 0 ≤ n ∧ n ≤ 1099511627776 := by simpa [fits] using hf
    obtain ⟨m0, rfl⟩ := Int.eq_ofNat_of_zero_le hf'.1
    have hm0 : m0 ≤ 1099511627776 := by omega
    refine wp_skip ?_
    refine hK2 _ _ ?_
    refine wp_seq_k fun K5 hK5 => ?_
    refine wp_region_lit ?_
    refine pY ha (yMove (by rfl)) rfl fun a ha => ?_
    refine pY ha (yAndM (q := 128) 7 (by rfl) (by rfl) (by decide) (by decide) (by decide) (by omega) (by simp only [roomy]; omega)) rfl fun a ha => ?_
    first | refine pY ha (yConvU8 (fun w => ⟨_, Tryd.runUnderlying3 w⟩) Tryd.runUnderlying5 (by rfl) (by omega) (by omega)) rfl fun a ha => ?_ | refine pY ha (yConvInt (fun w => ⟨_, Tryd.runUnderlying3 w⟩) Tryd.runUnderlying5 (by rfl)) rfl fun a ha => ?_
    refine pMake ha (bslNum25_1_0 (by rfl)) hs rfl fun b w hs a ha => ?_
    have hs := Sep.blk_ol1 (hs.el_u8 _) (.there .here) .here
    refine pY ha (yAssign (by rfl)) rfl fun a ha => ?_
    refine pZ ?_
    refine hK5 _ _ ?_
    refine wp_seq_k fun K6 hK6 => ?_
    refine wp_region_lit ?_
    refine pY ha (yMove (by rfl)) rfl fun a ha => ?_
    refine pY ha (yShrC (q := 128) (by rfl) (by rfl) (by decide) (by decide) (by decide)) rfl fun a ha => ?_
    refine pY ha (yAssign (by rfl)) rfl fun a ha => ?_
    refine pZ ?_
    refine hK6 _ _ ?_
    refine wp_seq_k fun K7 hK7 => ?_
    refine wp_block ?_
    refine loopI (ι := Nat × List UInt8 × Option Addr × Nat) (fun i a w => i.1 ≤ 1099511627776 ∧ i.2.1.reverse ++ tailD i.1 = (put m0).reverse ∧ Has a 25 [(0, .int .i64 (i.1 : Int)), (3, .slice i.2.2.1 i.2.1.length i.2.2.2)] ∧ Sep W w (.ol kU8 5 (.slice i.2.2.1 i.2.1.length i.2.2.2) i.2.1 :: cs)) (fun i => i.1) ((m0 / 128, [UInt8.ofNat (m0 % 128)], some ⟨b, 0, none⟩, 1)) ?_ ?_
    · refine ⟨by simp only; omega, ?_, has2 ha (by rfl) (by rfl), hs⟩
      rw [put_rev hm0]; rfl
    · rintro i a w ⟨h1, h2, ha, hs⟩
      obtain ⟨i, acc, A, c⟩ := i; simp only at h1 h2 ha hs; have hl := congrArg List.length h2; simp only [List.length_append, List.length_reverse] at hl
      refine wp_seq_k fun K8 hK8 => ?_
      refine wp_seq_k fun K9 hK9 => ?_
      refine wp_region_lit ?_
      refine pY ha (yMove (by rfl)) rfl fun a ha => ?_
      refine pY ha (yGtr (by rfl) (by rfl)) rfl fun a ha => ?_
      refine pZ ?_
      refine hK9 _ _ ?_
      first | refine cDec ha (by rfl) (fun hc14 => ?_) (fun hc14 => ?_) | refine cSplit ha (by rfl) (fun hc14 => ?_) (fun hc14 => ?_)
      · refine wp_skip ?_
        refine hK8 _ _ ?_
        refine wp_block ?_
        refine wp_seq_k fun K10 hK10 => ?_
        refine wp_region_lit ?_
        refine pY ha (yMove (by rfl)) rfl fun a ha => ?_
        refine pY ha (yAndM (q := 128) 7 (by rfl) (by rfl) (by decide) (by decide) (by decide) (by omega) (by simp only [roomy]; omega)) rfl fun a ha => ?_
        refine pY ha (yConvU8n (fun w => ⟨_, Tryd.runUnderlying3 w⟩) Tryd.runUnderlying5 (by rfl) (by omega) (by omega)) rfl fun a ha => ?_
        first | refine pY ha (yOrJ (q := 128) 7 (by rfl) (by rfl) (by decide) (by omega) (by omega) (by simp only [roomy]; omega) (by omega) (by omega) (by simp only [roomy]; omega)) rfl fun a ha => ?_ | refine pY ha (yOrJ' (q := 128) 7 (by rfl) (by rfl) (by decide) (by omega) (by omega) (by simp only [roomy]; omega) (by omega) (by omega) (by simp only [roomy]; omega)) rfl fun a ha => ?_ | refine pY ha (yOrJ (q := 64) 6 (by rfl) (by rfl) (by decide) (by omega) (by omega) (by simp only [roomy]; omega) (by omega) (by omega) (by simp only [roomy]; omega)) rfl fun a ha => ?_ | refine pY ha (yOrJ' (q := 64) 6 (by rfl) (by rfl) (by decide) (by omega) (by omega) (by simp only [roomy]; omega) (by omega) (by omega) (by simp only [roomy]; omega)) rfl fun a ha => ?_
        refine pMake ha (bslNum25_1_0 (by rfl)) hs rfl fun b w hs a ha => ?_
        have hs := Sep.blk_ol1 (d := kU8) (hs.el_u8n (UInt8.ofNat (i % 128 + 128)) (n := 128 + (i : Int) % 128) (by simp; omega)) (.there .here) .here
        refine pY ha (yMove (by rfl)) rfl fun a ha => ?_
        have hs := (Sep.ol_rd hs (.there .here)).perm (List.Perm.swap _ _ _)
        first | refine pApp1 ha elNum25 (by rfl) (by rfl) hs (by repeat first | exact .here | apply Pick.there) (by repeat first | exact .here | apply Pick.there) (by repeat first | exact .here | apply Pick.there) (by rfl) (by first | omega | (unfold maxLen; omega) | (simp [maxLen]; done) | (simp [maxLen]; omega)) (by first | omega | (unfold maxLen; omega) | (simp [maxLen]; done) | (simp [maxLen]; omega)) rfl fun A c w hs a ha => ?_ | refine pAppRd ha elNum25 (by rfl) (by rfl) hs (by repeat first | exact .here | apply Pick.there) (by repeat first | exact .here | apply Pick.there) (by rfl) (by first | omega | (unfold maxLen; omega) | (simp [maxLen]; done) | (simp [maxLen]; omega)) (by first | omega | (unfold maxLen; omega) | (simp [maxLen]; done) | (simp [maxLen]; omega)) rfl fun A c w hs a ha => ?_ | refine pApp1F ha elNum25 (by rfl) (by rfl) hs (by repeat first | exact .here | apply Pick.there) (by repeat first | exact .here | apply Pick.there) (by intro Z; first | rfl | exact ⟨rfl, by omega, by omega⟩) (by rfl) (by first | omega | (unfold maxLen; omega) | (simp [maxLen]; done) | (simp [maxLen]; omega)) (by first | omega | (unfold maxLen; omega) | (simp [maxLen]; done) | (simp [maxLen]; omega)) rfl fun A c w hs a ha => ?_
        refine pY ha (yAssign (by rfl)) rfl fun a ha => ?_
        refine pZ ?_
        refine hK10 _ _ ?_
        refine wp_region_lit ?_
        refine pY ha (yMove (by rfl)) rfl fun a ha => ?_
        refine pY ha (yShrC (q := 128) (by rfl) (by rfl) (by decide) (by decide) (by decide)) rfl fun a ha => ?_
        refine pY ha (yAssign (by rfl)) rfl fun a ha => ?_
        refine pZ ?_
        refine ⟨(i / 128, UInt8.ofNat (i % 128 + 128) :: acc, A, c), ⟨by simp only; omega, ?_, has2 ha (by rfl) (by simp only [List.length_cons]; rw [Nat.add_comm]; rfl), ?_⟩, by simp only; omega⟩
        · rw [← h2, tailD_pos (by omega : 0 < i)]; simp
        · simpa [Nat.add_comm] using hs.drop2
      · refine wp_exit ?_
        refine hK7 _ _ ?_
        refine wp_seq_k fun K11 hK11 => ?_
        refine wp_region_lit ?_
        refine pY ha (yMove (by rfl)) rfl fun a ha => ?_
        refine pY ha (yAssign (by rfl)) rfl fun a ha => ?_
        refine pZ ?_
        refine hK11 _ _ ?_
        refine wp_ret ?_
        show bodyPost Tryd.prog Tryd.f61 _ .ret _ _
        refine ret1 rfl ha (by rfl) ?_
        obtain rfl : i = 0 := by omega
        rw [tailD_zero, List.append_nil] at h2
        have h3 : put m0 = acc := by rw [← List.reverse_inj, h2]
        rw [h3]
        exact ⟨A, c, rfl, hs⟩
/-! Reading a number: P1.2. -/
theorem Sep.rd_byte {A : Option Addr} {n c i : Nat} {bs : List UInt8} {x : UInt8} (h : Sep W w cs) (hk : Pick cs (.rd kU8 (.slice A n c) bs) r) (hx : bs[i]? = some x) :
    ∃ b off, A = some ⟨b, off, none⟩ ∧ Sep W w (.at b (off + i * 1) [.int .u8 x.toNat] :: cs) := by
  obtain ⟨b, off, c', es, he, hl, hs⟩ := h.rd_at hk hx
  simp only [Value.slice.injEq] at he
  have hes : es = [.int .u8 x.toNat] := hs.know (.there .here) (fun Z _ hp => hp)
  subst hes
  exact ⟨b, off, he.1, hs.drop2⟩
/-- n: what was read so far; the rest of the bytes; how many were read. -/
def getR : Int → List UInt8 → Nat → Option (Int × Nat)
  | _, [], _ => none
  | n, c :: r, k =>
    if k = 0 ∧ c.toNat = 128 ∨ n > 8589934592 then none
    else if c.toNat < 128 then (if fits (n * 128 + (c.toNat : Int) % 128) = true then some (n * 128 + (c.toNat : Int) % 128, k + 1) else none)
    else getR (n * 128 + (c.toNat : Int) % 128) r (k + 1)
def getN (b : List UInt8) : Option (Int × Nat) := getR 0 b 0
theorem getR_step {n : Int} {bs : List UInt8} {i : Nat} {x : UInt8} {g : Option (Int × Nat)} (hx : bs[i]? = some x) (h : getR n (bs.drop i) i = g) :
    (if i = 0 ∧ x.toNat = 128 ∨ n > 8589934592 then none
    else if x.toNat < 128 then (if fits (n * 128 + (x.toNat : Int) % 128) = true then some (n * 128 + (x.toNat : Int) % 128, i + 1) else none)
    else getR (n * 128 + (x.toNat : Int) % 128) (bs.drop (i + 1)) (i + 1)) = g := by
  obtain ⟨hi, rfl⟩ := List.getElem?_eq_some_iff.1 hx
  rw [List.drop_eq_getElem_cons hi, getR] at h
  exact h
theorem getR_end {n : Int} {bs : List UInt8} {i : Nat} {g : Option (Int × Nat)} (hi : bs.length ≤ i) (h : getR n (bs.drop i) i = g) : none = g := by
  rw [List.drop_eq_nil_of_le hi, getR] at h
  exact h
theorem Get_c {A : Option Addr} {n c : Nat} {bs : List UInt8} (hs : Sep W w cs) (hk : Pick cs (.rd kU8 (.slice A n c) bs) r) :
    Calls P 52 #[.slice A n c] w (Rt fun v w' => v = (match getN bs with
      | some (m, u) => .tuple #[.int .i64 m, .int .i64 u, .int .i64 0]
      | none => .tuple #[.int .i64 0, .int .i64 0, .int .i64 2]) ∧ Sep W w' cs) := by
  obtain ⟨rfl, hl⟩ := hs.rd_shape hk
  unfold maxLen at hl
  have hs := hs.cpR hk
  refine enter Tryd.func52 Tryd.ntmps52 rfl rfl fun a (ha : Has a 40 [(0, _)]) => ?_
  refine wp_seq_k fun K1 hK1 => ?_
  refine wp_region_lit ?_
  refine pY ha (yAssign (by rfl)) rfl fun a ha => ?_
  refine pY ha (yAssign (by rfl)) rfl fun a ha => ?_
  refine pY ha (yAssign (by rfl)) rfl fun a ha => ?_
  refine pZ ?_
  refine hK1 _ _ ?_
  refine scopeF 2 99999 ?_
  refine wp_seq_k fun K2 hK2 => ?_
  refine wp_seq_k fun K3 hK3 => ?_
  refine wp_region_lit ?_
  refine pY ha (yMove (by rfl)) rfl fun a ha => ?_
  refine pY ha (yLenS Tryd.runUnderlying25 (by rfl)) rfl fun a ha => ?_
  refine pY ha (yMove (by rfl)) rfl fun a ha => ?_
  refine pZ ?_
  refine hK3 _ _ ?_
  refine wp_block ?_
  refine loopI (ι := Nat × Int) (fun i a w => i.1 ≤ bs.length ∧ 0 ≤ i.2 ∧ i.2 ≤ 1099511627904 ∧ getR i.2 (bs.drop i.1) i.1 = getN bs ∧ Has a 40 [(0, .slice A bs.length c), (7, .slice A bs.length c), (8, .int .i64 bs.length), (9, .int .i64 (i.1 : Int)), (2, .int .i64 i.2)] ∧ Sep W w (.rd kU8 (.slice A bs.length c) bs :: cs)) (fun i => bs.length - i.1) ((0, 0)) ?_ ?_
  · exact ⟨Nat.zero_le _, Int.le_refl _, by simp, rfl, has5 ha (by rfl) (by rfl) (by rfl) (by rfl) (by rfl), hs⟩
  · rintro i a w ⟨h1, h2, h3, h4, ha, hs⟩
    obtain ⟨i, m⟩ := i; simp only at h1 h2 h3 h4 ha hs
    refine wp_seq_k fun K4 hK4 => ?_
    refine wp_region_lit ?_
    refine pY ha (yLss (by rfl) (by rfl)) rfl fun a ha => ?_
    refine pZ ?_
    refine hK4 _ _ ?_
    refine wp_seq_k fun K5 hK5 => ?_
    first | refine cDec ha (by rfl) (fun hc10 => ?_) (fun hc10 => ?_) | refine cSplit ha (by rfl) (fun hc10 => ?_) (fun hc10 => ?_)
    · obtain ⟨x, hx⟩ : ∃ x, bs[i]? = some x := ⟨_, List.getElem?_eq_getElem (by omega)⟩
      have h4 := getR_step hx h4
      have hxl : x.toNat < 256 := x.toNat_lt
      refine wp_skip ?_
      refine hK5 _ _ ?_
      refine wp_seq_k fun K6 hK6 => ?_
      refine wp_block ?_
      refine wp_seq_k fun K7 hK7 => ?_
      refine wp_region_lit ?_
      refine pY ha (yMove (by rfl)) rfl fun a ha => ?_
      obtain ⟨b, off, rfl, hs⟩ := hs.rd_byte .here hx
      refine pY ha (yIndexA Tryd.runUnderlying25 Tryd.sizeOf5 (by rfl) (by rfl) (by omega) (by omega)) rfl fun a ha => ?_
      first | refine pY ha (yLoadB Tryd.isAgg5 hs (by rfl) (by repeat first | exact .here | apply Pick.there) (by rfl)) rfl fun a ha => ?_ | refine pY ha (yLoadR Tryd.isAgg5 hs (by rfl) (by repeat first | exact .here | apply Pick.there) (by rfl)) rfl fun a ha => ?_ | refine pY ha (yLoadR0 Tryd.isAgg5 hs (by rfl) (by repeat first | exact .here | apply Pick.there) (by rfl)) rfl fun a ha => ?_
      refine pY ha (yAssign (by rfl)) rfl fun a ha => ?_
      refine pY ha (yAssign (by rfl)) rfl fun a ha => ?_
      refine pZ ?_
      refine hK7 _ _ ?_
      refine wp_seq_k fun K8 hK8 => ?_
      refine wp_seq_k fun K9 hK9 => ?_
      refine wp_region_lit ?_
      refine pY ha (yMove (by rfl)) rfl fun a ha => ?_
      refine pY ha (yEql (by rfl) (by rfl)) rfl fun a ha => ?_
      refine pY ha (yMove (by rfl)) rfl fun a ha => ?_
      refine gDec (t := 16) ha (by rfl) (fun hg2 hp2 => ?_) (fun hg2 hp2 => ?_)
      · rw [hg2] at ha
        refine gOff ha rfl rfl (by rfl) rfl rfl fun a ha => ?_
        refine gOff ha rfl rfl (by rfl) rfl rfl fun a ha => ?_
        first | refine pY ha (yPickT (by rfl) (by rfl)) rfl fun a ha => ?_ | refine pY ha (yPickF (by rfl) (by rfl)) rfl fun a ha => ?_ | refine pY ha (yPick (by rfl) (by rfl) (by rfl)) rfl fun a ha => ?_
        refine pY ha (yMove (by rfl)) rfl fun a ha => ?_
        refine gOn ha rfl rfl (by rfl) ?_
        refine pY ha (yMove (by rfl)) rfl fun a ha => ?_
        refine gOn ha rfl rfl (by rfl) ?_
        refine pY ha (yGtr (by rfl) (by rfl)) rfl fun a ha => ?_
        first | refine pY ha (yPickT (by rfl) (by rfl)) rfl fun a ha => ?_ | refine pY ha (yPickF (by rfl) (by rfl)) rfl fun a ha => ?_ | refine pY ha (yPick (by rfl) (by rfl) (by rfl)) rfl fun a ha => ?_
        refine pZ ?_
        refine hK9 _ _ ?_
        first | refine cNDec ha (by rfl) (fun hc23 => ?_) (fun hc23 => ?_) | refine cDec ha (by rfl) (fun hc23 => ?_) (fun hc23 => ?_) | refine cSplit ha (by rfl) (fun hc23 => ?_) (fun hc23 => ?_)
        · refine wp_goto ?_
          repeat (with_reducible first | refine gThen ?_ | refine gBlock ?_)
          refine gxF rfl rfl ?_
          refine wp_seq_k fun K10 hK10 => ?_
          refine wp_skip ?_
          refine hK10 _ _ ?_
          refine wp_seq_k fun K11 hK11 => ?_
          refine wp_seq_k fun K12 hK12 => ?_
          refine wp_region_lit ?_
          refine pY ha (yAssign (by rfl)) rfl fun a ha => ?_
          refine pY ha (yAssign (by rfl)) rfl fun a ha => ?_
          refine pY ha (yAssign (by rfl)) rfl fun a ha => ?_
          refine pZ ?_
          refine hK12 _ _ ?_
          refine wp_ret ?_
          show bodyPost Tryd.prog Tryd.f52 _ .ret _ _
          refine ret3 rfl ha (by rfl) (by rfl) (by rfl) ?_
          first | exact absurd hg6 (by decide) | exact absurd hc23 (by decide) | skip
          all_goals first
            | (refine ⟨?_, hs.drop.drop⟩; rw [← h4]; first
                | rw [if_neg (by first | (have q := of_decide_eq_false hg2; omega) | (have q := of_decide_eq_false hg6; omega)), if_pos (by omega), if_neg (by simpa using hc37)]
                | (rw [if_neg (by first | (have q := of_decide_eq_false hg2; omega) | (have q := of_decide_eq_false hg6; omega)), if_pos (by omega), if_pos (by simpa using hc37)]; rfl)
                | rw [if_pos (by first | omega | (have q1 := of_decide_eq_true hg2; have q2 := of_decide_eq_true hg6; omega))])
            | (refine ⟨?_, hs.drop⟩; rw [← getR_end (by omega) h4])
        · refine wp_skip ?_
          refine hK8 _ _ ?_
          refine wp_seq_k fun K13 hK13 => ?_
          refine wp_region_lit ?_
          refine pY ha (yMove (by rfl)) rfl fun a ha => ?_
          first | refine pY ha (yMulN (by rfl) (by rfl) ⟨by omega, by omega⟩) rfl fun a ha => ?_ | refine pY ha (yMul (by rfl) (by rfl)) rfl fun a ha => ?_
          refine pY ha (yMove (by rfl)) rfl fun a ha => ?_
          refine pY ha (yRemK (by rfl) (by rfl) (by omega) (by omega) (by simp only [roomy]; omega)) rfl fun a ha => ?_
          first | refine pY ha (yConvI64 (fun w => ⟨_, Tryd.runUnderlying5 w⟩) Tryd.runUnderlying3 (by rfl) ⟨by omega, by omega⟩) rfl fun a ha => ?_ | refine pY ha (yConvInt (fun w => ⟨_, Tryd.runUnderlying5 w⟩) Tryd.runUnderlying3 (by rfl)) rfl fun a ha => ?_
          first | refine pY ha (yAddN (by rfl) (by rfl) ⟨by omega, by omega⟩) rfl fun a ha => ?_ | refine pY ha (yAdd (by rfl) (by rfl)) rfl fun a ha => ?_
          refine pY ha (yAssign (by rfl)) rfl fun a ha => ?_
          refine pZ ?_
          refine hK13 _ _ ?_
          refine wp_seq_k fun K14 hK14 => ?_
          refine wp_region_lit ?_
          refine pY ha (yMove (by rfl)) rfl fun a ha => ?_
          refine pY ha (yLss (by rfl) (by rfl)) rfl fun a ha => ?_
          refine pZ ?_
          refine hK14 _ _ ?_
          first | refine cDec ha (by rfl) (fun hc31 => ?_) (fun hc31 => ?_) | refine cSplit ha (by rfl) (fun hc31 => ?_) (fun hc31 => ?_)
          · refine wp_seq_k fun K15 hK15 => ?_
            refine wp_region_lit ?_
            refine pY ha (yMove (by rfl)) rfl fun a ha => ?_
            first | refine pY ha (yAddN (by rfl) (by rfl) ⟨by omega, by omega⟩) rfl fun a ha => ?_ | refine pY ha (yAdd (by rfl) (by rfl)) rfl fun a ha => ?_
            refine pY ha (yAssign (by rfl)) rfl fun a ha => ?_
            refine pZ ?_
            refine hK15 _ _ ?_
            refine wp_goto ?_
            repeat (with_reducible first | refine gThen ?_ | refine gBlock ?_)
            refine gxF rfl rfl ?_
            refine wp_seq_k fun K16 hK16 => ?_
            refine wp_skip ?_
            refine hK16 _ _ ?_
            refine wp_seq_k fun K17 hK17 => ?_
            refine wp_seq_k fun K18 hK18 => ?_
            refine wp_region_lit ?_
            refine pY ha (yMove (by rfl)) rfl fun a ha => ?_
            refine pC ha (nCall Tryd.call50 (by rfl)) rfl (Fits_c _ hs) ?_
            rintro v w ⟨rfl, hs⟩ a ha
            refine pY ha (yNot (by rfl)) rfl fun a ha => ?_
            refine pZ ?_
            refine hK18 _ _ ?_
            first | refine cNDec ha (by rfl) (fun hc37 => ?_) (fun hc37 => ?_) | refine cDec ha (by rfl) (fun hc37 => ?_) (fun hc37 => ?_) | refine cSplit ha (by rfl) (fun hc37 => ?_) (fun hc37 => ?_)
            · refine wp_seq_k fun K19 hK19 => ?_
              refine wp_region_lit ?_
              refine pY ha (yAssign (by rfl)) rfl fun a ha => ?_
              refine pY ha (yAssign (by rfl)) rfl fun a ha => ?_
              refine pY ha (yAssign (by rfl)) rfl fun a ha => ?_
              refine pZ ?_
              refine hK19 _ _ ?_
              refine wp_ret ?_
              show bodyPost Tryd.prog Tryd.f52 _ .ret _ _
              refine ret3 rfl ha (by rfl) (by rfl) (by rfl) ?_
              first | exact absurd hg6 (by decide) | exact absurd hc23 (by decide) | skip
              all_goals first
                | (refine ⟨?_, hs.drop.drop⟩; rw [← h4]; first
                    | rw [if_neg (by first | (have q := of_decide_eq_false hg2; omega) | (have q := of_decide_eq_false hg6; omega)), if_pos (by omega), if_neg (by simpa using hc37)]
                    | (rw [if_neg (by first | (have q := of_decide_eq_false hg2; omega) | (have q := of_decide_eq_false hg6; omega)), if_pos (by omega), if_pos (by simpa using hc37)]; rfl)
                    | rw [if_pos (by first | omega | (have q1 := of_decide_eq_true hg2; have q2 := of_decide_eq_true hg6; omega))])
                | (refine ⟨?_, hs.drop⟩; rw [← getR_end (by omega) h4])
            · refine wp_skip ?_
              refine hK17 _ _ ?_
              refine wp_seq_k fun K20 hK20 => ?_
              refine wp_region_lit ?_
              refine pY ha (yMove (by rfl)) rfl fun a ha => ?_
              refine pY ha (yMove (by rfl)) rfl fun a ha => ?_
              refine pY ha (yAssign (by rfl)) rfl fun a ha => ?_
              refine pY ha (yAssign (by rfl)) rfl fun a ha => ?_
              refine pY ha (yAssign (by rfl)) rfl fun a ha => ?_
              refine pZ ?_
              refine hK20 _ _ ?_
              refine wp_ret ?_
              show bodyPost Tryd.prog Tryd.f52 _ .ret _ _
              refine ret3 rfl ha (by rfl) (by rfl) (by rfl) ?_
              first | exact absurd hg6 (by decide) | exact absurd hc23 (by decide) | skip
              all_goals first
                | (refine ⟨?_, hs.drop.drop⟩; rw [← h4]; first
                    | rw [if_neg (by first | (have q := of_decide_eq_false hg2; omega) | (have q := of_decide_eq_false hg6; omega)), if_pos (by omega), if_neg (by simpa using hc37)]
                    | (rw [if_neg (by first | (have q := of_decide_eq_false hg2; omega) | (have q := of_decide_eq_false hg6; omega)), if_pos (by omega), if_pos (by simpa using hc37)]; rfl)
                    | rw [if_pos (by first | omega | (have q1 := of_decide_eq_true hg2; have q2 := of_decide_eq_true hg6; omega))])
                | (refine ⟨?_, hs.drop⟩; rw [← getR_end (by omega) h4])
          · refine wp_skip ?_
            refine hK6 _ _ ?_
            refine wp_region_lit ?_
            first | refine pY ha (yAddN (by rfl) (by rfl) ⟨by omega, by omega⟩) rfl fun a ha => ?_ | refine pY ha (yAdd (by rfl) (by rfl)) rfl fun a ha => ?_
            refine pY ha (yMove (by rfl)) rfl fun a ha => ?_
            refine pZ ?_
            first | exact absurd hg6 (by decide) | exact absurd hc23 (by decide) | skip
            all_goals refine ⟨(i + 1, m * 128 + (x.toNat : Int) % 128), ⟨by simp only; omega, by simp only; omega, by simp only; omega, ?_, has5 ha (by rfl) (by rfl) (by rfl) (by rfl) (by rfl), hs.drop⟩, by simp only; omega⟩
            all_goals rw [← h4, if_neg (by first | (have q := of_decide_eq_false hg2; omega) | (have q := of_decide_eq_false hg6; omega)), if_neg (by omega)]
      · rw [hg2] at ha
        refine gOn ha rfl rfl (by rfl) ?_
        refine pY ha (yMove (by rfl)) rfl fun a ha => ?_
        refine gOn ha rfl rfl (by rfl) ?_
        refine pY ha (yEql (by rfl) (by rfl)) rfl fun a ha => ?_
        first | refine pY ha (yPickT (by rfl) (by rfl)) rfl fun a ha => ?_ | refine pY ha (yPickF (by rfl) (by rfl)) rfl fun a ha => ?_ | refine pY ha (yPick (by rfl) (by rfl) (by rfl)) rfl fun a ha => ?_
        refine pY ha (yMove (by rfl)) rfl fun a ha => ?_
        refine gSplit (t := 20) ha (by rfl) (fun hg6 => ?_) (fun hg6 => ?_)
        · rw [hg6] at ha
          refine gOn ha rfl rfl (by rfl) ?_
          refine pY ha (yMove (by rfl)) rfl fun a ha => ?_
          refine gOn ha rfl rfl (by rfl) ?_
          refine pY ha (yGtr (by rfl) (by rfl)) rfl fun a ha => ?_
          first | refine pY ha (yPickT (by rfl) (by rfl)) rfl fun a ha => ?_ | refine pY ha (yPickF (by rfl) (by rfl)) rfl fun a ha => ?_ | refine pY ha (yPick (by rfl) (by rfl) (by rfl)) rfl fun a ha => ?_
          refine pZ ?_
          refine hK9 _ _ ?_
          first | refine cNDec ha (by rfl) (fun hc23 => ?_) (fun hc23 => ?_) | refine cDec ha (by rfl) (fun hc23 => ?_) (fun hc23 => ?_) | refine cSplit ha (by rfl) (fun hc23 => ?_) (fun hc23 => ?_)
          · refine wp_goto ?_
            repeat (with_reducible first | refine gThen ?_ | refine gBlock ?_)
            refine gxF rfl rfl ?_
            refine wp_seq_k fun K21 hK21 => ?_
            refine wp_skip ?_
            refine hK21 _ _ ?_
            refine wp_seq_k fun K22 hK22 => ?_
            refine wp_seq_k fun K23 hK23 => ?_
            refine wp_region_lit ?_
            refine pY ha (yAssign (by rfl)) rfl fun a ha => ?_
            refine pY ha (yAssign (by rfl)) rfl fun a ha => ?_
            refine pY ha (yAssign (by rfl)) rfl fun a ha => ?_
            refine pZ ?_
            refine hK23 _ _ ?_
            refine wp_ret ?_
            show bodyPost Tryd.prog Tryd.f52 _ .ret _ _
            refine ret3 rfl ha (by rfl) (by rfl) (by rfl) ?_
            first | exact absurd hg6 (by decide) | exact absurd hc23 (by decide) | skip
            all_goals first
              | (refine ⟨?_, hs.drop.drop⟩; rw [← h4]; first
                  | rw [if_neg (by first | (have q := of_decide_eq_false hg2; omega) | (have q := of_decide_eq_false hg6; omega)), if_pos (by omega), if_neg (by simpa using hc37)]
                  | (rw [if_neg (by first | (have q := of_decide_eq_false hg2; omega) | (have q := of_decide_eq_false hg6; omega)), if_pos (by omega), if_pos (by simpa using hc37)]; rfl)
                  | rw [if_pos (by first | omega | (have q1 := of_decide_eq_true hg2; have q2 := of_decide_eq_true hg6; omega))])
              | (refine ⟨?_, hs.drop⟩; rw [← getR_end (by omega) h4])
          · refine wp_skip ?_
            refine hK8 _ _ ?_
            refine wp_seq_k fun K24 hK24 => ?_
            refine wp_region_lit ?_
            refine pY ha (yMove (by rfl)) rfl fun a ha => ?_
            first | refine pY ha (yMulN (by rfl) (by rfl) ⟨by omega, by omega⟩) rfl fun a ha => ?_ | refine pY ha (yMul (by rfl) (by rfl)) rfl fun a ha => ?_
            refine pY ha (yMove (by rfl)) rfl fun a ha => ?_
            refine pY ha (yRemK (by rfl) (by rfl) (by omega) (by omega) (by simp only [roomy]; omega)) rfl fun a ha => ?_
            first | refine pY ha (yConvI64 (fun w => ⟨_, Tryd.runUnderlying5 w⟩) Tryd.runUnderlying3 (by rfl) ⟨by omega, by omega⟩) rfl fun a ha => ?_ | refine pY ha (yConvInt (fun w => ⟨_, Tryd.runUnderlying5 w⟩) Tryd.runUnderlying3 (by rfl)) rfl fun a ha => ?_
            first | refine pY ha (yAddN (by rfl) (by rfl) ⟨by omega, by omega⟩) rfl fun a ha => ?_ | refine pY ha (yAdd (by rfl) (by rfl)) rfl fun a ha => ?_
            refine pY ha (yAssign (by rfl)) rfl fun a ha => ?_
            refine pZ ?_
            refine hK24 _ _ ?_
            refine wp_seq_k fun K25 hK25 => ?_
            refine wp_region_lit ?_
            refine pY ha (yMove (by rfl)) rfl fun a ha => ?_
            refine pY ha (yLss (by rfl) (by rfl)) rfl fun a ha => ?_
            refine pZ ?_
            refine hK25 _ _ ?_
            first | refine cDec ha (by rfl) (fun hc31 => ?_) (fun hc31 => ?_) | refine cSplit ha (by rfl) (fun hc31 => ?_) (fun hc31 => ?_)
            · refine wp_seq_k fun K26 hK26 => ?_
              refine wp_region_lit ?_
              refine pY ha (yMove (by rfl)) rfl fun a ha => ?_
              first | refine pY ha (yAddN (by rfl) (by rfl) ⟨by omega, by omega⟩) rfl fun a ha => ?_ | refine pY ha (yAdd (by rfl) (by rfl)) rfl fun a ha => ?_
              refine pY ha (yAssign (by rfl)) rfl fun a ha => ?_
              refine pZ ?_
              refine hK26 _ _ ?_
              refine wp_goto ?_
              repeat (with_reducible first | refine gThen ?_ | refine gBlock ?_)
              refine gxF rfl rfl ?_
              refine wp_seq_k fun K27 hK27 => ?_
              refine wp_skip ?_
              refine hK27 _ _ ?_
              refine wp_seq_k fun K28 hK28 => ?_
              refine wp_seq_k fun K29 hK29 => ?_
              refine wp_region_lit ?_
              refine pY ha (yMove (by rfl)) rfl fun a ha => ?_
              refine pC ha (nCall Tryd.call50 (by rfl)) rfl (Fits_c _ hs) ?_
              rintro v w ⟨rfl, hs⟩ a ha
              refine pY ha (yNot (by rfl)) rfl fun a ha => ?_
              refine pZ ?_
              refine hK29 _ _ ?_
              first | refine cNDec ha (by rfl) (fun hc37 => ?_) (fun hc37 => ?_) | refine cDec ha (by rfl) (fun hc37 => ?_) (fun hc37 => ?_) | refine cSplit ha (by rfl) (fun hc37 => ?_) (fun hc37 => ?_)
              · refine wp_seq_k fun K30 hK30 => ?_
                refine wp_region_lit ?_
                refine pY ha (yAssign (by rfl)) rfl fun a ha => ?_
                refine pY ha (yAssign (by rfl)) rfl fun a ha => ?_
                refine pY ha (yAssign (by rfl)) rfl fun a ha => ?_
                refine pZ ?_
                refine hK30 _ _ ?_
                refine wp_ret ?_
                show bodyPost Tryd.prog Tryd.f52 _ .ret _ _
                refine ret3 rfl ha (by rfl) (by rfl) (by rfl) ?_
                first | exact absurd hg6 (by decide) | exact absurd hc23 (by decide) | skip
                all_goals first
                  | (refine ⟨?_, hs.drop.drop⟩; rw [← h4]; first
                      | rw [if_neg (by first | (have q := of_decide_eq_false hg2; omega) | (have q := of_decide_eq_false hg6; omega)), if_pos (by omega), if_neg (by simpa using hc37)]
                      | (rw [if_neg (by first | (have q := of_decide_eq_false hg2; omega) | (have q := of_decide_eq_false hg6; omega)), if_pos (by omega), if_pos (by simpa using hc37)]; rfl)
                      | rw [if_pos (by first | omega | (have q1 := of_decide_eq_true hg2; have q2 := of_decide_eq_true hg6; omega))])
                  | (refine ⟨?_, hs.drop⟩; rw [← getR_end (by omega) h4])
              · refine wp_skip ?_
                refine hK28 _ _ ?_
                refine wp_seq_k fun K31 hK31 => ?_
                refine wp_region_lit ?_
                refine pY ha (yMove (by rfl)) rfl fun a ha => ?_
                refine pY ha (yMove (by rfl)) rfl fun a ha => ?_
                refine pY ha (yAssign (by rfl)) rfl fun a ha => ?_
                refine pY ha (yAssign (by rfl)) rfl fun a ha => ?_
                refine pY ha (yAssign (by rfl)) rfl fun a ha => ?_
                refine pZ ?_
                refine hK31 _ _ ?_
                refine wp_ret ?_
                show bodyPost Tryd.prog Tryd.f52 _ .ret _ _
                refine ret3 rfl ha (by rfl) (by rfl) (by rfl) ?_
                first | exact absurd hg6 (by decide) | exact absurd hc23 (by decide) | skip
                all_goals first
                  | (refine ⟨?_, hs.drop.drop⟩; rw [← h4]; first
                      | rw [if_neg (by first | (have q := of_decide_eq_false hg2; omega) | (have q := of_decide_eq_false hg6; omega)), if_pos (by omega), if_neg (by simpa using hc37)]
                      | (rw [if_neg (by first | (have q := of_decide_eq_false hg2; omega) | (have q := of_decide_eq_false hg6; omega)), if_pos (by omega), if_pos (by simpa using hc37)]; rfl)
                      | rw [if_pos (by first | omega | (have q1 := of_decide_eq_true hg2; have q2 := of_decide_eq_true hg6; omega))])
                  | (refine ⟨?_, hs.drop⟩; rw [← getR_end (by omega) h4])
            · refine wp_skip ?_
              refine hK6 _ _ ?_
              refine wp_region_lit ?_
              first | refine pY ha (yAddN (by rfl) (by rfl) ⟨by omega, by omega⟩) rfl fun a ha => ?_ | refine pY ha (yAdd (by rfl) (by rfl)) rfl fun a ha => ?_
              refine pY ha (yMove (by rfl)) rfl fun a ha => ?_
              refine pZ ?_
              first | exact absurd hg6 (by decide) | exact absurd hc23 (by decide) | skip
              all_goals refine ⟨(i + 1, m * 128 + (x.toNat : Int) % 128), ⟨by simp only; omega, by simp only; omega, by simp only; omega, ?_, has5 ha (by rfl) (by rfl) (by rfl) (by rfl) (by rfl), hs.drop⟩, by simp only; omega⟩
              all_goals rw [← h4, if_neg (by first | (have q := of_decide_eq_false hg2; omega) | (have q := of_decide_eq_false hg6; omega)), if_neg (by omega)]
        · rw [hg6] at ha
          refine gOff ha rfl rfl (by rfl) rfl rfl fun a ha => ?_
          refine gOff ha rfl rfl (by rfl) rfl rfl fun a ha => ?_
          first | refine pY ha (yPickT (by rfl) (by rfl)) rfl fun a ha => ?_ | refine pY ha (yPickF (by rfl) (by rfl)) rfl fun a ha => ?_ | refine pY ha (yPick (by rfl) (by rfl) (by rfl)) rfl fun a ha => ?_
          refine pZ ?_
          refine hK9 _ _ ?_
          refine cTrue ha (by rfl) ?_
          refine wp_goto ?_
          repeat (with_reducible first | refine gThen ?_ | refine gBlock ?_)
          refine gxF rfl rfl ?_
          refine wp_seq_k fun K32 hK32 => ?_
          refine wp_skip ?_
          refine hK32 _ _ ?_
          refine wp_seq_k fun K33 hK33 => ?_
          refine wp_seq_k fun K34 hK34 => ?_
          refine wp_region_lit ?_
          refine pY ha (yAssign (by rfl)) rfl fun a ha => ?_
          refine pY ha (yAssign (by rfl)) rfl fun a ha => ?_
          refine pY ha (yAssign (by rfl)) rfl fun a ha => ?_
          refine pZ ?_
          refine hK34 _ _ ?_
          refine wp_ret ?_
          show bodyPost Tryd.prog Tryd.f52 _ .ret _ _
          refine ret3 rfl ha (by rfl) (by rfl) (by rfl) ?_
          first | exact absurd hg6 (by decide) | exact absurd hc23 (by decide) | skip
          all_goals first
            | (refine ⟨?_, hs.drop.drop⟩; rw [← h4]; first
                | rw [if_neg (by first | (have q := of_decide_eq_false hg2; omega) | (have q := of_decide_eq_false hg6; omega)), if_pos (by omega), if_neg (by simpa using hc37)]
                | (rw [if_neg (by first | (have q := of_decide_eq_false hg2; omega) | (have q := of_decide_eq_false hg6; omega)), if_pos (by omega), if_pos (by simpa using hc37)]; rfl)
                | rw [if_pos (by first | omega | (have q1 := of_decide_eq_true hg2; have q2 := of_decide_eq_true hg6; omega))])
            | (refine ⟨?_, hs.drop⟩; rw [← getR_end (by omega) h4])
    · refine wp_exit ?_
      refine hK2 _ _ ?_
      refine wp_seq_k fun K35 hK35 => ?_
      refine wp_label ?_
      refine hK35 _ _ ?_
      refine wp_seq_k fun K36 hK36 => ?_
      refine wp_seq_k fun K37 hK37 => ?_
      refine wp_region_lit ?_
      refine pY ha (yAssign (by rfl)) rfl fun a ha => ?_
      refine pY ha (yAssign (by rfl)) rfl fun a ha => ?_
      refine pY ha (yAssign (by rfl)) rfl fun a ha => ?_
      refine pZ ?_
      refine hK37 _ _ ?_
      refine wp_ret ?_
      show bodyPost Tryd.prog Tryd.f52 _ .ret _ _
      refine ret3 rfl ha (by rfl) (by rfl) (by rfl) ?_
      first | exact absurd hg6 (by decide) | exact absurd hc23 (by decide) | skip
      all_goals first
        | (refine ⟨?_, hs.drop.drop⟩; rw [← h4]; first
            | rw [if_neg (by first | (have q := of_decide_eq_false hg2; omega) | (have q := of_decide_eq_false hg6; omega)), if_pos (by omega), if_neg (by simpa using hc37)]
            | (rw [if_neg (by first | (have q := of_decide_eq_false hg2; omega) | (have q := of_decide_eq_false hg6; omega)), if_pos (by omega), if_pos (by simpa using hc37)]; rfl)
            | rw [if_pos (by first | omega | (have q1 := of_decide_eq_true hg2; have q2 := of_decide_eq_true hg6; omega))])
        | (refine ⟨?_, hs.drop⟩; rw [← getR_end (by omega) h4])
theorem getR_six {n : Int} {bs : List UInt8} {i : Nat} {g : Option (Int × Nat)} (hn : 8589934592 < n) (h : getR n (bs.drop i) i = g) : none = g := by
  rw [← h]
  cases bs.drop i with
  | nil => rfl
  | cons c r => rw [getR, if_pos (by omega)]
/-- How big a number is of which i bytes were read. -/
def span (i : Nat) (n : Int) : Prop := (i = 0 ∧ n = 0) ∨ (i = 1 ∧ 1 ≤ n ∧ n < 128) ∨ (i = 2 ∧ 128 ≤ n ∧ n < 16384) ∨ (i = 3 ∧ 16384 ≤ n ∧ n < 2097152) ∨ (i = 4 ∧ 2097152 ≤ n ∧ n < 268435456) ∨ (i = 5 ∧ 268435456 ≤ n ∧ n < 34359738368) ∨ (i = 6 ∧ 34359738368 ≤ n ∧ n < 4398046511104)
theorem span_lt {i : Nat} {m : Int} (h : span i m) : i ≤ 6 ∧ 0 ≤ m ∧ m < 4398046511104 := by
  unfold span at h; rcases h with h | h | h | h | h | h | h <;> omega
theorem span_big {i : Nat} {m : Int} (h : span i m) (hi : i < 6) (hm : 8589934592 < m) : i = 5 := by
  unfold span at h; rcases h with h | h | h | h | h | h | h <;> omega
theorem span_six {i : Nat} {m : Int} (h : span i m) (hi : 6 ≤ i) : 8589934592 < m := by
  unfold span at h; rcases h with h | h | h | h | h | h | h <;> omega
theorem span_step {i : Nat} {m d : Int} (h : span i m) (hi : i < 6) (h0 : 0 ≤ d) (h1 : d < 128) (h2 : i = 0 → 1 ≤ d) : span (i + 1) (m * 128 + d) := by
  unfold span at h ⊢
  rcases h with h | h | h | h | h | h | h
  · exact .inr (.inl (by omega))
  · exact .inr (.inr (.inl (by omega)))
  · exact .inr (.inr (.inr (.inl (by omega))))
  · exact .inr (.inr (.inr (.inr (.inl (by omega)))))
  · exact .inr (.inr (.inr (.inr (.inr (.inl (by omega))))))
  · exact .inr (.inr (.inr (.inr (.inr (.inr (by omega))))))
  · omega
theorem RGet_c {A : Option Addr} {n c : Nat} {bs : List UInt8} (hs : Sep W w cs) (hk : Pick cs (.rd kU8 (.slice A n c) bs) r) :
    Calls P 54 #[.slice A n c] w (Rt fun v w' => v = (match getN bs with
      | some (m, u) => .tuple #[.int .i64 m, .int .i64 u]
      | none => .tuple #[.int .i64 0, .int .i64 0]) ∧ Sep W w' cs) := by
  obtain ⟨rfl, hl⟩ := hs.rd_shape hk
  unfold maxLen at hl
  have hs := hs.cpR hk
  refine enter Tryd.func54 Tryd.ntmps54 rfl rfl fun a (ha : Has a 45 [(0, _)]) => ?_
  refine wp_seq_k fun K1 hK1 => ?_
  refine wp_region_lit ?_
  refine pY ha (yAssign (by rfl)) rfl fun a ha => ?_
  refine pY ha (yAssign (by rfl)) rfl fun a ha => ?_
  refine pZ ?_
  refine hK1 _ _ ?_
  refine wp_seq_k fun K2 hK2 => ?_
  refine wp_region_lit ?_
  refine pY ha (yAssign (by rfl)) rfl fun a ha => ?_
  refine pZ ?_
  refine hK2 _ _ ?_
  refine wp_seq_k fun K3 hK3 => ?_
  refine wp_seq_k fun K4 hK4 => ?_
  refine wp_region_lit ?_
  refine pY ha (yAssign (by rfl)) rfl fun a ha => ?_
  refine pZ ?_
  refine hK4 _ _ ?_
  refine wp_block ?_
  refine loopI (ι := Nat × Int) (fun i a w => i.1 ≤ bs.length ∧ span i.1 i.2 ∧ (getR i.2 (bs.drop i.1) i.1 = getN bs ∨ i.1 = 6 ∧ none = getN bs) ∧ Has a 45 [(0, .slice A bs.length c), (5, .int .i64 (i.1 : Int)), (4, .int .i64 i.2)] ∧ Sep W w (.rd kU8 (.slice A bs.length c) bs :: cs)) (fun i => bs.length - i.1) ((0, 0)) ?_ ?_
  · exact ⟨Nat.zero_le _, .inl ⟨rfl, rfl⟩, .inl rfl, has3 ha (by rfl) (by rfl) (by rfl), hs⟩
  · rintro i a w ⟨h1, h2, h4, ha, hs⟩
    obtain ⟨i, m⟩ := i; simp only at h1 h2 h4 ha hs
    have hm := span_lt h2
    refine wp_seq_k fun K5 hK5 => ?_
    refine wp_seq_k fun K6 hK6 => ?_
    refine wp_region_lit ?_
    refine pY ha (yMove (by rfl)) rfl fun a ha => ?_
    refine pY ha (yMove (by rfl)) rfl fun a ha => ?_
    refine pY ha (yLenS Tryd.runUnderlying25 (by rfl)) rfl fun a ha => ?_
    refine pY ha (yLss (by rfl) (by rfl)) rfl fun a ha => ?_
    refine pY ha (yMove (by rfl)) rfl fun a ha => ?_
    refine gDec (t := 10) ha (by rfl) (fun hg4 hp4 => ?_) (fun hg4 hp4 => ?_)
    · rw [hg4] at ha
      have hg4 := of_decide_eq_false hg4
      refine gOff ha rfl rfl (by rfl) rfl rfl fun a ha => ?_
      refine gOff ha rfl rfl (by rfl) rfl rfl fun a ha => ?_
      first | refine pY ha (yPickT (by rfl) (by rfl)) rfl fun a ha => ?_ | refine pY ha (yPickF (by rfl) (by rfl)) rfl fun a ha => ?_ | refine pY ha (yPick (by rfl) (by rfl) (by rfl)) rfl fun a ha => ?_
      refine pZ ?_
      refine hK6 _ _ ?_
      refine cFalse ha (by rfl) ?_
      refine wp_exit ?_
      refine hK3 _ _ ?_
      refine wp_seq_k fun K7 hK7 => ?_
      refine wp_region_lit ?_
      refine pY ha (yAssign (by rfl)) rfl fun a ha => ?_
      refine pY ha (yAssign (by rfl)) rfl fun a ha => ?_
      refine pZ ?_
      refine hK7 _ _ ?_
      refine wp_ret ?_
      show bodyPost Tryd.prog Tryd.f54 _ .ret _ _
      refine ret2 rfl ha (by rfl) (by rfl) ?_
      refine ⟨?_, hs.drop⟩
      rcases h4 with h4 | h4
      · rw [← getR_end (by omega) h4]
      · rw [← h4.2]
    · rw [hg4] at ha
      have hg4 := of_decide_eq_true hg4
      refine gOn ha rfl rfl (by rfl) ?_
      refine pY ha (yMove (by rfl)) rfl fun a ha => ?_
      refine gOn ha rfl rfl (by rfl) ?_
      refine pY ha (yLss (by rfl) (by rfl)) rfl fun a ha => ?_
      first | refine pY ha (yPickT (by rfl) (by rfl)) rfl fun a ha => ?_ | refine pY ha (yPickF (by rfl) (by rfl)) rfl fun a ha => ?_ | refine pY ha (yPick (by rfl) (by rfl) (by rfl)) rfl fun a ha => ?_
      refine pZ ?_
      refine hK6 _ _ ?_
      first | refine cNDec ha (by rfl) (fun hc13 => ?_) (fun hc13 => ?_) | refine cDec ha (by rfl) (fun hc13 => ?_) (fun hc13 => ?_) | refine cSplit ha (by rfl) (fun hc13 => ?_) (fun hc13 => ?_)
      · obtain ⟨x, hx⟩ : ∃ x, bs[i]? = some x := ⟨_, List.getElem?_eq_getElem (by omega)⟩
        have h4 := h4.resolve_right (by omega)
        have h4 := getR_step hx h4
        have hxl : x.toNat < 256 := x.toNat_lt
        obtain ⟨b, off, rfl, hs⟩ := hs.rd_byte .here hx
        refine wp_skip ?_
        refine hK5 _ _ ?_
        refine wp_seq_k fun K8 hK8 => ?_
        refine wp_block ?_
        refine wp_seq_k fun K9 hK9 => ?_
        refine wp_seq_k fun K10 hK10 => ?_
        refine cutC (fun a w => Has a 45 [(24, .bool (decide (i = 0 ∧ x.toNat = 128))), (0, .slice (some ⟨b, off, none⟩) bs.length c), (5, .int .i64 (i : Int)), (4, .int .i64 m)] ∧ Sep W w (.at b (off + i * 1) [.int .u8 x.toNat] :: .rd kU8 (.slice (some ⟨b, off, none⟩) bs.length c) bs :: cs)) ?_ ?_
        · refine wp_region_lit ?_
          refine pY ha (yMove (by rfl)) rfl fun a ha => ?_
          refine pY ha (yEql (by rfl) (by rfl)) rfl fun a ha => ?_
          refine pY ha (yMove (by rfl)) rfl fun a ha => ?_
          refine gDec (t := 18) ha (by rfl) (fun hg2 hp2 => ?_) (fun hg2 hp2 => ?_)
          · rw [hg2] at ha
            refine gOff ha rfl rfl (by rfl) rfl rfl fun a ha => ?_
            refine gOff ha rfl rfl (by rfl) rfl rfl fun a ha => ?_
            refine gOff ha rfl rfl (by rfl) rfl rfl fun a ha => ?_
            refine gOff ha rfl rfl (by rfl) rfl rfl fun a ha => ?_
            refine gOff ha rfl rfl (by rfl) rfl rfl fun a ha => ?_
            first | refine pY ha (yPickT (by rfl) (by rfl)) rfl fun a ha => ?_ | refine pY ha (yPickF (by rfl) (by rfl)) rfl fun a ha => ?_ | refine pY ha (yPick (by rfl) (by rfl) (by rfl)) rfl fun a ha => ?_
            refine pZ ⟨rfl, ?_⟩
            first
              | exact ⟨has4 ha (bF (by have := of_decide_eq_false hg2; omega)) (by rfl) (by rfl) (by rfl), hs⟩
              | exact ⟨has4 ha (bT (by have := of_decide_eq_true hg2; omega)) (by rfl) (by rfl) (by rfl), hs⟩
          · rw [hg2] at ha
            refine gOn ha rfl rfl (by rfl) ?_
            refine pY ha (yMove (by rfl)) rfl fun a ha => ?_
            refine gOn ha rfl rfl (by rfl) ?_
            refine pY ha (yMove (by rfl)) rfl fun a ha => ?_
            refine gOn ha rfl rfl (by rfl) ?_
            refine pY ha (yIndexA Tryd.runUnderlying25 Tryd.sizeOf5 (by rfl) (by rfl) (by omega) (by omega)) rfl fun a ha => ?_
            refine gOn ha rfl rfl (by rfl) ?_
            first | refine pY ha (yLoadB Tryd.isAgg5 hs (by rfl) (by repeat first | exact .here | apply Pick.there) (by rfl)) rfl fun a ha => ?_ | refine pY ha (yLoadR Tryd.isAgg5 hs (by rfl) (by repeat first | exact .here | apply Pick.there) (by rfl)) rfl fun a ha => ?_ | refine pY ha (yLoadR0 Tryd.isAgg5 hs (by rfl) (by repeat first | exact .here | apply Pick.there) (by rfl)) rfl fun a ha => ?_
            refine gOn ha rfl rfl (by rfl) ?_
            refine pY ha (yEql (by rfl) (by rfl)) rfl fun a ha => ?_
            first | refine pY ha (yPickT (by rfl) (by rfl)) rfl fun a ha => ?_ | refine pY ha (yPickF (by rfl) (by rfl)) rfl fun a ha => ?_ | refine pY ha (yPick (by rfl) (by rfl) (by rfl)) rfl fun a ha => ?_
            refine pZ ⟨rfl, ?_⟩
            first
              | exact ⟨has4 ha (bF (by have := of_decide_eq_false hg2; omega)) (by rfl) (by rfl) (by rfl), hs⟩
              | exact ⟨has4 ha (bT (by have := of_decide_eq_true hg2; omega)) (by rfl) (by rfl) (by rfl), hs⟩
        rintro a w ⟨ha, hs⟩
        refine hK10 _ _ ?_
        first | refine cDec ha (by rfl) (fun hc24 => ?_) (fun hc24 => ?_) | refine cSplit ha (by rfl) (fun hc24 => ?_) (fun hc24 => ?_)
        · refine wp_seq_k fun K11 hK11 => ?_
          refine wp_region_lit ?_
          refine pY ha (yAssign (by rfl)) rfl fun a ha => ?_
          refine pY ha (yAssign (by rfl)) rfl fun a ha => ?_
          refine pZ ?_
          refine hK11 _ _ ?_
          refine wp_ret ?_
          show bodyPost Tryd.prog Tryd.f54 _ .ret _ _
          refine ret2 rfl ha (by rfl) (by rfl) ?_
          refine ⟨?_, hs.drop.drop⟩; rw [← h4, if_pos (.inl hc24)]
        · refine wp_skip ?_
          refine hK9 _ _ ?_
          refine wp_seq_k fun K12 hK12 => ?_
          have hm2 : 0 ≤ m * 128 ∧ m * 128 < 562949953421312 := by omega
          refine wp_region_lit ?_
          refine pY ha (yMove (by rfl)) rfl fun a ha => ?_
          refine pY ha (yShlC (q := 128) (by rfl) (by rfl) (by decide) (by decide) (by decide) ⟨by omega, by omega⟩) rfl fun a ha => ?_
          refine pY ha (yMove (by rfl)) rfl fun a ha => ?_
          refine pY ha (yMove (by rfl)) rfl fun a ha => ?_
          refine pY ha (yIndexA Tryd.runUnderlying25 Tryd.sizeOf5 (by rfl) (by rfl) (by omega) (by omega)) rfl fun a ha => ?_
          first | refine pY ha (yLoadB Tryd.isAgg5 hs (by rfl) (by repeat first | exact .here | apply Pick.there) (by rfl)) rfl fun a ha => ?_ | refine pY ha (yLoadR Tryd.isAgg5 hs (by rfl) (by repeat first | exact .here | apply Pick.there) (by rfl)) rfl fun a ha => ?_ | refine pY ha (yLoadR0 Tryd.isAgg5 hs (by rfl) (by repeat first | exact .here | apply Pick.there) (by rfl)) rfl fun a ha => ?_
          refine pY ha (yAndM (q := 128) 7 (by rfl) (by rfl) (by decide) (by decide) (by decide) (by omega) (by simp only [roomy]; omega)) rfl fun a ha => ?_
          first | refine pY ha (yConvI64 (fun w => ⟨_, Tryd.runUnderlying5 w⟩) Tryd.runUnderlying3 (by rfl) ⟨by omega, by omega⟩) rfl fun a ha => ?_ | refine pY ha (yConvInt (fun w => ⟨_, Tryd.runUnderlying5 w⟩) Tryd.runUnderlying3 (by rfl)) rfl fun a ha => ?_
          first | refine pY ha (yOrJ (q := 128) 7 (by rfl) (by rfl) (by decide) (by omega) (by omega) (by simp only [roomy]; omega) (by omega) (by omega) (by simp only [roomy]; omega)) rfl fun a ha => ?_ | refine pY ha (yOrJ' (q := 128) 7 (by rfl) (by rfl) (by decide) (by omega) (by omega) (by simp only [roomy]; omega) (by omega) (by omega) (by simp only [roomy]; omega)) rfl fun a ha => ?_ | refine pY ha (yOrJ (q := 64) 6 (by rfl) (by rfl) (by decide) (by omega) (by omega) (by simp only [roomy]; omega) (by omega) (by omega) (by simp only [roomy]; omega)) rfl fun a ha => ?_ | refine pY ha (yOrJ' (q := 64) 6 (by rfl) (by rfl) (by decide) (by omega) (by omega) (by simp only [roomy]; omega) (by omega) (by omega) (by simp only [roomy]; omega)) rfl fun a ha => ?_
          refine pY ha (yAssign (by rfl)) rfl fun a ha => ?_
          refine pZ ?_
          refine hK12 _ _ ?_
          refine wp_seq_k fun K13 hK13 => ?_
          refine wp_region_lit ?_
          refine pY ha (yMove (by rfl)) rfl fun a ha => ?_
          refine pY ha (yMove (by rfl)) rfl fun a ha => ?_
          refine pY ha (yIndexA Tryd.runUnderlying25 Tryd.sizeOf5 (by rfl) (by rfl) (by omega) (by omega)) rfl fun a ha => ?_
          first | refine pY ha (yLoadB Tryd.isAgg5 hs (by rfl) (by repeat first | exact .here | apply Pick.there) (by rfl)) rfl fun a ha => ?_ | refine pY ha (yLoadR Tryd.isAgg5 hs (by rfl) (by repeat first | exact .here | apply Pick.there) (by rfl)) rfl fun a ha => ?_ | refine pY ha (yLoadR0 Tryd.isAgg5 hs (by rfl) (by repeat first | exact .here | apply Pick.there) (by rfl)) rfl fun a ha => ?_
          refine pY ha (yLss (by rfl) (by rfl)) rfl fun a ha => ?_
          refine pZ ?_
          refine hK13 _ _ ?_
          first | refine cDec ha (by rfl) (fun hc38 => ?_) (fun hc38 => ?_) | refine cSplit ha (by rfl) (fun hc38 => ?_) (fun hc38 => ?_)
          · refine wp_seq_k fun K14 hK14 => ?_
            refine wp_seq_k fun K15 hK15 => ?_
            refine wp_region_lit ?_
            refine pY ha (yMove (by rfl)) rfl fun a ha => ?_
            refine pC ha (nCall Tryd.call60 (by rfl)) rfl (RFits_c _ hs) ?_
            rintro v w ⟨rfl, hs⟩ a ha
            refine pY ha (yNot (by rfl)) rfl fun a ha => ?_
            refine pZ ?_
            refine hK15 _ _ ?_
            first | refine cNDec ha (by rfl) (fun hc41 => ?_) (fun hc41 => ?_) | refine cDec ha (by rfl) (fun hc41 => ?_) (fun hc41 => ?_) | refine cSplit ha (by rfl) (fun hc41 => ?_) (fun hc41 => ?_)
            · refine wp_seq_k fun K16 hK16 => ?_
              refine wp_region_lit ?_
              refine pY ha (yAssign (by rfl)) rfl fun a ha => ?_
              refine pY ha (yAssign (by rfl)) rfl fun a ha => ?_
              refine pZ ?_
              refine hK16 _ _ ?_
              refine wp_ret ?_
              show bodyPost Tryd.prog Tryd.f54 _ .ret _ _
              refine ret2 rfl ha (by rfl) (by rfl) ?_
              refine ⟨?_, hs.drop.drop⟩; rw [← h4]
              by_cases h0 : 8589934592 < m
              · rw [if_pos (.inr h0)]
              · rw [if_neg (by omega), if_pos (by omega), if_neg (by simpa using hc41)]
            · refine wp_skip ?_
              refine hK14 _ _ ?_
              refine wp_seq_k fun K17 hK17 => ?_
              refine wp_region_lit ?_
              refine pY ha (yMove (by rfl)) rfl fun a ha => ?_
              refine pY ha (yMove (by rfl)) rfl fun a ha => ?_
              first | refine pY ha (yAddN (by rfl) (by rfl) ⟨by omega, by omega⟩) rfl fun a ha => ?_ | refine pY ha (yAdd (by rfl) (by rfl)) rfl fun a ha => ?_
              refine pY ha (yAssign (by rfl)) rfl fun a ha => ?_
              refine pY ha (yAssign (by rfl)) rfl fun a ha => ?_
              refine pZ ?_
              refine hK17 _ _ ?_
              refine wp_ret ?_
              show bodyPost Tryd.prog Tryd.f54 _ .ret _ _
              refine ret2 rfl ha (by rfl) (by rfl) ?_
              refine ⟨?_, hs.drop.drop⟩; rw [← h4]
              by_cases h0 : 8589934592 < m
              · exfalso; simp [fits] at hc41; omega
              · rw [if_neg (by omega), if_pos (by omega), if_pos (by simpa using hc41)]; rfl
          · refine wp_skip ?_
            refine hK8 _ _ ?_
            refine wp_region_lit ?_
            refine pY ha (yMove (by rfl)) rfl fun a ha => ?_
            first | refine pY ha (yAddN (by rfl) (by rfl) ⟨by omega, by omega⟩) rfl fun a ha => ?_ | refine pY ha (yAdd (by rfl) (by rfl)) rfl fun a ha => ?_
            refine pY ha (yAssign (by rfl)) rfl fun a ha => ?_
            refine pZ ?_
            refine ⟨(i + 1, m * 128 + (x.toNat : Int) % 128), ⟨by simp only; omega, span_step h2 (by omega) (by omega) (by omega) (by omega), ?_, has3 ha (by rfl) (by rfl) (by rfl), hs.drop⟩, by simp only; omega⟩
            by_cases h0 : 8589934592 < m
            · exact .inr ⟨by have := span_big h2 (by omega) h0; simp only; omega, by rw [← h4, if_pos (.inr h0)]⟩
            · exact .inl (by rw [← h4, if_neg (by omega), if_neg (by omega)])
      · refine wp_exit ?_
        refine hK3 _ _ ?_
        refine wp_seq_k fun K18 hK18 => ?_
        refine wp_region_lit ?_
        refine pY ha (yAssign (by rfl)) rfl fun a ha => ?_
        refine pY ha (yAssign (by rfl)) rfl fun a ha => ?_
        refine pZ ?_
        refine hK18 _ _ ?_
        refine wp_ret ?_
        show bodyPost Tryd.prog Tryd.f54 _ .ret _ _
        refine ret2 rfl ha (by rfl) (by rfl) ?_
        refine ⟨?_, hs.drop⟩
        rcases h4 with h4 | h4
        · rw [← getR_six (span_six h2 (by omega)) h4]
        · rw [← h4.2]
end
end Go.Proofs.YtnkcmpmcmkljnaaDoor
