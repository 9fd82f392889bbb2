/- A part of the proof of WireKinds (part 3 of 6): the words and the walks. -/
import Derived.Test.YtnlhbkaieoogfaaDoorKKinB
set_option linter.unusedVariables false
set_option linter.unusedSimpArgs false
namespace Go.Proofs.YtnlhbkaieoogfaaDoor
open Go.RowKit
section
variable {W w : World} {cs r r' : List Ch}
theorem EqActs_c {A A' : Option Addr} {n n' c c' : Nat} {xs ys : List Actn} (hs : Sep W w cs) (hk : Pick cs (.rd kActn (.slice A n c) xs) r) (hk' : Pick cs (.rd kActn (.slice A' n' c') ys) r') :
    Calls P 57 #[.slice A n c, .slice A' n' c', .func (.func 58) #[] #[]] w (Rt fun v w' => v = .bool (decide (xs = ys)) ∧ Sep W w' cs) := by
  obtain ⟨rfl, hl⟩ := hs.rd_shape hk
  obtain ⟨rfl, hl'⟩ := hs.rd_shape hk'
  unfold maxLen at hl hl'
  have hs := (hs.cpR hk).cpR (.there hk')
  refine enter Tryd.func57 Tryd.ntmps57 rfl rfl fun a (ha : Has a 32 [(0, _), (1, _), (2, _)]) => ?_
  refine wp_seq_k fun K1 hK1 => ?_
  refine wp_region_lit ?_
  refine pY ha (yAssign (by rfl)) rfl fun a ha => ?_
  refine pZ ?_
  refine hK1 _ _ ?_
  refine wp_seq_k fun K2 hK2 => ?_
  refine wp_seq_k fun K3 hK3 => ?_
  refine wp_region_lit ?_
  refine pY ha (yMove (by rfl)) rfl fun a ha => ?_
  refine pY ha (yLenS Tryd.runUnderlying22 (by rfl)) rfl fun a ha => ?_
  refine pY ha (yMove (by rfl)) rfl fun a ha => ?_
  refine pY ha (yLenS Tryd.runUnderlying22 (by rfl)) rfl fun a ha => ?_
  refine pY ha (yNeq (by rfl) (by rfl)) rfl fun a ha => ?_
  refine pZ ?_
  refine hK3 _ _ ?_
  first | refine cNDec ha (by rfl) (fun hc14 => ?_) (fun hc14 => ?_) | refine cDec ha (by rfl) (fun hc14 => ?_) (fun hc14 => ?_) | refine cSplit ha (by rfl) (fun hc14 => ?_) (fun hc14 => ?_)
  · refine wp_seq_k fun K4 hK4 => ?_
    refine wp_region_lit ?_
    refine pY ha (yAssign (by rfl)) rfl fun a ha => ?_
    refine pZ ?_
    refine hK4 _ _ ?_
    refine wp_ret ?_
    show bodyPost Tryd.prog Tryd.f57 _ .ret _ _
    refine ret1 rfl ha (by rfl) ?_
    exact ⟨congrArg Value.bool (decide_eq_false (by rintro rfl; exact hc14 rfl)).symm, hs.drop.drop⟩
  · refine wp_skip ?_
    refine hK2 _ _ ?_
    refine wp_seq_k fun K5 hK5 => ?_
    refine wp_seq_k fun K6 hK6 => ?_
    refine wp_region_lit ?_
    refine pY ha (yMove (by rfl)) rfl fun a ha => ?_
    refine pY ha (yLenS Tryd.runUnderlying22 (by rfl)) rfl fun a ha => ?_
    refine pY ha (yMove (by rfl)) rfl fun a ha => ?_
    refine pZ ?_
    refine hK6 _ _ ?_
    refine wp_block ?_
    refine loopI (ι := Nat) (fun i a w => i ≤ xs.length ∧ xs.take i = ys.take i ∧ Has a 32 [(1, .slice A' ys.length c'), (2, .func (.func 58) #[] #[]), (15, .slice A xs.length c), (16, .int .i64 xs.length), (17, .int .i64 i)] ∧ Sep W w (.rd kActn (.slice A' ys.length c') ys :: .rd kActn (.slice A xs.length c) xs :: cs)) (fun i => xs.length - i) (0) ?_ ?_
    · exact ⟨Nat.zero_le _, rfl, has5 ha (by rfl) (by rfl) (by rfl) (by rfl) (by rfl), hs⟩
    · rintro i a w ⟨h1, h2, ha, hs⟩
      refine wp_seq_k fun K7 hK7 => ?_
      refine wp_region_lit ?_
      refine pY ha (yLss (by rfl) (by rfl)) rfl fun a ha => ?_
      refine pZ ?_
      refine hK7 _ _ ?_
      refine wp_seq_k fun K8 hK8 => ?_
      first | refine cDec ha (by rfl) (fun hc18 => ?_) (fun hc18 => ?_) | refine cSplit ha (by rfl) (fun hc18 => ?_) (fun hc18 => ?_)
      · obtain ⟨x, hx⟩ : ∃ x, xs[i]? = some x := ⟨_, List.getElem?_eq_getElem (by omega)⟩
        obtain ⟨y, hy⟩ : ∃ y, ys[i]? = some y := ⟨_, List.getElem?_eq_getElem (by omega)⟩
        obtain ⟨b, off, B, m, d, rfl, hs⟩ := hs.rd_actn (.there .here) hx
        obtain ⟨b', off', B', m', d', rfl, hs⟩ := hs.rd_actn (.there (.there .here)) hy
        refine wp_skip ?_
        refine hK8 _ _ ?_
        refine wp_seq_k fun K9 hK9 => ?_
        refine wp_block ?_
        refine wp_seq_k fun K10 hK10 => ?_
        refine wp_region_lit ?_
        refine pY ha (yMove (by rfl)) rfl fun a ha => ?_
        refine pY ha (yIndexA Tryd.runUnderlying22 Tryd.sizeOf43 (by rfl) (by rfl) (by omega) (by omega)) rfl fun a ha => ?_
        first | refine pY ha (yLoadRA Tryd.isAgg43 Tryd.sizeOf43 hs (by rfl) (by repeat first | exact .here | apply Pick.there) (by rfl)) rfl fun a ha => ?_ | refine pY ha (yLoadBA Tryd.isAgg43 Tryd.sizeOf43 hs (by rfl) (by repeat first | exact .here | apply Pick.there) (by rfl)) rfl fun a ha => ?_
        refine pAlloc (zs := [.int .i64 0, .int .i64 0, .int .i64 0, .string ⟨#[]⟩, .bool false, .slice none 0 0]) ha Tryd.zeroValue43 (by rfl) hs rfl fun b w hs a ha => ?_
        refine pY ha (yAssign (by rfl)) rfl fun a ha => ?_
        refine pStoreA ha Tryd.sizeOf43 hs (by rfl) (by rfl) (by repeat first | exact .here | apply Pick.there) (by rfl) (by rfl) (by rfl) fun w hs => ?_
        refine pZ ?_
        refine hK10 _ _ ?_
        refine wp_seq_k fun K11 hK11 => ?_
        refine wp_region_lit ?_
        refine pY ha (yMove (by rfl)) rfl fun a ha => ?_
        refine pY ha (yMove (by rfl)) rfl fun a ha => ?_
        refine pY ha (yIndexA Tryd.runUnderlying22 Tryd.sizeOf43 (by rfl) (by rfl) (by omega) (by omega)) rfl fun a ha => ?_
        first | refine pY ha (yLoadRA Tryd.isAgg43 Tryd.sizeOf43 hs (by rfl) (by repeat first | exact .here | apply Pick.there) (by rfl)) rfl fun a ha => ?_ | refine pY ha (yLoadBA Tryd.isAgg43 Tryd.sizeOf43 hs (by rfl) (by repeat first | exact .here | apply Pick.there) (by rfl)) rfl fun a ha => ?_
        refine pAlloc (zs := [.int .i64 0, .int .i64 0, .int .i64 0, .string ⟨#[]⟩, .bool false, .slice none 0 0]) ha Tryd.zeroValue43 (by rfl) hs rfl fun b w hs a ha => ?_
        refine pStoreA ha Tryd.sizeOf43 hs (by rfl) (by rfl) (by repeat first | exact .here | apply Pick.there) (by rfl) (by rfl) (by rfl) fun w hs => ?_
        refine pZ ?_
        refine hK11 _ _ ?_
        refine wp_seq_k fun K12 hK12 => ?_
        refine wp_region_lit ?_
        refine pY ha (yMove (by rfl)) rfl fun a ha => ?_
        first | refine pY ha (yLoadRA Tryd.isAgg43 Tryd.sizeOf43 hs (by rfl) (by repeat first | exact .here | apply Pick.there) (by rfl)) rfl fun a ha => ?_ | refine pY ha (yLoadBA Tryd.isAgg43 Tryd.sizeOf43 hs (by rfl) (by repeat first | exact .here | apply Pick.there) (by rfl)) rfl fun a ha => ?_
        first | refine pY ha (yLoadRA Tryd.isAgg43 Tryd.sizeOf43 hs (by rfl) (by repeat first | exact .here | apply Pick.there) (by rfl)) rfl fun a ha => ?_ | refine pY ha (yLoadBA Tryd.isAgg43 Tryd.sizeOf43 hs (by rfl) (by repeat first | exact .here | apply Pick.there) (by rfl)) rfl fun a ha => ?_
        refine pC ha (nCallV (cl := []) Tryd.call58 (by rfl) (by rfl) (by rfl)) rfl (SameA_c (x := x) (y := y) hs (.there (.there (.there (.there (.there .here))))) (.there (.there (.there .here)))) ?_
        rintro v w ⟨rfl, hs⟩ a ha
        refine pY ha (yNot (by rfl)) rfl fun a ha => ?_
        refine pZ ?_
        refine hK12 _ _ ?_
        first | refine cNDec ha (by rfl) (fun hc30 => ?_) (fun hc30 => ?_) | refine cDec ha (by rfl) (fun hc30 => ?_) (fun hc30 => ?_) | refine cSplit ha (by rfl) (fun hc30 => ?_) (fun hc30 => ?_)
        · refine wp_seq_k fun K13 hK13 => ?_
          refine wp_region_lit ?_
          refine pY ha (yAssign (by rfl)) rfl fun a ha => ?_
          refine pZ ?_
          refine hK13 _ _ ?_
          refine wp_ret ?_
          show bodyPost Tryd.prog Tryd.f57 _ .ret _ _
          refine ret1 rfl ha (by rfl) ?_
          exact ⟨congrArg Value.bool (decide_eq_false (take_ne hx hy hc30)).symm, hs.drop.drop.drop.drop.drop.drop.drop.drop⟩
        · refine wp_skip ?_
          refine hK9 _ _ ?_
          refine wp_region_lit ?_
          first | refine pY ha (yAddN (by rfl) (by rfl) ⟨by omega, by omega⟩) rfl fun a ha => ?_ | refine pY ha (yAdd (by rfl) (by rfl)) rfl fun a ha => ?_
          refine pY ha (yMove (by rfl)) rfl fun a ha => ?_
          refine pZ ?_
          exact ⟨i + 1, ⟨by omega, take_more h2 hx hy hc30, has5 ha (by rfl) (by rfl) (by rfl) (by rfl) (by rfl), hs.drop.drop.drop.drop.drop.drop⟩, by omega⟩
      · refine wp_exit ?_
        refine hK5 _ _ ?_
        refine wp_seq_k fun K14 hK14 => ?_
        refine wp_region_lit ?_
        refine pY ha (yAssign (by rfl)) rfl fun a ha => ?_
        refine pZ ?_
        refine hK14 _ _ ?_
        refine wp_ret ?_
        show bodyPost Tryd.prog Tryd.f57 _ .ret _ _
        refine ret1 rfl ha (by rfl) ?_
        rw [List.take_of_length_le (by omega), List.take_of_length_le (by omega)] at h2; exact ⟨congrArg Value.bool (decide_eq_true h2).symm, hs.drop.drop⟩
theorem SameT_c {A A' : Option Addr} {n n' c c' : Nat} {xs ys : List Actn} (hs : Sep W w cs) (hk : Pick cs (.rd kActn (.slice A n c) xs) r) (hk' : Pick cs (.rd kActn (.slice A' n' c') ys) r') :
    Calls P 31 #[.slice A n c, .slice A' n' c'] w (Rt fun v w' => v = .bool (decide (xs = ys)) ∧ Sep W w' cs) := by
  refine enter Tryd.func31 Tryd.ntmps31 rfl rfl fun a (ha : Has a 8 [(0, _), (1, _)]) => ?_
  refine wp_seq_k fun K1 hK1 => ?_
  refine wp_region_lit ?_
  refine pY ha (yAssign (by rfl)) rfl fun a ha => ?_
  refine pZ ?_
  refine hK1 _ _ ?_
  refine wp_seq_k fun K2 hK2 => ?_
  refine wp_region_lit ?_
  refine pY ha (yMove (by rfl)) rfl fun a ha => ?_
  refine pY ha (yMove (by rfl)) rfl fun a ha => ?_
  refine pC ha (nCall Tryd.call57 (by rfl)) rfl (EqActs_c hs hk hk') ?_
  rintro v w ⟨rfl, hs⟩ a ha
  refine pY ha (yAssign (by rfl)) rfl fun a ha => ?_
  refine pZ ?_
  refine hK2 _ _ ?_
  refine wp_ret ?_
  show bodyPost Tryd.prog Tryd.f31 _ .ret _ _
  refine ret1 rfl ha (by rfl) ?_
  exact ⟨rfl, hs⟩
theorem SameCm_c {A A' : Option Addr} {n n' c c' : Nat} {x y : Cmt} (hs : Sep W w cs) (hk : Pick cs (.rd kActn (.slice A n c) x.acts) r) (hk' : Pick cs (.rd kActn (.slice A' n' c') y.acts) r') :
    Calls P 33 #[.agg [.int .i64 x.rev, .int .i64 x.client, .int .i64 x.seq, .slice A n c].toArray, .agg [.int .i64 y.rev, .int .i64 y.client, .int .i64 y.seq, .slice A' n' c'].toArray] w (Rt fun v w' => v = .bool (decide (x = y)) ∧ Sep W w' cs) := by
  refine enter Tryd.func33 Tryd.ntmps33 rfl rfl fun a (ha : Has a 31 [(0, _), (1, _)]) => ?_
  refine wp_seq_k fun K1 hK1 => ?_
  have key : x.rev = y.rev ∧ x.client = y.client ∧ x.seq = y.seq ∧ x.acts = y.acts ↔ x = y := ⟨fun ⟨h1, h2, h3, h4⟩ => by cases x; cases y; simp_all, by rintro rfl; exact ⟨rfl, rfl, rfl, rfl⟩⟩
  refine wp_region_lit ?_
  refine pBox (es := _) ha (by rfl) (by rfl) hs rfl fun b w hs a ha => ?_
  refine pBox (es := _) ha (by rfl) (by rfl) hs rfl fun b w hs a ha => ?_
  refine pY ha (yAssign (by rfl)) rfl fun a ha => ?_
  refine pZ ?_
  refine hK1 _ _ ?_
  refine wp_seq_k fun K2 hK2 => ?_
  refine wp_region_lit ?_
  refine pY ha (yFieldA Tryd.runUnderlying40 rfl Tryd.sizeOf3 rfl (by rfl)) rfl fun a ha => ?_
  first | refine pY ha (yLoadB Tryd.isAgg3 hs (by rfl) (by repeat first | exact .here | apply Pick.there) (by rfl)) rfl fun a ha => ?_ | refine pY ha (yLoadR Tryd.isAgg3 hs (by rfl) (by repeat first | exact .here | apply Pick.there) (by rfl)) rfl fun a ha => ?_ | refine pY ha (yLoadR0 Tryd.isAgg3 hs (by rfl) (by repeat first | exact .here | apply Pick.there) (by rfl)) rfl fun a ha => ?_
  refine pY ha (yFieldA Tryd.runUnderlying40 rfl Tryd.sizeOf3 rfl (by rfl)) rfl fun a ha => ?_
  first | refine pY ha (yLoadB Tryd.isAgg3 hs (by rfl) (by repeat first | exact .here | apply Pick.there) (by rfl)) rfl fun a ha => ?_ | refine pY ha (yLoadR Tryd.isAgg3 hs (by rfl) (by repeat first | exact .here | apply Pick.there) (by rfl)) rfl fun a ha => ?_ | refine pY ha (yLoadR0 Tryd.isAgg3 hs (by rfl) (by repeat first | exact .here | apply Pick.there) (by rfl)) rfl fun a ha => ?_
  refine pY ha (yEql (by rfl) (by rfl)) rfl fun a ha => ?_
  refine pY ha (yMove (by rfl)) rfl fun a ha => ?_
  refine gDec (t := 10) ha (by rfl) (fun hg5 hp5 => ?_) (fun hg5 hp5 => ?_)
  · rw [hg5] at ha
    refine gOff ha rfl rfl (by rfl) rfl rfl fun a ha => ?_
    refine gOff ha rfl rfl (by rfl) rfl rfl fun a ha => ?_
    refine gOff ha rfl rfl (by rfl) rfl rfl fun a ha => ?_
    refine gOff ha rfl rfl (by rfl) rfl rfl fun a ha => ?_
    refine gOff ha rfl rfl (by rfl) rfl rfl fun a ha => ?_
    first | refine pY ha (yPickT (by rfl) (by rfl)) rfl fun a ha => ?_ | refine pY ha (yPickF (by rfl) (by rfl)) rfl fun a ha => ?_ | refine pY ha (yPick (by rfl) (by rfl) (by rfl)) rfl fun a ha => ?_
    refine pY ha (yMove (by rfl)) rfl fun a ha => ?_
    refine gOff ha rfl rfl (by rfl) rfl rfl fun a ha => ?_
    refine gOff ha rfl rfl (by rfl) rfl rfl fun a ha => ?_
    refine gOff ha rfl rfl (by rfl) rfl rfl fun a ha => ?_
    refine gOff ha rfl rfl (by rfl) rfl rfl fun a ha => ?_
    refine gOff ha rfl rfl (by rfl) rfl rfl fun a ha => ?_
    first | refine pY ha (yPickT (by rfl) (by rfl)) rfl fun a ha => ?_ | refine pY ha (yPickF (by rfl) (by rfl)) rfl fun a ha => ?_ | refine pY ha (yPick (by rfl) (by rfl) (by rfl)) rfl fun a ha => ?_
    refine pY ha (yMove (by rfl)) rfl fun a ha => ?_
    refine gOff ha rfl rfl (by rfl) rfl rfl fun a ha => ?_
    refine gOff ha rfl rfl (by rfl) rfl rfl fun a ha => ?_
    refine gOff ha rfl rfl (by rfl) rfl rfl fun a ha => ?_
    refine gOff ha rfl rfl (by rfl) rfl rfl fun a ha => ?_
    refine gOff ha rfl rfl (by rfl) rfl rfl fun a ha => ?_
    first | refine pY ha (yPickT (by rfl) (by rfl)) rfl fun a ha => ?_ | refine pY ha (yPickF (by rfl) (by rfl)) rfl fun a ha => ?_ | refine pY ha (yPick (by rfl) (by rfl) (by rfl)) rfl fun a ha => ?_
    refine pY ha (yAssign (by rfl)) rfl fun a ha => ?_
    refine pZ ?_
    refine hK2 _ _ ?_
    refine wp_ret ?_
    show bodyPost Tryd.prog Tryd.f33 _ .ret _ _
    refine ret1 rfl ha (by rfl) ?_
    refine ⟨?_, hs.drop.drop⟩
    first
      | exact congrArg Value.bool (decide_eq_decide.2 ⟨fun h => key.1 ⟨hp5, hp12, hp19, h⟩, fun h => (key.2 h).2.2.2⟩)
      | exact congrArg Value.bool (decide_eq_false (fun h => by have h := key.2 h; first | exact hp5 h.1 | exact hp12 h.2.1 | exact hp19 h.2.2.1)).symm
  · rw [hg5] at ha
    refine gOn ha rfl rfl (by rfl) ?_
    refine pY ha (yFieldA Tryd.runUnderlying40 rfl Tryd.sizeOf3 rfl (by rfl)) rfl fun a ha => ?_
    refine gOn ha rfl rfl (by rfl) ?_
    first | refine pY ha (yLoadB Tryd.isAgg3 hs (by rfl) (by repeat first | exact .here | apply Pick.there) (by rfl)) rfl fun a ha => ?_ | refine pY ha (yLoadR Tryd.isAgg3 hs (by rfl) (by repeat first | exact .here | apply Pick.there) (by rfl)) rfl fun a ha => ?_ | refine pY ha (yLoadR0 Tryd.isAgg3 hs (by rfl) (by repeat first | exact .here | apply Pick.there) (by rfl)) rfl fun a ha => ?_
    refine gOn ha rfl rfl (by rfl) ?_
    refine pY ha (yFieldA Tryd.runUnderlying40 rfl Tryd.sizeOf3 rfl (by rfl)) rfl fun a ha => ?_
    refine gOn ha rfl rfl (by rfl) ?_
    first | refine pY ha (yLoadB Tryd.isAgg3 hs (by rfl) (by repeat first | exact .here | apply Pick.there) (by rfl)) rfl fun a ha => ?_ | refine pY ha (yLoadR Tryd.isAgg3 hs (by rfl) (by repeat first | exact .here | apply Pick.there) (by rfl)) rfl fun a ha => ?_ | refine pY ha (yLoadR0 Tryd.isAgg3 hs (by rfl) (by repeat first | exact .here | apply Pick.there) (by rfl)) rfl fun a ha => ?_
    refine gOn ha rfl rfl (by rfl) ?_
    refine pY ha (yEql (by rfl) (by rfl)) rfl fun a ha => ?_
    first | refine pY ha (yPickT (by rfl) (by rfl)) rfl fun a ha => ?_ | refine pY ha (yPickF (by rfl) (by rfl)) rfl fun a ha => ?_ | refine pY ha (yPick (by rfl) (by rfl) (by rfl)) rfl fun a ha => ?_
    refine pY ha (yMove (by rfl)) rfl fun a ha => ?_
    refine gSplit (t := 17) ha (by rfl) (fun hg12 => ?_) (fun hg12 => ?_)
    · rw [hg12] at ha
      have hp12 := of_decide_eq_false hg12
      refine gOff ha rfl rfl (by rfl) rfl rfl fun a ha => ?_
      refine gOff ha rfl rfl (by rfl) rfl rfl fun a ha => ?_
      refine gOff ha rfl rfl (by rfl) rfl rfl fun a ha => ?_
      refine gOff ha rfl rfl (by rfl) rfl rfl fun a ha => ?_
      refine gOff ha rfl rfl (by rfl) rfl rfl fun a ha => ?_
      first | refine pY ha (yPickT (by rfl) (by rfl)) rfl fun a ha => ?_ | refine pY ha (yPickF (by rfl) (by rfl)) rfl fun a ha => ?_ | refine pY ha (yPick (by rfl) (by rfl) (by rfl)) rfl fun a ha => ?_
      refine pY ha (yMove (by rfl)) rfl fun a ha => ?_
      refine gOff ha rfl rfl (by rfl) rfl rfl fun a ha => ?_
      refine gOff ha rfl rfl (by rfl) rfl rfl fun a ha => ?_
      refine gOff ha rfl rfl (by rfl) rfl rfl fun a ha => ?_
      refine gOff ha rfl rfl (by rfl) rfl rfl fun a ha => ?_
      refine gOff ha rfl rfl (by rfl) rfl rfl fun a ha => ?_
      first | refine pY ha (yPickT (by rfl) (by rfl)) rfl fun a ha => ?_ | refine pY ha (yPickF (by rfl) (by rfl)) rfl fun a ha => ?_ | refine pY ha (yPick (by rfl) (by rfl) (by rfl)) rfl fun a ha => ?_
      refine pY ha (yAssign (by rfl)) rfl fun a ha => ?_
      refine pZ ?_
      refine hK2 _ _ ?_
      refine wp_ret ?_
      show bodyPost Tryd.prog Tryd.f33 _ .ret _ _
      refine ret1 rfl ha (by rfl) ?_
      refine ⟨?_, hs.drop.drop⟩
      first
        | exact congrArg Value.bool (decide_eq_decide.2 ⟨fun h => key.1 ⟨hp5, hp12, hp19, h⟩, fun h => (key.2 h).2.2.2⟩)
        | exact congrArg Value.bool (decide_eq_false (fun h => by have h := key.2 h; first | exact hp5 h.1 | exact hp12 h.2.1 | exact hp19 h.2.2.1)).symm
    · rw [hg12] at ha
      have hp12 := of_decide_eq_true hg12
      refine gOn ha rfl rfl (by rfl) ?_
      refine pY ha (yFieldA Tryd.runUnderlying40 rfl Tryd.sizeOf3 rfl (by rfl)) rfl fun a ha => ?_
      refine gOn ha rfl rfl (by rfl) ?_
      first | refine pY ha (yLoadB Tryd.isAgg3 hs (by rfl) (by repeat first | exact .here | apply Pick.there) (by rfl)) rfl fun a ha => ?_ | refine pY ha (yLoadR Tryd.isAgg3 hs (by rfl) (by repeat first | exact .here | apply Pick.there) (by rfl)) rfl fun a ha => ?_ | refine pY ha (yLoadR0 Tryd.isAgg3 hs (by rfl) (by repeat first | exact .here | apply Pick.there) (by rfl)) rfl fun a ha => ?_
      refine gOn ha rfl rfl (by rfl) ?_
      refine pY ha (yFieldA Tryd.runUnderlying40 rfl Tryd.sizeOf3 rfl (by rfl)) rfl fun a ha => ?_
      refine gOn ha rfl rfl (by rfl) ?_
      first | refine pY ha (yLoadB Tryd.isAgg3 hs (by rfl) (by repeat first | exact .here | apply Pick.there) (by rfl)) rfl fun a ha => ?_ | refine pY ha (yLoadR Tryd.isAgg3 hs (by rfl) (by repeat first | exact .here | apply Pick.there) (by rfl)) rfl fun a ha => ?_ | refine pY ha (yLoadR0 Tryd.isAgg3 hs (by rfl) (by repeat first | exact .here | apply Pick.there) (by rfl)) rfl fun a ha => ?_
      refine gOn ha rfl rfl (by rfl) ?_
      refine pY ha (yEql (by rfl) (by rfl)) rfl fun a ha => ?_
      first | refine pY ha (yPickT (by rfl) (by rfl)) rfl fun a ha => ?_ | refine pY ha (yPickF (by rfl) (by rfl)) rfl fun a ha => ?_ | refine pY ha (yPick (by rfl) (by rfl) (by rfl)) rfl fun a ha => ?_
      refine pY ha (yMove (by rfl)) rfl fun a ha => ?_
      refine gSplit (t := 24) ha (by rfl) (fun hg19 => ?_) (fun hg19 => ?_)
      · rw [hg19] at ha
        have hp19 := of_decide_eq_false hg19
        refine gOff ha rfl rfl (by rfl) rfl rfl fun a ha => ?_
        refine gOff ha rfl rfl (by rfl) rfl rfl fun a ha => ?_
        refine gOff ha rfl rfl (by rfl) rfl rfl fun a ha => ?_
        refine gOff ha rfl rfl (by rfl) rfl rfl fun a ha => ?_
        refine gOff ha rfl rfl (by rfl) rfl rfl fun a ha => ?_
        first | refine pY ha (yPickT (by rfl) (by rfl)) rfl fun a ha => ?_ | refine pY ha (yPickF (by rfl) (by rfl)) rfl fun a ha => ?_ | refine pY ha (yPick (by rfl) (by rfl) (by rfl)) rfl fun a ha => ?_
        refine pY ha (yAssign (by rfl)) rfl fun a ha => ?_
        refine pZ ?_
        refine hK2 _ _ ?_
        refine wp_ret ?_
        show bodyPost Tryd.prog Tryd.f33 _ .ret _ _
        refine ret1 rfl ha (by rfl) ?_
        refine ⟨?_, hs.drop.drop⟩
        first
          | exact congrArg Value.bool (decide_eq_decide.2 ⟨fun h => key.1 ⟨hp5, hp12, hp19, h⟩, fun h => (key.2 h).2.2.2⟩)
          | exact congrArg Value.bool (decide_eq_false (fun h => by have h := key.2 h; first | exact hp5 h.1 | exact hp12 h.2.1 | exact hp19 h.2.2.1)).symm
      · rw [hg19] at ha
        have hp19 := of_decide_eq_true hg19
        refine gOn ha rfl rfl (by rfl) ?_
        refine pY ha (yFieldA Tryd.runUnderlying40 rfl Tryd.sizeOf22 rfl (by rfl)) rfl fun a ha => ?_
        refine gOn ha rfl rfl (by rfl) ?_
        first | refine pY ha (yLoadB Tryd.isAgg22 hs (by rfl) (by repeat first | exact .here | apply Pick.there) (by rfl)) rfl fun a ha => ?_ | refine pY ha (yLoadR Tryd.isAgg22 hs (by rfl) (by repeat first | exact .here | apply Pick.there) (by rfl)) rfl fun a ha => ?_ | refine pY ha (yLoadR0 Tryd.isAgg22 hs (by rfl) (by repeat first | exact .here | apply Pick.there) (by rfl)) rfl fun a ha => ?_
        refine gOn ha rfl rfl (by rfl) ?_
        refine pY ha (yFieldA Tryd.runUnderlying40 rfl Tryd.sizeOf22 rfl (by rfl)) rfl fun a ha => ?_
        refine gOn ha rfl rfl (by rfl) ?_
        first | refine pY ha (yLoadB Tryd.isAgg22 hs (by rfl) (by repeat first | exact .here | apply Pick.there) (by rfl)) rfl fun a ha => ?_ | refine pY ha (yLoadR Tryd.isAgg22 hs (by rfl) (by repeat first | exact .here | apply Pick.there) (by rfl)) rfl fun a ha => ?_ | refine pY ha (yLoadR0 Tryd.isAgg22 hs (by rfl) (by repeat first | exact .here | apply Pick.there) (by rfl)) rfl fun a ha => ?_
        refine gOn ha rfl rfl (by rfl) ?_
        refine pC ha (nCall Tryd.call31 (by rfl)) rfl (SameT_c hs (.there (.there hk)) (.there (.there hk'))) ?_
        rintro v w ⟨rfl, hs⟩ a ha
        first | refine pY ha (yPickT (by rfl) (by rfl)) rfl fun a ha => ?_ | refine pY ha (yPickF (by rfl) (by rfl)) rfl fun a ha => ?_ | refine pY ha (yPick (by rfl) (by rfl) (by rfl)) rfl fun a ha => ?_
        refine pY ha (yAssign (by rfl)) rfl fun a ha => ?_
        refine pZ ?_
        refine hK2 _ _ ?_
        refine wp_ret ?_
        show bodyPost Tryd.prog Tryd.f33 _ .ret _ _
        refine ret1 rfl ha (by rfl) ?_
        refine ⟨?_, hs.drop.drop⟩
        first
          | exact congrArg Value.bool (decide_eq_decide.2 ⟨fun h => key.1 ⟨hp5, hp12, hp19, h⟩, fun h => (key.2 h).2.2.2⟩)
          | exact congrArg Value.bool (decide_eq_false (fun h => by have h := key.2 h; first | exact hp5 h.1 | exact hp12 h.2.1 | exact hp19 h.2.2.1)).symm
theorem EqCmts_c {A A' : Option Addr} {n n' c c' : Nat} {xs ys : List Cmt} (hs : Sep W w cs) (hk : Pick cs (.rd kCmt (.slice A n c) xs) r) (hk' : Pick cs (.rd kCmt (.slice A' n' c') ys) r') :
    Calls P 32 #[.slice A n c, .slice A' n' c', .func (.func 33) #[] #[]] w (Rt fun v w' => v = .bool (decide (xs = ys)) ∧ Sep W w' cs) := by
  obtain ⟨rfl, hl⟩ := hs.rd_shape hk
  obtain ⟨rfl, hl'⟩ := hs.rd_shape hk'
  unfold maxLen at hl hl'
  have hs := (hs.cpR hk).cpR (.there hk')
  refine enter Tryd.func32 Tryd.ntmps32 rfl rfl fun a (ha : Has a 32 [(0, _), (1, _), (2, _)]) => ?_
  refine wp_seq_k fun K1 hK1 => ?_
  refine wp_region_lit ?_
  refine pY ha (yAssign (by rfl)) rfl fun a ha => ?_
  refine pZ ?_
  refine hK1 _ _ ?_
  refine wp_seq_k fun K2 hK2 => ?_
  refine wp_seq_k fun K3 hK3 => ?_
  refine wp_region_lit ?_
  refine pY ha (yMove (by rfl)) rfl fun a ha => ?_
  refine pY ha (yLenS Tryd.runUnderlying23 (by rfl)) rfl fun a ha => ?_
  refine pY ha (yMove (by rfl)) rfl fun a ha => ?_
  refine pY ha (yLenS Tryd.runUnderlying23 (by rfl)) rfl fun a ha => ?_
  refine pY ha (yNeq (by rfl) (by rfl)) rfl fun a ha => ?_
  refine pZ ?_
  refine hK3 _ _ ?_
  first | refine cNDec ha (by rfl) (fun hc14 => ?_) (fun hc14 => ?_) | refine cDec ha (by rfl) (fun hc14 => ?_) (fun hc14 => ?_) | refine cSplit ha (by rfl) (fun hc14 => ?_) (fun hc14 => ?_)
  · refine wp_seq_k fun K4 hK4 => ?_
    refine wp_region_lit ?_
    refine pY ha (yAssign (by rfl)) rfl fun a ha => ?_
    refine pZ ?_
    refine hK4 _ _ ?_
    refine wp_ret ?_
    show bodyPost Tryd.prog Tryd.f32 _ .ret _ _
    refine ret1 rfl ha (by rfl) ?_
    exact ⟨congrArg Value.bool (decide_eq_false (by rintro rfl; exact hc14 rfl)).symm, hs.drop.drop⟩
  · refine wp_skip ?_
    refine hK2 _ _ ?_
    refine wp_seq_k fun K5 hK5 => ?_
    refine wp_seq_k fun K6 hK6 => ?_
    refine wp_region_lit ?_
    refine pY ha (yMove (by rfl)) rfl fun a ha => ?_
    refine pY ha (yLenS Tryd.runUnderlying23 (by rfl)) rfl fun a ha => ?_
    refine pY ha (yMove (by rfl)) rfl fun a ha => ?_
    refine pZ ?_
    refine hK6 _ _ ?_
    refine wp_block ?_
    refine loopI (ι := Nat) (fun i a w => i ≤ xs.length ∧ xs.take i = ys.take i ∧ Has a 32 [(1, .slice A' ys.length c'), (2, .func (.func 33) #[] #[]), (15, .slice A xs.length c), (16, .int .i64 xs.length), (17, .int .i64 i)] ∧ Sep W w (.rd kCmt (.slice A' ys.length c') ys :: .rd kCmt (.slice A xs.length c) xs :: cs)) (fun i => xs.length - i) (0) ?_ ?_
    · exact ⟨Nat.zero_le _, rfl, has5 ha (by rfl) (by rfl) (by rfl) (by rfl) (by rfl), hs⟩
    · rintro i a w ⟨h1, h2, ha, hs⟩
      refine wp_seq_k fun K7 hK7 => ?_
      refine wp_region_lit ?_
      refine pY ha (yLss (by rfl) (by rfl)) rfl fun a ha => ?_
      refine pZ ?_
      refine hK7 _ _ ?_
      refine wp_seq_k fun K8 hK8 => ?_
      first | refine cDec ha (by rfl) (fun hc18 => ?_) (fun hc18 => ?_) | refine cSplit ha (by rfl) (fun hc18 => ?_) (fun hc18 => ?_)
      · obtain ⟨x, hx⟩ : ∃ x, xs[i]? = some x := ⟨_, List.getElem?_eq_getElem (by omega)⟩
        obtain ⟨y, hy⟩ : ∃ y, ys[i]? = some y := ⟨_, List.getElem?_eq_getElem (by omega)⟩
        obtain ⟨b, off, B, m, d, rfl, hs⟩ := hs.rd_cmt (.there .here) hx
        obtain ⟨b', off', B', m', d', rfl, hs⟩ := hs.rd_cmt (.there (.there .here)) hy
        refine wp_skip ?_
        refine hK8 _ _ ?_
        refine wp_seq_k fun K9 hK9 => ?_
        refine wp_block ?_
        refine wp_seq_k fun K10 hK10 => ?_
        refine wp_region_lit ?_
        refine pY ha (yMove (by rfl)) rfl fun a ha => ?_
        refine pY ha (yIndexA Tryd.runUnderlying23 Tryd.sizeOf40 (by rfl) (by rfl) (by omega) (by omega)) rfl fun a ha => ?_
        first | refine pY ha (yLoadRA Tryd.isAgg40 Tryd.sizeOf40 hs (by rfl) (by repeat first | exact .here | apply Pick.there) (by rfl)) rfl fun a ha => ?_ | refine pY ha (yLoadBA Tryd.isAgg40 Tryd.sizeOf40 hs (by rfl) (by repeat first | exact .here | apply Pick.there) (by rfl)) rfl fun a ha => ?_
        refine pAlloc (zs := [.int .i64 0, .int .i64 0, .int .i64 0, .slice none 0 0]) ha Tryd.zeroValue40 (by rfl) hs rfl fun b w hs a ha => ?_
        refine pY ha (yAssign (by rfl)) rfl fun a ha => ?_
        refine pStoreA ha Tryd.sizeOf40 hs (by rfl) (by rfl) (by repeat first | exact .here | apply Pick.there) (by rfl) (by rfl) (by rfl) fun w hs => ?_
        refine pZ ?_
        refine hK10 _ _ ?_
        refine wp_seq_k fun K11 hK11 => ?_
        refine wp_region_lit ?_
        refine pY ha (yMove (by rfl)) rfl fun a ha => ?_
        refine pY ha (yMove (by rfl)) rfl fun a ha => ?_
        refine pY ha (yIndexA Tryd.runUnderlying23 Tryd.sizeOf40 (by rfl) (by rfl) (by omega) (by omega)) rfl fun a ha => ?_
        first | refine pY ha (yLoadRA Tryd.isAgg40 Tryd.sizeOf40 hs (by rfl) (by repeat first | exact .here | apply Pick.there) (by rfl)) rfl fun a ha => ?_ | refine pY ha (yLoadBA Tryd.isAgg40 Tryd.sizeOf40 hs (by rfl) (by repeat first | exact .here | apply Pick.there) (by rfl)) rfl fun a ha => ?_
        refine pAlloc (zs := [.int .i64 0, .int .i64 0, .int .i64 0, .slice none 0 0]) ha Tryd.zeroValue40 (by rfl) hs rfl fun b w hs a ha => ?_
        refine pStoreA ha Tryd.sizeOf40 hs (by rfl) (by rfl) (by repeat first | exact .here | apply Pick.there) (by rfl) (by rfl) (by rfl) fun w hs => ?_
        refine pZ ?_
        refine hK11 _ _ ?_
        refine wp_seq_k fun K12 hK12 => ?_
        refine wp_region_lit ?_
        refine pY ha (yMove (by rfl)) rfl fun a ha => ?_
        first | refine pY ha (yLoadRA Tryd.isAgg40 Tryd.sizeOf40 hs (by rfl) (by repeat first | exact .here | apply Pick.there) (by rfl)) rfl fun a ha => ?_ | refine pY ha (yLoadBA Tryd.isAgg40 Tryd.sizeOf40 hs (by rfl) (by repeat first | exact .here | apply Pick.there) (by rfl)) rfl fun a ha => ?_
        first | refine pY ha (yLoadRA Tryd.isAgg40 Tryd.sizeOf40 hs (by rfl) (by repeat first | exact .here | apply Pick.there) (by rfl)) rfl fun a ha => ?_ | refine pY ha (yLoadBA Tryd.isAgg40 Tryd.sizeOf40 hs (by rfl) (by repeat first | exact .here | apply Pick.there) (by rfl)) rfl fun a ha => ?_
        refine pC ha (nCallV (cl := []) Tryd.call33 (by rfl) (by rfl) (by rfl)) rfl (SameCm_c (x := x) (y := y) hs (.there (.there (.there (.there (.there .here))))) (.there (.there (.there .here)))) ?_
        rintro v w ⟨rfl, hs⟩ a ha
        refine pY ha (yNot (by rfl)) rfl fun a ha => ?_
        refine pZ ?_
        refine hK12 _ _ ?_
        first | refine cNDec ha (by rfl) (fun hc30 => ?_) (fun hc30 => ?_) | refine cDec ha (by rfl) (fun hc30 => ?_) (fun hc30 => ?_) | refine cSplit ha (by rfl) (fun hc30 => ?_) (fun hc30 => ?_)
        · refine wp_seq_k fun K13 hK13 => ?_
          refine wp_region_lit ?_
          refine pY ha (yAssign (by rfl)) rfl fun a ha => ?_
          refine pZ ?_
          refine hK13 _ _ ?_
          refine wp_ret ?_
          show bodyPost Tryd.prog Tryd.f32 _ .ret _ _
          refine ret1 rfl ha (by rfl) ?_
          exact ⟨congrArg Value.bool (decide_eq_false (take_ne hx hy hc30)).symm, hs.drop.drop.drop.drop.drop.drop.drop.drop⟩
        · refine wp_skip ?_
          refine hK9 _ _ ?_
          refine wp_region_lit ?_
          first | refine pY ha (yAddN (by rfl) (by rfl) ⟨by omega, by omega⟩) rfl fun a ha => ?_ | refine pY ha (yAdd (by rfl) (by rfl)) rfl fun a ha => ?_
          refine pY ha (yMove (by rfl)) rfl fun a ha => ?_
          refine pZ ?_
          exact ⟨i + 1, ⟨by omega, take_more h2 hx hy hc30, has5 ha (by rfl) (by rfl) (by rfl) (by rfl) (by rfl), hs.drop.drop.drop.drop.drop.drop⟩, by omega⟩
      · refine wp_exit ?_
        refine hK5 _ _ ?_
        refine wp_seq_k fun K14 hK14 => ?_
        refine wp_region_lit ?_
        refine pY ha (yAssign (by rfl)) rfl fun a ha => ?_
        refine pZ ?_
        refine hK14 _ _ ?_
        refine wp_ret ?_
        show bodyPost Tryd.prog Tryd.f32 _ .ret _ _
        refine ret1 rfl ha (by rfl) ?_
        rw [List.take_of_length_le (by omega), List.take_of_length_le (by omega)] at h2; exact ⟨congrArg Value.bool (decide_eq_true h2).symm, hs.drop.drop⟩
theorem SameM_c {es es' : List Value} {x y : Msg} (hs : Sep W w cs) (hk : Pick cs (.el kMsg x es) r) (hk' : Pick cs (.el kMsg y es') r') :
    Calls P 12 #[.agg es.toArray, .agg es'.toArray] w (Rt fun v w' => v = .bool (decide (x = y)) ∧ Sep W w' cs) := by
  have key : (x.kind = y.kind ∧ x.client = y.client ∧ x.seq = y.seq ∧ x.rev = y.rev ∧ x.code = y.code ∧ x.last = y.last) ∧ x.acts = y.acts ∧ x.commits = y.commits ∧ x.nodes = y.nodes ↔ x = y := ⟨fun ⟨⟨h1, h2, h3, h4, h5, h6⟩, h7, h8, h9⟩ => by cases x; cases y; simp_all, by rintro rfl; exact ⟨⟨rfl, rfl, rfl, rfl, rfl, rfl⟩, rfl, rfl, rfl⟩⟩
  obtain ⟨A1, n1, c1, A2, n2, c2, A3, n3, c3, rfl, hs⟩ := hs.el_msg hk
  obtain ⟨B1, m1, d1, B2, m2, d2, B3, m3, d3, rfl, hs⟩ := hs.el_msg (.there (.there (.there hk')))
  refine enter Tryd.func12 Tryd.ntmps12 rfl rfl fun a (ha : Has a 68 [(0, _), (1, _)]) => ?_
  refine wp_seq_k fun K1 hK1 => ?_
  refine wp_region_lit ?_
  refine pBox (es := _) ha (by rfl) (by rfl) hs rfl fun b w hs a ha => ?_
  refine pBox (es := _) ha (by rfl) (by rfl) hs rfl fun b w hs a ha => ?_
  refine pY ha (yAssign (by rfl)) rfl fun a ha => ?_
  refine pZ ?_
  refine hK1 _ _ ?_
  refine wp_seq_k fun K2 hK2 => ?_
  refine cutC (fun a w => ∃ b b', Has a 68 [(5, .bool (decide (x.kind = y.kind ∧ x.client = y.client ∧ x.seq = y.seq ∧ x.rev = y.rev ∧ x.code = y.code ∧ x.last = y.last))), (2, .pointer (some ⟨b, 0, none⟩)), (3, .pointer (some ⟨b', 0, none⟩))] ∧ Sep W w (.blk b' 26 [.int .i64 y.kind, .int .i64 y.client, .int .i64 y.seq, .int .i64 y.rev, .int .i64 y.code, .slice B1 m1 d1, .slice B2 m2 d2, .slice B3 m3 d3, .int .i64 y.last] :: .blk b 26 [.int .i64 x.kind, .int .i64 x.client, .int .i64 x.seq, .int .i64 x.rev, .int .i64 x.code, .slice A1 n1 c1, .slice A2 n2 c2, .slice A3 n3 c3, .int .i64 x.last] :: .rd kActn (.slice B1 m1 d1) y.acts :: .rd kCmt (.slice B2 m2 d2) y.commits :: .rd kNod (.slice B3 m3 d3) y.nodes :: .rd kActn (.slice A1 n1 c1) x.acts :: .rd kCmt (.slice A2 n2 c2) x.commits :: .rd kNod (.slice A3 n3 c3) x.nodes :: cs)) ?_ ?_
  · refine wp_region_lit ?_
    refine pY ha (yFieldA Tryd.runUnderlying26 rfl Tryd.sizeOf3 rfl (by rfl)) rfl fun a ha => ?_
    first | refine pY ha (yLoadB Tryd.isAgg3 hs (by rfl) (by repeat first | exact .here | apply Pick.there) (by rfl)) rfl fun a ha => ?_ | refine pY ha (yLoadR Tryd.isAgg3 hs (by rfl) (by repeat first | exact .here | apply Pick.there) (by rfl)) rfl fun a ha => ?_ | refine pY ha (yLoadR0 Tryd.isAgg3 hs (by rfl) (by repeat first | exact .here | apply Pick.there) (by rfl)) rfl fun a ha => ?_
    refine pY ha (yFieldA Tryd.runUnderlying26 rfl Tryd.sizeOf3 rfl (by rfl)) rfl fun a ha => ?_
    first | refine pY ha (yLoadB Tryd.isAgg3 hs (by rfl) (by repeat first | exact .here | apply Pick.there) (by rfl)) rfl fun a ha => ?_ | refine pY ha (yLoadR Tryd.isAgg3 hs (by rfl) (by repeat first | exact .here | apply Pick.there) (by rfl)) rfl fun a ha => ?_ | refine pY ha (yLoadR0 Tryd.isAgg3 hs (by rfl) (by repeat first | exact .here | apply Pick.there) (by rfl)) rfl fun a ha => ?_
    refine pY ha (yEql (by rfl) (by rfl)) rfl fun a ha => ?_
    refine pY ha (yMove (by rfl)) rfl fun a ha => ?_
    refine gDec (t := 11) ha (by rfl) (fun hg5 hp5 => ?_) (fun hg5 hp5 => ?_)
    · rw [hg5] at ha
      refine gOff ha rfl rfl (by rfl) rfl rfl fun a ha => ?_
      refine gOff ha rfl rfl (by rfl) rfl rfl fun a ha => ?_
      refine gOff ha rfl rfl (by rfl) rfl rfl fun a ha => ?_
      refine gOff ha rfl rfl (by rfl) rfl rfl fun a ha => ?_
      refine gOff ha rfl rfl (by rfl) rfl rfl fun a ha => ?_
      first | refine pY ha (yPickT (by rfl) (by rfl)) rfl fun a ha => ?_ | refine pY ha (yPickF (by rfl) (by rfl)) rfl fun a ha => ?_ | refine pY ha (yPick (by rfl) (by rfl) (by rfl)) rfl fun a ha => ?_
      refine pY ha (yMove (by rfl)) rfl fun a ha => ?_
      refine gOff ha rfl rfl (by rfl) rfl rfl fun a ha => ?_
      refine gOff ha rfl rfl (by rfl) rfl rfl fun a ha => ?_
      refine gOff ha rfl rfl (by rfl) rfl rfl fun a ha => ?_
      refine gOff ha rfl rfl (by rfl) rfl rfl fun a ha => ?_
      refine gOff ha rfl rfl (by rfl) rfl rfl fun a ha => ?_
      first | refine pY ha (yPickT (by rfl) (by rfl)) rfl fun a ha => ?_ | refine pY ha (yPickF (by rfl) (by rfl)) rfl fun a ha => ?_ | refine pY ha (yPick (by rfl) (by rfl) (by rfl)) rfl fun a ha => ?_
      refine pY ha (yMove (by rfl)) rfl fun a ha => ?_
      refine gOff ha rfl rfl (by rfl) rfl rfl fun a ha => ?_
      refine gOff ha rfl rfl (by rfl) rfl rfl fun a ha => ?_
      refine gOff ha rfl rfl (by rfl) rfl rfl fun a ha => ?_
      refine gOff ha rfl rfl (by rfl) rfl rfl fun a ha => ?_
      refine gOff ha rfl rfl (by rfl) rfl rfl fun a ha => ?_
      first | refine pY ha (yPickT (by rfl) (by rfl)) rfl fun a ha => ?_ | refine pY ha (yPickF (by rfl) (by rfl)) rfl fun a ha => ?_ | refine pY ha (yPick (by rfl) (by rfl) (by rfl)) rfl fun a ha => ?_
      refine pY ha (yMove (by rfl)) rfl fun a ha => ?_
      refine gOff ha rfl rfl (by rfl) rfl rfl fun a ha => ?_
      refine gOff ha rfl rfl (by rfl) rfl rfl fun a ha => ?_
      refine gOff ha rfl rfl (by rfl) rfl rfl fun a ha => ?_
      refine gOff ha rfl rfl (by rfl) rfl rfl fun a ha => ?_
      refine gOff ha rfl rfl (by rfl) rfl rfl fun a ha => ?_
      first | refine pY ha (yPickT (by rfl) (by rfl)) rfl fun a ha => ?_ | refine pY ha (yPickF (by rfl) (by rfl)) rfl fun a ha => ?_ | refine pY ha (yPick (by rfl) (by rfl) (by rfl)) rfl fun a ha => ?_
      refine pY ha (yMove (by rfl)) rfl fun a ha => ?_
      refine gOff ha rfl rfl (by rfl) rfl rfl fun a ha => ?_
      refine gOff ha rfl rfl (by rfl) rfl rfl fun a ha => ?_
      refine gOff ha rfl rfl (by rfl) rfl rfl fun a ha => ?_
      refine gOff ha rfl rfl (by rfl) rfl rfl fun a ha => ?_
      refine gOff ha rfl rfl (by rfl) rfl rfl fun a ha => ?_
      first | refine pY ha (yPickT (by rfl) (by rfl)) rfl fun a ha => ?_ | refine pY ha (yPickF (by rfl) (by rfl)) rfl fun a ha => ?_ | refine pY ha (yPick (by rfl) (by rfl) (by rfl)) rfl fun a ha => ?_
      refine pY ha (yAssign (by rfl)) rfl fun a ha => ?_
      refine pZ ⟨rfl, ?_⟩
      first | exact ⟨_, _, has3 ha (bT ⟨fun h => ⟨hp5, hp12, hp19, hp26, hp33, h⟩, fun h => h.2.2.2.2.2⟩) (by rfl) (by rfl), hs⟩ | exact ⟨_, _, has3 ha (bF (by rintro ⟨h1, h2, h3, h4, h5, h6⟩; first | exact hp5 h1 | exact hp12 h2 | exact hp19 h3 | exact hp26 h4 | exact hp33 h5)) (by rfl) (by rfl), hs⟩
    · rw [hg5] at ha
      refine gOn ha rfl rfl (by rfl) ?_
      refine pY ha (yFieldA Tryd.runUnderlying26 rfl Tryd.sizeOf3 rfl (by rfl)) rfl fun a ha => ?_
      refine gOn ha rfl rfl (by rfl) ?_
      first | refine pY ha (yLoadB Tryd.isAgg3 hs (by rfl) (by repeat first | exact .here | apply Pick.there) (by rfl)) rfl fun a ha => ?_ | refine pY ha (yLoadR Tryd.isAgg3 hs (by rfl) (by repeat first | exact .here | apply Pick.there) (by rfl)) rfl fun a ha => ?_ | refine pY ha (yLoadR0 Tryd.isAgg3 hs (by rfl) (by repeat first | exact .here | apply Pick.there) (by rfl)) rfl fun a ha => ?_
      refine gOn ha rfl rfl (by rfl) ?_
      refine pY ha (yFieldA Tryd.runUnderlying26 rfl Tryd.sizeOf3 rfl (by rfl)) rfl fun a ha => ?_
      refine gOn ha rfl rfl (by rfl) ?_
      first | refine pY ha (yLoadB Tryd.isAgg3 hs (by rfl) (by repeat first | exact .here | apply Pick.there) (by rfl)) rfl fun a ha => ?_ | refine pY ha (yLoadR Tryd.isAgg3 hs (by rfl) (by repeat first | exact .here | apply Pick.there) (by rfl)) rfl fun a ha => ?_ | refine pY ha (yLoadR0 Tryd.isAgg3 hs (by rfl) (by repeat first | exact .here | apply Pick.there) (by rfl)) rfl fun a ha => ?_
      refine gOn ha rfl rfl (by rfl) ?_
      refine pY ha (yEql (by rfl) (by rfl)) rfl fun a ha => ?_
      first | refine pY ha (yPickT (by rfl) (by rfl)) rfl fun a ha => ?_ | refine pY ha (yPickF (by rfl) (by rfl)) rfl fun a ha => ?_ | refine pY ha (yPick (by rfl) (by rfl) (by rfl)) rfl fun a ha => ?_
      refine pY ha (yMove (by rfl)) rfl fun a ha => ?_
      refine gSplit (t := 18) ha (by rfl) (fun hg12 => ?_) (fun hg12 => ?_)
      · rw [hg12] at ha
        have hp12 := of_decide_eq_false hg12
        refine gOff ha rfl rfl (by rfl) rfl rfl fun a ha => ?_
        refine gOff ha rfl rfl (by rfl) rfl rfl fun a ha => ?_
        refine gOff ha rfl rfl (by rfl) rfl rfl fun a ha => ?_
        refine gOff ha rfl rfl (by rfl) rfl rfl fun a ha => ?_
        refine gOff ha rfl rfl (by rfl) rfl rfl fun a ha => ?_
        first | refine pY ha (yPickT (by rfl) (by rfl)) rfl fun a ha => ?_ | refine pY ha (yPickF (by rfl) (by rfl)) rfl fun a ha => ?_ | refine pY ha (yPick (by rfl) (by rfl) (by rfl)) rfl fun a ha => ?_
        refine pY ha (yMove (by rfl)) rfl fun a ha => ?_
        refine gOff ha rfl rfl (by rfl) rfl rfl fun a ha => ?_
        refine gOff ha rfl rfl (by rfl) rfl rfl fun a ha => ?_
        refine gOff ha rfl rfl (by rfl) rfl rfl fun a ha => ?_
        refine gOff ha rfl rfl (by rfl) rfl rfl fun a ha => ?_
        refine gOff ha rfl rfl (by rfl) rfl rfl fun a ha => ?_
        first | refine pY ha (yPickT (by rfl) (by rfl)) rfl fun a ha => ?_ | refine pY ha (yPickF (by rfl) (by rfl)) rfl fun a ha => ?_ | refine pY ha (yPick (by rfl) (by rfl) (by rfl)) rfl fun a ha => ?_
        refine pY ha (yMove (by rfl)) rfl fun a ha => ?_
        refine gOff ha rfl rfl (by rfl) rfl rfl fun a ha => ?_
        refine gOff ha rfl rfl (by rfl) rfl rfl fun a ha => ?_
        refine gOff ha rfl rfl (by rfl) rfl rfl fun a ha => ?_
        refine gOff ha rfl rfl (by rfl) rfl rfl fun a ha => ?_
        refine gOff ha rfl rfl (by rfl) rfl rfl fun a ha => ?_
        first | refine pY ha (yPickT (by rfl) (by rfl)) rfl fun a ha => ?_ | refine pY ha (yPickF (by rfl) (by rfl)) rfl fun a ha => ?_ | refine pY ha (yPick (by rfl) (by rfl) (by rfl)) rfl fun a ha => ?_
        refine pY ha (yMove (by rfl)) rfl fun a ha => ?_
        refine gOff ha rfl rfl (by rfl) rfl rfl fun a ha => ?_
        refine gOff ha rfl rfl (by rfl) rfl rfl fun a ha => ?_
        refine gOff ha rfl rfl (by rfl) rfl rfl fun a ha => ?_
        refine gOff ha rfl rfl (by rfl) rfl rfl fun a ha => ?_
        refine gOff ha rfl rfl (by rfl) rfl rfl fun a ha => ?_
        first | refine pY ha (yPickT (by rfl) (by rfl)) rfl fun a ha => ?_ | refine pY ha (yPickF (by rfl) (by rfl)) rfl fun a ha => ?_ | refine pY ha (yPick (by rfl) (by rfl) (by rfl)) rfl fun a ha => ?_
        refine pY ha (yAssign (by rfl)) rfl fun a ha => ?_
        refine pZ ⟨rfl, ?_⟩
        first | exact ⟨_, _, has3 ha (bT ⟨fun h => ⟨hp5, hp12, hp19, hp26, hp33, h⟩, fun h => h.2.2.2.2.2⟩) (by rfl) (by rfl), hs⟩ | exact ⟨_, _, has3 ha (bF (by rintro ⟨h1, h2, h3, h4, h5, h6⟩; first | exact hp5 h1 | exact hp12 h2 | exact hp19 h3 | exact hp26 h4 | exact hp33 h5)) (by rfl) (by rfl), hs⟩
      · rw [hg12] at ha
        have hp12 := of_decide_eq_true hg12
        refine gOn ha rfl rfl (by rfl) ?_
        refine pY ha (yFieldA Tryd.runUnderlying26 rfl Tryd.sizeOf3 rfl (by rfl)) rfl fun a ha => ?_
        refine gOn ha rfl rfl (by rfl) ?_
        first | refine pY ha (yLoadB Tryd.isAgg3 hs (by rfl) (by repeat first | exact .here | apply Pick.there) (by rfl)) rfl fun a ha => ?_ | refine pY ha (yLoadR Tryd.isAgg3 hs (by rfl) (by repeat first | exact .here | apply Pick.there) (by rfl)) rfl fun a ha => ?_ | refine pY ha (yLoadR0 Tryd.isAgg3 hs (by rfl) (by repeat first | exact .here | apply Pick.there) (by rfl)) rfl fun a ha => ?_
        refine gOn ha rfl rfl (by rfl) ?_
        refine pY ha (yFieldA Tryd.runUnderlying26 rfl Tryd.sizeOf3 rfl (by rfl)) rfl fun a ha => ?_
        refine gOn ha rfl rfl (by rfl) ?_
        first | refine pY ha (yLoadB Tryd.isAgg3 hs (by rfl) (by repeat first | exact .here | apply Pick.there) (by rfl)) rfl fun a ha => ?_ | refine pY ha (yLoadR Tryd.isAgg3 hs (by rfl) (by repeat first | exact .here | apply Pick.there) (by rfl)) rfl fun a ha => ?_ | refine pY ha (yLoadR0 Tryd.isAgg3 hs (by rfl) (by repeat first | exact .here | apply Pick.there) (by rfl)) rfl fun a ha => ?_
        refine gOn ha rfl rfl (by rfl) ?_
        refine pY ha (yEql (by rfl) (by rfl)) rfl fun a ha => ?_
        first | refine pY ha (yPickT (by rfl) (by rfl)) rfl fun a ha => ?_ | refine pY ha (yPickF (by rfl) (by rfl)) rfl fun a ha => ?_ | refine pY ha (yPick (by rfl) (by rfl) (by rfl)) rfl fun a ha => ?_
        refine pY ha (yMove (by rfl)) rfl fun a ha => ?_
        refine gSplit (t := 25) ha (by rfl) (fun hg19 => ?_) (fun hg19 => ?_)
        · rw [hg19] at ha
          have hp19 := of_decide_eq_false hg19
          refine gOff ha rfl rfl (by rfl) rfl rfl fun a ha => ?_
          refine gOff ha rfl rfl (by rfl) rfl rfl fun a ha => ?_
          refine gOff ha rfl rfl (by rfl) rfl rfl fun a ha => ?_
          refine gOff ha rfl rfl (by rfl) rfl rfl fun a ha => ?_
          refine gOff ha rfl rfl (by rfl) rfl rfl fun a ha => ?_
          first | refine pY ha (yPickT (by rfl) (by rfl)) rfl fun a ha => ?_ | refine pY ha (yPickF (by rfl) (by rfl)) rfl fun a ha => ?_ | refine pY ha (yPick (by rfl) (by rfl) (by rfl)) rfl fun a ha => ?_
          refine pY ha (yMove (by rfl)) rfl fun a ha => ?_
          refine gOff ha rfl rfl (by rfl) rfl rfl fun a ha => ?_
          refine gOff ha rfl rfl (by rfl) rfl rfl fun a ha => ?_
          refine gOff ha rfl rfl (by rfl) rfl rfl fun a ha => ?_
          refine gOff ha rfl rfl (by rfl) rfl rfl fun a ha => ?_
          refine gOff ha rfl rfl (by rfl) rfl rfl fun a ha => ?_
          first | refine pY ha (yPickT (by rfl) (by rfl)) rfl fun a ha => ?_ | refine pY ha (yPickF (by rfl) (by rfl)) rfl fun a ha => ?_ | refine pY ha (yPick (by rfl) (by rfl) (by rfl)) rfl fun a ha => ?_
          refine pY ha (yMove (by rfl)) rfl fun a ha => ?_
          refine gOff ha rfl rfl (by rfl) rfl rfl fun a ha => ?_
          refine gOff ha rfl rfl (by rfl) rfl rfl fun a ha => ?_
          refine gOff ha rfl rfl (by rfl) rfl rfl fun a ha => ?_
          refine gOff ha rfl rfl (by rfl) rfl rfl fun a ha => ?_
          refine gOff ha rfl rfl (by rfl) rfl rfl fun a ha => ?_
          first | refine pY ha (yPickT (by rfl) (by rfl)) rfl fun a ha => ?_ | refine pY ha (yPickF (by rfl) (by rfl)) rfl fun a ha => ?_ | refine pY ha (yPick (by rfl) (by rfl) (by rfl)) rfl fun a ha => ?_
          refine pY ha (yAssign (by rfl)) rfl fun a ha => ?_
          refine pZ ⟨rfl, ?_⟩
          first | exact ⟨_, _, has3 ha (bT ⟨fun h => ⟨hp5, hp12, hp19, hp26, hp33, h⟩, fun h => h.2.2.2.2.2⟩) (by rfl) (by rfl), hs⟩ | exact ⟨_, _, has3 ha (bF (by rintro ⟨h1, h2, h3, h4, h5, h6⟩; first | exact hp5 h1 | exact hp12 h2 | exact hp19 h3 | exact hp26 h4 | exact hp33 h5)) (by rfl) (by rfl), hs⟩
        · rw [hg19] at ha
          have hp19 := of_decide_eq_true hg19
          refine gOn ha rfl rfl (by rfl) ?_
          refine pY ha (yFieldA Tryd.runUnderlying26 rfl Tryd.sizeOf3 rfl (by rfl)) rfl fun a ha => ?_
          refine gOn ha rfl rfl (by rfl) ?_
          first | refine pY ha (yLoadB Tryd.isAgg3 hs (by rfl) (by repeat first | exact .here | apply Pick.there) (by rfl)) rfl fun a ha => ?_ | refine pY ha (yLoadR Tryd.isAgg3 hs (by rfl) (by repeat first | exact .here | apply Pick.there) (by rfl)) rfl fun a ha => ?_ | refine pY ha (yLoadR0 Tryd.isAgg3 hs (by rfl) (by repeat first | exact .here | apply Pick.there) (by rfl)) rfl fun a ha => ?_
          refine gOn ha rfl rfl (by rfl) ?_
          refine pY ha (yFieldA Tryd.runUnderlying26 rfl Tryd.sizeOf3 rfl (by rfl)) rfl fun a ha => ?_
          refine gOn ha rfl rfl (by rfl) ?_
          first | refine pY ha (yLoadB Tryd.isAgg3 hs (by rfl) (by repeat first | exact .here | apply Pick.there) (by rfl)) rfl fun a ha => ?_ | refine pY ha (yLoadR Tryd.isAgg3 hs (by rfl) (by repeat first | exact .here | apply Pick.there) (by rfl)) rfl fun a ha => ?_ | refine pY ha (yLoadR0 Tryd.isAgg3 hs (by rfl) (by repeat first | exact .here | apply Pick.there) (by rfl)) rfl fun a ha => ?_
          refine gOn ha rfl rfl (by rfl) ?_
          refine pY ha (yEql (by rfl) (by rfl)) rfl fun a ha => ?_
          first | refine pY ha (yPickT (by rfl) (by rfl)) rfl fun a ha => ?_ | refine pY ha (yPickF (by rfl) (by rfl)) rfl fun a ha => ?_ | refine pY ha (yPick (by rfl) (by rfl) (by rfl)) rfl fun a ha => ?_
          refine pY ha (yMove (by rfl)) rfl fun a ha => ?_
          refine gSplit (t := 32) ha (by rfl) (fun hg26 => ?_) (fun hg26 => ?_)
          · rw [hg26] at ha
            have hp26 := of_decide_eq_false hg26
            refine gOff ha rfl rfl (by rfl) rfl rfl fun a ha => ?_
            refine gOff ha rfl rfl (by rfl) rfl rfl fun a ha => ?_
            refine gOff ha rfl rfl (by rfl) rfl rfl fun a ha => ?_
            refine gOff ha rfl rfl (by rfl) rfl rfl fun a ha => ?_
            refine gOff ha rfl rfl (by rfl) rfl rfl fun a ha => ?_
            first | refine pY ha (yPickT (by rfl) (by rfl)) rfl fun a ha => ?_ | refine pY ha (yPickF (by rfl) (by rfl)) rfl fun a ha => ?_ | refine pY ha (yPick (by rfl) (by rfl) (by rfl)) rfl fun a ha => ?_
            refine pY ha (yMove (by rfl)) rfl fun a ha => ?_
            refine gOff ha rfl rfl (by rfl) rfl rfl fun a ha => ?_
            refine gOff ha rfl rfl (by rfl) rfl rfl fun a ha => ?_
            refine gOff ha rfl rfl (by rfl) rfl rfl fun a ha => ?_
            refine gOff ha rfl rfl (by rfl) rfl rfl fun a ha => ?_
            refine gOff ha rfl rfl (by rfl) rfl rfl fun a ha => ?_
            first | refine pY ha (yPickT (by rfl) (by rfl)) rfl fun a ha => ?_ | refine pY ha (yPickF (by rfl) (by rfl)) rfl fun a ha => ?_ | refine pY ha (yPick (by rfl) (by rfl) (by rfl)) rfl fun a ha => ?_
            refine pY ha (yAssign (by rfl)) rfl fun a ha => ?_
            refine pZ ⟨rfl, ?_⟩
            first | exact ⟨_, _, has3 ha (bT ⟨fun h => ⟨hp5, hp12, hp19, hp26, hp33, h⟩, fun h => h.2.2.2.2.2⟩) (by rfl) (by rfl), hs⟩ | exact ⟨_, _, has3 ha (bF (by rintro ⟨h1, h2, h3, h4, h5, h6⟩; first | exact hp5 h1 | exact hp12 h2 | exact hp19 h3 | exact hp26 h4 | exact hp33 h5)) (by rfl) (by rfl), hs⟩
          · rw [hg26] at ha
            have hp26 := of_decide_eq_true hg26
            refine gOn ha rfl rfl (by rfl) ?_
            refine pY ha (yFieldA Tryd.runUnderlying26 rfl Tryd.sizeOf3 rfl (by rfl)) rfl fun a ha => ?_
            refine gOn ha rfl rfl (by rfl) ?_
            first | refine pY ha (yLoadB Tryd.isAgg3 hs (by rfl) (by repeat first | exact .here | apply Pick.there) (by rfl)) rfl fun a ha => ?_ | refine pY ha (yLoadR Tryd.isAgg3 hs (by rfl) (by repeat first | exact .here | apply Pick.there) (by rfl)) rfl fun a ha => ?_ | refine pY ha (yLoadR0 Tryd.isAgg3 hs (by rfl) (by repeat first | exact .here | apply Pick.there) (by rfl)) rfl fun a ha => ?_
            refine gOn ha rfl rfl (by rfl) ?_
            refine pY ha (yFieldA Tryd.runUnderlying26 rfl Tryd.sizeOf3 rfl (by rfl)) rfl fun a ha => ?_
            refine gOn ha rfl rfl (by rfl) ?_
            first | refine pY ha (yLoadB Tryd.isAgg3 hs (by rfl) (by repeat first | exact .here | apply Pick.there) (by rfl)) rfl fun a ha => ?_ | refine pY ha (yLoadR Tryd.isAgg3 hs (by rfl) (by repeat first | exact .here | apply Pick.there) (by rfl)) rfl fun a ha => ?_ | refine pY ha (yLoadR0 Tryd.isAgg3 hs (by rfl) (by repeat first | exact .here | apply Pick.there) (by rfl)) rfl fun a ha => ?_
            refine gOn ha rfl rfl (by rfl) ?_
            refine pY ha (yEql (by rfl) (by rfl)) rfl fun a ha => ?_
            first | refine pY ha (yPickT (by rfl) (by rfl)) rfl fun a ha => ?_ | refine pY ha (yPickF (by rfl) (by rfl)) rfl fun a ha => ?_ | refine pY ha (yPick (by rfl) (by rfl) (by rfl)) rfl fun a ha => ?_
            refine pY ha (yMove (by rfl)) rfl fun a ha => ?_
            refine gSplit (t := 39) ha (by rfl) (fun hg33 => ?_) (fun hg33 => ?_)
            · rw [hg33] at ha
              have hp33 := of_decide_eq_false hg33
              refine gOff ha rfl rfl (by rfl) rfl rfl fun a ha => ?_
              refine gOff ha rfl rfl (by rfl) rfl rfl fun a ha => ?_
              refine gOff ha rfl rfl (by rfl) rfl rfl fun a ha => ?_
              refine gOff ha rfl rfl (by rfl) rfl rfl fun a ha => ?_
              refine gOff ha rfl rfl (by rfl) rfl rfl fun a ha => ?_
              first | refine pY ha (yPickT (by rfl) (by rfl)) rfl fun a ha => ?_ | refine pY ha (yPickF (by rfl) (by rfl)) rfl fun a ha => ?_ | refine pY ha (yPick (by rfl) (by rfl) (by rfl)) rfl fun a ha => ?_
              refine pY ha (yAssign (by rfl)) rfl fun a ha => ?_
              refine pZ ⟨rfl, ?_⟩
              first | exact ⟨_, _, has3 ha (bT ⟨fun h => ⟨hp5, hp12, hp19, hp26, hp33, h⟩, fun h => h.2.2.2.2.2⟩) (by rfl) (by rfl), hs⟩ | exact ⟨_, _, has3 ha (bF (by rintro ⟨h1, h2, h3, h4, h5, h6⟩; first | exact hp5 h1 | exact hp12 h2 | exact hp19 h3 | exact hp26 h4 | exact hp33 h5)) (by rfl) (by rfl), hs⟩
            · rw [hg33] at ha
              have hp33 := of_decide_eq_true hg33
              refine gOn ha rfl rfl (by rfl) ?_
              refine pY ha (yFieldA Tryd.runUnderlying26 rfl Tryd.sizeOf3 rfl (by rfl)) rfl fun a ha => ?_
              refine gOn ha rfl rfl (by rfl) ?_
              first | refine pY ha (yLoadB Tryd.isAgg3 hs (by rfl) (by repeat first | exact .here | apply Pick.there) (by rfl)) rfl fun a ha => ?_ | refine pY ha (yLoadR Tryd.isAgg3 hs (by rfl) (by repeat first | exact .here | apply Pick.there) (by rfl)) rfl fun a ha => ?_ | refine pY ha (yLoadR0 Tryd.isAgg3 hs (by rfl) (by repeat first | exact .here | apply Pick.there) (by rfl)) rfl fun a ha => ?_
              refine gOn ha rfl rfl (by rfl) ?_
              refine pY ha (yFieldA Tryd.runUnderlying26 rfl Tryd.sizeOf3 rfl (by rfl)) rfl fun a ha => ?_
              refine gOn ha rfl rfl (by rfl) ?_
              first | refine pY ha (yLoadB Tryd.isAgg3 hs (by rfl) (by repeat first | exact .here | apply Pick.there) (by rfl)) rfl fun a ha => ?_ | refine pY ha (yLoadR Tryd.isAgg3 hs (by rfl) (by repeat first | exact .here | apply Pick.there) (by rfl)) rfl fun a ha => ?_ | refine pY ha (yLoadR0 Tryd.isAgg3 hs (by rfl) (by repeat first | exact .here | apply Pick.there) (by rfl)) rfl fun a ha => ?_
              refine gOn ha rfl rfl (by rfl) ?_
              refine pY ha (yEql (by rfl) (by rfl)) rfl fun a ha => ?_
              first | refine pY ha (yPickT (by rfl) (by rfl)) rfl fun a ha => ?_ | refine pY ha (yPickF (by rfl) (by rfl)) rfl fun a ha => ?_ | refine pY ha (yPick (by rfl) (by rfl) (by rfl)) rfl fun a ha => ?_
              refine pY ha (yAssign (by rfl)) rfl fun a ha => ?_
              refine pZ ⟨rfl, ?_⟩
              first | exact ⟨_, _, has3 ha (bT ⟨fun h => ⟨hp5, hp12, hp19, hp26, hp33, h⟩, fun h => h.2.2.2.2.2⟩) (by rfl) (by rfl), hs⟩ | exact ⟨_, _, has3 ha (bF (by rintro ⟨h1, h2, h3, h4, h5, h6⟩; first | exact hp5 h1 | exact hp12 h2 | exact hp19 h3 | exact hp26 h4 | exact hp33 h5)) (by rfl) (by rfl), hs⟩
  rintro a w ⟨b, b', ha, hs⟩
  refine hK2 _ _ ?_
  refine wp_seq_k fun K3 hK3 => ?_
  refine wp_region_lit ?_
  refine pY ha (yMove (by rfl)) rfl fun a ha => ?_
  refine pY ha (yMove (by rfl)) rfl fun a ha => ?_
  refine gSplit (t := 47) ha (by rfl) (fun hg1 => ?_) (fun hg1 => ?_)
  · rw [hg1] at ha
    have hp1 := of_decide_eq_false hg1
    refine gOff ha rfl rfl (by rfl) rfl rfl fun a ha => ?_
    refine gOff ha rfl rfl (by rfl) rfl rfl fun a ha => ?_
    refine gOff ha rfl rfl (by rfl) rfl rfl fun a ha => ?_
    refine gOff ha rfl rfl (by rfl) rfl rfl fun a ha => ?_
    refine gOff ha rfl rfl (by rfl) rfl rfl fun a ha => ?_
    first | refine pY ha (yPickT (by rfl) (by rfl)) rfl fun a ha => ?_ | refine pY ha (yPickF (by rfl) (by rfl)) rfl fun a ha => ?_ | refine pY ha (yPick (by rfl) (by rfl) (by rfl)) rfl fun a ha => ?_
    refine pY ha (yMove (by rfl)) rfl fun a ha => ?_
    refine gOff ha rfl rfl (by rfl) rfl rfl fun a ha => ?_
    refine gOff ha rfl rfl (by rfl) rfl rfl fun a ha => ?_
    refine gOff ha rfl rfl (by rfl) rfl rfl fun a ha => ?_
    refine gOff ha rfl rfl (by rfl) rfl rfl fun a ha => ?_
    refine gOff ha rfl rfl (by rfl) rfl rfl fun a ha => ?_
    first | refine pY ha (yPickT (by rfl) (by rfl)) rfl fun a ha => ?_ | refine pY ha (yPickF (by rfl) (by rfl)) rfl fun a ha => ?_ | refine pY ha (yPick (by rfl) (by rfl) (by rfl)) rfl fun a ha => ?_
    refine pY ha (yMove (by rfl)) rfl fun a ha => ?_
    refine gOff ha rfl rfl (by rfl) rfl rfl fun a ha => ?_
    refine gOff ha rfl rfl (by rfl) rfl rfl fun a ha => ?_
    refine gOff ha rfl rfl (by rfl) rfl rfl fun a ha => ?_
    refine gOff ha rfl rfl (by rfl) rfl rfl fun a ha => ?_
    refine gOff ha rfl rfl (by rfl) rfl rfl fun a ha => ?_
    first | refine pY ha (yPickT (by rfl) (by rfl)) rfl fun a ha => ?_ | refine pY ha (yPickF (by rfl) (by rfl)) rfl fun a ha => ?_ | refine pY ha (yPick (by rfl) (by rfl) (by rfl)) rfl fun a ha => ?_
    refine pY ha (yAssign (by rfl)) rfl fun a ha => ?_
    refine pZ ?_
    refine hK3 _ _ ?_
    refine wp_ret ?_
    show bodyPost Tryd.prog Tryd.f12 _ .ret _ _
    refine ret1 rfl ha (by rfl) ?_
    refine ⟨?_, hs.drop.drop.drop.drop.drop.drop.drop.drop⟩
    first
      | exact congrArg Value.bool (decide_eq_decide.2 ⟨fun h => key.1 ⟨hp1, hp8, hp15, h⟩, fun h => (key.2 h).2.2.2⟩)
      | exact congrArg Value.bool (decide_eq_false (fun h => by have h := key.2 h; first | exact hp1 h.1 | exact hp8 h.2.1 | exact hp15 h.2.2.1)).symm
  · rw [hg1] at ha
    have hp1 := of_decide_eq_true hg1
    refine gOn ha rfl rfl (by rfl) ?_
    refine pY ha (yFieldA Tryd.runUnderlying26 rfl Tryd.sizeOf22 rfl (by rfl)) rfl fun a ha => ?_
    refine gOn ha rfl rfl (by rfl) ?_
    first | refine pY ha (yLoadB Tryd.isAgg22 hs (by rfl) (by repeat first | exact .here | apply Pick.there) (by rfl)) rfl fun a ha => ?_ | refine pY ha (yLoadR Tryd.isAgg22 hs (by rfl) (by repeat first | exact .here | apply Pick.there) (by rfl)) rfl fun a ha => ?_ | refine pY ha (yLoadR0 Tryd.isAgg22 hs (by rfl) (by repeat first | exact .here | apply Pick.there) (by rfl)) rfl fun a ha => ?_
    refine gOn ha rfl rfl (by rfl) ?_
    refine pY ha (yFieldA Tryd.runUnderlying26 rfl Tryd.sizeOf22 rfl (by rfl)) rfl fun a ha => ?_
    refine gOn ha rfl rfl (by rfl) ?_
    first | refine pY ha (yLoadB Tryd.isAgg22 hs (by rfl) (by repeat first | exact .here | apply Pick.there) (by rfl)) rfl fun a ha => ?_ | refine pY ha (yLoadR Tryd.isAgg22 hs (by rfl) (by repeat first | exact .here | apply Pick.there) (by rfl)) rfl fun a ha => ?_ | refine pY ha (yLoadR0 Tryd.isAgg22 hs (by rfl) (by repeat first | exact .here | apply Pick.there) (by rfl)) rfl fun a ha => ?_
    refine gOn ha rfl rfl (by rfl) ?_
    refine pC ha (nCall Tryd.call31 (by rfl)) rfl (SameT_c (xs := x.acts) (ys := y.acts) hs (.there (.there (.there (.there (.there .here))))) (.there (.there .here))) ?_
    rintro v w ⟨rfl, hs⟩ a ha
    first | refine pY ha (yPickT (by rfl) (by rfl)) rfl fun a ha => ?_ | refine pY ha (yPickF (by rfl) (by rfl)) rfl fun a ha => ?_ | refine pY ha (yPick (by rfl) (by rfl) (by rfl)) rfl fun a ha => ?_
    refine pY ha (yMove (by rfl)) rfl fun a ha => ?_
    refine gSplit (t := 54) ha (by rfl) (fun hg8 => ?_) (fun hg8 => ?_)
    · rw [hg8] at ha
      have hp8 := of_decide_eq_false hg8
      refine gOff ha rfl rfl (by rfl) rfl rfl fun a ha => ?_
      refine gOff ha rfl rfl (by rfl) rfl rfl fun a ha => ?_
      refine gOff ha rfl rfl (by rfl) rfl rfl fun a ha => ?_
      refine gOff ha rfl rfl (by rfl) rfl rfl fun a ha => ?_
      refine gOff ha rfl rfl (by rfl) rfl rfl fun a ha => ?_
      first | refine pY ha (yPickT (by rfl) (by rfl)) rfl fun a ha => ?_ | refine pY ha (yPickF (by rfl) (by rfl)) rfl fun a ha => ?_ | refine pY ha (yPick (by rfl) (by rfl) (by rfl)) rfl fun a ha => ?_
      refine pY ha (yMove (by rfl)) rfl fun a ha => ?_
      refine gOff ha rfl rfl (by rfl) rfl rfl fun a ha => ?_
      refine gOff ha rfl rfl (by rfl) rfl rfl fun a ha => ?_
      refine gOff ha rfl rfl (by rfl) rfl rfl fun a ha => ?_
      refine gOff ha rfl rfl (by rfl) rfl rfl fun a ha => ?_
      refine gOff ha rfl rfl (by rfl) rfl rfl fun a ha => ?_
      first | refine pY ha (yPickT (by rfl) (by rfl)) rfl fun a ha => ?_ | refine pY ha (yPickF (by rfl) (by rfl)) rfl fun a ha => ?_ | refine pY ha (yPick (by rfl) (by rfl) (by rfl)) rfl fun a ha => ?_
      refine pY ha (yAssign (by rfl)) rfl fun a ha => ?_
      refine pZ ?_
      refine hK3 _ _ ?_
      refine wp_ret ?_
      show bodyPost Tryd.prog Tryd.f12 _ .ret _ _
      refine ret1 rfl ha (by rfl) ?_
      refine ⟨?_, hs.drop.drop.drop.drop.drop.drop.drop.drop⟩
      first
        | exact congrArg Value.bool (decide_eq_decide.2 ⟨fun h => key.1 ⟨hp1, hp8, hp15, h⟩, fun h => (key.2 h).2.2.2⟩)
        | exact congrArg Value.bool (decide_eq_false (fun h => by have h := key.2 h; first | exact hp1 h.1 | exact hp8 h.2.1 | exact hp15 h.2.2.1)).symm
    · rw [hg8] at ha
      have hp8 := of_decide_eq_true hg8
      refine gOn ha rfl rfl (by rfl) ?_
      refine pY ha (yFieldA Tryd.runUnderlying26 rfl Tryd.sizeOf23 rfl (by rfl)) rfl fun a ha => ?_
      refine gOn ha rfl rfl (by rfl) ?_
      first | refine pY ha (yLoadB Tryd.isAgg23 hs (by rfl) (by repeat first | exact .here | apply Pick.there) (by rfl)) rfl fun a ha => ?_ | refine pY ha (yLoadR Tryd.isAgg23 hs (by rfl) (by repeat first | exact .here | apply Pick.there) (by rfl)) rfl fun a ha => ?_ | refine pY ha (yLoadR0 Tryd.isAgg23 hs (by rfl) (by repeat first | exact .here | apply Pick.there) (by rfl)) rfl fun a ha => ?_
      refine gOn ha rfl rfl (by rfl) ?_
      refine pY ha (yFieldA Tryd.runUnderlying26 rfl Tryd.sizeOf23 rfl (by rfl)) rfl fun a ha => ?_
      refine gOn ha rfl rfl (by rfl) ?_
      first | refine pY ha (yLoadB Tryd.isAgg23 hs (by rfl) (by repeat first | exact .here | apply Pick.there) (by rfl)) rfl fun a ha => ?_ | refine pY ha (yLoadR Tryd.isAgg23 hs (by rfl) (by repeat first | exact .here | apply Pick.there) (by rfl)) rfl fun a ha => ?_ | refine pY ha (yLoadR0 Tryd.isAgg23 hs (by rfl) (by repeat first | exact .here | apply Pick.there) (by rfl)) rfl fun a ha => ?_
      refine gOn ha rfl rfl (by rfl) ?_
      refine pC ha (nCall Tryd.call32 (by rfl)) rfl (EqCmts_c (xs := x.commits) (ys := y.commits) hs (.there (.there (.there (.there (.there (.there .here)))))) (.there (.there (.there .here)))) ?_
      rintro v w ⟨rfl, hs⟩ a ha
      first | refine pY ha (yPickT (by rfl) (by rfl)) rfl fun a ha => ?_ | refine pY ha (yPickF (by rfl) (by rfl)) rfl fun a ha => ?_ | refine pY ha (yPick (by rfl) (by rfl) (by rfl)) rfl fun a ha => ?_
      refine pY ha (yMove (by rfl)) rfl fun a ha => ?_
      refine gSplit (t := 61) ha (by rfl) (fun hg15 => ?_) (fun hg15 => ?_)
      · rw [hg15] at ha
        have hp15 := of_decide_eq_false hg15
        refine gOff ha rfl rfl (by rfl) rfl rfl fun a ha => ?_
        refine gOff ha rfl rfl (by rfl) rfl rfl fun a ha => ?_
        refine gOff ha rfl rfl (by rfl) rfl rfl fun a ha => ?_
        refine gOff ha rfl rfl (by rfl) rfl rfl fun a ha => ?_
        refine gOff ha rfl rfl (by rfl) rfl rfl fun a ha => ?_
        first | refine pY ha (yPickT (by rfl) (by rfl)) rfl fun a ha => ?_ | refine pY ha (yPickF (by rfl) (by rfl)) rfl fun a ha => ?_ | refine pY ha (yPick (by rfl) (by rfl) (by rfl)) rfl fun a ha => ?_
        refine pY ha (yAssign (by rfl)) rfl fun a ha => ?_
        refine pZ ?_
        refine hK3 _ _ ?_
        refine wp_ret ?_
        show bodyPost Tryd.prog Tryd.f12 _ .ret _ _
        refine ret1 rfl ha (by rfl) ?_
        refine ⟨?_, hs.drop.drop.drop.drop.drop.drop.drop.drop⟩
        first
          | exact congrArg Value.bool (decide_eq_decide.2 ⟨fun h => key.1 ⟨hp1, hp8, hp15, h⟩, fun h => (key.2 h).2.2.2⟩)
          | exact congrArg Value.bool (decide_eq_false (fun h => by have h := key.2 h; first | exact hp1 h.1 | exact hp8 h.2.1 | exact hp15 h.2.2.1)).symm
      · rw [hg15] at ha
        have hp15 := of_decide_eq_true hg15
        refine gOn ha rfl rfl (by rfl) ?_
        refine pY ha (yFieldA Tryd.runUnderlying26 rfl Tryd.sizeOf24 rfl (by rfl)) rfl fun a ha => ?_
        refine gOn ha rfl rfl (by rfl) ?_
        first | refine pY ha (yLoadB Tryd.isAgg24 hs (by rfl) (by repeat first | exact .here | apply Pick.there) (by rfl)) rfl fun a ha => ?_ | refine pY ha (yLoadR Tryd.isAgg24 hs (by rfl) (by repeat first | exact .here | apply Pick.there) (by rfl)) rfl fun a ha => ?_ | refine pY ha (yLoadR0 Tryd.isAgg24 hs (by rfl) (by repeat first | exact .here | apply Pick.there) (by rfl)) rfl fun a ha => ?_
        refine gOn ha rfl rfl (by rfl) ?_
        refine pY ha (yFieldA Tryd.runUnderlying26 rfl Tryd.sizeOf24 rfl (by rfl)) rfl fun a ha => ?_
        refine gOn ha rfl rfl (by rfl) ?_
        first | refine pY ha (yLoadB Tryd.isAgg24 hs (by rfl) (by repeat first | exact .here | apply Pick.there) (by rfl)) rfl fun a ha => ?_ | refine pY ha (yLoadR Tryd.isAgg24 hs (by rfl) (by repeat first | exact .here | apply Pick.there) (by rfl)) rfl fun a ha => ?_ | refine pY ha (yLoadR0 Tryd.isAgg24 hs (by rfl) (by repeat first | exact .here | apply Pick.there) (by rfl)) rfl fun a ha => ?_
        refine gOn ha rfl rfl (by rfl) ?_
        refine pC ha (nCall Tryd.call34 (by rfl)) rfl (EqNods_c (xs := x.nodes) (ys := y.nodes) hs (.there (.there (.there (.there (.there (.there (.there .here))))))) (.there (.there (.there (.there .here))))) ?_
        rintro v w ⟨rfl, hs⟩ a ha
        first | refine pY ha (yPickT (by rfl) (by rfl)) rfl fun a ha => ?_ | refine pY ha (yPickF (by rfl) (by rfl)) rfl fun a ha => ?_ | refine pY ha (yPick (by rfl) (by rfl) (by rfl)) rfl fun a ha => ?_
        refine pY ha (yAssign (by rfl)) rfl fun a ha => ?_
        refine pZ ?_
        refine hK3 _ _ ?_
        refine wp_ret ?_
        show bodyPost Tryd.prog Tryd.f12 _ .ret _ _
        refine ret1 rfl ha (by rfl) ?_
        refine ⟨?_, hs.drop.drop.drop.drop.drop.drop.drop.drop⟩
        first
          | exact congrArg Value.bool (decide_eq_decide.2 ⟨fun h => key.1 ⟨hp1, hp8, hp15, h⟩, fun h => (key.2 h).2.2.2⟩)
          | exact congrArg Value.bool (decide_eq_false (fun h => by have h := key.2 h; first | exact hp1 h.1 | exact hp8 h.2.1 | exact hp15 h.2.2.1)).symm
end
end Go.Proofs.YtnlhbkaieoogfaaDoor

set_option linter.unusedVariables false
set_option linter.unusedSimpArgs false
namespace Go.Proofs.YtnlhbkaieoogfaaDoor
open Go.RowKit
theorem bldOwn26_0 {w : World} {l : List (Nat × Value)} {T : TypeId} {x0 : Operand} {v0 : Value} (h0 : ev l x0 = some v0) (o0 : v0.cells = #[v0] := by rfl) : Yl Tryd.prog w l (.build 26 #[(0, x0)]) T (.agg #[v0, .int .i64 0, .int .i64 0, .int .i64 0, .int .i64 0, .slice none 0 0, .slice none 0 0, .slice none 0 0, .int .i64 0]) := fun ρ o h ho _ => by
  have hf : Instr.fill (fun i => ([(0, 1), (1, 1), (2, 1), (3, 1), (4, 1), (5, 1), (6, 1), (7, 1), (8, 1)] : List (Nat × Nat))[i]?) #[.int .i64 0, .int .i64 0, .int .i64 0, .int .i64 0, .int .i64 0, .slice none 0 0, .slice none 0 0, .slice none 0 0, .int .i64 0] [(0, v0)] = some #[v0, .int .i64 0, .int .i64 0, .int .i64 0, .int .i64 0, .slice none 0 0, .slice none 0 0, .slice none 0 0, .int .i64 0] := by
    refine (fill_v o0 (by rfl) (by simp)).trans ?_
    simp [Instr.fill]
  unfold execOp; rw [ho]
  simp [h _ _ h0, Instr.build, Tryd.zeroValue26, Tryd.runUnderlying26, Tryd.sizeOf22, Tryd.sizeOf23, Tryd.sizeOf24, Tryd.sizeOf3, agg_cells, hf]
theorem bldOwn43_0 {w : World} {l : List (Nat × Value)} {T : TypeId} {x0 : Operand} {v0 : Value} (h0 : ev l x0 = some v0) (o0 : v0.cells = #[v0] := by rfl) : Yl Tryd.prog w l (.build 43 #[(0, x0)]) T (.agg #[v0, .int .i64 0, .int .i64 0, .string ⟨#[]⟩, .bool false, .slice none 0 0]) := fun ρ o h ho _ => by
  have hf : Instr.fill (fun i => ([(0, 1), (1, 1), (2, 1), (3, 1), (4, 1), (5, 1)] : List (Nat × Nat))[i]?) #[.int .i64 0, .int .i64 0, .int .i64 0, .string ⟨#[]⟩, .bool false, .slice none 0 0] [(0, v0)] = some #[v0, .int .i64 0, .int .i64 0, .string ⟨#[]⟩, .bool false, .slice none 0 0] := by
    refine (fill_v o0 (by rfl) (by simp)).trans ?_
    simp [Instr.fill]
  unfold execOp; rw [ho]
  simp [h _ _ h0, Instr.build, Tryd.zeroValue43, Tryd.runUnderlying43, Tryd.sizeOf3, Tryd.sizeOf4, Tryd.sizeOf41, Tryd.sizeOf9, agg_cells, hf]
theorem bslOwn22_1_0 {w : World} {l : List (Nat × Value)} {T : TypeId} {x0 : Operand} {c0 : List Value} (h0 : ev l x0 = some (.agg c0.toArray)) (n0 : c0.length = 6 := by rfl) : Mk Tryd.prog w l (.buildSlice 22 1 #[(0, x0)]) T 43 1 c0 := fun ρ o h ho _ => by
  unfold execOp; rw [ho]
  exact mk1 (P := Tryd.prog) w Tryd.runUnderlying22 Tryd.sizeOf43 Tryd.zeroValue43 (by decide) (by decide) n0 (h _ _ h0)
theorem bslOwn23_1_0 {w : World} {l : List (Nat × Value)} {T : TypeId} {x0 : Operand} {c0 : List Value} (h0 : ev l x0 = some (.agg c0.toArray)) (n0 : c0.length = 4 := by rfl) : Mk Tryd.prog w l (.buildSlice 23 1 #[(0, x0)]) T 40 1 c0 := fun ρ o h ho _ => by
  unfold execOp; rw [ho]
  exact mk1 (P := Tryd.prog) w Tryd.runUnderlying23 Tryd.sizeOf40 Tryd.zeroValue40 (by decide) (by decide) n0 (h _ _ h0)
theorem bslOwn24_0_ {w : World} {l : List (Nat × Value)} {T : TypeId} : Mk Tryd.prog w l (.buildSlice 24 0 #[]) T 50 0 [] := mk0 Tryd.runUnderlying24 Tryd.sizeOf50
theorem bslOwn41_0_ {w : World} {l : List (Nat × Value)} {T : TypeId} : Mk Tryd.prog w l (.buildSlice 41 0 #[]) T 46 0 [] := mk0 Tryd.runUnderlying41 Tryd.sizeOf46
theorem elOwn22 : ElemT Tryd.prog 22 43 6 72 := elemT_mk Tryd.underlying22 rfl (by kernel_rfl)
theorem elOwn23 : ElemT Tryd.prog 23 40 4 48 := elemT_mk Tryd.underlying23 rfl (by kernel_rfl)
theorem elOwn24 : ElemT Tryd.prog 24 50 5 56 := elemT_mk Tryd.underlying24 rfl (by kernel_rfl)
theorem elOwn41 : ElemT Tryd.prog 41 46 3 32 := elemT_mk Tryd.underlying41 rfl (by kernel_rfl)
section
variable {W w : World} {cs r r' : List Ch}
theorem CloneC_c {A : Option Addr} {n c : Nat} {xs : List Comp} (hs : Sep W w cs) (hk : Pick cs (.rd kComp (.slice A n c) xs) r) (hb : xs.length ≤ 1000000000) :
    Calls P 59 #[.slice A n c] w (Rt fun v w' => ∃ A' c', v = .slice A' xs.length c' ∧ Sep W w' (.rd kComp (.slice A' xs.length c') xs :: cs)) := by
  obtain ⟨rfl, hl⟩ := hs.rd_shape hk
  have hs := hs.cpR hk
  refine enter Tryd.func59 Tryd.ntmps59 rfl rfl fun a (ha : Has a 8 [(0, _)]) => ?_
  refine wp_seq_k fun K1 hK1 => ?_
  refine wp_region_lit ?_
  refine pY ha (yAssign (by rfl)) rfl fun a ha => ?_
  refine pZ ?_
  refine hK1 _ _ ?_
  refine wp_seq_k fun K2 hK2 => ?_
  refine wp_seq_k fun K3 hK3 => ?_
  refine wp_region_lit ?_
  refine pY ha (yMove (by rfl)) rfl fun a ha => ?_
  refine pY ha (ySlEql Tryd.underlying41 (by rfl) (by rfl)) rfl fun a ha => ?_
  refine pZ ?_
  refine hK3 _ _ ?_
  first | refine cNDec ha (by rfl) (fun hc4 => ?_) (fun hc4 => ?_) | refine cDec ha (by rfl) (fun hc4 => ?_) (fun hc4 => ?_) | refine cSplit ha (by rfl) (fun hc4 => ?_) (fun hc4 => ?_)
  · obtain rfl : A = none := by simpa using hc4
    obtain rfl := hs.rd_none .here
    refine wp_seq_k fun K4 hK4 => ?_
    refine wp_region_lit ?_
    refine pY ha (yAssign (by rfl)) rfl fun a ha => ?_
    refine pZ ?_
    refine hK4 _ _ ?_
    refine wp_ret ?_
    show bodyPost Tryd.prog Tryd.f59 _ .ret _ _
    refine ret1 rfl ha (by rfl) ?_
    exact ⟨none, 0, rfl, (hs.drop.ol_nil kComp 0 none).ol_rd .here⟩
  · refine wp_skip ?_
    refine hK2 _ _ ?_
    refine wp_seq_k fun K5 hK5 => ?_
    refine wp_region_lit ?_
    refine pMake ha bslOwn41_0_ hs rfl fun b w hs a ha => ?_
    have hs := hs.blk_ol0 .here kComp
    refine pY ha (yMove (by rfl)) rfl fun a ha => ?_
    first | refine pApp1 ha elOwn41 (by rfl) (by rfl) hs (by repeat first | exact .here | apply Pick.there) (by repeat first | exact .here | apply Pick.there) (by repeat first | exact .here | apply Pick.there) (by rfl) (by first | omega | (unfold maxLen; omega) | (simp [maxLen]; done) | (simp [maxLen]; omega)) (by first | omega | (unfold maxLen; omega) | (simp [maxLen]; done) | (simp [maxLen]; omega)) rfl fun A c w hs a ha => ?_ | refine pAppRd ha elOwn41 (by rfl) (by rfl) hs (by repeat first | exact .here | apply Pick.there) (by repeat first | exact .here | apply Pick.there) (by rfl) (by first | omega | (unfold maxLen; omega) | (simp [maxLen]; done) | (simp [maxLen]; omega)) (by first | omega | (unfold maxLen; omega) | (simp [maxLen]; done) | (simp [maxLen]; omega)) rfl fun A c w hs a ha => ?_ | refine pApp1F ha elOwn41 (by rfl) (by rfl) hs (by repeat first | exact .here | apply Pick.there) (by repeat first | exact .here | apply Pick.there) (by intro Z; first | rfl | exact ⟨rfl, by omega, by omega⟩) (by rfl) (by first | omega | (unfold maxLen; omega) | (simp [maxLen]; done) | (simp [maxLen]; omega)) (by first | omega | (unfold maxLen; omega) | (simp [maxLen]; done) | (simp [maxLen]; omega)) rfl fun A c w hs a ha => ?_
    refine pY ha (yAssign (by rfl)) rfl fun a ha => ?_
    refine pZ ?_
    refine hK5 _ _ ?_
    refine wp_ret ?_
    show bodyPost Tryd.prog Tryd.f59 _ .ret _ _
    refine ret1 rfl ha (by rfl) ?_
    exact ⟨A, c, by simp, by simpa using (hs.drop2).ol_rd .here⟩
theorem CloneN_c {A : Option Addr} {n c : Nat} {xs : List Nod} (hs : Sep W w cs) (hk : Pick cs (.rd kNod (.slice A n c) xs) r) (hb : xs.length ≤ 1000000000) :
    Calls P 37 #[.slice A n c] w (Rt fun v w' => ∃ A' c', v = .slice A' xs.length c' ∧ Sep W w' (.rd kNod (.slice A' xs.length c') xs :: cs)) := by
  obtain ⟨rfl, hl⟩ := hs.rd_shape hk
  have hs := hs.cpR hk
  refine enter Tryd.func37 Tryd.ntmps37 rfl rfl fun a (ha : Has a 8 [(0, _)]) => ?_
  refine wp_seq_k fun K1 hK1 => ?_
  refine wp_region_lit ?_
  refine pY ha (yAssign (by rfl)) rfl fun a ha => ?_
  refine pZ ?_
  refine hK1 _ _ ?_
  refine wp_seq_k fun K2 hK2 => ?_
  refine wp_seq_k fun K3 hK3 => ?_
  refine wp_region_lit ?_
  refine pY ha (yMove (by rfl)) rfl fun a ha => ?_
  refine pY ha (ySlEql Tryd.underlying24 (by rfl) (by rfl)) rfl fun a ha => ?_
  refine pZ ?_
  refine hK3 _ _ ?_
  first | refine cNDec ha (by rfl) (fun hc4 => ?_) (fun hc4 => ?_) | refine cDec ha (by rfl) (fun hc4 => ?_) (fun hc4 => ?_) | refine cSplit ha (by rfl) (fun hc4 => ?_) (fun hc4 => ?_)
  · obtain rfl : A = none := by simpa using hc4
    obtain rfl := hs.rd_none .here
    refine wp_seq_k fun K4 hK4 => ?_
    refine wp_region_lit ?_
    refine pY ha (yAssign (by rfl)) rfl fun a ha => ?_
    refine pZ ?_
    refine hK4 _ _ ?_
    refine wp_ret ?_
    show bodyPost Tryd.prog Tryd.f37 _ .ret _ _
    refine ret1 rfl ha (by rfl) ?_
    exact ⟨none, 0, rfl, (hs.drop.ol_nil kNod 0 none).ol_rd .here⟩
  · refine wp_skip ?_
    refine hK2 _ _ ?_
    refine wp_seq_k fun K5 hK5 => ?_
    refine wp_region_lit ?_
    refine pMake ha bslOwn24_0_ hs rfl fun b w hs a ha => ?_
    have hs := hs.blk_ol0 .here kNod
    refine pY ha (yMove (by rfl)) rfl fun a ha => ?_
    first | refine pApp1 ha elOwn24 (by rfl) (by rfl) hs (by repeat first | exact .here | apply Pick.there) (by repeat first | exact .here | apply Pick.there) (by repeat first | exact .here | apply Pick.there) (by rfl) (by first | omega | (unfold maxLen; omega) | (simp [maxLen]; done) | (simp [maxLen]; omega)) (by first | omega | (unfold maxLen; omega) | (simp [maxLen]; done) | (simp [maxLen]; omega)) rfl fun A c w hs a ha => ?_ | refine pAppRd ha elOwn24 (by rfl) (by rfl) hs (by repeat first | exact .here | apply Pick.there) (by repeat first | exact .here | apply Pick.there) (by rfl) (by first | omega | (unfold maxLen; omega) | (simp [maxLen]; done) | (simp [maxLen]; omega)) (by first | omega | (unfold maxLen; omega) | (simp [maxLen]; done) | (simp [maxLen]; omega)) rfl fun A c w hs a ha => ?_ | refine pApp1F ha elOwn24 (by rfl) (by rfl) hs (by repeat first | exact .here | apply Pick.there) (by repeat first | exact .here | apply Pick.there) (by intro Z; first | rfl | exact ⟨rfl, by omega, by omega⟩) (by rfl) (by first | omega | (unfold maxLen; omega) | (simp [maxLen]; done) | (simp [maxLen]; omega)) (by first | omega | (unfold maxLen; omega) | (simp [maxLen]; done) | (simp [maxLen]; omega)) rfl fun A c w hs a ha => ?_
    refine pY ha (yAssign (by rfl)) rfl fun a ha => ?_
    refine pZ ?_
    refine hK5 _ _ ?_
    refine wp_ret ?_
    show bodyPost Tryd.prog Tryd.f37 _ .ret _ _
    refine ret1 rfl ha (by rfl) ?_
    exact ⟨A, c, by simp, by simpa using (hs.drop2).ol_rd .here⟩
theorem Own_c {A : Option Addr} {n c : Nat} {xs : List Actn} (hs : Sep W w cs) (hk : Pick cs (.rd kActn (.slice A n c) xs) r) (hb : xs.length ≤ 1000000000) (hb2 : ∀ x ∈ xs, x.ops.length ≤ 1000000000) :
    Calls P 35 #[.slice A n c] w (Rt fun v w' => ∃ A' c', v = .slice A' xs.length c' ∧ Sep W w' (.rd kActn (.slice A' xs.length c') xs :: cs)) := by
  obtain ⟨rfl, hl⟩ := hs.rd_shape hk
  have hs := hs.cpR hk
  refine enter Tryd.func35 Tryd.ntmps35 rfl rfl fun a (ha : Has a 21 [(0, _)]) => ?_
  refine wp_seq_k fun K1 hK1 => ?_
  refine wp_region_lit ?_
  refine pY ha (yAssign (by rfl)) rfl fun a ha => ?_
  refine pZ ?_
  refine hK1 _ _ ?_
  refine wp_seq_k fun K2 hK2 => ?_
  refine wp_seq_k fun K3 hK3 => ?_
  refine wp_region_lit ?_
  refine pY ha (yMove (by rfl)) rfl fun a ha => ?_
  refine pY ha (yLenS Tryd.runUnderlying22 (by rfl)) rfl fun a ha => ?_
  refine pY ha (yMove (by rfl)) rfl fun a ha => ?_
  refine pZ ?_
  refine hK3 _ _ ?_
  refine wp_block ?_
  refine loopI (ι := Nat × Option Addr × Nat) (fun i a w => i.1 ≤ xs.length ∧ Has a 21 [(2, .slice i.2.1 (xs.take i.1).length i.2.2), (5, .slice A xs.length c), (6, .int .i64 xs.length), (7, .int .i64 i.1)] ∧ Sep W w (.ol kActn 43 (.slice i.2.1 (xs.take i.1).length i.2.2) (xs.take i.1) :: .rd kActn (.slice A xs.length c) xs :: cs)) (fun i => xs.length - i.1) ((0, none, 0)) ?_ ?_
  · exact ⟨Nat.zero_le _, has4 ha (by rfl) (by rfl) (by rfl) (by rfl), hs.ol_nil kActn _ none⟩
  · rintro i a w ⟨h1, ha, hs⟩
    obtain ⟨i, B, d⟩ := i; simp only at h1 ha hs
    refine wp_seq_k fun K4 hK4 => ?_
    refine wp_region_lit ?_
    refine pY ha (yLss (by rfl) (by rfl)) rfl fun a ha => ?_
    refine pZ ?_
    refine hK4 _ _ ?_
    refine wp_seq_k fun K5 hK5 => ?_
    first | refine cDec ha (by rfl) (fun hc8 => ?_) (fun hc8 => ?_) | refine cSplit ha (by rfl) (fun hc8 => ?_) (fun hc8 => ?_)
    · obtain ⟨x, hx⟩ : ∃ x, xs[i]? = some x := ⟨_, List.getElem?_eq_getElem (by omega)⟩
      have hxo := hb2 x (List.mem_of_getElem? hx)
      have hlt : (xs.take i).length = i := by rw [List.length_take]; omega
      obtain ⟨b0, off, A', n', c', rfl, hs⟩ := hs.rd_actn (.there .here) hx
      refine wp_skip ?_
      refine hK5 _ _ ?_
      refine wp_seq_k fun K6 hK6 => ?_
      refine wp_block ?_
      refine wp_seq_k fun K7 hK7 => ?_
      refine wp_region_lit ?_
      refine pY ha (yIndexA Tryd.runUnderlying22 Tryd.sizeOf43 (by rfl) (by rfl) (by omega) (by omega)) rfl fun a ha => ?_
      first | refine pY ha (yLoadRA Tryd.isAgg43 Tryd.sizeOf43 hs (by rfl) (by repeat first | exact .here | apply Pick.there) (by rfl)) rfl fun a ha => ?_ | refine pY ha (yLoadBA Tryd.isAgg43 Tryd.sizeOf43 hs (by rfl) (by repeat first | exact .here | apply Pick.there) (by rfl)) rfl fun a ha => ?_
      refine pAlloc (zs := [.int .i64 0, .int .i64 0, .int .i64 0, .string ⟨#[]⟩, .bool false, .slice none 0 0]) ha Tryd.zeroValue43 (by rfl) hs rfl fun b w hs a ha => ?_
      refine pStoreA ha Tryd.sizeOf43 hs (by rfl) (by rfl) (by repeat first | exact .here | apply Pick.there) (by rfl) (by rfl) (by rfl) fun w hs => ?_
      refine pZ ?_
      refine hK7 _ _ ?_
      refine wp_seq_k fun K8 hK8 => ?_
      refine wp_region_lit ?_
      refine pY ha (yFieldA Tryd.runUnderlying43 rfl Tryd.sizeOf41 rfl (by rfl)) rfl fun a ha => ?_
      first | refine pY ha (yLoadB Tryd.isAgg41 hs (by rfl) (by repeat first | exact .here | apply Pick.there) (by rfl)) rfl fun a ha => ?_ | refine pY ha (yLoadR Tryd.isAgg41 hs (by rfl) (by repeat first | exact .here | apply Pick.there) (by rfl)) rfl fun a ha => ?_ | refine pY ha (yLoadR0 Tryd.isAgg41 hs (by rfl) (by repeat first | exact .here | apply Pick.there) (by rfl)) rfl fun a ha => ?_
      refine pC ha (nCall Tryd.call59 (by rfl)) rfl (CloneC_c (xs := x.ops) hs (by repeat first | exact .here | apply Pick.there) hxo) ?_
      rintro v w ⟨A2, c2, rfl, hs⟩ a ha
      refine pY ha (yFieldA Tryd.runUnderlying43 rfl Tryd.sizeOf41 rfl (by rfl)) rfl fun a ha => ?_
      refine pStore ha Tryd.sizeOf41 hs (by rfl) (by rfl) rfl rfl (by repeat first | exact .here | apply Pick.there) (by rfl) fun w hs => ?_
      refine pZ ?_
      refine hK8 _ _ ?_
      refine wp_region_lit ?_
      refine pY ha (yMove (by rfl)) rfl fun a ha => ?_
      first | refine pY ha (yLoadRA Tryd.isAgg43 Tryd.sizeOf43 hs (by rfl) (by repeat first | exact .here | apply Pick.there) (by rfl)) rfl fun a ha => ?_ | refine pY ha (yLoadBA Tryd.isAgg43 Tryd.sizeOf43 hs (by rfl) (by repeat first | exact .here | apply Pick.there) (by rfl)) rfl fun a ha => ?_
      have hs := hs.with_ro (p := fun Z => kComp.sl Z (.slice A2 x.ops.length c2) x.ops) (by repeat first | exact .here | apply Pick.there) (q := fun Z => kActn.R Z x [.int .i64 x.kind, .int .i64 x.id, .int .i64 x.parent, .string x.name, .bool x.dir, .slice A2 x.ops.length c2]) (m' := fun _ _ h => kActn.mono h) (fun Z hp => ⟨A2, _, c2, rfl, hp⟩)
      refine pMake ha (bslOwn22_1_0 (by rfl)) hs rfl fun b w hs a ha => ?_
      first | refine pApp1 ha elOwn22 (by rfl) (by rfl) hs (by repeat first | exact .here | apply Pick.there) (by repeat first | exact .here | apply Pick.there) (by repeat first | exact .here | apply Pick.there) (by rfl) (by first | omega | (unfold maxLen; omega) | (simp [maxLen]; done) | (simp [maxLen]; omega)) (by first | omega | (unfold maxLen; omega) | (simp [maxLen]; done) | (simp [maxLen]; omega)) rfl fun A c w hs a ha => ?_ | refine pAppRd ha elOwn22 (by rfl) (by rfl) hs (by repeat first | exact .here | apply Pick.there) (by repeat first | exact .here | apply Pick.there) (by rfl) (by first | omega | (unfold maxLen; omega) | (simp [maxLen]; done) | (simp [maxLen]; omega)) (by first | omega | (unfold maxLen; omega) | (simp [maxLen]; done) | (simp [maxLen]; omega)) rfl fun A c w hs a ha => ?_ | refine pApp1F ha elOwn22 (by rfl) (by rfl) hs (by repeat first | exact .here | apply Pick.there) (by repeat first | exact .here | apply Pick.there) (by intro Z; first | rfl | exact ⟨rfl, by omega, by omega⟩) (by rfl) (by first | omega | (unfold maxLen; omega) | (simp [maxLen]; done) | (simp [maxLen]; omega)) (by first | omega | (unfold maxLen; omega) | (simp [maxLen]; done) | (simp [maxLen]; omega)) rfl fun A c w hs a ha => ?_
      refine pY ha (yAssign (by rfl)) rfl fun a ha => ?_
      refine pZ ?_
      refine hK6 _ _ ?_
      refine wp_region_lit ?_
      first | refine pY ha (yAddN (by rfl) (by rfl) ⟨by omega, by omega⟩) rfl fun a ha => ?_ | refine pY ha (yAdd (by rfl) (by rfl)) rfl fun a ha => ?_
      refine pY ha (yMove (by rfl)) rfl fun a ha => ?_
      refine pZ ?_
      have e1 : xs.take (i + 1) = xs.take i ++ [x] := by rw [List.take_add_one, hx]; rfl
      have e2 : (xs.take (i + 1)).length = (xs.take i).length + 1 := by rw [e1]; simp
      refine ⟨(i + 1, A, c), ⟨by simp only; omega, ?_, ?_⟩, by simp only; omega⟩
      · rw [e2]; exact has4 ha (by rfl) (by rfl) (by rfl) (by rfl)
      · rw [e2, e1]; exact hs.drop2.drop2.drop2.drop2
    · refine wp_exit ?_
      refine hK2 _ _ ?_
      refine wp_seq_k fun K9 hK9 => ?_
      refine wp_region_lit ?_
      refine pY ha (yMove (by rfl)) rfl fun a ha => ?_
      refine pY ha (yAssign (by rfl)) rfl fun a ha => ?_
      refine pZ ?_
      refine hK9 _ _ ?_
      refine wp_ret ?_
      show bodyPost Tryd.prog Tryd.f35 _ .ret _ _
      refine ret1 rfl ha (by rfl) ?_
      rw [List.take_of_length_le (by omega)] at hs ⊢; exact ⟨B, d, rfl, (hs.ol_rd .here).drop2⟩
theorem OwnAll_c {A : Option Addr} {n c : Nat} {xs : List Cmt} (hs : Sep W w cs) (hk : Pick cs (.rd kCmt (.slice A n c) xs) r) (hb : xs.length ≤ 1000000000) (hb1 : ∀ x ∈ xs, x.acts.length ≤ 1000000000) (hb2 : ∀ x ∈ xs, ∀ y ∈ x.acts, y.ops.length ≤ 1000000000) :
    Calls P 36 #[.slice A n c] w (Rt fun v w' => ∃ A' c', v = .slice A' xs.length c' ∧ Sep W w' (.rd kCmt (.slice A' xs.length c') xs :: cs)) := by
  obtain ⟨rfl, hl⟩ := hs.rd_shape hk
  have hs := hs.cpR hk
  refine enter Tryd.func36 Tryd.ntmps36 rfl rfl fun a (ha : Has a 21 [(0, _)]) => ?_
  refine wp_seq_k fun K1 hK1 => ?_
  refine wp_region_lit ?_
  refine pY ha (yAssign (by rfl)) rfl fun a ha => ?_
  refine pZ ?_
  refine hK1 _ _ ?_
  refine wp_seq_k fun K2 hK2 => ?_
  refine wp_seq_k fun K3 hK3 => ?_
  refine wp_region_lit ?_
  refine pY ha (yMove (by rfl)) rfl fun a ha => ?_
  refine pY ha (yLenS Tryd.runUnderlying23 (by rfl)) rfl fun a ha => ?_
  refine pY ha (yMove (by rfl)) rfl fun a ha => ?_
  refine pZ ?_
  refine hK3 _ _ ?_
  refine wp_block ?_
  refine loopI (ι := Nat × Option Addr × Nat) (fun i a w => i.1 ≤ xs.length ∧ Has a 21 [(2, .slice i.2.1 (xs.take i.1).length i.2.2), (5, .slice A xs.length c), (6, .int .i64 xs.length), (7, .int .i64 i.1)] ∧ Sep W w (.ol kCmt 40 (.slice i.2.1 (xs.take i.1).length i.2.2) (xs.take i.1) :: .rd kCmt (.slice A xs.length c) xs :: cs)) (fun i => xs.length - i.1) ((0, none, 0)) ?_ ?_
  · exact ⟨Nat.zero_le _, has4 ha (by rfl) (by rfl) (by rfl) (by rfl), hs.ol_nil kCmt _ none⟩
  · rintro i a w ⟨h1, ha, hs⟩
    obtain ⟨i, B, d⟩ := i; simp only at h1 ha hs
    refine wp_seq_k fun K4 hK4 => ?_
    refine wp_region_lit ?_
    refine pY ha (yLss (by rfl) (by rfl)) rfl fun a ha => ?_
    refine pZ ?_
    refine hK4 _ _ ?_
    refine wp_seq_k fun K5 hK5 => ?_
    first | refine cDec ha (by rfl) (fun hc8 => ?_) (fun hc8 => ?_) | refine cSplit ha (by rfl) (fun hc8 => ?_) (fun hc8 => ?_)
    · obtain ⟨x, hx⟩ : ∃ x, xs[i]? = some x := ⟨_, List.getElem?_eq_getElem (by omega)⟩
      have hxo := hb1 x (List.mem_of_getElem? hx)
      have hxo2 := hb2 x (List.mem_of_getElem? hx)
      have hlt : (xs.take i).length = i := by rw [List.length_take]; omega
      obtain ⟨b0, off, A', n', c', rfl, hs⟩ := hs.rd_cmt (.there .here) hx
      refine wp_skip ?_
      refine hK5 _ _ ?_
      refine wp_seq_k fun K6 hK6 => ?_
      refine wp_block ?_
      refine wp_seq_k fun K7 hK7 => ?_
      refine wp_region_lit ?_
      refine pY ha (yIndexA Tryd.runUnderlying23 Tryd.sizeOf40 (by rfl) (by rfl) (by omega) (by omega)) rfl fun a ha => ?_
      first | refine pY ha (yLoadRA Tryd.isAgg40 Tryd.sizeOf40 hs (by rfl) (by repeat first | exact .here | apply Pick.there) (by rfl)) rfl fun a ha => ?_ | refine pY ha (yLoadBA Tryd.isAgg40 Tryd.sizeOf40 hs (by rfl) (by repeat first | exact .here | apply Pick.there) (by rfl)) rfl fun a ha => ?_
      refine pAlloc (zs := [.int .i64 0, .int .i64 0, .int .i64 0, .slice none 0 0]) ha Tryd.zeroValue40 (by rfl) hs rfl fun b w hs a ha => ?_
      refine pStoreA ha Tryd.sizeOf40 hs (by rfl) (by rfl) (by repeat first | exact .here | apply Pick.there) (by rfl) (by rfl) (by rfl) fun w hs => ?_
      refine pZ ?_
      refine hK7 _ _ ?_
      refine wp_seq_k fun K8 hK8 => ?_
      refine wp_region_lit ?_
      refine pY ha (yFieldA Tryd.runUnderlying40 rfl Tryd.sizeOf22 rfl (by rfl)) rfl fun a ha => ?_
      first | refine pY ha (yLoadB Tryd.isAgg22 hs (by rfl) (by repeat first | exact .here | apply Pick.there) (by rfl)) rfl fun a ha => ?_ | refine pY ha (yLoadR Tryd.isAgg22 hs (by rfl) (by repeat first | exact .here | apply Pick.there) (by rfl)) rfl fun a ha => ?_ | refine pY ha (yLoadR0 Tryd.isAgg22 hs (by rfl) (by repeat first | exact .here | apply Pick.there) (by rfl)) rfl fun a ha => ?_
      refine pC ha (nCall Tryd.call35 (by rfl)) rfl (Own_c (xs := x.acts) hs (by repeat first | exact .here | apply Pick.there) hxo hxo2) ?_
      rintro v w ⟨A2, c2, rfl, hs⟩ a ha
      refine pY ha (yFieldA Tryd.runUnderlying40 rfl Tryd.sizeOf22 rfl (by rfl)) rfl fun a ha => ?_
      refine pStore ha Tryd.sizeOf22 hs (by rfl) (by rfl) rfl rfl (by repeat first | exact .here | apply Pick.there) (by rfl) fun w hs => ?_
      refine pZ ?_
      refine hK8 _ _ ?_
      refine wp_region_lit ?_
      refine pY ha (yMove (by rfl)) rfl fun a ha => ?_
      first | refine pY ha (yLoadRA Tryd.isAgg40 Tryd.sizeOf40 hs (by rfl) (by repeat first | exact .here | apply Pick.there) (by rfl)) rfl fun a ha => ?_ | refine pY ha (yLoadBA Tryd.isAgg40 Tryd.sizeOf40 hs (by rfl) (by repeat first | exact .here | apply Pick.there) (by rfl)) rfl fun a ha => ?_
      have hs := hs.with_ro (p := fun Z => kActn.sl Z (.slice A2 x.acts.length c2) x.acts) (by repeat first | exact .here | apply Pick.there) (q := fun Z => kCmt.R Z x [.int .i64 x.rev, .int .i64 x.client, .int .i64 x.seq, .slice A2 x.acts.length c2]) (m' := fun _ _ h => kCmt.mono h) (fun Z hp => ⟨A2, _, c2, rfl, hp⟩)
      refine pMake ha (bslOwn23_1_0 (by rfl)) hs rfl fun b w hs a ha => ?_
      first | refine pApp1 ha elOwn23 (by rfl) (by rfl) hs (by repeat first | exact .here | apply Pick.there) (by repeat first | exact .here | apply Pick.there) (by repeat first | exact .here | apply Pick.there) (by rfl) (by first | omega | (unfold maxLen; omega) | (simp [maxLen]; done) | (simp [maxLen]; omega)) (by first | omega | (unfold maxLen; omega) | (simp [maxLen]; done) | (simp [maxLen]; omega)) rfl fun A c w hs a ha => ?_ | refine pAppRd ha elOwn23 (by rfl) (by rfl) hs (by repeat first | exact .here | apply Pick.there) (by repeat first | exact .here | apply Pick.there) (by rfl) (by first | omega | (unfold maxLen; omega) | (simp [maxLen]; done) | (simp [maxLen]; omega)) (by first | omega | (unfold maxLen; omega) | (simp [maxLen]; done) | (simp [maxLen]; omega)) rfl fun A c w hs a ha => ?_ | refine pApp1F ha elOwn23 (by rfl) (by rfl) hs (by repeat first | exact .here | apply Pick.there) (by repeat first | exact .here | apply Pick.there) (by intro Z; first | rfl | exact ⟨rfl, by omega, by omega⟩) (by rfl) (by first | omega | (unfold maxLen; omega) | (simp [maxLen]; done) | (simp [maxLen]; omega)) (by first | omega | (unfold maxLen; omega) | (simp [maxLen]; done) | (simp [maxLen]; omega)) rfl fun A c w hs a ha => ?_
      refine pY ha (yAssign (by rfl)) rfl fun a ha => ?_
      refine pZ ?_
      refine hK6 _ _ ?_
      refine wp_region_lit ?_
      first | refine pY ha (yAddN (by rfl) (by rfl) ⟨by omega, by omega⟩) rfl fun a ha => ?_ | refine pY ha (yAdd (by rfl) (by rfl)) rfl fun a ha => ?_
      refine pY ha (yMove (by rfl)) rfl fun a ha => ?_
      refine pZ ?_
      have e1 : xs.take (i + 1) = xs.take i ++ [x] := by rw [List.take_add_one, hx]; rfl
      have e2 : (xs.take (i + 1)).length = (xs.take i).length + 1 := by rw [e1]; simp
      refine ⟨(i + 1, A, c), ⟨by simp only; omega, ?_, ?_⟩, by simp only; omega⟩
      · rw [e2]; exact has4 ha (by rfl) (by rfl) (by rfl) (by rfl)
      · rw [e2, e1]; exact hs.drop2.drop2.drop2.drop2
    · refine wp_exit ?_
      refine hK2 _ _ ?_
      refine wp_seq_k fun K9 hK9 => ?_
      refine wp_region_lit ?_
      refine pY ha (yMove (by rfl)) rfl fun a ha => ?_
      refine pY ha (yAssign (by rfl)) rfl fun a ha => ?_
      refine pZ ?_
      refine hK9 _ _ ?_
      refine wp_ret ?_
      show bodyPost Tryd.prog Tryd.f36 _ .ret _ _
      refine ret1 rfl ha (by rfl) ?_
      rw [List.take_of_length_le (by omega)] at hs ⊢; exact ⟨B, d, rfl, (hs.ol_rd .here).drop2⟩
/-- An act as it is handed over: its cells, its parts. -/
theorem PlainA_c {A : Option Addr} {n c : Nat} {x : Actn} (hs : Sep W w cs) (hk : Pick cs (.rd kComp (.slice A n c) x.ops) r) (hb : x.ops.length ≤ 1000000000) :
    Calls P 65 #[.agg [.int .i64 x.kind, .int .i64 x.id, .int .i64 x.parent, .string x.name, .bool x.dir, .slice A n c].toArray] w (Rt fun v w' => ∃ A' c', v = .agg [.int .i64 (plainA x).kind, .int .i64 (plainA x).id, .int .i64 (plainA x).parent, .string (plainA x).name, .bool (plainA x).dir, .slice A' (plainA x).ops.length c'].toArray ∧ Sep W w' (.rd kComp (.slice A' (plainA x).ops.length c') (plainA x).ops :: cs)) := by
  refine enter Tryd.func65 Tryd.ntmps65 rfl rfl fun a (ha : Has a 49 [(0, _)]) => ?_
  refine wp_seq_k fun K1 hK1 => ?_
  refine wp_region_lit ?_
  refine pBox (es := _) ha (by rfl) (by rfl) hs rfl fun b1 w hs a ha => ?_
  refine pAlloc (zs := [.int .i64 0, .int .i64 0, .int .i64 0, .string ⟨#[]⟩, .bool false, .slice none 0 0]) ha Tryd.zeroValue43 (by rfl) hs rfl fun b2 w hs a ha => ?_
  refine pZ ?_
  refine hK1 _ _ ?_
  refine wp_seq_k fun K2 hK2 => ?_
  refine wp_region_lit ?_
  refine pY ha (yFieldA Tryd.runUnderlying43 rfl Tryd.sizeOf3 rfl (by rfl)) rfl fun a ha => ?_
  first | refine pY ha (yLoadB Tryd.isAgg3 hs (by rfl) (by repeat first | exact .here | apply Pick.there) (by rfl)) rfl fun a ha => ?_ | refine pY ha (yLoadR Tryd.isAgg3 hs (by rfl) (by repeat first | exact .here | apply Pick.there) (by rfl)) rfl fun a ha => ?_ | refine pY ha (yLoadR0 Tryd.isAgg3 hs (by rfl) (by repeat first | exact .here | apply Pick.there) (by rfl)) rfl fun a ha => ?_
  refine pY ha (bldOwn43_0 (by rfl)) rfl fun a ha => ?_
  refine pAlloc (zs := [.int .i64 0, .int .i64 0, .int .i64 0, .string ⟨#[]⟩, .bool false, .slice none 0 0]) ha Tryd.zeroValue43 (by rfl) hs rfl fun b3 w hs a ha => ?_
  refine pStoreA ha Tryd.sizeOf43 hs (by rfl) (by rfl) (by repeat first | exact .here | apply Pick.there) (by rfl) (by rfl) (by rfl) fun w hs => ?_
  refine pZ ?_
  refine hK2 _ _ ?_
  refine wp_seq_k fun K3 hK3 => ?_
  have hJ3 : ∀ a w, (∃ A' c', Has a 49 [(1, .pointer (some ⟨b1, 0, none⟩)), (2, .pointer (some ⟨b2, 0, none⟩)), (3, .pointer (some ⟨b3, 0, none⟩))] ∧ Sep W w (.rd kComp (.slice A' (plainA x).ops.length c') (plainA x).ops :: .blk b3 43 [.int .i64 (plainA x).kind, .int .i64 (plainA x).id, .int .i64 (plainA x).parent, .string (plainA x).name, .bool (plainA x).dir, .slice A' (plainA x).ops.length c'] :: .blk b2 43 [.int .i64 0, .int .i64 0, .int .i64 0, .string ⟨#[]⟩, .bool false, .slice none 0 0] :: .blk b1 43 [.int .i64 x.kind, .int .i64 x.id, .int .i64 x.parent, .string x.name, .bool x.dir, .slice A n c] :: cs)) → K3 a w := by
    rintro a w ⟨A', c', ha, hs⟩
    refine hK3 _ _ ?_
    refine wp_seq_k fun K4 hK4 => ?_
    refine wp_region_lit ?_
    first | refine pY ha (yLoadRA Tryd.isAgg43 Tryd.sizeOf43 hs (by rfl) (by repeat first | exact .here | apply Pick.there) (by rfl)) rfl fun a ha => ?_ | refine pY ha (yLoadBA Tryd.isAgg43 Tryd.sizeOf43 hs (by rfl) (by repeat first | exact .here | apply Pick.there) (by rfl)) rfl fun a ha => ?_
    refine pStoreA ha Tryd.sizeOf43 hs (by rfl) (by rfl) (by repeat first | exact .here | apply Pick.there) (by rfl) (by rfl) (by rfl) fun w hs => ?_
    refine pZ ?_
    refine hK4 _ _ ?_
    refine wp_ret ?_
    show bodyPost Tryd.prog Tryd.f65 _ .ret _ _
    refine retC rfl ha (by rfl) Tryd.isAgg43 Tryd.sizeOf43 hs (by repeat first | exact .here | apply Pick.there) (by rfl) ?_
    exact ⟨A', c', rfl, hs.drop.drop2.drop2⟩
  refine wp_seq_k fun K5 hK5 => ?_
  refine wp_region_lit ?_
  refine pY ha (yFieldA Tryd.runUnderlying43 rfl Tryd.sizeOf3 rfl (by rfl)) rfl fun a ha => ?_
  first | refine pY ha (yLoadB Tryd.isAgg3 hs (by rfl) (by repeat first | exact .here | apply Pick.there) (by rfl)) rfl fun a ha => ?_ | refine pY ha (yLoadR Tryd.isAgg3 hs (by rfl) (by repeat first | exact .here | apply Pick.there) (by rfl)) rfl fun a ha => ?_ | refine pY ha (yLoadR0 Tryd.isAgg3 hs (by rfl) (by repeat first | exact .here | apply Pick.there) (by rfl)) rfl fun a ha => ?_
  refine pZ ?_
  refine hK5 _ _ ?_
  refine wp_block ?_
  refine wp_seq_k fun K6 hK6 => ?_
  refine wp_region_lit ?_
  refine pY ha (yEql (by rfl) (by rfl)) rfl fun a ha => ?_
  refine pY ha (yAssign (by rfl)) rfl fun a ha => ?_
  refine pZ ?_
  refine hK6 _ _ ?_
  first | refine cDec ha (by rfl) (fun hc9 => ?_) (fun hc9 => ?_) | refine cSplit ha (by rfl) (fun hc9 => ?_) (fun hc9 => ?_)
  · refine dStart (fun w => ∃ rs, Sep W w (.blk b1 43 [.int .i64 x.kind, .int .i64 x.id, .int .i64 x.parent, .string x.name, .bool x.dir, .slice A n c] :: rs)) [15] (by kernel_rfl) rfl (⟨_, hs.drew.pick (by repeat first | exact .here | apply Pick.there)⟩) ?_
    have hs := Sep.drew hs
    generalize World.drew _ = w at hs ⊢
    refine dP 0 rfl (by kernel_rfl) ha won0 (fun _ => yFieldA Tryd.runUnderlying43 rfl Tryd.sizeOf3 rfl (by rfl)) rfl (fun _ _ _ h => h) fun a ha => ?_
    first | refine dT 1 rfl (by kernel_rfl) ha won0 (fun _ ⟨rs, hs⟩ => yLoadB Tryd.isAgg3 hs (by rfl) (by repeat first | exact .here | apply Pick.there) (by rfl)) (⟨_, hs.pick (by repeat first | exact .here | apply Pick.there)⟩) rfl (fun _ _ _ h => h) fun a ha => ?_ | refine dT 1 rfl (by kernel_rfl) ha won0 (fun _ ⟨rs, hs⟩ => yLoadR Tryd.isAgg3 hs (by rfl) (by repeat first | exact .here | apply Pick.there) (by rfl)) (⟨_, hs.pick (by repeat first | exact .here | apply Pick.there)⟩) rfl (fun _ _ _ h => h) fun a ha => ?_ | refine dT 1 rfl (by kernel_rfl) ha won0 (fun _ ⟨rs, hs⟩ => yLoadR0 Tryd.isAgg3 hs (by rfl) (by repeat first | exact .here | apply Pick.there) (by rfl)) (⟨_, hs.pick (by repeat first | exact .here | apply Pick.there)⟩) rfl (fun _ _ _ h => h) fun a ha => ?_
    refine dP 2 rfl (by kernel_rfl) ha won0 (fun _ => yFieldA Tryd.runUnderlying43 rfl Tryd.sizeOf3 rfl (by rfl)) rfl (fun _ _ _ h => h) fun a ha => ?_
    first | refine dT 3 rfl (by kernel_rfl) ha won0 (fun _ ⟨rs, hs⟩ => yLoadB Tryd.isAgg3 hs (by rfl) (by repeat first | exact .here | apply Pick.there) (by rfl)) (⟨_, hs.pick (by repeat first | exact .here | apply Pick.there)⟩) rfl (fun _ _ _ h => h) fun a ha => ?_ | refine dT 3 rfl (by kernel_rfl) ha won0 (fun _ ⟨rs, hs⟩ => yLoadR Tryd.isAgg3 hs (by rfl) (by repeat first | exact .here | apply Pick.there) (by rfl)) (⟨_, hs.pick (by repeat first | exact .here | apply Pick.there)⟩) rfl (fun _ _ _ h => h) fun a ha => ?_ | refine dT 3 rfl (by kernel_rfl) ha won0 (fun _ ⟨rs, hs⟩ => yLoadR0 Tryd.isAgg3 hs (by rfl) (by repeat first | exact .here | apply Pick.there) (by rfl)) (⟨_, hs.pick (by repeat first | exact .here | apply Pick.there)⟩) rfl (fun _ _ _ h => h) fun a ha => ?_
    refine dP 4 rfl (by kernel_rfl) ha won0 (fun _ => yFieldA Tryd.runUnderlying43 rfl Tryd.sizeOf9 rfl (by rfl)) rfl (fun _ _ _ h => h) fun a ha => ?_
    first | refine dT 5 rfl (by kernel_rfl) ha won0 (fun _ ⟨rs, hs⟩ => yLoadB Tryd.isAgg9 hs (by rfl) (by repeat first | exact .here | apply Pick.there) (by rfl)) (⟨_, hs.pick (by repeat first | exact .here | apply Pick.there)⟩) rfl (fun _ _ _ h => h) fun a ha => ?_ | refine dT 5 rfl (by kernel_rfl) ha won0 (fun _ ⟨rs, hs⟩ => yLoadR Tryd.isAgg9 hs (by rfl) (by repeat first | exact .here | apply Pick.there) (by rfl)) (⟨_, hs.pick (by repeat first | exact .here | apply Pick.there)⟩) rfl (fun _ _ _ h => h) fun a ha => ?_ | refine dT 5 rfl (by kernel_rfl) ha won0 (fun _ ⟨rs, hs⟩ => yLoadR0 Tryd.isAgg9 hs (by rfl) (by repeat first | exact .here | apply Pick.there) (by rfl)) (⟨_, hs.pick (by repeat first | exact .here | apply Pick.there)⟩) rfl (fun _ _ _ h => h) fun a ha => ?_
    refine dP 6 rfl (by kernel_rfl) ha won0 (fun _ => yFieldA Tryd.runUnderlying43 rfl Tryd.sizeOf4 rfl (by rfl)) rfl (fun _ _ _ h => h) fun a ha => ?_
    first | refine dT 7 rfl (by kernel_rfl) ha won0 (fun _ ⟨rs, hs⟩ => yLoadB Tryd.isAgg4 hs (by rfl) (by repeat first | exact .here | apply Pick.there) (by rfl)) (⟨_, hs.pick (by repeat first | exact .here | apply Pick.there)⟩) rfl (fun _ _ _ h => h) fun a ha => ?_ | refine dT 7 rfl (by kernel_rfl) ha won0 (fun _ ⟨rs, hs⟩ => yLoadR Tryd.isAgg4 hs (by rfl) (by repeat first | exact .here | apply Pick.there) (by rfl)) (⟨_, hs.pick (by repeat first | exact .here | apply Pick.there)⟩) rfl (fun _ _ _ h => h) fun a ha => ?_ | refine dT 7 rfl (by kernel_rfl) ha won0 (fun _ ⟨rs, hs⟩ => yLoadR0 Tryd.isAgg4 hs (by rfl) (by repeat first | exact .here | apply Pick.there) (by rfl)) (⟨_, hs.pick (by repeat first | exact .here | apply Pick.there)⟩) rfl (fun _ _ _ h => h) fun a ha => ?_
    refine dP 8 rfl (by kernel_rfl) ha won0 (fun _ => yFieldA Tryd.runUnderlying43 rfl Tryd.sizeOf3 rfl (by rfl)) rfl (fun _ _ _ h => h) fun a ha => ?_
    refine dStore 9 rfl (by kernel_rfl) rfl ha won0 Tryd.sizeOf3 hs (by rfl) (by rfl) rfl rfl (by repeat first | exact .here | apply Pick.there) (by rfl) (fun _ hs => ⟨_, hs.pick (by repeat first | exact .here | apply Pick.there)⟩) fun w hs => ?_
    refine dP 10 rfl (by kernel_rfl) ha won0 (fun _ => yFieldA Tryd.runUnderlying43 rfl Tryd.sizeOf3 rfl (by rfl)) rfl (fun _ _ _ h => h) fun a ha => ?_
    refine dStore 11 rfl (by kernel_rfl) rfl ha won0 Tryd.sizeOf3 hs (by rfl) (by rfl) rfl rfl (by repeat first | exact .here | apply Pick.there) (by rfl) (fun _ hs => ⟨_, hs.pick (by repeat first | exact .here | apply Pick.there)⟩) fun w hs => ?_
    refine dP 12 rfl (by kernel_rfl) ha won0 (fun _ => yFieldA Tryd.runUnderlying43 rfl Tryd.sizeOf9 rfl (by rfl)) rfl (fun _ _ _ h => h) fun a ha => ?_
    refine dStore 13 rfl (by kernel_rfl) rfl ha won0 Tryd.sizeOf9 hs (by rfl) (by rfl) rfl rfl (by repeat first | exact .here | apply Pick.there) (by rfl) (fun _ hs => ⟨_, hs.pick (by repeat first | exact .here | apply Pick.there)⟩) fun w hs => ?_
    refine dP 14 rfl (by kernel_rfl) ha won0 (fun _ => yFieldA Tryd.runUnderlying43 rfl Tryd.sizeOf4 rfl (by rfl)) rfl (fun _ _ _ h => h) fun a ha => ?_
    refine dStorel 15 rfl (by kernel_rfl) rfl ha won0 Tryd.sizeOf4 hs (by rfl) (by rfl) rfl rfl (by repeat first | exact .here | apply Pick.there) (by rfl) fun w hs => ?_
    refine dZ (by kernel_rfl) ?_
    refine hJ3 _ _ ?_
    first
      | (refine ⟨none, 0, has3 ha (by rfl) (by rfl) (by rfl), ?_⟩; rw [show plainA x = ⟨x.kind, x.id, x.parent, x.name, x.dir, []⟩ by unfold plainA; simp [hc9]]; exact (hs.ol_nil kComp 0 none).ol_rd .here)
      | (refine ⟨none, 0, has3 ha (by rfl) (by rfl) (by rfl), ?_⟩; rw [show plainA x = ⟨x.kind, x.id, 0, emp, false, []⟩ by unfold plainA; simp [hc9, hc23]]; exact (hs.ol_nil kComp 0 none).ol_rd .here)
      | (refine ⟨none, 0, has3 ha (by rfl) (by rfl) (by rfl), ?_⟩; rw [show plainA x = ⟨x.kind, x.id, x.parent, x.name, false, []⟩ by unfold plainA; simp [hc9, hc23, hc28]]; exact (hs.ol_nil kComp 0 none).ol_rd .here)
      | (refine ⟨A2, c2, has3 ha (by rfl) (by rfl) (by rfl), ?_⟩; rw [show plainA x = ⟨x.kind, x.id, 0, emp, false, x.ops⟩ by unfold plainA; simp [hc9, hc23, hc28, hc39]]; exact hs.perm (List.Perm.swap _ _ _))
      | (refine ⟨none, 0, has3 ha (by rfl) (by rfl) (by rfl), ?_⟩; rw [show plainA x = ⟨x.kind, 0, 0, emp, false, []⟩ by unfold plainA; simp [hc9, hc23, hc28, hc39]]; exact (hs.ol_nil kComp 0 none).ol_rd .here)
  · refine wp_seq_k fun K7 hK7 => ?_
    refine wp_region_lit ?_
    refine pY ha (yEql (by rfl) (by rfl)) rfl fun a ha => ?_
    refine pY ha (yAssign (by rfl)) rfl fun a ha => ?_
    refine pZ ?_
    refine hK7 _ _ ?_
    first | refine cDec ha (by rfl) (fun hc23 => ?_) (fun hc23 => ?_) | refine cSplit ha (by rfl) (fun hc23 => ?_) (fun hc23 => ?_)
    · refine wp_region_lit ?_
      refine pY ha (yFieldA Tryd.runUnderlying43 rfl Tryd.sizeOf3 rfl (by rfl)) rfl fun a ha => ?_
      first | refine pY ha (yLoadB Tryd.isAgg3 hs (by rfl) (by repeat first | exact .here | apply Pick.there) (by rfl)) rfl fun a ha => ?_ | refine pY ha (yLoadR Tryd.isAgg3 hs (by rfl) (by repeat first | exact .here | apply Pick.there) (by rfl)) rfl fun a ha => ?_ | refine pY ha (yLoadR0 Tryd.isAgg3 hs (by rfl) (by repeat first | exact .here | apply Pick.there) (by rfl)) rfl fun a ha => ?_
      refine pY ha (yFieldA Tryd.runUnderlying43 rfl Tryd.sizeOf3 rfl (by rfl)) rfl fun a ha => ?_
      refine pStore ha Tryd.sizeOf3 hs (by rfl) (by rfl) rfl rfl (by repeat first | exact .here | apply Pick.there) (by rfl) fun w hs => ?_
      refine pZ ?_
      refine hJ3 _ _ ?_
      first
        | (refine ⟨none, 0, has3 ha (by rfl) (by rfl) (by rfl), ?_⟩; rw [show plainA x = ⟨x.kind, x.id, x.parent, x.name, x.dir, []⟩ by unfold plainA; simp [hc9]]; exact (hs.ol_nil kComp 0 none).ol_rd .here)
        | (refine ⟨none, 0, has3 ha (by rfl) (by rfl) (by rfl), ?_⟩; rw [show plainA x = ⟨x.kind, x.id, 0, emp, false, []⟩ by unfold plainA; simp [hc9, hc23]]; exact (hs.ol_nil kComp 0 none).ol_rd .here)
        | (refine ⟨none, 0, has3 ha (by rfl) (by rfl) (by rfl), ?_⟩; rw [show plainA x = ⟨x.kind, x.id, x.parent, x.name, false, []⟩ by unfold plainA; simp [hc9, hc23, hc28]]; exact (hs.ol_nil kComp 0 none).ol_rd .here)
        | (refine ⟨A2, c2, has3 ha (by rfl) (by rfl) (by rfl), ?_⟩; rw [show plainA x = ⟨x.kind, x.id, 0, emp, false, x.ops⟩ by unfold plainA; simp [hc9, hc23, hc28, hc39]]; exact hs.perm (List.Perm.swap _ _ _))
        | (refine ⟨none, 0, has3 ha (by rfl) (by rfl) (by rfl), ?_⟩; rw [show plainA x = ⟨x.kind, 0, 0, emp, false, []⟩ by unfold plainA; simp [hc9, hc23, hc28, hc39]]; exact (hs.ol_nil kComp 0 none).ol_rd .here)
    · refine wp_seq_k fun K8 hK8 => ?_
      refine wp_region_lit ?_
      refine pY ha (yEql (by rfl) (by rfl)) rfl fun a ha => ?_
      refine pY ha (yAssign (by rfl)) rfl fun a ha => ?_
      refine pZ ?_
      refine hK8 _ _ ?_
      first | refine cDec ha (by rfl) (fun hc28 => ?_) (fun hc28 => ?_) | refine cSplit ha (by rfl) (fun hc28 => ?_) (fun hc28 => ?_)
      · refine dStart (fun w => ∃ rs, Sep W w (.blk b1 43 [.int .i64 x.kind, .int .i64 x.id, .int .i64 x.parent, .string x.name, .bool x.dir, .slice A n c] :: rs)) [11] (by kernel_rfl) rfl (⟨_, hs.drew.pick (by repeat first | exact .here | apply Pick.there)⟩) ?_
        have hs := Sep.drew hs
        generalize World.drew _ = w at hs ⊢
        refine dP 0 rfl (by kernel_rfl) ha won0 (fun _ => yFieldA Tryd.runUnderlying43 rfl Tryd.sizeOf3 rfl (by rfl)) rfl (fun _ _ _ h => h) fun a ha => ?_
        first | refine dT 1 rfl (by kernel_rfl) ha won0 (fun _ ⟨rs, hs⟩ => yLoadB Tryd.isAgg3 hs (by rfl) (by repeat first | exact .here | apply Pick.there) (by rfl)) (⟨_, hs.pick (by repeat first | exact .here | apply Pick.there)⟩) rfl (fun _ _ _ h => h) fun a ha => ?_ | refine dT 1 rfl (by kernel_rfl) ha won0 (fun _ ⟨rs, hs⟩ => yLoadR Tryd.isAgg3 hs (by rfl) (by repeat first | exact .here | apply Pick.there) (by rfl)) (⟨_, hs.pick (by repeat first | exact .here | apply Pick.there)⟩) rfl (fun _ _ _ h => h) fun a ha => ?_ | refine dT 1 rfl (by kernel_rfl) ha won0 (fun _ ⟨rs, hs⟩ => yLoadR0 Tryd.isAgg3 hs (by rfl) (by repeat first | exact .here | apply Pick.there) (by rfl)) (⟨_, hs.pick (by repeat first | exact .here | apply Pick.there)⟩) rfl (fun _ _ _ h => h) fun a ha => ?_
        refine dP 2 rfl (by kernel_rfl) ha won0 (fun _ => yFieldA Tryd.runUnderlying43 rfl Tryd.sizeOf3 rfl (by rfl)) rfl (fun _ _ _ h => h) fun a ha => ?_
        first | refine dT 3 rfl (by kernel_rfl) ha won0 (fun _ ⟨rs, hs⟩ => yLoadB Tryd.isAgg3 hs (by rfl) (by repeat first | exact .here | apply Pick.there) (by rfl)) (⟨_, hs.pick (by repeat first | exact .here | apply Pick.there)⟩) rfl (fun _ _ _ h => h) fun a ha => ?_ | refine dT 3 rfl (by kernel_rfl) ha won0 (fun _ ⟨rs, hs⟩ => yLoadR Tryd.isAgg3 hs (by rfl) (by repeat first | exact .here | apply Pick.there) (by rfl)) (⟨_, hs.pick (by repeat first | exact .here | apply Pick.there)⟩) rfl (fun _ _ _ h => h) fun a ha => ?_ | refine dT 3 rfl (by kernel_rfl) ha won0 (fun _ ⟨rs, hs⟩ => yLoadR0 Tryd.isAgg3 hs (by rfl) (by repeat first | exact .here | apply Pick.there) (by rfl)) (⟨_, hs.pick (by repeat first | exact .here | apply Pick.there)⟩) rfl (fun _ _ _ h => h) fun a ha => ?_
        refine dP 4 rfl (by kernel_rfl) ha won0 (fun _ => yFieldA Tryd.runUnderlying43 rfl Tryd.sizeOf9 rfl (by rfl)) rfl (fun _ _ _ h => h) fun a ha => ?_
        first | refine dT 5 rfl (by kernel_rfl) ha won0 (fun _ ⟨rs, hs⟩ => yLoadB Tryd.isAgg9 hs (by rfl) (by repeat first | exact .here | apply Pick.there) (by rfl)) (⟨_, hs.pick (by repeat first | exact .here | apply Pick.there)⟩) rfl (fun _ _ _ h => h) fun a ha => ?_ | refine dT 5 rfl (by kernel_rfl) ha won0 (fun _ ⟨rs, hs⟩ => yLoadR Tryd.isAgg9 hs (by rfl) (by repeat first | exact .here | apply Pick.there) (by rfl)) (⟨_, hs.pick (by repeat first | exact .here | apply Pick.there)⟩) rfl (fun _ _ _ h => h) fun a ha => ?_ | refine dT 5 rfl (by kernel_rfl) ha won0 (fun _ ⟨rs, hs⟩ => yLoadR0 Tryd.isAgg9 hs (by rfl) (by repeat first | exact .here | apply Pick.there) (by rfl)) (⟨_, hs.pick (by repeat first | exact .here | apply Pick.there)⟩) rfl (fun _ _ _ h => h) fun a ha => ?_
        refine dP 6 rfl (by kernel_rfl) ha won0 (fun _ => yFieldA Tryd.runUnderlying43 rfl Tryd.sizeOf3 rfl (by rfl)) rfl (fun _ _ _ h => h) fun a ha => ?_
        refine dStore 7 rfl (by kernel_rfl) rfl ha won0 Tryd.sizeOf3 hs (by rfl) (by rfl) rfl rfl (by repeat first | exact .here | apply Pick.there) (by rfl) (fun _ hs => ⟨_, hs.pick (by repeat first | exact .here | apply Pick.there)⟩) fun w hs => ?_
        refine dP 8 rfl (by kernel_rfl) ha won0 (fun _ => yFieldA Tryd.runUnderlying43 rfl Tryd.sizeOf3 rfl (by rfl)) rfl (fun _ _ _ h => h) fun a ha => ?_
        refine dStore 9 rfl (by kernel_rfl) rfl ha won0 Tryd.sizeOf3 hs (by rfl) (by rfl) rfl rfl (by repeat first | exact .here | apply Pick.there) (by rfl) (fun _ hs => ⟨_, hs.pick (by repeat first | exact .here | apply Pick.there)⟩) fun w hs => ?_
        refine dP 10 rfl (by kernel_rfl) ha won0 (fun _ => yFieldA Tryd.runUnderlying43 rfl Tryd.sizeOf9 rfl (by rfl)) rfl (fun _ _ _ h => h) fun a ha => ?_
        refine dStorel 11 rfl (by kernel_rfl) rfl ha won0 Tryd.sizeOf9 hs (by rfl) (by rfl) rfl rfl (by repeat first | exact .here | apply Pick.there) (by rfl) fun w hs => ?_
        refine dZ (by kernel_rfl) ?_
        refine hJ3 _ _ ?_
        first
          | (refine ⟨none, 0, has3 ha (by rfl) (by rfl) (by rfl), ?_⟩; rw [show plainA x = ⟨x.kind, x.id, x.parent, x.name, x.dir, []⟩ by unfold plainA; simp [hc9]]; exact (hs.ol_nil kComp 0 none).ol_rd .here)
          | (refine ⟨none, 0, has3 ha (by rfl) (by rfl) (by rfl), ?_⟩; rw [show plainA x = ⟨x.kind, x.id, 0, emp, false, []⟩ by unfold plainA; simp [hc9, hc23]]; exact (hs.ol_nil kComp 0 none).ol_rd .here)
          | (refine ⟨none, 0, has3 ha (by rfl) (by rfl) (by rfl), ?_⟩; rw [show plainA x = ⟨x.kind, x.id, x.parent, x.name, false, []⟩ by unfold plainA; simp [hc9, hc23, hc28]]; exact (hs.ol_nil kComp 0 none).ol_rd .here)
          | (refine ⟨A2, c2, has3 ha (by rfl) (by rfl) (by rfl), ?_⟩; rw [show plainA x = ⟨x.kind, x.id, 0, emp, false, x.ops⟩ by unfold plainA; simp [hc9, hc23, hc28, hc39]]; exact hs.perm (List.Perm.swap _ _ _))
          | (refine ⟨none, 0, has3 ha (by rfl) (by rfl) (by rfl), ?_⟩; rw [show plainA x = ⟨x.kind, 0, 0, emp, false, []⟩ by unfold plainA; simp [hc9, hc23, hc28, hc39]]; exact (hs.ol_nil kComp 0 none).ol_rd .here)
      · refine wp_seq_k fun K9 hK9 => ?_
        refine wp_region_lit ?_
        refine pY ha (yEql (by rfl) (by rfl)) rfl fun a ha => ?_
        refine pY ha (yAssign (by rfl)) rfl fun a ha => ?_
        refine pZ ?_
        refine hK9 _ _ ?_
        first | refine cDec ha (by rfl) (fun hc39 => ?_) (fun hc39 => ?_) | refine cSplit ha (by rfl) (fun hc39 => ?_) (fun hc39 => ?_)
        · refine dStart (fun w => ∃ rs, Sep W w (.blk b1 43 [.int .i64 x.kind, .int .i64 x.id, .int .i64 x.parent, .string x.name, .bool x.dir, .slice A n c] :: rs)) [6, 8] (by kernel_rfl) rfl (⟨_, hs.drew.pick (by repeat first | exact .here | apply Pick.there)⟩) ?_
          have hs := Sep.drew hs
          generalize World.drew _ = w at hs ⊢
          refine dP 0 rfl (by kernel_rfl) ha won0 (fun _ => yFieldA Tryd.runUnderlying43 rfl Tryd.sizeOf3 rfl (by rfl)) rfl (fun _ _ _ h => h) fun a ha => ?_
          first | refine dT 1 rfl (by kernel_rfl) ha won0 (fun _ ⟨rs, hs⟩ => yLoadB Tryd.isAgg3 hs (by rfl) (by repeat first | exact .here | apply Pick.there) (by rfl)) (⟨_, hs.pick (by repeat first | exact .here | apply Pick.there)⟩) rfl (fun _ _ _ h => h) fun a ha => ?_ | refine dT 1 rfl (by kernel_rfl) ha won0 (fun _ ⟨rs, hs⟩ => yLoadR Tryd.isAgg3 hs (by rfl) (by repeat first | exact .here | apply Pick.there) (by rfl)) (⟨_, hs.pick (by repeat first | exact .here | apply Pick.there)⟩) rfl (fun _ _ _ h => h) fun a ha => ?_ | refine dT 1 rfl (by kernel_rfl) ha won0 (fun _ ⟨rs, hs⟩ => yLoadR0 Tryd.isAgg3 hs (by rfl) (by repeat first | exact .here | apply Pick.there) (by rfl)) (⟨_, hs.pick (by repeat first | exact .here | apply Pick.there)⟩) rfl (fun _ _ _ h => h) fun a ha => ?_
          refine dP 2 rfl (by kernel_rfl) ha won0 (fun _ => yFieldA Tryd.runUnderlying43 rfl Tryd.sizeOf41 rfl (by rfl)) rfl (fun _ _ _ h => h) fun a ha => ?_
          first | refine dT 3 rfl (by kernel_rfl) ha won0 (fun _ ⟨rs, hs⟩ => yLoadB Tryd.isAgg41 hs (by rfl) (by repeat first | exact .here | apply Pick.there) (by rfl)) (⟨_, hs.pick (by repeat first | exact .here | apply Pick.there)⟩) rfl (fun _ _ _ h => h) fun a ha => ?_ | refine dT 3 rfl (by kernel_rfl) ha won0 (fun _ ⟨rs, hs⟩ => yLoadR Tryd.isAgg41 hs (by rfl) (by repeat first | exact .here | apply Pick.there) (by rfl)) (⟨_, hs.pick (by repeat first | exact .here | apply Pick.there)⟩) rfl (fun _ _ _ h => h) fun a ha => ?_ | refine dT 3 rfl (by kernel_rfl) ha won0 (fun _ ⟨rs, hs⟩ => yLoadR0 Tryd.isAgg41 hs (by rfl) (by repeat first | exact .here | apply Pick.there) (by rfl)) (⟨_, hs.pick (by repeat first | exact .here | apply Pick.there)⟩) rfl (fun _ _ _ h => h) fun a ha => ?_
          refine dP 5 rfl (by kernel_rfl) ha won0 (fun _ => yFieldA Tryd.runUnderlying43 rfl Tryd.sizeOf3 rfl (by rfl)) rfl (fun _ _ _ h => h) fun a ha => ?_
          refine dC 4 rfl (by kernel_rfl) rfl ha won0 (nCall Tryd.call59 (by rfl)) rfl (CloneC_c (xs := x.ops) hs (.there (.there (.there hk))) hb) ?_
          rintro v w ⟨A2, c2, rfl, hs⟩
          refine ⟨⟨_, hs.pick (by repeat first | exact .here | apply Pick.there)⟩, fun a ha => ?_⟩
          refine dStorel 6 rfl (by kernel_rfl) rfl ha won0 Tryd.sizeOf3 hs (by rfl) (by rfl) rfl rfl (by repeat first | exact .here | apply Pick.there) (by rfl) fun w hs => ?_
          refine dP 7 rfl (by kernel_rfl) ha won0 (fun _ => yFieldA Tryd.runUnderlying43 rfl Tryd.sizeOf41 rfl (by rfl)) rfl (fun _ _ _ h => h) fun a ha => ?_
          refine dStorel 8 rfl (by kernel_rfl) rfl ha won0 Tryd.sizeOf41 hs (by rfl) (by rfl) rfl rfl (by repeat first | exact .here | apply Pick.there) (by rfl) fun w hs => ?_
          refine dZ (by kernel_rfl) ?_
          refine hJ3 _ _ ?_
          first
            | (refine ⟨none, 0, has3 ha (by rfl) (by rfl) (by rfl), ?_⟩; rw [show plainA x = ⟨x.kind, x.id, x.parent, x.name, x.dir, []⟩ by unfold plainA; simp [hc9]]; exact (hs.ol_nil kComp 0 none).ol_rd .here)
            | (refine ⟨none, 0, has3 ha (by rfl) (by rfl) (by rfl), ?_⟩; rw [show plainA x = ⟨x.kind, x.id, 0, emp, false, []⟩ by unfold plainA; simp [hc9, hc23]]; exact (hs.ol_nil kComp 0 none).ol_rd .here)
            | (refine ⟨none, 0, has3 ha (by rfl) (by rfl) (by rfl), ?_⟩; rw [show plainA x = ⟨x.kind, x.id, x.parent, x.name, false, []⟩ by unfold plainA; simp [hc9, hc23, hc28]]; exact (hs.ol_nil kComp 0 none).ol_rd .here)
            | (refine ⟨A2, c2, has3 ha (by rfl) (by rfl) (by rfl), ?_⟩; rw [show plainA x = ⟨x.kind, x.id, 0, emp, false, x.ops⟩ by unfold plainA; simp [hc9, hc23, hc28, hc39]]; exact hs.perm (List.Perm.swap _ _ _))
            | (refine ⟨none, 0, has3 ha (by rfl) (by rfl) (by rfl), ?_⟩; rw [show plainA x = ⟨x.kind, 0, 0, emp, false, []⟩ by unfold plainA; simp [hc9, hc23, hc28, hc39]]; exact (hs.ol_nil kComp 0 none).ol_rd .here)
        · refine wp_skip ?_
          refine hJ3 _ _ ?_
          first
            | (refine ⟨none, 0, has3 ha (by rfl) (by rfl) (by rfl), ?_⟩; rw [show plainA x = ⟨x.kind, x.id, x.parent, x.name, x.dir, []⟩ by unfold plainA; simp [hc9]]; exact (hs.ol_nil kComp 0 none).ol_rd .here)
            | (refine ⟨none, 0, has3 ha (by rfl) (by rfl) (by rfl), ?_⟩; rw [show plainA x = ⟨x.kind, x.id, 0, emp, false, []⟩ by unfold plainA; simp [hc9, hc23]]; exact (hs.ol_nil kComp 0 none).ol_rd .here)
            | (refine ⟨none, 0, has3 ha (by rfl) (by rfl) (by rfl), ?_⟩; rw [show plainA x = ⟨x.kind, x.id, x.parent, x.name, false, []⟩ by unfold plainA; simp [hc9, hc23, hc28]]; exact (hs.ol_nil kComp 0 none).ol_rd .here)
            | (refine ⟨A2, c2, has3 ha (by rfl) (by rfl) (by rfl), ?_⟩; rw [show plainA x = ⟨x.kind, x.id, 0, emp, false, x.ops⟩ by unfold plainA; simp [hc9, hc23, hc28, hc39]]; exact hs.perm (List.Perm.swap _ _ _))
            | (refine ⟨none, 0, has3 ha (by rfl) (by rfl) (by rfl), ?_⟩; rw [show plainA x = ⟨x.kind, 0, 0, emp, false, []⟩ by unfold plainA; simp [hc9, hc23, hc28, hc39]]; exact (hs.ol_nil kComp 0 none).ol_rd .here)
/-- Lists that are short enough to be copied. -/
def shortM (m : Msg) : Prop := m.acts.length ≤ 1000000000 ∧ (∀ x ∈ m.acts, x.ops.length ≤ 1000000000) ∧ m.commits.length ≤ 1000000000 ∧ (∀ x ∈ m.commits, x.acts.length ≤ 1000000000) ∧ (∀ x ∈ m.commits, ∀ y ∈ x.acts, y.ops.length ≤ 1000000000) ∧ m.nodes.length ≤ 1000000000
theorem PlainM_c {es : List Value} {x : Msg} (hb : shortM x) (hs : Sep W w cs) (hk : Pick cs (.el kMsg x es) r) :
    Calls P 15 #[.agg es.toArray] w (Rt fun v w' => ∃ es', v = .agg es'.toArray ∧ Sep W w' (.el kMsg (plainM x) es' :: cs)) := by
  obtain ⟨q1, q2, q3, q4, q5, q6⟩ := hb
  obtain ⟨A, n, c, A', n', c', B, m, d, rfl, hs⟩ := hs.el_msg hk
  refine enter Tryd.func15 Tryd.ntmps15 rfl rfl fun a (ha : Has a 97 [(0, _)]) => ?_
  refine wp_seq_k fun K1 hK1 => ?_
  refine wp_region_lit ?_
  refine pBox (es := _) ha (by rfl) (by rfl) hs rfl fun b1 w hs a ha => ?_
  refine pAlloc (zs := [.int .i64 0, .int .i64 0, .int .i64 0, .int .i64 0, .int .i64 0, .slice none 0 0, .slice none 0 0, .slice none 0 0, .int .i64 0]) ha Tryd.zeroValue26 (by rfl) hs rfl fun b2 w hs a ha => ?_
  refine pZ ?_
  refine hK1 _ _ ?_
  refine wp_seq_k fun K2 hK2 => ?_
  refine wp_region_lit ?_
  refine pY ha (yFieldA Tryd.runUnderlying26 rfl Tryd.sizeOf3 rfl (by rfl)) rfl fun a ha => ?_
  first | refine pY ha (yLoadB Tryd.isAgg3 hs (by rfl) (by repeat first | exact .here | apply Pick.there) (by rfl)) rfl fun a ha => ?_ | refine pY ha (yLoadR Tryd.isAgg3 hs (by rfl) (by repeat first | exact .here | apply Pick.there) (by rfl)) rfl fun a ha => ?_ | refine pY ha (yLoadR0 Tryd.isAgg3 hs (by rfl) (by repeat first | exact .here | apply Pick.there) (by rfl)) rfl fun a ha => ?_
  refine pY ha (bldOwn26_0 (by rfl)) rfl fun a ha => ?_
  refine pAlloc (zs := [.int .i64 0, .int .i64 0, .int .i64 0, .int .i64 0, .int .i64 0, .slice none 0 0, .slice none 0 0, .slice none 0 0, .int .i64 0]) ha Tryd.zeroValue26 (by rfl) hs rfl fun b3 w hs a ha => ?_
  refine pStoreA ha Tryd.sizeOf26 hs (by rfl) (by rfl) (by repeat first | exact .here | apply Pick.there) (by rfl) (by rfl) (by rfl) fun w hs => ?_
  refine pZ ?_
  refine hK2 _ _ ?_
  refine wp_seq_k fun K3 hK3 => ?_
  have hJ3 : ∀ a w, (∃ A1 n1 c1 A2 n2 c2 A3 n3 c3, Has a 97 [(1, .pointer (some ⟨b1, 0, none⟩)), (2, .pointer (some ⟨b2, 0, none⟩)), (3, .pointer (some ⟨b3, 0, none⟩))] ∧ Sep W w (.rd kActn (.slice A1 n1 c1) (plainM x).acts :: .rd kCmt (.slice A2 n2 c2) (plainM x).commits :: .rd kNod (.slice A3 n3 c3) (plainM x).nodes :: .blk b3 26 [.int .i64 (plainM x).kind, .int .i64 (plainM x).client, .int .i64 (plainM x).seq, .int .i64 (plainM x).rev, .int .i64 (plainM x).code, .slice A1 n1 c1, .slice A2 n2 c2, .slice A3 n3 c3, .int .i64 (plainM x).last] :: .blk b2 26 [.int .i64 0, .int .i64 0, .int .i64 0, .int .i64 0, .int .i64 0, .slice none 0 0, .slice none 0 0, .slice none 0 0, .int .i64 0] :: .blk b1 26 [.int .i64 x.kind, .int .i64 x.client, .int .i64 x.seq, .int .i64 x.rev, .int .i64 x.code, .slice A n c, .slice A' n' c', .slice B m d, .int .i64 x.last] :: .rd kActn (.slice A n c) x.acts :: .rd kCmt (.slice A' n' c') x.commits :: .rd kNod (.slice B m d) x.nodes :: cs)) → K3 a w := by
    rintro a w ⟨A1, n1, c1, A2, n2, c2, A3, n3, c3, ha, hs⟩
    refine hK3 _ _ ?_
    refine wp_seq_k fun K4 hK4 => ?_
    refine wp_region_lit ?_
    first | refine pY ha (yLoadRA Tryd.isAgg26 Tryd.sizeOf26 hs (by rfl) (by repeat first | exact .here | apply Pick.there) (by rfl)) rfl fun a ha => ?_ | refine pY ha (yLoadBA Tryd.isAgg26 Tryd.sizeOf26 hs (by rfl) (by repeat first | exact .here | apply Pick.there) (by rfl)) rfl fun a ha => ?_
    refine pStoreA ha Tryd.sizeOf26 hs (by rfl) (by rfl) (by repeat first | exact .here | apply Pick.there) (by rfl) (by rfl) (by rfl) fun w hs => ?_
    refine pZ ?_
    refine hK4 _ _ ?_
    refine wp_ret ?_
    show bodyPost Tryd.prog Tryd.f15 _ .ret _ _
    refine retC rfl ha (by rfl) Tryd.isAgg26 Tryd.sizeOf26 hs (by repeat first | exact .here | apply Pick.there) (by rfl) ?_
    exact ⟨_, rfl, (hs.drop.mk_msg (x := plainM x) .here .here .here).drop2.drop2.drop2.drop2.drop2⟩
  refine wp_seq_k fun K5 hK5 => ?_
  refine wp_region_lit ?_
  refine pY ha (yFieldA Tryd.runUnderlying26 rfl Tryd.sizeOf3 rfl (by rfl)) rfl fun a ha => ?_
  first | refine pY ha (yLoadB Tryd.isAgg3 hs (by rfl) (by repeat first | exact .here | apply Pick.there) (by rfl)) rfl fun a ha => ?_ | refine pY ha (yLoadR Tryd.isAgg3 hs (by rfl) (by repeat first | exact .here | apply Pick.there) (by rfl)) rfl fun a ha => ?_ | refine pY ha (yLoadR0 Tryd.isAgg3 hs (by rfl) (by repeat first | exact .here | apply Pick.there) (by rfl)) rfl fun a ha => ?_
  refine pZ ?_
  refine hK5 _ _ ?_
  refine wp_block ?_
  refine wp_seq_k fun K6 hK6 => ?_
  refine wp_region_lit ?_
  refine pY ha (yEql (by rfl) (by rfl)) rfl fun a ha => ?_
  refine pY ha (yAssign (by rfl)) rfl fun a ha => ?_
  refine pZ ?_
  refine hK6 _ _ ?_
  first | refine cDec ha (by rfl) (fun hc9 => ?_) (fun hc9 => ?_) | refine cSplit ha (by rfl) (fun hc9 => ?_) (fun hc9 => ?_)
  · refine wp_region_lit ?_
    refine pY ha (yFieldA Tryd.runUnderlying26 rfl Tryd.sizeOf3 rfl (by rfl)) rfl fun a ha => ?_
    first | refine pY ha (yLoadB Tryd.isAgg3 hs (by rfl) (by repeat first | exact .here | apply Pick.there) (by rfl)) rfl fun a ha => ?_ | refine pY ha (yLoadR Tryd.isAgg3 hs (by rfl) (by repeat first | exact .here | apply Pick.there) (by rfl)) rfl fun a ha => ?_ | refine pY ha (yLoadR0 Tryd.isAgg3 hs (by rfl) (by repeat first | exact .here | apply Pick.there) (by rfl)) rfl fun a ha => ?_
    refine pY ha (yFieldA Tryd.runUnderlying26 rfl Tryd.sizeOf3 rfl (by rfl)) rfl fun a ha => ?_
    refine pStore ha Tryd.sizeOf3 hs (by rfl) (by rfl) rfl rfl (by repeat first | exact .here | apply Pick.there) (by rfl) fun w hs => ?_
    refine pZ ?_
    refine hJ3 _ _ ?_
    first
      | (refine ⟨none, 0, 0, none, 0, 0, none, 0, 0, has3 ha (by rfl) (by rfl) (by rfl), ?_⟩; rw [show plainM x = ⟨x.kind, x.client, 0, 0, 0, [], [], [], 0⟩ by unfold plainM; simp [hc9]]; exact ((hs.rd_nil (d := kNod)).rd_nil (d := kCmt)).rd_nil (d := kActn))
      | (refine ⟨D, x.acts.length, e, none, 0, 0, none, 0, 0, has3 ha (by rfl) (by rfl) (by rfl), ?_⟩; rw [show plainM x = ⟨x.kind, x.client, x.seq, x.rev, x.code, x.acts, [], [], 0⟩ by unfold plainM; simp [hc9, hc14]]; exact ((hs.rd_nil (d := kNod)).rd_nil (d := kCmt)).pick (.there (.there (.there .here))))
      | (refine ⟨none, 0, 0, none, 0, 0, none, 0, 0, has3 ha (by rfl) (by rfl) (by rfl), ?_⟩; rw [show plainM x = ⟨x.kind, x.client, 0, x.rev, 0, [], [], [], 0⟩ by unfold plainM; simp [hc9, hc14, hc32]]; exact ((hs.rd_nil (d := kNod)).rd_nil (d := kCmt)).rd_nil (d := kActn))
      | (refine ⟨none, 0, 0, none, 0, 0, none, 0, 0, has3 ha (by rfl) (by rfl) (by rfl), ?_⟩; rw [show plainM x = ⟨x.kind, x.client, 0, x.rev, 0, [], [], [], x.last⟩ by unfold plainM; simp [hc9, hc14, hc32, hc40]]; exact ((hs.rd_nil (d := kNod)).rd_nil (d := kCmt)).rd_nil (d := kActn))
      | (refine ⟨none, 0, 0, none, 0, 0, none, 0, 0, has3 ha (by rfl) (by rfl) (by rfl), ?_⟩; rw [show plainM x = ⟨x.kind, x.client, x.seq, x.rev, 0, [], [], [], 0⟩ by unfold plainM; simp [hc9, hc14, hc32, hc40, hc51]]; exact ((hs.rd_nil (d := kNod)).rd_nil (d := kCmt)).rd_nil (d := kActn))
      | (refine ⟨none, 0, 0, none, 0, 0, none, 0, 0, has3 ha (by rfl) (by rfl) (by rfl), ?_⟩; rw [show plainM x = ⟨x.kind, x.client, x.seq, 0, x.code, [], [], [], 0⟩ by unfold plainM; simp [hc9, hc14, hc32, hc40, hc51, hc62]]; exact ((hs.rd_nil (d := kNod)).rd_nil (d := kCmt)).rd_nil (d := kActn))
      | (refine ⟨none, 0, 0, D, x.commits.length, e, none, 0, 0, has3 ha (by rfl) (by rfl) (by rfl), ?_⟩; rw [show plainM x = ⟨x.kind, 0, 0, x.rev, 0, [], x.commits, [], 0⟩ by unfold plainM; simp [hc9, hc14, hc32, hc40, hc51, hc62, hc73]]; exact ((hs.rd_nil (d := kNod)).pick (.there (.there .here))).rd_nil (d := kActn))
      | (refine ⟨none, 0, 0, none, 0, 0, D, x.nodes.length, e, has3 ha (by rfl) (by rfl) (by rfl), ?_⟩; rw [show plainM x = ⟨x.kind, 0, 0, x.rev, 0, [], [], x.nodes, 0⟩ by unfold plainM; simp [hc9, hc14, hc32, hc40, hc51, hc62, hc73, hc82]]; exact ((hs.pick (.there .here)).rd_nil (d := kCmt)).rd_nil (d := kActn))
      | (refine ⟨none, 0, 0, none, 0, 0, none, 0, 0, has3 ha (by rfl) (by rfl) (by rfl), ?_⟩; rw [show plainM x = ⟨x.kind, 0, 0, 0, x.code, [], [], [], 0⟩ by unfold plainM; simp [hc9, hc14, hc32, hc40, hc51, hc62, hc73, hc82, hc91]]; exact ((hs.rd_nil (d := kNod)).rd_nil (d := kCmt)).rd_nil (d := kActn))
      | (refine ⟨none, 0, 0, none, 0, 0, none, 0, 0, has3 ha (by rfl) (by rfl) (by rfl), ?_⟩; rw [show plainM x = ⟨x.kind, 0, 0, 0, 0, [], [], [], 0⟩ by unfold plainM; simp [hc9, hc14, hc32, hc40, hc51, hc62, hc73, hc82, hc91]]; exact ((hs.rd_nil (d := kNod)).rd_nil (d := kCmt)).rd_nil (d := kActn))
  · refine wp_seq_k fun K7 hK7 => ?_
    refine wp_region_lit ?_
    refine pY ha (yEql (by rfl) (by rfl)) rfl fun a ha => ?_
    refine pY ha (yAssign (by rfl)) rfl fun a ha => ?_
    refine pZ ?_
    refine hK7 _ _ ?_
    first | refine cDec ha (by rfl) (fun hc14 => ?_) (fun hc14 => ?_) | refine cSplit ha (by rfl) (fun hc14 => ?_) (fun hc14 => ?_)
    · refine dStart (fun w => ∃ rs, Sep W w (.blk b1 26 [.int .i64 x.kind, .int .i64 x.client, .int .i64 x.seq, .int .i64 x.rev, .int .i64 x.code, .slice A n c, .slice A' n' c', .slice B m d, .int .i64 x.last] :: rs)) [18, 20] (by kernel_rfl) rfl (⟨_, hs.drew.pick (by repeat first | exact .here | apply Pick.there)⟩) ?_
      have hs := Sep.drew hs
      generalize World.drew _ = w at hs ⊢
      refine dP 0 rfl (by kernel_rfl) ha won0 (fun _ => yFieldA Tryd.runUnderlying26 rfl Tryd.sizeOf3 rfl (by rfl)) rfl (fun _ _ _ h => h) fun a ha => ?_
      first | refine dT 1 rfl (by kernel_rfl) ha won0 (fun _ ⟨rs, hs⟩ => yLoadB Tryd.isAgg3 hs (by rfl) (by repeat first | exact .here | apply Pick.there) (by rfl)) (⟨_, hs.pick (by repeat first | exact .here | apply Pick.there)⟩) rfl (fun _ _ _ h => h) fun a ha => ?_ | refine dT 1 rfl (by kernel_rfl) ha won0 (fun _ ⟨rs, hs⟩ => yLoadR Tryd.isAgg3 hs (by rfl) (by repeat first | exact .here | apply Pick.there) (by rfl)) (⟨_, hs.pick (by repeat first | exact .here | apply Pick.there)⟩) rfl (fun _ _ _ h => h) fun a ha => ?_ | refine dT 1 rfl (by kernel_rfl) ha won0 (fun _ ⟨rs, hs⟩ => yLoadR0 Tryd.isAgg3 hs (by rfl) (by repeat first | exact .here | apply Pick.there) (by rfl)) (⟨_, hs.pick (by repeat first | exact .here | apply Pick.there)⟩) rfl (fun _ _ _ h => h) fun a ha => ?_
      refine dP 2 rfl (by kernel_rfl) ha won0 (fun _ => yFieldA Tryd.runUnderlying26 rfl Tryd.sizeOf3 rfl (by rfl)) rfl (fun _ _ _ h => h) fun a ha => ?_
      first | refine dT 3 rfl (by kernel_rfl) ha won0 (fun _ ⟨rs, hs⟩ => yLoadB Tryd.isAgg3 hs (by rfl) (by repeat first | exact .here | apply Pick.there) (by rfl)) (⟨_, hs.pick (by repeat first | exact .here | apply Pick.there)⟩) rfl (fun _ _ _ h => h) fun a ha => ?_ | refine dT 3 rfl (by kernel_rfl) ha won0 (fun _ ⟨rs, hs⟩ => yLoadR Tryd.isAgg3 hs (by rfl) (by repeat first | exact .here | apply Pick.there) (by rfl)) (⟨_, hs.pick (by repeat first | exact .here | apply Pick.there)⟩) rfl (fun _ _ _ h => h) fun a ha => ?_ | refine dT 3 rfl (by kernel_rfl) ha won0 (fun _ ⟨rs, hs⟩ => yLoadR0 Tryd.isAgg3 hs (by rfl) (by repeat first | exact .here | apply Pick.there) (by rfl)) (⟨_, hs.pick (by repeat first | exact .here | apply Pick.there)⟩) rfl (fun _ _ _ h => h) fun a ha => ?_
      refine dP 4 rfl (by kernel_rfl) ha won0 (fun _ => yFieldA Tryd.runUnderlying26 rfl Tryd.sizeOf3 rfl (by rfl)) rfl (fun _ _ _ h => h) fun a ha => ?_
      first | refine dT 5 rfl (by kernel_rfl) ha won0 (fun _ ⟨rs, hs⟩ => yLoadB Tryd.isAgg3 hs (by rfl) (by repeat first | exact .here | apply Pick.there) (by rfl)) (⟨_, hs.pick (by repeat first | exact .here | apply Pick.there)⟩) rfl (fun _ _ _ h => h) fun a ha => ?_ | refine dT 5 rfl (by kernel_rfl) ha won0 (fun _ ⟨rs, hs⟩ => yLoadR Tryd.isAgg3 hs (by rfl) (by repeat first | exact .here | apply Pick.there) (by rfl)) (⟨_, hs.pick (by repeat first | exact .here | apply Pick.there)⟩) rfl (fun _ _ _ h => h) fun a ha => ?_ | refine dT 5 rfl (by kernel_rfl) ha won0 (fun _ ⟨rs, hs⟩ => yLoadR0 Tryd.isAgg3 hs (by rfl) (by repeat first | exact .here | apply Pick.there) (by rfl)) (⟨_, hs.pick (by repeat first | exact .here | apply Pick.there)⟩) rfl (fun _ _ _ h => h) fun a ha => ?_
      refine dP 6 rfl (by kernel_rfl) ha won0 (fun _ => yFieldA Tryd.runUnderlying26 rfl Tryd.sizeOf3 rfl (by rfl)) rfl (fun _ _ _ h => h) fun a ha => ?_
      first | refine dT 7 rfl (by kernel_rfl) ha won0 (fun _ ⟨rs, hs⟩ => yLoadB Tryd.isAgg3 hs (by rfl) (by repeat first | exact .here | apply Pick.there) (by rfl)) (⟨_, hs.pick (by repeat first | exact .here | apply Pick.there)⟩) rfl (fun _ _ _ h => h) fun a ha => ?_ | refine dT 7 rfl (by kernel_rfl) ha won0 (fun _ ⟨rs, hs⟩ => yLoadR Tryd.isAgg3 hs (by rfl) (by repeat first | exact .here | apply Pick.there) (by rfl)) (⟨_, hs.pick (by repeat first | exact .here | apply Pick.there)⟩) rfl (fun _ _ _ h => h) fun a ha => ?_ | refine dT 7 rfl (by kernel_rfl) ha won0 (fun _ ⟨rs, hs⟩ => yLoadR0 Tryd.isAgg3 hs (by rfl) (by repeat first | exact .here | apply Pick.there) (by rfl)) (⟨_, hs.pick (by repeat first | exact .here | apply Pick.there)⟩) rfl (fun _ _ _ h => h) fun a ha => ?_
      refine dP 8 rfl (by kernel_rfl) ha won0 (fun _ => yFieldA Tryd.runUnderlying26 rfl Tryd.sizeOf22 rfl (by rfl)) rfl (fun _ _ _ h => h) fun a ha => ?_
      first | refine dT 9 rfl (by kernel_rfl) ha won0 (fun _ ⟨rs, hs⟩ => yLoadB Tryd.isAgg22 hs (by rfl) (by repeat first | exact .here | apply Pick.there) (by rfl)) (⟨_, hs.pick (by repeat first | exact .here | apply Pick.there)⟩) rfl (fun _ _ _ h => h) fun a ha => ?_ | refine dT 9 rfl (by kernel_rfl) ha won0 (fun _ ⟨rs, hs⟩ => yLoadR Tryd.isAgg22 hs (by rfl) (by repeat first | exact .here | apply Pick.there) (by rfl)) (⟨_, hs.pick (by repeat first | exact .here | apply Pick.there)⟩) rfl (fun _ _ _ h => h) fun a ha => ?_ | refine dT 9 rfl (by kernel_rfl) ha won0 (fun _ ⟨rs, hs⟩ => yLoadR0 Tryd.isAgg22 hs (by rfl) (by repeat first | exact .here | apply Pick.there) (by rfl)) (⟨_, hs.pick (by repeat first | exact .here | apply Pick.there)⟩) rfl (fun _ _ _ h => h) fun a ha => ?_
      refine dP 11 rfl (by kernel_rfl) ha won0 (fun _ => yFieldA Tryd.runUnderlying26 rfl Tryd.sizeOf3 rfl (by rfl)) rfl (fun _ _ _ h => h) fun a ha => ?_
      refine dC 10 rfl (by kernel_rfl) rfl ha won0 (nCall Tryd.call35 (by rfl)) rfl (Own_c (xs := x.acts) hs (by repeat first | exact .here | apply Pick.there) q1 q2) ?_
      rintro v w ⟨D, e, rfl, hs⟩
      refine ⟨⟨_, hs.pick (by repeat first | exact .here | apply Pick.there)⟩, fun a ha => ?_⟩
      refine dStore 12 rfl (by kernel_rfl) rfl ha won0 Tryd.sizeOf3 hs (by rfl) (by rfl) rfl rfl (by repeat first | exact .here | apply Pick.there) (by rfl) (fun _ hs => ⟨_, hs.pick (by repeat first | exact .here | apply Pick.there)⟩) fun w hs => ?_
      refine dP 13 rfl (by kernel_rfl) ha won0 (fun _ => yFieldA Tryd.runUnderlying26 rfl Tryd.sizeOf3 rfl (by rfl)) rfl (fun _ _ _ h => h) fun a ha => ?_
      refine dStore 14 rfl (by kernel_rfl) rfl ha won0 Tryd.sizeOf3 hs (by rfl) (by rfl) rfl rfl (by repeat first | exact .here | apply Pick.there) (by rfl) (fun _ hs => ⟨_, hs.pick (by repeat first | exact .here | apply Pick.there)⟩) fun w hs => ?_
      refine dP 15 rfl (by kernel_rfl) ha won0 (fun _ => yFieldA Tryd.runUnderlying26 rfl Tryd.sizeOf3 rfl (by rfl)) rfl (fun _ _ _ h => h) fun a ha => ?_
      refine dStore 16 rfl (by kernel_rfl) rfl ha won0 Tryd.sizeOf3 hs (by rfl) (by rfl) rfl rfl (by repeat first | exact .here | apply Pick.there) (by rfl) (fun _ hs => ⟨_, hs.pick (by repeat first | exact .here | apply Pick.there)⟩) fun w hs => ?_
      refine dP 17 rfl (by kernel_rfl) ha won0 (fun _ => yFieldA Tryd.runUnderlying26 rfl Tryd.sizeOf3 rfl (by rfl)) rfl (fun _ _ _ h => h) fun a ha => ?_
      refine dStorel 18 rfl (by kernel_rfl) rfl ha won0 Tryd.sizeOf3 hs (by rfl) (by rfl) rfl rfl (by repeat first | exact .here | apply Pick.there) (by rfl) fun w hs => ?_
      refine dP 19 rfl (by kernel_rfl) ha won0 (fun _ => yFieldA Tryd.runUnderlying26 rfl Tryd.sizeOf22 rfl (by rfl)) rfl (fun _ _ _ h => h) fun a ha => ?_
      refine dStorel 20 rfl (by kernel_rfl) rfl ha won0 Tryd.sizeOf22 hs (by rfl) (by rfl) rfl rfl (by repeat first | exact .here | apply Pick.there) (by rfl) fun w hs => ?_
      refine dZ (by kernel_rfl) ?_
      refine hJ3 _ _ ?_
      first
        | (refine ⟨none, 0, 0, none, 0, 0, none, 0, 0, has3 ha (by rfl) (by rfl) (by rfl), ?_⟩; rw [show plainM x = ⟨x.kind, x.client, 0, 0, 0, [], [], [], 0⟩ by unfold plainM; simp [hc9]]; exact ((hs.rd_nil (d := kNod)).rd_nil (d := kCmt)).rd_nil (d := kActn))
        | (refine ⟨D, x.acts.length, e, none, 0, 0, none, 0, 0, has3 ha (by rfl) (by rfl) (by rfl), ?_⟩; rw [show plainM x = ⟨x.kind, x.client, x.seq, x.rev, x.code, x.acts, [], [], 0⟩ by unfold plainM; simp [hc9, hc14]]; exact ((hs.rd_nil (d := kNod)).rd_nil (d := kCmt)).pick (.there (.there (.there .here))))
        | (refine ⟨none, 0, 0, none, 0, 0, none, 0, 0, has3 ha (by rfl) (by rfl) (by rfl), ?_⟩; rw [show plainM x = ⟨x.kind, x.client, 0, x.rev, 0, [], [], [], 0⟩ by unfold plainM; simp [hc9, hc14, hc32]]; exact ((hs.rd_nil (d := kNod)).rd_nil (d := kCmt)).rd_nil (d := kActn))
        | (refine ⟨none, 0, 0, none, 0, 0, none, 0, 0, has3 ha (by rfl) (by rfl) (by rfl), ?_⟩; rw [show plainM x = ⟨x.kind, x.client, 0, x.rev, 0, [], [], [], x.last⟩ by unfold plainM; simp [hc9, hc14, hc32, hc40]]; exact ((hs.rd_nil (d := kNod)).rd_nil (d := kCmt)).rd_nil (d := kActn))
        | (refine ⟨none, 0, 0, none, 0, 0, none, 0, 0, has3 ha (by rfl) (by rfl) (by rfl), ?_⟩; rw [show plainM x = ⟨x.kind, x.client, x.seq, x.rev, 0, [], [], [], 0⟩ by unfold plainM; simp [hc9, hc14, hc32, hc40, hc51]]; exact ((hs.rd_nil (d := kNod)).rd_nil (d := kCmt)).rd_nil (d := kActn))
        | (refine ⟨none, 0, 0, none, 0, 0, none, 0, 0, has3 ha (by rfl) (by rfl) (by rfl), ?_⟩; rw [show plainM x = ⟨x.kind, x.client, x.seq, 0, x.code, [], [], [], 0⟩ by unfold plainM; simp [hc9, hc14, hc32, hc40, hc51, hc62]]; exact ((hs.rd_nil (d := kNod)).rd_nil (d := kCmt)).rd_nil (d := kActn))
        | (refine ⟨none, 0, 0, D, x.commits.length, e, none, 0, 0, has3 ha (by rfl) (by rfl) (by rfl), ?_⟩; rw [show plainM x = ⟨x.kind, 0, 0, x.rev, 0, [], x.commits, [], 0⟩ by unfold plainM; simp [hc9, hc14, hc32, hc40, hc51, hc62, hc73]]; exact ((hs.rd_nil (d := kNod)).pick (.there (.there .here))).rd_nil (d := kActn))
        | (refine ⟨none, 0, 0, none, 0, 0, D, x.nodes.length, e, has3 ha (by rfl) (by rfl) (by rfl), ?_⟩; rw [show plainM x = ⟨x.kind, 0, 0, x.rev, 0, [], [], x.nodes, 0⟩ by unfold plainM; simp [hc9, hc14, hc32, hc40, hc51, hc62, hc73, hc82]]; exact ((hs.pick (.there .here)).rd_nil (d := kCmt)).rd_nil (d := kActn))
        | (refine ⟨none, 0, 0, none, 0, 0, none, 0, 0, has3 ha (by rfl) (by rfl) (by rfl), ?_⟩; rw [show plainM x = ⟨x.kind, 0, 0, 0, x.code, [], [], [], 0⟩ by unfold plainM; simp [hc9, hc14, hc32, hc40, hc51, hc62, hc73, hc82, hc91]]; exact ((hs.rd_nil (d := kNod)).rd_nil (d := kCmt)).rd_nil (d := kActn))
        | (refine ⟨none, 0, 0, none, 0, 0, none, 0, 0, has3 ha (by rfl) (by rfl) (by rfl), ?_⟩; rw [show plainM x = ⟨x.kind, 0, 0, 0, 0, [], [], [], 0⟩ by unfold plainM; simp [hc9, hc14, hc32, hc40, hc51, hc62, hc73, hc82, hc91]]; exact ((hs.rd_nil (d := kNod)).rd_nil (d := kCmt)).rd_nil (d := kActn))
    · refine wp_seq_k fun K8 hK8 => ?_
      refine wp_region_lit ?_
      refine pY ha (yEql (by rfl) (by rfl)) rfl fun a ha => ?_
      refine pY ha (yAssign (by rfl)) rfl fun a ha => ?_
      refine pZ ?_
      refine hK8 _ _ ?_
      first | refine cDec ha (by rfl) (fun hc32 => ?_) (fun hc32 => ?_) | refine cSplit ha (by rfl) (fun hc32 => ?_) (fun hc32 => ?_)
      · refine dStart (fun w => ∃ rs, Sep W w (.blk b1 26 [.int .i64 x.kind, .int .i64 x.client, .int .i64 x.seq, .int .i64 x.rev, .int .i64 x.code, .slice A n c, .slice A' n' c', .slice B m d, .int .i64 x.last] :: rs)) [7] (by kernel_rfl) rfl (⟨_, hs.drew.pick (by repeat first | exact .here | apply Pick.there)⟩) ?_
        have hs := Sep.drew hs
        generalize World.drew _ = w at hs ⊢
        refine dP 0 rfl (by kernel_rfl) ha won0 (fun _ => yFieldA Tryd.runUnderlying26 rfl Tryd.sizeOf3 rfl (by rfl)) rfl (fun _ _ _ h => h) fun a ha => ?_
        first | refine dT 1 rfl (by kernel_rfl) ha won0 (fun _ ⟨rs, hs⟩ => yLoadB Tryd.isAgg3 hs (by rfl) (by repeat first | exact .here | apply Pick.there) (by rfl)) (⟨_, hs.pick (by repeat first | exact .here | apply Pick.there)⟩) rfl (fun _ _ _ h => h) fun a ha => ?_ | refine dT 1 rfl (by kernel_rfl) ha won0 (fun _ ⟨rs, hs⟩ => yLoadR Tryd.isAgg3 hs (by rfl) (by repeat first | exact .here | apply Pick.there) (by rfl)) (⟨_, hs.pick (by repeat first | exact .here | apply Pick.there)⟩) rfl (fun _ _ _ h => h) fun a ha => ?_ | refine dT 1 rfl (by kernel_rfl) ha won0 (fun _ ⟨rs, hs⟩ => yLoadR0 Tryd.isAgg3 hs (by rfl) (by repeat first | exact .here | apply Pick.there) (by rfl)) (⟨_, hs.pick (by repeat first | exact .here | apply Pick.there)⟩) rfl (fun _ _ _ h => h) fun a ha => ?_
        refine dP 2 rfl (by kernel_rfl) ha won0 (fun _ => yFieldA Tryd.runUnderlying26 rfl Tryd.sizeOf3 rfl (by rfl)) rfl (fun _ _ _ h => h) fun a ha => ?_
        first | refine dT 3 rfl (by kernel_rfl) ha won0 (fun _ ⟨rs, hs⟩ => yLoadB Tryd.isAgg3 hs (by rfl) (by repeat first | exact .here | apply Pick.there) (by rfl)) (⟨_, hs.pick (by repeat first | exact .here | apply Pick.there)⟩) rfl (fun _ _ _ h => h) fun a ha => ?_ | refine dT 3 rfl (by kernel_rfl) ha won0 (fun _ ⟨rs, hs⟩ => yLoadR Tryd.isAgg3 hs (by rfl) (by repeat first | exact .here | apply Pick.there) (by rfl)) (⟨_, hs.pick (by repeat first | exact .here | apply Pick.there)⟩) rfl (fun _ _ _ h => h) fun a ha => ?_ | refine dT 3 rfl (by kernel_rfl) ha won0 (fun _ ⟨rs, hs⟩ => yLoadR0 Tryd.isAgg3 hs (by rfl) (by repeat first | exact .here | apply Pick.there) (by rfl)) (⟨_, hs.pick (by repeat first | exact .here | apply Pick.there)⟩) rfl (fun _ _ _ h => h) fun a ha => ?_
        refine dP 4 rfl (by kernel_rfl) ha won0 (fun _ => yFieldA Tryd.runUnderlying26 rfl Tryd.sizeOf3 rfl (by rfl)) rfl (fun _ _ _ h => h) fun a ha => ?_
        refine dStore 5 rfl (by kernel_rfl) rfl ha won0 Tryd.sizeOf3 hs (by rfl) (by rfl) rfl rfl (by repeat first | exact .here | apply Pick.there) (by rfl) (fun _ hs => ⟨_, hs.pick (by repeat first | exact .here | apply Pick.there)⟩) fun w hs => ?_
        refine dP 6 rfl (by kernel_rfl) ha won0 (fun _ => yFieldA Tryd.runUnderlying26 rfl Tryd.sizeOf3 rfl (by rfl)) rfl (fun _ _ _ h => h) fun a ha => ?_
        refine dStorel 7 rfl (by kernel_rfl) rfl ha won0 Tryd.sizeOf3 hs (by rfl) (by rfl) rfl rfl (by repeat first | exact .here | apply Pick.there) (by rfl) fun w hs => ?_
        refine dZ (by kernel_rfl) ?_
        refine hJ3 _ _ ?_
        first
          | (refine ⟨none, 0, 0, none, 0, 0, none, 0, 0, has3 ha (by rfl) (by rfl) (by rfl), ?_⟩; rw [show plainM x = ⟨x.kind, x.client, 0, 0, 0, [], [], [], 0⟩ by unfold plainM; simp [hc9]]; exact ((hs.rd_nil (d := kNod)).rd_nil (d := kCmt)).rd_nil (d := kActn))
          | (refine ⟨D, x.acts.length, e, none, 0, 0, none, 0, 0, has3 ha (by rfl) (by rfl) (by rfl), ?_⟩; rw [show plainM x = ⟨x.kind, x.client, x.seq, x.rev, x.code, x.acts, [], [], 0⟩ by unfold plainM; simp [hc9, hc14]]; exact ((hs.rd_nil (d := kNod)).rd_nil (d := kCmt)).pick (.there (.there (.there .here))))
          | (refine ⟨none, 0, 0, none, 0, 0, none, 0, 0, has3 ha (by rfl) (by rfl) (by rfl), ?_⟩; rw [show plainM x = ⟨x.kind, x.client, 0, x.rev, 0, [], [], [], 0⟩ by unfold plainM; simp [hc9, hc14, hc32]]; exact ((hs.rd_nil (d := kNod)).rd_nil (d := kCmt)).rd_nil (d := kActn))
          | (refine ⟨none, 0, 0, none, 0, 0, none, 0, 0, has3 ha (by rfl) (by rfl) (by rfl), ?_⟩; rw [show plainM x = ⟨x.kind, x.client, 0, x.rev, 0, [], [], [], x.last⟩ by unfold plainM; simp [hc9, hc14, hc32, hc40]]; exact ((hs.rd_nil (d := kNod)).rd_nil (d := kCmt)).rd_nil (d := kActn))
          | (refine ⟨none, 0, 0, none, 0, 0, none, 0, 0, has3 ha (by rfl) (by rfl) (by rfl), ?_⟩; rw [show plainM x = ⟨x.kind, x.client, x.seq, x.rev, 0, [], [], [], 0⟩ by unfold plainM; simp [hc9, hc14, hc32, hc40, hc51]]; exact ((hs.rd_nil (d := kNod)).rd_nil (d := kCmt)).rd_nil (d := kActn))
          | (refine ⟨none, 0, 0, none, 0, 0, none, 0, 0, has3 ha (by rfl) (by rfl) (by rfl), ?_⟩; rw [show plainM x = ⟨x.kind, x.client, x.seq, 0, x.code, [], [], [], 0⟩ by unfold plainM; simp [hc9, hc14, hc32, hc40, hc51, hc62]]; exact ((hs.rd_nil (d := kNod)).rd_nil (d := kCmt)).rd_nil (d := kActn))
          | (refine ⟨none, 0, 0, D, x.commits.length, e, none, 0, 0, has3 ha (by rfl) (by rfl) (by rfl), ?_⟩; rw [show plainM x = ⟨x.kind, 0, 0, x.rev, 0, [], x.commits, [], 0⟩ by unfold plainM; simp [hc9, hc14, hc32, hc40, hc51, hc62, hc73]]; exact ((hs.rd_nil (d := kNod)).pick (.there (.there .here))).rd_nil (d := kActn))
          | (refine ⟨none, 0, 0, none, 0, 0, D, x.nodes.length, e, has3 ha (by rfl) (by rfl) (by rfl), ?_⟩; rw [show plainM x = ⟨x.kind, 0, 0, x.rev, 0, [], [], x.nodes, 0⟩ by unfold plainM; simp [hc9, hc14, hc32, hc40, hc51, hc62, hc73, hc82]]; exact ((hs.pick (.there .here)).rd_nil (d := kCmt)).rd_nil (d := kActn))
          | (refine ⟨none, 0, 0, none, 0, 0, none, 0, 0, has3 ha (by rfl) (by rfl) (by rfl), ?_⟩; rw [show plainM x = ⟨x.kind, 0, 0, 0, x.code, [], [], [], 0⟩ by unfold plainM; simp [hc9, hc14, hc32, hc40, hc51, hc62, hc73, hc82, hc91]]; exact ((hs.rd_nil (d := kNod)).rd_nil (d := kCmt)).rd_nil (d := kActn))
          | (refine ⟨none, 0, 0, none, 0, 0, none, 0, 0, has3 ha (by rfl) (by rfl) (by rfl), ?_⟩; rw [show plainM x = ⟨x.kind, 0, 0, 0, 0, [], [], [], 0⟩ by unfold plainM; simp [hc9, hc14, hc32, hc40, hc51, hc62, hc73, hc82, hc91]]; exact ((hs.rd_nil (d := kNod)).rd_nil (d := kCmt)).rd_nil (d := kActn))
      · refine wp_seq_k fun K9 hK9 => ?_
        refine wp_region_lit ?_
        refine pY ha (yEql (by rfl) (by rfl)) rfl fun a ha => ?_
        refine pY ha (yAssign (by rfl)) rfl fun a ha => ?_
        refine pZ ?_
        refine hK9 _ _ ?_
        first | refine cDec ha (by rfl) (fun hc40 => ?_) (fun hc40 => ?_) | refine cSplit ha (by rfl) (fun hc40 => ?_) (fun hc40 => ?_)
        · refine dStart (fun w => ∃ rs, Sep W w (.blk b1 26 [.int .i64 x.kind, .int .i64 x.client, .int .i64 x.seq, .int .i64 x.rev, .int .i64 x.code, .slice A n c, .slice A' n' c', .slice B m d, .int .i64 x.last] :: rs)) [11] (by kernel_rfl) rfl (⟨_, hs.drew.pick (by repeat first | exact .here | apply Pick.there)⟩) ?_
          have hs := Sep.drew hs
          generalize World.drew _ = w at hs ⊢
          refine dP 0 rfl (by kernel_rfl) ha won0 (fun _ => yFieldA Tryd.runUnderlying26 rfl Tryd.sizeOf3 rfl (by rfl)) rfl (fun _ _ _ h => h) fun a ha => ?_
          first | refine dT 1 rfl (by kernel_rfl) ha won0 (fun _ ⟨rs, hs⟩ => yLoadB Tryd.isAgg3 hs (by rfl) (by repeat first | exact .here | apply Pick.there) (by rfl)) (⟨_, hs.pick (by repeat first | exact .here | apply Pick.there)⟩) rfl (fun _ _ _ h => h) fun a ha => ?_ | refine dT 1 rfl (by kernel_rfl) ha won0 (fun _ ⟨rs, hs⟩ => yLoadR Tryd.isAgg3 hs (by rfl) (by repeat first | exact .here | apply Pick.there) (by rfl)) (⟨_, hs.pick (by repeat first | exact .here | apply Pick.there)⟩) rfl (fun _ _ _ h => h) fun a ha => ?_ | refine dT 1 rfl (by kernel_rfl) ha won0 (fun _ ⟨rs, hs⟩ => yLoadR0 Tryd.isAgg3 hs (by rfl) (by repeat first | exact .here | apply Pick.there) (by rfl)) (⟨_, hs.pick (by repeat first | exact .here | apply Pick.there)⟩) rfl (fun _ _ _ h => h) fun a ha => ?_
          refine dP 2 rfl (by kernel_rfl) ha won0 (fun _ => yFieldA Tryd.runUnderlying26 rfl Tryd.sizeOf3 rfl (by rfl)) rfl (fun _ _ _ h => h) fun a ha => ?_
          first | refine dT 3 rfl (by kernel_rfl) ha won0 (fun _ ⟨rs, hs⟩ => yLoadB Tryd.isAgg3 hs (by rfl) (by repeat first | exact .here | apply Pick.there) (by rfl)) (⟨_, hs.pick (by repeat first | exact .here | apply Pick.there)⟩) rfl (fun _ _ _ h => h) fun a ha => ?_ | refine dT 3 rfl (by kernel_rfl) ha won0 (fun _ ⟨rs, hs⟩ => yLoadR Tryd.isAgg3 hs (by rfl) (by repeat first | exact .here | apply Pick.there) (by rfl)) (⟨_, hs.pick (by repeat first | exact .here | apply Pick.there)⟩) rfl (fun _ _ _ h => h) fun a ha => ?_ | refine dT 3 rfl (by kernel_rfl) ha won0 (fun _ ⟨rs, hs⟩ => yLoadR0 Tryd.isAgg3 hs (by rfl) (by repeat first | exact .here | apply Pick.there) (by rfl)) (⟨_, hs.pick (by repeat first | exact .here | apply Pick.there)⟩) rfl (fun _ _ _ h => h) fun a ha => ?_
          refine dP 4 rfl (by kernel_rfl) ha won0 (fun _ => yFieldA Tryd.runUnderlying26 rfl Tryd.sizeOf3 rfl (by rfl)) rfl (fun _ _ _ h => h) fun a ha => ?_
          first | refine dT 5 rfl (by kernel_rfl) ha won0 (fun _ ⟨rs, hs⟩ => yLoadB Tryd.isAgg3 hs (by rfl) (by repeat first | exact .here | apply Pick.there) (by rfl)) (⟨_, hs.pick (by repeat first | exact .here | apply Pick.there)⟩) rfl (fun _ _ _ h => h) fun a ha => ?_ | refine dT 5 rfl (by kernel_rfl) ha won0 (fun _ ⟨rs, hs⟩ => yLoadR Tryd.isAgg3 hs (by rfl) (by repeat first | exact .here | apply Pick.there) (by rfl)) (⟨_, hs.pick (by repeat first | exact .here | apply Pick.there)⟩) rfl (fun _ _ _ h => h) fun a ha => ?_ | refine dT 5 rfl (by kernel_rfl) ha won0 (fun _ ⟨rs, hs⟩ => yLoadR0 Tryd.isAgg3 hs (by rfl) (by repeat first | exact .here | apply Pick.there) (by rfl)) (⟨_, hs.pick (by repeat first | exact .here | apply Pick.there)⟩) rfl (fun _ _ _ h => h) fun a ha => ?_
          refine dP 6 rfl (by kernel_rfl) ha won0 (fun _ => yFieldA Tryd.runUnderlying26 rfl Tryd.sizeOf3 rfl (by rfl)) rfl (fun _ _ _ h => h) fun a ha => ?_
          refine dStore 7 rfl (by kernel_rfl) rfl ha won0 Tryd.sizeOf3 hs (by rfl) (by rfl) rfl rfl (by repeat first | exact .here | apply Pick.there) (by rfl) (fun _ hs => ⟨_, hs.pick (by repeat first | exact .here | apply Pick.there)⟩) fun w hs => ?_
          refine dP 8 rfl (by kernel_rfl) ha won0 (fun _ => yFieldA Tryd.runUnderlying26 rfl Tryd.sizeOf3 rfl (by rfl)) rfl (fun _ _ _ h => h) fun a ha => ?_
          refine dStore 9 rfl (by kernel_rfl) rfl ha won0 Tryd.sizeOf3 hs (by rfl) (by rfl) rfl rfl (by repeat first | exact .here | apply Pick.there) (by rfl) (fun _ hs => ⟨_, hs.pick (by repeat first | exact .here | apply Pick.there)⟩) fun w hs => ?_
          refine dP 10 rfl (by kernel_rfl) ha won0 (fun _ => yFieldA Tryd.runUnderlying26 rfl Tryd.sizeOf3 rfl (by rfl)) rfl (fun _ _ _ h => h) fun a ha => ?_
          refine dStorel 11 rfl (by kernel_rfl) rfl ha won0 Tryd.sizeOf3 hs (by rfl) (by rfl) rfl rfl (by repeat first | exact .here | apply Pick.there) (by rfl) fun w hs => ?_
          refine dZ (by kernel_rfl) ?_
          refine hJ3 _ _ ?_
          first
            | (refine ⟨none, 0, 0, none, 0, 0, none, 0, 0, has3 ha (by rfl) (by rfl) (by rfl), ?_⟩; rw [show plainM x = ⟨x.kind, x.client, 0, 0, 0, [], [], [], 0⟩ by unfold plainM; simp [hc9]]; exact ((hs.rd_nil (d := kNod)).rd_nil (d := kCmt)).rd_nil (d := kActn))
            | (refine ⟨D, x.acts.length, e, none, 0, 0, none, 0, 0, has3 ha (by rfl) (by rfl) (by rfl), ?_⟩; rw [show plainM x = ⟨x.kind, x.client, x.seq, x.rev, x.code, x.acts, [], [], 0⟩ by unfold plainM; simp [hc9, hc14]]; exact ((hs.rd_nil (d := kNod)).rd_nil (d := kCmt)).pick (.there (.there (.there .here))))
            | (refine ⟨none, 0, 0, none, 0, 0, none, 0, 0, has3 ha (by rfl) (by rfl) (by rfl), ?_⟩; rw [show plainM x = ⟨x.kind, x.client, 0, x.rev, 0, [], [], [], 0⟩ by unfold plainM; simp [hc9, hc14, hc32]]; exact ((hs.rd_nil (d := kNod)).rd_nil (d := kCmt)).rd_nil (d := kActn))
            | (refine ⟨none, 0, 0, none, 0, 0, none, 0, 0, has3 ha (by rfl) (by rfl) (by rfl), ?_⟩; rw [show plainM x = ⟨x.kind, x.client, 0, x.rev, 0, [], [], [], x.last⟩ by unfold plainM; simp [hc9, hc14, hc32, hc40]]; exact ((hs.rd_nil (d := kNod)).rd_nil (d := kCmt)).rd_nil (d := kActn))
            | (refine ⟨none, 0, 0, none, 0, 0, none, 0, 0, has3 ha (by rfl) (by rfl) (by rfl), ?_⟩; rw [show plainM x = ⟨x.kind, x.client, x.seq, x.rev, 0, [], [], [], 0⟩ by unfold plainM; simp [hc9, hc14, hc32, hc40, hc51]]; exact ((hs.rd_nil (d := kNod)).rd_nil (d := kCmt)).rd_nil (d := kActn))
            | (refine ⟨none, 0, 0, none, 0, 0, none, 0, 0, has3 ha (by rfl) (by rfl) (by rfl), ?_⟩; rw [show plainM x = ⟨x.kind, x.client, x.seq, 0, x.code, [], [], [], 0⟩ by unfold plainM; simp [hc9, hc14, hc32, hc40, hc51, hc62]]; exact ((hs.rd_nil (d := kNod)).rd_nil (d := kCmt)).rd_nil (d := kActn))
            | (refine ⟨none, 0, 0, D, x.commits.length, e, none, 0, 0, has3 ha (by rfl) (by rfl) (by rfl), ?_⟩; rw [show plainM x = ⟨x.kind, 0, 0, x.rev, 0, [], x.commits, [], 0⟩ by unfold plainM; simp [hc9, hc14, hc32, hc40, hc51, hc62, hc73]]; exact ((hs.rd_nil (d := kNod)).pick (.there (.there .here))).rd_nil (d := kActn))
            | (refine ⟨none, 0, 0, none, 0, 0, D, x.nodes.length, e, has3 ha (by rfl) (by rfl) (by rfl), ?_⟩; rw [show plainM x = ⟨x.kind, 0, 0, x.rev, 0, [], [], x.nodes, 0⟩ by unfold plainM; simp [hc9, hc14, hc32, hc40, hc51, hc62, hc73, hc82]]; exact ((hs.pick (.there .here)).rd_nil (d := kCmt)).rd_nil (d := kActn))
            | (refine ⟨none, 0, 0, none, 0, 0, none, 0, 0, has3 ha (by rfl) (by rfl) (by rfl), ?_⟩; rw [show plainM x = ⟨x.kind, 0, 0, 0, x.code, [], [], [], 0⟩ by unfold plainM; simp [hc9, hc14, hc32, hc40, hc51, hc62, hc73, hc82, hc91]]; exact ((hs.rd_nil (d := kNod)).rd_nil (d := kCmt)).rd_nil (d := kActn))
            | (refine ⟨none, 0, 0, none, 0, 0, none, 0, 0, has3 ha (by rfl) (by rfl) (by rfl), ?_⟩; rw [show plainM x = ⟨x.kind, 0, 0, 0, 0, [], [], [], 0⟩ by unfold plainM; simp [hc9, hc14, hc32, hc40, hc51, hc62, hc73, hc82, hc91]]; exact ((hs.rd_nil (d := kNod)).rd_nil (d := kCmt)).rd_nil (d := kActn))
        · refine wp_seq_k fun K10 hK10 => ?_
          refine wp_region_lit ?_
          refine pY ha (yEql (by rfl) (by rfl)) rfl fun a ha => ?_
          refine pY ha (yAssign (by rfl)) rfl fun a ha => ?_
          refine pZ ?_
          refine hK10 _ _ ?_
          first | refine cDec ha (by rfl) (fun hc51 => ?_) (fun hc51 => ?_) | refine cSplit ha (by rfl) (fun hc51 => ?_) (fun hc51 => ?_)
          · refine dStart (fun w => ∃ rs, Sep W w (.blk b1 26 [.int .i64 x.kind, .int .i64 x.client, .int .i64 x.seq, .int .i64 x.rev, .int .i64 x.code, .slice A n c, .slice A' n' c', .slice B m d, .int .i64 x.last] :: rs)) [11] (by kernel_rfl) rfl (⟨_, hs.drew.pick (by repeat first | exact .here | apply Pick.there)⟩) ?_
            have hs := Sep.drew hs
            generalize World.drew _ = w at hs ⊢
            refine dP 0 rfl (by kernel_rfl) ha won0 (fun _ => yFieldA Tryd.runUnderlying26 rfl Tryd.sizeOf3 rfl (by rfl)) rfl (fun _ _ _ h => h) fun a ha => ?_
            first | refine dT 1 rfl (by kernel_rfl) ha won0 (fun _ ⟨rs, hs⟩ => yLoadB Tryd.isAgg3 hs (by rfl) (by repeat first | exact .here | apply Pick.there) (by rfl)) (⟨_, hs.pick (by repeat first | exact .here | apply Pick.there)⟩) rfl (fun _ _ _ h => h) fun a ha => ?_ | refine dT 1 rfl (by kernel_rfl) ha won0 (fun _ ⟨rs, hs⟩ => yLoadR Tryd.isAgg3 hs (by rfl) (by repeat first | exact .here | apply Pick.there) (by rfl)) (⟨_, hs.pick (by repeat first | exact .here | apply Pick.there)⟩) rfl (fun _ _ _ h => h) fun a ha => ?_ | refine dT 1 rfl (by kernel_rfl) ha won0 (fun _ ⟨rs, hs⟩ => yLoadR0 Tryd.isAgg3 hs (by rfl) (by repeat first | exact .here | apply Pick.there) (by rfl)) (⟨_, hs.pick (by repeat first | exact .here | apply Pick.there)⟩) rfl (fun _ _ _ h => h) fun a ha => ?_
            refine dP 2 rfl (by kernel_rfl) ha won0 (fun _ => yFieldA Tryd.runUnderlying26 rfl Tryd.sizeOf3 rfl (by rfl)) rfl (fun _ _ _ h => h) fun a ha => ?_
            first | refine dT 3 rfl (by kernel_rfl) ha won0 (fun _ ⟨rs, hs⟩ => yLoadB Tryd.isAgg3 hs (by rfl) (by repeat first | exact .here | apply Pick.there) (by rfl)) (⟨_, hs.pick (by repeat first | exact .here | apply Pick.there)⟩) rfl (fun _ _ _ h => h) fun a ha => ?_ | refine dT 3 rfl (by kernel_rfl) ha won0 (fun _ ⟨rs, hs⟩ => yLoadR Tryd.isAgg3 hs (by rfl) (by repeat first | exact .here | apply Pick.there) (by rfl)) (⟨_, hs.pick (by repeat first | exact .here | apply Pick.there)⟩) rfl (fun _ _ _ h => h) fun a ha => ?_ | refine dT 3 rfl (by kernel_rfl) ha won0 (fun _ ⟨rs, hs⟩ => yLoadR0 Tryd.isAgg3 hs (by rfl) (by repeat first | exact .here | apply Pick.there) (by rfl)) (⟨_, hs.pick (by repeat first | exact .here | apply Pick.there)⟩) rfl (fun _ _ _ h => h) fun a ha => ?_
            refine dP 4 rfl (by kernel_rfl) ha won0 (fun _ => yFieldA Tryd.runUnderlying26 rfl Tryd.sizeOf3 rfl (by rfl)) rfl (fun _ _ _ h => h) fun a ha => ?_
            first | refine dT 5 rfl (by kernel_rfl) ha won0 (fun _ ⟨rs, hs⟩ => yLoadB Tryd.isAgg3 hs (by rfl) (by repeat first | exact .here | apply Pick.there) (by rfl)) (⟨_, hs.pick (by repeat first | exact .here | apply Pick.there)⟩) rfl (fun _ _ _ h => h) fun a ha => ?_ | refine dT 5 rfl (by kernel_rfl) ha won0 (fun _ ⟨rs, hs⟩ => yLoadR Tryd.isAgg3 hs (by rfl) (by repeat first | exact .here | apply Pick.there) (by rfl)) (⟨_, hs.pick (by repeat first | exact .here | apply Pick.there)⟩) rfl (fun _ _ _ h => h) fun a ha => ?_ | refine dT 5 rfl (by kernel_rfl) ha won0 (fun _ ⟨rs, hs⟩ => yLoadR0 Tryd.isAgg3 hs (by rfl) (by repeat first | exact .here | apply Pick.there) (by rfl)) (⟨_, hs.pick (by repeat first | exact .here | apply Pick.there)⟩) rfl (fun _ _ _ h => h) fun a ha => ?_
            refine dP 6 rfl (by kernel_rfl) ha won0 (fun _ => yFieldA Tryd.runUnderlying26 rfl Tryd.sizeOf3 rfl (by rfl)) rfl (fun _ _ _ h => h) fun a ha => ?_
            refine dStore 7 rfl (by kernel_rfl) rfl ha won0 Tryd.sizeOf3 hs (by rfl) (by rfl) rfl rfl (by repeat first | exact .here | apply Pick.there) (by rfl) (fun _ hs => ⟨_, hs.pick (by repeat first | exact .here | apply Pick.there)⟩) fun w hs => ?_
            refine dP 8 rfl (by kernel_rfl) ha won0 (fun _ => yFieldA Tryd.runUnderlying26 rfl Tryd.sizeOf3 rfl (by rfl)) rfl (fun _ _ _ h => h) fun a ha => ?_
            refine dStore 9 rfl (by kernel_rfl) rfl ha won0 Tryd.sizeOf3 hs (by rfl) (by rfl) rfl rfl (by repeat first | exact .here | apply Pick.there) (by rfl) (fun _ hs => ⟨_, hs.pick (by repeat first | exact .here | apply Pick.there)⟩) fun w hs => ?_
            refine dP 10 rfl (by kernel_rfl) ha won0 (fun _ => yFieldA Tryd.runUnderlying26 rfl Tryd.sizeOf3 rfl (by rfl)) rfl (fun _ _ _ h => h) fun a ha => ?_
            refine dStorel 11 rfl (by kernel_rfl) rfl ha won0 Tryd.sizeOf3 hs (by rfl) (by rfl) rfl rfl (by repeat first | exact .here | apply Pick.there) (by rfl) fun w hs => ?_
            refine dZ (by kernel_rfl) ?_
            refine hJ3 _ _ ?_
            first
              | (refine ⟨none, 0, 0, none, 0, 0, none, 0, 0, has3 ha (by rfl) (by rfl) (by rfl), ?_⟩; rw [show plainM x = ⟨x.kind, x.client, 0, 0, 0, [], [], [], 0⟩ by unfold plainM; simp [hc9]]; exact ((hs.rd_nil (d := kNod)).rd_nil (d := kCmt)).rd_nil (d := kActn))
              | (refine ⟨D, x.acts.length, e, none, 0, 0, none, 0, 0, has3 ha (by rfl) (by rfl) (by rfl), ?_⟩; rw [show plainM x = ⟨x.kind, x.client, x.seq, x.rev, x.code, x.acts, [], [], 0⟩ by unfold plainM; simp [hc9, hc14]]; exact ((hs.rd_nil (d := kNod)).rd_nil (d := kCmt)).pick (.there (.there (.there .here))))
              | (refine ⟨none, 0, 0, none, 0, 0, none, 0, 0, has3 ha (by rfl) (by rfl) (by rfl), ?_⟩; rw [show plainM x = ⟨x.kind, x.client, 0, x.rev, 0, [], [], [], 0⟩ by unfold plainM; simp [hc9, hc14, hc32]]; exact ((hs.rd_nil (d := kNod)).rd_nil (d := kCmt)).rd_nil (d := kActn))
              | (refine ⟨none, 0, 0, none, 0, 0, none, 0, 0, has3 ha (by rfl) (by rfl) (by rfl), ?_⟩; rw [show plainM x = ⟨x.kind, x.client, 0, x.rev, 0, [], [], [], x.last⟩ by unfold plainM; simp [hc9, hc14, hc32, hc40]]; exact ((hs.rd_nil (d := kNod)).rd_nil (d := kCmt)).rd_nil (d := kActn))
              | (refine ⟨none, 0, 0, none, 0, 0, none, 0, 0, has3 ha (by rfl) (by rfl) (by rfl), ?_⟩; rw [show plainM x = ⟨x.kind, x.client, x.seq, x.rev, 0, [], [], [], 0⟩ by unfold plainM; simp [hc9, hc14, hc32, hc40, hc51]]; exact ((hs.rd_nil (d := kNod)).rd_nil (d := kCmt)).rd_nil (d := kActn))
              | (refine ⟨none, 0, 0, none, 0, 0, none, 0, 0, has3 ha (by rfl) (by rfl) (by rfl), ?_⟩; rw [show plainM x = ⟨x.kind, x.client, x.seq, 0, x.code, [], [], [], 0⟩ by unfold plainM; simp [hc9, hc14, hc32, hc40, hc51, hc62]]; exact ((hs.rd_nil (d := kNod)).rd_nil (d := kCmt)).rd_nil (d := kActn))
              | (refine ⟨none, 0, 0, D, x.commits.length, e, none, 0, 0, has3 ha (by rfl) (by rfl) (by rfl), ?_⟩; rw [show plainM x = ⟨x.kind, 0, 0, x.rev, 0, [], x.commits, [], 0⟩ by unfold plainM; simp [hc9, hc14, hc32, hc40, hc51, hc62, hc73]]; exact ((hs.rd_nil (d := kNod)).pick (.there (.there .here))).rd_nil (d := kActn))
              | (refine ⟨none, 0, 0, none, 0, 0, D, x.nodes.length, e, has3 ha (by rfl) (by rfl) (by rfl), ?_⟩; rw [show plainM x = ⟨x.kind, 0, 0, x.rev, 0, [], [], x.nodes, 0⟩ by unfold plainM; simp [hc9, hc14, hc32, hc40, hc51, hc62, hc73, hc82]]; exact ((hs.pick (.there .here)).rd_nil (d := kCmt)).rd_nil (d := kActn))
              | (refine ⟨none, 0, 0, none, 0, 0, none, 0, 0, has3 ha (by rfl) (by rfl) (by rfl), ?_⟩; rw [show plainM x = ⟨x.kind, 0, 0, 0, x.code, [], [], [], 0⟩ by unfold plainM; simp [hc9, hc14, hc32, hc40, hc51, hc62, hc73, hc82, hc91]]; exact ((hs.rd_nil (d := kNod)).rd_nil (d := kCmt)).rd_nil (d := kActn))
              | (refine ⟨none, 0, 0, none, 0, 0, none, 0, 0, has3 ha (by rfl) (by rfl) (by rfl), ?_⟩; rw [show plainM x = ⟨x.kind, 0, 0, 0, 0, [], [], [], 0⟩ by unfold plainM; simp [hc9, hc14, hc32, hc40, hc51, hc62, hc73, hc82, hc91]]; exact ((hs.rd_nil (d := kNod)).rd_nil (d := kCmt)).rd_nil (d := kActn))
          · refine wp_seq_k fun K11 hK11 => ?_
            refine wp_region_lit ?_
            refine pY ha (yEql (by rfl) (by rfl)) rfl fun a ha => ?_
            refine pY ha (yAssign (by rfl)) rfl fun a ha => ?_
            refine pZ ?_
            refine hK11 _ _ ?_
            first | refine cDec ha (by rfl) (fun hc62 => ?_) (fun hc62 => ?_) | refine cSplit ha (by rfl) (fun hc62 => ?_) (fun hc62 => ?_)
            · refine dStart (fun w => ∃ rs, Sep W w (.blk b1 26 [.int .i64 x.kind, .int .i64 x.client, .int .i64 x.seq, .int .i64 x.rev, .int .i64 x.code, .slice A n c, .slice A' n' c', .slice B m d, .int .i64 x.last] :: rs)) [11] (by kernel_rfl) rfl (⟨_, hs.drew.pick (by repeat first | exact .here | apply Pick.there)⟩) ?_
              have hs := Sep.drew hs
              generalize World.drew _ = w at hs ⊢
              refine dP 0 rfl (by kernel_rfl) ha won0 (fun _ => yFieldA Tryd.runUnderlying26 rfl Tryd.sizeOf3 rfl (by rfl)) rfl (fun _ _ _ h => h) fun a ha => ?_
              first | refine dT 1 rfl (by kernel_rfl) ha won0 (fun _ ⟨rs, hs⟩ => yLoadB Tryd.isAgg3 hs (by rfl) (by repeat first | exact .here | apply Pick.there) (by rfl)) (⟨_, hs.pick (by repeat first | exact .here | apply Pick.there)⟩) rfl (fun _ _ _ h => h) fun a ha => ?_ | refine dT 1 rfl (by kernel_rfl) ha won0 (fun _ ⟨rs, hs⟩ => yLoadR Tryd.isAgg3 hs (by rfl) (by repeat first | exact .here | apply Pick.there) (by rfl)) (⟨_, hs.pick (by repeat first | exact .here | apply Pick.there)⟩) rfl (fun _ _ _ h => h) fun a ha => ?_ | refine dT 1 rfl (by kernel_rfl) ha won0 (fun _ ⟨rs, hs⟩ => yLoadR0 Tryd.isAgg3 hs (by rfl) (by repeat first | exact .here | apply Pick.there) (by rfl)) (⟨_, hs.pick (by repeat first | exact .here | apply Pick.there)⟩) rfl (fun _ _ _ h => h) fun a ha => ?_
              refine dP 2 rfl (by kernel_rfl) ha won0 (fun _ => yFieldA Tryd.runUnderlying26 rfl Tryd.sizeOf3 rfl (by rfl)) rfl (fun _ _ _ h => h) fun a ha => ?_
              first | refine dT 3 rfl (by kernel_rfl) ha won0 (fun _ ⟨rs, hs⟩ => yLoadB Tryd.isAgg3 hs (by rfl) (by repeat first | exact .here | apply Pick.there) (by rfl)) (⟨_, hs.pick (by repeat first | exact .here | apply Pick.there)⟩) rfl (fun _ _ _ h => h) fun a ha => ?_ | refine dT 3 rfl (by kernel_rfl) ha won0 (fun _ ⟨rs, hs⟩ => yLoadR Tryd.isAgg3 hs (by rfl) (by repeat first | exact .here | apply Pick.there) (by rfl)) (⟨_, hs.pick (by repeat first | exact .here | apply Pick.there)⟩) rfl (fun _ _ _ h => h) fun a ha => ?_ | refine dT 3 rfl (by kernel_rfl) ha won0 (fun _ ⟨rs, hs⟩ => yLoadR0 Tryd.isAgg3 hs (by rfl) (by repeat first | exact .here | apply Pick.there) (by rfl)) (⟨_, hs.pick (by repeat first | exact .here | apply Pick.there)⟩) rfl (fun _ _ _ h => h) fun a ha => ?_
              refine dP 4 rfl (by kernel_rfl) ha won0 (fun _ => yFieldA Tryd.runUnderlying26 rfl Tryd.sizeOf3 rfl (by rfl)) rfl (fun _ _ _ h => h) fun a ha => ?_
              first | refine dT 5 rfl (by kernel_rfl) ha won0 (fun _ ⟨rs, hs⟩ => yLoadB Tryd.isAgg3 hs (by rfl) (by repeat first | exact .here | apply Pick.there) (by rfl)) (⟨_, hs.pick (by repeat first | exact .here | apply Pick.there)⟩) rfl (fun _ _ _ h => h) fun a ha => ?_ | refine dT 5 rfl (by kernel_rfl) ha won0 (fun _ ⟨rs, hs⟩ => yLoadR Tryd.isAgg3 hs (by rfl) (by repeat first | exact .here | apply Pick.there) (by rfl)) (⟨_, hs.pick (by repeat first | exact .here | apply Pick.there)⟩) rfl (fun _ _ _ h => h) fun a ha => ?_ | refine dT 5 rfl (by kernel_rfl) ha won0 (fun _ ⟨rs, hs⟩ => yLoadR0 Tryd.isAgg3 hs (by rfl) (by repeat first | exact .here | apply Pick.there) (by rfl)) (⟨_, hs.pick (by repeat first | exact .here | apply Pick.there)⟩) rfl (fun _ _ _ h => h) fun a ha => ?_
              refine dP 6 rfl (by kernel_rfl) ha won0 (fun _ => yFieldA Tryd.runUnderlying26 rfl Tryd.sizeOf3 rfl (by rfl)) rfl (fun _ _ _ h => h) fun a ha => ?_
              refine dStore 7 rfl (by kernel_rfl) rfl ha won0 Tryd.sizeOf3 hs (by rfl) (by rfl) rfl rfl (by repeat first | exact .here | apply Pick.there) (by rfl) (fun _ hs => ⟨_, hs.pick (by repeat first | exact .here | apply Pick.there)⟩) fun w hs => ?_
              refine dP 8 rfl (by kernel_rfl) ha won0 (fun _ => yFieldA Tryd.runUnderlying26 rfl Tryd.sizeOf3 rfl (by rfl)) rfl (fun _ _ _ h => h) fun a ha => ?_
              refine dStore 9 rfl (by kernel_rfl) rfl ha won0 Tryd.sizeOf3 hs (by rfl) (by rfl) rfl rfl (by repeat first | exact .here | apply Pick.there) (by rfl) (fun _ hs => ⟨_, hs.pick (by repeat first | exact .here | apply Pick.there)⟩) fun w hs => ?_
              refine dP 10 rfl (by kernel_rfl) ha won0 (fun _ => yFieldA Tryd.runUnderlying26 rfl Tryd.sizeOf3 rfl (by rfl)) rfl (fun _ _ _ h => h) fun a ha => ?_
              refine dStorel 11 rfl (by kernel_rfl) rfl ha won0 Tryd.sizeOf3 hs (by rfl) (by rfl) rfl rfl (by repeat first | exact .here | apply Pick.there) (by rfl) fun w hs => ?_
              refine dZ (by kernel_rfl) ?_
              refine hJ3 _ _ ?_
              first
                | (refine ⟨none, 0, 0, none, 0, 0, none, 0, 0, has3 ha (by rfl) (by rfl) (by rfl), ?_⟩; rw [show plainM x = ⟨x.kind, x.client, 0, 0, 0, [], [], [], 0⟩ by unfold plainM; simp [hc9]]; exact ((hs.rd_nil (d := kNod)).rd_nil (d := kCmt)).rd_nil (d := kActn))
                | (refine ⟨D, x.acts.length, e, none, 0, 0, none, 0, 0, has3 ha (by rfl) (by rfl) (by rfl), ?_⟩; rw [show plainM x = ⟨x.kind, x.client, x.seq, x.rev, x.code, x.acts, [], [], 0⟩ by unfold plainM; simp [hc9, hc14]]; exact ((hs.rd_nil (d := kNod)).rd_nil (d := kCmt)).pick (.there (.there (.there .here))))
                | (refine ⟨none, 0, 0, none, 0, 0, none, 0, 0, has3 ha (by rfl) (by rfl) (by rfl), ?_⟩; rw [show plainM x = ⟨x.kind, x.client, 0, x.rev, 0, [], [], [], 0⟩ by unfold plainM; simp [hc9, hc14, hc32]]; exact ((hs.rd_nil (d := kNod)).rd_nil (d := kCmt)).rd_nil (d := kActn))
                | (refine ⟨none, 0, 0, none, 0, 0, none, 0, 0, has3 ha (by rfl) (by rfl) (by rfl), ?_⟩; rw [show plainM x = ⟨x.kind, x.client, 0, x.rev, 0, [], [], [], x.last⟩ by unfold plainM; simp [hc9, hc14, hc32, hc40]]; exact ((hs.rd_nil (d := kNod)).rd_nil (d := kCmt)).rd_nil (d := kActn))
                | (refine ⟨none, 0, 0, none, 0, 0, none, 0, 0, has3 ha (by rfl) (by rfl) (by rfl), ?_⟩; rw [show plainM x = ⟨x.kind, x.client, x.seq, x.rev, 0, [], [], [], 0⟩ by unfold plainM; simp [hc9, hc14, hc32, hc40, hc51]]; exact ((hs.rd_nil (d := kNod)).rd_nil (d := kCmt)).rd_nil (d := kActn))
                | (refine ⟨none, 0, 0, none, 0, 0, none, 0, 0, has3 ha (by rfl) (by rfl) (by rfl), ?_⟩; rw [show plainM x = ⟨x.kind, x.client, x.seq, 0, x.code, [], [], [], 0⟩ by unfold plainM; simp [hc9, hc14, hc32, hc40, hc51, hc62]]; exact ((hs.rd_nil (d := kNod)).rd_nil (d := kCmt)).rd_nil (d := kActn))
                | (refine ⟨none, 0, 0, D, x.commits.length, e, none, 0, 0, has3 ha (by rfl) (by rfl) (by rfl), ?_⟩; rw [show plainM x = ⟨x.kind, 0, 0, x.rev, 0, [], x.commits, [], 0⟩ by unfold plainM; simp [hc9, hc14, hc32, hc40, hc51, hc62, hc73]]; exact ((hs.rd_nil (d := kNod)).pick (.there (.there .here))).rd_nil (d := kActn))
                | (refine ⟨none, 0, 0, none, 0, 0, D, x.nodes.length, e, has3 ha (by rfl) (by rfl) (by rfl), ?_⟩; rw [show plainM x = ⟨x.kind, 0, 0, x.rev, 0, [], [], x.nodes, 0⟩ by unfold plainM; simp [hc9, hc14, hc32, hc40, hc51, hc62, hc73, hc82]]; exact ((hs.pick (.there .here)).rd_nil (d := kCmt)).rd_nil (d := kActn))
                | (refine ⟨none, 0, 0, none, 0, 0, none, 0, 0, has3 ha (by rfl) (by rfl) (by rfl), ?_⟩; rw [show plainM x = ⟨x.kind, 0, 0, 0, x.code, [], [], [], 0⟩ by unfold plainM; simp [hc9, hc14, hc32, hc40, hc51, hc62, hc73, hc82, hc91]]; exact ((hs.rd_nil (d := kNod)).rd_nil (d := kCmt)).rd_nil (d := kActn))
                | (refine ⟨none, 0, 0, none, 0, 0, none, 0, 0, has3 ha (by rfl) (by rfl) (by rfl), ?_⟩; rw [show plainM x = ⟨x.kind, 0, 0, 0, 0, [], [], [], 0⟩ by unfold plainM; simp [hc9, hc14, hc32, hc40, hc51, hc62, hc73, hc82, hc91]]; exact ((hs.rd_nil (d := kNod)).rd_nil (d := kCmt)).rd_nil (d := kActn))
            · refine wp_seq_k fun K12 hK12 => ?_
              refine wp_region_lit ?_
              refine pY ha (yEql (by rfl) (by rfl)) rfl fun a ha => ?_
              refine pY ha (yAssign (by rfl)) rfl fun a ha => ?_
              refine pZ ?_
              refine hK12 _ _ ?_
              first | refine cDec ha (by rfl) (fun hc73 => ?_) (fun hc73 => ?_) | refine cSplit ha (by rfl) (fun hc73 => ?_) (fun hc73 => ?_)
              · refine dStart (fun w => ∃ rs, Sep W w (.blk b1 26 [.int .i64 x.kind, .int .i64 x.client, .int .i64 x.seq, .int .i64 x.rev, .int .i64 x.code, .slice A n c, .slice A' n' c', .slice B m d, .int .i64 x.last] :: rs)) [6, 8] (by kernel_rfl) rfl (⟨_, hs.drew.pick (by repeat first | exact .here | apply Pick.there)⟩) ?_
                have hs := Sep.drew hs
                generalize World.drew _ = w at hs ⊢
                refine dP 0 rfl (by kernel_rfl) ha won0 (fun _ => yFieldA Tryd.runUnderlying26 rfl Tryd.sizeOf3 rfl (by rfl)) rfl (fun _ _ _ h => h) fun a ha => ?_
                first | refine dT 1 rfl (by kernel_rfl) ha won0 (fun _ ⟨rs, hs⟩ => yLoadB Tryd.isAgg3 hs (by rfl) (by repeat first | exact .here | apply Pick.there) (by rfl)) (⟨_, hs.pick (by repeat first | exact .here | apply Pick.there)⟩) rfl (fun _ _ _ h => h) fun a ha => ?_ | refine dT 1 rfl (by kernel_rfl) ha won0 (fun _ ⟨rs, hs⟩ => yLoadR Tryd.isAgg3 hs (by rfl) (by repeat first | exact .here | apply Pick.there) (by rfl)) (⟨_, hs.pick (by repeat first | exact .here | apply Pick.there)⟩) rfl (fun _ _ _ h => h) fun a ha => ?_ | refine dT 1 rfl (by kernel_rfl) ha won0 (fun _ ⟨rs, hs⟩ => yLoadR0 Tryd.isAgg3 hs (by rfl) (by repeat first | exact .here | apply Pick.there) (by rfl)) (⟨_, hs.pick (by repeat first | exact .here | apply Pick.there)⟩) rfl (fun _ _ _ h => h) fun a ha => ?_
                refine dP 2 rfl (by kernel_rfl) ha won0 (fun _ => yFieldA Tryd.runUnderlying26 rfl Tryd.sizeOf23 rfl (by rfl)) rfl (fun _ _ _ h => h) fun a ha => ?_
                first | refine dT 3 rfl (by kernel_rfl) ha won0 (fun _ ⟨rs, hs⟩ => yLoadB Tryd.isAgg23 hs (by rfl) (by repeat first | exact .here | apply Pick.there) (by rfl)) (⟨_, hs.pick (by repeat first | exact .here | apply Pick.there)⟩) rfl (fun _ _ _ h => h) fun a ha => ?_ | refine dT 3 rfl (by kernel_rfl) ha won0 (fun _ ⟨rs, hs⟩ => yLoadR Tryd.isAgg23 hs (by rfl) (by repeat first | exact .here | apply Pick.there) (by rfl)) (⟨_, hs.pick (by repeat first | exact .here | apply Pick.there)⟩) rfl (fun _ _ _ h => h) fun a ha => ?_ | refine dT 3 rfl (by kernel_rfl) ha won0 (fun _ ⟨rs, hs⟩ => yLoadR0 Tryd.isAgg23 hs (by rfl) (by repeat first | exact .here | apply Pick.there) (by rfl)) (⟨_, hs.pick (by repeat first | exact .here | apply Pick.there)⟩) rfl (fun _ _ _ h => h) fun a ha => ?_
                refine dP 5 rfl (by kernel_rfl) ha won0 (fun _ => yFieldA Tryd.runUnderlying26 rfl Tryd.sizeOf3 rfl (by rfl)) rfl (fun _ _ _ h => h) fun a ha => ?_
                refine dC 4 rfl (by kernel_rfl) rfl ha won0 (nCall Tryd.call36 (by rfl)) rfl (OwnAll_c (xs := x.commits) hs (by repeat first | exact .here | apply Pick.there) q3 q4 q5) ?_
                rintro v w ⟨D, e, rfl, hs⟩
                refine ⟨⟨_, hs.pick (by repeat first | exact .here | apply Pick.there)⟩, fun a ha => ?_⟩
                refine dStorel 6 rfl (by kernel_rfl) rfl ha won0 Tryd.sizeOf3 hs (by rfl) (by rfl) rfl rfl (by repeat first | exact .here | apply Pick.there) (by rfl) fun w hs => ?_
                refine dP 7 rfl (by kernel_rfl) ha won0 (fun _ => yFieldA Tryd.runUnderlying26 rfl Tryd.sizeOf23 rfl (by rfl)) rfl (fun _ _ _ h => h) fun a ha => ?_
                refine dStorel 8 rfl (by kernel_rfl) rfl ha won0 Tryd.sizeOf23 hs (by rfl) (by rfl) rfl rfl (by repeat first | exact .here | apply Pick.there) (by rfl) fun w hs => ?_
                refine dZ (by kernel_rfl) ?_
                refine hJ3 _ _ ?_
                first
                  | (refine ⟨none, 0, 0, none, 0, 0, none, 0, 0, has3 ha (by rfl) (by rfl) (by rfl), ?_⟩; rw [show plainM x = ⟨x.kind, x.client, 0, 0, 0, [], [], [], 0⟩ by unfold plainM; simp [hc9]]; exact ((hs.rd_nil (d := kNod)).rd_nil (d := kCmt)).rd_nil (d := kActn))
                  | (refine ⟨D, x.acts.length, e, none, 0, 0, none, 0, 0, has3 ha (by rfl) (by rfl) (by rfl), ?_⟩; rw [show plainM x = ⟨x.kind, x.client, x.seq, x.rev, x.code, x.acts, [], [], 0⟩ by unfold plainM; simp [hc9, hc14]]; exact ((hs.rd_nil (d := kNod)).rd_nil (d := kCmt)).pick (.there (.there (.there .here))))
                  | (refine ⟨none, 0, 0, none, 0, 0, none, 0, 0, has3 ha (by rfl) (by rfl) (by rfl), ?_⟩; rw [show plainM x = ⟨x.kind, x.client, 0, x.rev, 0, [], [], [], 0⟩ by unfold plainM; simp [hc9, hc14, hc32]]; exact ((hs.rd_nil (d := kNod)).rd_nil (d := kCmt)).rd_nil (d := kActn))
                  | (refine ⟨none, 0, 0, none, 0, 0, none, 0, 0, has3 ha (by rfl) (by rfl) (by rfl), ?_⟩; rw [show plainM x = ⟨x.kind, x.client, 0, x.rev, 0, [], [], [], x.last⟩ by unfold plainM; simp [hc9, hc14, hc32, hc40]]; exact ((hs.rd_nil (d := kNod)).rd_nil (d := kCmt)).rd_nil (d := kActn))
                  | (refine ⟨none, 0, 0, none, 0, 0, none, 0, 0, has3 ha (by rfl) (by rfl) (by rfl), ?_⟩; rw [show plainM x = ⟨x.kind, x.client, x.seq, x.rev, 0, [], [], [], 0⟩ by unfold plainM; simp [hc9, hc14, hc32, hc40, hc51]]; exact ((hs.rd_nil (d := kNod)).rd_nil (d := kCmt)).rd_nil (d := kActn))
                  | (refine ⟨none, 0, 0, none, 0, 0, none, 0, 0, has3 ha (by rfl) (by rfl) (by rfl), ?_⟩; rw [show plainM x = ⟨x.kind, x.client, x.seq, 0, x.code, [], [], [], 0⟩ by unfold plainM; simp [hc9, hc14, hc32, hc40, hc51, hc62]]; exact ((hs.rd_nil (d := kNod)).rd_nil (d := kCmt)).rd_nil (d := kActn))
                  | (refine ⟨none, 0, 0, D, x.commits.length, e, none, 0, 0, has3 ha (by rfl) (by rfl) (by rfl), ?_⟩; rw [show plainM x = ⟨x.kind, 0, 0, x.rev, 0, [], x.commits, [], 0⟩ by unfold plainM; simp [hc9, hc14, hc32, hc40, hc51, hc62, hc73]]; exact ((hs.rd_nil (d := kNod)).pick (.there (.there .here))).rd_nil (d := kActn))
                  | (refine ⟨none, 0, 0, none, 0, 0, D, x.nodes.length, e, has3 ha (by rfl) (by rfl) (by rfl), ?_⟩; rw [show plainM x = ⟨x.kind, 0, 0, x.rev, 0, [], [], x.nodes, 0⟩ by unfold plainM; simp [hc9, hc14, hc32, hc40, hc51, hc62, hc73, hc82]]; exact ((hs.pick (.there .here)).rd_nil (d := kCmt)).rd_nil (d := kActn))
                  | (refine ⟨none, 0, 0, none, 0, 0, none, 0, 0, has3 ha (by rfl) (by rfl) (by rfl), ?_⟩; rw [show plainM x = ⟨x.kind, 0, 0, 0, x.code, [], [], [], 0⟩ by unfold plainM; simp [hc9, hc14, hc32, hc40, hc51, hc62, hc73, hc82, hc91]]; exact ((hs.rd_nil (d := kNod)).rd_nil (d := kCmt)).rd_nil (d := kActn))
                  | (refine ⟨none, 0, 0, none, 0, 0, none, 0, 0, has3 ha (by rfl) (by rfl) (by rfl), ?_⟩; rw [show plainM x = ⟨x.kind, 0, 0, 0, 0, [], [], [], 0⟩ by unfold plainM; simp [hc9, hc14, hc32, hc40, hc51, hc62, hc73, hc82, hc91]]; exact ((hs.rd_nil (d := kNod)).rd_nil (d := kCmt)).rd_nil (d := kActn))
              · refine wp_seq_k fun K13 hK13 => ?_
                refine wp_region_lit ?_
                refine pY ha (yEql (by rfl) (by rfl)) rfl fun a ha => ?_
                refine pY ha (yAssign (by rfl)) rfl fun a ha => ?_
                refine pZ ?_
                refine hK13 _ _ ?_
                first | refine cDec ha (by rfl) (fun hc82 => ?_) (fun hc82 => ?_) | refine cSplit ha (by rfl) (fun hc82 => ?_) (fun hc82 => ?_)
                · refine dStart (fun w => ∃ rs, Sep W w (.blk b1 26 [.int .i64 x.kind, .int .i64 x.client, .int .i64 x.seq, .int .i64 x.rev, .int .i64 x.code, .slice A n c, .slice A' n' c', .slice B m d, .int .i64 x.last] :: rs)) [6, 8] (by kernel_rfl) rfl (⟨_, hs.drew.pick (by repeat first | exact .here | apply Pick.there)⟩) ?_
                  have hs := Sep.drew hs
                  generalize World.drew _ = w at hs ⊢
                  refine dP 0 rfl (by kernel_rfl) ha won0 (fun _ => yFieldA Tryd.runUnderlying26 rfl Tryd.sizeOf3 rfl (by rfl)) rfl (fun _ _ _ h => h) fun a ha => ?_
                  first | refine dT 1 rfl (by kernel_rfl) ha won0 (fun _ ⟨rs, hs⟩ => yLoadB Tryd.isAgg3 hs (by rfl) (by repeat first | exact .here | apply Pick.there) (by rfl)) (⟨_, hs.pick (by repeat first | exact .here | apply Pick.there)⟩) rfl (fun _ _ _ h => h) fun a ha => ?_ | refine dT 1 rfl (by kernel_rfl) ha won0 (fun _ ⟨rs, hs⟩ => yLoadR Tryd.isAgg3 hs (by rfl) (by repeat first | exact .here | apply Pick.there) (by rfl)) (⟨_, hs.pick (by repeat first | exact .here | apply Pick.there)⟩) rfl (fun _ _ _ h => h) fun a ha => ?_ | refine dT 1 rfl (by kernel_rfl) ha won0 (fun _ ⟨rs, hs⟩ => yLoadR0 Tryd.isAgg3 hs (by rfl) (by repeat first | exact .here | apply Pick.there) (by rfl)) (⟨_, hs.pick (by repeat first | exact .here | apply Pick.there)⟩) rfl (fun _ _ _ h => h) fun a ha => ?_
                  refine dP 2 rfl (by kernel_rfl) ha won0 (fun _ => yFieldA Tryd.runUnderlying26 rfl Tryd.sizeOf24 rfl (by rfl)) rfl (fun _ _ _ h => h) fun a ha => ?_
                  first | refine dT 3 rfl (by kernel_rfl) ha won0 (fun _ ⟨rs, hs⟩ => yLoadB Tryd.isAgg24 hs (by rfl) (by repeat first | exact .here | apply Pick.there) (by rfl)) (⟨_, hs.pick (by repeat first | exact .here | apply Pick.there)⟩) rfl (fun _ _ _ h => h) fun a ha => ?_ | refine dT 3 rfl (by kernel_rfl) ha won0 (fun _ ⟨rs, hs⟩ => yLoadR Tryd.isAgg24 hs (by rfl) (by repeat first | exact .here | apply Pick.there) (by rfl)) (⟨_, hs.pick (by repeat first | exact .here | apply Pick.there)⟩) rfl (fun _ _ _ h => h) fun a ha => ?_ | refine dT 3 rfl (by kernel_rfl) ha won0 (fun _ ⟨rs, hs⟩ => yLoadR0 Tryd.isAgg24 hs (by rfl) (by repeat first | exact .here | apply Pick.there) (by rfl)) (⟨_, hs.pick (by repeat first | exact .here | apply Pick.there)⟩) rfl (fun _ _ _ h => h) fun a ha => ?_
                  refine dP 5 rfl (by kernel_rfl) ha won0 (fun _ => yFieldA Tryd.runUnderlying26 rfl Tryd.sizeOf3 rfl (by rfl)) rfl (fun _ _ _ h => h) fun a ha => ?_
                  refine dC 4 rfl (by kernel_rfl) rfl ha won0 (nCall Tryd.call37 (by rfl)) rfl (CloneN_c (xs := x.nodes) hs (by repeat first | exact .here | apply Pick.there) q6) ?_
                  rintro v w ⟨D, e, rfl, hs⟩
                  refine ⟨⟨_, hs.pick (by repeat first | exact .here | apply Pick.there)⟩, fun a ha => ?_⟩
                  refine dStorel 6 rfl (by kernel_rfl) rfl ha won0 Tryd.sizeOf3 hs (by rfl) (by rfl) rfl rfl (by repeat first | exact .here | apply Pick.there) (by rfl) fun w hs => ?_
                  refine dP 7 rfl (by kernel_rfl) ha won0 (fun _ => yFieldA Tryd.runUnderlying26 rfl Tryd.sizeOf24 rfl (by rfl)) rfl (fun _ _ _ h => h) fun a ha => ?_
                  refine dStorel 8 rfl (by kernel_rfl) rfl ha won0 Tryd.sizeOf24 hs (by rfl) (by rfl) rfl rfl (by repeat first | exact .here | apply Pick.there) (by rfl) fun w hs => ?_
                  refine dZ (by kernel_rfl) ?_
                  refine hJ3 _ _ ?_
                  first
                    | (refine ⟨none, 0, 0, none, 0, 0, none, 0, 0, has3 ha (by rfl) (by rfl) (by rfl), ?_⟩; rw [show plainM x = ⟨x.kind, x.client, 0, 0, 0, [], [], [], 0⟩ by unfold plainM; simp [hc9]]; exact ((hs.rd_nil (d := kNod)).rd_nil (d := kCmt)).rd_nil (d := kActn))
                    | (refine ⟨D, x.acts.length, e, none, 0, 0, none, 0, 0, has3 ha (by rfl) (by rfl) (by rfl), ?_⟩; rw [show plainM x = ⟨x.kind, x.client, x.seq, x.rev, x.code, x.acts, [], [], 0⟩ by unfold plainM; simp [hc9, hc14]]; exact ((hs.rd_nil (d := kNod)).rd_nil (d := kCmt)).pick (.there (.there (.there .here))))
                    | (refine ⟨none, 0, 0, none, 0, 0, none, 0, 0, has3 ha (by rfl) (by rfl) (by rfl), ?_⟩; rw [show plainM x = ⟨x.kind, x.client, 0, x.rev, 0, [], [], [], 0⟩ by unfold plainM; simp [hc9, hc14, hc32]]; exact ((hs.rd_nil (d := kNod)).rd_nil (d := kCmt)).rd_nil (d := kActn))
                    | (refine ⟨none, 0, 0, none, 0, 0, none, 0, 0, has3 ha (by rfl) (by rfl) (by rfl), ?_⟩; rw [show plainM x = ⟨x.kind, x.client, 0, x.rev, 0, [], [], [], x.last⟩ by unfold plainM; simp [hc9, hc14, hc32, hc40]]; exact ((hs.rd_nil (d := kNod)).rd_nil (d := kCmt)).rd_nil (d := kActn))
                    | (refine ⟨none, 0, 0, none, 0, 0, none, 0, 0, has3 ha (by rfl) (by rfl) (by rfl), ?_⟩; rw [show plainM x = ⟨x.kind, x.client, x.seq, x.rev, 0, [], [], [], 0⟩ by unfold plainM; simp [hc9, hc14, hc32, hc40, hc51]]; exact ((hs.rd_nil (d := kNod)).rd_nil (d := kCmt)).rd_nil (d := kActn))
                    | (refine ⟨none, 0, 0, none, 0, 0, none, 0, 0, has3 ha (by rfl) (by rfl) (by rfl), ?_⟩; rw [show plainM x = ⟨x.kind, x.client, x.seq, 0, x.code, [], [], [], 0⟩ by unfold plainM; simp [hc9, hc14, hc32, hc40, hc51, hc62]]; exact ((hs.rd_nil (d := kNod)).rd_nil (d := kCmt)).rd_nil (d := kActn))
                    | (refine ⟨none, 0, 0, D, x.commits.length, e, none, 0, 0, has3 ha (by rfl) (by rfl) (by rfl), ?_⟩; rw [show plainM x = ⟨x.kind, 0, 0, x.rev, 0, [], x.commits, [], 0⟩ by unfold plainM; simp [hc9, hc14, hc32, hc40, hc51, hc62, hc73]]; exact ((hs.rd_nil (d := kNod)).pick (.there (.there .here))).rd_nil (d := kActn))
                    | (refine ⟨none, 0, 0, none, 0, 0, D, x.nodes.length, e, has3 ha (by rfl) (by rfl) (by rfl), ?_⟩; rw [show plainM x = ⟨x.kind, 0, 0, x.rev, 0, [], [], x.nodes, 0⟩ by unfold plainM; simp [hc9, hc14, hc32, hc40, hc51, hc62, hc73, hc82]]; exact ((hs.pick (.there .here)).rd_nil (d := kCmt)).rd_nil (d := kActn))
                    | (refine ⟨none, 0, 0, none, 0, 0, none, 0, 0, has3 ha (by rfl) (by rfl) (by rfl), ?_⟩; rw [show plainM x = ⟨x.kind, 0, 0, 0, x.code, [], [], [], 0⟩ by unfold plainM; simp [hc9, hc14, hc32, hc40, hc51, hc62, hc73, hc82, hc91]]; exact ((hs.rd_nil (d := kNod)).rd_nil (d := kCmt)).rd_nil (d := kActn))
                    | (refine ⟨none, 0, 0, none, 0, 0, none, 0, 0, has3 ha (by rfl) (by rfl) (by rfl), ?_⟩; rw [show plainM x = ⟨x.kind, 0, 0, 0, 0, [], [], [], 0⟩ by unfold plainM; simp [hc9, hc14, hc32, hc40, hc51, hc62, hc73, hc82, hc91]]; exact ((hs.rd_nil (d := kNod)).rd_nil (d := kCmt)).rd_nil (d := kActn))
                · refine wp_seq_k fun K14 hK14 => ?_
                  refine wp_region_lit ?_
                  refine pY ha (yEql (by rfl) (by rfl)) rfl fun a ha => ?_
                  refine pY ha (yAssign (by rfl)) rfl fun a ha => ?_
                  refine pZ ?_
                  refine hK14 _ _ ?_
                  first | refine cDec ha (by rfl) (fun hc91 => ?_) (fun hc91 => ?_) | refine cSplit ha (by rfl) (fun hc91 => ?_) (fun hc91 => ?_)
                  · refine wp_region_lit ?_
                    refine pY ha (yFieldA Tryd.runUnderlying26 rfl Tryd.sizeOf3 rfl (by rfl)) rfl fun a ha => ?_
                    first | refine pY ha (yLoadB Tryd.isAgg3 hs (by rfl) (by repeat first | exact .here | apply Pick.there) (by rfl)) rfl fun a ha => ?_ | refine pY ha (yLoadR Tryd.isAgg3 hs (by rfl) (by repeat first | exact .here | apply Pick.there) (by rfl)) rfl fun a ha => ?_ | refine pY ha (yLoadR0 Tryd.isAgg3 hs (by rfl) (by repeat first | exact .here | apply Pick.there) (by rfl)) rfl fun a ha => ?_
                    refine pY ha (yFieldA Tryd.runUnderlying26 rfl Tryd.sizeOf3 rfl (by rfl)) rfl fun a ha => ?_
                    refine pStore ha Tryd.sizeOf3 hs (by rfl) (by rfl) rfl rfl (by repeat first | exact .here | apply Pick.there) (by rfl) fun w hs => ?_
                    refine pZ ?_
                    refine hJ3 _ _ ?_
                    first
                      | (refine ⟨none, 0, 0, none, 0, 0, none, 0, 0, has3 ha (by rfl) (by rfl) (by rfl), ?_⟩; rw [show plainM x = ⟨x.kind, x.client, 0, 0, 0, [], [], [], 0⟩ by unfold plainM; simp [hc9]]; exact ((hs.rd_nil (d := kNod)).rd_nil (d := kCmt)).rd_nil (d := kActn))
                      | (refine ⟨D, x.acts.length, e, none, 0, 0, none, 0, 0, has3 ha (by rfl) (by rfl) (by rfl), ?_⟩; rw [show plainM x = ⟨x.kind, x.client, x.seq, x.rev, x.code, x.acts, [], [], 0⟩ by unfold plainM; simp [hc9, hc14]]; exact ((hs.rd_nil (d := kNod)).rd_nil (d := kCmt)).pick (.there (.there (.there .here))))
                      | (refine ⟨none, 0, 0, none, 0, 0, none, 0, 0, has3 ha (by rfl) (by rfl) (by rfl), ?_⟩; rw [show plainM x = ⟨x.kind, x.client, 0, x.rev, 0, [], [], [], 0⟩ by unfold plainM; simp [hc9, hc14, hc32]]; exact ((hs.rd_nil (d := kNod)).rd_nil (d := kCmt)).rd_nil (d := kActn))
                      | (refine ⟨none, 0, 0, none, 0, 0, none, 0, 0, has3 ha (by rfl) (by rfl) (by rfl), ?_⟩; rw [show plainM x = ⟨x.kind, x.client, 0, x.rev, 0, [], [], [], x.last⟩ by unfold plainM; simp [hc9, hc14, hc32, hc40]]; exact ((hs.rd_nil (d := kNod)).rd_nil (d := kCmt)).rd_nil (d := kActn))
                      | (refine ⟨none, 0, 0, none, 0, 0, none, 0, 0, has3 ha (by rfl) (by rfl) (by rfl), ?_⟩; rw [show plainM x = ⟨x.kind, x.client, x.seq, x.rev, 0, [], [], [], 0⟩ by unfold plainM; simp [hc9, hc14, hc32, hc40, hc51]]; exact ((hs.rd_nil (d := kNod)).rd_nil (d := kCmt)).rd_nil (d := kActn))
                      | (refine ⟨none, 0, 0, none, 0, 0, none, 0, 0, has3 ha (by rfl) (by rfl) (by rfl), ?_⟩; rw [show plainM x = ⟨x.kind, x.client, x.seq, 0, x.code, [], [], [], 0⟩ by unfold plainM; simp [hc9, hc14, hc32, hc40, hc51, hc62]]; exact ((hs.rd_nil (d := kNod)).rd_nil (d := kCmt)).rd_nil (d := kActn))
                      | (refine ⟨none, 0, 0, D, x.commits.length, e, none, 0, 0, has3 ha (by rfl) (by rfl) (by rfl), ?_⟩; rw [show plainM x = ⟨x.kind, 0, 0, x.rev, 0, [], x.commits, [], 0⟩ by unfold plainM; simp [hc9, hc14, hc32, hc40, hc51, hc62, hc73]]; exact ((hs.rd_nil (d := kNod)).pick (.there (.there .here))).rd_nil (d := kActn))
                      | (refine ⟨none, 0, 0, none, 0, 0, D, x.nodes.length, e, has3 ha (by rfl) (by rfl) (by rfl), ?_⟩; rw [show plainM x = ⟨x.kind, 0, 0, x.rev, 0, [], [], x.nodes, 0⟩ by unfold plainM; simp [hc9, hc14, hc32, hc40, hc51, hc62, hc73, hc82]]; exact ((hs.pick (.there .here)).rd_nil (d := kCmt)).rd_nil (d := kActn))
                      | (refine ⟨none, 0, 0, none, 0, 0, none, 0, 0, has3 ha (by rfl) (by rfl) (by rfl), ?_⟩; rw [show plainM x = ⟨x.kind, 0, 0, 0, x.code, [], [], [], 0⟩ by unfold plainM; simp [hc9, hc14, hc32, hc40, hc51, hc62, hc73, hc82, hc91]]; exact ((hs.rd_nil (d := kNod)).rd_nil (d := kCmt)).rd_nil (d := kActn))
                      | (refine ⟨none, 0, 0, none, 0, 0, none, 0, 0, has3 ha (by rfl) (by rfl) (by rfl), ?_⟩; rw [show plainM x = ⟨x.kind, 0, 0, 0, 0, [], [], [], 0⟩ by unfold plainM; simp [hc9, hc14, hc32, hc40, hc51, hc62, hc73, hc82, hc91]]; exact ((hs.rd_nil (d := kNod)).rd_nil (d := kCmt)).rd_nil (d := kActn))
                  · refine wp_skip ?_
                    refine hJ3 _ _ ?_
                    first
                      | (refine ⟨none, 0, 0, none, 0, 0, none, 0, 0, has3 ha (by rfl) (by rfl) (by rfl), ?_⟩; rw [show plainM x = ⟨x.kind, x.client, 0, 0, 0, [], [], [], 0⟩ by unfold plainM; simp [hc9]]; exact ((hs.rd_nil (d := kNod)).rd_nil (d := kCmt)).rd_nil (d := kActn))
                      | (refine ⟨D, x.acts.length, e, none, 0, 0, none, 0, 0, has3 ha (by rfl) (by rfl) (by rfl), ?_⟩; rw [show plainM x = ⟨x.kind, x.client, x.seq, x.rev, x.code, x.acts, [], [], 0⟩ by unfold plainM; simp [hc9, hc14]]; exact ((hs.rd_nil (d := kNod)).rd_nil (d := kCmt)).pick (.there (.there (.there .here))))
                      | (refine ⟨none, 0, 0, none, 0, 0, none, 0, 0, has3 ha (by rfl) (by rfl) (by rfl), ?_⟩; rw [show plainM x = ⟨x.kind, x.client, 0, x.rev, 0, [], [], [], 0⟩ by unfold plainM; simp [hc9, hc14, hc32]]; exact ((hs.rd_nil (d := kNod)).rd_nil (d := kCmt)).rd_nil (d := kActn))
                      | (refine ⟨none, 0, 0, none, 0, 0, none, 0, 0, has3 ha (by rfl) (by rfl) (by rfl), ?_⟩; rw [show plainM x = ⟨x.kind, x.client, 0, x.rev, 0, [], [], [], x.last⟩ by unfold plainM; simp [hc9, hc14, hc32, hc40]]; exact ((hs.rd_nil (d := kNod)).rd_nil (d := kCmt)).rd_nil (d := kActn))
                      | (refine ⟨none, 0, 0, none, 0, 0, none, 0, 0, has3 ha (by rfl) (by rfl) (by rfl), ?_⟩; rw [show plainM x = ⟨x.kind, x.client, x.seq, x.rev, 0, [], [], [], 0⟩ by unfold plainM; simp [hc9, hc14, hc32, hc40, hc51]]; exact ((hs.rd_nil (d := kNod)).rd_nil (d := kCmt)).rd_nil (d := kActn))
                      | (refine ⟨none, 0, 0, none, 0, 0, none, 0, 0, has3 ha (by rfl) (by rfl) (by rfl), ?_⟩; rw [show plainM x = ⟨x.kind, x.client, x.seq, 0, x.code, [], [], [], 0⟩ by unfold plainM; simp [hc9, hc14, hc32, hc40, hc51, hc62]]; exact ((hs.rd_nil (d := kNod)).rd_nil (d := kCmt)).rd_nil (d := kActn))
                      | (refine ⟨none, 0, 0, D, x.commits.length, e, none, 0, 0, has3 ha (by rfl) (by rfl) (by rfl), ?_⟩; rw [show plainM x = ⟨x.kind, 0, 0, x.rev, 0, [], x.commits, [], 0⟩ by unfold plainM; simp [hc9, hc14, hc32, hc40, hc51, hc62, hc73]]; exact ((hs.rd_nil (d := kNod)).pick (.there (.there .here))).rd_nil (d := kActn))
                      | (refine ⟨none, 0, 0, none, 0, 0, D, x.nodes.length, e, has3 ha (by rfl) (by rfl) (by rfl), ?_⟩; rw [show plainM x = ⟨x.kind, 0, 0, x.rev, 0, [], [], x.nodes, 0⟩ by unfold plainM; simp [hc9, hc14, hc32, hc40, hc51, hc62, hc73, hc82]]; exact ((hs.pick (.there .here)).rd_nil (d := kCmt)).rd_nil (d := kActn))
                      | (refine ⟨none, 0, 0, none, 0, 0, none, 0, 0, has3 ha (by rfl) (by rfl) (by rfl), ?_⟩; rw [show plainM x = ⟨x.kind, 0, 0, 0, x.code, [], [], [], 0⟩ by unfold plainM; simp [hc9, hc14, hc32, hc40, hc51, hc62, hc73, hc82, hc91]]; exact ((hs.rd_nil (d := kNod)).rd_nil (d := kCmt)).rd_nil (d := kActn))
                      | (refine ⟨none, 0, 0, none, 0, 0, none, 0, 0, has3 ha (by rfl) (by rfl) (by rfl), ?_⟩; rw [show plainM x = ⟨x.kind, 0, 0, 0, 0, [], [], [], 0⟩ by unfold plainM; simp [hc9, hc14, hc32, hc40, hc51, hc62, hc73, hc82, hc91]]; exact ((hs.rd_nil (d := kNod)).rd_nil (d := kCmt)).rd_nil (d := kActn))
end
end Go.Proofs.YtnlhbkaieoogfaaDoor

