/- Weights of lists: what a small one says of its bytes. -/
import Derived.Test.YtnkcmpmcmkljnaaDoorOutL
import Derived.Test.YtnkcmpmcmkljnaaDoorReads
set_option linter.unusedVariables false
set_option linter.unusedSimpArgs false
namespace Go.Proofs.YtnkcmpmcmkljnaaDoor
open Go.RowKit Go.Lib
theorem bslWgt31_2_0_1 {w : World} {l : List (Nat × Value)} {T : TypeId} {x0 x1 : Operand} {v0 : Value} (h0 : ev l x0 = some v0) {v1 : Value} (h1 : ev l x1 = some v1) (o0 : v0.cells = #[v0] := by rfl) (o1 : v1.cells = #[v1] := by rfl) : Mk Tryd.prog w l (.buildSlice 31 2 #[(0, x0), (1, x1)]) T 3 2 [v0, v1] := fun ρ o h ho _ => by
  have hm := mkvs (P := Tryd.prog) [v0, v1] w Tryd.runUnderlying31 Tryd.sizeOf3 Tryd.zeroValue3 (by intro v hv; simp at hv; rcases hv with rfl | rfl <;> assumption) (by simp) (by simp)
  unfold execOp; rw [ho]
  simp only [h _ _ h0, h _ _ h1, List.map_toArray, List.map_cons, List.map_nil]
  simp only [List.length_cons, List.length_nil, prt] at hm
  simp at hm
  simp [hm]
theorem bslWgt31_3_0_1_2 {w : World} {l : List (Nat × Value)} {T : TypeId} {x0 x1 x2 : Operand} {v0 : Value} (h0 : ev l x0 = some v0) {v1 : Value} (h1 : ev l x1 = some v1) {v2 : Value} (h2 : ev l x2 = some v2) (o0 : v0.cells = #[v0] := by rfl) (o1 : v1.cells = #[v1] := by rfl) (o2 : v2.cells = #[v2] := by rfl) : Mk Tryd.prog w l (.buildSlice 31 3 #[(0, x0), (1, x1), (2, x2)]) T 3 3 [v0, v1, v2] := fun ρ o h ho _ => by
  have hm := mkvs (P := Tryd.prog) [v0, v1, v2] w Tryd.runUnderlying31 Tryd.sizeOf3 Tryd.zeroValue3 (by intro v hv; simp at hv; rcases hv with rfl | rfl | rfl <;> assumption) (by simp) (by simp)
  unfold execOp; rw [ho]
  simp only [h _ _ h0, h _ _ h1, h _ _ h2, List.map_toArray, List.map_cons, List.map_nil]
  simp only [List.length_cons, List.length_nil, prt] at hm
  simp at hm
  simp [hm]
/-- Held at the limit. -/
def sat (n : Nat) : Nat := min n 1099511627776
def sumL : List Int → Int
  | [] => 0
  | m :: r => m + sumL r
theorem sumL_append (a b : List Int) : sumL (a ++ b) = sumL a + sumL b := by
  induction a with
  | nil => simp [sumL]
  | cons x r ih => simp only [List.cons_append, sumL, ih]; omega
theorem sumL_nonneg {l : List Int} (h : ∀ m ∈ l, 0 ≤ m) : 0 ≤ sumL l := by
  induction l with
  | nil => simp [sumL]
  | cons x r ih =>
    have := h x (by simp)
    have := ih (fun m hm => h m (by simp [hm]))
    simp only [sumL]; omega
theorem sumL_at {l : List Int} {i : Nat} {m : Int} (h : ∀ m ∈ l, 0 ≤ m) (hm : l[i]? = some m) : sumL (l.take (i + 1)) = sumL (l.take i) + m ∧ sumL (l.take i) + m ≤ sumL l := by
  obtain ⟨hi, rfl⟩ := List.getElem?_eq_some_iff.1 hm
  have e : sumL (l.take (i + 1)) = sumL (l.take i) + l[i] := by
    rw [List.take_add_one, List.getElem?_eq_getElem hi, sumL_append]; simp [sumL]
  refine ⟨e, ?_⟩
  rw [← e]
  have h1 : sumL l = sumL (l.take (i + 1)) + sumL (l.drop (i + 1)) := by rw [← sumL_append, List.take_append_drop]
  have h2 := sumL_nonneg (l := l.drop (i + 1)) (fun m hm => h m (List.mem_of_mem_drop hm))
  omega
def tComps (l : List Comp) : Nat := (l.map fun x => x.text.size + 2).sum
def tNods (l : List Nod) : Nat := (l.map fun x => x.name.size + x.text.size + 3).sum
def tActns (l : List Actn) : Nat := (l.map fun x => x.name.size + tComps x.ops + 3).sum
theorem sum_at {α : Type} {f : α → Nat} {l : List α} {i : Nat} {x : α} (hx : l[i]? = some x) : ((l.take (i + 1)).map f).sum = ((l.take i).map f).sum + f x := by
  obtain ⟨hi, rfl⟩ := List.getElem?_eq_some_iff.1 hx
  rw [List.take_add_one, List.getElem?_eq_getElem hi]
  simp only [List.map_append, List.sum_append, Option.toList, List.map_cons, List.map_nil, List.sum_cons, List.sum_nil, Nat.add_zero]
section
variable {W w : World} {cs r r2 : List Ch}
theorem min_nat (m : Nat) {s : Int} (h : 0 ≤ s) : ∃ q : Nat, min ((m : Int) + s) 1099511627776 = q ∧ q ≤ 1099511627776 ∧ (q < 1099511627776 → (q : Int) = m + s) := by
  rcases Int.le_total ((m : Int) + s) 1099511627776 with h1 | h1
  · refine ⟨((m : Int) + s).toNat, ?_, ?_, fun _ => ?_⟩
    · rw [Int.min_eq_left h1]; omega
    · omega
    · omega
  · refine ⟨1099511627776, Int.min_eq_right h1, Nat.le_refl _, fun h => absurd h (Nat.lt_irrefl _)⟩
theorem Sum_c {A : Option Addr} {n c m : Nat} {xs : List Int} (hm : m ≤ 1099511627776) (hx0 : ∀ x ∈ xs, 0 ≤ x) (hs : Sep W w cs) (hk : Pick cs (.rd kInt (.slice A n c) xs) r) :
    Calls P 35 #[.int .i64 m, .slice A n c] w (Rt fun v w' => v = .int .i64 (min (m + sumL xs) 1099511627776) ∧ Sep W w' cs) := by
  obtain ⟨rfl, hl⟩ := hs.rd_shape hk
  unfold maxLen at hl
  have hs := hs.cpR hk
  refine enter Tryd.func35 Tryd.ntmps35 rfl rfl fun a (ha : Has a 30 [(0, _), (1, _)]) => ?_
  refine wp_seq_k fun K1 hK1 => ?_
  refine wp_region_lit ?_
  refine pY ha (yAssign (by rfl)) rfl fun a ha => ?_
  refine pZ ?_
  refine hK1 _ _ ?_
  refine wp_seq_k fun K2 hK2 => ?_
  refine wp_seq_k fun K3 hK3 => ?_
  refine wp_region_lit ?_
  refine pY ha (yAssign (by rfl)) rfl fun a ha => ?_
  refine pZ ?_
  refine hK3 _ _ ?_
  refine wp_block ?_
  refine loopI (ι := Nat) (fun i a w => i ≤ xs.length ∧ (m : Int) + sumL (xs.take i) ≤ 1099511627776 ∧ 0 ≤ sumL (xs.take i) ∧ Has a 30 [(0, .int .i64 (m + sumL (xs.take i))), (1, .slice A xs.length c), (5, .int .i64 i)] ∧ Sep W w (.rd kInt (.slice A xs.length c) xs :: cs)) (fun i => xs.length - i) (0) ?_ ?_
  · exact ⟨Nat.zero_le _, by simp [sumL]; omega, by simp [sumL], has3 ha (by simp only [List.take_zero, sumL, Int.add_zero]; rfl) (by rfl) (by rfl), hs⟩
  · rintro i a w ⟨h1, h2, h3, ha, hs⟩
    refine wp_seq_k fun K4 hK4 => ?_
    refine wp_seq_k fun K5 hK5 => ?_
    refine wp_region_lit ?_
    refine pY ha (yMove (by rfl)) rfl fun a ha => ?_
    refine pY ha (yMove (by rfl)) rfl fun a ha => ?_
    refine pY ha (yLenS Tryd.runUnderlying31 (by rfl)) rfl fun a ha => ?_
    refine pY ha (yLss (by rfl) (by rfl)) rfl fun a ha => ?_
    refine pZ ?_
    refine hK5 _ _ ?_
    first | refine cDec ha (by rfl) (fun hc9 => ?_) (fun hc9 => ?_) | refine cSplit ha (by rfl) (fun hc9 => ?_) (fun hc9 => ?_)
    · obtain ⟨x, hx⟩ : ∃ x, xs[i]? = some x := ⟨_, List.getElem?_eq_getElem (by omega)⟩
      have hx1 := hx0 x (List.mem_of_getElem? hx)
      obtain ⟨hf1, hf2⟩ := sumL_at hx0 hx
      obtain ⟨b0, off, rfl, hxr, hs⟩ := hs.rd_int .here hx
      refine wp_skip ?_
      refine hK4 _ _ ?_
      refine wp_seq_k fun K6 hK6 => ?_
      refine wp_block ?_
      refine wp_seq_k fun K7 hK7 => ?_
      refine wp_seq_k fun K8 hK8 => ?_
      refine wp_region_lit ?_
      refine pY ha (yMove (by rfl)) rfl fun a ha => ?_
      refine pY ha (yGtr (by rfl) (by rfl)) rfl fun a ha => ?_
      refine pY ha (yMove (by rfl)) rfl fun a ha => ?_
      refine gDec (t := 14) ha (by rfl) (fun hg2 hp2 => ?_) (fun hg2 hp2 => ?_)
      · rw [hg2] at ha
        refine gOn ha rfl rfl (by rfl) ?_
        refine pY ha (yMove (by rfl)) rfl fun a ha => ?_
        refine gOn ha rfl rfl (by rfl) ?_
        refine pY ha (yMove (by rfl)) rfl fun a ha => ?_
        refine gOn ha rfl rfl (by rfl) ?_
        refine pY ha (yIndexA Tryd.runUnderlying31 Tryd.sizeOf3 (by rfl) (by rfl) (by omega) (by omega)) rfl fun a ha => ?_
        refine gOn ha rfl rfl (by rfl) ?_
        first | refine pY ha (yLoadB Tryd.isAgg3 hs (by rfl) (by repeat first | exact .here | apply Pick.there) (by rfl)) rfl fun a ha => ?_ | refine pY ha (yLoadR Tryd.isAgg3 hs (by rfl) (by repeat first | exact .here | apply Pick.there) (by rfl)) rfl fun a ha => ?_ | refine pY ha (yLoadR0 Tryd.isAgg3 hs (by rfl) (by repeat first | exact .here | apply Pick.there) (by rfl)) rfl fun a ha => ?_
        refine gOn ha rfl rfl (by rfl) ?_
        refine pY ha (yMove (by rfl)) rfl fun a ha => ?_
        refine gOn ha rfl rfl (by rfl) ?_
        first | refine pY ha (ySubN (by rfl) (by rfl) ⟨by omega, by omega⟩) rfl fun a ha => ?_ | refine pY ha (ySub (by rfl) (by rfl)) rfl fun a ha => ?_
        refine gOn ha rfl rfl (by rfl) ?_
        refine pY ha (yGtr (by rfl) (by rfl)) rfl fun a ha => ?_
        first | refine pY ha (yPickT (by rfl) (by rfl)) rfl fun a ha => ?_ | refine pY ha (yPickF (by rfl) (by rfl)) rfl fun a ha => ?_ | refine pY ha (yPick (by rfl) (by rfl) (by rfl)) rfl fun a ha => ?_
        refine pZ ?_
        refine hK8 _ _ ?_
        first | refine cNDec ha (by rfl) (fun hc22 => ?_) (fun hc22 => ?_) | refine cDec ha (by rfl) (fun hc22 => ?_) (fun hc22 => ?_) | refine cSplit ha (by rfl) (fun hc22 => ?_) (fun hc22 => ?_)
        · refine wp_seq_k fun K9 hK9 => ?_
          refine wp_region_lit ?_
          refine pY ha (yAssign (by rfl)) rfl fun a ha => ?_
          refine pZ ?_
          refine hK9 _ _ ?_
          refine wp_ret ?_
          show bodyPost Tryd.prog Tryd.f35 _ .ret _ _
          refine ret1 rfl ha (by rfl) ?_
          exact ⟨by congr 1; omega, hs.drop.drop⟩
        · refine wp_skip ?_
          refine hK7 _ _ ?_
          refine wp_region_lit ?_
          refine pY ha (yMove (by rfl)) rfl fun a ha => ?_
          refine pY ha (yMove (by rfl)) rfl fun a ha => ?_
          refine pY ha (yMove (by rfl)) rfl fun a ha => ?_
          refine pY ha (yIndexA Tryd.runUnderlying31 Tryd.sizeOf3 (by rfl) (by rfl) (by omega) (by omega)) rfl fun a ha => ?_
          first | refine pY ha (yLoadB Tryd.isAgg3 hs (by rfl) (by repeat first | exact .here | apply Pick.there) (by rfl)) rfl fun a ha => ?_ | refine pY ha (yLoadR Tryd.isAgg3 hs (by rfl) (by repeat first | exact .here | apply Pick.there) (by rfl)) rfl fun a ha => ?_ | refine pY ha (yLoadR0 Tryd.isAgg3 hs (by rfl) (by repeat first | exact .here | apply Pick.there) (by rfl)) rfl fun a ha => ?_
          first | refine pY ha (yAddN (by rfl) (by rfl) ⟨by omega, by omega⟩) rfl fun a ha => ?_ | refine pY ha (yAdd (by rfl) (by rfl)) rfl fun a ha => ?_
          refine pY ha (yAssign (by rfl)) rfl fun a ha => ?_
          refine pZ ?_
          refine hK6 _ _ ?_
          refine wp_region_lit ?_
          refine pY ha (yMove (by rfl)) rfl fun a ha => ?_
          first | refine pY ha (yAddN (by rfl) (by rfl) ⟨by omega, by omega⟩) rfl fun a ha => ?_ | refine pY ha (yAdd (by rfl) (by rfl)) rfl fun a ha => ?_
          refine pY ha (yAssign (by rfl)) rfl fun a ha => ?_
          refine pZ ?_
          refine ⟨i + 1, ⟨by omega, by rw [hf1]; omega, by rw [hf1]; omega, has3 ha (by rw [hf1, ← Int.add_assoc]; rfl) (by rfl) (by rfl), hs.drop⟩, by omega⟩
      · exact absurd hp2 (by omega)
    · refine wp_exit ?_
      refine hK2 _ _ ?_
      refine wp_seq_k fun K10 hK10 => ?_
      refine wp_region_lit ?_
      refine pY ha (yMove (by rfl)) rfl fun a ha => ?_
      refine pY ha (yAssign (by rfl)) rfl fun a ha => ?_
      refine pZ ?_
      refine hK10 _ _ ?_
      refine wp_ret ?_
      show bodyPost Tryd.prog Tryd.f35 _ .ret _ _
      refine ret1 rfl ha (by rfl) ?_
      rw [List.take_of_length_le (by omega)] at ha h2 ⊢; exact ⟨by congr 1; omega, hs.drop⟩
theorem kInt_flat : kInt.Flat (fun x => .int .i64 x) := ⟨rfl, fun _ _ _ h => h.1⟩
theorem Sep.ints_rd {b : Nat} {T : TypeId} {xs : List Int} (hs : Sep W w cs) (hk : Pick cs (.blk b T (xs.map (.int .i64))) r) (hr : ∀ x ∈ xs, -9223372036854775808 ≤ x ∧ x ≤ 9223372036854775807) (hn : xs.length ≤ 1000 := by simp) :
    Sep W w (.rd kInt (.slice (some ⟨b, 0, none⟩) xs.length xs.length) xs :: r) := by
  refine Sep.ol_rd (Sep.flat_ol (E := T) (xs := xs) (cap := xs.length) kInt_flat hs hk (fun x hx Z => ⟨rfl, (hr x hx).1, (hr x hx).2⟩) (Nat.le_refl _) (by unfold maxLen; omega) (by simp) (fun i x hx => by rw [List.getElem?_map, hx]; rfl)) .here
theorem WgComps_c {A : Option Addr} {n c lim : Nat} {xs : List Comp} (hlim : lim ≤ 100000) (hsz : ∀ x ∈ xs, x.text.size ≤ 9223372036854775807) (hs : Sep W w cs) (hk : Pick cs (.rd kComp (.slice A n c) xs) r) :
    Calls P 36 #[.slice A n c, .int .i64 lim] w (Rt fun v w' => ∃ R : Nat, v = .int .i64 R ∧ R ≤ 1099511627776 ∧ (R ≤ lim → tComps xs = R) ∧ Sep W w' cs) := by
  obtain ⟨rfl, hl⟩ := hs.rd_shape hk
  unfold maxLen at hl
  have hs := hs.cpR hk
  refine enter Tryd.func36 Tryd.ntmps36 rfl rfl fun a (ha : Has a 28 [(0, _), (1, _)]) => ?_
  refine wp_seq_k fun K1 hK1 => ?_
  refine wp_region_lit ?_
  refine pY ha (yAssign (by rfl)) rfl fun a ha => ?_
  refine pZ ?_
  refine hK1 _ _ ?_
  refine wp_seq_k fun K2 hK2 => ?_
  refine wp_region_lit ?_
  refine pY ha (yAssign (by rfl)) rfl fun a ha => ?_
  refine pZ ?_
  refine hK2 _ _ ?_
  refine wp_seq_k fun K3 hK3 => ?_
  refine wp_seq_k fun K4 hK4 => ?_
  refine wp_region_lit ?_
  refine pY ha (yAssign (by rfl)) rfl fun a ha => ?_
  refine pZ ?_
  refine hK4 _ _ ?_
  refine wp_block ?_
  refine loopI (ι := Nat × Nat) (fun i a w => i.1 ≤ xs.length ∧ i.2 ≤ 1099511627776 ∧ (i.2 ≤ lim → tComps (xs.take i.1) = i.2) ∧ Has a 28 [(0, .slice A xs.length c), (1, .int .i64 lim), (5, .int .i64 i.2), (6, .int .i64 i.1)] ∧ Sep W w (.rd kComp (.slice A xs.length c) xs :: cs)) (fun i => xs.length - i.1) ((0, 0)) ?_ ?_
  · exact ⟨Nat.zero_le _, by simp, fun _ => rfl, has4 ha (by rfl) (by rfl) (by rfl) (by rfl), hs⟩
  · rintro i a w ⟨h1, h2, h3, ha, hs⟩
    obtain ⟨i, m⟩ := i; simp only at h1 h2 h3 ha hs
    refine wp_seq_k fun K5 hK5 => ?_
    refine wp_seq_k fun K6 hK6 => ?_
    refine wp_region_lit ?_
    refine pY ha (yMove (by rfl)) rfl fun a ha => ?_
    refine pY ha (yMove (by rfl)) rfl fun a ha => ?_
    refine pY ha (yLenS Tryd.runUnderlying41 (by rfl)) rfl fun a ha => ?_
    refine pY ha (yLss (by rfl) (by rfl)) rfl fun a ha => ?_
    refine pY ha (yMove (by rfl)) rfl fun a ha => ?_
    refine gDec (t := 11) ha (by rfl) (fun hg4 hp4 => ?_) (fun hg4 hp4 => ?_)
    · rw [hg4] at ha
      refine gOff ha rfl rfl (by rfl) rfl rfl fun a ha => ?_
      refine gOff ha rfl rfl (by rfl) rfl rfl fun a ha => ?_
      refine gOff ha rfl rfl (by rfl) rfl rfl fun a ha => ?_
      first | refine pY ha (yPickT (by rfl) (by rfl)) rfl fun a ha => ?_ | refine pY ha (yPickF (by rfl) (by rfl)) rfl fun a ha => ?_ | refine pY ha (yPick (by rfl) (by rfl) (by rfl)) rfl fun a ha => ?_
      refine pZ ?_
      refine hK6 _ _ ?_
      refine cFalse ha (by rfl) ?_
      refine wp_exit ?_
      refine hK3 _ _ ?_
      refine wp_seq_k fun K7 hK7 => ?_
      refine wp_region_lit ?_
      refine pY ha (yMove (by rfl)) rfl fun a ha => ?_
      refine pY ha (yAssign (by rfl)) rfl fun a ha => ?_
      refine pZ ?_
      refine hK7 _ _ ?_
      refine wp_ret ?_
      show bodyPost Tryd.prog Tryd.f36 _ .ret _ _
      refine ret1 rfl ha (by rfl) ?_
      exact ⟨m, rfl, h2, fun hle => by rw [← h3 hle, List.take_of_length_le (by have := of_decide_eq_false hg4; omega)], hs.drop⟩
    · rw [hg4] at ha
      have hp4 := of_decide_eq_true hg4
      refine gOn ha rfl rfl (by rfl) ?_
      refine pY ha (yMove (by rfl)) rfl fun a ha => ?_
      refine gOn ha rfl rfl (by rfl) ?_
      refine pY ha (yMove (by rfl)) rfl fun a ha => ?_
      refine gOn ha rfl rfl (by rfl) ?_
      refine pY ha (yLeq (by rfl) (by rfl)) rfl fun a ha => ?_
      first | refine pY ha (yPickT (by rfl) (by rfl)) rfl fun a ha => ?_ | refine pY ha (yPickF (by rfl) (by rfl)) rfl fun a ha => ?_ | refine pY ha (yPick (by rfl) (by rfl) (by rfl)) rfl fun a ha => ?_
      refine pZ ?_
      refine hK6 _ _ ?_
      first | refine cNDec ha (by rfl) (fun hc15 => ?_) (fun hc15 => ?_) | refine cDec ha (by rfl) (fun hc15 => ?_) (fun hc15 => ?_) | refine cSplit ha (by rfl) (fun hc15 => ?_) (fun hc15 => ?_)
      · obtain ⟨x, hx⟩ : ∃ x, xs[i]? = some x := ⟨_, List.getElem?_eq_getElem (by omega)⟩
        have hxz := hsz x (List.mem_of_getElem? hx)
        have hsum := sum_at (f := fun x => x.text.size + 2) hx
        obtain ⟨b0, off, rfl, hs⟩ := hs.rd_comp .here hx
        refine wp_skip ?_
        refine hK5 _ _ ?_
        refine wp_seq_k fun K8 hK8 => ?_
        refine wp_block ?_
        refine wp_region_lit ?_
        refine pY ha (yMove (by rfl)) rfl fun a ha => ?_
        refine pY ha (yMove (by rfl)) rfl fun a ha => ?_
        refine pY ha (yMove (by rfl)) rfl fun a ha => ?_
        refine pY ha (yIndexA Tryd.runUnderlying41 Tryd.sizeOf91 (by rfl) (by rfl) (by omega) (by omega)) rfl fun a ha => ?_
        refine pY ha (yFieldA Tryd.runUnderlying91 rfl Tryd.sizeOf9 rfl (by rfl)) rfl fun a ha => ?_
        first | refine pY ha (yLoadB Tryd.isAgg9 hs (by rfl) (by repeat first | exact .here | apply Pick.there) (by rfl)) rfl fun a ha => ?_ | refine pY ha (yLoadR Tryd.isAgg9 hs (by rfl) (by repeat first | exact .here | apply Pick.there) (by rfl)) rfl fun a ha => ?_ | refine pY ha (yLoadR0 Tryd.isAgg9 hs (by rfl) (by repeat first | exact .here | apply Pick.there) (by rfl)) rfl fun a ha => ?_
        refine pY ha (yLenStr Tryd.runUnderlying9 (by rfl)) rfl fun a ha => ?_
        refine pMake ha (bslWgt31_2_0_1 (by rfl) (by rfl)) hs rfl fun b w hs a ha => ?_
        have hs := hs.ints_rd (xs := [(x.text.size : Int), 2]) .here (by intro y hy; simp at hy; omega)
        refine pC ha (nCall Tryd.call35 (by rfl)) rfl (Sum_c h2 (by intro y hy; simp at hy; omega) hs .here) ?_
        rintro v w ⟨rfl, hs⟩ a ha
        refine pY ha (yAssign (by rfl)) rfl fun a ha => ?_
        refine pZ ?_
        refine hK8 _ _ ?_
        refine wp_region_lit ?_
        refine pY ha (yMove (by rfl)) rfl fun a ha => ?_
        first | refine pY ha (yAddN (by rfl) (by rfl) ⟨by omega, by omega⟩) rfl fun a ha => ?_ | refine pY ha (yAdd (by rfl) (by rfl)) rfl fun a ha => ?_
        refine pY ha (yAssign (by rfl)) rfl fun a ha => ?_
        refine pZ ?_
        obtain ⟨q, hq, hq1, hq2⟩ := min_nat m (s := sumL [(x.text.size : Int), 2]) (by simp only [sumL]; omega)
        rw [hq] at ha
        refine ⟨(i + 1, q), ⟨by simp only; omega, hq1, ?_, has4 ha (by rfl) (by rfl) (by rfl) (by rfl), hs.drop.drop⟩, by simp only; omega⟩
        intro hle
        simp only at hle ⊢
        have hq3 := hq2 (by omega)
        simp only [sumL] at hq3
        unfold tComps at h3 ⊢
        rw [hsum, h3 (by omega)]
        omega
      · refine wp_exit ?_
        refine hK3 _ _ ?_
        refine wp_seq_k fun K9 hK9 => ?_
        refine wp_region_lit ?_
        refine pY ha (yMove (by rfl)) rfl fun a ha => ?_
        refine pY ha (yAssign (by rfl)) rfl fun a ha => ?_
        refine pZ ?_
        refine hK9 _ _ ?_
        refine wp_ret ?_
        show bodyPost Tryd.prog Tryd.f36 _ .ret _ _
        refine ret1 rfl ha (by rfl) ?_
        exact ⟨m, rfl, h2, fun hle => absurd hle (by omega), hs.drop⟩
theorem WgNods_c {A : Option Addr} {n c lim : Nat} {xs : List Nod} (hlim : lim ≤ 100000) (hsz : ∀ x ∈ xs, x.name.size ≤ 9223372036854775807 ∧ x.text.size ≤ 9223372036854775807) (hs : Sep W w cs) (hk : Pick cs (.rd kNod (.slice A n c) xs) r) :
    Calls P 38 #[.slice A n c, .int .i64 lim] w (Rt fun v w' => ∃ R : Nat, v = .int .i64 R ∧ R ≤ 1099511627776 ∧ (R ≤ lim → tNods xs = R) ∧ Sep W w' cs) := by
  obtain ⟨rfl, hl⟩ := hs.rd_shape hk
  unfold maxLen at hl
  have hs := hs.cpR hk
  refine enter Tryd.func38 Tryd.ntmps38 rfl rfl fun a (ha : Has a 34 [(0, _), (1, _)]) => ?_
  refine wp_seq_k fun K1 hK1 => ?_
  refine wp_region_lit ?_
  refine pY ha (yAssign (by rfl)) rfl fun a ha => ?_
  refine pZ ?_
  refine hK1 _ _ ?_
  refine wp_seq_k fun K2 hK2 => ?_
  refine wp_region_lit ?_
  refine pY ha (yAssign (by rfl)) rfl fun a ha => ?_
  refine pZ ?_
  refine hK2 _ _ ?_
  refine wp_seq_k fun K3 hK3 => ?_
  refine wp_seq_k fun K4 hK4 => ?_
  refine wp_region_lit ?_
  refine pY ha (yAssign (by rfl)) rfl fun a ha => ?_
  refine pZ ?_
  refine hK4 _ _ ?_
  refine wp_block ?_
  refine loopI (ι := Nat × Nat) (fun i a w => i.1 ≤ xs.length ∧ i.2 ≤ 1099511627776 ∧ (i.2 ≤ lim → tNods (xs.take i.1) = i.2) ∧ Has a 34 [(0, .slice A xs.length c), (1, .int .i64 lim), (5, .int .i64 i.2), (6, .int .i64 i.1)] ∧ Sep W w (.rd kNod (.slice A xs.length c) xs :: cs)) (fun i => xs.length - i.1) ((0, 0)) ?_ ?_
  · exact ⟨Nat.zero_le _, by simp, fun _ => rfl, has4 ha (by rfl) (by rfl) (by rfl) (by rfl), hs⟩
  · rintro i a w ⟨h1, h2, h3, ha, hs⟩
    obtain ⟨i, m⟩ := i; simp only at h1 h2 h3 ha hs
    refine wp_seq_k fun K5 hK5 => ?_
    refine wp_seq_k fun K6 hK6 => ?_
    refine wp_region_lit ?_
    refine pY ha (yMove (by rfl)) rfl fun a ha => ?_
    refine pY ha (yMove (by rfl)) rfl fun a ha => ?_
    refine pY ha (yLenS Tryd.runUnderlying47 (by rfl)) rfl fun a ha => ?_
    refine pY ha (yLss (by rfl) (by rfl)) rfl fun a ha => ?_
    refine pY ha (yMove (by rfl)) rfl fun a ha => ?_
    refine gDec (t := 11) ha (by rfl) (fun hg4 hp4 => ?_) (fun hg4 hp4 => ?_)
    · rw [hg4] at ha
      refine gOff ha rfl rfl (by rfl) rfl rfl fun a ha => ?_
      refine gOff ha rfl rfl (by rfl) rfl rfl fun a ha => ?_
      refine gOff ha rfl rfl (by rfl) rfl rfl fun a ha => ?_
      first | refine pY ha (yPickT (by rfl) (by rfl)) rfl fun a ha => ?_ | refine pY ha (yPickF (by rfl) (by rfl)) rfl fun a ha => ?_ | refine pY ha (yPick (by rfl) (by rfl) (by rfl)) rfl fun a ha => ?_
      refine pZ ?_
      refine hK6 _ _ ?_
      refine cFalse ha (by rfl) ?_
      refine wp_exit ?_
      refine hK3 _ _ ?_
      refine wp_seq_k fun K7 hK7 => ?_
      refine wp_region_lit ?_
      refine pY ha (yMove (by rfl)) rfl fun a ha => ?_
      refine pY ha (yAssign (by rfl)) rfl fun a ha => ?_
      refine pZ ?_
      refine hK7 _ _ ?_
      refine wp_ret ?_
      show bodyPost Tryd.prog Tryd.f38 _ .ret _ _
      refine ret1 rfl ha (by rfl) ?_
      exact ⟨m, rfl, h2, fun hle => by rw [← h3 hle, List.take_of_length_le (by have := of_decide_eq_false hg4; omega)], hs.drop⟩
    · rw [hg4] at ha
      have hp4 := of_decide_eq_true hg4
      refine gOn ha rfl rfl (by rfl) ?_
      refine pY ha (yMove (by rfl)) rfl fun a ha => ?_
      refine gOn ha rfl rfl (by rfl) ?_
      refine pY ha (yMove (by rfl)) rfl fun a ha => ?_
      refine gOn ha rfl rfl (by rfl) ?_
      refine pY ha (yLeq (by rfl) (by rfl)) rfl fun a ha => ?_
      first | refine pY ha (yPickT (by rfl) (by rfl)) rfl fun a ha => ?_ | refine pY ha (yPickF (by rfl) (by rfl)) rfl fun a ha => ?_ | refine pY ha (yPick (by rfl) (by rfl) (by rfl)) rfl fun a ha => ?_
      refine pZ ?_
      refine hK6 _ _ ?_
      first | refine cNDec ha (by rfl) (fun hc15 => ?_) (fun hc15 => ?_) | refine cDec ha (by rfl) (fun hc15 => ?_) (fun hc15 => ?_) | refine cSplit ha (by rfl) (fun hc15 => ?_) (fun hc15 => ?_)
      · obtain ⟨x, hx⟩ : ∃ x, xs[i]? = some x := ⟨_, List.getElem?_eq_getElem (by omega)⟩
        have hxz := hsz x (List.mem_of_getElem? hx)
        have hsum := sum_at (f := fun x => x.name.size + x.text.size + 3) hx
        obtain ⟨b0, off, rfl, hs⟩ := hs.rd_nod .here hx
        refine wp_skip ?_
        refine hK5 _ _ ?_
        refine wp_seq_k fun K8 hK8 => ?_
        refine wp_block ?_
        refine dStart (fun w => Sep W w _) [13, 14] (by kernel_rfl) rfl (hs.drew) ?_
        have hs := Sep.drew hs
        generalize World.drew _ = w at hs ⊢
        refine dP 0 rfl (by kernel_rfl) ha won0 (fun _ => yMove (by rfl)) rfl (fun _ _ _ h => h) fun a ha => ?_
        refine dP 1 rfl (by kernel_rfl) ha won0 (fun _ => yMove (by rfl)) rfl (fun _ _ _ h => h) fun a ha => ?_
        refine dP 2 rfl (by kernel_rfl) ha won0 (fun _ => yMove (by rfl)) rfl (fun _ _ _ h => h) fun a ha => ?_
        refine dP 3 rfl (by kernel_rfl) ha won0 (fun _ => yIndexA Tryd.runUnderlying47 Tryd.sizeOf65 (by rfl) (by rfl) (by omega) (by omega)) rfl (fun _ _ _ h => h) fun a ha => ?_
        refine dP 4 rfl (by kernel_rfl) ha won0 (fun _ => yFieldA Tryd.runUnderlying65 rfl Tryd.sizeOf9 rfl (by rfl)) rfl (fun _ _ _ h => h) fun a ha => ?_
        first | refine dT 5 rfl (by kernel_rfl) ha won0 (fun _ hs => yLoadB Tryd.isAgg9 hs (by rfl) (by repeat first | exact .here | apply Pick.there) (by rfl)) (hs) rfl (fun _ _ _ h => h) fun a ha => ?_ | refine dT 5 rfl (by kernel_rfl) ha won0 (fun _ hs => yLoadR Tryd.isAgg9 hs (by rfl) (by repeat first | exact .here | apply Pick.there) (by rfl)) (hs) rfl (fun _ _ _ h => h) fun a ha => ?_ | refine dT 5 rfl (by kernel_rfl) ha won0 (fun _ hs => yLoadR0 Tryd.isAgg9 hs (by rfl) (by repeat first | exact .here | apply Pick.there) (by rfl)) (hs) rfl (fun _ _ _ h => h) fun a ha => ?_
        refine dP 6 rfl (by kernel_rfl) ha won0 (fun _ => yLenStr Tryd.runUnderlying9 (by rfl)) rfl (fun _ _ _ h => h) fun a ha => ?_
        refine dP 7 rfl (by kernel_rfl) ha won0 (fun _ => yMove (by rfl)) rfl (fun _ _ _ h => h) fun a ha => ?_
        refine dP 8 rfl (by kernel_rfl) ha won0 (fun _ => yMove (by rfl)) rfl (fun _ _ _ h => h) fun a ha => ?_
        refine dP 9 rfl (by kernel_rfl) ha won0 (fun _ => yIndexA Tryd.runUnderlying47 Tryd.sizeOf65 (by rfl) (by rfl) (by omega) (by omega)) rfl (fun _ _ _ h => h) fun a ha => ?_
        refine dP 10 rfl (by kernel_rfl) ha won0 (fun _ => yFieldA Tryd.runUnderlying65 rfl Tryd.sizeOf9 rfl (by rfl)) rfl (fun _ _ _ h => h) fun a ha => ?_
        first | refine dT 11 rfl (by kernel_rfl) ha won0 (fun _ hs => yLoadB Tryd.isAgg9 hs (by rfl) (by repeat first | exact .here | apply Pick.there) (by rfl)) (hs) rfl (fun _ _ _ h => h) fun a ha => ?_ | refine dT 11 rfl (by kernel_rfl) ha won0 (fun _ hs => yLoadR Tryd.isAgg9 hs (by rfl) (by repeat first | exact .here | apply Pick.there) (by rfl)) (hs) rfl (fun _ _ _ h => h) fun a ha => ?_ | refine dT 11 rfl (by kernel_rfl) ha won0 (fun _ hs => yLoadR0 Tryd.isAgg9 hs (by rfl) (by repeat first | exact .here | apply Pick.there) (by rfl)) (hs) rfl (fun _ _ _ h => h) fun a ha => ?_
        refine dP 12 rfl (by kernel_rfl) ha won0 (fun _ => yLenStr Tryd.runUnderlying9 (by rfl)) rfl (fun _ _ _ h => h) fun a ha => ?_
        refine dMakel 13 rfl (by kernel_rfl) rfl ha won0 (bslWgt31_3_0_1_2 (by rfl) (by rfl) (by rfl)) hs rfl fun b w hs a ha => ?_
        have hs := hs.ints_rd (xs := [(x.name.size : Int), (x.text.size : Int), 3]) .here (by intro y hy; simp at hy; omega)
        refine dCl 14 rfl (by kernel_rfl) rfl ha won0 (nCall Tryd.call35 (by rfl)) rfl (Sum_c h2 (by intro y hy; simp at hy; omega) hs .here) ?_
        rintro v w ⟨rfl, hs⟩ a ha
        refine dP 15 rfl (by kernel_rfl) ha won0 (fun _ => yAssign (by rfl)) rfl (fun _ _ _ h => h) fun a ha => ?_
        refine dZ (by kernel_rfl) ?_
        refine hK8 _ _ ?_
        refine wp_region_lit ?_
        refine pY ha (yMove (by rfl)) rfl fun a ha => ?_
        first | refine pY ha (yAddN (by rfl) (by rfl) ⟨by omega, by omega⟩) rfl fun a ha => ?_ | refine pY ha (yAdd (by rfl) (by rfl)) rfl fun a ha => ?_
        refine pY ha (yAssign (by rfl)) rfl fun a ha => ?_
        refine pZ ?_
        obtain ⟨q, hq, hq1, hq2⟩ := min_nat m (s := sumL [(x.name.size : Int), (x.text.size : Int), 3]) (by simp only [sumL]; omega)
        rw [hq] at ha
        refine ⟨(i + 1, q), ⟨by simp only; omega, hq1, ?_, has4 ha (by rfl) (by rfl) (by rfl) (by rfl), hs.drop.drop⟩, by simp only; omega⟩
        intro hle
        simp only at hle ⊢
        have hq3 := hq2 (by omega)
        simp only [sumL] at hq3
        unfold tNods at h3 ⊢
        rw [hsum, h3 (by omega)]
        omega
      · refine wp_exit ?_
        refine hK3 _ _ ?_
        refine wp_seq_k fun K9 hK9 => ?_
        refine wp_region_lit ?_
        refine pY ha (yMove (by rfl)) rfl fun a ha => ?_
        refine pY ha (yAssign (by rfl)) rfl fun a ha => ?_
        refine pZ ?_
        refine hK9 _ _ ?_
        refine wp_ret ?_
        show bodyPost Tryd.prog Tryd.f38 _ .ret _ _
        refine ret1 rfl ha (by rfl) ?_
        exact ⟨m, rfl, h2, fun hle => absurd hle (by omega), hs.drop⟩
theorem WgActns_c {A : Option Addr} {n c lim : Nat} {xs : List Actn} (hlim : lim ≤ 100000) (hsz : ∀ x ∈ xs, x.name.size ≤ 9223372036854775807 ∧ ∀ y ∈ x.ops, y.text.size ≤ 9223372036854775807) (hs : Sep W w cs) (hk : Pick cs (.rd kActn (.slice A n c) xs) r) :
    Calls P 37 #[.slice A n c, .int .i64 lim] w (Rt fun v w' => ∃ R : Nat, v = .int .i64 R ∧ R ≤ 1099511627776 ∧ (R ≤ lim → tActns xs = R) ∧ Sep W w' cs) := by
  obtain ⟨rfl, hl⟩ := hs.rd_shape hk
  unfold maxLen at hl
  have hs := hs.cpR hk
  refine enter Tryd.func37 Tryd.ntmps37 rfl rfl fun a (ha : Has a 35 [(0, _), (1, _)]) => ?_
  refine wp_seq_k fun K1 hK1 => ?_
  refine wp_region_lit ?_
  refine pY ha (yAssign (by rfl)) rfl fun a ha => ?_
  refine pZ ?_
  refine hK1 _ _ ?_
  refine wp_seq_k fun K2 hK2 => ?_
  refine wp_region_lit ?_
  refine pY ha (yAssign (by rfl)) rfl fun a ha => ?_
  refine pZ ?_
  refine hK2 _ _ ?_
  refine wp_seq_k fun K3 hK3 => ?_
  refine wp_seq_k fun K4 hK4 => ?_
  refine wp_region_lit ?_
  refine pY ha (yAssign (by rfl)) rfl fun a ha => ?_
  refine pZ ?_
  refine hK4 _ _ ?_
  refine wp_block ?_
  refine loopI (ι := Nat × Nat) (fun i a w => i.1 ≤ xs.length ∧ i.2 ≤ 1099511627776 ∧ (i.2 ≤ lim → tActns (xs.take i.1) = i.2) ∧ Has a 35 [(0, .slice A xs.length c), (1, .int .i64 lim), (5, .int .i64 i.2), (6, .int .i64 i.1)] ∧ Sep W w (.rd kActn (.slice A xs.length c) xs :: cs)) (fun i => xs.length - i.1) ((0, 0)) ?_ ?_
  · exact ⟨Nat.zero_le _, by simp, fun _ => rfl, has4 ha (by rfl) (by rfl) (by rfl) (by rfl), hs⟩
  · rintro i a w ⟨h1, h2, h3, ha, hs⟩
    obtain ⟨i, m⟩ := i; simp only at h1 h2 h3 ha hs
    refine wp_seq_k fun K5 hK5 => ?_
    refine wp_seq_k fun K6 hK6 => ?_
    refine wp_region_lit ?_
    refine pY ha (yMove (by rfl)) rfl fun a ha => ?_
    refine pY ha (yMove (by rfl)) rfl fun a ha => ?_
    refine pY ha (yLenS Tryd.runUnderlying44 (by rfl)) rfl fun a ha => ?_
    refine pY ha (yLss (by rfl) (by rfl)) rfl fun a ha => ?_
    refine pY ha (yMove (by rfl)) rfl fun a ha => ?_
    refine gDec (t := 11) ha (by rfl) (fun hg4 hp4 => ?_) (fun hg4 hp4 => ?_)
    · rw [hg4] at ha
      refine gOff ha rfl rfl (by rfl) rfl rfl fun a ha => ?_
      refine gOff ha rfl rfl (by rfl) rfl rfl fun a ha => ?_
      refine gOff ha rfl rfl (by rfl) rfl rfl fun a ha => ?_
      first | refine pY ha (yPickT (by rfl) (by rfl)) rfl fun a ha => ?_ | refine pY ha (yPickF (by rfl) (by rfl)) rfl fun a ha => ?_ | refine pY ha (yPick (by rfl) (by rfl) (by rfl)) rfl fun a ha => ?_
      refine pZ ?_
      refine hK6 _ _ ?_
      refine cFalse ha (by rfl) ?_
      refine wp_exit ?_
      refine hK3 _ _ ?_
      refine wp_seq_k fun K7 hK7 => ?_
      refine wp_region_lit ?_
      refine pY ha (yMove (by rfl)) rfl fun a ha => ?_
      refine pY ha (yAssign (by rfl)) rfl fun a ha => ?_
      refine pZ ?_
      refine hK7 _ _ ?_
      refine wp_ret ?_
      show bodyPost Tryd.prog Tryd.f37 _ .ret _ _
      refine ret1 rfl ha (by rfl) ?_
      exact ⟨m, rfl, h2, fun hle => by rw [← h3 hle, List.take_of_length_le (by have := of_decide_eq_false hg4; omega)], hs.drop⟩
    · rw [hg4] at ha
      have hp4 := of_decide_eq_true hg4
      refine gOn ha rfl rfl (by rfl) ?_
      refine pY ha (yMove (by rfl)) rfl fun a ha => ?_
      refine gOn ha rfl rfl (by rfl) ?_
      refine pY ha (yMove (by rfl)) rfl fun a ha => ?_
      refine gOn ha rfl rfl (by rfl) ?_
      refine pY ha (yLeq (by rfl) (by rfl)) rfl fun a ha => ?_
      first | refine pY ha (yPickT (by rfl) (by rfl)) rfl fun a ha => ?_ | refine pY ha (yPickF (by rfl) (by rfl)) rfl fun a ha => ?_ | refine pY ha (yPick (by rfl) (by rfl) (by rfl)) rfl fun a ha => ?_
      refine pZ ?_
      refine hK6 _ _ ?_
      first | refine cNDec ha (by rfl) (fun hc15 => ?_) (fun hc15 => ?_) | refine cDec ha (by rfl) (fun hc15 => ?_) (fun hc15 => ?_) | refine cSplit ha (by rfl) (fun hc15 => ?_) (fun hc15 => ?_)
      · obtain ⟨x, hx⟩ : ∃ x, xs[i]? = some x := ⟨_, List.getElem?_eq_getElem (by omega)⟩
        have hxz := hsz x (List.mem_of_getElem? hx)
        have hsum := sum_at (f := fun x => x.name.size + tComps x.ops + 3) hx
        obtain ⟨b0, off, A', n', c', rfl, hs⟩ := hs.rd_actn .here hx
        refine wp_skip ?_
        refine hK5 _ _ ?_
        refine wp_seq_k fun K8 hK8 => ?_
        refine wp_block ?_
        refine dStart (fun w => Sep W w _) [14, 15] (by kernel_rfl) rfl (hs.drew) ?_
        have hs := Sep.drew hs
        generalize World.drew _ = w at hs ⊢
        refine dP 0 rfl (by kernel_rfl) ha won0 (fun _ => yMove (by rfl)) rfl (fun _ _ _ h => h) fun a ha => ?_
        refine dP 1 rfl (by kernel_rfl) ha won0 (fun _ => yMove (by rfl)) rfl (fun _ _ _ h => h) fun a ha => ?_
        refine dP 2 rfl (by kernel_rfl) ha won0 (fun _ => yMove (by rfl)) rfl (fun _ _ _ h => h) fun a ha => ?_
        refine dP 3 rfl (by kernel_rfl) ha won0 (fun _ => yIndexA Tryd.runUnderlying44 Tryd.sizeOf63 (by rfl) (by rfl) (by omega) (by omega)) rfl (fun _ _ _ h => h) fun a ha => ?_
        refine dP 4 rfl (by kernel_rfl) ha won0 (fun _ => yFieldA Tryd.runUnderlying63 rfl Tryd.sizeOf9 rfl (by rfl)) rfl (fun _ _ _ h => h) fun a ha => ?_
        first | refine dT 5 rfl (by kernel_rfl) ha won0 (fun _ hs => yLoadB Tryd.isAgg9 hs (by rfl) (by repeat first | exact .here | apply Pick.there) (by rfl)) (hs) rfl (fun _ _ _ h => h) fun a ha => ?_ | refine dT 5 rfl (by kernel_rfl) ha won0 (fun _ hs => yLoadR Tryd.isAgg9 hs (by rfl) (by repeat first | exact .here | apply Pick.there) (by rfl)) (hs) rfl (fun _ _ _ h => h) fun a ha => ?_ | refine dT 5 rfl (by kernel_rfl) ha won0 (fun _ hs => yLoadR0 Tryd.isAgg9 hs (by rfl) (by repeat first | exact .here | apply Pick.there) (by rfl)) (hs) rfl (fun _ _ _ h => h) fun a ha => ?_
        refine dP 6 rfl (by kernel_rfl) ha won0 (fun _ => yLenStr Tryd.runUnderlying9 (by rfl)) rfl (fun _ _ _ h => h) fun a ha => ?_
        refine dP 7 rfl (by kernel_rfl) ha won0 (fun _ => yMove (by rfl)) rfl (fun _ _ _ h => h) fun a ha => ?_
        refine dP 8 rfl (by kernel_rfl) ha won0 (fun _ => yMove (by rfl)) rfl (fun _ _ _ h => h) fun a ha => ?_
        refine dP 9 rfl (by kernel_rfl) ha won0 (fun _ => yIndexA Tryd.runUnderlying44 Tryd.sizeOf63 (by rfl) (by rfl) (by omega) (by omega)) rfl (fun _ _ _ h => h) fun a ha => ?_
        refine dP 10 rfl (by kernel_rfl) ha won0 (fun _ => yFieldA Tryd.runUnderlying63 rfl Tryd.sizeOf41 rfl (by rfl)) rfl (fun _ _ _ h => h) fun a ha => ?_
        first | refine dT 11 rfl (by kernel_rfl) ha won0 (fun _ hs => yLoadB Tryd.isAgg41 hs (by rfl) (by repeat first | exact .here | apply Pick.there) (by rfl)) (hs) rfl (fun _ _ _ h => h) fun a ha => ?_ | refine dT 11 rfl (by kernel_rfl) ha won0 (fun _ hs => yLoadR Tryd.isAgg41 hs (by rfl) (by repeat first | exact .here | apply Pick.there) (by rfl)) (hs) rfl (fun _ _ _ h => h) fun a ha => ?_ | refine dT 11 rfl (by kernel_rfl) ha won0 (fun _ hs => yLoadR0 Tryd.isAgg41 hs (by rfl) (by repeat first | exact .here | apply Pick.there) (by rfl)) (hs) rfl (fun _ _ _ h => h) fun a ha => ?_
        refine dP 12 rfl (by kernel_rfl) ha won0 (fun _ => yMove (by rfl)) rfl (fun _ _ _ h => h) fun a ha => ?_
        refine dC 13 rfl (by kernel_rfl) rfl ha won0 (nCall Tryd.call36 (by rfl)) rfl (WgComps_c hlim hxz.2 hs (.there .here)) ?_
        rintro v w ⟨R, rfl, hR1, hR2, hs⟩
        refine ⟨hs, fun a ha => ?_⟩
        refine dMakel 14 rfl (by kernel_rfl) rfl ha won0 (bslWgt31_3_0_1_2 (by rfl) (by rfl) (by rfl)) hs rfl fun b w hs a ha => ?_
        have hs := hs.ints_rd (xs := [(x.name.size : Int), (R : Int), 3]) .here (by intro y hy; simp at hy; omega)
        refine dCl 15 rfl (by kernel_rfl) rfl ha won0 (nCall Tryd.call35 (by rfl)) rfl (Sum_c h2 (by intro y hy; simp at hy; omega) hs .here) ?_
        rintro v w ⟨rfl, hs⟩ a ha
        refine dP 16 rfl (by kernel_rfl) ha won0 (fun _ => yAssign (by rfl)) rfl (fun _ _ _ h => h) fun a ha => ?_
        refine dZ (by kernel_rfl) ?_
        refine hK8 _ _ ?_
        refine wp_region_lit ?_
        refine pY ha (yMove (by rfl)) rfl fun a ha => ?_
        first | refine pY ha (yAddN (by rfl) (by rfl) ⟨by omega, by omega⟩) rfl fun a ha => ?_ | refine pY ha (yAdd (by rfl) (by rfl)) rfl fun a ha => ?_
        refine pY ha (yAssign (by rfl)) rfl fun a ha => ?_
        refine pZ ?_
        obtain ⟨q, hq, hq1, hq2⟩ := min_nat m (s := sumL [(x.name.size : Int), (R : Int), 3]) (by simp only [sumL]; omega)
        rw [hq] at ha
        refine ⟨(i + 1, q), ⟨by simp only; omega, hq1, ?_, has4 ha (by rfl) (by rfl) (by rfl) (by rfl), hs.drop.drop.drop⟩, by simp only; omega⟩
        intro hle
        simp only at hle ⊢
        have hq3 := hq2 (by omega)
        simp only [sumL] at hq3
        unfold tActns at h3 ⊢
        rw [hsum, h3 (by omega)]
        rw [hR2 (by omega)]; omega
      · refine wp_exit ?_
        refine hK3 _ _ ?_
        refine wp_seq_k fun K9 hK9 => ?_
        refine wp_region_lit ?_
        refine pY ha (yMove (by rfl)) rfl fun a ha => ?_
        refine pY ha (yAssign (by rfl)) rfl fun a ha => ?_
        refine pZ ?_
        refine hK9 _ _ ?_
        refine wp_ret ?_
        show bodyPost Tryd.prog Tryd.f37 _ .ret _ _
        refine ret1 rfl ha (by rfl) ?_
        exact ⟨m, rfl, h2, fun hle => absurd hle (by omega), hs.drop⟩
end
end Go.Proofs.YtnkcmpmcmkljnaaDoor
