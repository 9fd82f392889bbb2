/- append onto a slice of one's own. -/
import Derived.Test.YtnkcmpmcmkljnaaDoorStep
set_option linter.unusedVariables false
set_option linter.unusedSimpArgs false
namespace Go.Proofs.YtnkcmpmcmkljnaaDoor
open Go.RowKit

/-- U is a slice type, E its elements' type: so many cells, so many bytes each. -/
def ElemT (P : Program) (U E : TypeId) (sz bytes : Nat) : Prop :=
  P.underlying U = some (.slice E) ∧ 0 < sz ∧ ∃ i z, P.info? E = some i ∧ i.zero = some z ∧ i.size = sz ∧ i.bytes = bytes ∧ z.cells.size = sz
/-- A slice's type, or string's. -/
def NoInt (P : Program) (U : TypeId) : Prop := (∃ e, P.underlying U = some (.slice e)) ∨ P.underlying U = some .string
theorem ElemT.noInt {P : Program} {U E : TypeId} {sz bytes : Nat} (h : ElemT P U E sz bytes) : NoInt P U := .inl ⟨_, h.1⟩
theorem elemT_mk {P : Program} {U E : TypeId} {sz bytes : Nat} (h1 : P.underlying U = some (.slice E)) (h0 : Nat.blt 0 sz = true)
    (h2 : (P.info? E).map (fun i => ((i.zero).map (fun z => z.cells.size), i.size, i.bytes)) = some (some sz, sz, bytes)) : ElemT P U E sz bytes := by
  refine ⟨h1, beq_lt h0, ?_⟩
  cases hi : P.info? E with
  | none => rw [hi] at h2; cases h2
  | some i =>
    rw [hi] at h2
    simp only [Option.map_some, Option.some.injEq, Prod.mk.injEq] at h2
    obtain ⟨h3, h4, h5⟩ := h2
    cases hz : i.zero with
    | none => rw [hz] at h3; cases h3
    | some z => rw [hz] at h3; exact ⟨i, z, rfl, hz, h4, h5, by simpa using h3⟩

section
variable {P : Program} {W w w' : World} {U U2 E ty : TypeId} {sz bytes m c : Nat} {cs r r' : List Ch} {α : Type} {d : Kd α} {xs ys : List α} {b off : Nat} {v xv : Value} {news : List Value}

theorem run_append_any_room (he : ElemT P U E sz bytes) (hU : NoInt P U2) (hlen : ∀ w, (Builtin.lenOf xv).run P w = .ok m w)
    (hsrc : (Builtin.firstCells sz m xv).run P w = .ok news.toArray w) (hl : news.length = m * sz) (h1 : ∀ u ∈ news, u.oneCell' = true)
    {n cap : Nat} {cur : Array Value} (hg : w.heap[b]? = some (.cells cur E (0, 0))) (hroom : n + m ≤ cap) (hcur : cur.size = cap * sz) :
    (Builtin.append_ #[U, U2] ty #[.slice (some ⟨b, 0, none⟩) n cap, xv]).run P w = .ok (.slice (some ⟨b, 0, none⟩) (n + m) cap) (w.setRow b (cur.toList.take (n * sz) ++ news ++ cur.toList.drop (n * sz + news.length)).toArray) := by
  obtain ⟨ht, h0, i, z, hi, hz, rfl, rfl, hzs⟩ := he
  have hfit : n * i.size + news.length ≤ cur.size := by rw [hl, hcur, ← Nat.add_mul]; exact Nat.mul_le_mul_right _ hroom
  have hst := run_storeCells_at P b (n * i.size) E news 0 cur w hg (by simpa using hfit) h1
  simp only [Nat.add_zero] at hst
  rcases hU with ⟨e2, hd⟩ | hd <;> simp [Builtin.append_, run_underlying ht, run_underlying hd, sizeOf, typeInfo, hi, hlen, hroom, hsrc, Addr.add_lit, hst]
theorem run_append_any_zero (he : ElemT P U E sz bytes) (hU : NoInt P U2) (hlen : ∀ w, (Builtin.lenOf xv).run P w = .ok 0 w)
    (hsrc : (Builtin.firstCells sz 0 xv).run P w = .ok #[] w) {A : Option Addr} {n cap : Nat} (hn : n ≤ cap) :
    (Builtin.append_ #[U, U2] ty #[.slice A n cap, xv]).run P w = .ok (.slice A n cap) w := by
  obtain ⟨ht, h0, i, z, hi, hz, rfl, rfl, hzs⟩ := he
  rcases hU with ⟨e2, hd⟩ | hd <;> cases A <;> simp [Builtin.append_, run_underlying ht, run_underlying hd, sizeOf, typeInfo, hi, hlen, hn, hsrc, storeCells]
theorem run_append_any_grow (he : ElemT P U E sz bytes) (hU : NoInt P U2) (hlen : ∀ w, (Builtin.lenOf xv).run P w = .ok m w)
    (hsrc : (Builtin.firstCells sz m xv).run P w.drew = .ok news.toArray w.drew) {A : Option Addr} {n cap : Nat} {olds : List Value}
    (hold : (Builtin.firstCells sz n (.slice A n cap)).run P w.drew = .ok olds.toArray w.drew) (hg : cap < n + m) (hm : n + m ≤ maxLen) (hb : (n + m) * bytes ≤ 140737488355328) :
    ∃ nc rest, n + m ≤ nc ∧ nc ≤ maxLen ∧ rest.length = (nc - (n + m)) * sz ∧
    (Builtin.append_ #[U, U2] ty #[.slice A n cap, xv]).run P w = .ok (.slice (some ⟨w.heap.size, 0, none⟩) (n + m) nc) (w.drew.alloc (.cells (olds ++ news ++ rest).toArray E)) := by
  obtain ⟨ht, h0, i, z, hi, hz, rfl, rfl, hzs⟩ := he
  have hn : ¬ (n + m ≤ cap) := by omega
  have h63' : ¬ (9223372036854775807 < ((n : Int) + (m : Int))) := by unfold maxLen at hm; omega
  have hfit := growslice_fits hg hb
  have h48' : ¬ (281474976710656 < Builtin.nextslicecap (n + m) cap * i.bytes) := by omega
  refine ⟨grownCap w (n + m) cap E, (Builtin.zeroCells z.cells (grownCap w (n + m) cap E - (n + m))).toList, grownCap_ge w _ _ _, grownCap_le_maxLen w _ _ _ hm, by simp [size_zeroCells, hzs], ?_⟩
  have e : ∀ (z : Array Value), olds.toArray ++ (news.toArray ++ z) = (olds ++ (news ++ z.toList)).toArray := fun z => by apply Array.ext'; simp
  rcases hU with ⟨e2, hd⟩ | hd <;> simp [Builtin.append_, run_underlying ht, run_underlying hd, sizeOf, typeInfo, zeroValue, hi, hz, hlen, hn, h63', h48', Question.forced, hsrc, hold, newRow, grownCap, e]

/-- News: the cells of the elements ys, one behind the other. -/
def Kd.behind (d : Kd α) (Z : Hp) (news : List Value) (ys : List α) : Prop :=
  ∀ i y, ys[i]? = some y → ∃ es, d.R Z y es ∧ ∀ j u, es[j]? = some u → news[i * d.sz + j]? = some u
theorem Kd.newsM (d : Kd α) {Z Z' : Hp} (h : Z.le Z') (hn : d.behind Z news ys) : d.behind Z' news ys := fun i y hy => by
  obtain ⟨es, h1, h2⟩ := hn i y hy
  exact ⟨es, d.mono h h1, h2⟩
theorem Kd.row_news (d : Kd α) {Z : Hp} {arr : List Value} {rest : List Value} {n : Nat} (hx : d.row Z arr.toArray 0 xs) (hlen : arr.length = xs.length * d.sz) (hy : d.behind Z news ys) :
    d.row Z (arr ++ news ++ rest).toArray 0 (xs ++ ys) := fun i x hi => by
  rcases Nat.lt_or_ge i xs.length with hlt | hge
  · rw [List.getElem?_append_left hlt] at hi
    obtain ⟨es, hR, hc⟩ := hx i x hi
    refine ⟨es, hR, fun j u hj => ?_⟩
    have := hc j u hj
    have hb := (List.getElem?_eq_some_iff.1 (by simpa using this : arr[0 + i * d.sz + j]? = some u)).1
    rw [List.append_assoc]
    simp only [List.getElem?_toArray] at this ⊢
    rw [List.getElem?_append_left hb]; exact this
  · rw [List.getElem?_append_right hge] at hi
    obtain ⟨es, hR, hc⟩ := hy _ _ hi
    refine ⟨es, hR, fun j u hj => ?_⟩
    have := hc j u hj
    have hb := (List.getElem?_eq_some_iff.1 this).1
    have hmul : i * d.sz = xs.length * d.sz + (i - xs.length) * d.sz := by rw [← Nat.add_mul]; congr 1; omega
    simp only [List.getElem?_toArray]
    rw [List.append_assoc, List.getElem?_append_right (by omega), List.getElem?_append_left (by omega), ← this]
    congr 1; omega
theorem Kd.row_take (d : Kd α) {Z : Hp} {arr : Array Value} (hx : d.row Z arr 0 xs) (hsz : xs.length * d.sz ≤ arr.size) : d.row Z (arr.toList.take (xs.length * d.sz)).toArray 0 xs := fun i x hi => by
  obtain ⟨es, hR, hc⟩ := hx i x hi
  refine ⟨es, hR, fun j u hj => ?_⟩
  have h := hc j u hj
  have hlt : i < xs.length := (List.getElem?_eq_some_iff.1 hi).1
  have hj' : j < d.sz := by rw [← d.len hR]; exact (List.getElem?_eq_some_iff.1 hj).1
  have : i * d.sz + j < xs.length * d.sz := by
    have : (i + 1) * d.sz ≤ xs.length * d.sz := Nat.mul_le_mul_right _ hlt
    rw [Nat.add_mul] at this
    omega
  simp only [List.getElem?_toArray, List.getElem?_take]
  rw [if_pos (by omega)]
  simpa using h

/-- APPEND. What is put behind: m elements' cells, wherever they come from. -/
theorem append_own (he : ElemT P U E d.sz bytes) (hU : NoInt P U2) (hs : Sep W w (.ol d E v xs :: .ro (fun Z => d.behind Z news ys) (fun _ _ h => d.newsM h) :: cs))
    (hlen : ∀ w, (Builtin.lenOf xv).run P w = .ok ys.length w) (hsrc : ∀ n, (Builtin.firstCells d.sz ys.length xv).run P { w with drawn := n } = .ok news.toArray { w with drawn := n })
    (hl : news.length = ys.length * d.sz) (h1 : ∀ u ∈ news, u.oneCell' = true) (hm : xs.length + ys.length ≤ maxLen) (hb : (xs.length + ys.length) * bytes ≤ 140737488355328) :
    ∃ v' w', (Builtin.append_ #[U, U2] ty #[v, xv]).run P w = .ok v' w' ∧ Sep W w' (.ol d E v' (xs ++ ys) :: cs) := by
  rcases hs.ol_open with ⟨⟨A, rfl⟩, rfl, hs1⟩ | ⟨b, cap, arr, rfl, hc1, hc2, hc3, hs1⟩
  · rcases Nat.eq_zero_or_pos ys.length with h0 | h0
    · obtain rfl : ys = [] := List.eq_nil_of_length_eq_zero h0
      obtain rfl : news = [] := List.eq_nil_of_length_eq_zero (by simpa using hl)
      exact ⟨_, w, run_append_any_zero he hU hlen (hsrc w.drawn) (Nat.le_refl _), by rw [List.append_nil]; exact hs1.drop.ol_nil d E A⟩
    · have hold : (Builtin.firstCells d.sz 0 (.slice A 0 0)).run P w.drew = .ok ([] : List Value).toArray w.drew := by cases A <;> simp [Builtin.firstCells, loadCells, loadCellsFrom]
      obtain ⟨nc, rest, g1, g2, g3, hr⟩ := run_append_any_grow (ty := ty) he hU hlen (hsrc _) hold (by omega) (by simpa using hm) (by simpa using hb)
      refine ⟨_, _, hr, ?_⟩
      have h2 := hs1.drew.alloc (.cells ([] ++ news ++ rest).toArray E)
      have h3 := h2.perm (List.Perm.refl _)
      have h4 : Sep W (w.drew.alloc (.cells ([] ++ news ++ rest).toArray E)) (.own w.heap.size (.cells ([] ++ news ++ rest).toArray E (0, 0)) :: .ro (fun Z => d.row Z ([] ++ news ++ rest).toArray 0 ([] ++ ys)) (fun _ _ h => d.row_mono h) :: cs) := by
        refine (((h2.perm (List.Perm.swap _ _ _)).imp (x := .ro (fun Z => d.row Z ([] ++ news ++ rest).toArray 0 ([] ++ ys)) (fun _ _ h => d.row_mono h)) fun Z _ _ hp => ?_)).perm (List.Perm.swap _ _ _)
        exact Kd.row_news d (n := 0) (fun i x hi => by simp at hi) (by simp) hp
      have h5 := Sep.ol_shut (cap := nc) h4 (by simpa using g1) g2 (by simp [hl, g3, ← Nat.add_mul]; congr 1; omega)
      simpa using h5
  · by_cases hroom : xs.length + ys.length ≤ cap
    · have hg := hs1.own_at .here
      have hr := run_append_any_room (ty := ty) he hU hlen (hsrc w.drawn) hl h1 hg hroom hc3
      have hxs : xs.length * d.sz ≤ arr.size := by rw [hc3]; exact Nat.mul_le_mul_right _ hc1
      have hns : xs.length * d.sz + news.length ≤ arr.size := by rw [hl, hc3, ← Nat.add_mul]; exact Nat.mul_le_mul_right _ hroom
      refine ⟨_, _, hr, ?_⟩
      have h2 : Sep W (w.setRow b (arr.toList.take (xs.length * d.sz) ++ news ++ arr.toList.drop (xs.length * d.sz + news.length)).toArray) _ :=
        hs1.change rfl rfl rfl (setRow_heap w b arr _ E (0, 0) hg) (fun i hi => setRow_other w b i _ hi)
      have h3 : Sep W (w.setRow b (arr.toList.take (xs.length * d.sz) ++ news ++ arr.toList.drop (xs.length * d.sz + news.length)).toArray)
          (.own b (.cells (arr.toList.take (xs.length * d.sz) ++ news ++ arr.toList.drop (xs.length * d.sz + news.length)).toArray E (0, 0)) :: .ro (fun Z => d.row Z (arr.toList.take (xs.length * d.sz) ++ news ++ arr.toList.drop (xs.length * d.sz + news.length)).toArray 0 (xs ++ ys)) (fun _ _ h => d.row_mono h) :: cs) := by
        have h4 := (h2.perm (List.Perm.swap _ _ _)).perm ((List.Perm.swap _ _ _).cons _)
        have h5 := (h4.perm ((List.Perm.swap _ _ _).cons _)).perm (List.Perm.refl _)
        have h6 : Sep W (w.setRow b (arr.toList.take (xs.length * d.sz) ++ news ++ arr.toList.drop (xs.length * d.sz + news.length)).toArray) (.ro (fun Z => d.row Z arr 0 xs) (fun _ _ h => d.row_mono h) :: .ro (fun Z => d.behind Z news ys) (fun _ _ h => d.newsM h) :: .own b (.cells (arr.toList.take (xs.length * d.sz) ++ news ++ arr.toList.drop (xs.length * d.sz + news.length)).toArray E (0, 0)) :: cs) :=
          h5.perm ((List.Perm.swap _ _ _).cons _)
        exact ((h6.ro_and).imp (x := .ro (fun Z => d.row Z (arr.toList.take (xs.length * d.sz) ++ news ++ arr.toList.drop (xs.length * d.sz + news.length)).toArray 0 (xs ++ ys)) (fun _ _ h => d.row_mono h)) fun Z _ _ hp =>
          Kd.row_news d (n := 0) (Kd.row_take d hp.1 hxs) (by simp; omega) hp.2).perm (List.Perm.swap _ _ _)
      have h7 := Sep.ol_shut (cap := cap) h3 (by simpa using hroom) hc2 (by
        have e1 : (arr.toList.take (xs.length * d.sz)).length = xs.length * d.sz := by simp; omega
        simp only [List.size_toArray, List.length_append, e1, List.length_drop, Array.length_toList]; omega)
      simpa using h7
    · have hg := hs1.own_at .here
      have hxs : xs.length * d.sz ≤ arr.size := by rw [hc3]; exact Nat.mul_le_mul_right _ hc1
      have hold : (Builtin.firstCells d.sz xs.length (.slice (some ⟨b, 0, none⟩) xs.length cap)).run P w.drew = .ok (arr.toList.take (xs.length * d.sz)).toArray w.drew := by
        refine run_firstCells_some w.drew d.sz xs.length _ _ _ _ (by simp; omega) (fun j u hj => ?_)
        rw [add_at]
        have : arr[j]? = some u := by
          rw [List.getElem?_take] at hj
          split at hj
          · simpa using hj
          · cases hj
        show (match w.heap[b]? with | some (.cells c _ _) => _ | _ => _) = _
        rw [hg]; simpa using this
      obtain ⟨nc, rest, g1, g2, g3, hr⟩ := run_append_any_grow (ty := ty) he hU hlen (hsrc _) hold (by omega) hm hb
      refine ⟨_, _, hr, ?_⟩
      have h2 := hs1.drop.drew.alloc (.cells (arr.toList.take (xs.length * d.sz) ++ news ++ rest).toArray E)
      have h3 := (h2.perm (List.Perm.swap _ _ _)).perm ((List.Perm.swap _ _ _).cons _)
      have h4 := ((h3.ro_and).imp (x := .ro (fun Z => d.row Z (arr.toList.take (xs.length * d.sz) ++ news ++ rest).toArray 0 (xs ++ ys)) (fun _ _ h => d.row_mono h)) fun Z _ _ hp =>
          Kd.row_news d (n := 0) (Kd.row_take d hp.1 hxs) (by simp; omega) hp.2).perm (List.Perm.swap _ _ _)
      have h5 := Sep.ol_shut (cap := nc) h4 (by simpa using g1) g2 (by
        have e1 : (arr.toList.take (xs.length * d.sz)).length = xs.length * d.sz := by simp; omega
        simp only [List.size_toArray, List.length_append, e1, hl, g3, ← Nat.add_mul]; congr 1; omega)
      simpa using h5
end
end Go.Proofs.YtnkcmpmcmkljnaaDoor
