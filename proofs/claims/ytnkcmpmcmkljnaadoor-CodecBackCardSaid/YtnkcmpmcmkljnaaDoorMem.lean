/- What lies in memory: kinds of data, slices for reading, slices of one's own; the operations on them. -/
import Derived.Test.YtnkcmpmcmkljnaaDoorOps
set_option linter.unusedVariables false
set_option linter.unusedSimpArgs false
namespace Go.Proofs.YtnkcmpmcmkljnaaDoor
open Go.RowKit

/-- A kind of data: how many cells, and what they hold (Z: what is for reading). -/
structure Kd (α : Type) where
  sz : Nat
  R : Hp → α → List Value → Prop
  mono : ∀ {Z Z' : Hp} {x : α} {cs : List Value}, Z.le Z' → R Z x cs → R Z' x cs
  len : ∀ {Z : Hp} {x : α} {cs : List Value}, R Z x cs → cs.length = sz
  one : ∀ {Z : Hp} {x : α} {cs : List Value}, R Z x cs → ∀ u ∈ cs, u.oneCell' = true

section
variable {α : Type} (d : Kd α)
/-- The elements xs stand in a row of cells from place 'off' on. -/
def Kd.row (Z : Hp) (arr : Array Value) (off : Nat) (xs : List α) : Prop :=
  ∀ i x, xs[i]? = some x → ∃ cs, d.R Z x cs ∧ ∀ j u, cs[j]? = some u → arr[off + i * d.sz + j]? = some u
theorem Kd.row_mono {Z Z' : Hp} (h : Z.le Z') {arr : Array Value} {off : Nat} {xs : List α} (hr : d.row Z arr off xs) : d.row Z' arr off xs := fun i x hx => by
  obtain ⟨cs, h1, h2⟩ := hr i x hx
  exact ⟨cs, d.mono h h1, h2⟩
/-- A slice for reading. -/
def Kd.sl (Z : Hp) (v : Value) (xs : List α) : Prop :=
  ∃ A c, v = .slice A xs.length c ∧ xs.length ≤ c ∧ c ≤ maxLen ∧ (0 < xs.length → ∃ b off arr T fr, A = some ⟨b, off, none⟩ ∧ Z b = some (.cells arr T fr) ∧ d.row Z arr off xs)
theorem Kd.sl_mono {Z Z' : Hp} (h : Z.le Z') {v : Value} {xs : List α} (hs : d.sl Z v xs) : d.sl Z' v xs := by
  obtain ⟨A, c, rfl, h1, h2, h3⟩ := hs
  refine ⟨A, c, rfl, h1, h2, fun h0 => ?_⟩
  obtain ⟨b, off, arr, T, fr, e, hz, hr⟩ := h3 h0
  exact ⟨b, off, arr, T, fr, e, h _ _ hz, d.row_mono h hr⟩
/-- A slice for reading, as an assertion. -/
def Ch.rd (v : Value) (xs : List α) : Ch := .ro (fun Z => d.sl Z v xs) (fun _ _ h => d.sl_mono h)
/-- Cells hold the element x. -/
def Ch.el (x : α) (cs : List Value) : Ch := .ro (fun Z => d.R Z x cs) (fun _ _ h => d.mono h)
end
/-- Cells for reading from a place on. -/
def Ch.at (b off : Nat) (cs : List Value) : Ch := .ro (fun Z => ∀ j u, cs[j]? = some u → Z.cell b (off + j) = some u) (fun _ _ h hp j u hj => Hp.cell_le h (hp j u hj))
/-- A block of one's own. -/
def Ch.blk (b : Nat) (T : TypeId) (cs : List Value) : Ch := .own b (.cells cs.toArray T (0, 0))
/-- A slice of one's own: none, or a block with the elements at its head. -/
def Ch.ol {α : Type} (d : Kd α) (T : TypeId) (v : Value) (xs : List α) : Ch :=
  .ex (Option (Nat × Nat × Array Value)) fun
    | none => .pu ((∃ A, v = .slice A 0 0) ∧ xs = [])
    | some (b, cap, arr) => .star (.own b (.cells arr T (0, 0))) (.ro (fun Z => v = .slice (some ⟨b, 0, none⟩) xs.length cap ∧ xs.length ≤ cap ∧ cap ≤ maxLen ∧ arr.size = cap * d.sz ∧ d.row Z arr 0 xs)
        (fun _ _ h ⟨h1, h2, h3, h4, h5⟩ => ⟨h1, h2, h3, h4, d.row_mono h h5⟩))

section
variable {W w : World} {l cs r r' : List Ch} {α : Type} {d : Kd α} {v : Value} {xs ys : List α} {b off : Nat} {T : TypeId} {vs : List Value}

theorem Sep.at_cell (h : Sep W w cs) (hk : Pick cs (.at b off vs) r) {j : Nat} {u : Value} (hj : vs[j]? = some u) : w.cell? ⟨b, off + j, none⟩ = some u :=
  h.know hk fun Z hz hp => cell_of_hp hz (hp j u hj)
theorem Sep.blk_cell (h : Sep W w cs) (hk : Pick cs (.blk b T vs) r) {j : Nat} {u : Value} (hj : vs[j]? = some u) : w.cell? ⟨b, j, none⟩ = some u := by
  have := h.own_at hk
  simp [World.cell?, this, hj]
theorem Sep.blk_frozen (h : Sep W w cs) (hk : Pick cs (.blk b T vs) r) (j : Nat) : w.frozen? ⟨b, j, none⟩ = false := by
  have := h.own_at hk
  simp [World.frozen?, this]
theorem Sep.blk_set (h : Sep W w cs) (hk : Pick cs (.blk b T vs) r) (j : Nat) (u : Value) : Sep W (w.setCell ⟨b, j, none⟩ u) (.blk b T (vs.set j u) :: r) := by
  have h1 := (h.pick hk).setCell j u
  unfold Ch.blk
  simpa using h1
theorem Sep.blk_alloc (h : Sep W w cs) (vs : Array Value) (T : TypeId) : Sep W (w.alloc (.cells vs T)) (.blk w.heap.size T vs.toList :: cs) := by
  have := h.alloc (.cells vs T)
  unfold Ch.blk
  simpa using this
theorem Sep.rd_len (h : Sep W w cs) (hk : Pick cs (.rd d v xs) r) : ∃ A c, v = .slice A xs.length c ∧ xs.length ≤ maxLen := h.know hk fun Z _ hp => by
  obtain ⟨A, c, e, h1, h2, _⟩ := hp
  exact ⟨A, c, e, by omega⟩
theorem Sep.rd_nil (h : Sep W w cs) : Sep W w (.rd d (.slice none 0 0) [] :: cs) := h.add fun Z => ⟨none, 0, rfl, Nat.le_refl _, by unfold maxLen; omega, fun h => by simp at h⟩
theorem Sep.rd_empty (h : Sep W w cs) (A : Option Addr) : Sep W w (.rd d (.slice A 0 0) [] :: cs) := h.add fun Z => ⟨A, 0, rfl, Nat.le_refl _, by unfold maxLen; omega, fun h => by simp at h⟩
/-- An element's cells. -/
theorem Sep.rd_at (h : Sep W w cs) (hk : Pick cs (.rd d v xs) r) {i : Nat} {x : α} (hx : xs[i]? = some x) : ∃ b off c es, v = .slice (some ⟨b, off, none⟩) xs.length c ∧ es.length = d.sz ∧ Sep W w (.at b (off + i * d.sz) es :: .el d x es :: cs) := by
  obtain ⟨h0, Z, H, hd, hz, hh, hw, ha⟩ := h
  obtain ⟨H1, H2, h1, h2, hd2, hc1, hr⟩ := Ch.all_perm hk.perm ha
  obtain ⟨A, c, rfl, hc, hm, hp⟩ := hc1
  have hi : i < xs.length := (List.getElem?_eq_some_iff.1 hx).1
  obtain ⟨b, off, arr, T, fr, rfl, hb, hrow⟩ := hp (by omega)
  obtain ⟨es, hR, hcells⟩ := hrow i x hx
  refine ⟨b, off, c, es, rfl, d.len hR, h0, Z, H, hd, hz, hh, hw, Hp.none, H, Hp.none_le _, Hp.le_refl _, Hp.none_dj _, fun j u hj => Hp.cell_of hb (hcells j u hj), Hp.none, H, Hp.none_le _, Hp.le_refl _, Hp.none_dj _, hR, ha⟩
/-- A slice of a slice. -/
theorem Kd.sl_cut {Z : Hp} {A : Option Addr} {n c lo hi : Nat} (h : d.sl Z (.slice A n c) xs) (hlo : lo ≤ hi) (hhi : hi ≤ xs.length) :
    d.sl Z (.slice (if c = lo then A else A.map (·.add (lo * d.sz))) (hi - lo) (c - lo)) ((xs.take hi).drop lo) := by
  obtain ⟨A', c', he, h1, h2, h3⟩ := h
  simp only [Value.slice.injEq] at he
  obtain ⟨rfl, rfl, rfl⟩ := he
  have hl : ((xs.take hi).drop lo).length = hi - lo := by simp; omega
  refine ⟨_, _, by rw [hl], by rw [hl]; omega, by omega, fun h0 => ?_⟩
  rw [hl] at h0
  obtain ⟨b, off, arr, T, fr, rfl, hb, hrow⟩ := h3 (by omega)
  refine ⟨b, off + lo * d.sz, arr, T, fr, ?_, hb, fun i x hx => ?_⟩
  · rw [if_neg (by omega)]
    simp [Addr.add]
  · have hi' : i < hi - lo := by have := (List.getElem?_eq_some_iff.1 hx).1; omega
    rw [List.getElem?_drop, List.getElem?_take] at hx
    rw [if_pos (by omega)] at hx
    obtain ⟨es, hR, hcells⟩ := hrow _ _ hx
    refine ⟨es, hR, fun j u hj => ?_⟩
    have := hcells j u hj
    rw [Nat.add_mul] at this
    rw [← this]; congr 1; omega
theorem Sep.rd_cut {A : Option Addr} {n c lo hi : Nat} (h : Sep W w cs) (hk : Pick cs (.rd d (.slice A n c) xs) r) (hlo : lo ≤ hi) (hhi : hi ≤ xs.length) :
    Sep W w (.rd d (.slice (if c = lo then A else A.map (·.add (lo * d.sz))) (hi - lo) (c - lo)) ((xs.take hi).drop lo) :: cs) :=
  h.with_ro hk fun Z hp => Kd.sl_cut hp hlo hhi

/-! A slice of one's own. -/
theorem Sep.ol_nil (h : Sep W w cs) (d : Kd α) (T : TypeId) (A : Option Addr) : Sep W w (.ol d T (.slice A 0 0) [] :: cs) :=
  Sep.pack none (h.add_pu ⟨⟨A, rfl⟩, rfl⟩)
theorem Sep.ol_open (h : Sep W w (.ol d T v xs :: cs)) : ((∃ A, v = .slice A 0 0) ∧ xs = [] ∧ Sep W w cs) ∨
    ∃ b cap arr, v = .slice (some ⟨b, 0, none⟩) xs.length cap ∧ xs.length ≤ cap ∧ cap ≤ maxLen ∧ arr.size = cap * d.sz ∧
      Sep W w (.own b (.cells arr T (0, 0)) :: .ro (fun Z => d.row Z arr 0 xs) (fun _ _ h => d.row_mono h) :: cs) := by
  obtain ⟨o, h⟩ := h.open_
  match o with
  | none =>
    obtain ⟨h1, h2⟩ := h.get_pu
    exact .inl ⟨h1, h2, h.drop⟩
  | some (b, cap, arr) =>
    have h := h.split
    have hp := h.know (.there .here) (fun Z _ hp => (⟨hp.1, hp.2.1, hp.2.2.1, hp.2.2.2.1⟩ : v = .slice (some ⟨b, 0, none⟩) xs.length cap ∧ xs.length ≤ cap ∧ cap ≤ maxLen ∧ arr.size = cap * d.sz))
    refine .inr ⟨b, cap, arr, hp.1, hp.2.1, hp.2.2.1, hp.2.2.2, ?_⟩
    have h1 := h.perm (List.Perm.swap _ _ _)
    exact (h1.imp (x := .ro (fun Z => d.row Z arr 0 xs) (fun _ _ h => d.row_mono h)) fun Z _ _ hp => hp.2.2.2.2).perm (List.Perm.swap _ _ _)
theorem Sep.ol_shut {cap : Nat} {arr : Array Value} (h : Sep W w (.own b (.cells arr T (0, 0)) :: .ro (fun Z => d.row Z arr 0 xs) (fun _ _ h => d.row_mono h) :: cs))
    (h1 : xs.length ≤ cap) (h2 : cap ≤ maxLen) (h3 : arr.size = cap * d.sz) : Sep W w (.ol d T (.slice (some ⟨b, 0, none⟩) xs.length cap) xs :: cs) := by
  refine Sep.pack (some (b, cap, arr)) (Sep.join ?_)
  have h4 := (h.perm (List.Perm.swap _ _ _)).imp (x := .ro (fun Z => .slice (some ⟨b, 0, none⟩) xs.length cap = Value.slice (some ⟨b, 0, none⟩) xs.length cap ∧ xs.length ≤ cap ∧ cap ≤ maxLen ∧ arr.size = cap * d.sz ∧ d.row Z arr 0 xs)
        (fun _ _ h ⟨h1, h2, h3, h4, h5⟩ => ⟨h1, h2, h3, h4, d.row_mono h h5⟩)) fun Z _ _ hp => ⟨rfl, h1, h2, h3, hp⟩
  exact h4.perm (List.Perm.swap _ _ _)
theorem Sep.ol_len (h : Sep W w cs) (hk : Pick cs (.ol d T v xs) r) : ∃ A c, v = .slice A xs.length c ∧ xs.length ≤ c ∧ c ≤ maxLen := by
  rcases (h.pick hk).ol_open with ⟨⟨A, rfl⟩, rfl, _⟩ | ⟨b, cap, arr, rfl, h1, h2, _⟩
  · exact ⟨A, 0, rfl, Nat.le_refl _, by unfold maxLen; omega⟩
  · exact ⟨_, cap, rfl, h1, h2⟩
/-- From now on for reading. -/
theorem Sep.ol_rd (h : Sep W w cs) (hk : Pick cs (.ol d T v xs) r) : Sep W w (.rd d v xs :: r) := by
  refine (h.pick hk).shut fun Z H hd hc => ?_
  obtain ⟨o, hc⟩ := hc
  match o with
  | none =>
    obtain ⟨⟨A, rfl⟩, rfl⟩ := hc
    exact ⟨A, 0, rfl, Nat.le_refl _, by unfold maxLen; omega, fun h => by simp at h⟩
  | some (b, cap, arr) =>
    obtain ⟨H1, H2, h1, h2, hd2, ho, rfl, h3, h4, h5, h6⟩ := hc
    exact ⟨_, cap, rfl, h3, h4, fun _ => ⟨b, 0, arr, T, (0, 0), rfl, Hp.le_un_right hd _ _ (h1 _ _ ho), d.row_mono (Hp.le_un_left _ _) h6⟩⟩
/-- What is for reading may be laid at the head once more. -/
theorem Sep.cp {p : Hp → Prop} {m} (h : Sep W w cs) (hk : Pick cs (.ro p m) r) : Sep W w (.ro p m :: cs) := h.with_ro hk fun _ h => h
theorem Sep.cpR (h : Sep W w cs) (hk : Pick cs (.rd d v xs) r) : Sep W w (.rd d v xs :: cs) := h.with_ro hk fun _ h => h
theorem Sep.drop2 {x c : Ch} (h : Sep W w (x :: c :: cs)) : Sep W w (x :: cs) := (h.perm (List.Perm.swap _ _ _)).drop
theorem Sep.drop3 {x c c' : Ch} (h : Sep W w (x :: c :: c' :: cs)) : Sep W w (x :: cs) := h.drop2.drop2
theorem Sep.rd_none {n c : Nat} (h : Sep W w cs) (hk : Pick cs (.rd d (.slice none n c) xs) r) : xs = [] := h.know hk fun Z _ hp => by
  obtain ⟨A, c', he, _, _, h3⟩ := hp
  simp only [Value.slice.injEq] at he
  obtain ⟨rfl, _, _⟩ := he
  rcases Nat.eq_zero_or_pos xs.length with h0 | h0
  · exact List.eq_nil_of_length_eq_zero h0
  · obtain ⟨_, _, _, _, _, e, _⟩ := h3 h0
    cases e
theorem Sep.rd_shape {A : Option Addr} {n c : Nat} (h : Sep W w cs) (hk : Pick cs (.rd d (.slice A n c) xs) r) : n = xs.length ∧ xs.length ≤ c ∧ c ≤ maxLen := h.know hk fun Z _ hp => by
  obtain ⟨A', c', he, h1, h2, _⟩ := hp
  simp only [Value.slice.injEq] at he
  obtain ⟨_, rfl, rfl⟩ := he
  exact ⟨rfl, h1, h2⟩
end
end Go.Proofs.YtnkcmpmcmkljnaaDoor
