/- Heaps in pieces: what is for reading, and what is owned. Assertions on a world ('Sep'). -/
import Derived.WalkKit
import Derived.KernelRfl
set_option linter.unusedVariables false
set_option linter.unusedSimpArgs false
namespace Go.Proofs.YtnkcmpmcmkljnaaDoor
open Go.RowKit

abbrev Hp := Nat → Option Obj
def Hp.le (a b : Hp) : Prop := ∀ i o, a i = some o → b i = some o
def Hp.dj (a b : Hp) : Prop := ∀ i o, a i = some o → b i = none
def Hp.un (a b : Hp) : Hp := fun i => (a i).or (b i)
def Hp.none : Hp := fun _ => Option.none
def Hp.one (b : Nat) (o : Obj) : Hp := fun i => if i = b then some o else Option.none
def Hp.cell (Z : Hp) (b off : Nat) : Option Value := match Z b with
  | some (.cells c _ _) => c[off]?
  | _ => Option.none
def hp (w : World) : Hp := fun i => w.heap[i]?

theorem Hp.le_refl (a : Hp) : a.le a := fun _ _ h => h
theorem Hp.le_trans {a b c : Hp} (h : a.le b) (k : b.le c) : a.le c := fun i o x => k i o (h i o x)
theorem Hp.none_le (a : Hp) : Hp.none.le a := fun _ _ h => by cases h
theorem Hp.dj_symm {a b : Hp} (h : a.dj b) : b.dj a := fun i o hb => by
  cases ha : a i with
  | none => rfl
  | some x => rw [h i x ha] at hb; cases hb
theorem Hp.dj_le {a b a' b' : Hp} (h : a.dj b) (ha : a'.le a) (hb : b'.le b) : a'.dj b' := fun i o hi => by
  cases hx : b' i with
  | none => rfl
  | some x => have := h i o (ha i o hi); rw [hb i x hx] at this; cases this
theorem Hp.none_dj (a : Hp) : Hp.none.dj a := fun _ _ h => by cases h
theorem Hp.le_un_left (a b : Hp) : a.le (a.un b) := fun i o h => by simp [Hp.un, h]
theorem Hp.le_un_right {a b : Hp} (h : a.dj b) : b.le (a.un b) := fun i o hb => by
  have : a i = Option.none := by
    cases ha : a i with
    | none => rfl
    | some x => rw [h i x ha] at hb; cases hb
  simp [Hp.un, this, hb]
theorem Hp.un_le {a b c : Hp} (h : a.le c) (k : b.le c) : (a.un b).le c := fun i o x => by
  unfold Hp.un at x
  cases ha : a i with
  | none => rw [ha] at x; exact k i o (by simpa using x)
  | some y => rw [ha] at x; exact h i o (by rw [ha]; simpa using x)
theorem Hp.un_dj {a b c : Hp} (h : a.dj c) (k : b.dj c) : (a.un b).dj c := fun i o x => by
  unfold Hp.un at x
  cases ha : a i with
  | none => rw [ha] at x; exact k i o (by simpa using x)
  | some y => exact h i y ha
theorem Hp.one_le {b : Nat} {o : Obj} {a : Hp} (h : a b = some o) : (Hp.one b o).le a := fun i x hx => by
  unfold Hp.one at hx
  split at hx
  · rename_i hi; subst hi; rw [h]; exact hx
  · cases hx
theorem Hp.cell_le {Z Z' : Hp} (h : Z.le Z') {b off : Nat} {v : Value} (hc : Z.cell b off = some v) : Z'.cell b off = some v := by
  unfold Hp.cell at *
  cases hb : Z b with
  | none => rw [hb] at hc; cases hc
  | some o => rw [h b o hb]; rw [hb] at hc; exact hc
theorem Hp.cell_of {Z : Hp} {b off : Nat} {v : Value} {c : Array Value} {T : TypeId} {fr : Nat × Nat} (h : Z b = some (.cells c T fr)) (hc : c[off]? = some v) : Z.cell b off = some v := by
  simp [Hp.cell, h, hc]
theorem cell_of_hp {w : World} {Z : Hp} (h : Z.le (hp w)) {b off : Nat} {v : Value} (hc : Z.cell b off = some v) : w.cell? ⟨b, off, Option.none⟩ = some v := by
  have := Hp.cell_le h hc
  unfold Hp.cell hp at this
  unfold World.cell?
  show (match w.heap[b]? with | some (.cells c _ _) => _ | _ => _) = _
  cases hb : w.heap[b]? with
  | none => rw [hb] at this; cases this
  | some o =>
    rw [hb] at this
    cases o <;> simp_all

/-- An assertion: what is for reading (any piece of Z), what is owned (a piece of H), both, an unknown. -/
inductive Ch : Type 1
  | ro (p : Hp → Prop) (mono : ∀ Z Z' : Hp, Z.le Z' → p Z → p Z')
  | own (b : Nat) (o : Obj)
  | star (x y : Ch)
  | ex (α : Type) (f : α → Ch)

def Ch.on : Ch → Hp → Hp → Prop
  | .ro p _, Z, _ => p Z
  | .own b o, _, H => H b = some o
  | .star x y, Z, H => ∃ H1 H2 : Hp, H1.le H ∧ H2.le H ∧ H1.dj H2 ∧ x.on Z H1 ∧ y.on Z H2
  | .ex _ f, Z, H => ∃ a, (f a).on Z H

theorem Ch.mono (c : Ch) : ∀ {Z Z' H H' : Hp}, Z.le Z' → H.le H' → c.on Z H → c.on Z' H' := by
  induction c with
  | ro p m => exact fun hz _ h => m _ _ hz h
  | own b o => exact fun _ hh h => hh _ _ h
  | star x y ihx ihy =>
    rintro Z Z' H H' hz hh ⟨H1, H2, h1, h2, hd, hx, hy⟩
    exact ⟨H1, H2, Hp.le_trans h1 hh, Hp.le_trans h2 hh, hd, ihx hz (Hp.le_refl _) hx, ihy hz (Hp.le_refl _) hy⟩
  | ex α f ih =>
    rintro Z Z' H H' hz hh ⟨a, h⟩
    exact ⟨a, ih a hz hh h⟩

/-- A fact that asks nothing of memory. -/
def Ch.pu (p : Prop) : Ch := .ro (fun _ => p) (fun _ _ _ h => h)
def Ch.emp : Ch := .pu True

def Ch.all : List Ch → Hp → Hp → Prop
  | [], _, _ => True
  | c :: r, Z, H => ∃ H1 H2 : Hp, H1.le H ∧ H2.le H ∧ H1.dj H2 ∧ c.on Z H1 ∧ Ch.all r Z H2

theorem Ch.all_mono : ∀ (l : List Ch) {Z Z' H H' : Hp}, Z.le Z' → H.le H' → Ch.all l Z H → Ch.all l Z' H'
  | [], _, _, _, _, _, _, _ => trivial
  | c :: r, _, _, _, _, hz, hh, ⟨H1, H2, h1, h2, hd, hx, hy⟩ =>
    ⟨H1, H2, Hp.le_trans h1 hh, Hp.le_trans h2 hh, hd, c.mono hz (Hp.le_refl _) hx, Ch.all_mono r hz (Hp.le_refl _) hy⟩

theorem Ch.all_swap {x y : Ch} {r : List Ch} {Z H : Hp} (h : Ch.all (x :: y :: r) Z H) : Ch.all (y :: x :: r) Z H := by
  obtain ⟨H1, H2, h1, h2, hd, hx, H3, H4, h3, h4, hd2, hy, hr⟩ := h
  have d14 : H1.dj H4 := Hp.dj_le hd (Hp.le_refl _) h4
  refine ⟨H3, H1.un H4, Hp.le_trans h3 h2, Hp.un_le h1 (Hp.le_trans h4 h2), ?_, hy, H1, H4, Hp.le_un_left _ _, Hp.le_un_right d14, d14, hx, hr⟩
  exact Hp.dj_symm (Hp.un_dj (Hp.dj_le hd (Hp.le_refl _) h3) (Hp.dj_symm hd2))

theorem Ch.all_cons_mono {c : Ch} {r r' : List Ch} {Z : Hp} (hr : ∀ H, Ch.all r Z H → Ch.all r' Z H) {H : Hp} (h : Ch.all (c :: r) Z H) : Ch.all (c :: r') Z H := by
  obtain ⟨H1, H2, h1, h2, hd, hx, hy⟩ := h
  exact ⟨H1, H2, h1, h2, hd, hx, hr _ hy⟩

theorem Ch.all_perm {l l' : List Ch} (h : l.Perm l') : ∀ {Z H : Hp}, Ch.all l Z H → Ch.all l' Z H := by
  induction h with
  | nil => exact fun h => h
  | cons x _ ih => exact fun h => Ch.all_cons_mono (fun _ => ih) h
  | swap x y l => exact fun h => Ch.all_swap h
  | trans _ _ ih1 ih2 => exact fun h => ih2 (ih1 h)

/-- THE ASSERTION ON A WORLD: w came out of W (the world in which the law began), all of W stands for reading; what l says holds. -/
def Sep (W w : World) (l : List Ch) : Prop :=
  (w.os = W.os ∧ w.tape = W.tape ∧ w.output = W.output) ∧
  ∃ Z H : Hp, Z.dj H ∧ Z.le (hp w) ∧ H.le (hp w) ∧ (∀ i, i < W.heap.size → Z i = W.heap[i]?) ∧ Ch.all l Z H

/-- One of a list, and the others. -/
inductive Pick : List Ch → Ch → List Ch → Prop
  | here {c : Ch} {r : List Ch} : Pick (c :: r) c r
  | there {d : Ch} {l : List Ch} {c : Ch} {r : List Ch} (h : Pick l c r) : Pick (d :: l) c (d :: r)
theorem Pick.perm {l : List Ch} {c : Ch} {r : List Ch} (h : Pick l c r) : l.Perm (c :: r) := by
  induction h with
  | here => exact List.Perm.refl _
  | there _ ih => exact (ih.cons _).trans (List.Perm.swap _ _ _)

section
variable {W w : World} {l l' r : List Ch} {c x y : Ch}

theorem Sep.perm (h : Sep W w l) (hp : l.Perm l') : Sep W w l' := by
  obtain ⟨h0, Z, H, hd, hz, hh, hw, ha⟩ := h
  exact ⟨h0, Z, H, hd, hz, hh, hw, Ch.all_perm hp ha⟩
theorem Sep.pick (h : Sep W w l) (hk : Pick l c r) : Sep W w (c :: r) := h.perm hk.perm
theorem Sep.unpick (h : Sep W w (c :: r)) (hk : Pick l c r) : Sep W w l := h.perm hk.perm.symm

/-- What follows from an assertion, whatever stands beside it. -/
theorem Sep.imp (h : Sep W w (c :: r)) (hc : ∀ Z H : Hp, Z.dj H → c.on Z H → x.on Z H) : Sep W w (x :: r) := by
  obtain ⟨h0, Z, H, hd, hz, hh, hw, H1, H2, h1, h2, hd2, hc1, hr⟩ := h
  exact ⟨h0, Z, H, hd, hz, hh, hw, H1, H2, h1, h2, hd2, hc _ _ (Hp.dj_le hd (Hp.le_refl _) h1) hc1, hr⟩
theorem Sep.drop (h : Sep W w (c :: r)) : Sep W w r := by
  obtain ⟨h0, Z, H, hd, hz, hh, hw, H1, H2, h1, h2, hd2, hc1, hr⟩ := h
  exact ⟨h0, Z, H, hd, hz, hh, hw, Ch.all_mono r (Hp.le_refl _) h2 hr⟩
theorem Sep.split (h : Sep W w (.star x y :: r)) : Sep W w (x :: y :: r) := by
  obtain ⟨h0, Z, H, hd, hz, hh, hw, H1, H2, h1, h2, hd2, ⟨H3, H4, h3, h4, hd3, hx, hy⟩, hr⟩ := h
  have d42 : H4.dj H2 := Hp.dj_le hd2 h4 (Hp.le_refl _)
  have d32 : H3.dj H2 := Hp.dj_le hd2 h3 (Hp.le_refl _)
  exact ⟨h0, Z, H, hd, hz, hh, hw, H3, H4.un H2, Hp.le_trans h3 h1, Hp.un_le (Hp.le_trans h4 h1) h2, Hp.dj_symm (Hp.un_dj (Hp.dj_symm hd3) (Hp.dj_symm d32)), hx, H4, H2, Hp.le_un_left _ _, Hp.le_un_right d42, d42, hy, hr⟩
theorem Sep.join (h : Sep W w (x :: y :: r)) : Sep W w (.star x y :: r) := by
  obtain ⟨h0, Z, H, hd, hz, hh, hw, H1, H2, h1, h2, hd2, hx, H3, H4, h3, h4, hd3, hy, hr⟩ := h
  have d13 : H1.dj H3 := Hp.dj_le hd2 (Hp.le_refl _) h3
  have d14 : H1.dj H4 := Hp.dj_le hd2 (Hp.le_refl _) h4
  exact ⟨h0, Z, H, hd, hz, hh, hw, H1.un H3, H4, Hp.un_le h1 (Hp.le_trans h3 h2), Hp.le_trans h4 h2, Hp.un_dj d14 hd3, ⟨H1, H3, Hp.le_un_left _ _, Hp.le_un_right d13, d13, hx, hy⟩, hr⟩
theorem Sep.open_ {α : Type} {f : α → Ch} (h : Sep W w (.ex α f :: r)) : ∃ a, Sep W w (f a :: r) := by
  obtain ⟨h0, Z, H, hd, hz, hh, hw, H1, H2, h1, h2, hd2, ⟨a, ha⟩, hr⟩ := h
  exact ⟨a, h0, Z, H, hd, hz, hh, hw, H1, H2, h1, h2, hd2, ha, hr⟩
theorem Sep.pack {α : Type} {f : α → Ch} (a : α) (h : Sep W w (f a :: r)) : Sep W w (.ex α f :: r) := h.imp fun _ _ _ h => ⟨a, h⟩
theorem Sep.get_pu {p : Prop} (h : Sep W w (.pu p :: r)) : p := by
  obtain ⟨h0, Z, H, hd, hz, hh, hw, H1, H2, h1, h2, hd2, hc1, hr⟩ := h
  exact hc1
theorem Sep.add {x : Ch} (h : Sep W w r) (hx : ∀ Z, x.on Z Hp.none) : Sep W w (x :: r) := by
  obtain ⟨h0, Z, H, hd, hz, hh, hw, ha⟩ := h
  exact ⟨h0, Z, H, hd, hz, hh, hw, Hp.none, H, Hp.none_le _, Hp.le_refl _, Hp.none_dj _, hx Z, ha⟩
theorem Sep.add_pu {p : Prop} (h : Sep W w r) (hp : p) : Sep W w (.pu p :: r) := h.add fun _ => hp
/-- What is for reading may be said twice. -/
theorem Sep.dup {p : Hp → Prop} {m : ∀ Z Z' : Hp, Z.le Z' → p Z → p Z'} (h : Sep W w (.ro p m :: r)) : Sep W w (.ro p m :: .ro p m :: r) := by
  obtain ⟨h0, Z, H, hd, hz, hh, hw, H1, H2, h1, h2, hd2, hc1, hr⟩ := h
  exact ⟨h0, Z, H, hd, hz, hh, hw, Hp.none, H, Hp.none_le _, Hp.le_refl _, Hp.none_dj _, hc1, Hp.none, H, Hp.none_le _, Hp.le_refl _, Hp.none_dj _, hc1, Ch.all_mono r (Hp.le_refl _) h2 hr⟩
/-- A fact for reading that follows from others for reading, laid beside them. -/
theorem Sep.ro_and {p q : Hp → Prop} {m m'} (h : Sep W w (.ro p m :: .ro q m' :: r)) : Sep W w (.ro (fun Z => p Z ∧ q Z) (fun Z Z' hz ⟨a, b⟩ => ⟨m _ _ hz a, m' _ _ hz b⟩) :: r) := by
  obtain ⟨h0, Z, H, hd, hz, hh, hw, H1, H2, h1, h2, hd2, hc1, H3, H4, h3, h4, hd3, hc2, hr⟩ := h
  exact ⟨h0, Z, H, hd, hz, hh, hw, Hp.none, H, Hp.none_le _, Hp.le_refl _, Hp.none_dj _, ⟨hc1, hc2⟩, Ch.all_mono r (Hp.le_refl _) (Hp.le_trans h4 h2) hr⟩
theorem Sep.with_ro {p q : Hp → Prop} {m m'} (h : Sep W w l) (hk : Pick l (.ro p m) r) (hq : ∀ Z, p Z → q Z) : Sep W w (.ro q m' :: l) := by
  have h1 := ((h.pick hk).dup).imp (x := .ro q m') (fun Z _ _ hp => hq Z hp)
  exact h1.perm (hk.perm.symm.cons _)
/-- Out of two facts for reading a third. -/
theorem Sep.with_ro2 {p p' q : Hp → Prop} {m m' mq} {r' : List Ch} (h : Sep W w l) (hk : Pick l (.ro p m) r) (hk' : Pick l (.ro p' m') r') (hq : ∀ Z, p Z → p' Z → q Z) : Sep W w (.ro q mq :: l) := by
  have h1 := Sep.with_ro (q := p) (m' := m) h hk (fun _ h => h)
  have h2 := (Sep.with_ro (q := p') (m' := m') h1 (.there hk') (fun _ h => h)).ro_and
  exact h2.imp fun Z _ _ hp => hq Z hp.2 hp.1
theorem Sep.know {p : Hp → Prop} {m} {q : Prop} (h : Sep W w l) (hk : Pick l (.ro p m) r) (hq : ∀ Z, Z.le (hp w) → p Z → q) : q := by
  obtain ⟨h0, Z, H, hd, hz, hh, hw, H1, H2, h1, h2, hd2, hc1, hr⟩ := h.pick hk
  exact hq Z hz hc1

/-! The owned blocks. -/
theorem Sep.own_at {b : Nat} {o : Obj} (h : Sep W w l) (hk : Pick l (.own b o) r) : w.heap[b]? = some o := by
  obtain ⟨h0, Z, H, hd, hz, hh, hw, H1, H2, h1, h2, hd2, hc1, hr⟩ := h.pick hk
  exact hh b o (h1 b o hc1)
theorem Sep.own_ge {b : Nat} {o : Obj} (h : Sep W w (.own b o :: r)) : W.heap.size ≤ b := by
  obtain ⟨h0, Z, H, hd, hz, hh, hw, H1, H2, h1, h2, hd2, hc1, hr⟩ := h
  rcases Nat.lt_or_ge b W.heap.size with hb | hb
  · have hz1 := hw b hb
    rw [Array.getElem?_eq_getElem hb] at hz1
    have := hd b _ hz1
    rw [h1 b o hc1] at this
    cases this
  · exact hb
theorem Sep.own_ne {b b' : Nat} {o o' : Obj} (h : Sep W w (.own b o :: .own b' o' :: r)) : b ≠ b' := by
  obtain ⟨h0, Z, H, hd, hz, hh, hw, H1, H2, h1, h2, hd2, hc1, H3, H4, h3, h4, hd3, hc2, hr⟩ := h
  rintro rfl
  have := hd2 b o hc1
  rw [h3 b o' hc2] at this
  cases this
theorem Sep.alloc (h : Sep W w r) (o : Obj) : Sep W (w.alloc o) (.own w.heap.size o :: r) := by
  obtain ⟨h0, Z, H, hd, hz, hh, hw, ha⟩ := h
  have fresh : ∀ (A : Hp), A.le (hp w) → A w.heap.size = none := fun A hA => by
    cases hx : A w.heap.size with
    | none => rfl
    | some x => have := hA _ _ hx; simp [hp] at this
  have up : ∀ (A : Hp), A.le (hp w) → A.le (hp (w.alloc o)) := fun A hA i x hx => by
    have h1 := hA i x hx
    have hi : i < w.heap.size := (Array.getElem?_eq_some_iff.1 h1).1
    show (w.heap.push o)[i]? = _
    rw [Array.getElem?_push, if_neg (by omega)]; exact h1
  have hone : (Hp.one w.heap.size o).le (hp (w.alloc o)) := Hp.one_le (by show (w.heap.push o)[w.heap.size]? = _; simp)
  have d1 : ∀ (A : Hp), A.le (hp w) → (Hp.one w.heap.size o).dj A := fun A hA i x hx => by
    unfold Hp.one at hx
    split at hx
    · rename_i hi; subst hi; exact fresh A hA
    · cases hx
  exact ⟨h0, Z, (Hp.one w.heap.size o).un H, Hp.dj_symm (Hp.un_dj (d1 Z hz) (Hp.dj_symm hd)), up Z hz, Hp.un_le hone (up H hh), hw,
    Hp.one w.heap.size o, H, Hp.le_un_left _ _, Hp.le_un_right (d1 H hh), d1 H hh, by simp [Ch.on, Hp.one], ha⟩
/-- A block that is owned is changed: nothing else turns. -/
theorem Sep.change {b : Nat} {o o' : Obj} {w' : World} (h : Sep W w (.own b o :: r)) (hos : w'.os = w.os) (ht : w'.tape = w.tape) (hout : w'.output = w.output)
    (hb : w'.heap[b]? = some o') (hne : ∀ i, i ≠ b → w'.heap[i]? = w.heap[i]?) : Sep W w' (.own b o' :: r) := by
  obtain ⟨h0, Z, H, hd, hz, hh, hw, H1, H2, h1, h2, hd2, hc1, hr⟩ := h
  have hZb : Z b = none := Hp.dj_symm hd b o (h1 b o hc1)
  have h2b : H2 b = none := hd2 b o hc1
  have up : ∀ (A : Hp), A.le (hp w) → A b = none → A.le (hp w') := fun A hA hAb i x hx => by
    by_cases hi : i = b
    · subst hi; rw [hAb] at hx; cases hx
    · show w'.heap[i]? = _
      rw [hne i hi]; exact hA i x hx
  have d1 : ∀ (A : Hp), A b = none → (Hp.one b o').dj A := fun A hA i x hx => by
    unfold Hp.one at hx
    split at hx
    · rename_i hi; subst hi; exact hA
    · cases hx
  exact ⟨⟨hos.trans h0.1, ht.trans h0.2.1, hout.trans h0.2.2⟩, Z, (Hp.one b o').un H2, Hp.dj_symm (Hp.un_dj (d1 Z hZb) (Hp.dj_symm (Hp.dj_le hd (Hp.le_refl _) h2))), up Z hz hZb,
    Hp.un_le (Hp.one_le hb) (up H2 (Hp.le_trans h2 hh) h2b), hw, Hp.one b o', H2, Hp.le_un_left _ _, Hp.le_un_right (d1 H2 h2b), d1 H2 h2b, by simp [Ch.on, Hp.one], hr⟩
theorem Sep.setCell {b : Nat} {cs : Array Value} {T : TypeId} {fr : Nat × Nat} (h : Sep W w (.own b (.cells cs T fr) :: r)) (off : Nat) (v : Value) :
    Sep W (w.setCell ⟨b, off, none⟩ v) (.own b (.cells (cs.setIfInBounds off v) T fr) :: r) := by
  have hb := h.own_at .here
  refine h.change rfl rfl rfl ?_ (fun i hi => ?_)
  · simp [World.setCell, Array.getElem?_modify, hb]
  · simp only [World.setCell, Array.getElem?_modify]; rw [if_neg (by omega)]
theorem Sep.setObj {b : Nat} {o o' : Obj} (h : Sep W w (.own b o :: r)) : Sep W { w with heap := w.heap.setIfInBounds b o' } (.own b o' :: r) := by
  have hb := h.own_at .here
  have hlt : b < w.heap.size := (Array.getElem?_eq_some_iff.1 hb).1
  refine h.change rfl rfl rfl ?_ (fun i hi => ?_)
  · simp [hlt]
  · simp [Array.getElem?_setIfInBounds_ne (Ne.symm hi)]
theorem Sep.drawn (h : Sep W w r) (n : Nat) : Sep W { w with drawn := n } r := h
theorem Sep.drew (h : Sep W w r) : Sep W w.drew r := h

/-- What was owned is for reading from now on. -/
theorem Sep.shut {p : Hp → Prop} {m} (h : Sep W w (c :: r)) (hc : ∀ Z H : Hp, Z.dj H → c.on Z H → p (Z.un H)) : Sep W w (.ro p m :: r) := by
  obtain ⟨h0, Z, H, hd, hz, hh, hw, H1, H2, h1, h2, hd2, hc1, hr⟩ := h
  have dz1 : Z.dj H1 := Hp.dj_le hd (Hp.le_refl _) h1
  have dz2 : Z.dj H2 := Hp.dj_le hd (Hp.le_refl _) h2
  have hz' : Z.le (Z.un H1) := Hp.le_un_left _ _
  refine ⟨h0, Z.un H1, H2, Hp.un_dj dz2 hd2, Hp.un_le hz (Hp.le_trans h1 hh), Hp.le_trans h2 hh, fun i hi => ?_, Hp.none, H2, Hp.none_le _, Hp.le_refl _, Hp.none_dj _, hc Z H1 dz1 hc1, Ch.all_mono r hz' (Hp.le_refl _) hr⟩
  have := hw i hi
  rw [Array.getElem?_eq_getElem hi] at this ⊢
  exact hz' i _ this
theorem Sep.size_le (h : Sep W w r) : W.heap.size ≤ w.heap.size := by
  obtain ⟨h0, Z, H, hd, hz, hh, hw, ha⟩ := h
  rcases Nat.eq_zero_or_pos W.heap.size with h0 | h0
  · omega
  · have h1 := hw (W.heap.size - 1) (by omega)
    rw [Array.getElem?_eq_getElem (by omega)] at h1
    have h2 := hz _ _ h1
    have := (Array.getElem?_eq_some_iff.1 h2).1
    omega
theorem Sep.old (h : Sep W w r) {i : Nat} (hi : i < W.heap.size) : w.heap[i]? = W.heap[i]? := by
  obtain ⟨h0, Z, H, hd, hz, hh, hw, ha⟩ := h
  have h1 := hw i hi
  rw [Array.getElem?_eq_getElem hi] at h1 ⊢
  exact hz i _ h1
theorem Sep.below (h : Sep W w r) : Below W.heap.size W w := ⟨h.1.1, h.1.2.1, h.1.2.2, h.size_le, fun i hi => h.old hi⟩
theorem Sep.init (W : World) : Sep W W [] := ⟨⟨rfl, rfl, rfl⟩, hp W, Hp.none, Hp.dj_symm (Hp.none_dj _), Hp.le_refl _, Hp.none_le _, fun _ _ => rfl, trivial⟩
/-- What stood when the law began is for reading. -/
theorem Sep.old_ro {p : Hp → Prop} {m} (h : Sep W w r) (hp : ∀ Z : Hp, (∀ i, i < W.heap.size → Z i = W.heap[i]?) → p Z) : Sep W w (.ro p m :: r) := by
  obtain ⟨h0, Z, H, hd, hz, hh, hw, ha⟩ := h
  exact ⟨h0, Z, H, hd, hz, hh, hw, Hp.none, H, Hp.none_le _, Hp.le_refl _, Hp.none_dj _, hp Z hw, ha⟩
end
end Go.Proofs.YtnkcmpmcmkljnaaDoor
