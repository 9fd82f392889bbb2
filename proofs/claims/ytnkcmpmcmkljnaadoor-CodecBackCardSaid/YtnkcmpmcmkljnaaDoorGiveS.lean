/- Arguments that are given: slices of structs. -/
import Derived.Test.YtnkcmpmcmkljnaaDoorItem
set_option linter.unusedVariables false
set_option linter.unusedSimpArgs false
set_option maxRecDepth 100000
namespace Go.Proofs.YtnkcmpmcmkljnaaDoor
open Go.ChangeShapes Go.WideShapes Go.ChangeAt Go.RowKit
section
variable {H : Type} {enc : TypeId × Value → H} {P : Program} {W : World}
/-- What a world that began as W holds for reading. -/
def Old (W : World) (p : Hp → Prop) : Prop := ∀ Z : Hp, (∀ i, i < W.heap.size → Z i = W.heap[i]?) → p Z
theorem given_sl {α : Type} {d : Kd α} {ok : α → Prop} {t e : TypeId} {fuel : Nat} {cs : List Value} {y : DataW H × List MemPlace} (ht : P.underlying t = some (.slice e)) (hc : P.cellsOf e = d.sz) (hpos : 0 < d.sz)
    (hE : ∀ n cs y, DataW.trod enc P W 0 (fun _ => true) true n e cs = some y → ∃ x : α, ok x ∧ Old W (fun Z => d.R Z x cs))
    (h : DataW.trod enc P W 0 (fun _ => true) true fuel t cs = some y) :
    ∃ A n c xs, cs = [.slice A n c] ∧ Old W (fun Z => d.sl Z (.slice A n c) xs) ∧ ∀ x ∈ xs, ok x := by
  rcases DataW.trod_slice ht h with ⟨rfl, _⟩ | ⟨a, len, cap, elems, rest, n, _, rfl, _, hb, hl, hm, hlen, hel, _⟩
  · exact ⟨none, 0, 0, [], rfl, fun Z _ => ⟨none, 0, rfl, Nat.le_refl _, Nat.zero_le _, fun h => absurd h (by simp)⟩, fun x h => (by cases h)⟩
  · rw [hc] at hel
    have each : ∀ i : Fin len, ∃ x : α, ok x ∧ ∃ ci, W.cells? 0 (a.add (i.val * d.sz)) d.sz = some ci ∧ Old W (fun Z => d.R Z x ci) := fun i => by
      have h1 := hel i.val i.isLt
      have h2 : elems[i.val]? = some (elems[i.val]'(by omega)) := List.getElem?_eq_getElem (by omega)
      rw [h2, Option.bind_eq_some_iff] at h1
      obtain ⟨ci, hci, htr⟩ := h1
      obtain ⟨x, hx, hR⟩ := hE _ _ _ htr
      exact ⟨x, hx, ci, hci, hR⟩
    let xs : List α := List.ofFn fun i : Fin len => (each i).choose
    have hxl : xs.length = len := by simp [xs]
    have hxs : ∀ i x, xs[i]? = some x → ∃ hi : i < len, x = (each ⟨i, hi⟩).choose := fun i x hx => by
      have hi : i < len := by rw [← hxl]; exact (List.getElem?_eq_some_iff.1 hx).1
      refine ⟨hi, ?_⟩
      have := (List.getElem?_eq_some_iff.1 hx).2
      simp only [xs, List.getElem_ofFn] at this
      exact this.symm
    have h0 : ∀ i (hi : i < len) j (hj : j < d.sz), ∃ ci, W.cells? 0 (a.add (i * d.sz)) d.sz = some ci := fun i hi j hj => by
      obtain ⟨_, ci, hci, _⟩ := (each ⟨i, hi⟩).choose_spec
      exact ⟨ci, hci⟩
    refine ⟨some a, len, cap, xs, rfl, fun Z hZ => ⟨some a, cap, by rw [hxl], by rw [hxl]; exact hl, hm, fun hp => ?_⟩, fun x hx => ?_⟩
    · obtain ⟨ab, ao, spot⟩ := a
      have hp' : 0 < len := by rw [← hxl]; exact hp
      obtain ⟨_, ci, hci, _⟩ := (each ⟨0, hp'⟩).choose_spec
      obtain ⟨g1, g2, g3⟩ := World.cells?_some hci
      have hc0 := g3 0 hpos
      rw [List.getElem?_eq_getElem (by omega)] at hc0
      have hspot : spot = none := by simpa [Addr.add] using World.cell?_spot hc0
      subst hspot
      rw [add_at, add_at] at hc0
      cases hb : W.heap[ab]? with
      | none => simp [World.cell?, hb] at hc0
      | some o =>
        cases o with
        | cells arr T fr =>
          have hlt : ab < W.heap.size := (Array.getElem?_eq_some_iff.1 hb).1
          refine ⟨ab, ao, arr, T, fr, rfl, by rw [hZ ab hlt]; exact hb, fun i x hx => ?_⟩
          obtain ⟨hi, rfl⟩ := hxs i x hx
          obtain ⟨_, ci2, hci2, hR⟩ := (each ⟨i, hi⟩).choose_spec
          obtain ⟨_, k2, k3⟩ := World.cells?_some hci2
          refine ⟨ci2, hR Z hZ, fun j u hj => ?_⟩
          have hj' : j < d.sz := by rw [← k2]; exact (List.getElem?_eq_some_iff.1 hj).1
          have := k3 j hj'
          rw [add_at, add_at, hj] at this
          simpa [World.cell?, hb] using this
        | _ => simp [World.cell?, hb] at hc0
    · obtain ⟨i, hi⟩ := List.mem_iff_getElem?.1 hx
      obtain ⟨hl2, rfl⟩ := hxs i x hi
      exact (each ⟨i, hl2⟩).choose_spec.1
theorem st_field {t n : Nat} {fs : Array Field} {cs : List Value} {y : DataW H × List MemPlace} (ht : P.underlying t = some (.struct fs)) (h : DataW.trod enc P W 0 (fun _ => true) true n t cs = some y) :
    cs.length = P.cellsOf t ∧ ∃ m, ∀ (i : Nat) (f : Field), fs[i]? = some f → ∃ z, DataW.trod enc P W 0 (fun _ => true) true m f.type ((cs.drop f.offset).take (P.cellsOf f.type)) = some z := by
  obtain ⟨xs, m, _, _, hl, hsz, hf⟩ := DataW.trod_struct ht h
  refine ⟨hl, m, fun i (f : Field) hi => ?_⟩
  have h1 : i < fs.size := (Array.getElem?_eq_some_iff.1 hi).1
  exact ⟨xs[i]'(by omega), by rw [hf i f hi]; exact List.getElem?_eq_getElem (by omega)⟩
end
section
variable {H : Type} {enc : TypeId × Value → H} {W : World}
theorem k_int : Tryd.prog.cellsOf 3 = 1 := by kernel_rfl
theorem k_str : Tryd.prog.cellsOf 9 = 1 := by kernel_rfl
theorem k_bool : Tryd.prog.cellsOf 4 = 1 := by kernel_rfl
theorem k_comps : Tryd.prog.cellsOf 41 = 1 := by kernel_rfl
theorem k_acts : Tryd.prog.cellsOf 44 = 1 := by kernel_rfl
theorem k_nods : Tryd.prog.cellsOf 47 = 1 := by kernel_rfl
theorem big : maxLen ≤ 9223372036854775807 := by unfold maxLen; omega
def oC (x : Comp) : Prop := x.text.size ≤ 9223372036854775807
def oN (x : Nod) : Prop := x.name.size ≤ 9223372036854775807 ∧ x.text.size ≤ 9223372036854775807
def oA (x : Actn) : Prop := x.name.size ≤ 9223372036854775807 ∧ ∀ y ∈ x.ops, oC y
def oI (x : Item) : Prop := x.text.size ≤ 9223372036854775807 ∧ (∀ y ∈ x.comps, oC y) ∧ (∀ y ∈ x.acts, oA y) ∧ ∀ y ∈ x.nods, oN y
theorem given_comp (n : Nat) (cs : List Value) (y : DataW H × List MemPlace) (h : DataW.trod enc Tryd.prog W 0 (fun _ => true) true n 91 cs = some y) : ∃ x : Comp, oC x ∧ Old W (fun Z => kComp.R Z x cs) := by
  obtain ⟨hl, m, hf⟩ := st_field Tryd.underlying91 h
  rw [show Tryd.prog.cellsOf 91 = 3 by kernel_rfl] at hl
  match cs, hl with
  | [a, b, c], _ =>
    obtain ⟨z0, h0⟩ : ∃ z, DataW.trod enc Tryd.prog W 0 (fun _ => true) true m 3 ((List.drop 0 [a, b, c]).take (Tryd.prog.cellsOf 3)) = some z := hf 0 _ rfl
    obtain ⟨z1, h1⟩ : ∃ z, DataW.trod enc Tryd.prog W 0 (fun _ => true) true m 3 ((List.drop 1 [a, b, c]).take (Tryd.prog.cellsOf 3)) = some z := hf 1 _ rfl
    obtain ⟨z2, h2⟩ : ∃ z, DataW.trod enc Tryd.prog W 0 (fun _ => true) true m 9 ((List.drop 2 [a, b, c]).take (Tryd.prog.cellsOf 9)) = some z := hf 2 _ rfl
    simp only [k_int, k_str, List.drop_zero, List.drop_succ_cons, List.take_succ_cons, List.take_zero] at h0 h1 h2
    obtain ⟨k0, e0, _, _⟩ := DataW.trod_int Tryd.underlying3 h0
    obtain ⟨k1, e1, _, _⟩ := DataW.trod_int Tryd.underlying3 h1
    obtain ⟨s2, e2, _, hs2⟩ := DataW.trod_string Tryd.underlying9 h2
    simp only [List.cons.injEq, and_true] at e0 e1 e2
    subst e0; subst e1; subst e2
    exact ⟨⟨k0, k1, s2⟩, Nat.le_trans hs2 big, fun Z _ => rfl⟩
theorem given_nod (n : Nat) (cs : List Value) (y : DataW H × List MemPlace) (h : DataW.trod enc Tryd.prog W 0 (fun _ => true) true n 65 cs = some y) : ∃ x : Nod, oN x ∧ Old W (fun Z => kNod.R Z x cs) := by
  obtain ⟨hl, m, hf⟩ := st_field Tryd.underlying65 h
  rw [show Tryd.prog.cellsOf 65 = 5 by kernel_rfl] at hl
  match cs, hl with
  | [a, b, c, d, e], _ =>
    obtain ⟨z0, h0⟩ : ∃ z, DataW.trod enc Tryd.prog W 0 (fun _ => true) true m 3 ((List.drop 0 [a, b, c, d, e]).take (Tryd.prog.cellsOf 3)) = some z := hf 0 _ rfl
    obtain ⟨z1, h1⟩ : ∃ z, DataW.trod enc Tryd.prog W 0 (fun _ => true) true m 3 ((List.drop 1 [a, b, c, d, e]).take (Tryd.prog.cellsOf 3)) = some z := hf 1 _ rfl
    obtain ⟨z2, h2⟩ : ∃ z, DataW.trod enc Tryd.prog W 0 (fun _ => true) true m 9 ((List.drop 2 [a, b, c, d, e]).take (Tryd.prog.cellsOf 9)) = some z := hf 2 _ rfl
    obtain ⟨z3, h3⟩ : ∃ z, DataW.trod enc Tryd.prog W 0 (fun _ => true) true m 4 ((List.drop 3 [a, b, c, d, e]).take (Tryd.prog.cellsOf 4)) = some z := hf 3 _ rfl
    obtain ⟨z4, h4⟩ : ∃ z, DataW.trod enc Tryd.prog W 0 (fun _ => true) true m 9 ((List.drop 4 [a, b, c, d, e]).take (Tryd.prog.cellsOf 9)) = some z := hf 4 _ rfl
    simp only [k_int, k_str, k_bool, k_comps, k_acts, k_nods, List.drop_zero, List.drop_succ_cons, List.take_succ_cons, List.take_zero] at h0 h1 h2 h3 h4
    obtain ⟨k0, e0, _, _⟩ := DataW.trod_int Tryd.underlying3 h0
    obtain ⟨k1, e1, _, _⟩ := DataW.trod_int Tryd.underlying3 h1
    obtain ⟨k2, e2, _, g2⟩ := DataW.trod_string Tryd.underlying9 h2
    obtain ⟨k3, e3, _⟩ := DataW.trod_bool Tryd.underlying4 h3
    obtain ⟨k4, e4, _, g4⟩ := DataW.trod_string Tryd.underlying9 h4
    simp only [List.cons.injEq, and_true] at e0 e1 e2 e3 e4
    subst e0; subst e1; subst e2; subst e3; subst e4
    exact ⟨⟨k0, k1, k2, k3, k4⟩, ⟨Nat.le_trans g2 big, Nat.le_trans g4 big⟩, fun Z _ => rfl⟩
theorem given_actn (n : Nat) (cs : List Value) (y : DataW H × List MemPlace) (h : DataW.trod enc Tryd.prog W 0 (fun _ => true) true n 63 cs = some y) : ∃ x : Actn, oA x ∧ Old W (fun Z => kActn.R Z x cs) := by
  obtain ⟨hl, m, hf⟩ := st_field Tryd.underlying63 h
  rw [show Tryd.prog.cellsOf 63 = 6 by kernel_rfl] at hl
  match cs, hl with
  | [a, b, c, d, e, f], _ =>
    obtain ⟨z0, h0⟩ : ∃ z, DataW.trod enc Tryd.prog W 0 (fun _ => true) true m 3 ((List.drop 0 [a, b, c, d, e, f]).take (Tryd.prog.cellsOf 3)) = some z := hf 0 _ rfl
    obtain ⟨z1, h1⟩ : ∃ z, DataW.trod enc Tryd.prog W 0 (fun _ => true) true m 3 ((List.drop 1 [a, b, c, d, e, f]).take (Tryd.prog.cellsOf 3)) = some z := hf 1 _ rfl
    obtain ⟨z2, h2⟩ : ∃ z, DataW.trod enc Tryd.prog W 0 (fun _ => true) true m 3 ((List.drop 2 [a, b, c, d, e, f]).take (Tryd.prog.cellsOf 3)) = some z := hf 2 _ rfl
    obtain ⟨z3, h3⟩ : ∃ z, DataW.trod enc Tryd.prog W 0 (fun _ => true) true m 9 ((List.drop 3 [a, b, c, d, e, f]).take (Tryd.prog.cellsOf 9)) = some z := hf 3 _ rfl
    obtain ⟨z4, h4⟩ : ∃ z, DataW.trod enc Tryd.prog W 0 (fun _ => true) true m 4 ((List.drop 4 [a, b, c, d, e, f]).take (Tryd.prog.cellsOf 4)) = some z := hf 4 _ rfl
    obtain ⟨z5, h5⟩ : ∃ z, DataW.trod enc Tryd.prog W 0 (fun _ => true) true m 41 ((List.drop 5 [a, b, c, d, e, f]).take (Tryd.prog.cellsOf 41)) = some z := hf 5 _ rfl
    simp only [k_int, k_str, k_bool, k_comps, k_acts, k_nods, List.drop_zero, List.drop_succ_cons, List.take_succ_cons, List.take_zero] at h0 h1 h2 h3 h4 h5
    obtain ⟨k0, e0, _, _⟩ := DataW.trod_int Tryd.underlying3 h0
    obtain ⟨k1, e1, _, _⟩ := DataW.trod_int Tryd.underlying3 h1
    obtain ⟨k2, e2, _, _⟩ := DataW.trod_int Tryd.underlying3 h2
    obtain ⟨k3, e3, _, g3⟩ := DataW.trod_string Tryd.underlying9 h3
    obtain ⟨k4, e4, _⟩ := DataW.trod_bool Tryd.underlying4 h4
    obtain ⟨A5, n5, c5, k5, e5, o5, g5⟩ := given_sl (d := kComp) Tryd.underlying41 (by kernel_rfl) (by decide) given_comp h5
    simp only [List.cons.injEq, and_true] at e0 e1 e2 e3 e4 e5
    subst e0; subst e1; subst e2; subst e3; subst e4; subst e5
    exact ⟨⟨k0, k1, k2, k3, k4, k5⟩, ⟨Nat.le_trans g3 big, g5⟩, fun Z hZ => ⟨A5, n5, c5, rfl, o5 Z hZ⟩⟩
theorem given_item (n : Nat) (cs : List Value) (y : DataW H × List MemPlace) (h : DataW.trod enc Tryd.prog W 0 (fun _ => true) true n 61 cs = some y) : ∃ x : Item, oI x ∧ Old W (fun Z => kItem.R Z x cs) := by
  obtain ⟨hl, m, hf⟩ := st_field Tryd.underlying61 h
  rw [show Tryd.prog.cellsOf 61 = 7 by kernel_rfl] at hl
  match cs, hl with
  | [a, b, c, d, e, f, g], _ =>
    obtain ⟨z0, h0⟩ : ∃ z, DataW.trod enc Tryd.prog W 0 (fun _ => true) true m 3 ((List.drop 0 [a, b, c, d, e, f, g]).take (Tryd.prog.cellsOf 3)) = some z := hf 0 _ rfl
    obtain ⟨z1, h1⟩ : ∃ z, DataW.trod enc Tryd.prog W 0 (fun _ => true) true m 3 ((List.drop 1 [a, b, c, d, e, f, g]).take (Tryd.prog.cellsOf 3)) = some z := hf 1 _ rfl
    obtain ⟨z2, h2⟩ : ∃ z, DataW.trod enc Tryd.prog W 0 (fun _ => true) true m 9 ((List.drop 2 [a, b, c, d, e, f, g]).take (Tryd.prog.cellsOf 9)) = some z := hf 2 _ rfl
    obtain ⟨z3, h3⟩ : ∃ z, DataW.trod enc Tryd.prog W 0 (fun _ => true) true m 4 ((List.drop 3 [a, b, c, d, e, f, g]).take (Tryd.prog.cellsOf 4)) = some z := hf 3 _ rfl
    obtain ⟨z4, h4⟩ : ∃ z, DataW.trod enc Tryd.prog W 0 (fun _ => true) true m 41 ((List.drop 4 [a, b, c, d, e, f, g]).take (Tryd.prog.cellsOf 41)) = some z := hf 4 _ rfl
    obtain ⟨z5, h5⟩ : ∃ z, DataW.trod enc Tryd.prog W 0 (fun _ => true) true m 44 ((List.drop 5 [a, b, c, d, e, f, g]).take (Tryd.prog.cellsOf 44)) = some z := hf 5 _ rfl
    obtain ⟨z6, h6⟩ : ∃ z, DataW.trod enc Tryd.prog W 0 (fun _ => true) true m 47 ((List.drop 6 [a, b, c, d, e, f, g]).take (Tryd.prog.cellsOf 47)) = some z := hf 6 _ rfl
    simp only [k_int, k_str, k_bool, k_comps, k_acts, k_nods, List.drop_zero, List.drop_succ_cons, List.take_succ_cons, List.take_zero] at h0 h1 h2 h3 h4 h5 h6
    obtain ⟨k0, e0, _, _⟩ := DataW.trod_int Tryd.underlying3 h0
    obtain ⟨k1, e1, _, _⟩ := DataW.trod_int Tryd.underlying3 h1
    obtain ⟨k2, e2, _, g2⟩ := DataW.trod_string Tryd.underlying9 h2
    obtain ⟨k3, e3, _⟩ := DataW.trod_bool Tryd.underlying4 h3
    obtain ⟨A4, n4, c4, k4, e4, o4, g4⟩ := given_sl (d := kComp) Tryd.underlying41 (by kernel_rfl) (by decide) given_comp h4
    obtain ⟨A5, n5, c5, k5, e5, o5, g5⟩ := given_sl (d := kActn) Tryd.underlying44 (by kernel_rfl) (by decide) given_actn h5
    obtain ⟨A6, n6, c6, k6, e6, o6, g6⟩ := given_sl (d := kNod) Tryd.underlying47 (by kernel_rfl) (by decide) given_nod h6
    simp only [List.cons.injEq, and_true] at e0 e1 e2 e3 e4 e5 e6
    subst e0; subst e1; subst e2; subst e3; subst e4; subst e5; subst e6
    exact ⟨⟨k0, k1, k2, k3, k4, k5, k6⟩, ⟨Nat.le_trans g2 big, g4, g5, g6⟩, fun Z hZ => ⟨A4, n4, c4, A5, n5, c5, A6, n6, c6, rfl, o4 Z hZ, o5 Z hZ, o6 Z hZ⟩⟩
theorem given_items {base : Nat} {v : Value} {d : DataW H} {p : List MemPlace} (hval : Value.okWide Tryd.prog W .any base 22 v) (h : DataW.Trod enc Tryd.prog W 0 (fun _ => true) true 22 v d p) :
    ∃ A n c xs, v = .slice A n c ∧ (∀ Z : Hp, (∀ i, i < W.heap.size → Z i = W.heap[i]?) → kItem.sl Z (.slice A n c) xs) ∧ ∀ x ∈ xs, oI x := by
  obtain ⟨A, n, c, rfl⟩ := okWide_slice Tryd.underlying22 hval
  obtain ⟨fuel, hf⟩ := h
  obtain ⟨A', n', c', xs, e, o, g⟩ := given_sl (d := kItem) Tryd.underlying22 (by kernel_rfl) (by decide) given_item hf
  simp only [Value.cells, List.cons.injEq, and_true] at e
  rw [e]
  exact ⟨A', n', c', xs, rfl, o, g⟩
end
end Go.Proofs.YtnkcmpmcmkljnaaDoor
