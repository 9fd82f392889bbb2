/- Arguments that are given: what they are in memory. -/
import Derived.Test.YtnkcmpmcmkljnaaDoorWrt
import Derived.WalkKit
import Derived.ProofKit
import Derived.OpenShut
set_option linter.unusedVariables false
set_option linter.unusedSimpArgs false
namespace Go.Proofs.YtnkcmpmcmkljnaaDoor
open Go.ChangeShapes Go.WideShapes Go.ChangeAt Go.RowKit
section
variable {H : Type} {enc : TypeId × Value → H} {P : Program} {W : World} {base : Nat} {t e : TypeId} {v : Value} {d : DataW H} {p : List MemPlace}
/-- What is read of a slice of whole numbers. -/
theorem given_row {k : IntKind} (ht : P.underlying t = some (.slice e)) (he : P.underlying e = some (.int k)) (hc : P.cellsOf e = 1)
    (hval : Value.okWide P W .any base t v) (h : DataW.Trod enc P W 0 (fun _ => true) true t v d p) :
    ∃ A n c, v = .slice A n c ∧ n ≤ c ∧ c ≤ maxLen ∧ ∃ zs : List Int, zs.length = n ∧ (∀ n ∈ zs, (Lit.int k n).wf = true) ∧
      (0 < n → ∃ b off arr T fr, A = some ⟨b, off, none⟩ ∧ W.heap[b]? = some (.cells arr T fr) ∧ ∀ i, i < n → arr[off + i]? = some (.int k (zs.getD i 0))) := by
  obtain ⟨A, n, c, rfl⟩ := okWide_slice ht hval
  obtain ⟨fuel, hf⟩ := h
  rcases open_ints ht he hc hf with ⟨hcs, hx⟩ | ⟨a, len', cap', zs, hcs, _, hl, hm, hz, hx, hcell, hwz⟩
  · simp [Value.cells] at hcs
    obtain ⟨rfl, rfl, rfl⟩ := hcs
    exact ⟨none, 0, 0, rfl, Nat.le_refl _, Nat.zero_le _, [], rfl, fun n h => (by cases h), fun h => absurd h (by omega)⟩
  · simp [Value.cells] at hcs
    obtain ⟨rfl, rfl, rfl⟩ := hcs
    simp only [if_true] at hz
    refine ⟨some a, n, c, rfl, hl, hm, zs.take n, by simp; omega, fun m hm => hwz m (List.mem_of_mem_take hm), fun h0 => ?_⟩
    obtain ⟨ab, ao, spot⟩ := a
    have hc0 := hcell 0 (by omega)
    have hspot : spot = none := by simpa [Addr.add] using World.cell?_spot hc0
    subst hspot
    have hcell' : ∀ i, i < zs.length → W.cell? ⟨ab, ao + i, none⟩ = some (.int k (zs.getD i 0)) := fun i hi => by
      have := hcell i hi
      rwa [add_at] at this
    have h1 := hcell' 0 (by omega)
    cases hb : W.heap[ab]? with
    | none => simp [World.cell?, hb] at h1
    | some o =>
      cases o with
      | cells arr T fr =>
        refine ⟨ab, ao, arr, T, fr, rfl, hb, fun i hi => ?_⟩
        have := hcell' i (by omega)
        simp only [World.cell?, hb, Option.isSome_none, Bool.false_eq_true, if_false] at this
        rw [this]
        congr 2
        rw [List.getD_eq_getElem?_getD, List.getD_eq_getElem?_getD, List.getElem?_take, if_pos hi]
      | _ => simp [World.cell?, hb] at h1
theorem given_u8 (ht : P.underlying t = some (.slice e)) (he : P.underlying e = some (.int .u8)) (hc : P.cellsOf e = 1)
    (hval : Value.okWide P W .any base t v) (h : DataW.Trod enc P W 0 (fun _ => true) true t v d p) :
    ∃ A n c bs, v = .slice A n c ∧ ∀ Z : Hp, (∀ i, i < W.heap.size → Z i = W.heap[i]?) → kU8.sl Z (.slice A n c) bs := by
  obtain ⟨A, n, c, rfl, h1, h2, zs, hl, hw, h3⟩ := given_row ht he hc hval h
  refine ⟨A, n, c, zs.map fun m => UInt8.ofNat m.toNat, rfl, fun Z hZ => ⟨A, c, by simp [hl], by simpa [hl] using h1, h2, fun h0 => ?_⟩⟩
  obtain ⟨b, off, arr, T, fr, rfl, hb, hrow⟩ := h3 (by simpa [hl] using h0)
  have hlt : b < W.heap.size := (Array.getElem?_eq_some_iff.1 hb).1
  refine ⟨b, off, arr, T, fr, rfl, by rw [hZ b hlt]; exact hb, fun i x hx => ⟨[.int .u8 x.toNat], rfl, fun j u hj => ?_⟩⟩
  have : j = 0 ∧ u = .int .u8 x.toNat := by
    cases j with
    | zero => simpa using hj.symm
    | succ j => simp at hj
  obtain ⟨rfl, rfl⟩ := this
  rw [List.getElem?_map, Option.map_eq_some_iff] at hx
  obtain ⟨m, hm, rfl⟩ := hx
  have hi : i < n := by rw [← hl]; exact (List.getElem?_eq_some_iff.1 hm).1
  have h4 := hrow i hi
  rw [List.getD_eq_getElem?_getD, hm] at h4
  have hwm := hw m (List.mem_of_getElem? hm)
  simp [Lit.wf, IntKind.min, IntKind.max, IntKind.signed, IntKind.bits] at hwm
  show arr[off + i * 1 + 0]? = _
  rw [Nat.mul_one, Nat.add_zero, h4]
  simp
  omega
theorem given_int (ht : P.underlying t = some (.slice e)) (he : P.underlying e = some (.int .i64)) (hc : P.cellsOf e = 1)
    (hval : Value.okWide P W .any base t v) (h : DataW.Trod enc P W 0 (fun _ => true) true t v d p) :
    ∃ A n c zs, v = .slice A n c ∧ ∀ Z : Hp, (∀ i, i < W.heap.size → Z i = W.heap[i]?) → kInt.sl Z (.slice A n c) zs := by
  obtain ⟨A, n, c, rfl, h1, h2, zs, hl, hw, h3⟩ := given_row ht he hc hval h
  refine ⟨A, n, c, zs, rfl, fun Z hZ => ⟨A, c, by rw [hl], by simpa [hl] using h1, h2, fun h0 => ?_⟩⟩
  obtain ⟨b, off, arr, T, fr, rfl, hb, hrow⟩ := h3 (by simpa [hl] using h0)
  have hlt : b < W.heap.size := (Array.getElem?_eq_some_iff.1 hb).1
  refine ⟨b, off, arr, T, fr, rfl, by rw [hZ b hlt]; exact hb, fun i x hx => ?_⟩
  have hwm := hw x (List.mem_of_getElem? hx)
  simp [Lit.wf, IntKind.min, IntKind.max, IntKind.signed, IntKind.bits] at hwm
  refine ⟨[.int .i64 x], ⟨rfl, by omega, by omega⟩, fun j u hj => ?_⟩
  have : j = 0 ∧ u = .int .i64 x := by
    cases j with
    | zero => simpa using hj.symm
    | succ j => simp at hj
  obtain ⟨rfl, rfl⟩ := this
  have hi : i < n := by rw [← hl]; exact (List.getElem?_eq_some_iff.1 hx).1
  have h4 := hrow i hi
  rw [List.getD_eq_getElem?_getD, hx] at h4
  show arr[off + i * 1 + 0]? = _
  rw [Nat.mul_one, Nat.add_zero, h4]
  rfl
theorem Sep.given_rd {α : Type} {k : Kd α} {w : World} {xs : List α} {r : List Ch} (h : Sep W w r) (hg : ∀ Z : Hp, (∀ i, i < W.heap.size → Z i = W.heap[i]?) → k.sl Z v xs) : Sep W w (.rd k v xs :: r) := h.old_ro hg
end
end Go.Proofs.YtnkcmpmcmkljnaaDoor
