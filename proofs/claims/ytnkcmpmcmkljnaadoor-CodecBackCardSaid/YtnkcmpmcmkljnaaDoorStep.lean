/- The operations on memory, one law each. -/
import Derived.Test.YtnkcmpmcmkljnaaDoorMem
set_option linter.unusedVariables false
set_option linter.unusedSimpArgs false
namespace Go.Proofs.YtnkcmpmcmkljnaaDoor
open Go.RowKit

section
variable {P : Program} {W w w' : World} {N dd : Nat} {l : List (Nat × Value)} {v u : Value} {x y z : Operand} {T U U' E : TypeId} {cs r r' : List Ch} {α : Type} {d : Kd α} {xs ys : List α} {b off : Nat} {vs : List Value} {k : IntKind} {m n i : Int} {f : FuncId}

theorem add_at (b off j : Nat) : (⟨b, off, none⟩ : Addr).add j = ⟨b, off + j, none⟩ := Addr.add_lit b off j

theorem yNilP {ad : Addr} (hx : ev l x = some (.pointer (some ad))) : Yl P w l (.nilCheck x) T (.pointer (some ad)) := fun ρ o h ho _ => by
  unfold execOp; rw [ho]; simp [h _ _ hx]
theorem yFieldA {fs : Array Field} {fd : Field} {j sz : Nat} (hu : ∀ w, (underlying U).run P w = .ok (.struct fs) w) (hf : fs[j]? = some fd) (hz : ∀ w, (sizeOf fd.type).run P w = .ok sz w) (hs : Nat.beq sz 0 = false)
    (hx : ev l x = some (.pointer (some ⟨b, off, none⟩))) : Yl P w l (.fieldAddr U x j) T (.pointer (some ⟨b, off + fd.offset, none⟩)) := fun ρ o h ho _ => by
  have hs' : sz ≠ 0 := by rintro rfl; cases hs
  unfold execOp; rw [ho]; simp [h _ _ hx, Instr.fieldAt, hu, hf, Instr.sureAddr, fieldPlace, hz, hs', add_at]
theorem yLoad {ad : Addr} (hA : ∀ w, (isAgg U).run P w = .ok false w) (hx : ev l x = some (.pointer (some ad))) (hc : w.cell? ad = some v) : Yl P w l (.load U x) T v := fun ρ o h ho _ => by
  unfold execOp; rw [ho]; simp [h _ _ hx, Instr.loadAt, Instr.sureAddr, loadVar, hA, hc]
theorem yLoadA {sz : Nat} (hA : ∀ w, (isAgg U).run P w = .ok true w) (hz : ∀ w, (sizeOf U).run P w = .ok sz w) (hx : ev l x = some (.pointer (some ⟨b, off, none⟩))) (hl : vs.length = sz)
    (hc : ∀ j u, vs[j]? = some u → w.cell? ⟨b, off + j, none⟩ = some u) : Yl P w l (.load U x) T (.agg vs.toArray) := fun ρ o h ho _ => by
  subst hl
  unfold execOp; rw [ho]
  have := run_loadCells_list (P := P) w ⟨b, off, none⟩ vs (fun j u hj => by rw [add_at]; exact hc j u hj)
  simp [h _ _ hx, Instr.loadAt, Instr.sureAddr, loadVar, hA, hz, this]
/-- A load out of a block of one's own, out of cells for reading. -/
theorem yLoadB (hA : ∀ w, (isAgg U).run P w = .ok false w) (hs : Sep W w cs) (hx : ev l x = some (.pointer (some ⟨b, off, none⟩))) (hk : Pick cs (.blk b E vs) r) (hv : vs[off]? = some v) : Yl P w l (.load U x) T v :=
  yLoad hA hx (hs.blk_cell hk hv)
theorem yLoadR {j : Nat} (hA : ∀ w, (isAgg U).run P w = .ok false w) (hs : Sep W w cs) (hx : ev l x = some (.pointer (some ⟨b, off + j, none⟩))) (hk : Pick cs (.at b off vs) r) (hv : vs[j]? = some v) : Yl P w l (.load U x) T v :=
  yLoad hA hx (hs.at_cell hk hv)
theorem yLoadR0 (hA : ∀ w, (isAgg U).run P w = .ok false w) (hs : Sep W w cs) (hx : ev l x = some (.pointer (some ⟨b, off, none⟩))) (hk : Pick cs (.at b off vs) r) (hv : vs[0]? = some v) : Yl P w l (.load U x) T v :=
  yLoad hA hx (hs.at_cell hk hv)
theorem yLoadRA {sz : Nat} (hA : ∀ w, (isAgg U).run P w = .ok true w) (hz : ∀ w, (sizeOf U).run P w = .ok sz w) (hs : Sep W w cs) (hx : ev l x = some (.pointer (some ⟨b, off, none⟩))) (hk : Pick cs (.at b off vs) r) (hl : vs.length = sz) : Yl P w l (.load U x) T (.agg vs.toArray) :=
  yLoadA hA hz hx hl fun j u hj => hs.at_cell hk hj
theorem yLoadBA {sz : Nat} (hA : ∀ w, (isAgg U).run P w = .ok true w) (hz : ∀ w, (sizeOf U).run P w = .ok sz w) (hs : Sep W w cs) (hx : ev l x = some (.pointer (some ⟨b, 0, none⟩))) (hk : Pick cs (.blk b E vs) r) (hl : vs.length = sz) : Yl P w l (.load U x) T (.agg vs.toArray) :=
  yLoadA hA hz hx hl fun j u hj => by rw [Nat.zero_add]; exact hs.blk_cell hk hj
/-- A store into a block of one's own. -/
theorem sStore (hz : ∀ w, (sizeOf U).run P w = .ok 1 w) (hs : Sep W w cs) (hx : ev l x = some (.pointer (some ⟨b, off, none⟩))) (hy : ev l y = some v) (hv : v.cells = #[v]) (h1 : v.oneCell' = true) (hk : Pick cs (.blk b E vs) r) (ho : vs[off]? = some u) :
    Sk P w l (.store U x y) T (w.setCell ⟨b, off, none⟩ v) ∧ Sep W (w.setCell ⟨b, off, none⟩ v) (.blk b E (vs.set off v) :: r) := by
  refine ⟨fun ρ o h ho' _ => ?_, hs.blk_set hk off v⟩
  unfold execOp; rw [ho']
  have hc := hs.blk_cell hk ho
  have hf := hs.blk_frozen hk off
  simp [h _ _ hx, h _ _ hy, Instr.storeAt, Instr.sureAddr, storeVar, hz, hv, storeCells, run_store P w _ v _ h1, hc, hf, Addr.add_zero']
theorem pStore {a : Act} {ops : Array Oper} {Q : Exit → Act → World → Prop} {rest : List Oper} {ps : String} {af : Array Edge} (ha : Has a N l) (hz : ∀ w, (sizeOf U).run P w = .ok 1 w) (hs : Sep W w cs) (hx : ev l x = some (.pointer (some ⟨b, off, none⟩))) (hy : ev l y = some v) (hv : v.cells = #[v]) (h1 : v.oneCell' = true) (hk : Pick cs (.blk b E vs) r) (ho : vs[off]? = some u)
    (h : ∀ w', Sep W w' (.blk b E (vs.set off v) :: r) → wpList P ops Q rest a w') : wpList P ops Q (⟨none, .store U x y, T, ps, af, none⟩ :: rest) a w :=
  let ⟨h2, h3⟩ := sStore (P := P) (T := T) (l := l) hz hs hx hy hv h1 hk ho
  pS ha h2 (h _ h3)
theorem yIndexA {c n' sz : Nat} (hu : ∀ w, (underlying U).run P w = .ok (.slice E) w) (hz : ∀ w, (sizeOf E).run P w = .ok sz w) (hx : ev l x = some (.slice (some ⟨b, off, none⟩) n' c)) (hy : ev l y = some (.int k i)) (h0 : 0 ≤ i) (h1 : i < n') :
    Yl P w l (.indexAddr U x y) T (.pointer (some ⟨b, off + i.toNat * sz, none⟩)) := fun ρ o h ho _ => by
  unfold execOp; rw [ho]; simp [h _ _ hx, h _ _ hy, Instr.indexAt, asIntOf, hu, h0, h1, hz, add_at]
theorem yIndexS {s : ByteArray} (hu : ∀ w, (underlying U).run P w = .ok .string w) (hx : ev l x = some (.string s)) (hy : ev l y = some (.int k i)) (h0 : 0 ≤ i) (h1 : i.toNat < s.size) :
    Yl P w l (.index U x y) T (.int .u8 (s[i.toNat]).toNat) := fun ρ o h ho _ => by
  unfold execOp; rw [ho]; simp [h _ _ hx, h _ _ hy, Instr.index, asIntOf, hu, h0, h1]
theorem yIndexSb {s : ByteArray} {c : UInt8} (hu : ∀ w, (underlying U).run P w = .ok .string w) (hx : ev l x = some (.string s)) (hy : ev l y = some (.int k i)) (h0 : 0 ≤ i) (hc : s.data.toList[i.toNat]? = some c) :
    Yl P w l (.index U x y) T (.int .u8 c.toNat) := by
  have h1 : i.toNat < s.size := by have := (List.getElem?_eq_some_iff.1 hc).1; simpa using this
  have h2 : s[i.toNat] = c := by
    have := (List.getElem?_eq_some_iff.1 hc).2
    rw [Array.getElem_toList] at this
    exact this
  have := yIndexS (P := P) (w := w) (T := T) hu hx hy h0 h1
  rwa [h2] at this
theorem yExtract {vs : Array Value} {j : Nat} (hx : ev l x = some (.tuple vs)) (hv : vs[j]? = some v) : Yl P w l (.extract x j) T v := fun ρ o h ho _ => by
  unfold execOp; rw [ho]; simp [h _ _ hx, Instr.extract, hv]
theorem yLenS {A : Option Addr} {n c : Nat} (hu : ∀ w, (underlying U).run P w = .ok (.slice E) w) (hx : ev l x = some (.slice A n c)) : Yl P w l (.call { callee := .builtin .len, args := #[x], argTypes := #[U] }) T (.int .i64 n) := fun ρ o h ho _ => by
  unfold execOp; rw [ho]; simp [resolve, invoke, builtin, h _ _ hx, Builtin.len_, goInt, hu]
theorem yLenStr {s : ByteArray} (hu : ∀ w, (underlying U).run P w = .ok .string w) (hx : ev l x = some (.string s)) : Yl P w l (.call { callee := .builtin .len, args := #[x], argTypes := #[U] }) T (.int .i64 s.size) := fun ρ o h ho _ => by
  unfold execOp; rw [ho]; simp [resolve, invoke, builtin, h _ _ hx, Builtin.len_, goInt, hu]
theorem nCall {as : Array Operand} {ts : Array TypeId} {vs : List Value} (hc : ∀ args w, (callFunc f args).run P w = .ok (.enter f args) w) (ha : evs l as.toList = some vs) : En P w l (.call { callee := .value (.func f), args := as, argTypes := ts }) T f vs.toArray := fun ρ o h ho _ => by
  have := h.list ha
  have h2 : as.map ρ = vs.toArray := by rw [← this]; apply Array.ext'; simp
  have h3 : ρ (.func f) = .func (.func f) #[] #[] := h _ _ rfl
  unfold execOp; rw [ho]; simp [resolve, h2, h3, Deferred.ofValue, invoke, hc]
/-! Cuts of slices and of strings. -/
theorem ySlice {A : Option Addr} {n c lo hi sz : Nat} {ol oh : Option Operand} (hu : ∀ w, (underlying U).run P w = .ok (.slice E) w) (hz : ∀ w, (sizeOf E).run P w = .ok sz w) (hx : ev l x = some (.slice A n c))
    (hlo : (ol = none ∧ lo = 0) ∨ ∃ q k, ol = some q ∧ ev l q = some (.int k lo)) (hhi : (oh = none ∧ hi = n) ∨ ∃ q k, oh = some q ∧ ev l q = some (.int k hi)) (h1 : lo ≤ hi) (h2 : hi ≤ c) :
    Yl P w l (.slice U x ol oh none) T (.slice (if c = lo then A else A.map (·.add (lo * sz))) (hi - lo) (c - lo)) := fun ρ o h ho _ => by
  unfold execOp; rw [ho]
  rcases hlo with ⟨rfl, rfl⟩ | ⟨q, k, rfl, hq⟩ <;> rcases hhi with ⟨rfl, rfl⟩ | ⟨q', k', rfl, hq'⟩
  · simp [h _ _ hx, Instr.sliceAt, Instr.slice, hu, hz, Instr.sliceBounds]
  · simp [h _ _ hx, h _ _ hq', Instr.sliceAt, Instr.slice, hu, hz, Instr.sliceBounds, Instr.sliceBound, asIntOf, h2]
  · have h3 : ¬ hi < lo := by omega
    have h4 : ((lo : Int) ≤ (hi : Int)) := by omega
    simp [h3, h4, h1, h _ _ hx, h _ _ hq, Instr.sliceAt, Instr.slice, hu, hz, Instr.sliceBounds, Instr.sliceBound, asIntOf]
  · have h3 : ¬ hi < lo := by omega
    have h4 : ¬ c < hi := by omega
    simp [h1, h2, h3, h4, h _ _ hx, h _ _ hq, h _ _ hq', Instr.sliceAt, Instr.slice, hu, hz, Instr.sliceBounds, Instr.sliceBound, asIntOf]
theorem ySliceStr {s : ByteArray} {lo hi : Nat} {ol oh : Option Operand} (hu : ∀ w, (underlying U).run P w = .ok .string w) (hx : ev l x = some (.string s))
    (hlo : (ol = none ∧ lo = 0) ∨ ∃ q k, ol = some q ∧ ev l q = some (.int k lo)) (hhi : (oh = none ∧ hi = s.size) ∨ ∃ q k, oh = some q ∧ ev l q = some (.int k hi)) (h1 : lo ≤ hi) (h2 : hi ≤ s.size) :
    Yl P w l (.slice U x ol oh none) T (.string (s.extract lo hi)) := fun ρ o h ho _ => by
  unfold execOp; rw [ho]
  rcases hlo with ⟨rfl, rfl⟩ | ⟨q, k, rfl, hq⟩ <;> rcases hhi with ⟨rfl, rfl⟩ | ⟨q', k', rfl, hq'⟩
  · simp [h _ _ hx, Instr.sliceAt, Instr.slice, hu, Instr.sliceBounds]
  · simp [h _ _ hx, h _ _ hq', Instr.sliceAt, Instr.slice, hu, Instr.sliceBounds, Instr.sliceBound, asIntOf, h2]
  · have h3 : ¬ s.size < lo := by omega
    simp [h1, h3, h _ _ hx, h _ _ hq, Instr.sliceAt, Instr.slice, hu, Instr.sliceBounds, Instr.sliceBound, asIntOf]
  · have h3 : ¬ hi < lo := by omega
    have h4 : ¬ s.size < hi := by omega
    simp [h1, h2, h3, h4, h _ _ hx, h _ _ hq, h _ _ hq', Instr.sliceAt, Instr.slice, hu, Instr.sliceBounds, Instr.sliceBound, asIntOf]
theorem yConvInt (hs : ∀ w, ∃ dd, (underlying U).run P w = .ok dd w) (hu : ∀ w, (underlying U').run P w = .ok (.int k) w) {k' : IntKind} (hx : ev l x = some (.int k' n)) : Yl P w l (.convert U U' x) T (.int k (k.wrap n)) := fun ρ o h ho _ => by
  obtain ⟨dd, hd⟩ := hs w
  unfold execOp; rw [ho]; simp [h _ _ hx, convert, hd, hu, Conv.intToInt]
end
end Go.Proofs.YtnkcmpmcmkljnaaDoor
