/- Lists: making, appending, comparing with nil, bytes and texts. -/
import Derived.Test.YtnkcmpmcmkljnaaDoorCtl
import Derived.WideLaws
import Derived.WalkSpells
import Derived.Lib.SliceRun
set_option linter.unusedVariables false
set_option linter.unusedSimpArgs false
namespace Go.Proofs.YtnkcmpmcmkljnaaDoor
open Go.RowKit

/-! Kinds. -/
def kU8 : Kd UInt8 where
  sz := 1
  R := fun _ x cs => cs = [.int .u8 x.toNat]
  mono := fun _ h => h
  len := fun h => by subst h; rfl
  one := fun h u hu => by subst h; simp at hu; subst hu; rfl
def kInt : Kd Int where
  sz := 1
  R := fun _ x cs => cs = [.int .i64 x] ∧ -9223372036854775808 ≤ x ∧ x ≤ 9223372036854775807
  mono := fun _ h => h
  len := fun h => by obtain ⟨rfl, _⟩ := h; rfl
  one := fun h u hu => by obtain ⟨rfl, _⟩ := h; simp at hu; subst hu; rfl

section
variable {P : Program} {W w w' : World} {N dd : Nat} {a : Act} {ops : Array Oper} {Q : Exit → Act → World → Prop} {rest : List Oper} {ps : String} {af : Array Edge}
  {l : List (Nat × Value)} {v v2 u : Value} {x y z : Operand} {T U U' E : TypeId} {cs r r' r2 r3 : List Ch} {α : Type} {d : Kd α} {xs ys : List α} {b off n c sz bytes : Nat} {vs es : List Value} {A : Option Addr}

theorem Sep.of_below (h : Sep W w cs) (hb : Below w.heap.size w w') : Sep W w' cs := by
  obtain ⟨h0, Z, H, hd, hz, hh, hw, ha⟩ := h
  have up : (hp w).le (hp w') := fun i o hi => by
    have hlt : i < w.heap.size := (Array.getElem?_eq_some_iff.1 hi).1
    show w'.heap[i]? = _
    rw [hb.block i hlt]; exact hi
  exact ⟨⟨hb.os.trans h0.1, hb.tape.trans h0.2.1, hb.output.trans h0.2.2⟩, Z, H, hd, Hp.le_trans hz up, Hp.le_trans hh up, hw, ha⟩

/-! nil -/
theorem ySlEql (hu : P.underlying U = some (.slice E)) (hx : ev l x = some (.slice A n c)) (hy : ev l y = some (.slice none 0 0)) : Yl P w l (.binOp .eql U x y U') T (.bool A.isNone) :=
  yBin hx hy (fun _ _ => by rw [eqGuard_at_slice]; rfl) (Lib.run_eql_slice_nil _ U E A n c 0 0 hu)
theorem ySlNeq (hu : P.underlying U = some (.slice E)) (hx : ev l x = some (.slice A n c)) (hy : ev l y = some (.slice none 0 0)) : Yl P w l (.binOp .neq U x y U') T (.bool (!A.isNone)) :=
  yBin hx hy (fun _ _ => by rw [eqGuard_at_slice]; rfl) (run_neq_slice_nil_any _ U E A n c 0 0 hu)
theorem pointee_of (h : P.underlying U = some (.pointer E)) : P.underlying U = some (.pointer (P.pointee U)) := by simp [Program.pointee, h]
theorem yPtrEqlN {A : Option Addr} (hu : P.underlying U = some (.pointer E)) (hx : ev l x = some (.pointer A)) (hy : ev l y = some (.pointer none)) : Yl P w l (.binOp .eql U x y U') T (.bool A.isNone) :=
  yBin hx hy (fun _ _ => by rw [eqGuard_at_pointer]; rfl) (by have := run_eql_pointer_nil (P := P) (w := w) U A (pointee_of hu); rw [this])
theorem yPtrNeqN {A : Option Addr} (hu : P.underlying U = some (.pointer E)) (hx : ev l x = some (.pointer A)) (hy : ev l y = some (.pointer none)) : Yl P w l (.binOp .neq U x y U') T (.bool (!A.isNone)) :=
  yBin hx hy (fun _ _ => by rw [eqGuard_at_pointer]; rfl) (by have := run_neq_pointer_nil (P := P) (w := w) U A (pointee_of hu); rw [this])
theorem bytes_beq (s t : ByteArray) : (s.toList == t.toList) = decide (s = t) := by
  rw [ByteArray.toList_eq, ByteArray.toList_eq, Bool.eq_iff_iff]
  simp only [beq_iff_eq, decide_eq_true_eq]
  exact ⟨fun h => ByteArray.ext (Array.ext' h), fun h => by rw [h]⟩
theorem yStrEql {s t : ByteArray} (hx : ev l x = some (.string s)) (hy : ev l y = some (.string t)) : Yl P w l (.binOp .eql U x y U') T (.bool (decide (s = t))) :=
  yBin hx hy (fun _ _ => by rw [eqGuard_at_string]; rfl) (by simp [binOp, Op.stringOp, bytes_beq])
theorem yStrNeq {s t : ByteArray} (hx : ev l x = some (.string s)) (hy : ev l y = some (.string t)) : Yl P w l (.binOp .neq U x y U') T (.bool (!decide (s = t))) :=
  yBin hx hy (fun _ _ => by rw [eqGuard_at_string]; rfl) (by simp [binOp, Op.stringOp, bne, bytes_beq])

theorem run_equal_bool (hu : P.underlying U = some .bool) (s t : Bool) (w : World) : (Op.equal U (.bool s) (.bool t)).run P w = .ok (s == t) w := run_equalIn_bool w 9999 U s t hu
theorem yBoolEql {s t : Bool} (hu : P.underlying U = some .bool) (hx : ev l x = some (.bool s)) (hy : ev l y = some (.bool t)) : Yl P w l (.binOp .eql U x y U') T (.bool (decide (s = t))) :=
  yBin hx hy (fun _ _ => by rw [eqGuard_at_bool]; rfl) (by simp [binOp, run_equal_bool hu]; cases s <;> cases t <;> rfl)
theorem yBoolNeq {s t : Bool} (hu : P.underlying U = some .bool) (hx : ev l x = some (.bool s)) (hy : ev l y = some (.bool t)) : Yl P w l (.binOp .neq U x y U') T (.bool (!decide (s = t))) :=
  yBin hx hy (fun _ _ => by rw [eqGuard_at_bool]; rfl) (by simp [binOp, run_equal_bool hu]; cases s <;> cases t <;> rfl)
/-! A literal of a slice: a new block. -/
def Mk (P : Program) (w : World) (l : List (Nat × Value)) (op : Op) (T E : TypeId) (n : Nat) (es : List Value) : Prop :=
  ∀ (ρ : Operand → Value) (o : Oper), Ev l ρ → o.op = op → o.type = T → (execOp ρ o).run P w = .ok (.value (.slice (some ⟨w.heap.size, 0, none⟩) n n)) (w.alloc (.cells es.toArray E))
theorem pMake {op : Op} (ha : Has a N l) (hm : Mk P w l op T E n es) (hs : Sep W w cs) (hd : Nat.blt dd N = true)
    (h : ∀ b w, Sep W w (.blk b E es :: cs) → ∀ a, Has a N ((dd, .slice (some ⟨b, 0, none⟩) n n) :: l) → wpList P ops Q rest a w) : wpList P ops Q (⟨some dd, op, T, ps, af, none⟩ :: rest) a w :=
  pE ha (fun ρ o he h1 h2 => hm ρ o he h1 h2) hd fun a ha => h _ _ (by have := hs.blk_alloc es.toArray E; simpa using this) a ha
theorem mk1v {zv v0 : Value} (w : World) (hu : ∀ w, (underlying U).run P w = .ok (.slice E) w) (hz : ∀ w, (sizeOf E).run P w = .ok 1 w) (h0 : ∀ w, (zeroValue E).run P w = .ok zv w) (hz1 : zv.cells.size = 1) (hv : v0.cells = #[v0]) {ρ : Operand → Value} {x0 : Operand} (hx : ρ x0 = v0) :
    (do pure (Next.value (← Instr.buildSlice U 1 (#[(0, x0)].map fun (i, x) => (i, ρ x)))) : Sem Next).run P w = .ok (.value (.slice (some ⟨w.heap.size, 0, none⟩) 1 1)) (w.alloc (.cells #[v0] E)) := by
  have hs : v0.cells.size = 1 := by rw [hv]; rfl
  have e1 : ∀ (z : Value), (((Array.map (fun x => zv.cells[x % zv.cells.size]!) (Array.range 0)).push z).setIfInBounds 0 v0) = #[v0] := fun z => by apply Array.ext'; simp
  simp [Instr.buildSlice, hu, hz, h0, Instr.fill, hx, hv, newRow, Array.range_succ, e1]
theorem fold_set : ∀ (cs : List Value) (k : Nat) (acc : Array Value), acc.size = k + cs.length → ((cs.zipIdx k).foldl (fun acc (p : Value × Nat) => acc.setIfInBounds p.2 p.1) acc) = (acc.toList.take k ++ cs).toArray := by
  intro cs
  induction cs with
  | nil => intro k acc hk; simp only [List.zipIdx_nil, List.foldl_nil, List.append_nil]; apply Array.ext'; simp only [List.length_nil, Nat.add_zero] at hk; rw [← hk, ← Array.length_toList, List.take_length]
  | cons c r ih =>
    intro k acc hk
    simp only [List.zipIdx_cons, List.foldl_cons]
    rw [ih (k + 1) _ (by simp at hk ⊢; omega)]
    simp at hk
    congr 1
    simp only [Array.toList_setIfInBounds]
    rw [List.take_succ_eq_append_getElem (by simp; omega), List.take_set_of_le (by omega)]
    simp
theorem fill_one {off size : Nat} {cells : Array Value} {c0 : List Value} (hs : c0.length = size) (hc : cells.size = size) (ho : off = 0) : Instr.fill (fun i => some (off + i * size, size)) cells [(0, .agg c0.toArray)] = some c0.toArray := by
  subst ho
  have := fold_set c0 0 cells (by omega)
  simp [Instr.fill, Value.cells, hs, hc]
  simp at this
  exact this
theorem agg_cells (c : Array Value) : (Value.agg c).cells = c := rfl
theorem fill_v {place : Nat → Option (Nat × Nat)} {i off : Nat} {cells : Array Value} {v : Value} {rest : List (Nat × Value)} (hv : v.cells = #[v]) (hp : place i = some (off, 1)) (hc : off + 1 ≤ cells.size) :
    Instr.fill place cells ((i, v) :: rest) = Instr.fill place (cells.setIfInBounds off v) rest := by
  rw [Instr.fill, hp]
  have h : ¬ cells.size < off + 1 := by omega
  simp [hv, h]
theorem mk1 {zv : Value} {sz : Nat} {c0 : List Value} (w : World) (hu : ∀ w, (underlying U).run P w = .ok (.slice E) w) (hz : ∀ w, (sizeOf E).run P w = .ok sz w) (h0 : ∀ w, (zeroValue E).run P w = .ok zv w) (hlim : sz ≤ 16777216) (hpos : 0 < sz) (hc : c0.length = sz) {ρ : Operand → Value} {x0 : Operand} (hx : ρ x0 = .agg c0.toArray) :
    (do pure (Next.value (← Instr.buildSlice U 1 (#[(0, x0)].map fun (i, x) => (i, ρ x)))) : Sem Next).run P w = .ok (.value (.slice (some ⟨w.heap.size, 0, none⟩) 1 1)) (w.alloc (.cells c0.toArray E)) := by
  have h2 : ¬ 16777216 < sz := by omega
  have h3 : sz ≠ 0 := by omega
  have h4 := fill_one (off := 0) (cells := (Array.range sz).map (zv.cells[· % zv.cells.size]!)) hc (by simp) rfl
  simp only [Nat.zero_add] at h4
  simp [Instr.buildSlice, hu, hz, h0, hx, newRow, h2, h3, h4]
def prt : Nat → List Value → List (Nat × Value)
  | _, [] => []
  | k, v :: r => (k, v) :: prt (k + 1) r
theorem fill_row : ∀ (vs : List Value) (k : Nat) (arr : Array Value), (∀ v ∈ vs, v.cells = #[v]) → arr.size = k + vs.length → Instr.fill (fun i => some (i * 1, 1)) arr (prt k vs) = some (arr.toList.take k ++ vs).toArray
  | [], k, arr, _, hk => by
    have : arr.toList.take k = arr.toList := List.take_of_length_le (by simp at hk ⊢; omega)
    simp [prt, Instr.fill, this]
  | v :: r, k, arr, h, hk => by
    simp only [List.length_cons] at hk
    rw [prt, fill_v (h v (by simp)) (off := k) (by simp) (by omega), fill_row r (k + 1) _ (fun u hu => h u (by simp [hu])) (by simp; omega)]
    congr 2
    apply List.ext_getElem?
    intro i
    simp only [Array.toList_setIfInBounds, List.getElem?_append, List.length_take, List.length_set, Array.length_toList]
    by_cases h1 : i < k
    · simp [h1, show i < k + 1 by omega, show min (k + 1) arr.size = k + 1 by omega, show min k arr.size = k by omega, show k ≠ i by omega]
    · by_cases h2 : i = k
      · subst h2
        simp [show min (i + 1) arr.size = i + 1 by omega, show min i arr.size = i by omega, show i < arr.size by omega]
      · simp [h1, show ¬ i < k + 1 by omega, show min (k + 1) arr.size = k + 1 by omega, show min k arr.size = k by omega, show i - k = (i - (k + 1)) + 1 by omega]
theorem mkvs {zv : Value} (vs : List Value) (w : World) (hu : ∀ w, (underlying U).run P w = .ok (.slice E) w) (hz : ∀ w, (sizeOf E).run P w = .ok 1 w) (h0 : ∀ w, (zeroValue E).run P w = .ok zv w) (hv : ∀ v ∈ vs, v.cells = #[v]) (hp : 0 < vs.length) (hlim : vs.length ≤ 16777216) :
    (Instr.buildSlice U vs.length (prt 0 vs).toArray).run P w = .ok (.slice (some ⟨w.heap.size, 0, none⟩) vs.length vs.length) (w.alloc (.cells vs.toArray E)) := by
  have h2 : ¬ 16777216 < vs.length := by omega
  have h3 : vs ≠ [] := by intro h; rw [h] at hp; simp at hp
  have h4 := fill_row vs 0 ((Array.range vs.length).map (zv.cells[· % zv.cells.size]!)) hv (by simp)
  rw [List.take_zero, List.nil_append] at h4
  simp only [Nat.mul_one] at h4
  simp [Instr.buildSlice, hu, hz, h0, newRow, h2, h3, h4]
theorem mk0 {w : World} (hu : ∀ w, (underlying U).run P w = .ok (.slice E) w) (hz : ∀ w, (sizeOf E).run P w = .ok sz w) : Mk P w l (.buildSlice U 0 #[]) T E 0 [] := fun ρ o h ho _ => by
  unfold execOp; rw [ho]
  have e1 : Array.map (fun (_ : Nat) => (default : Value)) (Array.range 0) = #[] := by apply Array.ext'; simp
  simp [Instr.buildSlice, hu, hz, Instr.fill, newRow, e1]

/-! append -/
theorem pAppendG (ha : Has a N l) (he : ElemT P U E d.sz bytes) (hU : NoInt P U') (hx : ev l x = some v) (hy : ev l y = some v2) (hs : Sep W w (.ol d E v xs :: .ro (fun Z => d.behind Z es ys) (fun _ _ h => d.newsM h) :: cs))
    (hlen : ∀ w, (Builtin.lenOf v2).run P w = .ok ys.length w) (hsrc : ∀ n, (Builtin.firstCells d.sz ys.length v2).run P { w with drawn := n } = .ok es.toArray { w with drawn := n })
    (hl : es.length = ys.length * d.sz) (h1 : ∀ u ∈ es, u.oneCell' = true) (hm : xs.length + ys.length ≤ maxLen) (hb : (xs.length + ys.length) * bytes ≤ 140737488355328) (hd : Nat.blt dd N = true)
    (h : ∀ A c w, Sep W w (.ol d E (.slice A (xs.length + ys.length) c) (xs ++ ys) :: cs) → ∀ a, Has a N ((dd, .slice A (xs.length + ys.length) c) :: l) → wpList P ops Q rest a w) :
    wpList P ops Q (⟨some dd, .call { callee := .builtin .append, args := #[x, y], argTypes := #[U, U'] }, T, ps, af, none⟩ :: rest) a w := by
  obtain ⟨v', w', hr, h2⟩ := append_own (ty := T) he hU hs hlen hsrc hl h1 hm hb
  obtain ⟨A, c, rfl, _⟩ := h2.ol_len .here
  rw [List.length_append] at h2 hr
  exact pE ha (fun ρ o hE ho hT => by
    unfold execOp; rw [ho]
    simp [resolve, invoke, builtin, hE _ _ hx, hE _ _ hy, hT, hr]) hd fun a ha => h A c w' h2 a ha
/-- One element that was just built. -/
theorem pApp1 {e : α} {sz : Nat} (ha : Has a N l) (he' : ElemT P U E sz bytes) (hx : ev l x = some v) (hy : ev l y = some (.slice (some ⟨b, 0, none⟩) 1 1)) (hs : Sep W w cs) (hk : Pick cs (.ol d E v xs) r) (hk2 : Pick r (.blk b E es) r2) (hk3 : Pick r2 (.el d e es) r3)
    (hsz : d.sz = sz) (hm : xs.length + 1 ≤ maxLen) (hb : (xs.length + 1) * bytes ≤ 140737488355328) (hd : Nat.blt dd N = true)
    (h : ∀ A c w, Sep W w (.ol d E (.slice A (xs.length + 1) c) (xs ++ [e]) :: r3) → ∀ a, Has a N ((dd, .slice A (xs.length + 1) c) :: l) → wpList P ops Q rest a w) :
    wpList P ops Q (⟨some dd, .call { callee := .builtin .append, args := #[x, y], argTypes := #[U, U] }, T, ps, af, none⟩ :: rest) a w := by
  have he : ElemT P U E d.sz bytes := hsz ▸ he'
  have hblk := (hs.perm hk.perm).own_at (.there hk2)
  have h0 := (((hs.perm hk.perm).perm (hk2.perm.cons _)).perm ((hk3.perm.cons _).cons _))
  have hR := h0.know (.there (.there .here)) (fun Z _ hp => (⟨d.len hp, d.one hp⟩ : es.length = d.sz ∧ ∀ u ∈ es, u.oneCell' = true))
  have h1 := (h0.perm (List.Perm.swap _ _ _)).drop
  have h2 := (h1.perm (List.Perm.swap _ _ _)).imp (x := .ro (fun Z => d.behind Z es [e]) (fun _ _ h => d.newsM h)) (fun Z _ _ hp i y hi => by
    have : i = 0 ∧ y = e := by
      cases i with
      | zero => simpa using hi.symm
      | succ i => simp at hi
    obtain ⟨rfl, rfl⟩ := this
    exact ⟨es, hp, fun j u hj => by simpa using hj⟩)
  refine pAppendG (ys := [e]) ha he he.noInt hx hy (h2.perm (List.Perm.swap _ _ _)) (fun w => by simp [Builtin.lenOf]) (fun n => ?_) (by simp [hR.1]) hR.2 hm hb hd h
  refine run_firstCells_some _ d.sz 1 _ _ _ _ (by simp [hR.1]) (fun j u hj => ?_)
  rw [add_at, Nat.zero_add]
  show (match w.heap[b]? with | some (.cells c _ _) => _ | _ => _) = _
  rw [hblk]
  simpa using hj
theorem pApp1F {e : α} {sz : Nat} (ha : Has a N l) (he : ElemT P U E sz bytes) (hx : ev l x = some v) (hy : ev l y = some (.slice (some ⟨b, 0, none⟩) 1 1)) (hs : Sep W w cs) (hk : Pick cs (.ol d E v xs) r) (hk2 : Pick r (.blk b E es) r2) (hR : ∀ Z, d.R Z e es)
    (hsz : d.sz = sz) (hm : xs.length + 1 ≤ maxLen) (hb : (xs.length + 1) * bytes ≤ 140737488355328) (hd : Nat.blt dd N = true)
    (h : ∀ A c w, Sep W w (.ol d E (.slice A (xs.length + 1) c) (xs ++ [e]) :: r2) → ∀ a, Has a N ((dd, .slice A (xs.length + 1) c) :: l) → wpList P ops Q rest a w) :
    wpList P ops Q (⟨some dd, .call { callee := .builtin .append, args := #[x, y], argTypes := #[U, U] }, T, ps, af, none⟩ :: rest) a w :=
  pApp1 ha he hx hy (hs.add (x := .el d e es) hR) (.there hk) (.there hk2) .here hsz hm hb hd h
/-- All of a slice for reading. -/
theorem Sep.rd_news (hpos : 0 < d.sz) (h : Sep W w cs) (hk : Pick cs (.rd d (.slice A n c) ys) r) : n = ys.length ∧ ∃ es, es.length = ys.length * d.sz ∧ (∀ u ∈ es, u.oneCell' = true) ∧ (∀ m, (Builtin.firstCells d.sz ys.length (.slice A n c)).run P { w with drawn := m } = .ok es.toArray { w with drawn := m }) ∧
    Sep W w (.ro (fun Z => d.behind Z es ys) (fun _ _ h => d.newsM h) :: cs) := by
  obtain ⟨h0, Z, H, hd, hz, hh, hw, ha⟩ := h
  obtain ⟨H1, H2, h1, h2, hd2, hc1, hr⟩ := Ch.all_perm hk.perm ha
  obtain ⟨A', c', he, hc, hm, hp⟩ := hc1
  simp only [Value.slice.injEq] at he
  obtain ⟨rfl, rfl, rfl⟩ := he
  refine ⟨rfl, ?_⟩
  rcases Nat.eq_zero_or_pos ys.length with hy | hy
  · obtain rfl : ys = [] := List.eq_nil_of_length_eq_zero hy
    refine ⟨[], by simp, by simp, fun m => by cases A <;> simp [Builtin.firstCells, loadCells, loadCellsFrom], h0, Z, H, hd, hz, hh, hw, Hp.none, H, Hp.none_le _, Hp.le_refl _, Hp.none_dj _, fun i y hi => by simp at hi, ha⟩
  · obtain ⟨b, off, arr, T, fr, rfl, hb, hrow⟩ := hp hy
    -- the cells of all the elements
    have hcell : ∀ k, k < ys.length * d.sz → ∃ u, arr[off + k]? = some u ∧ u.oneCell' = true := fun k hk => by
      have hsz : 0 < d.sz := by
        rcases Nat.eq_zero_or_pos d.sz with h | h
        · rw [h] at hk; simp at hk
        · exact h
      have hi : k / d.sz < ys.length := (Nat.div_lt_iff_lt_mul hsz).2 hk
      obtain ⟨es, hR, hcells⟩ := hrow (k / d.sz) _ (List.getElem?_eq_getElem hi)
      have hj : k % d.sz < es.length := by rw [d.len hR]; exact Nat.mod_lt _ hsz
      refine ⟨es[k % d.sz], ?_, d.one hR _ (List.getElem_mem hj)⟩
      have := hcells (k % d.sz) _ (List.getElem?_eq_getElem hj)
      rw [← this]; congr 1
      have := Nat.div_add_mod k d.sz
      rw [Nat.mul_comm] at this
      omega
    let es := (List.range (ys.length * d.sz)).map fun k => arr[off + k]?.getD undef
    have hes : ∀ k u, es[k]? = some u → k < ys.length * d.sz ∧ arr[off + k]? = some u := fun k u hk => by
      have hlt : k < ys.length * d.sz := by have := (List.getElem?_eq_some_iff.1 hk).1; simpa [es] using this
      obtain ⟨u', hu', _⟩ := hcell k hlt
      refine ⟨hlt, ?_⟩
      simp only [es, List.getElem?_map, List.getElem?_range hlt, Option.map_some, hu', Option.getD_some, Option.some.injEq] at hk
      rw [hu', hk]
    refine ⟨es, by simp [es], fun u hu => ?_, fun m => ?_, h0, Z, H, hd, hz, hh, hw, Hp.none, H, Hp.none_le _, Hp.le_refl _, Hp.none_dj _, fun i y hi => ?_, ha⟩
    · obtain ⟨k, hk⟩ := List.mem_iff_getElem?.1 hu
      obtain ⟨h1, h2⟩ := hes k u hk
      obtain ⟨u', hu', ho⟩ := hcell k h1
      rw [h2] at hu'
      cases hu'
      exact ho
    · refine run_firstCells_some _ d.sz ys.length _ _ _ _ (by simp [es]) (fun j u hj => ?_)
      rw [add_at]
      exact cell_of_hp (w := { w with drawn := m }) (Z := Z) hz (Hp.cell_of hb (hes j u hj).2)
    · obtain ⟨cs', hR, hcells⟩ := hrow i y hi
      refine ⟨cs', hR, fun j u hj => ?_⟩
      have hilt : i < ys.length := (List.getElem?_eq_some_iff.1 hi).1
      have hjlt : j < d.sz := by rw [← d.len hR]; exact (List.getElem?_eq_some_iff.1 hj).1
      have hlt : i * d.sz + j < ys.length * d.sz := by
        have : (i + 1) * d.sz ≤ ys.length * d.sz := Nat.mul_le_mul_right _ hilt
        rw [Nat.add_mul] at this
        omega
      have := hcells j u hj
      simp only [es, List.getElem?_map, List.getElem?_range hlt, Option.map_some, Option.some.injEq]
      rw [show off + (i * d.sz + j) = off + i * d.sz + j from by omega, this]
      rfl
theorem pAppRd {sz : Nat} (ha : Has a N l) (he' : ElemT P U E sz bytes) (hx : ev l x = some v) (hy : ev l y = some (.slice A n c)) (hs : Sep W w cs) (hk : Pick cs (.ol d E v xs) r) (hk2 : Pick r (.rd d (.slice A n c) ys) r2)
    (hsz : d.sz = sz) (hm : xs.length + ys.length ≤ maxLen) (hb : (xs.length + ys.length) * bytes ≤ 140737488355328) (hd : Nat.blt dd N = true)
    (h : ∀ A c w, Sep W w (.ol d E (.slice A (xs.length + ys.length) c) (xs ++ ys) :: r) → ∀ a, Has a N ((dd, .slice A (xs.length + ys.length) c) :: l) → wpList P ops Q rest a w) :
    wpList P ops Q (⟨some dd, .call { callee := .builtin .append, args := #[x, y], argTypes := #[U, U] }, T, ps, af, none⟩ :: rest) a w := by
  have he : ElemT P U E d.sz bytes := hsz ▸ he'
  obtain ⟨hn, es, h1, h2, h3, h4⟩ := Sep.rd_news (P := P) he.2.1 (hs.perm hk.perm) (.there hk2)
  subst hn
  exact pAppendG ha he he.noInt hx hy (h4.perm (List.Perm.swap _ _ _)) (fun w => by simp [Builtin.lenOf]) h3 h1 h2 hm hb hd h
/-- A new block of one element is a slice of one's own. -/
theorem Sep.blk_ol1 {e : α} (h : Sep W w cs) (hk : Pick cs (.blk b E es) r) (hk2 : Pick r (.el d e es) r2) : Sep W w (.ol d E (.slice (some ⟨b, 0, none⟩) 1 1) [e] :: r2) := by
  have h1 := (h.perm hk.perm).perm (hk2.perm.cons _)
  have hl := h1.know (.there .here) (fun Z _ hp => d.len hp)
  have h2 := (h1.perm (List.Perm.swap _ _ _)).imp (x := .ro (fun Z => d.row Z es.toArray 0 [e]) (fun _ _ h => d.row_mono h)) (fun Z _ _ hp i x hi => by
    have : i = 0 ∧ x = e := by
      cases i with
      | zero => simpa using hi.symm
      | succ i => simp at hi
    obtain ⟨rfl, rfl⟩ := this
    exact ⟨es, hp, fun j u hj => by simpa using hj⟩)
  exact Sep.ol_shut (xs := [e]) (cap := 1) (h2.perm (List.Perm.swap _ _ _)) (Nat.le_refl _) (by unfold maxLen; decide) (by simp [hl])
/-- A new block of no element. -/
theorem Sep.blk_ol0 (h : Sep W w cs) (hk : Pick cs (.blk b E []) r) (d : Kd α) : Sep W w (.ol d E (.slice (some ⟨b, 0, none⟩) 0 0) [] :: r) :=
  (h.pick hk).drop.ol_nil d E _
theorem Sep.el_u8 (h : Sep W w cs) (x : UInt8) : Sep W w (.el kU8 x [.int .u8 x.toNat] :: cs) := h.add fun _ => rfl
theorem Sep.el_u8n (h : Sep W w cs) {n : Int} (x : UInt8) (h1 : (x.toNat : Int) = n) : Sep W w (.el kU8 x [.int .u8 n] :: cs) := h.add fun _ => by rw [← h1]; rfl
theorem u8_val {n : Int} (h0 : 0 ≤ n) (h1 : n ≤ 255) : Value.int .u8 (IntKind.u8.wrap n) = .int .u8 (UInt8.ofNat n.toNat).toNat := by
  have : IntKind.u8.wrap n = n := by simp [IntKind.wrap, IntKind.bits, IntKind.signed]; omega
  rw [this]
  congr 1
  simp
  omega
theorem yConvU8 {k' : IntKind} {n : Int} (hs : ∀ w, ∃ dd, (underlying U).run P w = .ok dd w) (hu : ∀ w, (underlying U').run P w = .ok (.int .u8) w) (hx : ev l x = some (.int k' n)) (h0 : 0 ≤ n) (h1 : n ≤ 255) : Yl P w l (.convert U U' x) T (.int .u8 (UInt8.ofNat n.toNat).toNat) := by
  have := yConvInt (P := P) (w := w) (T := T) hs hu hx
  rwa [u8_val h0 h1] at this
theorem yConvU8n {k' : IntKind} {n : Int} (hs : ∀ w, ∃ dd, (underlying U).run P w = .ok dd w) (hu : ∀ w, (underlying U').run P w = .ok (.int .u8) w) (hx : ev l x = some (.int k' n)) (h0 : 0 ≤ n) (h1 : n ≤ 255) : Yl P w l (.convert U U' x) T (.int .u8 n) := by
  have := yConvInt (P := P) (w := w) (T := T) hs hu hx
  rwa [show IntKind.u8.wrap n = n from by simp [IntKind.wrap, IntKind.bits, IntKind.signed]; omega] at this
theorem yConvI64 {k' : IntKind} {n : Int} (hs : ∀ w, ∃ dd, (underlying U).run P w = .ok dd w) (hu : ∀ w, (underlying U').run P w = .ok (.int .i64) w) (hx : ev l x = some (.int k' n)) (hb : -9223372036854775808 ≤ n ∧ n ≤ 9223372036854775807) : Yl P w l (.convert U U' x) T (.int .i64 n) := by
  have := yConvInt (P := P) (w := w) (T := T) hs hu hx
  rwa [i64_in hb] at this
/-- A flat kind: one cell an element. -/
structure Kd.Flat (d : Kd α) (en : α → Value) : Prop where
  sz : d.sz = 1
  R : ∀ Z x es, d.R Z x es → es = [en x]
theorem kU8_flat : kU8.Flat (fun x => .int .u8 x.toNat) := ⟨rfl, fun _ _ _ h => h⟩
/-- A slice of one's own of flat elements, its cells written out. -/
theorem Sep.ol_flat {en : α → Value} {xs : List α} (hf : d.Flat en) (h : Sep W w cs) (hk : Pick cs (.ol d E v xs) r) : ((∃ A, v = .slice A 0 0) ∧ xs = [] ∧ Sep W w r) ∨
    ∃ (b cap : Nat) (vs : List Value), v = .slice (some ⟨b, 0, none⟩) xs.length cap ∧ xs.length ≤ cap ∧ cap ≤ maxLen ∧ vs.length = cap ∧ (∀ (i : Nat) (x : α), xs[i]? = some x → vs[i]? = some (en x)) ∧ Sep W w (.blk b E vs :: .ro (fun Z => ∀ (i : Nat) (x : α), xs[i]? = some x → d.R Z x [en x]) (fun Z Z' hz h i x hx => d.mono hz (h i x hx)) :: r) := by
  rcases (h.pick hk).ol_open with h | ⟨b, cap, arr, h1, h2, h3, h4, h5⟩
  · exact .inl h
  · have hrow := h5.know (q := ∀ i x, xs[i]? = some x → arr.toList[i]? = some (en x)) (.there .here) (fun Z _ hp i x hx => by
      obtain ⟨es, hR, hc⟩ := hp i x hx
      obtain rfl := hf.R _ _ _ hR
      have := hc 0 (en x) rfl
      rw [hf.sz] at this
      rw [Array.getElem?_toList]
      simpa using this)
    refine .inr ⟨b, cap, arr.toList, h1, h2, h3, by simp [h4, hf.sz], hrow, ?_⟩
    have h6 := (h5.perm (List.Perm.swap _ _ _)).imp (x := .ro (fun Z => ∀ (i : Nat) (x : α), xs[i]? = some x → d.R Z x [en x]) (fun Z Z' hz h i x hx => d.mono hz (h i x hx))) (fun Z _ _ hp i x hx => by
      obtain ⟨es, hR, hc⟩ := hp i x hx
      obtain rfl := hf.R _ _ _ hR
      exact hR)
    unfold Ch.blk
    simpa using h6.perm (List.Perm.swap _ _ _)
theorem Sep.flat_ol {en : α → Value} {cap : Nat} (hf : d.Flat en) (h : Sep W w cs) (hk : Pick cs (.blk b E vs) r) (hR : ∀ (x : α), x ∈ xs → ∀ Z, d.R Z x [en x]) (h1 : xs.length ≤ cap) (h2 : cap ≤ maxLen) (h3 : vs.length = cap) (h4 : ∀ (i : Nat) (x : α), xs[i]? = some x → vs[i]? = some (en x)) :
    Sep W w (.ol d E (.slice (some ⟨b, 0, none⟩) xs.length cap) xs :: r) := by
  have h5 := h.pick hk
  refine Sep.ol_shut (b := b) (arr := vs.toArray) (cap := cap) ?_ h1 h2 (by simp [h3, hf.sz])
  have h6 := h5.add (x := .ro (fun Z => d.row Z vs.toArray 0 xs) (fun _ _ h => d.row_mono h)) (fun Z i x hx => ⟨[en x], hR x (List.mem_of_getElem? hx) Z, fun j u hj => by
    have : j = 0 ∧ u = en x := by
      cases j with
      | zero => simpa using hj.symm
      | succ j => simp at hj
    obtain ⟨rfl, rfl⟩ := this
    rw [hf.sz]
    simpa using h4 i x hx⟩)
  exact h6.perm (List.Perm.swap _ _ _)
end
end Go.Proofs.YtnkcmpmcmkljnaaDoor
