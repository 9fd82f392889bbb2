/- Variables of one's own, structs stored whole, texts and bytes. -/
import Derived.Test.YtnkcmpmcmkljnaaDoorDraw
import Derived.Laws.BytesArg
import Derived.Laws.IdiomStrings
set_option linter.unusedVariables false
set_option linter.unusedSimpArgs false
namespace Go.Proofs.YtnkcmpmcmkljnaaDoor
open Go.RowKit
section
variable {P : Program} {W w w' : World} {N dd : Nat} {l : List (Nat × Value)} {v u : Value} {x y z : Operand} {T U U' E : TypeId} {cs r r' : List Ch} {b off : Nat} {vs es : List Value}
  {a : Act} {ops : Array Oper} {Q : Exit → Act → World → Prop} {rest : List Oper} {ps : String} {af : Array Edge}

theorem eAlloc {zs : List Value} {zv : Value} (h0 : ∀ w, (zeroValue U).run P w = .ok zv w) (hz : zv.cells = zs.toArray) : Ef P w l (.alloc U) T (.pointer (some ⟨w.heap.size, 0, none⟩)) (w.alloc (.cells zs.toArray U)) := fun ρ o h ho _ => by
  unfold execOp; rw [ho]
  simp [Instr.alloc, h0, newVar, newRow, hz]
theorem pAlloc {zs : List Value} {zv : Value} (ha : Has a N l) (h0 : ∀ w, (zeroValue U).run P w = .ok zv w) (hz : zv.cells = zs.toArray) (hs : Sep W w cs) (hd : Nat.blt dd N = true)
    (h : ∀ b w, Sep W w (.blk b U zs :: cs) → ∀ a, Has a N ((dd, .pointer (some ⟨b, 0, none⟩)) :: l) → wpList P ops Q rest a w) : wpList P ops Q (⟨some dd, .alloc U, T, ps, af, none⟩ :: rest) a w :=
  pE ha (eAlloc h0 hz) hd fun a ha => h _ _ (by have := hs.blk_alloc zs.toArray U; simpa using this) a ha
theorem eBox (hx : ev l x = some v) (hv : v.cells = es.toArray) : Ef P w l (.box U x) T (.pointer (some ⟨w.heap.size, 0, none⟩)) (w.alloc (.cells es.toArray U)) := fun ρ o h ho _ => by
  unfold execOp; rw [ho]
  simp [Instr.box, h _ _ hx, newVar, newRow, hv]
theorem pBox (ha : Has a N l) (hx : ev l x = some v) (hv : v.cells = es.toArray) (hs : Sep W w cs) (hd : Nat.blt dd N = true)
    (h : ∀ b w, Sep W w (.blk b U es :: cs) → ∀ a, Has a N ((dd, .pointer (some ⟨b, 0, none⟩)) :: l) → wpList P ops Q rest a w) : wpList P ops Q (⟨some dd, .box U x, T, ps, af, none⟩ :: rest) a w :=
  pE ha (eBox hx hv) hd fun a ha => h _ _ (by have := hs.blk_alloc es.toArray U; simpa using this) a ha
theorem sStoreA {sz : Nat} (hz : ∀ w, (sizeOf U).run P w = .ok sz w) (hs : Sep W w cs) (hx : ev l x = some (.pointer (some ⟨b, 0, none⟩))) (hy : ev l y = some (.agg vs.toArray)) (hk : Pick cs (.blk b E es) r) (hl : vs.length = sz) (hl2 : es.length = sz) (h1 : vs.all (·.oneCell') = true) :
    ∃ w', Sk P w l (.store U x y) T w' ∧ Sep W w' (.blk b E vs :: r) := by
  have hb := hs.own_at hk
  have hr := run_storeCells_from (P := P) b E vs 0 es.toArray w hb (by simp; omega) (fun v hv => List.all_eq_true.1 h1 v hv)
  rw [List.take_zero, List.nil_append] at hr
  refine ⟨w.setRow b vs.toArray, fun ρ o h ho _ => ?_, (hs.pick hk).change rfl rfl rfl (setRow_heap w b _ _ E (0, 0) hb) (fun i hi => setRow_other w b i _ hi)⟩
  unfold execOp; rw [ho]
  subst hl
  simp [h _ _ hx, h _ _ hy, Instr.storeAt, Instr.sureAddr, storeVar, hz, Value.cells, hr]
theorem pStoreA {sz : Nat} (ha : Has a N l) (hz : ∀ w, (sizeOf U).run P w = .ok sz w) (hs : Sep W w cs) (hx : ev l x = some (.pointer (some ⟨b, 0, none⟩))) (hy : ev l y = some (.agg vs.toArray)) (hk : Pick cs (.blk b E es) r) (hl : vs.length = sz) (hl2 : es.length = sz) (h1 : vs.all (·.oneCell') = true)
    (h : ∀ w, Sep W w (.blk b E vs :: r) → wpList P ops Q rest a w) : wpList P ops Q (⟨none, .store U x y, T, ps, af, none⟩ :: rest) a w := by
  obtain ⟨w', h2, h3⟩ := sStoreA (P := P) (T := T) (l := l) hz hs hx hy hk hl hl2 h1
  exact pS ha h2 (h _ h3)
/-- Bytes as a text. -/
theorem yBytesStr {A : Option Addr} {n c : Nat} {bs : List UInt8} (hu : P.underlying U = some (.slice E)) (he : P.underlying E = some (.int .u8)) (hu' : P.underlying U' = some .string) (hs : Sep W w cs) (hx : ev l x = some (.slice A n c)) (hk : Pick cs (.rd kU8 (.slice A n c) bs) r) :
    Yl P w l (.convert U U' x) T (.string ⟨bs.toArray⟩) := fun ρ o h ho _ => by
  have hr : (convert U U' (.slice A n c)).run P w = .ok (.string ⟨bs.toArray⟩) w := by
    obtain ⟨rfl, hl⟩ := hs.rd_shape hk
    cases A with
    | none =>
      obtain rfl := hs.rd_none hk
      exact run_convert_bytes_nil w U E hu he _ _ _ hu'
    | some ad =>
      refine run_convert_bytes_back w U U' E ad c bs hu he hu' fun j hj => ?_
      obtain ⟨b, off, c', es, e, hl, hs2⟩ := hs.rd_at hk (List.getElem?_eq_getElem hj)
      simp only [Value.slice.injEq, Option.some.injEq] at e
      obtain ⟨rfl, _, rfl⟩ := e
      have hes : es = [.int .u8 bs[j].toNat] := hs2.know (.there .here) (fun Z _ hp => hp)
      subst hes
      rw [add_at]
      have := hs2.at_cell .here (j := 0) rfl
      simpa [kU8] using this
  unfold execOp; rw [ho]
  simp [h _ _ hx, hr]
/-- A text put behind bytes. -/
theorem str_bytes (s : ByteArray) : (s.extract 0 s.size).data.map (fun b : UInt8 => Value.int .u8 (b.toNat : Int)) = (s.data.toList.map (fun b : UInt8 => Value.int .u8 (b.toNat : Int))).toArray := by
  apply Array.ext'
  simp
theorem behind_str (Z : Hp) (xs : List UInt8) : kU8.behind Z (xs.map (fun b : UInt8 => Value.int .u8 (b.toNat : Int))) xs := fun i y hy => ⟨[.int .u8 y.toNat], rfl, fun j u hj => by
  have : j = 0 ∧ u = .int .u8 y.toNat := by
    cases j with
    | zero => simpa using hj.symm
    | succ j => simp at hj
  obtain ⟨rfl, rfl⟩ := this
  have : kU8.sz = 1 := rfl
  rw [this]
  simp [hy]⟩
theorem eAppStr {s : ByteArray} {bs : List UInt8} {bytes : Nat} (he' : ElemT P U E 1 bytes) (hU : P.underlying U' = some .string) (hx : ev l x = some v) (hy : ev l y = some (.string s)) (hs : Sep W w cs) (hk : Pick cs (.ol kU8 E v bs) r)
    (hm : bs.length + s.data.toList.length ≤ maxLen) (hb : (bs.length + s.data.toList.length) * bytes ≤ 140737488355328) :
    ∃ A c w', Ef P w l (.call { callee := .builtin .append, args := #[x, y], argTypes := #[U, U'] }) T (.slice A (bs.length + s.data.toList.length) c) w' ∧ Sep W w' (.ol kU8 E (.slice A (bs.length + s.data.toList.length) c) (bs ++ s.data.toList) :: r) := by
  have hs2 := (hs.pick hk).add (x := .ro (fun Z => kU8.behind Z (s.data.toList.map (fun b : UInt8 => Value.int .u8 (b.toNat : Int))) s.data.toList) (fun _ _ h => kU8.newsM h)) (fun Z => behind_str Z _)
  obtain ⟨v', w', hr, h2⟩ := append_own (d := kU8) (ty := T) he' (.inr hU) (hs2.perm (List.Perm.swap _ _ _)) (xv := .string s) (fun w => by simp [Builtin.lenOf]) (fun n => by
    have h0 : s.data.toList.length = s.size := by simp
    simp only [Builtin.firstCells]
    rw [h0, str_bytes]; rfl) (by simp [kU8]) (by intro u hu; simp only [List.mem_map] at hu; obtain ⟨q, _, rfl⟩ := hu; rfl) hm hb
  obtain ⟨A, c, rfl, _⟩ := h2.ol_len .here
  rw [List.length_append] at h2 hr
  refine ⟨A, c, w', fun ρ o hE ho hT => ?_, h2⟩
  unfold execOp; rw [ho]
  simp [resolve, invoke, builtin, hE _ _ hx, hE _ _ hy, hT, hr]
theorem pAppStr {s : ByteArray} {bs : List UInt8} {bytes : Nat} (ha : Has a N l) (he' : ElemT P U E 1 bytes) (hU : P.underlying U' = some .string) (hx : ev l x = some v) (hy : ev l y = some (.string s)) (hs : Sep W w cs) (hk : Pick cs (.ol kU8 E v bs) r)
    (hm : bs.length + s.data.toList.length ≤ maxLen) (hb : (bs.length + s.data.toList.length) * bytes ≤ 140737488355328) (hd : Nat.blt dd N = true)
    (h : ∀ A c w, Sep W w (.ol kU8 E (.slice A (bs.length + s.data.toList.length) c) (bs ++ s.data.toList) :: r) → ∀ a, Has a N ((dd, .slice A (bs.length + s.data.toList.length) c) :: l) → wpList P ops Q rest a w) :
    wpList P ops Q (⟨some dd, .call { callee := .builtin .append, args := #[x, y], argTypes := #[U, U'] }, T, ps, af, none⟩ :: rest) a w := by
  obtain ⟨A, c, w', h1, h2⟩ := eAppStr (T := T) he' hU hx hy hs hk hm hb
  exact pE ha h1 hd fun a ha => h A c w' h2 a ha
theorem yMin2 {k k' : IntKind} {m n : Int} {ts : Array TypeId} (hx : ev l x = some (.int k m)) (hy : ev l y = some (.int k' n)) : Yl P w l (.call { callee := .builtin .min, args := #[x, y], argTypes := ts }) T (.int k (if n < m then n else m)) := fun ρ o h ho _ => by
  unfold execOp; rw [ho]
  simp [resolve, invoke, builtin, h _ _ hx, h _ _ hy, Builtin.min_, Builtin.min2]
theorem yMax2 {k k' : IntKind} {m n : Int} {ts : Array TypeId} (hx : ev l x = some (.int k m)) (hy : ev l y = some (.int k' n)) : Yl P w l (.call { callee := .builtin .max, args := #[x, y], argTypes := ts }) T (.int k (if n > m then n else m)) := fun ρ o h ho _ => by
  unfold execOp; rw [ho]
  simp [resolve, invoke, builtin, h _ _ hx, h _ _ hy, Builtin.max_, Builtin.max2]
end
end Go.Proofs.YtnkcmpmcmkljnaaDoor
