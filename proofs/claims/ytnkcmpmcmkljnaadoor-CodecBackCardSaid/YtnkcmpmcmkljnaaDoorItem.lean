/- Items: what is written of them. -/
import Derived.Test.YtnkcmpmcmkljnaaDoorWgt
set_option linter.unusedVariables false
set_option linter.unusedSimpArgs false
namespace Go.Proofs.YtnkcmpmcmkljnaaDoor
open Go.RowKit Go.Lib
theorem bslItem31_5_0_1_2_3_4 {w : World} {l : List (Nat × Value)} {T : TypeId} {x0 x1 x2 x3 x4 : Operand} {v0 : Value} (h0 : ev l x0 = some v0) {v1 : Value} (h1 : ev l x1 = some v1) {v2 : Value} (h2 : ev l x2 = some v2) {v3 : Value} (h3 : ev l x3 = some v3) {v4 : Value} (h4 : ev l x4 = some v4) (o0 : v0.cells = #[v0] := by rfl) (o1 : v1.cells = #[v1] := by rfl) (o2 : v2.cells = #[v2] := by rfl) (o3 : v3.cells = #[v3] := by rfl) (o4 : v4.cells = #[v4] := by rfl) : Mk Tryd.prog w l (.buildSlice 31 5 #[(0, x0), (1, x1), (2, x2), (3, x3), (4, x4)]) T 3 5 [v0, v1, v2, v3, v4] := fun ρ o h ho _ => by
  have hm := mkvs (P := Tryd.prog) [v0, v1, v2, v3, v4] w Tryd.runUnderlying31 Tryd.sizeOf3 Tryd.zeroValue3 (by intro v hv; simp at hv; rcases hv with rfl | rfl | rfl | rfl | rfl <;> assumption) (by simp) (by simp)
  unfold execOp; rw [ho]
  simp only [h _ _ h0, h _ _ h1, h _ _ h2, h _ _ h3, h _ _ h4, List.map_toArray, List.map_cons, List.map_nil]
  simp only [List.length_cons, List.length_nil, prt] at hm
  simp at hm
  simp [hm]
structure Item where
  kind : Int
  n : Int
  text : ByteArray
  flag : Bool
  comps : List Comp
  acts : List Actn
  nods : List Nod
def kItem : Kd Item where
  sz := 7
  R := fun Z x cs => ∃ A1 n1 c1 A2 n2 c2 A3 n3 c3, cs = [.int .i64 x.kind, .int .i64 x.n, .string x.text, .bool x.flag, .slice A1 n1 c1, .slice A2 n2 c2, .slice A3 n3 c3] ∧ kComp.sl Z (.slice A1 n1 c1) x.comps ∧ kActn.sl Z (.slice A2 n2 c2) x.acts ∧ kNod.sl Z (.slice A3 n3 c3) x.nods
  mono := fun h ⟨A1, n1, c1, A2, n2, c2, A3, n3, c3, e, h1, h2, h3⟩ => ⟨A1, n1, c1, A2, n2, c2, A3, n3, c3, e, Kd.sl_mono _ h h1, Kd.sl_mono _ h h2, Kd.sl_mono _ h h3⟩
  len := fun ⟨_, _, _, _, _, _, _, _, _, h, _⟩ => by subst h; rfl
  one := fun ⟨_, _, _, _, _, _, _, _, _, h, _⟩ u hu => by subst h; simp at hu; rcases hu with rfl | rfl | rfl | rfl | rfl | rfl | rfl <;> rfl
def okItem (x : Item) : Prop := x.text.size ≤ 9223372036854775807 ∧ (∀ y ∈ x.comps, y.text.size ≤ 9223372036854775807) ∧ (∀ y ∈ x.acts, y.name.size ≤ 9223372036854775807 ∧ ∀ z ∈ y.ops, z.text.size ≤ 9223372036854775807) ∧ (∀ y ∈ x.nods, y.name.size ≤ 9223372036854775807 ∧ y.text.size ≤ 9223372036854775807)
def tItem (x : Item) : Nat := x.text.size + tComps x.comps + tActns x.acts + tNods x.nods + 4
def tItems (l : List Item) : Nat := (l.map tItem).sum
def wItem (st : Wt) (x : Item) : Wt :=
  if x.kind = 1 then wNum st x.n else if x.kind = 2 then wText st x.text else if x.kind = 3 then wFlag st x.flag
  else if x.kind = 4 then wComps st x.comps else if x.kind = 5 then wActns st x.acts else if x.kind = 6 then wNods st x.nods else st
def wItems (l : List Item) : Wt := l.foldl wItem ([], false)
/-! How many bytes. -/
theorem wNum_len (st : Wt) (n : Int) : (wNum st n).1.length ≤ st.1.length + 6 := by have := put_six n; simp [wNum]; omega
theorem wText_len (st : Wt) (s : ByteArray) : (wText st s).1.length ≤ st.1.length + 6 + s.size := by
  have h := wNum_len (st.1, st.2 || !okText s.data.toList) s.size
  have : s.data.toList.length = s.size := by simp
  simp only [wText, List.length_append]; simp only at h; omega
theorem fold_len {α : Type} {f : Wt → α → Wt} {g : α → Nat} {k : Nat} (h : ∀ st x, (f st x).1.length ≤ st.1.length + k * g x) : ∀ (l : List α) (st : Wt), (l.foldl f st).1.length ≤ st.1.length + k * (l.map g).sum
  | [], st => by simp
  | x :: r, st => by
    have h1 := h st x; have h2 := fold_len h r (f st x)
    simp only [List.foldl_cons, List.map_cons, List.sum_cons, Nat.mul_add]; omega
theorem wComp_len (st : Wt) (x : Comp) : (wComp st x).1.length ≤ st.1.length + 9 * (x.text.size + 2) := by
  have h1 := wNum_len st x.kind; have h2 := wNum_len (wNum st x.kind) x.n; have h3 := wText_len (wNum (wNum st x.kind) x.n) x.text
  unfold wComp; omega
theorem wComps_len (st : Wt) (l : List Comp) : (wComps st l).1.length ≤ st.1.length + 6 + 9 * tComps l := by
  have h1 := wNum_len st l.length; have h2 := fold_len (g := fun x : Comp => x.text.size + 2) wComp_len l (wNum st l.length)
  unfold wComps tComps; omega
theorem wNod_len (st : Wt) (x : Nod) : (wNod st x).1.length ≤ st.1.length + 12 * (x.name.size + x.text.size + 3) := by
  have h1 := wNum_len st x.id; have h2 := wNum_len (wNum st x.id) x.parent; have h3 := wText_len (wNum (wNum st x.id) x.parent) x.name
  have h4 := wNum_len (wText (wNum (wNum st x.id) x.parent) x.name) (if x.dir then 1 else 0); have h5 := wText_len (wFlag (wText (wNum (wNum st x.id) x.parent) x.name) x.dir) x.text
  unfold wNod; unfold wFlag at h5 ⊢; omega
theorem wNods_len (st : Wt) (l : List Nod) : (wNods st l).1.length ≤ st.1.length + 6 + 12 * tNods l := by
  have h1 := wNum_len st l.length; have h2 := fold_len (g := fun x : Nod => x.name.size + x.text.size + 3) wNod_len l (wNum st l.length)
  unfold wNods tNods; omega
theorem wActn_len (st : Wt) (x : Actn) : (wActn st x).1.length ≤ st.1.length + 12 * (x.name.size + tComps x.ops + 3) := by
  have h1 := wNum_len st x.kind; have h2 := wNum_len (wNum st x.kind) x.id; have h3 := wNum_len (wNum (wNum st x.kind) x.id) x.parent; have h4 := wText_len (wNum (wNum (wNum st x.kind) x.id) x.parent) x.name
  have h5 := wNum_len (wText (wNum (wNum (wNum st x.kind) x.id) x.parent) x.name) (if x.dir then 1 else 0); have h6 := wComps_len (wFlag (wText (wNum (wNum (wNum st x.kind) x.id) x.parent) x.name) x.dir) x.ops
  unfold wActn; unfold wFlag at h6 ⊢; omega
theorem wActns_len (st : Wt) (l : List Actn) : (wActns st l).1.length ≤ st.1.length + 6 + 12 * tActns l := by
  have h1 := wNum_len st l.length; have h2 := fold_len (g := fun x : Actn => x.name.size + tComps x.ops + 3) wActn_len l (wNum st l.length)
  unfold wActns tActns; omega
theorem wItem_len (st : Wt) (x : Item) : (wItem st x).1.length ≤ st.1.length + 12 * tItem x := by
  unfold wItem tItem
  have h1 := wNum_len st x.n; have h2 := wText_len st x.text; have h3 := wNum_len st 1; have h30 := wNum_len st 0; have h4 := wComps_len st x.comps; have h5 := wActns_len st x.acts; have h6 := wNods_len st x.nods
  unfold wFlag
  repeat' split
  all_goals omega
theorem wItem_le (st : Wt) (x : Item) : st.1.length ≤ (wItem st x).1.length := by
  unfold wItem
  have h1 := wNum_le st x.n; have h2 := (wText_le st x.text).1; have h3 := wFlag_le st x.flag; have h4 := wComps_le st x.comps
  have h5 := Nat.le_trans (wNum_le st x.acts.length) (fold_le wActn_le x.acts _); have h6 := Nat.le_trans (wNum_le st x.nods.length) (fold_le wNod_le x.nods _)
  unfold wActns wNods
  repeat' split
  all_goals omega
theorem wItems_len (l : List Item) : (wItems l).1.length ≤ 12 * tItems l := by
  have := fold_len wItem_len l ([], false)
  simpa [wItems, tItems] using this
section
variable {W w : World} {cs r r2 : List Ch} {p : Nat} {st : Wt}
theorem Sep.rd_item {A : Option Addr} {n c i : Nat} {xs : List Item} {x : Item} (h : Sep W w cs) (hk : Pick cs (.rd kItem (.slice A n c) xs) r) (hx : xs[i]? = some x) :
    ∃ b off A1 n1 c1 A2 n2 c2 A3 n3 c3, A = some ⟨b, off, none⟩ ∧ Sep W w (.at b (off + i * 7) [.int .i64 x.kind, .int .i64 x.n, .string x.text, .bool x.flag, .slice A1 n1 c1, .slice A2 n2 c2, .slice A3 n3 c3] :: .rd kComp (.slice A1 n1 c1) x.comps :: .rd kActn (.slice A2 n2 c2) x.acts :: .rd kNod (.slice A3 n3 c3) x.nods :: cs) := by
  obtain ⟨b, off, c', es, he, hl, hs⟩ := h.rd_at hk hx
  simp only [Value.slice.injEq] at he
  obtain ⟨A1, n1, c1, A2, n2, c2, A3, n3, c3, hes⟩ : ∃ A1 n1 c1 A2 n2 c2 A3 n3 c3, es = [.int .i64 x.kind, .int .i64 x.n, .string x.text, .bool x.flag, .slice A1 n1 c1, .slice A2 n2 c2, .slice A3 n3 c3] := hs.know (.there .here) (fun Z _ ⟨A1, n1, c1, A2, n2, c2, A3, n3, c3, e, _⟩ => ⟨A1, n1, c1, A2, n2, c2, A3, n3, c3, e⟩)
  subst hes
  have key : ∀ Z, kItem.R Z x [.int .i64 x.kind, .int .i64 x.n, .string x.text, .bool x.flag, .slice A1 n1 c1, .slice A2 n2 c2, .slice A3 n3 c3] → kComp.sl Z (.slice A1 n1 c1) x.comps ∧ kActn.sl Z (.slice A2 n2 c2) x.acts ∧ kNod.sl Z (.slice A3 n3 c3) x.nods := fun Z hp => by
    obtain ⟨_, _, _, _, _, _, _, _, _, e, h1, h2, h3⟩ := hp
    simp only [List.cons.injEq, Value.slice.injEq] at e
    obtain ⟨_, _, _, _, ⟨rfl, rfl, rfl⟩, ⟨rfl, rfl, rfl⟩, ⟨rfl, rfl, rfl⟩, _⟩ := e
    exact ⟨h1, h2, h3⟩
  have g1 := hs.with_ro (.there .here) (q := fun Z => kNod.sl Z (.slice A3 n3 c3) x.nods) (m' := fun _ _ h => Kd.sl_mono _ h) (fun Z hp => (key Z hp).2.2)
  have g2 := g1.with_ro (.there (.there .here)) (q := fun Z => kActn.sl Z (.slice A2 n2 c2) x.acts) (m' := fun _ _ h => Kd.sl_mono _ h) (fun Z hp => (key Z hp).2.1)
  have g3 := g2.with_ro (.there (.there (.there .here))) (q := fun Z => kComp.sl Z (.slice A1 n1 c1) x.comps) (m' := fun _ _ h => Kd.sl_mono _ h) (fun Z hp => (key Z hp).1)
  have g4 := g3.with_ro (.there (.there (.there .here))) (q := fun Z => ∀ j u, ([.int .i64 x.kind, .int .i64 x.n, .string x.text, .bool x.flag, .slice A1 n1 c1, .slice A2 n2 c2, .slice A3 n3 c3] : List Value)[j]? = some u → Z.cell b (off + i * 7 + j) = some u) (m' := fun _ _ h hp j u hj => Hp.cell_le h (hp j u hj)) (fun Z hp => hp)
  refine ⟨b, off, A1, n1, c1, A2, n2, c2, A3, n3, c3, he.1, ?_⟩
  have g5 : Sep W w (.at b (off + i * 7) [.int .i64 x.kind, .int .i64 x.n, .string x.text, .bool x.flag, .slice A1 n1 c1, .slice A2 n2 c2, .slice A3 n3 c3] :: .rd kComp (.slice A1 n1 c1) x.comps :: .rd kActn (.slice A2 n2 c2) x.acts :: .rd kNod (.slice A3 n3 c3) x.nods :: .at b (off + i * 7) [.int .i64 x.kind, .int .i64 x.n, .string x.text, .bool x.flag, .slice A1 n1 c1, .slice A2 n2 c2, .slice A3 n3 c3] :: .el kItem x [.int .i64 x.kind, .int .i64 x.n, .string x.text, .bool x.flag, .slice A1 n1 c1, .slice A2 n2 c2, .slice A3 n3 c3] :: cs) := g4
  have g6 := (g5.pick (.there (.there (.there (.there .here))))).drop
  exact (g6.pick (.there (.there (.there (.there .here))))).drop
theorem small_c {A : Option Addr} {n c : Nat} {xs : List Item} (hsz : ∀ x ∈ xs, okItem x) (hs : Sep W w cs) (hk : Pick cs (.rd kItem (.slice A n c) xs) r) :
    Calls P 7 #[.slice A n c] w (Rt fun v w' => ∃ b : Bool, v = .bool b ∧ (b = true → tItems xs ≤ 3000) ∧ Sep W w' cs) := by
  obtain ⟨rfl, hl⟩ := hs.rd_shape hk
  unfold maxLen at hl
  have hs := hs.cpR hk
  refine enter Tryd.func7 Tryd.ntmps7 rfl rfl fun a (ha : Has a 44 [(0, _)]) => ?_
  refine wp_seq_k fun K1 hK1 => ?_
  refine wp_region_lit ?_
  refine pY ha (yAssign (by rfl)) rfl fun a ha => ?_
  refine pZ ?_
  refine hK1 _ _ ?_
  refine wp_seq_k fun K2 hK2 => ?_
  refine wp_region_lit ?_
  refine pY ha (yAssign (by rfl)) rfl fun a ha => ?_
  refine pZ ?_
  refine hK2 _ _ ?_
  refine wp_seq_k fun K3 hK3 => ?_
  refine wp_seq_k fun K4 hK4 => ?_
  refine wp_region_lit ?_
  refine pY ha (yAssign (by rfl)) rfl fun a ha => ?_
  refine pZ ?_
  refine hK4 _ _ ?_
  refine wp_block ?_
  refine loopI (ι := Nat × Nat) (fun i a w => i.1 ≤ xs.length ∧ i.2 ≤ 1099511627776 ∧ (i.2 ≤ 3000 → tItems (xs.take i.1) = i.2) ∧ Has a 44 [(0, .slice A xs.length c), (3, .int .i64 i.2), (4, .int .i64 i.1)] ∧ Sep W w (.rd kItem (.slice A xs.length c) xs :: cs)) (fun i => xs.length - i.1) ((0, 0)) ?_ ?_
  · exact ⟨Nat.zero_le _, by simp, fun _ => rfl, has3 ha (by rfl) (by rfl) (by rfl), hs⟩
  · rintro i a w ⟨h1, h2, h3, ha, hs⟩
    obtain ⟨i, m⟩ := i; simp only at h1 h2 h3 ha hs
    refine wp_seq_k fun K5 hK5 => ?_
    refine wp_seq_k fun K6 hK6 => ?_
    refine wp_region_lit ?_
    refine pY ha (yMove (by rfl)) rfl fun a ha => ?_
    refine pY ha (yMove (by rfl)) rfl fun a ha => ?_
    refine pY ha (yLenS Tryd.runUnderlying22 (by rfl)) rfl fun a ha => ?_
    refine pY ha (yLss (by rfl) (by rfl)) rfl fun a ha => ?_
    refine pY ha (yMove (by rfl)) rfl fun a ha => ?_
    refine gDec (t := 9) ha (by rfl) (fun hg4 hp4 => ?_) (fun hg4 hp4 => ?_)
    · rw [hg4] at ha
      refine gOff ha rfl rfl (by rfl) rfl rfl fun a ha => ?_
      refine gOff ha rfl rfl (by rfl) rfl rfl fun a ha => ?_
      first | refine pY ha (yPickT (by rfl) (by rfl)) rfl fun a ha => ?_ | refine pY ha (yPickF (by rfl) (by rfl)) rfl fun a ha => ?_ | refine pY ha (yPick (by rfl) (by rfl) (by rfl)) rfl fun a ha => ?_
      refine pZ ?_
      refine hK6 _ _ ?_
      refine cFalse ha (by rfl) ?_
      refine wp_exit ?_
      refine hK3 _ _ ?_
      refine wp_seq_k fun K7 hK7 => ?_
      refine wp_region_lit ?_
      refine pY ha (yMove (by rfl)) rfl fun a ha => ?_
      refine pY ha (yLeq (by rfl) (by rfl)) rfl fun a ha => ?_
      refine pY ha (yAssign (by rfl)) rfl fun a ha => ?_
      refine pZ ?_
      refine hK7 _ _ ?_
      refine wp_ret ?_
      show bodyPost Tryd.prog Tryd.f7 _ .ret _ _
      refine ret1 rfl ha (by rfl) ?_
      exact ⟨_, rfl, fun hb => by have hb := of_decide_eq_true hb; rw [List.take_of_length_le (by have := of_decide_eq_false hg4; omega)] at h3; rw [h3 (by omega)]; omega, hs.drop⟩
    · rw [hg4] at ha
      have hp4 := of_decide_eq_true hg4
      refine gOn ha rfl rfl (by rfl) ?_
      refine pY ha (yMove (by rfl)) rfl fun a ha => ?_
      refine gOn ha rfl rfl (by rfl) ?_
      refine pY ha (yLeq (by rfl) (by rfl)) rfl fun a ha => ?_
      first | refine pY ha (yPickT (by rfl) (by rfl)) rfl fun a ha => ?_ | refine pY ha (yPickF (by rfl) (by rfl)) rfl fun a ha => ?_ | refine pY ha (yPick (by rfl) (by rfl) (by rfl)) rfl fun a ha => ?_
      refine pZ ?_
      refine hK6 _ _ ?_
      first | refine cNDec ha (by rfl) (fun hc12 => ?_) (fun hc12 => ?_) | refine cDec ha (by rfl) (fun hc12 => ?_) (fun hc12 => ?_) | refine cSplit ha (by rfl) (fun hc12 => ?_) (fun hc12 => ?_)
      · obtain ⟨x, hx⟩ : ∃ x, xs[i]? = some x := ⟨_, List.getElem?_eq_getElem (by omega)⟩
        obtain ⟨z1, z2, z3, z4⟩ := hsz x (List.mem_of_getElem? hx)
        have hsum := sum_at (f := tItem) hx
        obtain ⟨b0, off, A1, n1, c1, A2, n2, c2, A3, n3, c3, rfl, hs⟩ := hs.rd_item .here hx
        refine wp_skip ?_
        refine hK5 _ _ ?_
        refine wp_seq_k fun K8 hK8 => ?_
        refine wp_block ?_
        refine dStart (fun w => Sep W w _) [25, 26] (by kernel_rfl) rfl (hs.drew) ?_
        have hs := Sep.drew hs
        generalize World.drew _ = w at hs ⊢
        refine dP 0 rfl (by kernel_rfl) ha won0 (fun _ => yMove (by rfl)) rfl (fun _ _ _ h => h) fun a ha => ?_
        refine dP 1 rfl (by kernel_rfl) ha won0 (fun _ => yMove (by rfl)) rfl (fun _ _ _ h => h) fun a ha => ?_
        refine dP 2 rfl (by kernel_rfl) ha won0 (fun _ => yMove (by rfl)) rfl (fun _ _ _ h => h) fun a ha => ?_
        refine dP 3 rfl (by kernel_rfl) ha won0 (fun _ => yIndexA Tryd.runUnderlying22 Tryd.sizeOf61 (by rfl) (by rfl) (by omega) (by omega)) rfl (fun _ _ _ h => h) fun a ha => ?_
        refine dP 4 rfl (by kernel_rfl) ha won0 (fun _ => yFieldA Tryd.runUnderlying61 rfl Tryd.sizeOf9 rfl (by rfl)) rfl (fun _ _ _ h => h) fun a ha => ?_
        first | refine dT 5 rfl (by kernel_rfl) ha won0 (fun _ hs => yLoadB Tryd.isAgg9 hs (by rfl) (by repeat first | exact .here | apply Pick.there) (by rfl)) (hs) rfl (fun _ _ _ h => h) fun a ha => ?_ | refine dT 5 rfl (by kernel_rfl) ha won0 (fun _ hs => yLoadR Tryd.isAgg9 hs (by rfl) (by repeat first | exact .here | apply Pick.there) (by rfl)) (hs) rfl (fun _ _ _ h => h) fun a ha => ?_ | refine dT 5 rfl (by kernel_rfl) ha won0 (fun _ hs => yLoadR0 Tryd.isAgg9 hs (by rfl) (by repeat first | exact .here | apply Pick.there) (by rfl)) (hs) rfl (fun _ _ _ h => h) fun a ha => ?_
        refine dP 6 rfl (by kernel_rfl) ha won0 (fun _ => yLenStr Tryd.runUnderlying9 (by rfl)) rfl (fun _ _ _ h => h) fun a ha => ?_
        refine dP 7 rfl (by kernel_rfl) ha won0 (fun _ => yMove (by rfl)) rfl (fun _ _ _ h => h) fun a ha => ?_
        refine dP 8 rfl (by kernel_rfl) ha won0 (fun _ => yMove (by rfl)) rfl (fun _ _ _ h => h) fun a ha => ?_
        refine dP 9 rfl (by kernel_rfl) ha won0 (fun _ => yIndexA Tryd.runUnderlying22 Tryd.sizeOf61 (by rfl) (by rfl) (by omega) (by omega)) rfl (fun _ _ _ h => h) fun a ha => ?_
        refine dP 10 rfl (by kernel_rfl) ha won0 (fun _ => yFieldA Tryd.runUnderlying61 rfl Tryd.sizeOf41 rfl (by rfl)) rfl (fun _ _ _ h => h) fun a ha => ?_
        first | refine dT 11 rfl (by kernel_rfl) ha won0 (fun _ hs => yLoadB Tryd.isAgg41 hs (by rfl) (by repeat first | exact .here | apply Pick.there) (by rfl)) (hs) rfl (fun _ _ _ h => h) fun a ha => ?_ | refine dT 11 rfl (by kernel_rfl) ha won0 (fun _ hs => yLoadR Tryd.isAgg41 hs (by rfl) (by repeat first | exact .here | apply Pick.there) (by rfl)) (hs) rfl (fun _ _ _ h => h) fun a ha => ?_ | refine dT 11 rfl (by kernel_rfl) ha won0 (fun _ hs => yLoadR0 Tryd.isAgg41 hs (by rfl) (by repeat first | exact .here | apply Pick.there) (by rfl)) (hs) rfl (fun _ _ _ h => h) fun a ha => ?_
        refine dP 13 rfl (by kernel_rfl) ha won0 (fun _ => yMove (by rfl)) rfl (fun _ _ _ h => h) fun a ha => ?_
        refine dP 14 rfl (by kernel_rfl) ha won0 (fun _ => yMove (by rfl)) rfl (fun _ _ _ h => h) fun a ha => ?_
        refine dP 15 rfl (by kernel_rfl) ha won0 (fun _ => yIndexA Tryd.runUnderlying22 Tryd.sizeOf61 (by rfl) (by rfl) (by omega) (by omega)) rfl (fun _ _ _ h => h) fun a ha => ?_
        refine dP 16 rfl (by kernel_rfl) ha won0 (fun _ => yFieldA Tryd.runUnderlying61 rfl Tryd.sizeOf44 rfl (by rfl)) rfl (fun _ _ _ h => h) fun a ha => ?_
        first | refine dT 17 rfl (by kernel_rfl) ha won0 (fun _ hs => yLoadB Tryd.isAgg44 hs (by rfl) (by repeat first | exact .here | apply Pick.there) (by rfl)) (hs) rfl (fun _ _ _ h => h) fun a ha => ?_ | refine dT 17 rfl (by kernel_rfl) ha won0 (fun _ hs => yLoadR Tryd.isAgg44 hs (by rfl) (by repeat first | exact .here | apply Pick.there) (by rfl)) (hs) rfl (fun _ _ _ h => h) fun a ha => ?_ | refine dT 17 rfl (by kernel_rfl) ha won0 (fun _ hs => yLoadR0 Tryd.isAgg44 hs (by rfl) (by repeat first | exact .here | apply Pick.there) (by rfl)) (hs) rfl (fun _ _ _ h => h) fun a ha => ?_
        refine dP 19 rfl (by kernel_rfl) ha won0 (fun _ => yMove (by rfl)) rfl (fun _ _ _ h => h) fun a ha => ?_
        refine dP 20 rfl (by kernel_rfl) ha won0 (fun _ => yMove (by rfl)) rfl (fun _ _ _ h => h) fun a ha => ?_
        refine dP 21 rfl (by kernel_rfl) ha won0 (fun _ => yIndexA Tryd.runUnderlying22 Tryd.sizeOf61 (by rfl) (by rfl) (by omega) (by omega)) rfl (fun _ _ _ h => h) fun a ha => ?_
        refine dP 22 rfl (by kernel_rfl) ha won0 (fun _ => yFieldA Tryd.runUnderlying61 rfl Tryd.sizeOf47 rfl (by rfl)) rfl (fun _ _ _ h => h) fun a ha => ?_
        first | refine dT 23 rfl (by kernel_rfl) ha won0 (fun _ hs => yLoadB Tryd.isAgg47 hs (by rfl) (by repeat first | exact .here | apply Pick.there) (by rfl)) (hs) rfl (fun _ _ _ h => h) fun a ha => ?_ | refine dT 23 rfl (by kernel_rfl) ha won0 (fun _ hs => yLoadR Tryd.isAgg47 hs (by rfl) (by repeat first | exact .here | apply Pick.there) (by rfl)) (hs) rfl (fun _ _ _ h => h) fun a ha => ?_ | refine dT 23 rfl (by kernel_rfl) ha won0 (fun _ hs => yLoadR0 Tryd.isAgg47 hs (by rfl) (by repeat first | exact .here | apply Pick.there) (by rfl)) (hs) rfl (fun _ _ _ h => h) fun a ha => ?_
        refine dC 12 rfl (by kernel_rfl) rfl ha won0 (nCall Tryd.call36 (by rfl)) rfl (WgComps_c (lim := 3000) (by omega) z2 hs (by repeat first | exact .here | apply Pick.there)) ?_
        rintro v w ⟨R1, rfl, d1, e1, hs⟩
        refine ⟨hs, fun a ha => ?_⟩
        refine dC 18 rfl (by kernel_rfl) rfl ha won0 (nCall Tryd.call37 (by rfl)) rfl (WgActns_c (lim := 3000) (by omega) z3 hs (by repeat first | exact .here | apply Pick.there)) ?_
        rintro v w ⟨R2, rfl, d2, e2, hs⟩
        refine ⟨hs, fun a ha => ?_⟩
        refine dC 24 rfl (by kernel_rfl) rfl ha won0 (nCall Tryd.call38 (by rfl)) rfl (WgNods_c (lim := 3000) (by omega) z4 hs (by repeat first | exact .here | apply Pick.there)) ?_
        rintro v w ⟨R3, rfl, d3, e3, hs⟩
        refine ⟨hs, fun a ha => ?_⟩
        refine dMakel 25 rfl (by kernel_rfl) rfl ha won0 (bslItem31_5_0_1_2_3_4 (by rfl) (by rfl) (by rfl) (by rfl) (by rfl)) hs rfl fun b w hs a ha => ?_
        have hs := hs.ints_rd (xs := [(x.text.size : Int), (R1 : Int), (R2 : Int), (R3 : Int), 4]) .here (by intro y hy; simp at hy; omega)
        refine dCl 26 rfl (by kernel_rfl) rfl ha won0 (nCall Tryd.call35 (by rfl)) rfl (Sum_c h2 (by intro y hy; simp at hy; omega) hs .here) ?_
        rintro v w ⟨rfl, hs⟩ a ha
        refine dP 27 rfl (by kernel_rfl) ha won0 (fun _ => yAssign (by rfl)) rfl (fun _ _ _ h => h) fun a ha => ?_
        refine dZ (by kernel_rfl) ?_
        refine hK8 _ _ ?_
        refine wp_region_lit ?_
        refine pY ha (yMove (by rfl)) rfl fun a ha => ?_
        first | refine pY ha (yAddN (by rfl) (by rfl) ⟨by omega, by omega⟩) rfl fun a ha => ?_ | refine pY ha (yAdd (by rfl) (by rfl)) rfl fun a ha => ?_
        refine pY ha (yAssign (by rfl)) rfl fun a ha => ?_
        refine pZ ?_
        obtain ⟨q, hq, hq1, hq2⟩ := min_nat m (s := sumL [(x.text.size : Int), (R1 : Int), (R2 : Int), (R3 : Int), 4]) (by simp only [sumL]; omega)
        rw [hq] at ha
        refine ⟨(i + 1, q), ⟨by simp only; omega, hq1, ?_, has3 ha (by rfl) (by rfl) (by rfl), hs.drop.drop.drop.drop.drop⟩, by simp only; omega⟩
        intro hle
        simp only at hle ⊢
        have hq3 := hq2 (by omega)
        simp only [sumL] at hq3
        unfold tItems at h3 ⊢
        rw [hsum, h3 (by omega)]
        unfold tItem
        rw [e1 (by omega), e2 (by omega), e3 (by omega)]
        omega
      · refine wp_exit ?_
        refine hK3 _ _ ?_
        refine wp_seq_k fun K9 hK9 => ?_
        refine wp_region_lit ?_
        refine pY ha (yMove (by rfl)) rfl fun a ha => ?_
        refine pY ha (yLeq (by rfl) (by rfl)) rfl fun a ha => ?_
        refine pY ha (yAssign (by rfl)) rfl fun a ha => ?_
        refine pZ ?_
        refine hK9 _ _ ?_
        refine wp_ret ?_
        show bodyPost Tryd.prog Tryd.f7 _ .ret _ _
        refine ret1 rfl ha (by rfl) ?_
        exact ⟨_, rfl, fun hb => by have hb := of_decide_eq_true hb; exact absurd hb (by omega), hs.drop⟩
end
end Go.Proofs.YtnkcmpmcmkljnaaDoor
