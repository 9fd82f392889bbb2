/- Writing lists: the walks of the codec's writer. -/
import Derived.Test.YtnkcmpmcmkljnaaDoorLimB
set_option linter.unusedVariables false
set_option linter.unusedSimpArgs false
namespace Go.Proofs.YtnkcmpmcmkljnaaDoor
open Go.RowKit Go.Lib
def wComp (st : Wt) (x : Comp) : Wt := wText (wNum (wNum st x.kind) x.n) x.text
def wComps (st : Wt) (l : List Comp) : Wt := l.foldl wComp (wNum st l.length)
def wNod (st : Wt) (x : Nod) : Wt := wText (wFlag (wText (wNum (wNum st x.id) x.parent) x.name) x.dir) x.text
def wNods (st : Wt) (l : List Nod) : Wt := l.foldl wNod (wNum st l.length)
def wActn (st : Wt) (x : Actn) : Wt := wComps (wFlag (wText (wNum (wNum (wNum st x.kind) x.id) x.parent) x.name) x.dir) x.ops
def wActns (st : Wt) (l : List Actn) : Wt := l.foldl wActn (wNum st l.length)
theorem wNum_le (st : Wt) (n : Int) : st.1.length ≤ (wNum st n).1.length := by simp [wNum]
theorem wText_le (st : Wt) (s : ByteArray) : st.1.length ≤ (wText st s).1.length ∧ s.size ≤ (wText st s).1.length ∧ (wNum (st.1, st.2 || !okText s.data.toList) s.size).1.length ≤ (wText st s).1.length := by
  simp only [wText, wNum, List.length_append]
  have : s.data.toList.length = s.size := by simp
  omega
theorem wFlag_le (st : Wt) (b : Bool) : st.1.length ≤ (wFlag st b).1.length := wNum_le _ _
theorem fold_le {α : Type} {f : Wt → α → Wt} (hf : ∀ st x, st.1.length ≤ (f st x).1.length) : ∀ (l : List α) (st : Wt), st.1.length ≤ (l.foldl f st).1.length
  | [], st => Nat.le_refl _
  | x :: r, st => Nat.le_trans (hf st x) (fold_le hf r (f st x))
theorem wComp_le (st : Wt) (x : Comp) : st.1.length ≤ (wComp st x).1.length := by
  have h1 := wNum_le st x.kind; have h2 := wNum_le (wNum st x.kind) x.n; have h3 := (wText_le (wNum (wNum st x.kind) x.n) x.text).1
  unfold wComp; omega
theorem wComps_le (st : Wt) (l : List Comp) : st.1.length ≤ (wComps st l).1.length := Nat.le_trans (wNum_le st l.length) (fold_le wComp_le l _)
theorem wNod_le (st : Wt) (x : Nod) : st.1.length ≤ (wNod st x).1.length := by
  have h1 := wNum_le st x.id; have h2 := wNum_le (wNum st x.id) x.parent; have h3 := (wText_le (wNum (wNum st x.id) x.parent) x.name).1
  have h4 := wFlag_le (wText (wNum (wNum st x.id) x.parent) x.name) x.dir; have h5 := (wText_le (wFlag (wText (wNum (wNum st x.id) x.parent) x.name) x.dir) x.text).1
  unfold wNod; omega
theorem wActn_le (st : Wt) (x : Actn) : st.1.length ≤ (wActn st x).1.length := by
  have h1 := wNum_le st x.kind; have h2 := wNum_le (wNum st x.kind) x.id; have h3 := wNum_le (wNum (wNum st x.kind) x.id) x.parent; have h4 := (wText_le (wNum (wNum (wNum st x.kind) x.id) x.parent) x.name).1
  have h5 := wFlag_le (wText (wNum (wNum (wNum st x.kind) x.id) x.parent) x.name) x.dir; have h6 := wComps_le (wFlag (wText (wNum (wNum (wNum st x.kind) x.id) x.parent) x.name) x.dir) x.ops
  unfold wActn; omega
theorem fold_at {α : Type} {f : Wt → α → Wt} (hf : ∀ st x, st.1.length ≤ (f st x).1.length) {l : List α} {s0 : Wt} {i : Nat} {x : α} (hx : l[i]? = some x) :
    (l.take (i + 1)).foldl f s0 = f ((l.take i).foldl f s0) x ∧ (f ((l.take i).foldl f s0) x).1.length ≤ (l.foldl f s0).1.length := by
  obtain ⟨hi, rfl⟩ := List.getElem?_eq_some_iff.1 hx
  have e : (l.take (i + 1)).foldl f s0 = f ((l.take i).foldl f s0) l[i] := by
    rw [List.take_add_one, List.getElem?_eq_getElem hi, List.foldl_append]; rfl
  refine ⟨e, ?_⟩
  rw [← e]
  have h := fold_le hf (l.drop (i + 1)) ((l.take (i + 1)).foldl f s0)
  rwa [← List.foldl_append, List.take_append_drop] at h
section
variable {W w : World} {cs r r2 : List Ch} {p : Nat} {st : Wt}
theorem WrComps_c (hT : Tabs W) {A : Option Addr} {n c : Nat} {xs : List Comp} (hb : (wComps st xs).1.length ≤ 8796093022208) (hs : Sep W w cs) (hk : Pick cs (.wtr p 53 st) r) (hk2 : Pick r (.rd kComp (.slice A n c) xs) r2) :
    Calls P 40 #[.pointer (some ⟨p, 0, none⟩), .slice A n c] w (Rt fun v w' => v = .pointer (some ⟨p, 0, none⟩) ∧ Sep W w' (.wtr p 53 (wComps st xs) :: r)) := by
  have hs := hs.pick hk
  obtain ⟨rfl, hl⟩ := hs.rd_shape (.there hk2)
  unfold maxLen at hl
  have hs := hs.cpR (.there hk2)
  have hb0 := fold_le wComp_le xs (wNum st xs.length)
  unfold wComps at hb
  refine enter Tryd.func40 Tryd.ntmps40 rfl rfl fun a (ha : Has a 29 [(0, _), (1, _)]) => ?_
  refine wp_seq_k fun K1 hK1 => ?_
  refine wp_region_lit ?_
  refine pY ha (yAssign (by rfl)) rfl fun a ha => ?_
  refine pZ ?_
  refine hK1 _ _ ?_
  refine wp_seq_k fun K2 hK2 => ?_
  refine wp_region_lit ?_
  refine pY ha (yMove (by rfl)) rfl fun a ha => ?_
  refine pY ha (yMove (by rfl)) rfl fun a ha => ?_
  refine pY ha (yLenS Tryd.runUnderlying41 (by rfl)) rfl fun a ha => ?_
  refine pC ha (nCall Tryd.call12 (by rfl)) rfl (WrNum_c (st := st) xs.length (by omega) hs (.there .here)) ?_
  rintro v w ⟨rfl, hs⟩ a ha
  refine pZ ?_
  refine hK2 _ _ ?_
  refine wp_seq_k fun K3 hK3 => ?_
  refine wp_seq_k fun K4 hK4 => ?_
  refine wp_region_lit ?_
  refine pY ha (yMove (by rfl)) rfl fun a ha => ?_
  refine pY ha (yLenS Tryd.runUnderlying41 (by rfl)) rfl fun a ha => ?_
  refine pY ha (yMove (by rfl)) rfl fun a ha => ?_
  refine pZ ?_
  refine hK4 _ _ ?_
  refine wp_block ?_
  refine loopI (ι := Nat) (fun i a w => i ≤ xs.length ∧ Has a 29 [(0, .pointer (some ⟨p, 0, none⟩)), (11, .slice A xs.length c), (12, .int .i64 xs.length), (13, .int .i64 i)] ∧ Sep W w (.wtr p 53 ((xs.take i).foldl wComp (wNum st xs.length)) :: .rd kComp (.slice A xs.length c) xs :: r)) (fun i => xs.length - i) (0) ?_ ?_
  · exact ⟨Nat.zero_le _, has4 ha (by rfl) (by rfl) (by rfl) (by rfl), hs⟩
  · rintro i a w ⟨h1, ha, hs⟩
    refine wp_seq_k fun K5 hK5 => ?_
    refine wp_region_lit ?_
    refine pY ha (yLss (by rfl) (by rfl)) rfl fun a ha => ?_
    refine pZ ?_
    refine hK5 _ _ ?_
    refine wp_seq_k fun K6 hK6 => ?_
    first | refine cDec ha (by rfl) (fun hc14 => ?_) (fun hc14 => ?_) | refine cSplit ha (by rfl) (fun hc14 => ?_) (fun hc14 => ?_)
    · obtain ⟨x, hx⟩ : ∃ x, xs[i]? = some x := ⟨_, List.getElem?_eq_getElem (by omega)⟩
      obtain ⟨hf1, hf2⟩ := fold_at (f := wComp) wComp_le (s0 := wNum st xs.length) hx
      generalize (xs.take i).foldl wComp (wNum st xs.length) = s0 at hs hf1 hf2
      obtain ⟨b0, off, rfl, hs⟩ := hs.rd_comp (.there .here) hx
      have q1 := wNum_le s0 x.kind
      have q2 := wNum_le (wNum s0 x.kind) x.n
      have q3 := wText_le (wNum (wNum s0 x.kind) x.n) x.text
      have hf3 : (wText (wNum (wNum s0 x.kind) x.n) x.text).1.length ≤ 8796093022208 := Nat.le_trans hf2 hb
      refine wp_skip ?_
      refine hK6 _ _ ?_
      refine wp_seq_k fun K7 hK7 => ?_
      refine wp_block ?_
      refine wp_seq_k fun K8 hK8 => ?_
      refine wp_region_lit ?_
      refine pY ha (yIndexA Tryd.runUnderlying41 Tryd.sizeOf91 (by rfl) (by rfl) (by omega) (by omega)) rfl fun a ha => ?_
      first | refine pY ha (yLoadRA Tryd.isAgg91 Tryd.sizeOf91 hs (by rfl) (by repeat first | exact .here | apply Pick.there) (by rfl)) rfl fun a ha => ?_ | refine pY ha (yLoadBA Tryd.isAgg91 Tryd.sizeOf91 hs (by rfl) (by repeat first | exact .here | apply Pick.there) (by rfl)) rfl fun a ha => ?_
      refine pAlloc (zs := [.int .i64 0, .int .i64 0, .string ⟨#[]⟩]) ha Tryd.zeroValue91 (by rfl) hs rfl fun b w hs a ha => ?_
      refine pStoreA ha Tryd.sizeOf91 hs (by rfl) (by rfl) (by repeat first | exact .here | apply Pick.there) (by rfl) (by rfl) (by rfl) fun w hs => ?_
      refine pZ ?_
      refine hK8 _ _ ?_
      refine dStart (fun w => ∃ rs, Sep W w (.blk b 91 [.int .i64 x.kind, .int .i64 x.n, .string x.text] :: rs)) [9] (by kernel_rfl) rfl (⟨_, hs.drew.pick (by repeat first | exact .here | apply Pick.there)⟩) ?_
      have hs := Sep.drew hs
      generalize World.drew _ = w at hs ⊢
      refine dP 0 rfl (by kernel_rfl) ha won0 (fun _ => yMove (by rfl)) rfl (fun _ _ _ h => h) fun a ha => ?_
      refine dP 1 rfl (by kernel_rfl) ha won0 (fun _ => yFieldA Tryd.runUnderlying91 rfl Tryd.sizeOf3 rfl (by rfl)) rfl (fun _ _ _ h => h) fun a ha => ?_
      first | refine dT 2 rfl (by kernel_rfl) ha won0 (fun _ ⟨rs, hs⟩ => yLoadB Tryd.isAgg3 hs (by rfl) (by repeat first | exact .here | apply Pick.there) (by rfl)) (⟨_, hs.pick (by repeat first | exact .here | apply Pick.there)⟩) rfl (fun _ _ _ h => h) fun a ha => ?_ | refine dT 2 rfl (by kernel_rfl) ha won0 (fun _ ⟨rs, hs⟩ => yLoadR Tryd.isAgg3 hs (by rfl) (by repeat first | exact .here | apply Pick.there) (by rfl)) (⟨_, hs.pick (by repeat first | exact .here | apply Pick.there)⟩) rfl (fun _ _ _ h => h) fun a ha => ?_ | refine dT 2 rfl (by kernel_rfl) ha won0 (fun _ ⟨rs, hs⟩ => yLoadR0 Tryd.isAgg3 hs (by rfl) (by repeat first | exact .here | apply Pick.there) (by rfl)) (⟨_, hs.pick (by repeat first | exact .here | apply Pick.there)⟩) rfl (fun _ _ _ h => h) fun a ha => ?_
      refine dP 4 rfl (by kernel_rfl) ha won0 (fun _ => yFieldA Tryd.runUnderlying91 rfl Tryd.sizeOf3 rfl (by rfl)) rfl (fun _ _ _ h => h) fun a ha => ?_
      first | refine dT 5 rfl (by kernel_rfl) ha won0 (fun _ ⟨rs, hs⟩ => yLoadB Tryd.isAgg3 hs (by rfl) (by repeat first | exact .here | apply Pick.there) (by rfl)) (⟨_, hs.pick (by repeat first | exact .here | apply Pick.there)⟩) rfl (fun _ _ _ h => h) fun a ha => ?_ | refine dT 5 rfl (by kernel_rfl) ha won0 (fun _ ⟨rs, hs⟩ => yLoadR Tryd.isAgg3 hs (by rfl) (by repeat first | exact .here | apply Pick.there) (by rfl)) (⟨_, hs.pick (by repeat first | exact .here | apply Pick.there)⟩) rfl (fun _ _ _ h => h) fun a ha => ?_ | refine dT 5 rfl (by kernel_rfl) ha won0 (fun _ ⟨rs, hs⟩ => yLoadR0 Tryd.isAgg3 hs (by rfl) (by repeat first | exact .here | apply Pick.there) (by rfl)) (⟨_, hs.pick (by repeat first | exact .here | apply Pick.there)⟩) rfl (fun _ _ _ h => h) fun a ha => ?_
      refine dP 7 rfl (by kernel_rfl) ha won0 (fun _ => yFieldA Tryd.runUnderlying91 rfl Tryd.sizeOf9 rfl (by rfl)) rfl (fun _ _ _ h => h) fun a ha => ?_
      first | refine dT 8 rfl (by kernel_rfl) ha won0 (fun _ ⟨rs, hs⟩ => yLoadB Tryd.isAgg9 hs (by rfl) (by repeat first | exact .here | apply Pick.there) (by rfl)) (⟨_, hs.pick (by repeat first | exact .here | apply Pick.there)⟩) rfl (fun _ _ _ h => h) fun a ha => ?_ | refine dT 8 rfl (by kernel_rfl) ha won0 (fun _ ⟨rs, hs⟩ => yLoadR Tryd.isAgg9 hs (by rfl) (by repeat first | exact .here | apply Pick.there) (by rfl)) (⟨_, hs.pick (by repeat first | exact .here | apply Pick.there)⟩) rfl (fun _ _ _ h => h) fun a ha => ?_ | refine dT 8 rfl (by kernel_rfl) ha won0 (fun _ ⟨rs, hs⟩ => yLoadR0 Tryd.isAgg9 hs (by rfl) (by repeat first | exact .here | apply Pick.there) (by rfl)) (⟨_, hs.pick (by repeat first | exact .here | apply Pick.there)⟩) rfl (fun _ _ _ h => h) fun a ha => ?_
      refine dC 3 rfl (by kernel_rfl) rfl ha won0 (nCall Tryd.call12 (by rfl)) rfl (WrNum_c (st := s0) x.kind (by omega) hs (by repeat first | exact .here | apply Pick.there)) ?_
      rintro v w ⟨rfl, hs⟩
      refine ⟨⟨_, hs.pick (by repeat first | exact .here | apply Pick.there)⟩, fun a ha => ?_⟩
      refine dC 6 rfl (by kernel_rfl) rfl ha won0 (nCall Tryd.call12 (by rfl)) rfl (WrNum_c (st := wNum s0 x.kind) x.n (by omega) hs (by repeat first | exact .here | apply Pick.there)) ?_
      rintro v w ⟨rfl, hs⟩
      refine ⟨⟨_, hs.pick (by repeat first | exact .here | apply Pick.there)⟩, fun a ha => ?_⟩
      refine dCl 9 rfl (by kernel_rfl) rfl ha won0 (nCall Tryd.call32 (by rfl)) rfl (WrText_c (st := wNum (wNum s0 x.kind) x.n) hT x.text (by omega) (by omega) hs (by repeat first | exact .here | apply Pick.there)) ?_
      rintro v w ⟨rfl, hs⟩ a ha
      refine dZ (by kernel_rfl) ?_
      refine hK7 _ _ ?_
      refine wp_region_lit ?_
      first | refine pY ha (yAddN (by rfl) (by rfl) ⟨by omega, by omega⟩) rfl fun a ha => ?_ | refine pY ha (yAdd (by rfl) (by rfl)) rfl fun a ha => ?_
      refine pY ha (yMove (by rfl)) rfl fun a ha => ?_
      refine pZ ?_
      refine ⟨i + 1, ⟨by omega, has4 ha (by rfl) (by rfl) (by rfl) (by rfl), ?_⟩, by omega⟩
      rw [hf1]
      exact hs.drop2.drop2
    · refine wp_exit ?_
      refine hK3 _ _ ?_
      refine wp_seq_k fun K9 hK9 => ?_
      refine wp_region_lit ?_
      refine pY ha (yMove (by rfl)) rfl fun a ha => ?_
      refine pY ha (yAssign (by rfl)) rfl fun a ha => ?_
      refine pZ ?_
      refine hK9 _ _ ?_
      refine wp_ret ?_
      show bodyPost Tryd.prog Tryd.f40 _ .ret _ _
      refine ret1 rfl ha (by rfl) ?_
      rw [List.take_of_length_le (by omega)] at hs; exact ⟨rfl, hs.drop2⟩
theorem WrNods_c (hT : Tabs W) {A : Option Addr} {n c : Nat} {xs : List Nod} (hb : (wNods st xs).1.length ≤ 8796093022208) (hs : Sep W w cs) (hk : Pick cs (.wtr p 53 st) r) (hk2 : Pick r (.rd kNod (.slice A n c) xs) r2) :
    Calls P 42 #[.pointer (some ⟨p, 0, none⟩), .slice A n c] w (Rt fun v w' => v = .pointer (some ⟨p, 0, none⟩) ∧ Sep W w' (.wtr p 53 (wNods st xs) :: r)) := by
  have hs := hs.pick hk
  obtain ⟨rfl, hl⟩ := hs.rd_shape (.there hk2)
  unfold maxLen at hl
  have hs := hs.cpR (.there hk2)
  have hb0 := fold_le wNod_le xs (wNum st xs.length)
  unfold wNods at hb
  refine enter Tryd.func42 Tryd.ntmps42 rfl rfl fun a (ha : Has a 35 [(0, _), (1, _)]) => ?_
  refine wp_seq_k fun K1 hK1 => ?_
  refine wp_region_lit ?_
  refine pY ha (yAssign (by rfl)) rfl fun a ha => ?_
  refine pZ ?_
  refine hK1 _ _ ?_
  refine wp_seq_k fun K2 hK2 => ?_
  refine wp_region_lit ?_
  refine pY ha (yMove (by rfl)) rfl fun a ha => ?_
  refine pY ha (yMove (by rfl)) rfl fun a ha => ?_
  refine pY ha (yLenS Tryd.runUnderlying47 (by rfl)) rfl fun a ha => ?_
  refine pC ha (nCall Tryd.call12 (by rfl)) rfl (WrNum_c (st := st) xs.length (by omega) hs (.there .here)) ?_
  rintro v w ⟨rfl, hs⟩ a ha
  refine pZ ?_
  refine hK2 _ _ ?_
  refine wp_seq_k fun K3 hK3 => ?_
  refine wp_seq_k fun K4 hK4 => ?_
  refine wp_region_lit ?_
  refine pY ha (yMove (by rfl)) rfl fun a ha => ?_
  refine pY ha (yLenS Tryd.runUnderlying47 (by rfl)) rfl fun a ha => ?_
  refine pY ha (yMove (by rfl)) rfl fun a ha => ?_
  refine pZ ?_
  refine hK4 _ _ ?_
  refine wp_block ?_
  refine loopI (ι := Nat) (fun i a w => i ≤ xs.length ∧ Has a 35 [(0, .pointer (some ⟨p, 0, none⟩)), (11, .slice A xs.length c), (12, .int .i64 xs.length), (13, .int .i64 i)] ∧ Sep W w (.wtr p 53 ((xs.take i).foldl wNod (wNum st xs.length)) :: .rd kNod (.slice A xs.length c) xs :: r)) (fun i => xs.length - i) (0) ?_ ?_
  · exact ⟨Nat.zero_le _, has4 ha (by rfl) (by rfl) (by rfl) (by rfl), hs⟩
  · rintro i a w ⟨h1, ha, hs⟩
    refine wp_seq_k fun K5 hK5 => ?_
    refine wp_region_lit ?_
    refine pY ha (yLss (by rfl) (by rfl)) rfl fun a ha => ?_
    refine pZ ?_
    refine hK5 _ _ ?_
    refine wp_seq_k fun K6 hK6 => ?_
    first | refine cDec ha (by rfl) (fun hc14 => ?_) (fun hc14 => ?_) | refine cSplit ha (by rfl) (fun hc14 => ?_) (fun hc14 => ?_)
    · obtain ⟨x, hx⟩ : ∃ x, xs[i]? = some x := ⟨_, List.getElem?_eq_getElem (by omega)⟩
      obtain ⟨hf1, hf2⟩ := fold_at (f := wNod) wNod_le (s0 := wNum st xs.length) hx
      generalize (xs.take i).foldl wNod (wNum st xs.length) = s0 at hs hf1 hf2
      obtain ⟨b0, off, rfl, hs⟩ := hs.rd_nod (.there .here) hx
      have q1 := wNum_le s0 x.id
      have q2 := wNum_le (wNum s0 x.id) x.parent
      have q3 := wText_le (wNum (wNum s0 x.id) x.parent) x.name
      have q4 := wFlag_le (wText (wNum (wNum s0 x.id) x.parent) x.name) x.dir
      have q5 := wText_le (wFlag (wText (wNum (wNum s0 x.id) x.parent) x.name) x.dir) x.text
      have hf3 : (wText (wFlag (wText (wNum (wNum s0 x.id) x.parent) x.name) x.dir) x.text).1.length ≤ 8796093022208 := Nat.le_trans hf2 hb
      refine wp_skip ?_
      refine hK6 _ _ ?_
      refine wp_seq_k fun K7 hK7 => ?_
      refine wp_block ?_
      refine wp_seq_k fun K8 hK8 => ?_
      refine wp_region_lit ?_
      refine pY ha (yIndexA Tryd.runUnderlying47 Tryd.sizeOf65 (by rfl) (by rfl) (by omega) (by omega)) rfl fun a ha => ?_
      first | refine pY ha (yLoadRA Tryd.isAgg65 Tryd.sizeOf65 hs (by rfl) (by repeat first | exact .here | apply Pick.there) (by rfl)) rfl fun a ha => ?_ | refine pY ha (yLoadBA Tryd.isAgg65 Tryd.sizeOf65 hs (by rfl) (by repeat first | exact .here | apply Pick.there) (by rfl)) rfl fun a ha => ?_
      refine pAlloc (zs := [.int .i64 0, .int .i64 0, .string ⟨#[]⟩, .bool false, .string ⟨#[]⟩]) ha Tryd.zeroValue65 (by rfl) hs rfl fun b w hs a ha => ?_
      refine pStoreA ha Tryd.sizeOf65 hs (by rfl) (by rfl) (by repeat first | exact .here | apply Pick.there) (by rfl) (by rfl) (by rfl) fun w hs => ?_
      refine pZ ?_
      refine hK8 _ _ ?_
      refine dStart (fun w => ∃ rs, Sep W w (.blk b 65 [.int .i64 x.id, .int .i64 x.parent, .string x.name, .bool x.dir, .string x.text] :: rs)) [15] (by kernel_rfl) rfl (⟨_, hs.drew.pick (by repeat first | exact .here | apply Pick.there)⟩) ?_
      have hs := Sep.drew hs
      generalize World.drew _ = w at hs ⊢
      refine dP 0 rfl (by kernel_rfl) ha won0 (fun _ => yMove (by rfl)) rfl (fun _ _ _ h => h) fun a ha => ?_
      refine dP 1 rfl (by kernel_rfl) ha won0 (fun _ => yFieldA Tryd.runUnderlying65 rfl Tryd.sizeOf3 rfl (by rfl)) rfl (fun _ _ _ h => h) fun a ha => ?_
      first | refine dT 2 rfl (by kernel_rfl) ha won0 (fun _ ⟨rs, hs⟩ => yLoadB Tryd.isAgg3 hs (by rfl) (by repeat first | exact .here | apply Pick.there) (by rfl)) (⟨_, hs.pick (by repeat first | exact .here | apply Pick.there)⟩) rfl (fun _ _ _ h => h) fun a ha => ?_ | refine dT 2 rfl (by kernel_rfl) ha won0 (fun _ ⟨rs, hs⟩ => yLoadR Tryd.isAgg3 hs (by rfl) (by repeat first | exact .here | apply Pick.there) (by rfl)) (⟨_, hs.pick (by repeat first | exact .here | apply Pick.there)⟩) rfl (fun _ _ _ h => h) fun a ha => ?_ | refine dT 2 rfl (by kernel_rfl) ha won0 (fun _ ⟨rs, hs⟩ => yLoadR0 Tryd.isAgg3 hs (by rfl) (by repeat first | exact .here | apply Pick.there) (by rfl)) (⟨_, hs.pick (by repeat first | exact .here | apply Pick.there)⟩) rfl (fun _ _ _ h => h) fun a ha => ?_
      refine dP 4 rfl (by kernel_rfl) ha won0 (fun _ => yFieldA Tryd.runUnderlying65 rfl Tryd.sizeOf3 rfl (by rfl)) rfl (fun _ _ _ h => h) fun a ha => ?_
      first | refine dT 5 rfl (by kernel_rfl) ha won0 (fun _ ⟨rs, hs⟩ => yLoadB Tryd.isAgg3 hs (by rfl) (by repeat first | exact .here | apply Pick.there) (by rfl)) (⟨_, hs.pick (by repeat first | exact .here | apply Pick.there)⟩) rfl (fun _ _ _ h => h) fun a ha => ?_ | refine dT 5 rfl (by kernel_rfl) ha won0 (fun _ ⟨rs, hs⟩ => yLoadR Tryd.isAgg3 hs (by rfl) (by repeat first | exact .here | apply Pick.there) (by rfl)) (⟨_, hs.pick (by repeat first | exact .here | apply Pick.there)⟩) rfl (fun _ _ _ h => h) fun a ha => ?_ | refine dT 5 rfl (by kernel_rfl) ha won0 (fun _ ⟨rs, hs⟩ => yLoadR0 Tryd.isAgg3 hs (by rfl) (by repeat first | exact .here | apply Pick.there) (by rfl)) (⟨_, hs.pick (by repeat first | exact .here | apply Pick.there)⟩) rfl (fun _ _ _ h => h) fun a ha => ?_
      refine dP 7 rfl (by kernel_rfl) ha won0 (fun _ => yFieldA Tryd.runUnderlying65 rfl Tryd.sizeOf9 rfl (by rfl)) rfl (fun _ _ _ h => h) fun a ha => ?_
      first | refine dT 8 rfl (by kernel_rfl) ha won0 (fun _ ⟨rs, hs⟩ => yLoadB Tryd.isAgg9 hs (by rfl) (by repeat first | exact .here | apply Pick.there) (by rfl)) (⟨_, hs.pick (by repeat first | exact .here | apply Pick.there)⟩) rfl (fun _ _ _ h => h) fun a ha => ?_ | refine dT 8 rfl (by kernel_rfl) ha won0 (fun _ ⟨rs, hs⟩ => yLoadR Tryd.isAgg9 hs (by rfl) (by repeat first | exact .here | apply Pick.there) (by rfl)) (⟨_, hs.pick (by repeat first | exact .here | apply Pick.there)⟩) rfl (fun _ _ _ h => h) fun a ha => ?_ | refine dT 8 rfl (by kernel_rfl) ha won0 (fun _ ⟨rs, hs⟩ => yLoadR0 Tryd.isAgg9 hs (by rfl) (by repeat first | exact .here | apply Pick.there) (by rfl)) (⟨_, hs.pick (by repeat first | exact .here | apply Pick.there)⟩) rfl (fun _ _ _ h => h) fun a ha => ?_
      refine dP 10 rfl (by kernel_rfl) ha won0 (fun _ => yFieldA Tryd.runUnderlying65 rfl Tryd.sizeOf4 rfl (by rfl)) rfl (fun _ _ _ h => h) fun a ha => ?_
      first | refine dT 11 rfl (by kernel_rfl) ha won0 (fun _ ⟨rs, hs⟩ => yLoadB Tryd.isAgg4 hs (by rfl) (by repeat first | exact .here | apply Pick.there) (by rfl)) (⟨_, hs.pick (by repeat first | exact .here | apply Pick.there)⟩) rfl (fun _ _ _ h => h) fun a ha => ?_ | refine dT 11 rfl (by kernel_rfl) ha won0 (fun _ ⟨rs, hs⟩ => yLoadR Tryd.isAgg4 hs (by rfl) (by repeat first | exact .here | apply Pick.there) (by rfl)) (⟨_, hs.pick (by repeat first | exact .here | apply Pick.there)⟩) rfl (fun _ _ _ h => h) fun a ha => ?_ | refine dT 11 rfl (by kernel_rfl) ha won0 (fun _ ⟨rs, hs⟩ => yLoadR0 Tryd.isAgg4 hs (by rfl) (by repeat first | exact .here | apply Pick.there) (by rfl)) (⟨_, hs.pick (by repeat first | exact .here | apply Pick.there)⟩) rfl (fun _ _ _ h => h) fun a ha => ?_
      refine dP 13 rfl (by kernel_rfl) ha won0 (fun _ => yFieldA Tryd.runUnderlying65 rfl Tryd.sizeOf9 rfl (by rfl)) rfl (fun _ _ _ h => h) fun a ha => ?_
      first | refine dT 14 rfl (by kernel_rfl) ha won0 (fun _ ⟨rs, hs⟩ => yLoadB Tryd.isAgg9 hs (by rfl) (by repeat first | exact .here | apply Pick.there) (by rfl)) (⟨_, hs.pick (by repeat first | exact .here | apply Pick.there)⟩) rfl (fun _ _ _ h => h) fun a ha => ?_ | refine dT 14 rfl (by kernel_rfl) ha won0 (fun _ ⟨rs, hs⟩ => yLoadR Tryd.isAgg9 hs (by rfl) (by repeat first | exact .here | apply Pick.there) (by rfl)) (⟨_, hs.pick (by repeat first | exact .here | apply Pick.there)⟩) rfl (fun _ _ _ h => h) fun a ha => ?_ | refine dT 14 rfl (by kernel_rfl) ha won0 (fun _ ⟨rs, hs⟩ => yLoadR0 Tryd.isAgg9 hs (by rfl) (by repeat first | exact .here | apply Pick.there) (by rfl)) (⟨_, hs.pick (by repeat first | exact .here | apply Pick.there)⟩) rfl (fun _ _ _ h => h) fun a ha => ?_
      refine dC 3 rfl (by kernel_rfl) rfl ha won0 (nCall Tryd.call12 (by rfl)) rfl (WrNum_c (st := s0) x.id (by omega) hs (by repeat first | exact .here | apply Pick.there)) ?_
      rintro v w ⟨rfl, hs⟩
      refine ⟨⟨_, hs.pick (by repeat first | exact .here | apply Pick.there)⟩, fun a ha => ?_⟩
      refine dC 6 rfl (by kernel_rfl) rfl ha won0 (nCall Tryd.call12 (by rfl)) rfl (WrNum_c (st := wNum s0 x.id) x.parent (by omega) hs (by repeat first | exact .here | apply Pick.there)) ?_
      rintro v w ⟨rfl, hs⟩
      refine ⟨⟨_, hs.pick (by repeat first | exact .here | apply Pick.there)⟩, fun a ha => ?_⟩
      refine dC 9 rfl (by kernel_rfl) rfl ha won0 (nCall Tryd.call32 (by rfl)) rfl (WrText_c (st := wNum (wNum s0 x.id) x.parent) hT x.name (by omega) (by omega) hs (by repeat first | exact .here | apply Pick.there)) ?_
      rintro v w ⟨rfl, hs⟩
      refine ⟨⟨_, hs.pick (by repeat first | exact .here | apply Pick.there)⟩, fun a ha => ?_⟩
      refine dC 12 rfl (by kernel_rfl) rfl ha won0 (nCall Tryd.call39 (by rfl)) rfl (WrFlag_c (st := wText (wNum (wNum s0 x.id) x.parent) x.name) x.dir (by omega) hs (by repeat first | exact .here | apply Pick.there)) ?_
      rintro v w ⟨rfl, hs⟩
      refine ⟨⟨_, hs.pick (by repeat first | exact .here | apply Pick.there)⟩, fun a ha => ?_⟩
      refine dCl 15 rfl (by kernel_rfl) rfl ha won0 (nCall Tryd.call32 (by rfl)) rfl (WrText_c (st := wFlag (wText (wNum (wNum s0 x.id) x.parent) x.name) x.dir) hT x.text (by omega) (by omega) hs (by repeat first | exact .here | apply Pick.there)) ?_
      rintro v w ⟨rfl, hs⟩ a ha
      refine dZ (by kernel_rfl) ?_
      refine hK7 _ _ ?_
      refine wp_region_lit ?_
      first | refine pY ha (yAddN (by rfl) (by rfl) ⟨by omega, by omega⟩) rfl fun a ha => ?_ | refine pY ha (yAdd (by rfl) (by rfl)) rfl fun a ha => ?_
      refine pY ha (yMove (by rfl)) rfl fun a ha => ?_
      refine pZ ?_
      refine ⟨i + 1, ⟨by omega, has4 ha (by rfl) (by rfl) (by rfl) (by rfl), ?_⟩, by omega⟩
      rw [hf1]
      exact hs.drop2.drop2
    · refine wp_exit ?_
      refine hK3 _ _ ?_
      refine wp_seq_k fun K9 hK9 => ?_
      refine wp_region_lit ?_
      refine pY ha (yMove (by rfl)) rfl fun a ha => ?_
      refine pY ha (yAssign (by rfl)) rfl fun a ha => ?_
      refine pZ ?_
      refine hK9 _ _ ?_
      refine wp_ret ?_
      show bodyPost Tryd.prog Tryd.f42 _ .ret _ _
      refine ret1 rfl ha (by rfl) ?_
      rw [List.take_of_length_le (by omega)] at hs; exact ⟨rfl, hs.drop2⟩
theorem WrActns_c (hT : Tabs W) {A : Option Addr} {n c : Nat} {xs : List Actn} (hb : (wActns st xs).1.length ≤ 8796093022208) (hs : Sep W w cs) (hk : Pick cs (.wtr p 53 st) r) (hk2 : Pick r (.rd kActn (.slice A n c) xs) r2) :
    Calls P 41 #[.pointer (some ⟨p, 0, none⟩), .slice A n c] w (Rt fun v w' => v = .pointer (some ⟨p, 0, none⟩) ∧ Sep W w' (.wtr p 53 (wActns st xs) :: r)) := by
  have hs := hs.pick hk
  obtain ⟨rfl, hl⟩ := hs.rd_shape (.there hk2)
  unfold maxLen at hl
  have hs := hs.cpR (.there hk2)
  have hb0 := fold_le wActn_le xs (wNum st xs.length)
  unfold wActns at hb
  refine enter Tryd.func41 Tryd.ntmps41 rfl rfl fun a (ha : Has a 38 [(0, _), (1, _)]) => ?_
  refine wp_seq_k fun K1 hK1 => ?_
  refine wp_region_lit ?_
  refine pY ha (yAssign (by rfl)) rfl fun a ha => ?_
  refine pZ ?_
  refine hK1 _ _ ?_
  refine wp_seq_k fun K2 hK2 => ?_
  refine wp_region_lit ?_
  refine pY ha (yMove (by rfl)) rfl fun a ha => ?_
  refine pY ha (yMove (by rfl)) rfl fun a ha => ?_
  refine pY ha (yLenS Tryd.runUnderlying44 (by rfl)) rfl fun a ha => ?_
  refine pC ha (nCall Tryd.call12 (by rfl)) rfl (WrNum_c (st := st) xs.length (by omega) hs (.there .here)) ?_
  rintro v w ⟨rfl, hs⟩ a ha
  refine pZ ?_
  refine hK2 _ _ ?_
  refine wp_seq_k fun K3 hK3 => ?_
  refine wp_seq_k fun K4 hK4 => ?_
  refine wp_region_lit ?_
  refine pY ha (yMove (by rfl)) rfl fun a ha => ?_
  refine pY ha (yLenS Tryd.runUnderlying44 (by rfl)) rfl fun a ha => ?_
  refine pY ha (yMove (by rfl)) rfl fun a ha => ?_
  refine pZ ?_
  refine hK4 _ _ ?_
  refine wp_block ?_
  refine loopI (ι := Nat) (fun i a w => i ≤ xs.length ∧ Has a 38 [(0, .pointer (some ⟨p, 0, none⟩)), (11, .slice A xs.length c), (12, .int .i64 xs.length), (13, .int .i64 i)] ∧ Sep W w (.wtr p 53 ((xs.take i).foldl wActn (wNum st xs.length)) :: .rd kActn (.slice A xs.length c) xs :: r)) (fun i => xs.length - i) (0) ?_ ?_
  · exact ⟨Nat.zero_le _, has4 ha (by rfl) (by rfl) (by rfl) (by rfl), hs⟩
  · rintro i a w ⟨h1, ha, hs⟩
    refine wp_seq_k fun K5 hK5 => ?_
    refine wp_region_lit ?_
    refine pY ha (yLss (by rfl) (by rfl)) rfl fun a ha => ?_
    refine pZ ?_
    refine hK5 _ _ ?_
    refine wp_seq_k fun K6 hK6 => ?_
    first | refine cDec ha (by rfl) (fun hc14 => ?_) (fun hc14 => ?_) | refine cSplit ha (by rfl) (fun hc14 => ?_) (fun hc14 => ?_)
    · obtain ⟨x, hx⟩ : ∃ x, xs[i]? = some x := ⟨_, List.getElem?_eq_getElem (by omega)⟩
      obtain ⟨hf1, hf2⟩ := fold_at (f := wActn) wActn_le (s0 := wNum st xs.length) hx
      generalize (xs.take i).foldl wActn (wNum st xs.length) = s0 at hs hf1 hf2
      obtain ⟨b0, off, A', n', c', rfl, hs⟩ := hs.rd_actn (.there .here) hx
      have q1 := wNum_le s0 x.kind
      have q2 := wNum_le (wNum s0 x.kind) x.id
      have q3 := wNum_le (wNum (wNum s0 x.kind) x.id) x.parent
      have q4 := wText_le (wNum (wNum (wNum s0 x.kind) x.id) x.parent) x.name
      have q5 := wFlag_le (wText (wNum (wNum (wNum s0 x.kind) x.id) x.parent) x.name) x.dir
      have q6 := wComps_le (wFlag (wText (wNum (wNum (wNum s0 x.kind) x.id) x.parent) x.name) x.dir) x.ops
      have hf3 : (wComps (wFlag (wText (wNum (wNum (wNum s0 x.kind) x.id) x.parent) x.name) x.dir) x.ops).1.length ≤ 8796093022208 := Nat.le_trans hf2 hb
      refine wp_skip ?_
      refine hK6 _ _ ?_
      refine wp_seq_k fun K7 hK7 => ?_
      refine wp_block ?_
      refine wp_seq_k fun K8 hK8 => ?_
      refine wp_region_lit ?_
      refine pY ha (yIndexA Tryd.runUnderlying44 Tryd.sizeOf63 (by rfl) (by rfl) (by omega) (by omega)) rfl fun a ha => ?_
      first | refine pY ha (yLoadRA Tryd.isAgg63 Tryd.sizeOf63 hs (by rfl) (by repeat first | exact .here | apply Pick.there) (by rfl)) rfl fun a ha => ?_ | refine pY ha (yLoadBA Tryd.isAgg63 Tryd.sizeOf63 hs (by rfl) (by repeat first | exact .here | apply Pick.there) (by rfl)) rfl fun a ha => ?_
      refine pAlloc (zs := [.int .i64 0, .int .i64 0, .int .i64 0, .string ⟨#[]⟩, .bool false, .slice none 0 0]) ha Tryd.zeroValue63 (by rfl) hs rfl fun b w hs a ha => ?_
      refine pStoreA ha Tryd.sizeOf63 hs (by rfl) (by rfl) (by repeat first | exact .here | apply Pick.there) (by rfl) (by rfl) (by rfl) fun w hs => ?_
      refine pZ ?_
      refine hK8 _ _ ?_
      refine dStart (fun w => ∃ rs, Sep W w (.blk b 63 [.int .i64 x.kind, .int .i64 x.id, .int .i64 x.parent, .string x.name, .bool x.dir, .slice A' n' c'] :: rs)) [18] (by kernel_rfl) rfl (⟨_, hs.drew.pick (by repeat first | exact .here | apply Pick.there)⟩) ?_
      have hs := Sep.drew hs
      generalize World.drew _ = w at hs ⊢
      refine dP 0 rfl (by kernel_rfl) ha won0 (fun _ => yMove (by rfl)) rfl (fun _ _ _ h => h) fun a ha => ?_
      refine dP 1 rfl (by kernel_rfl) ha won0 (fun _ => yFieldA Tryd.runUnderlying63 rfl Tryd.sizeOf3 rfl (by rfl)) rfl (fun _ _ _ h => h) fun a ha => ?_
      first | refine dT 2 rfl (by kernel_rfl) ha won0 (fun _ ⟨rs, hs⟩ => yLoadB Tryd.isAgg3 hs (by rfl) (by repeat first | exact .here | apply Pick.there) (by rfl)) (⟨_, hs.pick (by repeat first | exact .here | apply Pick.there)⟩) rfl (fun _ _ _ h => h) fun a ha => ?_ | refine dT 2 rfl (by kernel_rfl) ha won0 (fun _ ⟨rs, hs⟩ => yLoadR Tryd.isAgg3 hs (by rfl) (by repeat first | exact .here | apply Pick.there) (by rfl)) (⟨_, hs.pick (by repeat first | exact .here | apply Pick.there)⟩) rfl (fun _ _ _ h => h) fun a ha => ?_ | refine dT 2 rfl (by kernel_rfl) ha won0 (fun _ ⟨rs, hs⟩ => yLoadR0 Tryd.isAgg3 hs (by rfl) (by repeat first | exact .here | apply Pick.there) (by rfl)) (⟨_, hs.pick (by repeat first | exact .here | apply Pick.there)⟩) rfl (fun _ _ _ h => h) fun a ha => ?_
      refine dP 4 rfl (by kernel_rfl) ha won0 (fun _ => yFieldA Tryd.runUnderlying63 rfl Tryd.sizeOf3 rfl (by rfl)) rfl (fun _ _ _ h => h) fun a ha => ?_
      first | refine dT 5 rfl (by kernel_rfl) ha won0 (fun _ ⟨rs, hs⟩ => yLoadB Tryd.isAgg3 hs (by rfl) (by repeat first | exact .here | apply Pick.there) (by rfl)) (⟨_, hs.pick (by repeat first | exact .here | apply Pick.there)⟩) rfl (fun _ _ _ h => h) fun a ha => ?_ | refine dT 5 rfl (by kernel_rfl) ha won0 (fun _ ⟨rs, hs⟩ => yLoadR Tryd.isAgg3 hs (by rfl) (by repeat first | exact .here | apply Pick.there) (by rfl)) (⟨_, hs.pick (by repeat first | exact .here | apply Pick.there)⟩) rfl (fun _ _ _ h => h) fun a ha => ?_ | refine dT 5 rfl (by kernel_rfl) ha won0 (fun _ ⟨rs, hs⟩ => yLoadR0 Tryd.isAgg3 hs (by rfl) (by repeat first | exact .here | apply Pick.there) (by rfl)) (⟨_, hs.pick (by repeat first | exact .here | apply Pick.there)⟩) rfl (fun _ _ _ h => h) fun a ha => ?_
      refine dP 7 rfl (by kernel_rfl) ha won0 (fun _ => yFieldA Tryd.runUnderlying63 rfl Tryd.sizeOf3 rfl (by rfl)) rfl (fun _ _ _ h => h) fun a ha => ?_
      first | refine dT 8 rfl (by kernel_rfl) ha won0 (fun _ ⟨rs, hs⟩ => yLoadB Tryd.isAgg3 hs (by rfl) (by repeat first | exact .here | apply Pick.there) (by rfl)) (⟨_, hs.pick (by repeat first | exact .here | apply Pick.there)⟩) rfl (fun _ _ _ h => h) fun a ha => ?_ | refine dT 8 rfl (by kernel_rfl) ha won0 (fun _ ⟨rs, hs⟩ => yLoadR Tryd.isAgg3 hs (by rfl) (by repeat first | exact .here | apply Pick.there) (by rfl)) (⟨_, hs.pick (by repeat first | exact .here | apply Pick.there)⟩) rfl (fun _ _ _ h => h) fun a ha => ?_ | refine dT 8 rfl (by kernel_rfl) ha won0 (fun _ ⟨rs, hs⟩ => yLoadR0 Tryd.isAgg3 hs (by rfl) (by repeat first | exact .here | apply Pick.there) (by rfl)) (⟨_, hs.pick (by repeat first | exact .here | apply Pick.there)⟩) rfl (fun _ _ _ h => h) fun a ha => ?_
      refine dP 10 rfl (by kernel_rfl) ha won0 (fun _ => yFieldA Tryd.runUnderlying63 rfl Tryd.sizeOf9 rfl (by rfl)) rfl (fun _ _ _ h => h) fun a ha => ?_
      first | refine dT 11 rfl (by kernel_rfl) ha won0 (fun _ ⟨rs, hs⟩ => yLoadB Tryd.isAgg9 hs (by rfl) (by repeat first | exact .here | apply Pick.there) (by rfl)) (⟨_, hs.pick (by repeat first | exact .here | apply Pick.there)⟩) rfl (fun _ _ _ h => h) fun a ha => ?_ | refine dT 11 rfl (by kernel_rfl) ha won0 (fun _ ⟨rs, hs⟩ => yLoadR Tryd.isAgg9 hs (by rfl) (by repeat first | exact .here | apply Pick.there) (by rfl)) (⟨_, hs.pick (by repeat first | exact .here | apply Pick.there)⟩) rfl (fun _ _ _ h => h) fun a ha => ?_ | refine dT 11 rfl (by kernel_rfl) ha won0 (fun _ ⟨rs, hs⟩ => yLoadR0 Tryd.isAgg9 hs (by rfl) (by repeat first | exact .here | apply Pick.there) (by rfl)) (⟨_, hs.pick (by repeat first | exact .here | apply Pick.there)⟩) rfl (fun _ _ _ h => h) fun a ha => ?_
      refine dP 13 rfl (by kernel_rfl) ha won0 (fun _ => yFieldA Tryd.runUnderlying63 rfl Tryd.sizeOf4 rfl (by rfl)) rfl (fun _ _ _ h => h) fun a ha => ?_
      first | refine dT 14 rfl (by kernel_rfl) ha won0 (fun _ ⟨rs, hs⟩ => yLoadB Tryd.isAgg4 hs (by rfl) (by repeat first | exact .here | apply Pick.there) (by rfl)) (⟨_, hs.pick (by repeat first | exact .here | apply Pick.there)⟩) rfl (fun _ _ _ h => h) fun a ha => ?_ | refine dT 14 rfl (by kernel_rfl) ha won0 (fun _ ⟨rs, hs⟩ => yLoadR Tryd.isAgg4 hs (by rfl) (by repeat first | exact .here | apply Pick.there) (by rfl)) (⟨_, hs.pick (by repeat first | exact .here | apply Pick.there)⟩) rfl (fun _ _ _ h => h) fun a ha => ?_ | refine dT 14 rfl (by kernel_rfl) ha won0 (fun _ ⟨rs, hs⟩ => yLoadR0 Tryd.isAgg4 hs (by rfl) (by repeat first | exact .here | apply Pick.there) (by rfl)) (⟨_, hs.pick (by repeat first | exact .here | apply Pick.there)⟩) rfl (fun _ _ _ h => h) fun a ha => ?_
      refine dP 16 rfl (by kernel_rfl) ha won0 (fun _ => yFieldA Tryd.runUnderlying63 rfl Tryd.sizeOf41 rfl (by rfl)) rfl (fun _ _ _ h => h) fun a ha => ?_
      first | refine dT 17 rfl (by kernel_rfl) ha won0 (fun _ ⟨rs, hs⟩ => yLoadB Tryd.isAgg41 hs (by rfl) (by repeat first | exact .here | apply Pick.there) (by rfl)) (⟨_, hs.pick (by repeat first | exact .here | apply Pick.there)⟩) rfl (fun _ _ _ h => h) fun a ha => ?_ | refine dT 17 rfl (by kernel_rfl) ha won0 (fun _ ⟨rs, hs⟩ => yLoadR Tryd.isAgg41 hs (by rfl) (by repeat first | exact .here | apply Pick.there) (by rfl)) (⟨_, hs.pick (by repeat first | exact .here | apply Pick.there)⟩) rfl (fun _ _ _ h => h) fun a ha => ?_ | refine dT 17 rfl (by kernel_rfl) ha won0 (fun _ ⟨rs, hs⟩ => yLoadR0 Tryd.isAgg41 hs (by rfl) (by repeat first | exact .here | apply Pick.there) (by rfl)) (⟨_, hs.pick (by repeat first | exact .here | apply Pick.there)⟩) rfl (fun _ _ _ h => h) fun a ha => ?_
      refine dC 3 rfl (by kernel_rfl) rfl ha won0 (nCall Tryd.call12 (by rfl)) rfl (WrNum_c (st := s0) x.kind (by omega) hs (by repeat first | exact .here | apply Pick.there)) ?_
      rintro v w ⟨rfl, hs⟩
      refine ⟨⟨_, hs.pick (by repeat first | exact .here | apply Pick.there)⟩, fun a ha => ?_⟩
      refine dC 6 rfl (by kernel_rfl) rfl ha won0 (nCall Tryd.call12 (by rfl)) rfl (WrNum_c (st := wNum s0 x.kind) x.id (by omega) hs (by repeat first | exact .here | apply Pick.there)) ?_
      rintro v w ⟨rfl, hs⟩
      refine ⟨⟨_, hs.pick (by repeat first | exact .here | apply Pick.there)⟩, fun a ha => ?_⟩
      refine dC 9 rfl (by kernel_rfl) rfl ha won0 (nCall Tryd.call12 (by rfl)) rfl (WrNum_c (st := wNum (wNum s0 x.kind) x.id) x.parent (by omega) hs (by repeat first | exact .here | apply Pick.there)) ?_
      rintro v w ⟨rfl, hs⟩
      refine ⟨⟨_, hs.pick (by repeat first | exact .here | apply Pick.there)⟩, fun a ha => ?_⟩
      refine dC 12 rfl (by kernel_rfl) rfl ha won0 (nCall Tryd.call32 (by rfl)) rfl (WrText_c (st := wNum (wNum (wNum s0 x.kind) x.id) x.parent) hT x.name (by omega) (by omega) hs (by repeat first | exact .here | apply Pick.there)) ?_
      rintro v w ⟨rfl, hs⟩
      refine ⟨⟨_, hs.pick (by repeat first | exact .here | apply Pick.there)⟩, fun a ha => ?_⟩
      refine dC 15 rfl (by kernel_rfl) rfl ha won0 (nCall Tryd.call39 (by rfl)) rfl (WrFlag_c (st := wText (wNum (wNum (wNum s0 x.kind) x.id) x.parent) x.name) x.dir (by omega) hs (by repeat first | exact .here | apply Pick.there)) ?_
      rintro v w ⟨rfl, hs⟩
      refine ⟨⟨_, hs.pick (by repeat first | exact .here | apply Pick.there)⟩, fun a ha => ?_⟩
      refine dCl 18 rfl (by kernel_rfl) rfl ha won0 (nCall Tryd.call40 (by rfl)) rfl (WrComps_c (st := wFlag (wText (wNum (wNum (wNum s0 x.kind) x.id) x.parent) x.name) x.dir) hT (by omega) hs (by repeat first | exact .here | apply Pick.there) (by repeat first | exact .here | apply Pick.there)) ?_
      rintro v w ⟨rfl, hs⟩ a ha
      refine dZ (by kernel_rfl) ?_
      refine hK7 _ _ ?_
      refine wp_region_lit ?_
      first | refine pY ha (yAddN (by rfl) (by rfl) ⟨by omega, by omega⟩) rfl fun a ha => ?_ | refine pY ha (yAdd (by rfl) (by rfl)) rfl fun a ha => ?_
      refine pY ha (yMove (by rfl)) rfl fun a ha => ?_
      refine pZ ?_
      refine ⟨i + 1, ⟨by omega, has4 ha (by rfl) (by rfl) (by rfl) (by rfl), ?_⟩, by omega⟩
      rw [hf1]
      exact hs.drop2.drop2.drop2
    · refine wp_exit ?_
      refine hK3 _ _ ?_
      refine wp_seq_k fun K9 hK9 => ?_
      refine wp_region_lit ?_
      refine pY ha (yMove (by rfl)) rfl fun a ha => ?_
      refine pY ha (yAssign (by rfl)) rfl fun a ha => ?_
      refine pZ ?_
      refine hK9 _ _ ?_
      refine wp_ret ?_
      show bodyPost Tryd.prog Tryd.f41 _ .ret _ _
      refine ret1 rfl ha (by rfl) ?_
      rw [List.take_of_length_le (by omega)] at hs; exact ⟨rfl, hs.drop2⟩
end
end Go.Proofs.YtnkcmpmcmkljnaaDoor
