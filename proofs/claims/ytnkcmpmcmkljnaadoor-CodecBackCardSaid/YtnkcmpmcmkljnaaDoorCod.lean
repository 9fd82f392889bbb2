/- The codec, plain: what is written, what is read; the kinds of data. -/
import Derived.Test.YtnkcmpmcmkljnaaDoorNum
import Derived.Test.YtnkcmpmcmkljnaaDoorUtf
import Derived.Test.YtnkcmpmcmkljnaaDoorObj
set_option linter.unusedVariables false
set_option linter.unusedSimpArgs false
namespace Go.Proofs.YtnkcmpmcmkljnaaDoor
open Go.RowKit Go.Lib

structure Comp where
  kind : Int
  n : Int
  text : ByteArray
structure Actn where
  kind : Int
  id : Int
  parent : Int
  name : ByteArray
  dir : Bool
  ops : List Comp
structure Nod where
  id : Int
  parent : Int
  name : ByteArray
  dir : Bool
  text : ByteArray
def kComp : Kd Comp where
  sz := 3
  R := fun _ x cs => cs = [.int .i64 x.kind, .int .i64 x.n, .string x.text]
  mono := fun _ h => h
  len := fun h => by subst h; rfl
  one := fun h u hu => by subst h; simp at hu; rcases hu with rfl | rfl | rfl <;> rfl
def kNod : Kd Nod where
  sz := 5
  R := fun _ x cs => cs = [.int .i64 x.id, .int .i64 x.parent, .string x.name, .bool x.dir, .string x.text]
  mono := fun _ h => h
  len := fun h => by subst h; rfl
  one := fun h u hu => by subst h; simp at hu; rcases hu with rfl | rfl | rfl | rfl | rfl <;> rfl
def kActn : Kd Actn where
  sz := 6
  R := fun Z x cs => ∃ A n c, cs = [.int .i64 x.kind, .int .i64 x.id, .int .i64 x.parent, .string x.name, .bool x.dir, .slice A n c] ∧ kComp.sl Z (.slice A n c) x.ops
  mono := fun h ⟨A, n, c, e, hs⟩ => ⟨A, n, c, e, Kd.sl_mono kComp h hs⟩
  len := fun ⟨A, n, c, h, _⟩ => by subst h; rfl
  one := fun ⟨A, n, c, h, _⟩ u hu => by subst h; simp at hu; rcases hu with rfl | rfl | rfl | rfl | rfl | rfl <;> rfl

section
variable {W w : World} {cs r : List Ch}
theorem Sep.rd_comp {A : Option Addr} {n c i : Nat} {xs : List Comp} {x : Comp} (h : Sep W w cs) (hk : Pick cs (.rd kComp (.slice A n c) xs) r) (hx : xs[i]? = some x) :
    ∃ b off, A = some ⟨b, off, none⟩ ∧ Sep W w (.at b (off + i * 3) [.int .i64 x.kind, .int .i64 x.n, .string x.text] :: cs) := by
  obtain ⟨b, off, c', es, he, hl, hs⟩ := h.rd_at hk hx
  simp only [Value.slice.injEq] at he
  have hes : es = [.int .i64 x.kind, .int .i64 x.n, .string x.text] := hs.know (.there .here) (fun Z _ hp => hp)
  subst hes
  exact ⟨b, off, he.1, hs.drop2⟩
theorem Sep.rd_nod {A : Option Addr} {n c i : Nat} {xs : List Nod} {x : Nod} (h : Sep W w cs) (hk : Pick cs (.rd kNod (.slice A n c) xs) r) (hx : xs[i]? = some x) :
    ∃ b off, A = some ⟨b, off, none⟩ ∧ Sep W w (.at b (off + i * 5) [.int .i64 x.id, .int .i64 x.parent, .string x.name, .bool x.dir, .string x.text] :: cs) := by
  obtain ⟨b, off, c', es, he, hl, hs⟩ := h.rd_at hk hx
  simp only [Value.slice.injEq] at he
  have hes : es = [.int .i64 x.id, .int .i64 x.parent, .string x.name, .bool x.dir, .string x.text] := hs.know (.there .here) (fun Z _ hp => hp)
  subst hes
  exact ⟨b, off, he.1, hs.drop2⟩
theorem Sep.rd_actn {A : Option Addr} {n c i : Nat} {xs : List Actn} {x : Actn} (h : Sep W w cs) (hk : Pick cs (.rd kActn (.slice A n c) xs) r) (hx : xs[i]? = some x) :
    ∃ b off A' n' c', A = some ⟨b, off, none⟩ ∧ Sep W w (.at b (off + i * 6) [.int .i64 x.kind, .int .i64 x.id, .int .i64 x.parent, .string x.name, .bool x.dir, .slice A' n' c'] :: .rd kComp (.slice A' n' c') x.ops :: cs) := by
  obtain ⟨b, off, c', es, he, hl, hs⟩ := h.rd_at hk hx
  simp only [Value.slice.injEq] at he
  obtain ⟨A', n', c2, hes⟩ : ∃ A' n' c2, es = [.int .i64 x.kind, .int .i64 x.id, .int .i64 x.parent, .string x.name, .bool x.dir, .slice A' n' c2] := hs.know (.there .here) (fun Z _ ⟨A, n, c, e, _⟩ => ⟨A, n, c, e⟩)
  subst hes
  have h2 := hs.perm (List.Perm.swap _ _ _)
  have h3 := h2.imp (x := .rd kComp (.slice A' n' c2) x.ops) (fun Z _ _ hp => by
    obtain ⟨A, n, c, e, hsl⟩ := hp
    simp only [List.cons.injEq, Value.slice.injEq] at e
    obtain ⟨_, _, _, _, _, ⟨rfl, rfl, rfl⟩, _⟩ := e
    exact hsl)
  exact ⟨b, off, A', n', c2, he.1, h3.perm (List.Perm.swap _ _ _)⟩

/-! Reading. -/
abbrev St := List UInt8 × Int
def rNum (st : St) : Int × St := if st.2 = 0 then (match getN st.1 with | some (n, k) => (n, (st.1.drop k, 0)) | none => (0, (st.1, 2))) else (0, st)
def rFail (st : St) (e : Int) : St := if st.2 = 0 then (st.1, e) else st
def rText (most : Int) (st : St) : ByteArray × St :=
  let q := rNum st
  if q.2.2 ≠ 0 then (⟨#[]⟩, q.2)
  else if q.1 > q.2.1.length ∨ okText (q.2.1.take q.1.toNat) = false then (⟨#[]⟩, (q.2.1, 2))
  else if q.1 > most then (⟨#[]⟩, (q.2.1, 3))
  else (⟨(q.2.1.take q.1.toNat).toArray⟩, (q.2.1.drop q.1.toNat, 0))
def rFlag (st : St) : Bool × St := let q := rNum st; (decide (q.1 = 1), if q.1 > 1 then rFail q.2 2 else q.2)
def rMany (most : Int) (st : St) : Int × St := let q := rNum st; if q.1 > most then (0, rFail q.2 3) else q
def rComp (st : St) : Comp × St := let a := rNum st; let b := rNum a.2; let c := rText 8000 b.2; (⟨a.1, b.1, c.1⟩, c.2)
def rList {α : Type} (f : St → α × St) : Nat → St → List α × St
  | 0, st => ([], st)
  | k + 1, st => let a := f st; let r := rList f k a.2; (a.1 :: r.1, r.2)
def rAll {α : Type} (f : St → α × St) (most : Int) (st : St) : List α × St :=
  let q := rMany most st
  let r := rList f q.1.toNat q.2
  if r.2.2 ≠ 0 then ([], r.2) else r
def rComps (st : St) : List Comp × St := rAll rComp 100 st
def rNod (st : St) : Nod × St := let a := rNum st; let b := rNum a.2; let c := rText 100 b.2; let d := rFlag c.2; let e := rText 8000 d.2; (⟨a.1, b.1, c.1, d.1, e.1⟩, e.2)
def rNods (st : St) : List Nod × St := rAll rNod 100 st
def rActn (st : St) : Actn × St := let a := rNum st; let b := rNum a.2; let c := rNum b.2; let d := rText 100 c.2; let e := rFlag d.2; let f := rComps e.2; (⟨a.1, b.1, c.1, d.1, e.1, f.1⟩, f.2)
def rActns (st : St) : List Actn × St := rAll rActn 20 st

theorem getR_some : ∀ (bs : List UInt8) (n : Int) (k : Nat) (m : Int) (u : Nat), getR n bs k = some (m, u) → k < u ∧ u ≤ k + bs.length ∧ fits m = true
  | [], n, k, m, u, h => by simp [getR] at h
  | c :: r, n, k, m, u, h => by
    rw [getR] at h
    split at h
    · simp at h
    · split at h
      · split at h
        · rename_i hf
          simp only [Option.some.injEq, Prod.mk.injEq] at h
          obtain ⟨rfl, rfl⟩ := h
          exact ⟨by omega, by simp, hf⟩
        · simp at h
      · have := getR_some r _ _ _ _ h
        simp only [List.length_cons]
        exact ⟨by omega, by omega, this.2.2⟩
theorem getN_some {bs : List UInt8} {m : Int} {u : Nat} (h : getN bs = some (m, u)) : 0 < u ∧ u ≤ bs.length ∧ 0 ≤ m ∧ m ≤ 1099511627776 := by
  obtain ⟨h1, h2, h3⟩ := getR_some _ _ _ _ _ h
  simp [fits] at h3
  omega
theorem rNum_val (st : St) : 0 ≤ (rNum st).1 ∧ (rNum st).1 ≤ 1099511627776 := by
  unfold rNum
  split
  · split
    · rename_i h; have := getN_some h; simp only; omega
    · simp
  · simp
theorem rMany_val (most : Int) (h : 0 ≤ most) (st : St) : 0 ≤ (rMany most st).1 ∧ (rMany most st).1 ≤ most := by
  have := rNum_val st
  unfold rMany
  simp only
  split
  · simp only; omega
  · omega
theorem rText_len {most : Int} (h : 0 ≤ most) (st : St) : (rText most st).1.size ≤ most.toNat := by
  have := rNum_val st
  unfold rText
  simp only
  repeat' split
  · exact Nat.zero_le _
  · exact Nat.zero_le _
  · exact Nat.zero_le _
  · simp only [List.size_toByteArray, ByteArray.size, List.size_toArray, List.length_take]; omega
theorem size_mk (l : List UInt8) : (⟨l.toArray⟩ : ByteArray).size = l.length := by simp [ByteArray.size]
theorem rText_1 {st : St} {n e most : Int} {bs : List UInt8} (hq : rNum st = (n, bs, e)) (he : e ≠ 0) : rText most st = (⟨#[]⟩, (bs, e)) := by simp [rText, hq, he]
theorem rText_2 {st : St} {m : Nat} {most : Int} {bs : List UInt8} (hq : rNum st = ((m : Int), bs, 0)) (h : (m : Int) > bs.length ∨ okText (bs.take m) = false) : rText most st = (⟨#[]⟩, (bs, 2)) := by
  simp only [rText, hq]; rw [if_neg (by simp), if_pos (by simpa using h)]
theorem rText_3 {st : St} {m : Nat} {most : Int} {bs : List UInt8} (hq : rNum st = ((m : Int), bs, 0)) (h : ¬ (m : Int) > bs.length) (h1 : okText (bs.take m) = true) (h2 : (m : Int) > most) : rText most st = (⟨#[]⟩, (bs, 3)) := by
  simp only [rText, hq]; rw [if_neg (by simp), if_neg (by simp only [Int.toNat_natCast, h1]; simp; omega), if_pos h2]
theorem rText_4 {st : St} {m : Nat} {most : Int} {bs : List UInt8} (hq : rNum st = ((m : Int), bs, 0)) (h : ¬ (m : Int) > bs.length) (h1 : okText (bs.take m) = true) (h2 : ¬ (m : Int) > most) : rText most st = (⟨(bs.take m).toArray⟩, (bs.drop m, 0)) := by
  simp only [rText, hq]; rw [if_neg (by simp), if_neg (by simp only [Int.toNat_natCast, h1]; simp; omega), if_neg h2]; simp
/-! Behind an error nothing turns. -/
theorem rNum_err {st : St} (h : st.2 ≠ 0) : rNum st = (0, st) := by simp [rNum, h]
theorem rFail_err {st : St} (h : st.2 ≠ 0) (e : Int) : rFail st e = st := by simp [rFail, h]
theorem rText_err {st : St} (h : st.2 ≠ 0) (m : Int) : (rText m st).2 = st := by simp [rText, rNum_err h, h]
theorem rFlag_err {st : St} (h : st.2 ≠ 0) : (rFlag st).2 = st := by simp [rFlag, rNum_err h]
theorem rMany_err {st : St} (h : st.2 ≠ 0) {m : Int} (hm : 0 ≤ m) : rMany m st = (0, st) := by
  simp only [rMany, rNum_err h]; rw [if_neg (by simp; omega)]
theorem rList_err {α : Type} {f : St → α × St} (hf : ∀ st : St, st.2 ≠ 0 → (f st).2 = st) : ∀ (k : Nat) (st : St), st.2 ≠ 0 → (rList f k st).2 = st
  | 0, st, h => rfl
  | k + 1, st, h => by simp only [rList, hf st h, rList_err hf k st h]
theorem rComp_err {st : St} (h : st.2 ≠ 0) : (rComp st).2 = st := by simp [rComp, rNum_err h, rText_err h]
theorem rAll_err {α : Type} {f : St → α × St} {m : Int} (hm : 0 ≤ m) {st : St} (h : st.2 ≠ 0) : rAll f m st = ([], st) := by
  simp [rAll, rMany_err h hm, rList, h]
theorem rNod_err {st : St} (h : st.2 ≠ 0) : (rNod st).2 = st := by simp [rNod, rNum_err h, rText_err h, rFlag_err h]
theorem rActn_err {st : St} (h : st.2 ≠ 0) : (rActn st).2 = st := by simp [rActn, rNum_err h, rText_err h, rFlag_err h, rComps, rAll_err (by decide : (0 : Int) ≤ 100) h]
theorem rList_len {α : Type} (f : St → α × St) : ∀ (k : Nat) (st : St), (rList f k st).1.length = k
  | 0, st => rfl
  | k + 1, st => by simp [rList, rList_len f k]
/-- One more. -/
theorem rList_snoc {α : Type} (f : St → α × St) : ∀ (k : Nat) (st : St), rList f (k + 1) st = ((rList f k st).1 ++ [(f (rList f k st).2).1], (f (rList f k st).2).2)
  | 0, st => rfl
  | k + 1, st => by
    have := rList_snoc f k (f st).2
    rw [rList]
    simp only [this]
    rfl
theorem rAll_at {α : Type} {f : St → α × St} {most : Int} {st s1 : St} {m : Nat} (hm : (rMany most st).1 = m) (hs : (rMany most st).2 = s1) : rAll f most st = if (rList f m s1).2.2 = 0 then rList f m s1 else ([], (rList f m s1).2) := by
  simp only [rAll, hm, hs, Int.toNat_natCast, ne_eq, ite_not]
theorem rList_stop {α : Type} {f : St → α × St} (hf : ∀ st : St, st.2 ≠ 0 → (f st).2 = st) {i : Nat} {s1 : St} (h : (rList f i s1).2.2 ≠ 0) : ∀ k, (rList f (i + k) s1).2 = (rList f i s1).2
  | 0 => rfl
  | k + 1 => by
    have ih := rList_stop hf h k
    rw [← Nat.add_assoc, rList_snoc]
    simp only
    rw [ih, hf _ h]
theorem rNum_ok {st : St} (h : (rNum st).1 ≠ 0) : (rNum st).2.2 = 0 := by
  unfold rNum at h ⊢
  by_cases h1 : st.2 = 0
  · rw [if_pos h1] at h ⊢
    cases h2 : getN st.1 with
    | none => rw [h2] at h; simp at h
    | some q => rfl
  · rw [if_neg h1] at h; simp at h
/-- The document's loop, which stops at an error. -/
theorem rAll_stop {α : Type} {f : St → α × St} (hf : ∀ st : St, st.2 ≠ 0 → (f st).2 = st) {most : Int} {st s1 : St} {m i : Nat} (hm : (rMany most st).1 = m) (hs : (rMany most st).2 = s1) (hi : i ≤ m) (he : (rList f i s1).2.2 ≠ 0) : rAll f most st = ([], (rList f i s1).2) := by
  have h1 := rList_stop hf he (m - i)
  rw [show i + (m - i) = m from by omega] at h1
  rw [rAll_at hm hs, h1, if_neg he]
/-! The reader's variable. -/
def Ch.rdr (p : Nat) (T : TypeId) (st : St) : Ch := .ex (Option Addr × Nat) fun x => .star (.blk p T [.slice x.1 st.1.length x.2, .int .i64 st.2]) (.rd kU8 (.slice x.1 st.1.length x.2) st.1)
variable {p : Nat} {T : TypeId} {st : St}
theorem Sep.rdr_open (h : Sep W w cs) (hk : Pick cs (.rdr p T st) r) : ∃ A c, Sep W w (.blk p T [.slice A st.1.length c, .int .i64 st.2] :: .rd kU8 (.slice A st.1.length c) st.1 :: r) := by
  obtain ⟨x, h⟩ := (h.pick hk).open_
  exact ⟨x.1, x.2, h.split⟩
theorem Sep.rdr_shut {A : Option Addr} {n c : Nat} {e : Int} {bs : List UInt8} {r' : List Ch} (h : Sep W w cs) (hk : Pick cs (.blk p T [.slice A n c, .int .i64 e]) r) (hk2 : Pick r (.rd kU8 (.slice A n c) bs) r') : Sep W w (.rdr p T (bs, e) :: r') := by
  obtain ⟨rfl, _⟩ := (h.pick hk).rd_shape (.there hk2)
  refine Sep.pack (A, c) (Sep.join ?_)
  exact (h.pick hk).perm (hk2.perm.cons _)
end
end Go.Proofs.YtnkcmpmcmkljnaaDoor
