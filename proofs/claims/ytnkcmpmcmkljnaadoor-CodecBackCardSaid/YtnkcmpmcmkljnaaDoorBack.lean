/- What was written is read back. Plain. -/
import Derived.Test.YtnkcmpmcmkljnaaDoorWrites
set_option linter.unusedVariables false
set_option linter.unusedSimpArgs false
namespace Go.Proofs.YtnkcmpmcmkljnaaDoor
open Go.Lib
/-- x is written by f, and g reads it. -/
def Back {α : Type} (f : Wt → α → Wt) (g : St → α × St) (x : α) : Prop := ∀ st, (f st x).2 = false → st.2 = false ∧ ∃ l, (f st x).1 = st.1 ++ l ∧ ∀ rest, g (l ++ rest, 0) = (x, (rest, 0))
theorem back_num (n : Int) : Back wNum rNum n := fun st h => by
  simp only [wNum, Bool.or_eq_false_iff] at h
  have hf : fits n = true := by simpa using h.2
  have hf' : 0 ≤ n ∧ n ≤ 1099511627776 := by simpa [fits] using hf
  obtain ⟨m, rfl⟩ := Int.eq_ofNat_of_zero_le hf'.1
  exact ⟨h.1, put m, rfl, fun rest => rNum_put (by omega) rest⟩
theorem back_text (most : Nat) (s : ByteArray) (hs : s.size ≤ most) : Back wText (rText most) s := fun st h => by
  have h1 : (wNum (st.1, st.2 || !okText s.data.toList) s.size).2 = false := h
  obtain ⟨h2, l, h3, h4⟩ := back_num s.size _ h1
  simp only [Bool.or_eq_false_iff] at h2
  have hok : okText s.data.toList = true := by simpa using h2.2
  have hlen : s.data.toList.length = s.size := by simp
  refine ⟨h2.1, l ++ s.data.toList, ?_, fun rest => ?_⟩
  · have : (wText st s).1 = (wNum (st.1, st.2 || !okText s.data.toList) s.size).1 ++ s.data.toList := rfl
    rw [this, h3, List.append_assoc]
  · rw [List.append_assoc]
    have ht : (s.data.toList ++ rest).take s.size = s.data.toList := by rw [← hlen]; exact List.take_left ..
    have hd : (s.data.toList ++ rest).drop s.size = rest := by rw [← hlen]; exact List.drop_left ..
    rw [rText_4 (h4 _) (by simp only [List.length_append, hlen]; omega) (by rw [ht]; exact hok) (by omega), ht, hd]
theorem back_flag (b : Bool) : Back wFlag rFlag b := fun st h => by
  obtain ⟨h2, l, h3, h4⟩ := back_num (if b then 1 else 0) st h
  refine ⟨h2, l, h3, fun rest => ?_⟩
  simp only [rFlag, h4]
  cases b <;> simp
theorem back_fold {α : Type} {f : Wt → α → Wt} {g : St → α × St} : ∀ (l : List α) (st : Wt), (∀ x ∈ l, Back f g x) → (l.foldl f st).2 = false → st.2 = false ∧ ∃ bs, (l.foldl f st).1 = st.1 ++ bs ∧ ∀ rest, rList g l.length (bs ++ rest, 0) = (l, (rest, 0))
  | [], st, _, h => ⟨h, [], by simp, fun rest => rfl⟩
  | x :: r, st, hb, h => by
    obtain ⟨h1, b1, h2, h3⟩ := back_fold r (f st x) (fun y hy => hb y (by simp [hy])) h
    obtain ⟨h4, b2, h5, h6⟩ := hb x (by simp) st h1
    refine ⟨h4, b2 ++ b1, by rw [List.foldl_cons, h2, h5, List.append_assoc], fun rest => ?_⟩
    simp only [List.length_cons, rList, List.append_assoc, h6, h3]
theorem back_all {α : Type} {f : Wt → α → Wt} {g : St → α × St} {most : Nat} {l : List α} (hl : l.length ≤ most) (hb : ∀ x ∈ l, Back f g x) : Back (fun st l => l.foldl f (wNum st l.length)) (rAll g most) l := fun st h => by
  obtain ⟨h1, b1, h2, h3⟩ := back_fold l _ hb h
  obtain ⟨h4, b2, h5, h6⟩ := back_num l.length st h1
  refine ⟨h4, b2 ++ b1, by simp only [h2, h5, List.append_assoc], fun rest => ?_⟩
  have hM : rMany most (b2 ++ (b1 ++ rest), 0) = ((l.length : Int), (b1 ++ rest, 0)) := by
    simp only [rMany, h6]; rw [if_neg (by omega)]
  rw [List.append_assoc, rAll_at (m := l.length) (by rw [hM]) (by rw [hM]), h3, if_pos rfl]
theorem back_comp (x : Comp) (h : x.text.size ≤ 8000) : Back wComp rComp x := fun st hb => by
  obtain ⟨h3, l3, e3, r3⟩ := back_text 8000 x.text h _ hb
  obtain ⟨h2, l2, e2, r2⟩ := back_num x.n _ h3
  obtain ⟨h1, l1, e1, r1⟩ := back_num x.kind _ h2
  refine ⟨h1, l1 ++ l2 ++ l3, by show (wText (wNum (wNum st x.kind) x.n) x.text).1 = _; rw [e3, e2, e1]; simp, fun rest => ?_⟩
  have r3' : ∀ rest, rText 8000 (l3 ++ rest, 0) = (x.text, (rest, 0)) := r3
  simp only [rComp, List.append_assoc, r1, r2, r3']
theorem back_comps (l : List Comp) (hl : l.length ≤ 100) (h : ∀ x ∈ l, x.text.size ≤ 8000) : Back wComps rComps l := back_all (most := 100) hl fun x hx => back_comp x (h x hx)
theorem back_nod (x : Nod) (hn : x.name.size ≤ 100) (h : x.text.size ≤ 8000) : Back wNod rNod x := fun st hb => by
  obtain ⟨h5, l5, e5, r5⟩ := back_text 8000 x.text h _ hb
  obtain ⟨h4, l4, e4, r4⟩ := back_flag x.dir _ h5
  obtain ⟨h3, l3, e3, r3⟩ := back_text 100 x.name hn _ h4
  obtain ⟨h2, l2, e2, r2⟩ := back_num x.parent _ h3
  obtain ⟨h1, l1, e1, r1⟩ := back_num x.id _ h2
  refine ⟨h1, l1 ++ l2 ++ l3 ++ l4 ++ l5, by show (wText (wFlag (wText (wNum (wNum st x.id) x.parent) x.name) x.dir) x.text).1 = _; rw [e5, e4, e3, e2, e1]; simp, fun rest => ?_⟩
  have r3' : ∀ rest, rText 100 (l3 ++ rest, 0) = (x.name, (rest, 0)) := r3
  have r5' : ∀ rest, rText 8000 (l5 ++ rest, 0) = (x.text, (rest, 0)) := r5
  simp only [rNod, List.append_assoc, r1, r2, r3', r4, r5']
theorem back_nods (l : List Nod) (hl : l.length ≤ 100) (h : ∀ x ∈ l, x.name.size ≤ 100 ∧ x.text.size ≤ 8000) : Back wNods rNods l := back_all (most := 100) hl fun x hx => back_nod x (h x hx).1 (h x hx).2
theorem back_actn (x : Actn) (hn : x.name.size ≤ 100) (hl : x.ops.length ≤ 100) (h : ∀ y ∈ x.ops, y.text.size ≤ 8000) : Back wActn rActn x := fun st hb => by
  obtain ⟨h6, l6, e6, r6⟩ := back_comps x.ops hl h _ hb
  obtain ⟨h5, l5, e5, r5⟩ := back_flag x.dir _ h6
  obtain ⟨h4, l4, e4, r4⟩ := back_text 100 x.name hn _ h5
  obtain ⟨h3, l3, e3, r3⟩ := back_num x.parent _ h4
  obtain ⟨h2, l2, e2, r2⟩ := back_num x.id _ h3
  obtain ⟨h1, l1, e1, r1⟩ := back_num x.kind _ h2
  refine ⟨h1, l1 ++ l2 ++ l3 ++ l4 ++ l5 ++ l6, by show (wComps (wFlag (wText (wNum (wNum (wNum st x.kind) x.id) x.parent) x.name) x.dir) x.ops).1 = _; rw [e6, e5, e4, e3, e2, e1]; simp, fun rest => ?_⟩
  have r4' : ∀ rest, rText 100 (l4 ++ rest, 0) = (x.name, (rest, 0)) := r4
  simp only [rActn, List.append_assoc, r1, r2, r3, r4', r5, r6]
theorem back_actns (l : List Actn) (hl : l.length ≤ 20) (h : ∀ x ∈ l, x.name.size ≤ 100 ∧ x.ops.length ≤ 100 ∧ ∀ y ∈ x.ops, y.text.size ≤ 8000) : Back wActns rActns l := back_all (most := 20) hl fun x hx => back_actn x (h x hx).1 (h x hx).2.1 (h x hx).2.2
end Go.Proofs.YtnkcmpmcmkljnaaDoor
