/- Items written one behind the other are read one behind the other. Plain. -/
import Derived.Test.YtnkcmpmcmkljnaaDoorBack
set_option linter.unusedVariables false
set_option linter.unusedSimpArgs false
namespace Go.Proofs.YtnkcmpmcmkljnaaDoor
open Go.Lib
/-- An item that the law doesn't pass over. -/
def fair (x : Item) : Prop := x.comps.length ≤ 100 ∧ x.acts.length ≤ 20 ∧ x.nods.length ≤ 100 ∧ (∀ a ∈ x.acts, a.name.size ≤ 100 ∧ a.ops.length ≤ 100) ∧ ∀ d ∈ x.nods, d.name.size ≤ 100
/-- The item is read off l, m is left. -/
def takes (x : Item) (l m : List UInt8) : Prop :=
  (x.kind = 1 → rNum (l, 0) = (x.n, (m, 0))) ∧ (x.kind = 2 → rText 3000 (l, 0) = (x.text, (m, 0))) ∧ (x.kind = 3 → rFlag (l, 0) = (x.flag, (m, 0))) ∧
  (x.kind = 4 → rComps (l, 0) = (x.comps, (m, 0))) ∧ (x.kind = 5 → rActns (l, 0) = (x.acts, (m, 0))) ∧ (x.kind = 6 → rNods (l, 0) = (x.nods, (m, 0))) ∧
  (x.kind ≠ 1 → x.kind ≠ 2 → x.kind ≠ 3 → x.kind ≠ 4 → x.kind ≠ 5 → x.kind ≠ 6 → l = m)
def chain : List Item → List UInt8 → Prop
  | [], l => l = []
  | x :: r, l => ∃ m, takes x l m ∧ chain r m
theorem sum_mem {α : Type} (f : α → Nat) {l : List α} {x : α} (h : x ∈ l) : f x ≤ (l.map f).sum := by
  induction l with
  | nil => cases h
  | cons y r ih =>
    simp only [List.map_cons, List.sum_cons]
    rcases List.mem_cons.1 h with rfl | h
    · omega
    · have := ih h; omega
theorem item_back (x : Item) (hf : fair x) (ht : tItem x ≤ 3000) (st : Wt) (h : (wItem st x).2 = false) : st.2 = false ∧ ∃ l, (wItem st x).1 = st.1 ++ l ∧ ∀ rest, takes x (l ++ rest) rest := by
  obtain ⟨f1, f2, f3, f4, f5⟩ := hf
  have hC : ∀ y ∈ x.comps, y.text.size ≤ 8000 := fun y hy => by
    have := sum_mem (fun x : Comp => x.text.size + 2) hy; unfold tItem tComps at ht; omega
  have hA : ∀ a ∈ x.acts, a.name.size ≤ 100 ∧ a.ops.length ≤ 100 ∧ ∀ y ∈ a.ops, y.text.size ≤ 8000 := fun a ha => by
    refine ⟨(f4 a ha).1, (f4 a ha).2, fun y hy => ?_⟩
    have h1 := sum_mem (fun x : Actn => x.name.size + tComps x.ops + 3) ha
    have h2 := sum_mem (fun x : Comp => x.text.size + 2) hy
    simp only [tComps] at h1; unfold tItem tActns at ht; simp only [tComps] at ht; omega
  have hN : ∀ d ∈ x.nods, d.name.size ≤ 100 ∧ d.text.size ≤ 8000 := fun d hd => by
    have := sum_mem (fun x : Nod => x.name.size + x.text.size + 3) hd; unfold tItem tNods at ht; exact ⟨f5 d hd, by omega⟩
  unfold wItem at h ⊢
  by_cases k1 : x.kind = 1
  · rw [if_pos k1] at h ⊢
    obtain ⟨g1, l, g2, g3⟩ := back_num x.n st h
    exact ⟨g1, l, g2, fun rest => by unfold takes; simp [k1, g3]⟩
  rw [if_neg k1] at h ⊢
  by_cases k2 : x.kind = 2
  · rw [if_pos k2] at h ⊢
    obtain ⟨g1, l, g2, g3⟩ := back_text 3000 x.text (by unfold tItem at ht; omega) st h
    have g4 : ∀ rest, rText 3000 (l ++ rest, 0) = (x.text, (rest, 0)) := g3
    exact ⟨g1, l, g2, fun rest => by unfold takes; simp [k2, g4]⟩
  rw [if_neg k2] at h ⊢
  by_cases k3 : x.kind = 3
  · rw [if_pos k3] at h ⊢
    obtain ⟨g1, l, g2, g3⟩ := back_flag x.flag st h
    exact ⟨g1, l, g2, fun rest => by unfold takes; simp [k3, g3]⟩
  rw [if_neg k3] at h ⊢
  by_cases k4 : x.kind = 4
  · rw [if_pos k4] at h ⊢
    obtain ⟨g1, l, g2, g3⟩ := back_comps x.comps f1 hC st h
    exact ⟨g1, l, g2, fun rest => by unfold takes; simp [k4, g3]⟩
  rw [if_neg k4] at h ⊢
  by_cases k5 : x.kind = 5
  · rw [if_pos k5] at h ⊢
    obtain ⟨g1, l, g2, g3⟩ := back_actns x.acts f2 hA st h
    exact ⟨g1, l, g2, fun rest => by unfold takes; simp [k5, g3]⟩
  rw [if_neg k5] at h ⊢
  by_cases k6 : x.kind = 6
  · rw [if_pos k6] at h ⊢
    obtain ⟨g1, l, g2, g3⟩ := back_nods x.nods f3 hN st h
    exact ⟨g1, l, g2, fun rest => by unfold takes; simp [k6, g3]⟩
  rw [if_neg k6] at h ⊢
  exact ⟨h, [], by simp, fun rest => by unfold takes; simp [k1, k2, k3, k4, k5, k6]⟩
theorem chain_back : ∀ (xs : List Item) (st : Wt), (∀ x ∈ xs, fair x ∧ tItem x ≤ 3000) → (xs.foldl wItem st).2 = false → st.2 = false ∧ ∃ l, (xs.foldl wItem st).1 = st.1 ++ l ∧ chain xs l
  | [], st, _, h => ⟨h, [], by simp, rfl⟩
  | x :: r, st, hx, h => by
    obtain ⟨h1, l1, h2, h3⟩ := chain_back r (wItem st x) (fun y hy => hx y (by simp [hy])) h
    obtain ⟨h4, l2, h5, h6⟩ := item_back x (hx x (by simp)).1 (hx x (by simp)).2 st h1
    exact ⟨h4, l2 ++ l1, by rw [List.foldl_cons, h2, h5, List.append_assoc], l1, h6 l1, h3⟩
/-- All that was written is read. -/
theorem chain_all {xs : List Item} (hf : ∀ x ∈ xs, fair x) (ht : tItems xs ≤ 3000) (h : (wItems xs).2 = false) : chain xs (wItems xs).1 := by
  obtain ⟨_, l, h2, h3⟩ := chain_back xs ([], false) (fun x hx => ⟨hf x hx, Nat.le_trans (sum_mem tItem hx) ht⟩) h
  have : (wItems xs).1 = l := by simpa [wItems] using h2
  rw [this]; exact h3
end Go.Proofs.YtnkcmpmcmkljnaaDoor
