/- Tests, loops, jumps. -/
import Derived.Test.YtnkcmpmcmkljnaaDoorApp
set_option linter.unusedVariables false
set_option linter.unusedSimpArgs false
namespace Go.Proofs.YtnkcmpmcmkljnaaDoor
open Go.RowKit

section
variable {P : Program} {a : Act} {w : World} {N : Nat} {l : List (Nat × Value)} {x : Operand} {c1 c2 c rest : Code} {Q : Exit → Act → World → Prop} {t : Bool}

theorem cSplit (ha : Has a N l) (hx : ev l x = some (.bool t)) (ht : t = true → c1.wp P Q a w) (hf : t = false → c2.wp P Q a w) : (Code.cond x c1 c2).wp P Q a w :=
  wp_cond_split (ha.ev hx) ht hf
theorem cTrue (ha : Has a N l) (hx : ev l x = some (.bool true)) (ht : c1.wp P Q a w) : (Code.cond x c1 c2).wp P Q a w := wp_cond (ha.ev hx) ht
theorem cFalse (ha : Has a N l) (hx : ev l x = some (.bool false)) (hf : c2.wp P Q a w) : (Code.cond x c1 c2).wp P Q a w := wp_cond (ha.ev hx) hf
/-- A test on a comparison: the comparison itself is handed on. -/
theorem cDec {p : Prop} [Decidable p] (ha : Has a N l) (hx : ev l x = some (.bool (decide p))) (ht : p → c1.wp P Q a w) (hf : ¬ p → c2.wp P Q a w) : (Code.cond x c1 c2).wp P Q a w :=
  wp_cond_split (ha.ev hx) (fun h => ht (of_decide_eq_true h)) (fun h => hf (of_decide_eq_false h))
theorem cNDec {p : Prop} [Decidable p] (ha : Has a N l) (hx : ev l x = some (.bool (!decide p))) (ht : ¬ p → c1.wp P Q a w) (hf : p → c2.wp P Q a w) : (Code.cond x c1 c2).wp P Q a w :=
  wp_cond_split (ha.ev hx) (fun h => ht (of_decide_eq_false (by simpa using h))) (fun h => hf (of_decide_eq_true (by simpa using h)))

/-- What stands behind a statement, whatever way was gone through it. -/
theorem cutC {s : Code} (I : Act → World → Prop) (h : s.wp P (fun e a w => e = .normal ∧ I a w) a w) (k : ∀ a w, I a w → Q .normal a w) : s.wp P Q a w :=
  wp_mono h fun e a w ⟨he, hi⟩ => he ▸ k a w hi
theorem gSplit {b : Bool} {p : Prop} {t : Nat} (ha : Has a N l) (hv : lk l t = some (.bool b)) (hf : b = false → p) (ht : b = true → p) : p := by
  cases b
  · exact hf rfl
  · exact ht rfl
theorem gDec {p q : Prop} [Decidable q] {t : Nat} (ha : Has a N l) (hv : lk l t = some (.bool (decide q))) (hf : decide q = false → ¬ q → p) (ht : decide q = true → q → p) : p := by
  by_cases h : q
  · exact ht (decide_eq_true h) h
  · exact hf (decide_eq_false h) h
theorem has0 (ha : Has a N l) : Has a N [] := ha.nil
theorem has1 {t1 : Nat} {v1 : Value} (ha : Has a N l) (h1 : lk l t1 = some v1) : Has a N [(t1, v1)] := ha.cons ha.nil h1
theorem has2 {t1 t2 : Nat} {v1 v2 : Value} (ha : Has a N l) (h1 : lk l t1 = some v1) (h2 : lk l t2 = some v2) : Has a N [(t1, v1), (t2, v2)] := ha.cons (has1 ha h2) h1
theorem has3 {t1 t2 t3 : Nat} {v1 v2 v3 : Value} (ha : Has a N l) (h1 : lk l t1 = some v1) (h2 : lk l t2 = some v2) (h3 : lk l t3 = some v3) : Has a N [(t1, v1), (t2, v2), (t3, v3)] := ha.cons (has2 ha h2 h3) h1
theorem has4 {t1 t2 t3 t4 : Nat} {v1 v2 v3 v4 : Value} (ha : Has a N l) (h1 : lk l t1 = some v1) (h2 : lk l t2 = some v2) (h3 : lk l t3 = some v3) (h4 : lk l t4 = some v4) : Has a N [(t1, v1), (t2, v2), (t3, v3), (t4, v4)] := ha.cons (has3 ha h2 h3 h4) h1
theorem has5 {t1 t2 t3 t4 t5 : Nat} {v1 v2 v3 v4 v5 : Value} (ha : Has a N l) (h1 : lk l t1 = some v1) (h2 : lk l t2 = some v2) (h3 : lk l t3 = some v3) (h4 : lk l t4 = some v4) (h5 : lk l t5 = some v5) : Has a N [(t1, v1), (t2, v2), (t3, v3), (t4, v4), (t5, v5)] := ha.cons (has4 ha h2 h3 h4 h5) h1
theorem has6 {t1 t2 t3 t4 t5 t6 : Nat} {v1 v2 v3 v4 v5 v6 : Value} (ha : Has a N l) (h1 : lk l t1 = some v1) (h2 : lk l t2 = some v2) (h3 : lk l t3 = some v3) (h4 : lk l t4 = some v4) (h5 : lk l t5 = some v5) (h6 : lk l t6 = some v6) : Has a N [(t1, v1), (t2, v2), (t3, v3), (t4, v4), (t5, v5), (t6, v6)] := ha.cons (has5 ha h2 h3 h4 h5 h6) h1

theorem loopI {ι : Type} (I : ι → Act → World → Prop) (μ : ι → Nat) (i0 : ι) (h0 : I i0 a w)
    (round : ∀ i a w, I i a w → c.wp P (Exit.then (fun a' w' => ∃ i', I i' a' w' ∧ μ i' < μ i) Q) a w) : (Code.loop c).wp P Q a w := by
  intro b k cs
  have key : ∀ n i a w, μ i = n → I i a w →
      ∃ e a' w', Q e a' w' ∧ Arrives P (lone (b.at a (.code c :: .inLoop c :: k)) cs w) b k cs e a' w' := by
    intro n
    induction n using Nat.strongRecOn with
    | _ n ih =>
      intro i a w hn hI
      obtain ⟨e, a₁, w₁, hq, harr⟩ := round i a w hI b (.inLoop c :: k) cs
      cases e with
      | normal =>
        obtain ⟨i', hI₁, hlt⟩ := hq
        obtain ⟨e₂, a₂, w₂, hq₂, harr₂⟩ := ih (μ i') (hn ▸ hlt) i' a₁ w₁ rfl hI₁
        exact ⟨e₂, a₂, w₂, hq₂, .of_steps (Steps.trans harr (.one step_inLoop)) harr₂⟩
      | exit id => exact ⟨_, a₁, w₁, hq, .pass (x := .inLoop c) rfl (fun _ _ => .inl (by simp)) harr⟩
      | goto l => exact ⟨_, a₁, w₁, hq, .pass (x := .inLoop c) rfl (fun _ _ => .inl (by simp)) harr⟩
      | ret => exact ⟨_, a₁, w₁, hq, .pass (x := .inLoop c) rfl (fun _ _ => .inl (by simp)) harr⟩
      | panic ch => exact ⟨_, a₁, w₁, hq, .pass (x := .inLoop c) rfl (fun _ _ => .inl (by simp)) harr⟩
      | outgrown => exact ⟨_, a₁, w₁, hq, .pass (x := .inLoop c) rfl (fun _ _ => .inl (by simp)) harr⟩
  obtain ⟨e, a', w', hq, harr⟩ := key _ i0 a w rfl h0
  exact ⟨e, a', w', hq, .of_steps (.one step_loop) harr⟩

theorem bT {p q : Prop} [Decidable p] [Decidable q] (h : p ↔ q) : some (Value.bool (decide p)) = some (.bool (decide q)) := congrArg (fun b => some (Value.bool b)) (decide_eq_decide.2 h)
theorem bF {q : Prop} [Decidable q] (h : ¬ q) : some (Value.bool false) = some (.bool (decide q)) := congrArg (fun b => some (Value.bool b)) (decide_eq_false h).symm
theorem bY {q : Prop} [Decidable q] (h : q) : some (Value.bool true) = some (.bool (decide q)) := congrArg (fun b => some (Value.bool b)) (decide_eq_true h).symm
theorem bN {b : Bool} {q : Prop} [Decidable q] (h : (!b) = true ↔ q) : some (Value.bool (!b)) = some (.bool (decide q)) := congrArg (fun b => some (Value.bool b)) (by rw [Bool.eq_iff_iff, h, decide_eq_true_eq])
theorem bB {b : Bool} {q : Prop} [Decidable q] (h : b = true ↔ q) : some (Value.bool b) = some (.bool (decide q)) := congrArg (fun b => some (Value.bool b)) (by rw [Bool.eq_iff_iff, h, decide_eq_true_eq])
theorem gThen {I : Act → World → Prop} {n : Nat} (h : Q (.goto n) a w) : Exit.then I Q (.goto n) a w := h
theorem gBlock {id n : Nat} (h : Q (.goto n) a w) : Exit.inBlock id Q (.goto n) a w := h
/-- Inside a scope: a jump to the label L (a loop's) is J; another jump goes on there, n of them at most. -/
def gx (P : Program) (c : Code) (L : Nat) (J : Act → World → Prop) (Q : Exit → Act → World → Prop) : Nat → Exit → Act → World → Prop
  | 0, .goto l, a, w => l = L ∧ J a w
  | n + 1, .goto l, a, w => if l = L then J a w else ∃ rest, findLabel c l = some rest ∧ rest.wp P (gx P c L J Q n) a w
  | _, .normal, a, w => Q .normal a w
  | _, .exit id, a, w => Q (.exit id) a w
  | _, .ret, a, w => Q .ret a w
  | _, .panic ch, a, w => Q (.panic ch) a w
  | _, .outgrown, a, w => Q .outgrown a w
theorem gxL {J : Act → World → Prop} {L n : Nat} (h : J a w) : gx P c L J Q n (.goto L) a w := by
  cases n with
  | zero => exact ⟨rfl, h⟩
  | succ n => simp only [gx, if_true]; exact h
theorem gxF {J : Act → World → Prop} {L n l : Nat} (hl : Nat.beq l L = false) (hf : findLabel c l = some rest) (h : rest.wp P (gx P c L J Q n) a w) : gx P c L J Q (n + 1) (.goto l) a w := by
  have : l ≠ L := by rintro rfl; simp at hl
  simp only [gx]
  rw [if_neg this]
  exact ⟨rest, hf, h⟩
theorem gx_passes {J : Act → World → Prop} {L : Nat} {b : Frame} {k : List Item} {cs : List Frame} {m : Machine}
    (again : ∀ a w, J a w → ∃ e a' w', Q e a' w' ∧ ∀ k' , gotoIn L (.inScope c :: k) = some k' → Arrives P (lone (b.at a k') cs w) b k cs e a' w')
    (hL : ∀ a w, J a w → ∃ rest, findLabel c L = some rest) :
    ∀ n (e : Exit) a w, gx P c L J Q n e a w → Arrives P m b (.inScope c :: k) cs e a w → ∃ e' a' w', Q e' a' w' ∧ Arrives P m b k cs e' a' w' := by
  intro n
  induction n with
  | zero =>
    intro e a w hq harr
    cases e with
    | normal => exact ⟨.normal, a, w, hq, Steps.trans harr (.one step_inScope)⟩
    | exit id => exact ⟨.exit id, a, w, hq, fun k' hk => harr k' (by simp [exitTo, hk])⟩
    | goto l =>
      obtain ⟨rfl, hJ⟩ := hq
      obtain ⟨rest, hf⟩ := hL a w hJ
      obtain ⟨e, a', w', hq', h'⟩ := again a w hJ
      have hg : gotoIn l (.inScope c :: k) = some (.code rest :: .inScope c :: k) := by simp [gotoIn, hf]
      exact ⟨e, a', w', hq', .of_steps (harr _ hg) (h' _ hg)⟩
    | ret => exact ⟨_, a, w, hq, harr⟩
    | panic ch => exact ⟨_, a, w, hq, harr⟩
    | outgrown => exact ⟨_, a, w, hq, harr⟩
  | succ n ih =>
    intro e a w hq harr
    cases e with
    | normal => exact ⟨.normal, a, w, hq, Steps.trans harr (.one step_inScope)⟩
    | exit id => exact ⟨.exit id, a, w, hq, fun k' hk => harr k' (by simp [exitTo, hk])⟩
    | goto l =>
      simp only [gx] at hq
      split at hq
      · rename_i hl
        subst hl
        obtain ⟨rest, hf⟩ := hL a w hq
        obtain ⟨e, a', w', hq', h'⟩ := again a w hq
        have hg : gotoIn l (.inScope c :: k) = some (.code rest :: .inScope c :: k) := by simp [gotoIn, hf]
        exact ⟨e, a', w', hq', .of_steps (harr _ hg) (h' _ hg)⟩
      · obtain ⟨rest, hf, hr⟩ := hq
        have hg : gotoIn l (.inScope c :: k) = some (.code rest :: .inScope c :: k) := by simp [gotoIn, hf]
        obtain ⟨e1, a1, w1, hq1, harr1⟩ := hr b (.inScope c :: k) cs
        exact ih e1 a1 w1 hq1 (.of_steps (harr _ hg) harr1)
    | ret => exact ⟨_, a, w, hq, harr⟩
    | panic ch => exact ⟨_, a, w, hq, harr⟩
    | outgrown => exact ⟨_, a, w, hq, harr⟩
/-- A scope with a loop by jumps to the label L (index i, measure), and jumps forward. -/
theorem scopeN {ι : Type} (L : Nat) (J : ι → Act → World → Prop) (μ : ι → Nat) (n : Nat)
    (first : c.wp P (gx P c L (fun a w => ∃ i, J i a w) Q n) a w)
    (pass : ∀ i a w, J i a w → ∃ rest, findLabel c L = some rest ∧ rest.wp P (gx P c L (fun a' w' => ∃ i', J i' a' w' ∧ μ i' < μ i) Q n) a w) : (Code.scope c).wp P Q a w := by
  intro b k cs
  have key : ∀ m i a w, μ i = m → J i a w → ∃ e a' w', Q e a' w' ∧ ∀ k', gotoIn L (.inScope c :: k) = some k' → Arrives P (lone (b.at a k') cs w) b k cs e a' w' := by
    intro m
    induction m using Nat.strongRecOn with
    | _ m ih =>
      intro i a w hm hJ
      obtain ⟨rest, hf, hr⟩ := pass i a w hJ
      have hg : gotoIn L (.inScope c :: k) = some (.code rest :: .inScope c :: k) := by simp [gotoIn, hf]
      obtain ⟨e1, a1, w1, hq1, harr1⟩ := hr b (.inScope c :: k) cs
      obtain ⟨e2, a2, w2, hq2, harr2⟩ := gx_passes (k := k) (fun a w ⟨i', hJ', hlt⟩ => ih _ (by omega) i' a w rfl hJ') (fun a w ⟨i', hJ', _⟩ => by obtain ⟨r, h, _⟩ := pass i' a w hJ'; exact ⟨r, h⟩) n e1 a1 w1 hq1 harr1
      refine ⟨e2, a2, w2, hq2, fun k' hk' => ?_⟩
      rw [hg] at hk'
      cases hk'
      exact harr2
  obtain ⟨e1, a1, w1, hq1, harr1⟩ := first b (.inScope c :: k) cs
  exact gx_passes (k := k) (fun a w ⟨i, hJ⟩ => key _ i a w rfl hJ) (fun a w ⟨i', hJ'⟩ => by obtain ⟨r, h, _⟩ := pass i' a w hJ'; exact ⟨r, h⟩) n e1 a1 w1 hq1 (.of_steps (.one step_scope) harr1)
theorem gx_none {J : Act → World → Prop} {L : Nat} : ∀ (n : Nat) (e : Exit) (a : Act) (w : World), gx P c L (fun _ _ => False) Q n e a w → gx P c L J Q n e a w := by
  intro n
  induction n with
  | zero => intro e a w h; cases e <;> first | exact h | (exact h.2.elim)
  | succ n ih =>
    intro e a w h
    cases e with
    | goto l =>
      simp only [gx] at h ⊢
      split at h
      · exact h.elim
      · rename_i hl
        rw [if_neg hl]
        obtain ⟨rest, hf, hr⟩ := h
        exact ⟨rest, hf, Code.wp_mono (fun e a w h => ih e a w h) hr⟩
    | normal => exact h
    | exit id => exact h
    | ret => exact h
    | panic ch => exact h
    | outgrown => exact h
/-- Jumps forward alone. -/
theorem scopeF (n : Nat) (L : Nat) (first : c.wp P (gx P c L (fun _ _ => False) Q n) a w) : (Code.scope c).wp P Q a w :=
  scopeN (ι := Empty) L (fun i _ _ => i.elim) (fun i => i.elim) n (Code.wp_mono (fun e a w h => gx_none n e a w h) first) (fun i => i.elim)
end
end Go.Proofs.YtnkcmpmcmkljnaaDoor
