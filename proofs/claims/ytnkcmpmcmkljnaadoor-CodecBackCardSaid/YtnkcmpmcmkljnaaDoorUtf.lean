/- Text: the reference's points, and the library's check. Plain. -/
import Derived.Lib.ValidLaws
set_option linter.unusedVariables false
set_option linter.unusedSimpArgs false
namespace Go.Proofs.YtnkcmpmcmkljnaaDoor
open Go.Lib

/-- The first point of a text that isn't empty: its number and width; (0, 0): no text. -/
def pointL (l : List UInt8) : Nat × Nat := if (l.getD 0 0).toNat = 0 ∨ ((decodeL l).1 = 65533 ∧ (decodeL l).2 = 1) then (0, 0) else decodeL l
def pointsL : Nat → List UInt8 → Option (List Nat)
  | 0, _ => some []
  | n + 1, l => if l = [] then some [] else if (pointL l).2 = 0 then none else (pointsL n (l.drop (pointL l).2)).map ((pointL l).1 :: ·)
/-- A text that may be written. -/
def okText (l : List UInt8) : Bool := validD l && !(l.contains 0)

theorem pointL_bad {l : List UInt8} (h : (l.getD 0 0).toNat = 0 ∨ ((decodeL l).1 = 65533 ∧ (decodeL l).2 = 1)) : pointL l = (0, 0) := if_pos h
theorem pointL_good {l : List UInt8} (h : ¬ ((l.getD 0 0).toNat = 0 ∨ ((decodeL l).1 = 65533 ∧ (decodeL l).2 = 1))) : pointL l = decodeL l := if_neg h
theorem pointL_fst (l : List UInt8) : (pointL l).1 ≤ 1114111 := by
  unfold pointL
  split
  · simp
  · exact decodeL_rune l
theorem decodeN_width (n b0 b1 b2 b3 : Nat) (hn : 1 ≤ n) : (decodeN n b0 b1 b2 b3).2 ≤ n := by
  unfold decodeN
  repeat' split
  all_goals simp only <;> omega
theorem pointL_width {l : List UInt8} (h : l ≠ []) : (pointL l).2 ≤ l.length := by
  unfold pointL
  split
  · simp
  · rw [decodeL_N]; exact decodeN_width _ _ _ _ _ (List.length_pos_iff.2 h)

/-! Zero bytes stand by themselves. -/
theorem dec_zero (n b0 b1 b2 b3 : Nat) (h0 : b0 ≠ 0) (hg : ¬ ((decodeN n b0 b1 b2 b3).1 = 65533 ∧ (decodeN n b0 b1 b2 b3).2 = 1)) :
    (decodeN n b0 b1 b2 b3).2 = 1 ∨ ((decodeN n b0 b1 b2 b3).2 = 2 ∧ b1 ≠ 0) ∨ ((decodeN n b0 b1 b2 b3).2 = 3 ∧ b1 ≠ 0 ∧ b2 ≠ 0) ∨ ((decodeN n b0 b1 b2 b3).2 = 4 ∧ b1 ≠ 0 ∧ b2 ≠ 0 ∧ b3 ≠ 0) := by
  revert hg
  unfold decodeN
  repeat' split
  all_goals intro hg; first | exact .inl rfl | exact .inr (.inl ⟨rfl, by omega⟩) | exact .inr (.inr (.inl ⟨rfl, by omega, by omega⟩)) | exact .inr (.inr (.inr ⟨rfl, by omega, by omega, by omega⟩))
theorem u8_zero {b : UInt8} : b.toNat = 0 ↔ b = 0 := by
  constructor
  · intro h; exact UInt8.toNat_inj.1 h
  · rintro rfl; rfl
theorem contains_drop : ∀ (k : Nat) (l : List UInt8), (∀ i, i < k → l.getD i 1 ≠ 0) → l.contains 0 = (l.drop k).contains 0
  | 0, l, _ => by simp
  | k + 1, [], _ => by simp
  | k + 1, b :: t, h => by
    have h0 : b ≠ 0 := h 0 (by omega)
    have := contains_drop k t (fun i hi => by have := h (i + 1) (by omega); simpa using this)
    rw [List.drop_succ_cons, ← this, List.contains_cons]
    have : (0 == b) = false := by simpa using fun e => h0 e.symm
    rw [this, Bool.false_or]
theorem getD_ne {l : List UInt8} {i : Nat} (h : (l.getD i 0).toNat ≠ 0) : l.getD i 1 ≠ 0 := by
  intro e
  apply h
  rcases Nat.lt_or_ge i l.length with hi | hi
  · rw [List.getD_eq_getElem?_getD, List.getElem?_eq_getElem hi] at e ⊢
    simp only [Option.getD_some] at e ⊢
    rw [e]; rfl
  · rw [List.getD_eq_getElem?_getD, List.getElem?_eq_none hi] at e
    simp at e
theorem points_ok : ∀ (n : Nat) (l : List UInt8), l.length ≤ n → (pointsL n l).isSome = okText l
  | 0, l, h => by
    obtain rfl : l = [] := List.eq_nil_of_length_eq_zero (by omega)
    rfl
  | n + 1, l, h => by
    unfold pointsL
    by_cases hl : l = []
    · subst hl; rfl
    · rw [if_neg hl]
      unfold okText
      rw [validD_step l hl]
      have hpos := List.length_pos_iff.2 hl
      by_cases hz : (l.getD 0 0).toNat = 0
      · rw [pointL_bad (.inl hz)]
        have : l.contains 0 = true := by
          cases l with
          | nil => exact absurd rfl hl
          | cons b t =>
            have : b = 0 := u8_zero.1 (by simpa using hz)
            subst this
            simp
        rw [this]; simp
      · by_cases hd : (decodeL l).1 = 65533 ∧ (decodeL l).2 = 1
        · rw [pointL_bad (.inr hd), if_pos hd]
          simp
        · rw [pointL_good (by simp only [not_or]; exact ⟨hz, hd⟩), if_neg hd]
          have hw := decodeL_width l
          have h2 := pointL_width hl
          rw [pointL_good (by simp only [not_or]; exact ⟨hz, hd⟩)] at h2
          rw [if_neg (by omega)]
          have := points_ok n (l.drop (decodeL l).2) (by rw [List.length_drop]; omega)
          rw [Option.isSome_map, this]
          unfold okText
          have hc : l.contains 0 = (l.drop (decodeL l).2).contains 0 := by
            apply contains_drop
            rw [decodeL_N] at hd ⊢
            intro i hi
            have := dec_zero _ _ _ _ _ hz hd
            apply getD_ne
            match i with
            | 0 => exact hz
            | 1 => omega
            | 2 => omega
            | 3 => omega
            | i + 4 => omega
          rw [hc]

/-! The reference's way to a point. -/
def cont : List UInt8 → Nat → Nat → Option Nat
  | _, 0, c => some c
  | [], _ + 1, _ => none
  | x :: r, k + 1, c => if x.toNat / 64 = 2 then cont r k (c * 64 + x.toNat % 64) else none
/-- Of a first byte: the width, its part of the point, the least point of the width. -/
def lead (b : Nat) (z c m : Nat) : Prop := (194 ≤ b ∧ b < 224 ∧ z = 2 ∧ c = b % 32 ∧ m = 128) ∨ (224 ≤ b ∧ b < 240 ∧ z = 3 ∧ c = b % 16 ∧ m = 2048) ∨ (240 ≤ b ∧ b < 245 ∧ z = 4 ∧ c = b % 8 ∧ m = 65536)
theorem point_ascii {b : UInt8} {t : List UInt8} (h : 1 ≤ b.toNat ∧ b.toNat < 128) : pointL (b :: t) = (b.toNat, 1) := by
  rw [pointL_good, decodeL_ascii b t h.2]
  rw [decodeL_ascii b t h.2]
  simp
  omega
theorem point_none {b : UInt8} {t : List UInt8} (h : b.toNat = 0 ∨ (128 ≤ b.toNat ∧ b.toNat < 194) ∨ 245 ≤ b.toNat) : pointL (b :: t) = (0, 0) := by
  apply pointL_bad
  rcases h with h | h
  · exact .inl (by simpa using h)
  · right
    rw [decodeL_N, decodeN_bad]
    · simp
    · have := b.toNat_lt; simp; omega
theorem point_short {b : UInt8} {t : List UInt8} {z c m : Nat} (hl : lead b.toNat z c m) (h : (b :: t).length < z) : pointL (b :: t) = (0, 0) := by
  apply pointL_bad
  right
  rw [decodeL_N]
  simp only [List.length_cons] at h ⊢
  unfold lead at hl
  simp only [List.getD_cons_zero]
  generalize b.toNat = B at hl
  generalize ((b :: t).getD 1 0).toNat = B1
  generalize ((b :: t).getD 2 0).toNat = B2
  generalize ((b :: t).getD 3 0).toNat = B3
  generalize t.length = n at h
  unfold decodeN
  repeat' split
  all_goals first | exact ⟨rfl, rfl⟩ | (exfalso; omega)
theorem point_cont {b : UInt8} {t : List UInt8} {z c m : Nat} (hl : lead b.toNat z c m) (h : z ≤ (b :: t).length) :
    pointL (b :: t) = match cont t (z - 1) c with
      | none => (0, 0)
      | some p => if p < m ∨ (55296 ≤ p ∧ p < 57344) ∨ 1114111 < p then (0, 0) else (p, z) := by
  have key : (match cont t (z - 1) c with
      | none => (65533, 1)
      | some p => if p < m ∨ (55296 ≤ p ∧ p < 57344) ∨ 1114111 < p then (65533, 1) else (p, z)) = decodeL (b :: t) := by
    rw [decodeL_N]
    simp only [List.length_cons] at h ⊢
    unfold lead at hl
    have hb := b.toNat_lt
    rcases hl with ⟨h1, h2, rfl, rfl, rfl⟩ | ⟨h1, h2, rfl, rfl, rfl⟩ | ⟨h1, h2, rfl, rfl, rfl⟩
    · match t, h with
      | x :: r, h =>
        have hx := x.toNat_lt
        simp only [cont, List.length_cons, List.getD_cons_zero, List.getD_cons_succ, decodeN]
        repeat' split
        all_goals first | rfl | (exfalso; simp at *; omega) | (simp at *; omega)
    · match t, h with
      | x :: y :: r, h =>
        have hx := x.toNat_lt
        have hy := y.toNat_lt
        simp only [cont, List.length_cons, List.getD_cons_zero, List.getD_cons_succ, decodeN]
        repeat' split
        all_goals first | rfl | (exfalso; simp at *; omega) | (simp at *; omega)
    · match t, h with
      | x :: y :: z :: r, h =>
        have hx := x.toNat_lt
        have hy := y.toNat_lt
        have hz := z.toNat_lt
        simp only [cont, List.length_cons, List.getD_cons_zero, List.getD_cons_succ, decodeN]
        repeat' split
        all_goals first | rfl | (exfalso; simp at *; omega) | (simp at *; omega)
  have hb0 : ((b :: t).getD 0 0).toNat ≠ 0 := by
    simp only [List.getD_cons_zero]
    unfold lead at hl; omega
  have hz : z ≠ 1 := by unfold lead at hl; omega
  unfold pointL
  rw [← key]
  cases cont t (z - 1) c with
  | none => simp
  | some p =>
    simp only
    split
    · simp
    · rw [if_neg]
      simp only [not_or]
      exact ⟨hb0, fun h => hz h.2⟩
end Go.Proofs.YtnkcmpmcmkljnaaDoor
