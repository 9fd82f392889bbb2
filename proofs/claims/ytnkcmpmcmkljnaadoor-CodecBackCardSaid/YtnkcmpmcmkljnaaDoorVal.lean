/- The program's check of a text. -/
import Derived.Test.YtnkcmpmcmkljnaaDoorTxt
import Derived.Test.YtnkcmpmcmkljnaaDoorLay
set_option linter.unusedVariables false
set_option linter.unusedSimpArgs false
namespace Go.Proofs.YtnkcmpmcmkljnaaDoor
open Go.RowKit Go.Lib
/-- The library's two tables. -/
def Tabs (W : World) : Prop := Lib.Utf8Tabs (laysValid_ren.g 3) (laysValid_ren.g 4) W
section
variable {W w : World} {cs r : List Ch}
theorem ValidString_c (hT : Tabs W) (s : ByteArray) (hsz : s.size ≤ 9223372036854775807) (hs : Sep W w cs) :
    Calls P 63 #[.string s] w (Rt fun v w' => v = .bool (validD s.data.toList) ∧ Sep W w' cs) :=
  (Any.utf8_ValidString laysValid s w hsz (Utf8Tabs_below hT hs.below)).mono fun e w' ⟨he, hb⟩ => by
    subst he
    exact ⟨rfl, hs.of_below hb⟩
theorem index_zero : ∀ (l : List UInt8) (c : UInt8), -1 ≤ indexByte l c ∧ (decide (0 ≤ indexByte l c)) = l.contains c
  | [], c => by simp [indexByte]
  | b :: l, c => by
    have ⟨h1, h2⟩ := index_zero l c
    rw [List.contains_cons, ← h2]
    have e : indexByte (b :: l) c = if (b == c) = true then 0 else if (indexByte l c == -1) = true then -1 else indexByte l c + 1 := rfl
    rw [e]
    by_cases hb : b = c
    · subst hb; simp
    · have e1 : (b == c) = false := by simpa using hb
      have e2 : (c == b) = false := by simpa using fun e => hb e.symm
      rw [e1, e2]
      by_cases hm : indexByte l c = -1
      · rw [hm]; decide
      · have e3 : (indexByte l c == -1) = false := by simpa using hm
        rw [e3]
        simp
        omega
theorem Contains_c (s : ByteArray) (hs : Sep W w cs) : Calls P 64 #[.string s, .string ⟨#[0]⟩] w (Rt fun v w' => v = .bool (s.data.toList.contains 0) ∧ Sep W w' cs) :=
  (Any.strings_Contains_one laysContains s 0 w).mono fun e w' ⟨he, hw⟩ => by
    subst he; subst hw
    exact ⟨congrArg Value.bool (index_zero _ _).2, hs⟩
theorem Valid_c (hT : Tabs W) (s : ByteArray) (hsz : s.size ≤ 9223372036854775807) (hs : Sep W w cs) :
    Calls P 55 #[.string s] w (Rt fun v w' => v = .bool (okText s.data.toList) ∧ Sep W w' cs) := by
  refine enter Tryd.func55 Tryd.ntmps55 rfl rfl fun a (ha : Has a 10 [(0, _)]) => ?_
  refine wp_seq_k fun K1 hK1 => ?_
  refine wp_region_lit ?_
  refine pY ha (yAssign (by rfl)) rfl fun a ha => ?_
  refine pZ ?_
  refine hK1 _ _ ?_
  refine wp_seq_k fun K2 hK2 => ?_
  refine wp_region_lit ?_
  refine pY ha (yMove (by rfl)) rfl fun a ha => ?_
  refine pC ha (nCall Tryd.call63 (by rfl)) rfl (ValidString_c hT s hsz hs) ?_
  rintro v w ⟨rfl, hs⟩ a ha
  refine pY ha (yMove (by rfl)) rfl fun a ha => ?_
  refine gSplit (t := 5) ha (by rfl) (fun hg2 => ?_) (fun hg2 => ?_)
  · rw [hg2] at ha
    refine gOff ha rfl rfl (by rfl) rfl rfl fun a ha => ?_
    refine gOff ha rfl rfl (by rfl) rfl rfl fun a ha => ?_
    refine gOff ha rfl rfl (by rfl) rfl rfl fun a ha => ?_
    first | refine pY ha (yPickT (by rfl) (by rfl)) rfl fun a ha => ?_ | refine pY ha (yPickF (by rfl) (by rfl)) rfl fun a ha => ?_ | refine pY ha (yPick (by rfl) (by rfl) (by rfl)) rfl fun a ha => ?_
    refine pY ha (yAssign (by rfl)) rfl fun a ha => ?_
    refine pZ ?_
    refine hK2 _ _ ?_
    refine wp_ret ?_
    show bodyPost Tryd.prog Tryd.f55 _ .ret _ _
    refine ret1 rfl ha (by rfl) ?_
    exact ⟨by simp [okText, hg2], hs⟩
  · rw [hg2] at ha
    refine gOn ha rfl rfl (by rfl) ?_
    refine pY ha (yMove (by rfl)) rfl fun a ha => ?_
    refine gOn ha rfl rfl (by rfl) ?_
    refine pC ha (nCall Tryd.call64 (by rfl)) rfl (Contains_c s hs) ?_
    rintro v w ⟨rfl, hs⟩ a ha
    refine gOn ha rfl rfl (by rfl) ?_
    refine pY ha (yNot (by rfl)) rfl fun a ha => ?_
    first | refine pY ha (yPickT (by rfl) (by rfl)) rfl fun a ha => ?_ | refine pY ha (yPickF (by rfl) (by rfl)) rfl fun a ha => ?_ | refine pY ha (yPick (by rfl) (by rfl) (by rfl)) rfl fun a ha => ?_
    refine pY ha (yAssign (by rfl)) rfl fun a ha => ?_
    refine pZ ?_
    refine hK2 _ _ ?_
    refine wp_ret ?_
    show bodyPost Tryd.prog Tryd.f55 _ .ret _ _
    refine ret1 rfl ha (by rfl) ?_
    exact ⟨by simp [okText, hg2], hs⟩
end
end Go.Proofs.YtnkcmpmcmkljnaaDoor
