/- CodecWrites: the walk. -/
import Derived.Test.YtnkcmpmcmkljnaaDoorWritten
set_option linter.unusedVariables false
set_option linter.unusedSimpArgs false
namespace Go.Proofs.YtnkcmpmcmkljnaaDoor
open Go.RowKit Go.Lib
def wOut (xs : List Item) : List UInt8 := if (wItems xs).2 = true then [] else (wItems xs).1
section
variable {W w : World} {cs r r2 : List Ch}
theorem written_r (hT : Tabs W) {A : Option Addr} {n c : Nat} {xs : List Item} (hb : tItems xs ≤ 3000) (hs : Sep W w cs) (hk : Pick cs (.rd kItem (.slice A n c) xs) r) :
    Calls P 9 #[.slice A n c] w (Rt fun v w' => ∃ A' c', v = .tuple #[.slice A' (wOut xs).length c', .bool (!(wItems xs).2)] ∧ Sep W w' (.rd kU8 (.slice A' (wOut xs).length c') (wOut xs) :: cs)) := by
  refine (written_c hT hb hs hk).mono (Rt.mono fun v w h => ?_)
  unfold wOut
  by_cases hI : (wItems xs).2 = true
  · rw [if_pos hI] at h ⊢
    rw [hI]
    exact ⟨none, 0, h.1, h.2.rd_nil⟩
  · rw [if_neg hI] at h ⊢
    obtain ⟨A', c', h1, h2⟩ := h
    have : (wItems xs).2 = false := by simpa using hI
    rw [this]
    exact ⟨A', c', h1, h2.ol_rd .here⟩
theorem made_r {A : Option Addr} {n c : Nat} {xs : List Item} (hb : tItems xs ≤ 3000) (hs : Sep W w cs) (hk : Pick cs (.rd kItem (.slice A n c) xs) r) :
    Calls P 10 #[.slice A n c] w (Rt fun v w' => ∃ A' c', v = .tuple #[.slice A' (wOut xs).length c', .bool (!(wItems xs).2)] ∧ Sep W w' (.rd kU8 (.slice A' (wOut xs).length c') (wOut xs) :: cs)) := by
  refine (made_c hb hs hk).mono (Rt.mono fun v w h => ?_)
  unfold wOut
  by_cases hI : (wItems xs).2 = true
  · rw [if_pos hI] at h ⊢
    rw [hI]
    exact ⟨none, 0, h.1, h.2.rd_nil⟩
  · rw [if_neg hI] at h ⊢
    obtain ⟨A', c', h1, h2⟩ := h
    have : (wItems xs).2 = false := by simpa using hI
    rw [this]
    exact ⟨A', c', h1, h2.ol_rd .here⟩
theorem DoneN_c (hs : Sep W w cs) : Calls P 11 #[.pointer none] w (Rt fun v w' => v = .tuple #[.slice none 0 0, .bool false] ∧ Sep W w' cs) := by
  refine enter Tryd.func11 Tryd.ntmps11 rfl rfl fun a (ha : Has a 17 [(0, _)]) => ?_
  refine wp_seq_k fun K1 hK1 => ?_
  refine wp_region_lit ?_
  refine pY ha (yAssign (by rfl)) rfl fun a ha => ?_
  refine pY ha (yAssign (by rfl)) rfl fun a ha => ?_
  refine pZ ?_
  refine hK1 _ _ ?_
  refine wp_seq_k fun K2 hK2 => ?_
  refine wp_seq_k fun K3 hK3 => ?_
  refine wp_region_lit ?_
  refine pY ha (yMove (by rfl)) rfl fun a ha => ?_
  refine pY ha (yPtrEqlN Tryd.underlying28 (by rfl) (by rfl)) rfl fun a ha => ?_
  refine pY ha (yMove (by rfl)) rfl fun a ha => ?_
  refine gSplit (t := 6) ha (by rfl) (fun hg2 => ?_) (fun hg2 => ?_)
  · simp at hg2
  · rw [hg2] at ha
    refine gOff ha rfl rfl (by rfl) rfl rfl fun a ha => ?_
    refine gOff ha rfl rfl (by rfl) rfl rfl fun a ha => ?_
    refine gOff ha rfl rfl (by rfl) rfl rfl fun a ha => ?_
    refine gOff ha rfl rfl (by rfl) rfl rfl fun a ha => ?_
    first | refine pY ha (yPickT (by rfl) (by rfl)) rfl fun a ha => ?_ | refine pY ha (yPickF (by rfl) (by rfl)) rfl fun a ha => ?_ | refine pY ha (yPick (by rfl) (by rfl) (by rfl)) rfl fun a ha => ?_
    refine pZ ?_
    refine hK3 _ _ ?_
    refine cTrue ha (by rfl) ?_
    refine wp_seq_k fun K4 hK4 => ?_
    refine wp_region_lit ?_
    refine pY ha (yAssign (by rfl)) rfl fun a ha => ?_
    refine pY ha (yAssign (by rfl)) rfl fun a ha => ?_
    refine pZ ?_
    refine hK4 _ _ ?_
    refine wp_ret ?_
    show bodyPost Tryd.prog Tryd.f11 _ .ret _ _
    refine ret2 rfl ha (by rfl) (by rfl) ?_
    exact ⟨rfl, hs⟩
theorem WrNumN_c (n : Int) (hs : Sep W w cs) : Calls P 12 #[.pointer none, .int .i64 n] w (Rt fun v w' => v = .pointer none ∧ Sep W w' cs) := by
  refine enter Tryd.func12 Tryd.ntmps12 rfl rfl fun a (ha : Has a 30 [(0, _), (1, _)]) => ?_
  refine wp_seq_k fun K1 hK1 => ?_
  refine wp_region_lit ?_
  refine pY ha (yAssign (by rfl)) rfl fun a ha => ?_
  refine pZ ?_
  refine hK1 _ _ ?_
  refine wp_seq_k fun K2 hK2 => ?_
  refine wp_seq_k fun K3 hK3 => ?_
  refine wp_region_lit ?_
  refine pY ha (yMove (by rfl)) rfl fun a ha => ?_
  refine pY ha (yPtrNeqN Tryd.underlying28 (by rfl) (by rfl)) rfl fun a ha => ?_
  refine pZ ?_
  refine hK3 _ _ ?_
  refine cFalse ha (by rfl) ?_
  refine wp_skip ?_
  refine hK2 _ _ ?_
  refine wp_seq_k fun K4 hK4 => ?_
  refine wp_region_lit ?_
  refine pY ha (yMove (by rfl)) rfl fun a ha => ?_
  refine pY ha (yAssign (by rfl)) rfl fun a ha => ?_
  refine pZ ?_
  refine hK4 _ _ ?_
  refine wp_ret ?_
  show bodyPost Tryd.prog Tryd.f12 _ .ret _ _
  refine ret1 rfl ha (by rfl) ?_
  exact ⟨rfl, hs⟩
theorem CodecWrites_c (hT : Tabs W) {A : Option Addr} {n c : Nat} {xs : List Item} (hsz : ∀ x ∈ xs, okItem x) (hs : Sep W w cs) (hk : Pick cs (.rd kItem (.slice A n c) xs) r) :
    Calls P 3 #[.slice A n c] w (Rt fun v w' => v = .bool true ∧ Sep W w' cs) := by
  obtain ⟨rfl, hl⟩ := hs.rd_shape hk
  have hs := hs.cpR hk
  refine enter Tryd.func3 Tryd.ntmps3 rfl rfl fun a (ha : Has a 51 [(0, _)]) => ?_
  refine wp_seq_k fun K1 hK1 => ?_
  refine wp_region_lit ?_
  refine pY ha (yAssign (by rfl)) rfl fun a ha => ?_
  refine pZ ?_
  refine hK1 _ _ ?_
  refine wp_seq_k fun K2 hK2 => ?_
  refine wp_seq_k fun K3 hK3 => ?_
  refine wp_region_lit ?_
  refine pY ha (yMove (by rfl)) rfl fun a ha => ?_
  refine pC ha (nCall Tryd.call7 (by rfl)) rfl (small_c hsz hs .here) ?_
  rintro v w ⟨sm, rfl, hsm, hs⟩ a ha
  refine pY ha (yNot (by rfl)) rfl fun a ha => ?_
  refine pZ ?_
  refine hK3 _ _ ?_
  first | refine cNDec ha (by rfl) (fun hc12 => ?_) (fun hc12 => ?_) | refine cDec ha (by rfl) (fun hc12 => ?_) (fun hc12 => ?_) | refine cSplit ha (by rfl) (fun hc12 => ?_) (fun hc12 => ?_)
  · refine wp_seq_k fun K4 hK4 => ?_
    refine wp_region_lit ?_
    refine pC ha (nCall Tryd.call8 (by rfl)) rfl (awake_c hs) ?_
    rintro v w ⟨rfl, hs⟩ a ha
    refine pY ha (yAssign (by rfl)) rfl fun a ha => ?_
    refine pZ ?_
    refine hK4 _ _ ?_
    refine wp_ret ?_
    show bodyPost Tryd.prog Tryd.f3 _ .ret _ _
    refine ret1 rfl ha (by rfl) ?_
    exact ⟨rfl, hs.drop⟩
  · have hb := hsm (by simpa using hc12)
    refine wp_skip ?_
    refine hK2 _ _ ?_
    refine wp_seq_k fun K5 hK5 => ?_
    refine wp_region_lit ?_
    refine pY ha (yMove (by rfl)) rfl fun a ha => ?_
    refine pC ha (nCall Tryd.call9 (by rfl)) rfl (written_r hT hb hs .here) ?_
    rintro v w ⟨A1, c1, rfl, hs⟩ a ha
    refine pY ha (yMove (by rfl)) rfl fun a ha => ?_
    refine pY ha (yExtract (by rfl) (by rfl)) rfl fun a ha => ?_
    refine pY ha (yExtract (by rfl) (by rfl)) rfl fun a ha => ?_
    refine pY ha (yAssign (by rfl)) rfl fun a ha => ?_
    refine pY ha (yAssign (by rfl)) rfl fun a ha => ?_
    refine pZ ?_
    refine hK5 _ _ ?_
    refine wp_seq_k fun K6 hK6 => ?_
    refine wp_region_lit ?_
    refine pY ha (yMove (by rfl)) rfl fun a ha => ?_
    refine pC ha (nCall Tryd.call10 (by rfl)) rfl (made_r hb hs (by repeat first | exact .here | apply Pick.there)) ?_
    rintro v w ⟨A2, c2, rfl, hs⟩ a ha
    refine pY ha (yMove (by rfl)) rfl fun a ha => ?_
    refine pY ha (yExtract (by rfl) (by rfl)) rfl fun a ha => ?_
    refine pY ha (yExtract (by rfl) (by rfl)) rfl fun a ha => ?_
    refine pY ha (yAssign (by rfl)) rfl fun a ha => ?_
    refine pY ha (yAssign (by rfl)) rfl fun a ha => ?_
    refine pZ ?_
    refine hK6 _ _ ?_
    refine wp_seq_k fun K7 hK7 => ?_
    refine wp_region_lit ?_
    refine pY ha (yAssign (by rfl)) rfl fun a ha => ?_
    refine pZ ?_
    refine hK7 _ _ ?_
    refine wp_seq_k fun K8 hK8 => ?_
    refine wp_region_lit ?_
    refine pY ha (yMove (by rfl)) rfl fun a ha => ?_
    refine pC ha (nCall Tryd.call11 (by rfl)) rfl (DoneN_c hs) ?_
    rintro v w ⟨rfl, hs⟩ a ha
    refine pY ha (yMove (by rfl)) rfl fun a ha => ?_
    refine pY ha (yExtract (by rfl) (by rfl)) rfl fun a ha => ?_
    refine pY ha (yExtract (by rfl) (by rfl)) rfl fun a ha => ?_
    refine pY ha (yAssign (by rfl)) rfl fun a ha => ?_
    refine pY ha (yAssign (by rfl)) rfl fun a ha => ?_
    refine pZ ?_
    refine hK8 _ _ ?_
    refine wp_seq_k fun K9 hK9 => ?_
    refine wp_region_lit ?_
    refine pY ha (yMove (by rfl)) rfl fun a ha => ?_
    refine pY ha (yMove (by rfl)) rfl fun a ha => ?_
    refine pY ha (yBoolEql Tryd.underlying4 (by rfl) (by rfl)) rfl fun a ha => ?_
    refine pY ha (yMove (by rfl)) rfl fun a ha => ?_
    refine gDec (t := 32) ha (by rfl) (fun hg3 hp3 => ?_) (fun hg3 hp3 => ?_)
    · simp at hg3
    · rw [hg3] at ha
      refine gOn ha rfl rfl (by rfl) ?_
      refine pY ha (yMove (by rfl)) rfl fun a ha => ?_
      refine gOn ha rfl rfl (by rfl) ?_
      refine pY ha (yBytesStr Tryd.underlying25 Tryd.underlying5 Tryd.underlying9 hs (by rfl) (by repeat first | exact .here | apply Pick.there)) rfl fun a ha => ?_
      refine gOn ha rfl rfl (by rfl) ?_
      refine pY ha (yMove (by rfl)) rfl fun a ha => ?_
      refine gOn ha rfl rfl (by rfl) ?_
      refine pY ha (yBytesStr Tryd.underlying25 Tryd.underlying5 Tryd.underlying9 hs (by rfl) (by repeat first | exact .here | apply Pick.there)) rfl fun a ha => ?_
      refine gOn ha rfl rfl (by rfl) ?_
      refine pY ha (yStrEql (by rfl) (by rfl)) rfl fun a ha => ?_
      first | refine pY ha (yPickT (by rfl) (by rfl)) rfl fun a ha => ?_ | refine pY ha (yPickF (by rfl) (by rfl)) rfl fun a ha => ?_ | refine pY ha (yPick (by rfl) (by rfl) (by rfl)) rfl fun a ha => ?_
      refine pY ha (yMove (by rfl)) rfl fun a ha => ?_
      refine gSplit (t := 39) ha (by rfl) (fun hg10 => ?_) (fun hg10 => ?_)
      · simp at hg10
      · rw [hg10] at ha
        refine gOn ha rfl rfl (by rfl) ?_
        refine pY ha (yMove (by rfl)) rfl fun a ha => ?_
        refine gOn ha rfl rfl (by rfl) ?_
        refine pC ha (nCall Tryd.call12 (by rfl)) rfl (WrNumN_c 1 hs) ?_
        rintro v w ⟨rfl, hs⟩ a ha
        refine gOn ha rfl rfl (by rfl) ?_
        refine pY ha (yPtrEqlN Tryd.underlying28 (by rfl) (by rfl)) rfl fun a ha => ?_
        first | refine pY ha (yPickT (by rfl) (by rfl)) rfl fun a ha => ?_ | refine pY ha (yPickF (by rfl) (by rfl)) rfl fun a ha => ?_ | refine pY ha (yPick (by rfl) (by rfl) (by rfl)) rfl fun a ha => ?_
        refine pY ha (yMove (by rfl)) rfl fun a ha => ?_
        refine gSplit (t := 44) ha (by rfl) (fun hg15 => ?_) (fun hg15 => ?_)
        · simp at hg15
        · rw [hg15] at ha
          refine gOn ha rfl rfl (by rfl) ?_
          refine pY ha (yMove (by rfl)) rfl fun a ha => ?_
          refine gOn ha rfl rfl (by rfl) ?_
          refine pY ha (yNot (by rfl)) rfl fun a ha => ?_
          first | refine pY ha (yPickT (by rfl) (by rfl)) rfl fun a ha => ?_ | refine pY ha (yPickF (by rfl) (by rfl)) rfl fun a ha => ?_ | refine pY ha (yPick (by rfl) (by rfl) (by rfl)) rfl fun a ha => ?_
          refine pY ha (yMove (by rfl)) rfl fun a ha => ?_
          refine gSplit (t := 48) ha (by rfl) (fun hg19 => ?_) (fun hg19 => ?_)
          · simp at hg19
          · rw [hg19] at ha
            refine gOn ha rfl rfl (by rfl) ?_
            refine pC ha (nCall Tryd.call8 (by rfl)) rfl (awake_c hs) ?_
            rintro v w ⟨rfl, hs⟩ a ha
            first | refine pY ha (yPickT (by rfl) (by rfl)) rfl fun a ha => ?_ | refine pY ha (yPickF (by rfl) (by rfl)) rfl fun a ha => ?_ | refine pY ha (yPick (by rfl) (by rfl) (by rfl)) rfl fun a ha => ?_
            refine pY ha (yAssign (by rfl)) rfl fun a ha => ?_
            refine pZ ?_
            refine hK9 _ _ ?_
            refine wp_ret ?_
            show bodyPost Tryd.prog Tryd.f3 _ .ret _ _
            refine ret1 rfl ha (by rfl) ?_
            exact ⟨rfl, hs.drop.drop.drop⟩
end
end Go.Proofs.YtnkcmpmcmkljnaaDoor
