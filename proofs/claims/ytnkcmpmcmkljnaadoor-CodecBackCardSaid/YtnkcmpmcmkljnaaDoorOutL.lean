/- Writing lists: the walks of the document's writer. -/
import Derived.Test.YtnkcmpmcmkljnaaDoorWrtL
set_option linter.unusedVariables false
set_option linter.unusedSimpArgs false
namespace Go.Proofs.YtnkcmpmcmkljnaaDoor
open Go.RowKit Go.Lib
theorem elOutL25 : ElemT Tryd.prog 25 5 1 1 := elemT_mk Tryd.underlying25 rfl (by kernel_rfl)
section
variable {W w : World} {cs r r2 : List Ch} {p : Nat} {st : Wt}
theorem OutText_c (s : ByteArray) (hsz : s.size ≤ 140737488355328 / 8) (hb : (wText st s).1.length ≤ 140737488355328) (hs : Sep W w cs) (hk : Pick cs (.wtr p 57 st) r) :
    Calls P 43 #[.pointer (some ⟨p, 0, none⟩), .string s] w (Rt fun v w' => v = .tuple #[] ∧ Sep W w' (.wtr p 57 (wText st s) :: r)) := by
  obtain ⟨A, c, hs⟩ := hs.wtr_open hk
  have hlen : (wNum (st.1, st.2 || !okText s.data.toList) s.size).1.length + s.data.toList.length ≤ 140737488355328 := by simpa [wText] using hb
  obtain ⟨bs, bad⟩ := st
  simp only at hs hlen
  refine enter Tryd.func43 Tryd.ntmps43 rfl rfl fun a (ha : Has a 29 [(0, _), (1, _)]) => ?_
  refine wp_seq_k fun K1 hK1 => ?_
  refine cutC (fun a w => Has a 29 [(0, .pointer (some ⟨p, 0, none⟩)), (1, .string s)] ∧ Sep W w (.blk p 57 [.slice A bs.length c, .bool (bad || !okText s.data.toList)] :: .ol kU8 5 (.slice A bs.length c) bs :: r)) ?_ ?_
  · refine wp_region_lit ?_
    refine pY ha (yMove (by rfl)) rfl fun a ha => ?_
    refine pY ha (yMove (by rfl)) rfl fun a ha => ?_
    refine pY ha (yNilP (by rfl)) rfl fun a ha => ?_
    refine pY ha (yFieldA Tryd.runUnderlying57 rfl Tryd.sizeOf4 rfl (by rfl)) rfl fun a ha => ?_
    first | refine pY ha (yLoadB Tryd.isAgg4 hs (by rfl) (by repeat first | exact .here | apply Pick.there) (by rfl)) rfl fun a ha => ?_ | refine pY ha (yLoadR Tryd.isAgg4 hs (by rfl) (by repeat first | exact .here | apply Pick.there) (by rfl)) rfl fun a ha => ?_ | refine pY ha (yLoadR0 Tryd.isAgg4 hs (by rfl) (by repeat first | exact .here | apply Pick.there) (by rfl)) rfl fun a ha => ?_
    refine pY ha (yMove (by rfl)) rfl fun a ha => ?_
    refine gSplit (t := 9) ha (by rfl) (fun hg5 => ?_) (fun hg5 => ?_)
    · rw [hg5] at ha
      refine gOn ha rfl rfl (by rfl) ?_
      refine pY ha (yMove (by rfl)) rfl fun a ha => ?_
      refine gOn ha rfl rfl (by rfl) ?_
      refine pC ha (nCall Tryd.call56 (by rfl)) rfl (RValid_c s hsz hs) ?_
      rintro v w ⟨rfl, hs⟩ a ha
      refine gOn ha rfl rfl (by rfl) ?_
      refine pY ha (yNot (by rfl)) rfl fun a ha => ?_
      first | refine pY ha (yPickT (by rfl) (by rfl)) rfl fun a ha => ?_ | refine pY ha (yPickF (by rfl) (by rfl)) rfl fun a ha => ?_ | refine pY ha (yPick (by rfl) (by rfl) (by rfl)) rfl fun a ha => ?_
      refine pY ha (yNilP (by rfl)) rfl fun a ha => ?_
      refine pY ha (yFieldA Tryd.runUnderlying57 rfl Tryd.sizeOf4 rfl (by rfl)) rfl fun a ha => ?_
      refine pStore ha Tryd.sizeOf4 hs (by rfl) (by rfl) rfl rfl (by repeat first | exact .here | apply Pick.there) (by rfl) fun w hs => ?_
      refine pZ ⟨rfl, ?_⟩
      rw [hg5]; exact ⟨has2 ha (by rfl) (by rfl), hs⟩
    · rw [hg5] at ha
      refine gOff ha rfl rfl (by rfl) rfl rfl fun a ha => ?_
      refine gOff ha rfl rfl (by rfl) rfl rfl fun a ha => ?_
      refine gOff ha rfl rfl (by rfl) rfl rfl fun a ha => ?_
      first | refine pY ha (yPickT (by rfl) (by rfl)) rfl fun a ha => ?_ | refine pY ha (yPickF (by rfl) (by rfl)) rfl fun a ha => ?_ | refine pY ha (yPick (by rfl) (by rfl) (by rfl)) rfl fun a ha => ?_
      refine pY ha (yNilP (by rfl)) rfl fun a ha => ?_
      refine pY ha (yFieldA Tryd.runUnderlying57 rfl Tryd.sizeOf4 rfl (by rfl)) rfl fun a ha => ?_
      refine pStore ha Tryd.sizeOf4 hs (by rfl) (by rfl) rfl rfl (by repeat first | exact .here | apply Pick.there) (by rfl) fun w hs => ?_
      refine pZ ⟨rfl, ?_⟩
      rw [hg5]; exact ⟨has2 ha (by rfl) (by rfl), hs⟩
  rintro a w ⟨ha, hs⟩
  refine hK1 _ _ ?_
  refine wp_seq_k fun K2 hK2 => ?_
  have hs := hs.wtr_shut .here .here
  refine wp_region_lit ?_
  refine pY ha (yMove (by rfl)) rfl fun a ha => ?_
  refine pY ha (yMove (by rfl)) rfl fun a ha => ?_
  refine pY ha (yLenStr Tryd.runUnderlying9 (by rfl)) rfl fun a ha => ?_
  refine pC ha (nCall Tryd.call34 (by rfl)) rfl (OutNum_c (st := (bs, bad || !okText s.data.toList)) s.size (by omega) hs .here) ?_
  rintro v w ⟨rfl, hs⟩ a ha
  refine pZ ?_
  refine hK2 _ _ ?_
  obtain ⟨A', c', hs⟩ := hs.wtr_open .here
  refine wp_region_lit ?_
  refine pY ha (yMove (by rfl)) rfl fun a ha => ?_
  refine pY ha (yMove (by rfl)) rfl fun a ha => ?_
  refine pY ha (yNilP (by rfl)) rfl fun a ha => ?_
  refine pY ha (yFieldA Tryd.runUnderlying57 rfl Tryd.sizeOf25 rfl (by rfl)) rfl fun a ha => ?_
  first | refine pY ha (yLoadB Tryd.isAgg25 hs (by rfl) (by repeat first | exact .here | apply Pick.there) (by rfl)) rfl fun a ha => ?_ | refine pY ha (yLoadR Tryd.isAgg25 hs (by rfl) (by repeat first | exact .here | apply Pick.there) (by rfl)) rfl fun a ha => ?_ | refine pY ha (yLoadR0 Tryd.isAgg25 hs (by rfl) (by repeat first | exact .here | apply Pick.there) (by rfl)) rfl fun a ha => ?_
  refine pY ha (yMove (by rfl)) rfl fun a ha => ?_
  refine pAppStr ha elOutL25 Tryd.underlying9 (by rfl) (by rfl) hs (by repeat first | exact .here | apply Pick.there) (by first | omega | (unfold maxLen; omega) | (simp [maxLen]; done) | (simp [maxLen]; omega)) (by first | omega | (unfold maxLen; omega) | (simp [maxLen]; done) | (simp [maxLen]; omega)) rfl fun A c w hs a ha => ?_
  refine pY ha (yNilP (by rfl)) rfl fun a ha => ?_
  refine pY ha (yFieldA Tryd.runUnderlying57 rfl Tryd.sizeOf25 rfl (by rfl)) rfl fun a ha => ?_
  refine pStore ha Tryd.sizeOf25 hs (by rfl) (by rfl) rfl rfl (by repeat first | exact .here | apply Pick.there) (by rfl) fun w hs => ?_
  refine pZ ?_
  show bodyPost Tryd.prog Tryd.f43 _ .normal _ _
  refine end0 rfl ha ?_
  exact ⟨rfl, hs.wtr_shut .here .here⟩
theorem OutFlag_c (b : Bool) (hb : (wFlag st b).1.length ≤ 140737488355328) (hs : Sep W w cs) (hk : Pick cs (.wtr p 57 st) r) :
    Calls P 44 #[.pointer (some ⟨p, 0, none⟩), .bool b] w (Rt fun v w' => v = .tuple #[] ∧ Sep W w' (.wtr p 57 (wFlag st b) :: r)) := by
  unfold wFlag at hb ⊢
  refine enter Tryd.func44 Tryd.ntmps44 rfl rfl fun a (ha : Has a 9 [(0, _), (1, _)]) => ?_
  refine wp_seq_k fun K1 hK1 => ?_
  refine wp_region_lit ?_
  refine pY ha (yMove (by rfl)) rfl fun a ha => ?_
  refine pZ ?_
  refine hK1 _ _ ?_
  first | refine cNDec ha (by rfl) (fun hc4 => ?_) (fun hc4 => ?_) | refine cDec ha (by rfl) (fun hc4 => ?_) (fun hc4 => ?_) | refine cSplit ha (by rfl) (fun hc4 => ?_) (fun hc4 => ?_)
  · subst hc4
    refine wp_region_lit ?_
    refine pY ha (yMove (by rfl)) rfl fun a ha => ?_
    refine pC ha (nCall Tryd.call34 (by rfl)) rfl (OutNum_c 1 hb hs hk) ?_
    rintro v w ⟨rfl, hs⟩ a ha
    refine pZ ?_
    show bodyPost Tryd.prog Tryd.f44 _ .normal _ _
    refine end0 rfl ha ?_
    exact ⟨rfl, hs⟩
  · subst hc4
    refine wp_region_lit ?_
    refine pY ha (yMove (by rfl)) rfl fun a ha => ?_
    refine pC ha (nCall Tryd.call34 (by rfl)) rfl (OutNum_c 0 hb hs hk) ?_
    rintro v w ⟨rfl, hs⟩ a ha
    refine pZ ?_
    show bodyPost Tryd.prog Tryd.f44 _ .normal _ _
    refine end0 rfl ha ?_
    exact ⟨rfl, hs⟩
theorem OutDone_c (hs : Sep W w cs) (hk : Pick cs (.wtr p 57 st) r) :
    Calls P 48 #[.pointer (some ⟨p, 0, none⟩)] w (Rt fun v w' => if st.2 = true then v = .tuple #[.slice none 0 0, .bool false] ∧ Sep W w' (.wtr p 57 st :: r)
      else ∃ A c, v = .tuple #[.slice A st.1.length c, .bool true] ∧ Sep W w' (.ol kU8 5 (.slice A st.1.length c) st.1 :: r)) := by
  obtain ⟨A, c, hs⟩ := hs.wtr_open hk
  refine enter Tryd.func48 Tryd.ntmps48 rfl rfl fun a (ha : Has a 12 [(0, _)]) => ?_
  refine wp_seq_k fun K1 hK1 => ?_
  refine wp_region_lit ?_
  refine pY ha (yAssign (by rfl)) rfl fun a ha => ?_
  refine pY ha (yAssign (by rfl)) rfl fun a ha => ?_
  refine pZ ?_
  refine hK1 _ _ ?_
  refine wp_seq_k fun K2 hK2 => ?_
  refine wp_seq_k fun K3 hK3 => ?_
  refine wp_region_lit ?_
  refine pY ha (yMove (by rfl)) rfl fun a ha => ?_
  refine pY ha (yNilP (by rfl)) rfl fun a ha => ?_
  refine pY ha (yFieldA Tryd.runUnderlying57 rfl Tryd.sizeOf4 rfl (by rfl)) rfl fun a ha => ?_
  first | refine pY ha (yLoadB Tryd.isAgg4 hs (by rfl) (by repeat first | exact .here | apply Pick.there) (by rfl)) rfl fun a ha => ?_ | refine pY ha (yLoadR Tryd.isAgg4 hs (by rfl) (by repeat first | exact .here | apply Pick.there) (by rfl)) rfl fun a ha => ?_ | refine pY ha (yLoadR0 Tryd.isAgg4 hs (by rfl) (by repeat first | exact .here | apply Pick.there) (by rfl)) rfl fun a ha => ?_
  refine pZ ?_
  refine hK3 _ _ ?_
  first | refine cNDec ha (by rfl) (fun hc7 => ?_) (fun hc7 => ?_) | refine cDec ha (by rfl) (fun hc7 => ?_) (fun hc7 => ?_) | refine cSplit ha (by rfl) (fun hc7 => ?_) (fun hc7 => ?_)
  · refine wp_seq_k fun K4 hK4 => ?_
    refine wp_region_lit ?_
    refine pY ha (yAssign (by rfl)) rfl fun a ha => ?_
    refine pY ha (yAssign (by rfl)) rfl fun a ha => ?_
    refine pZ ?_
    refine hK4 _ _ ?_
    refine wp_ret ?_
    show bodyPost Tryd.prog Tryd.f48 _ .ret _ _
    refine ret2 rfl ha (by rfl) (by rfl) ?_
    rw [if_pos hc7]; exact ⟨rfl, hs.wtr_shut .here .here⟩
  · refine wp_skip ?_
    refine hK2 _ _ ?_
    refine wp_seq_k fun K5 hK5 => ?_
    refine wp_region_lit ?_
    refine pY ha (yMove (by rfl)) rfl fun a ha => ?_
    refine pY ha (yNilP (by rfl)) rfl fun a ha => ?_
    refine pY ha (yFieldA Tryd.runUnderlying57 rfl Tryd.sizeOf25 rfl (by rfl)) rfl fun a ha => ?_
    first | refine pY ha (yLoadB Tryd.isAgg25 hs (by rfl) (by repeat first | exact .here | apply Pick.there) (by rfl)) rfl fun a ha => ?_ | refine pY ha (yLoadR Tryd.isAgg25 hs (by rfl) (by repeat first | exact .here | apply Pick.there) (by rfl)) rfl fun a ha => ?_ | refine pY ha (yLoadR0 Tryd.isAgg25 hs (by rfl) (by repeat first | exact .here | apply Pick.there) (by rfl)) rfl fun a ha => ?_
    refine pY ha (yAssign (by rfl)) rfl fun a ha => ?_
    refine pY ha (yAssign (by rfl)) rfl fun a ha => ?_
    refine pZ ?_
    refine hK5 _ _ ?_
    refine wp_ret ?_
    show bodyPost Tryd.prog Tryd.f48 _ .ret _ _
    refine ret2 rfl ha (by rfl) (by rfl) ?_
    rw [if_neg (by simp [hc7])]; exact ⟨A, c, rfl, hs.drop⟩
theorem OutComps_c {A : Option Addr} {n c : Nat} {xs : List Comp} (hb : (wComps st xs).1.length ≤ 8796093022208) (hs : Sep W w cs) (hk : Pick cs (.wtr p 57 st) r) (hk2 : Pick r (.rd kComp (.slice A n c) xs) r2) :
    Calls P 45 #[.pointer (some ⟨p, 0, none⟩), .slice A n c] w (Rt fun v w' => v = .tuple #[] ∧ Sep W w' (.wtr p 57 (wComps st xs) :: r)) := by
  have hs := hs.pick hk
  obtain ⟨rfl, hl⟩ := hs.rd_shape (.there hk2)
  unfold maxLen at hl
  have hs := hs.cpR (.there hk2)
  have hb0 := fold_le wComp_le xs (wNum st xs.length)
  unfold wComps at hb
  refine enter Tryd.func45 Tryd.ntmps45 rfl rfl fun a (ha : Has a 36 [(0, _), (1, _)]) => ?_
  refine wp_seq_k fun K1 hK1 => ?_
  refine wp_region_lit ?_
  refine pY ha (yMove (by rfl)) rfl fun a ha => ?_
  refine pY ha (yMove (by rfl)) rfl fun a ha => ?_
  refine pY ha (yLenS Tryd.runUnderlying41 (by rfl)) rfl fun a ha => ?_
  refine pC ha (nCall Tryd.call34 (by rfl)) rfl (OutNum_c (st := st) xs.length (by omega) hs (.there .here)) ?_
  rintro v w ⟨rfl, hs⟩ a ha
  refine pZ ?_
  refine hK1 _ _ ?_
  refine wp_seq_k fun K2 hK2 => ?_
  refine wp_region_lit ?_
  refine pY ha (yAssign (by rfl)) rfl fun a ha => ?_
  refine pZ ?_
  refine hK2 _ _ ?_
  refine wp_block ?_
  refine loopI (ι := Nat) (fun i a w => i ≤ xs.length ∧ Has a 36 [(0, .pointer (some ⟨p, 0, none⟩)), (1, .slice A xs.length c), (4, .int .i64 i)] ∧ Sep W w (.wtr p 57 ((xs.take i).foldl wComp (wNum st xs.length)) :: .rd kComp (.slice A xs.length c) xs :: r)) (fun i => xs.length - i) (0) ?_ ?_
  · exact ⟨Nat.zero_le _, has3 ha (by rfl) (by rfl) (by rfl), hs⟩
  · rintro i a w ⟨h1, ha, hs⟩
    refine wp_seq_k fun K3 hK3 => ?_
    refine wp_seq_k fun K4 hK4 => ?_
    refine wp_region_lit ?_
    refine pY ha (yMove (by rfl)) rfl fun a ha => ?_
    refine pY ha (yMove (by rfl)) rfl fun a ha => ?_
    refine pY ha (yLenS Tryd.runUnderlying41 (by rfl)) rfl fun a ha => ?_
    refine pY ha (yLss (by rfl) (by rfl)) rfl fun a ha => ?_
    refine pZ ?_
    refine hK4 _ _ ?_
    first | refine cDec ha (by rfl) (fun hc12 => ?_) (fun hc12 => ?_) | refine cSplit ha (by rfl) (fun hc12 => ?_) (fun hc12 => ?_)
    · obtain ⟨x, hx⟩ : ∃ x, xs[i]? = some x := ⟨_, List.getElem?_eq_getElem (by omega)⟩
      obtain ⟨hf1, hf2⟩ := fold_at (f := wComp) wComp_le (s0 := wNum st xs.length) hx
      generalize (xs.take i).foldl wComp (wNum st xs.length) = s0 at hs hf1 hf2
      obtain ⟨b0, off, rfl, hs⟩ := hs.rd_comp (.there .here) hx
      have q1 := wNum_le s0 x.kind
      have q2 := wNum_le (wNum s0 x.kind) x.n
      have q3 := wText_le (wNum (wNum s0 x.kind) x.n) x.text
      have hf3 : (wText (wNum (wNum s0 x.kind) x.n) x.text).1.length ≤ 8796093022208 := Nat.le_trans hf2 hb
      refine wp_skip ?_
      refine hK3 _ _ ?_
      refine wp_seq_k fun K5 hK5 => ?_
      refine wp_block ?_
      refine wp_seq_k fun K6 hK6 => ?_
      refine wp_region_lit ?_
      refine pY ha (yMove (by rfl)) rfl fun a ha => ?_
      refine pY ha (yMove (by rfl)) rfl fun a ha => ?_
      refine pY ha (yMove (by rfl)) rfl fun a ha => ?_
      refine pY ha (yIndexA Tryd.runUnderlying41 Tryd.sizeOf91 (by rfl) (by rfl) (by omega) (by omega)) rfl fun a ha => ?_
      refine pY ha (yFieldA Tryd.runUnderlying91 rfl Tryd.sizeOf3 rfl (by rfl)) rfl fun a ha => ?_
      first | refine pY ha (yLoadB Tryd.isAgg3 hs (by rfl) (by repeat first | exact .here | apply Pick.there) (by rfl)) rfl fun a ha => ?_ | refine pY ha (yLoadR Tryd.isAgg3 hs (by rfl) (by repeat first | exact .here | apply Pick.there) (by rfl)) rfl fun a ha => ?_ | refine pY ha (yLoadR0 Tryd.isAgg3 hs (by rfl) (by repeat first | exact .here | apply Pick.there) (by rfl)) rfl fun a ha => ?_
      refine pC ha (nCall Tryd.call34 (by rfl)) rfl (OutNum_c (st := s0) x.kind (by omega) hs (by repeat first | exact .here | apply Pick.there)) ?_
      rintro v w ⟨rfl, hs⟩ a ha
      refine pZ ?_
      refine hK6 _ _ ?_
      refine wp_seq_k fun K7 hK7 => ?_
      refine wp_region_lit ?_
      refine pY ha (yMove (by rfl)) rfl fun a ha => ?_
      refine pY ha (yMove (by rfl)) rfl fun a ha => ?_
      refine pY ha (yMove (by rfl)) rfl fun a ha => ?_
      refine pY ha (yIndexA Tryd.runUnderlying41 Tryd.sizeOf91 (by rfl) (by rfl) (by omega) (by omega)) rfl fun a ha => ?_
      refine pY ha (yFieldA Tryd.runUnderlying91 rfl Tryd.sizeOf3 rfl (by rfl)) rfl fun a ha => ?_
      first | refine pY ha (yLoadB Tryd.isAgg3 hs (by rfl) (by repeat first | exact .here | apply Pick.there) (by rfl)) rfl fun a ha => ?_ | refine pY ha (yLoadR Tryd.isAgg3 hs (by rfl) (by repeat first | exact .here | apply Pick.there) (by rfl)) rfl fun a ha => ?_ | refine pY ha (yLoadR0 Tryd.isAgg3 hs (by rfl) (by repeat first | exact .here | apply Pick.there) (by rfl)) rfl fun a ha => ?_
      refine pC ha (nCall Tryd.call34 (by rfl)) rfl (OutNum_c (st := wNum s0 x.kind) x.n (by omega) hs (by repeat first | exact .here | apply Pick.there)) ?_
      rintro v w ⟨rfl, hs⟩ a ha
      refine pZ ?_
      refine hK7 _ _ ?_
      refine wp_region_lit ?_
      refine pY ha (yMove (by rfl)) rfl fun a ha => ?_
      refine pY ha (yMove (by rfl)) rfl fun a ha => ?_
      refine pY ha (yMove (by rfl)) rfl fun a ha => ?_
      refine pY ha (yIndexA Tryd.runUnderlying41 Tryd.sizeOf91 (by rfl) (by rfl) (by omega) (by omega)) rfl fun a ha => ?_
      refine pY ha (yFieldA Tryd.runUnderlying91 rfl Tryd.sizeOf9 rfl (by rfl)) rfl fun a ha => ?_
      first | refine pY ha (yLoadB Tryd.isAgg9 hs (by rfl) (by repeat first | exact .here | apply Pick.there) (by rfl)) rfl fun a ha => ?_ | refine pY ha (yLoadR Tryd.isAgg9 hs (by rfl) (by repeat first | exact .here | apply Pick.there) (by rfl)) rfl fun a ha => ?_ | refine pY ha (yLoadR0 Tryd.isAgg9 hs (by rfl) (by repeat first | exact .here | apply Pick.there) (by rfl)) rfl fun a ha => ?_
      refine pC ha (nCall Tryd.call43 (by rfl)) rfl (OutText_c (st := wNum (wNum s0 x.kind) x.n) x.text (by omega) (by omega) hs (by repeat first | exact .here | apply Pick.there)) ?_
      rintro v w ⟨rfl, hs⟩ a ha
      refine pZ ?_
      refine hK5 _ _ ?_
      refine wp_region_lit ?_
      refine pY ha (yMove (by rfl)) rfl fun a ha => ?_
      first | refine pY ha (yAddN (by rfl) (by rfl) ⟨by omega, by omega⟩) rfl fun a ha => ?_ | refine pY ha (yAdd (by rfl) (by rfl)) rfl fun a ha => ?_
      refine pY ha (yAssign (by rfl)) rfl fun a ha => ?_
      refine pZ ?_
      refine ⟨i + 1, ⟨by omega, has3 ha (by rfl) (by rfl) (by rfl), ?_⟩, by omega⟩
      rw [hf1]
      exact hs.drop2
    · refine wp_exit ?_
      show bodyPost Tryd.prog Tryd.f45 _ .normal _ _
      refine end0 rfl ha ?_
      rw [List.take_of_length_le (by omega)] at hs; exact ⟨rfl, hs.drop2⟩
theorem OutNods_c {A : Option Addr} {n c : Nat} {xs : List Nod} (hb : (wNods st xs).1.length ≤ 8796093022208) (hs : Sep W w cs) (hk : Pick cs (.wtr p 57 st) r) (hk2 : Pick r (.rd kNod (.slice A n c) xs) r2) :
    Calls P 47 #[.pointer (some ⟨p, 0, none⟩), .slice A n c] w (Rt fun v w' => v = .tuple #[] ∧ Sep W w' (.wtr p 57 (wNods st xs) :: r)) := by
  have hs := hs.pick hk
  obtain ⟨rfl, hl⟩ := hs.rd_shape (.there hk2)
  unfold maxLen at hl
  have hs := hs.cpR (.there hk2)
  have hb0 := fold_le wNod_le xs (wNum st xs.length)
  unfold wNods at hb
  refine enter Tryd.func47 Tryd.ntmps47 rfl rfl fun a (ha : Has a 50 [(0, _), (1, _)]) => ?_
  refine wp_seq_k fun K1 hK1 => ?_
  refine wp_region_lit ?_
  refine pY ha (yMove (by rfl)) rfl fun a ha => ?_
  refine pY ha (yMove (by rfl)) rfl fun a ha => ?_
  refine pY ha (yLenS Tryd.runUnderlying47 (by rfl)) rfl fun a ha => ?_
  refine pC ha (nCall Tryd.call34 (by rfl)) rfl (OutNum_c (st := st) xs.length (by omega) hs (.there .here)) ?_
  rintro v w ⟨rfl, hs⟩ a ha
  refine pZ ?_
  refine hK1 _ _ ?_
  refine wp_seq_k fun K2 hK2 => ?_
  refine wp_region_lit ?_
  refine pY ha (yAssign (by rfl)) rfl fun a ha => ?_
  refine pZ ?_
  refine hK2 _ _ ?_
  refine wp_block ?_
  refine loopI (ι := Nat) (fun i a w => i ≤ xs.length ∧ Has a 50 [(0, .pointer (some ⟨p, 0, none⟩)), (1, .slice A xs.length c), (4, .int .i64 i)] ∧ Sep W w (.wtr p 57 ((xs.take i).foldl wNod (wNum st xs.length)) :: .rd kNod (.slice A xs.length c) xs :: r)) (fun i => xs.length - i) (0) ?_ ?_
  · exact ⟨Nat.zero_le _, has3 ha (by rfl) (by rfl) (by rfl), hs⟩
  · rintro i a w ⟨h1, ha, hs⟩
    refine wp_seq_k fun K3 hK3 => ?_
    refine wp_seq_k fun K4 hK4 => ?_
    refine wp_region_lit ?_
    refine pY ha (yMove (by rfl)) rfl fun a ha => ?_
    refine pY ha (yMove (by rfl)) rfl fun a ha => ?_
    refine pY ha (yLenS Tryd.runUnderlying47 (by rfl)) rfl fun a ha => ?_
    refine pY ha (yLss (by rfl) (by rfl)) rfl fun a ha => ?_
    refine pZ ?_
    refine hK4 _ _ ?_
    first | refine cDec ha (by rfl) (fun hc12 => ?_) (fun hc12 => ?_) | refine cSplit ha (by rfl) (fun hc12 => ?_) (fun hc12 => ?_)
    · obtain ⟨x, hx⟩ : ∃ x, xs[i]? = some x := ⟨_, List.getElem?_eq_getElem (by omega)⟩
      obtain ⟨hf1, hf2⟩ := fold_at (f := wNod) wNod_le (s0 := wNum st xs.length) hx
      generalize (xs.take i).foldl wNod (wNum st xs.length) = s0 at hs hf1 hf2
      obtain ⟨b0, off, rfl, hs⟩ := hs.rd_nod (.there .here) hx
      have q1 := wNum_le s0 x.id
      have q2 := wNum_le (wNum s0 x.id) x.parent
      have q3 := wText_le (wNum (wNum s0 x.id) x.parent) x.name
      have q4 := wFlag_le (wText (wNum (wNum s0 x.id) x.parent) x.name) x.dir
      have q5 := wText_le (wFlag (wText (wNum (wNum s0 x.id) x.parent) x.name) x.dir) x.text
      have hf3 : (wText (wFlag (wText (wNum (wNum s0 x.id) x.parent) x.name) x.dir) x.text).1.length ≤ 8796093022208 := Nat.le_trans hf2 hb
      refine wp_skip ?_
      refine hK3 _ _ ?_
      refine wp_seq_k fun K5 hK5 => ?_
      refine wp_block ?_
      refine wp_seq_k fun K6 hK6 => ?_
      refine wp_region_lit ?_
      refine pY ha (yMove (by rfl)) rfl fun a ha => ?_
      refine pY ha (yMove (by rfl)) rfl fun a ha => ?_
      refine pY ha (yMove (by rfl)) rfl fun a ha => ?_
      refine pY ha (yIndexA Tryd.runUnderlying47 Tryd.sizeOf65 (by rfl) (by rfl) (by omega) (by omega)) rfl fun a ha => ?_
      refine pY ha (yFieldA Tryd.runUnderlying65 rfl Tryd.sizeOf3 rfl (by rfl)) rfl fun a ha => ?_
      first | refine pY ha (yLoadB Tryd.isAgg3 hs (by rfl) (by repeat first | exact .here | apply Pick.there) (by rfl)) rfl fun a ha => ?_ | refine pY ha (yLoadR Tryd.isAgg3 hs (by rfl) (by repeat first | exact .here | apply Pick.there) (by rfl)) rfl fun a ha => ?_ | refine pY ha (yLoadR0 Tryd.isAgg3 hs (by rfl) (by repeat first | exact .here | apply Pick.there) (by rfl)) rfl fun a ha => ?_
      refine pC ha (nCall Tryd.call34 (by rfl)) rfl (OutNum_c (st := s0) x.id (by omega) hs (by repeat first | exact .here | apply Pick.there)) ?_
      rintro v w ⟨rfl, hs⟩ a ha
      refine pZ ?_
      refine hK6 _ _ ?_
      refine wp_seq_k fun K7 hK7 => ?_
      refine wp_region_lit ?_
      refine pY ha (yMove (by rfl)) rfl fun a ha => ?_
      refine pY ha (yMove (by rfl)) rfl fun a ha => ?_
      refine pY ha (yMove (by rfl)) rfl fun a ha => ?_
      refine pY ha (yIndexA Tryd.runUnderlying47 Tryd.sizeOf65 (by rfl) (by rfl) (by omega) (by omega)) rfl fun a ha => ?_
      refine pY ha (yFieldA Tryd.runUnderlying65 rfl Tryd.sizeOf3 rfl (by rfl)) rfl fun a ha => ?_
      first | refine pY ha (yLoadB Tryd.isAgg3 hs (by rfl) (by repeat first | exact .here | apply Pick.there) (by rfl)) rfl fun a ha => ?_ | refine pY ha (yLoadR Tryd.isAgg3 hs (by rfl) (by repeat first | exact .here | apply Pick.there) (by rfl)) rfl fun a ha => ?_ | refine pY ha (yLoadR0 Tryd.isAgg3 hs (by rfl) (by repeat first | exact .here | apply Pick.there) (by rfl)) rfl fun a ha => ?_
      refine pC ha (nCall Tryd.call34 (by rfl)) rfl (OutNum_c (st := wNum s0 x.id) x.parent (by omega) hs (by repeat first | exact .here | apply Pick.there)) ?_
      rintro v w ⟨rfl, hs⟩ a ha
      refine pZ ?_
      refine hK7 _ _ ?_
      refine wp_seq_k fun K8 hK8 => ?_
      refine wp_region_lit ?_
      refine pY ha (yMove (by rfl)) rfl fun a ha => ?_
      refine pY ha (yMove (by rfl)) rfl fun a ha => ?_
      refine pY ha (yMove (by rfl)) rfl fun a ha => ?_
      refine pY ha (yIndexA Tryd.runUnderlying47 Tryd.sizeOf65 (by rfl) (by rfl) (by omega) (by omega)) rfl fun a ha => ?_
      refine pY ha (yFieldA Tryd.runUnderlying65 rfl Tryd.sizeOf9 rfl (by rfl)) rfl fun a ha => ?_
      first | refine pY ha (yLoadB Tryd.isAgg9 hs (by rfl) (by repeat first | exact .here | apply Pick.there) (by rfl)) rfl fun a ha => ?_ | refine pY ha (yLoadR Tryd.isAgg9 hs (by rfl) (by repeat first | exact .here | apply Pick.there) (by rfl)) rfl fun a ha => ?_ | refine pY ha (yLoadR0 Tryd.isAgg9 hs (by rfl) (by repeat first | exact .here | apply Pick.there) (by rfl)) rfl fun a ha => ?_
      refine pC ha (nCall Tryd.call43 (by rfl)) rfl (OutText_c (st := wNum (wNum s0 x.id) x.parent) x.name (by omega) (by omega) hs (by repeat first | exact .here | apply Pick.there)) ?_
      rintro v w ⟨rfl, hs⟩ a ha
      refine pZ ?_
      refine hK8 _ _ ?_
      refine wp_seq_k fun K9 hK9 => ?_
      refine wp_region_lit ?_
      refine pY ha (yMove (by rfl)) rfl fun a ha => ?_
      refine pY ha (yMove (by rfl)) rfl fun a ha => ?_
      refine pY ha (yMove (by rfl)) rfl fun a ha => ?_
      refine pY ha (yIndexA Tryd.runUnderlying47 Tryd.sizeOf65 (by rfl) (by rfl) (by omega) (by omega)) rfl fun a ha => ?_
      refine pY ha (yFieldA Tryd.runUnderlying65 rfl Tryd.sizeOf4 rfl (by rfl)) rfl fun a ha => ?_
      first | refine pY ha (yLoadB Tryd.isAgg4 hs (by rfl) (by repeat first | exact .here | apply Pick.there) (by rfl)) rfl fun a ha => ?_ | refine pY ha (yLoadR Tryd.isAgg4 hs (by rfl) (by repeat first | exact .here | apply Pick.there) (by rfl)) rfl fun a ha => ?_ | refine pY ha (yLoadR0 Tryd.isAgg4 hs (by rfl) (by repeat first | exact .here | apply Pick.there) (by rfl)) rfl fun a ha => ?_
      refine pC ha (nCall Tryd.call44 (by rfl)) rfl (OutFlag_c (st := wText (wNum (wNum s0 x.id) x.parent) x.name) x.dir (by omega) hs (by repeat first | exact .here | apply Pick.there)) ?_
      rintro v w ⟨rfl, hs⟩ a ha
      refine pZ ?_
      refine hK9 _ _ ?_
      refine wp_region_lit ?_
      refine pY ha (yMove (by rfl)) rfl fun a ha => ?_
      refine pY ha (yMove (by rfl)) rfl fun a ha => ?_
      refine pY ha (yMove (by rfl)) rfl fun a ha => ?_
      refine pY ha (yIndexA Tryd.runUnderlying47 Tryd.sizeOf65 (by rfl) (by rfl) (by omega) (by omega)) rfl fun a ha => ?_
      refine pY ha (yFieldA Tryd.runUnderlying65 rfl Tryd.sizeOf9 rfl (by rfl)) rfl fun a ha => ?_
      first | refine pY ha (yLoadB Tryd.isAgg9 hs (by rfl) (by repeat first | exact .here | apply Pick.there) (by rfl)) rfl fun a ha => ?_ | refine pY ha (yLoadR Tryd.isAgg9 hs (by rfl) (by repeat first | exact .here | apply Pick.there) (by rfl)) rfl fun a ha => ?_ | refine pY ha (yLoadR0 Tryd.isAgg9 hs (by rfl) (by repeat first | exact .here | apply Pick.there) (by rfl)) rfl fun a ha => ?_
      refine pC ha (nCall Tryd.call43 (by rfl)) rfl (OutText_c (st := wFlag (wText (wNum (wNum s0 x.id) x.parent) x.name) x.dir) x.text (by omega) (by omega) hs (by repeat first | exact .here | apply Pick.there)) ?_
      rintro v w ⟨rfl, hs⟩ a ha
      refine pZ ?_
      refine hK5 _ _ ?_
      refine wp_region_lit ?_
      refine pY ha (yMove (by rfl)) rfl fun a ha => ?_
      first | refine pY ha (yAddN (by rfl) (by rfl) ⟨by omega, by omega⟩) rfl fun a ha => ?_ | refine pY ha (yAdd (by rfl) (by rfl)) rfl fun a ha => ?_
      refine pY ha (yAssign (by rfl)) rfl fun a ha => ?_
      refine pZ ?_
      refine ⟨i + 1, ⟨by omega, has3 ha (by rfl) (by rfl) (by rfl), ?_⟩, by omega⟩
      rw [hf1]
      exact hs.drop2
    · refine wp_exit ?_
      show bodyPost Tryd.prog Tryd.f47 _ .normal _ _
      refine end0 rfl ha ?_
      rw [List.take_of_length_le (by omega)] at hs; exact ⟨rfl, hs.drop2⟩
theorem OutActns_c {A : Option Addr} {n c : Nat} {xs : List Actn} (hb : (wActns st xs).1.length ≤ 8796093022208) (hs : Sep W w cs) (hk : Pick cs (.wtr p 57 st) r) (hk2 : Pick r (.rd kActn (.slice A n c) xs) r2) :
    Calls P 46 #[.pointer (some ⟨p, 0, none⟩), .slice A n c] w (Rt fun v w' => v = .tuple #[] ∧ Sep W w' (.wtr p 57 (wActns st xs) :: r)) := by
  have hs := hs.pick hk
  obtain ⟨rfl, hl⟩ := hs.rd_shape (.there hk2)
  unfold maxLen at hl
  have hs := hs.cpR (.there hk2)
  have hb0 := fold_le wActn_le xs (wNum st xs.length)
  unfold wActns at hb
  refine enter Tryd.func46 Tryd.ntmps46 rfl rfl fun a (ha : Has a 57 [(0, _), (1, _)]) => ?_
  refine wp_seq_k fun K1 hK1 => ?_
  refine wp_region_lit ?_
  refine pY ha (yMove (by rfl)) rfl fun a ha => ?_
  refine pY ha (yMove (by rfl)) rfl fun a ha => ?_
  refine pY ha (yLenS Tryd.runUnderlying44 (by rfl)) rfl fun a ha => ?_
  refine pC ha (nCall Tryd.call34 (by rfl)) rfl (OutNum_c (st := st) xs.length (by omega) hs (.there .here)) ?_
  rintro v w ⟨rfl, hs⟩ a ha
  refine pZ ?_
  refine hK1 _ _ ?_
  refine wp_seq_k fun K2 hK2 => ?_
  refine wp_region_lit ?_
  refine pY ha (yAssign (by rfl)) rfl fun a ha => ?_
  refine pZ ?_
  refine hK2 _ _ ?_
  refine wp_block ?_
  refine loopI (ι := Nat) (fun i a w => i ≤ xs.length ∧ Has a 57 [(0, .pointer (some ⟨p, 0, none⟩)), (1, .slice A xs.length c), (4, .int .i64 i)] ∧ Sep W w (.wtr p 57 ((xs.take i).foldl wActn (wNum st xs.length)) :: .rd kActn (.slice A xs.length c) xs :: r)) (fun i => xs.length - i) (0) ?_ ?_
  · exact ⟨Nat.zero_le _, has3 ha (by rfl) (by rfl) (by rfl), hs⟩
  · rintro i a w ⟨h1, ha, hs⟩
    refine wp_seq_k fun K3 hK3 => ?_
    refine wp_seq_k fun K4 hK4 => ?_
    refine wp_region_lit ?_
    refine pY ha (yMove (by rfl)) rfl fun a ha => ?_
    refine pY ha (yMove (by rfl)) rfl fun a ha => ?_
    refine pY ha (yLenS Tryd.runUnderlying44 (by rfl)) rfl fun a ha => ?_
    refine pY ha (yLss (by rfl) (by rfl)) rfl fun a ha => ?_
    refine pZ ?_
    refine hK4 _ _ ?_
    first | refine cDec ha (by rfl) (fun hc12 => ?_) (fun hc12 => ?_) | refine cSplit ha (by rfl) (fun hc12 => ?_) (fun hc12 => ?_)
    · obtain ⟨x, hx⟩ : ∃ x, xs[i]? = some x := ⟨_, List.getElem?_eq_getElem (by omega)⟩
      obtain ⟨hf1, hf2⟩ := fold_at (f := wActn) wActn_le (s0 := wNum st xs.length) hx
      generalize (xs.take i).foldl wActn (wNum st xs.length) = s0 at hs hf1 hf2
      obtain ⟨b0, off, A', n', c', rfl, hs⟩ := hs.rd_actn (.there .here) hx
      have q1 := wNum_le s0 x.kind
      have q2 := wNum_le (wNum s0 x.kind) x.id
      have q3 := wNum_le (wNum (wNum s0 x.kind) x.id) x.parent
      have q4 := wText_le (wNum (wNum (wNum s0 x.kind) x.id) x.parent) x.name
      have q5 := wFlag_le (wText (wNum (wNum (wNum s0 x.kind) x.id) x.parent) x.name) x.dir
      have q6 := wComps_le (wFlag (wText (wNum (wNum (wNum s0 x.kind) x.id) x.parent) x.name) x.dir) x.ops
      have hf3 : (wComps (wFlag (wText (wNum (wNum (wNum s0 x.kind) x.id) x.parent) x.name) x.dir) x.ops).1.length ≤ 8796093022208 := Nat.le_trans hf2 hb
      refine wp_skip ?_
      refine hK3 _ _ ?_
      refine wp_seq_k fun K5 hK5 => ?_
      refine wp_block ?_
      refine wp_seq_k fun K6 hK6 => ?_
      refine wp_region_lit ?_
      refine pY ha (yMove (by rfl)) rfl fun a ha => ?_
      refine pY ha (yMove (by rfl)) rfl fun a ha => ?_
      refine pY ha (yMove (by rfl)) rfl fun a ha => ?_
      refine pY ha (yIndexA Tryd.runUnderlying44 Tryd.sizeOf63 (by rfl) (by rfl) (by omega) (by omega)) rfl fun a ha => ?_
      refine pY ha (yFieldA Tryd.runUnderlying63 rfl Tryd.sizeOf3 rfl (by rfl)) rfl fun a ha => ?_
      first | refine pY ha (yLoadB Tryd.isAgg3 hs (by rfl) (by repeat first | exact .here | apply Pick.there) (by rfl)) rfl fun a ha => ?_ | refine pY ha (yLoadR Tryd.isAgg3 hs (by rfl) (by repeat first | exact .here | apply Pick.there) (by rfl)) rfl fun a ha => ?_ | refine pY ha (yLoadR0 Tryd.isAgg3 hs (by rfl) (by repeat first | exact .here | apply Pick.there) (by rfl)) rfl fun a ha => ?_
      refine pC ha (nCall Tryd.call34 (by rfl)) rfl (OutNum_c (st := s0) x.kind (by omega) hs (by repeat first | exact .here | apply Pick.there)) ?_
      rintro v w ⟨rfl, hs⟩ a ha
      refine pZ ?_
      refine hK6 _ _ ?_
      refine wp_seq_k fun K7 hK7 => ?_
      refine wp_region_lit ?_
      refine pY ha (yMove (by rfl)) rfl fun a ha => ?_
      refine pY ha (yMove (by rfl)) rfl fun a ha => ?_
      refine pY ha (yMove (by rfl)) rfl fun a ha => ?_
      refine pY ha (yIndexA Tryd.runUnderlying44 Tryd.sizeOf63 (by rfl) (by rfl) (by omega) (by omega)) rfl fun a ha => ?_
      refine pY ha (yFieldA Tryd.runUnderlying63 rfl Tryd.sizeOf3 rfl (by rfl)) rfl fun a ha => ?_
      first | refine pY ha (yLoadB Tryd.isAgg3 hs (by rfl) (by repeat first | exact .here | apply Pick.there) (by rfl)) rfl fun a ha => ?_ | refine pY ha (yLoadR Tryd.isAgg3 hs (by rfl) (by repeat first | exact .here | apply Pick.there) (by rfl)) rfl fun a ha => ?_ | refine pY ha (yLoadR0 Tryd.isAgg3 hs (by rfl) (by repeat first | exact .here | apply Pick.there) (by rfl)) rfl fun a ha => ?_
      refine pC ha (nCall Tryd.call34 (by rfl)) rfl (OutNum_c (st := wNum s0 x.kind) x.id (by omega) hs (by repeat first | exact .here | apply Pick.there)) ?_
      rintro v w ⟨rfl, hs⟩ a ha
      refine pZ ?_
      refine hK7 _ _ ?_
      refine wp_seq_k fun K8 hK8 => ?_
      refine wp_region_lit ?_
      refine pY ha (yMove (by rfl)) rfl fun a ha => ?_
      refine pY ha (yMove (by rfl)) rfl fun a ha => ?_
      refine pY ha (yMove (by rfl)) rfl fun a ha => ?_
      refine pY ha (yIndexA Tryd.runUnderlying44 Tryd.sizeOf63 (by rfl) (by rfl) (by omega) (by omega)) rfl fun a ha => ?_
      refine pY ha (yFieldA Tryd.runUnderlying63 rfl Tryd.sizeOf3 rfl (by rfl)) rfl fun a ha => ?_
      first | refine pY ha (yLoadB Tryd.isAgg3 hs (by rfl) (by repeat first | exact .here | apply Pick.there) (by rfl)) rfl fun a ha => ?_ | refine pY ha (yLoadR Tryd.isAgg3 hs (by rfl) (by repeat first | exact .here | apply Pick.there) (by rfl)) rfl fun a ha => ?_ | refine pY ha (yLoadR0 Tryd.isAgg3 hs (by rfl) (by repeat first | exact .here | apply Pick.there) (by rfl)) rfl fun a ha => ?_
      refine pC ha (nCall Tryd.call34 (by rfl)) rfl (OutNum_c (st := wNum (wNum s0 x.kind) x.id) x.parent (by omega) hs (by repeat first | exact .here | apply Pick.there)) ?_
      rintro v w ⟨rfl, hs⟩ a ha
      refine pZ ?_
      refine hK8 _ _ ?_
      refine wp_seq_k fun K9 hK9 => ?_
      refine wp_region_lit ?_
      refine pY ha (yMove (by rfl)) rfl fun a ha => ?_
      refine pY ha (yMove (by rfl)) rfl fun a ha => ?_
      refine pY ha (yMove (by rfl)) rfl fun a ha => ?_
      refine pY ha (yIndexA Tryd.runUnderlying44 Tryd.sizeOf63 (by rfl) (by rfl) (by omega) (by omega)) rfl fun a ha => ?_
      refine pY ha (yFieldA Tryd.runUnderlying63 rfl Tryd.sizeOf9 rfl (by rfl)) rfl fun a ha => ?_
      first | refine pY ha (yLoadB Tryd.isAgg9 hs (by rfl) (by repeat first | exact .here | apply Pick.there) (by rfl)) rfl fun a ha => ?_ | refine pY ha (yLoadR Tryd.isAgg9 hs (by rfl) (by repeat first | exact .here | apply Pick.there) (by rfl)) rfl fun a ha => ?_ | refine pY ha (yLoadR0 Tryd.isAgg9 hs (by rfl) (by repeat first | exact .here | apply Pick.there) (by rfl)) rfl fun a ha => ?_
      refine pC ha (nCall Tryd.call43 (by rfl)) rfl (OutText_c (st := wNum (wNum (wNum s0 x.kind) x.id) x.parent) x.name (by omega) (by omega) hs (by repeat first | exact .here | apply Pick.there)) ?_
      rintro v w ⟨rfl, hs⟩ a ha
      refine pZ ?_
      refine hK9 _ _ ?_
      refine wp_seq_k fun K10 hK10 => ?_
      refine wp_region_lit ?_
      refine pY ha (yMove (by rfl)) rfl fun a ha => ?_
      refine pY ha (yMove (by rfl)) rfl fun a ha => ?_
      refine pY ha (yMove (by rfl)) rfl fun a ha => ?_
      refine pY ha (yIndexA Tryd.runUnderlying44 Tryd.sizeOf63 (by rfl) (by rfl) (by omega) (by omega)) rfl fun a ha => ?_
      refine pY ha (yFieldA Tryd.runUnderlying63 rfl Tryd.sizeOf4 rfl (by rfl)) rfl fun a ha => ?_
      first | refine pY ha (yLoadB Tryd.isAgg4 hs (by rfl) (by repeat first | exact .here | apply Pick.there) (by rfl)) rfl fun a ha => ?_ | refine pY ha (yLoadR Tryd.isAgg4 hs (by rfl) (by repeat first | exact .here | apply Pick.there) (by rfl)) rfl fun a ha => ?_ | refine pY ha (yLoadR0 Tryd.isAgg4 hs (by rfl) (by repeat first | exact .here | apply Pick.there) (by rfl)) rfl fun a ha => ?_
      refine pC ha (nCall Tryd.call44 (by rfl)) rfl (OutFlag_c (st := wText (wNum (wNum (wNum s0 x.kind) x.id) x.parent) x.name) x.dir (by omega) hs (by repeat first | exact .here | apply Pick.there)) ?_
      rintro v w ⟨rfl, hs⟩ a ha
      refine pZ ?_
      refine hK10 _ _ ?_
      refine wp_region_lit ?_
      refine pY ha (yMove (by rfl)) rfl fun a ha => ?_
      refine pY ha (yMove (by rfl)) rfl fun a ha => ?_
      refine pY ha (yMove (by rfl)) rfl fun a ha => ?_
      refine pY ha (yIndexA Tryd.runUnderlying44 Tryd.sizeOf63 (by rfl) (by rfl) (by omega) (by omega)) rfl fun a ha => ?_
      refine pY ha (yFieldA Tryd.runUnderlying63 rfl Tryd.sizeOf41 rfl (by rfl)) rfl fun a ha => ?_
      first | refine pY ha (yLoadB Tryd.isAgg41 hs (by rfl) (by repeat first | exact .here | apply Pick.there) (by rfl)) rfl fun a ha => ?_ | refine pY ha (yLoadR Tryd.isAgg41 hs (by rfl) (by repeat first | exact .here | apply Pick.there) (by rfl)) rfl fun a ha => ?_ | refine pY ha (yLoadR0 Tryd.isAgg41 hs (by rfl) (by repeat first | exact .here | apply Pick.there) (by rfl)) rfl fun a ha => ?_
      refine pC ha (nCall Tryd.call45 (by rfl)) rfl (OutComps_c (st := wFlag (wText (wNum (wNum (wNum s0 x.kind) x.id) x.parent) x.name) x.dir) (by omega) hs (by repeat first | exact .here | apply Pick.there) (by repeat first | exact .here | apply Pick.there)) ?_
      rintro v w ⟨rfl, hs⟩ a ha
      refine pZ ?_
      refine hK5 _ _ ?_
      refine wp_region_lit ?_
      refine pY ha (yMove (by rfl)) rfl fun a ha => ?_
      first | refine pY ha (yAddN (by rfl) (by rfl) ⟨by omega, by omega⟩) rfl fun a ha => ?_ | refine pY ha (yAdd (by rfl) (by rfl)) rfl fun a ha => ?_
      refine pY ha (yAssign (by rfl)) rfl fun a ha => ?_
      refine pZ ?_
      refine ⟨i + 1, ⟨by omega, has3 ha (by rfl) (by rfl) (by rfl), ?_⟩, by omega⟩
      rw [hf1]
      exact hs.drop2.drop2
    · refine wp_exit ?_
      show bodyPost Tryd.prog Tryd.f46 _ .normal _ _
      refine end0 rfl ha ?_
      rw [List.take_of_length_le (by omega)] at hs; exact ⟨rfl, hs.drop2⟩
end
end Go.Proofs.YtnkcmpmcmkljnaaDoor
