/- Writing texts, blocks of letters: the walks. -/
import Derived.Test.YtnkcmpmcmkljnaaDoorLimA
set_option linter.unusedVariables false
set_option linter.unusedSimpArgs false
namespace Go.Proofs.YtnkcmpmcmkljnaaDoor
open Go.RowKit Go.Lib
theorem elLimB25 : ElemT Tryd.prog 25 5 1 1 := elemT_mk Tryd.underlying25 rfl (by kernel_rfl)
section
variable {W w : World} {cs r : List Ch} {p : Nat} {st : Wt}
theorem Block_c (size : Nat) (k : Int) (h1 : size ≤ 100000) (h2 : 0 ≤ k) (h3 : k ≤ 1000000) (hs : Sep W w cs) :
    Calls P 33 #[.int .i64 size, .int .i64 k] w (Rt fun v w' => v = .string ⟨(blockL size k).toArray⟩ ∧ Sep W w' cs) := by
  refine enter Tryd.func33 Tryd.ntmps33 rfl rfl fun a (ha : Has a 26 [(0, _), (1, _)]) => ?_
  refine wp_seq_k fun K1 hK1 => ?_
  refine wp_region_lit ?_
  refine pY ha (yAssign (by rfl)) rfl fun a ha => ?_
  refine pZ ?_
  refine hK1 _ _ ?_
  refine wp_seq_k fun K2 hK2 => ?_
  refine wp_region_lit ?_
  refine pY ha (yMove (by rfl)) rfl fun a ha => ?_
  refine pMakeS ha (by rfl) (by rfl) (by omega) hs rfl fun b w hs a ha => ?_
  refine pY ha (yAssign (by rfl)) rfl fun a ha => ?_
  refine pZ ?_
  refine hK2 _ _ ?_
  refine wp_seq_k fun K3 hK3 => ?_
  refine wp_seq_k fun K4 hK4 => ?_
  refine wp_region_lit ?_
  refine pY ha (yAssign (by rfl)) rfl fun a ha => ?_
  refine pZ ?_
  refine hK4 _ _ ?_
  refine wp_block ?_
  refine loopI (ι := Nat × List Value) (fun i a w => i.1 ≤ size ∧ i.2.length = size ∧ (∀ j, j < i.1 → i.2[j]? = some (.int .u8 ((UInt8.ofNat ((97 + (k * 7 + (j : Int)) % 26).toNat)).toNat : Int))) ∧ Has a 26 [(0, .int .i64 size), (1, .int .i64 k), (5, .slice (some ⟨b, 0, none⟩) size size), (6, .int .i64 i.1)] ∧ Sep W w (.blk b 5 i.2 :: cs)) (fun i => size - i.1) ((0, List.replicate size (.int .u8 0))) ?_ ?_
  · exact ⟨Nat.zero_le _, by simp, fun j hj => absurd hj (by simp), has4 ha (by rfl) (by rfl) (by rfl) (by rfl), hs⟩
  · rintro i a w ⟨h4, h5, h6, ha, hs⟩
    obtain ⟨i, vs⟩ := i; simp only at h4 h5 h6 ha hs
    refine wp_seq_k fun K5 hK5 => ?_
    refine wp_seq_k fun K6 hK6 => ?_
    refine wp_region_lit ?_
    refine pY ha (yMove (by rfl)) rfl fun a ha => ?_
    refine pY ha (yMove (by rfl)) rfl fun a ha => ?_
    refine pY ha (yLss (by rfl) (by rfl)) rfl fun a ha => ?_
    refine pZ ?_
    refine hK6 _ _ ?_
    first | refine cDec ha (by rfl) (fun hc11 => ?_) (fun hc11 => ?_) | refine cSplit ha (by rfl) (fun hc11 => ?_) (fun hc11 => ?_)
    · refine wp_skip ?_
      refine hK5 _ _ ?_
      refine wp_seq_k fun K7 hK7 => ?_
      refine wp_block ?_
      refine wp_region_lit ?_
      refine pY ha (yMove (by rfl)) rfl fun a ha => ?_
      refine pY ha (yMove (by rfl)) rfl fun a ha => ?_
      refine pY ha (yMove (by rfl)) rfl fun a ha => ?_
      first | refine pY ha (yMulN (by rfl) (by rfl) ⟨by omega, by omega⟩) rfl fun a ha => ?_ | refine pY ha (yMul (by rfl) (by rfl)) rfl fun a ha => ?_
      refine pY ha (yMove (by rfl)) rfl fun a ha => ?_
      first | refine pY ha (yAddN (by rfl) (by rfl) ⟨by omega, by omega⟩) rfl fun a ha => ?_ | refine pY ha (yAdd (by rfl) (by rfl)) rfl fun a ha => ?_
      refine pC ha (nCall Tryd.call14 (by rfl)) rfl (Round_c _ 26 (by decide) (by decide) ⟨by omega, by omega⟩ hs) ?_
      rintro v w ⟨rfl, hs⟩ a ha
      first | refine pY ha (yAddN (by rfl) (by rfl) ⟨by omega, by omega⟩) rfl fun a ha => ?_ | refine pY ha (yAdd (by rfl) (by rfl)) rfl fun a ha => ?_
      first | refine pY ha (yConvU8 (fun w => ⟨_, Tryd.runUnderlying3 w⟩) Tryd.runUnderlying5 (by rfl) (by omega) (by omega)) rfl fun a ha => ?_ | refine pY ha (yConvInt (fun w => ⟨_, Tryd.runUnderlying3 w⟩) Tryd.runUnderlying5 (by rfl)) rfl fun a ha => ?_
      refine pY ha (yIndexA Tryd.runUnderlying25 Tryd.sizeOf5 (by rfl) (by rfl) (by omega) (by omega)) rfl fun a ha => ?_
      refine pStore ha Tryd.sizeOf5 hs (by rfl) (by rfl) rfl rfl (by repeat first | exact .here | apply Pick.there) (List.getElem?_eq_getElem (i := 0 + (i : Int).toNat * 1) (by omega)) fun w hs => ?_
      refine pZ ?_
      refine hK7 _ _ ?_
      refine wp_region_lit ?_
      refine pY ha (yMove (by rfl)) rfl fun a ha => ?_
      first | refine pY ha (yAddN (by rfl) (by rfl) ⟨by omega, by omega⟩) rfl fun a ha => ?_ | refine pY ha (yAdd (by rfl) (by rfl)) rfl fun a ha => ?_
      refine pY ha (yAssign (by rfl)) rfl fun a ha => ?_
      refine pZ ?_
      refine ⟨(i + 1, _), ⟨by simp only; omega, ?_, ?_, has4 ha (by rfl) (by rfl) (by rfl) (by rfl), hs⟩, by simp only; omega⟩
      · simpa using h5
      · intro j hj
        simp only at hj
        have e1 : (0 + (i : Int).toNat * 1) = i := by omega
        simp only [e1]
        by_cases hji : j = i
        · subst hji; rw [List.getElem?_set_self (by omega)]
        · rw [List.getElem?_set_ne (by omega)]; exact h6 j (by omega)
    · refine wp_exit ?_
      refine hK3 _ _ ?_
      refine wp_seq_k fun K8 hK8 => ?_
      have hlb : (blockL size k).length = size := by simp [blockL]
      have hs := (Sep.flat_ol (xs := blockL size k) (cap := size) kU8_flat hs .here (fun x _ Z => rfl) (by omega) (by unfold maxLen; omega) h5 (fun j x hx => by
        have hj : j < size := by rw [← hlb]; exact (List.getElem?_eq_some_iff.1 hx).1
        rw [h6 j (by omega)]
        simp only [blockL, List.getElem?_map, List.getElem?_range hj, Option.map_some, Option.some.injEq] at hx
        rw [← hx])).ol_rd .here
      rw [hlb] at hs
      refine wp_region_lit ?_
      refine pY ha (yMove (by rfl)) rfl fun a ha => ?_
      refine pY ha (yBytesStr Tryd.underlying25 Tryd.underlying5 Tryd.underlying9 hs (by rfl) (by repeat first | exact .here | apply Pick.there)) rfl fun a ha => ?_
      refine pY ha (yAssign (by rfl)) rfl fun a ha => ?_
      refine pZ ?_
      refine hK8 _ _ ?_
      refine wp_ret ?_
      show bodyPost Tryd.prog Tryd.f33 _ .ret _ _
      refine ret1 rfl ha (by rfl) ?_
      exact ⟨rfl, hs.drop⟩
theorem WrText_c (hT : Tabs W) (s : ByteArray) (hsz : s.size ≤ 9223372036854775807) (hb : (wText st s).1.length ≤ 140737488355328) (hs : Sep W w cs) (hk : Pick cs (.wtr p 53 st) r) :
    Calls P 32 #[.pointer (some ⟨p, 0, none⟩), .string s] w (Rt fun v w' => v = .pointer (some ⟨p, 0, none⟩) ∧ Sep W w' (.wtr p 53 (wText st s) :: r)) := by
  obtain ⟨A, c, hs⟩ := hs.wtr_open hk
  have hlen : (wNum (st.1, st.2 || !okText s.data.toList) s.size).1.length + s.data.toList.length ≤ 140737488355328 := by simpa [wText] using hb
  obtain ⟨bs, bad⟩ := st
  simp only at hs hlen
  refine enter Tryd.func32 Tryd.ntmps32 rfl rfl fun a (ha : Has a 36 [(0, _), (1, _)]) => ?_
  refine wp_seq_k fun K1 hK1 => ?_
  refine wp_region_lit ?_
  refine pY ha (yAssign (by rfl)) rfl fun a ha => ?_
  refine pZ ?_
  refine hK1 _ _ ?_
  refine wp_seq_k fun K2 hK2 => ?_
  refine wp_seq_k fun K3 hK3 => ?_
  refine wp_region_lit ?_
  refine pY ha (yMove (by rfl)) rfl fun a ha => ?_
  refine pY ha (yPtrNeqN Tryd.underlying28 (by rfl) (by rfl)) rfl fun a ha => ?_
  refine pZ ?_
  refine hK3 _ _ ?_
  refine cTrue ha (by rfl) ?_
  refine wp_seq_k fun K4 hK4 => ?_
  refine cutC (fun a w => Has a 36 [(0, .pointer (some ⟨p, 0, none⟩)), (1, .string s)] ∧ Sep W w (.blk p 53 [.slice A bs.length c, .bool (bad || !okText s.data.toList)] :: .ol kU8 5 (.slice A bs.length c) bs :: r)) ?_ ?_
  · refine wp_region_lit ?_
    refine pY ha (yMove (by rfl)) rfl fun a ha => ?_
    refine pY ha (yMove (by rfl)) rfl fun a ha => ?_
    refine pY ha (yNilP (by rfl)) rfl fun a ha => ?_
    refine pY ha (yFieldA Tryd.runUnderlying53 rfl Tryd.sizeOf4 rfl (by rfl)) rfl fun a ha => ?_
    first | refine pY ha (yLoadB Tryd.isAgg4 hs (by rfl) (by repeat first | exact .here | apply Pick.there) (by rfl)) rfl fun a ha => ?_ | refine pY ha (yLoadR Tryd.isAgg4 hs (by rfl) (by repeat first | exact .here | apply Pick.there) (by rfl)) rfl fun a ha => ?_ | refine pY ha (yLoadR0 Tryd.isAgg4 hs (by rfl) (by repeat first | exact .here | apply Pick.there) (by rfl)) rfl fun a ha => ?_
    refine pY ha (yMove (by rfl)) rfl fun a ha => ?_
    refine gSplit (t := 14) ha (by rfl) (fun hg5 => ?_) (fun hg5 => ?_)
    · rw [hg5] at ha
      refine gOn ha rfl rfl (by rfl) ?_
      refine pY ha (yMove (by rfl)) rfl fun a ha => ?_
      refine gOn ha rfl rfl (by rfl) ?_
      refine pC ha (nCall Tryd.call55 (by rfl)) rfl (Valid_c hT s hsz hs) ?_
      rintro v w ⟨rfl, hs⟩ a ha
      refine gOn ha rfl rfl (by rfl) ?_
      refine pY ha (yNot (by rfl)) rfl fun a ha => ?_
      first | refine pY ha (yPickT (by rfl) (by rfl)) rfl fun a ha => ?_ | refine pY ha (yPickF (by rfl) (by rfl)) rfl fun a ha => ?_ | refine pY ha (yPick (by rfl) (by rfl) (by rfl)) rfl fun a ha => ?_
      refine pY ha (yNilP (by rfl)) rfl fun a ha => ?_
      refine pY ha (yFieldA Tryd.runUnderlying53 rfl Tryd.sizeOf4 rfl (by rfl)) rfl fun a ha => ?_
      refine pStore ha Tryd.sizeOf4 hs (by rfl) (by rfl) rfl rfl (by repeat first | exact .here | apply Pick.there) (by rfl) fun w hs => ?_
      refine pZ ⟨rfl, ?_⟩
      rw [hg5]; exact ⟨has2 ha (by rfl) (by rfl), hs⟩
    · rw [hg5] at ha
      refine gOff ha rfl rfl (by rfl) rfl rfl fun a ha => ?_
      refine gOff ha rfl rfl (by rfl) rfl rfl fun a ha => ?_
      refine gOff ha rfl rfl (by rfl) rfl rfl fun a ha => ?_
      first | refine pY ha (yPickT (by rfl) (by rfl)) rfl fun a ha => ?_ | refine pY ha (yPickF (by rfl) (by rfl)) rfl fun a ha => ?_ | refine pY ha (yPick (by rfl) (by rfl) (by rfl)) rfl fun a ha => ?_
      refine pY ha (yNilP (by rfl)) rfl fun a ha => ?_
      refine pY ha (yFieldA Tryd.runUnderlying53 rfl Tryd.sizeOf4 rfl (by rfl)) rfl fun a ha => ?_
      refine pStore ha Tryd.sizeOf4 hs (by rfl) (by rfl) rfl rfl (by repeat first | exact .here | apply Pick.there) (by rfl) fun w hs => ?_
      refine pZ ⟨rfl, ?_⟩
      rw [hg5]; exact ⟨has2 ha (by rfl) (by rfl), hs⟩
  rintro a w ⟨ha, hs⟩
  refine hK4 _ _ ?_
  refine wp_seq_k fun K5 hK5 => ?_
  have hs := hs.wtr_shut .here .here
  refine wp_region_lit ?_
  refine pY ha (yMove (by rfl)) rfl fun a ha => ?_
  refine pY ha (yLenStr Tryd.runUnderlying9 (by rfl)) rfl fun a ha => ?_
  refine pY ha (yAssign (by rfl)) rfl fun a ha => ?_
  refine pZ ?_
  refine hK5 _ _ ?_
  refine wp_seq_k fun K6 hK6 => ?_
  refine wp_region_lit ?_
  refine pY ha (yMove (by rfl)) rfl fun a ha => ?_
  refine pY ha (yMove (by rfl)) rfl fun a ha => ?_
  refine pC ha (nCall Tryd.call12 (by rfl)) rfl (WrNum_c s.size (by omega) hs .here) ?_
  rintro v w ⟨rfl, hs⟩ a ha
  refine pY ha (yAssign (by rfl)) rfl fun a ha => ?_
  refine pZ ?_
  refine hK6 _ _ ?_
  obtain ⟨A', c', hs⟩ := hs.wtr_open .here
  refine wp_region_lit ?_
  refine pY ha (yMove (by rfl)) rfl fun a ha => ?_
  refine pY ha (yMove (by rfl)) rfl fun a ha => ?_
  refine pY ha (yNilP (by rfl)) rfl fun a ha => ?_
  refine pY ha (yFieldA Tryd.runUnderlying53 rfl Tryd.sizeOf25 rfl (by rfl)) rfl fun a ha => ?_
  first | refine pY ha (yLoadB Tryd.isAgg25 hs (by rfl) (by repeat first | exact .here | apply Pick.there) (by rfl)) rfl fun a ha => ?_ | refine pY ha (yLoadR Tryd.isAgg25 hs (by rfl) (by repeat first | exact .here | apply Pick.there) (by rfl)) rfl fun a ha => ?_ | refine pY ha (yLoadR0 Tryd.isAgg25 hs (by rfl) (by repeat first | exact .here | apply Pick.there) (by rfl)) rfl fun a ha => ?_
  refine pY ha (yMove (by rfl)) rfl fun a ha => ?_
  refine pAppStr ha elLimB25 Tryd.underlying9 (by rfl) (by rfl) hs (by repeat first | exact .here | apply Pick.there) (by first | omega | (unfold maxLen; omega) | (simp [maxLen]; done) | (simp [maxLen]; omega)) (by first | omega | (unfold maxLen; omega) | (simp [maxLen]; done) | (simp [maxLen]; omega)) rfl fun A c w hs a ha => ?_
  refine pY ha (yNilP (by rfl)) rfl fun a ha => ?_
  refine pY ha (yFieldA Tryd.runUnderlying53 rfl Tryd.sizeOf25 rfl (by rfl)) rfl fun a ha => ?_
  refine pStore ha Tryd.sizeOf25 hs (by rfl) (by rfl) rfl rfl (by repeat first | exact .here | apply Pick.there) (by rfl) fun w hs => ?_
  refine pZ ?_
  refine hK2 _ _ ?_
  refine wp_seq_k fun K7 hK7 => ?_
  refine wp_region_lit ?_
  refine pY ha (yMove (by rfl)) rfl fun a ha => ?_
  refine pY ha (yAssign (by rfl)) rfl fun a ha => ?_
  refine pZ ?_
  refine hK7 _ _ ?_
  refine wp_ret ?_
  show bodyPost Tryd.prog Tryd.f32 _ .ret _ _
  refine ret1 rfl ha (by rfl) ?_
  exact ⟨rfl, hs.wtr_shut .here .here⟩
theorem OutNum_c (n : Int) (hb : (wNum st n).1.length ≤ 140737488355328) (hs : Sep W w cs) (hk : Pick cs (.wtr p 57 st) r) :
    Calls P 34 #[.pointer (some ⟨p, 0, none⟩), .int .i64 n] w (Rt fun v w' => v = .tuple #[] ∧ Sep W w' (.wtr p 57 (wNum st n) :: r)) := by
  obtain ⟨A, c, hs⟩ := hs.wtr_open hk
  have hlen : st.1.length + (put n).length ≤ 140737488355328 := by simpa [wNum] using hb
  obtain ⟨bs, bad⟩ := st
  simp only at hs hlen
  refine enter Tryd.func34 Tryd.ntmps34 rfl rfl fun a (ha : Has a 26 [(0, _), (1, _)]) => ?_
  refine wp_seq_k fun K1 hK1 => ?_
  refine cutC (fun a w => Has a 26 [(0, .pointer (some ⟨p, 0, none⟩)), (1, .int .i64 n)] ∧ Sep W w (.blk p 57 [.slice A bs.length c, .bool (bad || !fits n)] :: .ol kU8 5 (.slice A bs.length c) bs :: r)) ?_ ?_
  · refine wp_region_lit ?_
    refine pY ha (yMove (by rfl)) rfl fun a ha => ?_
    refine pY ha (yMove (by rfl)) rfl fun a ha => ?_
    refine pY ha (yNilP (by rfl)) rfl fun a ha => ?_
    refine pY ha (yFieldA Tryd.runUnderlying57 rfl Tryd.sizeOf4 rfl (by rfl)) rfl fun a ha => ?_
    first | refine pY ha (yLoadB Tryd.isAgg4 hs (by rfl) (by repeat first | exact .here | apply Pick.there) (by rfl)) rfl fun a ha => ?_ | refine pY ha (yLoadR Tryd.isAgg4 hs (by rfl) (by repeat first | exact .here | apply Pick.there) (by rfl)) rfl fun a ha => ?_ | refine pY ha (yLoadR0 Tryd.isAgg4 hs (by rfl) (by repeat first | exact .here | apply Pick.there) (by rfl)) rfl fun a ha => ?_
    refine pY ha (yMove (by rfl)) rfl fun a ha => ?_
    refine gSplit (t := 9) ha (by rfl) (fun hg5 => ?_) (fun hg5 => ?_)
    · rw [hg5] at ha
      refine gOn ha rfl rfl (by rfl) ?_
      refine pY ha (yMove (by rfl)) rfl fun a ha => ?_
      refine gOn ha rfl rfl (by rfl) ?_
      refine pC ha (nCall Tryd.call60 (by rfl)) rfl (RFits_c _ hs) ?_
      rintro v w ⟨rfl, hs⟩ a ha
      refine gOn ha rfl rfl (by rfl) ?_
      refine pY ha (yNot (by rfl)) rfl fun a ha => ?_
      first | refine pY ha (yPickT (by rfl) (by rfl)) rfl fun a ha => ?_ | refine pY ha (yPickF (by rfl) (by rfl)) rfl fun a ha => ?_ | refine pY ha (yPick (by rfl) (by rfl) (by rfl)) rfl fun a ha => ?_
      refine pY ha (yNilP (by rfl)) rfl fun a ha => ?_
      refine pY ha (yFieldA Tryd.runUnderlying57 rfl Tryd.sizeOf4 rfl (by rfl)) rfl fun a ha => ?_
      refine pStore ha Tryd.sizeOf4 hs (by rfl) (by rfl) rfl rfl (by repeat first | exact .here | apply Pick.there) (by rfl) fun w hs => ?_
      refine pZ ⟨rfl, ?_⟩
      rw [hg5]; exact ⟨has2 ha (by rfl) (by rfl), hs⟩
    · rw [hg5] at ha
      refine gOff ha rfl rfl (by rfl) rfl rfl fun a ha => ?_
      refine gOff ha rfl rfl (by rfl) rfl rfl fun a ha => ?_
      refine gOff ha rfl rfl (by rfl) rfl rfl fun a ha => ?_
      first | refine pY ha (yPickT (by rfl) (by rfl)) rfl fun a ha => ?_ | refine pY ha (yPickF (by rfl) (by rfl)) rfl fun a ha => ?_ | refine pY ha (yPick (by rfl) (by rfl) (by rfl)) rfl fun a ha => ?_
      refine pY ha (yNilP (by rfl)) rfl fun a ha => ?_
      refine pY ha (yFieldA Tryd.runUnderlying57 rfl Tryd.sizeOf4 rfl (by rfl)) rfl fun a ha => ?_
      refine pStore ha Tryd.sizeOf4 hs (by rfl) (by rfl) rfl rfl (by repeat first | exact .here | apply Pick.there) (by rfl) fun w hs => ?_
      refine pZ ⟨rfl, ?_⟩
      rw [hg5]; exact ⟨has2 ha (by rfl) (by rfl), hs⟩
  rintro a w ⟨ha, hs⟩
  refine hK1 _ _ ?_
  refine dStart (fun w => Sep W w _) [7, 10] (by kernel_rfl) rfl (hs.drew) ?_
  have hs := Sep.drew hs
  generalize World.drew _ = w at hs ⊢
  refine dP 0 rfl (by kernel_rfl) ha won0 (fun _ => yMove (by rfl)) rfl (fun _ _ _ h => h) fun a ha => ?_
  refine dP 1 rfl (by kernel_rfl) ha won0 (fun _ => yMove (by rfl)) rfl (fun _ _ _ h => h) fun a ha => ?_
  refine dP 2 rfl (by kernel_rfl) ha won0 (fun _ => yNilP (by rfl)) rfl (fun _ _ _ h => h) fun a ha => ?_
  refine dP 3 rfl (by kernel_rfl) ha won0 (fun _ => yFieldA Tryd.runUnderlying57 rfl Tryd.sizeOf25 rfl (by rfl)) rfl (fun _ _ _ h => h) fun a ha => ?_
  first | refine dT 4 rfl (by kernel_rfl) ha won0 (fun _ hs => yLoadB Tryd.isAgg25 hs (by rfl) (by repeat first | exact .here | apply Pick.there) (by rfl)) (hs) rfl (fun _ _ _ h => h) fun a ha => ?_ | refine dT 4 rfl (by kernel_rfl) ha won0 (fun _ hs => yLoadR Tryd.isAgg25 hs (by rfl) (by repeat first | exact .here | apply Pick.there) (by rfl)) (hs) rfl (fun _ _ _ h => h) fun a ha => ?_ | refine dT 4 rfl (by kernel_rfl) ha won0 (fun _ hs => yLoadR0 Tryd.isAgg25 hs (by rfl) (by repeat first | exact .here | apply Pick.there) (by rfl)) (hs) rfl (fun _ _ _ h => h) fun a ha => ?_
  refine dP 5 rfl (by kernel_rfl) ha won0 (fun _ => yMove (by rfl)) rfl (fun _ _ _ h => h) fun a ha => ?_
  refine dC 6 rfl (by kernel_rfl) rfl ha won0 (nCall Tryd.call61 (by rfl)) rfl (RPut_c _ hs) ?_
  rintro v w ⟨A', c', rfl, hs⟩
  refine ⟨hs.drop, fun a ha => ?_⟩
  have hs := hs.ol_rd .here
  first | refine dApp1l 7 rfl (by kernel_rfl) rfl ha won0 elLimB25 (by rfl) (by rfl) hs (by repeat first | exact .here | apply Pick.there) (by repeat first | exact .here | apply Pick.there) (by repeat first | exact .here | apply Pick.there) (by rfl) (by first | omega | (unfold maxLen; omega) | (simp [maxLen]; done) | (simp [maxLen]; omega)) (by first | omega | (unfold maxLen; omega) | (simp [maxLen]; done) | (simp [maxLen]; omega)) rfl fun A c w hs a ha => ?_ | refine dAppRdl 7 rfl (by kernel_rfl) rfl ha won0 elLimB25 (by rfl) (by rfl) hs (by repeat first | exact .here | apply Pick.there) (by repeat first | exact .here | apply Pick.there) (by rfl) (by first | omega | (unfold maxLen; omega) | (simp [maxLen]; done) | (simp [maxLen]; omega)) (by first | omega | (unfold maxLen; omega) | (simp [maxLen]; done) | (simp [maxLen]; omega)) rfl fun A c w hs a ha => ?_ | refine dApp1Fl 7 rfl (by kernel_rfl) rfl ha won0 elLimB25 (by rfl) (by rfl) hs (by repeat first | exact .here | apply Pick.there) (by repeat first | exact .here | apply Pick.there) (by intro Z; first | rfl | exact ⟨rfl, by omega, by omega⟩) (by rfl) (by first | omega | (unfold maxLen; omega) | (simp [maxLen]; done) | (simp [maxLen]; omega)) (by first | omega | (unfold maxLen; omega) | (simp [maxLen]; done) | (simp [maxLen]; omega)) rfl fun A c w hs a ha => ?_
  refine dP 8 rfl (by kernel_rfl) ha won0 (fun _ => yNilP (by rfl)) rfl (fun _ _ _ h => h) fun a ha => ?_
  refine dP 9 rfl (by kernel_rfl) ha won0 (fun _ => yFieldA Tryd.runUnderlying57 rfl Tryd.sizeOf25 rfl (by rfl)) rfl (fun _ _ _ h => h) fun a ha => ?_
  refine dStorel 10 rfl (by kernel_rfl) rfl ha won0 Tryd.sizeOf25 hs (by rfl) (by rfl) rfl rfl (by repeat first | exact .here | apply Pick.there) (by rfl) fun w hs => ?_
  refine dZ (by kernel_rfl) ?_
  show bodyPost Tryd.prog Tryd.f34 _ .normal _ _
  refine end0 rfl ha ?_
  exact ⟨rfl, (hs.wtr_shut .here .here).drop2⟩
end
end Go.Proofs.YtnkcmpmcmkljnaaDoor
