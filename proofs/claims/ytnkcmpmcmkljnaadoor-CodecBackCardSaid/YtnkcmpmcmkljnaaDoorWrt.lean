/- The codec's writer, the document's writer: the walks. -/
import Derived.Test.YtnkcmpmcmkljnaaDoorSame
set_option linter.unusedVariables false
set_option linter.unusedSimpArgs false
namespace Go.Proofs.YtnkcmpmcmkljnaaDoor
open Go.RowKit Go.Lib
theorem bslWrt25_2_0_1 {w : World} {l : List (Nat × Value)} {T : TypeId} {x0 x1 : Operand} {v0 : Value} (h0 : ev l x0 = some v0) {v1 : Value} (h1 : ev l x1 = some v1) (o0 : v0.cells = #[v0] := by rfl) (o1 : v1.cells = #[v1] := by rfl) : Mk Tryd.prog w l (.buildSlice 25 2 #[(0, x0), (1, x1)]) T 5 2 [v0, v1] := fun ρ o h ho _ => by
  have hm := mkvs (P := Tryd.prog) [v0, v1] w Tryd.runUnderlying25 Tryd.sizeOf5 Tryd.zeroValue5 (by intro v hv; simp at hv; rcases hv with rfl | rfl <;> assumption) (by simp) (by simp)
  unfold execOp; rw [ho]
  simp only [h _ _ h0, h _ _ h1, List.map_toArray, List.map_cons, List.map_nil]
  simp only [List.length_cons, List.length_nil, prt] at hm
  simp at hm
  simp [hm]
theorem elWrt25 : ElemT Tryd.prog 25 5 1 1 := elemT_mk Tryd.underlying25 rfl (by kernel_rfl)
abbrev Wt := List UInt8 × Bool
def wNum (st : Wt) (n : Int) : Wt := (st.1 ++ put n, st.2 || !fits n)
def wText (st : Wt) (s : ByteArray) : Wt := let q := wNum (st.1, st.2 || !okText s.data.toList) s.size; (q.1 ++ s.data.toList, q.2)
def wFlag (st : Wt) (b : Bool) : Wt := wNum st (if b then 1 else 0)
def Ch.wtr (p : Nat) (T : TypeId) (st : Wt) : Ch := .ex (Option Addr × Nat) fun x => .star (.blk p T [.slice x.1 st.1.length x.2, .bool st.2]) (.ol kU8 5 (.slice x.1 st.1.length x.2) st.1)
theorem tailD_lt : ∀ (k n : Nat), n < 128 ^ k → (tailD n).length ≤ k
  | 0, n, h => by
    obtain rfl : n = 0 := by simpa using h
    simp [tailD_zero]
  | k + 1, n, h => by
    rcases Nat.eq_zero_or_pos n with rfl | h0
    · simp [tailD_zero]
    · rw [tailD_pos h0, List.length_cons]
      have := tailD_lt k (n / 128) (by rw [Nat.div_lt_iff_lt_mul (by decide)]; rw [Nat.pow_succ] at h; exact h)
      omega
theorem put_six (n : Int) : (put n).length ≤ 6 := by
  unfold put
  split
  · rename_i h
    have h' : 0 ≤ n ∧ n ≤ 1099511627776 := by simpa [fits] using h
    have := tailD_lt 5 (n.toNat / 128) (by omega)
    simp only [List.length_reverse, List.length_cons]
    omega
  · simp
section
variable {W w : World} {cs r : List Ch} {p : Nat} {T : TypeId} {st : Wt}
theorem Sep.wtr_open (h : Sep W w cs) (hk : Pick cs (.wtr p T st) r) : ∃ A c, Sep W w (.blk p T [.slice A st.1.length c, .bool st.2] :: .ol kU8 5 (.slice A st.1.length c) st.1 :: r) := by
  obtain ⟨x, h⟩ := (h.pick hk).open_
  exact ⟨x.1, x.2, h.split⟩
theorem Sep.wtr_shut {A : Option Addr} {n c : Nat} {b : Bool} {bs : List UInt8} {r' : List Ch} (h : Sep W w cs) (hk : Pick cs (.blk p T [.slice A n c, .bool b]) r) (hk2 : Pick r (.ol kU8 5 (.slice A n c) bs) r') : Sep W w (.wtr p T (bs, b) :: r') := by
  obtain ⟨A', c', e, _⟩ := (h.pick hk).ol_len (.there hk2)
  simp only [Value.slice.injEq] at e
  obtain ⟨rfl, rfl, rfl⟩ := e
  refine Sep.pack (A, c) (Sep.join ?_)
  exact (h.pick hk).perm (hk2.perm.cons _)
theorem WrNum_c (n : Int) (hb : (wNum st n).1.length ≤ 140737488355328) (hs : Sep W w cs) (hk : Pick cs (.wtr p 53 st) r) :
    Calls P 12 #[.pointer (some ⟨p, 0, none⟩), .int .i64 n] w (Rt fun v w' => v = .pointer (some ⟨p, 0, none⟩) ∧ Sep W w' (.wtr p 53 (wNum st n) :: r)) := by
  obtain ⟨A, c, hs⟩ := hs.wtr_open hk
  have hlen : st.1.length + (put n).length ≤ 140737488355328 := by simpa [wNum] using hb
  obtain ⟨bs, bad⟩ := st
  simp only at hs hlen
  refine enter Tryd.func12 Tryd.ntmps12 rfl rfl fun a (ha : Has a 30 [(0, _), (1, _)]) => ?_
  refine wp_seq_k fun K1 hK1 => ?_
  refine wp_region_lit ?_
  refine pY ha (yAssign (by rfl)) rfl fun a ha => ?_
  refine pZ ?_
  refine hK1 _ _ ?_
  refine wp_seq_k fun K2 hK2 => ?_
  refine wp_seq_k fun K3 hK3 => ?_
  refine wp_region_lit ?_
  refine pY ha (yMove (by rfl)) rfl fun a ha => ?_
  refine pY ha (yPtrNeqN Tryd.underlying28 (by rfl) (by rfl)) rfl fun a ha => ?_
  refine pZ ?_
  refine hK3 _ _ ?_
  refine cTrue ha (by rfl) ?_
  refine wp_seq_k fun K4 hK4 => ?_
  refine cutC (fun a w => Has a 30 [(0, .pointer (some ⟨p, 0, none⟩)), (1, .int .i64 n)] ∧ Sep W w (.blk p 53 [.slice A bs.length c, .bool (bad || !fits n)] :: .ol kU8 5 (.slice A bs.length c) bs :: r)) ?_ ?_
  · refine wp_region_lit ?_
    refine pY ha (yMove (by rfl)) rfl fun a ha => ?_
    refine pY ha (yMove (by rfl)) rfl fun a ha => ?_
    refine pY ha (yNilP (by rfl)) rfl fun a ha => ?_
    refine pY ha (yFieldA Tryd.runUnderlying53 rfl Tryd.sizeOf4 rfl (by rfl)) rfl fun a ha => ?_
    first | refine pY ha (yLoadB Tryd.isAgg4 hs (by rfl) (by repeat first | exact .here | apply Pick.there) (by rfl)) rfl fun a ha => ?_ | refine pY ha (yLoadR Tryd.isAgg4 hs (by rfl) (by repeat first | exact .here | apply Pick.there) (by rfl)) rfl fun a ha => ?_ | refine pY ha (yLoadR0 Tryd.isAgg4 hs (by rfl) (by repeat first | exact .here | apply Pick.there) (by rfl)) rfl fun a ha => ?_
    refine pY ha (yMove (by rfl)) rfl fun a ha => ?_
    refine gSplit (t := 12) ha (by rfl) (fun hg5 => ?_) (fun hg5 => ?_)
    · rw [hg5] at ha
      refine gOn ha rfl rfl (by rfl) ?_
      refine pY ha (yMove (by rfl)) rfl fun a ha => ?_
      refine gOn ha rfl rfl (by rfl) ?_
      refine pC ha (nCall Tryd.call50 (by rfl)) rfl (Fits_c _ hs) ?_
      rintro v w ⟨rfl, hs⟩ a ha
      refine gOn ha rfl rfl (by rfl) ?_
      refine pY ha (yNot (by rfl)) rfl fun a ha => ?_
      first | refine pY ha (yPickT (by rfl) (by rfl)) rfl fun a ha => ?_ | refine pY ha (yPickF (by rfl) (by rfl)) rfl fun a ha => ?_ | refine pY ha (yPick (by rfl) (by rfl) (by rfl)) rfl fun a ha => ?_
      refine pY ha (yNilP (by rfl)) rfl fun a ha => ?_
      refine pY ha (yFieldA Tryd.runUnderlying53 rfl Tryd.sizeOf4 rfl (by rfl)) rfl fun a ha => ?_
      refine pStore ha Tryd.sizeOf4 hs (by rfl) (by rfl) rfl rfl (by repeat first | exact .here | apply Pick.there) (by rfl) fun w hs => ?_
      refine pZ ⟨rfl, ?_⟩
      rw [hg5]; exact ⟨has2 ha (by rfl) (by rfl), hs⟩
    · rw [hg5] at ha
      refine gOff ha rfl rfl (by rfl) rfl rfl fun a ha => ?_
      refine gOff ha rfl rfl (by rfl) rfl rfl fun a ha => ?_
      refine gOff ha rfl rfl (by rfl) rfl rfl fun a ha => ?_
      first | refine pY ha (yPickT (by rfl) (by rfl)) rfl fun a ha => ?_ | refine pY ha (yPickF (by rfl) (by rfl)) rfl fun a ha => ?_ | refine pY ha (yPick (by rfl) (by rfl) (by rfl)) rfl fun a ha => ?_
      refine pY ha (yNilP (by rfl)) rfl fun a ha => ?_
      refine pY ha (yFieldA Tryd.runUnderlying53 rfl Tryd.sizeOf4 rfl (by rfl)) rfl fun a ha => ?_
      refine pStore ha Tryd.sizeOf4 hs (by rfl) (by rfl) rfl rfl (by repeat first | exact .here | apply Pick.there) (by rfl) fun w hs => ?_
      refine pZ ⟨rfl, ?_⟩
      rw [hg5]; exact ⟨has2 ha (by rfl) (by rfl), hs⟩
  rintro a w ⟨ha, hs⟩
  refine hK4 _ _ ?_
  refine dStart (fun w => Sep W w _) [7, 10] (by kernel_rfl) rfl (hs.drew) ?_
  have hs := Sep.drew hs
  generalize World.drew _ = w at hs ⊢
  refine dP 0 rfl (by kernel_rfl) ha won0 (fun _ => yMove (by rfl)) rfl (fun _ _ _ h => h) fun a ha => ?_
  refine dP 1 rfl (by kernel_rfl) ha won0 (fun _ => yMove (by rfl)) rfl (fun _ _ _ h => h) fun a ha => ?_
  refine dP 2 rfl (by kernel_rfl) ha won0 (fun _ => yNilP (by rfl)) rfl (fun _ _ _ h => h) fun a ha => ?_
  refine dP 3 rfl (by kernel_rfl) ha won0 (fun _ => yFieldA Tryd.runUnderlying53 rfl Tryd.sizeOf25 rfl (by rfl)) rfl (fun _ _ _ h => h) fun a ha => ?_
  first | refine dT 4 rfl (by kernel_rfl) ha won0 (fun _ hs => yLoadB Tryd.isAgg25 hs (by rfl) (by repeat first | exact .here | apply Pick.there) (by rfl)) (hs) rfl (fun _ _ _ h => h) fun a ha => ?_ | refine dT 4 rfl (by kernel_rfl) ha won0 (fun _ hs => yLoadR Tryd.isAgg25 hs (by rfl) (by repeat first | exact .here | apply Pick.there) (by rfl)) (hs) rfl (fun _ _ _ h => h) fun a ha => ?_ | refine dT 4 rfl (by kernel_rfl) ha won0 (fun _ hs => yLoadR0 Tryd.isAgg25 hs (by rfl) (by repeat first | exact .here | apply Pick.there) (by rfl)) (hs) rfl (fun _ _ _ h => h) fun a ha => ?_
  refine dP 5 rfl (by kernel_rfl) ha won0 (fun _ => yMove (by rfl)) rfl (fun _ _ _ h => h) fun a ha => ?_
  refine dC 6 rfl (by kernel_rfl) rfl ha won0 (nCall Tryd.call51 (by rfl)) rfl (Put_c _ hs) ?_
  rintro v w ⟨A', c', rfl, hs⟩
  refine ⟨hs.drop, fun a ha => ?_⟩
  have hs := hs.ol_rd .here
  first | refine dApp1l 7 rfl (by kernel_rfl) rfl ha won0 elWrt25 (by rfl) (by rfl) hs (by repeat first | exact .here | apply Pick.there) (by repeat first | exact .here | apply Pick.there) (by repeat first | exact .here | apply Pick.there) (by rfl) (by first | omega | (unfold maxLen; omega) | (simp [maxLen]; done) | (simp [maxLen]; omega)) (by first | omega | (unfold maxLen; omega) | (simp [maxLen]; done) | (simp [maxLen]; omega)) rfl fun A c w hs a ha => ?_ | refine dAppRdl 7 rfl (by kernel_rfl) rfl ha won0 elWrt25 (by rfl) (by rfl) hs (by repeat first | exact .here | apply Pick.there) (by repeat first | exact .here | apply Pick.there) (by rfl) (by first | omega | (unfold maxLen; omega) | (simp [maxLen]; done) | (simp [maxLen]; omega)) (by first | omega | (unfold maxLen; omega) | (simp [maxLen]; done) | (simp [maxLen]; omega)) rfl fun A c w hs a ha => ?_ | refine dApp1Fl 7 rfl (by kernel_rfl) rfl ha won0 elWrt25 (by rfl) (by rfl) hs (by repeat first | exact .here | apply Pick.there) (by repeat first | exact .here | apply Pick.there) (by intro Z; first | rfl | exact ⟨rfl, by omega, by omega⟩) (by rfl) (by first | omega | (unfold maxLen; omega) | (simp [maxLen]; done) | (simp [maxLen]; omega)) (by first | omega | (unfold maxLen; omega) | (simp [maxLen]; done) | (simp [maxLen]; omega)) rfl fun A c w hs a ha => ?_
  refine dP 8 rfl (by kernel_rfl) ha won0 (fun _ => yNilP (by rfl)) rfl (fun _ _ _ h => h) fun a ha => ?_
  refine dP 9 rfl (by kernel_rfl) ha won0 (fun _ => yFieldA Tryd.runUnderlying53 rfl Tryd.sizeOf25 rfl (by rfl)) rfl (fun _ _ _ h => h) fun a ha => ?_
  refine dStorel 10 rfl (by kernel_rfl) rfl ha won0 Tryd.sizeOf25 hs (by rfl) (by rfl) rfl rfl (by repeat first | exact .here | apply Pick.there) (by rfl) fun w hs => ?_
  refine dZ (by kernel_rfl) ?_
  refine hK2 _ _ ?_
  refine wp_seq_k fun K5 hK5 => ?_
  refine wp_region_lit ?_
  refine pY ha (yMove (by rfl)) rfl fun a ha => ?_
  refine pY ha (yAssign (by rfl)) rfl fun a ha => ?_
  refine pZ ?_
  refine hK5 _ _ ?_
  refine wp_ret ?_
  show bodyPost Tryd.prog Tryd.f12 _ .ret _ _
  refine ret1 rfl ha (by rfl) ?_
  exact ⟨rfl, (hs.wtr_shut .here .here).drop2⟩
theorem WrFlag_c (b : Bool) (hb : (wFlag st b).1.length ≤ 140737488355328) (hs : Sep W w cs) (hk : Pick cs (.wtr p 53 st) r) :
    Calls P 39 #[.pointer (some ⟨p, 0, none⟩), .bool b] w (Rt fun v w' => v = .pointer (some ⟨p, 0, none⟩) ∧ Sep W w' (.wtr p 53 (wFlag st b) :: r)) := by
  unfold wFlag at hb ⊢
  refine enter Tryd.func39 Tryd.ntmps39 rfl rfl fun a (ha : Has a 10 [(0, _), (1, _)]) => ?_
  refine wp_seq_k fun K1 hK1 => ?_
  refine wp_region_lit ?_
  refine pY ha (yAssign (by rfl)) rfl fun a ha => ?_
  refine pZ ?_
  refine hK1 _ _ ?_
  refine wp_seq_k fun K2 hK2 => ?_
  refine wp_seq_k fun K3 hK3 => ?_
  refine wp_region_lit ?_
  refine pY ha (yMove (by rfl)) rfl fun a ha => ?_
  refine pZ ?_
  refine hK3 _ _ ?_
  first | refine cNDec ha (by rfl) (fun hc5 => ?_) (fun hc5 => ?_) | refine cDec ha (by rfl) (fun hc5 => ?_) (fun hc5 => ?_) | refine cSplit ha (by rfl) (fun hc5 => ?_) (fun hc5 => ?_)
  · subst hc5
    refine wp_seq_k fun K4 hK4 => ?_
    refine wp_region_lit ?_
    refine pY ha (yMove (by rfl)) rfl fun a ha => ?_
    refine pC ha (nCall Tryd.call12 (by rfl)) rfl (WrNum_c 1 hb hs hk) ?_
    rintro v w ⟨rfl, hs⟩ a ha
    refine pY ha (yAssign (by rfl)) rfl fun a ha => ?_
    refine pZ ?_
    refine hK4 _ _ ?_
    refine wp_ret ?_
    show bodyPost Tryd.prog Tryd.f39 _ .ret _ _
    refine ret1 rfl ha (by rfl) ?_
    exact ⟨rfl, hs⟩
  · subst hc5
    refine wp_skip ?_
    refine hK2 _ _ ?_
    refine wp_seq_k fun K5 hK5 => ?_
    refine wp_region_lit ?_
    refine pY ha (yMove (by rfl)) rfl fun a ha => ?_
    refine pC ha (nCall Tryd.call12 (by rfl)) rfl (WrNum_c 0 hb hs hk) ?_
    rintro v w ⟨rfl, hs⟩ a ha
    refine pY ha (yAssign (by rfl)) rfl fun a ha => ?_
    refine pZ ?_
    refine hK5 _ _ ?_
    refine wp_ret ?_
    show bodyPost Tryd.prog Tryd.f39 _ .ret _ _
    refine ret1 rfl ha (by rfl) ?_
    exact ⟨rfl, hs⟩
theorem WrDone_c (hb : st.1.length ≤ 140737488355328) (hs : Sep W w cs) (hk : Pick cs (.wtr p 53 st) r) :
    Calls P 11 #[.pointer (some ⟨p, 0, none⟩)] w (Rt fun v w' => if st.2 = true then v = .tuple #[.slice none 0 0, .bool false] ∧ Sep W w' (.wtr p 53 st :: r)
      else ∃ A c, v = .tuple #[.slice A st.1.length c, .bool true] ∧ Sep W w' (.ol kU8 5 (.slice A st.1.length c) st.1 :: r)) := by
  obtain ⟨A, c, hs⟩ := hs.wtr_open hk
  refine enter Tryd.func11 Tryd.ntmps11 rfl rfl fun a (ha : Has a 17 [(0, _)]) => ?_
  refine wp_seq_k fun K1 hK1 => ?_
  refine wp_region_lit ?_
  refine pY ha (yAssign (by rfl)) rfl fun a ha => ?_
  refine pY ha (yAssign (by rfl)) rfl fun a ha => ?_
  refine pZ ?_
  refine hK1 _ _ ?_
  refine wp_seq_k fun K2 hK2 => ?_
  refine wp_seq_k fun K3 hK3 => ?_
  refine wp_region_lit ?_
  refine pY ha (yMove (by rfl)) rfl fun a ha => ?_
  refine pY ha (yPtrEqlN Tryd.underlying28 (by rfl) (by rfl)) rfl fun a ha => ?_
  refine pY ha (yMove (by rfl)) rfl fun a ha => ?_
  refine gSplit (t := 6) ha (by rfl) (fun hg2 => ?_) (fun hg2 => ?_)
  · rw [hg2] at ha
    refine gOn ha rfl rfl (by rfl) ?_
    refine pY ha (yMove (by rfl)) rfl fun a ha => ?_
    refine gOn ha rfl rfl (by rfl) ?_
    refine pY ha (yNilP (by rfl)) rfl fun a ha => ?_
    refine gOn ha rfl rfl (by rfl) ?_
    refine pY ha (yFieldA Tryd.runUnderlying53 rfl Tryd.sizeOf4 rfl (by rfl)) rfl fun a ha => ?_
    refine gOn ha rfl rfl (by rfl) ?_
    first | refine pY ha (yLoadB Tryd.isAgg4 hs (by rfl) (by repeat first | exact .here | apply Pick.there) (by rfl)) rfl fun a ha => ?_ | refine pY ha (yLoadR Tryd.isAgg4 hs (by rfl) (by repeat first | exact .here | apply Pick.there) (by rfl)) rfl fun a ha => ?_ | refine pY ha (yLoadR0 Tryd.isAgg4 hs (by rfl) (by repeat first | exact .here | apply Pick.there) (by rfl)) rfl fun a ha => ?_
    first | refine pY ha (yPickT (by rfl) (by rfl)) rfl fun a ha => ?_ | refine pY ha (yPickF (by rfl) (by rfl)) rfl fun a ha => ?_ | refine pY ha (yPick (by rfl) (by rfl) (by rfl)) rfl fun a ha => ?_
    refine pZ ?_
    refine hK3 _ _ ?_
    first | refine cNDec ha (by rfl) (fun hc11 => ?_) (fun hc11 => ?_) | refine cDec ha (by rfl) (fun hc11 => ?_) (fun hc11 => ?_) | refine cSplit ha (by rfl) (fun hc11 => ?_) (fun hc11 => ?_)
    · refine wp_seq_k fun K4 hK4 => ?_
      refine wp_region_lit ?_
      refine pY ha (yAssign (by rfl)) rfl fun a ha => ?_
      refine pY ha (yAssign (by rfl)) rfl fun a ha => ?_
      refine pZ ?_
      refine hK4 _ _ ?_
      refine wp_ret ?_
      show bodyPost Tryd.prog Tryd.f11 _ .ret _ _
      refine ret2 rfl ha (by rfl) (by rfl) ?_
      rw [if_pos hc11]; exact ⟨rfl, hs.wtr_shut .here .here⟩
    · refine wp_skip ?_
      refine hK2 _ _ ?_
      refine wp_seq_k fun K5 hK5 => ?_
      refine wp_region_lit ?_
      refine pY ha (yMove (by rfl)) rfl fun a ha => ?_
      refine pY ha (yNilP (by rfl)) rfl fun a ha => ?_
      refine pY ha (yFieldA Tryd.runUnderlying53 rfl Tryd.sizeOf25 rfl (by rfl)) rfl fun a ha => ?_
      first | refine pY ha (yLoadB Tryd.isAgg25 hs (by rfl) (by repeat first | exact .here | apply Pick.there) (by rfl)) rfl fun a ha => ?_ | refine pY ha (yLoadR Tryd.isAgg25 hs (by rfl) (by repeat first | exact .here | apply Pick.there) (by rfl)) rfl fun a ha => ?_ | refine pY ha (yLoadR0 Tryd.isAgg25 hs (by rfl) (by repeat first | exact .here | apply Pick.there) (by rfl)) rfl fun a ha => ?_
      refine pC ha (nCall Tryd.call49 (by rfl)) rfl (CloneB_c ((hs.perm (List.Perm.swap _ _ _)).ol_rd .here) .here hb) ?_
      rintro v w ⟨A', c', rfl, hs⟩ a ha
      refine pY ha (yAssign (by rfl)) rfl fun a ha => ?_
      refine pY ha (yAssign (by rfl)) rfl fun a ha => ?_
      refine pZ ?_
      refine hK5 _ _ ?_
      refine wp_ret ?_
      show bodyPost Tryd.prog Tryd.f11 _ .ret _ _
      refine ret2 rfl ha (by rfl) (by rfl) ?_
      rw [if_neg (by simp [hc11])]; exact ⟨A', c', rfl, hs.drop3⟩
  · simp at hg2
/-! The reader that is none. -/
theorem ErrN_c (hs : Sep W w cs) : Calls P 31 #[.pointer none] w (Rt fun v w' => v = .int .i64 2 ∧ Sep W w' cs) := by
  refine enter Tryd.func31 Tryd.ntmps31 rfl rfl fun a (ha : Has a 9 [(0, _)]) => ?_
  refine wp_seq_k fun K1 hK1 => ?_
  refine wp_region_lit ?_
  refine pY ha (yAssign (by rfl)) rfl fun a ha => ?_
  refine pZ ?_
  refine hK1 _ _ ?_
  refine wp_seq_k fun K2 hK2 => ?_
  refine wp_seq_k fun K3 hK3 => ?_
  refine wp_region_lit ?_
  refine pY ha (yMove (by rfl)) rfl fun a ha => ?_
  refine pY ha (yPtrEqlN Tryd.underlying32 (by rfl) (by rfl)) rfl fun a ha => ?_
  refine pZ ?_
  refine hK3 _ _ ?_
  refine cTrue ha (by rfl) ?_
  refine wp_seq_k fun K4 hK4 => ?_
  refine wp_region_lit ?_
  refine pY ha (yAssign (by rfl)) rfl fun a ha => ?_
  refine pZ ?_
  refine hK4 _ _ ?_
  refine wp_ret ?_
  show bodyPost Tryd.prog Tryd.f31 _ .ret _ _
  refine ret1 rfl ha (by rfl) ?_
  exact ⟨rfl, hs⟩
theorem NumN_c (hs : Sep W w cs) : Calls P 15 #[.pointer none] w (Rt fun v w' => v = .int .i64 0 ∧ Sep W w' cs) := by
  refine enter Tryd.func15 Tryd.ntmps15 rfl rfl fun a (ha : Has a 31 [(0, _)]) => ?_
  refine wp_seq_k fun K1 hK1 => ?_
  refine wp_region_lit ?_
  refine pY ha (yAssign (by rfl)) rfl fun a ha => ?_
  refine pZ ?_
  refine hK1 _ _ ?_
  refine scopeF 2 99999 ?_
  refine wp_seq_k fun K2 hK2 => ?_
  refine wp_region_lit ?_
  refine pY ha (yAssign (by rfl)) rfl fun a ha => ?_
  refine pZ ?_
  refine hK2 _ _ ?_
  refine wp_seq_k fun K3 hK3 => ?_
  refine wp_region_lit ?_
  refine pY ha (yAssign (by rfl)) rfl fun a ha => ?_
  refine pZ ?_
  refine hK3 _ _ ?_
  refine wp_seq_k fun K4 hK4 => ?_
  refine wp_seq_k fun K5 hK5 => ?_
  refine wp_region_lit ?_
  refine pY ha (yMove (by rfl)) rfl fun a ha => ?_
  refine pC ha (nCall Tryd.call31 (by rfl)) rfl (ErrN_c hs) ?_
  rintro v w ⟨rfl, hs⟩ a ha
  refine pY ha (yNeq (by rfl) (by rfl)) rfl fun a ha => ?_
  refine pZ ?_
  refine hK5 _ _ ?_
  first | refine cNDec ha (by rfl) (fun hc7 => ?_) (fun hc7 => ?_) | refine cDec ha (by rfl) (fun hc7 => ?_) (fun hc7 => ?_) | refine cSplit ha (by rfl) (fun hc7 => ?_) (fun hc7 => ?_)
  · refine wp_goto ?_
    repeat (with_reducible first | refine gThen ?_ | refine gBlock ?_)
    refine gxF rfl rfl ?_
    refine wp_seq_k fun K6 hK6 => ?_
    refine wp_skip ?_
    refine hK6 _ _ ?_
    refine wp_seq_k fun K7 hK7 => ?_
    refine wp_region_lit ?_
    refine pY ha (yAssign (by rfl)) rfl fun a ha => ?_
    refine pZ ?_
    refine hK7 _ _ ?_
    refine wp_ret ?_
    show bodyPost Tryd.prog Tryd.f15 _ .ret _ _
    refine ret1 rfl ha (by rfl) ?_
    exact ⟨rfl, hs⟩
  · exact absurd hc7 (by decide)
theorem put_one : put 1 = [1] := by
  unfold put
  rw [if_pos (by decide)]
  show (UInt8.ofNat (1 % 128) :: tailD (1 / 128)).reverse = _
  rw [show (1 : Nat) / 128 = 0 from rfl, tailD_zero]
  rfl
theorem get_two (r : List UInt8) : getN (2 :: r) = some (2, 1) := by
  unfold getN
  rw [getR, if_neg (by decide), if_pos (by decide), if_pos (by decide)]
  rfl
theorem Sep.two_bytes {b : Nat} (hs : Sep W w cs) (hk : Pick cs (.blk b 5 [.int .u8 2, .int .u8 9]) r) : Sep W w (.rd kU8 (.slice (some ⟨b, 0, none⟩) 2 2) [2, 9] :: r) := by
  refine Sep.ol_rd (Sep.flat_ol (xs := [2, 9]) (cap := 2) kU8_flat hs hk (fun x _ Z => rfl) (by decide) (by unfold maxLen; decide) rfl (fun i x hi => ?_)) .here
  match i, hi with
  | 0, hi => simp at hi; subst hi; rfl
  | 1, hi => simp at hi; subst hi; rfl
  | i + 2, hi => simp at hi
theorem awake_c (hs : Sep W w cs) : Calls P 8 #[] w (Rt fun v w' => v = .bool true ∧ Sep W w' cs) := by
  refine enter Tryd.func8 Tryd.ntmps8 rfl rfl fun a (ha : Has a 47 []) => ?_
  refine wp_seq_k fun K1 hK1 => ?_
  refine wp_region_lit ?_
  refine pY ha (yAssign (by rfl)) rfl fun a ha => ?_
  refine pZ ?_
  refine hK1 _ _ ?_
  refine wp_seq_k fun K2 hK2 => ?_
  refine wp_region_lit ?_
  refine pAlloc (zs := [.slice none 0 0, .bool false]) ha Tryd.zeroValue53 (by rfl) hs rfl fun b w hs a ha => ?_
  have hs := ((hs.ol_nil kU8 5 none).perm (List.Perm.swap _ _ _)).wtr_shut .here .here
  refine pZ ?_
  refine hK2 _ _ ?_
  refine wp_seq_k fun K3 hK3 => ?_
  refine wp_region_lit ?_
  refine pC ha (nCall Tryd.call39 (by rfl)) rfl (WrFlag_c true (by unfold wFlag wNum; rw [if_pos rfl, put_one]; decide) hs .here) ?_
  rintro v w ⟨rfl, hs⟩ a ha
  have e1 : wFlag (([] : List UInt8), false) true = ([1], false) := by unfold wFlag wNum; rw [if_pos rfl, put_one]; rfl
  rw [e1] at hs
  refine pZ ?_
  refine hK3 _ _ ?_
  refine wp_seq_k fun K4 hK4 => ?_
  refine wp_region_lit ?_
  refine pC ha (nCall Tryd.call11 (by rfl)) rfl (WrDone_c (by decide) hs .here) ?_
  rintro v w hv a ha
  rw [if_neg (by decide)] at hv
  obtain ⟨A, c, rfl, hs⟩ := hv
  have hs := hs.ol_rd .here
  refine pY ha (yMove (by rfl)) rfl fun a ha => ?_
  refine pY ha (yExtract (by rfl) (by rfl)) rfl fun a ha => ?_
  refine pY ha (yExtract (by rfl) (by rfl)) rfl fun a ha => ?_
  refine pY ha (yAssign (by rfl)) rfl fun a ha => ?_
  refine pY ha (yAssign (by rfl)) rfl fun a ha => ?_
  refine pZ ?_
  refine hK4 _ _ ?_
  refine wp_seq_k fun K5 hK5 => ?_
  refine wp_region_lit ?_
  refine pMake ha (bslWrt25_2_0_1 (by rfl) (by rfl)) hs rfl fun b w hs a ha => ?_
  have hs := hs.two_bytes .here
  refine pC ha (nCall Tryd.call13 (by rfl)) rfl (NewReader_c hs .here (by decide)) ?_
  rintro v w ⟨q, rfl, hs⟩ a ha
  refine pY ha (yAssign (by rfl)) rfl fun a ha => ?_
  refine pZ ?_
  refine hK5 _ _ ?_
  refine wp_seq_k fun K6 hK6 => ?_
  refine wp_seq_k fun K7 hK7 => ?_
  refine wp_region_lit ?_
  refine pY ha (yMove (by rfl)) rfl fun a ha => ?_
  refine pY ha (yNot (by rfl)) rfl fun a ha => ?_
  refine pY ha (yMove (by rfl)) rfl fun a ha => ?_
  refine gSplit (t := 15) ha (by rfl) (fun hg2 => ?_) (fun hg2 => ?_)
  · rw [hg2] at ha
    refine gOn ha rfl rfl (by rfl) ?_
    refine pY ha (yMove (by rfl)) rfl fun a ha => ?_
    refine gOn ha rfl rfl (by rfl) ?_
    refine pY ha (yBytesStr Tryd.underlying25 Tryd.underlying5 Tryd.underlying9 hs (by rfl) (by repeat first | exact .here | apply Pick.there)) rfl fun a ha => ?_
    refine gOn ha rfl rfl (by rfl) ?_
    refine pY ha (yStrNeq (by rfl) (by rfl)) rfl fun a ha => ?_
    first | refine pY ha (yPickT (by rfl) (by rfl)) rfl fun a ha => ?_ | refine pY ha (yPickF (by rfl) (by rfl)) rfl fun a ha => ?_ | refine pY ha (yPick (by rfl) (by rfl) (by rfl)) rfl fun a ha => ?_
    refine pY ha (yMove (by rfl)) rfl fun a ha => ?_
    refine gSplit (t := 20) ha (by rfl) (fun hg7 => ?_) (fun hg7 => ?_)
    · rw [hg7] at ha
      refine gOn ha rfl rfl (by rfl) ?_
      refine pY ha (yMove (by rfl)) rfl fun a ha => ?_
      refine gOn ha rfl rfl (by rfl) ?_
      refine pY ha (yPtrEqlN Tryd.underlying32 (by rfl) (by rfl)) rfl fun a ha => ?_
      first | refine pY ha (yPickT (by rfl) (by rfl)) rfl fun a ha => ?_ | refine pY ha (yPickF (by rfl) (by rfl)) rfl fun a ha => ?_ | refine pY ha (yPick (by rfl) (by rfl) (by rfl)) rfl fun a ha => ?_
      refine pZ ?_
      refine hK7 _ _ ?_
      first | refine cNDec ha (by rfl) (fun hc23 => ?_) (fun hc23 => ?_) | refine cDec ha (by rfl) (fun hc23 => ?_) (fun hc23 => ?_) | refine cSplit ha (by rfl) (fun hc23 => ?_) (fun hc23 => ?_)
      · simp at hc23
      · refine wp_skip ?_
        refine hK6 _ _ ?_
        refine wp_seq_k fun K8 hK8 => ?_
        refine wp_region_lit ?_
        refine pY ha (yAssign (by rfl)) rfl fun a ha => ?_
        refine pZ ?_
        refine hK8 _ _ ?_
        refine wp_seq_k fun K9 hK9 => ?_
        refine wp_region_lit ?_
        refine pY ha (yMove (by rfl)) rfl fun a ha => ?_
        refine pC ha (nCall Tryd.call19 (by rfl)) rfl (RdFlag_c hs .here) ?_
        rintro v w ⟨rfl, hs⟩ a ha
        have e2 : rFlag (([2, 9] : List UInt8), (0 : Int)) = (false, ([9], 2)) := by simp [rFlag, rNum, get_two, rFail]
        rw [e2] at ha hs
        refine pY ha (yNot (by rfl)) rfl fun a ha => ?_
        refine pY ha (yMove (by rfl)) rfl fun a ha => ?_
        refine gSplit (t := 27) ha (by rfl) (fun hg3 => ?_) (fun hg3 => ?_)
        · simp at hg3
        · rw [hg3] at ha
          refine gOn ha rfl rfl (by rfl) ?_
          refine pY ha (yMove (by rfl)) rfl fun a ha => ?_
          refine gOn ha rfl rfl (by rfl) ?_
          refine pC ha (nCall Tryd.call31 (by rfl)) rfl (ErrK_c hs .here) ?_
          rintro v w ⟨rfl, hs⟩ a ha
          refine gOn ha rfl rfl (by rfl) ?_
          refine pY ha (yEql (by rfl) (by rfl)) rfl fun a ha => ?_
          first | refine pY ha (yPickT (by rfl) (by rfl)) rfl fun a ha => ?_ | refine pY ha (yPickF (by rfl) (by rfl)) rfl fun a ha => ?_ | refine pY ha (yPick (by rfl) (by rfl) (by rfl)) rfl fun a ha => ?_
          refine pY ha (yMove (by rfl)) rfl fun a ha => ?_
          refine gSplit (t := 32) ha (by rfl) (fun hg8 => ?_) (fun hg8 => ?_)
          · simp at hg8
          · rw [hg8] at ha
            refine gOn ha rfl rfl (by rfl) ?_
            refine pY ha (yMove (by rfl)) rfl fun a ha => ?_
            refine gOn ha rfl rfl (by rfl) ?_
            refine pC ha (nCall Tryd.call30 (by rfl)) rfl (Left_c hs .here) ?_
            rintro v w ⟨rfl, hs⟩ a ha
            refine gOn ha rfl rfl (by rfl) ?_
            refine pY ha (yEql (by rfl) (by rfl)) rfl fun a ha => ?_
            first | refine pY ha (yPickT (by rfl) (by rfl)) rfl fun a ha => ?_ | refine pY ha (yPickF (by rfl) (by rfl)) rfl fun a ha => ?_ | refine pY ha (yPick (by rfl) (by rfl) (by rfl)) rfl fun a ha => ?_
            refine pY ha (yMove (by rfl)) rfl fun a ha => ?_
            refine gSplit (t := 37) ha (by rfl) (fun hg13 => ?_) (fun hg13 => ?_)
            · simp at hg13
            · rw [hg13] at ha
              refine gOn ha rfl rfl (by rfl) ?_
              refine pY ha (yMove (by rfl)) rfl fun a ha => ?_
              refine gOn ha rfl rfl (by rfl) ?_
              refine pC ha (nCall Tryd.call31 (by rfl)) rfl (ErrN_c hs) ?_
              rintro v w ⟨rfl, hs⟩ a ha
              refine gOn ha rfl rfl (by rfl) ?_
              refine pY ha (yEql (by rfl) (by rfl)) rfl fun a ha => ?_
              first | refine pY ha (yPickT (by rfl) (by rfl)) rfl fun a ha => ?_ | refine pY ha (yPickF (by rfl) (by rfl)) rfl fun a ha => ?_ | refine pY ha (yPick (by rfl) (by rfl) (by rfl)) rfl fun a ha => ?_
              refine pY ha (yMove (by rfl)) rfl fun a ha => ?_
              refine gSplit (t := 42) ha (by rfl) (fun hg18 => ?_) (fun hg18 => ?_)
              · simp at hg18
              · rw [hg18] at ha
                refine gOn ha rfl rfl (by rfl) ?_
                refine pY ha (yMove (by rfl)) rfl fun a ha => ?_
                refine gOn ha rfl rfl (by rfl) ?_
                refine pC ha (nCall Tryd.call15 (by rfl)) rfl (NumN_c hs) ?_
                rintro v w ⟨rfl, hs⟩ a ha
                refine gOn ha rfl rfl (by rfl) ?_
                refine pY ha (yEql (by rfl) (by rfl)) rfl fun a ha => ?_
                first | refine pY ha (yPickT (by rfl) (by rfl)) rfl fun a ha => ?_ | refine pY ha (yPickF (by rfl) (by rfl)) rfl fun a ha => ?_ | refine pY ha (yPick (by rfl) (by rfl) (by rfl)) rfl fun a ha => ?_
                refine pY ha (yAssign (by rfl)) rfl fun a ha => ?_
                refine pZ ?_
                refine hK9 _ _ ?_
                refine wp_ret ?_
                show bodyPost Tryd.prog Tryd.f8 _ .ret _ _
                refine ret1 rfl ha (by rfl) ?_
                exact ⟨rfl, hs.drop.drop.drop⟩
    · simp at hg7
  · simp at hg2
end
end Go.Proofs.YtnkcmpmcmkljnaaDoor
