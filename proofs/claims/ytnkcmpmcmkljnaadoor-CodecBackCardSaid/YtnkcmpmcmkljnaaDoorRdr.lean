/- The codec's reader, the document's reader: the walks. -/
import Derived.Test.YtnkcmpmcmkljnaaDoorVal
import Derived.Test.YtnkcmpmcmkljnaaDoorCod
set_option linter.unusedVariables false
set_option linter.unusedSimpArgs false
namespace Go.Proofs.YtnkcmpmcmkljnaaDoor
open Go.RowKit Go.Lib
theorem bldRdr63_0_1_2_3_4_5 {w : World} {l : List (Nat × Value)} {T : TypeId} {x0 x1 x2 x3 x4 x5 : Operand} {v0 : Value} (h0 : ev l x0 = some v0) {v1 : Value} (h1 : ev l x1 = some v1) {v2 : Value} (h2 : ev l x2 = some v2) {v3 : Value} (h3 : ev l x3 = some v3) {v4 : Value} (h4 : ev l x4 = some v4) {v5 : Value} (h5 : ev l x5 = some v5) (o0 : v0.cells = #[v0] := by rfl) (o1 : v1.cells = #[v1] := by rfl) (o2 : v2.cells = #[v2] := by rfl) (o3 : v3.cells = #[v3] := by rfl) (o4 : v4.cells = #[v4] := by rfl) (o5 : v5.cells = #[v5] := by rfl) : Yl Tryd.prog w l (.build 63 #[(0, x0), (1, x1), (2, x2), (3, x3), (4, x4), (5, x5)]) T (.agg #[v0, v1, v2, v3, v4, v5]) := fun ρ o h ho _ => by
  have hf : Instr.fill (fun i => ([(0, 1), (1, 1), (2, 1), (3, 1), (4, 1), (5, 1)] : List (Nat × Nat))[i]?) #[.int .i64 0, .int .i64 0, .int .i64 0, .string ⟨#[]⟩, .bool false, .slice none 0 0] [(0, v0), (1, v1), (2, v2), (3, v3), (4, v4), (5, v5)] = some #[v0, v1, v2, v3, v4, v5] := by
    refine (fill_v o0 (by rfl) (by simp)).trans ?_
    refine (fill_v o1 (by rfl) (by simp)).trans ?_
    refine (fill_v o2 (by rfl) (by simp)).trans ?_
    refine (fill_v o3 (by rfl) (by simp)).trans ?_
    refine (fill_v o4 (by rfl) (by simp)).trans ?_
    refine (fill_v o5 (by rfl) (by simp)).trans ?_
    simp [Instr.fill]
  unfold execOp; rw [ho]
  simp [h _ _ h0, h _ _ h1, h _ _ h2, h _ _ h3, h _ _ h4, h _ _ h5, Instr.build, Tryd.zeroValue63, Tryd.runUnderlying63, Tryd.sizeOf3, Tryd.sizeOf4, Tryd.sizeOf41, Tryd.sizeOf9, agg_cells, hf]
theorem bldRdr65_0_1_2_3_4 {w : World} {l : List (Nat × Value)} {T : TypeId} {x0 x1 x2 x3 x4 : Operand} {v0 : Value} (h0 : ev l x0 = some v0) {v1 : Value} (h1 : ev l x1 = some v1) {v2 : Value} (h2 : ev l x2 = some v2) {v3 : Value} (h3 : ev l x3 = some v3) {v4 : Value} (h4 : ev l x4 = some v4) (o0 : v0.cells = #[v0] := by rfl) (o1 : v1.cells = #[v1] := by rfl) (o2 : v2.cells = #[v2] := by rfl) (o3 : v3.cells = #[v3] := by rfl) (o4 : v4.cells = #[v4] := by rfl) : Yl Tryd.prog w l (.build 65 #[(0, x0), (1, x1), (2, x2), (3, x3), (4, x4)]) T (.agg #[v0, v1, v2, v3, v4]) := fun ρ o h ho _ => by
  have hf : Instr.fill (fun i => ([(0, 1), (1, 1), (2, 1), (3, 1), (4, 1)] : List (Nat × Nat))[i]?) #[.int .i64 0, .int .i64 0, .string ⟨#[]⟩, .bool false, .string ⟨#[]⟩] [(0, v0), (1, v1), (2, v2), (3, v3), (4, v4)] = some #[v0, v1, v2, v3, v4] := by
    refine (fill_v o0 (by rfl) (by simp)).trans ?_
    refine (fill_v o1 (by rfl) (by simp)).trans ?_
    refine (fill_v o2 (by rfl) (by simp)).trans ?_
    refine (fill_v o3 (by rfl) (by simp)).trans ?_
    refine (fill_v o4 (by rfl) (by simp)).trans ?_
    simp [Instr.fill]
  unfold execOp; rw [ho]
  simp [h _ _ h0, h _ _ h1, h _ _ h2, h _ _ h3, h _ _ h4, Instr.build, Tryd.zeroValue65, Tryd.runUnderlying65, Tryd.sizeOf3, Tryd.sizeOf4, Tryd.sizeOf9, agg_cells, hf]
theorem bldRdr83_0 {w : World} {l : List (Nat × Value)} {T : TypeId} {x0 : Operand} {v0 : Value} (h0 : ev l x0 = some v0) (o0 : v0.cells = #[v0] := by rfl) : Yl Tryd.prog w l (.build 83 #[(0, x0)]) T (.agg #[v0, .int .i64 0]) := fun ρ o h ho _ => by
  have hf : Instr.fill (fun i => ([(0, 1), (1, 1)] : List (Nat × Nat))[i]?) #[.slice none 0 0, .int .i64 0] [(0, v0)] = some #[v0, .int .i64 0] := by
    refine (fill_v o0 (by rfl) (by simp)).trans ?_
    simp [Instr.fill]
  unfold execOp; rw [ho]
  simp [h _ _ h0, Instr.build, Tryd.zeroValue83, Tryd.runUnderlying83, Tryd.sizeOf25, Tryd.sizeOf49, agg_cells, hf]
theorem bldRdr91_0_1_2 {w : World} {l : List (Nat × Value)} {T : TypeId} {x0 x1 x2 : Operand} {v0 : Value} (h0 : ev l x0 = some v0) {v1 : Value} (h1 : ev l x1 = some v1) {v2 : Value} (h2 : ev l x2 = some v2) (o0 : v0.cells = #[v0] := by rfl) (o1 : v1.cells = #[v1] := by rfl) (o2 : v2.cells = #[v2] := by rfl) : Yl Tryd.prog w l (.build 91 #[(0, x0), (1, x1), (2, x2)]) T (.agg #[v0, v1, v2]) := fun ρ o h ho _ => by
  have hf : Instr.fill (fun i => ([(0, 1), (1, 1), (2, 1)] : List (Nat × Nat))[i]?) #[.int .i64 0, .int .i64 0, .string ⟨#[]⟩] [(0, v0), (1, v1), (2, v2)] = some #[v0, v1, v2] := by
    refine (fill_v o0 (by rfl) (by simp)).trans ?_
    refine (fill_v o1 (by rfl) (by simp)).trans ?_
    refine (fill_v o2 (by rfl) (by simp)).trans ?_
    simp [Instr.fill]
  unfold execOp; rw [ho]
  simp [h _ _ h0, h _ _ h1, h _ _ h2, Instr.build, Tryd.zeroValue91, Tryd.runUnderlying91, Tryd.sizeOf3, Tryd.sizeOf9, agg_cells, hf]
theorem bslRdr41_1_0 {w : World} {l : List (Nat × Value)} {T : TypeId} {x0 : Operand} {c0 : List Value} (h0 : ev l x0 = some (.agg c0.toArray)) (n0 : c0.length = 3 := by rfl) : Mk Tryd.prog w l (.buildSlice 41 1 #[(0, x0)]) T 91 1 c0 := fun ρ o h ho _ => by
  unfold execOp; rw [ho]
  exact mk1 (P := Tryd.prog) w Tryd.runUnderlying41 Tryd.sizeOf91 Tryd.zeroValue91 (by decide) (by decide) n0 (h _ _ h0)
theorem bslRdr44_1_0 {w : World} {l : List (Nat × Value)} {T : TypeId} {x0 : Operand} {c0 : List Value} (h0 : ev l x0 = some (.agg c0.toArray)) (n0 : c0.length = 6 := by rfl) : Mk Tryd.prog w l (.buildSlice 44 1 #[(0, x0)]) T 63 1 c0 := fun ρ o h ho _ => by
  unfold execOp; rw [ho]
  exact mk1 (P := Tryd.prog) w Tryd.runUnderlying44 Tryd.sizeOf63 Tryd.zeroValue63 (by decide) (by decide) n0 (h _ _ h0)
theorem bslRdr47_1_0 {w : World} {l : List (Nat × Value)} {T : TypeId} {x0 : Operand} {c0 : List Value} (h0 : ev l x0 = some (.agg c0.toArray)) (n0 : c0.length = 5 := by rfl) : Mk Tryd.prog w l (.buildSlice 47 1 #[(0, x0)]) T 65 1 c0 := fun ρ o h ho _ => by
  unfold execOp; rw [ho]
  exact mk1 (P := Tryd.prog) w Tryd.runUnderlying47 Tryd.sizeOf65 Tryd.zeroValue65 (by decide) (by decide) n0 (h _ _ h0)
theorem elRdr41 : ElemT Tryd.prog 41 91 3 32 := elemT_mk Tryd.underlying41 rfl (by kernel_rfl)
theorem elRdr44 : ElemT Tryd.prog 44 63 6 72 := elemT_mk Tryd.underlying44 rfl (by kernel_rfl)
theorem elRdr47 : ElemT Tryd.prog 47 65 5 56 := elemT_mk Tryd.underlying47 rfl (by kernel_rfl)
section
variable {W w : World} {cs r : List Ch} {p : Nat} {T : TypeId} {st : St}
theorem Err_c {v0 : Value} {e : Int} (hs : Sep W w cs) (hk : Pick cs (.blk p 83 [v0, .int .i64 e]) r) :
    Calls P 31 #[.pointer (some ⟨p, 0, none⟩)] w (Rt fun v w' => v = .int .i64 e ∧ Sep W w' (.blk p 83 [v0, .int .i64 e] :: r)) := by
  have hs := hs.pick hk
  refine enter Tryd.func31 Tryd.ntmps31 rfl rfl fun a (ha : Has a 9 [(0, _)]) => ?_
  refine wp_seq_k fun K1 hK1 => ?_
  refine wp_region_lit ?_
  refine pY ha (yAssign (by rfl)) rfl fun a ha => ?_
  refine pZ ?_
  refine hK1 _ _ ?_
  refine wp_seq_k fun K2 hK2 => ?_
  refine wp_seq_k fun K3 hK3 => ?_
  refine wp_region_lit ?_
  refine pY ha (yMove (by rfl)) rfl fun a ha => ?_
  refine pY ha (yPtrEqlN Tryd.underlying32 (by rfl) (by rfl)) rfl fun a ha => ?_
  refine pZ ?_
  refine hK3 _ _ ?_
  refine cFalse ha (by rfl) ?_
  refine wp_skip ?_
  refine hK2 _ _ ?_
  refine wp_seq_k fun K4 hK4 => ?_
  refine wp_region_lit ?_
  refine pY ha (yMove (by rfl)) rfl fun a ha => ?_
  refine pY ha (yNilP (by rfl)) rfl fun a ha => ?_
  refine pY ha (yFieldA Tryd.runUnderlying83 rfl Tryd.sizeOf49 rfl (by rfl)) rfl fun a ha => ?_
  first | refine pY ha (yLoadB Tryd.isAgg49 hs (by rfl) (by repeat first | exact .here | apply Pick.there) (by rfl)) rfl fun a ha => ?_ | refine pY ha (yLoadR Tryd.isAgg49 hs (by rfl) (by repeat first | exact .here | apply Pick.there) (by rfl)) rfl fun a ha => ?_ | refine pY ha (yLoadR0 Tryd.isAgg49 hs (by rfl) (by repeat first | exact .here | apply Pick.there) (by rfl)) rfl fun a ha => ?_
  refine pY ha (yAssign (by rfl)) rfl fun a ha => ?_
  refine pZ ?_
  refine hK4 _ _ ?_
  refine wp_ret ?_
  show bodyPost Tryd.prog Tryd.f31 _ .ret _ _
  refine ret1 rfl ha (by rfl) ?_
  exact ⟨rfl, hs⟩
theorem fails_c {v0 : Value} {e e' : Int} (hs : Sep W w cs) (hk : Pick cs (.blk p 83 [v0, .int .i64 e]) r) :
    Calls P 53 #[.pointer (some ⟨p, 0, none⟩), .int .i64 e'] w (Rt fun v w' => v = .tuple #[] ∧ Sep W w' (.blk p 83 [v0, .int .i64 (if e = 0 then e' else e)] :: r)) := by
  have hs := hs.pick hk
  refine enter Tryd.func53 Tryd.ntmps53 rfl rfl fun a (ha : Has a 11 [(0, _), (1, _)]) => ?_
  refine wp_seq_k fun K1 hK1 => ?_
  refine wp_region_lit ?_
  refine pY ha (yMove (by rfl)) rfl fun a ha => ?_
  refine pC ha (nCall Tryd.call31 (by rfl)) rfl (Err_c hs .here) ?_
  rintro v w ⟨rfl, hs⟩ a ha
  refine pY ha (yEql (by rfl) (by rfl)) rfl fun a ha => ?_
  refine pZ ?_
  refine hK1 _ _ ?_
  first | refine cDec ha (by rfl) (fun hc6 => ?_) (fun hc6 => ?_) | refine cSplit ha (by rfl) (fun hc6 => ?_) (fun hc6 => ?_)
  · refine wp_region_lit ?_
    refine pY ha (yMove (by rfl)) rfl fun a ha => ?_
    refine pY ha (yMove (by rfl)) rfl fun a ha => ?_
    refine pY ha (yNilP (by rfl)) rfl fun a ha => ?_
    refine pY ha (yFieldA Tryd.runUnderlying83 rfl Tryd.sizeOf49 rfl (by rfl)) rfl fun a ha => ?_
    refine pStore ha Tryd.sizeOf49 hs (by rfl) (by rfl) rfl rfl (by repeat first | exact .here | apply Pick.there) (by rfl) fun w hs => ?_
    refine pZ ?_
    show bodyPost Tryd.prog Tryd.f53 _ .normal _ _
    refine end0 rfl ha ?_
    rw [if_pos hc6]; exact ⟨rfl, hs⟩
  · refine wp_skip ?_
    show bodyPost Tryd.prog Tryd.f53 _ .normal _ _
    refine end0 rfl ha ?_
    rw [if_neg hc6]; exact ⟨rfl, hs⟩
theorem RdNum_c (hs : Sep W w cs) (hk : Pick cs (.rdr p 83 st) r) :
    Calls P 15 #[.pointer (some ⟨p, 0, none⟩)] w (Rt fun v w' => v = .int .i64 (rNum st).1 ∧ Sep W w' (.rdr p 83 (rNum st).2 :: r)) := by
  obtain ⟨A, c, hs⟩ := hs.rdr_open hk
  have hsh := hs.rd_shape (.there .here)
  unfold maxLen at hsh
  refine enter Tryd.func15 Tryd.ntmps15 rfl rfl fun a (ha : Has a 31 [(0, _)]) => ?_
  refine wp_seq_k fun K1 hK1 => ?_
  refine wp_region_lit ?_
  refine pY ha (yAssign (by rfl)) rfl fun a ha => ?_
  refine pZ ?_
  refine hK1 _ _ ?_
  refine scopeF 2 99999 ?_
  refine wp_seq_k fun K2 hK2 => ?_
  refine wp_region_lit ?_
  refine pY ha (yAssign (by rfl)) rfl fun a ha => ?_
  refine pZ ?_
  refine hK2 _ _ ?_
  refine wp_seq_k fun K3 hK3 => ?_
  refine wp_region_lit ?_
  refine pY ha (yAssign (by rfl)) rfl fun a ha => ?_
  refine pZ ?_
  refine hK3 _ _ ?_
  refine wp_seq_k fun K4 hK4 => ?_
  refine wp_seq_k fun K5 hK5 => ?_
  refine wp_region_lit ?_
  refine pY ha (yMove (by rfl)) rfl fun a ha => ?_
  refine pC ha (nCall Tryd.call31 (by rfl)) rfl (Err_c hs .here) ?_
  rintro v w ⟨rfl, hs⟩ a ha
  refine pY ha (yNeq (by rfl) (by rfl)) rfl fun a ha => ?_
  refine pZ ?_
  refine hK5 _ _ ?_
  first | refine cNDec ha (by rfl) (fun hc7 => ?_) (fun hc7 => ?_) | refine cDec ha (by rfl) (fun hc7 => ?_) (fun hc7 => ?_) | refine cSplit ha (by rfl) (fun hc7 => ?_) (fun hc7 => ?_)
  · refine wp_goto ?_
    repeat (with_reducible first | refine gThen ?_ | refine gBlock ?_)
    refine gxF rfl rfl ?_
    refine wp_seq_k fun K6 hK6 => ?_
    refine wp_skip ?_
    refine hK6 _ _ ?_
    refine wp_seq_k fun K7 hK7 => ?_
    refine wp_region_lit ?_
    refine pY ha (yAssign (by rfl)) rfl fun a ha => ?_
    refine pZ ?_
    refine hK7 _ _ ?_
    refine wp_ret ?_
    show bodyPost Tryd.prog Tryd.f15 _ .ret _ _
    refine ret1 rfl ha (by rfl) ?_
    rw [rNum_err hc7]; exact ⟨rfl, hs.rdr_shut .here .here⟩
  · refine wp_skip ?_
    refine hK4 _ _ ?_
    refine wp_seq_k fun K8 hK8 => ?_
    refine wp_seq_k fun K9 hK9 => ?_
    refine wp_region_lit ?_
    refine pY ha (yMove (by rfl)) rfl fun a ha => ?_
    refine pY ha (yNilP (by rfl)) rfl fun a ha => ?_
    refine pY ha (yFieldA Tryd.runUnderlying83 rfl Tryd.sizeOf25 rfl (by rfl)) rfl fun a ha => ?_
    first | refine pY ha (yLoadB Tryd.isAgg25 hs (by rfl) (by repeat first | exact .here | apply Pick.there) (by rfl)) rfl fun a ha => ?_ | refine pY ha (yLoadR Tryd.isAgg25 hs (by rfl) (by repeat first | exact .here | apply Pick.there) (by rfl)) rfl fun a ha => ?_ | refine pY ha (yLoadR0 Tryd.isAgg25 hs (by rfl) (by repeat first | exact .here | apply Pick.there) (by rfl)) rfl fun a ha => ?_
    refine pC ha (nCall Tryd.call52 (by rfl)) rfl (Get_c hs (.there .here)) ?_
    rintro v w ⟨rfl, hs⟩ a ha
    rcases hN : getN st.1 with _ | ⟨m, u⟩ <;> rw [hN] at ha
    · refine pY ha (yMove (by rfl)) rfl fun a ha => ?_
      refine pY ha (yExtract (by rfl) (by rfl)) rfl fun a ha => ?_
      refine pY ha (yExtract (by rfl) (by rfl)) rfl fun a ha => ?_
      refine pY ha (yExtract (by rfl) (by rfl)) rfl fun a ha => ?_
      refine pY ha (yAssign (by rfl)) rfl fun a ha => ?_
      refine pY ha (yAssign (by rfl)) rfl fun a ha => ?_
      refine pY ha (yAssign (by rfl)) rfl fun a ha => ?_
      refine pZ ?_
      refine hK9 _ _ ?_
      refine wp_seq_k fun K10 hK10 => ?_
      refine wp_region_lit ?_
      refine pY ha (yMove (by rfl)) rfl fun a ha => ?_
      refine pY ha (yNeq (by rfl) (by rfl)) rfl fun a ha => ?_
      refine pZ ?_
      refine hK10 _ _ ?_
      first | refine cNDec ha (by rfl) (fun hc18 => ?_) (fun hc18 => ?_) | refine cDec ha (by rfl) (fun hc18 => ?_) (fun hc18 => ?_) | refine cSplit ha (by rfl) (fun hc18 => ?_) (fun hc18 => ?_)
      · refine wp_goto ?_
        repeat (with_reducible first | refine gThen ?_ | refine gBlock ?_)
        refine gxF rfl rfl ?_
        refine wp_seq_k fun K11 hK11 => ?_
        refine wp_skip ?_
        refine hK11 _ _ ?_
        refine wp_seq_k fun K12 hK12 => ?_
        refine wp_region_lit ?_
        refine pY ha (yMove (by rfl)) rfl fun a ha => ?_
        refine pC ha (nCall Tryd.call53 (by rfl)) rfl (fails_c hs .here) ?_
        rintro v w ⟨rfl, hs⟩ a ha
        refine pZ ?_
        refine hK12 _ _ ?_
        refine wp_seq_k fun K13 hK13 => ?_
        refine wp_label ?_
        refine hK13 _ _ ?_
        refine wp_seq_k fun K14 hK14 => ?_
        refine wp_region_lit ?_
        refine pY ha (yAssign (by rfl)) rfl fun a ha => ?_
        refine pZ ?_
        refine hK14 _ _ ?_
        refine wp_ret ?_
        show bodyPost Tryd.prog Tryd.f15 _ .ret _ _
        refine ret1 rfl ha (by rfl) ?_
        rw [rNum, if_pos hc7, hN]; rw [if_pos hc7] at hs; exact ⟨rfl, hs.rdr_shut .here .here⟩
      · refine wp_skip ?_
        refine hK8 _ _ ?_
        refine wp_seq_k fun K15 hK15 => ?_
        refine wp_region_lit ?_
        refine pY ha (yMove (by rfl)) rfl fun a ha => ?_
        refine pY ha (yMove (by rfl)) rfl fun a ha => ?_
        refine pY ha (yNilP (by rfl)) rfl fun a ha => ?_
        refine pY ha (yFieldA Tryd.runUnderlying83 rfl Tryd.sizeOf25 rfl (by rfl)) rfl fun a ha => ?_
        first | refine pY ha (yLoadB Tryd.isAgg25 hs (by rfl) (by repeat first | exact .here | apply Pick.there) (by rfl)) rfl fun a ha => ?_ | refine pY ha (yLoadR Tryd.isAgg25 hs (by rfl) (by repeat first | exact .here | apply Pick.there) (by rfl)) rfl fun a ha => ?_ | refine pY ha (yLoadR0 Tryd.isAgg25 hs (by rfl) (by repeat first | exact .here | apply Pick.there) (by rfl)) rfl fun a ha => ?_
        refine pY ha (yMove (by rfl)) rfl fun a ha => ?_
        refine pY ha (ySlice Tryd.runUnderlying25 Tryd.sizeOf5 (by rfl) (.inr ⟨_, _, rfl, (by rfl)⟩) (.inl ⟨rfl, rfl⟩) (by omega) (by omega)) rfl fun a ha => ?_
        refine pY ha (yNilP (by rfl)) rfl fun a ha => ?_
        refine pY ha (yFieldA Tryd.runUnderlying83 rfl Tryd.sizeOf25 rfl (by rfl)) rfl fun a ha => ?_
        refine pStore ha Tryd.sizeOf25 hs (by rfl) (by rfl) rfl rfl (by repeat first | exact .here | apply Pick.there) (by rfl) fun w hs => ?_
        refine pZ ?_
        refine hK15 _ _ ?_
        refine wp_seq_k fun K16 hK16 => ?_
        refine wp_seq_k fun K17 hK17 => ?_
        refine wp_region_lit ?_
        refine pY ha (yMove (by rfl)) rfl fun a ha => ?_
        refine pY ha (yAssign (by rfl)) rfl fun a ha => ?_
        refine pZ ?_
        refine hK17 _ _ ?_
        refine wp_ret ?_
        show bodyPost Tryd.prog Tryd.f15 _ .ret _ _
        refine ret1 rfl ha (by rfl) ?_
        exact absurd hc18 (by decide)
    · have hu := getN_some hN
      refine pY ha (yMove (by rfl)) rfl fun a ha => ?_
      refine pY ha (yExtract (by rfl) (by rfl)) rfl fun a ha => ?_
      refine pY ha (yExtract (by rfl) (by rfl)) rfl fun a ha => ?_
      refine pY ha (yExtract (by rfl) (by rfl)) rfl fun a ha => ?_
      refine pY ha (yAssign (by rfl)) rfl fun a ha => ?_
      refine pY ha (yAssign (by rfl)) rfl fun a ha => ?_
      refine pY ha (yAssign (by rfl)) rfl fun a ha => ?_
      refine pZ ?_
      refine hK9 _ _ ?_
      refine wp_seq_k fun K18 hK18 => ?_
      refine wp_region_lit ?_
      refine pY ha (yMove (by rfl)) rfl fun a ha => ?_
      refine pY ha (yNeq (by rfl) (by rfl)) rfl fun a ha => ?_
      refine pZ ?_
      refine hK18 _ _ ?_
      first | refine cNDec ha (by rfl) (fun hc18 => ?_) (fun hc18 => ?_) | refine cDec ha (by rfl) (fun hc18 => ?_) (fun hc18 => ?_) | refine cSplit ha (by rfl) (fun hc18 => ?_) (fun hc18 => ?_)
      · refine wp_goto ?_
        repeat (with_reducible first | refine gThen ?_ | refine gBlock ?_)
        refine gxF rfl rfl ?_
        refine wp_seq_k fun K19 hK19 => ?_
        refine wp_skip ?_
        refine hK19 _ _ ?_
        refine wp_seq_k fun K20 hK20 => ?_
        refine wp_region_lit ?_
        refine pY ha (yMove (by rfl)) rfl fun a ha => ?_
        refine pC ha (nCall Tryd.call53 (by rfl)) rfl (fails_c hs .here) ?_
        rintro v w ⟨rfl, hs⟩ a ha
        refine pZ ?_
        refine hK20 _ _ ?_
        refine wp_seq_k fun K21 hK21 => ?_
        refine wp_label ?_
        refine hK21 _ _ ?_
        refine wp_seq_k fun K22 hK22 => ?_
        refine wp_region_lit ?_
        refine pY ha (yAssign (by rfl)) rfl fun a ha => ?_
        refine pZ ?_
        refine hK22 _ _ ?_
        refine wp_ret ?_
        show bodyPost Tryd.prog Tryd.f15 _ .ret _ _
        refine ret1 rfl ha (by rfl) ?_
        exact absurd rfl hc18
      · refine wp_skip ?_
        refine hK8 _ _ ?_
        refine wp_seq_k fun K23 hK23 => ?_
        refine wp_region_lit ?_
        refine pY ha (yMove (by rfl)) rfl fun a ha => ?_
        refine pY ha (yMove (by rfl)) rfl fun a ha => ?_
        refine pY ha (yNilP (by rfl)) rfl fun a ha => ?_
        refine pY ha (yFieldA Tryd.runUnderlying83 rfl Tryd.sizeOf25 rfl (by rfl)) rfl fun a ha => ?_
        first | refine pY ha (yLoadB Tryd.isAgg25 hs (by rfl) (by repeat first | exact .here | apply Pick.there) (by rfl)) rfl fun a ha => ?_ | refine pY ha (yLoadR Tryd.isAgg25 hs (by rfl) (by repeat first | exact .here | apply Pick.there) (by rfl)) rfl fun a ha => ?_ | refine pY ha (yLoadR0 Tryd.isAgg25 hs (by rfl) (by repeat first | exact .here | apply Pick.there) (by rfl)) rfl fun a ha => ?_
        refine pY ha (yMove (by rfl)) rfl fun a ha => ?_
        refine pY ha (ySlice Tryd.runUnderlying25 Tryd.sizeOf5 (by rfl) (.inr ⟨_, _, rfl, (by rfl)⟩) (.inl ⟨rfl, rfl⟩) (by omega) (by omega)) rfl fun a ha => ?_
        refine pY ha (yNilP (by rfl)) rfl fun a ha => ?_
        refine pY ha (yFieldA Tryd.runUnderlying83 rfl Tryd.sizeOf25 rfl (by rfl)) rfl fun a ha => ?_
        refine pStore ha Tryd.sizeOf25 hs (by rfl) (by rfl) rfl rfl (by repeat first | exact .here | apply Pick.there) (by rfl) fun w hs => ?_
        refine pZ ?_
        refine hK23 _ _ ?_
        refine wp_seq_k fun K24 hK24 => ?_
        refine wp_seq_k fun K25 hK25 => ?_
        refine wp_region_lit ?_
        refine pY ha (yMove (by rfl)) rfl fun a ha => ?_
        refine pY ha (yAssign (by rfl)) rfl fun a ha => ?_
        refine pZ ?_
        refine hK25 _ _ ?_
        refine wp_ret ?_
        show bodyPost Tryd.prog Tryd.f15 _ .ret _ _
        refine ret1 rfl ha (by rfl) ?_
        rw [rNum, if_pos hc7, hN, ← hc7]
        have hs := hs.rd_cut (.there .here) (lo := u) (hi := st.1.length) (by omega) (Nat.le_refl _)
        rw [List.take_length] at hs
        exact ⟨rfl, (hs.rdr_shut (.there .here) .here).drop2⟩
theorem RdText_c (hT : Tabs W) (most : Int) (hs : Sep W w cs) (hk : Pick cs (.rdr p 83 st) r) :
    Calls P 17 #[.pointer (some ⟨p, 0, none⟩), .int .i64 most] w (Rt fun v w' => v = .string (rText most st).1 ∧ Sep W w' (.rdr p 83 (rText most st).2 :: r)) := by
  refine enter Tryd.func17 Tryd.ntmps17 rfl rfl fun a (ha : Has a 54 [(0, _), (1, _)]) => ?_
  refine wp_seq_k fun K1 hK1 => ?_
  refine wp_region_lit ?_
  refine pY ha (yAssign (by rfl)) rfl fun a ha => ?_
  refine pZ ?_
  refine hK1 _ _ ?_
  refine wp_seq_k fun K2 hK2 => ?_
  refine wp_region_lit ?_
  refine pY ha (yMove (by rfl)) rfl fun a ha => ?_
  refine pC ha (nCall Tryd.call15 (by rfl)) rfl (RdNum_c hs hk) ?_
  rintro v w ⟨rfl, hs⟩ a ha
  rcases hq : rNum st with ⟨n, bs, e⟩
  have hv := rNum_val st
  rw [hq] at ha hs hv
  simp only at ha hs hv
  obtain ⟨m, rfl⟩ := Int.eq_ofNat_of_zero_le hv.1
  obtain ⟨A, c, hs⟩ := hs.rdr_open .here
  simp only at hs
  have hsh := hs.rd_shape (.there .here)
  unfold maxLen at hsh
  refine pY ha (yAssign (by rfl)) rfl fun a ha => ?_
  refine pZ ?_
  refine hK2 _ _ ?_
  refine wp_seq_k fun K3 hK3 => ?_
  refine wp_seq_k fun K4 hK4 => ?_
  refine wp_region_lit ?_
  refine pY ha (yMove (by rfl)) rfl fun a ha => ?_
  refine pC ha (nCall Tryd.call31 (by rfl)) rfl (Err_c hs .here) ?_
  rintro v w ⟨rfl, hs⟩ a ha
  refine pY ha (yNeq (by rfl) (by rfl)) rfl fun a ha => ?_
  refine pZ ?_
  refine hK4 _ _ ?_
  first | refine cNDec ha (by rfl) (fun hc11 => ?_) (fun hc11 => ?_) | refine cDec ha (by rfl) (fun hc11 => ?_) (fun hc11 => ?_) | refine cSplit ha (by rfl) (fun hc11 => ?_) (fun hc11 => ?_)
  · refine wp_seq_k fun K5 hK5 => ?_
    refine wp_region_lit ?_
    refine pY ha (yAssign (by rfl)) rfl fun a ha => ?_
    refine pZ ?_
    refine hK5 _ _ ?_
    refine wp_ret ?_
    show bodyPost Tryd.prog Tryd.f17 _ .ret _ _
    refine ret1 rfl ha (by rfl) ?_
    rw [rText_1 hq hc11]; exact ⟨rfl, hs.rdr_shut .here .here⟩
  · obtain rfl := hc11
    refine wp_skip ?_
    refine hK3 _ _ ?_
    refine wp_seq_k fun K6 hK6 => ?_
    refine wp_seq_k fun K7 hK7 => ?_
    refine cutC (fun a w => Has a 54 [(29, .bool (decide ((bs.length : Int) < m ∨ okText (bs.take m) = false))), (0, .pointer (some ⟨p, 0, none⟩)), (1, .int .i64 most), (5, .int .i64 m)] ∧ Sep W w (.blk p 83 [.slice A bs.length c, .int .i64 0] :: .rd kU8 (.slice A bs.length c) bs :: r)) ?_ ?_
    · refine wp_region_lit ?_
      refine pY ha (yMove (by rfl)) rfl fun a ha => ?_
      refine pY ha (yMove (by rfl)) rfl fun a ha => ?_
      refine pY ha (yNilP (by rfl)) rfl fun a ha => ?_
      refine pY ha (yFieldA Tryd.runUnderlying83 rfl Tryd.sizeOf25 rfl (by rfl)) rfl fun a ha => ?_
      first | refine pY ha (yLoadB Tryd.isAgg25 hs (by rfl) (by repeat first | exact .here | apply Pick.there) (by rfl)) rfl fun a ha => ?_ | refine pY ha (yLoadR Tryd.isAgg25 hs (by rfl) (by repeat first | exact .here | apply Pick.there) (by rfl)) rfl fun a ha => ?_ | refine pY ha (yLoadR0 Tryd.isAgg25 hs (by rfl) (by repeat first | exact .here | apply Pick.there) (by rfl)) rfl fun a ha => ?_
      refine pY ha (yLenS Tryd.runUnderlying25 (by rfl)) rfl fun a ha => ?_
      refine pY ha (yGtr (by rfl) (by rfl)) rfl fun a ha => ?_
      refine pY ha (yMove (by rfl)) rfl fun a ha => ?_
      refine gDec (t := 19) ha (by rfl) (fun hg7 hp7 => ?_) (fun hg7 hp7 => ?_)
      · rw [hg7] at ha
        have hs := hs.rd_cut (.there .here) (lo := 0) (hi := m) (Nat.zero_le _) (by omega)
        refine gOn ha rfl rfl (by rfl) ?_
        refine pY ha (yMove (by rfl)) rfl fun a ha => ?_
        refine gOn ha rfl rfl (by rfl) ?_
        refine pY ha (yNilP (by rfl)) rfl fun a ha => ?_
        refine gOn ha rfl rfl (by rfl) ?_
        refine pY ha (yFieldA Tryd.runUnderlying83 rfl Tryd.sizeOf25 rfl (by rfl)) rfl fun a ha => ?_
        refine gOn ha rfl rfl (by rfl) ?_
        first | refine pY ha (yLoadB Tryd.isAgg25 hs (by rfl) (by repeat first | exact .here | apply Pick.there) (by rfl)) rfl fun a ha => ?_ | refine pY ha (yLoadR Tryd.isAgg25 hs (by rfl) (by repeat first | exact .here | apply Pick.there) (by rfl)) rfl fun a ha => ?_ | refine pY ha (yLoadR0 Tryd.isAgg25 hs (by rfl) (by repeat first | exact .here | apply Pick.there) (by rfl)) rfl fun a ha => ?_
        refine gOn ha rfl rfl (by rfl) ?_
        refine pY ha (yMove (by rfl)) rfl fun a ha => ?_
        refine gOn ha rfl rfl (by rfl) ?_
        refine pY ha (ySlice Tryd.runUnderlying25 Tryd.sizeOf5 (by rfl) (.inl ⟨rfl, rfl⟩) (.inr ⟨_, _, rfl, (by rfl)⟩) (Nat.zero_le _) (by omega)) rfl fun a ha => ?_
        refine gOn ha rfl rfl (by rfl) ?_
        refine pY ha (yBytesStr Tryd.underlying25 Tryd.underlying5 Tryd.underlying9 hs (by rfl) (by repeat first | exact .here | apply Pick.there)) rfl fun a ha => ?_
        refine gOn ha rfl rfl (by rfl) ?_
        refine pC ha (nCall Tryd.call55 (by rfl)) rfl (Valid_c hT _ (by rw [size_mk]; simp; omega) hs) ?_
        rintro v w ⟨rfl, hs⟩ a ha
        refine gOn ha rfl rfl (by rfl) ?_
        refine pY ha (yNot (by rfl)) rfl fun a ha => ?_
        first | refine pY ha (yPickT (by rfl) (by rfl)) rfl fun a ha => ?_ | refine pY ha (yPickF (by rfl) (by rfl)) rfl fun a ha => ?_ | refine pY ha (yPick (by rfl) (by rfl) (by rfl)) rfl fun a ha => ?_
        refine pZ ⟨rfl, ?_⟩
        first
          | exact ⟨has4 ha (bY (.inl hp7)) (by rfl) (by rfl) (by rfl), hs⟩
          | exact ⟨has4 ha (bN (by simp [hp7])) (by rfl) (by rfl) (by rfl), hs.drop⟩
      · rw [hg7] at ha
        refine gOff ha rfl rfl (by rfl) rfl rfl fun a ha => ?_
        refine gOff ha rfl rfl (by rfl) rfl rfl fun a ha => ?_
        refine gOff ha rfl rfl (by rfl) rfl rfl fun a ha => ?_
        refine gOff ha rfl rfl (by rfl) rfl rfl fun a ha => ?_
        refine gOff ha rfl rfl (by rfl) rfl rfl fun a ha => ?_
        refine gOff ha rfl rfl (by rfl) rfl rfl fun a ha => ?_
        refine gOff ha rfl rfl (by rfl) rfl rfl fun a ha => ?_
        refine gOff ha rfl rfl (by rfl) rfl rfl fun a ha => ?_
        refine gOff ha rfl rfl (by rfl) rfl rfl fun a ha => ?_
        first | refine pY ha (yPickT (by rfl) (by rfl)) rfl fun a ha => ?_ | refine pY ha (yPickF (by rfl) (by rfl)) rfl fun a ha => ?_ | refine pY ha (yPick (by rfl) (by rfl) (by rfl)) rfl fun a ha => ?_
        refine pZ ⟨rfl, ?_⟩
        first
          | exact ⟨has4 ha (bY (.inl hp7)) (by rfl) (by rfl) (by rfl), hs⟩
          | exact ⟨has4 ha (bN (by simp [hp7])) (by rfl) (by rfl) (by rfl), hs.drop⟩
    rintro a w ⟨ha, hs⟩
    refine hK7 _ _ ?_
    first | refine cDec ha (by rfl) (fun hc29 => ?_) (fun hc29 => ?_) | refine cSplit ha (by rfl) (fun hc29 => ?_) (fun hc29 => ?_)
    · have hb : rText most st = _ := rText_2 hq hc29
      refine wp_seq_k fun K8 hK8 => ?_
      refine wp_region_lit ?_
      refine pY ha (yMove (by rfl)) rfl fun a ha => ?_
      refine pC ha (nCall Tryd.call53 (by rfl)) rfl (fails_c hs (by repeat first | exact .here | apply Pick.there)) ?_
      rintro v w ⟨rfl, hs⟩ a ha
      refine pZ ?_
      refine hK8 _ _ ?_
      refine wp_seq_k fun K9 hK9 => ?_
      refine wp_region_lit ?_
      refine pY ha (yAssign (by rfl)) rfl fun a ha => ?_
      refine pZ ?_
      refine hK9 _ _ ?_
      refine wp_ret ?_
      show bodyPost Tryd.prog Tryd.f17 _ .ret _ _
      refine ret1 rfl ha (by rfl) ?_
      rw [hb]; exact ⟨rfl, hs.rdr_shut .here .here⟩
    · have hb1 : ¬ ((m : Int) > bs.length) := fun h => hc29 (.inl h)
      have hb2 : okText (bs.take m) = true := by simpa using fun h => hc29 (.inr h)
      refine wp_skip ?_
      refine hK6 _ _ ?_
      refine wp_seq_k fun K10 hK10 => ?_
      refine wp_seq_k fun K11 hK11 => ?_
      refine wp_region_lit ?_
      refine pY ha (yMove (by rfl)) rfl fun a ha => ?_
      refine pY ha (yMove (by rfl)) rfl fun a ha => ?_
      refine pY ha (yGtr (by rfl) (by rfl)) rfl fun a ha => ?_
      refine pZ ?_
      refine hK11 _ _ ?_
      first | refine cDec ha (by rfl) (fun hc34 => ?_) (fun hc34 => ?_) | refine cSplit ha (by rfl) (fun hc34 => ?_) (fun hc34 => ?_)
      · have hb : rText most st = _ := rText_3 hq hb1 hb2 hc34
        refine wp_seq_k fun K12 hK12 => ?_
        refine wp_region_lit ?_
        refine pY ha (yMove (by rfl)) rfl fun a ha => ?_
        refine pC ha (nCall Tryd.call53 (by rfl)) rfl (fails_c hs (by repeat first | exact .here | apply Pick.there)) ?_
        rintro v w ⟨rfl, hs⟩ a ha
        refine pZ ?_
        refine hK12 _ _ ?_
        refine wp_seq_k fun K13 hK13 => ?_
        refine wp_region_lit ?_
        refine pY ha (yAssign (by rfl)) rfl fun a ha => ?_
        refine pZ ?_
        refine hK13 _ _ ?_
        refine wp_ret ?_
        show bodyPost Tryd.prog Tryd.f17 _ .ret _ _
        refine ret1 rfl ha (by rfl) ?_
        rw [hb]; exact ⟨rfl, hs.rdr_shut .here .here⟩
      · have hb : rText most st = _ := rText_4 hq hb1 hb2 hc34
        have hs := hs.rd_cut (.there .here) (lo := 0) (hi := m) (Nat.zero_le _) (by omega)
        refine wp_skip ?_
        refine hK10 _ _ ?_
        refine wp_seq_k fun K14 hK14 => ?_
        refine wp_region_lit ?_
        refine pY ha (yMove (by rfl)) rfl fun a ha => ?_
        refine pY ha (yNilP (by rfl)) rfl fun a ha => ?_
        refine pY ha (yFieldA Tryd.runUnderlying83 rfl Tryd.sizeOf25 rfl (by rfl)) rfl fun a ha => ?_
        first | refine pY ha (yLoadB Tryd.isAgg25 hs (by rfl) (by repeat first | exact .here | apply Pick.there) (by rfl)) rfl fun a ha => ?_ | refine pY ha (yLoadR Tryd.isAgg25 hs (by rfl) (by repeat first | exact .here | apply Pick.there) (by rfl)) rfl fun a ha => ?_ | refine pY ha (yLoadR0 Tryd.isAgg25 hs (by rfl) (by repeat first | exact .here | apply Pick.there) (by rfl)) rfl fun a ha => ?_
        refine pY ha (yMove (by rfl)) rfl fun a ha => ?_
        refine pY ha (ySlice Tryd.runUnderlying25 Tryd.sizeOf5 (by rfl) (.inl ⟨rfl, rfl⟩) (.inr ⟨_, _, rfl, (by rfl)⟩) (Nat.zero_le _) (by omega)) rfl fun a ha => ?_
        refine pY ha (yBytesStr Tryd.underlying25 Tryd.underlying5 Tryd.underlying9 hs (by rfl) (by repeat first | exact .here | apply Pick.there)) rfl fun a ha => ?_
        refine pY ha (yAssign (by rfl)) rfl fun a ha => ?_
        refine pZ ?_
        refine hK14 _ _ ?_
        refine wp_seq_k fun K15 hK15 => ?_
        have hs := hs.drop
        have hs := (hs.rd_cut (.there .here) (lo := m) (hi := bs.length) (by omega) (Nat.le_refl _)).perm (List.Perm.swap _ _ _)
        rw [List.take_length] at hs
        refine wp_region_lit ?_
        refine pY ha (yMove (by rfl)) rfl fun a ha => ?_
        refine pY ha (yMove (by rfl)) rfl fun a ha => ?_
        refine pY ha (yNilP (by rfl)) rfl fun a ha => ?_
        refine pY ha (yFieldA Tryd.runUnderlying83 rfl Tryd.sizeOf25 rfl (by rfl)) rfl fun a ha => ?_
        first | refine pY ha (yLoadB Tryd.isAgg25 hs (by rfl) (by repeat first | exact .here | apply Pick.there) (by rfl)) rfl fun a ha => ?_ | refine pY ha (yLoadR Tryd.isAgg25 hs (by rfl) (by repeat first | exact .here | apply Pick.there) (by rfl)) rfl fun a ha => ?_ | refine pY ha (yLoadR0 Tryd.isAgg25 hs (by rfl) (by repeat first | exact .here | apply Pick.there) (by rfl)) rfl fun a ha => ?_
        refine pY ha (yMove (by rfl)) rfl fun a ha => ?_
        refine pY ha (ySlice Tryd.runUnderlying25 Tryd.sizeOf5 (by rfl) (.inr ⟨_, _, rfl, (by rfl)⟩) (.inl ⟨rfl, rfl⟩) (by omega) (by omega)) rfl fun a ha => ?_
        refine pY ha (yNilP (by rfl)) rfl fun a ha => ?_
        refine pY ha (yFieldA Tryd.runUnderlying83 rfl Tryd.sizeOf25 rfl (by rfl)) rfl fun a ha => ?_
        refine pStore ha Tryd.sizeOf25 hs (by rfl) (by rfl) rfl rfl (by repeat first | exact .here | apply Pick.there) (by rfl) fun w hs => ?_
        refine pZ ?_
        refine hK15 _ _ ?_
        refine wp_seq_k fun K16 hK16 => ?_
        refine wp_region_lit ?_
        refine pY ha (yMove (by rfl)) rfl fun a ha => ?_
        refine pY ha (yAssign (by rfl)) rfl fun a ha => ?_
        refine pZ ?_
        refine hK16 _ _ ?_
        refine wp_ret ?_
        show bodyPost Tryd.prog Tryd.f17 _ .ret _ _
        refine ret1 rfl ha (by rfl) ?_
        rw [hb]; exact ⟨rfl, (hs.rdr_shut .here .here).drop2⟩
theorem ErrK_c (hs : Sep W w cs) (hk : Pick cs (.rdr p 83 st) r) :
    Calls P 31 #[.pointer (some ⟨p, 0, none⟩)] w (Rt fun v w' => v = .int .i64 st.2 ∧ Sep W w' (.rdr p 83 st :: r)) := by
  obtain ⟨A, c, hs⟩ := hs.rdr_open hk
  exact (Err_c hs .here).mono (Rt.mono fun v w ⟨hv, hs⟩ => ⟨hv, hs.rdr_shut .here .here⟩)
theorem failsK_c {e' : Int} (hs : Sep W w cs) (hk : Pick cs (.rdr p 83 st) r) :
    Calls P 53 #[.pointer (some ⟨p, 0, none⟩), .int .i64 e'] w (Rt fun v w' => v = .tuple #[] ∧ Sep W w' (.rdr p 83 (rFail st e') :: r)) := by
  obtain ⟨A, c, hs⟩ := hs.rdr_open hk
  refine (fails_c hs .here).mono (Rt.mono fun v w ⟨hv, hs⟩ => ⟨hv, ?_⟩)
  have := hs.rdr_shut .here .here
  unfold rFail
  split <;> rename_i h
  · rw [if_pos h] at this; exact this
  · rw [if_neg h] at this; exact this
theorem Left_c (hs : Sep W w cs) (hk : Pick cs (.rdr p 83 st) r) :
    Calls P 30 #[.pointer (some ⟨p, 0, none⟩)] w (Rt fun v w' => v = .int .i64 (if st.2 = 0 then st.1.length else 0) ∧ Sep W w' (.rdr p 83 st :: r)) := by
  obtain ⟨A, c, hs⟩ := hs.rdr_open hk
  refine enter Tryd.func30 Tryd.ntmps30 rfl rfl fun a (ha : Has a 11 [(0, _)]) => ?_
  refine wp_seq_k fun K1 hK1 => ?_
  refine wp_region_lit ?_
  refine pY ha (yAssign (by rfl)) rfl fun a ha => ?_
  refine pZ ?_
  refine hK1 _ _ ?_
  refine wp_seq_k fun K2 hK2 => ?_
  refine wp_seq_k fun K3 hK3 => ?_
  refine wp_region_lit ?_
  refine pY ha (yMove (by rfl)) rfl fun a ha => ?_
  refine pC ha (nCall Tryd.call31 (by rfl)) rfl (Err_c hs .here) ?_
  rintro v w ⟨rfl, hs⟩ a ha
  refine pY ha (yNeq (by rfl) (by rfl)) rfl fun a ha => ?_
  refine pZ ?_
  refine hK3 _ _ ?_
  first | refine cNDec ha (by rfl) (fun hc5 => ?_) (fun hc5 => ?_) | refine cDec ha (by rfl) (fun hc5 => ?_) (fun hc5 => ?_) | refine cSplit ha (by rfl) (fun hc5 => ?_) (fun hc5 => ?_)
  · refine wp_seq_k fun K4 hK4 => ?_
    refine wp_region_lit ?_
    refine pY ha (yAssign (by rfl)) rfl fun a ha => ?_
    refine pZ ?_
    refine hK4 _ _ ?_
    refine wp_ret ?_
    show bodyPost Tryd.prog Tryd.f30 _ .ret _ _
    refine ret1 rfl ha (by rfl) ?_
    rw [if_neg hc5]; exact ⟨rfl, hs.rdr_shut .here .here⟩
  · refine wp_skip ?_
    refine hK2 _ _ ?_
    refine wp_seq_k fun K5 hK5 => ?_
    refine wp_region_lit ?_
    refine pY ha (yMove (by rfl)) rfl fun a ha => ?_
    refine pY ha (yNilP (by rfl)) rfl fun a ha => ?_
    refine pY ha (yFieldA Tryd.runUnderlying83 rfl Tryd.sizeOf25 rfl (by rfl)) rfl fun a ha => ?_
    first | refine pY ha (yLoadB Tryd.isAgg25 hs (by rfl) (by repeat first | exact .here | apply Pick.there) (by rfl)) rfl fun a ha => ?_ | refine pY ha (yLoadR Tryd.isAgg25 hs (by rfl) (by repeat first | exact .here | apply Pick.there) (by rfl)) rfl fun a ha => ?_ | refine pY ha (yLoadR0 Tryd.isAgg25 hs (by rfl) (by repeat first | exact .here | apply Pick.there) (by rfl)) rfl fun a ha => ?_
    refine pY ha (yLenS Tryd.runUnderlying25 (by rfl)) rfl fun a ha => ?_
    refine pY ha (yAssign (by rfl)) rfl fun a ha => ?_
    refine pZ ?_
    refine hK5 _ _ ?_
    refine wp_ret ?_
    show bodyPost Tryd.prog Tryd.f30 _ .ret _ _
    refine ret1 rfl ha (by rfl) ?_
    rw [if_pos hc5]; exact ⟨rfl, hs.rdr_shut .here .here⟩
theorem RdFlag_c (hs : Sep W w cs) (hk : Pick cs (.rdr p 83 st) r) :
    Calls P 19 #[.pointer (some ⟨p, 0, none⟩)] w (Rt fun v w' => v = .bool (rFlag st).1 ∧ Sep W w' (.rdr p 83 (rFlag st).2 :: r)) := by
  refine enter Tryd.func19 Tryd.ntmps19 rfl rfl fun a (ha : Has a 12 [(0, _)]) => ?_
  refine wp_seq_k fun K1 hK1 => ?_
  refine wp_region_lit ?_
  refine pY ha (yAssign (by rfl)) rfl fun a ha => ?_
  refine pZ ?_
  refine hK1 _ _ ?_
  refine wp_seq_k fun K2 hK2 => ?_
  refine wp_region_lit ?_
  refine pY ha (yMove (by rfl)) rfl fun a ha => ?_
  refine pC ha (nCall Tryd.call15 (by rfl)) rfl (RdNum_c hs hk) ?_
  rintro v w ⟨rfl, hs⟩ a ha
  refine pY ha (yAssign (by rfl)) rfl fun a ha => ?_
  refine pZ ?_
  refine hK2 _ _ ?_
  refine wp_seq_k fun K3 hK3 => ?_
  refine wp_seq_k fun K4 hK4 => ?_
  refine wp_region_lit ?_
  refine pY ha (yMove (by rfl)) rfl fun a ha => ?_
  refine pY ha (yGtr (by rfl) (by rfl)) rfl fun a ha => ?_
  refine pZ ?_
  refine hK4 _ _ ?_
  first | refine cDec ha (by rfl) (fun hc7 => ?_) (fun hc7 => ?_) | refine cSplit ha (by rfl) (fun hc7 => ?_) (fun hc7 => ?_)
  · refine wp_region_lit ?_
    refine pY ha (yMove (by rfl)) rfl fun a ha => ?_
    refine pC ha (nCall Tryd.call53 (by rfl)) rfl (failsK_c hs .here) ?_
    rintro v w ⟨rfl, hs⟩ a ha
    refine pZ ?_
    refine hK3 _ _ ?_
    refine wp_seq_k fun K5 hK5 => ?_
    refine wp_region_lit ?_
    refine pY ha (yMove (by rfl)) rfl fun a ha => ?_
    refine pY ha (yEql (by rfl) (by rfl)) rfl fun a ha => ?_
    refine pY ha (yAssign (by rfl)) rfl fun a ha => ?_
    refine pZ ?_
    refine hK5 _ _ ?_
    refine wp_ret ?_
    show bodyPost Tryd.prog Tryd.f19 _ .ret _ _
    refine ret1 rfl ha (by rfl) ?_
    refine ⟨rfl, ?_⟩; simp only [rFlag]; rw [if_pos hc7]; exact hs
  · refine wp_skip ?_
    refine hK3 _ _ ?_
    refine wp_seq_k fun K6 hK6 => ?_
    refine wp_region_lit ?_
    refine pY ha (yMove (by rfl)) rfl fun a ha => ?_
    refine pY ha (yEql (by rfl) (by rfl)) rfl fun a ha => ?_
    refine pY ha (yAssign (by rfl)) rfl fun a ha => ?_
    refine pZ ?_
    refine hK6 _ _ ?_
    refine wp_ret ?_
    show bodyPost Tryd.prog Tryd.f19 _ .ret _ _
    refine ret1 rfl ha (by rfl) ?_
    refine ⟨rfl, ?_⟩; simp only [rFlag]; rw [if_neg hc7]; exact hs
theorem Many_c (most : Int) (hs : Sep W w cs) (hk : Pick cs (.rdr p 83 st) r) :
    Calls P 57 #[.pointer (some ⟨p, 0, none⟩), .int .i64 most] w (Rt fun v w' => v = .int .i64 (rMany most st).1 ∧ Sep W w' (.rdr p 83 (rMany most st).2 :: r)) := by
  refine enter Tryd.func57 Tryd.ntmps57 rfl rfl fun a (ha : Has a 14 [(0, _), (1, _)]) => ?_
  refine wp_seq_k fun K1 hK1 => ?_
  refine wp_region_lit ?_
  refine pY ha (yAssign (by rfl)) rfl fun a ha => ?_
  refine pZ ?_
  refine hK1 _ _ ?_
  refine wp_seq_k fun K2 hK2 => ?_
  refine wp_region_lit ?_
  refine pY ha (yMove (by rfl)) rfl fun a ha => ?_
  refine pC ha (nCall Tryd.call15 (by rfl)) rfl (RdNum_c hs hk) ?_
  rintro v w ⟨rfl, hs⟩ a ha
  refine pY ha (yAssign (by rfl)) rfl fun a ha => ?_
  refine pZ ?_
  refine hK2 _ _ ?_
  refine wp_seq_k fun K3 hK3 => ?_
  refine wp_seq_k fun K4 hK4 => ?_
  refine wp_region_lit ?_
  refine pY ha (yMove (by rfl)) rfl fun a ha => ?_
  refine pY ha (yMove (by rfl)) rfl fun a ha => ?_
  refine pY ha (yGtr (by rfl) (by rfl)) rfl fun a ha => ?_
  refine pZ ?_
  refine hK4 _ _ ?_
  first | refine cDec ha (by rfl) (fun hc10 => ?_) (fun hc10 => ?_) | refine cSplit ha (by rfl) (fun hc10 => ?_) (fun hc10 => ?_)
  · refine wp_seq_k fun K5 hK5 => ?_
    refine wp_region_lit ?_
    refine pY ha (yMove (by rfl)) rfl fun a ha => ?_
    refine pC ha (nCall Tryd.call53 (by rfl)) rfl (failsK_c hs .here) ?_
    rintro v w ⟨rfl, hs⟩ a ha
    refine pZ ?_
    refine hK5 _ _ ?_
    refine wp_seq_k fun K6 hK6 => ?_
    refine wp_region_lit ?_
    refine pY ha (yAssign (by rfl)) rfl fun a ha => ?_
    refine pZ ?_
    refine hK6 _ _ ?_
    refine wp_ret ?_
    show bodyPost Tryd.prog Tryd.f57 _ .ret _ _
    refine ret1 rfl ha (by rfl) ?_
    simp only [rMany]; rw [if_pos hc10]; exact ⟨rfl, hs⟩
  · refine wp_skip ?_
    refine hK3 _ _ ?_
    refine wp_seq_k fun K7 hK7 => ?_
    refine wp_region_lit ?_
    refine pY ha (yMove (by rfl)) rfl fun a ha => ?_
    refine pY ha (yAssign (by rfl)) rfl fun a ha => ?_
    refine pZ ?_
    refine hK7 _ _ ?_
    refine wp_ret ?_
    show bodyPost Tryd.prog Tryd.f57 _ .ret _ _
    refine ret1 rfl ha (by rfl) ?_
    simp only [rMany]; rw [if_neg hc10]; exact ⟨rfl, hs⟩
theorem NewReader_c {A : Option Addr} {n c : Nat} {bs : List UInt8} (hs : Sep W w cs) (hk : Pick cs (.rd kU8 (.slice A n c) bs) r) (hb : bs.length ≤ 140737488355328) :
    Calls P 13 #[.slice A n c] w (Rt fun v w' => ∃ p, v = .pointer (some ⟨p, 0, none⟩) ∧ Sep W w' (.rdr p 83 (bs, 0) :: cs)) := by
  refine enter Tryd.func13 Tryd.ntmps13 rfl rfl fun a (ha : Has a 7 [(0, _)]) => ?_
  refine wp_seq_k fun K1 hK1 => ?_
  refine wp_region_lit ?_
  refine pY ha (yAssign (by rfl)) rfl fun a ha => ?_
  refine pZ ?_
  refine hK1 _ _ ?_
  refine wp_seq_k fun K2 hK2 => ?_
  refine wp_region_lit ?_
  refine pY ha (yMove (by rfl)) rfl fun a ha => ?_
  refine pC ha (nCall Tryd.call49 (by rfl)) rfl (CloneB_c hs hk hb) ?_
  rintro v w ⟨A', c', rfl, hs⟩ a ha
  have hs := hs.ol_rd .here
  refine pY ha (bldRdr83_0 (by rfl)) rfl fun a ha => ?_
  refine pBox (es := _) ha (by rfl) (by rfl) hs rfl fun b w hs a ha => ?_
  refine pY ha (yAssign (by rfl)) rfl fun a ha => ?_
  refine pZ ?_
  refine hK2 _ _ ?_
  refine wp_ret ?_
  show bodyPost Tryd.prog Tryd.f13 _ .ret _ _
  refine ret1 rfl ha (by rfl) ?_
  exact ⟨b, rfl, hs.rdr_shut .here .here⟩
theorem RdComps_c (hT : Tabs W) (hs : Sep W w cs) (hk : Pick cs (.rdr p 83 st) r) :
    Calls P 22 #[.pointer (some ⟨p, 0, none⟩)] w (Rt fun v w' => ∃ A c, v = .slice A (rComps st).1.length c ∧ Sep W w' (.ol kComp 91 (.slice A (rComps st).1.length c) (rComps st).1 :: .rdr p 83 (rComps st).2 :: r)) := by
  have hM := rMany_val 100 (by decide) st
  refine enter Tryd.func22 Tryd.ntmps22 rfl rfl fun a (ha : Has a 22 [(0, _)]) => ?_
  refine wp_seq_k fun K1 hK1 => ?_
  refine wp_region_lit ?_
  refine pY ha (yAssign (by rfl)) rfl fun a ha => ?_
  refine pZ ?_
  refine hK1 _ _ ?_
  refine wp_seq_k fun K2 hK2 => ?_
  refine wp_seq_k fun K3 hK3 => ?_
  refine wp_region_lit ?_
  refine pY ha (yMove (by rfl)) rfl fun a ha => ?_
  refine pC ha (nCall Tryd.call57 (by rfl)) rfl (Many_c 100 hs hk) ?_
  rintro v w ⟨rfl, hs⟩ a ha
  obtain ⟨m, hm⟩ := Int.eq_ofNat_of_zero_le hM.1
  obtain ⟨s1, hs1⟩ : ∃ s1, (rMany 100 st).2 = s1 := ⟨_, rfl⟩
  rw [hm] at ha
  rw [hs1] at hs
  refine pY ha (yMove (by rfl)) rfl fun a ha => ?_
  refine pZ ?_
  refine hK3 _ _ ?_
  refine wp_block ?_
  refine loopI (ι := Nat × Option Addr × Nat) (fun i a w => i.1 ≤ m ∧ Has a 22 [(0, .pointer (some ⟨p, 0, none⟩)), (2, .slice i.2.1 (rList rComp i.1 s1).1.length i.2.2), (4, .int .i64 m), (5, .int .i64 i.1)] ∧ Sep W w (.ol kComp 91 (.slice i.2.1 (rList rComp i.1 s1).1.length i.2.2) (rList rComp i.1 s1).1 :: .rdr p 83 (rList rComp i.1 s1).2 :: r)) (fun i => m - i.1) ((0, none, 0)) ?_ ?_
  · exact ⟨Nat.zero_le _, has4 ha (by rfl) (by rfl) (by rfl) (by rfl), hs.ol_nil kComp _ none⟩
  · rintro i a w ⟨h1, ha, hs⟩
    obtain ⟨i, A, c⟩ := i; simp only at h1 ha hs
    refine wp_seq_k fun K4 hK4 => ?_
    refine wp_region_lit ?_
    refine pY ha (yLss (by rfl) (by rfl)) rfl fun a ha => ?_
    refine pZ ?_
    refine hK4 _ _ ?_
    refine wp_seq_k fun K5 hK5 => ?_
    first | refine cDec ha (by rfl) (fun hc6 => ?_) (fun hc6 => ?_) | refine cSplit ha (by rfl) (fun hc6 => ?_) (fun hc6 => ?_)
    · have hll := rList_len rComp i s1
      have hln := rList_snoc rComp i s1
      generalize hl : rList rComp i s1 = q at ha hs hll hln
      obtain ⟨xs, s2⟩ := q
      simp only at ha hs hll hln
      refine wp_skip ?_
      refine hK5 _ _ ?_
      refine wp_seq_k fun K6 hK6 => ?_
      refine wp_block ?_
      refine wp_region_lit ?_
      refine pY ha (yMove (by rfl)) rfl fun a ha => ?_
      refine pY ha (yMove (by rfl)) rfl fun a ha => ?_
      refine pC ha (nCall Tryd.call15 (by rfl)) rfl (RdNum_c hs (.there .here)) ?_
      rintro v w ⟨rfl, hs⟩ a ha
      refine pY ha (yMove (by rfl)) rfl fun a ha => ?_
      refine pC ha (nCall Tryd.call15 (by rfl)) rfl (RdNum_c hs .here) ?_
      rintro v w ⟨rfl, hs⟩ a ha
      refine pY ha (yMove (by rfl)) rfl fun a ha => ?_
      refine pC ha (nCall Tryd.call17 (by rfl)) rfl (RdText_c hT 8000 hs .here) ?_
      rintro v w ⟨rfl, hs⟩ a ha
      refine pY ha (bldRdr91_0_1_2 (by rfl) (by rfl) (by rfl)) rfl fun a ha => ?_
      refine pMake ha (bslRdr41_1_0 (by rfl)) hs rfl fun b w hs a ha => ?_
      have hs := hs.add (x := .el kComp (rComp s2).1 [.int .i64 (rComp s2).1.kind, .int .i64 (rComp s2).1.n, .string (rComp s2).1.text]) (fun Z => rfl)
      first | refine pApp1 ha elRdr41 (by rfl) (by rfl) hs (by repeat first | exact .here | apply Pick.there) (by repeat first | exact .here | apply Pick.there) (by repeat first | exact .here | apply Pick.there) (by rfl) (by first | omega | (unfold maxLen; omega) | (simp [maxLen]; done) | (simp [maxLen]; omega)) (by first | omega | (unfold maxLen; omega) | (simp [maxLen]; done) | (simp [maxLen]; omega)) rfl fun A c w hs a ha => ?_ | refine pAppRd ha elRdr41 (by rfl) (by rfl) hs (by repeat first | exact .here | apply Pick.there) (by repeat first | exact .here | apply Pick.there) (by rfl) (by first | omega | (unfold maxLen; omega) | (simp [maxLen]; done) | (simp [maxLen]; omega)) (by first | omega | (unfold maxLen; omega) | (simp [maxLen]; done) | (simp [maxLen]; omega)) rfl fun A c w hs a ha => ?_ | refine pApp1F ha elRdr41 (by rfl) (by rfl) hs (by repeat first | exact .here | apply Pick.there) (by repeat first | exact .here | apply Pick.there) (by intro Z; first | rfl | exact ⟨rfl, by omega, by omega⟩) (by rfl) (by first | omega | (unfold maxLen; omega) | (simp [maxLen]; done) | (simp [maxLen]; omega)) (by first | omega | (unfold maxLen; omega) | (simp [maxLen]; done) | (simp [maxLen]; omega)) rfl fun A c w hs a ha => ?_
      refine pY ha (yAssign (by rfl)) rfl fun a ha => ?_
      refine pZ ?_
      refine hK6 _ _ ?_
      refine wp_region_lit ?_
      first | refine pY ha (yAddN (by rfl) (by rfl) ⟨by omega, by omega⟩) rfl fun a ha => ?_ | refine pY ha (yAdd (by rfl) (by rfl)) rfl fun a ha => ?_
      refine pY ha (yMove (by rfl)) rfl fun a ha => ?_
      refine pZ ?_
      have e1 : (rList rComp (i + 1) s1).1 = xs ++ [(rComp s2).1] := by rw [hln]
      have e2 : (rList rComp (i + 1) s1).2 = (rComp s2).2 := by rw [hln]
      refine ⟨(i + 1, A, c), ⟨by simp only; omega, ?_, ?_⟩, by simp only; omega⟩
      · simp only [e1, List.length_append, List.length_cons, List.length_nil]; exact has4 ha (by rfl) (by rfl) (by rfl) (by rfl)
      · simp only [e1, e2, List.length_append, List.length_cons, List.length_nil]; exact hs
    · refine wp_exit ?_
      refine hK2 _ _ ?_
      refine wp_seq_k fun K7 hK7 => ?_
      refine wp_seq_k fun K8 hK8 => ?_
      obtain rfl : i = m := by omega
      have hA : rComps st = _ := rAll_at (f := rComp) hm hs1
      refine wp_region_lit ?_
      refine pY ha (yMove (by rfl)) rfl fun a ha => ?_
      refine pC ha (nCall Tryd.call31 (by rfl)) rfl (ErrK_c hs (.there .here)) ?_
      rintro v w ⟨rfl, hs⟩ a ha
      refine pY ha (yNeq (by rfl) (by rfl)) rfl fun a ha => ?_
      refine pZ ?_
      refine hK8 _ _ ?_
      first | refine cNDec ha (by rfl) (fun hc20 => ?_) (fun hc20 => ?_) | refine cDec ha (by rfl) (fun hc20 => ?_) (fun hc20 => ?_) | refine cSplit ha (by rfl) (fun hc20 => ?_) (fun hc20 => ?_)
      · refine wp_seq_k fun K9 hK9 => ?_
        refine wp_region_lit ?_
        refine pY ha (yAssign (by rfl)) rfl fun a ha => ?_
        refine pZ ?_
        refine hK9 _ _ ?_
        refine wp_ret ?_
        show bodyPost Tryd.prog Tryd.f22 _ .ret _ _
        refine ret1 rfl ha (by rfl) ?_
        rw [if_neg hc20] at hA; rw [hA]; exact ⟨none, 0, rfl, hs.drop2.ol_nil kComp _ none⟩
      · refine wp_skip ?_
        refine hK7 _ _ ?_
        refine wp_seq_k fun K10 hK10 => ?_
        refine wp_region_lit ?_
        refine pY ha (yMove (by rfl)) rfl fun a ha => ?_
        refine pY ha (yAssign (by rfl)) rfl fun a ha => ?_
        refine pZ ?_
        refine hK10 _ _ ?_
        refine wp_ret ?_
        show bodyPost Tryd.prog Tryd.f22 _ .ret _ _
        refine ret1 rfl ha (by rfl) ?_
        rw [if_pos hc20] at hA; rw [hA]; exact ⟨A, c, rfl, hs.perm (List.Perm.swap _ _ _)⟩
theorem RdNods_c (hT : Tabs W) (hs : Sep W w cs) (hk : Pick cs (.rdr p 83 st) r) :
    Calls P 28 #[.pointer (some ⟨p, 0, none⟩)] w (Rt fun v w' => ∃ A c, v = .slice A (rNods st).1.length c ∧ Sep W w' (.ol kNod 65 (.slice A (rNods st).1.length c) (rNods st).1 :: .rdr p 83 (rNods st).2 :: r)) := by
  have hM := rMany_val 100 (by decide) st
  refine enter Tryd.func28 Tryd.ntmps28 rfl rfl fun a (ha : Has a 26 [(0, _)]) => ?_
  refine wp_seq_k fun K1 hK1 => ?_
  refine wp_region_lit ?_
  refine pY ha (yAssign (by rfl)) rfl fun a ha => ?_
  refine pZ ?_
  refine hK1 _ _ ?_
  refine wp_seq_k fun K2 hK2 => ?_
  refine wp_seq_k fun K3 hK3 => ?_
  refine wp_region_lit ?_
  refine pY ha (yMove (by rfl)) rfl fun a ha => ?_
  refine pC ha (nCall Tryd.call57 (by rfl)) rfl (Many_c 100 hs hk) ?_
  rintro v w ⟨rfl, hs⟩ a ha
  obtain ⟨m, hm⟩ := Int.eq_ofNat_of_zero_le hM.1
  obtain ⟨s1, hs1⟩ : ∃ s1, (rMany 100 st).2 = s1 := ⟨_, rfl⟩
  rw [hm] at ha
  rw [hs1] at hs
  refine pY ha (yMove (by rfl)) rfl fun a ha => ?_
  refine pZ ?_
  refine hK3 _ _ ?_
  refine wp_block ?_
  refine loopI (ι := Nat × Option Addr × Nat) (fun i a w => i.1 ≤ m ∧ Has a 26 [(0, .pointer (some ⟨p, 0, none⟩)), (2, .slice i.2.1 (rList rNod i.1 s1).1.length i.2.2), (4, .int .i64 m), (5, .int .i64 i.1)] ∧ Sep W w (.ol kNod 65 (.slice i.2.1 (rList rNod i.1 s1).1.length i.2.2) (rList rNod i.1 s1).1 :: .rdr p 83 (rList rNod i.1 s1).2 :: r)) (fun i => m - i.1) ((0, none, 0)) ?_ ?_
  · exact ⟨Nat.zero_le _, has4 ha (by rfl) (by rfl) (by rfl) (by rfl), hs.ol_nil kNod _ none⟩
  · rintro i a w ⟨h1, ha, hs⟩
    obtain ⟨i, A, c⟩ := i; simp only at h1 ha hs
    refine wp_seq_k fun K4 hK4 => ?_
    refine wp_region_lit ?_
    refine pY ha (yLss (by rfl) (by rfl)) rfl fun a ha => ?_
    refine pZ ?_
    refine hK4 _ _ ?_
    refine wp_seq_k fun K5 hK5 => ?_
    first | refine cDec ha (by rfl) (fun hc6 => ?_) (fun hc6 => ?_) | refine cSplit ha (by rfl) (fun hc6 => ?_) (fun hc6 => ?_)
    · have hll := rList_len rNod i s1
      have hln := rList_snoc rNod i s1
      generalize hl : rList rNod i s1 = q at ha hs hll hln
      obtain ⟨xs, s2⟩ := q
      simp only at ha hs hll hln
      refine wp_skip ?_
      refine hK5 _ _ ?_
      refine wp_seq_k fun K6 hK6 => ?_
      refine wp_block ?_
      refine wp_region_lit ?_
      refine pY ha (yMove (by rfl)) rfl fun a ha => ?_
      refine pY ha (yMove (by rfl)) rfl fun a ha => ?_
      refine pC ha (nCall Tryd.call15 (by rfl)) rfl (RdNum_c hs (.there .here)) ?_
      rintro v w ⟨rfl, hs⟩ a ha
      refine pY ha (yMove (by rfl)) rfl fun a ha => ?_
      refine pC ha (nCall Tryd.call15 (by rfl)) rfl (RdNum_c hs .here) ?_
      rintro v w ⟨rfl, hs⟩ a ha
      refine pY ha (yMove (by rfl)) rfl fun a ha => ?_
      refine pC ha (nCall Tryd.call17 (by rfl)) rfl (RdText_c hT 100 hs .here) ?_
      rintro v w ⟨rfl, hs⟩ a ha
      refine pY ha (yMove (by rfl)) rfl fun a ha => ?_
      refine pC ha (nCall Tryd.call19 (by rfl)) rfl (RdFlag_c hs .here) ?_
      rintro v w ⟨rfl, hs⟩ a ha
      refine pY ha (yMove (by rfl)) rfl fun a ha => ?_
      refine pC ha (nCall Tryd.call17 (by rfl)) rfl (RdText_c hT 8000 hs .here) ?_
      rintro v w ⟨rfl, hs⟩ a ha
      refine pY ha (bldRdr65_0_1_2_3_4 (by rfl) (by rfl) (by rfl) (by rfl) (by rfl)) rfl fun a ha => ?_
      refine pMake ha (bslRdr47_1_0 (by rfl)) hs rfl fun b w hs a ha => ?_
      have hs := hs.add (x := .el kNod (rNod s2).1 [.int .i64 (rNod s2).1.id, .int .i64 (rNod s2).1.parent, .string (rNod s2).1.name, .bool (rNod s2).1.dir, .string (rNod s2).1.text]) (fun Z => rfl)
      first | refine pApp1 ha elRdr47 (by rfl) (by rfl) hs (by repeat first | exact .here | apply Pick.there) (by repeat first | exact .here | apply Pick.there) (by repeat first | exact .here | apply Pick.there) (by rfl) (by first | omega | (unfold maxLen; omega) | (simp [maxLen]; done) | (simp [maxLen]; omega)) (by first | omega | (unfold maxLen; omega) | (simp [maxLen]; done) | (simp [maxLen]; omega)) rfl fun A c w hs a ha => ?_ | refine pAppRd ha elRdr47 (by rfl) (by rfl) hs (by repeat first | exact .here | apply Pick.there) (by repeat first | exact .here | apply Pick.there) (by rfl) (by first | omega | (unfold maxLen; omega) | (simp [maxLen]; done) | (simp [maxLen]; omega)) (by first | omega | (unfold maxLen; omega) | (simp [maxLen]; done) | (simp [maxLen]; omega)) rfl fun A c w hs a ha => ?_ | refine pApp1F ha elRdr47 (by rfl) (by rfl) hs (by repeat first | exact .here | apply Pick.there) (by repeat first | exact .here | apply Pick.there) (by intro Z; first | rfl | exact ⟨rfl, by omega, by omega⟩) (by rfl) (by first | omega | (unfold maxLen; omega) | (simp [maxLen]; done) | (simp [maxLen]; omega)) (by first | omega | (unfold maxLen; omega) | (simp [maxLen]; done) | (simp [maxLen]; omega)) rfl fun A c w hs a ha => ?_
      refine pY ha (yAssign (by rfl)) rfl fun a ha => ?_
      refine pZ ?_
      refine hK6 _ _ ?_
      refine wp_region_lit ?_
      first | refine pY ha (yAddN (by rfl) (by rfl) ⟨by omega, by omega⟩) rfl fun a ha => ?_ | refine pY ha (yAdd (by rfl) (by rfl)) rfl fun a ha => ?_
      refine pY ha (yMove (by rfl)) rfl fun a ha => ?_
      refine pZ ?_
      have e1 : (rList rNod (i + 1) s1).1 = xs ++ [(rNod s2).1] := by rw [hln]
      have e2 : (rList rNod (i + 1) s1).2 = (rNod s2).2 := by rw [hln]
      refine ⟨(i + 1, A, c), ⟨by simp only; omega, ?_, ?_⟩, by simp only; omega⟩
      · simp only [e1, List.length_append, List.length_cons, List.length_nil]; exact has4 ha (by rfl) (by rfl) (by rfl) (by rfl)
      · simp only [e1, e2, List.length_append, List.length_cons, List.length_nil]; exact hs
    · refine wp_exit ?_
      refine hK2 _ _ ?_
      refine wp_seq_k fun K7 hK7 => ?_
      refine wp_seq_k fun K8 hK8 => ?_
      obtain rfl : i = m := by omega
      have hA : rNods st = _ := rAll_at (f := rNod) hm hs1
      refine wp_region_lit ?_
      refine pY ha (yMove (by rfl)) rfl fun a ha => ?_
      refine pC ha (nCall Tryd.call31 (by rfl)) rfl (ErrK_c hs (.there .here)) ?_
      rintro v w ⟨rfl, hs⟩ a ha
      refine pY ha (yNeq (by rfl) (by rfl)) rfl fun a ha => ?_
      refine pZ ?_
      refine hK8 _ _ ?_
      first | refine cNDec ha (by rfl) (fun hc24 => ?_) (fun hc24 => ?_) | refine cDec ha (by rfl) (fun hc24 => ?_) (fun hc24 => ?_) | refine cSplit ha (by rfl) (fun hc24 => ?_) (fun hc24 => ?_)
      · refine wp_seq_k fun K9 hK9 => ?_
        refine wp_region_lit ?_
        refine pY ha (yAssign (by rfl)) rfl fun a ha => ?_
        refine pZ ?_
        refine hK9 _ _ ?_
        refine wp_ret ?_
        show bodyPost Tryd.prog Tryd.f28 _ .ret _ _
        refine ret1 rfl ha (by rfl) ?_
        rw [if_neg hc24] at hA; rw [hA]; exact ⟨none, 0, rfl, hs.drop2.ol_nil kNod _ none⟩
      · refine wp_skip ?_
        refine hK7 _ _ ?_
        refine wp_seq_k fun K10 hK10 => ?_
        refine wp_region_lit ?_
        refine pY ha (yMove (by rfl)) rfl fun a ha => ?_
        refine pY ha (yAssign (by rfl)) rfl fun a ha => ?_
        refine pZ ?_
        refine hK10 _ _ ?_
        refine wp_ret ?_
        show bodyPost Tryd.prog Tryd.f28 _ .ret _ _
        refine ret1 rfl ha (by rfl) ?_
        rw [if_pos hc24] at hA; rw [hA]; exact ⟨A, c, rfl, hs.perm (List.Perm.swap _ _ _)⟩
theorem RdActns_c (hT : Tabs W) (hs : Sep W w cs) (hk : Pick cs (.rdr p 83 st) r) :
    Calls P 25 #[.pointer (some ⟨p, 0, none⟩)] w (Rt fun v w' => ∃ A c, v = .slice A (rActns st).1.length c ∧ Sep W w' (.ol kActn 63 (.slice A (rActns st).1.length c) (rActns st).1 :: .rdr p 83 (rActns st).2 :: r)) := by
  have hM := rMany_val 20 (by decide) st
  refine enter Tryd.func25 Tryd.ntmps25 rfl rfl fun a (ha : Has a 28 [(0, _)]) => ?_
  refine wp_seq_k fun K1 hK1 => ?_
  refine wp_region_lit ?_
  refine pY ha (yAssign (by rfl)) rfl fun a ha => ?_
  refine pZ ?_
  refine hK1 _ _ ?_
  refine wp_seq_k fun K2 hK2 => ?_
  refine wp_seq_k fun K3 hK3 => ?_
  refine wp_region_lit ?_
  refine pY ha (yMove (by rfl)) rfl fun a ha => ?_
  refine pC ha (nCall Tryd.call57 (by rfl)) rfl (Many_c 20 hs hk) ?_
  rintro v w ⟨rfl, hs⟩ a ha
  obtain ⟨m, hm⟩ := Int.eq_ofNat_of_zero_le hM.1
  obtain ⟨s1, hs1⟩ : ∃ s1, (rMany 20 st).2 = s1 := ⟨_, rfl⟩
  rw [hm] at ha
  rw [hs1] at hs
  refine pY ha (yMove (by rfl)) rfl fun a ha => ?_
  refine pZ ?_
  refine hK3 _ _ ?_
  refine wp_block ?_
  refine loopI (ι := Nat × Option Addr × Nat) (fun i a w => i.1 ≤ m ∧ Has a 28 [(0, .pointer (some ⟨p, 0, none⟩)), (2, .slice i.2.1 (rList rActn i.1 s1).1.length i.2.2), (4, .int .i64 m), (5, .int .i64 i.1)] ∧ Sep W w (.ol kActn 63 (.slice i.2.1 (rList rActn i.1 s1).1.length i.2.2) (rList rActn i.1 s1).1 :: .rdr p 83 (rList rActn i.1 s1).2 :: r)) (fun i => m - i.1) ((0, none, 0)) ?_ ?_
  · exact ⟨Nat.zero_le _, has4 ha (by rfl) (by rfl) (by rfl) (by rfl), hs.ol_nil kActn _ none⟩
  · rintro i a w ⟨h1, ha, hs⟩
    obtain ⟨i, A, c⟩ := i; simp only at h1 ha hs
    refine wp_seq_k fun K4 hK4 => ?_
    refine wp_region_lit ?_
    refine pY ha (yLss (by rfl) (by rfl)) rfl fun a ha => ?_
    refine pZ ?_
    refine hK4 _ _ ?_
    refine wp_seq_k fun K5 hK5 => ?_
    first | refine cDec ha (by rfl) (fun hc6 => ?_) (fun hc6 => ?_) | refine cSplit ha (by rfl) (fun hc6 => ?_) (fun hc6 => ?_)
    · have hll := rList_len rActn i s1
      have hln := rList_snoc rActn i s1
      generalize hl : rList rActn i s1 = q at ha hs hll hln
      obtain ⟨xs, s2⟩ := q
      simp only at ha hs hll hln
      refine wp_skip ?_
      refine hK5 _ _ ?_
      refine wp_seq_k fun K6 hK6 => ?_
      refine wp_block ?_
      refine wp_region_lit ?_
      refine pY ha (yMove (by rfl)) rfl fun a ha => ?_
      refine pY ha (yMove (by rfl)) rfl fun a ha => ?_
      refine pC ha (nCall Tryd.call15 (by rfl)) rfl (RdNum_c hs (.there .here)) ?_
      rintro v w ⟨rfl, hs⟩ a ha
      refine pY ha (yMove (by rfl)) rfl fun a ha => ?_
      refine pC ha (nCall Tryd.call15 (by rfl)) rfl (RdNum_c hs .here) ?_
      rintro v w ⟨rfl, hs⟩ a ha
      refine pY ha (yMove (by rfl)) rfl fun a ha => ?_
      refine pC ha (nCall Tryd.call15 (by rfl)) rfl (RdNum_c hs .here) ?_
      rintro v w ⟨rfl, hs⟩ a ha
      refine pY ha (yMove (by rfl)) rfl fun a ha => ?_
      refine pC ha (nCall Tryd.call17 (by rfl)) rfl (RdText_c hT 100 hs .here) ?_
      rintro v w ⟨rfl, hs⟩ a ha
      refine pY ha (yMove (by rfl)) rfl fun a ha => ?_
      refine pC ha (nCall Tryd.call19 (by rfl)) rfl (RdFlag_c hs .here) ?_
      rintro v w ⟨rfl, hs⟩ a ha
      refine pY ha (yMove (by rfl)) rfl fun a ha => ?_
      refine pC ha (nCall Tryd.call22 (by rfl)) rfl (RdComps_c hT hs .here) ?_
      rintro v w ⟨A', c', rfl, hs⟩ a ha
      have hs := hs.ol_rd .here
      refine pY ha (bldRdr63_0_1_2_3_4_5 (by rfl) (by rfl) (by rfl) (by rfl) (by rfl) (by rfl)) rfl fun a ha => ?_
      refine pMake ha (bslRdr44_1_0 (by rfl)) hs rfl fun b w hs a ha => ?_
      have hs := hs.with_ro (.there .here) (q := fun Z => kActn.R Z (rActn s2).1 [.int .i64 (rActn s2).1.kind, .int .i64 (rActn s2).1.id, .int .i64 (rActn s2).1.parent, .string (rActn s2).1.name, .bool (rActn s2).1.dir, .slice A' (rActn s2).1.ops.length c']) (m' := fun _ _ h => kActn.mono h) (fun Z hp => ⟨A', _, c', rfl, hp⟩)
      first | refine pApp1 ha elRdr44 (by rfl) (by rfl) hs (by repeat first | exact .here | apply Pick.there) (by repeat first | exact .here | apply Pick.there) (by repeat first | exact .here | apply Pick.there) (by rfl) (by first | omega | (unfold maxLen; omega) | (simp [maxLen]; done) | (simp [maxLen]; omega)) (by first | omega | (unfold maxLen; omega) | (simp [maxLen]; done) | (simp [maxLen]; omega)) rfl fun A c w hs a ha => ?_ | refine pAppRd ha elRdr44 (by rfl) (by rfl) hs (by repeat first | exact .here | apply Pick.there) (by repeat first | exact .here | apply Pick.there) (by rfl) (by first | omega | (unfold maxLen; omega) | (simp [maxLen]; done) | (simp [maxLen]; omega)) (by first | omega | (unfold maxLen; omega) | (simp [maxLen]; done) | (simp [maxLen]; omega)) rfl fun A c w hs a ha => ?_ | refine pApp1F ha elRdr44 (by rfl) (by rfl) hs (by repeat first | exact .here | apply Pick.there) (by repeat first | exact .here | apply Pick.there) (by intro Z; first | rfl | exact ⟨rfl, by omega, by omega⟩) (by rfl) (by first | omega | (unfold maxLen; omega) | (simp [maxLen]; done) | (simp [maxLen]; omega)) (by first | omega | (unfold maxLen; omega) | (simp [maxLen]; done) | (simp [maxLen]; omega)) rfl fun A c w hs a ha => ?_
      refine pY ha (yAssign (by rfl)) rfl fun a ha => ?_
      refine pZ ?_
      refine hK6 _ _ ?_
      refine wp_region_lit ?_
      first | refine pY ha (yAddN (by rfl) (by rfl) ⟨by omega, by omega⟩) rfl fun a ha => ?_ | refine pY ha (yAdd (by rfl) (by rfl)) rfl fun a ha => ?_
      refine pY ha (yMove (by rfl)) rfl fun a ha => ?_
      refine pZ ?_
      have e1 : (rList rActn (i + 1) s1).1 = xs ++ [(rActn s2).1] := by rw [hln]
      have e2 : (rList rActn (i + 1) s1).2 = (rActn s2).2 := by rw [hln]
      refine ⟨(i + 1, A, c), ⟨by simp only; omega, ?_, ?_⟩, by simp only; omega⟩
      · simp only [e1, List.length_append, List.length_cons, List.length_nil]; exact has4 ha (by rfl) (by rfl) (by rfl) (by rfl)
      · simp only [e1, e2, List.length_append, List.length_cons, List.length_nil]; exact hs.drop2
    · refine wp_exit ?_
      refine hK2 _ _ ?_
      refine wp_seq_k fun K7 hK7 => ?_
      refine wp_seq_k fun K8 hK8 => ?_
      obtain rfl : i = m := by omega
      have hA : rActns st = _ := rAll_at (f := rActn) hm hs1
      refine wp_region_lit ?_
      refine pY ha (yMove (by rfl)) rfl fun a ha => ?_
      refine pC ha (nCall Tryd.call31 (by rfl)) rfl (ErrK_c hs (.there .here)) ?_
      rintro v w ⟨rfl, hs⟩ a ha
      refine pY ha (yNeq (by rfl) (by rfl)) rfl fun a ha => ?_
      refine pZ ?_
      refine hK8 _ _ ?_
      first | refine cNDec ha (by rfl) (fun hc26 => ?_) (fun hc26 => ?_) | refine cDec ha (by rfl) (fun hc26 => ?_) (fun hc26 => ?_) | refine cSplit ha (by rfl) (fun hc26 => ?_) (fun hc26 => ?_)
      · refine wp_seq_k fun K9 hK9 => ?_
        refine wp_region_lit ?_
        refine pY ha (yAssign (by rfl)) rfl fun a ha => ?_
        refine pZ ?_
        refine hK9 _ _ ?_
        refine wp_ret ?_
        show bodyPost Tryd.prog Tryd.f25 _ .ret _ _
        refine ret1 rfl ha (by rfl) ?_
        rw [if_neg hc26] at hA; rw [hA]; exact ⟨none, 0, rfl, hs.drop2.ol_nil kActn _ none⟩
      · refine wp_skip ?_
        refine hK7 _ _ ?_
        refine wp_seq_k fun K10 hK10 => ?_
        refine wp_region_lit ?_
        refine pY ha (yMove (by rfl)) rfl fun a ha => ?_
        refine pY ha (yAssign (by rfl)) rfl fun a ha => ?_
        refine pZ ?_
        refine hK10 _ _ ?_
        refine wp_ret ?_
        show bodyPost Tryd.prog Tryd.f25 _ .ret _ _
        refine ret1 rfl ha (by rfl) ?_
        rw [if_pos hc26] at hA; rw [hA]; exact ⟨A, c, rfl, hs.perm (List.Perm.swap _ _ _)⟩
end
end Go.Proofs.YtnkcmpmcmkljnaaDoor
