/- The document's reader: the walks. -/
import Derived.Test.YtnkcmpmcmkljnaaDoorRdr
set_option linter.unusedVariables false
set_option linter.unusedSimpArgs false
namespace Go.Proofs.YtnkcmpmcmkljnaaDoor
open Go.RowKit Go.Lib
theorem bldIn63_0 {w : World} {l : List (Nat × Value)} {T : TypeId} {x0 : Operand} {v0 : Value} (h0 : ev l x0 = some v0) (o0 : v0.cells = #[v0] := by rfl) : Yl Tryd.prog w l (.build 63 #[(0, x0)]) T (.agg #[v0, .int .i64 0, .int .i64 0, .string ⟨#[]⟩, .bool false, .slice none 0 0]) := fun ρ o h ho _ => by
  have hf : Instr.fill (fun i => ([(0, 1), (1, 1), (2, 1), (3, 1), (4, 1), (5, 1)] : List (Nat × Nat))[i]?) #[.int .i64 0, .int .i64 0, .int .i64 0, .string ⟨#[]⟩, .bool false, .slice none 0 0] [(0, v0)] = some #[v0, .int .i64 0, .int .i64 0, .string ⟨#[]⟩, .bool false, .slice none 0 0] := by
    refine (fill_v o0 (by rfl) (by simp)).trans ?_
    simp [Instr.fill]
  unfold execOp; rw [ho]
  simp [h _ _ h0, Instr.build, Tryd.zeroValue63, Tryd.runUnderlying63, Tryd.sizeOf3, Tryd.sizeOf4, Tryd.sizeOf41, Tryd.sizeOf9, agg_cells, hf]
theorem bldIn65_0 {w : World} {l : List (Nat × Value)} {T : TypeId} {x0 : Operand} {v0 : Value} (h0 : ev l x0 = some v0) (o0 : v0.cells = #[v0] := by rfl) : Yl Tryd.prog w l (.build 65 #[(0, x0)]) T (.agg #[v0, .int .i64 0, .string ⟨#[]⟩, .bool false, .string ⟨#[]⟩]) := fun ρ o h ho _ => by
  have hf : Instr.fill (fun i => ([(0, 1), (1, 1), (2, 1), (3, 1), (4, 1)] : List (Nat × Nat))[i]?) #[.int .i64 0, .int .i64 0, .string ⟨#[]⟩, .bool false, .string ⟨#[]⟩] [(0, v0)] = some #[v0, .int .i64 0, .string ⟨#[]⟩, .bool false, .string ⟨#[]⟩] := by
    refine (fill_v o0 (by rfl) (by simp)).trans ?_
    simp [Instr.fill]
  unfold execOp; rw [ho]
  simp [h _ _ h0, Instr.build, Tryd.zeroValue65, Tryd.runUnderlying65, Tryd.sizeOf3, Tryd.sizeOf4, Tryd.sizeOf9, agg_cells, hf]
theorem bldIn91_0_1_2 {w : World} {l : List (Nat × Value)} {T : TypeId} {x0 x1 x2 : Operand} {v0 : Value} (h0 : ev l x0 = some v0) {v1 : Value} (h1 : ev l x1 = some v1) {v2 : Value} (h2 : ev l x2 = some v2) (o0 : v0.cells = #[v0] := by rfl) (o1 : v1.cells = #[v1] := by rfl) (o2 : v2.cells = #[v2] := by rfl) : Yl Tryd.prog w l (.build 91 #[(0, x0), (1, x1), (2, x2)]) T (.agg #[v0, v1, v2]) := fun ρ o h ho _ => by
  have hf : Instr.fill (fun i => ([(0, 1), (1, 1), (2, 1)] : List (Nat × Nat))[i]?) #[.int .i64 0, .int .i64 0, .string ⟨#[]⟩] [(0, v0), (1, v1), (2, v2)] = some #[v0, v1, v2] := by
    refine (fill_v o0 (by rfl) (by simp)).trans ?_
    refine (fill_v o1 (by rfl) (by simp)).trans ?_
    refine (fill_v o2 (by rfl) (by simp)).trans ?_
    simp [Instr.fill]
  unfold execOp; rw [ho]
  simp [h _ _ h0, h _ _ h1, h _ _ h2, Instr.build, Tryd.zeroValue91, Tryd.runUnderlying91, Tryd.sizeOf3, Tryd.sizeOf9, agg_cells, hf]
theorem bslIn41_1_0 {w : World} {l : List (Nat × Value)} {T : TypeId} {x0 : Operand} {c0 : List Value} (h0 : ev l x0 = some (.agg c0.toArray)) (n0 : c0.length = 3 := by rfl) : Mk Tryd.prog w l (.buildSlice 41 1 #[(0, x0)]) T 91 1 c0 := fun ρ o h ho _ => by
  unfold execOp; rw [ho]
  exact mk1 (P := Tryd.prog) w Tryd.runUnderlying41 Tryd.sizeOf91 Tryd.zeroValue91 (by decide) (by decide) n0 (h _ _ h0)
theorem bslIn44_1_0 {w : World} {l : List (Nat × Value)} {T : TypeId} {x0 : Operand} {c0 : List Value} (h0 : ev l x0 = some (.agg c0.toArray)) (n0 : c0.length = 6 := by rfl) : Mk Tryd.prog w l (.buildSlice 44 1 #[(0, x0)]) T 63 1 c0 := fun ρ o h ho _ => by
  unfold execOp; rw [ho]
  exact mk1 (P := Tryd.prog) w Tryd.runUnderlying44 Tryd.sizeOf63 Tryd.zeroValue63 (by decide) (by decide) n0 (h _ _ h0)
theorem bslIn47_1_0 {w : World} {l : List (Nat × Value)} {T : TypeId} {x0 : Operand} {c0 : List Value} (h0 : ev l x0 = some (.agg c0.toArray)) (n0 : c0.length = 5 := by rfl) : Mk Tryd.prog w l (.buildSlice 47 1 #[(0, x0)]) T 65 1 c0 := fun ρ o h ho _ => by
  unfold execOp; rw [ho]
  exact mk1 (P := Tryd.prog) w Tryd.runUnderlying47 Tryd.sizeOf65 Tryd.zeroValue65 (by decide) (by decide) n0 (h _ _ h0)
theorem elIn41 : ElemT Tryd.prog 41 91 3 32 := elemT_mk Tryd.underlying41 rfl (by kernel_rfl)
theorem elIn44 : ElemT Tryd.prog 44 63 6 72 := elemT_mk Tryd.underlying44 rfl (by kernel_rfl)
theorem elIn47 : ElemT Tryd.prog 47 65 5 56 := elemT_mk Tryd.underlying47 rfl (by kernel_rfl)
section
variable {W w : World} {cs r : List Ch} {p : Nat} {st : St}
theorem InNum_c (hs : Sep W w cs) (hk : Pick cs (.rdr p 36 st) r) :
    Calls P 16 #[.pointer (some ⟨p, 0, none⟩)] w (Rt fun v w' => v = .int .i64 (rNum st).1 ∧ Sep W w' (.rdr p 36 (rNum st).2 :: r)) := by
  obtain ⟨A, c, hs⟩ := hs.rdr_open hk
  have hsh := hs.rd_shape (.there .here)
  unfold maxLen at hsh
  refine enter Tryd.func16 Tryd.ntmps16 rfl rfl fun a (ha : Has a 33 [(0, _)]) => ?_
  refine wp_seq_k fun K1 hK1 => ?_
  refine wp_region_lit ?_
  refine pY ha (yAssign (by rfl)) rfl fun a ha => ?_
  refine pZ ?_
  refine hK1 _ _ ?_
  refine wp_seq_k fun K2 hK2 => ?_
  refine wp_seq_k fun K3 hK3 => ?_
  refine wp_region_lit ?_
  refine pY ha (yMove (by rfl)) rfl fun a ha => ?_
  refine pY ha (yNilP (by rfl)) rfl fun a ha => ?_
  refine pY ha (yFieldA Tryd.runUnderlying36 rfl Tryd.sizeOf3 rfl (by rfl)) rfl fun a ha => ?_
  first | refine pY ha (yLoadB Tryd.isAgg3 hs (by rfl) (by repeat first | exact .here | apply Pick.there) (by rfl)) rfl fun a ha => ?_ | refine pY ha (yLoadR Tryd.isAgg3 hs (by rfl) (by repeat first | exact .here | apply Pick.there) (by rfl)) rfl fun a ha => ?_ | refine pY ha (yLoadR0 Tryd.isAgg3 hs (by rfl) (by repeat first | exact .here | apply Pick.there) (by rfl)) rfl fun a ha => ?_
  refine pY ha (yNeq (by rfl) (by rfl)) rfl fun a ha => ?_
  refine pZ ?_
  refine hK3 _ _ ?_
  first | refine cNDec ha (by rfl) (fun hc9 => ?_) (fun hc9 => ?_) | refine cDec ha (by rfl) (fun hc9 => ?_) (fun hc9 => ?_) | refine cSplit ha (by rfl) (fun hc9 => ?_) (fun hc9 => ?_)
  · refine wp_seq_k fun K4 hK4 => ?_
    refine wp_region_lit ?_
    refine pY ha (yAssign (by rfl)) rfl fun a ha => ?_
    refine pZ ?_
    refine hK4 _ _ ?_
    refine wp_ret ?_
    show bodyPost Tryd.prog Tryd.f16 _ .ret _ _
    refine ret1 rfl ha (by rfl) ?_
    rw [rNum_err hc9]; exact ⟨rfl, hs.rdr_shut .here .here⟩
  · refine wp_skip ?_
    refine hK2 _ _ ?_
    refine wp_seq_k fun K5 hK5 => ?_
    refine wp_region_lit ?_
    refine pY ha (yMove (by rfl)) rfl fun a ha => ?_
    refine pY ha (yNilP (by rfl)) rfl fun a ha => ?_
    refine pY ha (yFieldA Tryd.runUnderlying36 rfl Tryd.sizeOf25 rfl (by rfl)) rfl fun a ha => ?_
    first | refine pY ha (yLoadB Tryd.isAgg25 hs (by rfl) (by repeat first | exact .here | apply Pick.there) (by rfl)) rfl fun a ha => ?_ | refine pY ha (yLoadR Tryd.isAgg25 hs (by rfl) (by repeat first | exact .here | apply Pick.there) (by rfl)) rfl fun a ha => ?_ | refine pY ha (yLoadR0 Tryd.isAgg25 hs (by rfl) (by repeat first | exact .here | apply Pick.there) (by rfl)) rfl fun a ha => ?_
    refine pC ha (nCall Tryd.call54 (by rfl)) rfl (RGet_c hs (.there .here)) ?_
    rintro v w ⟨rfl, hs⟩ a ha
    rcases hN : getN st.1 with _ | ⟨m, u⟩ <;> rw [hN] at ha
    · refine pY ha (yMove (by rfl)) rfl fun a ha => ?_
      refine pY ha (yExtract (by rfl) (by rfl)) rfl fun a ha => ?_
      refine pY ha (yExtract (by rfl) (by rfl)) rfl fun a ha => ?_
      refine pY ha (yAssign (by rfl)) rfl fun a ha => ?_
      refine pY ha (yAssign (by rfl)) rfl fun a ha => ?_
      refine pZ ?_
      refine hK5 _ _ ?_
      refine wp_seq_k fun K6 hK6 => ?_
      refine wp_seq_k fun K7 hK7 => ?_
      refine wp_region_lit ?_
      refine pY ha (yMove (by rfl)) rfl fun a ha => ?_
      refine pY ha (yEql (by rfl) (by rfl)) rfl fun a ha => ?_
      refine pZ ?_
      refine hK7 _ _ ?_
      first | refine cDec ha (by rfl) (fun hc19 => ?_) (fun hc19 => ?_) | refine cSplit ha (by rfl) (fun hc19 => ?_) (fun hc19 => ?_)
      · refine wp_seq_k fun K8 hK8 => ?_
        refine wp_region_lit ?_
        refine pY ha (yMove (by rfl)) rfl fun a ha => ?_
        refine pY ha (yNilP (by rfl)) rfl fun a ha => ?_
        refine pY ha (yFieldA Tryd.runUnderlying36 rfl Tryd.sizeOf3 rfl (by rfl)) rfl fun a ha => ?_
        refine pStore ha Tryd.sizeOf3 hs (by rfl) (by rfl) rfl rfl (by repeat first | exact .here | apply Pick.there) (by rfl) fun w hs => ?_
        refine pZ ?_
        refine hK8 _ _ ?_
        refine wp_seq_k fun K9 hK9 => ?_
        refine wp_region_lit ?_
        refine pY ha (yAssign (by rfl)) rfl fun a ha => ?_
        refine pZ ?_
        refine hK9 _ _ ?_
        refine wp_ret ?_
        show bodyPost Tryd.prog Tryd.f16 _ .ret _ _
        refine ret1 rfl ha (by rfl) ?_
        rw [rNum, if_pos hc9, hN]; exact ⟨rfl, hs.rdr_shut .here .here⟩
      · refine wp_skip ?_
        refine hK6 _ _ ?_
        refine wp_seq_k fun K10 hK10 => ?_
        refine wp_region_lit ?_
        refine pY ha (yMove (by rfl)) rfl fun a ha => ?_
        refine pY ha (yMove (by rfl)) rfl fun a ha => ?_
        refine pY ha (yNilP (by rfl)) rfl fun a ha => ?_
        refine pY ha (yFieldA Tryd.runUnderlying36 rfl Tryd.sizeOf25 rfl (by rfl)) rfl fun a ha => ?_
        first | refine pY ha (yLoadB Tryd.isAgg25 hs (by rfl) (by repeat first | exact .here | apply Pick.there) (by rfl)) rfl fun a ha => ?_ | refine pY ha (yLoadR Tryd.isAgg25 hs (by rfl) (by repeat first | exact .here | apply Pick.there) (by rfl)) rfl fun a ha => ?_ | refine pY ha (yLoadR0 Tryd.isAgg25 hs (by rfl) (by repeat first | exact .here | apply Pick.there) (by rfl)) rfl fun a ha => ?_
        refine pY ha (yMove (by rfl)) rfl fun a ha => ?_
        refine pY ha (ySlice Tryd.runUnderlying25 Tryd.sizeOf5 (by rfl) (.inr ⟨_, _, rfl, (by rfl)⟩) (.inl ⟨rfl, rfl⟩) (by omega) (by omega)) rfl fun a ha => ?_
        refine pY ha (yNilP (by rfl)) rfl fun a ha => ?_
        refine pY ha (yFieldA Tryd.runUnderlying36 rfl Tryd.sizeOf25 rfl (by rfl)) rfl fun a ha => ?_
        refine pStore ha Tryd.sizeOf25 hs (by rfl) (by rfl) rfl rfl (by repeat first | exact .here | apply Pick.there) (by rfl) fun w hs => ?_
        refine pZ ?_
        refine hK10 _ _ ?_
        refine wp_seq_k fun K11 hK11 => ?_
        refine wp_region_lit ?_
        refine pY ha (yMove (by rfl)) rfl fun a ha => ?_
        refine pY ha (yAssign (by rfl)) rfl fun a ha => ?_
        refine pZ ?_
        refine hK11 _ _ ?_
        refine wp_ret ?_
        show bodyPost Tryd.prog Tryd.f16 _ .ret _ _
        refine ret1 rfl ha (by rfl) ?_
        exact absurd rfl hc19
    · have hu := getN_some hN
      refine pY ha (yMove (by rfl)) rfl fun a ha => ?_
      refine pY ha (yExtract (by rfl) (by rfl)) rfl fun a ha => ?_
      refine pY ha (yExtract (by rfl) (by rfl)) rfl fun a ha => ?_
      refine pY ha (yAssign (by rfl)) rfl fun a ha => ?_
      refine pY ha (yAssign (by rfl)) rfl fun a ha => ?_
      refine pZ ?_
      refine hK5 _ _ ?_
      refine wp_seq_k fun K12 hK12 => ?_
      refine wp_seq_k fun K13 hK13 => ?_
      refine wp_region_lit ?_
      refine pY ha (yMove (by rfl)) rfl fun a ha => ?_
      refine pY ha (yEql (by rfl) (by rfl)) rfl fun a ha => ?_
      refine pZ ?_
      refine hK13 _ _ ?_
      first | refine cDec ha (by rfl) (fun hc19 => ?_) (fun hc19 => ?_) | refine cSplit ha (by rfl) (fun hc19 => ?_) (fun hc19 => ?_)
      · refine wp_seq_k fun K14 hK14 => ?_
        refine wp_region_lit ?_
        refine pY ha (yMove (by rfl)) rfl fun a ha => ?_
        refine pY ha (yNilP (by rfl)) rfl fun a ha => ?_
        refine pY ha (yFieldA Tryd.runUnderlying36 rfl Tryd.sizeOf3 rfl (by rfl)) rfl fun a ha => ?_
        refine pStore ha Tryd.sizeOf3 hs (by rfl) (by rfl) rfl rfl (by repeat first | exact .here | apply Pick.there) (by rfl) fun w hs => ?_
        refine pZ ?_
        refine hK14 _ _ ?_
        refine wp_seq_k fun K15 hK15 => ?_
        refine wp_region_lit ?_
        refine pY ha (yAssign (by rfl)) rfl fun a ha => ?_
        refine pZ ?_
        refine hK15 _ _ ?_
        refine wp_ret ?_
        show bodyPost Tryd.prog Tryd.f16 _ .ret _ _
        refine ret1 rfl ha (by rfl) ?_
        exact absurd hc19 (by omega)
      · refine wp_skip ?_
        refine hK12 _ _ ?_
        refine wp_seq_k fun K16 hK16 => ?_
        refine wp_region_lit ?_
        refine pY ha (yMove (by rfl)) rfl fun a ha => ?_
        refine pY ha (yMove (by rfl)) rfl fun a ha => ?_
        refine pY ha (yNilP (by rfl)) rfl fun a ha => ?_
        refine pY ha (yFieldA Tryd.runUnderlying36 rfl Tryd.sizeOf25 rfl (by rfl)) rfl fun a ha => ?_
        first | refine pY ha (yLoadB Tryd.isAgg25 hs (by rfl) (by repeat first | exact .here | apply Pick.there) (by rfl)) rfl fun a ha => ?_ | refine pY ha (yLoadR Tryd.isAgg25 hs (by rfl) (by repeat first | exact .here | apply Pick.there) (by rfl)) rfl fun a ha => ?_ | refine pY ha (yLoadR0 Tryd.isAgg25 hs (by rfl) (by repeat first | exact .here | apply Pick.there) (by rfl)) rfl fun a ha => ?_
        refine pY ha (yMove (by rfl)) rfl fun a ha => ?_
        refine pY ha (ySlice Tryd.runUnderlying25 Tryd.sizeOf5 (by rfl) (.inr ⟨_, _, rfl, (by rfl)⟩) (.inl ⟨rfl, rfl⟩) (by omega) (by omega)) rfl fun a ha => ?_
        refine pY ha (yNilP (by rfl)) rfl fun a ha => ?_
        refine pY ha (yFieldA Tryd.runUnderlying36 rfl Tryd.sizeOf25 rfl (by rfl)) rfl fun a ha => ?_
        refine pStore ha Tryd.sizeOf25 hs (by rfl) (by rfl) rfl rfl (by repeat first | exact .here | apply Pick.there) (by rfl) fun w hs => ?_
        refine pZ ?_
        refine hK16 _ _ ?_
        refine wp_seq_k fun K17 hK17 => ?_
        refine wp_region_lit ?_
        refine pY ha (yMove (by rfl)) rfl fun a ha => ?_
        refine pY ha (yAssign (by rfl)) rfl fun a ha => ?_
        refine pZ ?_
        refine hK17 _ _ ?_
        refine wp_ret ?_
        show bodyPost Tryd.prog Tryd.f16 _ .ret _ _
        refine ret1 rfl ha (by rfl) ?_
        rw [rNum, if_pos hc9, hN, ← hc9]
        have hs := hs.rd_cut (.there .here) (lo := u) (hi := st.1.length) (by omega) (Nat.le_refl _)
        rw [List.take_length] at hs
        exact ⟨rfl, (hs.rdr_shut (.there .here) .here).drop2⟩
theorem InText_c (most : Int) (hs : Sep W w cs) (hk : Pick cs (.rdr p 36 st) r) :
    Calls P 18 #[.pointer (some ⟨p, 0, none⟩), .int .i64 most] w (Rt fun v w' => v = .string (rText most st).1 ∧ Sep W w' (.rdr p 36 (rText most st).2 :: r)) := by
  refine enter Tryd.func18 Tryd.ntmps18 rfl rfl fun a (ha : Has a 67 [(0, _), (1, _)]) => ?_
  refine wp_seq_k fun K1 hK1 => ?_
  refine wp_region_lit ?_
  refine pY ha (yAssign (by rfl)) rfl fun a ha => ?_
  refine pZ ?_
  refine hK1 _ _ ?_
  refine wp_seq_k fun K2 hK2 => ?_
  refine wp_region_lit ?_
  refine pY ha (yMove (by rfl)) rfl fun a ha => ?_
  refine pC ha (nCall Tryd.call16 (by rfl)) rfl (InNum_c hs hk) ?_
  rintro v w ⟨rfl, hs⟩ a ha
  rcases hq : rNum st with ⟨n, bs, e⟩
  have hv := rNum_val st
  rw [hq] at ha hs hv
  simp only at ha hs hv
  obtain ⟨m, rfl⟩ := Int.eq_ofNat_of_zero_le hv.1
  obtain ⟨A, c, hs⟩ := hs.rdr_open .here
  simp only at hs
  have hsh := hs.rd_shape (.there .here)
  unfold maxLen at hsh
  refine pY ha (yAssign (by rfl)) rfl fun a ha => ?_
  refine pZ ?_
  refine hK2 _ _ ?_
  refine wp_seq_k fun K3 hK3 => ?_
  refine wp_block ?_
  refine wp_seq_k fun K4 hK4 => ?_
  refine wp_region_lit ?_
  refine pY ha (yMove (by rfl)) rfl fun a ha => ?_
  refine pY ha (yNilP (by rfl)) rfl fun a ha => ?_
  refine pY ha (yFieldA Tryd.runUnderlying36 rfl Tryd.sizeOf3 rfl (by rfl)) rfl fun a ha => ?_
  first | refine pY ha (yLoadB Tryd.isAgg3 hs (by rfl) (by repeat first | exact .here | apply Pick.there) (by rfl)) rfl fun a ha => ?_ | refine pY ha (yLoadR Tryd.isAgg3 hs (by rfl) (by repeat first | exact .here | apply Pick.there) (by rfl)) rfl fun a ha => ?_ | refine pY ha (yLoadR0 Tryd.isAgg3 hs (by rfl) (by repeat first | exact .here | apply Pick.there) (by rfl)) rfl fun a ha => ?_
  refine pY ha (yNeq (by rfl) (by rfl)) rfl fun a ha => ?_
  refine pY ha (yAssign (by rfl)) rfl fun a ha => ?_
  refine pZ ?_
  refine hK4 _ _ ?_
  first | refine cNDec ha (by rfl) (fun hc9 => ?_) (fun hc9 => ?_) | refine cDec ha (by rfl) (fun hc9 => ?_) (fun hc9 => ?_) | refine cSplit ha (by rfl) (fun hc9 => ?_) (fun hc9 => ?_)
  · refine wp_seq_k fun K5 hK5 => ?_
    refine wp_region_lit ?_
    refine pY ha (yAssign (by rfl)) rfl fun a ha => ?_
    refine pZ ?_
    refine hK5 _ _ ?_
    refine wp_ret ?_
    show bodyPost Tryd.prog Tryd.f18 _ .ret _ _
    refine ret1 rfl ha (by rfl) ?_
    rw [rText_1 hq hc9]; exact ⟨rfl, hs.rdr_shut .here .here⟩
  · obtain rfl := hc9
    refine wp_seq_k fun K6 hK6 => ?_
    refine cutC (fun a w => Has a 67 [(15, .bool (decide ((bs.length : Int) < m ∨ okText (bs.take m) = false))), (0, .pointer (some ⟨p, 0, none⟩)), (1, .int .i64 most), (5, .int .i64 m)] ∧ Sep W w (.blk p 36 [.slice A bs.length c, .int .i64 0] :: .rd kU8 (.slice A bs.length c) bs :: r)) ?_ ?_
    · refine dStart (fun w => Sep W w _) [21] (by kernel_rfl) rfl (hs.drew) ?_
      have hs := Sep.drew hs
      generalize World.drew _ = w at hs ⊢
      refine dP 0 rfl (by kernel_rfl) ha won0 (fun _ => yMove (by rfl)) rfl (fun _ _ _ h => nomatch h.1) fun a ha => ?_
      refine dP 1 rfl (by kernel_rfl) ha won0 (fun _ => yMove (by rfl)) rfl (fun _ _ _ h => nomatch h.1) fun a ha => ?_
      refine dP 2 rfl (by kernel_rfl) ha won0 (fun _ => yNilP (by rfl)) rfl (fun _ _ _ h => nomatch h.1) fun a ha => ?_
      refine dP 3 rfl (by kernel_rfl) ha won0 (fun _ => yFieldA Tryd.runUnderlying36 rfl Tryd.sizeOf25 rfl (by rfl)) rfl (fun _ _ _ h => nomatch h.1) fun a ha => ?_
      first | refine dT 4 rfl (by kernel_rfl) ha won0 (fun _ hs => yLoadB Tryd.isAgg25 hs (by rfl) (by repeat first | exact .here | apply Pick.there) (by rfl)) (hs) rfl (fun _ _ _ h => nomatch h.1) fun a ha => ?_ | refine dT 4 rfl (by kernel_rfl) ha won0 (fun _ hs => yLoadR Tryd.isAgg25 hs (by rfl) (by repeat first | exact .here | apply Pick.there) (by rfl)) (hs) rfl (fun _ _ _ h => nomatch h.1) fun a ha => ?_ | refine dT 4 rfl (by kernel_rfl) ha won0 (fun _ hs => yLoadR0 Tryd.isAgg25 hs (by rfl) (by repeat first | exact .here | apply Pick.there) (by rfl)) (hs) rfl (fun _ _ _ h => nomatch h.1) fun a ha => ?_
      refine dP 5 rfl (by kernel_rfl) ha won0 (fun _ => yLenS Tryd.runUnderlying25 (by rfl)) rfl (fun _ _ _ h => nomatch h.1) fun a ha => ?_
      refine dP 6 rfl (by kernel_rfl) ha won0 (fun _ => yGtr (by rfl) (by rfl)) rfl (fun _ _ _ h => nomatch h.1) fun a ha => ?_
      refine dP 7 rfl (by kernel_rfl) ha won0 (fun _ => yMove (by rfl)) rfl (fun _ _ _ h => nomatch h.1) fun a ha => ?_
      refine gDec (t := 23) ha (by rfl) (fun hg7 hp7 => ?_) (fun hg7 hp7 => ?_)
      · rw [hg7] at ha
        refine dP 8 rfl (by kernel_rfl) ha (won1 rfl rfl (by rfl)) (fun _ => yMove (by rfl)) rfl (fun _ _ _ h => nomatch h.1) fun a ha => ?_
        refine dP 9 rfl (by kernel_rfl) ha (won1 rfl rfl (by rfl)) (fun _ => yNilP (by rfl)) rfl (fun _ _ _ h => nomatch h.1) fun a ha => ?_
        refine dP 10 rfl (by kernel_rfl) ha (won1 rfl rfl (by rfl)) (fun _ => yFieldA Tryd.runUnderlying36 rfl Tryd.sizeOf25 rfl (by rfl)) rfl (fun _ _ _ h => nomatch h.1) fun a ha => ?_
        first | refine dT 11 rfl (by kernel_rfl) ha (won1 rfl rfl (by rfl)) (fun _ hs => yLoadB Tryd.isAgg25 hs (by rfl) (by repeat first | exact .here | apply Pick.there) (by rfl)) (hs) rfl (fun _ _ _ h => nomatch h.1) fun a ha => ?_ | refine dT 11 rfl (by kernel_rfl) ha (won1 rfl rfl (by rfl)) (fun _ hs => yLoadR Tryd.isAgg25 hs (by rfl) (by repeat first | exact .here | apply Pick.there) (by rfl)) (hs) rfl (fun _ _ _ h => nomatch h.1) fun a ha => ?_ | refine dT 11 rfl (by kernel_rfl) ha (won1 rfl rfl (by rfl)) (fun _ hs => yLoadR0 Tryd.isAgg25 hs (by rfl) (by repeat first | exact .here | apply Pick.there) (by rfl)) (hs) rfl (fun _ _ _ h => nomatch h.1) fun a ha => ?_
        refine dP 12 rfl (by kernel_rfl) ha (won1 rfl rfl (by rfl)) (fun _ => yMove (by rfl)) rfl (fun _ _ _ h => nomatch h.1) fun a ha => ?_
        refine dP 13 rfl (by kernel_rfl) ha (won1 rfl rfl (by rfl)) (fun _ => yMove (by rfl)) rfl (fun _ _ _ h => nomatch h.1) fun a ha => ?_
        refine dP 14 rfl (by kernel_rfl) ha (won1 rfl rfl (by rfl)) (fun _ => yNilP (by rfl)) rfl (fun _ _ _ h => nomatch h.1) fun a ha => ?_
        refine dP 15 rfl (by kernel_rfl) ha (won1 rfl rfl (by rfl)) (fun _ => yFieldA Tryd.runUnderlying36 rfl Tryd.sizeOf25 rfl (by rfl)) rfl (fun _ _ _ h => nomatch h.1) fun a ha => ?_
        first | refine dT 16 rfl (by kernel_rfl) ha (won1 rfl rfl (by rfl)) (fun _ hs => yLoadB Tryd.isAgg25 hs (by rfl) (by repeat first | exact .here | apply Pick.there) (by rfl)) (hs) rfl (fun _ _ _ h => nomatch h.1) fun a ha => ?_ | refine dT 16 rfl (by kernel_rfl) ha (won1 rfl rfl (by rfl)) (fun _ hs => yLoadR Tryd.isAgg25 hs (by rfl) (by repeat first | exact .here | apply Pick.there) (by rfl)) (hs) rfl (fun _ _ _ h => nomatch h.1) fun a ha => ?_ | refine dT 16 rfl (by kernel_rfl) ha (won1 rfl rfl (by rfl)) (fun _ hs => yLoadR0 Tryd.isAgg25 hs (by rfl) (by repeat first | exact .here | apply Pick.there) (by rfl)) (hs) rfl (fun _ _ _ h => nomatch h.1) fun a ha => ?_
        refine dP 17 rfl (by kernel_rfl) ha (won1 rfl rfl (by rfl)) (fun _ => yLenS Tryd.runUnderlying25 (by rfl)) rfl (fun _ _ _ h => nomatch h.1) fun a ha => ?_
        refine dP 18 rfl (by kernel_rfl) ha (won1 rfl rfl (by rfl)) (fun _ => yMin2 (by rfl) (by rfl)) rfl (fun _ _ _ h => nomatch h.1) fun a ha => ?_
        rw [if_neg (by omega)] at ha
        refine dP 19 rfl (by kernel_rfl) ha (won1 rfl rfl (by rfl)) (fun _ => ySlice Tryd.runUnderlying25 Tryd.sizeOf5 (by rfl) (.inl ⟨rfl, rfl⟩) (.inr ⟨_, _, rfl, (by rfl)⟩) (Nat.zero_le _) (by omega)) rfl (fun _ _ _ h => nomatch h.1) fun a ha => ?_
        refine dT 20 rfl (by kernel_rfl) ha (won1 rfl rfl (by rfl)) (fun _ hs => yBytesStr Tryd.underlying25 Tryd.underlying5 Tryd.underlying9 (hs.rd_cut (.there .here) (lo := 0) (hi := m) (Nat.zero_le _) (by omega)) (by rfl) .here) hs rfl (fun _ _ _ h => nomatch h.1) fun a ha => ?_
        refine dCl 21 rfl (by kernel_rfl) rfl ha (won1 rfl rfl (by rfl)) (nCall Tryd.call56 (by rfl)) rfl (RValid_c _ (by rw [size_mk]; simp; omega) hs) ?_
        rintro v w ⟨rfl, hs⟩ a ha
        refine dP 22 rfl (by kernel_rfl) ha (won1 rfl rfl (by rfl)) (fun _ => yNot (by rfl)) rfl (fun _ _ _ h => nomatch h.1) fun a ha => ?_
        first | refine dP 23 rfl (by kernel_rfl) ha won0 (fun _ => yPickT (by rfl) (by rfl)) rfl (fun _ _ _ h => nomatch h.1) fun a ha => ?_ | refine dP 23 rfl (by kernel_rfl) ha won0 (fun _ => yPickF (by rfl) (by rfl)) rfl (fun _ _ _ h => nomatch h.1) fun a ha => ?_ | refine dP 23 rfl (by kernel_rfl) ha won0 (fun _ => yPick (by rfl) (by rfl) (by rfl)) rfl (fun _ _ _ h => nomatch h.1) fun a ha => ?_
        refine dP 24 rfl (by kernel_rfl) ha won0 (fun _ => yAssign (by rfl)) rfl (fun _ _ _ h => nomatch h.1) fun a ha => ?_
        refine dZ (by kernel_rfl) ?_
        refine ⟨rfl, ?_⟩
        first
          | exact ⟨has4 ha (bY (.inl hp7)) (by rfl) (by rfl) (by rfl), hs⟩
          | exact ⟨has4 ha (bN (by simp [hp7])) (by rfl) (by rfl) (by rfl), hs⟩
      · rw [hg7] at ha
        refine dOff 8 rfl (by kernel_rfl) ha rfl rfl (by rfl) rfl rfl (fun _ _ _ h => nomatch h.1) fun a ha => ?_
        refine dOff 9 rfl (by kernel_rfl) ha rfl rfl (by rfl) rfl rfl (fun _ _ _ h => nomatch h.1) fun a ha => ?_
        refine dOff 10 rfl (by kernel_rfl) ha rfl rfl (by rfl) rfl rfl (fun _ _ _ h => nomatch h.1) fun a ha => ?_
        refine dOff 11 rfl (by kernel_rfl) ha rfl rfl (by rfl) rfl rfl (fun _ _ _ h => nomatch h.1) fun a ha => ?_
        refine dOff 12 rfl (by kernel_rfl) ha rfl rfl (by rfl) rfl rfl (fun _ _ _ h => nomatch h.1) fun a ha => ?_
        refine dOff 13 rfl (by kernel_rfl) ha rfl rfl (by rfl) rfl rfl (fun _ _ _ h => nomatch h.1) fun a ha => ?_
        refine dOff 14 rfl (by kernel_rfl) ha rfl rfl (by rfl) rfl rfl (fun _ _ _ h => nomatch h.1) fun a ha => ?_
        refine dOff 15 rfl (by kernel_rfl) ha rfl rfl (by rfl) rfl rfl (fun _ _ _ h => nomatch h.1) fun a ha => ?_
        refine dOff 16 rfl (by kernel_rfl) ha rfl rfl (by rfl) rfl rfl (fun _ _ _ h => nomatch h.1) fun a ha => ?_
        refine dOff 17 rfl (by kernel_rfl) ha rfl rfl (by rfl) rfl rfl (fun _ _ _ h => nomatch h.1) fun a ha => ?_
        refine dOff 18 rfl (by kernel_rfl) ha rfl rfl (by rfl) rfl rfl (fun _ _ _ h => nomatch h.1) fun a ha => ?_
        refine dOff 19 rfl (by kernel_rfl) ha rfl rfl (by rfl) rfl rfl (fun _ _ _ h => nomatch h.1) fun a ha => ?_
        refine dOff 20 rfl (by kernel_rfl) ha rfl rfl (by rfl) rfl rfl (fun _ _ _ h => nomatch h.1) fun a ha => ?_
        refine dOff 21 rfl (by kernel_rfl) ha rfl rfl (by rfl) rfl rfl (fun _ _ _ h => nomatch h.1) fun a ha => ?_
        refine dOff 22 rfl (by kernel_rfl) ha rfl rfl (by rfl) rfl rfl (fun _ _ _ h => nomatch h.1) fun a ha => ?_
        first | refine dP 23 rfl (by kernel_rfl) ha won0 (fun _ => yPickT (by rfl) (by rfl)) rfl (fun _ _ _ h => nomatch h.1) fun a ha => ?_ | refine dP 23 rfl (by kernel_rfl) ha won0 (fun _ => yPickF (by rfl) (by rfl)) rfl (fun _ _ _ h => nomatch h.1) fun a ha => ?_ | refine dP 23 rfl (by kernel_rfl) ha won0 (fun _ => yPick (by rfl) (by rfl) (by rfl)) rfl (fun _ _ _ h => nomatch h.1) fun a ha => ?_
        refine dP 24 rfl (by kernel_rfl) ha won0 (fun _ => yAssign (by rfl)) rfl (fun _ _ _ h => nomatch h.1) fun a ha => ?_
        refine dZ (by kernel_rfl) ?_
        refine ⟨rfl, ?_⟩
        first
          | exact ⟨has4 ha (bY (.inl hp7)) (by rfl) (by rfl) (by rfl), hs⟩
          | exact ⟨has4 ha (bN (by simp [hp7])) (by rfl) (by rfl) (by rfl), hs⟩
    rintro a w ⟨ha, hs⟩
    refine hK6 _ _ ?_
    first | refine cDec ha (by rfl) (fun hc15 => ?_) (fun hc15 => ?_) | refine cSplit ha (by rfl) (fun hc15 => ?_) (fun hc15 => ?_)
    · have hb : rText most st = _ := rText_2 hq hc15
      refine wp_seq_k fun K7 hK7 => ?_
      refine wp_region_lit ?_
      refine pY ha (yMove (by rfl)) rfl fun a ha => ?_
      refine pY ha (yNilP (by rfl)) rfl fun a ha => ?_
      refine pY ha (yFieldA Tryd.runUnderlying36 rfl Tryd.sizeOf3 rfl (by rfl)) rfl fun a ha => ?_
      refine pStore ha Tryd.sizeOf3 hs (by rfl) (by rfl) rfl rfl (by repeat first | exact .here | apply Pick.there) (by rfl) fun w hs => ?_
      refine pZ ?_
      refine hK7 _ _ ?_
      refine wp_seq_k fun K8 hK8 => ?_
      refine wp_region_lit ?_
      refine pY ha (yAssign (by rfl)) rfl fun a ha => ?_
      refine pZ ?_
      refine hK8 _ _ ?_
      refine wp_ret ?_
      show bodyPost Tryd.prog Tryd.f18 _ .ret _ _
      refine ret1 rfl ha (by rfl) ?_
      rw [hb]; exact ⟨rfl, hs.rdr_shut .here .here⟩
    · have hb1 : ¬ ((m : Int) > bs.length) := fun h => hc15 (.inl h)
      have hb2 : okText (bs.take m) = true := by simpa using fun h => hc15 (.inr h)
      refine wp_seq_k fun K9 hK9 => ?_
      refine wp_region_lit ?_
      refine pY ha (yMove (by rfl)) rfl fun a ha => ?_
      refine pY ha (yMove (by rfl)) rfl fun a ha => ?_
      refine pY ha (yGtr (by rfl) (by rfl)) rfl fun a ha => ?_
      refine pY ha (yAssign (by rfl)) rfl fun a ha => ?_
      refine pZ ?_
      refine hK9 _ _ ?_
      first | refine cDec ha (by rfl) (fun hc43 => ?_) (fun hc43 => ?_) | refine cSplit ha (by rfl) (fun hc43 => ?_) (fun hc43 => ?_)
      · have hb : rText most st = _ := rText_3 hq hb1 hb2 hc43
        refine wp_seq_k fun K10 hK10 => ?_
        refine wp_region_lit ?_
        refine pY ha (yMove (by rfl)) rfl fun a ha => ?_
        refine pY ha (yNilP (by rfl)) rfl fun a ha => ?_
        refine pY ha (yFieldA Tryd.runUnderlying36 rfl Tryd.sizeOf3 rfl (by rfl)) rfl fun a ha => ?_
        refine pStore ha Tryd.sizeOf3 hs (by rfl) (by rfl) rfl rfl (by repeat first | exact .here | apply Pick.there) (by rfl) fun w hs => ?_
        refine pZ ?_
        refine hK10 _ _ ?_
        refine wp_seq_k fun K11 hK11 => ?_
        refine wp_region_lit ?_
        refine pY ha (yAssign (by rfl)) rfl fun a ha => ?_
        refine pZ ?_
        refine hK11 _ _ ?_
        refine wp_ret ?_
        show bodyPost Tryd.prog Tryd.f18 _ .ret _ _
        refine ret1 rfl ha (by rfl) ?_
        rw [hb]; exact ⟨rfl, hs.rdr_shut .here .here⟩
      · have hb : rText most st = _ := rText_4 hq hb1 hb2 hc43
        have hs := hs.rd_cut (.there .here) (lo := 0) (hi := m) (Nat.zero_le _) (by omega)
        refine wp_skip ?_
        refine hK3 _ _ ?_
        refine wp_seq_k fun K12 hK12 => ?_
        refine wp_region_lit ?_
        refine pY ha (yMove (by rfl)) rfl fun a ha => ?_
        refine pY ha (yNilP (by rfl)) rfl fun a ha => ?_
        refine pY ha (yFieldA Tryd.runUnderlying36 rfl Tryd.sizeOf25 rfl (by rfl)) rfl fun a ha => ?_
        first | refine pY ha (yLoadB Tryd.isAgg25 hs (by rfl) (by repeat first | exact .here | apply Pick.there) (by rfl)) rfl fun a ha => ?_ | refine pY ha (yLoadR Tryd.isAgg25 hs (by rfl) (by repeat first | exact .here | apply Pick.there) (by rfl)) rfl fun a ha => ?_ | refine pY ha (yLoadR0 Tryd.isAgg25 hs (by rfl) (by repeat first | exact .here | apply Pick.there) (by rfl)) rfl fun a ha => ?_
        refine pY ha (yMove (by rfl)) rfl fun a ha => ?_
        refine pY ha (ySlice Tryd.runUnderlying25 Tryd.sizeOf5 (by rfl) (.inl ⟨rfl, rfl⟩) (.inr ⟨_, _, rfl, (by rfl)⟩) (Nat.zero_le _) (by omega)) rfl fun a ha => ?_
        refine pY ha (yBytesStr Tryd.underlying25 Tryd.underlying5 Tryd.underlying9 hs (by rfl) (by repeat first | exact .here | apply Pick.there)) rfl fun a ha => ?_
        refine pY ha (yAssign (by rfl)) rfl fun a ha => ?_
        refine pZ ?_
        refine hK12 _ _ ?_
        refine wp_seq_k fun K13 hK13 => ?_
        have hs := hs.drop
        have hs := (hs.rd_cut (.there .here) (lo := m) (hi := bs.length) (by omega) (Nat.le_refl _)).perm (List.Perm.swap _ _ _)
        rw [List.take_length] at hs
        refine wp_region_lit ?_
        refine pY ha (yMove (by rfl)) rfl fun a ha => ?_
        refine pY ha (yMove (by rfl)) rfl fun a ha => ?_
        refine pY ha (yNilP (by rfl)) rfl fun a ha => ?_
        refine pY ha (yFieldA Tryd.runUnderlying36 rfl Tryd.sizeOf25 rfl (by rfl)) rfl fun a ha => ?_
        first | refine pY ha (yLoadB Tryd.isAgg25 hs (by rfl) (by repeat first | exact .here | apply Pick.there) (by rfl)) rfl fun a ha => ?_ | refine pY ha (yLoadR Tryd.isAgg25 hs (by rfl) (by repeat first | exact .here | apply Pick.there) (by rfl)) rfl fun a ha => ?_ | refine pY ha (yLoadR0 Tryd.isAgg25 hs (by rfl) (by repeat first | exact .here | apply Pick.there) (by rfl)) rfl fun a ha => ?_
        refine pY ha (yMove (by rfl)) rfl fun a ha => ?_
        refine pY ha (ySlice Tryd.runUnderlying25 Tryd.sizeOf5 (by rfl) (.inr ⟨_, _, rfl, (by rfl)⟩) (.inl ⟨rfl, rfl⟩) (by omega) (by omega)) rfl fun a ha => ?_
        refine pY ha (yNilP (by rfl)) rfl fun a ha => ?_
        refine pY ha (yFieldA Tryd.runUnderlying36 rfl Tryd.sizeOf25 rfl (by rfl)) rfl fun a ha => ?_
        refine pStore ha Tryd.sizeOf25 hs (by rfl) (by rfl) rfl rfl (by repeat first | exact .here | apply Pick.there) (by rfl) fun w hs => ?_
        refine pZ ?_
        refine hK13 _ _ ?_
        refine wp_seq_k fun K14 hK14 => ?_
        refine wp_region_lit ?_
        refine pY ha (yMove (by rfl)) rfl fun a ha => ?_
        refine pY ha (yAssign (by rfl)) rfl fun a ha => ?_
        refine pZ ?_
        refine hK14 _ _ ?_
        refine wp_ret ?_
        show bodyPost Tryd.prog Tryd.f18 _ .ret _ _
        refine ret1 rfl ha (by rfl) ?_
        rw [hb]; exact ⟨rfl, (hs.rdr_shut .here .here).drop2⟩
theorem InFlag_c (hs : Sep W w cs) (hk : Pick cs (.rdr p 36 st) r) :
    Calls P 20 #[.pointer (some ⟨p, 0, none⟩)] w (Rt fun v w' => v = .bool (rFlag st).1 ∧ Sep W w' (.rdr p 36 (rFlag st).2 :: r)) := by
  refine enter Tryd.func20 Tryd.ntmps20 rfl rfl fun a (ha : Has a 13 [(0, _)]) => ?_
  refine wp_seq_k fun K1 hK1 => ?_
  refine wp_region_lit ?_
  refine pY ha (yAssign (by rfl)) rfl fun a ha => ?_
  refine pZ ?_
  refine hK1 _ _ ?_
  refine wp_seq_k fun K2 hK2 => ?_
  refine wp_region_lit ?_
  refine pY ha (yMove (by rfl)) rfl fun a ha => ?_
  refine pC ha (nCall Tryd.call16 (by rfl)) rfl (InNum_c hs hk) ?_
  rintro v w ⟨rfl, hs⟩ a ha
  refine pY ha (yAssign (by rfl)) rfl fun a ha => ?_
  refine pZ ?_
  refine hK2 _ _ ?_
  refine wp_seq_k fun K3 hK3 => ?_
  refine wp_seq_k fun K4 hK4 => ?_
  refine wp_region_lit ?_
  refine pY ha (yMove (by rfl)) rfl fun a ha => ?_
  refine pY ha (yGtr (by rfl) (by rfl)) rfl fun a ha => ?_
  refine pZ ?_
  refine hK4 _ _ ?_
  first | refine cDec ha (by rfl) (fun hc7 => ?_) (fun hc7 => ?_) | refine cSplit ha (by rfl) (fun hc7 => ?_) (fun hc7 => ?_)
  · obtain ⟨A, c, hs⟩ := hs.rdr_open .here
    have he := rNum_ok (st := st) (by omega)
    refine wp_seq_k fun K5 hK5 => ?_
    refine wp_region_lit ?_
    refine pY ha (yMove (by rfl)) rfl fun a ha => ?_
    refine pY ha (yNilP (by rfl)) rfl fun a ha => ?_
    refine pY ha (yFieldA Tryd.runUnderlying36 rfl Tryd.sizeOf3 rfl (by rfl)) rfl fun a ha => ?_
    refine pStore ha Tryd.sizeOf3 hs (by rfl) (by rfl) rfl rfl (by repeat first | exact .here | apply Pick.there) (by rfl) fun w hs => ?_
    refine pZ ?_
    refine hK5 _ _ ?_
    refine wp_seq_k fun K6 hK6 => ?_
    refine wp_region_lit ?_
    refine pY ha (yAssign (by rfl)) rfl fun a ha => ?_
    refine pZ ?_
    refine hK6 _ _ ?_
    refine wp_ret ?_
    show bodyPost Tryd.prog Tryd.f20 _ .ret _ _
    refine ret1 rfl ha (by rfl) ?_
    refine ⟨by simp only [rFlag]; rw [decide_eq_false (by omega)], ?_⟩
    simp only [rFlag]; rw [if_pos hc7, rFail, if_pos he]; exact hs.rdr_shut .here .here
  · refine wp_skip ?_
    refine hK3 _ _ ?_
    refine wp_seq_k fun K7 hK7 => ?_
    refine wp_region_lit ?_
    refine pY ha (yMove (by rfl)) rfl fun a ha => ?_
    refine pY ha (yEql (by rfl) (by rfl)) rfl fun a ha => ?_
    refine pY ha (yAssign (by rfl)) rfl fun a ha => ?_
    refine pZ ?_
    refine hK7 _ _ ?_
    refine wp_ret ?_
    show bodyPost Tryd.prog Tryd.f20 _ .ret _ _
    refine ret1 rfl ha (by rfl) ?_
    refine ⟨rfl, ?_⟩; simp only [rFlag]; rw [if_neg hc7]; exact hs
theorem InCount_c (most : Int) (h0 : 0 ≤ most) (hs : Sep W w cs) (hk : Pick cs (.rdr p 36 st) r) :
    Calls P 58 #[.pointer (some ⟨p, 0, none⟩), .int .i64 most] w (Rt fun v w' => v = .int .i64 (rMany most st).1 ∧ Sep W w' (.rdr p 36 (rMany most st).2 :: r)) := by
  refine enter Tryd.func58 Tryd.ntmps58 rfl rfl fun a (ha : Has a 22 [(0, _), (1, _)]) => ?_
  refine wp_seq_k fun K1 hK1 => ?_
  refine wp_region_lit ?_
  refine pY ha (yAssign (by rfl)) rfl fun a ha => ?_
  refine pZ ?_
  refine hK1 _ _ ?_
  refine wp_seq_k fun K2 hK2 => ?_
  refine wp_region_lit ?_
  refine pY ha (yMove (by rfl)) rfl fun a ha => ?_
  refine pC ha (nCall Tryd.call16 (by rfl)) rfl (InNum_c hs hk) ?_
  rintro v w ⟨rfl, hs⟩ a ha
  refine pY ha (yAssign (by rfl)) rfl fun a ha => ?_
  refine pZ ?_
  refine hK2 _ _ ?_
  refine wp_seq_k fun K3 hK3 => ?_
  refine wp_seq_k fun K4 hK4 => ?_
  obtain ⟨A, c, hs⟩ := hs.rdr_open .here
  refine wp_region_lit ?_
  refine pY ha (yMove (by rfl)) rfl fun a ha => ?_
  refine pY ha (yNilP (by rfl)) rfl fun a ha => ?_
  refine pY ha (yFieldA Tryd.runUnderlying36 rfl Tryd.sizeOf3 rfl (by rfl)) rfl fun a ha => ?_
  first | refine pY ha (yLoadB Tryd.isAgg3 hs (by rfl) (by repeat first | exact .here | apply Pick.there) (by rfl)) rfl fun a ha => ?_ | refine pY ha (yLoadR Tryd.isAgg3 hs (by rfl) (by repeat first | exact .here | apply Pick.there) (by rfl)) rfl fun a ha => ?_ | refine pY ha (yLoadR0 Tryd.isAgg3 hs (by rfl) (by repeat first | exact .here | apply Pick.there) (by rfl)) rfl fun a ha => ?_
  refine pY ha (yEql (by rfl) (by rfl)) rfl fun a ha => ?_
  refine pY ha (yMove (by rfl)) rfl fun a ha => ?_
  refine gDec (t := 13) ha (by rfl) (fun hg5 hp5 => ?_) (fun hg5 hp5 => ?_)
  · rw [hg5] at ha
    refine gOff ha rfl rfl (by rfl) rfl rfl fun a ha => ?_
    refine gOff ha rfl rfl (by rfl) rfl rfl fun a ha => ?_
    refine gOff ha rfl rfl (by rfl) rfl rfl fun a ha => ?_
    first | refine pY ha (yPickT (by rfl) (by rfl)) rfl fun a ha => ?_ | refine pY ha (yPickF (by rfl) (by rfl)) rfl fun a ha => ?_ | refine pY ha (yPick (by rfl) (by rfl) (by rfl)) rfl fun a ha => ?_
    refine pZ ?_
    refine hK4 _ _ ?_
    refine cFalse ha (by rfl) ?_
    refine wp_skip ?_
    refine hK3 _ _ ?_
    refine wp_seq_k fun K5 hK5 => ?_
    refine wp_region_lit ?_
    refine pY ha (yMove (by rfl)) rfl fun a ha => ?_
    refine pY ha (yAssign (by rfl)) rfl fun a ha => ?_
    refine pZ ?_
    refine hK5 _ _ ?_
    refine wp_ret ?_
    show bodyPost Tryd.prog Tryd.f58 _ .ret _ _
    refine ret1 rfl ha (by rfl) ?_
    simp only [rMany]; rw [if_neg (by intro h; exact hp5 (rNum_ok (by omega)))]; exact ⟨rfl, hs.rdr_shut .here .here⟩
  · rw [hg5] at ha
    refine gOn ha rfl rfl (by rfl) ?_
    refine pY ha (yMove (by rfl)) rfl fun a ha => ?_
    refine gOn ha rfl rfl (by rfl) ?_
    refine pY ha (yMove (by rfl)) rfl fun a ha => ?_
    refine gOn ha rfl rfl (by rfl) ?_
    refine pY ha (yGtr (by rfl) (by rfl)) rfl fun a ha => ?_
    first | refine pY ha (yPickT (by rfl) (by rfl)) rfl fun a ha => ?_ | refine pY ha (yPickF (by rfl) (by rfl)) rfl fun a ha => ?_ | refine pY ha (yPick (by rfl) (by rfl) (by rfl)) rfl fun a ha => ?_
    refine pZ ?_
    refine hK4 _ _ ?_
    first | refine cNDec ha (by rfl) (fun hc17 => ?_) (fun hc17 => ?_) | refine cDec ha (by rfl) (fun hc17 => ?_) (fun hc17 => ?_) | refine cSplit ha (by rfl) (fun hc17 => ?_) (fun hc17 => ?_)
    · refine wp_seq_k fun K6 hK6 => ?_
      refine wp_region_lit ?_
      refine pY ha (yMove (by rfl)) rfl fun a ha => ?_
      refine pY ha (yNilP (by rfl)) rfl fun a ha => ?_
      refine pY ha (yFieldA Tryd.runUnderlying36 rfl Tryd.sizeOf3 rfl (by rfl)) rfl fun a ha => ?_
      refine pStore ha Tryd.sizeOf3 hs (by rfl) (by rfl) rfl rfl (by repeat first | exact .here | apply Pick.there) (by rfl) fun w hs => ?_
      refine pZ ?_
      refine hK6 _ _ ?_
      refine wp_seq_k fun K7 hK7 => ?_
      refine wp_region_lit ?_
      refine pY ha (yAssign (by rfl)) rfl fun a ha => ?_
      refine pZ ?_
      refine hK7 _ _ ?_
      refine wp_ret ?_
      show bodyPost Tryd.prog Tryd.f58 _ .ret _ _
      refine ret1 rfl ha (by rfl) ?_
      simp only [rMany]; rw [if_pos hc17, rFail, if_pos hp5]; exact ⟨rfl, hs.rdr_shut .here .here⟩
    · refine wp_skip ?_
      refine hK3 _ _ ?_
      refine wp_seq_k fun K8 hK8 => ?_
      refine wp_region_lit ?_
      refine pY ha (yMove (by rfl)) rfl fun a ha => ?_
      refine pY ha (yAssign (by rfl)) rfl fun a ha => ?_
      refine pZ ?_
      refine hK8 _ _ ?_
      refine wp_ret ?_
      show bodyPost Tryd.prog Tryd.f58 _ .ret _ _
      refine ret1 rfl ha (by rfl) ?_
      simp only [rMany]; rw [if_neg hc17]; exact ⟨rfl, hs.rdr_shut .here .here⟩
theorem InComps_c (hs : Sep W w cs) (hk : Pick cs (.rdr p 36 st) r) :
    Calls P 23 #[.pointer (some ⟨p, 0, none⟩)] w (Rt fun v w' => ∃ A c, v = .slice A (rComps st).1.length c ∧ Sep W w' (.ol kComp 91 (.slice A (rComps st).1.length c) (rComps st).1 :: .rdr p 36 (rComps st).2 :: r)) := by
  have hM := rMany_val 100 (by decide) st
  refine enter Tryd.func23 Tryd.ntmps23 rfl rfl fun a (ha : Has a 40 [(0, _)]) => ?_
  refine wp_seq_k fun K1 hK1 => ?_
  refine wp_region_lit ?_
  refine pY ha (yAssign (by rfl)) rfl fun a ha => ?_
  refine pZ ?_
  refine hK1 _ _ ?_
  refine wp_seq_k fun K2 hK2 => ?_
  refine wp_region_lit ?_
  refine pY ha (yMove (by rfl)) rfl fun a ha => ?_
  refine pC ha (nCall Tryd.call58 (by rfl)) rfl (InCount_c 100 (by decide) hs hk) ?_
  rintro v w ⟨rfl, hs⟩ a ha
  refine pY ha (yAssign (by rfl)) rfl fun a ha => ?_
  obtain ⟨m, hm⟩ := Int.eq_ofNat_of_zero_le hM.1
  obtain ⟨s1, hs1⟩ : ∃ s1, (rMany 100 st).2 = s1 := ⟨_, rfl⟩
  rw [hm] at ha
  rw [hs1] at hs
  refine pZ ?_
  refine hK2 _ _ ?_
  refine wp_seq_k fun K3 hK3 => ?_
  refine wp_region_lit ?_
  refine pY ha (yAssign (by rfl)) rfl fun a ha => ?_
  refine pZ ?_
  refine hK3 _ _ ?_
  refine wp_seq_k fun K4 hK4 => ?_
  refine wp_seq_k fun K5 hK5 => ?_
  refine wp_region_lit ?_
  refine pY ha (yAssign (by rfl)) rfl fun a ha => ?_
  refine pZ ?_
  refine hK5 _ _ ?_
  refine wp_block ?_
  refine loopI (ι := Nat × Option Addr × Nat) (fun i a w => i.1 ≤ m ∧ Has a 40 [(0, .pointer (some ⟨p, 0, none⟩)), (4, .slice i.2.1 (rList rComp i.1 s1).1.length i.2.2), (3, .int .i64 m), (5, .int .i64 i.1)] ∧ Sep W w (.ol kComp 91 (.slice i.2.1 (rList rComp i.1 s1).1.length i.2.2) (rList rComp i.1 s1).1 :: .rdr p 36 (rList rComp i.1 s1).2 :: r)) (fun i => m - i.1) ((0, none, 0)) ?_ ?_
  · exact ⟨Nat.zero_le _, has4 ha (by rfl) (by rfl) (by rfl) (by rfl), hs.ol_nil kComp _ none⟩
  · rintro i a w ⟨h1, ha, hs⟩
    obtain ⟨i, A, c⟩ := i; simp only at h1 ha hs
    refine wp_seq_k fun K6 hK6 => ?_
    refine wp_seq_k fun K7 hK7 => ?_
    have hll := rList_len rComp i s1
    have hln := rList_snoc rComp i s1
    have hst := rAll_stop (f := rComp) (fun st h => rComp_err h) (i := i) hm hs1 h1
    have hA : rComps st = _ := rAll_at (f := rComp) hm hs1
    generalize hl : rList rComp i s1 = q at ha hs hll hln hst
    obtain ⟨xs, s2⟩ := q
    simp only at ha hs hll hln hst
    refine cutC (fun a w => Has a 40 [(19, .bool (decide (i < m ∧ s2.2 = 0))), (0, .pointer (some ⟨p, 0, none⟩)), (4, .slice A xs.length c), (3, .int .i64 m), (5, .int .i64 i)] ∧ Sep W w (.ol kComp 91 (.slice A xs.length c) xs :: .rdr p 36 s2 :: r)) ?_ ?_
    · refine wp_region_lit ?_
      refine pY ha (yMove (by rfl)) rfl fun a ha => ?_
      refine pY ha (yMove (by rfl)) rfl fun a ha => ?_
      refine pY ha (yLss (by rfl) (by rfl)) rfl fun a ha => ?_
      refine pY ha (yMove (by rfl)) rfl fun a ha => ?_
      refine gDec (t := 13) ha (by rfl) (fun hg3 hp3 => ?_) (fun hg3 hp3 => ?_)
      · rw [hg3] at ha
        refine gOff ha rfl rfl (by rfl) rfl rfl fun a ha => ?_
        refine gOff ha rfl rfl (by rfl) rfl rfl fun a ha => ?_
        refine gOff ha rfl rfl (by rfl) rfl rfl fun a ha => ?_
        refine gOff ha rfl rfl (by rfl) rfl rfl fun a ha => ?_
        refine gOff ha rfl rfl (by rfl) rfl rfl fun a ha => ?_
        first | refine pY ha (yPickT (by rfl) (by rfl)) rfl fun a ha => ?_ | refine pY ha (yPickF (by rfl) (by rfl)) rfl fun a ha => ?_ | refine pY ha (yPick (by rfl) (by rfl) (by rfl)) rfl fun a ha => ?_
        refine pZ ⟨rfl, ?_⟩
        first
          | exact ⟨has5 ha (bF (by omega)) (by rfl) (by rfl) (by rfl) (by rfl), hs⟩
          | exact ⟨has5 ha (bT (by omega)) (by rfl) (by rfl) (by rfl) (by rfl), (hs.rdr_shut .here .here).perm (List.Perm.swap _ _ _)⟩
      · rw [hg3] at ha
        obtain ⟨A', c', hs⟩ := hs.rdr_open (.there .here)
        refine gOn ha rfl rfl (by rfl) ?_
        refine pY ha (yMove (by rfl)) rfl fun a ha => ?_
        refine gOn ha rfl rfl (by rfl) ?_
        refine pY ha (yNilP (by rfl)) rfl fun a ha => ?_
        refine gOn ha rfl rfl (by rfl) ?_
        refine pY ha (yFieldA Tryd.runUnderlying36 rfl Tryd.sizeOf3 rfl (by rfl)) rfl fun a ha => ?_
        refine gOn ha rfl rfl (by rfl) ?_
        first | refine pY ha (yLoadB Tryd.isAgg3 hs (by rfl) (by repeat first | exact .here | apply Pick.there) (by rfl)) rfl fun a ha => ?_ | refine pY ha (yLoadR Tryd.isAgg3 hs (by rfl) (by repeat first | exact .here | apply Pick.there) (by rfl)) rfl fun a ha => ?_ | refine pY ha (yLoadR0 Tryd.isAgg3 hs (by rfl) (by repeat first | exact .here | apply Pick.there) (by rfl)) rfl fun a ha => ?_
        refine gOn ha rfl rfl (by rfl) ?_
        refine pY ha (yEql (by rfl) (by rfl)) rfl fun a ha => ?_
        first | refine pY ha (yPickT (by rfl) (by rfl)) rfl fun a ha => ?_ | refine pY ha (yPickF (by rfl) (by rfl)) rfl fun a ha => ?_ | refine pY ha (yPick (by rfl) (by rfl) (by rfl)) rfl fun a ha => ?_
        refine pZ ⟨rfl, ?_⟩
        first
          | exact ⟨has5 ha (bF (by omega)) (by rfl) (by rfl) (by rfl) (by rfl), hs⟩
          | exact ⟨has5 ha (bT (by omega)) (by rfl) (by rfl) (by rfl) (by rfl), (hs.rdr_shut .here .here).perm (List.Perm.swap _ _ _)⟩
    rintro a w ⟨ha, hs⟩
    refine hK7 _ _ ?_
    first | refine cDec ha (by rfl) (fun hc19 => ?_) (fun hc19 => ?_) | refine cSplit ha (by rfl) (fun hc19 => ?_) (fun hc19 => ?_)
    · refine wp_skip ?_
      refine hK6 _ _ ?_
      refine wp_seq_k fun K8 hK8 => ?_
      refine wp_block ?_
      refine wp_seq_k fun K9 hK9 => ?_
      refine wp_region_lit ?_
      refine pY ha (yMove (by rfl)) rfl fun a ha => ?_
      refine pC ha (nCall Tryd.call16 (by rfl)) rfl (InNum_c hs (.there .here)) ?_
      rintro v w ⟨rfl, hs⟩ a ha
      refine pY ha (yAssign (by rfl)) rfl fun a ha => ?_
      refine pZ ?_
      refine hK9 _ _ ?_
      refine wp_seq_k fun K10 hK10 => ?_
      refine wp_region_lit ?_
      refine pY ha (yMove (by rfl)) rfl fun a ha => ?_
      refine pC ha (nCall Tryd.call16 (by rfl)) rfl (InNum_c hs .here) ?_
      rintro v w ⟨rfl, hs⟩ a ha
      refine pY ha (yAssign (by rfl)) rfl fun a ha => ?_
      refine pZ ?_
      refine hK10 _ _ ?_
      refine wp_region_lit ?_
      refine pY ha (yMove (by rfl)) rfl fun a ha => ?_
      refine pY ha (yMove (by rfl)) rfl fun a ha => ?_
      refine pY ha (yMove (by rfl)) rfl fun a ha => ?_
      refine pY ha (yMove (by rfl)) rfl fun a ha => ?_
      refine pC ha (nCall Tryd.call18 (by rfl)) rfl (InText_c 8000 hs .here) ?_
      rintro v w ⟨rfl, hs⟩ a ha
      refine pY ha (bldIn91_0_1_2 (by rfl) (by rfl) (by rfl)) rfl fun a ha => ?_
      refine pMake ha (bslIn41_1_0 (by rfl)) hs rfl fun b w hs a ha => ?_
      have hs := hs.add (x := .el kComp (rComp s2).1 [.int .i64 (rComp s2).1.kind, .int .i64 (rComp s2).1.n, .string (rComp s2).1.text]) (fun Z => rfl)
      first | refine pApp1 ha elIn41 (by rfl) (by rfl) hs (by repeat first | exact .here | apply Pick.there) (by repeat first | exact .here | apply Pick.there) (by repeat first | exact .here | apply Pick.there) (by rfl) (by first | omega | (unfold maxLen; omega) | (simp [maxLen]; done) | (simp [maxLen]; omega)) (by first | omega | (unfold maxLen; omega) | (simp [maxLen]; done) | (simp [maxLen]; omega)) rfl fun A c w hs a ha => ?_ | refine pAppRd ha elIn41 (by rfl) (by rfl) hs (by repeat first | exact .here | apply Pick.there) (by repeat first | exact .here | apply Pick.there) (by rfl) (by first | omega | (unfold maxLen; omega) | (simp [maxLen]; done) | (simp [maxLen]; omega)) (by first | omega | (unfold maxLen; omega) | (simp [maxLen]; done) | (simp [maxLen]; omega)) rfl fun A c w hs a ha => ?_ | refine pApp1F ha elIn41 (by rfl) (by rfl) hs (by repeat first | exact .here | apply Pick.there) (by repeat first | exact .here | apply Pick.there) (by intro Z; first | rfl | exact ⟨rfl, by omega, by omega⟩) (by rfl) (by first | omega | (unfold maxLen; omega) | (simp [maxLen]; done) | (simp [maxLen]; omega)) (by first | omega | (unfold maxLen; omega) | (simp [maxLen]; done) | (simp [maxLen]; omega)) rfl fun A c w hs a ha => ?_
      refine pY ha (yAssign (by rfl)) rfl fun a ha => ?_
      refine pZ ?_
      refine hK8 _ _ ?_
      refine wp_region_lit ?_
      refine pY ha (yMove (by rfl)) rfl fun a ha => ?_
      first | refine pY ha (yAddN (by rfl) (by rfl) ⟨by omega, by omega⟩) rfl fun a ha => ?_ | refine pY ha (yAdd (by rfl) (by rfl)) rfl fun a ha => ?_
      refine pY ha (yAssign (by rfl)) rfl fun a ha => ?_
      refine pZ ?_
      have e1 : (rList rComp (i + 1) s1).1 = xs ++ [(rComp s2).1] := by rw [hln]
      have e2 : (rList rComp (i + 1) s1).2 = (rComp s2).2 := by rw [hln]
      refine ⟨(i + 1, A, c), ⟨by simp only; omega, ?_, ?_⟩, by simp only; omega⟩
      · simp only [e1, List.length_append, List.length_cons, List.length_nil]; exact has4 ha (by rfl) (by rfl) (by rfl) (by rfl)
      · simp only [e1, e2, List.length_append, List.length_cons, List.length_nil]; exact hs
    · refine wp_exit ?_
      refine hK4 _ _ ?_
      refine wp_seq_k fun K11 hK11 => ?_
      refine wp_seq_k fun K12 hK12 => ?_
      obtain ⟨A', c', hs⟩ := hs.rdr_open (.there .here)
      refine wp_region_lit ?_
      refine pY ha (yMove (by rfl)) rfl fun a ha => ?_
      refine pY ha (yNilP (by rfl)) rfl fun a ha => ?_
      refine pY ha (yFieldA Tryd.runUnderlying36 rfl Tryd.sizeOf3 rfl (by rfl)) rfl fun a ha => ?_
      first | refine pY ha (yLoadB Tryd.isAgg3 hs (by rfl) (by repeat first | exact .here | apply Pick.there) (by rfl)) rfl fun a ha => ?_ | refine pY ha (yLoadR Tryd.isAgg3 hs (by rfl) (by repeat first | exact .here | apply Pick.there) (by rfl)) rfl fun a ha => ?_ | refine pY ha (yLoadR0 Tryd.isAgg3 hs (by rfl) (by repeat first | exact .here | apply Pick.there) (by rfl)) rfl fun a ha => ?_
      refine pY ha (yNeq (by rfl) (by rfl)) rfl fun a ha => ?_
      refine pZ ?_
      refine hK12 _ _ ?_
      first | refine cNDec ha (by rfl) (fun hc38 => ?_) (fun hc38 => ?_) | refine cDec ha (by rfl) (fun hc38 => ?_) (fun hc38 => ?_) | refine cSplit ha (by rfl) (fun hc38 => ?_) (fun hc38 => ?_)
      · refine wp_seq_k fun K13 hK13 => ?_
        refine wp_region_lit ?_
        refine pY ha (yAssign (by rfl)) rfl fun a ha => ?_
        refine pZ ?_
        refine hK13 _ _ ?_
        refine wp_ret ?_
        show bodyPost Tryd.prog Tryd.f23 _ .ret _ _
        refine ret1 rfl ha (by rfl) ?_
        have hA : rComps st = _ := hst hc38
        rw [hA]; exact ⟨none, 0, rfl, (hs.rdr_shut .here .here).drop2.ol_nil kComp _ none⟩
      · refine wp_skip ?_
        refine hK11 _ _ ?_
        refine wp_seq_k fun K14 hK14 => ?_
        refine wp_region_lit ?_
        refine pY ha (yMove (by rfl)) rfl fun a ha => ?_
        refine pY ha (yAssign (by rfl)) rfl fun a ha => ?_
        refine pZ ?_
        refine hK14 _ _ ?_
        refine wp_ret ?_
        show bodyPost Tryd.prog Tryd.f23 _ .ret _ _
        refine ret1 rfl ha (by rfl) ?_
        obtain rfl : i = m := by omega
        rw [hl] at hA
        rw [if_pos hc38] at hA; rw [hA]; exact ⟨A, c, rfl, (hs.rdr_shut .here .here).perm (List.Perm.swap _ _ _)⟩
theorem InNods_c (hs : Sep W w cs) (hk : Pick cs (.rdr p 36 st) r) :
    Calls P 29 #[.pointer (some ⟨p, 0, none⟩)] w (Rt fun v w' => ∃ A c, v = .slice A (rNods st).1.length c ∧ Sep W w' (.ol kNod 65 (.slice A (rNods st).1.length c) (rNods st).1 :: .rdr p 36 (rNods st).2 :: r)) := by
  have hM := rMany_val 100 (by decide) st
  refine enter Tryd.func29 Tryd.ntmps29 rfl rfl fun a (ha : Has a 46 [(0, _)]) => ?_
  refine wp_seq_k fun K1 hK1 => ?_
  refine wp_region_lit ?_
  refine pY ha (yAssign (by rfl)) rfl fun a ha => ?_
  refine pZ ?_
  refine hK1 _ _ ?_
  refine wp_seq_k fun K2 hK2 => ?_
  refine wp_region_lit ?_
  refine pY ha (yMove (by rfl)) rfl fun a ha => ?_
  refine pC ha (nCall Tryd.call58 (by rfl)) rfl (InCount_c 100 (by decide) hs hk) ?_
  rintro v w ⟨rfl, hs⟩ a ha
  refine pY ha (yAssign (by rfl)) rfl fun a ha => ?_
  obtain ⟨m, hm⟩ := Int.eq_ofNat_of_zero_le hM.1
  obtain ⟨s1, hs1⟩ : ∃ s1, (rMany 100 st).2 = s1 := ⟨_, rfl⟩
  rw [hm] at ha
  rw [hs1] at hs
  refine pZ ?_
  refine hK2 _ _ ?_
  refine wp_seq_k fun K3 hK3 => ?_
  refine wp_region_lit ?_
  refine pY ha (yAssign (by rfl)) rfl fun a ha => ?_
  refine pZ ?_
  refine hK3 _ _ ?_
  refine wp_seq_k fun K4 hK4 => ?_
  refine wp_seq_k fun K5 hK5 => ?_
  refine wp_region_lit ?_
  refine pY ha (yAssign (by rfl)) rfl fun a ha => ?_
  refine pZ ?_
  refine hK5 _ _ ?_
  refine wp_block ?_
  refine loopI (ι := Nat × Option Addr × Nat) (fun i a w => i.1 ≤ m ∧ Has a 46 [(0, .pointer (some ⟨p, 0, none⟩)), (4, .slice i.2.1 (rList rNod i.1 s1).1.length i.2.2), (3, .int .i64 m), (5, .int .i64 i.1)] ∧ Sep W w (.ol kNod 65 (.slice i.2.1 (rList rNod i.1 s1).1.length i.2.2) (rList rNod i.1 s1).1 :: .rdr p 36 (rList rNod i.1 s1).2 :: r)) (fun i => m - i.1) ((0, none, 0)) ?_ ?_
  · exact ⟨Nat.zero_le _, has4 ha (by rfl) (by rfl) (by rfl) (by rfl), hs.ol_nil kNod _ none⟩
  · rintro i a w ⟨h1, ha, hs⟩
    obtain ⟨i, A, c⟩ := i; simp only at h1 ha hs
    refine wp_seq_k fun K6 hK6 => ?_
    refine wp_seq_k fun K7 hK7 => ?_
    have hll := rList_len rNod i s1
    have hln := rList_snoc rNod i s1
    have hst := rAll_stop (f := rNod) (fun st h => rNod_err h) (i := i) hm hs1 h1
    have hA : rNods st = _ := rAll_at (f := rNod) hm hs1
    generalize hl : rList rNod i s1 = q at ha hs hll hln hst
    obtain ⟨xs, s2⟩ := q
    simp only at ha hs hll hln hst
    refine cutC (fun a w => Has a 46 [(18, .bool (decide (i < m ∧ s2.2 = 0))), (0, .pointer (some ⟨p, 0, none⟩)), (4, .slice A xs.length c), (3, .int .i64 m), (5, .int .i64 i)] ∧ Sep W w (.ol kNod 65 (.slice A xs.length c) xs :: .rdr p 36 s2 :: r)) ?_ ?_
    · refine wp_region_lit ?_
      refine pY ha (yMove (by rfl)) rfl fun a ha => ?_
      refine pY ha (yMove (by rfl)) rfl fun a ha => ?_
      refine pY ha (yLss (by rfl) (by rfl)) rfl fun a ha => ?_
      refine pY ha (yMove (by rfl)) rfl fun a ha => ?_
      refine gDec (t := 12) ha (by rfl) (fun hg3 hp3 => ?_) (fun hg3 hp3 => ?_)
      · rw [hg3] at ha
        refine gOff ha rfl rfl (by rfl) rfl rfl fun a ha => ?_
        refine gOff ha rfl rfl (by rfl) rfl rfl fun a ha => ?_
        refine gOff ha rfl rfl (by rfl) rfl rfl fun a ha => ?_
        refine gOff ha rfl rfl (by rfl) rfl rfl fun a ha => ?_
        refine gOff ha rfl rfl (by rfl) rfl rfl fun a ha => ?_
        first | refine pY ha (yPickT (by rfl) (by rfl)) rfl fun a ha => ?_ | refine pY ha (yPickF (by rfl) (by rfl)) rfl fun a ha => ?_ | refine pY ha (yPick (by rfl) (by rfl) (by rfl)) rfl fun a ha => ?_
        refine pZ ⟨rfl, ?_⟩
        first
          | exact ⟨has5 ha (bF (by omega)) (by rfl) (by rfl) (by rfl) (by rfl), hs⟩
          | exact ⟨has5 ha (bT (by omega)) (by rfl) (by rfl) (by rfl) (by rfl), (hs.rdr_shut .here .here).perm (List.Perm.swap _ _ _)⟩
      · rw [hg3] at ha
        obtain ⟨A', c', hs⟩ := hs.rdr_open (.there .here)
        refine gOn ha rfl rfl (by rfl) ?_
        refine pY ha (yMove (by rfl)) rfl fun a ha => ?_
        refine gOn ha rfl rfl (by rfl) ?_
        refine pY ha (yNilP (by rfl)) rfl fun a ha => ?_
        refine gOn ha rfl rfl (by rfl) ?_
        refine pY ha (yFieldA Tryd.runUnderlying36 rfl Tryd.sizeOf3 rfl (by rfl)) rfl fun a ha => ?_
        refine gOn ha rfl rfl (by rfl) ?_
        first | refine pY ha (yLoadB Tryd.isAgg3 hs (by rfl) (by repeat first | exact .here | apply Pick.there) (by rfl)) rfl fun a ha => ?_ | refine pY ha (yLoadR Tryd.isAgg3 hs (by rfl) (by repeat first | exact .here | apply Pick.there) (by rfl)) rfl fun a ha => ?_ | refine pY ha (yLoadR0 Tryd.isAgg3 hs (by rfl) (by repeat first | exact .here | apply Pick.there) (by rfl)) rfl fun a ha => ?_
        refine gOn ha rfl rfl (by rfl) ?_
        refine pY ha (yEql (by rfl) (by rfl)) rfl fun a ha => ?_
        first | refine pY ha (yPickT (by rfl) (by rfl)) rfl fun a ha => ?_ | refine pY ha (yPickF (by rfl) (by rfl)) rfl fun a ha => ?_ | refine pY ha (yPick (by rfl) (by rfl) (by rfl)) rfl fun a ha => ?_
        refine pZ ⟨rfl, ?_⟩
        first
          | exact ⟨has5 ha (bF (by omega)) (by rfl) (by rfl) (by rfl) (by rfl), hs⟩
          | exact ⟨has5 ha (bT (by omega)) (by rfl) (by rfl) (by rfl) (by rfl), (hs.rdr_shut .here .here).perm (List.Perm.swap _ _ _)⟩
    rintro a w ⟨ha, hs⟩
    refine hK7 _ _ ?_
    first | refine cDec ha (by rfl) (fun hc18 => ?_) (fun hc18 => ?_) | refine cSplit ha (by rfl) (fun hc18 => ?_) (fun hc18 => ?_)
    · refine wp_skip ?_
      refine hK6 _ _ ?_
      refine wp_seq_k fun K8 hK8 => ?_
      refine wp_block ?_
      refine wp_seq_k fun K9 hK9 => ?_
      refine wp_region_lit ?_
      refine pY ha (yMove (by rfl)) rfl fun a ha => ?_
      refine pC ha (nCall Tryd.call16 (by rfl)) rfl (InNum_c hs (.there .here)) ?_
      rintro v w ⟨rfl, hs⟩ a ha
      refine pY ha (bldIn65_0 (by rfl)) rfl fun a ha => ?_
      refine pAlloc (zs := [.int .i64 0, .int .i64 0, .string ⟨#[]⟩, .bool false, .string ⟨#[]⟩]) ha Tryd.zeroValue65 (by rfl) hs rfl fun b w hs a ha => ?_
      refine pStoreA ha Tryd.sizeOf65 hs (by rfl) (by rfl) (by repeat first | exact .here | apply Pick.there) (by rfl) (by rfl) (by rfl) fun w hs => ?_
      refine pZ ?_
      refine hK9 _ _ ?_
      refine wp_seq_k fun K10 hK10 => ?_
      refine wp_region_lit ?_
      refine pY ha (yMove (by rfl)) rfl fun a ha => ?_
      refine pC ha (nCall Tryd.call16 (by rfl)) rfl (InNum_c hs (by repeat first | exact .here | apply Pick.there)) ?_
      rintro v w ⟨rfl, hs⟩ a ha
      refine pY ha (yFieldA Tryd.runUnderlying65 rfl Tryd.sizeOf3 rfl (by rfl)) rfl fun a ha => ?_
      refine pStore ha Tryd.sizeOf3 hs (by rfl) (by rfl) rfl rfl (by repeat first | exact .here | apply Pick.there) (by rfl) fun w hs => ?_
      refine pZ ?_
      refine hK10 _ _ ?_
      refine wp_seq_k fun K11 hK11 => ?_
      refine wp_region_lit ?_
      refine pY ha (yMove (by rfl)) rfl fun a ha => ?_
      refine pC ha (nCall Tryd.call18 (by rfl)) rfl (InText_c 100 hs (by repeat first | exact .here | apply Pick.there)) ?_
      rintro v w ⟨rfl, hs⟩ a ha
      refine pY ha (yFieldA Tryd.runUnderlying65 rfl Tryd.sizeOf9 rfl (by rfl)) rfl fun a ha => ?_
      refine pStore ha Tryd.sizeOf9 hs (by rfl) (by rfl) rfl rfl (by repeat first | exact .here | apply Pick.there) (by rfl) fun w hs => ?_
      refine pZ ?_
      refine hK11 _ _ ?_
      refine wp_seq_k fun K12 hK12 => ?_
      refine wp_region_lit ?_
      refine pY ha (yMove (by rfl)) rfl fun a ha => ?_
      refine pC ha (nCall Tryd.call20 (by rfl)) rfl (InFlag_c hs (by repeat first | exact .here | apply Pick.there)) ?_
      rintro v w ⟨rfl, hs⟩ a ha
      refine pY ha (yFieldA Tryd.runUnderlying65 rfl Tryd.sizeOf4 rfl (by rfl)) rfl fun a ha => ?_
      refine pStore ha Tryd.sizeOf4 hs (by rfl) (by rfl) rfl rfl (by repeat first | exact .here | apply Pick.there) (by rfl) fun w hs => ?_
      refine pZ ?_
      refine hK12 _ _ ?_
      refine wp_seq_k fun K13 hK13 => ?_
      refine wp_region_lit ?_
      refine pY ha (yMove (by rfl)) rfl fun a ha => ?_
      refine pC ha (nCall Tryd.call18 (by rfl)) rfl (InText_c 8000 hs (by repeat first | exact .here | apply Pick.there)) ?_
      rintro v w ⟨rfl, hs⟩ a ha
      refine pY ha (yFieldA Tryd.runUnderlying65 rfl Tryd.sizeOf9 rfl (by rfl)) rfl fun a ha => ?_
      refine pStore ha Tryd.sizeOf9 hs (by rfl) (by rfl) rfl rfl (by repeat first | exact .here | apply Pick.there) (by rfl) fun w hs => ?_
      refine pZ ?_
      refine hK13 _ _ ?_
      refine wp_region_lit ?_
      refine pY ha (yMove (by rfl)) rfl fun a ha => ?_
      first | refine pY ha (yLoadRA Tryd.isAgg65 Tryd.sizeOf65 hs (by rfl) (by repeat first | exact .here | apply Pick.there) (by rfl)) rfl fun a ha => ?_ | refine pY ha (yLoadBA Tryd.isAgg65 Tryd.sizeOf65 hs (by rfl) (by repeat first | exact .here | apply Pick.there) (by rfl)) rfl fun a ha => ?_
      refine pMake ha (bslIn47_1_0 (by rfl)) hs rfl fun b w hs a ha => ?_
      have hs := hs.add (x := .el kNod (rNod s2).1 [.int .i64 (rNod s2).1.id, .int .i64 (rNod s2).1.parent, .string (rNod s2).1.name, .bool (rNod s2).1.dir, .string (rNod s2).1.text]) (fun Z => rfl)
      first | refine pApp1 ha elIn47 (by rfl) (by rfl) hs (by repeat first | exact .here | apply Pick.there) (by repeat first | exact .here | apply Pick.there) (by repeat first | exact .here | apply Pick.there) (by rfl) (by first | omega | (unfold maxLen; omega) | (simp [maxLen]; done) | (simp [maxLen]; omega)) (by first | omega | (unfold maxLen; omega) | (simp [maxLen]; done) | (simp [maxLen]; omega)) rfl fun A c w hs a ha => ?_ | refine pAppRd ha elIn47 (by rfl) (by rfl) hs (by repeat first | exact .here | apply Pick.there) (by repeat first | exact .here | apply Pick.there) (by rfl) (by first | omega | (unfold maxLen; omega) | (simp [maxLen]; done) | (simp [maxLen]; omega)) (by first | omega | (unfold maxLen; omega) | (simp [maxLen]; done) | (simp [maxLen]; omega)) rfl fun A c w hs a ha => ?_ | refine pApp1F ha elIn47 (by rfl) (by rfl) hs (by repeat first | exact .here | apply Pick.there) (by repeat first | exact .here | apply Pick.there) (by intro Z; first | rfl | exact ⟨rfl, by omega, by omega⟩) (by rfl) (by first | omega | (unfold maxLen; omega) | (simp [maxLen]; done) | (simp [maxLen]; omega)) (by first | omega | (unfold maxLen; omega) | (simp [maxLen]; done) | (simp [maxLen]; omega)) rfl fun A c w hs a ha => ?_
      refine pY ha (yAssign (by rfl)) rfl fun a ha => ?_
      refine pZ ?_
      refine hK8 _ _ ?_
      refine wp_region_lit ?_
      refine pY ha (yMove (by rfl)) rfl fun a ha => ?_
      first | refine pY ha (yAddN (by rfl) (by rfl) ⟨by omega, by omega⟩) rfl fun a ha => ?_ | refine pY ha (yAdd (by rfl) (by rfl)) rfl fun a ha => ?_
      refine pY ha (yAssign (by rfl)) rfl fun a ha => ?_
      refine pZ ?_
      have e1 : (rList rNod (i + 1) s1).1 = xs ++ [(rNod s2).1] := by rw [hln]
      have e2 : (rList rNod (i + 1) s1).2 = (rNod s2).2 := by rw [hln]
      refine ⟨(i + 1, A, c), ⟨by simp only; omega, ?_, ?_⟩, by simp only; omega⟩
      · simp only [e1, List.length_append, List.length_cons, List.length_nil]; exact has4 ha (by rfl) (by rfl) (by rfl) (by rfl)
      · simp only [e1, e2, List.length_append, List.length_cons, List.length_nil]; exact hs.drop2
    · refine wp_exit ?_
      refine hK4 _ _ ?_
      refine wp_seq_k fun K14 hK14 => ?_
      refine wp_seq_k fun K15 hK15 => ?_
      obtain ⟨A', c', hs⟩ := hs.rdr_open (.there .here)
      refine wp_region_lit ?_
      refine pY ha (yMove (by rfl)) rfl fun a ha => ?_
      refine pY ha (yNilP (by rfl)) rfl fun a ha => ?_
      refine pY ha (yFieldA Tryd.runUnderlying36 rfl Tryd.sizeOf3 rfl (by rfl)) rfl fun a ha => ?_
      first | refine pY ha (yLoadB Tryd.isAgg3 hs (by rfl) (by repeat first | exact .here | apply Pick.there) (by rfl)) rfl fun a ha => ?_ | refine pY ha (yLoadR Tryd.isAgg3 hs (by rfl) (by repeat first | exact .here | apply Pick.there) (by rfl)) rfl fun a ha => ?_ | refine pY ha (yLoadR0 Tryd.isAgg3 hs (by rfl) (by repeat first | exact .here | apply Pick.there) (by rfl)) rfl fun a ha => ?_
      refine pY ha (yNeq (by rfl) (by rfl)) rfl fun a ha => ?_
      refine pZ ?_
      refine hK15 _ _ ?_
      first | refine cNDec ha (by rfl) (fun hc44 => ?_) (fun hc44 => ?_) | refine cDec ha (by rfl) (fun hc44 => ?_) (fun hc44 => ?_) | refine cSplit ha (by rfl) (fun hc44 => ?_) (fun hc44 => ?_)
      · refine wp_seq_k fun K16 hK16 => ?_
        refine wp_region_lit ?_
        refine pY ha (yAssign (by rfl)) rfl fun a ha => ?_
        refine pZ ?_
        refine hK16 _ _ ?_
        refine wp_ret ?_
        show bodyPost Tryd.prog Tryd.f29 _ .ret _ _
        refine ret1 rfl ha (by rfl) ?_
        have hA : rNods st = _ := hst hc44
        rw [hA]; exact ⟨none, 0, rfl, (hs.rdr_shut .here .here).drop2.ol_nil kNod _ none⟩
      · refine wp_skip ?_
        refine hK14 _ _ ?_
        refine wp_seq_k fun K17 hK17 => ?_
        refine wp_region_lit ?_
        refine pY ha (yMove (by rfl)) rfl fun a ha => ?_
        refine pY ha (yAssign (by rfl)) rfl fun a ha => ?_
        refine pZ ?_
        refine hK17 _ _ ?_
        refine wp_ret ?_
        show bodyPost Tryd.prog Tryd.f29 _ .ret _ _
        refine ret1 rfl ha (by rfl) ?_
        obtain rfl : i = m := by omega
        rw [hl] at hA
        rw [if_pos hc44] at hA; rw [hA]; exact ⟨A, c, rfl, (hs.rdr_shut .here .here).perm (List.Perm.swap _ _ _)⟩
theorem InActns_c (hs : Sep W w cs) (hk : Pick cs (.rdr p 36 st) r) :
    Calls P 26 #[.pointer (some ⟨p, 0, none⟩)] w (Rt fun v w' => ∃ A c, v = .slice A (rActns st).1.length c ∧ Sep W w' (.ol kActn 63 (.slice A (rActns st).1.length c) (rActns st).1 :: .rdr p 36 (rActns st).2 :: r)) := by
  have hM := rMany_val 20 (by decide) st
  refine enter Tryd.func26 Tryd.ntmps26 rfl rfl fun a (ha : Has a 49 [(0, _)]) => ?_
  refine wp_seq_k fun K1 hK1 => ?_
  refine wp_region_lit ?_
  refine pY ha (yAssign (by rfl)) rfl fun a ha => ?_
  refine pZ ?_
  refine hK1 _ _ ?_
  refine wp_seq_k fun K2 hK2 => ?_
  refine wp_region_lit ?_
  refine pY ha (yMove (by rfl)) rfl fun a ha => ?_
  refine pC ha (nCall Tryd.call58 (by rfl)) rfl (InCount_c 20 (by decide) hs hk) ?_
  rintro v w ⟨rfl, hs⟩ a ha
  refine pY ha (yAssign (by rfl)) rfl fun a ha => ?_
  obtain ⟨m, hm⟩ := Int.eq_ofNat_of_zero_le hM.1
  obtain ⟨s1, hs1⟩ : ∃ s1, (rMany 20 st).2 = s1 := ⟨_, rfl⟩
  rw [hm] at ha
  rw [hs1] at hs
  refine pZ ?_
  refine hK2 _ _ ?_
  refine wp_seq_k fun K3 hK3 => ?_
  refine wp_region_lit ?_
  refine pY ha (yAssign (by rfl)) rfl fun a ha => ?_
  refine pZ ?_
  refine hK3 _ _ ?_
  refine wp_seq_k fun K4 hK4 => ?_
  refine wp_seq_k fun K5 hK5 => ?_
  refine wp_region_lit ?_
  refine pY ha (yAssign (by rfl)) rfl fun a ha => ?_
  refine pZ ?_
  refine hK5 _ _ ?_
  refine wp_block ?_
  refine loopI (ι := Nat × Option Addr × Nat) (fun i a w => i.1 ≤ m ∧ Has a 49 [(0, .pointer (some ⟨p, 0, none⟩)), (4, .slice i.2.1 (rList rActn i.1 s1).1.length i.2.2), (3, .int .i64 m), (5, .int .i64 i.1)] ∧ Sep W w (.ol kActn 63 (.slice i.2.1 (rList rActn i.1 s1).1.length i.2.2) (rList rActn i.1 s1).1 :: .rdr p 36 (rList rActn i.1 s1).2 :: r)) (fun i => m - i.1) ((0, none, 0)) ?_ ?_
  · exact ⟨Nat.zero_le _, has4 ha (by rfl) (by rfl) (by rfl) (by rfl), hs.ol_nil kActn _ none⟩
  · rintro i a w ⟨h1, ha, hs⟩
    obtain ⟨i, A, c⟩ := i; simp only at h1 ha hs
    refine wp_seq_k fun K6 hK6 => ?_
    refine wp_seq_k fun K7 hK7 => ?_
    have hll := rList_len rActn i s1
    have hln := rList_snoc rActn i s1
    have hst := rAll_stop (f := rActn) (fun st h => rActn_err h) (i := i) hm hs1 h1
    have hA : rActns st = _ := rAll_at (f := rActn) hm hs1
    generalize hl : rList rActn i s1 = q at ha hs hll hln hst
    obtain ⟨xs, s2⟩ := q
    simp only at ha hs hll hln hst
    refine cutC (fun a w => Has a 49 [(18, .bool (decide (i < m ∧ s2.2 = 0))), (0, .pointer (some ⟨p, 0, none⟩)), (4, .slice A xs.length c), (3, .int .i64 m), (5, .int .i64 i)] ∧ Sep W w (.ol kActn 63 (.slice A xs.length c) xs :: .rdr p 36 s2 :: r)) ?_ ?_
    · refine wp_region_lit ?_
      refine pY ha (yMove (by rfl)) rfl fun a ha => ?_
      refine pY ha (yMove (by rfl)) rfl fun a ha => ?_
      refine pY ha (yLss (by rfl) (by rfl)) rfl fun a ha => ?_
      refine pY ha (yMove (by rfl)) rfl fun a ha => ?_
      refine gDec (t := 12) ha (by rfl) (fun hg3 hp3 => ?_) (fun hg3 hp3 => ?_)
      · rw [hg3] at ha
        refine gOff ha rfl rfl (by rfl) rfl rfl fun a ha => ?_
        refine gOff ha rfl rfl (by rfl) rfl rfl fun a ha => ?_
        refine gOff ha rfl rfl (by rfl) rfl rfl fun a ha => ?_
        refine gOff ha rfl rfl (by rfl) rfl rfl fun a ha => ?_
        refine gOff ha rfl rfl (by rfl) rfl rfl fun a ha => ?_
        first | refine pY ha (yPickT (by rfl) (by rfl)) rfl fun a ha => ?_ | refine pY ha (yPickF (by rfl) (by rfl)) rfl fun a ha => ?_ | refine pY ha (yPick (by rfl) (by rfl) (by rfl)) rfl fun a ha => ?_
        refine pZ ⟨rfl, ?_⟩
        first
          | exact ⟨has5 ha (bF (by omega)) (by rfl) (by rfl) (by rfl) (by rfl), hs⟩
          | exact ⟨has5 ha (bT (by omega)) (by rfl) (by rfl) (by rfl) (by rfl), (hs.rdr_shut .here .here).perm (List.Perm.swap _ _ _)⟩
      · rw [hg3] at ha
        obtain ⟨A', c', hs⟩ := hs.rdr_open (.there .here)
        refine gOn ha rfl rfl (by rfl) ?_
        refine pY ha (yMove (by rfl)) rfl fun a ha => ?_
        refine gOn ha rfl rfl (by rfl) ?_
        refine pY ha (yNilP (by rfl)) rfl fun a ha => ?_
        refine gOn ha rfl rfl (by rfl) ?_
        refine pY ha (yFieldA Tryd.runUnderlying36 rfl Tryd.sizeOf3 rfl (by rfl)) rfl fun a ha => ?_
        refine gOn ha rfl rfl (by rfl) ?_
        first | refine pY ha (yLoadB Tryd.isAgg3 hs (by rfl) (by repeat first | exact .here | apply Pick.there) (by rfl)) rfl fun a ha => ?_ | refine pY ha (yLoadR Tryd.isAgg3 hs (by rfl) (by repeat first | exact .here | apply Pick.there) (by rfl)) rfl fun a ha => ?_ | refine pY ha (yLoadR0 Tryd.isAgg3 hs (by rfl) (by repeat first | exact .here | apply Pick.there) (by rfl)) rfl fun a ha => ?_
        refine gOn ha rfl rfl (by rfl) ?_
        refine pY ha (yEql (by rfl) (by rfl)) rfl fun a ha => ?_
        first | refine pY ha (yPickT (by rfl) (by rfl)) rfl fun a ha => ?_ | refine pY ha (yPickF (by rfl) (by rfl)) rfl fun a ha => ?_ | refine pY ha (yPick (by rfl) (by rfl) (by rfl)) rfl fun a ha => ?_
        refine pZ ⟨rfl, ?_⟩
        first
          | exact ⟨has5 ha (bF (by omega)) (by rfl) (by rfl) (by rfl) (by rfl), hs⟩
          | exact ⟨has5 ha (bT (by omega)) (by rfl) (by rfl) (by rfl) (by rfl), (hs.rdr_shut .here .here).perm (List.Perm.swap _ _ _)⟩
    rintro a w ⟨ha, hs⟩
    refine hK7 _ _ ?_
    first | refine cDec ha (by rfl) (fun hc18 => ?_) (fun hc18 => ?_) | refine cSplit ha (by rfl) (fun hc18 => ?_) (fun hc18 => ?_)
    · refine wp_skip ?_
      refine hK6 _ _ ?_
      refine wp_seq_k fun K8 hK8 => ?_
      refine wp_block ?_
      refine wp_seq_k fun K9 hK9 => ?_
      refine wp_region_lit ?_
      refine pY ha (yMove (by rfl)) rfl fun a ha => ?_
      refine pC ha (nCall Tryd.call16 (by rfl)) rfl (InNum_c hs (.there .here)) ?_
      rintro v w ⟨rfl, hs⟩ a ha
      refine pY ha (bldIn63_0 (by rfl)) rfl fun a ha => ?_
      refine pAlloc (zs := [.int .i64 0, .int .i64 0, .int .i64 0, .string ⟨#[]⟩, .bool false, .slice none 0 0]) ha Tryd.zeroValue63 (by rfl) hs rfl fun b w hs a ha => ?_
      refine pStoreA ha Tryd.sizeOf63 hs (by rfl) (by rfl) (by repeat first | exact .here | apply Pick.there) (by rfl) (by rfl) (by rfl) fun w hs => ?_
      refine pZ ?_
      refine hK9 _ _ ?_
      refine wp_seq_k fun K10 hK10 => ?_
      refine wp_region_lit ?_
      refine pY ha (yMove (by rfl)) rfl fun a ha => ?_
      refine pC ha (nCall Tryd.call16 (by rfl)) rfl (InNum_c hs (by repeat first | exact .here | apply Pick.there)) ?_
      rintro v w ⟨rfl, hs⟩ a ha
      refine pY ha (yFieldA Tryd.runUnderlying63 rfl Tryd.sizeOf3 rfl (by rfl)) rfl fun a ha => ?_
      refine pStore ha Tryd.sizeOf3 hs (by rfl) (by rfl) rfl rfl (by repeat first | exact .here | apply Pick.there) (by rfl) fun w hs => ?_
      refine pZ ?_
      refine hK10 _ _ ?_
      refine wp_seq_k fun K11 hK11 => ?_
      refine wp_region_lit ?_
      refine pY ha (yMove (by rfl)) rfl fun a ha => ?_
      refine pC ha (nCall Tryd.call16 (by rfl)) rfl (InNum_c hs (by repeat first | exact .here | apply Pick.there)) ?_
      rintro v w ⟨rfl, hs⟩ a ha
      refine pY ha (yFieldA Tryd.runUnderlying63 rfl Tryd.sizeOf3 rfl (by rfl)) rfl fun a ha => ?_
      refine pStore ha Tryd.sizeOf3 hs (by rfl) (by rfl) rfl rfl (by repeat first | exact .here | apply Pick.there) (by rfl) fun w hs => ?_
      refine pZ ?_
      refine hK11 _ _ ?_
      refine wp_seq_k fun K12 hK12 => ?_
      refine wp_region_lit ?_
      refine pY ha (yMove (by rfl)) rfl fun a ha => ?_
      refine pC ha (nCall Tryd.call18 (by rfl)) rfl (InText_c 100 hs (by repeat first | exact .here | apply Pick.there)) ?_
      rintro v w ⟨rfl, hs⟩ a ha
      refine pY ha (yFieldA Tryd.runUnderlying63 rfl Tryd.sizeOf9 rfl (by rfl)) rfl fun a ha => ?_
      refine pStore ha Tryd.sizeOf9 hs (by rfl) (by rfl) rfl rfl (by repeat first | exact .here | apply Pick.there) (by rfl) fun w hs => ?_
      refine pZ ?_
      refine hK12 _ _ ?_
      refine wp_seq_k fun K13 hK13 => ?_
      refine wp_region_lit ?_
      refine pY ha (yMove (by rfl)) rfl fun a ha => ?_
      refine pC ha (nCall Tryd.call20 (by rfl)) rfl (InFlag_c hs (by repeat first | exact .here | apply Pick.there)) ?_
      rintro v w ⟨rfl, hs⟩ a ha
      refine pY ha (yFieldA Tryd.runUnderlying63 rfl Tryd.sizeOf4 rfl (by rfl)) rfl fun a ha => ?_
      refine pStore ha Tryd.sizeOf4 hs (by rfl) (by rfl) rfl rfl (by repeat first | exact .here | apply Pick.there) (by rfl) fun w hs => ?_
      refine pZ ?_
      refine hK13 _ _ ?_
      refine wp_seq_k fun K14 hK14 => ?_
      refine wp_region_lit ?_
      refine pY ha (yMove (by rfl)) rfl fun a ha => ?_
      refine pC ha (nCall Tryd.call23 (by rfl)) rfl (InComps_c hs (by repeat first | exact .here | apply Pick.there)) ?_
      rintro v w ⟨A', c', rfl, hs⟩ a ha
      have hs := hs.ol_rd .here
      refine pY ha (yFieldA Tryd.runUnderlying63 rfl Tryd.sizeOf41 rfl (by rfl)) rfl fun a ha => ?_
      refine pStore ha Tryd.sizeOf41 hs (by rfl) (by rfl) rfl rfl (by repeat first | exact .here | apply Pick.there) (by rfl) fun w hs => ?_
      refine pZ ?_
      refine hK14 _ _ ?_
      refine wp_region_lit ?_
      refine pY ha (yMove (by rfl)) rfl fun a ha => ?_
      first | refine pY ha (yLoadRA Tryd.isAgg63 Tryd.sizeOf63 hs (by rfl) (by repeat first | exact .here | apply Pick.there) (by rfl)) rfl fun a ha => ?_ | refine pY ha (yLoadBA Tryd.isAgg63 Tryd.sizeOf63 hs (by rfl) (by repeat first | exact .here | apply Pick.there) (by rfl)) rfl fun a ha => ?_
      refine pMake ha (bslIn44_1_0 (by rfl)) hs rfl fun b w hs a ha => ?_
      have hs := hs.with_ro (by repeat first | exact .here | apply Pick.there) (q := fun Z => kActn.R Z (rActn s2).1 [.int .i64 (rActn s2).1.kind, .int .i64 (rActn s2).1.id, .int .i64 (rActn s2).1.parent, .string (rActn s2).1.name, .bool (rActn s2).1.dir, .slice A' (rActn s2).1.ops.length c']) (m' := fun _ _ h => kActn.mono h) (fun Z hp => ⟨A', _, c', rfl, hp⟩)
      first | refine pApp1 ha elIn44 (by rfl) (by rfl) hs (by repeat first | exact .here | apply Pick.there) (by repeat first | exact .here | apply Pick.there) (by repeat first | exact .here | apply Pick.there) (by rfl) (by first | omega | (unfold maxLen; omega) | (simp [maxLen]; done) | (simp [maxLen]; omega)) (by first | omega | (unfold maxLen; omega) | (simp [maxLen]; done) | (simp [maxLen]; omega)) rfl fun A c w hs a ha => ?_ | refine pAppRd ha elIn44 (by rfl) (by rfl) hs (by repeat first | exact .here | apply Pick.there) (by repeat first | exact .here | apply Pick.there) (by rfl) (by first | omega | (unfold maxLen; omega) | (simp [maxLen]; done) | (simp [maxLen]; omega)) (by first | omega | (unfold maxLen; omega) | (simp [maxLen]; done) | (simp [maxLen]; omega)) rfl fun A c w hs a ha => ?_ | refine pApp1F ha elIn44 (by rfl) (by rfl) hs (by repeat first | exact .here | apply Pick.there) (by repeat first | exact .here | apply Pick.there) (by intro Z; first | rfl | exact ⟨rfl, by omega, by omega⟩) (by rfl) (by first | omega | (unfold maxLen; omega) | (simp [maxLen]; done) | (simp [maxLen]; omega)) (by first | omega | (unfold maxLen; omega) | (simp [maxLen]; done) | (simp [maxLen]; omega)) rfl fun A c w hs a ha => ?_
      refine pY ha (yAssign (by rfl)) rfl fun a ha => ?_
      refine pZ ?_
      refine hK8 _ _ ?_
      refine wp_region_lit ?_
      refine pY ha (yMove (by rfl)) rfl fun a ha => ?_
      first | refine pY ha (yAddN (by rfl) (by rfl) ⟨by omega, by omega⟩) rfl fun a ha => ?_ | refine pY ha (yAdd (by rfl) (by rfl)) rfl fun a ha => ?_
      refine pY ha (yAssign (by rfl)) rfl fun a ha => ?_
      refine pZ ?_
      have e1 : (rList rActn (i + 1) s1).1 = xs ++ [(rActn s2).1] := by rw [hln]
      have e2 : (rList rActn (i + 1) s1).2 = (rActn s2).2 := by rw [hln]
      refine ⟨(i + 1, A, c), ⟨by simp only; omega, ?_, ?_⟩, by simp only; omega⟩
      · simp only [e1, List.length_append, List.length_cons, List.length_nil]; exact has4 ha (by rfl) (by rfl) (by rfl) (by rfl)
      · simp only [e1, e2, List.length_append, List.length_cons, List.length_nil]; exact hs.drop3
    · refine wp_exit ?_
      refine hK4 _ _ ?_
      refine wp_seq_k fun K15 hK15 => ?_
      refine wp_seq_k fun K16 hK16 => ?_
      obtain ⟨A', c', hs⟩ := hs.rdr_open (.there .here)
      refine wp_region_lit ?_
      refine pY ha (yMove (by rfl)) rfl fun a ha => ?_
      refine pY ha (yNilP (by rfl)) rfl fun a ha => ?_
      refine pY ha (yFieldA Tryd.runUnderlying36 rfl Tryd.sizeOf3 rfl (by rfl)) rfl fun a ha => ?_
      first | refine pY ha (yLoadB Tryd.isAgg3 hs (by rfl) (by repeat first | exact .here | apply Pick.there) (by rfl)) rfl fun a ha => ?_ | refine pY ha (yLoadR Tryd.isAgg3 hs (by rfl) (by repeat first | exact .here | apply Pick.there) (by rfl)) rfl fun a ha => ?_ | refine pY ha (yLoadR0 Tryd.isAgg3 hs (by rfl) (by repeat first | exact .here | apply Pick.there) (by rfl)) rfl fun a ha => ?_
      refine pY ha (yNeq (by rfl) (by rfl)) rfl fun a ha => ?_
      refine pZ ?_
      refine hK16 _ _ ?_
      first | refine cNDec ha (by rfl) (fun hc47 => ?_) (fun hc47 => ?_) | refine cDec ha (by rfl) (fun hc47 => ?_) (fun hc47 => ?_) | refine cSplit ha (by rfl) (fun hc47 => ?_) (fun hc47 => ?_)
      · refine wp_seq_k fun K17 hK17 => ?_
        refine wp_region_lit ?_
        refine pY ha (yAssign (by rfl)) rfl fun a ha => ?_
        refine pZ ?_
        refine hK17 _ _ ?_
        refine wp_ret ?_
        show bodyPost Tryd.prog Tryd.f26 _ .ret _ _
        refine ret1 rfl ha (by rfl) ?_
        have hA : rActns st = _ := hst hc47
        rw [hA]; exact ⟨none, 0, rfl, (hs.rdr_shut .here .here).drop2.ol_nil kActn _ none⟩
      · refine wp_skip ?_
        refine hK15 _ _ ?_
        refine wp_seq_k fun K18 hK18 => ?_
        refine wp_region_lit ?_
        refine pY ha (yMove (by rfl)) rfl fun a ha => ?_
        refine pY ha (yAssign (by rfl)) rfl fun a ha => ?_
        refine pZ ?_
        refine hK18 _ _ ?_
        refine wp_ret ?_
        show bodyPost Tryd.prog Tryd.f26 _ .ret _ _
        refine ret1 rfl ha (by rfl) ?_
        obtain rfl : i = m := by omega
        rw [hl] at hA
        rw [if_pos hc47] at hA; rw [hA]; exact ⟨A, c, rfl, (hs.rdr_shut .here .here).perm (List.Perm.swap _ _ _)⟩
end
end Go.Proofs.YtnkcmpmcmkljnaaDoor
