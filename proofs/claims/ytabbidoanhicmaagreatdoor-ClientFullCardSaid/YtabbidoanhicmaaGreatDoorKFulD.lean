/- A part of the proof of ClientFull (part 4 of 4): the words and the walks. -/
import Derived.Test.YtabbidoanhicmaaGreatDoorKFulC
set_option linter.unusedVariables false
set_option linter.unusedSimpArgs false
namespace Go.Proofs.YtabbidoanhicmaaGreatDoor
open Go.RowKit Go.Lib Go.Proofs.YtabbidoanhicmaaGreatDoorW.PrintLast
theorem bldClW39_ {w : World} {l : List (Nat × Value)} {T : TypeId} : Yl Tryz.prog w l (.build 39 #[]) T (.agg #[.int .i64 0, .int .i64 0, .int .i64 0, .int .i64 0, .int .i64 0, .slice none 0 0, .slice none 0 0, .slice none 0 0, .int .i64 0]) := fun ρ o h ho _ => by
  unfold execOp; rw [ho]
  simp [Instr.build, Instr.fill, Tryz.zeroValue39, Tryz.runUnderlying39, Tryz.sizeOf22, Tryz.sizeOf3, Tryz.sizeOf36, Tryz.sizeOf37, agg_cells]
theorem bldClW53_0_2 {w : World} {l : List (Nat × Value)} {T : TypeId} {x0 x2 : Operand} {v0 : Value} (h0 : ev l x0 = some v0) {v2 : Value} (h2 : ev l x2 = some v2) (o0 : v0.cells = #[v0] := by rfl) (o2 : v2.cells = #[v2] := by rfl) : Yl Tryz.prog w l (.build 53 #[(0, x0), (2, x2)]) T (.agg #[v0, .int .i64 0, v2, .int .i64 0, .bool false, .bool false, .bool false, .bool false, .slice none 0 0, .slice none 0 0]) := fun ρ o h ho _ => by
  have hf : Instr.fill (fun i => ([(0, 1), (1, 1), (2, 1), (3, 1), (4, 1), (5, 1), (6, 1), (7, 1), (8, 1), (9, 1)] : List (Nat × Nat))[i]?) #[.int .i64 0, .int .i64 0, .pointer none, .int .i64 0, .bool false, .bool false, .bool false, .bool false, .slice none 0 0, .slice none 0 0] [(0, v0), (2, v2)] = some #[v0, .int .i64 0, v2, .int .i64 0, .bool false, .bool false, .bool false, .bool false, .slice none 0 0, .slice none 0 0] := by
    refine (fill_v o0 (by rfl) (by simp)).trans ?_
    refine (fill_v o2 (by rfl) (by simp)).trans ?_
    simp [Instr.fill]
  unfold execOp; rw [ho]
  simp [h _ _ h0, h _ _ h2, Instr.build, Tryz.zeroValue53, Tryz.runUnderlying53, Tryz.sizeOf3, Tryz.sizeOf4, Tryz.sizeOf43, Tryz.sizeOf45, Tryz.sizeOf51, agg_cells, hf]
/-- A transaction. -/
def kTx : Kd (List Actn) where
  sz := 1
  R := fun Z x cs => ∃ A n c, cs = [.slice A n c] ∧ kActn.sl Z (.slice A n c) x
  mono := fun h ⟨A, n, c, e, hs⟩ => ⟨A, n, c, e, Kd.sl_mono kActn h hs⟩
  len := fun ⟨A, n, c, h, _⟩ => by subst h; rfl
  one := fun ⟨A, n, c, h, _⟩ u hu => by subst h; simp at hu; rcases hu with rfl <;> rfl
section
variable {W w : World} {cs r r2 : List Ch} {o : Bool} {bc : Nat} {c : Cli}
theorem Sep.mk_tx {A : Option Addr} {n c : Nat} {x : List Actn} (h : Sep W w cs) (hk : Pick cs (.rd kActn (.slice A n c) x) r) : Sep W w (.el kTx x [.slice A n c] :: cs) :=
  h.with_ro (q := fun Z => kTx.R Z x [.slice A n c]) (m' := fun _ _ h hp => kTx.mono h hp) hk fun Z hp => ⟨A, n, c, rfl, hp⟩
theorem CNil_c (hs : Sep W w cs) : Calls Tryz.prog 21 #[.pointer none] w (Rt fun v w' => v = .bool true ∧ Sep W w' cs) := by
  refine enter Tryz.func21 Tryz.ntmps21 rfl rfl fun a (ha : Has a 12 [(0, _)]) => ?_
  refine wp_seq_k fun K1 hK1 => ?_
  refine wp_region_lit ?_
  refine pY ha (yAssign (by rfl)) fun a ha => ?_
  refine pZ ?_
  refine hK1 _ _ ?_
  refine wp_seq_k fun K2 hK2 => ?_
  refine wp_region_lit ?_
  refine pY ha (yMove (by rfl)) fun a ha => ?_
  refine pY ha (yPtrEqlN Tryz.underlying25 (by rfl) (by rfl)) fun a ha => ?_
  refine pY ha (yMove (by rfl)) fun a ha => ?_
  refine gOff ha fun a ha => ?_
  refine gOff ha fun a ha => ?_
  refine gOff ha fun a ha => ?_
  refine gOff ha fun a ha => ?_
  refine gOff ha fun a ha => ?_
  first | refine pY ha (yPickT (by rfl) (by rfl)) fun a ha => ?_ | refine pY ha (yPickF (by rfl) (by rfl)) fun a ha => ?_ | refine pY ha (yPick (by rfl) (by rfl) (by rfl)) fun a ha => ?_
  refine pY ha (yAssign (by rfl)) fun a ha => ?_
  refine pZ ?_
  refine hK2 _ _ ?_
  refine wp_ret ?_
  show bodyPost Tryz.prog Tryz.f21 _ .ret _ _
  refine ret1 rfl ha (by rfl) ?_
  exact ⟨rfl, hs⟩
theorem CNone_c {bt : Nat} {vl vg : Value} (h0 : c.id ≠ 0) (hs : Sep W w cs) (hk : Pick cs (.blk bc 53 (cliV c bt vl vg)) r) :
    Calls Tryz.prog 21 #[.pointer (some ⟨bc, 0, none⟩)] w (Rt fun v w' => v = .bool false ∧ Sep W w' cs) := by
  have hkc := hk
  refine enter Tryz.func21 Tryz.ntmps21 rfl rfl fun a (ha : Has a 12 [(0, _)]) => ?_
  refine wp_seq_k fun K1 hK1 => ?_
  refine wp_region_lit ?_
  refine pY ha (yAssign (by rfl)) fun a ha => ?_
  refine pZ ?_
  refine hK1 _ _ ?_
  refine wp_seq_k fun K2 hK2 => ?_
  refine wp_region_lit ?_
  refine pY ha (yMove (by rfl)) fun a ha => ?_
  refine pY ha (yPtrEqlN Tryz.underlying25 (by rfl) (by rfl)) fun a ha => ?_
  refine pY ha (yMove (by rfl)) fun a ha => ?_
  refine gOn ha ?_
  refine pY ha (yMove (by rfl)) fun a ha => ?_
  refine gOn ha ?_
  refine pY ha (yNilP (by rfl)) fun a ha => ?_
  refine gOn ha ?_
  refine pY ha (yFieldA Tryz.runUnderlying53 rfl Tryz.sizeOf3 rfl (by rfl)) fun a ha => ?_
  refine gOn ha ?_
  refine pY ha (yLoadB (E := 53) Tryz.isAgg3 hs (by rfl) hkc (by rfl)) fun a ha => ?_
  refine gOn ha ?_
  refine pY ha (yEql (by rfl) (by rfl)) fun a ha => ?_
  first | refine pY ha (yPickT (by rfl) (by rfl)) fun a ha => ?_ | refine pY ha (yPickF (by rfl) (by rfl)) fun a ha => ?_ | refine pY ha (yPick (by rfl) (by rfl) (by rfl)) fun a ha => ?_
  refine pY ha (yAssign (by rfl)) fun a ha => ?_
  refine pZ ?_
  refine hK2 _ _ ?_
  refine wp_ret ?_
  show bodyPost Tryz.prog Tryz.f21 _ .ret _ _
  refine ret1 rfl ha (by rfl) ?_
  exact ⟨congrArg Value.bool (decide_eq_false h0), hs⟩
def newC (id : Int) : Cli := ⟨id, 0, [], 0, false, false, false, false, [], []⟩
theorem CNew_c (id : Int) (hs : Sep W w cs) : Calls Tryz.prog 6 #[.int .i64 id] w (Rt fun v w' =>
    (1 ≤ id ∧ id ≤ 20 ∧ ∃ b, v = .tuple #[.pointer (some ⟨b, 0, none⟩), .int .i64 0] ∧ Sep W w' (.cli true b (newC id) :: cs)) ∨ (¬ (1 ≤ id ∧ id ≤ 20) ∧ v = .tuple #[.pointer none, .int .i64 1] ∧ Sep W w' cs)) := by
  refine enter Tryz.func6 Tryz.ntmps6 rfl rfl fun a (ha : Has a 14 [(0, _)]) => ?_
  refine wp_seq_k fun K1 hK1 => ?_
  refine wp_region_lit ?_
  refine pY ha (yAssign (by rfl)) fun a ha => ?_
  refine pY ha (yAssign (by rfl)) fun a ha => ?_
  refine pZ ?_
  refine hK1 _ _ ?_
  refine wp_seq_k fun K2 hK2 => ?_
  refine wp_seq_k fun K3 hK3 => ?_
  refine cutC (fun a w => Has a 14 [(9, .bool (decide (¬ (1 ≤ id ∧ id ≤ 20)))), (0, .int .i64 id)] ∧ Sep W w cs) ?_ ?_
  · refine wp_region_lit ?_
    refine pY ha (yMove (by rfl)) fun a ha => ?_
    refine pY ha (yLss (by rfl) (by rfl)) fun a ha => ?_
    refine pY ha (yMove (by rfl)) fun a ha => ?_
    refine gDec (t := 6) ha (by rfl) (fun hg2 hp2 => ?_) (fun hg2 hp2 => ?_)
    · rw [hg2] at ha
      refine gOn ha ?_
      refine pY ha (yMove (by rfl)) fun a ha => ?_
      refine gOn ha ?_
      refine pY ha (yGtr (by rfl) (by rfl)) fun a ha => ?_
      first | refine pY ha (yPickT (by rfl) (by rfl)) fun a ha => ?_ | refine pY ha (yPickF (by rfl) (by rfl)) fun a ha => ?_ | refine pY ha (yPick (by rfl) (by rfl) (by rfl)) fun a ha => ?_
      refine pZ ⟨rfl, ?_⟩
      refine ⟨has2 ha ?_ (by rfl), hs⟩
      refine congrArg (fun b => some (Value.bool b)) ?_
      rw [Bool.eq_iff_iff]
      simp
      omega
    · rw [hg2] at ha
      refine gOff ha fun a ha => ?_
      refine gOff ha fun a ha => ?_
      first | refine pY ha (yPickT (by rfl) (by rfl)) fun a ha => ?_ | refine pY ha (yPickF (by rfl) (by rfl)) fun a ha => ?_ | refine pY ha (yPick (by rfl) (by rfl) (by rfl)) fun a ha => ?_
      refine pZ ⟨rfl, ?_⟩
      refine ⟨has2 ha ?_ (by rfl), hs⟩
      refine congrArg (fun b => some (Value.bool b)) ?_
      rw [Bool.eq_iff_iff]
      simp
      omega
  rintro a w ⟨ha, hs⟩
  refine hK3 _ _ ?_
  first | refine cDec ha (by rfl) (fun hc9 => ?_) (fun hc9 => ?_) | refine cSplit ha (by rfl) (fun hc9 => ?_) (fun hc9 => ?_)
  · refine wp_seq_k fun K4 hK4 => ?_
    refine wp_region_lit ?_
    refine pY ha (yAssign (by rfl)) fun a ha => ?_
    refine pY ha (yAssign (by rfl)) fun a ha => ?_
    refine pZ ?_
    refine hK4 _ _ ?_
    refine wp_ret ?_
    show bodyPost Tryz.prog Tryz.f6 _ .ret _ _
    refine ret2 rfl ha (by rfl) (by rfl) ?_
    exact .inr ⟨hc9, rfl, hs⟩
  · refine wp_skip ?_
    refine hK2 _ _ ?_
    refine wp_seq_k fun K5 hK5 => ?_
    refine wp_region_lit ?_
    refine pY ha (yMove (by rfl)) fun a ha => ?_
    refine pC ha (nCall Tryz.call20 (by rfl)) rfl (New_c hs) ?_
    rintro v w ⟨bt, bm, rfl, hs⟩ a ha
    refine pY ha (bldClW53_0_2 (by rfl) (by rfl)) fun a ha => ?_
    refine pBox (es := _) ha (by rfl) (by rfl) hs rfl fun bc w hs a ha => ?_
    refine pY ha (yAssign (by rfl)) fun a ha => ?_
    refine pY ha (yAssign (by rfl)) fun a ha => ?_
    refine pZ ?_
    refine hK5 _ _ ?_
    refine wp_ret ?_
    show bodyPost Tryz.prog Tryz.f6 _ .ret _ _
    refine ret2 rfl ha (by rfl) (by rfl) ?_
    have hs := (hs.ol_nil kPnd 58 none).ol_nil kPnd 68 none
    refine .inl ⟨by omega, by omega, bc, rfl, ?_⟩
    exact hs.cli_shut (o := true) (c := newC id) (bt := bt) (bm := bm) (vl := .slice none 0 0) (vg := .slice none 0 0) (by repeat first | exact .here | apply Pick.there) (by repeat first | exact .here | apply Pick.there) (by repeat first | exact .here | apply Pick.there) (by repeat first | exact .here | apply Pick.there) (by repeat first | exact .here | apply Pick.there)
theorem CRev0_c (hs : Sep W w cs) : Calls Tryz.prog 12 #[.pointer none] w (Rt fun v w' => v = .int .i64 0 ∧ Sep W w' cs) := by
  refine enter Tryz.func12 Tryz.ntmps12 rfl rfl fun a (ha : Has a 9 [(0, _)]) => ?_
  refine wp_seq_k fun K1 hK1 => ?_
  refine wp_region_lit ?_
  refine pY ha (yAssign (by rfl)) fun a ha => ?_
  refine pZ ?_
  refine hK1 _ _ ?_
  refine wp_seq_k fun K2 hK2 => ?_
  refine wp_seq_k fun K3 hK3 => ?_
  refine wp_region_lit ?_
  refine pY ha (yMove (by rfl)) fun a ha => ?_
  refine pC ha (nCall Tryz.call21 (by rfl)) rfl (CNil_c hs) ?_
  rintro v w ⟨rfl, hs⟩ a ha
  refine pZ ?_
  refine hK3 _ _ ?_
  refine cTrue ha (by rfl) ?_
  refine wp_seq_k fun K4 hK4 => ?_
  refine wp_region_lit ?_
  refine pY ha (yAssign (by rfl)) fun a ha => ?_
  refine pZ ?_
  refine hK4 _ _ ?_
  refine wp_ret ?_
  show bodyPost Tryz.prog Tryz.f12 _ .ret _ _
  refine ret1 rfl ha (by rfl) ?_
  exact ⟨rfl, hs⟩
theorem CBase0_c (hs : Sep W w cs) : Calls Tryz.prog 13 #[.pointer none] w (Rt fun v w' => v = .pointer none ∧ Sep W w' cs) := by
  refine enter Tryz.func13 Tryz.ntmps13 rfl rfl fun a (ha : Has a 10 [(0, _)]) => ?_
  refine wp_seq_k fun K1 hK1 => ?_
  refine wp_region_lit ?_
  refine pY ha (yAssign (by rfl)) fun a ha => ?_
  refine pZ ?_
  refine hK1 _ _ ?_
  refine wp_seq_k fun K2 hK2 => ?_
  refine wp_seq_k fun K3 hK3 => ?_
  refine wp_region_lit ?_
  refine pY ha (yMove (by rfl)) fun a ha => ?_
  refine pC ha (nCall Tryz.call21 (by rfl)) rfl (CNil_c hs) ?_
  rintro v w ⟨rfl, hs⟩ a ha
  refine pZ ?_
  refine hK3 _ _ ?_
  refine cTrue ha (by rfl) ?_
  refine wp_seq_k fun K4 hK4 => ?_
  refine wp_region_lit ?_
  refine pY ha (yAssign (by rfl)) fun a ha => ?_
  refine pZ ?_
  refine hK4 _ _ ?_
  refine wp_ret ?_
  show bodyPost Tryz.prog Tryz.f13 _ .ret _ _
  refine ret1 rfl ha (by rfl) ?_
  exact ⟨rfl, hs⟩
theorem CView0_c (hs : Sep W w cs) : Calls Tryz.prog 14 #[.pointer none] w (Rt fun v w' => v = .pointer none ∧ Sep W w' cs) := by
  refine enter Tryz.func14 Tryz.ntmps14 rfl rfl fun a (ha : Has a 41 [(0, _)]) => ?_
  refine wp_seq_k fun K1 hK1 => ?_
  refine wp_region_lit ?_
  refine pY ha (yAssign (by rfl)) fun a ha => ?_
  refine pZ ?_
  refine hK1 _ _ ?_
  refine wp_seq_k fun K2 hK2 => ?_
  refine wp_seq_k fun K3 hK3 => ?_
  refine wp_region_lit ?_
  refine pY ha (yMove (by rfl)) fun a ha => ?_
  refine pC ha (nCall Tryz.call21 (by rfl)) rfl (CNil_c hs) ?_
  rintro v w ⟨rfl, hs⟩ a ha
  refine pZ ?_
  refine hK3 _ _ ?_
  refine cTrue ha (by rfl) ?_
  refine wp_seq_k fun K4 hK4 => ?_
  refine wp_region_lit ?_
  refine pY ha (yAssign (by rfl)) fun a ha => ?_
  refine pZ ?_
  refine hK4 _ _ ?_
  refine wp_ret ?_
  show bodyPost Tryz.prog Tryz.f14 _ .ret _ _
  refine ret1 rfl ha (by rfl) ?_
  exact ⟨rfl, hs⟩
theorem CPend0_c (hs : Sep W w cs) : Calls Tryz.prog 9 #[.pointer none] w (Rt fun v w' => v = .slice none 0 0 ∧ Sep W w' cs) := by
  refine enter Tryz.func9 Tryz.ntmps9 rfl rfl fun a (ha : Has a 24 [(0, _)]) => ?_
  refine wp_seq_k fun K1 hK1 => ?_
  refine wp_region_lit ?_
  refine pY ha (yAssign (by rfl)) fun a ha => ?_
  refine pZ ?_
  refine hK1 _ _ ?_
  refine wp_seq_k fun K2 hK2 => ?_
  refine wp_seq_k fun K3 hK3 => ?_
  refine wp_region_lit ?_
  refine pY ha (yMove (by rfl)) fun a ha => ?_
  refine pC ha (nCall Tryz.call21 (by rfl)) rfl (CNil_c hs) ?_
  rintro v w ⟨rfl, hs⟩ a ha
  refine pZ ?_
  refine hK3 _ _ ?_
  refine cTrue ha (by rfl) ?_
  refine wp_seq_k fun K4 hK4 => ?_
  refine wp_region_lit ?_
  refine pY ha (yAssign (by rfl)) fun a ha => ?_
  refine pZ ?_
  refine hK4 _ _ ?_
  refine wp_ret ?_
  show bodyPost Tryz.prog Tryz.f9 _ .ret _ _
  refine ret1 rfl ha (by rfl) ?_
  exact ⟨rfl, hs⟩
theorem CLost0_c (hs : Sep W w cs) : Calls Tryz.prog 15 #[.pointer none] w (Rt fun v w' => v = .slice none 0 0 ∧ Sep W w' cs) := by
  refine enter Tryz.func15 Tryz.ntmps15 rfl rfl fun a (ha : Has a 27 [(0, _)]) => ?_
  refine wp_seq_k fun K1 hK1 => ?_
  refine wp_region_lit ?_
  refine pY ha (yAssign (by rfl)) fun a ha => ?_
  refine pZ ?_
  refine hK1 _ _ ?_
  refine wp_seq_k fun K2 hK2 => ?_
  refine wp_seq_k fun K3 hK3 => ?_
  refine wp_region_lit ?_
  refine pY ha (yMove (by rfl)) fun a ha => ?_
  refine pC ha (nCall Tryz.call21 (by rfl)) rfl (CNil_c hs) ?_
  rintro v w ⟨rfl, hs⟩ a ha
  refine pZ ?_
  refine hK3 _ _ ?_
  refine cTrue ha (by rfl) ?_
  refine wp_seq_k fun K4 hK4 => ?_
  refine wp_region_lit ?_
  refine pY ha (yAssign (by rfl)) fun a ha => ?_
  refine pZ ?_
  refine hK4 _ _ ?_
  refine wp_ret ?_
  show bodyPost Tryz.prog Tryz.f15 _ .ret _ _
  refine ret1 rfl ha (by rfl) ?_
  exact ⟨rfl, hs⟩
theorem CIdle0_c (hs : Sep W w cs) : Calls Tryz.prog 16 #[.pointer none] w (Rt fun v w' => v = .bool true ∧ Sep W w' cs) := by
  refine enter Tryz.func16 Tryz.ntmps16 rfl rfl fun a (ha : Has a 13 [(0, _)]) => ?_
  refine wp_seq_k fun K1 hK1 => ?_
  refine wp_region_lit ?_
  refine pY ha (yAssign (by rfl)) fun a ha => ?_
  refine pZ ?_
  refine hK1 _ _ ?_
  refine wp_seq_k fun K2 hK2 => ?_
  refine wp_region_lit ?_
  refine pY ha (yMove (by rfl)) fun a ha => ?_
  refine pC ha (nCall Tryz.call21 (by rfl)) rfl (CNil_c hs) ?_
  rintro v w ⟨rfl, hs⟩ a ha
  refine pY ha (yMove (by rfl)) fun a ha => ?_
  refine gOff ha fun a ha => ?_
  refine gOff ha fun a ha => ?_
  refine gOff ha fun a ha => ?_
  refine gOff ha fun a ha => ?_
  refine gOff ha fun a ha => ?_
  refine gOff ha fun a ha => ?_
  first | refine pY ha (yPickT (by rfl) (by rfl)) fun a ha => ?_ | refine pY ha (yPickF (by rfl) (by rfl)) fun a ha => ?_ | refine pY ha (yPick (by rfl) (by rfl) (by rfl)) fun a ha => ?_
  refine pY ha (yAssign (by rfl)) fun a ha => ?_
  refine pZ ?_
  refine hK2 _ _ ?_
  refine wp_ret ?_
  show bodyPost Tryz.prog Tryz.f16 _ .ret _ _
  refine ret1 rfl ha (by rfl) ?_
  exact ⟨rfl, hs⟩
theorem CEdit0_c (v1 : Value) (hs : Sep W w cs) : Calls Tryz.prog 7 #[.pointer none, v1] w (Rt fun v w' => v = .int .i64 1 ∧ Sep W w' cs) := by
  refine enter Tryz.func7 Tryz.ntmps7 rfl rfl fun a (ha : Has a 44 [(0, _), (1, _)]) => ?_
  refine wp_seq_k fun K1 hK1 => ?_
  refine wp_region_lit ?_
  refine pY ha (yAssign (by rfl)) fun a ha => ?_
  refine pZ ?_
  refine hK1 _ _ ?_
  refine wp_seq_k fun K2 hK2 => ?_
  refine wp_seq_k fun K3 hK3 => ?_
  refine wp_region_lit ?_
  refine pY ha (yMove (by rfl)) fun a ha => ?_
  refine pC ha (nCall Tryz.call21 (by rfl)) rfl (CNil_c hs) ?_
  rintro v w ⟨rfl, hs⟩ a ha
  refine pY ha (yMove (by rfl)) fun a ha => ?_
  refine gOff ha fun a ha => ?_
  refine gOff ha fun a ha => ?_
  refine gOff ha fun a ha => ?_
  first | refine pY ha (yPickT (by rfl) (by rfl)) fun a ha => ?_ | refine pY ha (yPickF (by rfl) (by rfl)) fun a ha => ?_ | refine pY ha (yPick (by rfl) (by rfl) (by rfl)) fun a ha => ?_
  refine pZ ?_
  refine hK3 _ _ ?_
  refine cTrue ha (by rfl) ?_
  refine wp_seq_k fun K4 hK4 => ?_
  refine wp_region_lit ?_
  refine pY ha (yAssign (by rfl)) fun a ha => ?_
  refine pZ ?_
  refine hK4 _ _ ?_
  refine wp_ret ?_
  show bodyPost Tryz.prog Tryz.f7 _ .ret _ _
  refine ret1 rfl ha (by rfl) ?_
  exact ⟨rfl, hs⟩
theorem CIn0_c {es : List Value} (hl : es.length = 9) (hs : Sep W w cs) : Calls Tryz.prog 11 #[.pointer none, .agg es.toArray] w (Rt fun v w' => v = .int .i64 1 ∧ Sep W w' cs) := by
  refine enter Tryz.func11 Tryz.ntmps11 rfl rfl fun a (ha : Has a 144 [(0, _), (1, _)]) => ?_
  refine wp_seq_k fun K1 hK1 => ?_
  refine wp_region_lit ?_
  refine pBox (es := _) ha (by rfl) (by rfl) hs rfl fun b w hs a ha => ?_
  refine pY ha (yAssign (by rfl)) fun a ha => ?_
  refine pZ ?_
  refine hK1 _ _ ?_
  refine scopeF 1 99999 ?_
  refine wp_seq_k fun K2 hK2 => ?_
  refine wp_seq_k fun K3 hK3 => ?_
  refine wp_region_lit ?_
  refine pY ha (yMove (by rfl)) fun a ha => ?_
  refine pC ha (nCall Tryz.call21 (by rfl)) rfl (CNil_c hs) ?_
  rintro v w ⟨rfl, hs⟩ a ha
  refine pZ ?_
  refine hK3 _ _ ?_
  refine cTrue ha (by rfl) ?_
  refine wp_seq_k fun K4 hK4 => ?_
  refine wp_region_lit ?_
  refine pY ha (yAssign (by rfl)) fun a ha => ?_
  refine pZ ?_
  refine hK4 _ _ ?_
  refine wp_ret ?_
  show bodyPost Tryz.prog Tryz.f11 _ .ret _ _
  refine ret1 rfl ha (by rfl) ?_
  exact ⟨rfl, (by first | exact hs | exact hs.to (by repeat first | exact Picks.refl | refine Picks.cons (by repeat first | exact .here | apply Pick.there) ?_ | refine Picks.skip ?_))⟩
theorem COut0_c (hs : Sep W w cs) : Calls Tryz.prog 10 #[.pointer none] w (Rt fun v w' => ∃ es, v = .agg es.toArray ∧ Sep W w' (.el kMsg noM es :: cs)) := by
  refine enter Tryz.func10 Tryz.ntmps10 rfl rfl fun a (ha : Has a 85 [(0, _)]) => ?_
  refine wp_seq_k fun K1 hK1 => ?_
  refine wp_region_lit ?_
  refine pAlloc (zs := [.int .i64 0, .int .i64 0, .int .i64 0, .int .i64 0, .int .i64 0, .slice none 0 0, .slice none 0 0, .slice none 0 0, .int .i64 0]) ha Tryz.zeroValue39 (by rfl) hs rfl fun bo w hs a ha => ?_
  refine pZ ?_
  refine hK1 _ _ ?_
  refine wp_seq_k fun K2 hK2 => ?_
  refine wp_block ?_
  refine wp_seq_k fun K3 hK3 => ?_
  refine wp_region_lit ?_
  refine pY ha (yMove (by rfl)) fun a ha => ?_
  refine pC ha (nCall Tryz.call21 (by rfl)) rfl (CNil_c hs) ?_
  rintro v w ⟨rfl, hs⟩ a ha
  refine pY ha (yAssign (by rfl)) fun a ha => ?_
  refine pZ ?_
  refine hK3 _ _ ?_
  refine cTrue ha (by rfl) ?_
  refine wp_seq_k fun K4 hK4 => ?_
  refine wp_region_lit ?_
  refine pY ha (bldClW39_ ) fun a ha => ?_
  refine pStoreA ha Tryz.sizeOf39 hs (by rfl) (by rfl) (by repeat first | exact .here | apply Pick.there) (by rfl) (by rfl) (by rfl) fun w hs => ?_
  refine pZ ?_
  refine hK4 _ _ ?_
  refine wp_ret ?_
  show bodyPost Tryz.prog Tryz.f10 _ .ret _ _
  refine retC rfl ha (by rfl) Tryz.isAgg39 Tryz.sizeOf39 hs (by repeat first | exact .here | apply Pick.there) (by rfl) ?_
  exact ⟨_, rfl, hs.drop.msg_none 0 0 0 0 0 0⟩
theorem CIdle_c (h0 : c.id ≠ 0) (hs : Sep W w cs) (hk : Pick cs (.cli o bc c) r) : Calls Tryz.prog 16 #[.pointer (some ⟨bc, 0, none⟩)] w (Rt fun v w' => v = .bool (decide (c.l.length = 0)) ∧ Sep W w' (.cli o bc c :: r)) := by
  obtain ⟨bt, bm, A, n, A', n', hl1, hl2, hs⟩ := hs.cli_open hk
  refine enter Tryz.func16 Tryz.ntmps16 rfl rfl fun a (ha : Has a 13 [(0, _)]) => ?_
  refine wp_seq_k fun K1 hK1 => ?_
  refine wp_region_lit ?_
  refine pY ha (yAssign (by rfl)) fun a ha => ?_
  refine pZ ?_
  refine hK1 _ _ ?_
  refine wp_seq_k fun K2 hK2 => ?_
  refine wp_region_lit ?_
  refine pY ha (yMove (by rfl)) fun a ha => ?_
  refine pC ha (nCall Tryz.call21 (by rfl)) rfl (CNone_c h0 hs (by repeat first | exact .here | apply Pick.there)) ?_
  rintro v w ⟨rfl, hs⟩ a ha
  refine pY ha (yMove (by rfl)) fun a ha => ?_
  refine gOn ha ?_
  refine pY ha (yMove (by rfl)) fun a ha => ?_
  refine gOn ha ?_
  refine pY ha (yNilP (by rfl)) fun a ha => ?_
  refine gOn ha ?_
  refine pY ha (yFieldA Tryz.runUnderlying53 rfl Tryz.sizeOf51 rfl (by rfl)) fun a ha => ?_
  refine gOn ha ?_
  first | refine pY ha (yLoadB Tryz.isAgg51 hs (by rfl) (by repeat first | exact .here | apply Pick.there) (by rfl)) fun a ha => ?_ | refine pY ha (yLoadR Tryz.isAgg51 hs (by rfl) (by repeat first | exact .here | apply Pick.there) (by rfl)) fun a ha => ?_ | refine pY ha (yLoadR0 Tryz.isAgg51 hs (by rfl) (by repeat first | exact .here | apply Pick.there) (by rfl)) fun a ha => ?_
  refine gOn ha ?_
  refine pY ha (yLenS Tryz.runUnderlying51 (by rfl)) fun a ha => ?_
  refine gOn ha ?_
  refine pY ha (yEql (by rfl) (by rfl)) fun a ha => ?_
  first | refine pY ha (yPickT (by rfl) (by rfl)) fun a ha => ?_ | refine pY ha (yPickF (by rfl) (by rfl)) fun a ha => ?_ | refine pY ha (yPick (by rfl) (by rfl) (by rfl)) fun a ha => ?_
  refine pY ha (yAssign (by rfl)) fun a ha => ?_
  refine pZ ?_
  refine hK2 _ _ ?_
  refine wp_ret ?_
  show bodyPost Tryz.prog Tryz.f16 _ .ret _ _
  refine ret1 rfl ha (by rfl) ?_
  exact ⟨congrArg Value.bool (decide_eq_decide.2 (by omega)), hs.cli_shut (by repeat first | exact .here | apply Pick.there) (by repeat first | exact .here | apply Pick.there) (by repeat first | exact .here | apply Pick.there) (by repeat first | exact .here | apply Pick.there) (by repeat first | exact .here | apply Pick.there)⟩
theorem CView_c (hT : Tabs W) (hc : okC c) (hs : Sep W w cs) (hk : Pick cs (.cli o bc c) r) : Calls Tryz.prog 14 #[.pointer (some ⟨bc, 0, none⟩)] w (Rt fun v w' => ∃ b m, v = .pointer (some ⟨b, 0, none⟩) ∧ Sep W w' (.blk b 80 [.map (some m)] :: .mpN m (viewL c.base c.l) :: .cli o bc c :: r)) := by
  obtain ⟨bt, bm, A, n, A', n', hl1, hl2, hs⟩ := hs.cli_open hk
  unfold maxLen at hl1
  refine enter Tryz.func14 Tryz.ntmps14 rfl rfl fun a (ha : Has a 41 [(0, _)]) => ?_
  refine wp_seq_k fun K1 hK1 => ?_
  refine wp_region_lit ?_
  refine pY ha (yAssign (by rfl)) fun a ha => ?_
  refine pZ ?_
  refine hK1 _ _ ?_
  refine wp_seq_k fun K2 hK2 => ?_
  refine wp_seq_k fun K3 hK3 => ?_
  refine wp_region_lit ?_
  refine pY ha (yMove (by rfl)) fun a ha => ?_
  refine pC ha (nCall Tryz.call21 (by rfl)) rfl (CNone_c hc.id hs (by repeat first | exact .here | apply Pick.there)) ?_
  rintro v w ⟨rfl, hs⟩ a ha
  refine pZ ?_
  refine hK3 _ _ ?_
  refine cFalse ha (by rfl) ?_
  refine wp_skip ?_
  refine hK2 _ _ ?_
  refine wp_seq_k fun K4 hK4 => ?_
  refine wp_region_lit ?_
  refine pY ha (yMove (by rfl)) fun a ha => ?_
  refine pY ha (yNilP (by rfl)) fun a ha => ?_
  refine pY ha (yFieldA Tryz.runUnderlying53 rfl Tryz.sizeOf43 rfl (by rfl)) fun a ha => ?_
  first | refine pY ha (yLoadB Tryz.isAgg43 hs (by rfl) (by repeat first | exact .here | apply Pick.there) (by rfl)) fun a ha => ?_ | refine pY ha (yLoadR Tryz.isAgg43 hs (by rfl) (by repeat first | exact .here | apply Pick.there) (by rfl)) fun a ha => ?_ | refine pY ha (yLoadR0 Tryz.isAgg43 hs (by rfl) (by repeat first | exact .here | apply Pick.there) (by rfl)) fun a ha => ?_
  refine pC ha (nCall Tryz.call31 (by rfl)) rfl (Copy_c hs (by repeat first | exact .here | apply Pick.there) (by repeat first | exact .here | apply Pick.there)) ?_
  rintro v w ⟨b, m, rfl, hs⟩ a ha
  refine pY ha (yAssign (by rfl)) fun a ha => ?_
  refine pZ ?_
  refine hK4 _ _ ?_
  refine wp_seq_k fun K5 hK5 => ?_
  refine wp_seq_k fun K6 hK6 => ?_
  refine wp_region_lit ?_
  refine pY ha (yMove (by rfl)) fun a ha => ?_
  refine pY ha (yNilP (by rfl)) fun a ha => ?_
  refine pY ha (yFieldA Tryz.runUnderlying53 rfl Tryz.sizeOf51 rfl (by rfl)) fun a ha => ?_
  first | refine pY ha (yLoadB Tryz.isAgg51 hs (by rfl) (by repeat first | exact .here | apply Pick.there) (by rfl)) fun a ha => ?_ | refine pY ha (yLoadR Tryz.isAgg51 hs (by rfl) (by repeat first | exact .here | apply Pick.there) (by rfl)) fun a ha => ?_ | refine pY ha (yLoadR0 Tryz.isAgg51 hs (by rfl) (by repeat first | exact .here | apply Pick.there) (by rfl)) fun a ha => ?_
  refine pY ha (yLenS Tryz.runUnderlying51 (by rfl)) fun a ha => ?_
  refine pY ha (yMove (by rfl)) fun a ha => ?_
  refine pZ ?_
  refine hK6 _ _ ?_
  refine wp_block ?_
  refine loopI (ι := Nat) (fun i a w => ∃ b m, i ≤ c.l.length ∧ Has a 41 [(3, .pointer (some ⟨b, 0, none⟩)), (19, .slice A c.l.length n), (20, .int .i64 c.l.length), (21, .int .i64 i)] ∧ Sep W w (.blk b 80 [.map (some m)] :: .mpN m (viewL c.base (c.l.take i)) :: .blk bc 53 (cliV c bt (.slice A c.l.length n) (.slice A' c.gone.length n')) :: .blk bt 80 [.map (some bm)] :: .mpN bm c.base :: .pl o 58 (.slice A c.l.length n) c.l :: .ol kPnd 68 (.slice A' c.gone.length n') c.gone :: r)) (fun i => c.l.length - i) (0) ?_ ?_
  · exact ⟨b, m, Nat.zero_le _, has4 ha (by rfl) (by rfl) (by rfl) (by rfl), (by first | exact hs | exact hs.to (by repeat first | exact Picks.refl | refine Picks.cons (by repeat first | exact .here | apply Pick.there) ?_ | refine Picks.skip ?_))⟩
  · rintro i a w ⟨b, m, h1, ha, hs⟩
    refine wp_seq_k fun K7 hK7 => ?_
    refine wp_region_lit ?_
    refine pY ha (yLss (by rfl) (by rfl)) fun a ha => ?_
    refine pZ ?_
    refine hK7 _ _ ?_
    refine wp_seq_k fun K8 hK8 => ?_
    first | refine cDec ha (by rfl) (fun hc22 => ?_) (fun hc22 => ?_) | refine cSplit ha (by rfl) (fun hc22 => ?_) (fun hc22 => ?_)
    · obtain ⟨x, hx⟩ : ∃ x, c.l[i]? = some x := ⟨_, List.getElem?_eq_getElem (by omega)⟩
      have hmem := List.mem_of_getElem? hx
      obtain ⟨b0, off, A2, n2, c2, rfl, hcell, hs⟩ := hs.pl_at (by repeat first | exact .here | apply Pick.there) hx
      refine wp_skip ?_
      refine hK8 _ _ ?_
      refine wp_seq_k fun K9 hK9 => ?_
      refine wp_block ?_
      refine wp_seq_k fun K10 hK10 => ?_
      refine wp_region_lit ?_
      refine pY ha (yIndexA Tryz.runUnderlying51 Tryz.sizeOf58 (by rfl) (by rfl) (by omega) (by omega)) fun a ha => ?_
      refine pY ha (yLoadA Tryz.isAgg58 Tryz.sizeOf58 (by rfl) (by rfl) hcell) fun a ha => ?_
      refine pAlloc (zs := [.slice none 0 0, .int .i64 0]) ha Tryz.zeroValue58 (by rfl) hs rfl fun bp w hs a ha => ?_
      refine pStoreA ha Tryz.sizeOf58 hs (by rfl) (by rfl) (by repeat first | exact .here | apply Pick.there) (by rfl) (by rfl) (by rfl) fun w hs => ?_
      refine pZ ?_
      refine hK10 _ _ ?_
      refine wp_seq_k fun K11 hK11 => ?_
      refine wp_seq_k fun K12 hK12 => ?_
      refine wp_region_lit ?_
      refine pY ha (yFieldA Tryz.runUnderlying58 rfl Tryz.sizeOf26 rfl (by rfl)) fun a ha => ?_
      first | refine pY ha (yLoadB Tryz.isAgg26 hs (by rfl) (by repeat first | exact .here | apply Pick.there) (by rfl)) fun a ha => ?_ | refine pY ha (yLoadR Tryz.isAgg26 hs (by rfl) (by repeat first | exact .here | apply Pick.there) (by rfl)) fun a ha => ?_ | refine pY ha (yLoadR0 Tryz.isAgg26 hs (by rfl) (by repeat first | exact .here | apply Pick.there) (by rfl)) fun a ha => ?_
      refine pY ha (yNeq (by rfl) (by rfl)) fun a ha => ?_
      refine pZ ?_
      refine hK12 _ _ ?_
      first | refine cNDec ha (by rfl) (fun hc27 => ?_) (fun hc27 => ?_) | refine cDec ha (by rfl) (fun hc27 => ?_) (fun hc27 => ?_) | refine cSplit ha (by rfl) (fun hc27 => ?_) (fun hc27 => ?_)
      · refine wp_exit ?_
        refine hK9 _ _ ?_
        refine wp_region_lit ?_
        first | refine pY ha (yAddN (by rfl) (by rfl) ⟨by omega, by omega⟩) fun a ha => ?_ | refine pY ha (yAdd (by rfl) (by rfl)) fun a ha => ?_
        refine pY ha (yMove (by rfl)) fun a ha => ?_
        refine pZ ?_
        have e1 := viewL_at (t := c.base) hx
        first
          | (rw [show stepV (viewL c.base (c.l.take i)) x = viewL c.base (c.l.take i) from if_neg (fun h => hc27 h.1)] at e1
             refine ⟨i + 1, ⟨b, m, by omega, has4 ha (by rfl) (by rfl) (by rfl) (by rfl), ?_⟩, by omega⟩
             rw [e1]
             exact (by first | exact hs | exact hs.to (by repeat first | exact Picks.refl | refine Picks.cons (by repeat first | exact .here | apply Pick.there) ?_ | refine Picks.skip ?_)))
          | (rw [show stepV (viewL c.base (c.l.take i)) x = viewL c.base (c.l.take i) from if_neg (fun h => hc37 h.2)] at e1
             exact ⟨i + 1, ⟨b, m, by omega, has4 ha (by rfl) (by rfl) (by rfl) (by rfl), by rw [e1]; exact (by first | exact hs | exact hs.to (by repeat first | exact Picks.refl | refine Picks.cons (by repeat first | exact .here | apply Pick.there) ?_ | refine Picks.skip ?_))⟩, by omega⟩)
          | (rw [show stepV (viewL c.base (c.l.take i)) x = (doL (viewL c.base (c.l.take i)) x.acts).1 from if_pos ⟨hc27, hc37⟩] at e1
             exact ⟨i + 1, ⟨b2, m2, by omega, has4 ha (by rfl) (by rfl) (by rfl) (by rfl), by rw [e1]; exact (by first | exact hs | exact hs.to (by repeat first | exact Picks.refl | refine Picks.cons (by repeat first | exact .here | apply Pick.there) ?_ | refine Picks.skip ?_))⟩, by omega⟩)
      · refine wp_skip ?_
        refine hK11 _ _ ?_
        refine wp_seq_k fun K13 hK13 => ?_
        refine wp_region_lit ?_
        refine pY ha (yMove (by rfl)) fun a ha => ?_
        refine pY ha (yFieldA Tryz.runUnderlying58 rfl Tryz.sizeOf22 rfl (by rfl)) fun a ha => ?_
        first | refine pY ha (yLoadB Tryz.isAgg22 hs (by rfl) (by repeat first | exact .here | apply Pick.there) (by rfl)) fun a ha => ?_ | refine pY ha (yLoadR Tryz.isAgg22 hs (by rfl) (by repeat first | exact .here | apply Pick.there) (by rfl)) fun a ha => ?_ | refine pY ha (yLoadR0 Tryz.isAgg22 hs (by rfl) (by repeat first | exact .here | apply Pick.there) (by rfl)) fun a ha => ?_
        refine pC ha (nCall Tryz.call22 (by rfl)) rfl (TxnDo_c hT (l := x.acts) (xs := viewL c.base (c.l.take i)) (bt := b) (bm := m) (fun y hy => ((hc.acts x hmem).1 y hy).1) (fun y hy => ((hc.acts x hmem).1 y hy).2) (idsOk_view hc.base) hs (by repeat first | exact .here | apply Pick.there) (by repeat first | exact .here | apply Pick.there) (by repeat first | exact .here | apply Pick.there)) ?_
        rintro v w ⟨k, p, rfl, hd⟩ a ha
        refine pY ha (yMove (by rfl)) fun a ha => ?_
        refine pY ha (yExtract (by rfl) (by rfl)) fun a ha => ?_
        refine pY ha (yExtract (by rfl) (by rfl)) fun a ha => ?_
        refine pY ha (yExtract (by rfl) (by rfl)) fun a ha => ?_
        refine pY ha (yAssign (by rfl)) fun a ha => ?_
        refine pY ha (yAssign (by rfl)) fun a ha => ?_
        refine pY ha (yAssign (by rfl)) fun a ha => ?_
        refine pZ ?_
        refine hK13 _ _ ?_
        refine wp_seq_k fun K14 hK14 => ?_
        refine wp_region_lit ?_
        refine pY ha (yMove (by rfl)) fun a ha => ?_
        refine pY ha (yEql (by rfl) (by rfl)) fun a ha => ?_
        refine pZ ?_
        refine hK14 _ _ ?_
        first | refine cDec ha (by rfl) (fun hc37 => ?_) (fun hc37 => ?_) | refine cSplit ha (by rfl) (fun hc37 => ?_) (fun hc37 => ?_)
        · obtain ⟨_, b2, m2, rfl, hs⟩ := hd.resolve_right (fun h => h.1 hc37)
          refine wp_region_lit ?_
          refine pY ha (yMove (by rfl)) fun a ha => ?_
          refine pY ha (yAssign (by rfl)) fun a ha => ?_
          refine pZ ?_
          refine hK9 _ _ ?_
          refine wp_region_lit ?_
          first | refine pY ha (yAddN (by rfl) (by rfl) ⟨by omega, by omega⟩) fun a ha => ?_ | refine pY ha (yAdd (by rfl) (by rfl)) fun a ha => ?_
          refine pY ha (yMove (by rfl)) fun a ha => ?_
          refine pZ ?_
          have e1 := viewL_at (t := c.base) hx
          first
            | (rw [show stepV (viewL c.base (c.l.take i)) x = viewL c.base (c.l.take i) from if_neg (fun h => hc27 h.1)] at e1
               refine ⟨i + 1, ⟨b, m, by omega, has4 ha (by rfl) (by rfl) (by rfl) (by rfl), ?_⟩, by omega⟩
               rw [e1]
               exact (by first | exact hs | exact hs.to (by repeat first | exact Picks.refl | refine Picks.cons (by repeat first | exact .here | apply Pick.there) ?_ | refine Picks.skip ?_)))
            | (rw [show stepV (viewL c.base (c.l.take i)) x = viewL c.base (c.l.take i) from if_neg (fun h => hc37 h.2)] at e1
               exact ⟨i + 1, ⟨b, m, by omega, has4 ha (by rfl) (by rfl) (by rfl) (by rfl), by rw [e1]; exact (by first | exact hs | exact hs.to (by repeat first | exact Picks.refl | refine Picks.cons (by repeat first | exact .here | apply Pick.there) ?_ | refine Picks.skip ?_))⟩, by omega⟩)
            | (rw [show stepV (viewL c.base (c.l.take i)) x = (doL (viewL c.base (c.l.take i)) x.acts).1 from if_pos ⟨hc27, hc37⟩] at e1
               exact ⟨i + 1, ⟨b2, m2, by omega, has4 ha (by rfl) (by rfl) (by rfl) (by rfl), by rw [e1]; exact (by first | exact hs | exact hs.to (by repeat first | exact Picks.refl | refine Picks.cons (by repeat first | exact .here | apply Pick.there) ?_ | refine Picks.skip ?_))⟩, by omega⟩)
        · obtain ⟨_, _, hs⟩ := hd.resolve_left (fun h => hc37 h.1)
          refine wp_skip ?_
          refine hK9 _ _ ?_
          refine wp_region_lit ?_
          first | refine pY ha (yAddN (by rfl) (by rfl) ⟨by omega, by omega⟩) fun a ha => ?_ | refine pY ha (yAdd (by rfl) (by rfl)) fun a ha => ?_
          refine pY ha (yMove (by rfl)) fun a ha => ?_
          refine pZ ?_
          have e1 := viewL_at (t := c.base) hx
          first
            | (rw [show stepV (viewL c.base (c.l.take i)) x = viewL c.base (c.l.take i) from if_neg (fun h => hc27 h.1)] at e1
               refine ⟨i + 1, ⟨b, m, by omega, has4 ha (by rfl) (by rfl) (by rfl) (by rfl), ?_⟩, by omega⟩
               rw [e1]
               exact (by first | exact hs | exact hs.to (by repeat first | exact Picks.refl | refine Picks.cons (by repeat first | exact .here | apply Pick.there) ?_ | refine Picks.skip ?_)))
            | (rw [show stepV (viewL c.base (c.l.take i)) x = viewL c.base (c.l.take i) from if_neg (fun h => hc37 h.2)] at e1
               exact ⟨i + 1, ⟨b, m, by omega, has4 ha (by rfl) (by rfl) (by rfl) (by rfl), by rw [e1]; exact (by first | exact hs | exact hs.to (by repeat first | exact Picks.refl | refine Picks.cons (by repeat first | exact .here | apply Pick.there) ?_ | refine Picks.skip ?_))⟩, by omega⟩)
            | (rw [show stepV (viewL c.base (c.l.take i)) x = (doL (viewL c.base (c.l.take i)) x.acts).1 from if_pos ⟨hc27, hc37⟩] at e1
               exact ⟨i + 1, ⟨b2, m2, by omega, has4 ha (by rfl) (by rfl) (by rfl) (by rfl), by rw [e1]; exact (by first | exact hs | exact hs.to (by repeat first | exact Picks.refl | refine Picks.cons (by repeat first | exact .here | apply Pick.there) ?_ | refine Picks.skip ?_))⟩, by omega⟩)
    · refine wp_exit ?_
      refine hK5 _ _ ?_
      refine wp_seq_k fun K15 hK15 => ?_
      refine wp_region_lit ?_
      refine pY ha (yMove (by rfl)) fun a ha => ?_
      refine pY ha (yAssign (by rfl)) fun a ha => ?_
      refine pZ ?_
      refine hK15 _ _ ?_
      refine wp_ret ?_
      show bodyPost Tryz.prog Tryz.f14 _ .ret _ _
      refine ret1 rfl ha (by rfl) ?_
      rw [List.take_of_length_le (by omega)] at hs
      exact ⟨b, m, rfl, (hs.cli_shut (bt := bt) (bm := bm) (o := o) (c := c) (bc := bc) (by repeat first | exact .here | apply Pick.there) (by repeat first | exact .here | apply Pick.there) (by repeat first | exact .here | apply Pick.there) (by repeat first | exact .here | apply Pick.there) (by repeat first | exact .here | apply Pick.there)).to (.cons (by repeat first | exact .here | apply Pick.there) (.cons (by repeat first | exact .here | apply Pick.there) (.cons .here .refl)))⟩
end
end Go.Proofs.YtabbidoanhicmaaGreatDoor

set_option linter.unusedVariables false
set_option linter.unusedSimpArgs false
namespace Go.Proofs.YtabbidoanhicmaaGreatDoor
open Go.RowKit Go.Lib Go.Proofs.YtabbidoanhicmaaGreatDoorW.PrintLast
theorem bldClE58_0 {w : World} {l : List (Nat × Value)} {T : TypeId} {x0 : Operand} {v0 : Value} (h0 : ev l x0 = some v0) (o0 : v0.cells = #[v0]:=by rfl) : Yl Tryz.prog w l (.build 58 #[(0,x0)]) T (.agg #[v0,.int .i64 0]):=fun ρ o h ho _=>by
  have hf : Instr.fill (fun i=>([(0,1),(1,1)] : List (Nat × Nat))[i]?) #[.slice none 0 0,.int .i64 0] [(0,v0)] = some #[v0,.int .i64 0]:=by
    refine (fill_v o0 rfl (by simp)).trans ?_
    simp [Instr.fill]
  unfold execOp; rw [ho]
  simp [h _ _ h0,Instr.build,Tryz.zeroValue58,Tryz.runUnderlying58,Tryz.sizeOf22,Tryz.sizeOf26,agg_cells,hf]
theorem bslClE34_1_0 {w : World} {l : List (Nat × Value)} {T : TypeId} {x0 : Operand} {v0 : Value} (h0 : ev l x0 = some v0) (o0 : v0.cells = #[v0]:=by rfl) : Mk Tryz.prog w l (.buildSlice 34 1 #[(0,x0)]) T 22 1 [v0]:=fun ρ o h ho _=>by
  unfold execOp; rw [ho];exact mk1v (P:=Tryz.prog) w Tryz.runUnderlying34 Tryz.sizeOf22 Tryz.zeroValue22 rfl o0 (h _ _ h0)
theorem bslClE51_1_0 {w : World} {l : List (Nat × Value)} {T : TypeId} {x0 : Operand} {c0 : List Value} (h0 : ev l x0 = some (.agg c0.toArray)) (n0 : c0.length = 2:=by rfl) : Mk Tryz.prog w l (.buildSlice 51 1 #[(0,x0)]) T 58 1 c0:=fun ρ o h ho _=>by
  unfold execOp; rw [ho];exact mk1 (P:=Tryz.prog) w Tryz.runUnderlying51 Tryz.sizeOf58 Tryz.zeroValue58 (by decide) (by decide) n0 (h _ _ h0)
theorem elClE34 : ElemT Tryz.prog 34 22 1 24:=elemT_mk Tryz.underlying34 rfl (by kernel_rfl)
theorem elClE51 : ElemT Tryz.prog 51 58 2 32:=elemT_mk Tryz.underlying51 rfl (by kernel_rfl)
theorem pl_true (T : TypeId) (v : Value) (l : List Pnd) : Ch.pl true T v l = .ol kPnd T v l:=rfl
/-- What Edit does, and tells. -/
def editE (c : Cli) (l : List Actn) : Int:=if l.length = 0 then 1 else if c.l.length ≥ 50 then 4 else doE (viewL c.base c.l) l
def editC (c : Cli) (l : List Actn) : Cli:=if editE c l = 0 then { c with l:=c.l++[⟨l,0⟩] } else c
def cOutK (c : Cli) : Int:=if c.welcome = false then 1 else if c.l.length = 0∨c.told = true∨c.behind = true then 3 else 2
def headP (c : Cli) : Pnd:=c.l.getD 0 ⟨[],0⟩
def cOutM (c : Cli) : Msg:=if c.welcome = false then { noM with kind:=1,client:=c.id } else if c.l.length = 0∨c.told = true∨c.behind = true then { noM with kind:=3,client:=c.id,rev:=c.rev }
  else { noM with kind:=2,client:=c.id,seq:=c.last + 1,rev:=c.rev,code:=(headP c).e,acts:=if (headP c).e = 0 then (headP c).acts else [] }
def cOut (c : Cli) : Cli:=if cOutK c = 2 then { c with under:=true } else c
section
variable {W w : World} {cs r r2 : List Ch} {o : Bool} {bc : Nat} {q : Cli}
theorem CPend_c (hc : okC q) (hb : q.l.length≤1000000) (hs : Sep W w cs) (hk : Pick cs (.cli o bc q) r) : Calls Tryz.prog 9 #[.pointer (some ⟨bc,0,none⟩)] w (Rt fun v w'=>∃ B d,v = .slice B q.l.length d∧Sep W w' (.rd kTx (.slice B q.l.length d) (q.l.map (·.acts))::.cli o bc q::r)):=by
  obtain ⟨bt,bm,A,n,A',n',hl1,hl2,hs⟩:=hs.cli_open hk;refine enter Tryz.func9 Tryz.ntmps9 rfl rfl fun a (ha : Has a 24 [(0,_)])=>?_;refine wp_seq_k fun K1 hK1=>?_;refine wp_region_lit ?_;refine pY ha (yAssign rfl) fun a ha=>?_;refine pZ ?_;refine hK1 _ _ ?_;refine wp_seq_k fun K2 hK2=>?_;refine wp_seq_k fun K3 hK3=>?_;refine wp_region_lit ?_;refine pY ha (yMove rfl) fun a ha=>?_;refine pC ha (nCall Tryz.call21 rfl) rfl (CNone_c hc.id hs pk0) ?_;rintro v w ⟨rfl,hs⟩ a ha;refine pZ ?_;refine hK3 _ _ ?_;refine cFalse ha rfl ?_;refine wp_skip ?_;refine hK2 _ _ ?_;refine wp_seq_k fun K4 hK4=>?_;refine wp_seq_k fun K5 hK5=>?_;refine wp_region_lit ?_;refine pY ha (yMove rfl) fun a ha=>?_;refine pY ha (yNilP rfl) fun a ha=>?_;refine pY ha (yFieldA Tryz.runUnderlying53 rfl Tryz.sizeOf51 rfl rfl) fun a ha=>?_;refine pY ha (yLoadB Tryz.isAgg51 hs rfl pk0 rfl) fun a ha=>?_;refine pY ha (yLenS Tryz.runUnderlying51 rfl) fun a ha=>?_;refine pY ha (yMove rfl) fun a ha=>?_;refine pZ ?_;refine hK5 _ _ ?_;refine wp_block ?_;refine loopI (ι:=Nat × Option Addr × Nat) (fun i a w=>i.1≤q.l.length∧Has a 24 [(2,.slice i.2.1 i.1 i.2.2),(10,.slice A q.l.length n),(11,.int .i64 q.l.length),(12,.int .i64 i.1)]∧Sep W w (.ol kTx 22 (.slice i.2.1 i.1 i.2.2) ((q.l.take i.1).map (·.acts))::.blk bc 53 (cliV q bt (.slice A q.l.length n) (.slice A' q.gone.length n'))::.blk bt 80 [.map (some bm)]::.mpN bm q.base::.pl o 58 (.slice A q.l.length n) q.l::.ol kPnd 68 (.slice A' q.gone.length n') q.gone::r)) (fun i=>q.l.length - i.1) ((0,none,0)) ?_ ?_
  · exact ⟨Nat.zero_le _,has4 ha rfl rfl rfl rfl,hs.ol_nil kTx _ none⟩
  · rintro i a w ⟨h1,ha,hs⟩;obtain ⟨i,B,d⟩:=i; simp only at h1 ha hs;refine wp_seq_k fun K6 hK6=>?_;refine wp_region_lit ?_;refine pY ha (yLss rfl rfl) fun a ha=>?_;refine pZ ?_;refine hK6 _ _ ?_;refine wp_seq_k fun K7 hK7=>?_;refine cDec ha rfl (fun hc13=>?_) (fun hc13=>?_)
    · obtain ⟨x,hx⟩ : ∃ x,q.l[i]? = some x:=⟨_,List.getElem?_eq_getElem (by omega)⟩
      have hmem:=List.mem_of_getElem? hx
      have htl : ((q.l.take i).map (·.acts)).length = i:=by simp; omega
      obtain ⟨b0,off,A2,n2,c2,rfl,hcell,hs⟩:=hs.pl_at pk4 hx;refine wp_skip ?_;refine hK7 _ _ ?_;refine wp_seq_k fun K8 hK8=>?_;refine wp_block ?_;refine wp_seq_k fun K9 hK9=>?_;refine wp_region_lit ?_;refine pY ha (yIndexA Tryz.runUnderlying51 Tryz.sizeOf58 rfl rfl (by omega) (by omega)) fun a ha=>?_;refine pY ha (yLoadA Tryz.isAgg58 Tryz.sizeOf58 rfl rfl hcell) fun a ha=>?_;refine pAlloc (zs:=[.slice none 0 0,.int .i64 0]) ha Tryz.zeroValue58 rfl hs rfl fun bp w hs a ha=>?_;refine pStoreA ha Tryz.sizeOf58 hs rfl rfl pk0 rfl rfl rfl fun w hs=>?_;refine pZ ?_;refine hK9 _ _ ?_;refine wp_region_lit ?_;refine pY ha (yMove rfl) fun a ha=>?_;refine pY ha (yFieldA Tryz.runUnderlying58 rfl Tryz.sizeOf22 rfl rfl) fun a ha=>?_;refine pY ha (yLoadB Tryz.isAgg22 hs rfl pk0 rfl) fun a ha=>?_;refine pC ha (nCall Tryz.call23 rfl) rfl (Own_c (xs:=x.acts) hs pk1 (hc.acts x hmem).2 (fun y hy=>((hc.acts x hmem).1 y hy).2.2.1)) ?_;rintro v w ⟨A3,c3,rfl,hs⟩ a ha;have hs:=hs.mk_tx (x:=x.acts) .here;refine pMake ha (bslClE34_1_0 rfl) hs rfl fun b w hs a ha=>?_;refine pApp1 ha elClE34 rfl rfl hs pk5 pk0 pk0 rfl (by omega) (by omega) rfl fun A c w hs a ha=>?_;rw [htl] at ha hs;refine pY ha (yAssign rfl) fun a ha=>?_;refine pZ ?_;refine hK8 _ _ ?_;refine wp_region_lit ?_;refine pY ha (yAddN rfl rfl ⟨by omega,by omega⟩) fun a ha=>?_;refine pY ha (yMove rfl) fun a ha=>?_;refine pZ ?_
      have e1 : (q.l.take (i + 1)).map (·.acts) = (q.l.take i).map (·.acts)++[x.acts]:=by rw [List.take_add_one,hx]; simp
      refine ⟨(i + 1,A,c),⟨by simp only; omega,has4 ha rfl rfl rfl rfl,?_⟩,by simp only; omega⟩;simp only; rw [e1]; exact (by exact hs.to (by repeat first | exact Picks.refl | refine Picks.cons (by first | exact pk0 | exact pk1 | exact pk2 | exact pk3 | exact pk4 | exact pk5 | exact pk6 | exact pk7 | exact pk8 | exact pk9 | exact pk10 | exact pk11 | exact pk12 | exact pk13 | exact pk14 | exact pk15 | exact pk16 | exact pk17 | exact pk18 | exact pk19 | exact pk20 | exact pk21 | exact pk22 | exact pk23 | exact pk24 | exact pk25 | exact pk26 | exact pk27 | exact pk28 | exact pk29 | exact pk30 | exact pk31) ?_ | refine Picks.skip ?_))
    · refine wp_exit ?_;refine hK4 _ _ ?_;refine wp_seq_k fun K10 hK10=>?_;refine wp_region_lit ?_;refine pY ha (yMove rfl) fun a ha=>?_;refine pY ha (yAssign rfl) fun a ha=>?_;refine pZ ?_;refine hK10 _ _ ?_;refine wp_ret ?_;show bodyPost Tryz.prog Tryz.f9 _ .ret _ _;refine ret1 rfl ha rfl ?_;obtain rfl : i = q.l.length:=by omega
      rw [List.take_length] at hs
      have hl3 : (q.l.map (·.acts)).length = q.l.length:=by simp
      have hs:=hs.ol_rd .here;exact ⟨B,d,rfl,(hs.cli_shut (bt:=bt) (bm:=bm) (o:=o) (c:=q) (bc:=bc) pk1 pk1 pk1 pk1 pk1).to (.cons pk1 (.cons .here .refl))⟩
theorem CEdit_c (hT : Tabs W) {A0 : Option Addr} {n0 c0 : Nat} {l : List Actn} (hc : okC q) (hb : q.l.length≤1000000) (h1 : ∀ x ∈ l,x.kind = 1) (hm : ∀ x ∈ l,mA x) (hlen : l.length≤1000000000) (hs : Sep W w cs) (hk : Pick cs (.cli true bc q) r) (hkl : Pick r (.rd kActn (.slice A0 n0 c0) l) r2) :
    Calls Tryz.prog 7 #[.pointer (some ⟨bc,0,none⟩),.slice A0 n0 c0] w (Rt fun v w'=>v = .int .i64 (editE q l)∧Sep W w' (.cli true bc (editC q l)::r)):=by
  obtain ⟨rfl,hl⟩:=(hs.pick hk).rd_shape (.there hkl);have hs:=hs.pick hk
  have hkl : Pick (.cli true bc q::r) (.rd kActn (.slice A0 l.length c0) l) (.cli true bc q::r2):=.there hkl
  have hs:=hs.cpR hkl;obtain ⟨bt,bm,A,n,A',n',hl1,hl2,hs⟩:=hs.cli_open (.there .here);refine enter Tryz.func7 Tryz.ntmps7 rfl rfl fun a (ha : Has a 44 [(0,_),(1,_)])=>?_;refine wp_seq_k fun K1 hK1=>?_;refine wp_region_lit ?_;refine pY ha (yAssign rfl) fun a ha=>?_;refine pZ ?_;refine hK1 _ _ ?_;refine wp_seq_k fun K2 hK2=>?_;refine wp_seq_k fun K3 hK3=>?_;refine wp_region_lit ?_;refine pY ha (yMove rfl) fun a ha=>?_;refine pC ha (nCall Tryz.call21 rfl) rfl (CNone_c hc.id hs pk0) ?_;rintro v w ⟨rfl,hs⟩ a ha;refine pY ha (yMove rfl) fun a ha=>?_;refine gOn ha ?_;refine pY ha (yMove rfl) fun a ha=>?_;refine gOn ha ?_;refine pY ha (yLenS Tryz.runUnderlying22 rfl) fun a ha=>?_;refine gOn ha ?_;refine pY ha (yEql rfl rfl) fun a ha=>?_;refine pY ha (yPickF rfl rfl) fun a ha=>?_;refine pZ ?_;refine hK3 _ _ ?_;refine cDec ha rfl (fun hc14=>?_) (fun hc14=>?_)
  · refine wp_seq_k fun K4 hK4=>?_;refine wp_region_lit ?_;refine pY ha (yAssign rfl) fun a ha=>?_;refine pZ ?_;refine hK4 _ _ ?_;refine wp_ret ?_;show bodyPost Tryz.prog Tryz.f7 _ .ret _ _;refine ret1 rfl ha rfl ?_
    have hE : editE q l = 1:=by unfold editE; rw [if_pos (by omega)]
    have hC : editC q l = q:=by unfold editC; rw [hE]; rfl
    rw [hE,hC];exact ⟨rfl,(hs.cli_shut (bt:=bt) (bm:=bm) (o:=true) (c:=q) (bc:=bc) pk0 pk0 pk0 pk0 pk0).to (.cons .here (by repeat first | exact .refl | refine .skip ?_))⟩
  · refine wp_skip ?_;refine hK2 _ _ ?_;refine wp_seq_k fun K5 hK5=>?_;refine wp_seq_k fun K6 hK6=>?_;refine wp_region_lit ?_;refine pY ha (yMove rfl) fun a ha=>?_;refine pY ha (yNilP rfl) fun a ha=>?_;refine pY ha (yFieldA Tryz.runUnderlying53 rfl Tryz.sizeOf51 rfl rfl) fun a ha=>?_;refine pY ha (yLoadB Tryz.isAgg51 hs rfl pk0 rfl) fun a ha=>?_;refine pY ha (yLenS Tryz.runUnderlying51 rfl) fun a ha=>?_;refine pY ha (yGeq rfl rfl) fun a ha=>?_;refine pZ ?_;refine hK6 _ _ ?_;refine cDec ha rfl (fun hc20=>?_) (fun hc20=>?_)
    · refine wp_seq_k fun K7 hK7=>?_;refine wp_region_lit ?_;refine pY ha (yAssign rfl) fun a ha=>?_;refine pZ ?_;refine hK7 _ _ ?_;refine wp_ret ?_;show bodyPost Tryz.prog Tryz.f7 _ .ret _ _;refine ret1 rfl ha rfl ?_
      have hE : editE q l = 4:=by unfold editE; rw [if_neg (by omega),if_pos (by omega)]
      have hC : editC q l = q:=by unfold editC; rw [hE]; rfl
      rw [hE,hC];exact ⟨rfl,(hs.cli_shut (bt:=bt) (bm:=bm) (o:=true) (c:=q) (bc:=bc) pk0 pk0 pk0 pk0 pk0).to (.cons .here (by repeat first | exact .refl | refine .skip ?_))⟩
    · refine wp_skip ?_;refine hK5 _ _ ?_;refine wp_seq_k fun K8 hK8=>?_;refine wp_seq_k fun K9 hK9=>?_;have hs:=hs.cli_shut (bt:=bt) (bm:=bm) (o:=true) (c:=q) (bc:=bc) pk0 pk0 pk0 pk0 pk0;refine wp_region_lit ?_;refine pY ha (yMove rfl) fun a ha=>?_;refine pC ha (nCall Tryz.call14 rfl) rfl (CView_c hT hc hs .here) ?_;rintro v w ⟨b,m,rfl,hs⟩ a ha;refine pY ha (yMove rfl) fun a ha=>?_;refine pC ha (nCall Tryz.call22 rfl) rfl (TxnDo_c hT (l:=l) (xs:=viewL q.base q.l) (bt:=b) (bm:=m) h1 hm (idsOk_view hc.base) hs pk0 pk0 pk1) ?_;rintro v w ⟨k,p,rfl,hd⟩ a ha;refine pY ha (yMove rfl) fun a ha=>?_;refine pY ha (yExtract rfl rfl) fun a ha=>?_;refine pY ha (yExtract rfl rfl) fun a ha=>?_;refine pY ha (yExtract rfl rfl) fun a ha=>?_;refine pY ha (yAssign rfl) fun a ha=>?_;refine pY ha (yAssign rfl) fun a ha=>?_;refine pY ha (yAssign rfl) fun a ha=>?_;refine pZ ?_;refine hK9 _ _ ?_;refine wp_seq_k fun K10 hK10=>?_;refine wp_region_lit ?_;refine pY ha (yMove rfl) fun a ha=>?_;refine pY ha (yNeq rfl rfl) fun a ha=>?_;refine pZ ?_;refine hK10 _ _ ?_;refine cNDec ha rfl (fun hc30=>?_) (fun hc30=>?_)
      · obtain ⟨_,_,hs⟩:=hd.resolve_left (fun h=>hc30 h.1);refine wp_seq_k fun K11 hK11=>?_;refine wp_region_lit ?_;refine pY ha (yMove rfl) fun a ha=>?_;refine pY ha (yAssign rfl) fun a ha=>?_;refine pZ ?_;refine hK11 _ _ ?_;refine wp_ret ?_;show bodyPost Tryz.prog Tryz.f7 _ .ret _ _;refine ret1 rfl ha rfl ?_
        have hE : editE q l = doE (viewL q.base q.l) l:=by unfold editE; rw [if_neg (by omega),if_neg (by omega)]
        have hC : editC q l = q:=by unfold editC; rw [hE,if_neg hc30]
        rw [hE,hC];exact ⟨rfl,(by exact hs.to (by repeat first | exact Picks.refl | refine Picks.cons (by first | exact pk0 | exact pk1 | exact pk2 | exact pk3 | exact pk4 | exact pk5 | exact pk6 | exact pk7 | exact pk8 | exact pk9 | exact pk10 | exact pk11 | exact pk12 | exact pk13 | exact pk14 | exact pk15 | exact pk16 | exact pk17 | exact pk18 | exact pk19 | exact pk20 | exact pk21 | exact pk22 | exact pk23 | exact pk24 | exact pk25 | exact pk26 | exact pk27 | exact pk28 | exact pk29 | exact pk30 | exact pk31) ?_ | refine Picks.skip ?_))⟩
      · obtain ⟨_,b2,m2,rfl,hs⟩:=hd.resolve_right (fun h=>h.1 hc30);refine wp_skip ?_;refine hK8 _ _ ?_;refine wp_seq_k fun K12 hK12=>?_;obtain ⟨bt,bm,A,n,A',n',hl1,hl2,hs⟩:=hs.cli_open (bc:=bc) (c:=q) (o:=true) pk4;rw [pl_true] at hs;refine dStart (fun w=>∃ rs,Sep W w (.blk bc 53 (cliV q bt (.slice A q.l.length n) (.slice A' q.gone.length n'))::rs)) [9,12] 8191 510 (by kernel_rfl) (by kernel_rfl) rfl (⟨_,hs.drew.pick pk0⟩) ?_
        have hs:=Sep.drew hs
        generalize World.drew _ = w at hs ⊢;refine dP 0 1 rfl ha (fun _=>yMove rfl) fun a ha=>?_;refine dP 1 3 rfl ha (fun _=>yMove rfl) fun a ha=>?_;refine dP 2 7 rfl ha (fun _=>yNilP rfl) fun a ha=>?_;refine dP 3 15 rfl ha (fun _=>yFieldA Tryz.runUnderlying53 rfl Tryz.sizeOf51 rfl rfl) fun a ha=>?_;refine dT 4 31 rfl ha (fun _ ⟨rs,hs⟩=>yLoadB Tryz.isAgg51 hs rfl pk0 rfl) (⟨_,hs.pick pk0⟩) fun a ha=>?_;refine dP 5 63 rfl ha (fun _=>yMove rfl) fun a ha=>?_;refine dC 6 127 rfl (by kernel_rfl) rfl ha won0 (nCall Tryz.call23 rfl) rfl (Own_c (xs:=l) hs pk9 hlen (fun y hy=>(hm y hy).2.1)) ?_;rintro v w ⟨A3,c3,rfl,hs⟩;refine ⟨⟨_,hs.pick pk1⟩,fun a ha=>?_⟩;have hs:=hs.mk_pnd ⟨l,0⟩ .here;refine dP 7 255 rfl ha (fun _=>bldClE58_0 rfl) fun a ha=>?_;refine dMake 8 511 rfl (by kernel_rfl) rfl ha won0 (bslClE51_1_0 rfl) hs rfl (fun _ _ hs=>⟨_,hs.pick pk3⟩) fun b w hs a ha=>?_;refine dApp1l 9 1023 rfl (by kernel_rfl) rfl ha won0 elClE51 rfl rfl hs pk6 pk0 pk0 rfl (by (unfold maxLen; omega)) (by omega) rfl fun A c w hs a ha=>?_;refine dP 10 2047 rfl ha (fun _=>yNilP rfl) fun a ha=>?_;refine dP 11 4095 rfl ha (fun _=>yFieldA Tryz.runUnderlying53 rfl Tryz.sizeOf51 rfl rfl) fun a ha=>?_;refine dStorel 12 8191 rfl (by kernel_rfl) rfl ha won0 Tryz.sizeOf51 hs rfl rfl rfl rfl pk2 rfl fun w hs=>?_;refine dZ (by kernel_rfl) ?_;refine hK12 _ _ ?_;refine wp_seq_k fun K13 hK13=>?_;refine wp_region_lit ?_;refine pY ha (yAssign rfl) fun a ha=>?_;refine pZ ?_;refine hK13 _ _ ?_;refine wp_ret ?_;show bodyPost Tryz.prog Tryz.f7 _ .ret _ _;refine ret1 rfl ha rfl ?_
        have hE : editE q l = 0:=by unfold editE; rw [if_neg (by omega),if_neg (by omega)]; exact hc30
        have hC : editC q l = { q with l:=q.l++[⟨l,0⟩] }:=by unfold editC; rw [if_pos hE]
        rw [hE,hC];have hs:=hs.cli_shut (bt:=bt) (bm:=bm) (o:=true) (c := { q with l:=q.l++[⟨l,0⟩] }) (bc:=bc) pk0 pk2 pk2 pk0 pk1;exact ⟨rfl,hs.to (.cons .here (by repeat first | exact .refl | refine .skip ?_))⟩
end
end Go.Proofs.YtabbidoanhicmaaGreatDoor

set_option linter.unusedVariables false
set_option linter.unusedSimpArgs false
namespace Go.Proofs.YtabbidoanhicmaaGreatDoor
open Go.RowKit Go.Lib Go.Proofs.YtabbidoanhicmaaGreatDoorW.PrintLast
theorem bldClO39_0_1 {w : World} {l : List (Nat × Value)} {T : TypeId} {x0 x1 : Operand} {v0 : Value} (h0 : ev l x0 = some v0) {v1 : Value} (h1 : ev l x1 = some v1) (o0 : v0.cells = #[v0]:=by rfl) (o1 : v1.cells = #[v1]:=by rfl) : Yl Tryz.prog w l (.build 39 #[(0,x0),(1,x1)]) T (.agg #[v0,v1,.int .i64 0,.int .i64 0,.int .i64 0,.slice none 0 0,.slice none 0 0,.slice none 0 0,.int .i64 0]):=fun ρ o h ho _=>by
  have hf : Instr.fill (fun i=>([(0,1),(1,1),(2,1),(3,1),(4,1),(5,1),(6,1),(7,1),(8,1)] : List (Nat × Nat))[i]?) #[.int .i64 0,.int .i64 0,.int .i64 0,.int .i64 0,.int .i64 0,.slice none 0 0,.slice none 0 0,.slice none 0 0,.int .i64 0] [(0,v0),(1,v1)] = some #[v0,v1,.int .i64 0,.int .i64 0,.int .i64 0,.slice none 0 0,.slice none 0 0,.slice none 0 0,.int .i64 0]:=by
    refine (fill_v o0 rfl (by simp)).trans ?_;refine (fill_v o1 rfl (by simp)).trans ?_
    simp [Instr.fill]
  unfold execOp; rw [ho]
  simp [h _ _ h0,h _ _ h1,Instr.build,Tryz.zeroValue39,Tryz.runUnderlying39,Tryz.sizeOf22,Tryz.sizeOf3,Tryz.sizeOf36,Tryz.sizeOf37,agg_cells,hf]
theorem bldClO39_0_1_2_3 {w : World} {l : List (Nat × Value)} {T : TypeId} {x0 x1 x2 x3 : Operand} {v0 : Value} (h0 : ev l x0 = some v0) {v1 : Value} (h1 : ev l x1 = some v1) {v2 : Value} (h2 : ev l x2 = some v2) {v3 : Value} (h3 : ev l x3 = some v3) (o0 : v0.cells = #[v0]:=by rfl) (o1 : v1.cells = #[v1]:=by rfl) (o2 : v2.cells = #[v2]:=by rfl) (o3 : v3.cells = #[v3]:=by rfl) : Yl Tryz.prog w l (.build 39 #[(0,x0),(1,x1),(2,x2),(3,x3)]) T (.agg #[v0,v1,v2,v3,.int .i64 0,.slice none 0 0,.slice none 0 0,.slice none 0 0,.int .i64 0]):=fun ρ o h ho _=>by
  have hf : Instr.fill (fun i=>([(0,1),(1,1),(2,1),(3,1),(4,1),(5,1),(6,1),(7,1),(8,1)] : List (Nat × Nat))[i]?) #[.int .i64 0,.int .i64 0,.int .i64 0,.int .i64 0,.int .i64 0,.slice none 0 0,.slice none 0 0,.slice none 0 0,.int .i64 0] [(0,v0),(1,v1),(2,v2),(3,v3)] = some #[v0,v1,v2,v3,.int .i64 0,.slice none 0 0,.slice none 0 0,.slice none 0 0,.int .i64 0]:=by
    refine (fill_v o0 rfl (by simp)).trans ?_;refine (fill_v o1 rfl (by simp)).trans ?_;refine (fill_v o2 rfl (by simp)).trans ?_;refine (fill_v o3 rfl (by simp)).trans ?_
    simp [Instr.fill]
  unfold execOp; rw [ho]
  simp [h _ _ h0,h _ _ h1,h _ _ h2,h _ _ h3,Instr.build,Tryz.zeroValue39,Tryz.runUnderlying39,Tryz.sizeOf22,Tryz.sizeOf3,Tryz.sizeOf36,Tryz.sizeOf37,agg_cells,hf]
theorem bldClO39_0_1_3 {w : World} {l : List (Nat × Value)} {T : TypeId} {x0 x1 x3 : Operand} {v0 : Value} (h0 : ev l x0 = some v0) {v1 : Value} (h1 : ev l x1 = some v1) {v3 : Value} (h3 : ev l x3 = some v3) (o0 : v0.cells = #[v0]:=by rfl) (o1 : v1.cells = #[v1]:=by rfl) (o3 : v3.cells = #[v3]:=by rfl) : Yl Tryz.prog w l (.build 39 #[(0,x0),(1,x1),(3,x3)]) T (.agg #[v0,v1,.int .i64 0,v3,.int .i64 0,.slice none 0 0,.slice none 0 0,.slice none 0 0,.int .i64 0]):=fun ρ o h ho _=>by
  have hf : Instr.fill (fun i=>([(0,1),(1,1),(2,1),(3,1),(4,1),(5,1),(6,1),(7,1),(8,1)] : List (Nat × Nat))[i]?) #[.int .i64 0,.int .i64 0,.int .i64 0,.int .i64 0,.int .i64 0,.slice none 0 0,.slice none 0 0,.slice none 0 0,.int .i64 0] [(0,v0),(1,v1),(3,v3)] = some #[v0,v1,.int .i64 0,v3,.int .i64 0,.slice none 0 0,.slice none 0 0,.slice none 0 0,.int .i64 0]:=by
    refine (fill_v o0 rfl (by simp)).trans ?_;refine (fill_v o1 rfl (by simp)).trans ?_;refine (fill_v o3 rfl (by simp)).trans ?_
    simp [Instr.fill]
  unfold execOp; rw [ho]
  simp [h _ _ h0,h _ _ h1,h _ _ h3,Instr.build,Tryz.zeroValue39,Tryz.runUnderlying39,Tryz.sizeOf22,Tryz.sizeOf3,Tryz.sizeOf36,Tryz.sizeOf37,agg_cells,hf]
section
variable {W w : World} {cs r r2 : List Ch} {o : Bool} {bc : Nat} {q : Cli}
theorem COut_c (hc : okC q) (hs : Sep W w cs) (hk : Pick cs (.cli o bc q) r) :
    Calls Tryz.prog 10 #[.pointer (some ⟨bc,0,none⟩)] w (Rt fun v w'=>∃ es,v = .agg es.toArray∧Sep W w' (.el kMsg (cOutM q) es::.cli o bc (cOut q)::r)):=by
  obtain ⟨bt,bm,A,n,A',n',hl1,hl2,hs⟩:=hs.cli_open hk;obtain ⟨hla1,hla2⟩:=hc.last;refine enter Tryz.func10 Tryz.ntmps10 rfl rfl fun a (ha : Has a 85 [(0,_)])=>?_;refine wp_seq_k fun K1 hK1=>?_;refine wp_region_lit ?_;refine pAlloc (zs:=[.int .i64 0,.int .i64 0,.int .i64 0,.int .i64 0,.int .i64 0,.slice none 0 0,.slice none 0 0,.slice none 0 0,.int .i64 0]) ha Tryz.zeroValue39 rfl hs rfl fun bo w hs a ha=>?_;refine pZ ?_;refine hK1 _ _ ?_;refine wp_seq_k fun K2 hK2=>?_;refine wp_block ?_;refine wp_seq_k fun K3 hK3=>?_;refine wp_region_lit ?_;refine pY ha (yMove rfl) fun a ha=>?_;refine pC ha (nCall Tryz.call21 rfl) rfl (CNone_c hc.id hs pk1) ?_;rintro v w ⟨rfl,hs⟩ a ha;refine pY ha (yAssign rfl) fun a ha=>?_;refine pZ ?_;refine hK3 _ _ ?_;refine cFalse ha rfl ?_;refine wp_seq_k fun K4 hK4=>?_;refine wp_region_lit ?_;refine pY ha (yMove rfl) fun a ha=>?_;refine pY ha (yNilP rfl) fun a ha=>?_;refine pY ha (yFieldA Tryz.runUnderlying53 rfl Tryz.sizeOf4 rfl rfl) fun a ha=>?_;refine pY ha (yLoadB Tryz.isAgg4 hs rfl pk1 rfl) fun a ha=>?_;refine pY ha (yNot rfl) fun a ha=>?_;refine pY ha (yAssign rfl) fun a ha=>?_;refine pZ ?_;refine hK4 _ _ ?_;refine cSplit ha rfl (fun hc8=>?_) (fun hc8=>?_)
  · refine wp_seq_k fun K5 hK5=>?_;refine wp_region_lit ?_;refine pY ha (yMove rfl) fun a ha=>?_;refine pY ha (yNilP rfl) fun a ha=>?_;refine pY ha (yFieldA Tryz.runUnderlying53 rfl Tryz.sizeOf3 rfl rfl) fun a ha=>?_;refine pY ha (yLoadB Tryz.isAgg3 hs rfl pk1 rfl) fun a ha=>?_;refine pY ha (bldClO39_0_1 rfl rfl) fun a ha=>?_;refine pStoreA ha Tryz.sizeOf39 hs rfl rfl pk0 rfl rfl rfl fun w hs=>?_;refine pZ ?_;refine hK5 _ _ ?_;refine wp_ret ?_;show bodyPost Tryz.prog Tryz.f10 _ .ret _ _;refine retC rfl ha rfl Tryz.isAgg39 Tryz.sizeOf39 hs pk0 rfl ?_
    have hw : q.welcome = false:=by simpa using hc8
    have hM : cOutM q = { noM with kind:=1,client:=q.id }:=by unfold cOutM; rw [if_pos hw]
    have hO : cOut q = q:=by unfold cOut cOutK; rw [if_pos hw]; rfl
    rw [hM,hO];exact ⟨_,rfl,((hs.cli_shut (bt:=bt) (bm:=bm) (o:=o) (c:=q) (bc:=bc) pk1 pk1 pk1 pk1 pk1).msg_none 1 q.id 0 0 0 0).to (.cons .here (.cons .here (by repeat first | exact .refl | refine .skip ?_)))⟩
  · refine wp_seq_k fun K6 hK6=>?_;refine cutC (fun a w=>Has a 85 [(19,.bool (decide (q.l.length = 0∨q.told = true∨q.behind = true))),(0,.pointer (some ⟨bc,0,none⟩)),(2,.pointer (some ⟨bo,0,none⟩))]∧Sep W w (.blk bo 39 [.int .i64 0,.int .i64 0,.int .i64 0,.int .i64 0,.int .i64 0,.slice none 0 0,.slice none 0 0,.slice none 0 0,.int .i64 0]::.blk bc 53 (cliV q bt (.slice A q.l.length n) (.slice A' q.gone.length n'))::.blk bt 80 [.map (some bm)]::.mpN bm q.base::.pl o 58 (.slice A q.l.length n) q.l::.ol kPnd 68 (.slice A' q.gone.length n') q.gone::r)) ?_ ?_
    · refine wp_region_lit ?_;refine pY ha (yMove rfl) fun a ha=>?_;refine pY ha (yNilP rfl) fun a ha=>?_;refine pY ha (yFieldA Tryz.runUnderlying53 rfl Tryz.sizeOf51 rfl rfl) fun a ha=>?_;refine pY ha (yLoadB Tryz.isAgg51 hs rfl pk1 rfl) fun a ha=>?_;refine pY ha (yLenS Tryz.runUnderlying51 rfl) fun a ha=>?_;refine pY ha (yEql rfl rfl) fun a ha=>?_;refine pY ha (yMove rfl) fun a ha=>?_;refine gDec (t:=26) ha rfl (fun hg6 hp6=>?_) (fun hg6 hp6=>?_)
      · rw [hg6] at ha;refine gOn ha ?_;refine pY ha (yMove rfl) fun a ha=>?_;refine gOn ha ?_;refine pY ha (yNilP rfl) fun a ha=>?_;refine gOn ha ?_;refine pY ha (yFieldA Tryz.runUnderlying53 rfl Tryz.sizeOf4 rfl rfl) fun a ha=>?_;refine gOn ha ?_;refine pY ha (yLoadB Tryz.isAgg4 hs rfl pk1 rfl) fun a ha=>?_;refine pY ha (yPickF rfl rfl) fun a ha=>?_;refine pY ha (yMove rfl) fun a ha=>?_;refine gSplit (t:=32) ha rfl (fun hg12=>?_) (fun hg12=>?_)
        · rw [hg12] at ha;refine gOn ha ?_;refine pY ha (yMove rfl) fun a ha=>?_;refine gOn ha ?_;refine pY ha (yNilP rfl) fun a ha=>?_;refine gOn ha ?_;refine pY ha (yFieldA Tryz.runUnderlying53 rfl Tryz.sizeOf4 rfl rfl) fun a ha=>?_;refine gOn ha ?_;refine pY ha (yLoadB Tryz.isAgg4 hs rfl pk1 rfl) fun a ha=>?_;refine pY ha (yPickF rfl rfl) fun a ha=>?_;refine pY ha (yAssign rfl) fun a ha=>?_;refine pZ ⟨rfl,?_⟩;refine ⟨has3 ha ?_ rfl rfl,hs⟩;refine congrArg (fun b=>some (Value.bool b)) ?_;rw [Bool.eq_iff_iff]
          simp_all
        · rw [hg12] at ha;refine gOff ha fun a ha=>?_;refine gOff ha fun a ha=>?_;refine gOff ha fun a ha=>?_;refine gOff ha fun a ha=>?_;refine pY ha (yPickT rfl rfl) fun a ha=>?_;refine pY ha (yAssign rfl) fun a ha=>?_;refine pZ ⟨rfl,?_⟩;refine ⟨has3 ha ?_ rfl rfl,hs⟩;refine congrArg (fun b=>some (Value.bool b)) ?_;rw [Bool.eq_iff_iff]
          simp_all
      · rw [hg6] at ha;refine gOff ha fun a ha=>?_;refine gOff ha fun a ha=>?_;refine gOff ha fun a ha=>?_;refine gOff ha fun a ha=>?_;refine pY ha (yPickT rfl rfl) fun a ha=>?_;refine pY ha (yMove rfl) fun a ha=>?_;refine gOff ha fun a ha=>?_;refine gOff ha fun a ha=>?_;refine gOff ha fun a ha=>?_;refine gOff ha fun a ha=>?_;refine pY ha (yPickT rfl rfl) fun a ha=>?_;refine pY ha (yAssign rfl) fun a ha=>?_;refine pZ ⟨rfl,?_⟩;refine ⟨has3 ha ?_ rfl rfl,hs⟩;refine congrArg (fun b=>some (Value.bool b)) ?_;rw [Bool.eq_iff_iff]
        simp_all
    rintro a w ⟨ha,hs⟩;refine hK6 _ _ ?_;refine cDec ha rfl (fun hc19=>?_) (fun hc19=>?_)
    · refine wp_seq_k fun K7 hK7=>?_;refine dStart (fun w=>Sep W w _) [9] 1023 511 (by kernel_rfl) (by kernel_rfl) rfl (hs.drew) ?_
      have hs:=Sep.drew hs
      generalize World.drew _ = w at hs ⊢;refine dP 0 1 rfl ha (fun _=>yMove rfl) fun a ha=>?_;refine dP 1 3 rfl ha (fun _=>yNilP rfl) fun a ha=>?_;refine dP 2 7 rfl ha (fun _=>yFieldA Tryz.runUnderlying53 rfl Tryz.sizeOf3 rfl rfl) fun a ha=>?_;refine dT 3 15 rfl ha (fun _ hs=>yLoadB Tryz.isAgg3 hs rfl pk1 rfl) (hs) fun a ha=>?_;refine dP 4 31 rfl ha (fun _=>yMove rfl) fun a ha=>?_;refine dP 5 63 rfl ha (fun _=>yNilP rfl) fun a ha=>?_;refine dP 6 127 rfl ha (fun _=>yFieldA Tryz.runUnderlying53 rfl Tryz.sizeOf3 rfl rfl) fun a ha=>?_;refine dT 7 255 rfl ha (fun _ hs=>yLoadB Tryz.isAgg3 hs rfl pk1 rfl) (hs) fun a ha=>?_;refine dP 8 511 rfl ha (fun _=>bldClO39_0_1_3 rfl rfl rfl) fun a ha=>?_;refine dStoreAl 9 1023 rfl (by kernel_rfl) rfl ha won0 Tryz.sizeOf39 hs rfl rfl pk0 rfl rfl rfl fun w hs=>?_;refine dZ (by kernel_rfl) ?_;refine hK7 _ _ ?_;refine wp_ret ?_;show bodyPost Tryz.prog Tryz.f10 _ .ret _ _;refine retC rfl ha rfl Tryz.isAgg39 Tryz.sizeOf39 hs pk0 rfl ?_
      have hw : ¬ q.welcome = false:=by simpa using hc8
      have hM : cOutM q = { noM with kind:=3,client:=q.id,rev:=q.rev }:=by unfold cOutM; rw [if_neg hw,if_pos hc19]
      have hO : cOut q = q:=by unfold cOut cOutK; rw [if_neg hw,if_pos hc19]; rfl
      rw [hM,hO];exact ⟨_,rfl,((hs.cli_shut (bt:=bt) (bm:=bm) (o:=o) (c:=q) (bc:=bc) pk1 pk1 pk1 pk1 pk1).msg_none 3 q.id 0 q.rev 0 0).to (.cons .here (.cons .here (by repeat first | exact .refl | refine .skip ?_)))⟩
    · refine wp_skip ?_;refine hK2 _ _ ?_;refine wp_seq_k fun K8 hK8=>?_;refine wp_region_lit ?_;refine pY ha (yMove rfl) fun a ha=>?_;refine pY ha (yNilP rfl) fun a ha=>?_;refine pY ha (yFieldA Tryz.runUnderlying53 rfl Tryz.sizeOf4 rfl rfl) fun a ha=>?_;refine pStore ha Tryz.sizeOf4 hs rfl rfl rfl rfl pk1 rfl fun w hs=>?_;refine pZ ?_;refine hK8 _ _ ?_;refine wp_seq_k fun K9 hK9=>?_
      have hla3 : 0≤({ q with under:=true } : Cli).last:=hla1
      have hla4 : ({ q with under:=true } : Cli).last≤4000000000000000000:=hla2
      refine dStart (fun w=>∃ rs,Sep W w (.blk bc 53 (cliV { q with under:=true } bt (.slice A q.l.length n) (.slice A' q.gone.length n'))::rs)) [15] 65535 32767 (by kernel_rfl) (by kernel_rfl) rfl (⟨_,hs.drew.pick pk0⟩) ?_
      have hs:=Sep.drew hs
      generalize World.drew _ = w at hs ⊢;refine dP 0 1 rfl ha (fun _=>yMove rfl) fun a ha=>?_;refine dP 1 3 rfl ha (fun _=>yNilP rfl) fun a ha=>?_;refine dP 2 7 rfl ha (fun _=>yFieldA Tryz.runUnderlying53 rfl Tryz.sizeOf3 rfl rfl) fun a ha=>?_;refine dT 3 15 rfl ha (fun _ ⟨rs,hs⟩=>yLoadB Tryz.isAgg3 hs rfl pk0 rfl) (⟨_,hs.pick pk0⟩) fun a ha=>?_;refine dP 4 31 rfl ha (fun _=>yMove rfl) fun a ha=>?_;refine dP 5 63 rfl ha (fun _=>yNilP rfl) fun a ha=>?_;refine dP 6 127 rfl ha (fun _=>yFieldA Tryz.runUnderlying53 rfl Tryz.sizeOf3 rfl rfl) fun a ha=>?_;refine dT 7 255 rfl ha (fun _ ⟨rs,hs⟩=>yLoadB Tryz.isAgg3 hs rfl pk0 rfl) (⟨_,hs.pick pk0⟩) fun a ha=>?_;refine dP 8 511 rfl ha (fun _=>yAddN rfl rfl ⟨by omega,by omega⟩) fun a ha=>?_;refine dP 9 1023 rfl ha (fun _=>yMove rfl) fun a ha=>?_;refine dP 10 2047 rfl ha (fun _=>yNilP rfl) fun a ha=>?_;refine dP 11 4095 rfl ha (fun _=>yFieldA Tryz.runUnderlying53 rfl Tryz.sizeOf3 rfl rfl) fun a ha=>?_;refine dT 12 8191 rfl ha (fun _ ⟨rs,hs⟩=>yLoadB Tryz.isAgg3 hs rfl pk0 rfl) (⟨_,hs.pick pk0⟩) fun a ha=>?_;refine dP 13 16383 rfl ha (fun _=>bldClO39_0_1_2_3 rfl rfl rfl rfl) fun a ha=>?_;refine dAlloc (n:=0) 14 32767 rfl (by kernel_rfl) rfl (zs:=[.int .i64 0,.int .i64 0,.int .i64 0,.int .i64 0,.int .i64 0,.slice none 0 0,.slice none 0 0,.slice none 0 0,.int .i64 0]) ha won0 Tryz.zeroValue39 rfl hs rfl (fun _ _ hs=>⟨_,hs.pick pk1⟩) fun bn w hs a ha=>?_;refine dStoreAl 15 65535 rfl (by kernel_rfl) rfl ha won0 Tryz.sizeOf39 hs rfl rfl pk0 rfl rfl rfl fun w hs=>?_;refine dZ (by kernel_rfl) ?_;refine hK9 _ _ ?_;refine wp_seq_k fun K10 hK10=>?_;refine wp_seq_k fun K11 hK11=>?_;obtain ⟨x,hx⟩ : ∃ x,q.l[0]? = some x:=⟨_,List.getElem?_eq_getElem (by omega)⟩
      have hmem:=List.mem_of_getElem? hx
      refine wp_region_lit ?_;refine pY ha (yMove rfl) fun a ha=>?_;refine pY ha (yNilP rfl) fun a ha=>?_;refine pY ha (yFieldA Tryz.runUnderlying53 rfl Tryz.sizeOf51 rfl rfl) fun a ha=>?_;refine pY ha (yLoadB Tryz.isAgg51 hs rfl pk1 rfl) fun a ha=>?_;obtain ⟨b0,off,A2,n2,c2,rfl,hcell,hs⟩:=hs.pl_at pk5 hx;refine pY ha (yIndexA Tryz.runUnderlying51 Tryz.sizeOf58 rfl rfl (by omega) (by omega)) fun a ha=>?_;refine pY ha (yFieldA Tryz.runUnderlying58 rfl Tryz.sizeOf26 rfl rfl) fun a ha=>?_;refine pY ha (yLoad Tryz.isAgg26 rfl (hcell 1 _ rfl)) fun a ha=>?_;refine pY ha (yFieldA Tryz.runUnderlying39 rfl Tryz.sizeOf3 rfl rfl) fun a ha=>?_;refine pStore ha Tryz.sizeOf3 hs rfl rfl rfl rfl pk1 rfl fun w hs=>?_;refine pZ ?_;refine hK11 _ _ ?_;refine wp_seq_k fun K12 hK12=>?_;refine wp_region_lit ?_;refine pY ha (yFieldA Tryz.runUnderlying39 rfl Tryz.sizeOf3 rfl rfl) fun a ha=>?_;refine pY ha (yLoadB Tryz.isAgg3 hs rfl pk0 rfl) fun a ha=>?_;refine pY ha (yEql rfl rfl) fun a ha=>?_;refine pZ ?_;refine hK12 _ _ ?_;refine cDec ha rfl (fun hc74=>?_) (fun hc74=>?_)
      · refine wp_region_lit ?_;refine pY ha (yMove rfl) fun a ha=>?_;refine pY ha (yNilP rfl) fun a ha=>?_;refine pY ha (yFieldA Tryz.runUnderlying53 rfl Tryz.sizeOf51 rfl rfl) fun a ha=>?_;refine pY ha (yLoadB Tryz.isAgg51 hs rfl pk2 rfl) fun a ha=>?_;obtain ⟨b1,off1,A3,n3,c3,e,hcell,hs⟩:=hs.pl_at pk6 hx;simp only [Option.some.injEq,Addr.mk.injEq] at e;obtain ⟨rfl,rfl,_⟩:=e;refine pY ha (yIndexA Tryz.runUnderlying51 Tryz.sizeOf58 rfl rfl (by omega) (by omega)) fun a ha=>?_;refine pY ha (yFieldA Tryz.runUnderlying58 rfl Tryz.sizeOf22 rfl rfl) fun a ha=>?_;refine pY ha (yLoad Tryz.isAgg22 rfl (hcell 0 _ rfl)) fun a ha=>?_;refine pC ha (nCall Tryz.call23 rfl) rfl (Own_c (xs:=x.acts) hs pk0 (hc.acts x hmem).2 (fun y hy=>((hc.acts x hmem).1 y hy).2.2.1)) ?_;rintro v w ⟨A4,c4,rfl,hs⟩ a ha;refine pY ha (yFieldA Tryz.runUnderlying39 rfl Tryz.sizeOf22 rfl rfl) fun a ha=>?_;refine pStore ha Tryz.sizeOf22 hs rfl rfl rfl rfl pk2 rfl fun w hs=>?_;refine pZ ?_;refine hK10 _ _ ?_;refine wp_seq_k fun K13 hK13=>?_;refine wp_region_lit ?_;refine pY ha (yLoadBA Tryz.isAgg39 Tryz.sizeOf39 hs rfl pk0 rfl) fun a ha=>?_;refine pStoreA ha Tryz.sizeOf39 hs rfl rfl pk5 rfl rfl rfl fun w hs=>?_;refine pZ ?_;refine hK13 _ _ ?_;refine wp_ret ?_;show bodyPost Tryz.prog Tryz.f10 _ .ret _ _;refine retC rfl ha rfl Tryz.isAgg39 Tryz.sizeOf39 hs pk0 rfl ?_
        have hw : ¬ q.welcome = false:=by simpa using hc8
        have hh : headP q = x:=by unfold headP; rw [List.getD_eq_getElem?_getD,hx]; rfl
        have hM : cOutM q = ⟨2,q.id,q.last + 1,q.rev,x.e,x.acts,[],[],0⟩:=by unfold cOutM; rw [if_neg hw,if_neg hc19,hh,if_pos hc74]; rfl
        have hO : cOut q = { q with under:=true }:=by unfold cOut cOutK; rw [if_neg hw,if_neg hc19]; rfl
        rw [hM,hO]
        have hs:=((hs.cli_shut (bt:=bt) (bm:=bm) (o:=o) (c := { q with under:=true }) (bc:=bc) pk5 pk5 pk5 pk5 pk5).rd_nil (d:=kNod)).rd_nil (d:=kCmt)
        have hs:=hs.mk_msg (A:=A4) (n:=x.acts.length) (c:=c4) (A':=none) (n':=0) (c':=0) (B:=none) (m:=0) (d:=0) (x:=⟨2,q.id,q.last + 1,q.rev,x.e,x.acts,[],[],0⟩) pk5 pk0 pk0;exact ⟨_,rfl,hs.to (.cons .here (.cons pk0 (by repeat first | exact .refl | refine .skip ?_)))⟩
      · refine wp_skip ?_;refine hK10 _ _ ?_;refine wp_seq_k fun K14 hK14=>?_;refine wp_region_lit ?_;refine pY ha (yLoadBA Tryz.isAgg39 Tryz.sizeOf39 hs rfl pk0 rfl) fun a ha=>?_;refine pStoreA ha Tryz.sizeOf39 hs rfl rfl pk3 rfl rfl rfl fun w hs=>?_;refine pZ ?_;refine hK14 _ _ ?_;refine wp_ret ?_;show bodyPost Tryz.prog Tryz.f10 _ .ret _ _;refine retC rfl ha rfl Tryz.isAgg39 Tryz.sizeOf39 hs pk0 rfl ?_
        have hw : ¬ q.welcome = false:=by simpa using hc8
        have hh : headP q = x:=by unfold headP; rw [List.getD_eq_getElem?_getD,hx]; rfl
        have hM : cOutM q = ⟨2,q.id,q.last + 1,q.rev,x.e,[],[],[],0⟩:=by unfold cOutM; rw [if_neg hw,if_neg hc19,hh,if_neg hc74]; rfl
        have hO : cOut q = { q with under:=true }:=by unfold cOut cOutK; rw [if_neg hw,if_neg hc19]; rfl
        rw [hM,hO];exact ⟨_,rfl,((hs.cli_shut (bt:=bt) (bm:=bm) (o:=o) (c := { q with under:=true }) (bc:=bc) pk3 pk3 pk3 pk3 pk3).msg_none 2 q.id (q.last + 1) q.rev x.e 0).to (.cons .here (.cons .here (by repeat first | exact .refl | refine .skip ?_)))⟩
end
end Go.Proofs.YtabbidoanhicmaaGreatDoor

set_option linter.unusedVariables false
set_option linter.unusedSimpArgs false
namespace Go.Proofs.YtabbidoanhicmaaGreatDoor
open Go.RowKit Go.Lib Go.Proofs.YtabbidoanhicmaaGreatDoorW.PrintLast
def cWel (q : Cli) (m : Msg) : Cli:=if m.client = q.id∧q.welcome = false then { q with welcome:=true,last:=m.last } else q
section
variable {W w : World} {cs r r2 : List Ch} {o : Bool} {bc : Nat} {q : Cli}
theorem CInW_c (hT : Tabs W) {es : List Value} {m : Msg} (h0 : q.id ≠ 0) (h4 : m.kind = 4) (hm : mM m) (hb : (wMsg m).1.length≤8796093022208) (hs : Sep W w cs) (hk : Pick cs (.cli o bc q) r) (hk2 : Pick r (.el kMsg m es) r2) :
    Calls Tryz.prog 11 #[.pointer (some ⟨bc,0,none⟩),.agg es.toArray] w (Rt fun v w'=>v = .int .i64 (if msgE m = 0 then 0 else 2)∧Sep W w' (.cli o bc (if msgE m = 0 then cWel q m else q)::r)):=by
  have hs:=hs.perm hk.perm
  have hk2 : Pick (.cli o bc q::r) (.el kMsg m es) (.cli o bc q::r2):=.there hk2
  have hs : Sep W w (.el kMsg m es::.cli o bc q::r):=hs.cp hk2
  obtain ⟨A1,n1,c1,A2,n2,c2,A3,n3,c3,rfl,hs⟩:=hs.el_msg .here;obtain ⟨bt,bm,A,n,A',n',hl1,hl2,hs⟩:=hs.cli_open (bc:=bc) (c:=q) (o:=o) (.there (.there (.there (.there .here))));refine enter Tryz.func11 Tryz.ntmps11 rfl rfl fun a (ha : Has a 144 [(0,_),(1,_)])=>?_;refine wp_seq_k fun K1 hK1=>?_;refine wp_region_lit ?_;refine pBox (es:=_) ha rfl rfl hs rfl fun b3 w hs a ha=>?_;refine pY ha (yAssign rfl) fun a ha=>?_;refine pZ ?_;refine hK1 _ _ ?_;refine scopeF 1 99999 ?_;refine wp_seq_k fun K2 hK2=>?_;refine wp_seq_k fun K3 hK3=>?_;refine wp_region_lit ?_;refine pY ha (yMove rfl) fun a ha=>?_;refine pC ha (nCall Tryz.call21 rfl) rfl (CNone_c h0 hs pk1) ?_;rintro v w ⟨rfl,hs⟩ a ha;refine pZ ?_;refine hK3 _ _ ?_;refine cFalse ha rfl ?_;refine wp_skip ?_;refine hK2 _ _ ?_;refine wp_seq_k fun K4 hK4=>?_;refine wp_seq_k fun K5 hK5=>?_;refine wp_region_lit ?_;refine pY ha (yLoadBA Tryz.isAgg39 Tryz.sizeOf39 hs rfl pk0 rfl) fun a ha=>?_;refine pC ha (nCall Tryz.call25 rfl) rfl (MCheck_c hT (x:=m) hm hb hs pk9) ?_;rintro v w ⟨rfl,hs⟩ a ha;refine pY ha (yNeq rfl rfl) fun a ha=>?_;refine pZ ?_;refine hK5 _ _ ?_;refine cNDec ha rfl (fun hc11=>?_) (fun hc11=>?_)
  · refine wp_seq_k fun K6 hK6=>?_;refine wp_region_lit ?_;refine pY ha (yAssign rfl) fun a ha=>?_;refine pZ ?_;refine hK6 _ _ ?_;refine wp_ret ?_;show bodyPost Tryz.prog Tryz.f11 _ .ret _ _;refine ret1 rfl ha rfl ?_;rw [if_neg hc11,if_neg hc11];exact ⟨rfl,(hs.cli_shut (bt:=bt) (bm:=bm) (o:=o) (c:=q) (bc:=bc) pk1 pk1 pk1 pk1 pk1).to (.cons .here (by repeat first | exact .refl | refine .skip ?_))⟩
  · refine wp_skip ?_;refine hK4 _ _ ?_;refine wp_seq_k fun K7 hK7=>?_;refine wp_seq_k fun K8 hK8=>?_;refine wp_region_lit ?_;refine pY ha (yFieldA Tryz.runUnderlying39 rfl Tryz.sizeOf3 rfl rfl) fun a ha=>?_;refine pY ha (yLoadB Tryz.isAgg3 hs rfl pk0 rfl) fun a ha=>?_;refine pZ ?_;refine hK8 _ _ ?_;refine wp_block ?_;refine wp_seq_k fun K9 hK9=>?_;refine wp_region_lit ?_;refine pY ha (yEql rfl rfl) fun a ha=>?_;refine pY ha (yAssign rfl) fun a ha=>?_;refine pZ ?_;refine hK9 _ _ ?_;refine cDec ha rfl (fun hc14=>?_) (fun hc14=>?_)
    · refine wp_seq_k fun K10 hK10=>?_;refine cutC (fun a w=>Has a 144 [(29,.bool (decide (m.client = q.id∧q.welcome = false))),(0,.pointer (some ⟨bc,0,none⟩)),(3,.pointer (some ⟨b3,0,none⟩)),(4,.int .i64 0)]∧Sep W w (.blk b3 39 [.int .i64 m.kind,.int .i64 m.client,.int .i64 m.seq,.int .i64 m.rev,.int .i64 m.code,.slice A1 n1 c1,.slice A2 n2 c2,.slice A3 n3 c3,.int .i64 m.last]::.blk bc 53 (cliV q bt (.slice A q.l.length n) (.slice A' q.gone.length n'))::.blk bt 80 [.map (some bm)]::.mpN bm q.base::.pl o 58 (.slice A q.l.length n) q.l::.ol kPnd 68 (.slice A' q.gone.length n') q.gone::r)) ?_ ?_
      · refine dStart (fun w=>Sep W w _) [] 16383 16383 (by kernel_rfl) (by kernel_rfl) rfl (hs.drew) ?_
        have hs:=Sep.drew hs
        generalize World.drew _ = w at hs ⊢;refine dP 0 1 rfl ha (fun _=>yFieldA Tryz.runUnderlying39 rfl Tryz.sizeOf3 rfl rfl) fun a ha=>?_;refine dT 1 3 rfl ha (fun _ hs=>yLoadB Tryz.isAgg3 hs rfl pk0 rfl) (hs) fun a ha=>?_;refine dP 2 7 rfl ha (fun _=>yMove rfl) fun a ha=>?_;refine dP 3 15 rfl ha (fun _=>yNilP rfl) fun a ha=>?_;refine dP 4 31 rfl ha (fun _=>yFieldA Tryz.runUnderlying53 rfl Tryz.sizeOf3 rfl rfl) fun a ha=>?_;refine dT 5 63 rfl ha (fun _ hs=>yLoadB Tryz.isAgg3 hs rfl pk1 rfl) (hs) fun a ha=>?_;refine dP 6 127 rfl ha (fun _=>yEql rfl rfl) fun a ha=>?_;refine dP 7 255 rfl ha (fun _=>yMove rfl) fun a ha=>?_;refine gDec (t:=23) ha rfl (fun hg7 hp7=>?_) (fun hg7 hp7=>?_)
        · rw [hg7] at ha;refine dOff 8 511 rfl ha fun a ha=>?_;refine dOff 9 1023 rfl ha fun a ha=>?_;refine dOff 10 2047 rfl ha fun a ha=>?_;refine dOff 11 4095 rfl ha fun a ha=>?_;refine dOff 12 8191 rfl ha fun a ha=>?_;refine dP 13 16383 rfl ha (fun _=>yPickF rfl rfl) fun a ha=>?_;refine dZ (by kernel_rfl) ?_;refine ⟨rfl,?_⟩;refine ⟨has4 ha ?_ rfl rfl rfl,(by exact hs.to (by repeat first | exact Picks.refl | refine Picks.cons (by first | exact pk0 | exact pk1 | exact pk2 | exact pk3 | exact pk4 | exact pk5 | exact pk6 | exact pk7 | exact pk8 | exact pk9 | exact pk10 | exact pk11 | exact pk12 | exact pk13 | exact pk14 | exact pk15 | exact pk16 | exact pk17 | exact pk18 | exact pk19 | exact pk20 | exact pk21 | exact pk22 | exact pk23 | exact pk24 | exact pk25 | exact pk26 | exact pk27 | exact pk28 | exact pk29 | exact pk30 | exact pk31) ?_ | refine Picks.skip ?_))⟩;refine congrArg (fun b=>some (Value.bool b)) ?_;rw [Bool.eq_iff_iff]
          simp_all
        · rw [hg7] at ha;refine dP 8 511 rfl ha (fun _=>yMove rfl) fun a ha=>?_;refine dP 9 1023 rfl ha (fun _=>yNilP rfl) fun a ha=>?_;refine dP 10 2047 rfl ha (fun _=>yFieldA Tryz.runUnderlying53 rfl Tryz.sizeOf4 rfl rfl) fun a ha=>?_;refine dT 11 4095 rfl ha (fun _ hs=>yLoadB Tryz.isAgg4 hs rfl pk1 rfl) (hs) fun a ha=>?_;refine dP 12 8191 rfl ha (fun _=>yNot rfl) fun a ha=>?_;refine dP 13 16383 rfl ha (fun _=>yPickT rfl rfl) fun a ha=>?_;refine dZ (by kernel_rfl) ?_;refine ⟨rfl,?_⟩;refine ⟨has4 ha ?_ rfl rfl rfl,(by exact hs.to (by repeat first | exact Picks.refl | refine Picks.cons (by first | exact pk0 | exact pk1 | exact pk2 | exact pk3 | exact pk4 | exact pk5 | exact pk6 | exact pk7 | exact pk8 | exact pk9 | exact pk10 | exact pk11 | exact pk12 | exact pk13 | exact pk14 | exact pk15 | exact pk16 | exact pk17 | exact pk18 | exact pk19 | exact pk20 | exact pk21 | exact pk22 | exact pk23 | exact pk24 | exact pk25 | exact pk26 | exact pk27 | exact pk28 | exact pk29 | exact pk30 | exact pk31) ?_ | refine Picks.skip ?_))⟩;refine congrArg (fun b=>some (Value.bool b)) ?_;rw [Bool.eq_iff_iff]
          simp_all
      rintro a w ⟨ha,hs⟩;refine hK10 _ _ ?_;refine cDec ha rfl (fun hc29=>?_) (fun hc29=>?_)
      · refine dStart (fun w=>∃ rs,Sep W w (.blk b3 39 [.int .i64 m.kind,.int .i64 m.client,.int .i64 m.seq,.int .i64 m.rev,.int .i64 m.code,.slice A1 n1 c1,.slice A2 n2 c2,.slice A3 n3 c3,.int .i64 m.last]::rs)) [9] 1023 511 (by kernel_rfl) (by kernel_rfl) rfl (⟨_,hs.drew.pick pk0⟩) ?_
        have hs:=Sep.drew hs
        generalize World.drew _ = w at hs ⊢;refine dP 0 1 rfl ha (fun _=>yMove rfl) fun a ha=>?_;refine dP 1 3 rfl ha (fun _=>yMove rfl) fun a ha=>?_;refine dP 2 7 rfl ha (fun _=>yFieldA Tryz.runUnderlying39 rfl Tryz.sizeOf3 rfl rfl) fun a ha=>?_;refine dT 3 15 rfl ha (fun _ ⟨rs,hs⟩=>yLoadB Tryz.isAgg3 hs rfl pk0 rfl) (⟨_,hs.pick pk0⟩) fun a ha=>?_;refine dP 4 31 rfl ha (fun _=>yNilP rfl) fun a ha=>?_;refine dP 5 63 rfl ha (fun _=>yFieldA Tryz.runUnderlying53 rfl Tryz.sizeOf4 rfl rfl) fun a ha=>?_;refine dStore 6 127 rfl (by kernel_rfl) rfl ha won0 Tryz.sizeOf4 hs rfl rfl rfl rfl pk1 rfl (fun _ hs=>⟨_,hs.pick pk1⟩) fun w hs=>?_;refine dP 7 255 rfl ha (fun _=>yNilP rfl) fun a ha=>?_;refine dP 8 511 rfl ha (fun _=>yFieldA Tryz.runUnderlying53 rfl Tryz.sizeOf3 rfl rfl) fun a ha=>?_;refine dStorel 9 1023 rfl (by kernel_rfl) rfl ha won0 Tryz.sizeOf3 hs rfl rfl rfl rfl pk0 rfl fun w hs=>?_;refine dZ (by kernel_rfl) ?_;refine hK7 _ _ ?_;refine wp_seq_k fun K11 hK11=>?_;refine wp_label ?_;refine hK11 _ _ ?_;refine wp_seq_k fun K12 hK12=>?_;refine wp_region_lit ?_;refine pY ha (yMove rfl) fun a ha=>?_;refine pY ha (yAssign rfl) fun a ha=>?_;refine pZ ?_;refine hK12 _ _ ?_;refine wp_ret ?_;show bodyPost Tryz.prog Tryz.f11 _ .ret _ _;refine ret1 rfl ha rfl ?_;rw [if_pos hc11,if_pos hc11,show cWel q m = { q with welcome:=true,last:=m.last } from if_pos hc29];exact ⟨rfl,(hs.cli_shut (bt:=bt) (bm:=bm) (o:=o) (c := { q with welcome:=true,last:=m.last }) (bc:=bc) pk0 pk1 pk1 pk1 pk1).to (.cons .here (by repeat first | exact .refl | refine .skip ?_))⟩
      · refine wp_skip ?_;refine hK7 _ _ ?_;refine wp_seq_k fun K13 hK13=>?_;refine wp_label ?_;refine hK13 _ _ ?_;refine wp_seq_k fun K14 hK14=>?_;refine wp_region_lit ?_;refine pY ha (yMove rfl) fun a ha=>?_;refine pY ha (yAssign rfl) fun a ha=>?_;refine pZ ?_;refine hK14 _ _ ?_;refine wp_ret ?_;show bodyPost Tryz.prog Tryz.f11 _ .ret _ _;refine ret1 rfl ha rfl ?_;rw [if_pos hc11,if_pos hc11,show cWel q m = q from if_neg hc29];exact ⟨rfl,(hs.cli_shut (bt:=bt) (bm:=bm) (o:=o) (c:=q) (bc:=bc) pk1 pk1 pk1 pk1 pk1).to (.cons .here (by repeat first | exact .refl | refine .skip ?_))⟩
    · exact absurd h4 hc14
end
end Go.Proofs.YtabbidoanhicmaaGreatDoor

set_option linter.unusedVariables false
set_option linter.unusedSimpArgs false
namespace Go.Proofs.YtabbidoanhicmaaGreatDoor
open Go.RowKit Go.Lib
def nameF (i : Nat) : ByteArray:=(⟨#[102]⟩++⟨(blockL 1 (i : Int)).toArray⟩)++⟨(blockL 2 ((i / 26 : Nat) : Int)).toArray⟩
def actF (i : Nat) : Actn:=⟨1,(i : Int) + 1,0,nameF i,false,[]⟩
def nodF (i : Nat) : List Nod:=(List.range i).map fun j=>creN (actF j)
def pF (i : Nat) : Pnd:=⟨[actF i],0⟩
def lF (i : Nat) : List Pnd:=(List.range i).map pF
def cF (i : Nat) : Cli:=⟨1,0,[],0,false,false,false,false,lF (min i 50),[]⟩
theorem fullD : ∀ i,i < 50→doE (nodF i) [actF i] = 0:=by decide +kernel
theorem nodF_succ (i : Nat) : nodF (i + 1) = nodF i++[creN (actF i)]:=by
  unfold nodF; rw [List.range_succ,List.map_append]; rfl
theorem lF_succ (i : Nat) : lF (i + 1) = lF i++[pF i]:=by
  unfold lF; rw [List.range_succ,List.map_append]; rfl
theorem lF_len (i : Nat) : (lF i).length = i:=by unfold lF; simp
theorem full_do {i : Nat} (h : i < 50) : (doL (nodF i) [actF i]).1 = nodF (i + 1):=by
  have h1:=fullD i h
  unfold doE at h1
  split at h1
  · rename_i h2; exact absurd h1 h2
  · rw [nodF_succ];simp only [doL] at h1 ⊢
    split
    · rename_i h2; rw [if_pos h2] at h1; exact absurd h1 h2
    · rfl
theorem viewF : ∀ i,i≤50→viewL [] (lF i) = nodF i
  | 0,_=>rfl
  | i + 1,h=>by
    have h1:=viewF i (by omega)
    rw [lF_succ];unfold viewL at h1 ⊢;rw [List.foldl_append,h1];show stepV (nodF i) (pF i) = _;unfold stepV;rw [if_pos ⟨rfl,fullD i (by omega)⟩];exact full_do (by omega)
theorem cF_len (i : Nat) : (cF i).l.length = min i 50:=lF_len _
theorem editF {i : Nat} : editE (cF i) [actF i] = (if i < 50 then 0 else 4):=by
  unfold editE;rw [if_neg (by simp),cF_len]
  by_cases h : i < 50
  · rw [if_neg (by omega),if_pos h];show doE (viewL [] (lF (min i 50))) [actF i] = 0;rw [Nat.min_eq_left (by omega),viewF i (by omega)];exact fullD i h
  · rw [if_pos (by omega),if_neg h]
theorem editFC {i : Nat} : editC (cF i) [actF i] = cF (i + 1):=by
  unfold editC;rw [editF]
  by_cases h : i < 50
  · rw [if_pos h,if_pos rfl];unfold cF;rw [Nat.min_eq_left (by omega),Nat.min_eq_left (by omega),lF_succ]
    rfl
  · rw [if_neg h,if_neg (by decide)];unfold cF;rw [Nat.min_eq_right (by omega),Nat.min_eq_right (by omega)]
theorem nameF_size (i : Nat) : (nameF i).size = 4:=by
  unfold nameF;rw [ByteArray.size_append,ByteArray.size_append]
  simp [ByteArray.size,blockL]
theorem mA_F {i : Nat} (h : i≤60) : mA (actF i):=by
  unfold mA actF;refine ⟨by rw [nameF_size]; decide,by simp,?_⟩
  simp
theorem idsOk_nil : idsOk []:=⟨List.Pairwise.nil,(fun x h=>by cases h),Nat.zero_le _⟩
theorem okF {i : Nat} : okC (cF i):=by
  refine ⟨show (1 : Int) ≠ 0 by decide,show (0 : Int)≤0∧(0 : Int)≤4000000000000000000 by decide,idsOk_nil,fun p hp=>?_⟩;unfold cF lF at hp;obtain ⟨j,hj,rfl⟩:=List.mem_map.1 hp
  have hj2 : j < min i 50:=List.mem_range.1 hj
  refine ⟨fun x hx=>?_,by simp [pF]⟩
  simp [pF] at hx
  subst hx;exact ⟨rfl,mA_F (by omega)⟩
end Go.Proofs.YtabbidoanhicmaaGreatDoor

set_option linter.unusedVariables false
set_option linter.unusedSimpArgs false
namespace Go.Proofs.YtabbidoanhicmaaGreatDoor
open Go.RowKit
section
variable {W w : World} {cs r r2 r3 : List Ch}
theorem Kd.sl_nil {α : Type} (d : Kd α) (Z : Hp) : d.sl Z (.slice none 0 0) []:=⟨none,0,rfl,Nat.le_refl _,by unfold maxLen; omega,fun h=>by simp at h⟩
theorem Sep.one_rd {α : Type} {d : Kd α} {e : α} {es : List Value} {b : Nat} {T : TypeId} (hs : Sep W w cs) (hk : Pick cs (.blk b T es) r) (hk2 : Pick r (.el d e es) r2) : Sep W w (.rd d (.slice (some ⟨b,0,none⟩) 1 1) [e]::r2):=by
  have h1:=(hs.perm (hk.perm.trans (hk2.perm.cons _))).join
  refine h1.shut fun Z H hd hc=>?_;obtain ⟨H1,H2,g1,g2,gd,ho,hR⟩:=hc;refine ⟨_,1,rfl,Nat.le_refl _,by unfold maxLen; omega,fun _=>⟨b,0,es.toArray,T,(0,0),rfl,Hp.le_un_right hd _ _ (g1 _ _ ho),fun i x hx=>?_⟩⟩
  match i,hx with
  | 0,hx=>
    simp at hx
    subst hx;exact ⟨es,d.mono (Hp.le_un_left _ _) hR,fun j u hj=>by simpa using hj⟩
  | i + 1,hx=>simp at hx
end
end Go.Proofs.YtabbidoanhicmaaGreatDoor

set_option linter.unusedVariables false
set_option linter.unusedSimpArgs false
namespace Go.Proofs.YtabbidoanhicmaaGreatDoor
open Go.RowKit Go.Lib Go.Proofs.YtabbidoanhicmaaGreatDoorW.PrintLast
theorem bldAwk2333_0_1_3 {w : World} {l : List (Nat × Value)} {T : TypeId} {x0 x1 x3 : Operand} {v0 : Value} (h0 : ev l x0 = some v0) {v1 : Value} (h1 : ev l x1 = some v1) {v3 : Value} (h3 : ev l x3 = some v3) (o0 : v0.cells = #[v0]:=by rfl) (o1 : v1.cells = #[v1]:=by rfl) (o3 : v3.cells = #[v3]:=by rfl) : Yl Tryz.prog w l (.build 33 #[(0,x0),(1,x1),(3,x3)]) T (.agg #[v0,v1,.int .i64 0,v3,.bool false,.slice none 0 0]):=fun ρ o h ho _=>by
  have hf : Instr.fill (fun i=>([(0,1),(1,1),(2,1),(3,1),(4,1),(5,1)] : List (Nat × Nat))[i]?) #[.int .i64 0,.int .i64 0,.int .i64 0,.string ⟨#[]⟩,.bool false,.slice none 0 0] [(0,v0),(1,v1),(3,v3)] = some #[v0,v1,.int .i64 0,v3,.bool false,.slice none 0 0]:=by
    refine (fill_v o0 rfl (by simp)).trans ?_;refine (fill_v o1 rfl (by simp)).trans ?_;refine (fill_v o3 rfl (by simp)).trans ?_
    simp [Instr.fill]
  unfold execOp; rw [ho]
  simp [h _ _ h0,h _ _ h1,h _ _ h3,Instr.build,Tryz.zeroValue33,Tryz.runUnderlying33,Tryz.sizeOf3,Tryz.sizeOf31,Tryz.sizeOf4,Tryz.sizeOf9,agg_cells,hf]
theorem bldAwk2339_0_1 {w : World} {l : List (Nat × Value)} {T : TypeId} {x0 x1 : Operand} {v0 : Value} (h0 : ev l x0 = some v0) {v1 : Value} (h1 : ev l x1 = some v1) (o0 : v0.cells = #[v0]:=by rfl) (o1 : v1.cells = #[v1]:=by rfl) : Yl Tryz.prog w l (.build 39 #[(0,x0),(1,x1)]) T (.agg #[v0,v1,.int .i64 0,.int .i64 0,.int .i64 0,.slice none 0 0,.slice none 0 0,.slice none 0 0,.int .i64 0]):=fun ρ o h ho _=>by
  have hf : Instr.fill (fun i=>([(0,1),(1,1),(2,1),(3,1),(4,1),(5,1),(6,1),(7,1),(8,1)] : List (Nat × Nat))[i]?) #[.int .i64 0,.int .i64 0,.int .i64 0,.int .i64 0,.int .i64 0,.slice none 0 0,.slice none 0 0,.slice none 0 0,.int .i64 0] [(0,v0),(1,v1)] = some #[v0,v1,.int .i64 0,.int .i64 0,.int .i64 0,.slice none 0 0,.slice none 0 0,.slice none 0 0,.int .i64 0]:=by
    refine (fill_v o0 rfl (by simp)).trans ?_;refine (fill_v o1 rfl (by simp)).trans ?_
    simp [Instr.fill]
  unfold execOp; rw [ho]
  simp [h _ _ h0,h _ _ h1,Instr.build,Tryz.zeroValue39,Tryz.runUnderlying39,Tryz.sizeOf22,Tryz.sizeOf3,Tryz.sizeOf36,Tryz.sizeOf37,agg_cells,hf]
theorem bslAwk2322_1_0 {w : World} {l : List (Nat × Value)} {T : TypeId} {x0 : Operand} {c0 : List Value} (h0 : ev l x0 = some (.agg c0.toArray)) (n0 : c0.length = 6:=by rfl) : Mk Tryz.prog w l (.buildSlice 22 1 #[(0,x0)]) T 33 1 c0:=fun ρ o h ho _=>by
  unfold execOp; rw [ho];exact mk1 (P:=Tryz.prog) w Tryz.runUnderlying22 Tryz.sizeOf33 Tryz.zeroValue33 (by decide) (by decide) n0 (h _ _ h0)
def awA : Actn:=⟨1,1,0,⟨#[97]⟩,false,[]⟩
def aw1 : Cli:=⟨3,0,[],0,false,false,false,false,[⟨[awA],0⟩],[]⟩
def aw2 : Cli:=⟨3,0,[],0,true,false,false,false,[⟨[awA],0⟩],[]⟩
def aw3 : Cli:=⟨3,0,[],0,true,false,true,false,[⟨[awA],0⟩],[]⟩
def awW : Msg:=⟨4,3,0,0,0,[],[],[],0⟩
theorem aw_m : mA awA:=⟨by decide,by decide,fun c hc=>by cases hc⟩
theorem aw_ok {q : Cli} (h : q = newC 3∨q = aw1∨q = aw2∨q = aw3) : okC q:=by
  rcases h with rfl | rfl | rfl | rfl <;> refine ⟨by decide,by decide,idsOk_nil,fun p hp=>?_⟩
  · cases hp
  all_goals
    simp [aw1,aw2,aw3] at hp
    subst hp;refine ⟨fun x hx=>?_,by simp⟩
    simp at hx
    subst hx;exact ⟨rfl,aw_m⟩
theorem aw_edit : editE (newC 3) [awA] = 0∧editC (newC 3) [awA] = aw1:=by
  have h : editE (newC 3) [awA] = 0:=by decide +kernel
  refine ⟨h,?_⟩;unfold editC;rw [if_pos h]
  rfl
theorem aw_view : (viewL aw3.base aw3.l).length = 1:=by decide +kernel
theorem aw_wel : msgE awW = 0:=bare_ok (by decide) rfl (by decide) rfl rfl rfl
section
variable {W w : World} {cs r r2 : List Ch}
theorem awake23_c (hT : Tabs W) (hs : Sep W w cs) : Calls P 5 #[] w (Rt fun v w'=>v = .bool true∧Sep W w' cs):=by
  have hmw:=bare_m (m:=awW) (by decide) rfl rfl rfl
  obtain ⟨he1,he2⟩:=aw_edit
  have hvo : idsOk (viewL aw3.base aw3.l):=idsOk_view (aw_ok (.inr (.inr (.inr rfl)))).base
  have hvl : (sortN (viewL aw3.base aw3.l)).length = 1:=by rw [sortN_len]; exact aw_view
  refine enter Tryz.func5 Tryz.ntmps5 rfl rfl fun a (ha : Has a 83 [])=>?_;refine wp_seq_k fun K1 hK1=>?_;refine wp_region_lit ?_;refine pY ha (yAssign rfl) fun a ha=>?_;refine pZ ?_;refine hK1 _ _ ?_;refine wp_seq_k fun K2 hK2=>?_;refine wp_region_lit ?_;refine pC ha (nCall Tryz.call6 rfl) rfl (CNew_c 3 hs) ?_;rintro v w hd a ha;obtain ⟨_,_,bc,rfl,hs⟩:=hd.resolve_right (fun h=>h.1 (by decide));refine pY ha (yMove rfl) fun a ha=>?_;refine pY ha (yExtract rfl rfl) fun a ha=>?_;refine pY ha (yExtract rfl rfl) fun a ha=>?_;refine pY ha (yAssign rfl) fun a ha=>?_;refine pY ha (yAssign rfl) fun a ha=>?_;refine pZ ?_;refine hK2 _ _ ?_;refine wp_seq_k fun K3 hK3=>?_;refine wp_region_lit ?_;refine pC ha (nCall Tryz.call6 rfl) rfl (CNew_c 0 hs) ?_;rintro v w hd a ha;obtain ⟨_,rfl,hs⟩:=hd.resolve_left (fun h=>absurd h.1 (by decide));refine pY ha (yMove rfl) fun a ha=>?_;refine pY ha (yExtract rfl rfl) fun a ha=>?_;refine pY ha (yExtract rfl rfl) fun a ha=>?_;refine pY ha (yAssign rfl) fun a ha=>?_;refine pY ha (yAssign rfl) fun a ha=>?_;refine pZ ?_;refine hK3 _ _ ?_;refine wp_seq_k fun K4 hK4=>?_;refine wp_seq_k fun K5 hK5=>?_;refine wp_region_lit ?_;refine pY ha (yMove rfl) fun a ha=>?_;refine pY ha (yNeq rfl rfl) fun a ha=>?_;refine pY ha (yMove rfl) fun a ha=>?_;refine gOn ha ?_;refine pY ha (yMove rfl) fun a ha=>?_;refine gOn ha ?_;refine pY ha (yPtrEqlN Tryz.underlying25 rfl rfl) fun a ha=>?_;refine pY ha (yPickF rfl rfl) fun a ha=>?_;refine pY ha (yMove rfl) fun a ha=>?_;refine gOn ha ?_;refine pY ha (yMove rfl) fun a ha=>?_;refine gOn ha ?_;refine pY ha (yNeq rfl rfl) fun a ha=>?_;refine pY ha (yPickF rfl rfl) fun a ha=>?_;refine pZ ?_;refine hK5 _ _ ?_;refine cFalse ha rfl ?_;refine wp_skip ?_;refine hK4 _ _ ?_;refine wp_seq_k fun K6 hK6=>?_;refine wp_region_lit ?_;refine pY ha (yMove rfl) fun a ha=>?_;refine pY ha (bldAwk2333_0_1_3 rfl rfl rfl) fun a ha=>?_;refine pMake ha (bslAwk2322_1_0 rfl) hs rfl fun ba w hs a ha=>?_
  have hs:=(hs.add (x:=.el kActn awA [.int .i64 1,.int .i64 1,.int .i64 0,.string ⟨#[97]⟩,.bool false,.slice none 0 0]) (fun Z=>⟨none,0,0,rfl,Kd.sl_nil _ _⟩)).one_rd (.there .here) .here
  refine pC ha (nCall Tryz.call7 rfl) rfl (CEdit_c hT (l:=[awA]) (aw_ok (.inl rfl)) (by decide) (by simp [awA]) (by simp [aw_m]) (by simp) hs pk1 pk0) ?_;rintro v w ⟨rfl,hs⟩ a ha;rw [he1,he2] at *;refine pY ha (yAssign rfl) fun a ha=>?_;refine pZ ?_;refine hK6 _ _ ?_;refine wp_seq_k fun K7 hK7=>?_;refine wp_region_lit ?_;refine pY ha (yMove rfl) fun a ha=>?_;refine pC ha (nCall Tryz.call10 rfl) rfl (COut_c (aw_ok (.inr (.inl rfl))) hs pk0) ?_;rintro v w ⟨es,rfl,hs⟩ a ha;obtain ⟨B1,p1,q1,B2,p2,q2,B3,p3,q3,rfl,hs⟩:=hs.el_msg .here;rw [show cOut aw1 = aw1 from rfl] at hs;rw [show cOutM aw1 = ⟨1,3,0,0,0,[],[],[],0⟩ from rfl] at *;refine pAlloc (zs:=[.int .i64 0,.int .i64 0,.int .i64 0,.int .i64 0,.int .i64 0,.slice none 0 0,.slice none 0 0,.slice none 0 0,.int .i64 0]) ha Tryz.zeroValue39 rfl hs rfl fun b6 w hs a ha=>?_;refine pStoreA ha Tryz.sizeOf39 hs rfl rfl pk0 rfl rfl rfl fun w hs=>?_;refine pZ ?_;refine hK7 _ _ ?_;refine wp_seq_k fun K8 hK8=>?_;refine wp_region_lit ?_;refine pY ha (yMove rfl) fun a ha=>?_;refine pY ha (bldAwk2339_0_1 rfl rfl) fun a ha=>?_;have hs:=hs.msg_none 4 3 0 0 0 0;refine pC ha (nCall Tryz.call11 rfl) rfl (CInW_c hT (m:=awW) (q:=aw1) (by decide) rfl hmw.1 hmw.2 hs pk6 pk0) ?_;rintro v w ⟨rfl,hs⟩ a ha;rw [aw_wel] at *;rw [if_pos rfl] at *;rw [show cWel aw1 awW = aw2 from rfl] at hs;refine pY ha (yAssign rfl) fun a ha=>?_;refine pZ ?_;refine hK8 _ _ ?_;refine wp_seq_k fun K9 hK9=>?_;refine wp_region_lit ?_;refine pY ha (yMove rfl) fun a ha=>?_;refine pC ha (nCall Tryz.call10 rfl) rfl (COut_c (aw_ok (.inr (.inr (.inl rfl)))) hs pk0) ?_;rintro v w ⟨es,rfl,hs⟩ a ha;obtain ⟨D1,s1,t1,D2,s2,t2,D3,s3,t3,rfl,hs⟩:=hs.el_msg .here;rw [show cOut aw2 = aw3 from rfl] at hs;rw [show cOutM aw2 = ⟨2,3,1,0,0,[awA],[],[],0⟩ from rfl] at *;obtain ⟨rfl,_⟩:=hs.rd_shape (show Pick _ (.rd kActn (.slice D1 _ _) [awA]) _ from .here);refine pAlloc (zs:=[.int .i64 0,.int .i64 0,.int .i64 0,.int .i64 0,.int .i64 0,.slice none 0 0,.slice none 0 0,.slice none 0 0,.int .i64 0]) ha Tryz.zeroValue39 rfl hs rfl fun b8 w hs a ha=>?_;refine pStoreA ha Tryz.sizeOf39 hs rfl rfl pk0 rfl rfl rfl fun w hs=>?_;refine pZ ?_;refine hK9 _ _ ?_;refine wp_seq_k fun K10 hK10=>?_;refine wp_region_lit ?_;refine pY ha (yMove rfl) fun a ha=>?_;refine pC ha (nCall Tryz.call14 rfl) rfl (CView_c hT (aw_ok (.inr (.inr (.inr rfl)))) hs pk5) ?_;rintro v w ⟨bv,bm,rfl,hs⟩ a ha;refine pY ha (yAssign rfl) fun a ha=>?_;refine pZ ?_;refine hK10 _ _ ?_;refine wp_seq_k fun K11 hK11=>?_;refine wp_region_lit ?_;refine pY ha (yMove rfl) fun a ha=>?_;refine pY ha (yEql rfl rfl) fun a ha=>?_;refine pY ha (yMove rfl) fun a ha=>?_;refine gOn ha ?_;refine pY ha (yFieldA Tryz.runUnderlying39 rfl Tryz.sizeOf3 rfl rfl) fun a ha=>?_;refine gOn ha ?_;refine pY ha (yLoadB Tryz.isAgg3 hs rfl pk9 rfl) fun a ha=>?_;refine gOn ha ?_;refine pY ha (yEql rfl rfl) fun a ha=>?_;refine pY ha (yPickT rfl rfl) fun a ha=>?_;refine pY ha (yMove rfl) fun a ha=>?_;refine gOn ha ?_;refine pY ha (yMove rfl) fun a ha=>?_
  refine gOn ha ?_;refine pY ha (yEql rfl rfl) fun a ha=>?_;refine pY ha (yPickT rfl rfl) fun a ha=>?_;refine pY ha (yMove rfl) fun a ha=>?_;refine gOn ha ?_;refine pY ha (yFieldA Tryz.runUnderlying39 rfl Tryz.sizeOf3 rfl rfl) fun a ha=>?_;refine gOn ha ?_;refine pY ha (yLoadB Tryz.isAgg3 hs rfl pk3 rfl) fun a ha=>?_;refine gOn ha ?_;refine pY ha (yEql rfl rfl) fun a ha=>?_;refine pY ha (yPickT rfl rfl) fun a ha=>?_;refine pY ha (yMove rfl) fun a ha=>?_;refine gOn ha ?_;refine pY ha (yFieldA Tryz.runUnderlying39 rfl Tryz.sizeOf3 rfl rfl) fun a ha=>?_;refine gOn ha ?_;refine pY ha (yLoadB Tryz.isAgg3 hs rfl pk3 rfl) fun a ha=>?_;refine gOn ha ?_;refine pY ha (yEql rfl rfl) fun a ha=>?_;refine pY ha (yPickT rfl rfl) fun a ha=>?_;refine pY ha (yMove rfl) fun a ha=>?_;refine gOn ha ?_;refine pY ha (yFieldA Tryz.runUnderlying39 rfl Tryz.sizeOf22 rfl rfl) fun a ha=>?_;refine gOn ha ?_;refine pY ha (yLoadB Tryz.isAgg22 hs rfl pk3 rfl) fun a ha=>?_;refine gOn ha ?_;refine pY ha (yLenS Tryz.runUnderlying22 rfl) fun a ha=>?_;refine gOn ha ?_;refine pY ha (yEql rfl rfl) fun a ha=>?_;refine pY ha (yPickT rfl rfl) fun a ha=>?_;refine pY ha (yMove rfl) fun a ha=>?_;refine gOn ha ?_;refine pY ha (yMove rfl) fun a ha=>?_;refine gOn ha ?_;refine pY ha (yPtrNeqN Tryz.underlying43 rfl rfl) fun a ha=>?_;refine pY ha (yPickT rfl rfl) fun a ha=>?_;refine pY ha (yMove rfl) fun a ha=>?_;refine gOn ha ?_;refine pY ha (yMove rfl) fun a ha=>?_;refine gOn ha ?_;refine pC ha (nCall Tryz.call19 rfl) rfl (TNodes_c hvo hs pk0 pk0) ?_;rintro v w ⟨A,n,rfl,hs⟩ a ha;rw [hvl] at ha;refine gOn ha ?_;refine pY ha (yLenS Tryz.runUnderlying37 rfl) fun a ha=>?_;refine gOn ha ?_;refine pY ha (yEql rfl rfl) fun a ha=>?_;refine pY ha (yPickT rfl rfl) fun a ha=>?_;refine pY ha (yMove rfl) fun a ha=>?_;refine gOn ha ?_;refine pY ha (yMove rfl) fun a ha=>?_;refine gOn ha ?_;refine pC ha (nCall Tryz.call16 rfl) rfl (CIdle_c (c:=aw3) (by decide) hs pk3) ?_;rintro v w ⟨rfl,hs⟩ a ha;refine gOn ha ?_;refine pY ha (yNot rfl) fun a ha=>?_;refine pY ha (yPickT rfl rfl) fun a ha=>?_;refine pY ha (yAssign rfl) fun a ha=>?_;refine pZ ?_;refine hK11 _ _ ?_;refine wp_ret ?_;show bodyPost Tryz.prog Tryz.f5 _ .ret _ _;refine ret1 rfl ha rfl ?_;exact ⟨rfl,by repeat first | with_reducible exact hs | replace hs:=hs.drop⟩
end
end Go.Proofs.YtabbidoanhicmaaGreatDoor

set_option linter.unusedVariables false
set_option linter.unusedSimpArgs false
namespace Go.Proofs.YtabbidoanhicmaaGreatDoor
open Go.RowKit Go.Lib Go.Proofs.YtabbidoanhicmaaGreatDoorW.PrintLast
theorem bldFull33_0_1_3 {w : World} {l : List (Nat × Value)} {T : TypeId} {x0 x1 x3 : Operand} {v0 : Value} (h0 : ev l x0 = some v0) {v1 : Value} (h1 : ev l x1 = some v1) {v3 : Value} (h3 : ev l x3 = some v3) (o0 : v0.cells = #[v0]:=by rfl) (o1 : v1.cells = #[v1]:=by rfl) (o3 : v3.cells = #[v3]:=by rfl) : Yl Tryz.prog w l (.build 33 #[(0,x0),(1,x1),(3,x3)]) T (.agg #[v0,v1,.int .i64 0,v3,.bool false,.slice none 0 0]):=fun ρ o h ho _=>by
  have hf : Instr.fill (fun i=>([(0,1),(1,1),(2,1),(3,1),(4,1),(5,1)] : List (Nat × Nat))[i]?) #[.int .i64 0,.int .i64 0,.int .i64 0,.string ⟨#[]⟩,.bool false,.slice none 0 0] [(0,v0),(1,v1),(3,v3)] = some #[v0,v1,.int .i64 0,v3,.bool false,.slice none 0 0]:=by
    refine (fill_v o0 rfl (by simp)).trans ?_;refine (fill_v o1 rfl (by simp)).trans ?_;refine (fill_v o3 rfl (by simp)).trans ?_
    simp [Instr.fill]
  unfold execOp; rw [ho]
  simp [h _ _ h0,h _ _ h1,h _ _ h3,Instr.build,Tryz.zeroValue33,Tryz.runUnderlying33,Tryz.sizeOf3,Tryz.sizeOf31,Tryz.sizeOf4,Tryz.sizeOf9,agg_cells,hf]
theorem bldFull39_0 {w : World} {l : List (Nat × Value)} {T : TypeId} {x0 : Operand} {v0 : Value} (h0 : ev l x0 = some v0) (o0 : v0.cells = #[v0]:=by rfl) : Yl Tryz.prog w l (.build 39 #[(0,x0)]) T (.agg #[v0,.int .i64 0,.int .i64 0,.int .i64 0,.int .i64 0,.slice none 0 0,.slice none 0 0,.slice none 0 0,.int .i64 0]):=fun ρ o h ho _=>by
  have hf : Instr.fill (fun i=>([(0,1),(1,1),(2,1),(3,1),(4,1),(5,1),(6,1),(7,1),(8,1)] : List (Nat × Nat))[i]?) #[.int .i64 0,.int .i64 0,.int .i64 0,.int .i64 0,.int .i64 0,.slice none 0 0,.slice none 0 0,.slice none 0 0,.int .i64 0] [(0,v0)] = some #[v0,.int .i64 0,.int .i64 0,.int .i64 0,.int .i64 0,.slice none 0 0,.slice none 0 0,.slice none 0 0,.int .i64 0]:=by
    refine (fill_v o0 rfl (by simp)).trans ?_
    simp [Instr.fill]
  unfold execOp; rw [ho]
  simp [h _ _ h0,Instr.build,Tryz.zeroValue39,Tryz.runUnderlying39,Tryz.sizeOf22,Tryz.sizeOf3,Tryz.sizeOf36,Tryz.sizeOf37,agg_cells,hf]
theorem bslFull22_1_0 {w : World} {l : List (Nat × Value)} {T : TypeId} {x0 : Operand} {c0 : List Value} (h0 : ev l x0 = some (.agg c0.toArray)) (n0 : c0.length = 6:=by rfl) : Mk Tryz.prog w l (.buildSlice 22 1 #[(0,x0)]) T 33 1 c0:=fun ρ o h ho _=>by
  unfold execOp; rw [ho];exact mk1 (P:=Tryz.prog) w Tryz.runUnderlying22 Tryz.sizeOf33 Tryz.zeroValue33 (by decide) (by decide) n0 (h _ _ h0)
section
variable {P : Program} {w : World} {l : List (Nat × Value)} {x y : Operand} {T U U' : TypeId}
theorem yStrAdd {s t : ByteArray} (hx : ev l x = some (.string s)) (hy : ev l y = some (.string t)) (hb : s.size + t.size≤1000000000) : Yl P w l (.binOp .add U x y U') T (.string (s++t)) :=
  yBin hx hy (fun _ _=>by rw [eqGuard_at_string]; rfl) (by
    have h : ¬ IntKind.i64.max < ((s.size : Int) + (t.size : Int)):=by rw [show IntKind.i64.max = 9223372036854775807 from rfl]; omega
    simp [binOp,Op.stringOp]
    omega)
end
theorem block_size (m : Nat) (k : Int) : (⟨(blockL m k).toArray⟩ : ByteArray).size = m:=by simp [ByteArray.size,blockL]
section
variable {W w : World} {cs r r2 : List Ch}
theorem ClientFull_c (hT : Tabs W) {A4 : Option Addr} {n4 c4 : Nat} {xs : List Actn} (n : Int) (hga : ∀ a ∈ xs,gA a) (hs : Sep W w cs) (hk2 : Pick cs (.rd kActn (.slice A4 n4 c4) xs) r2) :
    Calls Tryz.prog 3 #[.int .i64 n,.slice A4 n4 c4] w (Rt fun v w'=>v = .bool true∧∃ rs,Sep W w' rs):=by
  obtain ⟨rfl,hl4⟩:=hs.rd_shape hk2;unfold maxLen at hl4;have hs:=hs.pick hk2
  have hga' : ∀ a ∈ xs,a.name.size≤9223372036854775807∧∀ z ∈ a.ops,z.text.size≤9223372036854775807:=fun a q=>⟨(hga a q).1,fun z q2=>((hga a q).2 z q2).2⟩
  refine enter Tryz.func3 Tryz.ntmps3 rfl rfl fun a (ha : Has a 117 [(0,_),(1,_)])=>?_;refine wp_seq_k fun K1 hK1=>?_;refine wp_region_lit ?_;refine pY ha (yAssign rfl) fun a ha=>?_;refine pZ ?_;refine hK1 _ _ ?_;refine wp_seq_k fun K2 hK2=>?_;refine wp_seq_k fun K3 hK3=>?_;refine cutC (fun a w=>∃ g : Bool,(g = false→0≤n∧n≤52)∧Has a 117 [(20,.bool g),(0,.int .i64 n),(1,.slice A4 xs.length c4)]∧Sep W w (.rd kActn (.slice A4 xs.length c4) xs::r2)) ?_ ?_
  · refine wp_region_lit ?_;refine pY ha (yMove rfl) fun a ha=>?_;refine pY ha (yLss rfl rfl) fun a ha=>?_;refine pY ha (yMove rfl) fun a ha=>?_;refine gDec (t:=12) ha rfl (fun hg2 hp2=>?_) (fun hg2 hp2=>?_)
    · rw [hg2] at ha;refine gOn ha ?_;refine pY ha (yMove rfl) fun a ha=>?_;refine gOn ha ?_;refine pY ha (yGtr rfl rfl) fun a ha=>?_;refine pY ha (yPickF rfl rfl) fun a ha=>?_;refine pY ha (yMove rfl) fun a ha=>?_;refine gSplit (t:=16) ha rfl (fun hg6=>?_) (fun hg6=>?_)
      · rw [hg6] at ha;refine gOn ha ?_;refine pY ha (yMove rfl) fun a ha=>?_;refine gOn ha ?_;refine pC ha (nCall Tryz.call4 rfl) rfl (WgActns_c (lim:=500) (xs:=xs) (by decide) hga' hs pk0) ?_;rintro v w ⟨R,rfl,hR1,hR2,hs⟩ a ha;refine gOn ha ?_;refine pY ha (yGtr rfl rfl) fun a ha=>?_;refine pY ha (yPickF rfl rfl) fun a ha=>?_;refine pZ ⟨rfl,?_⟩;refine ⟨_,fun h=>?_,has3 ha rfl rfl rfl,(by exact hs)⟩;exact ⟨by simpa using hg2,by simpa using hg6⟩
      · rw [hg6] at ha;refine gOff ha fun a ha=>?_;refine gOff ha fun a ha=>?_;refine gOff ha fun a ha=>?_;refine pY ha (yPickT rfl rfl) fun a ha=>?_;refine pZ ⟨rfl,?_⟩;refine ⟨_,fun h=>?_,has3 ha rfl rfl rfl,(by exact hs)⟩
        (cases h; done)
    · rw [hg2] at ha;refine gOff ha fun a ha=>?_;refine gOff ha fun a ha=>?_;refine pY ha (yPickT rfl rfl) fun a ha=>?_;refine pY ha (yMove rfl) fun a ha=>?_;refine gOff ha fun a ha=>?_;refine gOff ha fun a ha=>?_;refine gOff ha fun a ha=>?_;refine pY ha (yPickT rfl rfl) fun a ha=>?_;refine pZ ⟨rfl,?_⟩;refine ⟨_,fun h=>?_,has3 ha rfl rfl rfl,(by exact hs)⟩
      (cases h; done)
  rintro a w ⟨g,hg20,ha,hs⟩;refine hK3 _ _ ?_;refine cSplit ha rfl (fun hc20=>?_) (fun hc20=>?_)
  · refine wp_seq_k fun K4 hK4=>?_;refine wp_region_lit ?_;refine pC ha (nCall Tryz.call5 rfl) rfl (awake23_c hT hs) ?_;rintro v w ⟨rfl,hs⟩ a ha;refine pY ha (yAssign rfl) fun a ha=>?_;refine pZ ?_;refine hK4 _ _ ?_;refine wp_ret ?_;show bodyPost Tryz.prog Tryz.f3 _ .ret _ _;refine ret1 rfl ha rfl ?_;exact ⟨rfl,_,hs⟩
  · obtain ⟨hn0,hn52⟩:=hg20 hc20;refine wp_skip ?_;refine hK2 _ _ ?_;refine wp_seq_k fun K5 hK5=>?_;refine wp_region_lit ?_;refine pC ha (nCall Tryz.call6 rfl) rfl (CNew_c 1 hs) ?_;rintro v w hd a ha;obtain ⟨_,_,bc,rfl,hs⟩:=hd.resolve_right (fun h=>h.1 (by decide));refine pY ha (yMove rfl) fun a ha=>?_;refine pY ha (yExtract rfl rfl) fun a ha=>?_;refine pY ha (yExtract rfl rfl) fun a ha=>?_;refine pY ha (yAssign rfl) fun a ha=>?_;refine pY ha (yAssign rfl) fun a ha=>?_;refine pZ ?_;refine hK5 _ _ ?_;refine wp_seq_k fun K6 hK6=>?_;refine wp_seq_k fun K7 hK7=>?_;refine wp_region_lit ?_;refine pY ha (yMove rfl) fun a ha=>?_;refine pY ha (yNeq rfl rfl) fun a ha=>?_;refine pY ha (yMove rfl) fun a ha=>?_;refine gOn ha ?_;refine pY ha (yMove rfl) fun a ha=>?_;refine gOn ha ?_;refine pY ha (yPtrEqlN Tryz.underlying25 rfl rfl) fun a ha=>?_;refine pY ha (yPickF rfl rfl) fun a ha=>?_;refine pZ ?_;refine hK7 _ _ ?_;refine cFalse ha rfl ?_;refine wp_skip ?_;refine hK6 _ _ ?_;refine wp_seq_k fun K8 hK8=>?_;refine wp_seq_k fun K9 hK9=>?_;refine wp_region_lit ?_;refine pY ha (yAssign rfl) fun a ha=>?_;refine pZ ?_;refine hK9 _ _ ?_;refine wp_block ?_;refine loopI (ι:=Nat) (fun i a w=>(i : Int)≤n∧Has a 117 [(0,.int .i64 n),(1,.slice A4 xs.length c4),(5,.pointer (some ⟨bc,0,none⟩)),(7,.int .i64 i)]∧Sep W w (.cli true bc (cF i)::.rd kActn (.slice A4 xs.length c4) xs::r2)) (fun i=>60 - i) (0) ?_ ?_
    · exact ⟨hn0,has4 ha rfl rfl rfl rfl,hs⟩
    · rintro i a w ⟨h1,ha,hs⟩;refine wp_seq_k fun K10 hK10=>?_;refine wp_seq_k fun K11 hK11=>?_;refine wp_region_lit ?_;refine pY ha (yMove rfl) fun a ha=>?_;refine pY ha (yMove rfl) fun a ha=>?_;refine pY ha (yLss rfl rfl) fun a ha=>?_;refine pZ ?_;refine hK11 _ _ ?_;refine cDec ha rfl (fun hc34=>?_) (fun hc34=>?_)
      · refine wp_skip ?_;refine hK10 _ _ ?_;refine wp_seq_k fun K12 hK12=>?_;refine wp_block ?_;refine wp_seq_k fun K13 hK13=>?_;refine wp_region_lit ?_;refine pY ha (yAssign rfl) fun a ha=>?_;refine pZ ?_;refine hK13 _ _ ?_;refine wp_seq_k fun K14 hK14=>?_;refine wp_seq_k fun K15 hK15=>?_;refine wp_region_lit ?_;refine pY ha (yMove rfl) fun a ha=>?_;refine pY ha (yGeq rfl rfl) fun a ha=>?_;refine pZ ?_;refine hK15 _ _ ?_;refine cDec ha rfl (fun hc38=>?_) (fun hc38=>?_)
        · refine wp_region_lit ?_;refine pY ha (yAssign rfl) fun a ha=>?_;refine pZ ?_;refine hK14 _ _ ?_;refine wp_seq_k fun K16 hK16=>?_;refine wp_region_lit ?_;refine pY ha (yMove rfl) fun a ha=>?_;refine pY ha (yMove rfl) fun a ha=>?_;refine pY ha (yAddN rfl rfl ⟨by omega,by omega⟩) fun a ha=>?_;refine pY ha (yMove rfl) fun a ha=>?_;refine pC ha (nCall Tryz.call8 rfl) rfl (Block_c 1 (i : Int) (by decide) (by omega) (by omega) hs) ?_;rintro v w ⟨rfl,hs⟩ a ha;refine pY ha (yStrAdd rfl rfl (by rw [block_size]; decide)) fun a ha=>?_;refine pY ha (yMove rfl) fun a ha=>?_;refine pY ha (yQuo rfl rfl (by omega) (by omega) (by omega)) fun a ha=>?_;refine pC ha (nCall Tryz.call8 rfl) rfl (Block_c 2 ((i / 26 : Nat) : Int) (by decide) (by omega) (by omega) hs) ?_;rintro v w ⟨rfl,hs⟩ a ha;refine pY ha (yStrAdd rfl rfl (by rw [block_size,ByteArray.size_append,block_size]; decide)) fun a ha=>?_;refine pY ha (bldFull33_0_1_3 rfl rfl rfl) fun a ha=>?_;refine pMake ha (bslFull22_1_0 rfl) hs rfl fun ba w hs a ha=>?_
          have hs:=(hs.add (x:=.el kActn (actF i) [.int .i64 1,.int .i64 ((i : Int) + 1),.int .i64 0,.string (nameF i),.bool false,.slice none 0 0]) (fun Z=>⟨none,0,0,rfl,Kd.sl_nil _ _⟩)).one_rd (.there .here) .here
          refine pC ha (nCall Tryz.call7 rfl) rfl (CEdit_c hT (q:=cF i) (l:=[actF i]) okF (by rw [cF_len]; omega) (by simp [actF]) (by simp [mA_F (show i≤60 by omega)]) (by simp) hs pk1 pk0) ?_;rintro v w ⟨rfl,hs⟩ a ha;rw [editF,editFC] at *;rw [if_neg (show ¬ i < 50 by omega)] at ha;refine pY ha (yMove rfl) fun a ha=>?_;refine pY ha (yNeq rfl rfl) fun a ha=>?_;refine pZ ?_;refine hK16 _ _ ?_;refine cNDec ha rfl (fun hc53=>?_) (fun hc53=>?_)
          · exact absurd rfl hc53
          · refine wp_skip ?_;refine hK12 _ _ ?_;refine wp_region_lit ?_;refine pY ha (yMove rfl) fun a ha=>?_;refine pY ha (yAddN rfl rfl ⟨by omega,by omega⟩) fun a ha=>?_;refine pY ha (yAssign rfl) fun a ha=>?_;refine pZ ?_;exact ⟨i + 1,⟨by omega,has4 ha rfl rfl rfl rfl,(by exact hs.to (by repeat first | exact Picks.refl | refine Picks.cons (by first | exact pk0 | exact pk1 | exact pk2 | exact pk3 | exact pk4 | exact pk5 | exact pk6 | exact pk7 | exact pk8 | exact pk9 | exact pk10 | exact pk11 | exact pk12 | exact pk13 | exact pk14 | exact pk15 | exact pk16 | exact pk17 | exact pk18 | exact pk19 | exact pk20 | exact pk21 | exact pk22 | exact pk23 | exact pk24 | exact pk25 | exact pk26 | exact pk27 | exact pk28 | exact pk29 | exact pk30 | exact pk31) ?_ | refine Picks.skip ?_))⟩,by omega⟩
        · refine wp_skip ?_;refine hK14 _ _ ?_;refine wp_seq_k fun K17 hK17=>?_;refine wp_region_lit ?_;refine pY ha (yMove rfl) fun a ha=>?_;refine pY ha (yMove rfl) fun a ha=>?_;refine pY ha (yAddN rfl rfl ⟨by omega,by omega⟩) fun a ha=>?_;refine pY ha (yMove rfl) fun a ha=>?_;refine pC ha (nCall Tryz.call8 rfl) rfl (Block_c 1 (i : Int) (by decide) (by omega) (by omega) hs) ?_;rintro v w ⟨rfl,hs⟩ a ha;refine pY ha (yStrAdd rfl rfl (by rw [block_size]; decide)) fun a ha=>?_;refine pY ha (yMove rfl) fun a ha=>?_;refine pY ha (yQuo rfl rfl (by omega) (by omega) (by omega)) fun a ha=>?_;refine pC ha (nCall Tryz.call8 rfl) rfl (Block_c 2 ((i / 26 : Nat) : Int) (by decide) (by omega) (by omega) hs) ?_;rintro v w ⟨rfl,hs⟩ a ha;refine pY ha (yStrAdd rfl rfl (by rw [block_size,ByteArray.size_append,block_size]; decide)) fun a ha=>?_;refine pY ha (bldFull33_0_1_3 rfl rfl rfl) fun a ha=>?_;refine pMake ha (bslFull22_1_0 rfl) hs rfl fun ba w hs a ha=>?_
          have hs:=(hs.add (x:=.el kActn (actF i) [.int .i64 1,.int .i64 ((i : Int) + 1),.int .i64 0,.string (nameF i),.bool false,.slice none 0 0]) (fun Z=>⟨none,0,0,rfl,Kd.sl_nil _ _⟩)).one_rd (.there .here) .here
          refine pC ha (nCall Tryz.call7 rfl) rfl (CEdit_c hT (q:=cF i) (l:=[actF i]) okF (by rw [cF_len]; omega) (by simp [actF]) (by simp [mA_F (show i≤60 by omega)]) (by simp) hs pk1 pk0) ?_;rintro v w ⟨rfl,hs⟩ a ha;rw [editF,editFC] at *;rw [if_pos (show i < 50 by omega)] at ha;refine pY ha (yMove rfl) fun a ha=>?_;refine pY ha (yNeq rfl rfl) fun a ha=>?_;refine pZ ?_;refine hK17 _ _ ?_;refine cNDec ha rfl (fun hc53=>?_) (fun hc53=>?_)
          · exact absurd rfl hc53
          · refine wp_skip ?_;refine hK12 _ _ ?_;refine wp_region_lit ?_;refine pY ha (yMove rfl) fun a ha=>?_;refine pY ha (yAddN rfl rfl ⟨by omega,by omega⟩) fun a ha=>?_;refine pY ha (yAssign rfl) fun a ha=>?_;refine pZ ?_;exact ⟨i + 1,⟨by omega,has4 ha rfl rfl rfl rfl,(by exact hs.to (by repeat first | exact Picks.refl | refine Picks.cons (by first | exact pk0 | exact pk1 | exact pk2 | exact pk3 | exact pk4 | exact pk5 | exact pk6 | exact pk7 | exact pk8 | exact pk9 | exact pk10 | exact pk11 | exact pk12 | exact pk13 | exact pk14 | exact pk15 | exact pk16 | exact pk17 | exact pk18 | exact pk19 | exact pk20 | exact pk21 | exact pk22 | exact pk23 | exact pk24 | exact pk25 | exact pk26 | exact pk27 | exact pk28 | exact pk29 | exact pk30 | exact pk31) ?_ | refine Picks.skip ?_))⟩,by omega⟩
      · refine wp_exit ?_;refine hK8 _ _ ?_;refine wp_seq_k fun K18 hK18=>?_;refine wp_region_lit ?_;refine pY ha (yAssign rfl) fun a ha=>?_;refine pZ ?_;refine hK18 _ _ ?_;refine wp_seq_k fun K19 hK19=>?_;have hs:=hs.rd_nil (d:=kActn);refine wp_region_lit ?_;refine pY ha (yMove rfl) fun a ha=>?_;refine pC ha (nCall Tryz.call9 rfl) rfl (CPend_c (q:=cF i) okF (by rw [cF_len]; omega) hs pk1) ?_;rintro v w ⟨B,d,rfl,hs⟩ a ha;rw [cF_len] at *;refine pY ha (yLenS Tryz.runUnderlying34 rfl) fun a ha=>?_;refine pY ha (yMove rfl) fun a ha=>?_;refine pY ha (yMin2 rfl rfl) fun a ha=>?_;refine pY ha (yEql rfl rfl) fun a ha=>?_;rw [show decide (((min i 50 : Nat) : Int) = if 50 < n then 50 else n) = true from decide_eq_true (by split <;> omega)] at ha;refine pY ha (yMove rfl) fun a ha=>?_;refine gOn ha ?_;refine pY ha (yMove rfl) fun a ha=>?_;refine gOn ha ?_;refine pC ha (nCall Tryz.call7 rfl) rfl (CEdit_c hT (q:=cF i) (l:=[]) okF (by rw [cF_len]; omega) (by simp) (by simp) (by simp) hs pk1 pk1) ?_;rintro v w ⟨rfl,hs⟩ a ha;rw [show editE (cF i) [] = 1 from rfl] at *;refine gOn ha ?_;refine pY ha (yEql rfl rfl) fun a ha=>?_;refine pY ha (yPickT rfl rfl) fun a ha=>?_;refine pY ha (yMove rfl) fun a ha=>?_;refine gOn ha ?_;refine pY ha (yMove rfl) fun a ha=>?_;refine gOn ha ?_;refine pY ha (yMove rfl) fun a ha=>?_;refine gOn ha ?_;refine pC ha (nCall Tryz.call7 rfl) rfl (CEdit0_c _ hs) ?_;rintro v w ⟨rfl,hs⟩ a ha;refine gOn ha ?_;refine pY ha (yEql rfl rfl) fun a ha=>?_;refine pY ha (yPickT rfl rfl) fun a ha=>?_;refine pY ha (yMove rfl) fun a ha=>?_;refine gOn ha ?_;refine pY ha (yMove rfl) fun a ha=>?_;refine gOn ha ?_;refine pC ha (nCall Tryz.call10 rfl) rfl (COut0_c hs) ?_;rintro v w ⟨es,rfl,hs⟩ a ha;obtain ⟨B1,p1,q1,B2,p2,q2,B3,p3,q3,rfl,hs⟩:=hs.el_msg .here;refine gOn ha ?_;refine pY ha (yField Tryz.runUnderlying39 rfl Tryz.isAgg3 rfl rfl) fun a ha=>?_;refine gOn ha ?_;refine pY ha (yEql rfl rfl) fun a ha=>?_;refine pY ha (yPickT rfl rfl) fun a ha=>?_;refine pY ha (yMove rfl) fun a ha=>?_;refine gOn ha ?_;refine pY ha (yMove rfl) fun a ha=>?_;refine gOn ha ?_;refine pY ha (bldFull39_0 rfl) fun a ha=>?_;refine gOn ha ?_;refine pC ha (nCall Tryz.call11 rfl) rfl (CIn0_c rfl hs) ?_;rintro v w ⟨rfl,hs⟩ a ha;refine gOn ha ?_;refine pY ha (yEql rfl rfl) fun a ha=>?_;refine pY ha (yPickT rfl rfl) fun a ha=>?_;refine pY ha (yMove rfl) fun a ha=>?_;refine gOn ha ?_;refine pY ha (yMove rfl) fun a ha=>?_;refine gOn ha ?_;refine pC ha (nCall Tryz.call12 rfl) rfl (CRev0_c hs) ?_;rintro v w ⟨rfl,hs⟩ a ha;refine gOn ha ?_;refine pY ha (yEql rfl rfl) fun a ha=>?_;refine pY ha (yPickT rfl rfl) fun a ha=>?_;refine pY ha (yMove rfl) fun a ha=>?_;refine gOn ha ?_;refine pY ha (yMove rfl) fun a ha=>?_;refine gOn ha ?_;refine pC ha (nCall Tryz.call13 rfl) rfl (CBase0_c hs) ?_;rintro v w ⟨rfl,hs⟩ a ha;refine gOn ha ?_;refine pY ha (yPtrEqlN Tryz.underlying43 rfl rfl) fun a ha=>?_;refine pY ha (yPickT rfl rfl) fun a ha=>?_;refine pY ha (yMove rfl) fun a ha=>?_;refine gOn ha ?_;refine pY ha (yMove rfl) fun a ha=>?_
        refine gOn ha ?_;refine pC ha (nCall Tryz.call14 rfl) rfl (CView0_c hs) ?_;rintro v w ⟨rfl,hs⟩ a ha;refine gOn ha ?_;refine pY ha (yPtrEqlN Tryz.underlying43 rfl rfl) fun a ha=>?_;refine pY ha (yPickT rfl rfl) fun a ha=>?_;refine pY ha (yMove rfl) fun a ha=>?_;refine gOn ha ?_;refine pY ha (yMove rfl) fun a ha=>?_;refine gOn ha ?_;refine pC ha (nCall Tryz.call9 rfl) rfl (CPend0_c hs) ?_;rintro v w ⟨rfl,hs⟩ a ha;refine gOn ha ?_;refine pY ha (yLenS Tryz.runUnderlying34 rfl) fun a ha=>?_;refine gOn ha ?_;refine pY ha (yEql rfl rfl) fun a ha=>?_;refine pY ha (yPickT rfl rfl) fun a ha=>?_;refine pY ha (yMove rfl) fun a ha=>?_;refine gOn ha ?_;refine pY ha (yMove rfl) fun a ha=>?_;refine gOn ha ?_;refine pC ha (nCall Tryz.call15 rfl) rfl (CLost0_c hs) ?_;rintro v w ⟨rfl,hs⟩ a ha;refine gOn ha ?_;refine pY ha (yLenS Tryz.runUnderlying45 rfl) fun a ha=>?_;refine gOn ha ?_;refine pY ha (yEql rfl rfl) fun a ha=>?_;refine pY ha (yPickT rfl rfl) fun a ha=>?_;refine pY ha (yMove rfl) fun a ha=>?_;refine gOn ha ?_;refine pY ha (yMove rfl) fun a ha=>?_;refine gOn ha ?_;refine pC ha (nCall Tryz.call16 rfl) rfl (CIdle0_c hs) ?_;rintro v w ⟨rfl,hs⟩ a ha;refine pY ha (yPickT rfl rfl) fun a ha=>?_;refine pY ha (yMove rfl) fun a ha=>?_;refine gOn ha ?_;refine pC ha (nCall Tryz.call5 rfl) rfl (awake23_c hT hs) ?_;rintro v w ⟨rfl,hs⟩ a ha;refine pY ha (yPickT rfl rfl) fun a ha=>?_;refine pY ha (yAssign rfl) fun a ha=>?_;refine pZ ?_;refine hK19 _ _ ?_;refine wp_ret ?_;show bodyPost Tryz.prog Tryz.f3 _ .ret _ _;refine ret1 rfl ha rfl ?_;exact ⟨rfl,_,hs⟩
end
end Go.Proofs.YtabbidoanhicmaaGreatDoor

set_option linter.unusedVariables false
set_option linter.unusedSimpArgs false
set_option maxRecDepth 100000
namespace Go.Proofs.YtabbidoanhicmaaGreatDoor
open Go.ChangeShapes Go.WideShapes Go.ChangeAt Go.RowKit
section
variable {H : Type} {enc : TypeId × Value→H} {P : Program} {W : World}
/-- What a world that began as W holds for reading. -/
def Old (W : World) (p : Hp→Prop) : Prop:=∀ Z : Hp,(∀ i,i < W.heap.size→Z i = W.heap[i]?)→p Z
theorem given_sl {α : Type} {d : Kd α} {ok : α→Prop} {t e : TypeId} {fuel : Nat} {cs : List Value} {y : DataW H × List MemPlace} (ht : P.underlying t = some (.slice e)) (hc : P.cellsOf e = d.sz) (hpos : 0 < d.sz)
    (hE : ∀ n cs y,DataW.trod enc P W 0 (fun _=>true) true n e cs = some y→∃ x : α,ok x∧Old W (fun Z=>d.R Z x cs))
    (h : DataW.trod enc P W 0 (fun _=>true) true fuel t cs = some y) :
    ∃ A n c xs,cs = [.slice A n c]∧Old W (fun Z=>d.sl Z (.slice A n c) xs)∧∀ x ∈ xs,ok x:=by
  rcases DataW.trod_slice ht h with ⟨rfl,_⟩ | ⟨a,len,cap,elems,rest,n,_,rfl,_,hb,hl,hm,hlen,hel,_⟩
  · exact ⟨none,0,0,[],rfl,fun Z _=>⟨none,0,rfl,Nat.le_refl _,Nat.zero_le _,fun h=>absurd h (by simp)⟩,fun x h=>(by cases h)⟩
  · rw [hc] at hel
    have each : ∀ i : Fin len,∃ x : α,ok x∧∃ ci,W.cells? 0 (a.add (i.val * d.sz)) d.sz = some ci∧Old W (fun Z=>d.R Z x ci):=fun i=>by
      have h1:=hel i.val i.isLt
      have h2 : elems[i.val]? = some (elems[i.val]'(by omega)):=List.getElem?_eq_getElem (by omega)
      rw [h2,Option.bind_eq_some_iff] at h1;obtain ⟨ci,hci,htr⟩:=h1;obtain ⟨x,hx,hR⟩:=hE _ _ _ htr;exact ⟨x,hx,ci,hci,hR⟩
    let xs : List α:=List.ofFn fun i : Fin len=>(each i).choose
    have hxl : xs.length = len:=by simp [xs]
    have hxs : ∀ i x,xs[i]? = some x→∃ hi : i < len,x = (each ⟨i,hi⟩).choose:=fun i x hx=>by
      have hi : i < len:=by rw [← hxl]; exact (List.getElem?_eq_some_iff.1 hx).1
      refine ⟨hi,?_⟩
      have:=(List.getElem?_eq_some_iff.1 hx).2
      simp only [xs,List.getElem_ofFn] at this;exact this.symm
    have h0 : ∀ i (hi : i < len) j (hj : j < d.sz),∃ ci,W.cells? 0 (a.add (i * d.sz)) d.sz = some ci:=fun i hi j hj=>by
      obtain ⟨_,ci,hci,_⟩:=(each ⟨i,hi⟩).choose_spec;exact ⟨ci,hci⟩
    refine ⟨some a,len,cap,xs,rfl,fun Z hZ=>⟨some a,cap,by rw [hxl],by rw [hxl]; exact hl,hm,fun hp=>?_⟩,fun x hx=>?_⟩
    · obtain ⟨ab,ao,spot⟩:=a
      have hp' : 0 < len:=by rw [← hxl]; exact hp
      obtain ⟨_,ci,hci,_⟩:=(each ⟨0,hp'⟩).choose_spec;obtain ⟨g1,g2,g3⟩:=World.cells?_some hci
      have hc0:=g3 0 hpos
      rw [List.getElem?_eq_getElem (by omega)] at hc0
      have hspot : spot = none:=by simpa [Addr.add] using World.cell?_spot hc0
      subst hspot;rw [add_at,add_at] at hc0
      cases hb : W.heap[ab]? with
      | none=>simp [World.cell?,hb] at hc0
      | some o=>
        cases o with
        | cells arr T fr=>
          have hlt : ab < W.heap.size:=(Array.getElem?_eq_some_iff.1 hb).1
          refine ⟨ab,ao,arr,T,fr,rfl,by rw [hZ ab hlt]; exact hb,fun i x hx=>?_⟩;obtain ⟨hi,rfl⟩:=hxs i x hx;obtain ⟨_,ci2,hci2,hR⟩:=(each ⟨i,hi⟩).choose_spec;obtain ⟨_,k2,k3⟩:=World.cells?_some hci2;refine ⟨ci2,hR Z hZ,fun j u hj=>?_⟩
          have hj' : j < d.sz:=by rw [← k2]; exact (List.getElem?_eq_some_iff.1 hj).1
          have:=k3 j hj'
          rw [add_at,add_at,hj] at this
          simpa [World.cell?,hb] using this
        | _=>simp [World.cell?,hb] at hc0
    · obtain ⟨i,hi⟩:=List.mem_iff_getElem?.1 hx;obtain ⟨hl2,rfl⟩:=hxs i x hi;exact (each ⟨i,hl2⟩).choose_spec.1
theorem st_field {t n : Nat} {fs : Array Field} {cs : List Value} {y : DataW H × List MemPlace} (ht : P.underlying t = some (.struct fs)) (h : DataW.trod enc P W 0 (fun _=>true) true n t cs = some y) :
    cs.length = P.cellsOf t∧∃ m,∀ (i : Nat) (f : Field),fs[i]? = some f→∃ z,DataW.trod enc P W 0 (fun _=>true) true m f.type ((cs.drop f.offset).take (P.cellsOf f.type)) = some z:=by
  obtain ⟨xs,m,_,_,hl,hsz,hf⟩:=DataW.trod_struct ht h;refine ⟨hl,m,fun i (f : Field) hi=>?_⟩
  have h1 : i < fs.size:=(Array.getElem?_eq_some_iff.1 hi).1
  exact ⟨xs[i]'(by omega),by rw [hf i f hi]; exact List.getElem?_eq_getElem (by omega)⟩
end
section
variable {H : Type} {enc : TypeId × Value→H} {W : World}
theorem k_int : Tryz.prog.cellsOf 3 = 1:=by kernel_rfl
theorem k_str : Tryz.prog.cellsOf 9 = 1:=by kernel_rfl
theorem k_bool : Tryz.prog.cellsOf 4 = 1:=by kernel_rfl
theorem k_comps : Tryz.prog.cellsOf 31 = 1:=by kernel_rfl
theorem k_acts : Tryz.prog.cellsOf 22 = 1:=by kernel_rfl
theorem k_nods : Tryz.prog.cellsOf 37 = 1:=by kernel_rfl
theorem big : maxLen≤9223372036854775807:=by unfold maxLen; omega
end
end Go.Proofs.YtabbidoanhicmaaGreatDoor

set_option linter.unusedVariables false
set_option linter.unusedSimpArgs false
set_option maxRecDepth 100000
namespace Go.Proofs.YtabbidoanhicmaaGreatDoor
open Go.ChangeShapes Go.WideShapes Go.ChangeAt Go.RowKit
section
variable {H : Type} {enc : TypeId × Value→H} {W : World}
theorem k_cmts : Tryz.prog.cellsOf 36 = 1:=by kernel_rfl
theorem wf_64 {n : Int} (h : (Lit.int .i64 n).wf = true) : i64 n:=by
  simp [Lit.wf,IntKind.min,IntKind.max,IntKind.signed,IntKind.bits] at h
  unfold i64; omega
theorem gm_comp (n : Nat) (cs : List Value) (y : DataW H × List MemPlace) (h : DataW.trod enc Tryz.prog W 0 (fun _=>true) true n 71 cs = some y) : ∃ x : Comp,gC x∧Old W (fun Z=>kComp.R Z x cs):=by
  obtain ⟨hl,m,hf⟩:=st_field Tryz.underlying71 h;rw [show Tryz.prog.cellsOf 71 = 3 by kernel_rfl] at hl
  match cs,hl with
  | [a,b,c],_=>
    obtain ⟨z0,h0⟩ : ∃ z,DataW.trod enc Tryz.prog W 0 (fun _=>true) true m 3 ((List.drop 0 [a,b,c]).take (Tryz.prog.cellsOf 3)) = some z:=hf 0 _ rfl;obtain ⟨z1,h1⟩ : ∃ z,DataW.trod enc Tryz.prog W 0 (fun _=>true) true m 3 ((List.drop 1 [a,b,c]).take (Tryz.prog.cellsOf 3)) = some z:=hf 1 _ rfl;obtain ⟨z2,h2⟩ : ∃ z,DataW.trod enc Tryz.prog W 0 (fun _=>true) true m 9 ((List.drop 2 [a,b,c]).take (Tryz.prog.cellsOf 9)) = some z:=hf 2 _ rfl;simp only [k_int,k_str,List.drop_zero,List.drop_succ_cons,List.take_succ_cons,List.take_zero] at h0 h1 h2;obtain ⟨k0,e0,_,_⟩:=DataW.trod_int Tryz.underlying3 h0;obtain ⟨k1,e1,w1,v1⟩:=DataW.trod_int Tryz.underlying3 h1;obtain ⟨s2,e2,_,hs2⟩:=DataW.trod_string Tryz.underlying9 h2;simp only [List.cons.injEq,and_true] at e0 e1 e2;subst e0; subst e1; subst e2;exact ⟨⟨k0,k1,s2⟩,⟨wf_64 (by assumption),Nat.le_trans hs2 big⟩,fun Z _=>rfl⟩
theorem gm_actn (n : Nat) (cs : List Value) (y : DataW H × List MemPlace) (h : DataW.trod enc Tryz.prog W 0 (fun _=>true) true n 33 cs = some y) : ∃ x : Actn,gA x∧Old W (fun Z=>kActn.R Z x cs):=by
  obtain ⟨hl,m,hf⟩:=st_field Tryz.underlying33 h;rw [show Tryz.prog.cellsOf 33 = 6 by kernel_rfl] at hl
  match cs,hl with
  | [a,b,c,d,e,f],_=>
    obtain ⟨z0,h0⟩ : ∃ z,DataW.trod enc Tryz.prog W 0 (fun _=>true) true m 3 ((List.drop 0 [a,b,c,d,e,f]).take (Tryz.prog.cellsOf 3)) = some z:=hf 0 _ rfl;obtain ⟨z1,h1⟩ : ∃ z,DataW.trod enc Tryz.prog W 0 (fun _=>true) true m 3 ((List.drop 1 [a,b,c,d,e,f]).take (Tryz.prog.cellsOf 3)) = some z:=hf 1 _ rfl;obtain ⟨z2,h2⟩ : ∃ z,DataW.trod enc Tryz.prog W 0 (fun _=>true) true m 3 ((List.drop 2 [a,b,c,d,e,f]).take (Tryz.prog.cellsOf 3)) = some z:=hf 2 _ rfl;obtain ⟨z3,h3⟩ : ∃ z,DataW.trod enc Tryz.prog W 0 (fun _=>true) true m 9 ((List.drop 3 [a,b,c,d,e,f]).take (Tryz.prog.cellsOf 9)) = some z:=hf 3 _ rfl;obtain ⟨z4,h4⟩ : ∃ z,DataW.trod enc Tryz.prog W 0 (fun _=>true) true m 4 ((List.drop 4 [a,b,c,d,e,f]).take (Tryz.prog.cellsOf 4)) = some z:=hf 4 _ rfl;obtain ⟨z5,h5⟩ : ∃ z,DataW.trod enc Tryz.prog W 0 (fun _=>true) true m 31 ((List.drop 5 [a,b,c,d,e,f]).take (Tryz.prog.cellsOf 31)) = some z:=hf 5 _ rfl;simp only [k_int,k_str,k_bool,k_comps,k_acts,k_nods,k_cmts,List.drop_zero,List.drop_succ_cons,List.take_succ_cons,List.take_zero] at h0 h1 h2 h3 h4 h5;obtain ⟨k0,e0,_,v0⟩:=DataW.trod_int Tryz.underlying3 h0;obtain ⟨k1,e1,_,v1⟩:=DataW.trod_int Tryz.underlying3 h1;obtain ⟨k2,e2,_,v2⟩:=DataW.trod_int Tryz.underlying3 h2;obtain ⟨k3,e3,_,g3⟩:=DataW.trod_string Tryz.underlying9 h3;obtain ⟨k4,e4,_⟩:=DataW.trod_bool Tryz.underlying4 h4;obtain ⟨A5,n5,c5,k5,e5,o5,g5⟩:=given_sl (d:=kComp) Tryz.underlying31 (by kernel_rfl) (by decide) gm_comp h5;simp only [List.cons.injEq,and_true] at e0 e1 e2 e3 e4 e5;subst e0; subst e1; subst e2; subst e3; subst e4; subst e5;exact ⟨⟨k0,k1,k2,k3,k4,k5⟩,⟨Nat.le_trans g3 big,g5⟩,fun Z hZ=>⟨A5,n5,c5,rfl,o5 Z hZ⟩⟩
end
end Go.Proofs.YtabbidoanhicmaaGreatDoor

set_option linter.unusedVariables false
set_option linter.unusedSimpArgs false
set_option maxRecDepth 100000
namespace Go.Proofs.YtabbidoanhicmaaGreatDoor
open Go.ChangeShapes Go.WideShapes Go.ChangeAt Go.RowKit
section
variable {H : Type} {enc : TypeId × Value→H} {W : World}
theorem given_acts {base : Nat} {v : Value} {d : DataW H} {p : List MemPlace} (hval : Value.okWide Tryz.prog W .any base 22 v) (h : DataW.Trod enc Tryz.prog W 0 (fun _=>true) true 22 v d p) :
    ∃ A n c xs,v = .slice A n c∧Old W (fun Z=>kActn.sl Z (.slice A n c) xs)∧∀ x ∈ xs,gA x:=by
  obtain ⟨A,n,c,rfl⟩:=okWide_slice Tryz.underlying22 hval;obtain ⟨fuel,hf⟩:=h;obtain ⟨A',n',c',xs,e,o,g⟩:=given_sl (d:=kActn) Tryz.underlying22 (by kernel_rfl) (by decide) gm_actn hf;simp only [Value.cells,List.cons.injEq,and_true] at e;rw [e];exact ⟨A',n',c',xs,rfl,o,g⟩
end
end Go.Proofs.YtabbidoanhicmaaGreatDoor

