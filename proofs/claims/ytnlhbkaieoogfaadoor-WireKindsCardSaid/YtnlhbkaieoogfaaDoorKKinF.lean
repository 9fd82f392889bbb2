/- A part of the proof of WireKinds (part 6 of 6): the words and the walks. -/
import Derived.Test.YtnlhbkaieoogfaaDoorKKinE
set_option linter.unusedVariables false
set_option linter.unusedSimpArgs false
namespace Go.Proofs.YtnlhbkaieoogfaaDoor
open Go.RowKit Go.Lib Go.Proofs.YtnlhbkaieoogfaaDoorW.PrintLast
theorem head_ok {m : Msg} (hk : 1 ≤ m.kind ∧ m.kind ≤ 9) (hp : m = plainM m) (hf : fits m.client = true ∧ fits m.seq = true ∧ fits m.rev = true ∧ fits m.last = true ∧ fits m.code = true) :
    msgE m = if txnE m.acts ≠ 0 then txnE m.acts else if cmtsE m.commits ≠ 0 then cmtsE m.commits else if nodsE m.nodes ≠ 0 then nodsE m.nodes else if (bOut m).length > 65536 then 3 else 0 := by
  obtain ⟨f1, f2, f3, f4, f5⟩ := hf
  unfold msgE
  rw [if_neg (by rw [f1, f2, f3, f4, f5]; simp only [not_or]; exact ⟨by omega, by omega, fun h => h hp, by decide, by decide, by decide, by decide, by decide⟩)]
theorem bOut_le (m : Msg) : (bOut m).length ≤ (wMsg m).1.length := by
  unfold bOut; split
  · simp
  · exact Nat.le_refl _
theorem z64 : i64 0 := by decide
theorem f0 : fits 0 = true := by decide
theorem txn_nil : txnE [] = 0 := by decide
theorem nods_nil : nodsE [] = 0 := by decide
theorem cmts_nil : cmtsE [] = 0 := by decide
end Go.Proofs.YtnlhbkaieoogfaaDoor

set_option linter.unusedVariables false
set_option linter.unusedSimpArgs false
namespace Go.Proofs.YtnlhbkaieoogfaaDoor
open Go.RowKit Go.Lib Go.Proofs.YtnlhbkaieoogfaaDoorW.PrintLast
section
variable {W w : World} {cs r r2 : List Ch}
theorem Kd.sl_nil {α : Type} (d : Kd α) (Z : Hp) : d.sl Z (.slice none 0 0) [] := ⟨none, 0, rfl, Nat.le_refl _, by unfold maxLen; omega, fun h => by simp at h⟩
theorem Sep.one_rd {α : Type} {d : Kd α} {e : α} {es : List Value} {b : Nat} {T : TypeId} (hs : Sep W w cs) (hk : Pick cs (.blk b T es) r) (hk2 : Pick r (.el d e es) r2) : Sep W w (.rd d (.slice (some ⟨b, 0, none⟩) 1 1) [e] :: r2) := by
  have h1 := (hs.perm (hk.perm.trans (hk2.perm.cons _))).join
  refine h1.shut fun Z H hd hc => ?_
  obtain ⟨H1, H2, g1, g2, gd, ho, hR⟩ := hc
  refine ⟨_, 1, rfl, Nat.le_refl _, by unfold maxLen; omega, fun _ => ⟨b, 0, es.toArray, T, (0, 0), rfl, Hp.le_un_right hd _ _ (g1 _ _ ho), fun i x hx => ?_⟩⟩
  match i, hx with
  | 0, hx =>
    simp at hx
    subst hx
    exact ⟨es, d.mono (Hp.le_un_left _ _) hR, fun j u hj => by simpa using hj⟩
  | i + 1, hx => simp at hx
theorem Sep.add_cmt (hs : Sep W w cs) (n : Int) : Sep W w (.el kCmt ⟨n, 0, 0, []⟩ [.int .i64 n, .int .i64 0, .int .i64 0, .slice none 0 0] :: cs) := hs.add fun Z => ⟨none, 0, 0, rfl, Kd.sl_nil _ _⟩
theorem Sep.add_act (hs : Sep W w cs) (k n : Int) : Sep W w (.el kActn ⟨k, n, 0, emp, false, []⟩ [.int .i64 k, .int .i64 n, .int .i64 0, .string ⟨#[]⟩, .bool false, .slice none 0 0] :: cs) := hs.add fun Z => ⟨none, 0, 0, rfl, Kd.sl_nil _ _⟩
end
end Go.Proofs.YtnlhbkaieoogfaaDoor

set_option linter.unusedVariables false
set_option linter.unusedSimpArgs false
namespace Go.Proofs.YtnlhbkaieoogfaaDoor
open Go.RowKit Go.Lib Go.Proofs.YtnlhbkaieoogfaaDoorW.PrintLast
theorem bldWKin26_0_1_2_3_4_8_5_6_7 {w : World} {l : List (Nat × Value)} {T : TypeId} {x0 x1 x2 x3 x4 x8 x5 x6 x7 : Operand} {v0 : Value} (h0 : ev l x0 = some v0) {v1 : Value} (h1 : ev l x1 = some v1) {v2 : Value} (h2 : ev l x2 = some v2) {v3 : Value} (h3 : ev l x3 = some v3) {v4 : Value} (h4 : ev l x4 = some v4) {v5 : Value} (h5 : ev l x5 = some v5) {v6 : Value} (h6 : ev l x6 = some v6) {v7 : Value} (h7 : ev l x7 = some v7) {v8 : Value} (h8 : ev l x8 = some v8) (o0 : v0.cells = #[v0] := by rfl) (o1 : v1.cells = #[v1] := by rfl) (o2 : v2.cells = #[v2] := by rfl) (o3 : v3.cells = #[v3] := by rfl) (o4 : v4.cells = #[v4] := by rfl) (o8 : v8.cells = #[v8] := by rfl) (o5 : v5.cells = #[v5] := by rfl) (o6 : v6.cells = #[v6] := by rfl) (o7 : v7.cells = #[v7] := by rfl) : Yl Tryd.prog w l (.build 26 #[(0, x0), (1, x1), (2, x2), (3, x3), (4, x4), (8, x8), (5, x5), (6, x6), (7, x7)]) T (.agg #[v0, v1, v2, v3, v4, v5, v6, v7, v8]) := fun ρ o h ho _ => by
  have hf : Instr.fill (fun i => ([(0, 1), (1, 1), (2, 1), (3, 1), (4, 1), (5, 1), (6, 1), (7, 1), (8, 1)] : List (Nat × Nat))[i]?) #[.int .i64 0, .int .i64 0, .int .i64 0, .int .i64 0, .int .i64 0, .slice none 0 0, .slice none 0 0, .slice none 0 0, .int .i64 0] [(0, v0), (1, v1), (2, v2), (3, v3), (4, v4), (8, v8), (5, v5), (6, v6), (7, v7)] = some #[v0, v1, v2, v3, v4, v5, v6, v7, v8] := by
    refine (fill_v o0 (by rfl) (by simp)).trans ?_
    refine (fill_v o1 (by rfl) (by simp)).trans ?_
    refine (fill_v o2 (by rfl) (by simp)).trans ?_
    refine (fill_v o3 (by rfl) (by simp)).trans ?_
    refine (fill_v o4 (by rfl) (by simp)).trans ?_
    refine (fill_v o8 (by rfl) (by simp)).trans ?_
    refine (fill_v o5 (by rfl) (by simp)).trans ?_
    refine (fill_v o6 (by rfl) (by simp)).trans ?_
    refine (fill_v o7 (by rfl) (by simp)).trans ?_
    simp [Instr.fill]
  unfold execOp; rw [ho]
  simp [h _ _ h0, h _ _ h1, h _ _ h2, h _ _ h3, h _ _ h4, h _ _ h8, h _ _ h5, h _ _ h6, h _ _ h7, Instr.build, Tryd.zeroValue26, Tryd.runUnderlying26, Tryd.sizeOf22, Tryd.sizeOf23, Tryd.sizeOf24, Tryd.sizeOf3, agg_cells, hf]
theorem bldWKin40_0 {w : World} {l : List (Nat × Value)} {T : TypeId} {x0 : Operand} {v0 : Value} (h0 : ev l x0 = some v0) (o0 : v0.cells = #[v0] := by rfl) : Yl Tryd.prog w l (.build 40 #[(0, x0)]) T (.agg #[v0, .int .i64 0, .int .i64 0, .slice none 0 0]) := fun ρ o h ho _ => by
  have hf : Instr.fill (fun i => ([(0, 1), (1, 1), (2, 1), (3, 1)] : List (Nat × Nat))[i]?) #[.int .i64 0, .int .i64 0, .int .i64 0, .slice none 0 0] [(0, v0)] = some #[v0, .int .i64 0, .int .i64 0, .slice none 0 0] := by
    refine (fill_v o0 (by rfl) (by simp)).trans ?_
    simp [Instr.fill]
  unfold execOp; rw [ho]
  simp [h _ _ h0, Instr.build, Tryd.zeroValue40, Tryd.runUnderlying40, Tryd.sizeOf22, Tryd.sizeOf3, agg_cells, hf]
theorem bldWKin43_0_1 {w : World} {l : List (Nat × Value)} {T : TypeId} {x0 x1 : Operand} {v0 : Value} (h0 : ev l x0 = some v0) {v1 : Value} (h1 : ev l x1 = some v1) (o0 : v0.cells = #[v0] := by rfl) (o1 : v1.cells = #[v1] := by rfl) : Yl Tryd.prog w l (.build 43 #[(0, x0), (1, x1)]) T (.agg #[v0, v1, .int .i64 0, .string ⟨#[]⟩, .bool false, .slice none 0 0]) := fun ρ o h ho _ => by
  have hf : Instr.fill (fun i => ([(0, 1), (1, 1), (2, 1), (3, 1), (4, 1), (5, 1)] : List (Nat × Nat))[i]?) #[.int .i64 0, .int .i64 0, .int .i64 0, .string ⟨#[]⟩, .bool false, .slice none 0 0] [(0, v0), (1, v1)] = some #[v0, v1, .int .i64 0, .string ⟨#[]⟩, .bool false, .slice none 0 0] := by
    refine (fill_v o0 (by rfl) (by simp)).trans ?_
    refine (fill_v o1 (by rfl) (by simp)).trans ?_
    simp [Instr.fill]
  unfold execOp; rw [ho]
  simp [h _ _ h0, h _ _ h1, Instr.build, Tryd.zeroValue43, Tryd.runUnderlying43, Tryd.sizeOf3, Tryd.sizeOf4, Tryd.sizeOf41, Tryd.sizeOf9, agg_cells, hf]
theorem bldWKin50_0_2 {w : World} {l : List (Nat × Value)} {T : TypeId} {x0 x2 : Operand} {v0 : Value} (h0 : ev l x0 = some v0) {v2 : Value} (h2 : ev l x2 = some v2) (o0 : v0.cells = #[v0] := by rfl) (o2 : v2.cells = #[v2] := by rfl) : Yl Tryd.prog w l (.build 50 #[(0, x0), (2, x2)]) T (.agg #[v0, .int .i64 0, v2, .bool false, .string ⟨#[]⟩]) := fun ρ o h ho _ => by
  have hf : Instr.fill (fun i => ([(0, 1), (1, 1), (2, 1), (3, 1), (4, 1)] : List (Nat × Nat))[i]?) #[.int .i64 0, .int .i64 0, .string ⟨#[]⟩, .bool false, .string ⟨#[]⟩] [(0, v0), (2, v2)] = some #[v0, .int .i64 0, v2, .bool false, .string ⟨#[]⟩] := by
    refine (fill_v o0 (by rfl) (by simp)).trans ?_
    refine (fill_v o2 (by rfl) (by simp)).trans ?_
    simp [Instr.fill]
  unfold execOp; rw [ho]
  simp [h _ _ h0, h _ _ h2, Instr.build, Tryd.zeroValue50, Tryd.runUnderlying50, Tryd.sizeOf3, Tryd.sizeOf4, Tryd.sizeOf9, agg_cells, hf]
theorem bslWKin22_1_0 {w : World} {l : List (Nat × Value)} {T : TypeId} {x0 : Operand} {c0 : List Value} (h0 : ev l x0 = some (.agg c0.toArray)) (n0 : c0.length = 6 := by rfl) : Mk Tryd.prog w l (.buildSlice 22 1 #[(0, x0)]) T 43 1 c0 := fun ρ o h ho _ => by
  unfold execOp; rw [ho]
  exact mk1 (P := Tryd.prog) w Tryd.runUnderlying22 Tryd.sizeOf43 Tryd.zeroValue43 (by decide) (by decide) n0 (h _ _ h0)
theorem bslWKin23_1_0 {w : World} {l : List (Nat × Value)} {T : TypeId} {x0 : Operand} {c0 : List Value} (h0 : ev l x0 = some (.agg c0.toArray)) (n0 : c0.length = 4 := by rfl) : Mk Tryd.prog w l (.buildSlice 23 1 #[(0, x0)]) T 40 1 c0 := fun ρ o h ho _ => by
  unfold execOp; rw [ho]
  exact mk1 (P := Tryd.prog) w Tryd.runUnderlying23 Tryd.sizeOf40 Tryd.zeroValue40 (by decide) (by decide) n0 (h _ _ h0)
theorem bslWKin24_1_0 {w : World} {l : List (Nat × Value)} {T : TypeId} {x0 : Operand} {c0 : List Value} (h0 : ev l x0 = some (.agg c0.toArray)) (n0 : c0.length = 5 := by rfl) : Mk Tryd.prog w l (.buildSlice 24 1 #[(0, x0)]) T 50 1 c0 := fun ρ o h ho _ => by
  unfold execOp; rw [ho]
  exact mk1 (P := Tryd.prog) w Tryd.runUnderlying24 Tryd.sizeOf50 Tryd.zeroValue50 (by decide) (by decide) n0 (h _ _ h0)
def kA : Actn := ⟨2, 1, 0, emp, false, []⟩
def kC : Cmt := ⟨1, 0, 0, []⟩
def kNn : Nod := ⟨1, 0, ⟨#[97]⟩, false, emp⟩
def mK (k c s r l : Int) : Msg := ⟨k, c, s, r, 5, [kA], [kC], [kNn], l⟩
section
variable {k c s r l : Int}
theorem plain_kind (m : Msg) : (plainM m).kind = m.kind := by
  unfold plainM
  repeat' split
  all_goals rfl
theorem plain_plain (m : Msg) : plainM (plainM m) = plainM m := by
  have hk := plain_kind m
  unfold plainM at hk ⊢
  by_cases h1 : m.kind = 1
  · simp [h1]
  by_cases h2 : m.kind = 2
  · simp [h2]
  by_cases h3 : m.kind = 3
  · simp [h3]
  by_cases h4 : m.kind = 4
  · simp [h4]
  by_cases h5 : m.kind = 5
  · simp [h5]
  by_cases h6 : m.kind = 6
  · simp [h6]
  by_cases h7 : m.kind = 7
  · simp [h7]
  by_cases h8 : m.kind = 8
  · simp [h8]
  by_cases h9 : m.kind = 9
  · simp [h9]
  simp [h1, h2, h3, h4, h5, h6, h7, h8, h9]
theorem k_bad (k c s r l : Int) : msgE (mK k c s r l) = 1 := by
  apply msg_bad
  unfold badM
  by_cases h : k < 1
  · exact .inl h
  by_cases h2 : k > 9
  · exact .inr (.inl h2)
  refine .inr (.inr (.inl fun e => ?_))
  have e1 := congrArg Msg.acts e
  have e2 := congrArg Msg.commits e
  have e3 := congrArg Msg.nodes e
  unfold plainM mK at e1 e2 e3
  simp only at e1 e2 e3
  have h0 : k = 1 ∨ k = 2 ∨ k = 3 ∨ k = 4 ∨ k = 5 ∨ k = 6 ∨ k = 7 ∨ k = 8 ∨ k = 9 := by omega
  rcases h0 with rfl | rfl | rfl | rfl | rfl | rfl | rfl | rfl | rfl <;> simp at e1 e2 e3
theorem k_txn : txnE [kA] = 0 := by decide
theorem k_cmt : cmtsE [kC] = 0 := by decide
theorem k_nod : nodsE [kNn] = 0 := by
  have hn : nameOk ⟨#[97]⟩ = true := by decide
  have hs : sndN kNn = true := by
    unfold sndN kNn
    rw [hn]
    simp only [emp_ok, Bool.true_and, Bool.and_true]
    decide
  unfold nodsE loadOk
  rw [if_neg (by decide), if_pos]
  have h1 : allN (goodN [kNn]) [kNn].length = true := by
    simp only [List.length_cons, List.length_nil, allN, Bool.true_and]
    unfold goodN
    simp only [List.getD_cons_zero, hs, if_pos, Bool.true_and]
    decide
  have h2 : allN (fun i => standN [kNn] ([kNn].getD i noN)) [kNn].length = true := by decide
  have h3 : allN (aloneN [kNn]) [kNn].length = true := by decide
  rw [h1, h2, h3]
  decide
theorem k_light (k c s r l : Int) (hc : n40 c) (hs : n40 s) (hr : n40 r) (hl : n40 l) : mM (mK k c s r l) ∧ (wMsg (mK k c s r l)).1.length ≤ 8796093022208 ∧ mM (plainM (mK k c s r l)) ∧ (wMsg (plainM (mK k c s r l))).1.length ≤ 8796093022208 ∧ (wMsg (plainM (mK k c s r l))).1.length ≤ 60000 := by
  have q0 : i64 0 := z64
  have q5 : i64 5 := by decide
  have ga : ∀ a ∈ [kA], gA a := by
    intro a ha
    rw [List.mem_singleton] at ha
    subst ha
    exact ⟨(show (0 : Nat) ≤ 9223372036854775807 by decide), fun c hc => (by cases hc)⟩
  have gc : ∀ x ∈ [kC], gCm x := by
    intro x hx
    rw [List.mem_singleton] at hx
    subst hx
    exact ⟨⟨(show i64 1 by decide), z64, z64⟩, fun a ha => (by cases ha)⟩
  have gn : ∀ x ∈ [kNn], gN x := by
    intro x hx
    rw [List.mem_singleton] at hx
    subst hx
    exact ⟨(show (1 : Nat) ≤ 9223372036854775807 by decide), (show (0 : Nat) ≤ 9223372036854775807 by decide)⟩
  have w1 : tActns [kA] = 3 := by decide
  have w2 : tNods [kNn] = 4 := by decide
  have w3 : tCmts [kC] = 3 := by decide
  have m1 := light_M (m := mK k c s r l) ⟨⟨n40_64 hc, n40_64 hs, n40_64 hr, n40_64 hl, q5⟩, ga, gc, gn⟩ (by unfold tMsg mK; simp only; omega)
  have hg : gM (plainM (mK k c s r l)) ∧ tMsg (plainM (mK k c s r l)) ≤ 4000 := by
    have ea : ∀ a ∈ ([] : List Actn), gA a := fun a h => (by cases h)
    have ec : ∀ a ∈ ([] : List Cmt), gCm a := fun a h => (by cases h)
    have en : ∀ a ∈ ([] : List Nod), gN a := fun a h => (by cases h)
    have z1 : tActns [] = 0 := rfl
    have z2 : tNods [] = 0 := rfl
    have z3 : tCmts [] = 0 := rfl
    unfold plainM mK
    simp only
    repeat' split
    all_goals
      refine ⟨⟨⟨?_, ?_, ?_, ?_, ?_⟩, by assumption, by assumption, by assumption⟩, by unfold tMsg; simp only; omega⟩
    all_goals first | exact n40_64 hc | exact n40_64 hs | exact n40_64 hr | exact n40_64 hl | exact q5 | exact q0
  have m2 := light_M hg.1 hg.2
  exact ⟨m1.1, by omega, m2.1, by omega, by omega⟩
theorem k_plain (k c s r l : Int) (hc : n40 c) (hs : n40 s) (hr : n40 r) (hl : n40 l) : msgE (plainM (mK k c s r l)) = 0 ↔ 1 ≤ k ∧ k ≤ 9 := by
  have hk := plain_kind (mK k c s r l)
  have hk' : (plainM (mK k c s r l)).kind = k := hk
  constructor
  · intro h
    have := (msg_full h).1
    omega
  · intro h
    have hlen := (k_light k c s r l hc hs hr hl).2.2.2.2
    have hb := bOut_le (plainM (mK k c s r l))
    have fc : fits c = true := fits_of hc.1 hc.2
    have fs : fits s = true := fits_of hs.1 hs.2
    have fr : fits r = true := fits_of hr.1 hr.2
    have fl : fits l = true := fits_of hl.1 hl.2
    have f5 : fits 5 = true := by decide
    have hf : (fits (plainM (mK k c s r l)).client = true ∧ fits (plainM (mK k c s r l)).seq = true ∧ fits (plainM (mK k c s r l)).rev = true ∧ fits (plainM (mK k c s r l)).last = true ∧ fits (plainM (mK k c s r l)).code = true) ∧
        txnE (plainM (mK k c s r l)).acts = 0 ∧ cmtsE (plainM (mK k c s r l)).commits = 0 ∧ nodsE (plainM (mK k c s r l)).nodes = 0 := by
      have t1 := k_txn
      have t2 := k_cmt
      have t3 := k_nod
      have t4 := txn_nil
      have t5 := cmts_nil
      have t6 := nods_nil
      have z := f0
      unfold plainM mK
      simp only
      repeat' split
      all_goals exact ⟨⟨by assumption, by assumption, by assumption, by assumption, by assumption⟩, by assumption, by assumption, by assumption⟩
    rw [head_ok (by omega) (plain_plain _).symm hf.1]
    rw [hf.2.1, hf.2.2.1, hf.2.2.2]
    simp
    omega
theorem k_out (k c s r l : Int) (h : ¬ (1 ≤ k ∧ k ≤ 9)) : (plainM (mK k c s r l)).client = 0 ∧ (plainM (mK k c s r l)).rev = 0 ∧ (plainM (mK k c s r l)).acts = [] := by
  have : plainM (mK k c s r l) = ⟨k, 0, 0, 0, 0, [], [], [], 0⟩ := by
    unfold plainM mK
    simp only
    rw [if_neg (by omega), if_neg (by omega), if_neg (by omega), if_neg (by omega), if_neg (by omega), if_neg (by omega), if_neg (by omega), if_neg (by omega), if_neg (by omega)]
  rw [this]
  exact ⟨rfl, rfl, rfl⟩
theorem k_in (k c s r l : Int) (h : 1 ≤ k ∧ k ≤ 9) (hc : 1 ≤ c) (hl : 1 ≤ l) : ((plainM (mK k c s r l)).client = c ↔ k ≤ 6) ∧ ((plainM (mK k c s r l)).last = l ↔ k = 4) ∧ (((plainM (mK k c s r l)).nodes.length : Int) = 1 ↔ k = 8) := by
  have h0 : k = 1 ∨ k = 2 ∨ k = 3 ∨ k = 4 ∨ k = 5 ∨ k = 6 ∨ k = 7 ∨ k = 8 ∨ k = 9 := by omega
  rcases h0 with rfl | rfl | rfl | rfl | rfl | rfl | rfl | rfl | rfl <;> (simp [plainM, mK]; try omega)
end
section
variable {W w : World} {cs r r2 : List Ch}
theorem WireKinds_c (hT : Tabs W) (k c s rv l : Int) (hs : Sep W w cs) : Calls P 5 #[.int .i64 k, .int .i64 c, .int .i64 s, .int .i64 rv, .int .i64 l] w (Rt fun v w' => v = .bool true ∧ ∃ rs, Sep W w' rs) := by
  refine enter Tryd.func5 Tryd.ntmps5 rfl rfl fun a (ha : Has a 162 [(0, _), (1, _), (2, _), (3, _), (4, _)]) => ?_
  refine wp_seq_k fun K1 hK1 => ?_
  refine wp_region_lit ?_
  refine pY ha (yAssign (by rfl)) rfl fun a ha => ?_
  refine pZ ?_
  refine hK1 _ _ ?_
  refine wp_seq_k fun K2 hK2 => ?_
  refine wp_seq_k fun K3 hK3 => ?_
  refine cutC (fun a w => Has a 162 [(47, .bool (decide (¬ ((1 ≤ c ∧ c ≤ 1099511627776) ∧ (1 ≤ s ∧ s ≤ 1099511627776) ∧ (1 ≤ rv ∧ rv ≤ 1099511627776) ∧ (1 ≤ l ∧ l ≤ 1099511627776))))), (0, .int .i64 k), (1, .int .i64 c), (2, .int .i64 s), (3, .int .i64 rv), (4, .int .i64 l)] ∧ Sep W w cs) ?_ ?_
  · refine wp_region_lit ?_
    refine pY ha (yMove (by rfl)) rfl fun a ha => ?_
    refine pY ha (yLss (by rfl) (by rfl)) rfl fun a ha => ?_
    refine pY ha (yMove (by rfl)) rfl fun a ha => ?_
    refine gDec (t := 20) ha (by rfl) (fun hg2 hp2 => ?_) (fun hg2 hp2 => ?_)
    · rw [hg2] at ha
      have hp2 := of_decide_eq_false hg2
      refine gOn ha rfl rfl (by rfl) ?_
      refine pY ha (yMove (by rfl)) rfl fun a ha => ?_
      refine gOn ha rfl rfl (by rfl) ?_
      refine pY ha (yGtr (by rfl) (by rfl)) rfl fun a ha => ?_
      first | refine pY ha (yPickT (by rfl) (by rfl)) rfl fun a ha => ?_ | refine pY ha (yPickF (by rfl) (by rfl)) rfl fun a ha => ?_ | refine pY ha (yPick (by rfl) (by rfl) (by rfl)) rfl fun a ha => ?_
      refine pY ha (yMove (by rfl)) rfl fun a ha => ?_
      refine gSplit (t := 24) ha (by rfl) (fun hg6 => ?_) (fun hg6 => ?_)
      · rw [hg6] at ha
        have hp6 := of_decide_eq_false hg6
        refine gOn ha rfl rfl (by rfl) ?_
        refine pY ha (yMove (by rfl)) rfl fun a ha => ?_
        refine gOn ha rfl rfl (by rfl) ?_
        refine pY ha (yLss (by rfl) (by rfl)) rfl fun a ha => ?_
        first | refine pY ha (yPickT (by rfl) (by rfl)) rfl fun a ha => ?_ | refine pY ha (yPickF (by rfl) (by rfl)) rfl fun a ha => ?_ | refine pY ha (yPick (by rfl) (by rfl) (by rfl)) rfl fun a ha => ?_
        refine pY ha (yMove (by rfl)) rfl fun a ha => ?_
        refine gSplit (t := 28) ha (by rfl) (fun hg10 => ?_) (fun hg10 => ?_)
        · rw [hg10] at ha
          have hp10 := of_decide_eq_false hg10
          refine gOn ha rfl rfl (by rfl) ?_
          refine pY ha (yMove (by rfl)) rfl fun a ha => ?_
          refine gOn ha rfl rfl (by rfl) ?_
          refine pY ha (yGtr (by rfl) (by rfl)) rfl fun a ha => ?_
          first | refine pY ha (yPickT (by rfl) (by rfl)) rfl fun a ha => ?_ | refine pY ha (yPickF (by rfl) (by rfl)) rfl fun a ha => ?_ | refine pY ha (yPick (by rfl) (by rfl) (by rfl)) rfl fun a ha => ?_
          refine pY ha (yMove (by rfl)) rfl fun a ha => ?_
          refine gSplit (t := 32) ha (by rfl) (fun hg14 => ?_) (fun hg14 => ?_)
          · rw [hg14] at ha
            have hp14 := of_decide_eq_false hg14
            refine gOn ha rfl rfl (by rfl) ?_
            refine pY ha (yMove (by rfl)) rfl fun a ha => ?_
            refine gOn ha rfl rfl (by rfl) ?_
            refine pY ha (yLss (by rfl) (by rfl)) rfl fun a ha => ?_
            first | refine pY ha (yPickT (by rfl) (by rfl)) rfl fun a ha => ?_ | refine pY ha (yPickF (by rfl) (by rfl)) rfl fun a ha => ?_ | refine pY ha (yPick (by rfl) (by rfl) (by rfl)) rfl fun a ha => ?_
            refine pY ha (yMove (by rfl)) rfl fun a ha => ?_
            refine gSplit (t := 36) ha (by rfl) (fun hg18 => ?_) (fun hg18 => ?_)
            · rw [hg18] at ha
              have hp18 := of_decide_eq_false hg18
              refine gOn ha rfl rfl (by rfl) ?_
              refine pY ha (yMove (by rfl)) rfl fun a ha => ?_
              refine gOn ha rfl rfl (by rfl) ?_
              refine pY ha (yGtr (by rfl) (by rfl)) rfl fun a ha => ?_
              first | refine pY ha (yPickT (by rfl) (by rfl)) rfl fun a ha => ?_ | refine pY ha (yPickF (by rfl) (by rfl)) rfl fun a ha => ?_ | refine pY ha (yPick (by rfl) (by rfl) (by rfl)) rfl fun a ha => ?_
              refine pY ha (yMove (by rfl)) rfl fun a ha => ?_
              refine gSplit (t := 40) ha (by rfl) (fun hg22 => ?_) (fun hg22 => ?_)
              · rw [hg22] at ha
                have hp22 := of_decide_eq_false hg22
                refine gOn ha rfl rfl (by rfl) ?_
                refine pY ha (yMove (by rfl)) rfl fun a ha => ?_
                refine gOn ha rfl rfl (by rfl) ?_
                refine pY ha (yLss (by rfl) (by rfl)) rfl fun a ha => ?_
                first | refine pY ha (yPickT (by rfl) (by rfl)) rfl fun a ha => ?_ | refine pY ha (yPickF (by rfl) (by rfl)) rfl fun a ha => ?_ | refine pY ha (yPick (by rfl) (by rfl) (by rfl)) rfl fun a ha => ?_
                refine pY ha (yMove (by rfl)) rfl fun a ha => ?_
                refine gSplit (t := 44) ha (by rfl) (fun hg26 => ?_) (fun hg26 => ?_)
                · rw [hg26] at ha
                  have hp26 := of_decide_eq_false hg26
                  refine gOn ha rfl rfl (by rfl) ?_
                  refine pY ha (yMove (by rfl)) rfl fun a ha => ?_
                  refine gOn ha rfl rfl (by rfl) ?_
                  refine pY ha (yGtr (by rfl) (by rfl)) rfl fun a ha => ?_
                  first | refine pY ha (yPickT (by rfl) (by rfl)) rfl fun a ha => ?_ | refine pY ha (yPickF (by rfl) (by rfl)) rfl fun a ha => ?_ | refine pY ha (yPick (by rfl) (by rfl) (by rfl)) rfl fun a ha => ?_
                  refine pZ ⟨rfl, ?_⟩
                  first | exact ⟨has6 ha (bY (by omega)) (by rfl) (by rfl) (by rfl) (by rfl) (by rfl), hs⟩ | exact ⟨has6 ha (bT (by omega)) (by rfl) (by rfl) (by rfl) (by rfl) (by rfl), hs⟩
                · rw [hg26] at ha
                  have hp26 := of_decide_eq_true hg26
                  refine gOff ha rfl rfl (by rfl) rfl rfl fun a ha => ?_
                  refine gOff ha rfl rfl (by rfl) rfl rfl fun a ha => ?_
                  first | refine pY ha (yPickT (by rfl) (by rfl)) rfl fun a ha => ?_ | refine pY ha (yPickF (by rfl) (by rfl)) rfl fun a ha => ?_ | refine pY ha (yPick (by rfl) (by rfl) (by rfl)) rfl fun a ha => ?_
                  refine pZ ⟨rfl, ?_⟩
                  first | exact ⟨has6 ha (bY (by omega)) (by rfl) (by rfl) (by rfl) (by rfl) (by rfl), hs⟩ | exact ⟨has6 ha (bT (by omega)) (by rfl) (by rfl) (by rfl) (by rfl) (by rfl), hs⟩
              · rw [hg22] at ha
                have hp22 := of_decide_eq_true hg22
                refine gOff ha rfl rfl (by rfl) rfl rfl fun a ha => ?_
                refine gOff ha rfl rfl (by rfl) rfl rfl fun a ha => ?_
                first | refine pY ha (yPickT (by rfl) (by rfl)) rfl fun a ha => ?_ | refine pY ha (yPickF (by rfl) (by rfl)) rfl fun a ha => ?_ | refine pY ha (yPick (by rfl) (by rfl) (by rfl)) rfl fun a ha => ?_
                refine pY ha (yMove (by rfl)) rfl fun a ha => ?_
                refine gOff ha rfl rfl (by rfl) rfl rfl fun a ha => ?_
                refine gOff ha rfl rfl (by rfl) rfl rfl fun a ha => ?_
                first | refine pY ha (yPickT (by rfl) (by rfl)) rfl fun a ha => ?_ | refine pY ha (yPickF (by rfl) (by rfl)) rfl fun a ha => ?_ | refine pY ha (yPick (by rfl) (by rfl) (by rfl)) rfl fun a ha => ?_
                refine pZ ⟨rfl, ?_⟩
                first | exact ⟨has6 ha (bY (by omega)) (by rfl) (by rfl) (by rfl) (by rfl) (by rfl), hs⟩ | exact ⟨has6 ha (bT (by omega)) (by rfl) (by rfl) (by rfl) (by rfl) (by rfl), hs⟩
            · rw [hg18] at ha
              have hp18 := of_decide_eq_true hg18
              refine gOff ha rfl rfl (by rfl) rfl rfl fun a ha => ?_
              refine gOff ha rfl rfl (by rfl) rfl rfl fun a ha => ?_
              first | refine pY ha (yPickT (by rfl) (by rfl)) rfl fun a ha => ?_ | refine pY ha (yPickF (by rfl) (by rfl)) rfl fun a ha => ?_ | refine pY ha (yPick (by rfl) (by rfl) (by rfl)) rfl fun a ha => ?_
              refine pY ha (yMove (by rfl)) rfl fun a ha => ?_
              refine gOff ha rfl rfl (by rfl) rfl rfl fun a ha => ?_
              refine gOff ha rfl rfl (by rfl) rfl rfl fun a ha => ?_
              first | refine pY ha (yPickT (by rfl) (by rfl)) rfl fun a ha => ?_ | refine pY ha (yPickF (by rfl) (by rfl)) rfl fun a ha => ?_ | refine pY ha (yPick (by rfl) (by rfl) (by rfl)) rfl fun a ha => ?_
              refine pY ha (yMove (by rfl)) rfl fun a ha => ?_
              refine gOff ha rfl rfl (by rfl) rfl rfl fun a ha => ?_
              refine gOff ha rfl rfl (by rfl) rfl rfl fun a ha => ?_
              first | refine pY ha (yPickT (by rfl) (by rfl)) rfl fun a ha => ?_ | refine pY ha (yPickF (by rfl) (by rfl)) rfl fun a ha => ?_ | refine pY ha (yPick (by rfl) (by rfl) (by rfl)) rfl fun a ha => ?_
              refine pZ ⟨rfl, ?_⟩
              first | exact ⟨has6 ha (bY (by omega)) (by rfl) (by rfl) (by rfl) (by rfl) (by rfl), hs⟩ | exact ⟨has6 ha (bT (by omega)) (by rfl) (by rfl) (by rfl) (by rfl) (by rfl), hs⟩
          · rw [hg14] at ha
            have hp14 := of_decide_eq_true hg14
            refine gOff ha rfl rfl (by rfl) rfl rfl fun a ha => ?_
            refine gOff ha rfl rfl (by rfl) rfl rfl fun a ha => ?_
            first | refine pY ha (yPickT (by rfl) (by rfl)) rfl fun a ha => ?_ | refine pY ha (yPickF (by rfl) (by rfl)) rfl fun a ha => ?_ | refine pY ha (yPick (by rfl) (by rfl) (by rfl)) rfl fun a ha => ?_
            refine pY ha (yMove (by rfl)) rfl fun a ha => ?_
            refine gOff ha rfl rfl (by rfl) rfl rfl fun a ha => ?_
            refine gOff ha rfl rfl (by rfl) rfl rfl fun a ha => ?_
            first | refine pY ha (yPickT (by rfl) (by rfl)) rfl fun a ha => ?_ | refine pY ha (yPickF (by rfl) (by rfl)) rfl fun a ha => ?_ | refine pY ha (yPick (by rfl) (by rfl) (by rfl)) rfl fun a ha => ?_
            refine pY ha (yMove (by rfl)) rfl fun a ha => ?_
            refine gOff ha rfl rfl (by rfl) rfl rfl fun a ha => ?_
            refine gOff ha rfl rfl (by rfl) rfl rfl fun a ha => ?_
            first | refine pY ha (yPickT (by rfl) (by rfl)) rfl fun a ha => ?_ | refine pY ha (yPickF (by rfl) (by rfl)) rfl fun a ha => ?_ | refine pY ha (yPick (by rfl) (by rfl) (by rfl)) rfl fun a ha => ?_
            refine pY ha (yMove (by rfl)) rfl fun a ha => ?_
            refine gOff ha rfl rfl (by rfl) rfl rfl fun a ha => ?_
            refine gOff ha rfl rfl (by rfl) rfl rfl fun a ha => ?_
            first | refine pY ha (yPickT (by rfl) (by rfl)) rfl fun a ha => ?_ | refine pY ha (yPickF (by rfl) (by rfl)) rfl fun a ha => ?_ | refine pY ha (yPick (by rfl) (by rfl) (by rfl)) rfl fun a ha => ?_
            refine pZ ⟨rfl, ?_⟩
            first | exact ⟨has6 ha (bY (by omega)) (by rfl) (by rfl) (by rfl) (by rfl) (by rfl), hs⟩ | exact ⟨has6 ha (bT (by omega)) (by rfl) (by rfl) (by rfl) (by rfl) (by rfl), hs⟩
        · rw [hg10] at ha
          have hp10 := of_decide_eq_true hg10
          refine gOff ha rfl rfl (by rfl) rfl rfl fun a ha => ?_
          refine gOff ha rfl rfl (by rfl) rfl rfl fun a ha => ?_
          first | refine pY ha (yPickT (by rfl) (by rfl)) rfl fun a ha => ?_ | refine pY ha (yPickF (by rfl) (by rfl)) rfl fun a ha => ?_ | refine pY ha (yPick (by rfl) (by rfl) (by rfl)) rfl fun a ha => ?_
          refine pY ha (yMove (by rfl)) rfl fun a ha => ?_
          refine gOff ha rfl rfl (by rfl) rfl rfl fun a ha => ?_
          refine gOff ha rfl rfl (by rfl) rfl rfl fun a ha => ?_
          first | refine pY ha (yPickT (by rfl) (by rfl)) rfl fun a ha => ?_ | refine pY ha (yPickF (by rfl) (by rfl)) rfl fun a ha => ?_ | refine pY ha (yPick (by rfl) (by rfl) (by rfl)) rfl fun a ha => ?_
          refine pY ha (yMove (by rfl)) rfl fun a ha => ?_
          refine gOff ha rfl rfl (by rfl) rfl rfl fun a ha => ?_
          refine gOff ha rfl rfl (by rfl) rfl rfl fun a ha => ?_
          first | refine pY ha (yPickT (by rfl) (by rfl)) rfl fun a ha => ?_ | refine pY ha (yPickF (by rfl) (by rfl)) rfl fun a ha => ?_ | refine pY ha (yPick (by rfl) (by rfl) (by rfl)) rfl fun a ha => ?_
          refine pY ha (yMove (by rfl)) rfl fun a ha => ?_
          refine gOff ha rfl rfl (by rfl) rfl rfl fun a ha => ?_
          refine gOff ha rfl rfl (by rfl) rfl rfl fun a ha => ?_
          first | refine pY ha (yPickT (by rfl) (by rfl)) rfl fun a ha => ?_ | refine pY ha (yPickF (by rfl) (by rfl)) rfl fun a ha => ?_ | refine pY ha (yPick (by rfl) (by rfl) (by rfl)) rfl fun a ha => ?_
          refine pY ha (yMove (by rfl)) rfl fun a ha => ?_
          refine gOff ha rfl rfl (by rfl) rfl rfl fun a ha => ?_
          refine gOff ha rfl rfl (by rfl) rfl rfl fun a ha => ?_
          first | refine pY ha (yPickT (by rfl) (by rfl)) rfl fun a ha => ?_ | refine pY ha (yPickF (by rfl) (by rfl)) rfl fun a ha => ?_ | refine pY ha (yPick (by rfl) (by rfl) (by rfl)) rfl fun a ha => ?_
          refine pZ ⟨rfl, ?_⟩
          first | exact ⟨has6 ha (bY (by omega)) (by rfl) (by rfl) (by rfl) (by rfl) (by rfl), hs⟩ | exact ⟨has6 ha (bT (by omega)) (by rfl) (by rfl) (by rfl) (by rfl) (by rfl), hs⟩
      · rw [hg6] at ha
        have hp6 := of_decide_eq_true hg6
        refine gOff ha rfl rfl (by rfl) rfl rfl fun a ha => ?_
        refine gOff ha rfl rfl (by rfl) rfl rfl fun a ha => ?_
        first | refine pY ha (yPickT (by rfl) (by rfl)) rfl fun a ha => ?_ | refine pY ha (yPickF (by rfl) (by rfl)) rfl fun a ha => ?_ | refine pY ha (yPick (by rfl) (by rfl) (by rfl)) rfl fun a ha => ?_
        refine pY ha (yMove (by rfl)) rfl fun a ha => ?_
        refine gOff ha rfl rfl (by rfl) rfl rfl fun a ha => ?_
        refine gOff ha rfl rfl (by rfl) rfl rfl fun a ha => ?_
        first | refine pY ha (yPickT (by rfl) (by rfl)) rfl fun a ha => ?_ | refine pY ha (yPickF (by rfl) (by rfl)) rfl fun a ha => ?_ | refine pY ha (yPick (by rfl) (by rfl) (by rfl)) rfl fun a ha => ?_
        refine pY ha (yMove (by rfl)) rfl fun a ha => ?_
        refine gOff ha rfl rfl (by rfl) rfl rfl fun a ha => ?_
        refine gOff ha rfl rfl (by rfl) rfl rfl fun a ha => ?_
        first | refine pY ha (yPickT (by rfl) (by rfl)) rfl fun a ha => ?_ | refine pY ha (yPickF (by rfl) (by rfl)) rfl fun a ha => ?_ | refine pY ha (yPick (by rfl) (by rfl) (by rfl)) rfl fun a ha => ?_
        refine pY ha (yMove (by rfl)) rfl fun a ha => ?_
        refine gOff ha rfl rfl (by rfl) rfl rfl fun a ha => ?_
        refine gOff ha rfl rfl (by rfl) rfl rfl fun a ha => ?_
        first | refine pY ha (yPickT (by rfl) (by rfl)) rfl fun a ha => ?_ | refine pY ha (yPickF (by rfl) (by rfl)) rfl fun a ha => ?_ | refine pY ha (yPick (by rfl) (by rfl) (by rfl)) rfl fun a ha => ?_
        refine pY ha (yMove (by rfl)) rfl fun a ha => ?_
        refine gOff ha rfl rfl (by rfl) rfl rfl fun a ha => ?_
        refine gOff ha rfl rfl (by rfl) rfl rfl fun a ha => ?_
        first | refine pY ha (yPickT (by rfl) (by rfl)) rfl fun a ha => ?_ | refine pY ha (yPickF (by rfl) (by rfl)) rfl fun a ha => ?_ | refine pY ha (yPick (by rfl) (by rfl) (by rfl)) rfl fun a ha => ?_
        refine pY ha (yMove (by rfl)) rfl fun a ha => ?_
        refine gOff ha rfl rfl (by rfl) rfl rfl fun a ha => ?_
        refine gOff ha rfl rfl (by rfl) rfl rfl fun a ha => ?_
        first | refine pY ha (yPickT (by rfl) (by rfl)) rfl fun a ha => ?_ | refine pY ha (yPickF (by rfl) (by rfl)) rfl fun a ha => ?_ | refine pY ha (yPick (by rfl) (by rfl) (by rfl)) rfl fun a ha => ?_
        refine pZ ⟨rfl, ?_⟩
        first | exact ⟨has6 ha (bY (by omega)) (by rfl) (by rfl) (by rfl) (by rfl) (by rfl), hs⟩ | exact ⟨has6 ha (bT (by omega)) (by rfl) (by rfl) (by rfl) (by rfl) (by rfl), hs⟩
    · rw [hg2] at ha
      have hp2 := of_decide_eq_true hg2
      refine gOff ha rfl rfl (by rfl) rfl rfl fun a ha => ?_
      refine gOff ha rfl rfl (by rfl) rfl rfl fun a ha => ?_
      first | refine pY ha (yPickT (by rfl) (by rfl)) rfl fun a ha => ?_ | refine pY ha (yPickF (by rfl) (by rfl)) rfl fun a ha => ?_ | refine pY ha (yPick (by rfl) (by rfl) (by rfl)) rfl fun a ha => ?_
      refine pY ha (yMove (by rfl)) rfl fun a ha => ?_
      refine gOff ha rfl rfl (by rfl) rfl rfl fun a ha => ?_
      refine gOff ha rfl rfl (by rfl) rfl rfl fun a ha => ?_
      first | refine pY ha (yPickT (by rfl) (by rfl)) rfl fun a ha => ?_ | refine pY ha (yPickF (by rfl) (by rfl)) rfl fun a ha => ?_ | refine pY ha (yPick (by rfl) (by rfl) (by rfl)) rfl fun a ha => ?_
      refine pY ha (yMove (by rfl)) rfl fun a ha => ?_
      refine gOff ha rfl rfl (by rfl) rfl rfl fun a ha => ?_
      refine gOff ha rfl rfl (by rfl) rfl rfl fun a ha => ?_
      first | refine pY ha (yPickT (by rfl) (by rfl)) rfl fun a ha => ?_ | refine pY ha (yPickF (by rfl) (by rfl)) rfl fun a ha => ?_ | refine pY ha (yPick (by rfl) (by rfl) (by rfl)) rfl fun a ha => ?_
      refine pY ha (yMove (by rfl)) rfl fun a ha => ?_
      refine gOff ha rfl rfl (by rfl) rfl rfl fun a ha => ?_
      refine gOff ha rfl rfl (by rfl) rfl rfl fun a ha => ?_
      first | refine pY ha (yPickT (by rfl) (by rfl)) rfl fun a ha => ?_ | refine pY ha (yPickF (by rfl) (by rfl)) rfl fun a ha => ?_ | refine pY ha (yPick (by rfl) (by rfl) (by rfl)) rfl fun a ha => ?_
      refine pY ha (yMove (by rfl)) rfl fun a ha => ?_
      refine gOff ha rfl rfl (by rfl) rfl rfl fun a ha => ?_
      refine gOff ha rfl rfl (by rfl) rfl rfl fun a ha => ?_
      first | refine pY ha (yPickT (by rfl) (by rfl)) rfl fun a ha => ?_ | refine pY ha (yPickF (by rfl) (by rfl)) rfl fun a ha => ?_ | refine pY ha (yPick (by rfl) (by rfl) (by rfl)) rfl fun a ha => ?_
      refine pY ha (yMove (by rfl)) rfl fun a ha => ?_
      refine gOff ha rfl rfl (by rfl) rfl rfl fun a ha => ?_
      refine gOff ha rfl rfl (by rfl) rfl rfl fun a ha => ?_
      first | refine pY ha (yPickT (by rfl) (by rfl)) rfl fun a ha => ?_ | refine pY ha (yPickF (by rfl) (by rfl)) rfl fun a ha => ?_ | refine pY ha (yPick (by rfl) (by rfl) (by rfl)) rfl fun a ha => ?_
      refine pY ha (yMove (by rfl)) rfl fun a ha => ?_
      refine gOff ha rfl rfl (by rfl) rfl rfl fun a ha => ?_
      refine gOff ha rfl rfl (by rfl) rfl rfl fun a ha => ?_
      first | refine pY ha (yPickT (by rfl) (by rfl)) rfl fun a ha => ?_ | refine pY ha (yPickF (by rfl) (by rfl)) rfl fun a ha => ?_ | refine pY ha (yPick (by rfl) (by rfl) (by rfl)) rfl fun a ha => ?_
      refine pZ ⟨rfl, ?_⟩
      first | exact ⟨has6 ha (bY (by omega)) (by rfl) (by rfl) (by rfl) (by rfl) (by rfl), hs⟩ | exact ⟨has6 ha (bT (by omega)) (by rfl) (by rfl) (by rfl) (by rfl) (by rfl), hs⟩
  rintro a w ⟨ha, hs⟩
  refine hK3 _ _ ?_
  first | refine cDec ha (by rfl) (fun hc47 => ?_) (fun hc47 => ?_) | refine cSplit ha (by rfl) (fun hc47 => ?_) (fun hc47 => ?_)
  · refine wp_seq_k fun K4 hK4 => ?_
    refine wp_region_lit ?_
    refine pC ha (nCall Tryd.call7 (by rfl)) rfl (awake18_c hT hs) ?_
    rintro v w ⟨rfl, hs⟩ a ha
    refine pY ha (yAssign (by rfl)) rfl fun a ha => ?_
    refine pZ ?_
    refine hK4 _ _ ?_
    refine wp_ret ?_
    show bodyPost Tryd.prog Tryd.f5 _ .ret _ _
    refine ret1 rfl ha (by rfl) ?_
    exact ⟨rfl, _, hs⟩
  · obtain ⟨⟨r1, r2⟩, ⟨r3, r4⟩, ⟨r5, r6⟩, r7, r8⟩ := Classical.not_not.1 hc47
    have nc : n40 c := ⟨by omega, r2⟩
    have ns : n40 s := ⟨by omega, r4⟩
    have nr : n40 rv := ⟨by omega, r6⟩
    have nl : n40 l := ⟨by omega, r8⟩
    obtain ⟨q1, q2, q3, q4, q5⟩ := k_light k c s rv l nc ns nr nl
    have q6 := k_bad k c s rv l
    have q7 := k_plain k c s rv l nc ns nr nl
    have q8 := plain_plain (mK k c s rv l)
    have q9 := plain_kind (mK k c s rv l)
    refine wp_skip ?_
    refine hK2 _ _ ?_
    refine wp_seq_k fun K5 hK5 => ?_
    refine wp_region_lit ?_
    refine pY ha (yMove (by rfl)) rfl fun a ha => ?_
    refine pY ha (yMove (by rfl)) rfl fun a ha => ?_
    refine pY ha (yMove (by rfl)) rfl fun a ha => ?_
    refine pY ha (yMove (by rfl)) rfl fun a ha => ?_
    refine pY ha (yMove (by rfl)) rfl fun a ha => ?_
    refine pY ha (bldWKin43_0_1 (by rfl) (by rfl)) rfl fun a ha => ?_
    refine pMake ha (bslWKin22_1_0 (by rfl)) hs rfl fun bA w hs a ha => ?_
    have hs := (hs.add_act 2 1).one_rd (.there .here) .here
    refine pY ha (bldWKin40_0 (by rfl)) rfl fun a ha => ?_
    refine pMake ha (bslWKin23_1_0 (by rfl)) hs rfl fun bC w hs a ha => ?_
    have hs := (hs.add_cmt 1).one_rd (.there .here) .here
    refine pY ha (bldWKin50_0_2 (by rfl) (by rfl)) rfl fun a ha => ?_
    refine pMake ha (bslWKin24_1_0 (by rfl)) hs rfl fun bN w hs a ha => ?_
    have hs := (hs.add (x := .el kNod kNn [.int .i64 1, .int .i64 0, .string ⟨#[97]⟩, .bool false, .string ⟨#[]⟩]) (fun Z => rfl)).one_rd (.there .here) .here
    have hs := hs.mk_msg (x := mK k c s rv l) (.there (.there .here)) (.there .here) .here
    refine pY ha (bldWKin26_0_1_2_3_4_8_5_6_7 (by rfl) (by rfl) (by rfl) (by rfl) (by rfl) (by rfl) (by rfl) (by rfl) (by rfl)) rfl fun a ha => ?_
    refine pAlloc (zs := [.int .i64 0, .int .i64 0, .int .i64 0, .int .i64 0, .int .i64 0, .slice none 0 0, .slice none 0 0, .slice none 0 0, .int .i64 0]) ha Tryd.zeroValue26 (by rfl) hs rfl fun b11 w hs a ha => ?_
    refine pStoreA ha Tryd.sizeOf26 hs (by rfl) (by rfl) (by repeat first | exact .here | apply Pick.there) (by rfl) (by rfl) (by rfl) fun w hs => ?_
    refine pZ ?_
    refine hK5 _ _ ?_
    refine wp_seq_k fun K6 hK6 => ?_
    refine wp_region_lit ?_
    first | refine pY ha (yLoadRA Tryd.isAgg26 Tryd.sizeOf26 hs (by rfl) (by repeat first | exact .here | apply Pick.there) (by rfl)) rfl fun a ha => ?_ | refine pY ha (yLoadBA Tryd.isAgg26 Tryd.sizeOf26 hs (by rfl) (by repeat first | exact .here | apply Pick.there) (by rfl)) rfl fun a ha => ?_
    refine pC ha (nCall Tryd.call15 (by rfl)) rfl (PlainM_c (x := mK k c s rv l) q1.2.2.2.2 hs (.there .here)) ?_
    rintro v w ⟨es', rfl, hs⟩ a ha
    obtain ⟨D1, x1, y1, D2, x2, y2, D3, x3, y3, rfl, hs⟩ := hs.el_msg .here
    obtain ⟨rfl, _⟩ := hs.rd_shape .here
    obtain ⟨rfl, _⟩ := hs.rd_shape (.there (.there .here))
    refine pAlloc (zs := [.int .i64 0, .int .i64 0, .int .i64 0, .int .i64 0, .int .i64 0, .slice none 0 0, .slice none 0 0, .slice none 0 0, .int .i64 0]) ha Tryd.zeroValue26 (by rfl) hs rfl fun b12 w hs a ha => ?_
    refine pStoreA ha Tryd.sizeOf26 hs (by rfl) (by rfl) (by repeat first | exact .here | apply Pick.there) (by rfl) (by rfl) (by rfl) fun w hs => ?_
    refine pZ ?_
    refine hK6 _ _ ?_
    refine wp_seq_k fun K7 hK7 => ?_
    refine cutC (fun a w => Has a 162 [(13, .bool (decide (1 ≤ k ∧ k ≤ 9))), (0, .int .i64 k), (1, .int .i64 c), (4, .int .i64 l), (11, .pointer (some ⟨b11, 0, none⟩)), (12, .pointer (some ⟨b12, 0, none⟩))] ∧ Sep W w (.blk b12 26 [.int .i64 (plainM (mK k c s rv l)).kind, .int .i64 (plainM (mK k c s rv l)).client, .int .i64 (plainM (mK k c s rv l)).seq, .int .i64 (plainM (mK k c s rv l)).rev, .int .i64 (plainM (mK k c s rv l)).code, .slice D1 (plainM (mK k c s rv l)).acts.length y1, .slice D2 x2 y2, .slice D3 (plainM (mK k c s rv l)).nodes.length y3, .int .i64 (plainM (mK k c s rv l)).last] :: .rd kActn (.slice D1 (plainM (mK k c s rv l)).acts.length y1) (plainM (mK k c s rv l)).acts :: .rd kCmt (.slice D2 x2 y2) (plainM (mK k c s rv l)).commits :: .rd kNod (.slice D3 (plainM (mK k c s rv l)).nodes.length y3) (plainM (mK k c s rv l)).nodes :: .el kMsg (plainM (mK k c s rv l)) [.int .i64 (plainM (mK k c s rv l)).kind, .int .i64 (plainM (mK k c s rv l)).client, .int .i64 (plainM (mK k c s rv l)).seq, .int .i64 (plainM (mK k c s rv l)).rev, .int .i64 (plainM (mK k c s rv l)).code, .slice D1 (plainM (mK k c s rv l)).acts.length y1, .slice D2 x2 y2, .slice D3 (plainM (mK k c s rv l)).nodes.length y3, .int .i64 (plainM (mK k c s rv l)).last] :: .blk b11 26 [.int .i64 k, .int .i64 c, .int .i64 s, .int .i64 rv, .int .i64 5, .slice (some ⟨bA, 0, none⟩) 1 1, .slice (some ⟨bC, 0, none⟩) 1 1, .slice (some ⟨bN, 0, none⟩) 1 1, .int .i64 l] :: .el kMsg (mK k c s rv l) [.int .i64 k, .int .i64 c, .int .i64 s, .int .i64 rv, .int .i64 5, .slice (some ⟨bA, 0, none⟩) 1 1, .slice (some ⟨bC, 0, none⟩) 1 1, .slice (some ⟨bN, 0, none⟩) 1 1, .int .i64 l] :: cs)) ?_ ?_
    · refine wp_region_lit ?_
      refine pY ha (yMove (by rfl)) rfl fun a ha => ?_
      refine pY ha (yGeq (by rfl) (by rfl)) rfl fun a ha => ?_
      refine pY ha (yMove (by rfl)) rfl fun a ha => ?_
      refine gDec (t := 65) ha (by rfl) (fun hg2 hp2 => ?_) (fun hg2 hp2 => ?_)
      · rw [hg2] at ha
        have hp2 := of_decide_eq_false hg2
        refine gOff ha rfl rfl (by rfl) rfl rfl fun a ha => ?_
        refine gOff ha rfl rfl (by rfl) rfl rfl fun a ha => ?_
        first | refine pY ha (yPickT (by rfl) (by rfl)) rfl fun a ha => ?_ | refine pY ha (yPickF (by rfl) (by rfl)) rfl fun a ha => ?_ | refine pY ha (yPick (by rfl) (by rfl) (by rfl)) rfl fun a ha => ?_
        refine pY ha (yAssign (by rfl)) rfl fun a ha => ?_
        refine pZ ⟨rfl, ?_⟩
        first | exact ⟨has6 ha (bF (by omega)) (by rfl) (by rfl) (by rfl) (by rfl) (by rfl), hs⟩ | exact ⟨has6 ha (bT (by omega)) (by rfl) (by rfl) (by rfl) (by rfl) (by rfl), hs⟩
      · rw [hg2] at ha
        have hp2 := of_decide_eq_true hg2
        refine gOn ha rfl rfl (by rfl) ?_
        refine pY ha (yMove (by rfl)) rfl fun a ha => ?_
        refine gOn ha rfl rfl (by rfl) ?_
        refine pY ha (yLeq (by rfl) (by rfl)) rfl fun a ha => ?_
        first | refine pY ha (yPickT (by rfl) (by rfl)) rfl fun a ha => ?_ | refine pY ha (yPickF (by rfl) (by rfl)) rfl fun a ha => ?_ | refine pY ha (yPick (by rfl) (by rfl) (by rfl)) rfl fun a ha => ?_
        refine pY ha (yAssign (by rfl)) rfl fun a ha => ?_
        refine pZ ⟨rfl, ?_⟩
        first | exact ⟨has6 ha (bF (by omega)) (by rfl) (by rfl) (by rfl) (by rfl) (by rfl), hs⟩ | exact ⟨has6 ha (bT (by omega)) (by rfl) (by rfl) (by rfl) (by rfl) (by rfl), hs⟩
    rintro a w ⟨ha, hs⟩
    refine hK7 _ _ ?_
    refine wp_seq_k fun K8 hK8 => ?_
    refine wp_seq_k fun K9 hK9 => ?_
    have hs := hs.pick (c := .blk b11 26 [.int .i64 k, .int .i64 c, .int .i64 s, .int .i64 rv, .int .i64 5, .slice (some ⟨bA, 0, none⟩) 1 1, .slice (some ⟨bC, 0, none⟩) 1 1, .slice (some ⟨bN, 0, none⟩) 1 1, .int .i64 l]) (by repeat first | exact .here | apply Pick.there)
    refine dStart (fun w => ∃ rs, Sep W w (.blk b11 26 [.int .i64 k, .int .i64 c, .int .i64 s, .int .i64 rv, .int .i64 5, .slice (some ⟨bA, 0, none⟩) 1 1, .slice (some ⟨bC, 0, none⟩) 1 1, .slice (some ⟨bN, 0, none⟩) 1 1, .int .i64 l] :: .blk b12 26 [.int .i64 (plainM (mK k c s rv l)).kind, .int .i64 (plainM (mK k c s rv l)).client, .int .i64 (plainM (mK k c s rv l)).seq, .int .i64 (plainM (mK k c s rv l)).rev, .int .i64 (plainM (mK k c s rv l)).code, .slice D1 (plainM (mK k c s rv l)).acts.length y1, .slice D2 x2 y2, .slice D3 (plainM (mK k c s rv l)).nodes.length y3, .int .i64 (plainM (mK k c s rv l)).last] :: rs)) [] (by kernel_rfl) rfl (⟨_, hs.drew.pick (by repeat first | exact .here | apply Pick.there)⟩) ?_
    have hs := Sep.drew hs
    generalize World.drew _ = w at hs ⊢
    first | refine dT 0 rfl (by kernel_rfl) ha won0 (fun _ ⟨rs, hs⟩ => yLoadRA Tryd.isAgg26 Tryd.sizeOf26 hs (by rfl) (by repeat first | exact .here | apply Pick.there) (by rfl)) (⟨_, hs.pick (by repeat first | exact .here | apply Pick.there)⟩) rfl (fun _ _ _ h => h) fun a ha => ?_ | refine dT 0 rfl (by kernel_rfl) ha won0 (fun _ ⟨rs, hs⟩ => yLoadBA Tryd.isAgg26 Tryd.sizeOf26 hs (by rfl) (by repeat first | exact .here | apply Pick.there) (by rfl)) (⟨_, hs.pick (by repeat first | exact .here | apply Pick.there)⟩) rfl (fun _ _ _ h => h) fun a ha => ?_
    refine dC 1 rfl (by kernel_rfl) rfl ha won0 (nCall Tryd.call9 (by rfl)) rfl (MCheck_c hT q1 q2 hs (by repeat first | exact .here | apply Pick.there)) ?_
    rintro v w ⟨rfl, hs⟩
    refine ⟨⟨_, hs.pick (by repeat first | exact .here | apply Pick.there)⟩, fun a ha => ?_⟩
    rw [q6] at ha
    refine dP 2 rfl (by kernel_rfl) ha won0 (fun _ => yNeq (by rfl) (by rfl)) rfl (fun _ _ _ h => h) fun a ha => ?_
    refine dP 3 rfl (by kernel_rfl) ha won0 (fun _ => yMove (by rfl)) rfl (fun _ _ _ h => h) fun a ha => ?_
    refine gSplit (t := 72) ha (by rfl) (fun hg3 => ?_) (fun hg3 => ?_)
    · rw [hg3] at ha
      first | refine dT 4 rfl (by kernel_rfl) ha (won1 rfl rfl (by rfl)) (fun _ ⟨rs, hs⟩ => yLoadRA Tryd.isAgg26 Tryd.sizeOf26 hs (by rfl) (by repeat first | exact .here | apply Pick.there) (by rfl)) (⟨_, hs.pick (by repeat first | exact .here | apply Pick.there)⟩) rfl (fun _ _ _ h => h) fun a ha => ?_ | refine dT 4 rfl (by kernel_rfl) ha (won1 rfl rfl (by rfl)) (fun _ ⟨rs, hs⟩ => yLoadBA Tryd.isAgg26 Tryd.sizeOf26 hs (by rfl) (by repeat first | exact .here | apply Pick.there) (by rfl)) (⟨_, hs.pick (by repeat first | exact .here | apply Pick.there)⟩) rfl (fun _ _ _ h => h) fun a ha => ?_
      refine dP 7 rfl (by kernel_rfl) ha (won1 rfl rfl (by rfl)) (fun _ => yMove (by rfl)) rfl (fun _ _ _ h => h) fun a ha => ?_
      refine dC 5 rfl (by kernel_rfl) rfl ha (won1 rfl rfl (by rfl)) (nCall Tryd.call9 (by rfl)) rfl (MCheck_c hT (x := (plainM (mK k c s rv l))) q3 q4 hs (by repeat first | exact .here | apply Pick.there)) ?_
      rintro v w ⟨rfl, hs⟩
      refine ⟨⟨_, hs.pick (by repeat first | exact .here | apply Pick.there)⟩, fun a ha => ?_⟩
      refine dP 6 rfl (by kernel_rfl) ha (won1 rfl rfl (by rfl)) (fun _ => yEql (by rfl) (by rfl)) rfl (fun _ _ _ h => h) fun a ha => ?_
      refine dP 8 rfl (by kernel_rfl) ha (won1 rfl rfl (by rfl)) (fun _ => yBoolNeq Tryd.underlying4 (by rfl) (by rfl)) rfl (fun _ _ _ h => h) fun a ha => ?_
      first | refine dP 9 rfl (by kernel_rfl) ha won0 (fun _ => yPickT (by rfl) (by rfl)) rfl (fun _ _ _ h => h) fun a ha => ?_ | refine dP 9 rfl (by kernel_rfl) ha won0 (fun _ => yPickF (by rfl) (by rfl)) rfl (fun _ _ _ h => h) fun a ha => ?_ | refine dP 9 rfl (by kernel_rfl) ha won0 (fun _ => yPick (by rfl) (by rfl) (by rfl)) rfl (fun _ _ _ h => h) fun a ha => ?_
      refine dP 10 rfl (by kernel_rfl) ha won0 (fun _ => yMove (by rfl)) rfl (fun _ _ _ h => h) fun a ha => ?_
      refine gSplit (t := 79) ha (by rfl) (fun hg10 => ?_) (fun hg10 => ?_)
      · rw [hg10] at ha
        first | refine dT 11 rfl (by kernel_rfl) ha (won1 rfl rfl (by rfl)) (fun _ ⟨rs, hs⟩ => yLoadRA Tryd.isAgg26 Tryd.sizeOf26 hs (by rfl) (by repeat first | exact .here | apply Pick.there) (by rfl)) (⟨_, hs.pick (by repeat first | exact .here | apply Pick.there)⟩) rfl (fun _ _ _ h => h) fun a ha => ?_ | refine dT 11 rfl (by kernel_rfl) ha (won1 rfl rfl (by rfl)) (fun _ ⟨rs, hs⟩ => yLoadBA Tryd.isAgg26 Tryd.sizeOf26 hs (by rfl) (by repeat first | exact .here | apply Pick.there) (by rfl)) (⟨_, hs.pick (by repeat first | exact .here | apply Pick.there)⟩) rfl (fun _ _ _ h => h) fun a ha => ?_
        first | refine dT 13 rfl (by kernel_rfl) ha (won1 rfl rfl (by rfl)) (fun _ ⟨rs, hs⟩ => yLoadRA Tryd.isAgg26 Tryd.sizeOf26 hs (by rfl) (by repeat first | exact .here | apply Pick.there) (by rfl)) (⟨_, hs.pick (by repeat first | exact .here | apply Pick.there)⟩) rfl (fun _ _ _ h => h) fun a ha => ?_ | refine dT 13 rfl (by kernel_rfl) ha (won1 rfl rfl (by rfl)) (fun _ ⟨rs, hs⟩ => yLoadBA Tryd.isAgg26 Tryd.sizeOf26 hs (by rfl) (by repeat first | exact .here | apply Pick.there) (by rfl)) (⟨_, hs.pick (by repeat first | exact .here | apply Pick.there)⟩) rfl (fun _ _ _ h => h) fun a ha => ?_
        refine dC 12 rfl (by kernel_rfl) rfl ha (won1 rfl rfl (by rfl)) (nCall Tryd.call15 (by rfl)) rfl (PlainM_c (x := (plainM (mK k c s rv l))) q3.2.2.2.2 hs (by repeat first | exact .here | apply Pick.there)) ?_
        rintro v w ⟨es2, rfl, hs⟩
        refine ⟨⟨_, (hs.pick (.there (.there .here))).pick (.there (.there .here))⟩, fun a ha => ?_⟩
        refine dC 14 rfl (by kernel_rfl) rfl ha (won1 rfl rfl (by rfl)) (nCall Tryd.call12 (by rfl)) rfl (SameM_c (x := plainM (plainM (mK k c s rv l))) (y := (plainM (mK k c s rv l))) hs .here (by repeat first | exact .here | apply Pick.there)) ?_
        rintro v w ⟨rfl, hs⟩
        refine ⟨⟨_, (hs.pick (.there (.there .here))).pick (.there (.there .here))⟩, fun a ha => ?_⟩
        rw [decide_eq_true q8] at ha
        have hs := hs.drop
        refine dP 15 rfl (by kernel_rfl) ha (won1 rfl rfl (by rfl)) (fun _ => yNot (by rfl)) rfl (fun _ _ _ h => h) fun a ha => ?_
        first | refine dP 16 rfl (by kernel_rfl) ha won0 (fun _ => yPickT (by rfl) (by rfl)) rfl (fun _ _ _ h => h) fun a ha => ?_ | refine dP 16 rfl (by kernel_rfl) ha won0 (fun _ => yPickF (by rfl) (by rfl)) rfl (fun _ _ _ h => h) fun a ha => ?_ | refine dP 16 rfl (by kernel_rfl) ha won0 (fun _ => yPick (by rfl) (by rfl) (by rfl)) rfl (fun _ _ _ h => h) fun a ha => ?_
        refine dP 17 rfl (by kernel_rfl) ha won0 (fun _ => yMove (by rfl)) rfl (fun _ _ _ h => h) fun a ha => ?_
        refine gSplit (t := 86) ha (by rfl) (fun hg17 => ?_) (fun hg17 => ?_)
        · rw [hg17] at ha
          refine dP 18 rfl (by kernel_rfl) ha (won1 rfl rfl (by rfl)) (fun _ => yFieldA Tryd.runUnderlying26 rfl Tryd.sizeOf3 rfl (by rfl)) rfl (fun _ _ _ h => h) fun a ha => ?_
          first | refine dT 19 rfl (by kernel_rfl) ha (won1 rfl rfl (by rfl)) (fun _ ⟨rs, hs⟩ => yLoadB Tryd.isAgg3 hs (by rfl) (by repeat first | exact .here | apply Pick.there) (by rfl)) (⟨_, hs.pick (by repeat first | exact .here | apply Pick.there)⟩) rfl (fun _ _ _ h => h) fun a ha => ?_ | refine dT 19 rfl (by kernel_rfl) ha (won1 rfl rfl (by rfl)) (fun _ ⟨rs, hs⟩ => yLoadR Tryd.isAgg3 hs (by rfl) (by repeat first | exact .here | apply Pick.there) (by rfl)) (⟨_, hs.pick (by repeat first | exact .here | apply Pick.there)⟩) rfl (fun _ _ _ h => h) fun a ha => ?_ | refine dT 19 rfl (by kernel_rfl) ha (won1 rfl rfl (by rfl)) (fun _ ⟨rs, hs⟩ => yLoadR0 Tryd.isAgg3 hs (by rfl) (by repeat first | exact .here | apply Pick.there) (by rfl)) (⟨_, hs.pick (by repeat first | exact .here | apply Pick.there)⟩) rfl (fun _ _ _ h => h) fun a ha => ?_
          refine dP 20 rfl (by kernel_rfl) ha (won1 rfl rfl (by rfl)) (fun _ => yMove (by rfl)) rfl (fun _ _ _ h => h) fun a ha => ?_
          refine dP 21 rfl (by kernel_rfl) ha (won1 rfl rfl (by rfl)) (fun _ => yNeq (by rfl) (by rfl)) rfl (fun _ _ _ h => h) fun a ha => ?_
          first | refine dP 22 rfl (by kernel_rfl) ha won0 (fun _ => yPickT (by rfl) (by rfl)) rfl (fun _ _ _ h => h) fun a ha => ?_ | refine dP 22 rfl (by kernel_rfl) ha won0 (fun _ => yPickF (by rfl) (by rfl)) rfl (fun _ _ _ h => h) fun a ha => ?_ | refine dP 22 rfl (by kernel_rfl) ha won0 (fun _ => yPick (by rfl) (by rfl) (by rfl)) rfl (fun _ _ _ h => h) fun a ha => ?_
          refine dZ (by kernel_rfl) ?_
          refine hK9 _ _ ?_
          first | refine cNDec ha (by rfl) (fun hc91 => ?_) (fun hc91 => ?_) | refine cDec ha (by rfl) (fun hc91 => ?_) (fun hc91 => ?_) | refine cSplit ha (by rfl) (fun hc91 => ?_) (fun hc91 => ?_)
          · exact absurd q9 hc91
          · refine wp_skip ?_
            refine hK8 _ _ ?_
            refine wp_seq_k fun K10 hK10 => ?_
            refine wp_seq_k fun K11 hK11 => ?_
            refine wp_region_lit ?_
            refine pY ha (yMove (by rfl)) rfl fun a ha => ?_
            refine pY ha (yNot (by rfl)) rfl fun a ha => ?_
            refine pZ ?_
            refine hK11 _ _ ?_
            first | refine cNDec ha (by rfl) (fun hc93 => ?_) (fun hc93 => ?_) | refine cDec ha (by rfl) (fun hc93 => ?_) (fun hc93 => ?_) | refine cSplit ha (by rfl) (fun hc93 => ?_) (fun hc93 => ?_)
            · have hin : ¬ (1 ≤ k ∧ k ≤ 9) := by simpa using hc93
              obtain ⟨o1, o2, o3⟩ := k_out k c s rv l hin
              refine wp_seq_k fun K12 hK12 => ?_
              refine wp_region_lit ?_
              refine pY ha (yFieldA Tryd.runUnderlying26 rfl Tryd.sizeOf3 rfl (by rfl)) rfl fun a ha => ?_
              first | refine pY ha (yLoadB Tryd.isAgg3 hs (by rfl) (by repeat first | exact .here | apply Pick.there) (by rfl)) rfl fun a ha => ?_ | refine pY ha (yLoadR Tryd.isAgg3 hs (by rfl) (by repeat first | exact .here | apply Pick.there) (by rfl)) rfl fun a ha => ?_ | refine pY ha (yLoadR0 Tryd.isAgg3 hs (by rfl) (by repeat first | exact .here | apply Pick.there) (by rfl)) rfl fun a ha => ?_
              refine pY ha (yEql (by rfl) (by rfl)) rfl fun a ha => ?_
              refine pY ha (yMove (by rfl)) rfl fun a ha => ?_
              refine gDec (t := 97) ha (by rfl) (fun hg3 hp3 => ?_) (fun hg3 hp3 => ?_)
              · exact absurd o1 hp3
              · rw [hg3] at ha
                refine gOn ha rfl rfl (by rfl) ?_
                refine pY ha (yFieldA Tryd.runUnderlying26 rfl Tryd.sizeOf3 rfl (by rfl)) rfl fun a ha => ?_
                refine gOn ha rfl rfl (by rfl) ?_
                first | refine pY ha (yLoadB Tryd.isAgg3 hs (by rfl) (by repeat first | exact .here | apply Pick.there) (by rfl)) rfl fun a ha => ?_ | refine pY ha (yLoadR Tryd.isAgg3 hs (by rfl) (by repeat first | exact .here | apply Pick.there) (by rfl)) rfl fun a ha => ?_ | refine pY ha (yLoadR0 Tryd.isAgg3 hs (by rfl) (by repeat first | exact .here | apply Pick.there) (by rfl)) rfl fun a ha => ?_
                refine gOn ha rfl rfl (by rfl) ?_
                refine pY ha (yEql (by rfl) (by rfl)) rfl fun a ha => ?_
                first | refine pY ha (yPickT (by rfl) (by rfl)) rfl fun a ha => ?_ | refine pY ha (yPickF (by rfl) (by rfl)) rfl fun a ha => ?_ | refine pY ha (yPick (by rfl) (by rfl) (by rfl)) rfl fun a ha => ?_
                refine pY ha (yMove (by rfl)) rfl fun a ha => ?_
                refine gSplit (t := 102) ha (by rfl) (fun hg8 => ?_) (fun hg8 => ?_)
                · (rw [o2] at hg8; simp at hg8)
                · rw [hg8] at ha
                  refine gOn ha rfl rfl (by rfl) ?_
                  refine pY ha (yFieldA Tryd.runUnderlying26 rfl Tryd.sizeOf22 rfl (by rfl)) rfl fun a ha => ?_
                  refine gOn ha rfl rfl (by rfl) ?_
                  first | refine pY ha (yLoadB Tryd.isAgg22 hs (by rfl) (by repeat first | exact .here | apply Pick.there) (by rfl)) rfl fun a ha => ?_ | refine pY ha (yLoadR Tryd.isAgg22 hs (by rfl) (by repeat first | exact .here | apply Pick.there) (by rfl)) rfl fun a ha => ?_ | refine pY ha (yLoadR0 Tryd.isAgg22 hs (by rfl) (by repeat first | exact .here | apply Pick.there) (by rfl)) rfl fun a ha => ?_
                  refine gOn ha rfl rfl (by rfl) ?_
                  refine pY ha (yLenS Tryd.runUnderlying22 (by rfl)) rfl fun a ha => ?_
                  refine gOn ha rfl rfl (by rfl) ?_
                  refine pY ha (yEql (by rfl) (by rfl)) rfl fun a ha => ?_
                  first | refine pY ha (yPickT (by rfl) (by rfl)) rfl fun a ha => ?_ | refine pY ha (yPickF (by rfl) (by rfl)) rfl fun a ha => ?_ | refine pY ha (yPick (by rfl) (by rfl) (by rfl)) rfl fun a ha => ?_
                  refine pY ha (yMove (by rfl)) rfl fun a ha => ?_
                  refine gSplit (t := 108) ha (by rfl) (fun hg14 => ?_) (fun hg14 => ?_)
                  · (rw [o3] at hg14; simp at hg14)
                  · rw [hg14] at ha
                    refine gOn ha rfl rfl (by rfl) ?_
                    refine pC ha (nCall Tryd.call7 (by rfl)) rfl (awake18_c hT hs) ?_
                    rintro v w ⟨rfl, hs⟩ a ha
                    first | refine pY ha (yPickT (by rfl) (by rfl)) rfl fun a ha => ?_ | refine pY ha (yPickF (by rfl) (by rfl)) rfl fun a ha => ?_ | refine pY ha (yPick (by rfl) (by rfl) (by rfl)) rfl fun a ha => ?_
                    refine pY ha (yAssign (by rfl)) rfl fun a ha => ?_
                    refine pZ ?_
                    refine hK12 _ _ ?_
                    refine wp_ret ?_
                    show bodyPost Tryd.prog Tryd.f5 _ .ret _ _
                    refine ret1 rfl ha (by rfl) ?_
                    exact ⟨rfl, _, hs⟩
            · have hin : 1 ≤ k ∧ k ≤ 9 := by simpa using hc93
              have he := q7.2 hin
              obtain ⟨i1, i2, i3⟩ := k_in k c s rv l hin r1 r7
              have hen : encM (plainM (mK k c s rv l)) = (bOut (plainM (mK k c s rv l)), 0) := by unfold encM; rw [if_neg (by simpa using he)]
              refine wp_skip ?_
              refine hK10 _ _ ?_
              refine wp_seq_k fun K13 hK13 => ?_
              refine wp_region_lit ?_
              first | refine pY ha (yLoadRA Tryd.isAgg26 Tryd.sizeOf26 hs (by rfl) (by repeat first | exact .here | apply Pick.there) (by rfl)) rfl fun a ha => ?_ | refine pY ha (yLoadBA Tryd.isAgg26 Tryd.sizeOf26 hs (by rfl) (by repeat first | exact .here | apply Pick.there) (by rfl)) rfl fun a ha => ?_
              refine pC ha (nCall Tryd.call8 (by rfl)) rfl (Encode_c hT (x := (plainM (mK k c s rv l))) q3 q4 hs (by repeat first | exact .here | apply Pick.there)) ?_
              rintro v w ⟨A1, c1, rfl, hs⟩ a ha
              rw [hen] at ha hs
              refine pY ha (yMove (by rfl)) rfl fun a ha => ?_
              refine pY ha (yExtract (by rfl) (by rfl)) rfl fun a ha => ?_
              refine pY ha (yExtract (by rfl) (by rfl)) rfl fun a ha => ?_
              refine pY ha (yAssign (by rfl)) rfl fun a ha => ?_
              refine pY ha (yAssign (by rfl)) rfl fun a ha => ?_
              refine pZ ?_
              refine hK13 _ _ ?_
              refine wp_seq_k fun K14 hK14 => ?_
              refine wp_region_lit ?_
              refine pY ha (yMove (by rfl)) rfl fun a ha => ?_
              refine pC ha (nCall Tryd.call10 (by rfl)) rfl (Decode_c hT hs .here) ?_
              rintro v w ⟨e2, rfl, hs⟩ a ha
              rw [dec_back he] at ha hs
              obtain ⟨E1, z1, u1, E2, z2, u2, E3, z3, u3, rfl, hs⟩ := hs.el_msg .here
              simp only at ha hs
              refine pY ha (yMove (by rfl)) rfl fun a ha => ?_
              refine pY ha (yExtract (by rfl) (by rfl)) rfl fun a ha => ?_
              refine pY ha (yExtract (by rfl) (by rfl)) rfl fun a ha => ?_
              refine pAlloc (zs := [.int .i64 0, .int .i64 0, .int .i64 0, .int .i64 0, .int .i64 0, .slice none 0 0, .slice none 0 0, .slice none 0 0, .int .i64 0]) ha Tryd.zeroValue26 (by rfl) hs rfl fun b w hs a ha => ?_
              refine pStoreA ha Tryd.sizeOf26 hs (by rfl) (by rfl) (by repeat first | exact .here | apply Pick.there) (by rfl) (by rfl) (by rfl) fun w hs => ?_
              refine pY ha (yAssign (by rfl)) rfl fun a ha => ?_
              refine pZ ?_
              refine hK14 _ _ ?_
              refine wp_seq_k fun K15 hK15 => ?_
              refine wp_region_lit ?_
              refine pY ha (yMove (by rfl)) rfl fun a ha => ?_
              refine pY ha (yEql (by rfl) (by rfl)) rfl fun a ha => ?_
              refine pY ha (yMove (by rfl)) rfl fun a ha => ?_
              refine gDec (t := 123) ha (by rfl) (fun hg2 hp2 => ?_) (fun hg2 hp2 => ?_)
              · exact absurd rfl hp2
              · rw [hg2] at ha
                refine gOn ha rfl rfl (by rfl) ?_
                refine pY ha (yMove (by rfl)) rfl fun a ha => ?_
                refine gOn ha rfl rfl (by rfl) ?_
                refine pY ha (yEql (by rfl) (by rfl)) rfl fun a ha => ?_
                first | refine pY ha (yPickT (by rfl) (by rfl)) rfl fun a ha => ?_ | refine pY ha (yPickF (by rfl) (by rfl)) rfl fun a ha => ?_ | refine pY ha (yPick (by rfl) (by rfl) (by rfl)) rfl fun a ha => ?_
                refine pY ha (yMove (by rfl)) rfl fun a ha => ?_
                refine gSplit (t := 127) ha (by rfl) (fun hg6 => ?_) (fun hg6 => ?_)
                · simp at hg6
                · rw [hg6] at ha
                  refine gOn ha rfl rfl (by rfl) ?_
                  first | refine pY ha (yLoadRA Tryd.isAgg26 Tryd.sizeOf26 hs (by rfl) (by repeat first | exact .here | apply Pick.there) (by rfl)) rfl fun a ha => ?_ | refine pY ha (yLoadBA Tryd.isAgg26 Tryd.sizeOf26 hs (by rfl) (by repeat first | exact .here | apply Pick.there) (by rfl)) rfl fun a ha => ?_
                  refine gOn ha rfl rfl (by rfl) ?_
                  first | refine pY ha (yLoadRA Tryd.isAgg26 Tryd.sizeOf26 hs (by rfl) (by repeat first | exact .here | apply Pick.there) (by rfl)) rfl fun a ha => ?_ | refine pY ha (yLoadBA Tryd.isAgg26 Tryd.sizeOf26 hs (by rfl) (by repeat first | exact .here | apply Pick.there) (by rfl)) rfl fun a ha => ?_
                  refine gOn ha rfl rfl (by rfl) ?_
                  refine pC ha (nCall Tryd.call12 (by rfl)) rfl (SameM_c (x := (plainM (mK k c s rv l))) (y := (plainM (mK k c s rv l))) hs (by repeat first | exact .here | apply Pick.there) (by repeat first | exact .here | apply Pick.there)) ?_
                  rintro v w ⟨rfl, hs⟩ a ha
                  first | refine pY ha (yPickT (by rfl) (by rfl)) rfl fun a ha => ?_ | refine pY ha (yPickF (by rfl) (by rfl)) rfl fun a ha => ?_ | refine pY ha (yPick (by rfl) (by rfl) (by rfl)) rfl fun a ha => ?_
                  refine pY ha (yMove (by rfl)) rfl fun a ha => ?_
                  refine gSplit (t := 132) ha (by rfl) (fun hg11 => ?_) (fun hg11 => ?_)
                  · simp at hg11
                  · rw [hg11] at ha
                    refine gOn ha rfl rfl (by rfl) ?_
                    refine pY ha (yFieldA Tryd.runUnderlying26 rfl Tryd.sizeOf3 rfl (by rfl)) rfl fun a ha => ?_
                    refine gOn ha rfl rfl (by rfl) ?_
                    first | refine pY ha (yLoadB Tryd.isAgg3 hs (by rfl) (by repeat first | exact .here | apply Pick.there) (by rfl)) rfl fun a ha => ?_ | refine pY ha (yLoadR Tryd.isAgg3 hs (by rfl) (by repeat first | exact .here | apply Pick.there) (by rfl)) rfl fun a ha => ?_ | refine pY ha (yLoadR0 Tryd.isAgg3 hs (by rfl) (by repeat first | exact .here | apply Pick.there) (by rfl)) rfl fun a ha => ?_
                    refine gOn ha rfl rfl (by rfl) ?_
                    refine pY ha (yMove (by rfl)) rfl fun a ha => ?_
                    refine gOn ha rfl rfl (by rfl) ?_
                    refine pY ha (yEql (by rfl) (by rfl)) rfl fun a ha => ?_
                    refine gOn ha rfl rfl (by rfl) ?_
                    refine pY ha (yMove (by rfl)) rfl fun a ha => ?_
                    refine gOn ha rfl rfl (by rfl) ?_
                    refine pY ha (yLeq (by rfl) (by rfl)) rfl fun a ha => ?_
                    refine gOn ha rfl rfl (by rfl) ?_
                    refine pY ha (yBoolEql Tryd.underlying4 (by rfl) (by rfl)) rfl fun a ha => ?_
                    first | refine pY ha (yPickT (by rfl) (by rfl)) rfl fun a ha => ?_ | refine pY ha (yPickF (by rfl) (by rfl)) rfl fun a ha => ?_ | refine pY ha (yPick (by rfl) (by rfl) (by rfl)) rfl fun a ha => ?_
                    refine pY ha (yMove (by rfl)) rfl fun a ha => ?_
                    refine gSplit (t := 141) ha (by rfl) (fun hg20 => ?_) (fun hg20 => ?_)
                    · simp [i1] at hg20
                    · rw [hg20] at ha
                      refine gOn ha rfl rfl (by rfl) ?_
                      refine pY ha (yFieldA Tryd.runUnderlying26 rfl Tryd.sizeOf3 rfl (by rfl)) rfl fun a ha => ?_
                      refine gOn ha rfl rfl (by rfl) ?_
                      first | refine pY ha (yLoadB Tryd.isAgg3 hs (by rfl) (by repeat first | exact .here | apply Pick.there) (by rfl)) rfl fun a ha => ?_ | refine pY ha (yLoadR Tryd.isAgg3 hs (by rfl) (by repeat first | exact .here | apply Pick.there) (by rfl)) rfl fun a ha => ?_ | refine pY ha (yLoadR0 Tryd.isAgg3 hs (by rfl) (by repeat first | exact .here | apply Pick.there) (by rfl)) rfl fun a ha => ?_
                      refine gOn ha rfl rfl (by rfl) ?_
                      refine pY ha (yMove (by rfl)) rfl fun a ha => ?_
                      refine gOn ha rfl rfl (by rfl) ?_
                      refine pY ha (yEql (by rfl) (by rfl)) rfl fun a ha => ?_
                      refine gOn ha rfl rfl (by rfl) ?_
                      refine pY ha (yMove (by rfl)) rfl fun a ha => ?_
                      refine gOn ha rfl rfl (by rfl) ?_
                      refine pY ha (yEql (by rfl) (by rfl)) rfl fun a ha => ?_
                      refine gOn ha rfl rfl (by rfl) ?_
                      refine pY ha (yBoolEql Tryd.underlying4 (by rfl) (by rfl)) rfl fun a ha => ?_
                      first | refine pY ha (yPickT (by rfl) (by rfl)) rfl fun a ha => ?_ | refine pY ha (yPickF (by rfl) (by rfl)) rfl fun a ha => ?_ | refine pY ha (yPick (by rfl) (by rfl) (by rfl)) rfl fun a ha => ?_
                      refine pY ha (yMove (by rfl)) rfl fun a ha => ?_
                      refine gSplit (t := 150) ha (by rfl) (fun hg29 => ?_) (fun hg29 => ?_)
                      · simp [i2] at hg29
                      · rw [hg29] at ha
                        refine gOn ha rfl rfl (by rfl) ?_
                        refine pY ha (yFieldA Tryd.runUnderlying26 rfl Tryd.sizeOf24 rfl (by rfl)) rfl fun a ha => ?_
                        refine gOn ha rfl rfl (by rfl) ?_
                        first | refine pY ha (yLoadB Tryd.isAgg24 hs (by rfl) (by repeat first | exact .here | apply Pick.there) (by rfl)) rfl fun a ha => ?_ | refine pY ha (yLoadR Tryd.isAgg24 hs (by rfl) (by repeat first | exact .here | apply Pick.there) (by rfl)) rfl fun a ha => ?_ | refine pY ha (yLoadR0 Tryd.isAgg24 hs (by rfl) (by repeat first | exact .here | apply Pick.there) (by rfl)) rfl fun a ha => ?_
                        refine gOn ha rfl rfl (by rfl) ?_
                        refine pY ha (yLenS Tryd.runUnderlying24 (by rfl)) rfl fun a ha => ?_
                        refine gOn ha rfl rfl (by rfl) ?_
                        refine pY ha (yEql (by rfl) (by rfl)) rfl fun a ha => ?_
                        refine gOn ha rfl rfl (by rfl) ?_
                        refine pY ha (yMove (by rfl)) rfl fun a ha => ?_
                        refine gOn ha rfl rfl (by rfl) ?_
                        refine pY ha (yEql (by rfl) (by rfl)) rfl fun a ha => ?_
                        refine gOn ha rfl rfl (by rfl) ?_
                        refine pY ha (yBoolEql Tryd.underlying4 (by rfl) (by rfl)) rfl fun a ha => ?_
                        first | refine pY ha (yPickT (by rfl) (by rfl)) rfl fun a ha => ?_ | refine pY ha (yPickF (by rfl) (by rfl)) rfl fun a ha => ?_ | refine pY ha (yPick (by rfl) (by rfl) (by rfl)) rfl fun a ha => ?_
                        refine pY ha (yMove (by rfl)) rfl fun a ha => ?_
                        refine gSplit (t := 159) ha (by rfl) (fun hg38 => ?_) (fun hg38 => ?_)
                        · simp [i3] at hg38
                        · rw [hg38] at ha
                          refine gOn ha rfl rfl (by rfl) ?_
                          refine pC ha (nCall Tryd.call7 (by rfl)) rfl (awake18_c hT hs) ?_
                          rintro v w ⟨rfl, hs⟩ a ha
                          first | refine pY ha (yPickT (by rfl) (by rfl)) rfl fun a ha => ?_ | refine pY ha (yPickF (by rfl) (by rfl)) rfl fun a ha => ?_ | refine pY ha (yPick (by rfl) (by rfl) (by rfl)) rfl fun a ha => ?_
                          refine pY ha (yAssign (by rfl)) rfl fun a ha => ?_
                          refine pZ ?_
                          refine hK15 _ _ ?_
                          refine wp_ret ?_
                          show bodyPost Tryd.prog Tryd.f5 _ .ret _ _
                          refine ret1 rfl ha (by rfl) ?_
                          exact ⟨rfl, _, hs⟩
        · simp at hg17
      · simp [q7] at hg10
    · simp at hg3
end
end Go.Proofs.YtnlhbkaieoogfaaDoor

