/- A part of the proof of WireLimits (part 6 of 6): the words and the walks. -/
import Derived.Test.YtnlhbkaieoogfaaDoorKLimE
set_option linter.unusedVariables false
set_option linter.unusedSimpArgs false
namespace Go.Proofs.YtnlhbkaieoogfaaDoor
open Go.RowKit Go.Lib Go.Proofs.YtnlhbkaieoogfaaDoorW.PrintLast
def limC (n : Nat) : List Cmt := (List.range n).map fun (i : Nat) => ⟨i, 0, 0, []⟩
def limA (n : Nat) : List Actn := (List.range n).map fun (i : Nat) => ⟨2, 1 + i, 0, emp, false, []⟩
def limT (n : Nat) : List Actn := [⟨4, 1, 0, emp, false, if 0 < n then [⟨2, 0, ⟨(blockL n 1).toArray⟩⟩] else []⟩]
def mLimC (n : Nat) : Msg := ⟨7, 0, 0, 0, 0, [], limC n, [], 0⟩
def mLimA (n : Nat) : Msg := ⟨2, 0, 0, 0, 0, limA n, [], [], 0⟩
def mLimT (n : Nat) : Msg := ⟨2, 0, 0, 0, 0, limT n, [], [], 0⟩
def want (b : Bool) : Int := if b then 0 else 3
theorem head_ok {m : Msg} (hk : 1 ≤ m.kind ∧ m.kind ≤ 9) (hp : m = plainM m) (hf : fits m.client = true ∧ fits m.seq = true ∧ fits m.rev = true ∧ fits m.last = true ∧ fits m.code = true) :
    msgE m = if txnE m.acts ≠ 0 then txnE m.acts else if cmtsE m.commits ≠ 0 then cmtsE m.commits else if nodsE m.nodes ≠ 0 then nodsE m.nodes else if (bOut m).length > 65536 then 3 else 0 := by
  obtain ⟨f1, f2, f3, f4, f5⟩ := hf
  unfold msgE
  rw [if_neg (by rw [f1, f2, f3, f4, f5]; simp only [not_or]; exact ⟨by omega, by omega, fun h => h hp, by decide, by decide, by decide, by decide, by decide⟩)]
theorem bOut_le (m : Msg) : (bOut m).length ≤ (wMsg m).1.length := by
  unfold bOut; split
  · simp
  · exact Nat.le_refl _
theorem z64 : i64 0 := by decide
theorem f0 : fits 0 = true := by decide
theorem limC_len (n : Nat) : (limC n).length = n := by simp [limC]
theorem limA_len (n : Nat) : (limA n).length = n := by simp [limA]
theorem txn_nil : txnE [] = 0 := by decide
theorem nods_nil : nodsE [] = 0 := by decide
theorem cmts_nil : cmtsE [] = 0 := by decide
theorem tC_lim (n : Nat) : tCmts (limC n) ≤ n * 3 := by
  have := sum_le (B := 3) (f := fun x : Cmt => tActns x.acts + 3) (limC n) (fun x hx => by
    simp only [limC, List.mem_map] at hx
    obtain ⟨i, _, rfl⟩ := hx
    simp [tActns])
  rw [limC_len] at this
  exact this
theorem tA_lim (n : Nat) : tActns (limA n) ≤ n * 3 := by
  have := sum_le (B := 3) (f := fun x : Actn => x.name.size + tComps x.ops + 3) (limA n) (fun x hx => by
    simp only [limA, List.mem_map] at hx
    obtain ⟨i, _, rfl⟩ := hx
    simp [tComps]; decide)
  rw [limA_len] at this
  exact this
theorem lim_C (n : Nat) (hn : n ≤ 22) : msgE (mLimC n) = want (decide ((n : Int) ≤ 20)) ∧ mM (mLimC n) ∧ (wMsg (mLimC n)).1.length ≤ 8796093022208 := by
  have hg : gM (mLimC n) := by
    refine ⟨⟨z64, z64, z64, z64, z64⟩, fun a ha => (by cases ha), fun c hc => ?_, fun x hx => (by cases hx)⟩
    simp only [mLimC, limC, List.mem_map, List.mem_range] at hc
    obtain ⟨i, hi, rfl⟩ := hc
    refine ⟨⟨?_, z64, z64⟩, fun a ha => (by cases ha)⟩
    unfold i64; simp only; omega
  have hw : tMsg (mLimC n) ≤ 4000 := by
    have := tC_lim n
    unfold tMsg
    show tActns [] + tNods [] + tCmts (limC n) ≤ 4000
    simp only [tActns, tNods, List.map_nil, List.sum_nil]; omega
  obtain ⟨hm, hl⟩ := light_M hg hw
  refine ⟨?_, hm, by omega⟩
  rw [head_ok (m := mLimC n) (show (1 : Int) ≤ 7 ∧ (7 : Int) ≤ 9 by decide) rfl ⟨f0, f0, f0, f0, f0⟩]
  have h1 : txnE (mLimC n).acts = 0 := txn_nil
  have h2 : nodsE (mLimC n).nodes = 0 := nods_nil
  have h3 := bOut_le (mLimC n)
  rw [h1, h2]
  have hc : cmtsE (mLimC n).commits = want (decide ((n : Int) ≤ 20)) := by
    show cmtsE (limC n) = _
    unfold cmtsE want
    rw [limC_len]
    by_cases h : n > 20
    · rw [if_pos h, decide_eq_false (by omega)]; rfl
    · rw [if_neg h, decide_eq_true (by omega)]
      rw [fe_of]
      · rfl
      · intro i hi
        have : (limC n).getD i noCm = ⟨i, 0, 0, []⟩ := by
          rw [List.getD_eq_getElem?_getD]
          simp [limC, hi]
        rw [this]
        unfold cmtE
        rw [if_neg (by simp [fits]; omega)]
        exact txn_nil
  rw [hc]
  unfold want
  by_cases h : ((n : Int) ≤ 20)
  · rw [decide_eq_true h]; simp; omega
  · rw [decide_eq_false h]; simp
theorem lim_A (n : Nat) (hn : n ≤ 22) : msgE (mLimA n) = want (decide ((n : Int) ≤ 20)) ∧ mM (mLimA n) ∧ (wMsg (mLimA n)).1.length ≤ 8796093022208 := by
  have hg : gM (mLimA n) := by
    refine ⟨⟨z64, z64, z64, z64, z64⟩, fun a ha => ?_, fun c hc => (by cases hc), fun x hx => (by cases hx)⟩
    simp only [mLimA, limA, List.mem_map, List.mem_range] at ha
    obtain ⟨i, hi, rfl⟩ := ha
    exact ⟨(show (0 : Nat) ≤ 9223372036854775807 by decide), fun c hc => (by cases hc)⟩
  have hw : tMsg (mLimA n) ≤ 4000 := by
    have := tA_lim n
    unfold tMsg
    show tActns (limA n) + tNods [] + tCmts [] ≤ 4000
    simp only [tCmts, tNods, List.map_nil, List.sum_nil]; omega
  obtain ⟨hm, hl⟩ := light_M hg hw
  refine ⟨?_, hm, by omega⟩
  rw [head_ok (m := mLimA n) (show (1 : Int) ≤ 2 ∧ (2 : Int) ≤ 9 by decide) rfl ⟨f0, f0, f0, f0, f0⟩]
  have h1 : cmtsE (mLimA n).commits = 0 := cmts_nil
  have h2 : nodsE (mLimA n).nodes = 0 := nods_nil
  have h3 := bOut_le (mLimA n)
  rw [h1, h2]
  have hz : putsA (limA n) = 0 := by
    have := putsA_le (B := 0) (limA n) (fun a ha => by
      simp only [limA, List.mem_map] at ha
      obtain ⟨i, _, rfl⟩ := ha
      simp [putsC])
    omega
  have hc : txnE (mLimA n).acts = want (decide ((n : Int) ≤ 20)) := by
    show txnE (limA n) = _
    unfold txnE want
    rw [limA_len]
    by_cases h : n > 20
    · rw [if_pos h, decide_eq_false (by omega)]; rfl
    · rw [if_neg h, decide_eq_true (by omega)]
      have hfe : fe (actE (limA n)) n = 0 := fe_of fun i hi => by
        have hx : (limA n)[i]? = some ⟨2, 1 + i, 0, emp, false, []⟩ := by simp [limA, hi]
        rw [actE_at hx]
        have h1 : oneE ⟨2, 1 + (i : Int), 0, emp, false, []⟩ = 0 := by
          unfold oneE
          rw [if_neg, if_neg (show ¬ (2 : Int) = 4 by decide)]
          unfold badA
          simp only [not_or]
          exact ⟨by decide, by decide, fun h => h (by simp [plainA]), by omega, by omega, by decide, by decide, by decide⟩
        rw [h1]
        simp
      rw [hfe, hz]; simp
  rw [hc]
  unfold want
  by_cases h : ((n : Int) ≤ 20)
  · rw [decide_eq_true h]; simp; omega
  · rw [decide_eq_false h]; simp
theorem block_ascii (n : Nat) (k : Int) : cnt (blockL n k) = n := by
  have h : ∀ l : List UInt8, (∀ b ∈ l, 97 ≤ b.toNat ∧ b.toNat ≤ 122) → cnt l = l.length := by
    intro l
    induction l with
    | nil => intro _; rfl
    | cons b r ih =>
      intro hb
      have h1 := hb b (by simp)
      rw [cnt_cons, ih (fun x hx => hb x (by simp [hx])), if_neg (by omega), List.length_cons]
  rw [h _ (fun b hb => by
    simp only [blockL, List.mem_map] at hb
    obtain ⟨i, _, rfl⟩ := hb
    exact block_byte k i)]
  simp [blockL]
theorem block_size (n : Nat) (k : Int) : (⟨(blockL n k).toArray⟩ : ByteArray).size = n := by rw [size_mk]; simp [blockL]
theorem lim_T (n : Nat) (hn : n ≤ 2010) : msgE (mLimT n) = want (decide ((n : Int) ≤ 2000)) ∧ mM (mLimT n) ∧ (wMsg (mLimT n)).1.length ≤ 8796093022208 := by
  have hbs := block_size n 1
  have hbc := block_ascii n 1
  have hbo := block_ok n 1
  have hg : gM (mLimT n) := by
    refine ⟨⟨z64, z64, z64, z64, z64⟩, fun a ha => ?_, fun c hc => (by cases hc), fun x hx => (by cases hx)⟩
    simp only [mLimT, limT, List.mem_singleton] at ha
    subst ha
    refine ⟨(show (0 : Nat) ≤ 9223372036854775807 by decide), fun c hc => ?_⟩
    simp only at hc
    split at hc
    · rw [List.mem_singleton] at hc
      subst hc
      exact ⟨z64, by simp only; omega⟩
    · cases hc
  have hes : emp.size = 0 := rfl
  have hta : tActns (limT n) ≤ 2020 := by
    unfold limT tActns tComps
    split
    · simp [hbs, hes]; omega
    · simp [hes]
  have hw : tMsg (mLimT n) ≤ 4000 := by
    unfold tMsg
    show tActns (limT n) + tNods [] + tCmts [] ≤ 4000
    simp only [tCmts, tNods, List.map_nil, List.sum_nil]; omega
  obtain ⟨hm, hl⟩ := light_M hg hw
  refine ⟨?_, hm, by omega⟩
  rw [head_ok (m := mLimT n) (show (1 : Int) ≤ 2 ∧ (2 : Int) ≤ 9 by decide) rfl ⟨f0, f0, f0, f0, f0⟩]
  have h1 : cmtsE (mLimT n).commits = 0 := cmts_nil
  have h2 : nodsE (mLimT n).nodes = 0 := nods_nil
  have h3 := bOut_le (mLimT n)
  rw [h1, h2]
  have hop : opE (if 0 < n then [⟨2, 0, ⟨(blockL n 1).toArray⟩⟩] else []) = want (decide ((n : Int) ≤ 2000)) := by
    by_cases h0 : 0 < n
    · rw [if_pos h0]
      unfold opE want
      have hne : ¬ (⟨(blockL n 1).toArray⟩ : ByteArray) = emp := fun e => by
        have := congrArg ByteArray.size e
        rw [hbs] at this
        have h2 : emp.size = 0 := rfl
        omega
      have hs : sndC ⟨2, 0, ⟨(blockL n 1).toArray⟩⟩ = true := by
        unfold sndC
        simp only [if_pos]
        rw [decide_eq_false hne, hbo]; rfl
      have hnorm : normC [⟨2, 0, ⟨(blockL n 1).toArray⟩⟩] = true := by
        unfold normC
        simp only [List.length_cons, List.length_nil, allN, Bool.true_and]
        unfold goodC
        simp only [List.getD_cons_zero, hs, Bool.true_and, decide_true, Bool.true_or]
      rw [if_neg (by simp), if_neg (by rw [hnorm]; decide)]
      have hb0 : baseC [⟨2, 0, ⟨(blockL n 1).toArray⟩⟩] 0 = 0 := by simp [baseC]
      have ho0 : outC [⟨2, 0, ⟨(blockL n 1).toArray⟩⟩] 0 = n := by
        simp only [outC]
        rw [if_neg (by decide), if_pos trivial]
        show addC 0 (cnt (blockL n 1) : Nat) = _
        rw [hbc]; unfold addC; rw [if_neg (by omega)]; omega
      rw [hb0, ho0]
      by_cases h : ((n : Int) ≤ 2000)
      · rw [decide_eq_true h, if_neg (by omega)]; rfl
      · rw [decide_eq_false h, if_pos (by omega)]; rfl
    · rw [if_neg h0, decide_eq_true (by omega)]
      decide
  have hone : oneE ⟨4, 1, 0, emp, false, if 0 < n then [⟨2, 0, ⟨(blockL n 1).toArray⟩⟩] else []⟩ = want (decide ((n : Int) ≤ 2000)) := by
    unfold oneE
    rw [if_neg, if_pos (show (4 : Int) = 4 from rfl), hop]
    unfold badA
    simp only [not_or]
    exact ⟨by omega, by omega, fun h => h (by simp [plainA]), by omega, by omega, by omega, by omega, by simp⟩
  have hc : txnE (mLimT n).acts = want (decide ((n : Int) ≤ 2000)) := by
    show txnE (limT n) = _
    have hx : (limT n)[0]? = some ⟨4, 1, 0, emp, false, if 0 < n then [⟨2, 0, ⟨(blockL n 1).toArray⟩⟩] else []⟩ := rfl
    by_cases h : ((n : Int) ≤ 2000)
    · have hz : actE (limT n) 0 = 0 := by
        rw [actE_at hx, hone, decide_eq_true h]
        simp [want, twinA]
      rw [txn_end (show (limT n).length ≤ 20 by simp [limT]) (fe_of fun i hi => by
        have : i = 0 := by simp [limT] at hi; exact hi
        rw [this]; exact hz)]
      rw [decide_eq_true h, if_neg]
      · rfl
      · unfold limT putsA putsA
        split
        · simp only [putsC, if_pos]
          show ¬ (cnt (blockL n 1) + 0 + 0 > 2000)
          rw [hbc]; omega
        · simp [putsC]
    · have hz : actE (limT n) 0 = 3 := by
        rw [actE_at hx, hone, decide_eq_false h]
        simp [want]
      rw [txn_err (i := 0) (show (limT n).length ≤ 20 by simp [limT]) rfl (by simp [limT]) (by rw [hz]; decide), hz, decide_eq_false h]
      rfl
  rw [hc]
  unfold want
  by_cases h : ((n : Int) ≤ 2000)
  · rw [decide_eq_true h]; simp; omega
  · rw [decide_eq_false h]; simp
end Go.Proofs.YtnlhbkaieoogfaaDoor

set_option linter.unusedVariables false
set_option linter.unusedSimpArgs false
namespace Go.Proofs.YtnlhbkaieoogfaaDoor
open Go.RowKit Go.Lib Go.Proofs.YtnlhbkaieoogfaaDoorW.PrintLast
theorem bldWLimW26_0_5 {w : World} {l : List (Nat × Value)} {T : TypeId} {x0 x5 : Operand} {v0 : Value} (h0 : ev l x0 = some v0) {v5 : Value} (h5 : ev l x5 = some v5) (o0 : v0.cells = #[v0] := by rfl) (o5 : v5.cells = #[v5] := by rfl) : Yl Tryd.prog w l (.build 26 #[(0, x0), (5, x5)]) T (.agg #[v0, .int .i64 0, .int .i64 0, .int .i64 0, .int .i64 0, v5, .slice none 0 0, .slice none 0 0, .int .i64 0]) := fun ρ o h ho _ => by
  have hf : Instr.fill (fun i => ([(0, 1), (1, 1), (2, 1), (3, 1), (4, 1), (5, 1), (6, 1), (7, 1), (8, 1)] : List (Nat × Nat))[i]?) #[.int .i64 0, .int .i64 0, .int .i64 0, .int .i64 0, .int .i64 0, .slice none 0 0, .slice none 0 0, .slice none 0 0, .int .i64 0] [(0, v0), (5, v5)] = some #[v0, .int .i64 0, .int .i64 0, .int .i64 0, .int .i64 0, v5, .slice none 0 0, .slice none 0 0, .int .i64 0] := by
    refine (fill_v o0 (by rfl) (by simp)).trans ?_
    refine (fill_v o5 (by rfl) (by simp)).trans ?_
    simp [Instr.fill]
  unfold execOp; rw [ho]
  simp [h _ _ h0, h _ _ h5, Instr.build, Tryd.zeroValue26, Tryd.runUnderlying26, Tryd.sizeOf22, Tryd.sizeOf23, Tryd.sizeOf24, Tryd.sizeOf3, agg_cells, hf]
theorem bldWLimW26_0_6 {w : World} {l : List (Nat × Value)} {T : TypeId} {x0 x6 : Operand} {v0 : Value} (h0 : ev l x0 = some v0) {v6 : Value} (h6 : ev l x6 = some v6) (o0 : v0.cells = #[v0] := by rfl) (o6 : v6.cells = #[v6] := by rfl) : Yl Tryd.prog w l (.build 26 #[(0, x0), (6, x6)]) T (.agg #[v0, .int .i64 0, .int .i64 0, .int .i64 0, .int .i64 0, .slice none 0 0, v6, .slice none 0 0, .int .i64 0]) := fun ρ o h ho _ => by
  have hf : Instr.fill (fun i => ([(0, 1), (1, 1), (2, 1), (3, 1), (4, 1), (5, 1), (6, 1), (7, 1), (8, 1)] : List (Nat × Nat))[i]?) #[.int .i64 0, .int .i64 0, .int .i64 0, .int .i64 0, .int .i64 0, .slice none 0 0, .slice none 0 0, .slice none 0 0, .int .i64 0] [(0, v0), (6, v6)] = some #[v0, .int .i64 0, .int .i64 0, .int .i64 0, .int .i64 0, .slice none 0 0, v6, .slice none 0 0, .int .i64 0] := by
    refine (fill_v o0 (by rfl) (by simp)).trans ?_
    refine (fill_v o6 (by rfl) (by simp)).trans ?_
    simp [Instr.fill]
  unfold execOp; rw [ho]
  simp [h _ _ h0, h _ _ h6, Instr.build, Tryd.zeroValue26, Tryd.runUnderlying26, Tryd.sizeOf22, Tryd.sizeOf23, Tryd.sizeOf24, Tryd.sizeOf3, agg_cells, hf]
theorem bldWLimW40_0 {w : World} {l : List (Nat × Value)} {T : TypeId} {x0 : Operand} {v0 : Value} (h0 : ev l x0 = some v0) (o0 : v0.cells = #[v0] := by rfl) : Yl Tryd.prog w l (.build 40 #[(0, x0)]) T (.agg #[v0, .int .i64 0, .int .i64 0, .slice none 0 0]) := fun ρ o h ho _ => by
  have hf : Instr.fill (fun i => ([(0, 1), (1, 1), (2, 1), (3, 1)] : List (Nat × Nat))[i]?) #[.int .i64 0, .int .i64 0, .int .i64 0, .slice none 0 0] [(0, v0)] = some #[v0, .int .i64 0, .int .i64 0, .slice none 0 0] := by
    refine (fill_v o0 (by rfl) (by simp)).trans ?_
    simp [Instr.fill]
  unfold execOp; rw [ho]
  simp [h _ _ h0, Instr.build, Tryd.zeroValue40, Tryd.runUnderlying40, Tryd.sizeOf22, Tryd.sizeOf3, agg_cells, hf]
theorem bldWLimW43_0_1 {w : World} {l : List (Nat × Value)} {T : TypeId} {x0 x1 : Operand} {v0 : Value} (h0 : ev l x0 = some v0) {v1 : Value} (h1 : ev l x1 = some v1) (o0 : v0.cells = #[v0] := by rfl) (o1 : v1.cells = #[v1] := by rfl) : Yl Tryd.prog w l (.build 43 #[(0, x0), (1, x1)]) T (.agg #[v0, v1, .int .i64 0, .string ⟨#[]⟩, .bool false, .slice none 0 0]) := fun ρ o h ho _ => by
  have hf : Instr.fill (fun i => ([(0, 1), (1, 1), (2, 1), (3, 1), (4, 1), (5, 1)] : List (Nat × Nat))[i]?) #[.int .i64 0, .int .i64 0, .int .i64 0, .string ⟨#[]⟩, .bool false, .slice none 0 0] [(0, v0), (1, v1)] = some #[v0, v1, .int .i64 0, .string ⟨#[]⟩, .bool false, .slice none 0 0] := by
    refine (fill_v o0 (by rfl) (by simp)).trans ?_
    refine (fill_v o1 (by rfl) (by simp)).trans ?_
    simp [Instr.fill]
  unfold execOp; rw [ho]
  simp [h _ _ h0, h _ _ h1, Instr.build, Tryd.zeroValue43, Tryd.runUnderlying43, Tryd.sizeOf3, Tryd.sizeOf4, Tryd.sizeOf41, Tryd.sizeOf9, agg_cells, hf]
theorem bldWLimW46_0_2 {w : World} {l : List (Nat × Value)} {T : TypeId} {x0 x2 : Operand} {v0 : Value} (h0 : ev l x0 = some v0) {v2 : Value} (h2 : ev l x2 = some v2) (o0 : v0.cells = #[v0] := by rfl) (o2 : v2.cells = #[v2] := by rfl) : Yl Tryd.prog w l (.build 46 #[(0, x0), (2, x2)]) T (.agg #[v0, .int .i64 0, v2]) := fun ρ o h ho _ => by
  have hf : Instr.fill (fun i => ([(0, 1), (1, 1), (2, 1)] : List (Nat × Nat))[i]?) #[.int .i64 0, .int .i64 0, .string ⟨#[]⟩] [(0, v0), (2, v2)] = some #[v0, .int .i64 0, v2] := by
    refine (fill_v o0 (by rfl) (by simp)).trans ?_
    refine (fill_v o2 (by rfl) (by simp)).trans ?_
    simp [Instr.fill]
  unfold execOp; rw [ho]
  simp [h _ _ h0, h _ _ h2, Instr.build, Tryd.zeroValue46, Tryd.runUnderlying46, Tryd.sizeOf3, Tryd.sizeOf9, agg_cells, hf]
theorem bslWLimW22_1_0 {w : World} {l : List (Nat × Value)} {T : TypeId} {x0 : Operand} {c0 : List Value} (h0 : ev l x0 = some (.agg c0.toArray)) (n0 : c0.length = 6 := by rfl) : Mk Tryd.prog w l (.buildSlice 22 1 #[(0, x0)]) T 43 1 c0 := fun ρ o h ho _ => by
  unfold execOp; rw [ho]
  exact mk1 (P := Tryd.prog) w Tryd.runUnderlying22 Tryd.sizeOf43 Tryd.zeroValue43 (by decide) (by decide) n0 (h _ _ h0)
theorem bslWLimW23_1_0 {w : World} {l : List (Nat × Value)} {T : TypeId} {x0 : Operand} {c0 : List Value} (h0 : ev l x0 = some (.agg c0.toArray)) (n0 : c0.length = 4 := by rfl) : Mk Tryd.prog w l (.buildSlice 23 1 #[(0, x0)]) T 40 1 c0 := fun ρ o h ho _ => by
  unfold execOp; rw [ho]
  exact mk1 (P := Tryd.prog) w Tryd.runUnderlying23 Tryd.sizeOf40 Tryd.zeroValue40 (by decide) (by decide) n0 (h _ _ h0)
theorem bslWLimW41_1_0 {w : World} {l : List (Nat × Value)} {T : TypeId} {x0 : Operand} {c0 : List Value} (h0 : ev l x0 = some (.agg c0.toArray)) (n0 : c0.length = 3 := by rfl) : Mk Tryd.prog w l (.buildSlice 41 1 #[(0, x0)]) T 46 1 c0 := fun ρ o h ho _ => by
  unfold execOp; rw [ho]
  exact mk1 (P := Tryd.prog) w Tryd.runUnderlying41 Tryd.sizeOf46 Tryd.zeroValue46 (by decide) (by decide) n0 (h _ _ h0)
theorem elWLimW22 : ElemT Tryd.prog 22 43 6 72 := elemT_mk Tryd.underlying22 rfl (by kernel_rfl)
theorem elWLimW23 : ElemT Tryd.prog 23 40 4 48 := elemT_mk Tryd.underlying23 rfl (by kernel_rfl)
section
variable {W w : World} {cs r r2 : List Ch}
theorem Kd.sl_nil {α : Type} (d : Kd α) (Z : Hp) : d.sl Z (.slice none 0 0) [] := ⟨none, 0, rfl, Nat.le_refl _, by unfold maxLen; omega, fun h => by simp at h⟩
theorem Sep.one_rd {α : Type} {d : Kd α} {e : α} {es : List Value} {b : Nat} {T : TypeId} (hs : Sep W w cs) (hk : Pick cs (.blk b T es) r) (hk2 : Pick r (.el d e es) r2) : Sep W w (.rd d (.slice (some ⟨b, 0, none⟩) 1 1) [e] :: r2) := by
  have h1 := (hs.perm (hk.perm.trans (hk2.perm.cons _))).join
  refine h1.shut fun Z H hd hc => ?_
  obtain ⟨H1, H2, g1, g2, gd, ho, hR⟩ := hc
  refine ⟨_, 1, rfl, Nat.le_refl _, by unfold maxLen; omega, fun _ => ⟨b, 0, es.toArray, T, (0, 0), rfl, Hp.le_un_right hd _ _ (g1 _ _ ho), fun i x hx => ?_⟩⟩
  match i, hx with
  | 0, hx =>
    simp at hx
    subst hx
    exact ⟨es, d.mono (Hp.le_un_left _ _) hR, fun j u hj => by simpa using hj⟩
  | i + 1, hx => simp at hx
theorem Sep.add_cmt (hs : Sep W w cs) (n : Int) : Sep W w (.el kCmt ⟨n, 0, 0, []⟩ [.int .i64 n, .int .i64 0, .int .i64 0, .slice none 0 0] :: cs) := hs.add fun Z => ⟨none, 0, 0, rfl, Kd.sl_nil _ _⟩
theorem Sep.add_act (hs : Sep W w cs) (k n : Int) : Sep W w (.el kActn ⟨k, n, 0, emp, false, []⟩ [.int .i64 k, .int .i64 n, .int .i64 0, .string ⟨#[]⟩, .bool false, .slice none 0 0] :: cs) := hs.add fun Z => ⟨none, 0, 0, rfl, Kd.sl_nil _ _⟩
theorem limC_next (n : Nat) : limC (n + 1) = limC n ++ [⟨n, 0, 0, []⟩] := by simp [limC, List.range_succ]
theorem limA_next (n : Nat) : limA (n + 1) = limA n ++ [⟨2, 1 + n, 0, emp, false, []⟩] := by simp [limA, List.range_succ]
theorem Want_c (b : Bool) (hs : Sep W w cs) : Calls P 14 #[.bool b] w (Rt fun v w' => v = .int .i64 (want b) ∧ Sep W w' cs) := by
  refine enter Tryd.func14 Tryd.ntmps14 rfl rfl fun a (ha : Has a 4 [(0, _)]) => ?_
  refine wp_seq_k fun K1 hK1 => ?_
  refine wp_region_lit ?_
  refine pY ha (yAssign (by rfl)) rfl fun a ha => ?_
  refine pZ ?_
  refine hK1 _ _ ?_
  refine wp_seq_k fun K2 hK2 => ?_
  refine wp_seq_k fun K3 hK3 => ?_
  refine wp_region_lit ?_
  refine pY ha (yMove (by rfl)) rfl fun a ha => ?_
  refine pZ ?_
  refine hK3 _ _ ?_
  first | refine cNDec ha (by rfl) (fun hc3 => ?_) (fun hc3 => ?_) | refine cDec ha (by rfl) (fun hc3 => ?_) (fun hc3 => ?_) | refine cSplit ha (by rfl) (fun hc3 => ?_) (fun hc3 => ?_)
  · refine wp_seq_k fun K4 hK4 => ?_
    refine wp_region_lit ?_
    refine pY ha (yAssign (by rfl)) rfl fun a ha => ?_
    refine pZ ?_
    refine hK4 _ _ ?_
    refine wp_ret ?_
    show bodyPost Tryd.prog Tryd.f14 _ .ret _ _
    refine ret1 rfl ha (by rfl) ?_
    refine ⟨?_, hs⟩
    first | (subst hc3; rfl) | (rw [hc3]; rfl)
  · refine wp_skip ?_
    refine hK2 _ _ ?_
    refine wp_seq_k fun K5 hK5 => ?_
    refine wp_region_lit ?_
    refine pY ha (yAssign (by rfl)) rfl fun a ha => ?_
    refine pZ ?_
    refine hK5 _ _ ?_
    refine wp_ret ?_
    show bodyPost Tryd.prog Tryd.f14 _ .ret _ _
    refine ret1 rfl ha (by rfl) ?_
    refine ⟨?_, hs⟩
    first | (subst hc3; rfl) | (rw [hc3]; rfl)
theorem WireLimits_c (hT : Tabs W) (c0 a0 t0 : Int) (hs : Sep W w cs) : Calls P 4 #[.int .i64 c0, .int .i64 a0, .int .i64 t0] w (Rt fun v w' => v = .bool true ∧ ∃ rs, Sep W w' rs) := by
  refine enter Tryd.func4 Tryd.ntmps4 rfl rfl fun a (ha : Has a 99 [(0, _), (1, _), (2, _)]) => ?_
  refine wp_seq_k fun K1 hK1 => ?_
  refine wp_region_lit ?_
  refine pY ha (yAssign (by rfl)) rfl fun a ha => ?_
  refine pZ ?_
  refine hK1 _ _ ?_
  refine wp_seq_k fun K2 hK2 => ?_
  refine wp_seq_k fun K3 hK3 => ?_
  refine cutC (fun a w => Has a 99 [(34, .bool (decide (¬ ((0 ≤ c0 ∧ c0 ≤ 22) ∧ (0 ≤ a0 ∧ a0 ≤ 22) ∧ (0 ≤ t0 ∧ t0 ≤ 2010))))), (0, .int .i64 c0), (1, .int .i64 a0), (2, .int .i64 t0)] ∧ Sep W w cs) ?_ ?_
  · refine wp_region_lit ?_
    refine pY ha (yMove (by rfl)) rfl fun a ha => ?_
    refine pY ha (yLss (by rfl) (by rfl)) rfl fun a ha => ?_
    refine pY ha (yMove (by rfl)) rfl fun a ha => ?_
    refine gDec (t := 15) ha (by rfl) (fun hg2 hp2 => ?_) (fun hg2 hp2 => ?_)
    · rw [hg2] at ha
      refine gOn ha rfl rfl (by rfl) ?_
      refine pY ha (yMove (by rfl)) rfl fun a ha => ?_
      refine gOn ha rfl rfl (by rfl) ?_
      refine pY ha (yGtr (by rfl) (by rfl)) rfl fun a ha => ?_
      first | refine pY ha (yPickT (by rfl) (by rfl)) rfl fun a ha => ?_ | refine pY ha (yPickF (by rfl) (by rfl)) rfl fun a ha => ?_ | refine pY ha (yPick (by rfl) (by rfl) (by rfl)) rfl fun a ha => ?_
      refine pY ha (yMove (by rfl)) rfl fun a ha => ?_
      refine gSplit (t := 19) ha (by rfl) (fun hg6 => ?_) (fun hg6 => ?_)
      · rw [hg6] at ha
        have hp6 := of_decide_eq_false hg6
        refine gOn ha rfl rfl (by rfl) ?_
        refine pY ha (yMove (by rfl)) rfl fun a ha => ?_
        refine gOn ha rfl rfl (by rfl) ?_
        refine pY ha (yLss (by rfl) (by rfl)) rfl fun a ha => ?_
        first | refine pY ha (yPickT (by rfl) (by rfl)) rfl fun a ha => ?_ | refine pY ha (yPickF (by rfl) (by rfl)) rfl fun a ha => ?_ | refine pY ha (yPick (by rfl) (by rfl) (by rfl)) rfl fun a ha => ?_
        refine pY ha (yMove (by rfl)) rfl fun a ha => ?_
        refine gSplit (t := 23) ha (by rfl) (fun hg10 => ?_) (fun hg10 => ?_)
        · rw [hg10] at ha
          have hp10 := of_decide_eq_false hg10
          refine gOn ha rfl rfl (by rfl) ?_
          refine pY ha (yMove (by rfl)) rfl fun a ha => ?_
          refine gOn ha rfl rfl (by rfl) ?_
          refine pY ha (yGtr (by rfl) (by rfl)) rfl fun a ha => ?_
          first | refine pY ha (yPickT (by rfl) (by rfl)) rfl fun a ha => ?_ | refine pY ha (yPickF (by rfl) (by rfl)) rfl fun a ha => ?_ | refine pY ha (yPick (by rfl) (by rfl) (by rfl)) rfl fun a ha => ?_
          refine pY ha (yMove (by rfl)) rfl fun a ha => ?_
          refine gSplit (t := 27) ha (by rfl) (fun hg14 => ?_) (fun hg14 => ?_)
          · rw [hg14] at ha
            have hp14 := of_decide_eq_false hg14
            refine gOn ha rfl rfl (by rfl) ?_
            refine pY ha (yMove (by rfl)) rfl fun a ha => ?_
            refine gOn ha rfl rfl (by rfl) ?_
            refine pY ha (yLss (by rfl) (by rfl)) rfl fun a ha => ?_
            first | refine pY ha (yPickT (by rfl) (by rfl)) rfl fun a ha => ?_ | refine pY ha (yPickF (by rfl) (by rfl)) rfl fun a ha => ?_ | refine pY ha (yPick (by rfl) (by rfl) (by rfl)) rfl fun a ha => ?_
            refine pY ha (yMove (by rfl)) rfl fun a ha => ?_
            refine gSplit (t := 31) ha (by rfl) (fun hg18 => ?_) (fun hg18 => ?_)
            · rw [hg18] at ha
              have hp18 := of_decide_eq_false hg18
              refine gOn ha rfl rfl (by rfl) ?_
              refine pY ha (yMove (by rfl)) rfl fun a ha => ?_
              refine gOn ha rfl rfl (by rfl) ?_
              refine pY ha (yGtr (by rfl) (by rfl)) rfl fun a ha => ?_
              first | refine pY ha (yPickT (by rfl) (by rfl)) rfl fun a ha => ?_ | refine pY ha (yPickF (by rfl) (by rfl)) rfl fun a ha => ?_ | refine pY ha (yPick (by rfl) (by rfl) (by rfl)) rfl fun a ha => ?_
              refine pZ ⟨rfl, ?_⟩
              first | exact ⟨has4 ha (bY (by omega)) (by rfl) (by rfl) (by rfl), hs⟩ | exact ⟨has4 ha (bT (by omega)) (by rfl) (by rfl) (by rfl), hs⟩
            · rw [hg18] at ha
              have hp18 := of_decide_eq_true hg18
              refine gOff ha rfl rfl (by rfl) rfl rfl fun a ha => ?_
              refine gOff ha rfl rfl (by rfl) rfl rfl fun a ha => ?_
              first | refine pY ha (yPickT (by rfl) (by rfl)) rfl fun a ha => ?_ | refine pY ha (yPickF (by rfl) (by rfl)) rfl fun a ha => ?_ | refine pY ha (yPick (by rfl) (by rfl) (by rfl)) rfl fun a ha => ?_
              refine pZ ⟨rfl, ?_⟩
              first | exact ⟨has4 ha (bY (by omega)) (by rfl) (by rfl) (by rfl), hs⟩ | exact ⟨has4 ha (bT (by omega)) (by rfl) (by rfl) (by rfl), hs⟩
          · rw [hg14] at ha
            have hp14 := of_decide_eq_true hg14
            refine gOff ha rfl rfl (by rfl) rfl rfl fun a ha => ?_
            refine gOff ha rfl rfl (by rfl) rfl rfl fun a ha => ?_
            first | refine pY ha (yPickT (by rfl) (by rfl)) rfl fun a ha => ?_ | refine pY ha (yPickF (by rfl) (by rfl)) rfl fun a ha => ?_ | refine pY ha (yPick (by rfl) (by rfl) (by rfl)) rfl fun a ha => ?_
            refine pY ha (yMove (by rfl)) rfl fun a ha => ?_
            refine gOff ha rfl rfl (by rfl) rfl rfl fun a ha => ?_
            refine gOff ha rfl rfl (by rfl) rfl rfl fun a ha => ?_
            first | refine pY ha (yPickT (by rfl) (by rfl)) rfl fun a ha => ?_ | refine pY ha (yPickF (by rfl) (by rfl)) rfl fun a ha => ?_ | refine pY ha (yPick (by rfl) (by rfl) (by rfl)) rfl fun a ha => ?_
            refine pZ ⟨rfl, ?_⟩
            first | exact ⟨has4 ha (bY (by omega)) (by rfl) (by rfl) (by rfl), hs⟩ | exact ⟨has4 ha (bT (by omega)) (by rfl) (by rfl) (by rfl), hs⟩
        · rw [hg10] at ha
          have hp10 := of_decide_eq_true hg10
          refine gOff ha rfl rfl (by rfl) rfl rfl fun a ha => ?_
          refine gOff ha rfl rfl (by rfl) rfl rfl fun a ha => ?_
          first | refine pY ha (yPickT (by rfl) (by rfl)) rfl fun a ha => ?_ | refine pY ha (yPickF (by rfl) (by rfl)) rfl fun a ha => ?_ | refine pY ha (yPick (by rfl) (by rfl) (by rfl)) rfl fun a ha => ?_
          refine pY ha (yMove (by rfl)) rfl fun a ha => ?_
          refine gOff ha rfl rfl (by rfl) rfl rfl fun a ha => ?_
          refine gOff ha rfl rfl (by rfl) rfl rfl fun a ha => ?_
          first | refine pY ha (yPickT (by rfl) (by rfl)) rfl fun a ha => ?_ | refine pY ha (yPickF (by rfl) (by rfl)) rfl fun a ha => ?_ | refine pY ha (yPick (by rfl) (by rfl) (by rfl)) rfl fun a ha => ?_
          refine pY ha (yMove (by rfl)) rfl fun a ha => ?_
          refine gOff ha rfl rfl (by rfl) rfl rfl fun a ha => ?_
          refine gOff ha rfl rfl (by rfl) rfl rfl fun a ha => ?_
          first | refine pY ha (yPickT (by rfl) (by rfl)) rfl fun a ha => ?_ | refine pY ha (yPickF (by rfl) (by rfl)) rfl fun a ha => ?_ | refine pY ha (yPick (by rfl) (by rfl) (by rfl)) rfl fun a ha => ?_
          refine pZ ⟨rfl, ?_⟩
          first | exact ⟨has4 ha (bY (by omega)) (by rfl) (by rfl) (by rfl), hs⟩ | exact ⟨has4 ha (bT (by omega)) (by rfl) (by rfl) (by rfl), hs⟩
      · rw [hg6] at ha
        have hp6 := of_decide_eq_true hg6
        refine gOff ha rfl rfl (by rfl) rfl rfl fun a ha => ?_
        refine gOff ha rfl rfl (by rfl) rfl rfl fun a ha => ?_
        first | refine pY ha (yPickT (by rfl) (by rfl)) rfl fun a ha => ?_ | refine pY ha (yPickF (by rfl) (by rfl)) rfl fun a ha => ?_ | refine pY ha (yPick (by rfl) (by rfl) (by rfl)) rfl fun a ha => ?_
        refine pY ha (yMove (by rfl)) rfl fun a ha => ?_
        refine gOff ha rfl rfl (by rfl) rfl rfl fun a ha => ?_
        refine gOff ha rfl rfl (by rfl) rfl rfl fun a ha => ?_
        first | refine pY ha (yPickT (by rfl) (by rfl)) rfl fun a ha => ?_ | refine pY ha (yPickF (by rfl) (by rfl)) rfl fun a ha => ?_ | refine pY ha (yPick (by rfl) (by rfl) (by rfl)) rfl fun a ha => ?_
        refine pY ha (yMove (by rfl)) rfl fun a ha => ?_
        refine gOff ha rfl rfl (by rfl) rfl rfl fun a ha => ?_
        refine gOff ha rfl rfl (by rfl) rfl rfl fun a ha => ?_
        first | refine pY ha (yPickT (by rfl) (by rfl)) rfl fun a ha => ?_ | refine pY ha (yPickF (by rfl) (by rfl)) rfl fun a ha => ?_ | refine pY ha (yPick (by rfl) (by rfl) (by rfl)) rfl fun a ha => ?_
        refine pY ha (yMove (by rfl)) rfl fun a ha => ?_
        refine gOff ha rfl rfl (by rfl) rfl rfl fun a ha => ?_
        refine gOff ha rfl rfl (by rfl) rfl rfl fun a ha => ?_
        first | refine pY ha (yPickT (by rfl) (by rfl)) rfl fun a ha => ?_ | refine pY ha (yPickF (by rfl) (by rfl)) rfl fun a ha => ?_ | refine pY ha (yPick (by rfl) (by rfl) (by rfl)) rfl fun a ha => ?_
        refine pZ ⟨rfl, ?_⟩
        first | exact ⟨has4 ha (bY (by omega)) (by rfl) (by rfl) (by rfl), hs⟩ | exact ⟨has4 ha (bT (by omega)) (by rfl) (by rfl) (by rfl), hs⟩
    · rw [hg2] at ha
      refine gOff ha rfl rfl (by rfl) rfl rfl fun a ha => ?_
      refine gOff ha rfl rfl (by rfl) rfl rfl fun a ha => ?_
      first | refine pY ha (yPickT (by rfl) (by rfl)) rfl fun a ha => ?_ | refine pY ha (yPickF (by rfl) (by rfl)) rfl fun a ha => ?_ | refine pY ha (yPick (by rfl) (by rfl) (by rfl)) rfl fun a ha => ?_
      refine pY ha (yMove (by rfl)) rfl fun a ha => ?_
      refine gOff ha rfl rfl (by rfl) rfl rfl fun a ha => ?_
      refine gOff ha rfl rfl (by rfl) rfl rfl fun a ha => ?_
      first | refine pY ha (yPickT (by rfl) (by rfl)) rfl fun a ha => ?_ | refine pY ha (yPickF (by rfl) (by rfl)) rfl fun a ha => ?_ | refine pY ha (yPick (by rfl) (by rfl) (by rfl)) rfl fun a ha => ?_
      refine pY ha (yMove (by rfl)) rfl fun a ha => ?_
      refine gOff ha rfl rfl (by rfl) rfl rfl fun a ha => ?_
      refine gOff ha rfl rfl (by rfl) rfl rfl fun a ha => ?_
      first | refine pY ha (yPickT (by rfl) (by rfl)) rfl fun a ha => ?_ | refine pY ha (yPickF (by rfl) (by rfl)) rfl fun a ha => ?_ | refine pY ha (yPick (by rfl) (by rfl) (by rfl)) rfl fun a ha => ?_
      refine pY ha (yMove (by rfl)) rfl fun a ha => ?_
      refine gOff ha rfl rfl (by rfl) rfl rfl fun a ha => ?_
      refine gOff ha rfl rfl (by rfl) rfl rfl fun a ha => ?_
      first | refine pY ha (yPickT (by rfl) (by rfl)) rfl fun a ha => ?_ | refine pY ha (yPickF (by rfl) (by rfl)) rfl fun a ha => ?_ | refine pY ha (yPick (by rfl) (by rfl) (by rfl)) rfl fun a ha => ?_
      refine pY ha (yMove (by rfl)) rfl fun a ha => ?_
      refine gOff ha rfl rfl (by rfl) rfl rfl fun a ha => ?_
      refine gOff ha rfl rfl (by rfl) rfl rfl fun a ha => ?_
      first | refine pY ha (yPickT (by rfl) (by rfl)) rfl fun a ha => ?_ | refine pY ha (yPickF (by rfl) (by rfl)) rfl fun a ha => ?_ | refine pY ha (yPick (by rfl) (by rfl) (by rfl)) rfl fun a ha => ?_
      refine pZ ⟨rfl, ?_⟩
      first | exact ⟨has4 ha (bY (by omega)) (by rfl) (by rfl) (by rfl), hs⟩ | exact ⟨has4 ha (bT (by omega)) (by rfl) (by rfl) (by rfl), hs⟩
  rintro a w ⟨ha, hs⟩
  refine hK3 _ _ ?_
  first | refine cDec ha (by rfl) (fun hc34 => ?_) (fun hc34 => ?_) | refine cSplit ha (by rfl) (fun hc34 => ?_) (fun hc34 => ?_)
  · refine wp_seq_k fun K4 hK4 => ?_
    refine wp_region_lit ?_
    refine pC ha (nCall Tryd.call7 (by rfl)) rfl (awake18_c hT hs) ?_
    rintro v w ⟨rfl, hs⟩ a ha
    refine pY ha (yAssign (by rfl)) rfl fun a ha => ?_
    refine pZ ?_
    refine hK4 _ _ ?_
    refine wp_ret ?_
    show bodyPost Tryd.prog Tryd.f4 _ .ret _ _
    refine ret1 rfl ha (by rfl) ?_
    exact ⟨rfl, _, hs⟩
  · have hr : (0 ≤ c0 ∧ c0 ≤ 22) ∧ (0 ≤ a0 ∧ a0 ≤ 22) ∧ (0 ≤ t0 ∧ t0 ≤ 2010) := Classical.not_not.1 hc34
    obtain ⟨⟨r1, r2⟩, ⟨r3, r4⟩, r5, r6⟩ := hr
    obtain ⟨C, rfl⟩ := Int.eq_ofNat_of_zero_le r1
    obtain ⟨E, rfl⟩ := Int.eq_ofNat_of_zero_le r3
    obtain ⟨X, rfl⟩ := Int.eq_ofNat_of_zero_le r5
    obtain ⟨lc1, lc2, lc3⟩ := lim_C C (by omega)
    obtain ⟨la1, la2, la3⟩ := lim_A E (by omega)
    obtain ⟨lt1, lt2, lt3⟩ := lim_T X (by omega)
    refine wp_skip ?_
    refine hK2 _ _ ?_
    refine wp_seq_k fun K5 hK5 => ?_
    refine wp_region_lit ?_
    refine pY ha (yAssign (by rfl)) rfl fun a ha => ?_
    refine pZ ?_
    refine hK5 _ _ ?_
    refine wp_seq_k fun K6 hK6 => ?_
    refine wp_seq_k fun K7 hK7 => ?_
    refine wp_region_lit ?_
    refine pY ha (yAssign (by rfl)) rfl fun a ha => ?_
    refine pZ ?_
    refine hK7 _ _ ?_
    refine wp_block ?_
    refine loopI (ι := Nat × Option Addr × Nat) (fun i a w => i.1 ≤ C ∧ Has a 99 [(0, .int .i64 C), (1, .int .i64 E), (2, .int .i64 X), (7, .slice i.2.1 (limC i.1).length i.2.2), (8, .int .i64 i.1)] ∧ Sep W w (.ol kCmt 40 (.slice i.2.1 (limC i.1).length i.2.2) (limC i.1) :: cs)) (fun i => C - i.1) ((0, none, 0)) ?_ ?_
    · exact ⟨Nat.zero_le _, has5 ha (by rfl) (by rfl) (by rfl) (by rfl) (by rfl), hs.ol_nil kCmt _ none⟩
    · rintro i a w ⟨h1, ha, hs⟩
      obtain ⟨i, A, c⟩ := i; simp only at h1 ha hs
      refine wp_seq_k fun K8 hK8 => ?_
      refine wp_seq_k fun K9 hK9 => ?_
      refine wp_region_lit ?_
      refine pY ha (yMove (by rfl)) rfl fun a ha => ?_
      refine pY ha (yMove (by rfl)) rfl fun a ha => ?_
      refine pY ha (yLss (by rfl) (by rfl)) rfl fun a ha => ?_
      refine pZ ?_
      refine hK9 _ _ ?_
      first | refine cDec ha (by rfl) (fun hc38 => ?_) (fun hc38 => ?_) | refine cSplit ha (by rfl) (fun hc38 => ?_) (fun hc38 => ?_)
      · have hll := limC_len i
        refine wp_skip ?_
        refine hK8 _ _ ?_
        refine wp_seq_k fun K10 hK10 => ?_
        refine wp_block ?_
        refine wp_region_lit ?_
        refine pY ha (yMove (by rfl)) rfl fun a ha => ?_
        refine pY ha (yMove (by rfl)) rfl fun a ha => ?_
        refine pY ha (bldWLimW40_0 (by rfl)) rfl fun a ha => ?_
        refine pMake ha (bslWLimW23_1_0 (by rfl)) hs rfl fun b w hs a ha => ?_
        have hs := hs.add_cmt i
        first | refine pApp1 ha elWLimW23 (by rfl) (by rfl) hs (by repeat first | exact .here | apply Pick.there) (by repeat first | exact .here | apply Pick.there) (by repeat first | exact .here | apply Pick.there) (by rfl) (by first | omega | (unfold maxLen; omega) | (simp [maxLen]; done) | (simp [maxLen]; omega)) (by first | omega | (unfold maxLen; omega) | (simp [maxLen]; done) | (simp [maxLen]; omega)) rfl fun A c w hs a ha => ?_ | refine pAppRd ha elWLimW23 (by rfl) (by rfl) hs (by repeat first | exact .here | apply Pick.there) (by repeat first | exact .here | apply Pick.there) (by rfl) (by first | omega | (unfold maxLen; omega) | (simp [maxLen]; done) | (simp [maxLen]; omega)) (by first | omega | (unfold maxLen; omega) | (simp [maxLen]; done) | (simp [maxLen]; omega)) rfl fun A c w hs a ha => ?_ | refine pApp1F ha elWLimW23 (by rfl) (by rfl) hs (by repeat first | exact .here | apply Pick.there) (by repeat first | exact .here | apply Pick.there) (by intro Z; first | rfl | exact ⟨rfl, by omega, by omega⟩) (by rfl) (by first | omega | (unfold maxLen; omega) | (simp [maxLen]; done) | (simp [maxLen]; omega)) (by first | omega | (unfold maxLen; omega) | (simp [maxLen]; done) | (simp [maxLen]; omega)) rfl fun A c w hs a ha => ?_
        refine pY ha (yAssign (by rfl)) rfl fun a ha => ?_
        refine pZ ?_
        refine hK10 _ _ ?_
        refine wp_region_lit ?_
        refine pY ha (yMove (by rfl)) rfl fun a ha => ?_
        first | refine pY ha (yAddN (by rfl) (by rfl) ⟨by omega, by omega⟩) rfl fun a ha => ?_ | refine pY ha (yAdd (by rfl) (by rfl)) rfl fun a ha => ?_
        refine pY ha (yAssign (by rfl)) rfl fun a ha => ?_
        refine pZ ?_
        refine ⟨(i + 1, A, c), ⟨by simp only; omega, ?_, ?_⟩, by simp only; omega⟩
        · simp only [limC_next, List.length_append, List.length_cons, List.length_nil]; exact has5 ha (by rfl) (by rfl) (by rfl) (by rfl) (by rfl)
        · simp only [limC_next, List.length_append, List.length_cons, List.length_nil]; exact hs
      · refine wp_exit ?_
        refine hK6 _ _ ?_
        refine wp_seq_k fun K11 hK11 => ?_
        obtain rfl : C = i := by omega
        have hs := hs.ol_rd .here
        refine wp_region_lit ?_
        refine pY ha (yAssign (by rfl)) rfl fun a ha => ?_
        refine pZ ?_
        refine hK11 _ _ ?_
        refine wp_seq_k fun K12 hK12 => ?_
        refine wp_seq_k fun K13 hK13 => ?_
        refine wp_region_lit ?_
        refine pY ha (yAssign (by rfl)) rfl fun a ha => ?_
        refine pZ ?_
        refine hK13 _ _ ?_
        refine wp_block ?_
        refine loopI (ι := Nat × Option Addr × Nat) (fun j a w => j.1 ≤ E ∧ Has a 99 [(0, .int .i64 C), (1, .int .i64 E), (2, .int .i64 X), (7, .slice A (limC C).length c), (9, .slice j.2.1 (limA j.1).length j.2.2), (10, .int .i64 j.1)] ∧ Sep W w (.ol kActn 43 (.slice j.2.1 (limA j.1).length j.2.2) (limA j.1) :: .rd kCmt (.slice A (limC C).length c) (limC C) :: cs)) (fun j => E - j.1) ((0, none, 0)) ?_ ?_
        · exact ⟨Nat.zero_le _, has6 ha (by rfl) (by rfl) (by rfl) (by rfl) (by rfl) (by rfl), hs.ol_nil kActn _ none⟩
        · rintro j a w ⟨h1, ha, hs⟩
          obtain ⟨j, D, d⟩ := j; simp only at h1 ha hs
          refine wp_seq_k fun K14 hK14 => ?_
          refine wp_seq_k fun K15 hK15 => ?_
          refine wp_region_lit ?_
          refine pY ha (yMove (by rfl)) rfl fun a ha => ?_
          refine pY ha (yMove (by rfl)) rfl fun a ha => ?_
          refine pY ha (yLss (by rfl) (by rfl)) rfl fun a ha => ?_
          refine pZ ?_
          refine hK15 _ _ ?_
          first | refine cDec ha (by rfl) (fun hc48 => ?_) (fun hc48 => ?_) | refine cSplit ha (by rfl) (fun hc48 => ?_) (fun hc48 => ?_)
          · have hll := limA_len j
            refine wp_skip ?_
            refine hK14 _ _ ?_
            refine wp_seq_k fun K16 hK16 => ?_
            refine wp_block ?_
            refine wp_region_lit ?_
            refine pY ha (yMove (by rfl)) rfl fun a ha => ?_
            refine pY ha (yMove (by rfl)) rfl fun a ha => ?_
            first | refine pY ha (yAddN (by rfl) (by rfl) ⟨by omega, by omega⟩) rfl fun a ha => ?_ | refine pY ha (yAdd (by rfl) (by rfl)) rfl fun a ha => ?_
            refine pY ha (bldWLimW43_0_1 (by rfl) (by rfl)) rfl fun a ha => ?_
            refine pMake ha (bslWLimW22_1_0 (by rfl)) hs rfl fun b w hs a ha => ?_
            have hs := hs.add_act 2 (1 + j)
            first | refine pApp1 ha elWLimW22 (by rfl) (by rfl) hs (by repeat first | exact .here | apply Pick.there) (by repeat first | exact .here | apply Pick.there) (by repeat first | exact .here | apply Pick.there) (by rfl) (by first | omega | (unfold maxLen; omega) | (simp [maxLen]; done) | (simp [maxLen]; omega)) (by first | omega | (unfold maxLen; omega) | (simp [maxLen]; done) | (simp [maxLen]; omega)) rfl fun A c w hs a ha => ?_ | refine pAppRd ha elWLimW22 (by rfl) (by rfl) hs (by repeat first | exact .here | apply Pick.there) (by repeat first | exact .here | apply Pick.there) (by rfl) (by first | omega | (unfold maxLen; omega) | (simp [maxLen]; done) | (simp [maxLen]; omega)) (by first | omega | (unfold maxLen; omega) | (simp [maxLen]; done) | (simp [maxLen]; omega)) rfl fun A c w hs a ha => ?_ | refine pApp1F ha elWLimW22 (by rfl) (by rfl) hs (by repeat first | exact .here | apply Pick.there) (by repeat first | exact .here | apply Pick.there) (by intro Z; first | rfl | exact ⟨rfl, by omega, by omega⟩) (by rfl) (by first | omega | (unfold maxLen; omega) | (simp [maxLen]; done) | (simp [maxLen]; omega)) (by first | omega | (unfold maxLen; omega) | (simp [maxLen]; done) | (simp [maxLen]; omega)) rfl fun A c w hs a ha => ?_
            refine pY ha (yAssign (by rfl)) rfl fun a ha => ?_
            refine pZ ?_
            refine hK16 _ _ ?_
            refine wp_region_lit ?_
            refine pY ha (yMove (by rfl)) rfl fun a ha => ?_
            first | refine pY ha (yAddN (by rfl) (by rfl) ⟨by omega, by omega⟩) rfl fun a ha => ?_ | refine pY ha (yAdd (by rfl) (by rfl)) rfl fun a ha => ?_
            refine pY ha (yAssign (by rfl)) rfl fun a ha => ?_
            refine pZ ?_
            refine ⟨(j + 1, A, c), ⟨by simp only; omega, ?_, ?_⟩, by simp only; omega⟩
            · simp only [limA_next, List.length_append, List.length_cons, List.length_nil]; exact has6 ha (by rfl) (by rfl) (by rfl) (by rfl) (by rfl) (by rfl)
            · simp only [limA_next, List.length_append, List.length_cons, List.length_nil]; exact hs
          · refine wp_exit ?_
            refine hK12 _ _ ?_
            refine wp_seq_k fun K17 hK17 => ?_
            obtain rfl : E = j := by omega
            have hs := hs.ol_rd .here
            refine wp_region_lit ?_
            refine pY ha (bldWLimW43_0_1 (by rfl) (by rfl)) rfl fun a ha => ?_
            refine pMake ha (bslWLimW22_1_0 (by rfl)) hs rfl fun be w hs a ha => ?_
            refine pY ha (yAssign (by rfl)) rfl fun a ha => ?_
            refine pZ ?_
            refine hK17 _ _ ?_
            refine wp_seq_k fun K18 hK18 => ?_
            have hJ18 : ∀ a w, (Has a 99 [(0, .int .i64 C), (1, .int .i64 E), (2, .int .i64 X), (7, .slice A (limC C).length c), (9, .slice D (limA E).length d), (11, .slice (some ⟨be, 0, none⟩) 1 1)] ∧ Sep W w (.rd kActn (.slice (some ⟨be, 0, none⟩) 1 1) (limT X) :: .rd kActn (.slice D (limA E).length d) (limA E) :: .rd kCmt (.slice A (limC C).length c) (limC C) :: cs)) → K18 a w := by
              rintro a w ⟨ha, hs⟩
              refine hK18 _ _ ?_
              refine wp_seq_k fun K19 hK19 => ?_
              refine wp_region_lit ?_
              refine pY ha (yAssign (by rfl)) rfl fun a ha => ?_
              refine pZ ?_
              refine hK19 _ _ ?_
              refine wp_seq_k fun K20 hK20 => ?_
              have hs := ((hs.rd_nil (d := kNod)).rd_nil (d := kActn)).mk_msg (x := mLimC C) .here (.there (.there (.there .here))) .here
              refine wp_region_lit ?_
              refine pY ha (yMove (by rfl)) rfl fun a ha => ?_
              refine pY ha (bldWLimW26_0_6 (by rfl) (by rfl)) rfl fun a ha => ?_
              refine pC ha (nCall Tryd.call9 (by rfl)) rfl (MCheck_c hT lc2 lc3 hs .here) ?_
              rintro v w ⟨rfl, hs⟩ a ha
              rw [lc1] at ha
              refine pY ha (yMove (by rfl)) rfl fun a ha => ?_
              refine pY ha (yMove (by rfl)) rfl fun a ha => ?_
              refine pY ha (yLeq (by rfl) (by rfl)) rfl fun a ha => ?_
              refine pC ha (nCallV (cl := []) Tryd.call14 (by rfl) (by rfl) (by rfl)) rfl (Want_c (decide ((C : Int) ≤ 20)) hs) ?_
              rintro v w ⟨rfl, hs⟩ a ha
              refine pY ha (yEql (by rfl) (by rfl)) rfl fun a ha => ?_
              refine pY ha (yMove (by rfl)) rfl fun a ha => ?_
              refine gDec (t := 76) ha (by rfl) (fun hg8 hp8 => ?_) (fun hg8 hp8 => ?_)
              · exact absurd rfl hp8
              · rw [hg8] at ha
                refine gOn ha rfl rfl (by rfl) ?_
                refine pY ha (yMove (by rfl)) rfl fun a ha => ?_
                have hs := ((hs.rd_nil (d := kNod)).rd_nil (d := kCmt)).mk_msg (x := mLimA E) (.there (.there (.there (.there .here)))) .here .here
                refine gOn ha rfl rfl (by rfl) ?_
                refine pY ha (bldWLimW26_0_5 (by rfl) (by rfl)) rfl fun a ha => ?_
                refine gOn ha rfl rfl (by rfl) ?_
                refine pC ha (nCall Tryd.call9 (by rfl)) rfl (MCheck_c hT la2 la3 hs .here) ?_
                rintro v w ⟨rfl, hs⟩ a ha
                rw [la1] at ha
                refine gOn ha rfl rfl (by rfl) ?_
                refine pY ha (yMove (by rfl)) rfl fun a ha => ?_
                refine gOn ha rfl rfl (by rfl) ?_
                refine pY ha (yMove (by rfl)) rfl fun a ha => ?_
                refine gOn ha rfl rfl (by rfl) ?_
                refine pY ha (yLeq (by rfl) (by rfl)) rfl fun a ha => ?_
                refine gOn ha rfl rfl (by rfl) ?_
                refine pC ha (nCallV (cl := []) Tryd.call14 (by rfl) (by rfl) (by rfl)) rfl (Want_c (decide ((E : Int) ≤ 20)) hs) ?_
                rintro v w ⟨rfl, hs⟩ a ha
                refine gOn ha rfl rfl (by rfl) ?_
                refine pY ha (yEql (by rfl) (by rfl)) rfl fun a ha => ?_
                first | refine pY ha (yPickT (by rfl) (by rfl)) rfl fun a ha => ?_ | refine pY ha (yPickF (by rfl) (by rfl)) rfl fun a ha => ?_ | refine pY ha (yPick (by rfl) (by rfl) (by rfl)) rfl fun a ha => ?_
                refine pY ha (yMove (by rfl)) rfl fun a ha => ?_
                refine gSplit (t := 86) ha (by rfl) (fun hg18 => ?_) (fun hg18 => ?_)
                · simp at hg18
                · rw [hg18] at ha
                  refine gOn ha rfl rfl (by rfl) ?_
                  refine pY ha (yMove (by rfl)) rfl fun a ha => ?_
                  have hs := ((hs.rd_nil (d := kNod)).rd_nil (d := kCmt)).mk_msg (x := mLimT X) (.there (.there (.there (.there .here)))) .here .here
                  refine gOn ha rfl rfl (by rfl) ?_
                  refine pY ha (bldWLimW26_0_5 (by rfl) (by rfl)) rfl fun a ha => ?_
                  refine gOn ha rfl rfl (by rfl) ?_
                  refine pC ha (nCall Tryd.call9 (by rfl)) rfl (MCheck_c hT lt2 lt3 hs .here) ?_
                  rintro v w ⟨rfl, hs⟩ a ha
                  rw [lt1] at ha
                  refine gOn ha rfl rfl (by rfl) ?_
                  refine pY ha (yMove (by rfl)) rfl fun a ha => ?_
                  refine gOn ha rfl rfl (by rfl) ?_
                  refine pY ha (yMove (by rfl)) rfl fun a ha => ?_
                  refine gOn ha rfl rfl (by rfl) ?_
                  refine pY ha (yLeq (by rfl) (by rfl)) rfl fun a ha => ?_
                  refine gOn ha rfl rfl (by rfl) ?_
                  refine pC ha (nCallV (cl := []) Tryd.call14 (by rfl) (by rfl) (by rfl)) rfl (Want_c (decide ((X : Int) ≤ 2000)) hs) ?_
                  rintro v w ⟨rfl, hs⟩ a ha
                  refine gOn ha rfl rfl (by rfl) ?_
                  refine pY ha (yEql (by rfl) (by rfl)) rfl fun a ha => ?_
                  first | refine pY ha (yPickT (by rfl) (by rfl)) rfl fun a ha => ?_ | refine pY ha (yPickF (by rfl) (by rfl)) rfl fun a ha => ?_ | refine pY ha (yPick (by rfl) (by rfl) (by rfl)) rfl fun a ha => ?_
                  refine pY ha (yMove (by rfl)) rfl fun a ha => ?_
                  refine gSplit (t := 96) ha (by rfl) (fun hg28 => ?_) (fun hg28 => ?_)
                  · simp at hg28
                  · rw [hg28] at ha
                    refine gOn ha rfl rfl (by rfl) ?_
                    refine pC ha (nCall Tryd.call7 (by rfl)) rfl (awake18_c hT hs) ?_
                    rintro v w ⟨rfl, hs⟩ a ha
                    first | refine pY ha (yPickT (by rfl) (by rfl)) rfl fun a ha => ?_ | refine pY ha (yPickF (by rfl) (by rfl)) rfl fun a ha => ?_ | refine pY ha (yPick (by rfl) (by rfl) (by rfl)) rfl fun a ha => ?_
                    refine pY ha (yAssign (by rfl)) rfl fun a ha => ?_
                    refine pZ ?_
                    refine hK20 _ _ ?_
                    refine wp_ret ?_
                    show bodyPost Tryd.prog Tryd.f4 _ .ret _ _
                    refine ret1 rfl ha (by rfl) ?_
                    exact ⟨rfl, _, hs⟩
            refine wp_seq_k fun K21 hK21 => ?_
            refine wp_region_lit ?_
            refine pY ha (yMove (by rfl)) rfl fun a ha => ?_
            refine pY ha (yGtr (by rfl) (by rfl)) rfl fun a ha => ?_
            refine pZ ?_
            refine hK21 _ _ ?_
            first | refine cDec ha (by rfl) (fun hc60 => ?_) (fun hc60 => ?_) | refine cSplit ha (by rfl) (fun hc60 => ?_) (fun hc60 => ?_)
            · refine wp_region_lit ?_
              refine pY ha (yMove (by rfl)) rfl fun a ha => ?_
              refine pY ha (yMove (by rfl)) rfl fun a ha => ?_
              refine pC ha (nCall Tryd.call13 (by rfl)) rfl (Block_c X 1 (by omega) (by decide) (by decide) hs) ?_
              rintro v w ⟨rfl, hs⟩ a ha
              refine pY ha (bldWLimW46_0_2 (by rfl) (by rfl)) rfl fun a ha => ?_
              refine pMake ha (bslWLimW41_1_0 (by rfl)) hs rfl fun bo w hs a ha => ?_
              refine pY ha (yIndexA Tryd.runUnderlying22 Tryd.sizeOf43 (by rfl) (by rfl) (by omega) (by omega)) rfl fun a ha => ?_
              refine pY ha (yFieldA Tryd.runUnderlying43 rfl Tryd.sizeOf41 rfl (by rfl)) rfl fun a ha => ?_
              refine pStore ha Tryd.sizeOf41 hs (by rfl) (by rfl) rfl rfl (by repeat first | exact .here | apply Pick.there) (by rfl) fun w hs => ?_
              refine pZ ?_
              refine hJ18 _ _ ?_
              first
                | (have hs := (hs.pick (.there .here)).add (x := .el kComp ⟨2, 0, ⟨(blockL X 1).toArray⟩⟩ [.int .i64 2, .int .i64 0, .string ⟨(blockL X 1).toArray⟩]) (fun Z => rfl)
                   have hs := hs.one_rd (.there .here) .here
                   have hs := hs.with_ro .here (q := fun Z => kActn.R Z ⟨4, 1, 0, emp, false, [⟨2, 0, ⟨(blockL X 1).toArray⟩⟩]⟩ [.int .i64 4, .int .i64 1, .int .i64 0, .string ⟨#[]⟩, .bool false, .slice (some ⟨bo, 0, none⟩) 1 1]) (m' := fun _ _ h => kActn.mono h) (fun Z hp => ⟨_, _, _, rfl, hp⟩)
                   refine ⟨has6 ha (by rfl) (by rfl) (by rfl) (by rfl) (by rfl) (by rfl), ?_⟩
                   rw [show limT X = [⟨4, 1, 0, emp, false, [⟨2, 0, ⟨(blockL X 1).toArray⟩⟩]⟩] by unfold limT; rw [if_pos (by omega)]]
                   exact (hs.one_rd (.there (.there .here)) .here).drop2)
                | (refine ⟨has6 ha (by rfl) (by rfl) (by rfl) (by rfl) (by rfl) (by rfl), ?_⟩
                   rw [show limT X = [⟨4, 1, 0, emp, false, []⟩] by unfold limT; rw [if_neg (by omega)]]
                   exact (hs.add_act 4 1).one_rd (.there .here) .here)
            · refine wp_skip ?_
              refine hJ18 _ _ ?_
              first
                | (have hs := (hs.pick (.there .here)).add (x := .el kComp ⟨2, 0, ⟨(blockL X 1).toArray⟩⟩ [.int .i64 2, .int .i64 0, .string ⟨(blockL X 1).toArray⟩]) (fun Z => rfl)
                   have hs := hs.one_rd (.there .here) .here
                   have hs := hs.with_ro .here (q := fun Z => kActn.R Z ⟨4, 1, 0, emp, false, [⟨2, 0, ⟨(blockL X 1).toArray⟩⟩]⟩ [.int .i64 4, .int .i64 1, .int .i64 0, .string ⟨#[]⟩, .bool false, .slice (some ⟨bo, 0, none⟩) 1 1]) (m' := fun _ _ h => kActn.mono h) (fun Z hp => ⟨_, _, _, rfl, hp⟩)
                   refine ⟨has6 ha (by rfl) (by rfl) (by rfl) (by rfl) (by rfl) (by rfl), ?_⟩
                   rw [show limT X = [⟨4, 1, 0, emp, false, [⟨2, 0, ⟨(blockL X 1).toArray⟩⟩]⟩] by unfold limT; rw [if_pos (by omega)]]
                   exact (hs.one_rd (.there (.there .here)) .here).drop2)
                | (refine ⟨has6 ha (by rfl) (by rfl) (by rfl) (by rfl) (by rfl) (by rfl), ?_⟩
                   rw [show limT X = [⟨4, 1, 0, emp, false, []⟩] by unfold limT; rw [if_neg (by omega)]]
                   exact (hs.add_act 4 1).one_rd (.there .here) .here)
end
end Go.Proofs.YtnlhbkaieoogfaaDoor

