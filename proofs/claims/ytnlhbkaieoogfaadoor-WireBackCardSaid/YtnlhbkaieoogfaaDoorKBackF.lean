/- A part of the proof of WireBack (part 6 of 6): the words and the walks. -/
import Derived.Test.YtnlhbkaieoogfaaDoorKBackE
set_option linter.unusedVariables false
set_option linter.unusedSimpArgs false
namespace Go.Proofs.YtnlhbkaieoogfaaDoor
open Go.RowKit Go.Lib Go.Proofs.YtnlhbkaieoogfaaDoorW.PrintLast
theorem bldAwk1826_ {w : World} {l : List (Nat × Value)} {T : TypeId} : Yl Tryd.prog w l (.build 26 #[]) T (.agg #[.int .i64 0, .int .i64 0, .int .i64 0, .int .i64 0, .int .i64 0, .slice none 0 0, .slice none 0 0, .slice none 0 0, .int .i64 0]) := fun ρ o h ho _ => by
  unfold execOp; rw [ho]
  simp [Instr.build, Instr.fill, Tryd.zeroValue26, Tryd.runUnderlying26, Tryd.sizeOf22, Tryd.sizeOf23, Tryd.sizeOf24, Tryd.sizeOf3, agg_cells]
theorem bldAwk1826_0_1_3 {w : World} {l : List (Nat × Value)} {T : TypeId} {x0 x1 x3 : Operand} {v0 : Value} (h0 : ev l x0 = some v0) {v1 : Value} (h1 : ev l x1 = some v1) {v3 : Value} (h3 : ev l x3 = some v3) (o0 : v0.cells = #[v0] := by rfl) (o1 : v1.cells = #[v1] := by rfl) (o3 : v3.cells = #[v3] := by rfl) : Yl Tryd.prog w l (.build 26 #[(0, x0), (1, x1), (3, x3)]) T (.agg #[v0, v1, .int .i64 0, v3, .int .i64 0, .slice none 0 0, .slice none 0 0, .slice none 0 0, .int .i64 0]) := fun ρ o h ho _ => by
  have hf : Instr.fill (fun i => ([(0, 1), (1, 1), (2, 1), (3, 1), (4, 1), (5, 1), (6, 1), (7, 1), (8, 1)] : List (Nat × Nat))[i]?) #[.int .i64 0, .int .i64 0, .int .i64 0, .int .i64 0, .int .i64 0, .slice none 0 0, .slice none 0 0, .slice none 0 0, .int .i64 0] [(0, v0), (1, v1), (3, v3)] = some #[v0, v1, .int .i64 0, v3, .int .i64 0, .slice none 0 0, .slice none 0 0, .slice none 0 0, .int .i64 0] := by
    refine (fill_v o0 (by rfl) (by simp)).trans ?_
    refine (fill_v o1 (by rfl) (by simp)).trans ?_
    refine (fill_v o3 (by rfl) (by simp)).trans ?_
    simp [Instr.fill]
  unfold execOp; rw [ho]
  simp [h _ _ h0, h _ _ h1, h _ _ h3, Instr.build, Tryd.zeroValue26, Tryd.runUnderlying26, Tryd.sizeOf22, Tryd.sizeOf23, Tryd.sizeOf24, Tryd.sizeOf3, agg_cells, hf]
instance (n : Int) : Decidable (i64 n) := by unfold i64; infer_instance
/-- A message without lists. -/
theorem bare_ok {m : Msg} (hk : 1 ≤ m.kind ∧ m.kind ≤ 9) (hp : m = plainM m) (hf : fits m.client = true ∧ fits m.seq = true ∧ fits m.rev = true ∧ fits m.last = true ∧ fits m.code = true) (h1 : m.acts = []) (h2 : m.commits = []) (h3 : m.nodes = []) : msgE m = 0 := by
  have hl := wMsg_len m
  rw [h1, h2, h3] at hl
  simp only [tActns, tCmts, tNods, List.map_nil, List.sum_nil] at hl
  have hb : (bOut m).length ≤ 65536 := by
    unfold bOut; split
    · simp
    · omega
  obtain ⟨f1, f2, f3, f4, f5⟩ := hf
  unfold msgE
  rw [if_neg (by rw [f1, f2, f3, f4, f5]; simp only [not_or]; exact ⟨by omega, by omega, fun h => h hp, by decide, by decide, by decide, by decide, by decide⟩)]
  rw [h1, h2, h3]
  rw [if_neg (by decide), if_neg (by decide), if_neg (by decide), if_neg (by omega)]
theorem dec_nil : decM [] = (noM, 2) := by
  obtain ⟨M, s, hR⟩ : ∃ M s, rMsg (([] : List UInt8), (0 : Int)) = (M, s) := ⟨_, _, rfl⟩
  refine dec_no (Nat.zero_le _) hR (.inl ?_)
  have h0 : rNum (([] : List UInt8), (0 : Int)) = (0, ([], 2)) := rfl
  have hn : rNum (([] : List UInt8), (2 : Int)) = (0, ([], 2)) := rNum_err (by decide)
  have ha : rActns (([] : List UInt8), (2 : Int)) = ([], ([], 2)) := rAll_err (by decide) (by decide)
  have hc : rCmts (([] : List UInt8), (2 : Int)) = ([], ([], 2)) := by
    unfold rCmts
    rw [rMany_err (by decide) (by decide)]
    rfl
  have hd : rNods (([] : List UInt8), (2 : Int)) = ([], ([], 2)) := rAll_err (by decide) (by decide)
  unfold rMsg at hR
  simp only [h0, hn, ha, hc, hd] at hR
  injection hR with _ h2
  rw [← h2]
  decide
section
variable {W w : World} {cs r r2 : List Ch}
theorem Sep.dropN {l : List Ch} (h : Sep W w l) : ∀ (n : Nat), Sep W w (l.drop n)
  | 0 => h
  | n + 1 => by
    have h2 := Sep.dropN h n
    rw [← List.drop_drop (i := 1) (j := n)] 
    cases hl : l.drop n with
    | nil => rw [hl] at h2; exact h2
    | cons c r => rw [hl] at h2; exact h2.drop
theorem Sep.zeros_rd {b n : Nat} (hn : n ≤ 140737488355328) (hs : Sep W w cs) (hk : Pick cs (.blk b 5 (List.replicate n (.int .u8 0))) r) : Sep W w (.rd kU8 (.slice (some ⟨b, 0, none⟩) n n) (List.replicate n (0 : UInt8)) :: r) := by
  have h := (Sep.flat_ol (xs := List.replicate n (0 : UInt8)) (cap := n) kU8_flat hs hk (fun x _ Z => rfl) (by simp) (by unfold maxLen; omega) (by simp) (fun j x hx => by
    obtain ⟨hj, rfl⟩ := List.getElem?_eq_some_iff.1 hx
    rw [List.length_replicate] at hj
    rw [List.getElem?_replicate, if_pos hj]
    simp)).ol_rd .here
  rw [List.length_replicate] at h
  exact h
theorem dec_big {l : List UInt8} (h : 65536 < l.length) : decM l = (noM, 3) := by unfold decM; rw [if_pos (by omega)]
theorem Sep.msg_none (hs : Sep W w cs) (k c s rv o l : Int) : Sep W w (.el kMsg ⟨k, c, s, rv, o, [], [], [], l⟩ [.int .i64 k, .int .i64 c, .int .i64 s, .int .i64 rv, .int .i64 o, .slice none 0 0, .slice none 0 0, .slice none 0 0, .int .i64 l] :: cs) :=
  ((((hs.rd_nil (d := kNod)).rd_nil (d := kCmt)).rd_nil (d := kActn)).mk_msg (x := ⟨k, c, s, rv, o, [], [], [], l⟩) .here .here .here)
theorem bare_m {m : Msg} (h0 : i64 m.client ∧ i64 m.seq ∧ i64 m.rev ∧ i64 m.last ∧ i64 m.code) (h1 : m.acts = []) (h2 : m.commits = []) (h3 : m.nodes = []) : mM m ∧ (wMsg m).1.length ≤ 8796093022208 := by
  have hg : gM m := ⟨h0, by rw [h1]; simp, by rw [h2]; simp, by rw [h3]; simp⟩
  have := light_M hg (by unfold tMsg; rw [h1, h2, h3]; decide)
  exact ⟨this.1, by omega⟩
theorem awake18_c (hT : Tabs W) (hs : Sep W w cs) : Calls P 7 #[] w (Rt fun v w' => v = .bool true ∧ Sep W w' cs) := by
  have hm0 := bare_m (m := ⟨3, 2, 0, 5, 0, [], [], [], 0⟩) (by decide) rfl rfl rfl
  have he0 : msgE ⟨3, 2, 0, 5, 0, [], [], [], 0⟩ = 0 := bare_ok (by decide) rfl (by decide) rfl rfl rfl
  have hm1 := bare_m (m := noM) (by decide) rfl rfl rfl
  have he1 : msgE noM = 1 := by unfold msgE; rw [if_pos (by decide)]
  have hen : encM ⟨3, 2, 0, 5, 0, [], [], [], 0⟩ = (bOut ⟨3, 2, 0, 5, 0, [], [], [], 0⟩, 0) := by unfold encM; rw [if_neg (by rw [he0]; decide)]
  refine enter Tryd.func7 Tryd.ntmps7 rfl rfl fun a (ha : Has a 59 []) => ?_
  refine wp_seq_k fun K1 hK1 => ?_
  refine wp_region_lit ?_
  refine pY ha (yAssign (by rfl)) rfl fun a ha => ?_
  refine pZ ?_
  refine hK1 _ _ ?_
  refine wp_seq_k fun K2 hK2 => ?_
  have hs := hs.msg_none 3 2 0 5 0 0
  refine wp_region_lit ?_
  refine pY ha (bldAwk1826_0_1_3 (by rfl) (by rfl) (by rfl)) rfl fun a ha => ?_
  refine pC ha (nCall Tryd.call8 (by rfl)) rfl (Encode_c hT hm0.1 hm0.2 hs .here) ?_
  rintro v w ⟨A1, c1, rfl, hs⟩ a ha
  rw [hen] at ha hs
  refine pY ha (yMove (by rfl)) rfl fun a ha => ?_
  refine pY ha (yExtract (by rfl) (by rfl)) rfl fun a ha => ?_
  refine pY ha (yExtract (by rfl) (by rfl)) rfl fun a ha => ?_
  refine pY ha (yAssign (by rfl)) rfl fun a ha => ?_
  refine pY ha (yAssign (by rfl)) rfl fun a ha => ?_
  refine pZ ?_
  refine hK2 _ _ ?_
  refine wp_seq_k fun K3 hK3 => ?_
  refine wp_region_lit ?_
  refine pY ha (yMove (by rfl)) rfl fun a ha => ?_
  refine pC ha (nCall Tryd.call10 (by rfl)) rfl (Decode_c hT hs .here) ?_
  rintro v w ⟨e1, rfl, hs⟩ a ha
  rw [dec_back he0] at ha hs
  obtain ⟨B1, p1, q1, B2, p2, q2, B3, p3, q3, rfl, hs⟩ := hs.el_msg .here
  simp only at ha hs
  refine pY ha (yMove (by rfl)) rfl fun a ha => ?_
  refine pY ha (yExtract (by rfl) (by rfl)) rfl fun a ha => ?_
  refine pY ha (yExtract (by rfl) (by rfl)) rfl fun a ha => ?_
  refine pAlloc (zs := [.int .i64 0, .int .i64 0, .int .i64 0, .int .i64 0, .int .i64 0, .slice none 0 0, .slice none 0 0, .slice none 0 0, .int .i64 0]) ha Tryd.zeroValue26 (by rfl) hs rfl fun b w hs a ha => ?_
  refine pStoreA ha Tryd.sizeOf26 hs (by rfl) (by rfl) (by repeat first | exact .here | apply Pick.there) (by rfl) (by rfl) (by rfl) fun w hs => ?_
  refine pY ha (yAssign (by rfl)) rfl fun a ha => ?_
  refine pZ ?_
  refine hK3 _ _ ?_
  refine wp_seq_k fun K4 hK4 => ?_
  have hs := hs.rd_nil (d := kU8)
  refine wp_region_lit ?_
  refine pC ha (nCall Tryd.call10 (by rfl)) rfl (Decode_c hT hs .here) ?_
  rintro v w ⟨e2, rfl, hs⟩ a ha
  rw [dec_nil] at ha hs
  obtain ⟨D1, s1, t1, D2, s2, t2, D3, s3, t3, rfl, hs⟩ := hs.el_msg .here
  simp only at ha hs
  refine pY ha (yMove (by rfl)) rfl fun a ha => ?_
  refine pY ha (yExtract (by rfl) (by rfl)) rfl fun a ha => ?_
  refine pY ha (yExtract (by rfl) (by rfl)) rfl fun a ha => ?_
  refine pAlloc (zs := [.int .i64 0, .int .i64 0, .int .i64 0, .int .i64 0, .int .i64 0, .slice none 0 0, .slice none 0 0, .slice none 0 0, .int .i64 0]) ha Tryd.zeroValue26 (by rfl) hs rfl fun b w hs a ha => ?_
  refine pStoreA ha Tryd.sizeOf26 hs (by rfl) (by rfl) (by repeat first | exact .here | apply Pick.there) (by rfl) (by rfl) (by rfl) fun w hs => ?_
  refine pY ha (yAssign (by rfl)) rfl fun a ha => ?_
  refine pZ ?_
  refine hK4 _ _ ?_
  refine wp_seq_k fun K5 hK5 => ?_
  refine wp_region_lit ?_
  refine pMakeS (n := 65537) ha (by rfl) (by rfl) (by decide) hs rfl fun b w hs a ha => ?_
  have hs := hs.zeros_rd (n := 65537) (by decide) .here
  refine pC ha (nCall Tryd.call10 (by rfl)) rfl (Decode_c hT hs .here) ?_
  rintro v w ⟨e3, rfl, hs⟩ a ha
  rw [dec_big (by rw [List.length_replicate]; decide)] at ha hs
  obtain ⟨E1, x1, y1, E2, x2, y2, E3, x3, y3, rfl, hs⟩ := hs.el_msg .here
  simp only at ha hs
  refine pY ha (yMove (by rfl)) rfl fun a ha => ?_
  refine pY ha (yExtract (by rfl) (by rfl)) rfl fun a ha => ?_
  refine pY ha (yExtract (by rfl) (by rfl)) rfl fun a ha => ?_
  refine pAlloc (zs := [.int .i64 0, .int .i64 0, .int .i64 0, .int .i64 0, .int .i64 0, .slice none 0 0, .slice none 0 0, .slice none 0 0, .int .i64 0]) ha Tryd.zeroValue26 (by rfl) hs rfl fun b w hs a ha => ?_
  refine pStoreA ha Tryd.sizeOf26 hs (by rfl) (by rfl) (by repeat first | exact .here | apply Pick.there) (by rfl) (by rfl) (by rfl) fun w hs => ?_
  refine pY ha (yAssign (by rfl)) rfl fun a ha => ?_
  refine pZ ?_
  refine hK5 _ _ ?_
  refine wp_seq_k fun K6 hK6 => ?_
  refine wp_region_lit ?_
  refine pY ha (yMove (by rfl)) rfl fun a ha => ?_
  refine pY ha (yEql (by rfl) (by rfl)) rfl fun a ha => ?_
  refine pY ha (yMove (by rfl)) rfl fun a ha => ?_
  refine gDec (t := 30) ha (by rfl) (fun hg2 hp2 => ?_) (fun hg2 hp2 => ?_)
  · exact absurd rfl hp2
  · rw [hg2] at ha
    refine gOn ha rfl rfl (by rfl) ?_
    refine pY ha (yMove (by rfl)) rfl fun a ha => ?_
    refine gOn ha rfl rfl (by rfl) ?_
    refine pY ha (yEql (by rfl) (by rfl)) rfl fun a ha => ?_
    first | refine pY ha (yPickT (by rfl) (by rfl)) rfl fun a ha => ?_ | refine pY ha (yPickF (by rfl) (by rfl)) rfl fun a ha => ?_ | refine pY ha (yPick (by rfl) (by rfl) (by rfl)) rfl fun a ha => ?_
    refine pY ha (yMove (by rfl)) rfl fun a ha => ?_
    refine gSplit (t := 34) ha (by rfl) (fun hg6 => ?_) (fun hg6 => ?_)
    · simp at hg6
    · rw [hg6] at ha
      refine gOn ha rfl rfl (by rfl) ?_
      refine pY ha (yFieldA Tryd.runUnderlying26 rfl Tryd.sizeOf3 rfl (by rfl)) rfl fun a ha => ?_
      refine gOn ha rfl rfl (by rfl) ?_
      first | refine pY ha (yLoadB Tryd.isAgg3 hs (by rfl) (by repeat first | exact .here | apply Pick.there) (by rfl)) rfl fun a ha => ?_ | refine pY ha (yLoadR Tryd.isAgg3 hs (by rfl) (by repeat first | exact .here | apply Pick.there) (by rfl)) rfl fun a ha => ?_ | refine pY ha (yLoadR0 Tryd.isAgg3 hs (by rfl) (by repeat first | exact .here | apply Pick.there) (by rfl)) rfl fun a ha => ?_
      refine gOn ha rfl rfl (by rfl) ?_
      refine pY ha (yEql (by rfl) (by rfl)) rfl fun a ha => ?_
      first | refine pY ha (yPickT (by rfl) (by rfl)) rfl fun a ha => ?_ | refine pY ha (yPickF (by rfl) (by rfl)) rfl fun a ha => ?_ | refine pY ha (yPick (by rfl) (by rfl) (by rfl)) rfl fun a ha => ?_
      refine pY ha (yMove (by rfl)) rfl fun a ha => ?_
      refine gSplit (t := 39) ha (by rfl) (fun hg11 => ?_) (fun hg11 => ?_)
      · simp at hg11
      · rw [hg11] at ha
        refine gOn ha rfl rfl (by rfl) ?_
        refine pY ha (yFieldA Tryd.runUnderlying26 rfl Tryd.sizeOf3 rfl (by rfl)) rfl fun a ha => ?_
        refine gOn ha rfl rfl (by rfl) ?_
        first | refine pY ha (yLoadB Tryd.isAgg3 hs (by rfl) (by repeat first | exact .here | apply Pick.there) (by rfl)) rfl fun a ha => ?_ | refine pY ha (yLoadR Tryd.isAgg3 hs (by rfl) (by repeat first | exact .here | apply Pick.there) (by rfl)) rfl fun a ha => ?_ | refine pY ha (yLoadR0 Tryd.isAgg3 hs (by rfl) (by repeat first | exact .here | apply Pick.there) (by rfl)) rfl fun a ha => ?_
        refine gOn ha rfl rfl (by rfl) ?_
        refine pY ha (yEql (by rfl) (by rfl)) rfl fun a ha => ?_
        first | refine pY ha (yPickT (by rfl) (by rfl)) rfl fun a ha => ?_ | refine pY ha (yPickF (by rfl) (by rfl)) rfl fun a ha => ?_ | refine pY ha (yPick (by rfl) (by rfl) (by rfl)) rfl fun a ha => ?_
        refine pY ha (yMove (by rfl)) rfl fun a ha => ?_
        refine gSplit (t := 44) ha (by rfl) (fun hg16 => ?_) (fun hg16 => ?_)
        · simp at hg16
        · rw [hg16] at ha
          refine gOn ha rfl rfl (by rfl) ?_
          refine pY ha (yMove (by rfl)) rfl fun a ha => ?_
          refine gOn ha rfl rfl (by rfl) ?_
          refine pY ha (yEql (by rfl) (by rfl)) rfl fun a ha => ?_
          first | refine pY ha (yPickT (by rfl) (by rfl)) rfl fun a ha => ?_ | refine pY ha (yPickF (by rfl) (by rfl)) rfl fun a ha => ?_ | refine pY ha (yPick (by rfl) (by rfl) (by rfl)) rfl fun a ha => ?_
          refine pY ha (yMove (by rfl)) rfl fun a ha => ?_
          refine gSplit (t := 48) ha (by rfl) (fun hg20 => ?_) (fun hg20 => ?_)
          · simp at hg20
          · rw [hg20] at ha
            refine gOn ha rfl rfl (by rfl) ?_
            refine pY ha (yMove (by rfl)) rfl fun a ha => ?_
            refine gOn ha rfl rfl (by rfl) ?_
            refine pY ha (yEql (by rfl) (by rfl)) rfl fun a ha => ?_
            first | refine pY ha (yPickT (by rfl) (by rfl)) rfl fun a ha => ?_ | refine pY ha (yPickF (by rfl) (by rfl)) rfl fun a ha => ?_ | refine pY ha (yPick (by rfl) (by rfl) (by rfl)) rfl fun a ha => ?_
            refine pY ha (yMove (by rfl)) rfl fun a ha => ?_
            refine gSplit (t := 52) ha (by rfl) (fun hg24 => ?_) (fun hg24 => ?_)
            · simp at hg24
            · rw [hg24] at ha
              refine gOn ha rfl rfl (by rfl) ?_
              refine pY ha (bldAwk1826_ ) rfl fun a ha => ?_
              have hs := hs.msg_none 0 0 0 0 0 0
              refine gOn ha rfl rfl (by rfl) ?_
              refine pC ha (nCall Tryd.call9 (by rfl)) rfl (MCheck_c hT (x := noM) hm1.1 hm1.2 hs .here) ?_
              rintro v w ⟨rfl, hs⟩ a ha
              rw [he1] at ha
              refine gOn ha rfl rfl (by rfl) ?_
              refine pY ha (yEql (by rfl) (by rfl)) rfl fun a ha => ?_
              first | refine pY ha (yPickT (by rfl) (by rfl)) rfl fun a ha => ?_ | refine pY ha (yPickF (by rfl) (by rfl)) rfl fun a ha => ?_ | refine pY ha (yPick (by rfl) (by rfl) (by rfl)) rfl fun a ha => ?_
              refine pY ha (yMove (by rfl)) rfl fun a ha => ?_
              first | refine pY ha (yPickT (by rfl) (by rfl)) rfl fun a ha => ?_ | refine pY ha (yPickF (by rfl) (by rfl)) rfl fun a ha => ?_ | refine pY ha (yPick (by rfl) (by rfl) (by rfl)) rfl fun a ha => ?_
              refine pY ha (yAssign (by rfl)) rfl fun a ha => ?_
              refine pZ ?_
              refine hK6 _ _ ?_
              refine wp_ret ?_
              show bodyPost Tryd.prog Tryd.f7 _ .ret _ _
              refine ret1 rfl ha (by rfl) ?_
              exact ⟨rfl, hs.dropN 20⟩
end
end Go.Proofs.YtnlhbkaieoogfaaDoor

set_option linter.unusedVariables false
set_option linter.unusedSimpArgs false
namespace Go.Proofs.YtnlhbkaieoogfaaDoor
open Go.RowKit Go.Lib Go.Proofs.YtnlhbkaieoogfaaDoorW.PrintLast
theorem bslWBack29_0_ {w : World} {l : List (Nat × Value)} {T : TypeId} : Mk Tryd.prog w l (.buildSlice 29 0 #[]) T 5 0 [] := mk0 Tryd.runUnderlying29 Tryd.sizeOf5
theorem bslWBack29_1_0 {w : World} {l : List (Nat × Value)} {T : TypeId} {x0 : Operand} {v0 : Value} (h0 : ev l x0 = some v0) (o0 : v0.cells = #[v0] := by rfl) : Mk Tryd.prog w l (.buildSlice 29 1 #[(0, x0)]) T 5 1 [v0] := fun ρ o h ho _ => by
  unfold execOp; rw [ho]
  exact mk1v (P := Tryd.prog) w Tryd.runUnderlying29 Tryd.sizeOf5 Tryd.zeroValue5 rfl o0 (h _ _ h0)
theorem elWBack29 : ElemT Tryd.prog 29 5 1 1 := elemT_mk Tryd.underlying29 rfl (by kernel_rfl)
section
variable {W w : World} {cs r r2 : List Ch}
theorem WireBack_c (hT : Tabs W) {es : List Value} {x : Msg} (hg : gM x) (k : Int) (hk1 : i64 k) (y : UInt8) (hs : Sep W w cs) (hk : Pick cs (.el kMsg x es) r) :
    Calls P 3 #[.agg es.toArray, .int .i64 k, .int .u8 y.toNat] w (Rt fun v w' => v = .bool true ∧ ∃ rs, Sep W w' rs) := by
  unfold i64 at hk1
  have hs : Sep W w (.el kMsg x es :: cs) := hs.cp hk
  obtain ⟨A, n, c, A', n', c', B, m, d, rfl, hs⟩ := hs.el_msg .here
  clear hk
  refine enter Tryd.func3 Tryd.ntmps3 rfl rfl fun a (ha : Has a 97 [(0, _), (1, _), (2, _)]) => ?_
  refine wp_seq_k fun K1 hK1 => ?_
  refine wp_region_lit ?_
  refine pBox (es := _) ha (by rfl) (by rfl) hs rfl fun b1 w hs a ha => ?_
  refine pY ha (yAssign (by rfl)) rfl fun a ha => ?_
  refine pZ ?_
  refine hK1 _ _ ?_
  refine wp_seq_k fun K2 hK2 => ?_
  refine wp_seq_k fun K3 hK3 => ?_
  refine wp_region_lit ?_
  first | refine pY ha (yLoadRA Tryd.isAgg26 Tryd.sizeOf26 hs (by rfl) (by repeat first | exact .here | apply Pick.there) (by rfl)) rfl fun a ha => ?_ | refine pY ha (yLoadBA Tryd.isAgg26 Tryd.sizeOf26 hs (by rfl) (by repeat first | exact .here | apply Pick.there) (by rfl)) rfl fun a ha => ?_
  refine pC ha (nCall Tryd.call6 (by rfl)) rfl (WgMsg_c (lim := 4000) (by decide) hg hs (by repeat first | exact .here | apply Pick.there)) ?_
  rintro v w ⟨R, rfl, hR1, hR2, hs⟩ a ha
  refine pY ha (yGtr (by rfl) (by rfl)) rfl fun a ha => ?_
  refine pZ ?_
  refine hK3 _ _ ?_
  first | refine cDec ha (by rfl) (fun hc17 => ?_) (fun hc17 => ?_) | refine cSplit ha (by rfl) (fun hc17 => ?_) (fun hc17 => ?_)
  · refine wp_seq_k fun K4 hK4 => ?_
    refine wp_region_lit ?_
    refine pC ha (nCall Tryd.call7 (by rfl)) rfl (awake18_c hT hs) ?_
    rintro v w ⟨rfl, hs⟩ a ha
    refine pY ha (yAssign (by rfl)) rfl fun a ha => ?_
    refine pZ ?_
    refine hK4 _ _ ?_
    refine wp_ret ?_
    show bodyPost Tryd.prog Tryd.f3 _ .ret _ _
    refine ret1 rfl ha (by rfl) ?_
    exact ⟨rfl, _, hs⟩
  · obtain ⟨hm, hl⟩ := light_M hg (by have := hR2 (by omega); omega)
    refine wp_skip ?_
    refine hK2 _ _ ?_
    refine wp_seq_k fun K5 hK5 => ?_
    refine wp_region_lit ?_
    first | refine pY ha (yLoadRA Tryd.isAgg26 Tryd.sizeOf26 hs (by rfl) (by repeat first | exact .here | apply Pick.there) (by rfl)) rfl fun a ha => ?_ | refine pY ha (yLoadBA Tryd.isAgg26 Tryd.sizeOf26 hs (by rfl) (by repeat first | exact .here | apply Pick.there) (by rfl)) rfl fun a ha => ?_
    refine pC ha (nCall Tryd.call8 (by rfl)) rfl (Encode_c hT hm (by omega) hs (by repeat first | exact .here | apply Pick.there)) ?_
    rintro v w ⟨A1, c1, rfl, hs⟩ a ha
    refine pY ha (yMove (by rfl)) rfl fun a ha => ?_
    refine pY ha (yExtract (by rfl) (by rfl)) rfl fun a ha => ?_
    refine pY ha (yExtract (by rfl) (by rfl)) rfl fun a ha => ?_
    refine pY ha (yAssign (by rfl)) rfl fun a ha => ?_
    refine pY ha (yAssign (by rfl)) rfl fun a ha => ?_
    refine pZ ?_
    refine hK5 _ _ ?_
    refine wp_seq_k fun K6 hK6 => ?_
    refine wp_seq_k fun K7 hK7 => ?_
    refine wp_region_lit ?_
    refine pY ha (yMove (by rfl)) rfl fun a ha => ?_
    refine pY ha (yNeq (by rfl) (by rfl)) rfl fun a ha => ?_
    refine pZ ?_
    refine hK7 _ _ ?_
    first | refine cNDec ha (by rfl) (fun hc25 => ?_) (fun hc25 => ?_) | refine cDec ha (by rfl) (fun hc25 => ?_) (fun hc25 => ?_) | refine cSplit ha (by rfl) (fun hc25 => ?_) (fun hc25 => ?_)
    · have he : msgE x ≠ 0 := by
        unfold encM at hc25
        split at hc25
        · assumption
        · exact absurd rfl hc25
      have hen : encM x = ([], msgE x) := by unfold encM; rw [if_pos he]
      rw [hen] at ha hs
      refine wp_seq_k fun K8 hK8 => ?_
      refine wp_region_lit ?_
      refine pY ha (yMove (by rfl)) rfl fun a ha => ?_
      first | refine pY ha (yLoadRA Tryd.isAgg26 Tryd.sizeOf26 hs (by rfl) (by repeat first | exact .here | apply Pick.there) (by rfl)) rfl fun a ha => ?_ | refine pY ha (yLoadBA Tryd.isAgg26 Tryd.sizeOf26 hs (by rfl) (by repeat first | exact .here | apply Pick.there) (by rfl)) rfl fun a ha => ?_
      refine pC ha (nCall Tryd.call9 (by rfl)) rfl (MCheck_c hT hm (by omega) hs (by repeat first | exact .here | apply Pick.there)) ?_
      rintro v w ⟨rfl, hs⟩ a ha
      refine pY ha (yEql (by rfl) (by rfl)) rfl fun a ha => ?_
      refine pY ha (yMove (by rfl)) rfl fun a ha => ?_
      refine gDec (t := 30) ha (by rfl) (fun hg4 hp4 => ?_) (fun hg4 hp4 => ?_)
      · exact absurd rfl hp4
      · rw [hg4] at ha
        refine gOn ha rfl rfl (by rfl) ?_
        refine pY ha (yMove (by rfl)) rfl fun a ha => ?_
        refine gOn ha rfl rfl (by rfl) ?_
        refine pY ha (yLenS Tryd.runUnderlying29 (by rfl)) rfl fun a ha => ?_
        refine gOn ha rfl rfl (by rfl) ?_
        refine pY ha (yEql (by rfl) (by rfl)) rfl fun a ha => ?_
        first | refine pY ha (yPickT (by rfl) (by rfl)) rfl fun a ha => ?_ | refine pY ha (yPickF (by rfl) (by rfl)) rfl fun a ha => ?_ | refine pY ha (yPick (by rfl) (by rfl) (by rfl)) rfl fun a ha => ?_
        refine pY ha (yMove (by rfl)) rfl fun a ha => ?_
        refine gSplit (t := 35) ha (by rfl) (fun hg9 => ?_) (fun hg9 => ?_)
        · simp at hg9
        · rw [hg9] at ha
          refine gOn ha rfl rfl (by rfl) ?_
          refine pC ha (nCall Tryd.call7 (by rfl)) rfl (awake18_c hT hs) ?_
          rintro v w ⟨rfl, hs⟩ a ha
          first | refine pY ha (yPickT (by rfl) (by rfl)) rfl fun a ha => ?_ | refine pY ha (yPickF (by rfl) (by rfl)) rfl fun a ha => ?_ | refine pY ha (yPick (by rfl) (by rfl) (by rfl)) rfl fun a ha => ?_
          refine pY ha (yAssign (by rfl)) rfl fun a ha => ?_
          refine pZ ?_
          refine hK8 _ _ ?_
          refine wp_ret ?_
          show bodyPost Tryd.prog Tryd.f3 _ .ret _ _
          refine ret1 rfl ha (by rfl) ?_
          exact ⟨rfl, _, hs⟩
    · have he : msgE x = 0 := by
        unfold encM at hc25
        split at hc25
        · exact hc25
        · simpa using ‹¬ msgE x ≠ 0›
      have hen : encM x = (bOut x, 0) := by unfold encM; rw [if_neg (by simpa using he)]
      rw [hen] at ha hs
      obtain ⟨_, hc1, hc2⟩ := hs.rd_shape .here
      have hc1 : (bOut x).length ≤ c1 := hc1
      have hol : (bOut x).length ≤ 48054 := by rw [out_is he]; exact hl
      have hpos := out_pos he
      refine wp_skip ?_
      refine hK6 _ _ ?_
      refine wp_seq_k fun K9 hK9 => ?_
      refine wp_region_lit ?_
      refine pY ha (yMove (by rfl)) rfl fun a ha => ?_
      refine pC ha (nCall Tryd.call10 (by rfl)) rfl (Decode_c hT hs .here) ?_
      rintro v w ⟨e2, rfl, hs⟩ a ha
      rw [dec_back he] at ha hs
      obtain ⟨B1, p1, q1, B2, p2, q2, B3, p3, q3, rfl, hs⟩ := hs.el_msg .here
      simp only at ha hs
      refine pY ha (yMove (by rfl)) rfl fun a ha => ?_
      refine pY ha (yExtract (by rfl) (by rfl)) rfl fun a ha => ?_
      refine pY ha (yExtract (by rfl) (by rfl)) rfl fun a ha => ?_
      refine pAlloc (zs := [.int .i64 0, .int .i64 0, .int .i64 0, .int .i64 0, .int .i64 0, .slice none 0 0, .slice none 0 0, .slice none 0 0, .int .i64 0]) ha Tryd.zeroValue26 (by rfl) hs rfl fun b w hs a ha => ?_
      refine pStoreA ha Tryd.sizeOf26 hs (by rfl) (by rfl) (by repeat first | exact .here | apply Pick.there) (by rfl) (by rfl) (by rfl) fun w hs => ?_
      refine pY ha (yAssign (by rfl)) rfl fun a ha => ?_
      refine pZ ?_
      refine hK9 _ _ ?_
      refine wp_seq_k fun K10 hK10 => ?_
      refine wp_region_lit ?_
      refine pY ha (yMove (by rfl)) rfl fun a ha => ?_
      refine pY ha (yMove (by rfl)) rfl fun a ha => ?_
      refine pY ha (yMove (by rfl)) rfl fun a ha => ?_
      refine pY ha (yLenS Tryd.runUnderlying29 (by rfl)) rfl fun a ha => ?_
      first | refine pY ha (yAddN (by rfl) (by rfl) ⟨by omega, by omega⟩) rfl fun a ha => ?_ | refine pY ha (yAdd (by rfl) (by rfl)) rfl fun a ha => ?_
      refine pC ha (nCall Tryd.call11 (by rfl)) rfl (Round_c k ((bOut x).length + 1) (by omega) (by omega) hk1 hs) ?_
      rintro v w ⟨rfl, hs⟩ a ha
      obtain ⟨kk, hkk⟩ := Int.eq_ofNat_of_zero_le (Int.emod_nonneg k (show ((bOut x).length : Int) + 1 ≠ 0 by omega))
      have hkl := Int.emod_lt_of_pos k (show (0 : Int) < (bOut x).length + 1 by omega)
      rw [hkk] at ha hkl
      have hdl : kk < (bOut x).length → (decM ((bOut x).take kk)).2 = 2 := fun h => dec_less he h
      refine pY ha (ySlice Tryd.runUnderlying29 Tryd.sizeOf5 (by rfl) (.inl ⟨rfl, rfl⟩) (.inr ⟨_, _, rfl, (by rfl)⟩) (by omega) (by omega)) rfl fun a ha => ?_
      refine pC ha (nCall Tryd.call10 (by rfl)) rfl (Decode_c hT (hs.rd_cut (xs := bOut x) (lo := 0) (hi := kk) (by repeat first | exact .here | apply Pick.there) (by omega) (by omega)) .here) ?_
      rintro v w ⟨e3, rfl, hs⟩ a ha
      rw [List.drop_zero] at ha hs
      obtain ⟨D1, s1, t1, D2, s2, t2, D3, s3, t3, rfl, hs⟩ := hs.el_msg .here
      refine pY ha (yMove (by rfl)) rfl fun a ha => ?_
      refine pY ha (yExtract (by rfl) (by rfl)) rfl fun a ha => ?_
      refine pY ha (yExtract (by rfl) (by rfl)) rfl fun a ha => ?_
      refine pAlloc (zs := [.int .i64 0, .int .i64 0, .int .i64 0, .int .i64 0, .int .i64 0, .slice none 0 0, .slice none 0 0, .slice none 0 0, .int .i64 0]) ha Tryd.zeroValue26 (by rfl) hs rfl fun b w hs a ha => ?_
      refine pStoreA ha Tryd.sizeOf26 hs (by rfl) (by rfl) (by repeat first | exact .here | apply Pick.there) (by rfl) (by rfl) (by rfl) fun w hs => ?_
      refine pY ha (yAssign (by rfl)) rfl fun a ha => ?_
      refine pZ ?_
      refine hK10 _ _ ?_
      refine wp_seq_k fun K11 hK11 => ?_
      refine wp_region_lit ?_
      refine pMake ha bslWBack29_0_ hs rfl fun b w hs a ha => ?_
      have hs := hs.blk_ol0 .here kU8
      refine pY ha (yMove (by rfl)) rfl fun a ha => ?_
      first | refine pApp1 ha elWBack29 (by rfl) (by rfl) hs (by repeat first | exact .here | apply Pick.there) (by repeat first | exact .here | apply Pick.there) (by repeat first | exact .here | apply Pick.there) (by rfl) (by first | omega | (unfold maxLen; omega) | (simp [maxLen]; done) | (simp [maxLen]; omega)) (by first | omega | (unfold maxLen; omega) | (simp [maxLen]; done) | (simp [maxLen]; omega)) rfl fun A c w hs a ha => ?_ | refine pAppRd ha elWBack29 (by rfl) (by rfl) hs (by repeat first | exact .here | apply Pick.there) (by repeat first | exact .here | apply Pick.there) (by rfl) (by first | omega | (unfold maxLen; omega) | (simp [maxLen]; done) | (simp [maxLen]; omega)) (by first | omega | (unfold maxLen; omega) | (simp [maxLen]; done) | (simp [maxLen]; omega)) rfl fun A c w hs a ha => ?_ | refine pApp1F ha elWBack29 (by rfl) (by rfl) hs (by repeat first | exact .here | apply Pick.there) (by repeat first | exact .here | apply Pick.there) (by intro Z; first | rfl | exact ⟨rfl, by omega, by omega⟩) (by rfl) (by first | omega | (unfold maxLen; omega) | (simp [maxLen]; done) | (simp [maxLen]; omega)) (by first | omega | (unfold maxLen; omega) | (simp [maxLen]; done) | (simp [maxLen]; omega)) rfl fun A c w hs a ha => ?_
      refine pY ha (yMove (by rfl)) rfl fun a ha => ?_
      refine pMake ha (bslWBack29_1_0 (by rfl)) hs rfl fun b w hs a ha => ?_
      first | refine pApp1 ha elWBack29 (by rfl) (by rfl) hs (by repeat first | exact .here | apply Pick.there) (by repeat first | exact .here | apply Pick.there) (by repeat first | exact .here | apply Pick.there) (by rfl) (by first | omega | (unfold maxLen; omega) | (simp [maxLen]; done) | (simp [maxLen]; omega)) (by first | omega | (unfold maxLen; omega) | (simp [maxLen]; done) | (simp [maxLen]; omega)) rfl fun A c w hs a ha => ?_ | refine pAppRd ha elWBack29 (by rfl) (by rfl) hs (by repeat first | exact .here | apply Pick.there) (by repeat first | exact .here | apply Pick.there) (by rfl) (by first | omega | (unfold maxLen; omega) | (simp [maxLen]; done) | (simp [maxLen]; omega)) (by first | omega | (unfold maxLen; omega) | (simp [maxLen]; done) | (simp [maxLen]; omega)) rfl fun A c w hs a ha => ?_ | refine pApp1F ha elWBack29 (by rfl) (by rfl) hs (by repeat first | exact .here | apply Pick.there) (by repeat first | exact .here | apply Pick.there) (by intro Z; first | rfl | exact ⟨rfl, by omega, by omega⟩) (by rfl) (by first | omega | (unfold maxLen; omega) | (simp [maxLen]; done) | (simp [maxLen]; omega)) (by first | omega | (unfold maxLen; omega) | (simp [maxLen]; done) | (simp [maxLen]; omega)) rfl fun A c w hs a ha => ?_
      have hs := hs.ol_rd .here
      rw [List.nil_append] at hs
      refine pC ha (nCall Tryd.call10 (by rfl)) rfl (Decode_c hT hs .here) ?_
      rintro v w ⟨e4, rfl, hs⟩ a ha
      have hdm := dec_more he (by omega) y
      rw [hdm] at ha
      obtain ⟨E1, x1, y1, E2, x2, y2, E3, x3, y3, rfl, hs⟩ := hs.el_msg .here
      refine pY ha (yMove (by rfl)) rfl fun a ha => ?_
      refine pY ha (yExtract (by rfl) (by rfl)) rfl fun a ha => ?_
      refine pY ha (yExtract (by rfl) (by rfl)) rfl fun a ha => ?_
      refine pAlloc (zs := [.int .i64 0, .int .i64 0, .int .i64 0, .int .i64 0, .int .i64 0, .slice none 0 0, .slice none 0 0, .slice none 0 0, .int .i64 0]) ha Tryd.zeroValue26 (by rfl) hs rfl fun b w hs a ha => ?_
      refine pStoreA ha Tryd.sizeOf26 hs (by rfl) (by rfl) (by repeat first | exact .here | apply Pick.there) (by rfl) (by rfl) (by rfl) fun w hs => ?_
      refine pY ha (yAssign (by rfl)) rfl fun a ha => ?_
      refine pZ ?_
      refine hK11 _ _ ?_
      refine wp_seq_k fun K12 hK12 => ?_
      refine wp_region_lit ?_
      refine pY ha (yMove (by rfl)) rfl fun a ha => ?_
      refine pY ha (yLenS Tryd.runUnderlying29 (by rfl)) rfl fun a ha => ?_
      refine pY ha (yGtr (by rfl) (by rfl)) rfl fun a ha => ?_
      refine pY ha (yMove (by rfl)) rfl fun a ha => ?_
      refine gDec (t := 67) ha (by rfl) (fun hg3 hp3 => ?_) (fun hg3 hp3 => ?_)
      · exact absurd hp3 (by omega)
      · rw [hg3] at ha
        refine gOn ha rfl rfl (by rfl) ?_
        refine pY ha (yMove (by rfl)) rfl fun a ha => ?_
        refine gOn ha rfl rfl (by rfl) ?_
        refine pY ha (yEql (by rfl) (by rfl)) rfl fun a ha => ?_
        first | refine pY ha (yPickT (by rfl) (by rfl)) rfl fun a ha => ?_ | refine pY ha (yPickF (by rfl) (by rfl)) rfl fun a ha => ?_ | refine pY ha (yPick (by rfl) (by rfl) (by rfl)) rfl fun a ha => ?_
        refine pY ha (yMove (by rfl)) rfl fun a ha => ?_
        refine gSplit (t := 71) ha (by rfl) (fun hg7 => ?_) (fun hg7 => ?_)
        · simp at hg7
        · rw [hg7] at ha
          refine gOn ha rfl rfl (by rfl) ?_
          first | refine pY ha (yLoadRA Tryd.isAgg26 Tryd.sizeOf26 hs (by rfl) (by repeat first | exact .here | apply Pick.there) (by rfl)) rfl fun a ha => ?_ | refine pY ha (yLoadBA Tryd.isAgg26 Tryd.sizeOf26 hs (by rfl) (by repeat first | exact .here | apply Pick.there) (by rfl)) rfl fun a ha => ?_
          refine gOn ha rfl rfl (by rfl) ?_
          first | refine pY ha (yLoadRA Tryd.isAgg26 Tryd.sizeOf26 hs (by rfl) (by repeat first | exact .here | apply Pick.there) (by rfl)) rfl fun a ha => ?_ | refine pY ha (yLoadBA Tryd.isAgg26 Tryd.sizeOf26 hs (by rfl) (by repeat first | exact .here | apply Pick.there) (by rfl)) rfl fun a ha => ?_
          refine gOn ha rfl rfl (by rfl) ?_
          refine pC ha (nCall Tryd.call12 (by rfl)) rfl (SameM_c (x := x) (y := x) hs (by repeat first | exact .here | apply Pick.there) (by repeat first | exact .here | apply Pick.there)) ?_
          rintro v w ⟨rfl, hs⟩ a ha
          first | refine pY ha (yPickT (by rfl) (by rfl)) rfl fun a ha => ?_ | refine pY ha (yPickF (by rfl) (by rfl)) rfl fun a ha => ?_ | refine pY ha (yPick (by rfl) (by rfl) (by rfl)) rfl fun a ha => ?_
          refine pY ha (yMove (by rfl)) rfl fun a ha => ?_
          refine gSplit (t := 76) ha (by rfl) (fun hg12 => ?_) (fun hg12 => ?_)
          · simp at hg12
          · rw [hg12] at ha
            refine gOn ha rfl rfl (by rfl) ?_
            refine pY ha (yMove (by rfl)) rfl fun a ha => ?_
            refine gOn ha rfl rfl (by rfl) ?_
            refine pY ha (yEql (by rfl) (by rfl)) rfl fun a ha => ?_
            refine gOn ha rfl rfl (by rfl) ?_
            refine pY ha (yMove (by rfl)) rfl fun a ha => ?_
            refine gDec (t := 79) ha (by rfl) (fun hg15 hp15 => ?_) (fun hg15 hp15 => ?_)
            · rw [hg15] at ha
              have hp15 := of_decide_eq_false hg15
              have hke : kk = (bOut x).length := by
                rcases Nat.lt_or_ge kk (bOut x).length with h | h
                · exact absurd (hdl h) hp15
                · omega
              refine gOn ha rfl rfl (by rfl) ?_
              refine pY ha (yMove (by rfl)) rfl fun a ha => ?_
              refine gOn ha rfl rfl (by rfl) ?_
              refine pY ha (yMove (by rfl)) rfl fun a ha => ?_
              refine gOn ha rfl rfl (by rfl) ?_
              refine pY ha (yLenS Tryd.runUnderlying29 (by rfl)) rfl fun a ha => ?_
              refine gOn ha rfl rfl (by rfl) ?_
              first | refine pY ha (yAddN (by rfl) (by rfl) ⟨by omega, by omega⟩) rfl fun a ha => ?_ | refine pY ha (yAdd (by rfl) (by rfl)) rfl fun a ha => ?_
              refine gOn ha rfl rfl (by rfl) ?_
              refine pC ha (nCall Tryd.call11 (by rfl)) rfl (Round_c k ((bOut x).length + 1) (by omega) (by omega) hk1 hs) ?_
              rintro v w ⟨rfl, hs⟩ a ha
              rw [hkk] at ha
              refine gOn ha rfl rfl (by rfl) ?_
              refine pY ha (yMove (by rfl)) rfl fun a ha => ?_
              refine gOn ha rfl rfl (by rfl) ?_
              refine pY ha (yLenS Tryd.runUnderlying29 (by rfl)) rfl fun a ha => ?_
              refine gOn ha rfl rfl (by rfl) ?_
              refine pY ha (yEql (by rfl) (by rfl)) rfl fun a ha => ?_
              refine gOn ha rfl rfl (by rfl) ?_
              first | refine pY ha (yPickT (by rfl) (by rfl)) rfl fun a ha => ?_ | refine pY ha (yPickF (by rfl) (by rfl)) rfl fun a ha => ?_ | refine pY ha (yPick (by rfl) (by rfl) (by rfl)) rfl fun a ha => ?_
              first | refine pY ha (yPickT (by rfl) (by rfl)) rfl fun a ha => ?_ | refine pY ha (yPickF (by rfl) (by rfl)) rfl fun a ha => ?_ | refine pY ha (yPick (by rfl) (by rfl) (by rfl)) rfl fun a ha => ?_
              refine pY ha (yMove (by rfl)) rfl fun a ha => ?_
              refine gSplit (t := 90) ha (by rfl) (fun hg26 => ?_) (fun hg26 => ?_)
              · simp [hke] at hg26
              · rw [hg26] at ha
                refine gOn ha rfl rfl (by rfl) ?_
                refine pY ha (yMove (by rfl)) rfl fun a ha => ?_
                refine gOn ha rfl rfl (by rfl) ?_
                refine pY ha (yEql (by rfl) (by rfl)) rfl fun a ha => ?_
                first | refine pY ha (yPickT (by rfl) (by rfl)) rfl fun a ha => ?_ | refine pY ha (yPickF (by rfl) (by rfl)) rfl fun a ha => ?_ | refine pY ha (yPick (by rfl) (by rfl) (by rfl)) rfl fun a ha => ?_
                refine pY ha (yMove (by rfl)) rfl fun a ha => ?_
                refine gSplit (t := 94) ha (by rfl) (fun hg30 => ?_) (fun hg30 => ?_)
                · simp at hg30
                · rw [hg30] at ha
                  refine gOn ha rfl rfl (by rfl) ?_
                  refine pC ha (nCall Tryd.call7 (by rfl)) rfl (awake18_c hT hs) ?_
                  rintro v w ⟨rfl, hs⟩ a ha
                  first | refine pY ha (yPickT (by rfl) (by rfl)) rfl fun a ha => ?_ | refine pY ha (yPickF (by rfl) (by rfl)) rfl fun a ha => ?_ | refine pY ha (yPick (by rfl) (by rfl) (by rfl)) rfl fun a ha => ?_
                  refine pY ha (yAssign (by rfl)) rfl fun a ha => ?_
                  refine pZ ?_
                  refine hK12 _ _ ?_
                  refine wp_ret ?_
                  show bodyPost Tryd.prog Tryd.f3 _ .ret _ _
                  refine ret1 rfl ha (by rfl) ?_
                  exact ⟨rfl, _, hs⟩
            · rw [hg15] at ha
              have hp15 := of_decide_eq_true hg15
              refine gOff ha rfl rfl (by rfl) rfl rfl fun a ha => ?_
              refine gOff ha rfl rfl (by rfl) rfl rfl fun a ha => ?_
              refine gOff ha rfl rfl (by rfl) rfl rfl fun a ha => ?_
              refine gOff ha rfl rfl (by rfl) rfl rfl fun a ha => ?_
              refine gOff ha rfl rfl (by rfl) rfl rfl fun a ha => ?_
              refine gOff ha rfl rfl (by rfl) rfl rfl fun a ha => ?_
              refine gOff ha rfl rfl (by rfl) rfl rfl fun a ha => ?_
              refine gOff ha rfl rfl (by rfl) rfl rfl fun a ha => ?_
              refine gOn ha rfl rfl (by rfl) ?_
              first | refine pY ha (yPickT (by rfl) (by rfl)) rfl fun a ha => ?_ | refine pY ha (yPickF (by rfl) (by rfl)) rfl fun a ha => ?_ | refine pY ha (yPick (by rfl) (by rfl) (by rfl)) rfl fun a ha => ?_
              first | refine pY ha (yPickT (by rfl) (by rfl)) rfl fun a ha => ?_ | refine pY ha (yPickF (by rfl) (by rfl)) rfl fun a ha => ?_ | refine pY ha (yPick (by rfl) (by rfl) (by rfl)) rfl fun a ha => ?_
              refine pY ha (yMove (by rfl)) rfl fun a ha => ?_
              refine gOn ha rfl rfl (by rfl) ?_
              refine pY ha (yMove (by rfl)) rfl fun a ha => ?_
              refine gOn ha rfl rfl (by rfl) ?_
              refine pY ha (yEql (by rfl) (by rfl)) rfl fun a ha => ?_
              first | refine pY ha (yPickT (by rfl) (by rfl)) rfl fun a ha => ?_ | refine pY ha (yPickF (by rfl) (by rfl)) rfl fun a ha => ?_ | refine pY ha (yPick (by rfl) (by rfl) (by rfl)) rfl fun a ha => ?_
              refine pY ha (yMove (by rfl)) rfl fun a ha => ?_
              refine gSplit (t := 94) ha (by rfl) (fun hg30 => ?_) (fun hg30 => ?_)
              · simp at hg30
              · rw [hg30] at ha
                refine gOn ha rfl rfl (by rfl) ?_
                refine pC ha (nCall Tryd.call7 (by rfl)) rfl (awake18_c hT hs) ?_
                rintro v w ⟨rfl, hs⟩ a ha
                first | refine pY ha (yPickT (by rfl) (by rfl)) rfl fun a ha => ?_ | refine pY ha (yPickF (by rfl) (by rfl)) rfl fun a ha => ?_ | refine pY ha (yPick (by rfl) (by rfl) (by rfl)) rfl fun a ha => ?_
                refine pY ha (yAssign (by rfl)) rfl fun a ha => ?_
                refine pZ ?_
                refine hK12 _ _ ?_
                refine wp_ret ?_
                show bodyPost Tryd.prog Tryd.f3 _ .ret _ _
                refine ret1 rfl ha (by rfl) ?_
                exact ⟨rfl, _, hs⟩
end
end Go.Proofs.YtnlhbkaieoogfaaDoor

set_option linter.unusedVariables false
set_option linter.unusedSimpArgs false
set_option maxRecDepth 100000
namespace Go.Proofs.YtnlhbkaieoogfaaDoor
open Go.ChangeShapes Go.WideShapes Go.ChangeAt Go.RowKit
section
variable {H : Type} {enc : TypeId × Value → H} {P : Program} {W : World}
/-- What a world that began as W holds for reading. -/
def Old (W : World) (p : Hp → Prop) : Prop := ∀ Z : Hp, (∀ i, i < W.heap.size → Z i = W.heap[i]?) → p Z
theorem given_sl {α : Type} {d : Kd α} {ok : α → Prop} {t e : TypeId} {fuel : Nat} {cs : List Value} {y : DataW H × List MemPlace} (ht : P.underlying t = some (.slice e)) (hc : P.cellsOf e = d.sz) (hpos : 0 < d.sz)
    (hE : ∀ n cs y, DataW.trod enc P W 0 (fun _ => true) true n e cs = some y → ∃ x : α, ok x ∧ Old W (fun Z => d.R Z x cs))
    (h : DataW.trod enc P W 0 (fun _ => true) true fuel t cs = some y) :
    ∃ A n c xs, cs = [.slice A n c] ∧ Old W (fun Z => d.sl Z (.slice A n c) xs) ∧ ∀ x ∈ xs, ok x := by
  rcases DataW.trod_slice ht h with ⟨rfl, _⟩ | ⟨a, len, cap, elems, rest, n, _, rfl, _, hb, hl, hm, hlen, hel, _⟩
  · exact ⟨none, 0, 0, [], rfl, fun Z _ => ⟨none, 0, rfl, Nat.le_refl _, Nat.zero_le _, fun h => absurd h (by simp)⟩, fun x h => (by cases h)⟩
  · rw [hc] at hel
    have each : ∀ i : Fin len, ∃ x : α, ok x ∧ ∃ ci, W.cells? 0 (a.add (i.val * d.sz)) d.sz = some ci ∧ Old W (fun Z => d.R Z x ci) := fun i => by
      have h1 := hel i.val i.isLt
      have h2 : elems[i.val]? = some (elems[i.val]'(by omega)) := List.getElem?_eq_getElem (by omega)
      rw [h2, Option.bind_eq_some_iff] at h1
      obtain ⟨ci, hci, htr⟩ := h1
      obtain ⟨x, hx, hR⟩ := hE _ _ _ htr
      exact ⟨x, hx, ci, hci, hR⟩
    let xs : List α := List.ofFn fun i : Fin len => (each i).choose
    have hxl : xs.length = len := by simp [xs]
    have hxs : ∀ i x, xs[i]? = some x → ∃ hi : i < len, x = (each ⟨i, hi⟩).choose := fun i x hx => by
      have hi : i < len := by rw [← hxl]; exact (List.getElem?_eq_some_iff.1 hx).1
      refine ⟨hi, ?_⟩
      have := (List.getElem?_eq_some_iff.1 hx).2
      simp only [xs, List.getElem_ofFn] at this
      exact this.symm
    have h0 : ∀ i (hi : i < len) j (hj : j < d.sz), ∃ ci, W.cells? 0 (a.add (i * d.sz)) d.sz = some ci := fun i hi j hj => by
      obtain ⟨_, ci, hci, _⟩ := (each ⟨i, hi⟩).choose_spec
      exact ⟨ci, hci⟩
    refine ⟨some a, len, cap, xs, rfl, fun Z hZ => ⟨some a, cap, by rw [hxl], by rw [hxl]; exact hl, hm, fun hp => ?_⟩, fun x hx => ?_⟩
    · obtain ⟨ab, ao, spot⟩ := a
      have hp' : 0 < len := by rw [← hxl]; exact hp
      obtain ⟨_, ci, hci, _⟩ := (each ⟨0, hp'⟩).choose_spec
      obtain ⟨g1, g2, g3⟩ := World.cells?_some hci
      have hc0 := g3 0 hpos
      rw [List.getElem?_eq_getElem (by omega)] at hc0
      have hspot : spot = none := by simpa [Addr.add] using World.cell?_spot hc0
      subst hspot
      rw [add_at, add_at] at hc0
      cases hb : W.heap[ab]? with
      | none => simp [World.cell?, hb] at hc0
      | some o =>
        cases o with
        | cells arr T fr =>
          have hlt : ab < W.heap.size := (Array.getElem?_eq_some_iff.1 hb).1
          refine ⟨ab, ao, arr, T, fr, rfl, by rw [hZ ab hlt]; exact hb, fun i x hx => ?_⟩
          obtain ⟨hi, rfl⟩ := hxs i x hx
          obtain ⟨_, ci2, hci2, hR⟩ := (each ⟨i, hi⟩).choose_spec
          obtain ⟨_, k2, k3⟩ := World.cells?_some hci2
          refine ⟨ci2, hR Z hZ, fun j u hj => ?_⟩
          have hj' : j < d.sz := by rw [← k2]; exact (List.getElem?_eq_some_iff.1 hj).1
          have := k3 j hj'
          rw [add_at, add_at, hj] at this
          simpa [World.cell?, hb] using this
        | _ => simp [World.cell?, hb] at hc0
    · obtain ⟨i, hi⟩ := List.mem_iff_getElem?.1 hx
      obtain ⟨hl2, rfl⟩ := hxs i x hi
      exact (each ⟨i, hl2⟩).choose_spec.1
theorem st_field {t n : Nat} {fs : Array Field} {cs : List Value} {y : DataW H × List MemPlace} (ht : P.underlying t = some (.struct fs)) (h : DataW.trod enc P W 0 (fun _ => true) true n t cs = some y) :
    cs.length = P.cellsOf t ∧ ∃ m, ∀ (i : Nat) (f : Field), fs[i]? = some f → ∃ z, DataW.trod enc P W 0 (fun _ => true) true m f.type ((cs.drop f.offset).take (P.cellsOf f.type)) = some z := by
  obtain ⟨xs, m, _, _, hl, hsz, hf⟩ := DataW.trod_struct ht h
  refine ⟨hl, m, fun i (f : Field) hi => ?_⟩
  have h1 : i < fs.size := (Array.getElem?_eq_some_iff.1 hi).1
  exact ⟨xs[i]'(by omega), by rw [hf i f hi]; exact List.getElem?_eq_getElem (by omega)⟩
end
section
variable {H : Type} {enc : TypeId × Value → H} {W : World}
theorem k_int : Tryd.prog.cellsOf 3 = 1 := by kernel_rfl
theorem k_str : Tryd.prog.cellsOf 9 = 1 := by kernel_rfl
theorem k_bool : Tryd.prog.cellsOf 4 = 1 := by kernel_rfl
theorem k_comps : Tryd.prog.cellsOf 41 = 1 := by kernel_rfl
theorem k_acts : Tryd.prog.cellsOf 22 = 1 := by kernel_rfl
theorem k_nods : Tryd.prog.cellsOf 24 = 1 := by kernel_rfl
theorem big : maxLen ≤ 9223372036854775807 := by unfold maxLen; omega
end
end Go.Proofs.YtnlhbkaieoogfaaDoor

set_option linter.unusedVariables false
set_option linter.unusedSimpArgs false
set_option maxRecDepth 100000
namespace Go.Proofs.YtnlhbkaieoogfaaDoor
open Go.ChangeShapes Go.WideShapes Go.ChangeAt Go.RowKit
section
variable {H : Type} {enc : TypeId × Value → H} {W : World}
theorem k_cmts : Tryd.prog.cellsOf 23 = 1 := by kernel_rfl
theorem wf_64 {n : Int} (h : (Lit.int .i64 n).wf = true) : i64 n := by
  simp [Lit.wf, IntKind.min, IntKind.max, IntKind.signed, IntKind.bits] at h
  unfold i64; omega
theorem gm_comp (n : Nat) (cs : List Value) (y : DataW H × List MemPlace) (h : DataW.trod enc Tryd.prog W 0 (fun _ => true) true n 46 cs = some y) : ∃ x : Comp, gC x ∧ Old W (fun Z => kComp.R Z x cs) := by
  obtain ⟨hl, m, hf⟩ := st_field Tryd.underlying46 h
  rw [show Tryd.prog.cellsOf 46 = 3 by kernel_rfl] at hl
  match cs, hl with
  | [a, b, c], _ =>
    obtain ⟨z0, h0⟩ : ∃ z, DataW.trod enc Tryd.prog W 0 (fun _ => true) true m 3 ((List.drop 0 [a, b, c]).take (Tryd.prog.cellsOf 3)) = some z := hf 0 _ rfl
    obtain ⟨z1, h1⟩ : ∃ z, DataW.trod enc Tryd.prog W 0 (fun _ => true) true m 3 ((List.drop 1 [a, b, c]).take (Tryd.prog.cellsOf 3)) = some z := hf 1 _ rfl
    obtain ⟨z2, h2⟩ : ∃ z, DataW.trod enc Tryd.prog W 0 (fun _ => true) true m 9 ((List.drop 2 [a, b, c]).take (Tryd.prog.cellsOf 9)) = some z := hf 2 _ rfl
    simp only [k_int, k_str, List.drop_zero, List.drop_succ_cons, List.take_succ_cons, List.take_zero] at h0 h1 h2
    obtain ⟨k0, e0, _, _⟩ := DataW.trod_int Tryd.underlying3 h0
    obtain ⟨k1, e1, w1, v1⟩ := DataW.trod_int Tryd.underlying3 h1
    obtain ⟨s2, e2, _, hs2⟩ := DataW.trod_string Tryd.underlying9 h2
    simp only [List.cons.injEq, and_true] at e0 e1 e2
    subst e0; subst e1; subst e2
    exact ⟨⟨k0, k1, s2⟩, ⟨wf_64 (by assumption), Nat.le_trans hs2 big⟩, fun Z _ => rfl⟩
theorem gm_actn (n : Nat) (cs : List Value) (y : DataW H × List MemPlace) (h : DataW.trod enc Tryd.prog W 0 (fun _ => true) true n 43 cs = some y) : ∃ x : Actn, gA x ∧ Old W (fun Z => kActn.R Z x cs) := by
  obtain ⟨hl, m, hf⟩ := st_field Tryd.underlying43 h
  rw [show Tryd.prog.cellsOf 43 = 6 by kernel_rfl] at hl
  match cs, hl with
  | [a, b, c, d, e, f], _ =>
    obtain ⟨z0, h0⟩ : ∃ z, DataW.trod enc Tryd.prog W 0 (fun _ => true) true m 3 ((List.drop 0 [a, b, c, d, e, f]).take (Tryd.prog.cellsOf 3)) = some z := hf 0 _ rfl
    obtain ⟨z1, h1⟩ : ∃ z, DataW.trod enc Tryd.prog W 0 (fun _ => true) true m 3 ((List.drop 1 [a, b, c, d, e, f]).take (Tryd.prog.cellsOf 3)) = some z := hf 1 _ rfl
    obtain ⟨z2, h2⟩ : ∃ z, DataW.trod enc Tryd.prog W 0 (fun _ => true) true m 3 ((List.drop 2 [a, b, c, d, e, f]).take (Tryd.prog.cellsOf 3)) = some z := hf 2 _ rfl
    obtain ⟨z3, h3⟩ : ∃ z, DataW.trod enc Tryd.prog W 0 (fun _ => true) true m 9 ((List.drop 3 [a, b, c, d, e, f]).take (Tryd.prog.cellsOf 9)) = some z := hf 3 _ rfl
    obtain ⟨z4, h4⟩ : ∃ z, DataW.trod enc Tryd.prog W 0 (fun _ => true) true m 4 ((List.drop 4 [a, b, c, d, e, f]).take (Tryd.prog.cellsOf 4)) = some z := hf 4 _ rfl
    obtain ⟨z5, h5⟩ : ∃ z, DataW.trod enc Tryd.prog W 0 (fun _ => true) true m 41 ((List.drop 5 [a, b, c, d, e, f]).take (Tryd.prog.cellsOf 41)) = some z := hf 5 _ rfl
    simp only [k_int, k_str, k_bool, k_comps, k_acts, k_nods, k_cmts, List.drop_zero, List.drop_succ_cons, List.take_succ_cons, List.take_zero] at h0 h1 h2 h3 h4 h5
    obtain ⟨k0, e0, _, v0⟩ := DataW.trod_int Tryd.underlying3 h0
    obtain ⟨k1, e1, _, v1⟩ := DataW.trod_int Tryd.underlying3 h1
    obtain ⟨k2, e2, _, v2⟩ := DataW.trod_int Tryd.underlying3 h2
    obtain ⟨k3, e3, _, g3⟩ := DataW.trod_string Tryd.underlying9 h3
    obtain ⟨k4, e4, _⟩ := DataW.trod_bool Tryd.underlying4 h4
    obtain ⟨A5, n5, c5, k5, e5, o5, g5⟩ := given_sl (d := kComp) Tryd.underlying41 (by kernel_rfl) (by decide) gm_comp h5
    simp only [List.cons.injEq, and_true] at e0 e1 e2 e3 e4 e5
    subst e0; subst e1; subst e2; subst e3; subst e4; subst e5
    exact ⟨⟨k0, k1, k2, k3, k4, k5⟩, ⟨Nat.le_trans g3 big, g5⟩, fun Z hZ => ⟨A5, n5, c5, rfl, o5 Z hZ⟩⟩
theorem gm_nod (n : Nat) (cs : List Value) (y : DataW H × List MemPlace) (h : DataW.trod enc Tryd.prog W 0 (fun _ => true) true n 50 cs = some y) : ∃ x : Nod, gN x ∧ Old W (fun Z => kNod.R Z x cs) := by
  obtain ⟨hl, m, hf⟩ := st_field Tryd.underlying50 h
  rw [show Tryd.prog.cellsOf 50 = 5 by kernel_rfl] at hl
  match cs, hl with
  | [a, b, c, d, e], _ =>
    obtain ⟨z0, h0⟩ : ∃ z, DataW.trod enc Tryd.prog W 0 (fun _ => true) true m 3 ((List.drop 0 [a, b, c, d, e]).take (Tryd.prog.cellsOf 3)) = some z := hf 0 _ rfl
    obtain ⟨z1, h1⟩ : ∃ z, DataW.trod enc Tryd.prog W 0 (fun _ => true) true m 3 ((List.drop 1 [a, b, c, d, e]).take (Tryd.prog.cellsOf 3)) = some z := hf 1 _ rfl
    obtain ⟨z2, h2⟩ : ∃ z, DataW.trod enc Tryd.prog W 0 (fun _ => true) true m 9 ((List.drop 2 [a, b, c, d, e]).take (Tryd.prog.cellsOf 9)) = some z := hf 2 _ rfl
    obtain ⟨z3, h3⟩ : ∃ z, DataW.trod enc Tryd.prog W 0 (fun _ => true) true m 4 ((List.drop 3 [a, b, c, d, e]).take (Tryd.prog.cellsOf 4)) = some z := hf 3 _ rfl
    obtain ⟨z4, h4⟩ : ∃ z, DataW.trod enc Tryd.prog W 0 (fun _ => true) true m 9 ((List.drop 4 [a, b, c, d, e]).take (Tryd.prog.cellsOf 9)) = some z := hf 4 _ rfl
    simp only [k_int, k_str, k_bool, k_comps, k_acts, k_nods, k_cmts, List.drop_zero, List.drop_succ_cons, List.take_succ_cons, List.take_zero] at h0 h1 h2 h3 h4
    obtain ⟨k0, e0, _, v0⟩ := DataW.trod_int Tryd.underlying3 h0
    obtain ⟨k1, e1, _, v1⟩ := DataW.trod_int Tryd.underlying3 h1
    obtain ⟨k2, e2, _, g2⟩ := DataW.trod_string Tryd.underlying9 h2
    obtain ⟨k3, e3, _⟩ := DataW.trod_bool Tryd.underlying4 h3
    obtain ⟨k4, e4, _, g4⟩ := DataW.trod_string Tryd.underlying9 h4
    simp only [List.cons.injEq, and_true] at e0 e1 e2 e3 e4
    subst e0; subst e1; subst e2; subst e3; subst e4
    exact ⟨⟨k0, k1, k2, k3, k4⟩, ⟨Nat.le_trans g2 big, Nat.le_trans g4 big⟩, fun Z _ => rfl⟩
theorem gm_cmt (n : Nat) (cs : List Value) (y : DataW H × List MemPlace) (h : DataW.trod enc Tryd.prog W 0 (fun _ => true) true n 40 cs = some y) : ∃ x : Cmt, gCm x ∧ Old W (fun Z => kCmt.R Z x cs) := by
  obtain ⟨hl, m, hf⟩ := st_field Tryd.underlying40 h
  rw [show Tryd.prog.cellsOf 40 = 4 by kernel_rfl] at hl
  match cs, hl with
  | [a, b, c, d], _ =>
    obtain ⟨z0, h0⟩ : ∃ z, DataW.trod enc Tryd.prog W 0 (fun _ => true) true m 3 ((List.drop 0 [a, b, c, d]).take (Tryd.prog.cellsOf 3)) = some z := hf 0 _ rfl
    obtain ⟨z1, h1⟩ : ∃ z, DataW.trod enc Tryd.prog W 0 (fun _ => true) true m 3 ((List.drop 1 [a, b, c, d]).take (Tryd.prog.cellsOf 3)) = some z := hf 1 _ rfl
    obtain ⟨z2, h2⟩ : ∃ z, DataW.trod enc Tryd.prog W 0 (fun _ => true) true m 3 ((List.drop 2 [a, b, c, d]).take (Tryd.prog.cellsOf 3)) = some z := hf 2 _ rfl
    obtain ⟨z3, h3⟩ : ∃ z, DataW.trod enc Tryd.prog W 0 (fun _ => true) true m 22 ((List.drop 3 [a, b, c, d]).take (Tryd.prog.cellsOf 22)) = some z := hf 3 _ rfl
    simp only [k_int, k_str, k_bool, k_comps, k_acts, k_nods, k_cmts, List.drop_zero, List.drop_succ_cons, List.take_succ_cons, List.take_zero] at h0 h1 h2 h3
    obtain ⟨k0, e0, _, v0⟩ := DataW.trod_int Tryd.underlying3 h0
    obtain ⟨k1, e1, _, v1⟩ := DataW.trod_int Tryd.underlying3 h1
    obtain ⟨k2, e2, _, v2⟩ := DataW.trod_int Tryd.underlying3 h2
    obtain ⟨A3, n3, c3, k3, e3, o3, g3⟩ := given_sl (d := kActn) Tryd.underlying22 (by kernel_rfl) (by decide) gm_actn h3
    simp only [List.cons.injEq, and_true] at e0 e1 e2 e3
    subst e0; subst e1; subst e2; subst e3
    exact ⟨⟨k0, k1, k2, k3⟩, ⟨⟨wf_64 v0, wf_64 v1, wf_64 v2⟩, g3⟩, fun Z hZ => ⟨A3, n3, c3, rfl, o3 Z hZ⟩⟩
theorem gm_msg (n : Nat) (cs : List Value) (y : DataW H × List MemPlace) (h : DataW.trod enc Tryd.prog W 0 (fun _ => true) true n 26 cs = some y) : ∃ x : Msg, gM x ∧ Old W (fun Z => kMsg.R Z x cs) := by
  obtain ⟨hl, m, hf⟩ := st_field Tryd.underlying26 h
  rw [show Tryd.prog.cellsOf 26 = 9 by kernel_rfl] at hl
  match cs, hl with
  | [a, b, c, d, e, f, g, h, i], _ =>
    obtain ⟨z0, h0⟩ : ∃ z, DataW.trod enc Tryd.prog W 0 (fun _ => true) true m 3 ((List.drop 0 [a, b, c, d, e, f, g, h, i]).take (Tryd.prog.cellsOf 3)) = some z := hf 0 _ rfl
    obtain ⟨z1, h1⟩ : ∃ z, DataW.trod enc Tryd.prog W 0 (fun _ => true) true m 3 ((List.drop 1 [a, b, c, d, e, f, g, h, i]).take (Tryd.prog.cellsOf 3)) = some z := hf 1 _ rfl
    obtain ⟨z2, h2⟩ : ∃ z, DataW.trod enc Tryd.prog W 0 (fun _ => true) true m 3 ((List.drop 2 [a, b, c, d, e, f, g, h, i]).take (Tryd.prog.cellsOf 3)) = some z := hf 2 _ rfl
    obtain ⟨z3, h3⟩ : ∃ z, DataW.trod enc Tryd.prog W 0 (fun _ => true) true m 3 ((List.drop 3 [a, b, c, d, e, f, g, h, i]).take (Tryd.prog.cellsOf 3)) = some z := hf 3 _ rfl
    obtain ⟨z4, h4⟩ : ∃ z, DataW.trod enc Tryd.prog W 0 (fun _ => true) true m 3 ((List.drop 4 [a, b, c, d, e, f, g, h, i]).take (Tryd.prog.cellsOf 3)) = some z := hf 4 _ rfl
    obtain ⟨z5, h5⟩ : ∃ z, DataW.trod enc Tryd.prog W 0 (fun _ => true) true m 22 ((List.drop 5 [a, b, c, d, e, f, g, h, i]).take (Tryd.prog.cellsOf 22)) = some z := hf 5 _ rfl
    obtain ⟨z6, h6⟩ : ∃ z, DataW.trod enc Tryd.prog W 0 (fun _ => true) true m 23 ((List.drop 6 [a, b, c, d, e, f, g, h, i]).take (Tryd.prog.cellsOf 23)) = some z := hf 6 _ rfl
    obtain ⟨z7, h7⟩ : ∃ z, DataW.trod enc Tryd.prog W 0 (fun _ => true) true m 24 ((List.drop 7 [a, b, c, d, e, f, g, h, i]).take (Tryd.prog.cellsOf 24)) = some z := hf 7 _ rfl
    obtain ⟨z8, h8⟩ : ∃ z, DataW.trod enc Tryd.prog W 0 (fun _ => true) true m 3 ((List.drop 8 [a, b, c, d, e, f, g, h, i]).take (Tryd.prog.cellsOf 3)) = some z := hf 8 _ rfl
    simp only [k_int, k_str, k_bool, k_comps, k_acts, k_nods, k_cmts, List.drop_zero, List.drop_succ_cons, List.take_succ_cons, List.take_zero] at h0 h1 h2 h3 h4 h5 h6 h7 h8
    obtain ⟨k0, e0, _, v0⟩ := DataW.trod_int Tryd.underlying3 h0
    obtain ⟨k1, e1, _, v1⟩ := DataW.trod_int Tryd.underlying3 h1
    obtain ⟨k2, e2, _, v2⟩ := DataW.trod_int Tryd.underlying3 h2
    obtain ⟨k3, e3, _, v3⟩ := DataW.trod_int Tryd.underlying3 h3
    obtain ⟨k4, e4, _, v4⟩ := DataW.trod_int Tryd.underlying3 h4
    obtain ⟨A5, n5, c5, k5, e5, o5, g5⟩ := given_sl (d := kActn) Tryd.underlying22 (by kernel_rfl) (by decide) gm_actn h5
    obtain ⟨A6, n6, c6, k6, e6, o6, g6⟩ := given_sl (d := kCmt) Tryd.underlying23 (by kernel_rfl) (by decide) gm_cmt h6
    obtain ⟨A7, n7, c7, k7, e7, o7, g7⟩ := given_sl (d := kNod) Tryd.underlying24 (by kernel_rfl) (by decide) gm_nod h7
    obtain ⟨k8, e8, _, v8⟩ := DataW.trod_int Tryd.underlying3 h8
    simp only [List.cons.injEq, and_true] at e0 e1 e2 e3 e4 e5 e6 e7 e8
    subst e0; subst e1; subst e2; subst e3; subst e4; subst e5; subst e6; subst e7; subst e8
    exact ⟨⟨k0, k1, k2, k3, k4, k5, k6, k7, k8⟩, ⟨⟨wf_64 v1, wf_64 v2, wf_64 v3, wf_64 v8, wf_64 v4⟩, g5, g6, g7⟩, fun Z hZ => ⟨A5, n5, c5, A6, n6, c6, A7, n7, c7, rfl, o5 Z hZ, o6 Z hZ, o7 Z hZ⟩⟩
theorem given_msg {v : Value} {d : DataW H} {p : List MemPlace} (h : DataW.Trod enc Tryd.prog W 0 (fun _ => true) true 26 v d p) :
    ∃ es x, v.cells.toList = es ∧ gM x ∧ Old W (fun Z => kMsg.R Z x es) := by
  obtain ⟨fuel, hf⟩ := h
  obtain ⟨x, hx, o⟩ := gm_msg _ _ _ hf
  exact ⟨_, x, rfl, hx, o⟩
end
end Go.Proofs.YtnlhbkaieoogfaaDoor

