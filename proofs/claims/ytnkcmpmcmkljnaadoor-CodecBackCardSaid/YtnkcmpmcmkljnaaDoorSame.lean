/- Comparing lists that are the same. -/
import Derived.Test.YtnkcmpmcmkljnaaDoorIn
import Derived.Laws.StructEq
set_option linter.unusedVariables false
set_option linter.unusedSimpArgs false
namespace Go.Proofs.YtnkcmpmcmkljnaaDoor
open Go.RowKit Go.Lib
section
variable {W w : World} {cs r r' : List Ch}
theorem nod_neq (i p : Int) (n t : ByteArray) (d : Bool) : (binOp .neq 65 (.agg [.int .i64 i, .int .i64 p, .string n, .bool d, .string t].toArray) (.agg [.int .i64 i, .int .i64 p, .string n, .bool d, .string t].toArray)).run P w = .ok (.bool false) w := by
  rw [run_neq_struct, run_equalIn_agg w 9999 _ _ _ (by kernel_rfl) (by kernel_rfl)]
  simp only [Program.fieldsOf, Tryd.underlying65]
  simp [Op.eqFields, part, Tryd.isAgg3, Tryd.isAgg9, Tryd.isAgg4, run_equalIn_int w _ _ _ _ _ _ Tryd.underlying3, run_equalIn_string w _ _ _ _ Tryd.underlying9, run_equalIn_bool' w _ _ _ _ Tryd.underlying4]
theorem Same_c {A A' : Option Addr} {n n' c c' : Nat} {xs : List Comp} (hs : Sep W w cs) (hk : Pick cs (.rd kComp (.slice A n c) xs) r) (hk' : Pick cs (.rd kComp (.slice A' n' c') xs) r') :
    Calls P 21 #[.slice A n c, .slice A' n' c'] w (Rt fun v w' => v = .bool true ∧ Sep W w' cs) := by
  obtain ⟨rfl, hl⟩ := hs.rd_shape hk
  obtain ⟨rfl, hl'⟩ := hs.rd_shape hk'
  unfold maxLen at hl
  have hs := (hs.cpR hk).cpR (.there hk')
  refine enter Tryd.func21 Tryd.ntmps21 rfl rfl fun a (ha : Has a 54 [(0, _), (1, _)]) => ?_
  refine wp_seq_k fun K1 hK1 => ?_
  refine wp_region_lit ?_
  refine pY ha (yAssign (by rfl)) rfl fun a ha => ?_
  refine pZ ?_
  refine hK1 _ _ ?_
  refine wp_seq_k fun K2 hK2 => ?_
  refine wp_seq_k fun K3 hK3 => ?_
  refine wp_region_lit ?_
  refine pY ha (yMove (by rfl)) rfl fun a ha => ?_
  refine pY ha (yLenS Tryd.runUnderlying41 (by rfl)) rfl fun a ha => ?_
  refine pY ha (yMove (by rfl)) rfl fun a ha => ?_
  refine pY ha (yLenS Tryd.runUnderlying41 (by rfl)) rfl fun a ha => ?_
  refine pY ha (yNeq (by rfl) (by rfl)) rfl fun a ha => ?_
  refine pZ ?_
  refine hK3 _ _ ?_
  first | refine cNDec ha (by rfl) (fun hc10 => ?_) (fun hc10 => ?_) | refine cDec ha (by rfl) (fun hc10 => ?_) (fun hc10 => ?_) | refine cSplit ha (by rfl) (fun hc10 => ?_) (fun hc10 => ?_)
  · exact absurd rfl hc10
  · refine wp_skip ?_
    refine hK2 _ _ ?_
    refine wp_seq_k fun K4 hK4 => ?_
    refine wp_seq_k fun K5 hK5 => ?_
    refine wp_region_lit ?_
    refine pY ha (yAssign (by rfl)) rfl fun a ha => ?_
    refine pZ ?_
    refine hK5 _ _ ?_
    refine wp_block ?_
    refine loopI (ι := Nat) (fun i a w => i ≤ xs.length ∧ Has a 54 [(0, .slice A xs.length c), (1, .slice A' xs.length c'), (5, .int .i64 i)] ∧ Sep W w (.rd kComp (.slice A' xs.length c') xs :: .rd kComp (.slice A xs.length c) xs :: cs)) (fun i => xs.length - i) (0) ?_ ?_
    · exact ⟨Nat.zero_le _, has3 ha (by rfl) (by rfl) (by rfl), hs⟩
    · rintro i a w ⟨h1, ha, hs⟩
      refine wp_seq_k fun K6 hK6 => ?_
      refine wp_seq_k fun K7 hK7 => ?_
      refine wp_region_lit ?_
      refine pY ha (yMove (by rfl)) rfl fun a ha => ?_
      refine pY ha (yMove (by rfl)) rfl fun a ha => ?_
      refine pY ha (yLenS Tryd.runUnderlying41 (by rfl)) rfl fun a ha => ?_
      refine pY ha (yLss (by rfl) (by rfl)) rfl fun a ha => ?_
      refine pZ ?_
      refine hK7 _ _ ?_
      first | refine cDec ha (by rfl) (fun hc14 => ?_) (fun hc14 => ?_) | refine cSplit ha (by rfl) (fun hc14 => ?_) (fun hc14 => ?_)
      · refine wp_skip ?_
        refine hK6 _ _ ?_
        refine wp_seq_k fun K8 hK8 => ?_
        refine wp_block ?_
        refine wp_seq_k fun K9 hK9 => ?_
        obtain ⟨x, hx⟩ : ∃ x, xs[i]? = some x := ⟨_, List.getElem?_eq_getElem (by omega)⟩
        obtain ⟨b, off, rfl, hs⟩ := hs.rd_comp .here hx
        obtain ⟨b', off', rfl, hs⟩ := hs.rd_comp (.there (.there .here)) hx
        refine dStart (fun w => Sep W w _) [] (by kernel_rfl) rfl (hs.drew) ?_
        have hs := Sep.drew hs
        generalize World.drew _ = w at hs ⊢
        refine dP 0 rfl (by kernel_rfl) ha won0 (fun _ => yMove (by rfl)) rfl (fun _ _ _ h => h) fun a ha => ?_
        refine dP 1 rfl (by kernel_rfl) ha won0 (fun _ => yMove (by rfl)) rfl (fun _ _ _ h => h) fun a ha => ?_
        refine dP 2 rfl (by kernel_rfl) ha won0 (fun _ => yIndexA Tryd.runUnderlying41 Tryd.sizeOf91 (by rfl) (by rfl) (by omega) (by omega)) rfl (fun _ _ _ h => h) fun a ha => ?_
        refine dP 3 rfl (by kernel_rfl) ha won0 (fun _ => yFieldA Tryd.runUnderlying91 rfl Tryd.sizeOf3 rfl (by rfl)) rfl (fun _ _ _ h => h) fun a ha => ?_
        first | refine dT 4 rfl (by kernel_rfl) ha won0 (fun _ hs => yLoadB Tryd.isAgg3 hs (by rfl) (by repeat first | exact .here | apply Pick.there) (by rfl)) (hs) rfl (fun _ _ _ h => h) fun a ha => ?_ | refine dT 4 rfl (by kernel_rfl) ha won0 (fun _ hs => yLoadR Tryd.isAgg3 hs (by rfl) (by repeat first | exact .here | apply Pick.there) (by rfl)) (hs) rfl (fun _ _ _ h => h) fun a ha => ?_ | refine dT 4 rfl (by kernel_rfl) ha won0 (fun _ hs => yLoadR0 Tryd.isAgg3 hs (by rfl) (by repeat first | exact .here | apply Pick.there) (by rfl)) (hs) rfl (fun _ _ _ h => h) fun a ha => ?_
        refine dP 5 rfl (by kernel_rfl) ha won0 (fun _ => yMove (by rfl)) rfl (fun _ _ _ h => h) fun a ha => ?_
        refine dP 6 rfl (by kernel_rfl) ha won0 (fun _ => yMove (by rfl)) rfl (fun _ _ _ h => h) fun a ha => ?_
        refine dP 7 rfl (by kernel_rfl) ha won0 (fun _ => yIndexA Tryd.runUnderlying41 Tryd.sizeOf91 (by rfl) (by rfl) (by omega) (by omega)) rfl (fun _ _ _ h => h) fun a ha => ?_
        refine dP 8 rfl (by kernel_rfl) ha won0 (fun _ => yFieldA Tryd.runUnderlying91 rfl Tryd.sizeOf3 rfl (by rfl)) rfl (fun _ _ _ h => h) fun a ha => ?_
        first | refine dT 9 rfl (by kernel_rfl) ha won0 (fun _ hs => yLoadB Tryd.isAgg3 hs (by rfl) (by repeat first | exact .here | apply Pick.there) (by rfl)) (hs) rfl (fun _ _ _ h => h) fun a ha => ?_ | refine dT 9 rfl (by kernel_rfl) ha won0 (fun _ hs => yLoadR Tryd.isAgg3 hs (by rfl) (by repeat first | exact .here | apply Pick.there) (by rfl)) (hs) rfl (fun _ _ _ h => h) fun a ha => ?_ | refine dT 9 rfl (by kernel_rfl) ha won0 (fun _ hs => yLoadR0 Tryd.isAgg3 hs (by rfl) (by repeat first | exact .here | apply Pick.there) (by rfl)) (hs) rfl (fun _ _ _ h => h) fun a ha => ?_
        refine dP 10 rfl (by kernel_rfl) ha won0 (fun _ => yNeq (by rfl) (by rfl)) rfl (fun _ _ _ h => h) fun a ha => ?_
        refine dP 11 rfl (by kernel_rfl) ha won0 (fun _ => yMove (by rfl)) rfl (fun _ _ _ h => h) fun a ha => ?_
        refine gSplit (t := 28) ha (by rfl) (fun hg11 => ?_) (fun hg11 => ?_)
        · rw [hg11] at ha
          refine dP 12 rfl (by kernel_rfl) ha (won1 rfl rfl (by rfl)) (fun _ => yMove (by rfl)) rfl (fun _ _ _ h => h) fun a ha => ?_
          refine dP 13 rfl (by kernel_rfl) ha (won1 rfl rfl (by rfl)) (fun _ => yMove (by rfl)) rfl (fun _ _ _ h => h) fun a ha => ?_
          refine dP 14 rfl (by kernel_rfl) ha (won1 rfl rfl (by rfl)) (fun _ => yIndexA Tryd.runUnderlying41 Tryd.sizeOf91 (by rfl) (by rfl) (by omega) (by omega)) rfl (fun _ _ _ h => h) fun a ha => ?_
          refine dP 15 rfl (by kernel_rfl) ha (won1 rfl rfl (by rfl)) (fun _ => yFieldA Tryd.runUnderlying91 rfl Tryd.sizeOf3 rfl (by rfl)) rfl (fun _ _ _ h => h) fun a ha => ?_
          first | refine dT 16 rfl (by kernel_rfl) ha (won1 rfl rfl (by rfl)) (fun _ hs => yLoadB Tryd.isAgg3 hs (by rfl) (by repeat first | exact .here | apply Pick.there) (by rfl)) (hs) rfl (fun _ _ _ h => h) fun a ha => ?_ | refine dT 16 rfl (by kernel_rfl) ha (won1 rfl rfl (by rfl)) (fun _ hs => yLoadR Tryd.isAgg3 hs (by rfl) (by repeat first | exact .here | apply Pick.there) (by rfl)) (hs) rfl (fun _ _ _ h => h) fun a ha => ?_ | refine dT 16 rfl (by kernel_rfl) ha (won1 rfl rfl (by rfl)) (fun _ hs => yLoadR0 Tryd.isAgg3 hs (by rfl) (by repeat first | exact .here | apply Pick.there) (by rfl)) (hs) rfl (fun _ _ _ h => h) fun a ha => ?_
          refine dP 17 rfl (by kernel_rfl) ha (won1 rfl rfl (by rfl)) (fun _ => yMove (by rfl)) rfl (fun _ _ _ h => h) fun a ha => ?_
          refine dP 18 rfl (by kernel_rfl) ha (won1 rfl rfl (by rfl)) (fun _ => yMove (by rfl)) rfl (fun _ _ _ h => h) fun a ha => ?_
          refine dP 19 rfl (by kernel_rfl) ha (won1 rfl rfl (by rfl)) (fun _ => yIndexA Tryd.runUnderlying41 Tryd.sizeOf91 (by rfl) (by rfl) (by omega) (by omega)) rfl (fun _ _ _ h => h) fun a ha => ?_
          refine dP 20 rfl (by kernel_rfl) ha (won1 rfl rfl (by rfl)) (fun _ => yFieldA Tryd.runUnderlying91 rfl Tryd.sizeOf3 rfl (by rfl)) rfl (fun _ _ _ h => h) fun a ha => ?_
          first | refine dT 21 rfl (by kernel_rfl) ha (won1 rfl rfl (by rfl)) (fun _ hs => yLoadB Tryd.isAgg3 hs (by rfl) (by repeat first | exact .here | apply Pick.there) (by rfl)) (hs) rfl (fun _ _ _ h => h) fun a ha => ?_ | refine dT 21 rfl (by kernel_rfl) ha (won1 rfl rfl (by rfl)) (fun _ hs => yLoadR Tryd.isAgg3 hs (by rfl) (by repeat first | exact .here | apply Pick.there) (by rfl)) (hs) rfl (fun _ _ _ h => h) fun a ha => ?_ | refine dT 21 rfl (by kernel_rfl) ha (won1 rfl rfl (by rfl)) (fun _ hs => yLoadR0 Tryd.isAgg3 hs (by rfl) (by repeat first | exact .here | apply Pick.there) (by rfl)) (hs) rfl (fun _ _ _ h => h) fun a ha => ?_
          refine dP 22 rfl (by kernel_rfl) ha (won1 rfl rfl (by rfl)) (fun _ => yNeq (by rfl) (by rfl)) rfl (fun _ _ _ h => h) fun a ha => ?_
          first | refine dP 23 rfl (by kernel_rfl) ha won0 (fun _ => yPickT (by rfl) (by rfl)) rfl (fun _ _ _ h => h) fun a ha => ?_ | refine dP 23 rfl (by kernel_rfl) ha won0 (fun _ => yPickF (by rfl) (by rfl)) rfl (fun _ _ _ h => h) fun a ha => ?_ | refine dP 23 rfl (by kernel_rfl) ha won0 (fun _ => yPick (by rfl) (by rfl) (by rfl)) rfl (fun _ _ _ h => h) fun a ha => ?_
          refine dP 24 rfl (by kernel_rfl) ha won0 (fun _ => yMove (by rfl)) rfl (fun _ _ _ h => h) fun a ha => ?_
          refine gSplit (t := 41) ha (by rfl) (fun hg24 => ?_) (fun hg24 => ?_)
          · rw [hg24] at ha
            refine dP 25 rfl (by kernel_rfl) ha (won1 rfl rfl (by rfl)) (fun _ => yMove (by rfl)) rfl (fun _ _ _ h => h) fun a ha => ?_
            refine dP 26 rfl (by kernel_rfl) ha (won1 rfl rfl (by rfl)) (fun _ => yMove (by rfl)) rfl (fun _ _ _ h => h) fun a ha => ?_
            refine dP 27 rfl (by kernel_rfl) ha (won1 rfl rfl (by rfl)) (fun _ => yIndexA Tryd.runUnderlying41 Tryd.sizeOf91 (by rfl) (by rfl) (by omega) (by omega)) rfl (fun _ _ _ h => h) fun a ha => ?_
            refine dP 28 rfl (by kernel_rfl) ha (won1 rfl rfl (by rfl)) (fun _ => yFieldA Tryd.runUnderlying91 rfl Tryd.sizeOf9 rfl (by rfl)) rfl (fun _ _ _ h => h) fun a ha => ?_
            first | refine dT 29 rfl (by kernel_rfl) ha (won1 rfl rfl (by rfl)) (fun _ hs => yLoadB Tryd.isAgg9 hs (by rfl) (by repeat first | exact .here | apply Pick.there) (by rfl)) (hs) rfl (fun _ _ _ h => h) fun a ha => ?_ | refine dT 29 rfl (by kernel_rfl) ha (won1 rfl rfl (by rfl)) (fun _ hs => yLoadR Tryd.isAgg9 hs (by rfl) (by repeat first | exact .here | apply Pick.there) (by rfl)) (hs) rfl (fun _ _ _ h => h) fun a ha => ?_ | refine dT 29 rfl (by kernel_rfl) ha (won1 rfl rfl (by rfl)) (fun _ hs => yLoadR0 Tryd.isAgg9 hs (by rfl) (by repeat first | exact .here | apply Pick.there) (by rfl)) (hs) rfl (fun _ _ _ h => h) fun a ha => ?_
            refine dP 30 rfl (by kernel_rfl) ha (won1 rfl rfl (by rfl)) (fun _ => yMove (by rfl)) rfl (fun _ _ _ h => h) fun a ha => ?_
            refine dP 31 rfl (by kernel_rfl) ha (won1 rfl rfl (by rfl)) (fun _ => yMove (by rfl)) rfl (fun _ _ _ h => h) fun a ha => ?_
            refine dP 32 rfl (by kernel_rfl) ha (won1 rfl rfl (by rfl)) (fun _ => yIndexA Tryd.runUnderlying41 Tryd.sizeOf91 (by rfl) (by rfl) (by omega) (by omega)) rfl (fun _ _ _ h => h) fun a ha => ?_
            refine dP 33 rfl (by kernel_rfl) ha (won1 rfl rfl (by rfl)) (fun _ => yFieldA Tryd.runUnderlying91 rfl Tryd.sizeOf9 rfl (by rfl)) rfl (fun _ _ _ h => h) fun a ha => ?_
            first | refine dT 34 rfl (by kernel_rfl) ha (won1 rfl rfl (by rfl)) (fun _ hs => yLoadB Tryd.isAgg9 hs (by rfl) (by repeat first | exact .here | apply Pick.there) (by rfl)) (hs) rfl (fun _ _ _ h => h) fun a ha => ?_ | refine dT 34 rfl (by kernel_rfl) ha (won1 rfl rfl (by rfl)) (fun _ hs => yLoadR Tryd.isAgg9 hs (by rfl) (by repeat first | exact .here | apply Pick.there) (by rfl)) (hs) rfl (fun _ _ _ h => h) fun a ha => ?_ | refine dT 34 rfl (by kernel_rfl) ha (won1 rfl rfl (by rfl)) (fun _ hs => yLoadR0 Tryd.isAgg9 hs (by rfl) (by repeat first | exact .here | apply Pick.there) (by rfl)) (hs) rfl (fun _ _ _ h => h) fun a ha => ?_
            refine dP 35 rfl (by kernel_rfl) ha (won1 rfl rfl (by rfl)) (fun _ => yStrNeq (by rfl) (by rfl)) rfl (fun _ _ _ h => h) fun a ha => ?_
            first | refine dP 36 rfl (by kernel_rfl) ha won0 (fun _ => yPickT (by rfl) (by rfl)) rfl (fun _ _ _ h => h) fun a ha => ?_ | refine dP 36 rfl (by kernel_rfl) ha won0 (fun _ => yPickF (by rfl) (by rfl)) rfl (fun _ _ _ h => h) fun a ha => ?_ | refine dP 36 rfl (by kernel_rfl) ha won0 (fun _ => yPick (by rfl) (by rfl) (by rfl)) rfl (fun _ _ _ h => h) fun a ha => ?_
            refine dZ (by kernel_rfl) ?_
            refine hK9 _ _ ?_
            first | refine cNDec ha (by rfl) (fun hc53 => ?_) (fun hc53 => ?_) | refine cDec ha (by rfl) (fun hc53 => ?_) (fun hc53 => ?_) | refine cSplit ha (by rfl) (fun hc53 => ?_) (fun hc53 => ?_)
            · exact absurd rfl hc53
            · refine wp_skip ?_
              refine hK8 _ _ ?_
              refine wp_region_lit ?_
              refine pY ha (yMove (by rfl)) rfl fun a ha => ?_
              first | refine pY ha (yAddN (by rfl) (by rfl) ⟨by omega, by omega⟩) rfl fun a ha => ?_ | refine pY ha (yAdd (by rfl) (by rfl)) rfl fun a ha => ?_
              refine pY ha (yAssign (by rfl)) rfl fun a ha => ?_
              refine pZ ?_
              exact ⟨i + 1, ⟨by omega, has3 ha (by rfl) (by rfl) (by rfl), hs.drop.drop⟩, by omega⟩
          · simp at hg24
        · simp at hg11
      · refine wp_exit ?_
        refine hK4 _ _ ?_
        refine wp_seq_k fun K10 hK10 => ?_
        refine wp_region_lit ?_
        refine pY ha (yAssign (by rfl)) rfl fun a ha => ?_
        refine pZ ?_
        refine hK10 _ _ ?_
        refine wp_ret ?_
        show bodyPost Tryd.prog Tryd.f21 _ .ret _ _
        refine ret1 rfl ha (by rfl) ?_
        exact ⟨rfl, hs.drop.drop⟩
theorem SameAct_c {A A' : Option Addr} {n n' c c' : Nat} {x : Actn} (hs : Sep W w cs) (hk : Pick cs (.rd kComp (.slice A n c) x.ops) r) (hk' : Pick cs (.rd kComp (.slice A' n' c') x.ops) r') :
    Calls P 59 #[.agg [.int .i64 x.kind, .int .i64 x.id, .int .i64 x.parent, .string x.name, .bool x.dir, .slice A n c].toArray, .agg [.int .i64 x.kind, .int .i64 x.id, .int .i64 x.parent, .string x.name, .bool x.dir, .slice A' n' c'].toArray] w (Rt fun v w' => v = .bool true ∧ Sep W w' cs) := by
  refine enter Tryd.func59 Tryd.ntmps59 rfl rfl fun a (ha : Has a 45 [(0, _), (1, _)]) => ?_
  refine wp_seq_k fun K1 hK1 => ?_
  refine wp_region_lit ?_
  refine pBox (es := _) ha (by rfl) (by rfl) hs rfl fun b w hs a ha => ?_
  refine pBox (es := _) ha (by rfl) (by rfl) hs rfl fun b w hs a ha => ?_
  refine pY ha (yAssign (by rfl)) rfl fun a ha => ?_
  refine pZ ?_
  refine hK1 _ _ ?_
  refine wp_seq_k fun K2 hK2 => ?_
  refine wp_region_lit ?_
  refine pY ha (yFieldA Tryd.runUnderlying63 rfl Tryd.sizeOf3 rfl (by rfl)) rfl fun a ha => ?_
  first | refine pY ha (yLoadB Tryd.isAgg3 hs (by rfl) (by repeat first | exact .here | apply Pick.there) (by rfl)) rfl fun a ha => ?_ | refine pY ha (yLoadR Tryd.isAgg3 hs (by rfl) (by repeat first | exact .here | apply Pick.there) (by rfl)) rfl fun a ha => ?_ | refine pY ha (yLoadR0 Tryd.isAgg3 hs (by rfl) (by repeat first | exact .here | apply Pick.there) (by rfl)) rfl fun a ha => ?_
  refine pY ha (yFieldA Tryd.runUnderlying63 rfl Tryd.sizeOf3 rfl (by rfl)) rfl fun a ha => ?_
  first | refine pY ha (yLoadB Tryd.isAgg3 hs (by rfl) (by repeat first | exact .here | apply Pick.there) (by rfl)) rfl fun a ha => ?_ | refine pY ha (yLoadR Tryd.isAgg3 hs (by rfl) (by repeat first | exact .here | apply Pick.there) (by rfl)) rfl fun a ha => ?_ | refine pY ha (yLoadR0 Tryd.isAgg3 hs (by rfl) (by repeat first | exact .here | apply Pick.there) (by rfl)) rfl fun a ha => ?_
  refine pY ha (yEql (by rfl) (by rfl)) rfl fun a ha => ?_
  refine pY ha (yMove (by rfl)) rfl fun a ha => ?_
  refine gDec (t := 10) ha (by rfl) (fun hg5 hp5 => ?_) (fun hg5 hp5 => ?_)
  · exact absurd rfl hp5
  · rw [hg5] at ha
    refine gOn ha rfl rfl (by rfl) ?_
    refine pY ha (yFieldA Tryd.runUnderlying63 rfl Tryd.sizeOf3 rfl (by rfl)) rfl fun a ha => ?_
    refine gOn ha rfl rfl (by rfl) ?_
    first | refine pY ha (yLoadB Tryd.isAgg3 hs (by rfl) (by repeat first | exact .here | apply Pick.there) (by rfl)) rfl fun a ha => ?_ | refine pY ha (yLoadR Tryd.isAgg3 hs (by rfl) (by repeat first | exact .here | apply Pick.there) (by rfl)) rfl fun a ha => ?_ | refine pY ha (yLoadR0 Tryd.isAgg3 hs (by rfl) (by repeat first | exact .here | apply Pick.there) (by rfl)) rfl fun a ha => ?_
    refine gOn ha rfl rfl (by rfl) ?_
    refine pY ha (yFieldA Tryd.runUnderlying63 rfl Tryd.sizeOf3 rfl (by rfl)) rfl fun a ha => ?_
    refine gOn ha rfl rfl (by rfl) ?_
    first | refine pY ha (yLoadB Tryd.isAgg3 hs (by rfl) (by repeat first | exact .here | apply Pick.there) (by rfl)) rfl fun a ha => ?_ | refine pY ha (yLoadR Tryd.isAgg3 hs (by rfl) (by repeat first | exact .here | apply Pick.there) (by rfl)) rfl fun a ha => ?_ | refine pY ha (yLoadR0 Tryd.isAgg3 hs (by rfl) (by repeat first | exact .here | apply Pick.there) (by rfl)) rfl fun a ha => ?_
    refine gOn ha rfl rfl (by rfl) ?_
    refine pY ha (yEql (by rfl) (by rfl)) rfl fun a ha => ?_
    first | refine pY ha (yPickT (by rfl) (by rfl)) rfl fun a ha => ?_ | refine pY ha (yPickF (by rfl) (by rfl)) rfl fun a ha => ?_ | refine pY ha (yPick (by rfl) (by rfl) (by rfl)) rfl fun a ha => ?_
    refine pY ha (yMove (by rfl)) rfl fun a ha => ?_
    refine gSplit (t := 17) ha (by rfl) (fun hg12 => ?_) (fun hg12 => ?_)
    · simp at hg12
    · rw [hg12] at ha
      refine gOn ha rfl rfl (by rfl) ?_
      refine pY ha (yFieldA Tryd.runUnderlying63 rfl Tryd.sizeOf3 rfl (by rfl)) rfl fun a ha => ?_
      refine gOn ha rfl rfl (by rfl) ?_
      first | refine pY ha (yLoadB Tryd.isAgg3 hs (by rfl) (by repeat first | exact .here | apply Pick.there) (by rfl)) rfl fun a ha => ?_ | refine pY ha (yLoadR Tryd.isAgg3 hs (by rfl) (by repeat first | exact .here | apply Pick.there) (by rfl)) rfl fun a ha => ?_ | refine pY ha (yLoadR0 Tryd.isAgg3 hs (by rfl) (by repeat first | exact .here | apply Pick.there) (by rfl)) rfl fun a ha => ?_
      refine gOn ha rfl rfl (by rfl) ?_
      refine pY ha (yFieldA Tryd.runUnderlying63 rfl Tryd.sizeOf3 rfl (by rfl)) rfl fun a ha => ?_
      refine gOn ha rfl rfl (by rfl) ?_
      first | refine pY ha (yLoadB Tryd.isAgg3 hs (by rfl) (by repeat first | exact .here | apply Pick.there) (by rfl)) rfl fun a ha => ?_ | refine pY ha (yLoadR Tryd.isAgg3 hs (by rfl) (by repeat first | exact .here | apply Pick.there) (by rfl)) rfl fun a ha => ?_ | refine pY ha (yLoadR0 Tryd.isAgg3 hs (by rfl) (by repeat first | exact .here | apply Pick.there) (by rfl)) rfl fun a ha => ?_
      refine gOn ha rfl rfl (by rfl) ?_
      refine pY ha (yEql (by rfl) (by rfl)) rfl fun a ha => ?_
      first | refine pY ha (yPickT (by rfl) (by rfl)) rfl fun a ha => ?_ | refine pY ha (yPickF (by rfl) (by rfl)) rfl fun a ha => ?_ | refine pY ha (yPick (by rfl) (by rfl) (by rfl)) rfl fun a ha => ?_
      refine pY ha (yMove (by rfl)) rfl fun a ha => ?_
      refine gSplit (t := 24) ha (by rfl) (fun hg19 => ?_) (fun hg19 => ?_)
      · simp at hg19
      · rw [hg19] at ha
        refine gOn ha rfl rfl (by rfl) ?_
        refine pY ha (yFieldA Tryd.runUnderlying63 rfl Tryd.sizeOf9 rfl (by rfl)) rfl fun a ha => ?_
        refine gOn ha rfl rfl (by rfl) ?_
        first | refine pY ha (yLoadB Tryd.isAgg9 hs (by rfl) (by repeat first | exact .here | apply Pick.there) (by rfl)) rfl fun a ha => ?_ | refine pY ha (yLoadR Tryd.isAgg9 hs (by rfl) (by repeat first | exact .here | apply Pick.there) (by rfl)) rfl fun a ha => ?_ | refine pY ha (yLoadR0 Tryd.isAgg9 hs (by rfl) (by repeat first | exact .here | apply Pick.there) (by rfl)) rfl fun a ha => ?_
        refine gOn ha rfl rfl (by rfl) ?_
        refine pY ha (yFieldA Tryd.runUnderlying63 rfl Tryd.sizeOf9 rfl (by rfl)) rfl fun a ha => ?_
        refine gOn ha rfl rfl (by rfl) ?_
        first | refine pY ha (yLoadB Tryd.isAgg9 hs (by rfl) (by repeat first | exact .here | apply Pick.there) (by rfl)) rfl fun a ha => ?_ | refine pY ha (yLoadR Tryd.isAgg9 hs (by rfl) (by repeat first | exact .here | apply Pick.there) (by rfl)) rfl fun a ha => ?_ | refine pY ha (yLoadR0 Tryd.isAgg9 hs (by rfl) (by repeat first | exact .here | apply Pick.there) (by rfl)) rfl fun a ha => ?_
        refine gOn ha rfl rfl (by rfl) ?_
        refine pY ha (yStrEql (by rfl) (by rfl)) rfl fun a ha => ?_
        first | refine pY ha (yPickT (by rfl) (by rfl)) rfl fun a ha => ?_ | refine pY ha (yPickF (by rfl) (by rfl)) rfl fun a ha => ?_ | refine pY ha (yPick (by rfl) (by rfl) (by rfl)) rfl fun a ha => ?_
        refine pY ha (yMove (by rfl)) rfl fun a ha => ?_
        refine gSplit (t := 31) ha (by rfl) (fun hg26 => ?_) (fun hg26 => ?_)
        · simp at hg26
        · rw [hg26] at ha
          refine gOn ha rfl rfl (by rfl) ?_
          refine pY ha (yFieldA Tryd.runUnderlying63 rfl Tryd.sizeOf4 rfl (by rfl)) rfl fun a ha => ?_
          refine gOn ha rfl rfl (by rfl) ?_
          first | refine pY ha (yLoadB Tryd.isAgg4 hs (by rfl) (by repeat first | exact .here | apply Pick.there) (by rfl)) rfl fun a ha => ?_ | refine pY ha (yLoadR Tryd.isAgg4 hs (by rfl) (by repeat first | exact .here | apply Pick.there) (by rfl)) rfl fun a ha => ?_ | refine pY ha (yLoadR0 Tryd.isAgg4 hs (by rfl) (by repeat first | exact .here | apply Pick.there) (by rfl)) rfl fun a ha => ?_
          refine gOn ha rfl rfl (by rfl) ?_
          refine pY ha (yFieldA Tryd.runUnderlying63 rfl Tryd.sizeOf4 rfl (by rfl)) rfl fun a ha => ?_
          refine gOn ha rfl rfl (by rfl) ?_
          first | refine pY ha (yLoadB Tryd.isAgg4 hs (by rfl) (by repeat first | exact .here | apply Pick.there) (by rfl)) rfl fun a ha => ?_ | refine pY ha (yLoadR Tryd.isAgg4 hs (by rfl) (by repeat first | exact .here | apply Pick.there) (by rfl)) rfl fun a ha => ?_ | refine pY ha (yLoadR0 Tryd.isAgg4 hs (by rfl) (by repeat first | exact .here | apply Pick.there) (by rfl)) rfl fun a ha => ?_
          refine gOn ha rfl rfl (by rfl) ?_
          refine pY ha (yBoolEql Tryd.underlying4 (by rfl) (by rfl)) rfl fun a ha => ?_
          first | refine pY ha (yPickT (by rfl) (by rfl)) rfl fun a ha => ?_ | refine pY ha (yPickF (by rfl) (by rfl)) rfl fun a ha => ?_ | refine pY ha (yPick (by rfl) (by rfl) (by rfl)) rfl fun a ha => ?_
          refine pY ha (yMove (by rfl)) rfl fun a ha => ?_
          refine gSplit (t := 38) ha (by rfl) (fun hg33 => ?_) (fun hg33 => ?_)
          · simp at hg33
          · rw [hg33] at ha
            refine gOn ha rfl rfl (by rfl) ?_
            refine pY ha (yFieldA Tryd.runUnderlying63 rfl Tryd.sizeOf41 rfl (by rfl)) rfl fun a ha => ?_
            refine gOn ha rfl rfl (by rfl) ?_
            first | refine pY ha (yLoadB Tryd.isAgg41 hs (by rfl) (by repeat first | exact .here | apply Pick.there) (by rfl)) rfl fun a ha => ?_ | refine pY ha (yLoadR Tryd.isAgg41 hs (by rfl) (by repeat first | exact .here | apply Pick.there) (by rfl)) rfl fun a ha => ?_ | refine pY ha (yLoadR0 Tryd.isAgg41 hs (by rfl) (by repeat first | exact .here | apply Pick.there) (by rfl)) rfl fun a ha => ?_
            refine gOn ha rfl rfl (by rfl) ?_
            refine pY ha (yFieldA Tryd.runUnderlying63 rfl Tryd.sizeOf41 rfl (by rfl)) rfl fun a ha => ?_
            refine gOn ha rfl rfl (by rfl) ?_
            first | refine pY ha (yLoadB Tryd.isAgg41 hs (by rfl) (by repeat first | exact .here | apply Pick.there) (by rfl)) rfl fun a ha => ?_ | refine pY ha (yLoadR Tryd.isAgg41 hs (by rfl) (by repeat first | exact .here | apply Pick.there) (by rfl)) rfl fun a ha => ?_ | refine pY ha (yLoadR0 Tryd.isAgg41 hs (by rfl) (by repeat first | exact .here | apply Pick.there) (by rfl)) rfl fun a ha => ?_
            refine gOn ha rfl rfl (by rfl) ?_
            refine pC ha (nCall Tryd.call21 (by rfl)) rfl (Same_c hs (.there (.there hk)) (.there (.there hk'))) ?_
            rintro v w ⟨rfl, hs⟩ a ha
            first | refine pY ha (yPickT (by rfl) (by rfl)) rfl fun a ha => ?_ | refine pY ha (yPickF (by rfl) (by rfl)) rfl fun a ha => ?_ | refine pY ha (yPick (by rfl) (by rfl) (by rfl)) rfl fun a ha => ?_
            refine pY ha (yAssign (by rfl)) rfl fun a ha => ?_
            refine pZ ?_
            refine hK2 _ _ ?_
            refine wp_ret ?_
            show bodyPost Tryd.prog Tryd.f59 _ .ret _ _
            refine ret1 rfl ha (by rfl) ?_
            exact ⟨rfl, hs.drop.drop⟩
theorem SameActs_c {A A' : Option Addr} {n n' c c' : Nat} {xs : List Actn} (hs : Sep W w cs) (hk : Pick cs (.rd kActn (.slice A n c) xs) r) (hk' : Pick cs (.rd kActn (.slice A' n' c') xs) r') :
    Calls P 24 #[.slice A n c, .slice A' n' c'] w (Rt fun v w' => v = .bool true ∧ Sep W w' cs) := by
  obtain ⟨rfl, hl⟩ := hs.rd_shape hk
  obtain ⟨rfl, hl'⟩ := hs.rd_shape hk'
  unfold maxLen at hl
  have hs := (hs.cpR hk).cpR (.there hk')
  refine enter Tryd.func24 Tryd.ntmps24 rfl rfl fun a (ha : Has a 27 [(0, _), (1, _)]) => ?_
  refine wp_seq_k fun K1 hK1 => ?_
  refine wp_region_lit ?_
  refine pY ha (yAssign (by rfl)) rfl fun a ha => ?_
  refine pZ ?_
  refine hK1 _ _ ?_
  refine wp_seq_k fun K2 hK2 => ?_
  refine wp_seq_k fun K3 hK3 => ?_
  refine wp_region_lit ?_
  refine pY ha (yMove (by rfl)) rfl fun a ha => ?_
  refine pY ha (yLenS Tryd.runUnderlying44 (by rfl)) rfl fun a ha => ?_
  refine pY ha (yMove (by rfl)) rfl fun a ha => ?_
  refine pY ha (yLenS Tryd.runUnderlying44 (by rfl)) rfl fun a ha => ?_
  refine pY ha (yNeq (by rfl) (by rfl)) rfl fun a ha => ?_
  refine pZ ?_
  refine hK3 _ _ ?_
  first | refine cNDec ha (by rfl) (fun hc10 => ?_) (fun hc10 => ?_) | refine cDec ha (by rfl) (fun hc10 => ?_) (fun hc10 => ?_) | refine cSplit ha (by rfl) (fun hc10 => ?_) (fun hc10 => ?_)
  · exact absurd rfl hc10
  · refine wp_skip ?_
    refine hK2 _ _ ?_
    refine wp_seq_k fun K4 hK4 => ?_
    refine wp_seq_k fun K5 hK5 => ?_
    refine wp_region_lit ?_
    refine pY ha (yAssign (by rfl)) rfl fun a ha => ?_
    refine pZ ?_
    refine hK5 _ _ ?_
    refine wp_block ?_
    refine loopI (ι := Nat) (fun i a w => i ≤ xs.length ∧ Has a 27 [(0, .slice A xs.length c), (1, .slice A' xs.length c'), (5, .int .i64 i)] ∧ Sep W w (.rd kActn (.slice A' xs.length c') xs :: .rd kActn (.slice A xs.length c) xs :: cs)) (fun i => xs.length - i) (0) ?_ ?_
    · exact ⟨Nat.zero_le _, has3 ha (by rfl) (by rfl) (by rfl), hs⟩
    · rintro i a w ⟨h1, ha, hs⟩
      refine wp_seq_k fun K6 hK6 => ?_
      refine wp_seq_k fun K7 hK7 => ?_
      refine wp_region_lit ?_
      refine pY ha (yMove (by rfl)) rfl fun a ha => ?_
      refine pY ha (yMove (by rfl)) rfl fun a ha => ?_
      refine pY ha (yLenS Tryd.runUnderlying44 (by rfl)) rfl fun a ha => ?_
      refine pY ha (yLss (by rfl) (by rfl)) rfl fun a ha => ?_
      refine pZ ?_
      refine hK7 _ _ ?_
      first | refine cDec ha (by rfl) (fun hc14 => ?_) (fun hc14 => ?_) | refine cSplit ha (by rfl) (fun hc14 => ?_) (fun hc14 => ?_)
      · refine wp_skip ?_
        refine hK6 _ _ ?_
        refine wp_seq_k fun K8 hK8 => ?_
        refine wp_block ?_
        refine wp_seq_k fun K9 hK9 => ?_
        obtain ⟨x, hx⟩ : ∃ x, xs[i]? = some x := ⟨_, List.getElem?_eq_getElem (by omega)⟩
        obtain ⟨b, off, B, m, d, rfl, hs⟩ := hs.rd_actn .here hx
        obtain ⟨b', off', B', m', d', rfl, hs⟩ := hs.rd_actn (.there (.there (.there .here))) hx
        refine dStart (fun w => Sep W w _) [8] (by kernel_rfl) rfl (hs.drew) ?_
        have hs := Sep.drew hs
        generalize World.drew _ = w at hs ⊢
        refine dP 0 rfl (by kernel_rfl) ha won0 (fun _ => yMove (by rfl)) rfl (fun _ _ _ h => h) fun a ha => ?_
        refine dP 1 rfl (by kernel_rfl) ha won0 (fun _ => yMove (by rfl)) rfl (fun _ _ _ h => h) fun a ha => ?_
        refine dP 2 rfl (by kernel_rfl) ha won0 (fun _ => yIndexA Tryd.runUnderlying44 Tryd.sizeOf63 (by rfl) (by rfl) (by omega) (by omega)) rfl (fun _ _ _ h => h) fun a ha => ?_
        first | refine dT 3 rfl (by kernel_rfl) ha won0 (fun _ hs => yLoadRA Tryd.isAgg63 Tryd.sizeOf63 hs (by rfl) (by repeat first | exact .here | apply Pick.there) (by rfl)) (hs) rfl (fun _ _ _ h => h) fun a ha => ?_ | refine dT 3 rfl (by kernel_rfl) ha won0 (fun _ hs => yLoadBA Tryd.isAgg63 Tryd.sizeOf63 hs (by rfl) (by repeat first | exact .here | apply Pick.there) (by rfl)) (hs) rfl (fun _ _ _ h => h) fun a ha => ?_
        refine dP 4 rfl (by kernel_rfl) ha won0 (fun _ => yMove (by rfl)) rfl (fun _ _ _ h => h) fun a ha => ?_
        refine dP 5 rfl (by kernel_rfl) ha won0 (fun _ => yMove (by rfl)) rfl (fun _ _ _ h => h) fun a ha => ?_
        refine dP 6 rfl (by kernel_rfl) ha won0 (fun _ => yIndexA Tryd.runUnderlying44 Tryd.sizeOf63 (by rfl) (by rfl) (by omega) (by omega)) rfl (fun _ _ _ h => h) fun a ha => ?_
        first | refine dT 7 rfl (by kernel_rfl) ha won0 (fun _ hs => yLoadRA Tryd.isAgg63 Tryd.sizeOf63 hs (by rfl) (by repeat first | exact .here | apply Pick.there) (by rfl)) (hs) rfl (fun _ _ _ h => h) fun a ha => ?_ | refine dT 7 rfl (by kernel_rfl) ha won0 (fun _ hs => yLoadBA Tryd.isAgg63 Tryd.sizeOf63 hs (by rfl) (by repeat first | exact .here | apply Pick.there) (by rfl)) (hs) rfl (fun _ _ _ h => h) fun a ha => ?_
        refine dCl 8 rfl (by kernel_rfl) rfl ha won0 (nCall Tryd.call59 (by rfl)) rfl (SameAct_c hs (.there .here) (.there (.there (.there .here)))) ?_
        rintro v w ⟨rfl, hs⟩ a ha
        refine dP 9 rfl (by kernel_rfl) ha won0 (fun _ => yNot (by rfl)) rfl (fun _ _ _ h => h) fun a ha => ?_
        refine dZ (by kernel_rfl) ?_
        refine hK9 _ _ ?_
        first | refine cNDec ha (by rfl) (fun hc26 => ?_) (fun hc26 => ?_) | refine cDec ha (by rfl) (fun hc26 => ?_) (fun hc26 => ?_) | refine cSplit ha (by rfl) (fun hc26 => ?_) (fun hc26 => ?_)
        · exact absurd hc26 (by simp)
        · refine wp_skip ?_
          refine hK8 _ _ ?_
          refine wp_region_lit ?_
          refine pY ha (yMove (by rfl)) rfl fun a ha => ?_
          first | refine pY ha (yAddN (by rfl) (by rfl) ⟨by omega, by omega⟩) rfl fun a ha => ?_ | refine pY ha (yAdd (by rfl) (by rfl)) rfl fun a ha => ?_
          refine pY ha (yAssign (by rfl)) rfl fun a ha => ?_
          refine pZ ?_
          exact ⟨i + 1, ⟨by omega, has3 ha (by rfl) (by rfl) (by rfl), hs.drop.drop.drop.drop⟩, by omega⟩
      · refine wp_exit ?_
        refine hK4 _ _ ?_
        refine wp_seq_k fun K10 hK10 => ?_
        refine wp_region_lit ?_
        refine pY ha (yAssign (by rfl)) rfl fun a ha => ?_
        refine pZ ?_
        refine hK10 _ _ ?_
        refine wp_ret ?_
        show bodyPost Tryd.prog Tryd.f24 _ .ret _ _
        refine ret1 rfl ha (by rfl) ?_
        exact ⟨rfl, hs.drop.drop⟩
theorem yNodNeq {l : List (Nat × Value)} {a b : Operand} {T U' : TypeId} {x : Nod} (hx : ev l a = some (.agg [.int .i64 x.id, .int .i64 x.parent, .string x.name, .bool x.dir, .string x.text].toArray)) (hy : ev l b = some (.agg [.int .i64 x.id, .int .i64 x.parent, .string x.name, .bool x.dir, .string x.text].toArray)) :
    Yl P w l (.binOp .neq 65 a b U') T (.bool false) :=
  yBin hx hy (fun _ _ => run_eqGuard_agg w _ _ _ _ _ _ (by kernel_rfl)) (nod_neq _ _ _ _ _)
theorem SameNodes_c {A A' : Option Addr} {n n' c c' : Nat} {xs : List Nod} (hs : Sep W w cs) (hk : Pick cs (.rd kNod (.slice A n c) xs) r) (hk' : Pick cs (.rd kNod (.slice A' n' c') xs) r') :
    Calls P 27 #[.slice A n c, .slice A' n' c'] w (Rt fun v w' => v = .bool true ∧ Sep W w' cs) := by
  obtain ⟨rfl, hl⟩ := hs.rd_shape hk
  obtain ⟨rfl, hl'⟩ := hs.rd_shape hk'
  unfold maxLen at hl
  have hs := (hs.cpR hk).cpR (.there hk')
  refine enter Tryd.func27 Tryd.ntmps27 rfl rfl fun a (ha : Has a 26 [(0, _), (1, _)]) => ?_
  refine wp_seq_k fun K1 hK1 => ?_
  refine wp_region_lit ?_
  refine pY ha (yAssign (by rfl)) rfl fun a ha => ?_
  refine pZ ?_
  refine hK1 _ _ ?_
  refine wp_seq_k fun K2 hK2 => ?_
  refine wp_seq_k fun K3 hK3 => ?_
  refine wp_region_lit ?_
  refine pY ha (yMove (by rfl)) rfl fun a ha => ?_
  refine pY ha (yLenS Tryd.runUnderlying47 (by rfl)) rfl fun a ha => ?_
  refine pY ha (yMove (by rfl)) rfl fun a ha => ?_
  refine pY ha (yLenS Tryd.runUnderlying47 (by rfl)) rfl fun a ha => ?_
  refine pY ha (yNeq (by rfl) (by rfl)) rfl fun a ha => ?_
  refine pZ ?_
  refine hK3 _ _ ?_
  first | refine cNDec ha (by rfl) (fun hc10 => ?_) (fun hc10 => ?_) | refine cDec ha (by rfl) (fun hc10 => ?_) (fun hc10 => ?_) | refine cSplit ha (by rfl) (fun hc10 => ?_) (fun hc10 => ?_)
  · exact absurd rfl hc10
  · refine wp_skip ?_
    refine hK2 _ _ ?_
    refine wp_seq_k fun K4 hK4 => ?_
    refine wp_seq_k fun K5 hK5 => ?_
    refine wp_region_lit ?_
    refine pY ha (yAssign (by rfl)) rfl fun a ha => ?_
    refine pZ ?_
    refine hK5 _ _ ?_
    refine wp_block ?_
    refine loopI (ι := Nat) (fun i a w => i ≤ xs.length ∧ Has a 26 [(0, .slice A xs.length c), (1, .slice A' xs.length c'), (5, .int .i64 i)] ∧ Sep W w (.rd kNod (.slice A' xs.length c') xs :: .rd kNod (.slice A xs.length c) xs :: cs)) (fun i => xs.length - i) (0) ?_ ?_
    · exact ⟨Nat.zero_le _, has3 ha (by rfl) (by rfl) (by rfl), hs⟩
    · rintro i a w ⟨h1, ha, hs⟩
      refine wp_seq_k fun K6 hK6 => ?_
      refine wp_seq_k fun K7 hK7 => ?_
      refine wp_region_lit ?_
      refine pY ha (yMove (by rfl)) rfl fun a ha => ?_
      refine pY ha (yMove (by rfl)) rfl fun a ha => ?_
      refine pY ha (yLenS Tryd.runUnderlying47 (by rfl)) rfl fun a ha => ?_
      refine pY ha (yLss (by rfl) (by rfl)) rfl fun a ha => ?_
      refine pZ ?_
      refine hK7 _ _ ?_
      first | refine cDec ha (by rfl) (fun hc14 => ?_) (fun hc14 => ?_) | refine cSplit ha (by rfl) (fun hc14 => ?_) (fun hc14 => ?_)
      · refine wp_skip ?_
        refine hK6 _ _ ?_
        refine wp_seq_k fun K8 hK8 => ?_
        refine wp_block ?_
        refine wp_seq_k fun K9 hK9 => ?_
        obtain ⟨x, hx⟩ : ∃ x, xs[i]? = some x := ⟨_, List.getElem?_eq_getElem (by omega)⟩
        obtain ⟨b, off, rfl, hs⟩ := hs.rd_nod .here hx
        obtain ⟨b', off', rfl, hs⟩ := hs.rd_nod (.there (.there .here)) hx
        refine dStart (fun w => Sep W w _) [] (by kernel_rfl) rfl (hs.drew) ?_
        have hs := Sep.drew hs
        generalize World.drew _ = w at hs ⊢
        refine dP 0 rfl (by kernel_rfl) ha won0 (fun _ => yMove (by rfl)) rfl (fun _ _ _ h => h) fun a ha => ?_
        refine dP 1 rfl (by kernel_rfl) ha won0 (fun _ => yMove (by rfl)) rfl (fun _ _ _ h => h) fun a ha => ?_
        refine dP 2 rfl (by kernel_rfl) ha won0 (fun _ => yIndexA Tryd.runUnderlying47 Tryd.sizeOf65 (by rfl) (by rfl) (by omega) (by omega)) rfl (fun _ _ _ h => h) fun a ha => ?_
        first | refine dT 3 rfl (by kernel_rfl) ha won0 (fun _ hs => yLoadRA Tryd.isAgg65 Tryd.sizeOf65 hs (by rfl) (by repeat first | exact .here | apply Pick.there) (by rfl)) (hs) rfl (fun _ _ _ h => h) fun a ha => ?_ | refine dT 3 rfl (by kernel_rfl) ha won0 (fun _ hs => yLoadBA Tryd.isAgg65 Tryd.sizeOf65 hs (by rfl) (by repeat first | exact .here | apply Pick.there) (by rfl)) (hs) rfl (fun _ _ _ h => h) fun a ha => ?_
        refine dP 4 rfl (by kernel_rfl) ha won0 (fun _ => yMove (by rfl)) rfl (fun _ _ _ h => h) fun a ha => ?_
        refine dP 5 rfl (by kernel_rfl) ha won0 (fun _ => yMove (by rfl)) rfl (fun _ _ _ h => h) fun a ha => ?_
        refine dP 6 rfl (by kernel_rfl) ha won0 (fun _ => yIndexA Tryd.runUnderlying47 Tryd.sizeOf65 (by rfl) (by rfl) (by omega) (by omega)) rfl (fun _ _ _ h => h) fun a ha => ?_
        first | refine dT 7 rfl (by kernel_rfl) ha won0 (fun _ hs => yLoadRA Tryd.isAgg65 Tryd.sizeOf65 hs (by rfl) (by repeat first | exact .here | apply Pick.there) (by rfl)) (hs) rfl (fun _ _ _ h => h) fun a ha => ?_ | refine dT 7 rfl (by kernel_rfl) ha won0 (fun _ hs => yLoadBA Tryd.isAgg65 Tryd.sizeOf65 hs (by rfl) (by repeat first | exact .here | apply Pick.there) (by rfl)) (hs) rfl (fun _ _ _ h => h) fun a ha => ?_
        refine dP 8 rfl (by kernel_rfl) ha won0 (fun _ => yNodNeq (by rfl) (by rfl)) rfl (fun _ _ _ h => h) fun a ha => ?_
        refine dZ (by kernel_rfl) ?_
        refine hK9 _ _ ?_
        refine cFalse ha (by rfl) ?_
        refine wp_skip ?_
        refine hK8 _ _ ?_
        refine wp_region_lit ?_
        refine pY ha (yMove (by rfl)) rfl fun a ha => ?_
        first | refine pY ha (yAddN (by rfl) (by rfl) ⟨by omega, by omega⟩) rfl fun a ha => ?_ | refine pY ha (yAdd (by rfl) (by rfl)) rfl fun a ha => ?_
        refine pY ha (yAssign (by rfl)) rfl fun a ha => ?_
        refine pZ ?_
        exact ⟨i + 1, ⟨by omega, has3 ha (by rfl) (by rfl) (by rfl), hs.drop.drop⟩, by omega⟩
      · refine wp_exit ?_
        refine hK4 _ _ ?_
        refine wp_seq_k fun K10 hK10 => ?_
        refine wp_region_lit ?_
        refine pY ha (yAssign (by rfl)) rfl fun a ha => ?_
        refine pZ ?_
        refine hK10 _ _ ?_
        refine wp_ret ?_
        show bodyPost Tryd.prog Tryd.f27 _ .ret _ _
        refine ret1 rfl ha (by rfl) ?_
        exact ⟨rfl, hs.drop.drop⟩
/-- A place within n. -/
def round (k n : Int) : Int := if k.tmod n < 0 then k.tmod n + n else k.tmod n
theorem Round_c (k n : Int) (hn : 0 < n) (hn1 : n ≤ 1099511627776) (hk1 : -9223372036854775808 ≤ k ∧ k ≤ 9223372036854775807) (hs : Sep W w cs) : Calls P 14 #[.int .i64 k, .int .i64 n] w (Rt fun v w' => v = .int .i64 (k % n) ∧ Sep W w' cs) := by
  have h0 : n ≠ 0 := by omega
  have hm := Int.tmod_lt_of_pos k hn
  have hm2 := neg_lt_tmod k hn
  have hr : k % n = if k.tmod n < 0 then k.tmod n + n else k.tmod n := by
    have h1 := Int.emod_nonneg k h0
    have h2 := Int.emod_lt_of_pos k hn
    rcases Int.le_total 0 k with hk | hk
    · rw [Int.tmod_eq_emod_of_nonneg hk, if_neg (by omega)]
    · have h3 := Int.tmod_eq_emod (a := k) (b := n)
      split at h3 <;> (rw [h3]; split <;> omega)
  refine enter Tryd.func14 Tryd.ntmps14 rfl rfl fun a (ha : Has a 14 [(0, _), (1, _)]) => ?_
  refine wp_seq_k fun K1 hK1 => ?_
  refine wp_region_lit ?_
  refine pY ha (yAssign (by rfl)) rfl fun a ha => ?_
  refine pZ ?_
  refine hK1 _ _ ?_
  refine wp_seq_k fun K2 hK2 => ?_
  refine wp_region_lit ?_
  refine pY ha (yMove (by rfl)) rfl fun a ha => ?_
  refine pY ha (yMove (by rfl)) rfl fun a ha => ?_
  refine pY ha (yRemT (by rfl) (by rfl) hn hn1) rfl fun a ha => ?_
  refine pY ha (yAssign (by rfl)) rfl fun a ha => ?_
  refine pZ ?_
  refine hK2 _ _ ?_
  refine wp_seq_k fun K3 hK3 => ?_
  refine wp_seq_k fun K4 hK4 => ?_
  refine wp_region_lit ?_
  refine pY ha (yMove (by rfl)) rfl fun a ha => ?_
  refine pY ha (yLss (by rfl) (by rfl)) rfl fun a ha => ?_
  refine pZ ?_
  refine hK4 _ _ ?_
  first | refine cDec ha (by rfl) (fun hc9 => ?_) (fun hc9 => ?_) | refine cSplit ha (by rfl) (fun hc9 => ?_) (fun hc9 => ?_)
  · refine wp_region_lit ?_
    refine pY ha (yMove (by rfl)) rfl fun a ha => ?_
    refine pY ha (yMove (by rfl)) rfl fun a ha => ?_
    first | refine pY ha (yAddN (by rfl) (by rfl) ⟨by omega, by omega⟩) rfl fun a ha => ?_ | refine pY ha (yAdd (by rfl) (by rfl)) rfl fun a ha => ?_
    refine pY ha (yAssign (by rfl)) rfl fun a ha => ?_
    refine pZ ?_
    refine hK3 _ _ ?_
    refine wp_seq_k fun K5 hK5 => ?_
    refine wp_region_lit ?_
    refine pY ha (yMove (by rfl)) rfl fun a ha => ?_
    refine pY ha (yAssign (by rfl)) rfl fun a ha => ?_
    refine pZ ?_
    refine hK5 _ _ ?_
    refine wp_ret ?_
    show bodyPost Tryd.prog Tryd.f14 _ .ret _ _
    refine ret1 rfl ha (by rfl) ?_
    rw [hr, if_pos hc9]; exact ⟨rfl, hs⟩
  · refine wp_skip ?_
    refine hK3 _ _ ?_
    refine wp_seq_k fun K6 hK6 => ?_
    refine wp_region_lit ?_
    refine pY ha (yMove (by rfl)) rfl fun a ha => ?_
    refine pY ha (yAssign (by rfl)) rfl fun a ha => ?_
    refine pZ ?_
    refine hK6 _ _ ?_
    refine wp_ret ?_
    show bodyPost Tryd.prog Tryd.f14 _ .ret _ _
    refine ret1 rfl ha (by rfl) ?_
    rw [hr, if_neg hc9]; exact ⟨rfl, hs⟩
end
end Go.Proofs.YtnkcmpmcmkljnaaDoor
