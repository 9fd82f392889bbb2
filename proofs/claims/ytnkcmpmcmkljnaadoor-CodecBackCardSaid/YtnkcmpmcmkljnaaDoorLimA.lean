/- Numbers and texts there and back; the writer's texts; the texts of small letters. -/
import Derived.Test.YtnkcmpmcmkljnaaDoorGive
import Derived.Laws.MakeOwn
set_option linter.unusedVariables false
set_option linter.unusedSimpArgs false
namespace Go.Proofs.YtnkcmpmcmkljnaaDoor
open Go.RowKit Go.Lib
/-! A number that was written is read. -/
theorem get_tail : ∀ (m : Nat) (rest : List UInt8), m ≤ 8589934592 → getR 0 ((tailD m).reverse ++ rest) 0 = getR m rest (tailD m).length := by
  intro m
  induction m using Nat.strongRecOn with
  | _ m ih =>
    intro rest hm
    rcases Nat.eq_zero_or_pos m with rfl | h
    · rw [tailD_zero]; rfl
    · rw [tailD_pos h, List.reverse_cons, List.append_assoc, ih (m / 128) (by omega) _ (by omega)]
      show getR _ (UInt8.ofNat (m % 128 + 128) :: rest) _ = _
      have hc : (UInt8.ofNat (m % 128 + 128)).toNat = m % 128 + 128 := by simp; omega
      have hz : (tailD (m / 128)).length = 0 → m / 128 = 0 := fun h0 => by
        rcases Nat.eq_zero_or_pos (m / 128) with h1 | h1
        · exact h1
        · rw [tailD_pos h1] at h0; simp at h0
      rw [getR, if_neg (by rw [hc]; intro h2; rcases h2 with ⟨h3, h4⟩ | h3 <;> first | (have := hz h3; omega) | omega), if_neg (by rw [hc]; omega), hc]
      congr 1
      omega
theorem get_put {n : Nat} (h : n ≤ 1099511627776) (rest : List UInt8) : getN (put n ++ rest) = some ((n : Int), (put n).length) := by
  have hp : put n = (tailD (n / 128)).reverse ++ [UInt8.ofNat (n % 128)] := by
    have := put_rev h
    rw [← List.reverse_inj, this]; simp
  rw [hp]
  unfold getN
  rw [List.append_assoc, get_tail _ _ (by omega)]
  have hc : (UInt8.ofNat (n % 128)).toNat = n % 128 := by simp; omega
  show getR _ (UInt8.ofNat (n % 128) :: rest) _ = _
  rw [getR, if_neg (by rw [hc]; omega), if_pos (by rw [hc]; omega), hc, if_pos (by simp [fits]; omega)]
  simp
  omega
theorem rNum_put {n : Nat} (h : n ≤ 1099511627776) (rest : List UInt8) : rNum (put n ++ rest, 0) = ((n : Int), (rest, 0)) := by
  simp only [rNum, get_put h]
  simp
theorem wNum_ok {n : Nat} (h : n ≤ 1099511627776) (st : Wt) : wNum st n = (st.1 ++ put n, st.2) := by
  simp only [wNum, Prod.mk.injEq, true_and]
  have : fits (n : Int) = true := by simp [fits]; omega
  simp [this]
/-! Small letters. -/
def blockL (size : Nat) (k : Int) : List UInt8 := (List.range size).map fun (i : Nat) => UInt8.ofNat ((97 + (k * 7 + (i : Int)) % 26).toNat)
theorem block_byte (k : Int) (i : Nat) : 97 ≤ (UInt8.ofNat ((97 + (k * 7 + (i : Int)) % 26).toNat)).toNat ∧ (UInt8.ofNat ((97 + (k * 7 + (i : Int)) % 26).toNat)).toNat ≤ 122 := by
  have h : 0 ≤ (k * 7 + i) % 26 ∧ (k * 7 + i) % 26 < 26 := ⟨Int.emod_nonneg _ (by decide), Int.emod_lt_of_pos _ (by decide)⟩
  generalize (k * 7 + (i : Int)) % 26 = z at h
  simp
  omega
theorem block_ok (size : Nat) (k : Int) : okText (blockL size k) = true := by
  have hb : ∀ b ∈ blockL size k, 97 ≤ b.toNat ∧ b.toNat ≤ 122 := fun b hb => by
    simp only [blockL, List.mem_map] at hb
    obtain ⟨i, _, rfl⟩ := hb
    exact block_byte k i
  unfold okText
  have h1 : validD (blockL size k) = true := by
    rw [validD_ascii (blockL size k).length _ (fun b h => by have := hb b (List.mem_of_mem_take h); omega), List.drop_length]
    rfl
  have h2 : (blockL size k).contains 0 = false := by
    cases hc : (blockL size k).contains 0 with
    | false => rfl
    | true =>
      have := hb 0 (by simpa using hc)
      simp at this
  rw [h1, h2]; rfl
section
variable {W w : World} {cs r : List Ch} {p : Nat}
theorem pMakeS {ops : Array Oper} {Q : Exit → Act → World → Prop} {rest : List Oper} {ps : String} {af : Array Edge} {a : Act} {N dd : Nat} {l : List (Nat × Value)} {x y : Operand} {T : TypeId} {n : Nat}
    (ha : Has a N l) (hx : ev l x = some (.int .i64 n)) (hy : ev l y = some (.int .i64 n)) (hn : n ≤ 140737488355328) (hs : Sep W w cs) (hd : Nat.blt dd N = true)
    (h : ∀ b w, Sep W w (.blk b 5 (List.replicate n (.int .u8 0)) :: cs) → ∀ a, Has a N ((dd, .slice (some ⟨b, 0, none⟩) n n) :: l) → wpList P ops Q rest a w) :
    wpList P ops Q (⟨some dd, .makeSlice 25 x y, T, ps, af, none⟩ :: rest) a w := by
  refine pE ha (v := .slice (some ⟨w.heap.size, 0, none⟩) n n) (w' := w.alloc (.cells (List.replicate n (.int .u8 0)).toArray 5)) (fun ρ o hE ho hT => ?_) hd (fun a ha => h _ _ (by have := hs.blk_alloc (List.replicate n (.int .u8 0)).toArray 5; simpa using this) a ha)
  unfold execOp; rw [ho]
  have hr : (Instr.makeSlice 25 (.int .i64 n) (.int .i64 n)).run P w = .ok (.slice (some ⟨w.heap.size, 0, none⟩) n n) (w.alloc (.cells (List.replicate n (.int .u8 0)).toArray 5)) := by
    have k1 : (P.info? 5).map (fun i => (i.bytes, i.size)) = some (1, 1) := by kernel_rfl
    have k2 : (P.info? 5).map (fun i => i.zero) = some (some (.int .u8 0)) := by kernel_rfl
    cases hi : P.info? 5 with
    | none => rw [hi] at k1; simp at k1
    | some i =>
      rw [hi] at k1 k2
      simp only [Option.map_some, Option.some.injEq, Prod.mk.injEq] at k1 k2
      have hr := run_make (P := P) w 25 5 i (.int .u8 0) Tryd.underlying25 hi k2 .i64 .i64 n n (by omega) (Int.le_refl _) (by rw [k1.1]; omega) (by omega)
      rw [hr, k1.2]
      simp only [Int.toNat_natCast, Nat.mul_one]
      have : madeCells (Value.int .u8 0).cells n = (List.replicate n (Value.int .u8 0)).toArray := by
        apply Array.ext'
        simp only [madeCells, Array.toList_map, Array.toList_range]
        apply List.ext_getElem
        · simp
        · intro i h1 h2
          simp [Value.cells, Nat.mod_one]
      rw [this]
  simp [hE _ _ hx, hE _ _ hy, hr]
end
end Go.Proofs.YtnkcmpmcmkljnaaDoor
