/- '&', '|', '<<', '>>' by constants. -/
import Derived.Test.YtnkcmpmcmkljnaaDoorDraw
import Derived.Laws.BitsLemmas
set_option linter.unusedVariables false
set_option linter.unusedSimpArgs false
namespace Go.Proofs.YtnkcmpmcmkljnaaDoor
open Go.RowKit
section
variable {P : Program} {w : World} {l : List (Nat × Value)} {x y : Operand} {T U U' : TypeId} {k k' : IntKind} {m n q : Int}
/-- The kinds' room for what isn't negative. -/
def roomy : IntKind → Nat
  | .i8 => 7 | .i16 => 15 | .i32 => 31 | .i64 => 63 | .u8 => 8 | .u16 => 16 | .u32 => 32 | .u64 => 64
theorem wraps_roomy (k : IntKind) (n : Int) (h0 : 0 ≤ n) (h1 : n < 2 ^ roomy k) : k.wrap n = n := by
  cases k <;> simp only [roomy] at h1 <;> simp [IntKind.wrap, IntKind.bits, IntKind.signed] <;> omega
theorem roomy_le (k : IntKind) : roomy k ≤ k.bits := by cases k <;> decide
theorem yAndM (i : Nat) (hx : ev l x = some (.int k m)) (hy : ev l y = some (.int k n)) (hq : q = 2 ^ i) (hn : n = q - 1) (hi : i ≤ roomy k) (h0 : 0 ≤ m) (h1 : m < 2 ^ roomy k) : Yl P w l (.binOp .and U x y U') T (.int k (m % q)) :=
  yBin hx hy (fun _ _ => eqg_int) (by rw [binOp_and, intBits_and]; subst hn; subst hq; rw [bits_mask k _ (roomy_le k) (wraps_roomy k) i hi m h0 h1]; rfl)
theorem yOrJ (i : Nat) (hx : ev l x = some (.int k m)) (hy : ev l y = some (.int k n)) (hq : q = 2 ^ i) (h0 : 0 ≤ m) (hm : m % q = 0) (h1 : m < 2 ^ roomy k) (h2 : 0 ≤ n) (h3 : n < q) (h4 : n < 2 ^ roomy k) : Yl P w l (.binOp .or U x y U') T (.int k (m + n)) :=
  yBin hx hy (fun _ _ => eqg_int) (by rw [binOp_or, intBits_or]; subst hq; rw [bits_join k _ (roomy_le k) (wraps_roomy k) i m n h0 hm h1 h2 h3 h4]; rfl)
theorem bits_or_comm (k : IntKind) (a b : Int) : bits .or k a b = bits .or k b a := by simp only [bits]; rw [BitVec.or_comm]
theorem yOrJ' (i : Nat) (hx : ev l x = some (.int k m)) (hy : ev l y = some (.int k n)) (hq : q = 2 ^ i) (h0 : 0 ≤ n) (hm : n % q = 0) (h1 : n < 2 ^ roomy k) (h2 : 0 ≤ m) (h3 : m < q) (h4 : m < 2 ^ roomy k) : Yl P w l (.binOp .or U x y U') T (.int k (n + m)) :=
  yBin hx hy (fun _ _ => eqg_int) (by rw [binOp_or, intBits_or]; subst hq; rw [bits_or_comm, bits_join k _ (roomy_le k) (wraps_roomy k) i n m h0 hm h1 h2 h3 h4]; rfl)
theorem yShrC (hx : ev l x = some (.int k m)) (hy : ev l y = some (.int k' n)) (h0 : 0 ≤ n) (h1 : n.toNat ≤ k.bits) (hq : q = 2 ^ n.toNat) : Yl P w l (.binOp .shr U x y U') T (.int k (m / q)) :=
  yBin hx hy (fun _ _ => eqg_int) (by
    subst hq
    have : min n.toNat k.bits = n.toNat := by omega
    simp [binOp, shift_shr_any k k' m n h0, this])
theorem yShlC (hx : ev l x = some (.int .i64 m)) (hy : ev l y = some (.int k' n)) (h0 : 0 ≤ n) (h1 : n.toNat ≤ 64) (hq : q = 2 ^ n.toNat) (h2 : -9223372036854775808 ≤ m * q ∧ m * q ≤ 9223372036854775807) : Yl P w l (.binOp .shl U x y U') T (.int .i64 (m * q)) :=
  yBin hx hy (fun _ _ => eqg_int) (by
    subst hq
    have : min n.toNat (IntKind.i64.bits) = n.toNat := by simp [IntKind.bits]; omega
    simp [binOp, shift_shl_any .i64 k' m n h0, this, i64_in h2])
theorem yQuoK (hx : ev l x = some (.int k m)) (hy : ev l y = some (.int k n)) (hm : 0 ≤ m) (hn : 0 < n) (hb : m < 2 ^ roomy k) : Yl P w l (.binOp .quo U x y U') T (.int k (m / n)) := yBin hx hy (fun _ _ => eqg_int) (by
  have h0 : n ≠ 0 := by omega
  have h1 : (m.tdiv n) = m / n := Int.tdiv_eq_ediv_of_nonneg hm
  have h2 : 0 ≤ m / n := Int.ediv_nonneg hm (by omega)
  have h3 : m / n ≤ m := Int.ediv_le_self _ hm
  simp [binOp, Op.intDiv, h0, h1, wraps_roomy k (m / n) h2 (by omega)])
theorem yRemK (hx : ev l x = some (.int k m)) (hy : ev l y = some (.int k n)) (hm : 0 ≤ m) (hn : 0 < n) (hb : m < 2 ^ roomy k) : Yl P w l (.binOp .rem U x y U') T (.int k (m % n)) := yBin hx hy (fun _ _ => eqg_int) (by
  have h0 : n ≠ 0 := by omega
  have h1 : (m.tmod n) = m % n := Int.tmod_eq_emod_of_nonneg hm
  have h2 : 0 ≤ m % n := Int.emod_nonneg _ h0
  have h3 : m % n ≤ m := by
    have := Int.mul_ediv_add_emod m n
    have h4 : 0 ≤ n * (m / n) := Int.mul_nonneg (by omega) (Int.ediv_nonneg hm (by omega))
    omega
  simp [binOp, Op.intDiv, h0, h1, wraps_roomy k (m % n) h2 (by omega)])
theorem neg_lt_tmod (m : Int) {n : Int} (hn : 0 < n) : -n < m.tmod n := by
  have h1 := Int.tmod_lt_of_pos (-m) hn
  rw [Int.neg_tmod] at h1
  omega
theorem yRemT (hx : ev l x = some (.int .i64 m)) (hy : ev l y = some (.int .i64 n)) (hn : 0 < n) (hb : n ≤ 1099511627776) : Yl P w l (.binOp .rem U x y U') T (.int .i64 (m.tmod n)) := yBin hx hy (fun _ _ => eqg_int) (by
  have h0 : n ≠ 0 := by omega
  have h1 := Int.tmod_lt_of_pos m hn
  have h2 := neg_lt_tmod m hn
  simp [binOp, Op.intDiv, h0, i64_in (n := m.tmod n) ⟨by omega, by omega⟩])
end
end Go.Proofs.YtnkcmpmcmkljnaaDoor
