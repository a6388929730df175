/- Plain facts on Go's bit operations over numbers, as the walks of layer 1 want them. -/
import Derived.WalkKit
import Derived.Laws.BitsLemmas
namespace Go.Proofs.Ythghmbfbjnedfaa.BitsA
open Go
theorem and127_u64 (n : Int) (h0 : 0 ≤ n) (h1 : n ≤ 18446744073709551615) : Go.bits BinOp.and IntKind.u64 n 127 = n % 128 :=
  bits_mask .u64 64 (by decide) (fun n h0 h1 => by simp [IntKind.wrap, IntKind.bits, IntKind.signed]; omega) 7 (by decide) n h0 (by omega)
theorem and127_u8 (n : Int) (h0 : 0 ≤ n) (h1 : n ≤ 255) : Go.bits BinOp.and IntKind.u8 n 127 = n % 128 :=
  bits_mask .u8 8 (by decide) wraps_u8 7 (by decide) n h0 (by omega)
theorem and1_u8 (n : Int) (h0 : 0 ≤ n) (h1 : n ≤ 255) : Go.bits BinOp.and IntKind.u8 n 1 = n % 2 :=
  bits_mask .u8 8 (by decide) wraps_u8 1 (by decide) n h0 (by omega)
theorem byte_cases (P : Int → Prop) (h : ∀ n : Fin 256, P n.val) (n : Int) (h0 : 0 ≤ n) (h1 : n ≤ 255) : P n := by
  have := h ⟨n.toNat, by omega⟩
  simpa [Int.toNat_of_nonneg h0] using this
theorem or128_u8 (n : Int) (h0 : 0 ≤ n) (h1 : n < 128) : Go.bits BinOp.or IntKind.u8 n 128 = n + 128 := by
  have : ∀ m : Fin 128, Go.bits BinOp.or IntKind.u8 (m.val : Int) 128 = (m.val : Int) + 128 := by decide
  have := this ⟨n.toNat, by omega⟩
  simpa [Int.toNat_of_nonneg h0] using this
theorem and64_u8 (n : Int) (h0 : 0 ≤ n) (h1 : n < 128) : (Go.bits BinOp.and IntKind.u8 n 64 != 0) = decide (64 ≤ n) := by
  have : ∀ m : Fin 128, (Go.bits BinOp.and IntKind.u8 (m.val : Int) 64 != 0) = decide (64 ≤ (m.val : Int)) := by decide
  have := this ⟨n.toNat, by omega⟩
  simpa [Int.toNat_of_nonneg h0] using this
theorem and127_i64 (n : Int) : Go.bits BinOp.and IntKind.i64 n 127 = n % 128 := by
  have h : (BitVec.ofInt 64 n &&& BitVec.ofInt 64 127).toNat = (n % 128).toNat := by
    rw [BitVec.toNat_and, BitVec.toNat_ofInt]
    have : (BitVec.ofInt 64 127).toNat = 2 ^ 7 - 1 := by decide
    rw [this, Nat.and_two_pow_sub_one_eq_mod]
    simp only [Nat.reducePow]
    omega
  show IntKind.i64.wrap ((BitVec.ofInt 64 n &&& BitVec.ofInt 64 127).toNat : Int) = _
  rw [h, IntKind.wrap_i64]
  omega
end Go.Proofs.Ythghmbfbjnedfaa.BitsA
