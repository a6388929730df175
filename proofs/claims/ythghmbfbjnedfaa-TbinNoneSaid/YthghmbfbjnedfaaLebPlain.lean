/- Plain laws of layer 1: what is read of a number's bytes; no program in it. -/
import Derived.Test.YthghmbfbjnedfaaLebSpec
import Derived.Test.YthghmbfbjnedfaaLebRSpec
import Derived.Test.YthghmbfbjnedfaaBitsA
namespace Go.Proofs.Ythghmbfbjnedfaa.Lb
open Go Go.RowKit Go.Proofs.YthghmbfbjnedfaaW.PrintWords Go.Proofs.Ythghmbfbjnedfaa.BitsA

theorem rd_at (pre : List Int) (x : Int) (suf : List Int) : rd (pre ++ x :: suf) (pre.length : Int) = x := by
  simp [rd]

/-- What is gathered of bytes that go on. -/
def acc : List Int → Int → Int → Int
  | [], n, _ => n
  | y :: c, n, p => acc c (nxt n y p) (p + 7)
/-- The last byte. -/
def fin (x n p : Int) (sg : Bool) : Int :=
  if sg = true ∧ p + 7 < 64 ∧ (Go.bits BinOp.and IntKind.u8 x 64 != 0) = true then ext (nxt n x p) (p + 7) else nxt n x p

theorem rdL_enc (bits : Int) (sg : Bool) : ∀ (c : List Int) (x : Int) (pre suf : List Int) (k : Nat) (n p : Int), (∀ y ∈ c, 128 ≤ y ∧ y ≤ 255) → 0 ≤ x → x < 128 →
    p + 7 * c.length < bits → c.length < k → (bits - (p + 7 * c.length) < 7 → bad x (bits - (p + 7 * c.length)) sg = false) →
    rdL (pre ++ (c ++ x :: suf)) bits sg k pre.length n p = (fin x (acc c n p) (p + 7 * c.length) sg, (pre.length : Int) + c.length + 1, 0)
  | [], x, pre, suf, k, n, p, _, h0, h1, hp, hk, hb => by
    obtain ⟨k, rfl⟩ : ∃ j, k = j + 1 := ⟨k - 1, by simp at hk; omega⟩
    simp only [List.length_nil, List.nil_append] at *
    have e : p + 7 * ((0 : Nat) : Int) = p := by omega
    rw [e] at hp hb ⊢
    simp only [rdL, rd_at]
    rw [if_pos (by simp; omega), if_neg (fun h => by rw [hb h.1] at h; exact absurd h.2 (by simp)), if_pos h1]
    unfold fin acc
    split <;> simp
  | y :: c, x, pre, suf, k, n, p, hc, h0, h1, hp, hk, hb => by
    obtain ⟨k, rfl⟩ : ∃ j, k = j + 1 := ⟨k - 1, by simp at hk; omega⟩
    have hy := hc y (by simp)
    simp only [List.length_cons] at *
    have e : p + 7 * ((c.length + 1 : Nat) : Int) = (p + 7) + 7 * (c.length : Int) := by omega
    rw [e] at hp hb ⊢
    have ih := rdL_enc bits sg c x (pre ++ [y]) suf k (nxt n y p) (p + 7) (fun z hz => hc z (by simp [hz])) h0 h1 hp (by omega) hb
    simp only [List.append_assoc, List.singleton_append, List.length_append, List.length_singleton] at ih
    simp only [List.cons_append, rdL, rd_at]
    rw [if_pos (by simp; omega), if_neg (fun h => by have := h.1; omega), if_neg (by omega), if_neg (by omega)]
    have e2 : ((pre.length : Int) + 1) = ((pre.length + 1 : Nat) : Int) := by omega
    rw [e2, ih]
    simp only [acc]
    congr 2
    omega

/-- Bytes that all go on: the end comes too early. -/
theorem rdL_cut (bits : Int) (sg : Bool) : ∀ (c pre : List Int) (k : Nat) (n p : Int), (∀ y ∈ c, 128 ≤ y ∧ y ≤ 255) →
    p + 7 * c.length < bits → c.length < k → rdL (pre ++ c) bits sg k pre.length n p = (0, 0, 10)
  | [], pre, k, n, p, _, hp, hk => by
    obtain ⟨k, rfl⟩ : ∃ j, k = j + 1 := ⟨k - 1, by simp at hk; omega⟩
    simp only [rdL]
    rw [if_neg (by simp)]
  | y :: c, pre, k, n, p, hc, hp, hk => by
    obtain ⟨k, rfl⟩ : ∃ j, k = j + 1 := ⟨k - 1, by simp at hk; omega⟩
    have hy := hc y (by simp)
    simp only [List.length_cons] at *
    have ih := rdL_cut bits sg c (pre ++ [y]) k (nxt n y p) (p + 7) (fun z hz => hc z (by simp [hz])) (by omega) (by omega)
    simp only [List.append_assoc, List.singleton_append, List.length_append, List.length_singleton] at ih
    simp only [rdL, rd_at]
    rw [if_pos (by simp; omega), if_neg (fun h => by have := h.1; omega), if_neg (by omega), if_neg (by omega)]
    have e2 : ((pre.length : Int) + 1) = ((pre.length + 1 : Nat) : Int) := by omega
    rw [e2, ih]

/-- The number that bytes tell. -/
def val : List Int → Int
  | [] => 0
  | y :: c => y % 128 + 128 * val c
theorem val_nonneg : ∀ c, 0 ≤ val c
  | [] => by simp [val]
  | y :: c => by have := val_nonneg c; simp only [val]; omega
theorem val_lt : ∀ c, val c < 128 ^ c.length
  | [] => by simp [val]
  | y :: c => by
    have := val_lt c
    simp only [val, List.length_cons, Int.pow_succ]
    omega
theorem val_append : ∀ (c : List Int) (x : Int), val (c ++ [x]) = val c + 128 ^ c.length * (x % 128)
  | [], x => by simp [val]
  | y :: c, x => by
    simp only [List.cons_append, val, val_append c x, List.length_cons, Int.pow_succ]
    rw [Int.mul_add, ← Int.mul_assoc, Int.mul_comm 128 (128 ^ c.length)]
    omega

theorem two_pow_pos (p : Nat) : (0 : Int) < 2 ^ p := Int.pow_pos (by decide)
theorem pow_mono {a b : Nat} (h : a ≤ b) : (2 : Int) ^ a ≤ 2 ^ b := by exact_mod_cast Nat.pow_le_pow_right (by decide) h
theorem pow_7 (c : Nat) : (128 : Int) ^ c = 2 ^ (7 * c) := by rw [Int.pow_mul]; rfl

theorem nxt_eq (n y : Int) (p : Nat) (hn : 0 ≤ n) (hn2 : n < 2 ^ p) (hy0 : 0 ≤ y) (hy1 : y ≤ 255) (hp : p ≤ 63) :
    nxt n y p = n + (y % 128 * 2 ^ p) % 18446744073709551616 := by
  unfold nxt
  rw [and127_u8 y hy0 hy1]
  have w1 : IntKind.u64.wrap (y % 128) = y % 128 := by simp [IntKind.wrap, IntKind.bits, IntKind.signed]; omega
  rw [w1]
  have w2 : ∀ z : Int, IntKind.u64.wrap z = z % 18446744073709551616 := fun z => by simp [IntKind.wrap, IntKind.bits, IntKind.signed]
  rw [w2]
  have e : ((p : Int)).toNat = p := by simp
  rw [e]
  have hdv : (2 : Int) ^ p ∣ 18446744073709551616 := by
    refine ⟨2 ^ (64 - p), ?_⟩
    rw [← Int.pow_add]
    have : p + (64 - p) = 64 := by omega
    rw [this]; decide
  have hm : (y % 128 * 2 ^ p % 18446744073709551616) % 2 ^ p = 0 := by
    rw [Int.emod_emod_of_dvd _ hdv]
    exact Int.mul_emod_left _ _
  have h64 : (2 : Int) ^ p ≤ 2 ^ 63 := pow_mono hp
  have hwr : ∀ n : Int, 0 ≤ n → n < 2 ^ 64 → IntKind.u64.wrap n = n := fun n h0 h1 => by rw [w2]; omega
  have hb := bits_join .u64 64 (by decide) hwr p (y % 128 * 2 ^ p % 18446744073709551616) n (Int.emod_nonneg _ (by decide)) hm (Int.emod_lt_of_pos _ (by decide)) hn hn2 (by omega)
  have hcomm : Go.bits BinOp.or IntKind.u64 n (y % 128 * 2 ^ p % 18446744073709551616) = Go.bits BinOp.or IntKind.u64 (y % 128 * 2 ^ p % 18446744073709551616) n := by
    unfold Go.bits
    simp only
    rw [BitVec.or_comm]
  rw [hcomm, hb]
  omega
end Go.Proofs.Ythghmbfbjnedfaa.Lb
