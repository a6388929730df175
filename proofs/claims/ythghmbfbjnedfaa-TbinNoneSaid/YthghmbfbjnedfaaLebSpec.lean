/- What layer 1 (leb) computes, as plain functions on numbers and lists: no program in it. -/
import Derived.WalkKit
namespace Go.Proofs.Ythghmbfbjnedfaa.Lb
open Go
/-- The bytes of an unsigned number, the fewest (k: at most so many). -/
def putU : Nat → Int → List Int
  | 0, _ => []
  | k + 1, n => if n / 128 = 0 then [n % 128] else (n % 128 + 128) :: putU k (n / 128)
/-- The bytes of a signed number, the fewest. -/
def putS : Nat → Int → List Int
  | 0, _ => []
  | k + 1, n => if n / 128 = 0 ∧ n % 128 < 64 ∨ n / 128 = -1 ∧ 64 ≤ n % 128 then [n % 128] else (n % 128 + 128) :: putS k (n / 128)
theorem putU_length : ∀ k n, (putU k n).length ≤ k
  | 0, n => by simp [putU]
  | k + 1, n => by
    have := putU_length k (n / 128)
    unfold putU; split <;> simp <;> omega
theorem putS_length : ∀ k n, (putS k n).length ≤ k
  | 0, n => by simp [putS]
  | k + 1, n => by
    have := putS_length k (n / 128)
    unfold putS; split <;> simp <;> omega
theorem putU_bytes : ∀ k n, ∀ x ∈ putU k n, 0 ≤ x ∧ x ≤ 255
  | 0, n, x, h => by simp [putU] at h
  | k + 1, n, x, h => by
    unfold putU at h
    split at h
    · simp at h; omega
    · rcases List.mem_cons.1 h with rfl | h
      · omega
      · exact putU_bytes k _ x h
theorem putS_bytes : ∀ k n, ∀ x ∈ putS k n, 0 ≤ x ∧ x ≤ 255
  | 0, n, x, h => by simp [putS] at h
  | k + 1, n, x, h => by
    unfold putS at h
    split at h
    · simp at h; omega
    · rcases List.mem_cons.1 h with rfl | h
      · omega
      · exact putS_bytes k _ x h
/-- The two whole functions. -/
def U (n : Int) : List Int := putU 10 n
def S (n : Int) : List Int := putS 10 n
/-- How great a number may be of which so many bytes are still to come. -/
def inU (k : Nat) (m : Int) : Prop := 1 ≤ k ∧ 0 ≤ m ∧ m < 128 ^ k
theorem inU_zero (m : Int) : ¬ inU 0 m := fun h => absurd h.1 (by omega)
theorem inU_start (n : Int) (h0 : 0 ≤ n) (h : n ≤ 18446744073709551615) : inU 10 n := ⟨by omega, h0, by
  have : (128 : Int) ^ 10 = 1180591620717411303424 := by decide
  omega⟩
theorem inU_next (k : Nat) (m : Int) (h : inU (k + 1) m) (hq : ¬ m / 128 = 0) : inU k (m / 128) := by
  obtain ⟨_, h0, h⟩ := h
  have hp : (128 : Int) ^ (k + 1) = 128 ^ k * 128 := Int.pow_succ ..
  rw [hp] at h
  have h2 : m / 128 < 128 ^ k := by omega
  refine ⟨?_, by omega, h2⟩
  rcases Nat.eq_zero_or_pos k with rfl | h3
  · simp at h2; omega
  · exact h3
def inS (k : Nat) (m : Int) : Prop := 1 ≤ k ∧ -(64 * 128 ^ (k - 1)) ≤ m ∧ m < 64 * 128 ^ (k - 1)
theorem inS_zero (m : Int) : ¬ inS 0 m := fun h => absurd h.1 (by omega)
theorem inS_start (n : Int) (h0 : -9223372036854775808 ≤ n) (h : n ≤ 9223372036854775807) : inS 10 n := by
  have : (128 : Int) ^ (10 - 1) = 9223372036854775808 := by decide
  refine ⟨by omega, ?_, ?_⟩ <;> rw [this] <;> omega
theorem inS_next (k : Nat) (m : Int) (h : inS (k + 1) m) (hq : ¬ (m / 128 = 0 ∧ m % 128 < 64 ∨ m / 128 = -1 ∧ 64 ≤ m % 128)) : inS k (m / 128) := by
  obtain ⟨_, h0, h⟩ := h
  rw [Nat.add_sub_cancel] at h0 h
  rcases Nat.eq_zero_or_pos k with rfl | h3
  · simp at h0 h; omega
  · obtain ⟨j, rfl⟩ : ∃ j, k = j + 1 := ⟨k - 1, by omega⟩
    have hp : (128 : Int) ^ (j + 1) = 128 ^ j * 128 := Int.pow_succ ..
    rw [hp] at h0 h
    refine ⟨by omega, ?_, ?_⟩ <;> rw [Nat.add_sub_cancel] <;> omega
end Go.Proofs.Ythghmbfbjnedfaa.Lb
