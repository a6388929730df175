/- Plain laws of layer 1, unsigned numbers: what is put is read again. -/
import Derived.Test.YthghmbfbjnedfaaLebPlain
namespace Go.Proofs.Ythghmbfbjnedfaa.Lb
open Go Go.RowKit Go.Proofs.YthghmbfbjnedfaaW.PrintWords Go.Proofs.Ythghmbfbjnedfaa.BitsA

theorem mul_pow_lt (y : Int) (p q : Nat) (hy : y < 2 ^ q) : y * 2 ^ p < 2 ^ (p + q) := by
  rw [Int.pow_add, Int.mul_comm y]
  exact Int.mul_lt_mul_of_pos_left hy (two_pow_pos p)

theorem acc_eq : ∀ (c : List Int) (n : Int) (p : Nat), (∀ y ∈ c, 0 ≤ y ∧ y ≤ 255) → 0 ≤ n → n < 2 ^ p → p + 7 * c.length ≤ 63 → acc c n p = n + val c * 2 ^ p
  | [], n, p, _, _, _, _ => by simp [acc, val]
  | y :: c, n, p, hc, h0, h1, hp => by
    have hy := hc y (by simp)
    simp only [List.length_cons] at hp
    have e27 : (2 : Int) ^ 7 = 128 := by decide
    have hb : y % 128 * 2 ^ p < 2 ^ (p + 7) := mul_pow_lt _ p 7 (by omega)
    have hb0 : 0 ≤ y % 128 * 2 ^ p := Int.mul_nonneg (by omega) (Int.le_of_lt (two_pow_pos p))
    have h63 : (2 : Int) ^ (p + 7) ≤ 2 ^ 63 := pow_mono (by omega)
    have e63 : (2 : Int) ^ 63 = 9223372036854775808 := by decide
    have en : nxt n y p = n + y % 128 * 2 ^ p := by
      rw [nxt_eq n y p h0 h1 hy.1 hy.2 (by omega), Int.emod_eq_of_lt hb0 (by omega)]
    have e7 : (2 : Int) ^ (p + 7) = 128 * 2 ^ p := by rw [Int.pow_add, Int.mul_comm]; rfl
    simp only [acc]
    rw [en]
    have ec : ((p : Int) + 7) = ((p + 7 : Nat) : Int) := by omega
    have hr : y % 128 * 2 ^ p ≤ 127 * 2 ^ p := Int.mul_le_mul_of_nonneg_right (by omega) (Int.le_of_lt (two_pow_pos p))
    rw [ec, acc_eq c _ (p + 7) (fun z hz => hc z (by simp [hz])) (by omega) (by omega) (by omega)]
    simp only [val]
    rw [e7, Int.add_mul, ← Int.mul_assoc, Int.mul_comm (val c) 128]
    omega

theorem acc_range (c : List Int) (hc : ∀ y ∈ c, 0 ≤ y ∧ y ≤ 255) (h : 7 * c.length ≤ 63) : acc c 0 0 = val c ∧ 0 ≤ val c ∧ val c < 2 ^ (7 * c.length) := by
  refine ⟨?_, val_nonneg c, ?_⟩
  · have := acc_eq c 0 0 hc (by omega) (by decide) (by omega)
    simpa using this
  · rw [← pow_7]; exact val_lt c

theorem beyond_zero (x : Int) (room : Nat) (h0 : 0 ≤ x) (h1 : x < 128) (h : x < 2 ^ room) : beyond x room = 0 := by
  unfold beyond
  rw [and127_u8 x h0 (by omega)]
  have e : ((room : Int)).toNat = room := by simp
  rw [e]
  have e2 : x % 128 = x := by omega
  rw [e2]
  exact Int.ediv_eq_zero_of_lt h0 h

theorem beyond_pos (x : Int) (room : Nat) (h0 : 0 ≤ x) (h1 : x < 128) (h : beyond x room = 0) : x < 2 ^ room := by
  unfold beyond at h
  rw [and127_u8 x h0 (by omega)] at h
  have e : ((room : Int)).toNat = room := by simp
  rw [e] at h
  have e2 : x % 128 = x := by omega
  rw [e2] at h
  have h2 := Int.lt_mul_ediv_self_add (x := x) (two_pow_pos room)
  rw [h] at h2
  omega

/-- A number's bytes, read as an unsigned one. -/
theorem readU_enc (bits : Nat) (c : List Int) (x : Int) (pre suf : List Int) (hc : ∀ y ∈ c, 128 ≤ y ∧ y ≤ 255) (h0 : 0 ≤ x) (h1 : x < 128) (hb : bits ≤ 64) (hl : 7 * c.length < bits) (hx : x < 2 ^ (bits - 7 * c.length)) :
    readU (pre ++ (c ++ x :: suf)) pre.length bits = (val (c ++ [x]), (pre.length : Int) + c.length + 1, 0) := by
  have hc' : ∀ y ∈ c, 0 ≤ y ∧ y ≤ 255 := fun y hy => ⟨by have := hc y hy; omega, (hc y hy).2⟩
  unfold readU readF
  rw [if_pos ⟨by omega, by omega, by omega, by simp; omega⟩]
  have hr : ((bits : Int) - (0 + 7 * (c.length : Int))) = ((bits - 7 * c.length : Nat) : Int) := by omega
  rw [rdL_enc bits false c x pre suf 10 0 0 hc h0 h1 (by omega) (by omega) (fun _ => by
    rw [hr]; unfold bad; rw [if_pos (beyond_zero x _ h0 h1 hx)]; rfl)]
  obtain ⟨e1, e2, e3⟩ := acc_range c hc' (by omega)
  unfold fin
  rw [if_neg (by simp), e1]
  have ep : (0 : Int) + 7 * (c.length : Int) = ((7 * c.length : Nat) : Int) := by omega
  have hb2 : x * 2 ^ (7 * c.length) < 2 ^ bits := by
    have := mul_pow_lt x (7 * c.length) (bits - 7 * c.length) hx
    have ee : 7 * c.length + (bits - 7 * c.length) = bits := by omega
    rwa [ee] at this
  have hb3 : (2 : Int) ^ bits ≤ 2 ^ 64 := pow_mono hb
  have hb4 : 0 ≤ x * 2 ^ (7 * c.length) := Int.mul_nonneg h0 (Int.le_of_lt (two_pow_pos _))
  have e64 : (2 : Int) ^ 64 = 18446744073709551616 := by decide
  have ex : x % 128 = x := by omega
  rw [ep, nxt_eq _ x (7 * c.length) e2 e3 h0 (by omega) (by omega), ex, Int.emod_eq_of_lt hb4 (by omega), val_append, ex, pow_7, Int.mul_comm x]

/-- The bytes that are put: they are such bytes, of that number, and no fewer would do. -/
theorem putU_enc : ∀ (k : Nat) (m : Int), inU k m → ∃ c x, putU k m = c ++ [x] ∧ (∀ y ∈ c, 128 ≤ y ∧ y ≤ 255) ∧ 0 ≤ x ∧ x < 128 ∧ val (c ++ [x]) = m ∧ (c = [] ∨ 128 ^ c.length ≤ m)
  | 0, m, h => absurd h (inU_zero m)
  | k + 1, m, h => by
    have hm := h.2.1
    unfold putU
    by_cases hq : m / 128 = 0
    · rw [if_pos hq]
      exact ⟨[], m % 128, rfl, by simp, by omega, by omega, by simp [val]; omega, .inl rfl⟩
    · rw [if_neg hq]
      obtain ⟨c, x, e, hc, h0, h1, hv, hl⟩ := putU_enc k (m / 128) (inU_next k m h hq)
      refine ⟨(m % 128 + 128) :: c, x, by rw [e]; rfl, ?_, h0, h1, ?_, .inr ?_⟩
      · intro y hy
        rcases List.mem_cons.1 hy with rfl | hy
        · omega
        · exact hc y hy
      · simp only [List.cons_append, val]; rw [hv]; omega
      · rw [List.length_cons, Int.pow_succ]
        rcases hl with rfl | hl
        · simp; omega
        · omega

theorem U_enc (n : Int) (h0 : 0 ≤ n) (h1 : n ≤ 18446744073709551615) : ∃ c x, U n = c ++ [x] ∧ (∀ y ∈ c, 128 ≤ y ∧ y ≤ 255) ∧ 0 ≤ x ∧ x < 128 ∧ val (c ++ [x]) = n ∧ (c = [] ∨ 128 ^ c.length ≤ n) :=
  putU_enc 10 n (inU_start n h0 h1)

/-- Bytes of a number of so many bits have no byte too many, and nothing beyond the bits. -/
theorem enc_fits (bits : Nat) (c : List Int) (x : Int) (hb : 1 ≤ bits) (h1 : x < 128) (h0 : 0 ≤ x) (n : Int) (hv : val (c ++ [x]) = n) (hl : c = [] ∨ 128 ^ c.length ≤ n) (hn : n < 2 ^ bits) :
    7 * c.length < bits ∧ x < 2 ^ (bits - 7 * c.length) := by
  have h7 : 7 * c.length < bits := by
    rcases hl with rfl | hl
    · simp; omega
    · rw [pow_7] at hl
      rcases Nat.lt_or_ge (7 * c.length) bits with h | h
      · exact h
      · have := pow_mono h; omega
  refine ⟨h7, ?_⟩
  rw [val_append] at hv
  have ex : x % 128 = x := by omega
  rw [ex] at hv
  have hp := val_nonneg c
  have hlt : 2 ^ (7 * c.length) * x < 2 ^ bits := by rw [← pow_7]; omega
  have ee : 7 * c.length + (bits - 7 * c.length) = bits := by omega
  rw [← ee, Int.pow_add] at hlt
  exact Int.lt_of_mul_lt_mul_left hlt (Int.le_of_lt (two_pow_pos _))

/-- WHAT WAS PUT IS READ AGAIN. -/
theorem readU_put (bits : Nat) (n : Int) (pre suf : List Int) (hb : 1 ≤ bits) (hb2 : bits ≤ 64) (h0 : 0 ≤ n) (h1 : n < 2 ^ bits) :
    readU (pre ++ (U n ++ suf)) pre.length bits = (n, (pre.length : Int) + (U n).length, 0) := by
  have hn : n ≤ 18446744073709551615 := by
    have : (2 : Int) ^ bits ≤ 2 ^ 64 := pow_mono hb2
    have e64 : (2 : Int) ^ 64 = 18446744073709551616 := by decide
    omega
  obtain ⟨c, x, e, hc, hx0, hx1, hv, hl⟩ := U_enc n h0 hn
  obtain ⟨h7, hx⟩ := enc_fits bits c x hb hx1 hx0 n hv hl h1
  have := readU_enc bits c x pre suf hc hx0 hx1 hb2 h7 hx
  rw [hv] at this
  rw [e]
  simp only [List.append_assoc, List.singleton_append, List.length_append, List.length_singleton]
  rw [this]
  simp
  omega
end Go.Proofs.Ythghmbfbjnedfaa.Lb
