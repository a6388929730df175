/- Plain laws of layer 1: what has been read tells which bytes stood there. -/
import Derived.Test.YthghmbfbjnedfaaLebPlainS
namespace Go.Proofs.Ythghmbfbjnedfaa.Lb
open Go Go.RowKit Go.Proofs.YthghmbfbjnedfaaW.PrintWords Go.Proofs.Ythghmbfbjnedfaa.BitsA

theorem rdL_zero (l : List Int) (bits : Int) (sg : Bool) : ∀ (k : Nat) (i n p : Int), (rdL l bits sg k i n p).2.2 ≠ 0 → (rdL l bits sg k i n p).1 = 0 ∧ (rdL l bits sg k i n p).2.1 = 0
  | 0, i, n, p, h => by simp [rdL] at h
  | k + 1, i, n, p, h => by
    unfold rdL at h ⊢
    split at h
    · rename_i h1
      rw [if_pos h1]
      split at h
      · rename_i h2; rw [if_pos h2]; exact ⟨rfl, rfl⟩
      · rename_i h2
        rw [if_neg h2]
        split at h
        · rename_i h3
          split at h <;> exact absurd rfl h
        · rename_i h3
          rw [if_neg h3]
          split at h
          · rename_i h4; rw [if_pos h4]; exact ⟨rfl, rfl⟩
          · rename_i h4
            rw [if_neg h4]
            exact rdL_zero l bits sg k _ _ _ h
    · rename_i h1; rw [if_neg h1]; exact ⟨rfl, rfl⟩

theorem rdL_inv (bits : Int) (sg : Bool) : ∀ (t pre : List Int) (k : Nat) (n p : Int), (∀ y ∈ t, 0 ≤ y ∧ y ≤ 255) → p < bits → bits ≤ p + 7 * k → (rdL (pre ++ t) bits sg k pre.length n p).2.2 = 0 →
    ∃ c x suf, t = c ++ x :: suf ∧ (∀ y ∈ c, 128 ≤ y ∧ y ≤ 255) ∧ 0 ≤ x ∧ x < 128 ∧ p + 7 * (c.length : Int) < bits ∧ (bits - (p + 7 * (c.length : Int)) < 7 → bad x (bits - (p + 7 * (c.length : Int))) sg = false)
  | [], pre, k, n, p, _, hp, hk, h => by
    obtain ⟨k, rfl⟩ : ∃ j, k = j + 1 := ⟨k - 1, by omega⟩
    simp only [rdL] at h
    rw [if_neg (by simp)] at h
    simp at h
  | y :: t, pre, k, n, p, ht, hp, hk, h => by
    obtain ⟨k, rfl⟩ : ∃ j, k = j + 1 := ⟨k - 1, by omega⟩
    have hy := ht y (by simp)
    simp only [rdL, rd_at] at h
    rw [if_pos (by simp; omega)] at h
    by_cases h2 : bits - p < 7 ∧ bad y (bits - p) sg = true
    · rw [if_pos h2] at h; simp at h
    · rw [if_neg h2] at h
      by_cases h3 : y < 128
      · refine ⟨[], y, t, rfl, by simp, hy.1, h3, by simpa using hp, ?_⟩
        intro hlt
        simp only [List.length_nil] at hlt ⊢
        have e : p + 7 * ((0 : Nat) : Int) = p := by omega
        rw [e] at hlt ⊢
        exact Bool.eq_false_iff.2 fun hb => h2 ⟨hlt, hb⟩
      · rw [if_neg h3] at h
        by_cases h4 : bits ≤ p + 7
        · rw [if_pos h4] at h; simp at h
        · rw [if_neg h4] at h
          have ih := rdL_inv bits sg t (pre ++ [y]) k (nxt n y p) (p + 7) (fun z hz => ht z (by simp [hz])) (by omega) (by omega)
          simp only [List.append_assoc, List.singleton_append, List.length_append, List.length_singleton] at ih
          have e2 : ((pre.length : Int) + 1) = ((pre.length + 1 : Nat) : Int) := by omega
          rw [e2] at h
          obtain ⟨c, x, suf, e, hc, h0, h1, hl, hb⟩ := ih h
          refine ⟨y :: c, x, suf, by rw [e]; rfl, ?_, h0, h1, ?_, ?_⟩
          · intro z hz
            rcases List.mem_cons.1 hz with rfl | hz
            · omega
            · exact hc z hz
          · rw [List.length_cons]; omega
          · rw [List.length_cons]
            have e3 : p + 7 * ((c.length + 1 : Nat) : Int) = (p + 7) + 7 * (c.length : Int) := by omega
            rw [e3]
            exact hb

theorem readF_err (l : List Int) (bits : Int) (sg : Bool) (h : (readF l 0 bits sg).2.2 ≠ 0) : (readF l 0 bits sg).1 = 0 ∧ (readF l 0 bits sg).2.1 = 0 := by
  unfold readF at h ⊢
  split
  · rename_i hc
    rw [if_pos hc] at h
    exact rdL_zero _ _ _ _ _ _ _ h
  · exact ⟨rfl, rfl⟩

theorem readF_inv (l : List Int) (bits : Nat) (sg : Bool) (hb1 : 1 ≤ bits) (hb2 : bits ≤ 64) (hl : ∀ y ∈ l, 0 ≤ y ∧ y ≤ 255) (h : (readF l 0 bits sg).2.2 = 0) :
    ∃ c x suf, l = c ++ x :: suf ∧ (∀ y ∈ c, 128 ≤ y ∧ y ≤ 255) ∧ 0 ≤ x ∧ x < 128 ∧ 7 * c.length < bits ∧ (bits - 7 * c.length < 7 → bad x ((bits - 7 * c.length : Nat) : Int) sg = false) := by
  unfold readF at h
  rw [if_pos ⟨by omega, by omega, by omega, by omega⟩] at h
  obtain ⟨c, x, suf, e, hc, h0, h1, hlt, hbad⟩ := rdL_inv bits sg l [] 10 0 0 hl (by omega) (by omega) h
  refine ⟨c, x, suf, e, hc, h0, h1, by omega, ?_⟩
  intro hr
  have e2 : ((bits : Int) - (0 + 7 * (c.length : Int))) = ((bits - 7 * c.length : Nat) : Int) := by omega
  rw [e2] at hbad
  exact hbad (by omega)

theorem U_short (c : List Int) (x : Int) (hn : val (c ++ [x]) ≤ 18446744073709551615) : (U (val (c ++ [x]))).length ≤ c.length + 1 := by
  obtain ⟨c', x', e, _, _, _, _, hl⟩ := U_enc (val (c ++ [x])) (val_nonneg _) hn
  rw [e, List.length_append, List.length_singleton]
  rcases hl with rfl | hl
  · simp
  · have hlt := val_lt (c ++ [x])
    rw [List.length_append, List.length_singleton] at hlt
    rcases Nat.lt_or_ge c'.length (c.length + 1) with h | h
    · omega
    · have : (128 : Int) ^ (c.length + 1) ≤ 128 ^ c'.length := by rw [pow_7, pow_7]; exact pow_mono (by omega)
      omega

/-- SHORTEST, unsigned: what is read is the same with more bits, and what is put of it has no more bytes. -/
theorem readU_short (l : List Int) (bits more : Nat) (hb1 : 1 ≤ bits) (hm : bits ≤ more) (hm2 : more ≤ 64) (hl : ∀ y ∈ l, 0 ≤ y ∧ y ≤ 255) (h : (readU l 0 bits).2.2 = 0) :
    readU l 0 more = readU l 0 bits ∧ ((U (readU l 0 bits).1).length : Int) ≤ (readU l 0 bits).2.1 ∧ 0 ≤ (readU l 0 bits).1 ∧ (readU l 0 bits).1 ≤ 18446744073709551615 := by
  obtain ⟨c, x, suf, rfl, hc, h0, h1, h7, hbad⟩ := readF_inv l bits false hb1 (by omega) hl h
  have hx : x < 2 ^ (bits - 7 * c.length) := by
    rcases Nat.lt_or_ge (bits - 7 * c.length) 7 with hr | hr
    · have hb := hbad hr
      unfold bad at hb
      split at hb
      · rename_i hz; exact beyond_pos x _ h0 h1 hz
      · simp at hb
    · have : (2 : Int) ^ 7 ≤ 2 ^ (bits - 7 * c.length) := pow_mono hr
      have e7 : (2 : Int) ^ 7 = 128 := by decide
      omega
  have hx2 : x < 2 ^ (more - 7 * c.length) := by
    have : (2 : Int) ^ (bits - 7 * c.length) ≤ 2 ^ (more - 7 * c.length) := pow_mono (by omega)
    omega
  have r1 := readU_enc bits c x [] suf hc h0 h1 (by omega) h7 hx
  have r2 := readU_enc more c x [] suf hc h0 h1 hm2 (by omega) hx2
  simp only [List.nil_append, List.length_nil] at r1 r2
  have z : ((0 : Nat) : Int) = 0 := rfl
  rw [z] at r1 r2
  have hv : val (c ++ [x]) ≤ 18446744073709551615 := by
    rw [val_append, pow_7]
    have ex : x % 128 = x := by omega
    have := val_lt c
    rw [pow_7] at this
    have hb2 : x * 2 ^ (7 * c.length) + 2 ^ (7 * c.length) ≤ 2 ^ bits := by
      have e : 7 * c.length + (bits - 7 * c.length) = bits := by omega
      have a1 : 2 ^ (7 * c.length) * (x + 1) ≤ 2 ^ (7 * c.length) * 2 ^ (bits - 7 * c.length) := Int.mul_le_mul_of_nonneg_left (by omega) (Int.le_of_lt (two_pow_pos _))
      rw [Int.mul_add, Int.mul_one] at a1
      rw [← e, Int.pow_add, Int.mul_comm x]
      exact a1
    have hb3 : (2 : Int) ^ bits ≤ 2 ^ 64 := pow_mono (by omega)
    have e64 : (2 : Int) ^ 64 = 18446744073709551616 := by decide
    rw [ex, Int.mul_comm]
    omega
  rw [r1, r2]
  refine ⟨rfl, ?_, val_nonneg _, hv⟩
  have := U_short c x hv
  simp only
  omega

theorem S_short (c : List Int) (x : Int) (h0 : 0 ≤ x) (h1 : x < 128) (hn : -9223372036854775808 ≤ sval (c ++ [x])) (hn2 : sval (c ++ [x]) ≤ 9223372036854775807) : (S (sval (c ++ [x]))).length ≤ c.length + 1 := by
  obtain ⟨c', x', e, _, _, _, _, hl⟩ := S_enc (sval (c ++ [x])) hn hn2
  rw [e, List.length_append, List.length_singleton]
  rcases hl with rfl | hl
  · simp
  · have hv := val_nonneg c
    have hlt := val_lt c
    have hs := sval_eq c x
    have ht : -64 ≤ top x ∧ top x ≤ 63 := by unfold top; split <;> omega
    have hp : (0 : Int) < 128 ^ c.length := by rw [pow_7]; exact two_pow_pos _
    have a1 : 128 ^ c.length * top x ≤ 128 ^ c.length * 63 := Int.mul_le_mul_of_nonneg_left ht.2 (Int.le_of_lt hp)
    have a2 : 128 ^ c.length * (-64) ≤ 128 ^ c.length * top x := Int.mul_le_mul_of_nonneg_left ht.1 (Int.le_of_lt hp)
    rcases Nat.lt_or_ge c'.length (c.length + 1) with h | h
    · omega
    · have : (128 : Int) ^ c.length ≤ 128 ^ (c'.length - 1) := by rw [pow_7, pow_7]; exact pow_mono (by omega)
      omega

theorem readS_short (l : List Int) (bits more : Nat) (hb1 : 1 ≤ bits) (hm : bits ≤ more) (hm2 : more ≤ 64) (hl : ∀ y ∈ l, 0 ≤ y ∧ y ≤ 255) (h : (readS l 0 bits).2.2 = 0) :
    readS l 0 more = readS l 0 bits ∧ ((S (readS l 0 bits).1).length : Int) ≤ (readS l 0 bits).2.1 ∧ -9223372036854775808 ≤ (readS l 0 bits).1 ∧ (readS l 0 bits).1 ≤ 9223372036854775807 := by
  obtain ⟨c, x, suf, rfl, hc, h0, h1, h7, hbad⟩ := readF_inv l bits true hb1 (by omega) hl h
  have ht : -64 ≤ top x ∧ top x ≤ 63 := by unfold top; split <;> omega
  have hx : top x < 2 ^ (bits - 7 * c.length - 1) ∧ -(2 ^ (bits - 7 * c.length - 1)) ≤ top x := by
    rcases Nat.lt_or_ge (bits - 7 * c.length) 7 with hr | hr
    · have hb := hbad hr
      rw [bad_signed x _ h0 h1 (by omega) hr] at hb
      simpa using hb
    · have : (2 : Int) ^ 6 ≤ 2 ^ (bits - 7 * c.length - 1) := pow_mono (by omega)
      have e7 : (2 : Int) ^ 6 = 64 := by decide
      omega
  have hmono : (2 : Int) ^ (bits - 7 * c.length - 1) ≤ 2 ^ (more - 7 * c.length - 1) := pow_mono (by omega)
  have r1 := readS_enc bits c x [] suf hc h0 h1 (by omega) h7 hx.1 hx.2
  have r2 := readS_enc more c x [] suf hc h0 h1 hm2 (by omega) (by omega) (by omega)
  simp only [List.nil_append, List.length_nil] at r1 r2
  have z : ((0 : Nat) : Int) = 0 := rfl
  rw [z] at r1 r2
  have hr : -9223372036854775808 ≤ sval (c ++ [x]) ∧ sval (c ++ [x]) ≤ 9223372036854775807 := by
    rw [sval_eq, pow_7]
    have := val_lt c
    rw [pow_7] at this
    have hv := val_nonneg c
    have hp := two_pow_pos (7 * c.length)
    have e : (2 : Int) ^ (7 * c.length) * 2 ^ (bits - 7 * c.length - 1) = 2 ^ (bits - 1) := by rw [← Int.pow_add]; congr 1; omega
    have hb3 : (2 : Int) ^ (bits - 1) ≤ 2 ^ 63 := pow_mono (by omega)
    have e63 : (2 : Int) ^ 63 = 9223372036854775808 := by decide
    have a1 : 2 ^ (7 * c.length) * (top x + 1) ≤ 2 ^ (7 * c.length) * 2 ^ (bits - 7 * c.length - 1) := Int.mul_le_mul_of_nonneg_left (by omega) (Int.le_of_lt hp)
    have a2 : 2 ^ (7 * c.length) * (-(2 ^ (bits - 7 * c.length - 1))) ≤ 2 ^ (7 * c.length) * top x := Int.mul_le_mul_of_nonneg_left hx.2 (Int.le_of_lt hp)
    rw [Int.mul_add, Int.mul_one] at a1
    rw [Int.mul_neg] at a2
    omega
  rw [r1, r2]
  refine ⟨rfl, ?_, hr.1, hr.2⟩
  have := S_short c x h0 h1 hr.1 hr.2
  simp only
  omega
end Go.Proofs.Ythghmbfbjnedfaa.Lb
