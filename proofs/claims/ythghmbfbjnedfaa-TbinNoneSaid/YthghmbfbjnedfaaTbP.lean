/- Layer 6: plain facts on numbers that are read: where they end. No program in it. -/
import Derived.Test.YthghmbfbjnedfaaLebPlainI
namespace Go.Proofs.Ythghmbfbjnedfaa.Lb
open Go Go.RowKit Go.Proofs.YthghmbfbjnedfaaW.PrintWords
theorem readU32 (l : List Int) (at_ : Int) (hl : ∀ y ∈ l, 0 ≤ y ∧ y ≤ 255) (h : (readU l at_ 32).2.2 = 0) :
    ∃ n next : Nat, readU l at_ 32 = ((n : Int), (next : Int), 0) ∧ n < 4294967296 ∧ at_ < next ∧ next ≤ l.length ∧ 0 ≤ at_ := by
  have hat : 0 ≤ at_ ∧ at_ ≤ l.length := by
    unfold readU readF at h
    split at h
    · rename_i hc; exact hc.2.2
    · cases h
  obtain ⟨k, rfl⟩ : ∃ k : Nat, at_ = k := ⟨at_.toNat, by omega⟩
  have hlen : (l.take k).length = k := by rw [List.length_take]; omega
  have hsplit : l = l.take k ++ l.drop k := (List.take_append_drop k l).symm
  have h2 : (rdL (l.take k ++ l.drop k) 32 false 10 (l.take k).length 0 0).2.2 = 0 := by
    rw [← hsplit, hlen]
    unfold readU readF at h
    rwa [if_pos ⟨by omega, by omega, by omega, by omega⟩] at h
  obtain ⟨c, x, suf, e, hc, h0, h1, hlt, hbad⟩ := rdL_inv 32 false (l.drop k) (l.take k) 10 0 0 (fun y hy => hl y (List.mem_of_mem_drop hy)) (by omega) (by omega) h2
  have h7 : 7 * c.length < 32 := by omega
  have hx : x < 2 ^ (32 - 7 * c.length) := by
    rcases Nat.lt_or_ge (32 - 7 * c.length) 7 with hr | hr
    · have e2 : ((32 : Int) - (0 + 7 * (c.length : Int))) = ((32 - 7 * c.length : Nat) : Int) := by omega
      rw [e2] at hbad
      have hb := hbad (by omega)
      unfold bad at hb
      split at hb
      · rename_i hz; exact beyond_pos x _ h0 h1 hz
      · simp at hb
    · have : (2 : Int) ^ 7 ≤ 2 ^ (32 - 7 * c.length) := pow_mono hr
      have e7 : (2 : Int) ^ 7 = 128 := by decide
      omega
  have r1 := readU_enc 32 c x (l.take k) suf hc h0 h1 (by omega) h7 hx
  rw [← e, ← hsplit, hlen] at r1
  have hv0 := val_nonneg (c ++ [x])
  have hv : val (c ++ [x]) < 4294967296 := by
    rw [val_append, pow_7]
    have ex : x % 128 = x := by omega
    have := val_lt c
    rw [pow_7] at this
    have hb2 : x * 2 ^ (7 * c.length) + 2 ^ (7 * c.length) ≤ 2 ^ 32 := by
      have e : 7 * c.length + (32 - 7 * c.length) = 32 := by omega
      have a1 : 2 ^ (7 * c.length) * (x + 1) ≤ 2 ^ (7 * c.length) * 2 ^ (32 - 7 * c.length) := Int.mul_le_mul_of_nonneg_left (by omega) (Int.le_of_lt (two_pow_pos _))
      rw [Int.mul_add, Int.mul_one] at a1
      have e3 : (2 : Int) ^ 32 = 2 ^ (7 * c.length + (32 - 7 * c.length)) := by rw [e]
      rw [e3, Int.pow_add, Int.mul_comm x]
      exact a1
    have e32 : (2 : Int) ^ 32 = 4294967296 := by decide
    rw [ex, Int.mul_comm]
    omega
  have hll := congrArg List.length e
  simp only [List.length_drop, List.length_append, List.length_cons] at hll
  refine ⟨(val (c ++ [x])).toNat, k + c.length + 1, ?_, by omega, by omega, by omega, by omega⟩
  have r2 : readU l (k : Int) 32 = readU l (k : Int) ((32 : Nat) : Int) := rfl
  rw [r2, r1]
  have a : ((val (c ++ [x])).toNat : Int) = val (c ++ [x]) := by omega
  have b : ((k + c.length + 1 : Nat) : Int) = (k : Int) + c.length + 1 := by omega
  rw [a, b]
theorem rdL_place (l : List Int) (bits : Int) (sg : Bool) : ∀ (k : Nat) (i n p : Int), 0 ≤ i → 0 ≤ (rdL l bits sg k i n p).2.1 ∧ (rdL l bits sg k i n p).2.1 ≤ l.length
  | 0, i, n, p, _ => by simp [rdL]
  | k + 1, i, n, p, h => by
    simp only [rdL]
    split
    · rename_i hi
      split
      · simp
      · split
        · split
          · exact ⟨by show 0 ≤ i + 1; omega, by show i + 1 ≤ (l.length : Int); omega⟩
          · exact ⟨by show 0 ≤ i + 1; omega, by show i + 1 ≤ (l.length : Int); omega⟩
        · split
          · simp
          · exact rdL_place l bits sg k (i + 1) _ _ (by omega)
    · simp
theorem readS_place (l : List Int) (pos bits : Int) : 0 ≤ (readS l pos bits).2.1 ∧ (readS l pos bits).2.1 ≤ l.length := by
  unfold readS readF
  split
  · rename_i h; exact rdL_place l bits true 10 pos 0 0 h.2.2.1
  · simp
theorem readU_place (l : List Int) (pos bits : Int) : 0 ≤ (readU l pos bits).2.1 ∧ (readU l pos bits).2.1 ≤ l.length := by
  unfold readU readF
  split
  · rename_i h; exact rdL_place l bits false 10 pos 0 0 h.2.2.1
  · simp
end Go.Proofs.Ythghmbfbjnedfaa.Lb
