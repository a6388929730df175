/- What layer 2 (name) computes, as plain functions on lists of bytes: no program in it. -/
import Derived.WalkKit
namespace Go.Proofs.Ythghmbfbjnedfaa.Nm
open Go
/-- A byte that goes on a character. -/
def isCont (b : Nat) : Bool := b / 64 == 2
/-- Is it a code point? -/
def isPoint (c : Nat) : Bool := decide (c < 55296) || (decide (57344 ≤ c) && decide (c ≤ 1114111))
/-- How many bytes the character that stands ahead has; 0: none does. -/
def one : List Nat → Nat
  | [] => 0
  | b0 :: t =>
    if b0 < 128 then 1
    else match t with
      | [] => 0
      | b1 :: t =>
        if b0 / 32 = 6 then
          if isCont b1 = true ∧ 128 ≤ b0 % 32 * 64 + b1 % 64 then 2 else 0
        else match t with
          | [] => 0
          | b2 :: t =>
            if b0 / 16 = 14 then
              if isCont b1 = true ∧ isCont b2 = true ∧ 2048 ≤ b0 % 16 * 4096 + b1 % 64 * 64 + b2 % 64 ∧ isPoint (b0 % 16 * 4096 + b1 % 64 * 64 + b2 % 64) = true then 3 else 0
            else match t with
              | [] => 0
              | b3 :: _ =>
                if b0 / 8 = 30 then
                  if isCont b1 = true ∧ isCont b2 = true ∧ isCont b3 = true ∧ 65536 ≤ b0 % 8 * 262144 + b1 % 64 * 4096 + b2 % 64 * 64 + b3 % 64 ∧ isPoint (b0 % 8 * 262144 + b1 % 64 * 4096 + b2 % 64 * 64 + b3 % 64) = true then 4 else 0
                else 0
theorem one_le : ∀ l, one l ≤ l.length := by
  intro l
  unfold one
  repeat' split
  all_goals simp
theorem one_le4 : ∀ l, one l ≤ 4 := by
  intro l
  unfold one
  repeat' split
  all_goals simp
/-- A character depends on its own bytes alone. -/
theorem one_append (l m : List Nat) (h : one l ≠ 0) : one (l ++ m) = one l := by
  rcases l with _ | ⟨b0, l⟩
  · simp [one] at h
  simp only [one, List.cons_append] at h ⊢
  by_cases c0 : b0 < 128
  · rw [if_pos c0, if_pos c0]
  rw [if_neg c0] at h
  rw [if_neg c0, if_neg c0]
  rcases l with _ | ⟨b1, l⟩
  · simp at h
  simp only [List.cons_append] at h ⊢
  by_cases c1 : b0 / 32 = 6
  · rw [if_pos c1, if_pos c1]
  rw [if_neg c1] at h
  rw [if_neg c1, if_neg c1]
  rcases l with _ | ⟨b2, l⟩
  · simp at h
  simp only [List.cons_append] at h ⊢
  by_cases c2 : b0 / 16 = 14
  · rw [if_pos c2, if_pos c2]
  rw [if_neg c2] at h
  rw [if_neg c2, if_neg c2]
  rcases l with _ | ⟨b3, l⟩
  · simp at h
  simp only [List.cons_append]
/-- How many characters; none: it is not well-formed. -/
def cnt : Nat → List Nat → Option Nat
  | 0, _ => none
  | k + 1, l => if l = [] then some 0 else if one l = 0 then none else (cnt k (l.drop (one l))).map (· + 1)
def count (l : List Nat) : Option Nat := cnt (l.length + 1) l
theorem cnt_fuel : ∀ (k k' : Nat) (l : List Nat), l.length < k → l.length < k' → cnt k l = cnt k' l
  | 0, _, _, h, _ => by omega
  | _, 0, _, _, h => by omega
  | k + 1, k' + 1, l, h, h' => by
    unfold cnt
    split
    · rfl
    · split
      · rfl
      · rename_i h1 h2
        have : 0 < l.length := List.length_pos_iff.2 h1
        rw [cnt_fuel k k' _ (by simp; omega) (by simp; omega)]
theorem count_nil : count [] = some 0 := rfl
theorem count_step (l : List Nat) (h : l ≠ []) : count l = if one l = 0 then none else (count (l.drop (one l))).map (· + 1) := by
  have hp : 0 < l.length := List.length_pos_iff.2 h
  unfold count
  conv => lhs; unfold cnt
  rw [if_neg h]
  split
  · rfl
  · rename_i h2
    rw [cnt_fuel l.length ((l.drop (one l)).length + 1) _ (by simp; omega) (by simp)]
/-- Two parts, the first well-formed. -/
theorem count_append : ∀ (n : Nat) (l m : List Nat), l.length ≤ n → ∀ a, count l = some a → count (l ++ m) = (count m).map (· + a)
  | n, [], m, _, a, h => by
    rw [count_nil] at h
    injection h with h
    subst h
    simp
  | 0, b :: l, m, hn, a, h => by simp at hn
  | n + 1, b :: l, m, hn, a, h => by
    rw [count_step _ (by simp)] at h
    by_cases h0 : one (b :: l) = 0
    · rw [if_pos h0] at h; cases h
    · rw [if_neg h0] at h
      have hle := one_le (b :: l)
      rw [count_step ((b :: l) ++ m) (by simp), one_append _ _ h0, if_neg h0, List.drop_append_of_le_length hle]
      cases hc : count ((b :: l).drop (one (b :: l))) with
      | none => rw [hc] at h; cases h
      | some c =>
        rw [hc] at h
        have : a = c + 1 := by simpa using h.symm
        subst this
        rw [count_append n _ m (by simp at hn ⊢; omega) c hc]
        cases count m <;> simp; omega
end Go.Proofs.Ythghmbfbjnedfaa.Nm
