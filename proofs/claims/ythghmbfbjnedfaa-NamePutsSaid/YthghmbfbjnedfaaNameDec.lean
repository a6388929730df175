/- Layer 2: what a decoded step says. No program in it. -/
import Derived.Test.YthghmbfbjnedfaaNameUtf
namespace Go.Proofs.Ythghmbfbjnedfaa.Nm
open Go
def wid (c : Nat) : Nat := if c < 128 then 1 else if c < 2048 then 2 else if c < 65536 then 3 else 4
/-- The three bytes of U+FFFD stand ahead. -/
def fffd (l : List Nat) : Prop := 3 ≤ l.length ∧ l.getD 0 0 = 239 ∧ l.getD 1 0 = 191 ∧ l.getD 2 0 = 189
structure Good (l : List Nat) : Prop where
  len : (decL l).2 = one l
  wid : wid (decL l).1 = one l
  err : (decL l).1 = 65533 → fffd l
structure Bad (l : List Nat) : Prop where
  dec : decL l = (65533, 1)
  err : ¬ fffd l
theorem fffd_one {l : List Nat} (h : fffd l) : one l = 3 := by
  rcases l with _ | ⟨b0, _ | ⟨b1, _ | ⟨b2, l⟩⟩⟩
  · simp [fffd] at h
  · simp [fffd] at h
  · simp [fffd] at h
  · simp [fffd] at h
    obtain ⟨rfl, rfl, rfl⟩ := h
    rfl
theorem bad_of {l : List Nat} (h : one l = 0) (hd : decL l = (65533, 1)) : Bad l := ⟨hd, fun hf => by rw [fffd_one hf] at h; cases h⟩
theorem dec_step (l : List Nat) (hl : l ≠ []) (hb : ∀ x ∈ l, x ≤ 255) : (one l = 0 ∧ Bad l) ∨ (one l ≠ 0 ∧ Good l) := by
  rcases l with _ | ⟨b0, l⟩
  · exact absurd rfl hl
  have h0 := hb b0 (by simp)
  by_cases c0 : b0 < 128
  · refine .inr ?_
    have e1 : one (b0 :: l) = 1 := by simp [one, c0]
    have e2 : decL (b0 :: l) = (b0, 1) := by simp [decL, c0]
    refine ⟨by omega, ?_, ?_, ?_⟩
    · rw [e2, e1]
    · rw [e2, e1]; simp [wid, c0]
    · rw [e2]; intro h; simp at h; omega
  rcases l with _ | ⟨b1, l⟩
  · refine .inl ?_
    have e1 : one [b0] = 0 := by simp [one, c0]
    exact ⟨e1, bad_of e1 (by simp [decL, c0])⟩
  have h1 := hb b1 (by simp)
  by_cases c1 : b0 / 32 = 6
  · by_cases c2 : b1 / 64 = 2
    · by_cases c3 : 128 ≤ b0 % 32 * 64 + b1 % 64
      · refine .inr ?_
        have e1 : one (b0 :: b1 :: l) = 2 := by simp [one, c0, c1, c2, c3, isCont]
        have e2 : decL (b0 :: b1 :: l) = (b0 % 32 * 64 + b1 % 64, 2) := by simp [decL, c0, c1, c2, c3]
        refine ⟨by omega, ?_, ?_, ?_⟩
        · rw [e2, e1]
        · rw [e2, e1]
          show wid (b0 % 32 * 64 + b1 % 64) = 2
          unfold wid
          rw [if_neg (by omega), if_pos (by omega)]
        · rw [e2]; intro h; simp at h; omega
      · refine .inl ?_
        have e1 : one (b0 :: b1 :: l) = 0 := by simp [one, c0, c1, c2, c3, isCont]
        exact ⟨e1, bad_of e1 (by simp [decL, c0, c1, c2, c3])⟩
    · refine .inl ?_
      have e1 : one (b0 :: b1 :: l) = 0 := by simp [one, c0, c1, c2, isCont]
      have c4 : ¬ b0 / 16 = 14 := by omega
      have c5 : ¬ b0 / 8 = 30 := by omega
      exact ⟨e1, bad_of e1 (by simp [decL, c0, c1, c2, c4, c5])⟩
  rcases l with _ | ⟨b2, l⟩
  · refine .inl ?_
    have e1 : one [b0, b1] = 0 := by simp [one, c0, c1]
    exact ⟨e1, bad_of e1 (by simp [decL, c0, c1])⟩
  have h2 := hb b2 (by simp)
  by_cases c2 : b0 / 16 = 14
  · have c9 : ¬ b0 / 8 = 30 := by omega
    by_cases c3 : b1 / 64 = 2
    · by_cases c4 : b2 / 64 = 2
      · by_cases c5 : 2048 ≤ b0 % 16 * 4096 + b1 % 64 * 64 + b2 % 64
        · by_cases c6 : isPoint (b0 % 16 * 4096 + b1 % 64 * 64 + b2 % 64) = true
          · refine .inr ?_
            have e1 : one (b0 :: b1 :: b2 :: l) = 3 := by simp [one, c0, c1, c2, c3, c4, c5, c6, isCont]
            have e2 : decL (b0 :: b1 :: b2 :: l) = (b0 % 16 * 4096 + b1 % 64 * 64 + b2 % 64, 3) := by simp [decL, c0, c1, c2, c3, c4, c5, c6]
            refine ⟨by omega, ?_, ?_, ?_⟩
            · rw [e2, e1]
            · rw [e2, e1]
              show wid (b0 % 16 * 4096 + b1 % 64 * 64 + b2 % 64) = 3
              unfold wid
              rw [if_neg (by omega), if_neg (by omega), if_pos (by omega)]
            · rw [e2]
              intro h
              simp only at h
              refine ⟨by simp, ?_, ?_, ?_⟩
              · show b0 = 239
                omega
              · show b1 = 191
                omega
              · show b2 = 189
                omega
          · refine .inl ?_
            have e1 : one (b0 :: b1 :: b2 :: l) = 0 := by simp [one, c0, c1, c2, c3, c4, c5, c6, isCont]
            exact ⟨e1, bad_of e1 (by simp [decL, c0, c1, c2, c3, c4, c5, c6])⟩
        · refine .inl ?_
          have e1 : one (b0 :: b1 :: b2 :: l) = 0 := by simp [one, c0, c1, c2, c3, c4, c5, isCont]
          exact ⟨e1, bad_of e1 (by simp [decL, c0, c1, c2, c3, c4, c5])⟩
      · refine .inl ?_
        have e1 : one (b0 :: b1 :: b2 :: l) = 0 := by simp [one, c0, c1, c2, c3, c4, isCont]
        exact ⟨e1, bad_of e1 (by simp [decL, c0, c1, c2, c3, c4, c9])⟩
    · refine .inl ?_
      have e1 : one (b0 :: b1 :: b2 :: l) = 0 := by simp [one, c0, c1, c2, c3, isCont]
      exact ⟨e1, bad_of e1 (by simp [decL, c0, c1, c2, c3, c9])⟩
  rcases l with _ | ⟨b3, l⟩
  · refine .inl ?_
    have e1 : one [b0, b1, b2] = 0 := by simp [one, c0, c1, c2]
    exact ⟨e1, bad_of e1 (by simp [decL, c0, c1, c2])⟩
  have h3 := hb b3 (by simp)
  by_cases c3 : b0 / 8 = 30
  · by_cases k : b1 / 64 = 2 ∧ b2 / 64 = 2 ∧ b3 / 64 = 2 ∧ 65536 ≤ b0 % 8 * 262144 + b1 % 64 * 4096 + b2 % 64 * 64 + b3 % 64 ∧ isPoint (b0 % 8 * 262144 + b1 % 64 * 4096 + b2 % 64 * 64 + b3 % 64) = true
    · obtain ⟨k1, k2, k3, k4, k5⟩ := k
      refine .inr ?_
      have e1 : one (b0 :: b1 :: b2 :: b3 :: l) = 4 := by simp [one, c0, c1, c2, c3, k1, k2, k3, k4, k5, isCont]
      have e2 : decL (b0 :: b1 :: b2 :: b3 :: l) = (b0 % 8 * 262144 + b1 % 64 * 4096 + b2 % 64 * 64 + b3 % 64, 4) := by simp [decL, c0, c1, c2, c3, k1, k2, k3, k4, k5]
      refine ⟨by omega, ?_, ?_, ?_⟩
      · rw [e2, e1]
      · rw [e2, e1]
        show wid (b0 % 8 * 262144 + b1 % 64 * 4096 + b2 % 64 * 64 + b3 % 64) = 4
        unfold wid
        rw [if_neg (by omega), if_neg (by omega), if_neg (by omega)]
      · rw [e2]; intro h; simp only at h; omega
    · refine .inl ?_
      have e1 : one (b0 :: b1 :: b2 :: b3 :: l) = 0 := by
        simp only [one, if_neg c0, if_neg c1, if_neg c2, if_pos c3, isCont, beq_iff_eq]
        rw [if_neg k]
      refine ⟨e1, bad_of e1 ?_⟩
      by_cases k1 : b1 / 64 = 2
      · by_cases k2 : b2 / 64 = 2
        · by_cases k3 : b3 / 64 = 2
          · have k4 : 65536 ≤ b0 % 8 * 262144 + b1 % 64 * 4096 + b2 % 64 * 64 + b3 % 64 → isPoint (b0 % 8 * 262144 + b1 % 64 * 4096 + b2 % 64 * 64 + b3 % 64) = false := fun h => by
              cases hp : isPoint (b0 % 8 * 262144 + b1 % 64 * 4096 + b2 % 64 * 64 + b3 % 64) with
              | false => rfl
              | true => exact absurd ⟨k1, k2, k3, h, hp⟩ k
            simp [decL, c0, c1, c2, c3, k1, k2, k3]
            intro h
            exact k4 h
          · simp [decL, c0, c1, c2, k3]
        · simp [decL, c0, c1, c2, k2]
      · simp [decL, c0, c1, c2, k1]
  · refine .inl ?_
    have e1 : one (b0 :: b1 :: b2 :: b3 :: l) = 0 := by simp [one, c0, c1, c2, c3]
    exact ⟨e1, bad_of e1 (by simp [decL, c0, c1, c2, c3])⟩
/-- The count as a number: -1 for none. -/
def CI (l : List Nat) : Int := match count l with | some n => n | none => -1
theorem CI_nil : CI [] = 0 := rfl
theorem CI_bad {l : List Nat} (hl : l ≠ []) (h : one l = 0) : CI l = -1 := by
  unfold CI
  rw [count_step l hl, if_pos h]
theorem CI_good {l : List Nat} (hl : l ≠ []) (h : one l ≠ 0) : CI l = if CI (l.drop (one l)) < 0 then -1 else CI (l.drop (one l)) + 1 := by
  unfold CI
  rw [count_step l hl, if_neg h]
  cases count (l.drop (one l)) with
  | none => rfl
  | some n =>
    show ((n + 1 : Nat) : Int) = if ((n : Nat) : Int) < 0 then -1 else (n : Int) + 1
    rw [if_neg (by omega)]
    omega
theorem CI_ge (l : List Nat) : -1 ≤ CI l := by
  unfold CI
  split <;> omega
theorem cnt_le : ∀ (k : Nat) (l : List Nat) (n : Nat), cnt k l = some n → n ≤ l.length
  | 0, _, _, h => by cases h
  | k + 1, l, n, h => by
    unfold cnt at h
    split at h
    · injection h with h; omega
    · split at h
      · cases h
      · rename_i h1 h2
        cases hc : cnt k (l.drop (one l)) with
        | none => rw [hc] at h; cases h
        | some m =>
          rw [hc] at h
          have e : m + 1 = n := by simpa using h
          have := cnt_le k _ m hc
          rw [List.length_drop] at this
          have := one_le l
          omega
theorem CI_le (l : List Nat) : CI l ≤ l.length := by
  unfold CI
  split
  · rename_i n h
    have := cnt_le _ _ _ h
    omega
  · omega
end Go.Proofs.Ythghmbfbjnedfaa.Nm
