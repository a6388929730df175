/- Layer 2: names that are joined and cut. No program in it. -/
import Derived.Test.YthghmbfbjnedfaaNameDec
namespace Go.Proofs.Ythghmbfbjnedfaa.Nm
open Go
theorem one_cont {b : Nat} (h : isCont b = true) (t : List Nat) : one (b :: t) = 0 := by
  have h2 : b / 64 = 2 := by simpa [isCont] using h
  have c0 : ¬ b < 128 := by omega
  have c1 : ¬ b / 32 = 6 := by omega
  have c2 : ¬ b / 16 = 14 := by omega
  have c3 : ¬ b / 8 = 30 := by omega
  rcases t with _ | ⟨b1, _ | ⟨b2, _ | ⟨b3, t⟩⟩⟩ <;> simp [one, c0, c1, c2, c3]
/-- A character ahead: its own bytes are whole in the first part, or the second part opens with a byte that goes on. -/
theorem one_split (l m : List Nat) (hl : l ≠ []) (h : one (l ++ m) ≠ 0) : one l = one (l ++ m) ∨ (l.length < one (l ++ m) ∧ ∃ b t, m = b :: t ∧ isCont b = true) := by
  by_cases h0 : one l = 0
  · refine .inr ?_
    rcases l with _ | ⟨b0, l⟩
    · exact absurd rfl hl
    by_cases c0 : b0 < 128
    · simp [one, c0] at h0
    rcases l with _ | ⟨b1, l⟩
    · rcases m with _ | ⟨b1, m⟩
      · rw [List.append_nil] at h; exact absurd h0 h
      · have hc : isCont b1 = true := by
          rcases m with _ | ⟨b2, _ | ⟨b3, m⟩⟩
          all_goals
            simp only [List.cons_append, List.nil_append, one, if_neg c0] at h
            split at h
            · split at h
              · rename_i hc; exact hc.1
              · exact absurd rfl h
            · first
              | exact absurd rfl h
              | (split at h
                 · split at h
                   · rename_i hc; exact hc.1
                   · exact absurd rfl h
                 · first
                   | exact absurd rfl h
                   | (split at h
                      · split at h
                        · rename_i hc; exact hc.1
                        · exact absurd rfl h
                      · exact absurd rfl h))
        refine ⟨?_, b1, m, rfl, hc⟩
        rcases m with _ | ⟨b2, _ | ⟨b3, m⟩⟩
        all_goals
          simp only [List.cons_append, List.nil_append, one, if_neg c0] at h ⊢
          repeat' split
          all_goals first | (simp; done) | (simp_all; done)
    rcases l with _ | ⟨b2, l⟩
    · by_cases c1 : b0 / 32 = 6
      · simp only [one, if_neg c0, if_pos c1] at h0
        simp only [List.cons_append, List.nil_append, one, if_neg c0, if_pos c1] at h
        exact absurd h0 h
      rcases m with _ | ⟨b2, m⟩
      · rw [List.append_nil] at h; exact absurd h0 h
      · have hc : isCont b2 = true := by
          rcases m with _ | ⟨b3, m⟩
          all_goals
            simp only [List.cons_append, List.nil_append, one, if_neg c0, if_neg c1] at h
            split at h
            · split at h
              · rename_i hc; exact hc.2.1
              · exact absurd rfl h
            · first
              | exact absurd rfl h
              | (split at h
                 · split at h
                   · rename_i hc; exact hc.2.1
                   · exact absurd rfl h
                 · exact absurd rfl h)
        refine ⟨?_, b2, m, rfl, hc⟩
        rcases m with _ | ⟨b3, m⟩
        all_goals
          simp only [List.cons_append, List.nil_append, one, if_neg c0, if_neg c1] at h ⊢
          repeat' split
          all_goals first | (simp; done) | (simp_all; done)
    rcases l with _ | ⟨b3, l⟩
    · by_cases c1 : b0 / 32 = 6
      · simp only [one, if_neg c0, if_pos c1] at h0
        simp only [List.cons_append, List.nil_append, one, if_neg c0, if_pos c1] at h
        exact absurd h0 h
      by_cases c2 : b0 / 16 = 14
      · simp only [one, if_neg c0, if_neg c1, if_pos c2] at h0
        simp only [List.cons_append, List.nil_append, one, if_neg c0, if_neg c1, if_pos c2] at h
        exact absurd h0 h
      rcases m with _ | ⟨b3, m⟩
      · rw [List.append_nil] at h; exact absurd h0 h
      · simp only [List.cons_append, List.nil_append, one, if_neg c0, if_neg c1, if_neg c2] at h ⊢
        split at h
        · rename_i c3
          split at h
          · rename_i hc
            rw [if_pos c3, if_pos hc]
            exact ⟨by simp, b3, m, rfl, hc.2.2.1⟩
          · exact absurd rfl h
        · exact absurd rfl h
    · exfalso
      simp only [one, if_neg c0] at h0
      simp only [List.cons_append, one, if_neg c0] at h
      exact h h0
  · exact .inl (one_append l m h0).symm
theorem count_bad {l : List Nat} (hl : l ≠ []) (h : one l = 0) : count l = none := by rw [count_step l hl, if_pos h]
theorem count_none_append : ∀ (n : Nat) (l m : List Nat), l.length ≤ n → count l = none → ∀ k, count m = some k → count (l ++ m) = none
  | n, [], m, _, h, _, _ => by cases h
  | 0, b :: l, m, hn, _, _, _ => by simp at hn
  | n + 1, b :: l, m, hn, h, k, hm => by
    by_cases h0 : one (b :: l) = 0
    · by_cases h1 : one ((b :: l) ++ m) = 0
      · exact count_bad (by simp) h1
      · rcases one_split (b :: l) m (by simp) h1 with h2 | ⟨_, c, t, rfl, hc⟩
        · exact absurd (h2 ▸ h0) h1
        · rw [count_bad (by simp) (one_cont hc t)] at hm
          cases hm
    · have hle := one_le (b :: l)
      rw [count_step _ (by simp), if_neg h0] at h
      rw [count_step ((b :: l) ++ m) (by simp), one_append _ _ h0, if_neg h0, List.drop_append_of_le_length hle]
      have h2 : count ((b :: l).drop (one (b :: l))) = none := by
        cases hc : count ((b :: l).drop (one (b :: l))) with
        | none => rfl
        | some c => rw [hc] at h; cases h
      rw [count_none_append n _ m (by simp at hn ⊢; omega) h2 k hm]
      rfl
/-- Cut where a character begins: both parts are well-formed. -/
theorem count_cut : ∀ (n : Nat) (l : List Nat) (b : Nat) (t : List Nat), l.length ≤ n → isCont b = false → ∀ k, count (l ++ b :: t) = some k → ∃ i j, count l = some i ∧ count (b :: t) = some j
  | n, [], b, t, _, _, k, h => ⟨0, k, rfl, h⟩
  | 0, c :: l, b, t, hn, _, _, _ => by simp at hn
  | n + 1, c :: l, b, t, hn, hb, k, h => by
    rw [count_step _ (by simp)] at h
    by_cases h0 : one ((c :: l) ++ b :: t) = 0
    · rw [if_pos h0] at h; cases h
    · rw [if_neg h0] at h
      rcases one_split (c :: l) (b :: t) (by simp) h0 with h2 | ⟨_, c', t', e, hc⟩
      · rw [← h2] at h h0
        have hle := one_le (c :: l)
        rw [List.drop_append_of_le_length hle] at h
        cases hq : count ((c :: l).drop (one (c :: l)) ++ b :: t) with
        | none => rw [hq] at h; cases h
        | some q =>
          obtain ⟨i, j, hi, hj⟩ := count_cut n ((c :: l).drop (one (c :: l))) b t (by simp at hn ⊢; omega) hb q hq
          exact ⟨i + 1, j, by rw [count_step _ (by simp), if_neg h0, hi]; rfl, hj⟩
      · injection e with e1 e2
        subst e1
        rw [hb] at hc
        cases hc
/-- Well-formed. -/
def wl (l : List Nat) : Bool := decide (0 ≤ CI l)
theorem wl_iff (l : List Nat) : wl l = (count l).isSome := by
  unfold wl CI
  cases count l <;> simp
theorem wl_some {l : List Nat} (h : wl l = true) : ∃ k, count l = some k := by
  rw [wl_iff] at h
  exact Option.isSome_iff_exists.1 h
theorem wl_none {l : List Nat} (h : wl l = false) : count l = none := by
  rw [wl_iff] at h
  cases hc : count l with
  | none => rfl
  | some k => rw [hc] at h; cases h
theorem wl_append {l : List Nat} (m : List Nat) (h : wl l = true) : wl (l ++ m) = wl m := by
  obtain ⟨k, hk⟩ := wl_some h
  rw [wl_iff, wl_iff, count_append _ l m (Nat.le_refl _) k hk]
  cases count m <;> rfl
theorem wl_append2 {l m : List Nat} (h : wl l = false) (hm : wl m = true) : wl (l ++ m) = false := by
  obtain ⟨k, hk⟩ := wl_some hm
  rw [wl_iff, count_none_append _ l m (Nat.le_refl _) (wl_none h) k hk]
  rfl
theorem wl_append' {l m : List Nat} (hm : wl m = true) : wl (l ++ m) = wl l := by
  cases h : wl l with
  | true => rw [wl_append m h, hm]
  | false => exact wl_append2 h hm
theorem CI_append {l m : List Nat} (h : wl l = true) (hm : wl m = true) : CI (l ++ m) = CI l + CI m := by
  obtain ⟨k, hk⟩ := wl_some h
  obtain ⟨j, hj⟩ := wl_some hm
  unfold CI
  rw [count_append _ l m (Nat.le_refl _) k hk, hk, hj]
  simp
  omega
theorem wl_cut {l : List Nat} {b : Nat} {t : List Nat} (h : wl (l ++ b :: t) = true) : wl l = !isCont b ∧ wl (b :: t) = !isCont b := by
  cases hb : isCont b with
  | false =>
    obtain ⟨k, hk⟩ := wl_some h
    obtain ⟨i, j, hi, hj⟩ := count_cut _ l b t (Nat.le_refl _) hb k hk
    rw [wl_iff, wl_iff, hi, hj]
    exact ⟨rfl, rfl⟩
  | true =>
    have h2 : wl (b :: t) = false := by rw [wl_iff, count_bad (by simp) (one_cont hb t)]; rfl
    refine ⟨?_, h2⟩
    cases hl : wl l with
    | false => rfl
    | true => rw [wl_append _ hl, h2] at h; cases h
theorem wl_nil : wl [] = true := rfl
end Go.Proofs.Ythghmbfbjnedfaa.Nm
