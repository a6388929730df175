/- Layer 2: the walk of the reference's One. -/
import Derived.Test.YthghmbfbjnedfaaNameWalk
namespace Go.Proofs.Ythghmbfbjnedfaa.Nm
open Go.RowKit Go.Proofs.YthghmbfbjnedfaaW.PrintWords Go.Proofs.Ythghmbfbjnedfaa.BitsA Go.Proofs.Ythghmbfbjnedfaa.Lb Go.Proofs.Ythghmbfbjnedfaa.Leb
/-- The reference's sum: the first byte's own bits, then six bits of each byte that follows. -/
def vl (s : ByteArray) (c : Int) : Nat → Int
  | 0 => c
  | k + 1 => vl s c k * 64 + ((nb s).getD (k + 1) 0 : Nat) - 128
def contTo (s : ByteArray) (i : Nat) : Prop := ∀ k, 1 ≤ k → k < i → isCont ((nb s).getD k 0) = true
def okc (n : Nat) (c : Int) : Bool := !(decide (c < (if n = 2 then 128 else if n = 3 then 2048 else 65536)) || decide (1114111 < c) || (decide (55296 ≤ c) && decide (c ≤ 57343)))
theorem isCont_iff {b : Nat} (h : b ≤ 255) : isCont b = true ↔ 128 ≤ b ∧ b ≤ 191 := by
  unfold isCont
  rw [beq_iff_eq]
  constructor <;> omega
theorem list_of (s : ByteArray) (k : Nat) (h : k < s.size) : (nb s).drop k = (nb s).getD k 0 :: (nb s).drop (k + 1) := by
  have hk : k < (nb s).length := by rw [nb_length]; exact h
  have e : (nb s)[k] = (nb s).getD k 0 := by rw [List.getD_eq_getElem?_getD, List.getElem?_eq_getElem hk]; rfl
  rw [← e, ← List.drop_eq_getElem_cons hk]
theorem byte_le (s : ByteArray) (k : Nat) : (nb s).getD k 0 ≤ 255 := by
  by_cases hk : k < (nb s).length
  · have e : (nb s).getD k 0 = (nb s)[k] := by rw [List.getD_eq_getElem?_getD, List.getElem?_eq_getElem hk]; rfl
    rw [e]
    exact nb_byte s _ (List.getElem_mem hk)
  · rw [List.getD_eq_getElem?_getD, List.getElem?_eq_none (by omega)]
    simp
theorem nb0 (s : ByteArray) : nb s = (nb s).drop 0 := rfl
theorem one_1 (s : ByteArray) (h : 0 < s.size) (hb : (nb s).getD 0 0 < 128) : one (nb s) = 1 := by
  have e := list_of s 0 h
  rw [← nb0] at e
  rw [e]
  simp only [one, if_pos hb]
theorem one_short (s : ByteArray) (h : 0 < s.size) (n : Nat) (b0 : 128 ≤ (nb s).getD 0 0) (hn : s.size < n)
    (hc : (n = 2 ∧ (nb s).getD 0 0 / 32 = 6) ∨ (n = 3 ∧ (nb s).getD 0 0 / 16 = 14) ∨ (n = 4 ∧ (nb s).getD 0 0 / 8 = 30)) : one (nb s) = 0 := by
  have hl := nb_length s
  have e := list_of s 0 h
  rw [← nb0] at e
  generalize (nb s).getD 0 0 = b at e b0 hc
  generalize (nb s).drop (0 + 1) = t at e
  rw [e]
  rw [e] at hl
  simp only [List.length_cons] at hl
  have c0 : ¬ b < 128 := by omega
  rcases t with _ | ⟨b1, _ | ⟨b2, _ | ⟨b3, t⟩⟩⟩
  · simp [one, c0]
  · have c1 : ¬ b / 32 = 6 := by simp at hl; omega
    simp [one, c0, c1]
  · have c1 : ¬ b / 32 = 6 := by simp at hl; omega
    have c2 : ¬ b / 16 = 14 := by simp at hl; omega
    simp [one, c0, c1, c2]
  · exfalso
    simp at hl
    omega
theorem one_other (s : ByteArray) (h : 0 < s.size) (b0 : 128 ≤ (nb s).getD 0 0) (hc : ¬ (192 ≤ (nb s).getD 0 0 ∧ (nb s).getD 0 0 < 248)) : one (nb s) = 0 := by
  have e := list_of s 0 h
  rw [← nb0] at e
  generalize (nb s).getD 0 0 = b at e b0 hc
  generalize (nb s).drop (0 + 1) = t at e
  rw [e]
  have c0 : ¬ b < 128 := by omega
  have c1 : ¬ b / 32 = 6 := by omega
  have c2 : ¬ b / 16 = 14 := by omega
  have c3 : ¬ b / 8 = 30 := by omega
  rcases t with _ | ⟨b1, _ | ⟨b2, _ | ⟨b3, t⟩⟩⟩ <;> simp [one, c0, c1, c2, c3]
theorem okc_iff (n : Nat) (c : Nat) : (okc n c = true) ↔ (if n = 2 then 128 else if n = 3 then 2048 else 65536) ≤ c ∧ isPoint c = true := by
  unfold okc isPoint
  simp only [Bool.not_eq_true', Bool.or_eq_false_iff, Bool.and_eq_false_iff, decide_eq_false_iff_not, Bool.or_eq_true, Bool.and_eq_true, decide_eq_true_eq]
  repeat' split
  all_goals omega
/-- All bytes are there. -/
theorem one_full (s : ByteArray) (n : Nat) (hn : n ≤ s.size) (c : Int)
    (hc : (n = 2 ∧ (nb s).getD 0 0 / 32 = 6 ∧ c = (nb s).getD 0 0 - 192) ∨ (n = 3 ∧ (nb s).getD 0 0 / 16 = 14 ∧ c = (nb s).getD 0 0 - 224) ∨ (n = 4 ∧ (nb s).getD 0 0 / 8 = 30 ∧ c = (nb s).getD 0 0 - 240)) :
    (contTo s n → one (nb s) = if okc n (vl s c (n - 1)) = true then n else 0) ∧ (∀ i, 1 ≤ i → i < n → isCont ((nb s).getD i 0) = false → one (nb s) = 0) ∧ (contTo s n → 0 ≤ vl s c (n - 1) ∧ vl s c (n - 1) ≤ 4000000) := by
  have q0 := byte_le s 0
  have q1 := byte_le s 1
  have q2 := byte_le s 2
  have q3 := byte_le s 3
  have e0 := list_of s 0 (by omega)
  rw [← nb0] at e0
  have e1 := list_of s 1 (by omega)
  rw [e1] at e0
  rcases hc with ⟨rfl, hc, hcc⟩ | ⟨rfl, hc, hcc⟩ | ⟨rfl, hc, hcc⟩
  · have c0 : ¬ (nb s).getD 0 0 < 128 := by omega
    have ev : vl s c (2 - 1) = c * 64 + ((nb s).getD 1 0 : Nat) - 128 := rfl
    rw [ev]
    generalize hb0 : (nb s).getD 0 0 = b0 at *
    generalize hb1 : (nb s).getD 1 0 = b1 at *
    have ho : one (nb s) = if isCont b1 = true ∧ 128 ≤ b0 % 32 * 64 + b1 % 64 then 2 else 0 := by
      rw [e0]
      simp only [one, if_neg c0, if_pos hc]
    refine ⟨fun h => ?_, fun i i0 i1 h => ?_, fun h => ?_⟩
    · have h1 := h 1 (by omega) (by omega)
      rw [hb1] at h1
      have h1' := (isCont_iff q1).1 h1
      have e : c * 64 + (b1 : Int) - 128 = ((b0 % 32 * 64 + b1 % 64 : Nat) : Int) := by omega
      rw [ho, e]
      by_cases hk : 128 ≤ b0 % 32 * 64 + b1 % 64
      · rw [if_pos ⟨h1, hk⟩, if_pos ((okc_iff 2 _).2 ⟨hk, by unfold isPoint; simp only [Bool.or_eq_true, decide_eq_true_eq]; left; omega⟩)]
      · rw [if_neg (fun h => hk h.2), if_neg (fun h => hk ((okc_iff 2 _).1 h).1)]
    · obtain rfl : i = 1 := by omega
      rw [hb1] at h
      rw [ho, if_neg (fun k => by rw [h] at k; cases k.1)]
    · have h1 := h 1 (by omega) (by omega)
      rw [hb1] at h1
      have h1' := (isCont_iff q1).1 h1
      omega
  · have c0 : ¬ (nb s).getD 0 0 < 128 := by omega
    have c1 : ¬ (nb s).getD 0 0 / 32 = 6 := by omega
    have e2 := list_of s 2 (by omega)
    rw [e2] at e0
    have ev : vl s c (3 - 1) = (c * 64 + ((nb s).getD 1 0 : Nat) - 128) * 64 + ((nb s).getD 2 0 : Nat) - 128 := rfl
    rw [ev]
    generalize hb0 : (nb s).getD 0 0 = b0 at *
    generalize hb1 : (nb s).getD 1 0 = b1 at *
    generalize hb2 : (nb s).getD 2 0 = b2 at *
    have ho : one (nb s) = if isCont b1 = true ∧ isCont b2 = true ∧ 2048 ≤ b0 % 16 * 4096 + b1 % 64 * 64 + b2 % 64 ∧ isPoint (b0 % 16 * 4096 + b1 % 64 * 64 + b2 % 64) = true then 3 else 0 := by
      rw [e0]
      simp only [one, if_neg c0, if_neg c1, if_pos hc]
    refine ⟨fun h => ?_, fun i i0 i1 h => ?_, fun h => ?_⟩
    · have h1 := h 1 (by omega) (by omega)
      have h2 := h 2 (by omega) (by omega)
      rw [hb1] at h1
      rw [hb2] at h2
      have h1' := (isCont_iff q1).1 h1
      have h2' := (isCont_iff q2).1 h2
      have e : (c * 64 + (b1 : Int) - 128) * 64 + (b2 : Int) - 128 = ((b0 % 16 * 4096 + b1 % 64 * 64 + b2 % 64 : Nat) : Int) := by omega
      rw [ho, e]
      by_cases hk : 2048 ≤ b0 % 16 * 4096 + b1 % 64 * 64 + b2 % 64 ∧ isPoint (b0 % 16 * 4096 + b1 % 64 * 64 + b2 % 64) = true
      · rw [if_pos ⟨h1, h2, hk⟩, if_pos ((okc_iff 3 _).2 hk)]
      · rw [if_neg (fun h => hk h.2.2), if_neg (fun h => hk ((okc_iff 3 _).1 h))]
    · rcases (show i = 1 ∨ i = 2 by omega) with rfl | rfl
      · rw [hb1] at h
        rw [ho, if_neg (fun k => by rw [h] at k; cases k.1)]
      · rw [hb2] at h
        rw [ho, if_neg (fun k => by rw [h] at k; cases k.2.1)]
    · have h1 := h 1 (by omega) (by omega)
      have h2 := h 2 (by omega) (by omega)
      rw [hb1] at h1
      rw [hb2] at h2
      have h1' := (isCont_iff q1).1 h1
      have h2' := (isCont_iff q2).1 h2
      omega
  · have c0 : ¬ (nb s).getD 0 0 < 128 := by omega
    have c1 : ¬ (nb s).getD 0 0 / 32 = 6 := by omega
    have c2 : ¬ (nb s).getD 0 0 / 16 = 14 := by omega
    have e2 := list_of s 2 (by omega)
    rw [e2] at e0
    have e3 := list_of s 3 (by omega)
    rw [e3] at e0
    have ev : vl s c (4 - 1) = ((c * 64 + ((nb s).getD 1 0 : Nat) - 128) * 64 + ((nb s).getD 2 0 : Nat) - 128) * 64 + ((nb s).getD 3 0 : Nat) - 128 := rfl
    rw [ev]
    generalize hb0 : (nb s).getD 0 0 = b0 at *
    generalize hb1 : (nb s).getD 1 0 = b1 at *
    generalize hb2 : (nb s).getD 2 0 = b2 at *
    generalize hb3 : (nb s).getD 3 0 = b3 at *
    have ho : one (nb s) = if isCont b1 = true ∧ isCont b2 = true ∧ isCont b3 = true ∧ 65536 ≤ b0 % 8 * 262144 + b1 % 64 * 4096 + b2 % 64 * 64 + b3 % 64 ∧ isPoint (b0 % 8 * 262144 + b1 % 64 * 4096 + b2 % 64 * 64 + b3 % 64) = true then 4 else 0 := by
      rw [e0]
      simp only [one, if_neg c0, if_neg c1, if_neg c2, if_pos hc]
    refine ⟨fun h => ?_, fun i i0 i1 h => ?_, fun h => ?_⟩
    · have h1 := h 1 (by omega) (by omega)
      have h2 := h 2 (by omega) (by omega)
      have h3 := h 3 (by omega) (by omega)
      rw [hb1] at h1
      rw [hb2] at h2
      rw [hb3] at h3
      have h1' := (isCont_iff q1).1 h1
      have h2' := (isCont_iff q2).1 h2
      have h3' := (isCont_iff q3).1 h3
      have e : ((c * 64 + (b1 : Int) - 128) * 64 + (b2 : Int) - 128) * 64 + (b3 : Int) - 128 = ((b0 % 8 * 262144 + b1 % 64 * 4096 + b2 % 64 * 64 + b3 % 64 : Nat) : Int) := by omega
      rw [ho, e]
      by_cases hk : 65536 ≤ b0 % 8 * 262144 + b1 % 64 * 4096 + b2 % 64 * 64 + b3 % 64 ∧ isPoint (b0 % 8 * 262144 + b1 % 64 * 4096 + b2 % 64 * 64 + b3 % 64) = true
      · rw [if_pos ⟨h1, h2, h3, hk⟩, if_pos ((okc_iff 4 _).2 hk)]
      · rw [if_neg (fun h => hk h.2.2.2), if_neg (fun h => hk ((okc_iff 4 _).1 h))]
    · rcases (show i = 1 ∨ i = 2 ∨ i = 3 by omega) with rfl | rfl | rfl
      · rw [hb1] at h
        rw [ho, if_neg (fun k => by rw [h] at k; cases k.1)]
      · rw [hb2] at h
        rw [ho, if_neg (fun k => by rw [h] at k; cases k.2.1)]
      · rw [hb3] at h
        rw [ho, if_neg (fun k => by rw [h] at k; cases k.2.2.1)]
    · have h1 := h 1 (by omega) (by omega)
      have h2 := h 2 (by omega) (by omega)
      have h3 := h 3 (by omega) (by omega)
      rw [hb1] at h1
      rw [hb2] at h2
      rw [hb3] at h3
      have h1' := (isCont_iff q1).1 h1
      have h2' := (isCont_iff q2).1 h2
      have h3' := (isCont_iff q3).1 h3
      omega
end Go.Proofs.Ythghmbfbjnedfaa.Nm
