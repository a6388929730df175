/- Layer 2: the model's decoding of a string against the plain count. No program in it. -/
import Derived.Test.YthghmbfbjnedfaaNameSpec
namespace Go.Proofs.Ythghmbfbjnedfaa.Nm
open Go
/-- A string's bytes as numbers. -/
def nb (s : ByteArray) : List Nat := s.data.toList.map UInt8.toNat
theorem nb_length (s : ByteArray) : (nb s).length = s.size := by
  show (s.data.toList.map UInt8.toNat).length = s.data.size
  rw [List.length_map, Array.length_toList]
theorem nb_byte (s : ByteArray) : ∀ x ∈ nb s, x ≤ 255 := by
  intro x hx
  simp only [nb, List.mem_map] at hx
  obtain ⟨y, _, rfl⟩ := hx
  have := y.toNat_lt
  omega
theorem nb_get (s : ByteArray) (i : Nat) : (s.get! i).toNat = (nb s).getD i 0 := by
  by_cases h : i < s.size
  · have h1 : i < s.data.size := h
    have e : s.get! i = s.data[i] := by
      show s.data[i]! = _
      rw [getElem!_pos s.data i h1]
    have e2 : s.data[i]? = some s.data[i] := getElem?_pos s.data i h1
    rw [e]
    simp [nb, List.getD_eq_getElem?_getD, e2]
  · have h1 : ¬ i < s.data.size := h
    have e : s.get! i = 0 := by
      show s.data[i]! = _
      rw [getElem!_neg s.data i h1]
      rfl
    have e2 : s.data[i]? = none := getElem?_neg s.data i h1
    rw [e]
    simp [nb, List.getD_eq_getElem?_getD, e2]
def decL (l : List Nat) : Nat × Nat :=
  let at' (k : Nat) : Nat := l.getD k 0
  let cont (k : Nat) : Bool := decide (k < l.length) && at' k / 64 == 2
  let b0 := at' 0
  if b0 < 128 then (b0, 1)
  else if b0 / 32 == 6 && cont 1 then
    let c := (b0 % 32) * 64 + at' 1 % 64
    if c ≥ 128 then (c, 2) else (65533, 1)
  else if b0 / 16 == 14 && cont 1 && cont 2 then
    let c := (b0 % 16) * 4096 + (at' 1 % 64) * 64 + at' 2 % 64
    if c ≥ 2048 && isPoint c then (c, 3) else (65533, 1)
  else if b0 / 8 == 30 && cont 1 && cont 2 && cont 3 then
    let c := (b0 % 8) * 262144 + (at' 1 % 64) * 4096 + (at' 2 % 64) * 64 + at' 3 % 64
    if c ≥ 65536 && isPoint c then (c, 4) else (65533, 1)
  else (65533, 1)
theorem isPoint_valid (c : Nat) : Utf8.valid (c : Int) = isPoint c := by
  unfold Utf8.valid isPoint
  have e1 : (0 ≤ (c : Int)) := by omega
  have e2 : ((c : Int) < 55296) ↔ c < 55296 := by omega
  have e3 : (57344 ≤ (c : Int)) ↔ 57344 ≤ c := by omega
  have e4 : ((c : Int) ≤ 1114111) ↔ c ≤ 1114111 := by omega
  simp only [e1, e2, e3, e4, decide_true, Bool.true_and]
theorem decode_list (s : ByteArray) (p : Nat) : Utf8.decode s p = decL ((nb s).drop p) := by
  have g : ∀ k, (s.get! (p + k)).toNat = ((nb s).drop p).getD k 0 := fun k => by
    rw [nb_get]
    simp [List.getD_eq_getElem?_getD]
  have c : ∀ k, (p + k < s.size) = (k < ((nb s).drop p).length) := fun k => by
    rw [List.length_drop, nb_length]
    exact propext ⟨fun h => by omega, fun h => by omega⟩
  simp only [Utf8.decode, decL, g, c, Utf8.runeError, ← isPoint_valid]
end Go.Proofs.Ythghmbfbjnedfaa.Nm
