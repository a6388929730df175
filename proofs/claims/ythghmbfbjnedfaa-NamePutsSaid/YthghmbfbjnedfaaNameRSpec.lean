/- Layer 2: what Read and Put compute. No program in it. -/
import Derived.Test.YthghmbfbjnedfaaNameDec
import Derived.Test.YthghmbfbjnedfaaLebLawA
import Derived.Test.YthghmbfbjnedfaaLebPlainI
namespace Go.Proofs.Ythghmbfbjnedfaa.Nm
open Go Go.RowKit Go.Proofs.YthghmbfbjnedfaaW.PrintWords Go.Proofs.Ythghmbfbjnedfaa.Lb
theorem readU_ok (l : List Int) (at_ : Int) (hl : ∀ y ∈ l, 0 ≤ y ∧ y ≤ 255) (h : (readU l at_ 32).2.2 = 0) :
    ∃ n next : Nat, readU l at_ 32 = ((n : Int), (next : Int), 0) ∧ n < 4294967296 ∧ at_ < next ∧ next ≤ l.length ∧ 0 ≤ at_ := by
  have hat : 0 ≤ at_ ∧ at_ ≤ l.length := by
    unfold readU readF at h
    split at h
    · rename_i hc; exact hc.2.2
    · cases h
  obtain ⟨k, rfl⟩ : ∃ k : Nat, at_ = k := ⟨at_.toNat, by omega⟩
  have hlen : (l.take k).length = k := by rw [List.length_take]; omega
  have hsplit : l = l.take k ++ l.drop k := (List.take_append_drop k l).symm
  have h2 : (rdL (l.take k ++ l.drop k) 32 false 10 (l.take k).length 0 0).2.2 = 0 := by
    rw [← hsplit, hlen]
    unfold readU readF at h
    rwa [if_pos ⟨by omega, by omega, by omega, by omega⟩] at h
  obtain ⟨c, x, suf, e, hc, h0, h1, hlt, hbad⟩ := rdL_inv 32 false (l.drop k) (l.take k) 10 0 0 (fun y hy => hl y (List.mem_of_mem_drop hy)) (by omega) (by omega) h2
  have h7 : 7 * c.length < 32 := by omega
  have hx : x < 2 ^ (32 - 7 * c.length) := by
    rcases Nat.lt_or_ge (32 - 7 * c.length) 7 with hr | hr
    · have e2 : ((32 : Int) - (0 + 7 * (c.length : Int))) = ((32 - 7 * c.length : Nat) : Int) := by omega
      rw [e2] at hbad
      have hb := hbad (by omega)
      unfold bad at hb
      split at hb
      · rename_i hz; exact beyond_pos x _ h0 h1 hz
      · simp at hb
    · have : (2 : Int) ^ 7 ≤ 2 ^ (32 - 7 * c.length) := pow_mono hr
      have e7 : (2 : Int) ^ 7 = 128 := by decide
      omega
  have r1 := readU_enc 32 c x (l.take k) suf hc h0 h1 (by omega) h7 hx
  rw [← e, ← hsplit, hlen] at r1
  have hv0 := val_nonneg (c ++ [x])
  have hv : val (c ++ [x]) < 4294967296 := by
    rw [val_append, pow_7]
    have ex : x % 128 = x := by omega
    have := val_lt c
    rw [pow_7] at this
    have hb2 : x * 2 ^ (7 * c.length) + 2 ^ (7 * c.length) ≤ 2 ^ 32 := by
      have e : 7 * c.length + (32 - 7 * c.length) = 32 := by omega
      have a1 : 2 ^ (7 * c.length) * (x + 1) ≤ 2 ^ (7 * c.length) * 2 ^ (32 - 7 * c.length) := Int.mul_le_mul_of_nonneg_left (by omega) (Int.le_of_lt (two_pow_pos _))
      rw [Int.mul_add, Int.mul_one] at a1
      have e3 : (2 : Int) ^ 32 = 2 ^ (7 * c.length + (32 - 7 * c.length)) := by rw [e]
      rw [e3, Int.pow_add, Int.mul_comm x]
      exact a1
    have e32 : (2 : Int) ^ 32 = 4294967296 := by decide
    rw [ex, Int.mul_comm]
    omega
  have hll := congrArg List.length e
  simp only [List.length_drop, List.length_append, List.length_cons] at hll
  refine ⟨(val (c ++ [x])).toNat, k + c.length + 1, ?_, by omega, by omega, by omega, by omega⟩
  have r2 : readU l (k : Int) 32 = readU l (k : Int) ((32 : Nat) : Int) := rfl
  rw [r2, r1]
  have a : ((val (c ++ [x])).toNat : Int) = val (c ++ [x]) := by omega
  have b : ((k + c.length + 1 : Nat) : Int) = (k : Int) + c.length + 1 := by omega
  rw [a, b]
/-- A name that is read: its bytes, the place behind it, the error. -/
def rdN (l : List Int) (at_ : Int) : List Int × Int × Int :=
  if (readU l at_ 32).2.2 ≠ 0 then ([], 0, (readU l at_ 32).2.2)
  else if (l.length : Int) - (readU l at_ 32).2.1 < (readU l at_ 32).1 then ([], 0, 10)
  else if CI (((l.drop (readU l at_ 32).2.1.toNat).take (readU l at_ 32).1.toNat).map Int.toNat) < 0 then ([], 0, 20)
  else ((l.drop (readU l at_ 32).2.1.toNat).take (readU l at_ 32).1.toNat, (readU l at_ 32).2.1 + (readU l at_ 32).1, 0)
theorem readU_out (l : List Int) (at_ : Int) (h : at_ < 0 ∨ (l.length : Int) < at_) : readU l at_ 32 = (0, 0, 2) := by
  unfold readU readF
  rw [if_neg (by omega)]
theorem rdN_err {l : List Int} {at_ n x e : Int} (h : readU l at_ 32 = (n, x, e)) (he : e ≠ 0) : rdN l at_ = ([], 0, e) := by
  unfold rdN
  rw [h, if_pos he]
theorem rdN_end {l : List Int} {at_ n x : Int} (h : readU l at_ 32 = (n, x, 0)) (he : (l.length : Int) - x < n) : rdN l at_ = ([], 0, 10) := by
  unfold rdN
  rw [h, if_neg (by simp), if_pos he]
theorem rdN_name {l : List Int} {at_ : Int} {n x : Nat} (h : readU l at_ 32 = ((n : Int), (x : Int), 0)) (he : ¬ (l.length : Int) - x < n) (hc : CI (((l.drop x).take n).map Int.toNat) < 0) : rdN l at_ = ([], 0, 20) := by
  unfold rdN
  rw [h, if_neg (by simp), if_neg he]
  simp only [Int.toNat_natCast]
  rw [if_pos hc]
theorem rdN_ok {l : List Int} {at_ : Int} {n x : Nat} (h : readU l at_ 32 = ((n : Int), (x : Int), 0)) (he : ¬ (l.length : Int) - x < n) (hc : ¬ CI (((l.drop x).take n).map Int.toNat) < 0) :
    rdN l at_ = ((l.drop x).take n, (x : Int) + n, 0) := by
  unfold rdN
  rw [h, if_neg (by simp), if_neg he]
  simp only [Int.toNat_natCast]
  rw [if_neg hc]
theorem nb_str (xs : List Int) (h : ∀ x ∈ xs, 0 ≤ x ∧ x ≤ 255) : nb (strOfNums xs) = xs.map Int.toNat := by
  unfold nb
  rw [strOfNums_data, List.map_map]
  refine List.map_congr_left fun x hx => ?_
  have := h x hx
  simp
  omega
theorem str_nil : strOfNums [] = ⟨#[]⟩ := rfl
/-- A string's bytes as the program's numbers. -/
def ib (s : ByteArray) : List Int := s.data.toList.map fun b => (b.toNat : Int)
theorem ib_length (s : ByteArray) : (ib s).length = s.size := by
  show (s.data.toList.map _).length = s.data.size
  rw [List.length_map, Array.length_toList]
theorem ib_byte (s : ByteArray) : ∀ x ∈ ib s, 0 ≤ x ∧ x ≤ 255 := by
  intro x hx
  simp only [ib, List.mem_map] at hx
  obtain ⟨y, _, rfl⟩ := hx
  have := y.toNat_lt
  omega
theorem ib_nat (s : ByteArray) : (ib s).map Int.toNat = nb s := by
  simp only [ib, nb, List.map_map]
  refine List.map_congr_left fun x _ => ?_
  simp
end Go.Proofs.Ythghmbfbjnedfaa.Nm
