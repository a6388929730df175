/- Layer 2: what was put is read again. No program in it. -/
import Derived.Test.YthghmbfbjnedfaaNameRead
import Derived.Test.YthghmbfbjnedfaaNameLaw
namespace Go.Proofs.Ythghmbfbjnedfaa.Nm
open Go Go.RowKit Go.Proofs.YthghmbfbjnedfaaW.PrintWords Go.Proofs.Ythghmbfbjnedfaa.Lb Go.Proofs.Ythghmbfbjnedfaa.Leb
theorem bytesOf_byte (s : ByteArray) : ∀ x ∈ bytesOf s, 0 ≤ x ∧ x ≤ 255 := by
  intro x hx
  simp only [bytesOf, List.mem_map] at hx
  obtain ⟨y, _, rfl⟩ := hx
  have := y.toNat_lt
  omega
theorem bytesOf_nat (s : ByteArray) : (bytesOf s).map Int.toNat = nb s := by
  simp only [bytesOf, nb, List.map_map]
  refine List.map_congr_left fun x _ => ?_
  simp
theorem str_bytesOf (s : ByteArray) : strOfNums (bytesOf s) = s := by
  have h : (bytesOf s).map (fun n => UInt8.ofNat n.toNat) = s.data.toList := by
    simp only [bytesOf, List.map_map]
    conv => rhs; rw [← List.map_id s.data.toList]
    refine List.map_congr_left fun x _ => ?_
    simp
  unfold strOfNums
  rw [h]
theorem bytesOf_str (xs : List Int) (h : ∀ x ∈ xs, 0 ≤ x ∧ x ≤ 255) : bytesOf (strOfNums xs) = xs := by
  unfold bytesOf
  rw [strOfNums_data, List.map_map]
  conv => rhs; rw [← List.map_id xs]
  refine List.map_congr_left fun x hx => ?_
  have := h x hx
  simp
  omega
theorem rdN_put (s : ByteArray) (pre suf : List Int) (hs : s.size ≤ 100000) (hw : wl (nb s) = true) :
    rdN ((pre ++ (U s.size ++ bytesOf s)) ++ suf) pre.length = (bytesOf s, (pre.length : Int) + ((U s.size ++ bytesOf s).length : Int), 0) := by
  have e : (pre ++ (U s.size ++ bytesOf s)) ++ suf = pre ++ (U s.size ++ (bytesOf s ++ suf)) := by simp [List.append_assoc]
  have hlt : ((s.size : Nat) : Int) < 2 ^ 32 := by
    have e32 : (2 : Int) ^ 32 = 4294967296 := by decide
    omega
  have hu := readU_put 32 s.size pre (bytesOf s ++ suf) (by omega) (by omega) (by omega) hlt
  rw [← e] at hu
  have hu2 : readU ((pre ++ (U s.size ++ bytesOf s)) ++ suf) (pre.length : Int) 32 = (((s.size : Nat) : Int), ((pre.length + (U s.size).length : Nat) : Int), 0) := by
    rw [show ((pre.length + (U s.size).length : Nat) : Int) = (pre.length : Int) + (U s.size).length by omega]
    exact hu
  have hd : (((pre ++ (U s.size ++ bytesOf s)) ++ suf).drop (pre.length + (U s.size).length)).take s.size = bytesOf s := by
    have e2 : (pre ++ (U s.size ++ bytesOf s)) ++ suf = (pre ++ U s.size) ++ (bytesOf s ++ suf) := by simp [List.append_assoc]
    rw [e2, List.drop_append_of_le_length (by rw [List.length_append]; omega), List.drop_eq_nil_of_le (by rw [List.length_append]; omega), List.nil_append,
      List.take_append_of_le_length (by rw [bytesOf_length]; omega), List.take_of_length_le (by rw [bytesOf_length]; omega)]
  have hok := rdN_ok hu2 (by simp only [List.length_append, bytesOf_length]; omega) (by rw [hd, bytesOf_nat]; have := of_decide_eq_true hw; omega)
  rw [hok, hd]
  congr 1
  simp only [List.length_append, bytesOf_length]
  congr 1
  omega
theorem rdN_short (l : List Int) (hl : ∀ y ∈ l, 0 ≤ y ∧ y ≤ 255) (hlen : l.length ≤ 100000) (xs : List Int) (k : Int) (h : rdN l 0 = (xs, k, 0)) :
    ptN (strOfNums xs) = (U xs.length ++ xs, 0) ∧ ((U xs.length ++ xs).length : Int) ≤ k ∧ xs.length ≤ 100000 := by
  by_cases he : (readU l 0 32).2.2 = 0
  · obtain ⟨n, x, hu, hn, hx0, hx, _⟩ := readU_ok l 0 hl he
    obtain ⟨_, hsh, _, _⟩ := readU_short l 32 32 (by omega) (by omega) (by omega) hl he
    have hsh2 : ((U (readU l 0 32).1).length : Int) ≤ (readU l 0 32).2.1 := hsh
    rw [hu] at hsh2
    by_cases hd : (l.length : Int) - x < n
    · rw [rdN_end hu hd] at h
      injection h with h1 h
      injection h with h2 h3
      cases h3
    · by_cases hc : CI (((l.drop x).take n).map Int.toNat) < 0
      · rw [rdN_name hu hd hc] at h
        injection h with h1 h
        injection h with h2 h3
        cases h3
      · rw [rdN_ok hu hd hc] at h
        injection h with h1 h
        injection h with h2 h3
        have hb : ∀ y ∈ xs, 0 ≤ y ∧ y ≤ 255 := fun y hy => hl y (List.mem_of_mem_drop (List.mem_of_mem_take (h1 ▸ hy)))
        have hxl : xs.length = n := by
          rw [← h1, List.length_take, List.length_drop]
          omega
        rw [h1] at hc
        refine ⟨?_, ?_, by omega⟩
        · unfold ptN
          rw [nb_str xs hb, if_neg hc, strOfNums_size, if_neg (by omega), bytesOf_str xs hb]
        · rw [List.length_append, hxl]
          simp only at hsh2
          omega
  · rw [rdN_err (n := (readU l 0 32).1) (x := (readU l 0 32).2.1) rfl he] at h
    injection h with h1 h
    injection h with h2 h3
    exact absurd h3 he
end Go.Proofs.Ythghmbfbjnedfaa.Nm
