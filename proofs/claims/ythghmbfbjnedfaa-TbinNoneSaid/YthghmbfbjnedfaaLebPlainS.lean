/- Plain laws of layer 1, signed numbers: what is put is read again. -/
import Derived.Test.YthghmbfbjnedfaaLebPlainU
namespace Go.Proofs.Ythghmbfbjnedfaa.Lb
open Go Go.RowKit Go.Proofs.YthghmbfbjnedfaaW.PrintWords Go.Proofs.Ythghmbfbjnedfaa.BitsA

/-- The signed number that bytes tell. -/
def sval : List Int → Int
  | [] => 0
  | [x] => if x < 64 then x else x - 128
  | y :: z :: c => y % 128 + 128 * sval (z :: c)
/-- The last byte's own part. -/
def top (x : Int) : Int := if x < 64 then x else x - 128
theorem sval_cons (y : Int) (c : List Int) (x : Int) : sval (y :: (c ++ [x])) = y % 128 + 128 * sval (c ++ [x]) := by
  cases c <;> simp [sval]
theorem sval_eq : ∀ (c : List Int) (x : Int), sval (c ++ [x]) = val c + 128 ^ c.length * top x
  | [], x => by simp [sval, val, top]
  | y :: c, x => by
    rw [List.cons_append, sval_cons, sval_eq c x]
    simp only [val, List.length_cons, Int.pow_succ]
    rw [Int.mul_add, ← Int.mul_assoc, Int.mul_comm 128 (128 ^ c.length)]
    omega

theorem bad_signed (x : Int) (room : Nat) (h0 : 0 ≤ x) (h1 : x < 128) (hr0 : 1 ≤ room) (hr : room < 7) : bad x room true = !(decide (top x < 2 ^ (room - 1)) && decide (-(2 ^ (room - 1)) ≤ top x)) := by
  have h : ∀ r : Fin 7, ∀ y : Fin 128, 1 ≤ r.val → bad (y.val : Int) (r.val : Int) true = !(decide (top (y.val : Int) < 2 ^ (r.val - 1)) && decide (-(2 ^ (r.val - 1)) ≤ top (y.val : Int))) := by decide +kernel
  have := h ⟨room, hr⟩ ⟨x.toNat, by omega⟩ hr0
  simpa [Int.toNat_of_nonneg h0] using this

theorem ext_eq (n : Int) (p : Nat) (h0 : 0 ≤ n) (h1 : n < 2 ^ p) (hp : p ≤ 63) : ext n p = n + (18446744073709551616 - 2 ^ p) := by
  unfold ext
  have w2 : ∀ z : Int, IntKind.u64.wrap z = z % 18446744073709551616 := fun z => by simp [IntKind.wrap, IntKind.bits, IntKind.signed]
  have e : ((p : Int)).toNat = p := by simp
  have hpos := two_pow_pos p
  have h63 : (2 : Int) ^ p ≤ 2 ^ 63 := pow_mono hp
  have e63 : (2 : Int) ^ 63 = 9223372036854775808 := by decide
  have em : (18446744073709551615 : Int) * 2 ^ p % 18446744073709551616 = 18446744073709551616 - 2 ^ p := by
    have : (18446744073709551615 : Int) * 2 ^ p = (18446744073709551616 - 2 ^ p) + 18446744073709551616 * (2 ^ p - 1) := by
      rw [Int.mul_sub]; omega
    rw [this, Int.add_mul_emod_self_left, Int.emod_eq_of_lt (by omega) (by omega)]
  rw [w2, e, em]
  have hdv : ((18446744073709551616 : Int) - 2 ^ p) % 2 ^ p = 0 := by
    have : (18446744073709551616 : Int) - 2 ^ p = 2 ^ p * (2 ^ (64 - p) - 1) := by
      rw [Int.mul_sub, ← Int.pow_add]
      have : p + (64 - p) = 64 := by omega
      rw [this, Int.mul_one]; rfl
    rw [this]
    exact Int.mul_emod_right _ _
  have hwr : ∀ n : Int, 0 ≤ n → n < 2 ^ 64 → IntKind.u64.wrap n = n := fun n h0 h1 => by rw [w2]; omega
  have hb := bits_join .u64 64 (by decide) hwr p (18446744073709551616 - 2 ^ p) n (by omega) hdv (by have : (2 : Int) ^ 64 = 18446744073709551616 := by decide
                                                                                                     omega) h0 h1 (by omega)
  have hcomm : Go.bits BinOp.or IntKind.u64 n (18446744073709551616 - 2 ^ p) = Go.bits BinOp.or IntKind.u64 (18446744073709551616 - 2 ^ p) n := by
    unfold Go.bits
    simp only
    rw [BitVec.or_comm]
  rw [hcomm, hb]
  omega

theorem readS_enc (bits : Nat) (c : List Int) (x : Int) (pre suf : List Int) (hc : ∀ y ∈ c, 128 ≤ y ∧ y ≤ 255) (h0 : 0 ≤ x) (h1 : x < 128) (hb : bits ≤ 64) (hl : 7 * c.length < bits)
    (hx : top x < 2 ^ (bits - 7 * c.length - 1)) (hx2 : -(2 ^ (bits - 7 * c.length - 1)) ≤ top x) :
    readS (pre ++ (c ++ x :: suf)) pre.length bits = (sval (c ++ [x]), (pre.length : Int) + c.length + 1, 0) := by
  have hc' : ∀ y ∈ c, 0 ≤ y ∧ y ≤ 255 := fun y hy => ⟨by have := hc y hy; omega, (hc y hy).2⟩
  have hF : readF (pre ++ (c ++ x :: suf)) pre.length bits true = (fin x (acc c 0 0) (0 + 7 * (c.length : Int)) true, (pre.length : Int) + c.length + 1, 0) := by
    unfold readF
    rw [if_pos ⟨by omega, by omega, by omega, by simp; omega⟩]
    have hr : ((bits : Int) - (0 + 7 * (c.length : Int))) = ((bits - 7 * c.length : Nat) : Int) := by omega
    rw [rdL_enc bits true c x pre suf 10 0 0 hc h0 h1 (by omega) (by omega) (fun hlt => by
      rw [hr]
      rw [hr] at hlt
      rw [bad_signed x _ h0 h1 (by omega) (by omega)]
      simp [hx, hx2])]
  unfold readS
  rw [hF]
  obtain ⟨e1, e2, e3⟩ := acc_range c hc' (by omega)
  have ep : (0 : Int) + 7 * (c.length : Int) = ((7 * c.length : Nat) : Int) := by omega
  rw [e1, ep]
  have hcl : c.length ≤ 9 := by omega
  generalize hq : c.length = q at *
  have e7 : (128 : Int) ^ q = 2 ^ (7 * q) := pow_7 q
  have hS : sval (c ++ [x]) = val c + 2 ^ (7 * q) * top x := by rw [sval_eq, hq, e7]
  rw [hS]
  generalize val c = v at *
  have hn : nxt v x ((7 * q : Nat) : Int) = v + (x * 2 ^ (7 * q)) % 18446744073709551616 := by
    have ex : x % 128 = x := by omega
    rw [nxt_eq v x (7 * q) e2 e3 h0 (by omega) (by omega), ex]
  have hw : ∀ z : Int, wrap64 z = (z + 9223372036854775808) % 18446744073709551616 - 9223372036854775808 := fun z => by unfold wrap64; omega
  have hpos := two_pow_pos (7 * q)
  unfold fin
  rw [and64_u8 x h0 h1]
  congr 1
  by_cases h9 : q = 9
  · subst h9
    have hb64 : bits = 64 := by omega
    subst hb64
    rw [if_neg (by omega), hn, hw]
    have hp9 : (2 : Int) ^ (7 * 9) = 9223372036854775808 := by decide
    rw [hp9] at e3 ⊢
    have hone : (2 : Int) ^ (64 - 7 * 9 - 1) = 1 := by decide
    rw [hone] at hx hx2
    unfold top at *
    split at hx <;> rename_i ht
    · rw [if_pos ht] at hx2 ⊢; omega
    · rw [if_neg ht] at hx2 ⊢; omega
  · have hp8 : (2 : Int) ^ (7 * q) ≤ 2 ^ 56 := pow_mono (by omega)
    have e56 : (2 : Int) ^ 56 = 72057594037927936 := by decide
    have hb4 : 0 ≤ x * 2 ^ (7 * q) := Int.mul_nonneg h0 (Int.le_of_lt hpos)
    have hb5 : x * 2 ^ (7 * q) ≤ 127 * 2 ^ (7 * q) := Int.mul_le_mul_of_nonneg_right (by omega) (Int.le_of_lt hpos)
    have e27 : (2 : Int) ^ (7 * q + 7) = 128 * 2 ^ (7 * q) := by rw [Int.pow_add, Int.mul_comm]; rfl
    rw [Int.emod_eq_of_lt hb4 (by omega)] at hn
    rw [hn]
    unfold top
    by_cases ht : x < 64
    · have hb6 : x * 2 ^ (7 * q) ≤ 63 * 2 ^ (7 * q) := Int.mul_le_mul_of_nonneg_right (by omega) (Int.le_of_lt hpos)
      rw [if_neg (by simp; omega), if_pos ht, hw, Int.mul_comm (2 ^ (7 * q)) x]
      omega
    · have hb6 : 64 * 2 ^ (7 * q) ≤ x * 2 ^ (7 * q) := Int.mul_le_mul_of_nonneg_right (by omega) (Int.le_of_lt hpos)
      rw [if_pos ⟨rfl, by omega, by simp; omega⟩, if_neg ht]
      have ec : (((7 * q : Nat) : Int) + 7) = ((7 * q + 7 : Nat) : Int) := by omega
      rw [ec, ext_eq _ (7 * q + 7) (by omega) (by omega) (by omega), hw, e27, Int.mul_sub, Int.mul_comm (2 ^ (7 * q)) x]
      omega

theorem putS_enc : ∀ (k : Nat) (m : Int), inS k m → ∃ c x, putS k m = c ++ [x] ∧ (∀ y ∈ c, 128 ≤ y ∧ y ≤ 255) ∧ 0 ≤ x ∧ x < 128 ∧ sval (c ++ [x]) = m ∧ (c = [] ∨ 64 * 128 ^ (c.length - 1) ≤ m ∨ m < -(64 * 128 ^ (c.length - 1)))
  | 0, m, h => absurd h (inS_zero m)
  | k + 1, m, h => by
    unfold putS
    by_cases hq : m / 128 = 0 ∧ m % 128 < 64 ∨ m / 128 = -1 ∧ 64 ≤ m % 128
    · rw [if_pos hq]
      refine ⟨[], m % 128, rfl, by simp, by omega, by omega, ?_, .inl rfl⟩
      simp only [List.nil_append, sval]
      split <;> omega
    · rw [if_neg hq]
      obtain ⟨c, x, e, hc, h0, h1, hv, hl⟩ := putS_enc k (m / 128) (inS_next k m h hq)
      refine ⟨(m % 128 + 128) :: c, x, by rw [e]; rfl, ?_, h0, h1, ?_, .inr ?_⟩
      · intro y hy
        rcases List.mem_cons.1 hy with rfl | hy
        · omega
        · exact hc y hy
      · rw [List.cons_append, sval_cons, hv]; omega
      · simp only [List.length_cons, Nat.add_sub_cancel]
        rcases hl with rfl | hl
        · simp; omega
        · rcases Nat.eq_zero_or_pos c.length with hz | hz
          · simp only [hz] at *; simp; omega
          · obtain ⟨j, hj⟩ : ∃ j, c.length = j + 1 := ⟨c.length - 1, by omega⟩
            have hj1 : c.length - 1 = j := by omega
            rw [hj1] at hl
            rw [hj, Int.pow_succ]
            omega

theorem S_enc (n : Int) (h0 : -9223372036854775808 ≤ n) (h1 : n ≤ 9223372036854775807) : ∃ c x, S n = c ++ [x] ∧ (∀ y ∈ c, 128 ≤ y ∧ y ≤ 255) ∧ 0 ≤ x ∧ x < 128 ∧ sval (c ++ [x]) = n ∧ (c = [] ∨ 64 * 128 ^ (c.length - 1) ≤ n ∨ n < -(64 * 128 ^ (c.length - 1))) :=
  putS_enc 10 n (inS_start n h0 h1)

theorem enc_fitsS (bits : Nat) (c : List Int) (x : Int) (hb : 1 ≤ bits) (hc : ∀ y ∈ c, 128 ≤ y ∧ y ≤ 255) (n : Int) (hv : sval (c ++ [x]) = n) (hl : c = [] ∨ 64 * 128 ^ (c.length - 1) ≤ n ∨ n < -(64 * 128 ^ (c.length - 1)))
    (hn : n < 2 ^ (bits - 1)) (hn2 : -(2 ^ (bits - 1)) ≤ n) :
    7 * c.length < bits ∧ top x < 2 ^ (bits - 7 * c.length - 1) ∧ -(2 ^ (bits - 7 * c.length - 1)) ≤ top x := by
  have h7 : 7 * c.length < bits := by
    rcases hl with rfl | hl
    · simp; omega
    · rcases Nat.eq_zero_or_pos c.length with hz | hz
      · omega
      · have e : (64 : Int) * 128 ^ (c.length - 1) = 2 ^ (7 * c.length - 1) := by
          rw [pow_7]
          have : (64 : Int) = 2 ^ 6 := by decide
          rw [this, ← Int.pow_add]
          congr 1; omega
        rw [e] at hl
        rcases Nat.lt_or_ge (7 * c.length) bits with h | h
        · exact h
        · have := @pow_mono (bits - 1) (7 * c.length - 1) (by omega); omega
  refine ⟨h7, ?_⟩
  rw [sval_eq, pow_7] at hv
  have hp := val_nonneg c
  have hp2 := val_lt c
  rw [pow_7] at hp2
  have hpos := two_pow_pos (7 * c.length)
  have ee : (2 : Int) ^ (bits - 1) = 2 ^ (7 * c.length) * 2 ^ (bits - 7 * c.length - 1) := by
    rw [← Int.pow_add]; congr 1; omega
  rw [ee] at hn hn2
  generalize (2 : Int) ^ (7 * c.length) = A at *
  generalize (2 : Int) ^ (bits - 7 * c.length - 1) = B at *
  constructor
  · exact Int.lt_of_mul_lt_mul_left (by omega : A * top x < A * B) (Int.le_of_lt hpos)
  · have h3 : A * (-B - 1) < A * top x := by
      rw [Int.mul_sub, Int.mul_neg, Int.mul_one]; omega
    have := Int.lt_of_mul_lt_mul_left h3 (Int.le_of_lt hpos)
    omega

/-- WHAT WAS PUT IS READ AGAIN. -/
theorem readS_put (bits : Nat) (n : Int) (pre suf : List Int) (hb : 1 ≤ bits) (hb2 : bits ≤ 64) (h0 : -(2 ^ (bits - 1)) ≤ n) (h1 : n < 2 ^ (bits - 1)) :
    readS (pre ++ (S n ++ suf)) pre.length bits = (n, (pre.length : Int) + (S n).length, 0) := by
  have hm : (2 : Int) ^ (bits - 1) ≤ 2 ^ 63 := pow_mono (by omega)
  have e63 : (2 : Int) ^ 63 = 9223372036854775808 := by decide
  obtain ⟨c, x, e, hc, hx0, hx1, hv, hl⟩ := S_enc n (by omega) (by omega)
  obtain ⟨h7, hx, hx2⟩ := enc_fitsS bits c x hb hc n hv hl h1 h0
  have := readS_enc bits c x pre suf hc hx0 hx1 hb2 h7 hx hx2
  rw [hv] at this
  rw [e]
  simp only [List.append_assoc, List.singleton_append, List.length_append, List.length_singleton]
  rw [this]
  simp
  omega
end Go.Proofs.Ythghmbfbjnedfaa.Lb
