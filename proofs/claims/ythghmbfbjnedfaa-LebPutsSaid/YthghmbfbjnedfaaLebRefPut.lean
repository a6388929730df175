/- The references' PutU and PutS come to the plain functions of LebSpec, too. -/
import Derived.Test.YthghmbfbjnedfaaPLebPutsx1
import Derived.Test.YthghmbfbjnedfaaLebLawA
namespace Go.Proofs.Ythghmbfbjnedfaa.Leb
open Go.RowKit Go.Proofs.YthghmbfbjnedfaaW.PrintWords Go.Proofs.Ythghmbfbjnedfaa.Base Go.Proofs.Ythghmbfbjnedfaa.BitsA Go.Proofs.Ythghmbfbjnedfaa.Lb
open Go.Proofs.Ythghmbfbjnedfaa.PLebPuts
theorem refU : ∀ (k : Nat) (m : Int), inU k m → m ≤ 18446744073709551615 → k ≤ 100 → geoderef01_PutU.f k m = some (putU k m)
  | 0, m, h, _, _ => absurd h (inU_zero m)
  | k + 1, m, h, hm, hk => by
    have h0 := h.2.1
    unfold putU
    by_cases hq : m / 128 = 0
    · simp only [geoderef01_PutU.f]
      rw [if_pos (by omega), if_pos hq]
      have : m % 256 = m % 128 := by omega
      rw [this]
    · simp only [geoderef01_PutU.f]
      have e1 : Int.tmod m 128 = m % 128 := Int.tmod_eq_emod_of_nonneg h0
      have e2 : Int.tdiv m 128 = m / 128 := Int.tdiv_eq_ediv_of_nonneg h0
      have e3 : IntKind.u64.wrap (m / 128) = m / 128 := by simp [IntKind.wrap, IntKind.bits, IntKind.signed]; omega
      have e4 : (m % 128 % 256 + 128) % 256 = m % 128 + 128 := by omega
      rw [if_neg (by omega), if_neg hq, e1, e2, e3, e4, refU k (m / 128) (inU_next k m h hq) (by omega) (by omega)]
      have hl := putU_length k (m / 128)
      simp only [Option.bind_some, List.singleton_append]
      rw [if_pos (by simp; omega)]
theorem less_eq (m : Int) : geoderef01_less.f m = some (Int.tdiv m 128 - m / 128) := by
  unfold geoderef01_less.f
  have e1 := Int.tdiv_eq_ediv (a := m) (b := 128)
  have e2 := Int.tmod_eq_emod (a := m) (b := 128)
  by_cases h : m < 0
  · rw [if_pos h]
    by_cases hd : (128 : Int) ∣ m
    · rw [if_pos (.inr hd)] at e1 e2
      rw [if_pos (by omega), e1]; simp
    · rw [if_neg (fun h2 => h2.elim (fun h3 => by omega) hd)] at e1 e2
      have : Int.sign 128 = 1 := rfl
      have h3 : ((128 : Int).natAbs : Int) = 128 := rfl
      rw [h3] at e2
      rw [this] at e1
      rw [if_neg (by omega)]
      congr 1; omega
  · rw [if_neg h]
    rw [if_pos (.inl (by omega))] at e1
    congr 1; omega
theorem refS : ∀ (k : Nat) (m : Int), inS k m → -9223372036854775808 ≤ m → m ≤ 9223372036854775807 → k ≤ 100 → geoderef01_PutS.f (2 * k) m = some (putS k m)
  | 0, m, h, _, _, _ => absurd h (inS_zero m)
  | k + 1, m, h, hm0, hm1, hk => by
    have hw : ∀ z : Int, wrap64 z = (z + 9223372036854775808) % 18446744073709551616 - 9223372036854775808 := fun z => by unfold wrap64; omega
    have ew : IntKind.u64.wrap m = m % 18446744073709551616 := by simp [IntKind.wrap, IntKind.bits, IntKind.signed]
    have e1 : Int.tmod (m % 18446744073709551616) 128 = m % 128 := by
      rw [Int.tmod_eq_emod_of_nonneg (by omega)]; omega
    have e0 : 2 * (k + 1) = (2 * k + 1) + 1 := by omega
    rw [e0]
    by_cases hq : m / 128 = 0 ∧ m % 128 < 64 ∨ m / 128 = -1 ∧ 64 ≤ m % 128
    · simp only [geoderef01_PutS.f]
      rw [if_pos (by omega)]
      have hd : decide (m < 64) = true := by simp; omega
      rw [hd]
      simp only [geoderef01_PutS.j0]
      rw [if_pos trivial, ew, e1]
      unfold putS
      rw [if_pos hq]
      have : m % 128 % 256 = m % 128 := by omega
      rw [this]
    · have hj : geoderef01_PutS.f (2 * k + 1 + 1) m = geoderef01_PutS.j0 (2 * k + 1) m false := by
        simp only [geoderef01_PutS.f]
        by_cases h2 : m ≥ -64
        · rw [if_pos h2]
          have hd : decide (m < 64) = false := by simp; omega
          rw [hd]
        · rw [if_neg h2]
      rw [hj]
      simp only [geoderef01_PutS.j0]
      have e2 : wrap64 (m % 128) = m % 128 := by rw [hw]; omega
      have e4 : (m % 128 % 256 + 128) % 256 = m % 128 + 128 := by omega
      have e5 : wrap64 (Int.tdiv m 128) = Int.tdiv m 128 := by
        rw [hw]
        have := Int.tdiv_eq_ediv (a := m) (b := 128)
        have h3 : Int.sign 128 = 1 := rfl
        rw [h3] at this
        split at this <;> omega
      have e6 : wrap64 (Int.tdiv m 128 - (Int.tdiv m 128 - m / 128)) = m / 128 := by rw [hw]; omega
      rw [if_neg (by simp), ew, e1, e2, e4, less_eq]
      simp only [Option.bind_some]
      rw [e5, e6, refS k (m / 128) (inS_next k m h hq) (by omega) (by omega) (by omega)]
      have hl := putS_length k (m / 128)
      simp only [Option.bind_some, List.singleton_append]
      rw [if_pos (by simp; omega)]
      conv => rhs; unfold putS
      rw [if_neg hq]
theorem refPutU_calls (n : Int) (w : World) (h0 : 0 ≤ n) (h1 : n ≤ 18446744073709551615) :
    Calls Try.prog 25 #[.int .u64 n] w fun e w' => ∃ v, e = .returned v ∧ Kd.R (Kd.int .u8) 5 w' w.heap.size (fun _ => True) v (Lb.U n) ∧ Below w.heap.size w w' :=
  geoderef01_PutU.calls 10 n (Lb.U n) w (refU 10 n (inU_start n h0 h1) h1 (by omega))
theorem refPutS_calls (n : Int) (w : World) (h0 : -9223372036854775808 ≤ n) (h1 : n ≤ 9223372036854775807) :
    Calls Try.prog 27 #[.int .i64 n] w fun e w' => ∃ v, e = .returned v ∧ Kd.R (Kd.int .u8) 5 w' w.heap.size (fun _ => True) v (Lb.S n) ∧ Below w.heap.size w w' :=
  geoderef01_PutS.calls 20 n (Lb.S n) w (refS 10 n (inS_start n h0 h1) h0 h1 (by omega))
end Go.Proofs.Ythghmbfbjnedfaa.Leb
