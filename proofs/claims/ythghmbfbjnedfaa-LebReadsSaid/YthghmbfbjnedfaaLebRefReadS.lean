/- The reference's S comes to the plain function readS, too. -/
import Derived.Test.YthghmbfbjnedfaaLebRefRead
namespace Go.Proofs.Ythghmbfbjnedfaa.Leb
open Go.RowKit Go.Proofs.YthghmbfbjnedfaaW.PrintWords Go.Proofs.Ythghmbfbjnedfaa.Base Go.Proofs.Ythghmbfbjnedfaa.BitsA Go.Proofs.Ythghmbfbjnedfaa.Lb
open Go.Proofs.Ythghmbfbjnedfaa.PLebReads
theorem last_b7 (c : List Int) (x : Int) : rd (bits8 (c ++ [x])) ((7 * c.length + 6 : Nat) : Int) = x / 64 % 2 := by
  have := rd_mid c x 6 (by omega)
  rw [bits8_append]
  simpa [bits8, b7] using this
theorem refS_read (l : List Int) (hby : ∀ y ∈ l, 0 ≤ y ∧ y ≤ 255) (hlen : l.length ≤ 140737488351232) (at_ bits : Int) : ∃ k, geoderef01_S.f k l at_ bits = some (readS l at_ bits) := by
  by_cases hv : 1 ≤ bits ∧ bits ≤ 64 ∧ 0 ≤ at_ ∧ at_ ≤ l.length
  · obtain ⟨v1, v2, v3, v4⟩ := hv
    obtain ⟨a, rfl⟩ := Int.eq_ofNat_of_zero_le v3
    obtain ⟨b, rfl⟩ := Int.eq_ofNat_of_zero_le (show 0 ≤ bits by omega)
    have hq : (l.take a).length = a := by simp; omega
    have hql : l.take a ++ l.drop a = l := List.take_append_drop a l
    have key : ∀ r, Ev (fun k => (geoderef01_Bits.f k (l.drop a) (b : Int) true).bind fun bt120 => (if bt120.2.2 = 0 then (if 0 ≤ (wrap64 ((bt120.1.length : Int) - 1)) then (if (wrap64 ((bt120.1.length : Int) - 1)) < (bt120.1.length : Int) then (if (rd bt120.1 (wrap64 ((bt120.1.length : Int) - 1))) = 1 then (geoderef01_S.j1 k (a : Int) bt120.1 bt120.2.1 (-1)) else (geoderef01_S.j1 k (a : Int) bt120.1 bt120.2.1 0)) else (none)) else (none)) else (some (0, 0, bt120.2.2)))) r → ∃ k, geoderef01_S.f k l (a : Int) (b : Int) = some r := fun r h => by
      refine Ev.rounds (g := fun k => geoderef01_S.f k l (a : Int) (b : Int)) (Ev.step (fun k => ?_) h)
      unfold geoderef01_S.f
      have hd : decide ((a : Int) > (l.length : Int)) = false := decide_eq_false (by omega)
      rw [if_neg (by omega), if_neg (by omega), if_neg (by omega), hd]
      simp only [geoderef01_S.j0]
      rw [if_neg (by simp), if_pos (by omega), if_pos (by omega), Int.toNat_natCast]
    refine key _ ?_
    rcases Bits_t b true (by omega) (l.drop a) (l.take a) [] (fun y hy => hby y (List.mem_of_mem_drop hy)) (by simp; omega) with ⟨e, he, hr, hev⟩ | ⟨c, x, suf, e, hc, hx0, hx1, hl, hbad, hev⟩
    · refine Ev.bind (a := ([], 0, e)) hev ?_
      have h1 := hr 10 0 (by simp; omega)
      simp only [List.nil_append, hql, List.length_nil, Nat.add_zero, hq] at h1
      have h2 : readS l (a : Int) (b : Int) = (0, 0, e) := by
        unfold readS readF
        rw [if_pos ⟨v1, v2, v3, v4⟩]
        have h3 : rdL l (b : Int) true 10 (a : Int) 0 0 = (0, 0, e) := h1
        rw [h3]
        have : wrap64 0 = 0 := by unfold wrap64; omega
        simp only
        rw [this]
      rw [h2]
      refine Ev.congr (f := fun _ => some (0, 0, e)) (fun k => ?_) (Ev.now _)
      rw [if_neg (by rcases he with rfl | rfl <;> decide)]
    · simp only [List.length_nil, Nat.zero_add, List.nil_append] at hl hbad hev
      refine Ev.bind (a := (bits8 (c ++ [x]), ((0 : Nat) : Int) + (c.length : Int) + 1, 0)) hev ?_
      have hfit := fitsS x (b - 7 * c.length) (by omega) hx0 hx1 hbad
      have hrd := readS_enc b c x (l.take a) suf hc hx0 hx1 (by omega) hl hfit.1 hfit.2
      rw [← e, hql, hq] at hrd
      rw [hrd]
      have hal : (bits8 (c ++ [x])).length = 7 * (c.length + 1) := by rw [bits8_length]; simp
      have hlast := last_b7 c x
      have e6 : ((bits8 (c ++ [x])).length : Int) - 1 = ((7 * c.length + 6 : Nat) : Int) := by omega
      have hS := fun s0 => S_l0 (a : Int) (((0 : Nat) : Int) + (c.length : Int) + 1) s0 (bits8 (c ++ [x])) (by omega) (bits8 (c ++ [x])).length (Nat.le_refl _)
      have hval := val_nonneg (c ++ [x])
      have hsv := sval_eq c x
      have hva := val_append c x
      have hp := pow_7 c.length
      have hp2 : (2 : Int) ^ (bits8 (c ++ [x])).length = 128 * 128 ^ c.length := by rw [hal, ← pow_7, Int.pow_succ, Int.mul_comm]
      have hrange : -9223372036854775808 ≤ sval (c ++ [x]) ∧ sval (c ++ [x]) ≤ 9223372036854775807 := by
        rw [hsv, pow_7]
        have hlt := val_lt c
        rw [pow_7] at hlt
        have hvn := val_nonneg c
        have hpp := two_pow_pos (7 * c.length)
        have ee : (2 : Int) ^ (7 * c.length) * 2 ^ (b - 7 * c.length - 1) = 2 ^ (b - 1) := by rw [← Int.pow_add]; congr 1; omega
        have hb3 : (2 : Int) ^ (b - 1) ≤ 2 ^ 63 := pow_mono (by omega)
        have e63 : (2 : Int) ^ 63 = 9223372036854775808 := by decide
        have a1 : 2 ^ (7 * c.length) * (top x + 1) ≤ 2 ^ (7 * c.length) * 2 ^ (b - 7 * c.length - 1) := Int.mul_le_mul_of_nonneg_left (by omega) (Int.le_of_lt hpp)
        have a2 : 2 ^ (7 * c.length) * (-(2 ^ (b - 7 * c.length - 1))) ≤ 2 ^ (7 * c.length) * top x := Int.mul_le_mul_of_nonneg_left hfit.2 (Int.le_of_lt hpp)
        rw [Int.mul_add, Int.mul_one] at a1
        rw [Int.mul_neg] at a2
        omega
      have hz : ∀ s0 : Int, wrap64 (s0 * 2 ^ ((bits8 (c ++ [x])).length - (bits8 (c ++ [x])).length) + hv ((bits8 (c ++ [x])).drop (bits8 (c ++ [x])).length)) = wrap64 s0 := fun s0 => by
        rw [Nat.sub_self, List.drop_length]; simp [hv]
      have e3 : (a : Int) + (((0 : Nat) : Int) + (c.length : Int) + 1) = (a : Int) + (c.length : Int) + 1 := by omega
      have fin1 : ∀ s0 : Int, (s0 = 0 ∨ s0 = -1) → wrap64 (s0 * 2 ^ (bits8 (c ++ [x])).length + val (c ++ [x])) = sval (c ++ [x]) → Ev (fun k => geoderef01_S.j1 k (a : Int) (bits8 (c ++ [x])) (((0 : Nat) : Int) + (c.length : Int) + 1) s0) (sval (c ++ [x]), (a : Int) + (c.length : Int) + 1, 0) := fun s0 hs h => by
        have h1 := hS s0
        rw [hz s0, hv_bits8, h, e3, w64 ((a : Int) + (c.length : Int) + 1) (by omega) (by omega), w64 s0 (by omega) (by omega)] at h1
        refine Ev.step (fun k => ?_) h1
        simp only [geoderef01_S.j1]
        rw [w64 _ (by omega) (by omega)]
      have htop : top x = if x < 64 then x else x - 128 := rfl
      have ex : x % 128 = x := by omega
      by_cases hx64 : x < 64
      · refine Ev.congr (fun k => ?_) (fin1 0 (.inl rfl) (by
          rw [if_pos hx64] at htop
          rw [Int.zero_mul, Int.zero_add, w64 _ (by rw [hva, ex, ← htop, ← hsv]; exact hrange.1) (by rw [hva, ex, ← htop, ← hsv]; exact hrange.2), hva, hsv, ex, htop]))
        simp only
        rw [if_pos trivial, w64 _ (by omega) (by omega), if_pos (by omega), if_pos (by omega), e6, hlast, if_neg (by omega)]
      · refine Ev.congr (fun k => ?_) (fin1 (-1) (.inr rfl) (by
          rw [if_neg hx64] at htop
          have hs2 : -1 * 2 ^ (bits8 (c ++ [x])).length + val (c ++ [x]) = sval (c ++ [x]) := by
            rw [hp2, hva, hsv, ex, htop, Int.mul_sub]; omega
          rw [hs2, w64 _ hrange.1 hrange.2]))
        simp only
        rw [if_pos trivial, w64 _ (by omega) (by omega), if_pos (by omega), if_pos (by omega), e6, hlast, if_pos (by omega)]
  · have e : readS l at_ bits = (0, 0, 2) := by
      unfold readS readF; rw [if_neg hv]
      have : wrap64 0 = 0 := by unfold wrap64; omega
      simp only
      rw [this]
    rw [e]
    refine ⟨1, ?_⟩
    unfold geoderef01_S.f
    have hj : geoderef01_S.j0 1 l at_ bits true = some (0, 0, 2) := by simp only [geoderef01_S.j0]; rw [if_pos trivial]
    by_cases c1 : bits < 1
    · rw [if_pos c1]; exact hj
    · by_cases c2 : bits > 64
      · rw [if_neg c1, if_pos c2]; exact hj
      · by_cases c3 : at_ < 0
        · rw [if_neg c1, if_neg c2, if_pos c3]; exact hj
        · have hd : decide (at_ > (l.length : Int)) = true := decide_eq_true (by omega)
          rw [if_neg c1, if_neg c2, if_neg c3, hd]; exact hj
end Go.Proofs.Ythghmbfbjnedfaa.Leb
