/- The law LebBack: its walk. -/
import Derived.Test.YthghmbfbjnedfaaLebLawA
import Derived.Deep.CutBlock
namespace Go.Proofs.Ythghmbfbjnedfaa.Leb
open Go.RowKit Go.Proofs.YthghmbfbjnedfaaW.PrintWords Go.Proofs.Ythghmbfbjnedfaa.Base Go.Proofs.Ythghmbfbjnedfaa.BitsA Go.Proofs.Ythghmbfbjnedfaa.Lb
theorem back_u (n : Int) (b : Nat) (h0 : 0 ≤ n) (h1 : n ≤ 18446744073709551615) (hb : 1 ≤ b) (hb2 : b ≤ 64) : 0 ≤ n / 2 ^ (64 - b) ∧ n / 2 ^ (64 - b) < 2 ^ b ∧ n / 2 ^ (64 - b) ≤ 18446744073709551615 := by
  have hp := two_pow_pos (64 - b)
  have e2 : (2 : Int) ^ b * 2 ^ (64 - b) = 18446744073709551616 := by
    rw [← Int.pow_add]
    have : b + (64 - b) = 64 := by omega
    rw [this]; decide
  have h2 : n / 2 ^ (64 - b) < 2 ^ b := Int.ediv_lt_of_lt_mul hp (by omega)
  have h3 : (2 : Int) ^ b ≤ 2 ^ 64 := pow_mono hb2
  have e64 : (2 : Int) ^ 64 = 18446744073709551616 := by decide
  exact ⟨Int.ediv_nonneg h0 (Int.le_of_lt hp), h2, by omega⟩
theorem back_s (n : Int) (b : Nat) (h0 : -9223372036854775808 ≤ n) (h1 : n ≤ 9223372036854775807) (hb : 1 ≤ b) (hb2 : b ≤ 64) : -(2 ^ (b - 1)) ≤ n / 2 ^ (64 - b) ∧ n / 2 ^ (64 - b) < 2 ^ (b - 1) ∧ -9223372036854775808 ≤ n / 2 ^ (64 - b) ∧ n / 2 ^ (64 - b) ≤ 9223372036854775807 := by
  have hp := two_pow_pos (64 - b)
  have e2 : (2 : Int) ^ (b - 1) * 2 ^ (64 - b) = 9223372036854775808 := by
    rw [← Int.pow_add]
    have : b - 1 + (64 - b) = 63 := by omega
    rw [this]; decide
  have h2 : n / 2 ^ (64 - b) < 2 ^ (b - 1) := Int.ediv_lt_of_lt_mul hp (by omega)
  have h4 : -(2 ^ (b - 1)) ≤ n / 2 ^ (64 - b) := Int.le_ediv_of_mul_le hp (by rw [Int.neg_mul]; omega)
  have h3 : (2 : Int) ^ (b - 1) ≤ 2 ^ 63 := pow_mono (by omega)
  have e64 : (2 : Int) ^ 63 = 9223372036854775808 := by decide
  exact ⟨h4, h2, by omega, by omega⟩
set_option maxHeartbeats 1000000 in
set_option maxRecDepth 100000 in
theorem LebBack_no (n m bits : Int) (A0 A1 : Option Addr) (c0 c1 : Nat) (ah be : List Int) (w : World) (hl0 : ah.length ≤ 9223372036854775807) (hl1 : be.length ≤ 9223372036854775807)
    (h : (200 : Int) < ah.length ∨ (200 : Int) < be.length ∨ bits < 1 ∨ 64 < bits) :
    Calls Try.prog 5 #[.int .u64 n, .int .i64 m, .int .i64 bits, .slice A0 ah.length c0, .slice A1 be.length c1] w fun e w' => e = .returned (.bool true) ∧ Below w.heap.size w w' := by
  have hs : (200 : Int) < ah.length ∨ ((ah.length : Int) ≤ 200 ∧ (200 : Int) < be.length) ∨ ((ah.length : Int) ≤ 200 ∧ (be.length : Int) ≤ 200 ∧ bits < 1) ∨ ((ah.length : Int) ≤ 200 ∧ (be.length : Int) ≤ 200 ∧ 1 ≤ bits ∧ 64 < bits) := by omega
  clear h
  go_enter Try.func5, Try.ntmps5
  go_wp2_with fail
  refine (known_calls _).mono ?_
  rintro e wk ⟨rfl, hbk⟩
  have BK := Aside0.mk hbk
  clear hbk
  rcases hs with h1 | ⟨h1, h2⟩ | ⟨h1, h2, h3⟩ | ⟨h1, h2, h3, h4⟩
  all_goals
    go_wp2_with fail
    go_ret
    exact ⟨rfl, BK.out⟩
set_option maxHeartbeats 2000000 in
set_option maxRecDepth 100000 in
theorem LebBack_yes (n m bits : Int) (A0 A1 : Option Addr) (c0 c1 : Nat) (ah be : List Int) (w : World) (n0 : 0 ≤ n) (n1 : n ≤ 18446744073709551615) (m0 : -9223372036854775808 ≤ m) (m1 : m ≤ 9223372036854775807)
    (ra : ReadsInt w .u8 A0 ah.length ah) (re : ReadsInt w .u8 A1 be.length be) (ba : ∀ x ∈ ah, 0 ≤ x ∧ x ≤ 255) (bb : ∀ x ∈ be, 0 ≤ x ∧ x ≤ 255)
    (h1 : (ah.length : Int) ≤ 200) (h2 : (be.length : Int) ≤ 200) (h3 : 1 ≤ bits) (h4 : bits ≤ 64) :
    Calls Try.prog 5 #[.int .u64 n, .int .i64 m, .int .i64 bits, .slice A0 ah.length c0, .slice A1 be.length c1] w fun e w' => e = .returned (.bool true) ∧ Below w.heap.size w w' := by
  have b1 : 0 ≤ 64 - bits := by omega
  have b2 : 64 - bits ≤ 63 := by omega
  obtain ⟨b, rfl⟩ := Int.eq_ofNat_of_zero_le (show 0 ≤ bits by omega)
  obtain ⟨N, hN⟩ : ∃ N, n / 2 ^ (64 - b) = N := ⟨_, rfl⟩
  obtain ⟨M, hM⟩ : ∃ M, m / 2 ^ (64 - b) = M := ⟨_, rfl⟩
  obtain ⟨hN0, hN2, hN1⟩ := back_u n b n0 n1 (by omega) (by omega)
  obtain ⟨hM2, hM3, hM0, hM1⟩ := back_s m b m0 m1 (by omega) (by omega)
  rw [hN] at hN0 hN1 hN2
  rw [hM] at hM0 hM1 hM2 hM3
  have e64 : (2 : Int) ^ 64 = 18446744073709551616 := by decide
  have e63 : (2 : Int) ^ (64 - 1) = 9223372036854775808 := by decide
  have u1 := readU_put b N ah be (by omega) (by omega) hN0 hN2
  have u2 := readU_put 64 N ah be (by omega) (by omega) hN0 (by omega)
  have s1 := readS_put b M ah be (by omega) (by omega) hM2 hM3
  have s2 := readS_put 64 M ah be (by omega) (by omega) (by omega) (by omega)
  rw [← List.append_assoc] at u1 u2 s1 s2
  have LU := U_length N
  have LS := S_length M
  obtain ⟨ul, hul⟩ : ∃ l, l = (ah ++ U N) ++ be := ⟨_, rfl⟩
  obtain ⟨sl, hsl⟩ : ∃ l, l = (ah ++ S M) ++ be := ⟨_, rfl⟩
  have lu : ul.length ≤ 410 := by rw [hul]; simp; omega
  have ls : sl.length ≤ 410 := by rw [hsl]; simp; omega
  have lu2 : (be.length : Int) ≤ ul.length := by rw [hul]; simp; omega
  have ls2 : (be.length : Int) ≤ sl.length := by rw [hsl]; simp; omega
  have hku : ((((ah.length : Int) + ((U N).length : Int))) == ((ul.length : Int) - (be.length : Int))) = true := by rw [hul]; simp; omega
  have hks : ((((ah.length : Int) + ((S M).length : Int))) == ((sl.length : Int) - (be.length : Int))) = true := by rw [hsl]; simp; omega
  have bu := bytes_app (bytes_app ba (U_bytes N)) bb
  have bs := bytes_app (bytes_app ba (S_bytes M)) bb
  rw [← hul] at u1 u2 bu
  rw [← hsl] at s1 s2 bs
  have HUL := Aside0.mk hul
  have HSL := Aside0.mk hsl
  have U1 := Aside0.mk u1
  have U2 := Aside0.mk u2
  have S1 := Aside0.mk s1
  have S2 := Aside0.mk s2
  have BU := Aside0.mk bu
  have BS := Aside0.mk bs
  have KU := Aside0.mk hku
  have KS := Aside0.mk hks
  have RA0 := Aside0.mk ra
  have RE0 := Aside0.mk re
  clear hul hsl u1 u2 s1 s2 bu bs hku hks ra re ba bb e64 e63 hN2 hM2 hM3
  go_enter Try.func5, Try.ntmps5
  go_wp2_with fail
  refine (known_calls _).mono ?_
  rintro e wk ⟨rfl, hbk⟩
  have BK := Aside0.mk hbk
  clear hbk
  have RA := Aside0.mk (RA0.out.below BK.out)
  have RE := Aside0.mk (RE0.out.below BK.out)
  clear RA0 RE0
  go_upto_region 7 with (first | ((with_reducible refine gate_builtin (b := .append) (xs := #[.tmp 55, .tmp 56]) rfl ?_); at_builtin; refine print_append_row (w0 := wk) wk.heap.size rfl (.tmp 55) (.tmp 56) 22 5 .u8 1 rfl Try.underlying22 infoB (by decide) _ ([]) (ah) _ _ _ rfl rfl (own_empty wk) (RA.out.below (below_alloc (Below.refl _ _) _)) (below_alloc (Below.refl _ _) _) (below_size (below_alloc (Below.refl _ _) _)) (by simp; omega) ?_; intro v4u w4u ho hb hg hat; simp only [List.nil_append] at ho; have O4u := Aside0.mk ho; have B4u := Aside0.mk hb; clear ho hb hg hat) | (go_at_call 24; refine (PutU_calls _ _ hN0 hN1).mono ?_; rintro e w5u ⟨v5u, rfl, ho5, hb5⟩; obtain ⟨A5u, k5u, rfl, hk5, hr5⟩ := bytes_open ho5; have R5u := Aside0.mk hr5; have B5u := Aside0.mk (below_step B4u.out hb5); have O5u := Aside0.mk (pw_own_below O4u.out hb5); clear ho5 hb5 hk5 hr5) | ((with_reducible refine gate_builtin (b := .append) (xs := #[.tmp 57, .tmp 59]) rfl ?_); at_builtin; refine print_append_row (w0 := wk) wk.heap.size rfl (.tmp 57) (.tmp 59) 22 5 .u8 1 rfl Try.underlying22 infoB (by decide) v4u (ah) (U N) _ _ _ rfl rfl O5u.out R5u.out B5u.out (below_size B5u.out) (by simp; omega) ?_; intro v6u w6u ho hb hg hat; have O6u := Aside0.mk ho; have B6u := Aside0.mk hb; clear ho hb hg hat) | ((with_reducible refine gate_builtin (b := .append) (xs := #[.tmp 60, .tmp 61]) rfl ?_); at_builtin; refine print_append_row (w0 := wk) wk.heap.size rfl (.tmp 60) (.tmp 61) 22 5 .u8 1 rfl Try.underlying22 infoB (by decide) v6u (ah ++ U N) (be) _ _ _ rfl rfl O6u.out (RE.out.below B6u.out) B6u.out (below_size B6u.out) (by simp; omega) ?_; intro v7u w7u ho hb hg hat; rw [← HUL.out] at ho; have O7u := Aside0.mk ho; have B7u := Aside0.mk hb; clear ho hb hg hat) | fail)
  have BKU := Aside0.mk (below_step BK.out B7u.out)
  have RA2 := Aside0.mk (RA.out.below B7u.out)
  have RE2 := Aside0.mk (RE.out.below B7u.out)
  obtain ⟨A7, k7, rfl, hr7⟩ := own_reads O7u.out
  have R7 := Aside0.mk hr7
  clear hr7 O7u O6u O5u O4u B4u B5u B6u RA RE
  go_upto_region 8 with (first | ((with_reducible refine gate_builtin (b := .append) (xs := #[.tmp 63, .tmp 64]) rfl ?_); at_builtin; refine print_append_row (w0 := w7u) w7u.heap.size rfl (.tmp 63) (.tmp 64) 22 5 .u8 1 rfl Try.underlying22 infoB (by decide) _ ([]) (ah) _ _ _ rfl rfl (own_empty w7u) (RA2.out.below (below_alloc (Below.refl _ _) _)) (below_alloc (Below.refl _ _) _) (below_size (below_alloc (Below.refl _ _) _)) (by simp; omega) ?_; intro v4s w4s ho hb hg hat; simp only [List.nil_append] at ho; have O4s := Aside0.mk ho; have B4s := Aside0.mk hb; clear ho hb hg hat) | (go_at_call 26; refine (PutS_calls _ _ hM0 hM1).mono ?_; rintro e w5s ⟨v5s, rfl, ho5, hb5⟩; obtain ⟨A5s, k5s, rfl, hk5, hr5⟩ := bytes_open ho5; have R5s := Aside0.mk hr5; have B5s := Aside0.mk (below_step B4s.out hb5); have O5s := Aside0.mk (pw_own_below O4s.out hb5); clear ho5 hb5 hk5 hr5) | ((with_reducible refine gate_builtin (b := .append) (xs := #[.tmp 65, .tmp 67]) rfl ?_); at_builtin; refine print_append_row (w0 := w7u) w7u.heap.size rfl (.tmp 65) (.tmp 67) 22 5 .u8 1 rfl Try.underlying22 infoB (by decide) v4s (ah) (S M) _ _ _ rfl rfl O5s.out R5s.out B5s.out (below_size B5s.out) (by simp; omega) ?_; intro v6s w6s ho hb hg hat; have O6s := Aside0.mk ho; have B6s := Aside0.mk hb; clear ho hb hg hat) | ((with_reducible refine gate_builtin (b := .append) (xs := #[.tmp 68, .tmp 69]) rfl ?_); at_builtin; refine print_append_row (w0 := w7u) w7u.heap.size rfl (.tmp 68) (.tmp 69) 22 5 .u8 1 rfl Try.underlying22 infoB (by decide) v6s (ah ++ S M) (be) _ _ _ rfl rfl O6s.out (RE2.out.below B6s.out) B6s.out (below_size B6s.out) (by simp; omega) ?_; intro v7s w7s ho hb hg hat; rw [← HSL.out] at ho; have O7s := Aside0.mk ho; have B7s := Aside0.mk hb; clear ho hb hg hat) | fail)
  have BKS := Aside0.mk (below_step BKU.out B7s.out)
  have RU := Aside0.mk (R7.out.below B7s.out)
  obtain ⟨A8, k8, rfl, hr8⟩ := own_reads O7s.out
  have RS := Aside0.mk hr8
  clear hr8 O7s O6s O5s O4s B4s B5s B6s RA2 RE2
  go_wp2_with fail
  refine (U_val _ _ _ _ _ _ _ _ _ _ rfl (by omega) RU.out BU.out U1.out).mono ?_
  rintro e1 w1 ⟨rfl, rfl⟩
  go_wp2_with fail
  refine (U_val _ _ _ _ _ _ _ _ _ _ rfl (by omega) RU.out BU.out U2.out).mono ?_
  rintro e1 w1 ⟨rfl, rfl⟩
  go_wp2_with fail
  refine (S_val _ _ _ _ _ _ _ _ _ _ rfl (by omega) RS.out BS.out S1.out).mono ?_
  rintro e1 w1 ⟨rfl, rfl⟩
  go_wp2_with fail
  refine (S_val _ _ _ _ _ _ _ _ _ _ rfl (by omega) RS.out BS.out S2.out).mono ?_
  rintro e1 w1 ⟨rfl, rfl⟩
  have ku := KU.out
  have ks := KS.out
  clear KU KS
  go_wp2
  go_ret
  exact ⟨rfl, BKS.out⟩
theorem LebBack_law (n m bits : Int) (A0 : Option Addr) (c0 : Nat) (ah : List Int) (A1 : Option Addr) (c1 : Nat) (be : List Int) (w : World) (hn : (Lit.int .u64 n).wf = true) (hm : (Lit.int .i64 m).wf = true) (_hb : (Lit.int .i64 bits).wf = true)
    (hr0 : ReadsInt w .u8 A0 ah.length ah) (_hc0 : ah.length ≤ c0) (hy0 : ah.length * 1 ≤ 140737488351232) (hw0 : ∀ x ∈ ah, (Lit.int .u8 x).wf = true)
    (hr1 : ReadsInt w .u8 A1 be.length be) (_hc1 : be.length ≤ c1) (hy1 : be.length * 1 ≤ 140737488351232) (hw1 : ∀ x ∈ be, (Lit.int .u8 x).wf = true) :
    Calls Try.prog 5 #[.int .u64 n, .int .i64 m, .int .i64 bits, .slice A0 ah.length c0, .slice A1 be.length c1] w fun e w' => e = .returned (.bool true) ∧ Below w.heap.size w w' := by
  by_cases h : (ah.length : Int) ≤ 200 ∧ (be.length : Int) ≤ 200 ∧ 1 ≤ bits ∧ bits ≤ 64
  · exact LebBack_yes n m bits A0 A1 c0 c1 ah be w (wf_u64 hn).1 (wf_u64 hn).2 (wf_i64' hm).1 (wf_i64' hm).2 hr0 hr1 (fun x hx => wf_u8 (hw0 x hx)) (fun x hx => wf_u8 (hw1 x hx)) h.1 h.2.1 h.2.2.1 h.2.2.2
  · exact LebBack_no n m bits A0 A1 c0 c1 ah be w (by omega) (by omega) (by omega)
end Go.Proofs.Ythghmbfbjnedfaa.Leb
