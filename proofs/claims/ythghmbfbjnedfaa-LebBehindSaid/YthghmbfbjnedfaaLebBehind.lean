/- The law LebBehind: its walk. -/
import Derived.Test.YthghmbfbjnedfaaLebLawA
namespace Go.Proofs.Ythghmbfbjnedfaa.Leb
open Go.RowKit Go.Proofs.YthghmbfbjnedfaaW.PrintWords Go.Proofs.YthghmbfbjnedfaaW.PrintLast Go.Proofs.YthghmbfbjnedfaaW.PrintMore Go.Proofs.Ythghmbfbjnedfaa.BitsA Go.Proofs.Ythghmbfbjnedfaa.Lb
theorem behind1 (a b c : Int) (a0 : 0 ≤ a) (a1 : a ≤ 18446744073709551615) : readU ((U a ++ S b) ++ U c) 0 64 = (a, ((U a).length : Int), 0) := by
  have := readU_put 64 a [] (S b ++ U c) (by omega) (by omega) a0 (by have : (2 : Int) ^ 64 = 18446744073709551616 := by decide
                                                                      omega)
  simpa using this
theorem behind2 (a b c : Int) (b0 : -9223372036854775808 ≤ b) (b1 : b ≤ 9223372036854775807) : readS ((U a ++ S b) ++ U c) (U a).length 64 = (b, ((U a).length : Int) + (S b).length, 0) := by
  have e : (2 : Int) ^ (64 - 1) = 9223372036854775808 := by decide
  have := readS_put 64 b (U a) (U c) (by omega) (by omega) (by omega) (by omega)
  simpa using this
theorem behind3 (a b c : Int) (c0 : 0 ≤ c) (c1 : c < 4294967296) : readU ((U a ++ S b) ++ U c) (((U a).length : Int) + (S b).length) 32 = (c, ((U a).length : Int) + (S b).length + (U c).length, 0) := by
  have e : (2 : Int) ^ 32 = 4294967296 := by decide
  have := readU_put 32 c (U a ++ S b) [] (by omega) (by omega) c0 (by omega)
  simpa using this
set_option maxHeartbeats 1000000 in
set_option maxRecDepth 100000 in
theorem LebBehind_walk (a b c : Int) (w : World) (a0 : 0 ≤ a) (a1 : a ≤ 18446744073709551615) (b0 : -9223372036854775808 ≤ b) (b1 : b ≤ 9223372036854775807) (c0 : 0 ≤ c) (c1 : c ≤ 18446744073709551615) :
    Calls Try.prog 8 #[.int .u64 a, .int .i64 b, .int .u64 c] w fun e w' => e = .returned (.bool true) ∧ Below w.heap.size w w' := by
  have hV1 := behind1 a b (c % 4294967296) a0 a1
  have hV2 := behind2 a b (c % 4294967296) b0 b1
  have hV3 := behind3 a b (c % 4294967296) (by omega) (by omega)
  have hHB := bytes_app (bytes_app (U_bytes a) (S_bytes b)) (U_bytes (c % 4294967296))
  have L1 := U_length a
  have L2 := S_length b
  have L3 := U_length (c % 4294967296)
  obtain ⟨all, hall⟩ : ∃ l, l = (U a ++ S b) ++ U (c % 4294967296) := ⟨_, rfl⟩
  have L4 : all.length ≤ 30 := by rw [hall]; simp; omega
  have hk : ((((U a).length : Int) + ((S b).length : Int) + ((U (c % 4294967296)).length : Int)) == (all.length : Int)) = true := by rw [hall]; simp; omega
  rw [← hall] at hV1 hV2 hV3 hHB
  have HALL := Aside0.mk hall
  have V1 := Aside0.mk hV1
  have V2 := Aside0.mk hV2
  have V3 := Aside0.mk hV3
  have HB := Aside0.mk hHB
  have HK := Aside0.mk hk
  clear hall hV1 hV2 hV3 hHB hk
  go_enter Try.func8, Try.ntmps8
  go_wp2_with fail
  refine (PutU_calls _ _ a0 a1).mono ?_
  rintro e w1 ⟨v1, rfl, ho1, hb1⟩
  have H1 := Aside0.mk ho1
  have B1 := Aside0.mk hb1
  clear ho1 hb1
  go_wp2_with fail
  refine (PutS_calls _ _ b0 b1).mono ?_
  rintro e w2 ⟨v2, rfl, ho2, hb2⟩
  have H2 := Aside0.mk ho2
  have B2 := Aside0.mk hb2
  clear ho2 hb2
  go_wp2_with fail
  refine (PutU_calls _ _ (by omega) (by omega)).mono ?_
  rintro e w3 ⟨v3, rfl, ho3, hb3⟩
  have B3 := Aside0.mk hb3
  obtain ⟨A1, k1, rfl, hk1, hr1⟩ := bytes_open (Kd.R_below (Kd.R_below H1.out B2.out) hb3)
  obtain ⟨A2, k2, rfl, hk2, hr2⟩ := bytes_open (Kd.R_below H2.out hb3)
  obtain ⟨A3, k3, rfl, hk3, hr3⟩ := bytes_open ho3
  have R1 := Aside0.mk hr1
  have R2 := Aside0.mk hr2
  have R3 := Aside0.mk hr3
  clear hk1 hk2 hk3 hr1 hr2 hr3 ho3 hb3 H1 H2
  go_wp2_with (first | ((with_reducible refine gate_builtin (b := .append) (xs := #[.tmp 27, .tmp 28]) rfl ?_); at_builtin; refine print_append_row (w0 := w3) w3.heap.size rfl (.tmp 27) (.tmp 28) 22 5 .u8 1 rfl Try.underlying22 infoB (by decide) _ ([]) (U a) _ _ _ rfl rfl (own_empty w3) (R1.out.below (below_alloc (Below.refl _ _) _)) (below_alloc (Below.refl _ _) _) (below_size (below_alloc (Below.refl _ _) _)) (by simp; omega) ?_; intro v4 w4 ho hb hg hat; simp only [List.nil_append] at ho; have O4 := Aside0.mk ho; have B4 := Aside0.mk hb; clear ho hb hg hat) | ((with_reducible refine gate_builtin (b := .append) (xs := #[.tmp 29, .tmp 30]) rfl ?_); at_builtin; refine print_append_row (w0 := w3) w3.heap.size rfl (.tmp 29) (.tmp 30) 22 5 .u8 1 rfl Try.underlying22 infoB (by decide) v4 (U a) (S b) _ _ _ rfl rfl O4.out (R2.out.below B4.out) B4.out (below_size B4.out) (by simp; omega) ?_; intro v5 w5 ho hb hg hat; have O5 := Aside0.mk ho; have B5 := Aside0.mk hb; clear ho hb hg hat) | ((with_reducible refine gate_builtin (b := .append) (xs := #[.tmp 31, .tmp 32]) rfl ?_); at_builtin; refine print_append_row (w0 := w3) w3.heap.size rfl (.tmp 31) (.tmp 32) 22 5 .u8 1 rfl Try.underlying22 infoB (by decide) v5 (U a ++ S b) (U (c % 4294967296)) _ _ _ rfl rfl O5.out (R3.out.below B5.out) B5.out (below_size B5.out) (by simp; omega) ?_; intro v6 w6 ho hb hg hat; rw [← HALL.out] at ho; have O6 := Aside0.mk ho; have B6 := Aside0.mk hb; clear ho hb hg hat) | fail)
  obtain ⟨A6, k6, rfl, hr6⟩ := own_reads O6.out
  have R6 := Aside0.mk hr6
  clear hr6
  go_wp2_with fail
  refine (U_val _ _ _ _ _ _ _ _ _ _ rfl (by omega) R6.out HB.out V1.out).mono ?_
  rintro e w7 ⟨rfl, rfl⟩
  go_wp2_with fail
  refine (S_val _ _ _ _ _ _ _ _ _ _ rfl (by omega) R6.out HB.out V2.out).mono ?_
  rintro e w7 ⟨rfl, rfl⟩
  go_wp2_with fail
  refine (U_val _ _ _ _ _ _ _ _ _ _ rfl (by omega) R6.out HB.out V3.out).mono ?_
  rintro e w7 ⟨rfl, rfl⟩
  have hk := HK.out
  clear HK
  go_wp2_with fail
  refine (known_calls _).mono ?_
  rintro e wk ⟨rfl, hbk⟩
  have BK := Aside0.mk hbk
  clear hbk
  go_wp2
  go_ret
  exact ⟨rfl, below_step (below_step (below_step (below_step B1.out B2.out) B3.out) B6.out) BK.out⟩
theorem LebBehind_law (a b c : Int) (w : World) (ha : (Lit.int .u64 a).wf = true) (hb : (Lit.int .i64 b).wf = true) (hc : (Lit.int .u64 c).wf = true) :
    Calls Try.prog 8 #[.int .u64 a, .int .i64 b, .int .u64 c] w fun e w' => e = .returned (.bool true) ∧ Below w.heap.size w w' :=
  LebBehind_walk a b c w (wf_u64 ha).1 (wf_u64 ha).2 (wf_i64' hb).1 (wf_i64' hb).2 (wf_u64 hc).1 (wf_u64 hc).2
end Go.Proofs.Ythghmbfbjnedfaa.Leb
