/- geodelaw02.known: the chapter's rows hold. -/
import Derived.Test.YthghmbfbjnedfaaNameRead
import Derived.Test.YthghmbfbjnedfaaLebKnown
namespace Go.Proofs.Ythghmbfbjnedfaa.Nm
open Go.RowKit Go.Proofs.YthghmbfbjnedfaaW.PrintWords Go.Proofs.Ythghmbfbjnedfaa.BitsA Go.Proofs.Ythghmbfbjnedfaa.Lb Go.Proofs.Ythghmbfbjnedfaa.Leb
theorem Read_lit (xs : List Int) (n c : Nat) (at_ : Int) (B : Nat) (w : World) (hn : xs.length = n) (hl : n ≤ 1000000) (hc : n ≤ c) (hr0 : ReadsInt w .u8 (some ⟨B, 0, none⟩) xs.length xs) (hby : ∀ x ∈ xs, 0 ≤ x ∧ x ≤ 255) (ys : List Int) (r2 r3 : Int) (hv : rdN xs at_ = (ys, r2, r3)) :
    Calls Try.prog 30 #[.slice (some ⟨B, 0, none⟩) n c, .int .i64 at_] w fun e w' => e = .returned (.tuple #[.string (strOfNums ys), .int .i64 r2, .int .i64 r3]) ∧ Below w.heap.size w w' := by
  subst hn
  exact Read_val _ _ _ xs at_ w ys r2 r3 rfl hl hc hr0 hby hv
theorem k1 : rdN [2, 195, 169] 0 = ([195, 169], 3, 0) := by decide +kernel
theorem k2 : rdN [3, 195, 169] 0 = ([], 0, 10) := by decide +kernel
theorem k3 : rdN [1, 195] 0 = ([], 0, 20) := by decide +kernel
theorem k4 : CI (nb (strOfNums [195, 169])) = 1 := by decide +kernel
theorem k5 : decide (0 ≤ CI (nb ⟨#[240, 159, 152, 128]⟩)) = true := by decide +kernel
theorem k6 : decide (0 ≤ CI (nb ⟨#[237, 160, 128]⟩)) = false := by decide +kernel
theorem k7 : decide (0 ≤ CI (nb ⟨#[192, 128]⟩)) = false := by decide +kernel
theorem k8 : decide (0 ≤ CI (nb ⟨#[244, 144, 128, 128]⟩)) = false := by decide +kernel
set_option maxHeartbeats 1000000 in
set_option maxRecDepth 100000 in
theorem known_calls (w : World) : Calls Try.prog 29 #[] w fun e w' => e = .returned (.bool true) ∧ Below w.heap.size w w' := by
  have c1 := Try.underlying22
  go_enter Try.func29, Try.ntmps29
  go_wp2_with fail
  refine (Read_lit [2, 195, 169] 3 3 0 _ _ rfl (by decide) (by decide) (reads_lit' _ (by simp) 5 .u8 [2, 195, 169] (by decide)) (by decide) _ _ _ k1).mono ?_
  rintro e w1 ⟨rfl, hb⟩
  have B1 := Aside0.mk (below_step (below_alloc (Below.refl _ _) _) hb)
  clear hb
  obtain ⟨S, hS⟩ : ∃ S, strOfNums [195, 169] = S := ⟨_, rfl⟩
  rw [hS]
  have HS := Aside0.mk hS
  clear hS
  go_wp2_with fail
  refine (Read_lit [3, 195, 169] 3 3 0 _ _ rfl (by decide) (by decide) (reads_lit' _ (by simp) 5 .u8 [3, 195, 169] (by decide)) (by decide) _ _ _ k2).mono ?_
  rintro e w2 ⟨rfl, hb⟩
  have B2 := Aside0.mk (below_step (below_step B1.out (below_alloc (Below.refl _ _) _)) hb)
  clear hb
  go_wp2_with fail
  refine (Read_lit [1, 195] 2 2 0 _ _ rfl (by decide) (by decide) (reads_lit' _ (by simp) 5 .u8 [1, 195] (by decide)) (by decide) _ _ _ k3).mono ?_
  rintro e w3 ⟨rfl, hb⟩
  have B3 := Aside0.mk (below_step (below_step B2.out (below_alloc (Below.refl _ _) _)) hb)
  clear hb
  go_wp2_with fail
  refine (Count_val S 1 _ (by rw [← HS.out]; decide) (by rw [← HS.out]; exact k4)).mono ?_
  rintro e w4 ⟨rfl, hb⟩
  have B4 := Aside0.mk (below_step B3.out hb)
  clear hb
  go_wp2_with fail
  refine (Well_val _ true _ (by decide) k5).mono ?_
  rintro e w5 ⟨rfl, hb⟩
  have B5 := Aside0.mk (below_step B4.out hb)
  clear hb
  go_wp2_with fail
  refine (Well_val _ false _ (by decide) k6).mono ?_
  rintro e w6 ⟨rfl, hb⟩
  have B6 := Aside0.mk (below_step B5.out hb)
  clear hb
  go_wp2_with fail
  refine (Well_val _ false _ (by decide) k7).mono ?_
  rintro e w7 ⟨rfl, hb⟩
  have B7 := Aside0.mk (below_step B6.out hb)
  clear hb
  go_wp2_with fail
  refine (Well_val _ false _ (by decide) k8).mono ?_
  rintro e w8 ⟨rfl, hb⟩
  have B8 := Aside0.mk (below_step B7.out hb)
  clear hb
  go_wp2
  go_ret
  exact ⟨rfl, B8.out⟩
end Go.Proofs.Ythghmbfbjnedfaa.Nm
