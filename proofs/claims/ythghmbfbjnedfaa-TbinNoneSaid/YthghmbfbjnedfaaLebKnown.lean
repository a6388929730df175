/- geodelaw01.known: the chapter's rows hold. -/
import Derived.Test.YthghmbfbjnedfaaBase
import Derived.Test.YthghmbfbjnedfaaLebPut
import Derived.Test.YthghmbfbjnedfaaLebRead
namespace Go.Proofs.Ythghmbfbjnedfaa.Leb
open Go.RowKit Go.Proofs.YthghmbfbjnedfaaW.PrintWords Go.Proofs.Ythghmbfbjnedfaa.Base Go.Proofs.Ythghmbfbjnedfaa.BitsA Go.Proofs.Ythghmbfbjnedfaa.Lb
/-- A row that was just made out of numbers reads as these. -/
theorem reads_lit (W : World) (e : TypeId) (k : IntKind) (xs : List Int) (hm : xs.length ≤ 9223372036854775807) :
    ReadsInt (W.alloc (.cells (nums k xs).toArray e)) k (some ⟨W.heap.size, 0, none⟩) xs.length xs := by
  obtain ⟨A, c, h, hr⟩ := own_reads (own_lit W W.heap.size e k xs (Nat.le_refl _) hm)
  injection h with h1 h2 h3
  subst h1
  exact hr
theorem reads_lit' {B : Nat} (W : World) (hB : B = W.heap.size) (e : TypeId) (k : IntKind) (xs : List Int) (hm : xs.length ≤ 9223372036854775807) :
    ReadsInt (W.alloc (.cells (nums k xs).toArray e)) k (some ⟨B, 0, none⟩) xs.length xs := by
  subst hB; exact reads_lit W e k xs hm
theorem U_lit (xs : List Int) (n c : Nat) (at_ bits : Int) (B : Nat) (w : World) (hn : xs.length = n) (hl : n ≤ 9223372036854775807) (hr0 : ReadsInt w .u8 (some ⟨B, 0, none⟩) xs.length xs) (hby : ∀ x ∈ xs, 0 ≤ x ∧ x ≤ 255) (r1 r2 r3 : Int) (hv : readU xs at_ bits = (r1, r2, r3)) :
    Calls Try.prog 20 #[.slice (some ⟨B, 0, none⟩) n c, .int .i64 at_, .int .i64 bits] w fun e w' => e = .returned (.tuple #[.int .u64 r1, .int .i64 r2, .int .i64 r3]) ∧ w = w' := by
  subst hn
  have := U_calls (some ⟨B, 0, none⟩) c xs at_ bits w hl hr0 hby
  rw [hv] at this
  exact this
theorem S_lit (xs : List Int) (n c : Nat) (at_ bits : Int) (B : Nat) (w : World) (hn : xs.length = n) (hl : n ≤ 9223372036854775807) (hr0 : ReadsInt w .u8 (some ⟨B, 0, none⟩) xs.length xs) (hby : ∀ x ∈ xs, 0 ≤ x ∧ x ≤ 255) (r1 r2 r3 : Int) (hv : readS xs at_ bits = (r1, r2, r3)) :
    Calls Try.prog 22 #[.slice (some ⟨B, 0, none⟩) n c, .int .i64 at_, .int .i64 bits] w fun e w' => e = .returned (.tuple #[.int .i64 r1, .int .i64 r2, .int .i64 r3]) ∧ w = w' := by
  subst hn
  have := S_calls (some ⟨B, 0, none⟩) c xs at_ bits w hl hr0 hby
  rw [hv] at this
  exact this
theorem v1 : readU [229, 142, 38] 0 32 = (624485, 3, 0) := by decide +kernel
theorem v2 : readS [128, 127] 0 32 = (-128, 2, 0) := by decide +kernel
theorem v3 : readU [255, 255, 255, 255, 31] 0 32 = (0, 0, 11) := by decide +kernel
theorem v4 : readS [255, 255, 255, 255, 79] 0 32 = (0, 0, 11) := by decide +kernel
theorem v5 : readU [128] 0 32 = (0, 0, 10) := by decide +kernel
theorem v6 : Lb.S 64 = [192, 0] := by decide +kernel
theorem v7 : (Lb.U 128).length = 2 := by decide +kernel
set_option maxHeartbeats 1000000 in
set_option maxRecDepth 100000 in
theorem known_calls (w : World) : Calls Try.prog 19 #[] w fun e w' => e = .returned (.bool true) ∧ Below w.heap.size w w' := by
  have c1 := Try.underlying22
  go_enter Try.func19, Try.ntmps19
  go_wp2_with fail
  refine (U_lit [229, 142, 38] 3 3 0 32 _ _ rfl (by decide) (reads_lit' _ (by simp) 5 .u8 [229, 142, 38] (by decide)) (by decide) _ _ _ v1).mono ?_
  rintro e w1 ⟨rfl, rfl⟩
  go_wp2_with fail
  refine (S_lit [128, 127] 2 2 0 32 _ _ rfl (by decide) (reads_lit' _ (by simp) 5 .u8 [128, 127] (by decide)) (by decide) _ _ _ v2).mono ?_
  rintro e w1 ⟨rfl, rfl⟩
  go_wp2_with fail
  refine (U_lit [255, 255, 255, 255, 31] 5 5 0 32 _ _ rfl (by decide) (reads_lit' _ (by simp) 5 .u8 [255, 255, 255, 255, 31] (by decide)) (by decide) _ _ _ v3).mono ?_
  rintro e w1 ⟨rfl, rfl⟩
  go_wp2_with fail
  refine (S_lit [255, 255, 255, 255, 79] 5 5 0 32 _ _ rfl (by decide) (reads_lit' _ (by simp) 5 .u8 [255, 255, 255, 255, 79] (by decide)) (by decide) _ _ _ v4).mono ?_
  rintro e w1 ⟨rfl, rfl⟩
  go_wp2_with fail
  refine (U_lit [128] 1 1 0 32 _ _ rfl (by decide) (reads_lit' _ (by simp) 5 .u8 [128] (by decide)) (by decide) _ _ _ v5).mono ?_
  rintro e w1 ⟨rfl, rfl⟩
  go_wp2_with fail
  refine (PutS_calls 64 _ (by decide) (by decide)).mono ?_
  rintro e w1 ⟨v, rfl, ho, hb⟩
  rw [v6] at ho
  have hcv := own_string (P := Try.prog) Try.underlying22 Try.underlying5 Try.underlying9 (Kd.own_of_R ho)
  have HB := Aside0.mk hb
  clear ho hb
  have hse : (strOfNums [192, 0]).toList = [192, 0] := by decide +kernel
  go_wp2_with fail
  refine (Len_calls 128 _ (by decide) (by decide)).mono ?_
  rintro e w2 ⟨rfl, hb⟩
  rw [v7]
  have HB2 := Aside0.mk hb
  clear hb
  go_wp2
  go_ret
  exact ⟨rfl, below_step (below_step (below_alloc (below_alloc (below_alloc (below_alloc (below_alloc (Below.refl _ _) _) _) _) _) _) HB.out) HB2.out⟩
end Go.Proofs.Ythghmbfbjnedfaa.Leb
