/- Layer 6: the walk of the statement TbinNone but for known. -/
import Derived.Test.YthghmbfbjnedfaaTbC
namespace Go.Proofs.Ythghmbfbjnedfaa.Tb
open Go Go.RowKit Go.Proofs.YthghmbfbjnedfaaW.PrintWords
set_option maxHeartbeats 8000000
set_option maxRecDepth 100000
theorem heap_neq (w : World) : (binOp .neq 65 (.agg #[.int .i64 0, .int .i64 0]) (.agg #[.int .i64 0, .int .i64 0])).run Try.prog w = .ok (.bool false) w := by kernel_rfl
theorem val_neq (w : World) : (binOp .neq 69 (.agg #[.int .i64 0, .bool false, .int .i64 0, .int .i64 0]) (.agg #[.int .i64 0, .bool false, .int .i64 0, .int .i64 0])).run Try.prog w = .ok (.bool false) w := by kernel_rfl
theorem TbinNone_walk (n er : Int) (w : World) (K : ∀ w1 : World, Calls Try.prog 51 #[] w1 fun e w' => e = .returned (.bool true) ∧ Below w1.heap.size w1 w') :
    Calls Try.prog 15 #[.int .i64 n, .int .i64 er] w fun e w' => e = .returned (.bool true) ∧ Below w.heap.size w w' := by
  have KN := A1.mk K
  have q1 := heap_neq
  have q2 := val_neq
  clear K
  have RAW := A1.mk (((Below.alloc (Below.refl (w.alloc (.cells #[.int .i64 0, .int .i64 0, .int .i64 0, .slice none 0 0, .bool false] 54)).heap.size (w.alloc (.cells #[.int .i64 0, .int .i64 0, .int .i64 0, .slice none 0 0, .bool false] 54))) (Nat.le_refl _) (.cells #[.pointer none, .pointer (some ⟨w.heap.size, 0, none⟩)] 55)).block w.heap.size (by simp)).trans (heap_alloc_new w (.cells #[.int .i64 0, .int .i64 0, .int .i64 0, .slice none 0 0, .bool false] 54)))
  have a0 : ((w.alloc (.cells #[.int .i64 0, .int .i64 0, .int .i64 0, .slice none 0 0, .bool false] 54)).alloc (.cells #[.pointer none, .pointer (some ⟨w.heap.size, 0, none⟩)] 55)).cell? ⟨w.heap.size + 1, 0, none⟩ = some (.pointer none) := by rw [cell_of_row _ (w.heap.size + 1) 0 _ _ (0, 0) (by have := heap_alloc_new (w.alloc (.cells #[.int .i64 0, .int .i64 0, .int .i64 0, .slice none 0 0, .bool false] 54)) (.cells #[.pointer none, .pointer (some ⟨w.heap.size, 0, none⟩)] 55); simpa using this)]; rfl
  have a1 : ((w.alloc (.cells #[.int .i64 0, .int .i64 0, .int .i64 0, .slice none 0 0, .bool false] 54)).alloc (.cells #[.pointer none, .pointer (some ⟨w.heap.size, 0, none⟩)] 55)).cell? ⟨w.heap.size + 1, 1, none⟩ = some (.pointer (some ⟨w.heap.size, 0, none⟩)) := by rw [cell_of_row _ (w.heap.size + 1) 1 _ _ (0, 0) (by have := heap_alloc_new (w.alloc (.cells #[.int .i64 0, .int .i64 0, .int .i64 0, .slice none 0 0, .bool false] 54)) (.cells #[.pointer none, .pointer (some ⟨w.heap.size, 0, none⟩)] 55); simpa using this)]; rfl
  have B0 := A1.mk (show Below w.heap.size w ((w.alloc (.cells #[.int .i64 0, .int .i64 0, .int .i64 0, .slice none 0 0, .bool false] 54)).alloc (.cells #[.pointer none, .pointer (some ⟨w.heap.size, 0, none⟩)] 55)) from (Below.alloc (Below.refl w.heap.size w) (Nat.le_refl _) _).alloc (by simp) _)
  have hs0 : ((w.alloc (.cells #[.int .i64 0, .int .i64 0, .int .i64 0, .slice none 0 0, .bool false] 54)).alloc (.cells #[.pointer none, .pointer (some ⟨w.heap.size, 0, none⟩)] 55)).heap.size = w.heap.size + 2 := by simp
  have C0 := A1.mk a0
  have C1 := A1.mk a1
  clear a0 a1
  go_enter Try.func15, Try.ntmps15
  go_wp2
  obtain ⟨w0, hw0⟩ : ∃ w0, ((w.alloc (.cells #[.int .i64 0, .int .i64 0, .int .i64 0, .slice none 0 0, .bool false] 54)).alloc (.cells #[.pointer none, .pointer (some ⟨w.heap.size, 0, none⟩)] 55)) = w0 := ⟨_, rfl⟩
  rw [hw0] at RAW C0 C1 B0 hs0
  rw [hw0]
  clear hw0
  go_loopw [7] (fun v7 wr => ∃ j : Nat, v7 = .int .i64 j ∧ j ≤ 2 ∧ A1 (Below w0.heap.size w0 wr)) (fun v7 _ => (2 - intOf v7).toNat)
  case atStart => exact ⟨0, rfl, by omega, ⟨Below.refl _ _⟩⟩
  case round =>
    obtain ⟨j, rfl, hj, HB⟩ := hrel
    rcases (show j = 0 ∨ j = 1 ∨ j = 2 by omega) with rfl | rfl | rfl
    · have R0 := A1.mk (Raw.none : Raw w0 (.pointer none))
      have d0 : wr.cell? ⟨w.heap.size + 1, 0, none⟩ = some (.pointer none) := (HB.out.cell (p := ⟨w.heap.size + 1, 0, none⟩) (by show w.heap.size + 1 < w0.heap.size; omega)).trans C0.out
      have B := HB
      clear HB
      go_wp2_with fail
      refine (Fail_raw _ _ (R0.out.below B.out) er n).mono ?_
      rintro e w1 ⟨rfl, rfl⟩
      go_wp2_with fail
      refine (Byte_off _ _ (.of (R0.out.below B.out))).mono ?_
      rintro e w1 ⟨rfl, hb⟩
      have BB := A1.mk (below_step B.out hb)
      clear B hb
      have B := BB
      clear BB
      go_wp2_with fail
      refine (U_off _ _ (.of (R0.out.below B.out)) n).mono ?_
      rintro e w1 ⟨rfl, hb⟩
      have BB := A1.mk (below_step B.out hb)
      clear B hb
      have B := BB
      clear BB
      go_wp2_with fail
      refine (S_off _ _ (.of (R0.out.below B.out)) n).mono ?_
      rintro e w1 ⟨rfl, hb⟩
      have BB := A1.mk (below_step B.out hb)
      clear B hb
      have B := BB
      clear BB
      go_wp2_with fail
      refine (Name_off _ _ (.of (R0.out.below B.out))).mono ?_
      rintro e w1 ⟨rfl, hb⟩
      have BB := A1.mk (below_step B.out hb)
      clear B hb
      have B := BB
      clear BB
      go_wp2_with fail
      refine (Count_off _ _ (.of (R0.out.below B.out))).mono ?_
      rintro e w1 ⟨rfl, hb⟩
      have BB := A1.mk (below_step B.out hb)
      clear B hb
      have B := BB
      clear BB
      go_wp2_with fail
      refine (Take_off _ _ (.of (R0.out.below B.out)) n).mono ?_
      rintro e w1 ⟨rfl, hb⟩
      have BB := A1.mk (below_step B.out hb)
      clear B hb
      have B := BB
      clear BB
      go_wp2_with fail
      refine (Heap_off _ _ (.of (R0.out.below B.out))).mono ?_
      rintro e w1 ⟨rfl, hb⟩
      have BB := A1.mk (below_step B.out hb)
      clear B hb
      have B := BB
      clear BB
      go_wp2_with fail
      refine (Val_off _ _ (.of (R0.out.below B.out))).mono ?_
      rintro e w1 ⟨rfl, hb⟩
      have BB := A1.mk (below_step B.out hb)
      clear B hb
      have B := BB
      clear BB
      go_wp2_with fail
      refine (Vals_off _ _ (.of (R0.out.below B.out))).mono ?_
      rintro e w1 ⟨rfl, hb⟩
      have BB := A1.mk (below_step B.out hb)
      clear B hb
      have B := BB
      clear BB
      go_wp2_with fail
      refine (Rec_off _ _ (.of (R0.out.below B.out))).mono ?_
      rintro e w1 ⟨rfl, hb⟩
      have BB := A1.mk (below_step B.out hb)
      clear B hb
      have B := BB
      clear BB
      go_wp2_with fail
      refine (At_raw _ _ (R0.out.below B.out)).mono ?_
      rintro e w1 ⟨rfl, rfl⟩
      go_wp2_with fail
      refine (Left_raw _ _ (R0.out.below B.out)).mono ?_
      rintro e w1 ⟨rfl, hb⟩
      have BB := A1.mk (below_step B.out hb)
      clear B hb
      have B := BB
      clear BB
      go_wp2_with fail
      refine (Err_raw _ _ (R0.out.below B.out)).mono ?_
      rintro e w1 ⟨rfl, rfl⟩
      go_wp2
      exact ⟨⟨1, by simp, by omega, B⟩, by simp [intOf]⟩
    · have R0 := A1.mk (Raw.raw _ RAW.out : Raw w0 (.pointer (some ⟨w.heap.size, 0, none⟩)))
      have d0 : wr.cell? ⟨w.heap.size + 1, 1, none⟩ = some (.pointer (some ⟨w.heap.size, 0, none⟩)) := (HB.out.cell (p := ⟨w.heap.size + 1, 1, none⟩) (by show w.heap.size + 1 < w0.heap.size; omega)).trans C1.out
      have B := HB
      clear HB
      go_wp2_with fail
      refine (Fail_raw _ _ (R0.out.below B.out) er n).mono ?_
      rintro e w1 ⟨rfl, rfl⟩
      go_wp2_with fail
      refine (Byte_off _ _ (.of (R0.out.below B.out))).mono ?_
      rintro e w1 ⟨rfl, hb⟩
      have BB := A1.mk (below_step B.out hb)
      clear B hb
      have B := BB
      clear BB
      go_wp2_with fail
      refine (U_off _ _ (.of (R0.out.below B.out)) n).mono ?_
      rintro e w1 ⟨rfl, hb⟩
      have BB := A1.mk (below_step B.out hb)
      clear B hb
      have B := BB
      clear BB
      go_wp2_with fail
      refine (S_off _ _ (.of (R0.out.below B.out)) n).mono ?_
      rintro e w1 ⟨rfl, hb⟩
      have BB := A1.mk (below_step B.out hb)
      clear B hb
      have B := BB
      clear BB
      go_wp2_with fail
      refine (Name_off _ _ (.of (R0.out.below B.out))).mono ?_
      rintro e w1 ⟨rfl, hb⟩
      have BB := A1.mk (below_step B.out hb)
      clear B hb
      have B := BB
      clear BB
      go_wp2_with fail
      refine (Count_off _ _ (.of (R0.out.below B.out))).mono ?_
      rintro e w1 ⟨rfl, hb⟩
      have BB := A1.mk (below_step B.out hb)
      clear B hb
      have B := BB
      clear BB
      go_wp2_with fail
      refine (Take_off _ _ (.of (R0.out.below B.out)) n).mono ?_
      rintro e w1 ⟨rfl, hb⟩
      have BB := A1.mk (below_step B.out hb)
      clear B hb
      have B := BB
      clear BB
      go_wp2_with fail
      refine (Heap_off _ _ (.of (R0.out.below B.out))).mono ?_
      rintro e w1 ⟨rfl, hb⟩
      have BB := A1.mk (below_step B.out hb)
      clear B hb
      have B := BB
      clear BB
      go_wp2_with fail
      refine (Val_off _ _ (.of (R0.out.below B.out))).mono ?_
      rintro e w1 ⟨rfl, hb⟩
      have BB := A1.mk (below_step B.out hb)
      clear B hb
      have B := BB
      clear BB
      go_wp2_with fail
      refine (Vals_off _ _ (.of (R0.out.below B.out))).mono ?_
      rintro e w1 ⟨rfl, hb⟩
      have BB := A1.mk (below_step B.out hb)
      clear B hb
      have B := BB
      clear BB
      go_wp2_with fail
      refine (Rec_off _ _ (.of (R0.out.below B.out))).mono ?_
      rintro e w1 ⟨rfl, hb⟩
      have BB := A1.mk (below_step B.out hb)
      clear B hb
      have B := BB
      clear BB
      go_wp2_with fail
      refine (At_raw _ _ (R0.out.below B.out)).mono ?_
      rintro e w1 ⟨rfl, rfl⟩
      go_wp2_with fail
      refine (Left_raw _ _ (R0.out.below B.out)).mono ?_
      rintro e w1 ⟨rfl, hb⟩
      have BB := A1.mk (below_step B.out hb)
      clear B hb
      have B := BB
      clear BB
      go_wp2_with fail
      refine (Err_raw _ _ (R0.out.below B.out)).mono ?_
      rintro e w1 ⟨rfl, rfl⟩
      go_wp2
      exact ⟨⟨2, by simp, by omega, B⟩, by simp [intOf]⟩
    · go_wp2_with fail
      refine (KN.out _).mono ?_
      rintro e w1 ⟨rfl, hb⟩
      have B1 := A1.mk (B0.out.trans ((below_step HB.out hb).mono (by omega)))
      clear hb
      go_wp2
      go_ret
      exact ⟨rfl, B1.out⟩
end Go.Proofs.Ythghmbfbjnedfaa.Tb
