/- Layer 6: the reader's methods at a reader that is not there, or was not made. -/
import Derived.Test.YthghmbfbjnedfaaTbB
import Derived.Handy
import Derived.Laws.CopyOwn
namespace Go.Proofs.Ythghmbfbjnedfaa.Tb
open Go Go.RowKit Go.Proofs.YthghmbfbjnedfaaW.PrintWords
set_option maxHeartbeats 2000000
theorem Off.later {w w1 w2 : World} {v : Value} (h : Off w v) (hb : Below w.heap.size w w1) (hc : Below w1.heap.size w1 w2) : Off w2 v := (h.below hb).below hc
/-- The state of a walk over calls that turn nothing. -/
structure Sb (w w1 : World) (v : Value) : Prop where
  below : Below w.heap.size w w1
  off : Off w1 v
theorem Sb.start {w : World} {v : Value} (h : Off w v) : Sb w w v := ⟨Below.refl _ _, h⟩
theorem Sb.step {w w1 w2 : World} {v : Value} (h : Sb w w1 v) (hb : Below w1.heap.size w1 w2) : Sb w w2 v := ⟨below_step h.below hb, h.off.below hb⟩
theorem Sb.alloc {w w1 : World} {v : Value} (h : Sb w w1 v) (o : Obj) : Sb w (w1.alloc o) v := h.step (below_alloc (Below.refl _ _) o)
theorem item_byte_off (w : World) (v g : Value) (h : Off w v) : Calls Try.prog 74 #[v, g] w fun en w' => en = .returned (.int .u8 0) ∧ w' = w := by
  have T := A1.mk (there_off w v h)
  clear h
  go_enter Try.func74, Try.ntmps74
  go_wp2_with fail
  refine T.out.mono ?_
  rintro e w1 ⟨rfl, rfl⟩
  go_wp2
  go_ret
  exact ⟨rfl, rfl⟩
theorem item_u64_off (w : World) (v g : Value) (h : Off w v) : Calls Try.prog 76 #[v, g] w fun en w' => en = .returned (.int .u64 0) ∧ w' = w := by
  have T := A1.mk (there_off w v h)
  clear h
  go_enter Try.func76, Try.ntmps76
  go_wp2_with fail
  refine T.out.mono ?_
  rintro e w1 ⟨rfl, rfl⟩
  go_wp2
  go_ret
  exact ⟨rfl, rfl⟩
theorem item_i64_off (w : World) (v g : Value) (h : Off w v) : Calls Try.prog 78 #[v, g] w fun en w' => en = .returned (.int .i64 0) ∧ w' = w := by
  have T := A1.mk (there_off w v h)
  clear h
  go_enter Try.func78, Try.ntmps78
  go_wp2_with fail
  refine T.out.mono ?_
  rintro e w1 ⟨rfl, rfl⟩
  go_wp2
  go_ret
  exact ⟨rfl, rfl⟩
theorem item_string_off (w : World) (v g : Value) (h : Off w v) : Calls Try.prog 80 #[v, g] w fun en w' => en = .returned (.string ⟨#[]⟩) ∧ w' = w := by
  have T := A1.mk (there_off w v h)
  clear h
  go_enter Try.func80, Try.ntmps80
  go_wp2_with fail
  refine T.out.mono ?_
  rintro e w1 ⟨rfl, rfl⟩
  go_wp2
  go_ret
  exact ⟨rfl, rfl⟩
theorem item_int_off (w : World) (v g : Value) (h : Off w v) : Calls Try.prog 81 #[v, g] w fun en w' => en = .returned (.int .i64 0) ∧ w' = w := by
  have T := A1.mk (there_off w v h)
  clear h
  go_enter Try.func81, Try.ntmps81
  go_wp2_with fail
  refine T.out.mono ?_
  rintro e w1 ⟨rfl, rfl⟩
  go_wp2
  go_ret
  exact ⟨rfl, rfl⟩
theorem item_bytes_off (w : World) (v g : Value) (h : Off w v) : Calls Try.prog 83 #[v, g] w fun en w' => en = .returned (.slice none 0 0) ∧ w' = w := by
  have T := A1.mk (there_off w v h)
  clear h
  go_enter Try.func83, Try.ntmps83
  go_wp2_with fail
  refine T.out.mono ?_
  rintro e w1 ⟨rfl, rfl⟩
  go_wp2
  go_ret
  exact ⟨rfl, rfl⟩
theorem Byte_off (w : World) (v : Value) (h : Off w v) : Calls Try.prog 38 #[v] w fun en w' => en = .returned (.int .u8 0) ∧ Below w.heap.size w w' := by
  have S0 := A1.mk (Sb.start h)
  have I := A1.mk (fun (w1 : World) (h1 : Sb w w1 v) (g : Value) => item_byte_off w1 v g h1.off)
  clear h
  go_enter Try.func38, Try.ntmps38
  go_wp2_with fail
  refine (I.out _ S0.out _).mono ?_
  rintro e w1 ⟨rfl, rfl⟩
  go_wp2
  go_ret
  exact ⟨rfl, S0.out.below⟩
theorem U_off (w : World) (v : Value) (h : Off w v) (n : Int) : Calls Try.prog 39 #[v, .int .i64 n] w fun en w' => en = .returned (.int .u64 0) ∧ Below w.heap.size w w' := by
  have S0 := A1.mk (Sb.start h)
  have I := A1.mk (fun (w1 : World) (h1 : Sb w w1 v) (g : Value) => item_u64_off w1 v g h1.off)
  clear h
  go_enter Try.func39, Try.ntmps39
  go_wp2_with fail
  refine (I.out _ (S0.out.alloc _) _).mono ?_
  rintro e w1 ⟨rfl, rfl⟩
  go_wp2
  go_ret
  exact ⟨rfl, (S0.out.alloc _).below⟩
theorem S_off (w : World) (v : Value) (h : Off w v) (n : Int) : Calls Try.prog 40 #[v, .int .i64 n] w fun en w' => en = .returned (.int .i64 0) ∧ Below w.heap.size w w' := by
  have S0 := A1.mk (Sb.start h)
  have I := A1.mk (fun (w1 : World) (h1 : Sb w w1 v) (g : Value) => item_i64_off w1 v g h1.off)
  clear h
  go_enter Try.func40, Try.ntmps40
  go_wp2_with fail
  refine (I.out _ (S0.out.alloc _) _).mono ?_
  rintro e w1 ⟨rfl, rfl⟩
  go_wp2
  go_ret
  exact ⟨rfl, (S0.out.alloc _).below⟩
theorem Name_off (w : World) (v : Value) (h : Off w v) : Calls Try.prog 41 #[v] w fun en w' => en = .returned (.string ⟨#[]⟩) ∧ Below w.heap.size w w' := by
  have S0 := A1.mk (Sb.start h)
  have I := A1.mk (fun (w1 : World) (h1 : Sb w w1 v) (g : Value) => item_string_off w1 v g h1.off)
  clear h
  go_enter Try.func41, Try.ntmps41
  go_wp2_with fail
  refine (I.out _ S0.out _).mono ?_
  rintro e w1 ⟨rfl, rfl⟩
  go_wp2
  go_ret
  exact ⟨rfl, S0.out.below⟩
theorem Count_off (w : World) (v : Value) (h : Off w v) : Calls Try.prog 42 #[v] w fun en w' => en = .returned (.int .i64 0) ∧ Below w.heap.size w w' := by
  have S0 := A1.mk (Sb.start h)
  have I := A1.mk (fun (w1 : World) (h1 : Sb w w1 v) (g : Value) => item_int_off w1 v g h1.off)
  clear h
  go_enter Try.func42, Try.ntmps42
  go_wp2_with fail
  refine (I.out _ S0.out _).mono ?_
  rintro e w1 ⟨rfl, rfl⟩
  go_wp2
  go_ret
  exact ⟨rfl, S0.out.below⟩
theorem Take_off (w : World) (v : Value) (h : Off w v) (n : Int) : Calls Try.prog 43 #[v, .int .i64 n] w fun en w' => en = .returned (.slice none 0 0) ∧ Below w.heap.size w w' := by
  have S0 := A1.mk (Sb.start h)
  have I := A1.mk (fun (w1 : World) (h1 : Sb w w1 v) (g : Value) => item_bytes_off w1 v g h1.off)
  clear h
  go_enter Try.func43, Try.ntmps43
  go_wp2_with fail
  refine (I.out _ (S0.out.alloc _) _).mono ?_
  rintro e w1 ⟨rfl, rfl⟩
  go_wp2
  go_ret
  exact ⟨rfl, (S0.out.alloc _).below⟩
theorem Heap_off (w : World) (v : Value) (h : Off w v) : Calls Try.prog 44 #[v] w fun en w' => en = .returned (.agg #[.int .i64 0, .int .i64 0]) ∧ Below w.heap.size w w' := by
  have S0 := A1.mk ((Sb.start h).alloc (.cells #[.int .i64 0, .int .i64 0] 65))
  have X := A1.mk (fun (w1 : World) (h1 : Sb w w1 v) => At_off w1 v h1.off)
  have Y := A1.mk (fun (w1 : World) (h1 : Sb w w1 v) => peek_off w1 v h1.off)
  clear h
  go_enter Try.func44, Try.ntmps44
  go_wp2_with fail
  refine (X.out _ S0.out).mono ?_
  rintro e w1 ⟨a, rfl, rfl⟩
  go_wp2_with fail
  refine (Y.out _ S0.out).mono ?_
  rintro e w1 ⟨rfl, rfl⟩
  go_wp2
  go_returns
  exact ⟨rfl, S0.out.below⟩
theorem Val_off (w : World) (v : Value) (h : Off w v) : Calls Try.prog 45 #[v] w fun en w' => en = .returned (.agg #[.int .i64 0, .bool false, .int .i64 0, .int .i64 0]) ∧ Below w.heap.size w w' := by
  have S0 := A1.mk ((Sb.start h).alloc (.cells #[.int .i64 0, .bool false, .int .i64 0, .int .i64 0] 69))
  have Y := A1.mk (fun (w1 : World) (h1 : Sb w w1 v) => peek_off w1 v h1.off)
  clear h
  go_enter Try.func45, Try.ntmps45
  go_wp2_with fail
  refine (Y.out _ S0.out).mono ?_
  rintro e w1 ⟨rfl, rfl⟩
  go_wp2
  go_returns
  exact ⟨rfl, S0.out.below⟩
theorem list_Val_off (w : World) (v g : Value) (h : Off w v) : Calls Try.prog 89 #[v, g] w fun en w' => en = .returned (.slice none 0 0) ∧ Below w.heap.size w w' := by
  have S0 := A1.mk (Sb.start h)
  have X := A1.mk (fun (w1 : World) (h1 : Sb w w1 v) => Count_off w1 v h1.off)
  have Y := A1.mk (fun (w1 : World) (h1 : Sb w w1 v) => there_off w1 v h1.off)
  clear h
  go_enter Try.func89, Try.ntmps89
  go_wp2_with fail
  refine (X.out _ S0.out).mono ?_
  rintro e w1 ⟨rfl, hb⟩
  have S1 := A1.mk (S0.out.step hb)
  clear hb
  go_wp2
  go_loopw [9] (fun v9 wr => v9 = .int .i64 0 ∧ wr = w1) (fun _ _ => 0)
  case atStart => exact ⟨rfl, rfl⟩
  case round =>
    obtain ⟨rfl, rfl⟩ := hrel
    go_wp2_with fail
    refine (Y.out _ S1.out).mono ?_
    rintro e w2 ⟨rfl, rfl⟩
    go_wp2
    go_ret
    exact ⟨rfl, S1.out.below⟩
theorem Vals_off (w : World) (v : Value) (h : Off w v) : Calls Try.prog 46 #[v] w fun en w' => en = .returned (.slice none 0 0) ∧ Below w.heap.size w w' := by
  have X := A1.mk (fun (g : Value) => list_Val_off w v g h)
  clear h
  go_enter Try.func46, Try.ntmps46
  go_wp2_with fail
  refine (X.out _).mono ?_
  rintro e w1 ⟨rfl, hb⟩
  have B := A1.mk hb
  clear hb
  go_wp2
  go_ret
  exact ⟨rfl, B.out⟩
theorem comp_off (w : World) (v : Value) (h : Off w v) : Calls Try.prog 104 #[v] w fun en w' => en = .returned (.agg #[.int .i64 0, .slice none 0 0, .slice none 0 0, .slice none 0 0]) ∧ Below w.heap.size w w' := by
  have S0 := A1.mk ((Sb.start h).alloc (.cells #[.int .i64 0, .slice none 0 0, .slice none 0 0, .slice none 0 0] 82))
  have X := A1.mk (fun (w1 : World) (h1 : Sb w w1 v) => At_off w1 v h1.off)
  have Y := A1.mk (fun (w1 : World) (h1 : Sb w w1 v) => Byte_off w1 v h1.off)
  have T := A1.mk (fun (w1 : World) (h1 : Sb w w1 v) => there_off w1 v h1.off)
  have hz : (w.alloc (.cells #[.int .i64 0, .slice none 0 0, .slice none 0 0, .slice none 0 0] 82)).heap[w.heap.size]? = some (.cells #[.int .i64 0, .slice none 0 0, .slice none 0 0, .slice none 0 0] 82 (0, 0)) := heap_alloc_new w _
  have HZ := A1.mk hz
  have hlt : w.heap.size < (w.alloc (.cells #[.int .i64 0, .slice none 0 0, .slice none 0 0, .slice none 0 0] 82)).heap.size := by simp
  clear h hz
  go_enter Try.func104, Try.ntmps104
  go_wp2_with fail
  refine (X.out _ S0.out).mono ?_
  rintro e w1 ⟨a, rfl, rfl⟩
  go_wp2_with fail
  refine (Y.out _ S0.out).mono ?_
  rintro e w2 ⟨rfl, hb⟩
  have S2 := A1.mk (S0.out.step hb)
  have H2 := A1.mk ((hb.block w.heap.size hlt).trans HZ.out)
  clear hb hlt
  go_wp2_with fail
  refine (T.out _ S2.out).mono ?_
  rintro e w3 ⟨rfl, rfl⟩
  go_wp2_with (first | ((with_reducible refine gateS (ty := 82) (x := .tmp 2) (y := .tmp 47) rfl ?_); refine wpList_store_row rfl 82 (.tmp 2) (.tmp 47) rfl _ #[.int .i64 0, .slice none 0 0, .slice none 0 0, .slice none 0 0] rfl rfl 82 _ H2.out (show (Try.prog.info? 82).map (·.size) = some 4 by kernel_rfl) rfl (by kernel_rfl) ?_))
  (try simp only [Exit.inBlock, Exit.then])
  refine bodyPost_ret (results_cell_row (p := 2) (ty := 82) rfl _ _ _ _ _ (0, 0) _ rfl (setRow_heap _ _ _ _ _ _ H2.out) Try.underlying82 rfl (by kernel_rfl)) rfl ?_
  exact ⟨rfl, below_setRow S2.out.below (Nat.le_refl _) _⟩
theorem sub_off (w : World) (v : Value) (h : Off w v) : Calls Try.prog 91 #[v] w fun en w' => en = .returned (.agg #[.bool true, .slice none 0 0, .int .i64 0, .slice none 0 0, .slice none 0 0, .slice none 0 0]) ∧ Below w.heap.size w w' := by
  have S0 := A1.mk ((Sb.start h).alloc (.cells #[.bool false, .slice none 0 0, .int .i64 0, .slice none 0 0, .slice none 0 0, .slice none 0 0] 84))
  have X := A1.mk (fun (w1 : World) (h1 : Sb w w1 v) => peek_off w1 v h1.off)
  have Y := A1.mk (fun (w1 : World) (h1 : Sb w w1 v) => comp_off w1 v h1.off)
  have HZ := A1.mk (heap_alloc_new w (.cells #[.bool false, .slice none 0 0, .int .i64 0, .slice none 0 0, .slice none 0 0, .slice none 0 0] 84))
  have hlt : w.heap.size < (w.alloc (.cells #[.bool false, .slice none 0 0, .int .i64 0, .slice none 0 0, .slice none 0 0, .slice none 0 0] 84)).heap.size := by simp
  clear h
  go_enter Try.func91, Try.ntmps91
  go_wp2_with fail
  refine (X.out _ S0.out).mono ?_
  rintro e w1 ⟨rfl, rfl⟩
  go_wp2_with fail
  refine (Y.out _ S0.out).mono ?_
  rintro e w2 ⟨rfl, hb⟩
  have S2 := A1.mk (S0.out.step hb)
  have H2 := A1.mk ((hb.block w.heap.size hlt).trans HZ.out)
  clear hb hlt
  go_wp2_with (first | ((with_reducible refine gateS (ty := 84) (x := .tmp 2) (y := .tmp 19) rfl ?_); refine wpList_store_row rfl 84 (.tmp 2) (.tmp 19) rfl _ #[.bool true, .slice none 0 0, .int .i64 0, .slice none 0 0, .slice none 0 0, .slice none 0 0] rfl rfl 84 _ H2.out (show (Try.prog.info? 84).map (·.size) = some 6 by kernel_rfl) rfl (by kernel_rfl) ?_))
  (try simp only [Exit.inBlock, Exit.then])
  refine bodyPost_ret (results_cell_row (p := 2) (ty := 84) rfl _ _ _ _ _ (0, 0) _ rfl (setRow_heap _ _ _ _ _ _ H2.out) Try.underlying84 rfl (by kernel_rfl)) rfl ?_
  exact ⟨rfl, below_setRow S2.out.below (Nat.le_refl _) _⟩
theorem Rec_off (w : World) (v : Value) (h : Off w v) : Calls Try.prog 47 #[v] w fun en w' => en = .returned (.slice none 0 0) ∧ Below w.heap.size w w' := by
  have S0 := A1.mk (Sb.start h)
  have X := A1.mk (fun (w1 : World) (h1 : Sb w w1 v) => peek_off w1 v h1.off)
  have Y := A1.mk (fun (w1 : World) (h1 : Sb w w1 v) => sub_off w1 v h1.off)
  have T := A1.mk (fun (w1 : World) (h1 : Sb w w1 v) => there_off w1 v h1.off)
  clear h
  go_enter Try.func47, Try.ntmps47
  go_wp2_with fail
  refine (X.out _ S0.out).mono ?_
  rintro e w1 ⟨rfl, rfl⟩
  go_wp2_with fail
  refine (Y.out _ S0.out).mono ?_
  rintro e w2 ⟨rfl, hb⟩
  have S2 := A1.mk (S0.out.step hb)
  clear hb
  go_wp2_with fail
  refine (T.out _ (S2.out.alloc _)).mono ?_
  rintro e w3 ⟨rfl, rfl⟩
  go_wp2
  go_ret
  exact ⟨rfl, (S2.out.alloc _).below⟩
end Go.Proofs.Ythghmbfbjnedfaa.Tb
