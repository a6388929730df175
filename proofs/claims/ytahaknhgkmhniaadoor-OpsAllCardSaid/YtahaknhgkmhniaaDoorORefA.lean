/- Layer 5: the reference's tables and words. -/
import Derived.Test.YtahaknhgkmhniaaDoorOFind
import Derived.Deep.WholeRow
namespace Go.Proofs.YtahaknhgkmhniaaDoor.Ops
open Go Go.RowKit Go.Proofs.YtahaknhgkmhniaaDoorW.PrintWords Go.Proofs.YtahaknhgkmhniaaDoor.POpsAll
set_option maxRecDepth 100000
def lf : List S41 := runsL ++ [⟨0, ⟨#[]⟩⟩, ⟨0, ⟨#[]⟩⟩]
def linesV : Array Value := (lf.map fun x => Value.string x.f1).toArray
def firstsV : Array Value := (lf.map fun x => Value.int .i64 x.f0).toArray
def wordsOf (s : ByteArray) : List ByteArray := (Go.Lib.fields s.data.toList).map fun l => ⟨l.toArray⟩
theorem words_all : lf.all (fun x => decide (geoderef05_Words.f 2000 x.f1 = some (wordsOf x.f1))) = true := by decide +kernel
section
variable {P : Program} {ops : Array Oper} {rest : List Oper} {o : Oper} {a : Act} {Q : Exit → Act → World → Prop} {W : World}
theorem gateS {ty : TypeId} {x y : Operand} (_ho : o.op = .store ty x y) (h : wpList P ops Q (o :: rest) a W) : wpList P ops Q (o :: rest) a W := h
end
theorem linesV_size : linesV.size = 18 := by decide +kernel
theorem firstsV_size : firstsV.size = 18 := by decide +kernel
theorem linesV_one : linesV.all (·.oneCell') = true := by decide +kernel
theorem firstsV_one : firstsV.all (·.oneCell') = true := by decide +kernel
theorem info43 : (Tryd.prog.info? 43).map (·.size) = some 18 := by kernel_rfl
theorem info45 : (Tryd.prog.info? 45).map (·.size) = some 18 := by kernel_rfl
set_option maxHeartbeats 4000000 in
theorem firsts_val (w : World) : Calls Tryd.prog 21 #[] w fun e w' => e = .returned (.agg firstsV) ∧ Below w.heap.size w w' := by
  go_enter Tryd.func21, Tryd.ntmps21
  go_wp2_with (first | ((with_reducible refine gateS (ty := 45) (x := .tmp 0) (y := .tmp 1) rfl ?_); refine wpList_store_row rfl 45 (.tmp 0) (.tmp 1) rfl _ firstsV rfl (congrArg Value.agg (by kernel_rfl)) 45 _ (heap_alloc_new _ _) (info45.trans (congrArg some firstsV_size.symm)) firstsV_size.symm firstsV_one ?_; rw [World.setRow_alloc_new]))
  refine bodyPost_ret (results_cell_row (p := 0) (ty := 45) rfl _ _ w.heap.size 45 _ (0, 0) (.array 18 3) rfl (heap_alloc_new w _) Tryd.underlying45 rfl (info45.trans (congrArg some firstsV_size.symm))) rfl ?_
  exact ⟨rfl, Below.alloc (Below.refl _ _) (Nat.le_refl _) _⟩
set_option maxHeartbeats 4000000 in
theorem lines_val (w : World) : Calls Tryd.prog 20 #[] w fun e w' => e = .returned (.agg linesV) ∧ Below w.heap.size w w' := by
  go_enter Tryd.func20, Tryd.ntmps20
  go_wp2_with (first | ((with_reducible refine gateS (ty := 43) (x := .tmp 0) (y := .tmp 1) rfl ?_); refine wpList_store_row rfl 43 (.tmp 0) (.tmp 1) rfl _ linesV rfl (congrArg Value.agg (by kernel_rfl)) 43 _ (heap_alloc_new _ _) (info43.trans (congrArg some linesV_size.symm)) linesV_size.symm linesV_one ?_; rw [World.setRow_alloc_new]))
  refine bodyPost_ret (results_cell_row (p := 0) (ty := 43) rfl _ _ w.heap.size 43 _ (0, 0) (.array 18 9) rfl (heap_alloc_new w _) Tryd.underlying43 rfl (info43.trans (congrArg some linesV_size.symm))) rfl ?_
  exact ⟨rfl, Below.alloc (Below.refl _ _) (Nat.le_refl _) _⟩
end Go.Proofs.YtahaknhgkmhniaaDoor.Ops
