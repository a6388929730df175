/- Layer 6: geodelaw06.known: the chapter's rows hold. -/
import Derived.Test.YthghmbfbjnedfaaTbJ
import Derived.Test.YthghmbfbjnedfaaLebKnown
namespace Go.Proofs.Ythghmbfbjnedfaa.Tb
open Go Go.RowKit Go.Proofs.YthghmbfbjnedfaaW.PrintWords Go.Proofs.Ythghmbfbjnedfaa.Lb Go.Proofs.Ythghmbfbjnedfaa.Leb
set_option maxHeartbeats 8000000
set_option maxRecDepth 100000
theorem k1 : valF [100, 133, 0] ⟨0, 0, 0⟩ = (⟨3, 0, 0⟩, ⟨3, false, 13, 5⟩) := by kernel_rfl
theorem k2 : valF [100, 127] ⟨0, 0, 0⟩ = (⟨1, 60, 1⟩, vt0) := by kernel_rfl
theorem k3 : valF [125] ⟨0, 0, 0⟩ = (⟨0, 61, 0⟩, vt0) := by kernel_rfl
theorem k4 : valsS [96, 1, 127, 0] ⟨1, 0, 0⟩ = (⟨3, 0, 0⟩, [⟨1, false, 0, 0⟩]) := by kernel_rfl
theorem k5 : valsS [96, 1, 127, 0] ⟨3, 0, 0⟩ = (⟨4, 0, 0⟩, []) := by kernel_rfl
theorem val_eq (w : World) : (binOp .eql 69 (.agg #[.int .i64 3, .bool false, .int .i64 13, .int .i64 5]) (.agg #[.int .i64 3, .bool false, .int .i64 13, .int .i64 5])).run Try.prog w = .ok (.bool true) w := by kernel_rfl
section
variable {w w1 w2 : World} {p B : Nat} {A : Option Addr} {c : Nat} {l : List Int} {s : St}
theorem below_tr (h : Below B w w1) (k : Below B w1 w2) : Below B w w2 :=
  ⟨k.os.trans h.os, k.tape.trans h.tape, k.output.trans h.output, Nat.le_trans h.size k.size, fun i hi => (k.block i hi).trans (h.block i hi)⟩
theorem On.keep (h : On w p A c l s) (hb : Below B w w1) (hp : p < B) (ha : ∀ ad, A = some ad → 0 < l.length → ad.block < B) : On w1 p A c l s := by
  refine ⟨(hb.block p hp).trans h.row, ?_, h.apart, h.cap, h.lo, h.hi, h.u8, h.big⟩
  refine ⟨h.bytes.1, h.bytes.2.1, fun h0 => ?_⟩
  obtain ⟨ad, e, hc⟩ := h.bytes.2.2 h0
  refine ⟨ad, e, fun j hj => ?_⟩
  have hb2 : (ad.add j).block = ad.block := by unfold Addr.add; split <;> rfl
  exact (hb.cell (by rw [hb2]; exact ha ad e h0)).trans (hc j hj)
end
theorem known_calls (w : World) : Calls Try.prog 51 #[] w fun e w' => e = .returned (.bool true) ∧ Below w.heap.size w w' := by
  have q1 := val_eq
  go_enter Try.func51, Try.ntmps51
  go_wp2_with fail
  refine (Open_val _ _ _ [100, 133, 0] (reads_lit' _ (by simp) 5 .u8 [100, 133, 0] (by decide)) (by decide) (fun e => by cases e) (by decide)).mono ?_
  rintro e w1 ⟨p1, A1', c1', rfl, hp1, h1, b1⟩
  have X := A1.mk h1
  have BB := A1.mk (below_step (below_alloc (Below.refl w.heap.size w) (.cells #[.int .u8 100, .int .u8 133, .int .u8 0] 5)) b1)
  have g1 : w.heap.size ≤ p1 := by simp at hp1; omega
  clear b1 h1 hp1
  go_wp2_with fail
  refine (Val_on _ _ _ _ _ _ X.out rfl).mono ?_
  rintro e w2 ⟨rfl, h2, f2⟩
  rw [k1] at h2 ⊢
  unfold VT.cells
  have B2 := A1.mk (below_tr BB.out (f2.base BB.out.size g1))
  have hsz2 := B2.out.size
  have B2a := A1.mk (B2.out.alloc hsz2 (.cells #[.int .i64 3, .bool false, .int .i64 13, .int .i64 5] 69))
  have X2 := A1.mk (h2.alloc (.cells #[.int .i64 3, .bool false, .int .i64 13, .int .i64 5] 69))
  have R2 := A1.mk (heap_alloc_new w2 (.cells #[.int .i64 3, .bool false, .int .i64 13, .int .i64 5] 69))
  have L2 := A1.mk (show w2.heap.size < (w2.alloc (.cells #[.int .i64 3, .bool false, .int .i64 13, .int .i64 5] 69)).heap.size by simp)
  clear h2 f2 X BB B2
  go_wp2_with fail
  refine (Err_on _ _ _ _ _ _ X2.out).mono ?_
  rintro e w3 ⟨rfl, b3⟩
  have X3 := A1.mk (X2.out.below b3)
  have R3 := A1.mk ((b3.block _ L2.out).trans R2.out)
  have B3 := A1.mk (below_step B2a.out b3)
  have L3 := A1.mk (Nat.lt_of_lt_of_le L2.out b3.size)
  clear b3 X2 R2 B2a L2
  go_wp2_with fail
  refine (Open_val _ _ _ [100, 127] (reads_lit' _ (by simp) 5 .u8 [100, 127] (by decide)) (by decide) (fun e => by cases e) (by decide)).mono ?_
  rintro e w4 ⟨p2, A2', c2', rfl, hp2, h4, b4⟩
  have bb4 := A1.mk (below_step (below_alloc (Below.refl w3.heap.size w3) (.cells #[.int .u8 100, .int .u8 127] 5)) b4)
  have g2 : w3.heap.size ≤ p2 := by simp at hp2; omega
  have X4 := A1.mk h4
  clear h4 b4 hp2
  go_wp2_with fail
  refine (Val_on _ _ _ _ _ _ X4.out rfl).mono ?_
  rintro e w5 ⟨rfl, h5, f5⟩
  rw [k2] at h5 ⊢
  unfold VT.cells
  have bb5 := A1.mk (below_tr bb4.out (f5.base bb4.out.size g2))
  have X5 := A1.mk h5
  clear h5 f5 X4 bb4
  go_wp2_with fail
  refine (Err_on _ _ _ _ _ _ X5.out).mono ?_
  rintro e w6 ⟨rfl, b6⟩
  have bb6 := A1.mk (below_step bb5.out b6)
  clear b6 X5 bb5
  have X6 := A1.mk (X3.out.below bb6.out)
  have R6 := A1.mk ((bb6.out.block _ L3.out).trans R3.out)
  have B6 := A1.mk (below_step B3.out bb6.out)
  have L6 := A1.mk (Nat.lt_of_lt_of_le L3.out bb6.out.size)
  clear X3 R3 B3 L3 bb6
  go_wp2_with fail
  refine (Open_val _ _ _ [125] (reads_lit' _ (by simp) 5 .u8 [125] (by decide)) (by decide) (fun e => by cases e) (by decide)).mono ?_
  rintro e w7 ⟨p3, A3', c3', rfl, hp3, h7, b7⟩
  have bb7 := A1.mk (below_step (below_alloc (Below.refl w6.heap.size w6) (.cells #[.int .u8 125] 5)) b7)
  have g3 : w6.heap.size ≤ p3 := by simp at hp3; omega
  have X7 := A1.mk h7
  clear h7 b7 hp3
  go_wp2_with fail
  refine (Val_on _ _ _ _ _ _ X7.out rfl).mono ?_
  rintro e w8 ⟨rfl, h8, f8⟩
  rw [k3] at h8 ⊢
  unfold VT.cells
  have bb8 := A1.mk (below_tr bb7.out (f8.base bb7.out.size g3))
  have X8 := A1.mk h8
  clear h8 f8 X7 bb7
  go_wp2_with fail
  refine (Err_on _ _ _ _ _ _ X8.out).mono ?_
  rintro e w9 ⟨rfl, b9⟩
  have bb9 := A1.mk (below_step bb8.out b9)
  clear b9 X8 bb8
  have X9 := A1.mk (X6.out.below bb9.out)
  have R9 := A1.mk ((bb9.out.block _ L6.out).trans R6.out)
  have B9 := A1.mk (below_step B6.out bb9.out)
  have L9 := A1.mk (Nat.lt_of_lt_of_le L6.out bb9.out.size)
  clear X6 R6 B6 L6 bb9
  go_wp2_with fail
  refine (Open_val _ _ _ [96, 1, 127, 0] (reads_lit' _ (by simp) 5 .u8 [96, 1, 127, 0] (by decide)) (by decide) (fun e => by cases e) (by decide)).mono ?_
  rintro e w10 ⟨p4, A4', c4', rfl, hp4, h10, b10⟩
  have bb10 := A1.mk (below_step (below_alloc (Below.refl w9.heap.size w9) (.cells #[.int .u8 96, .int .u8 1, .int .u8 127, .int .u8 0] 5)) b10)
  have g4 : w9.heap.size ≤ p4 := by simp at hp4; omega
  have X10 := A1.mk h10
  clear h10 b10 hp4
  go_wp2_with fail
  refine (Rec_func _ _ _ _ _ _ X10.out rfl (by decide) (by decide) (by show (valsS [96, 1, 127, 0] ⟨1, 0, 0⟩).1.e = 0; rw [k4]) (by show (valsS [96, 1, 127, 0] (valsS [96, 1, 127, 0] ⟨1, 0, 0⟩).1).1.e = 0; rw [k4, k5])).mono ?_
  rintro e w11 ⟨b11, A11, c11, A12, n12, c12, rfl, hb11, hr11, f11⟩
  have hr11' : w11.heap[b11]? = some (.cells #[.bool true, .slice none 0 0, .int .i64 1, .slice A11 (valsS [96, 1, 127, 0] ⟨1, 0, 0⟩).2.length c11, .slice A12 n12 c12, .slice none 0 0] 84 (0, 0)) := hr11
  rw [k4] at hr11'
  clear hr11
  have bb11 := A1.mk (below_tr bb10.out (f11.base bb10.out.size g4))
  clear f11 X10 bb10
  have X11 := A1.mk (X9.out.below bb11.out)
  have R11 := A1.mk ((bb11.out.block _ L9.out).trans R9.out)
  have B11 := A1.mk (below_step B9.out bb11.out)
  have L11 := A1.mk (Nat.lt_of_lt_of_le L9.out bb11.out.size)
  clear X9 R9 B9 L9 bb11
  have c0 := cell_of_row w11 w2.heap.size 0 _ _ (0, 0) R11.out
  have c1 := cell_of_row w11 w2.heap.size 1 _ _ (0, 0) R11.out
  have c2 := cell_of_row w11 w2.heap.size 2 _ _ (0, 0) R11.out
  have c3 := cell_of_row w11 w2.heap.size 3 _ _ (0, 0) R11.out
  have d0 := cell_of_row w11 b11 0 _ _ (0, 0) hr11'
  have d3 := cell_of_row w11 b11 3 _ _ (0, 0) hr11'
  clear hr11' hb11
  replace c0 : w11.cell? ⟨w2.heap.size, 0, none⟩ = some (.int .i64 3) := c0
  replace c1 : w11.cell? ⟨w2.heap.size, 1, none⟩ = some (.bool false) := c1
  replace c2 : w11.cell? ⟨w2.heap.size, 2, none⟩ = some (.int .i64 13) := c2
  replace c3 : w11.cell? ⟨w2.heap.size, 3, none⟩ = some (.int .i64 5) := c3
  replace d0 : w11.cell? ⟨b11, 0, none⟩ = some (.bool true) := d0
  replace d3 : w11.cell? ⟨b11, 3, none⟩ = some (.slice A11 1 c11) := d3
  go_wp2_with fail
  refine (Left_on _ _ _ _ _ _ X11.out).mono ?_
  rintro e w12 ⟨rfl, b12⟩
  have e4 := (b12.cell (World.block_lt_of_cell? w11 _ d0)).trans d0
  have e5 := (b12.cell (World.block_lt_of_cell? w11 _ d3)).trans d3
  have B12 := A1.mk (below_step B11.out b12)
  clear b12 X11 R11 B11 L11 c0 c1 c2 c3 d0 d3
  go_wp2
  go_ret
  exact ⟨rfl, B12.out⟩
end Go.Proofs.Ythghmbfbjnedfaa.Tb
