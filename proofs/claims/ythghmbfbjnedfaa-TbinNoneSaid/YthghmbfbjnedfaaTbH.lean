/- Layer 6: a value type is read. -/
import Derived.Test.YthghmbfbjnedfaaTbG
namespace Go.Proofs.Ythghmbfbjnedfaa.Tb
open Go Go.RowKit Go.Proofs.YthghmbfbjnedfaaW.PrintWords Go.Proofs.Ythghmbfbjnedfaa.Lb Go.Proofs.Ythghmbfbjnedfaa.Leb
set_option maxHeartbeats 8000000
set_option maxRecDepth 100000
/-- A value type: its kind, whether null, its heap type's kind and number. -/
structure VT where
  kind : Int
  null : Bool
  hk : Int
  hn : Int
def VT.cells (v : VT) : Array Value := #[.int .i64 v.kind, .bool v.null, .int .i64 v.hk, .int .i64 v.hn]
def vt0 : VT := ⟨0, false, 0, 0⟩
def valF (l : List Int) (s : St) : St × VT :=
  if s.pos < l.length then
    if givenF (rd l s.pos) = 0 then
      if rd l s.pos = 127 ∨ rd l s.pos = 126 then (⟨s.pos + 1, s.e, s.bad⟩, ⟨128 - rd l s.pos, false, 0, 0⟩)
      else if rd l s.pos = 125 ∨ rd l s.pos = 124 ∨ rd l s.pos = 123 then (s.fail 61 s.pos, vt0)
      else if rd l s.pos = 99 ∨ rd l s.pos = 100 then
        if (heapF l ⟨s.pos + 1, s.e, s.bad⟩).1.e = 0 then ((heapF l ⟨s.pos + 1, s.e, s.bad⟩).1, ⟨3, rd l s.pos == 99, (heapF l ⟨s.pos + 1, s.e, s.bad⟩).2.1, (heapF l ⟨s.pos + 1, s.e, s.bad⟩).2.2⟩)
        else ((heapF l ⟨s.pos + 1, s.e, s.bad⟩).1, vt0)
      else (s.fail 60 s.pos, vt0)
    else (⟨s.pos + 1, s.e, s.bad⟩, ⟨3, true, givenF (rd l s.pos), 0⟩)
  else (s.fail 10 s.pos, vt0)
theorem info_val : (Try.prog.info? 69).map (·.size) = some 4 := by kernel_rfl
theorem val_one (v : VT) : v.cells.all (·.oneCell') = true := by kernel_rfl
section
variable {w w1 : World} {p b : Nat} {A : Option Addr} {c : Nat} {l : List Int} {s : St}
theorem On.setO (h : On w p A c l s) (hb : b ≠ p) (ha : ∀ ad, A = some ad → 0 < l.length → ad.block ≠ b) (j : Nat) (v : Value) : On (w.setCell ⟨b, j, none⟩ v) p A c l s := by
  refine ⟨(Below.heap_setCell w ⟨b, j, none⟩ v p (fun e => hb e.symm)).trans h.row, ?_, h.apart, h.cap, h.lo, h.hi, h.u8, h.big⟩
  exact h.bytes.keep (KeepBut.set_ (KeepBut.refl w b none) j v) ha
theorem Fr.setO (h : Fr w w1 p) (hb : w.heap.size ≤ b) (j : Nat) (v : Value) : Fr w (w1.setCell ⟨b, j, none⟩ v) p :=
  ⟨h.os, h.tape, h.output, by have := h.size; simpa [World.setCell] using this, fun i hi hne => (Below.heap_setCell w1 ⟨b, j, none⟩ v i (fun e => by have e2 : i = b := e; omega)).trans (h.block i hi hne)⟩
theorem heap_setO {o : Option Obj} (h : w.heap[p]? = o) (hb : p ≠ b) (j : Nat) (v : Value) : (w.setCell ⟨b, j, none⟩ v).heap[p]? = o := (Below.heap_setCell w ⟨b, j, none⟩ v p hb).trans h
end
theorem Val_on (w : World) (p : Nat) (A : Option Addr) (c : Nat) (l : List Int) (s : St) (h : On w p A c l s) (he : s.e = 0) :
    Calls Try.prog 45 #[.pointer (some ⟨p, 0, none⟩)] w fun e w' => e = .returned (.agg (valF l s).2.cells) ∧ On w' p A c l (valF l s).1 ∧ Fr w w' p := by
  have F0 := A1.mk ((Fr.refl w p).alloc (.cells vt0.cells 69))
  have hp := h.lt
  have hlo := h.lo
  have hbig : (l.length : Int) ≤ 1000000 := by have := h.big; omega
  have h1 := h.alloc (.cells vt0.cells 69)
  have hz := heap_alloc_new w (.cells vt0.cells 69)
  have hlt : w.heap.size < (w.alloc (.cells vt0.cells 69)).heap.size := by simp
  have hne : w.heap.size ≠ p := by omega
  have Y := A1.mk (peek_on _ p A c l s h1 he)
  have HZ := A1.mk hz
  have AW := A1.mk (fun ad e h0 => Nat.ne_of_lt (h.away ad e h0))
  have AL := A1.mk h.away
  by_cases hq : s.pos < l.length
  case neg =>
    have e1 : valF l s = (s.fail 10 s.pos, vt0) := if_neg hq
    have e2 : peekF l s = (s.fail 10 s.pos, 0, false) := if_neg hq
    rw [e1]
    rw [e2] at Y
    clear h he h1 hz e1 e2 hq
    go_enter Try.func45, Try.ntmps45
    go_wp2_with fail
    refine Y.out.mono ?_
    rintro e w2 ⟨rfl, h2, f2⟩
    have H2 := A1.mk h2
    have F2 := A1.mk f2
    clear h2 f2
    go_wp2_with (first | ((with_reducible refine gateS (ty := 69) (x := .tmp 2) (y := .tmp 15) rfl ?_); refine wpList_store_row rfl 69 (.tmp 2) (.tmp 15) rfl _ (vt0.cells) rfl rfl 69 _ (F2.out.own hlt hne HZ.out) info_val rfl (val_one _) ?_))
    (try simp only [Exit.inBlock, Exit.then])
    refine bodyPost_ret (results_cell_row (p := 2) (ty := 69) rfl _ _ _ _ _ (0, 0) _ rfl (setRow_heap _ _ _ _ _ _ (F2.out.own hlt hne HZ.out)) Try.underlying69 rfl info_val) rfl ?_
    exact ⟨rfl, H2.out.setRow hne AW.out _, (F0.out.trans F2.out).setRow (Nat.le_refl _) _⟩
  case pos =>
    obtain ⟨g0, g1⟩ := rd_u8 h.u8 hlo hq
    have e2 : peekF l s = (s, rd l s.pos, true) := if_pos hq
    rw [e2] at Y
    unfold valF
    rw [if_pos hq]
    have HEAP := A1.mk (fun (w1 : World) (h1 : On w1 p A c l ⟨s.pos + 1, s.e, s.bad⟩) => Heap_on w1 p A c l ⟨s.pos + 1, s.e, s.bad⟩ h1 he)
    have Te := A1.mk (fun (w1 : World) (t : St) (h1 : On w1 p A c l t) (ht : t.e ≠ 0) => there_err w1 p A c l t h1 ht)
    have To := A1.mk (fun (w1 : World) (t : St) (h1 : On w1 p A c l t) (ht : t.e = 0) => there_on w1 p A c l t h1 ht)
    have HE := A1.mk he
    have hq3 : s.pos ≤ 1000000 := by omega
    have hq4 : s.pos + 1 ≤ l.length := by omega
    obtain ⟨x, hx⟩ : ∃ x, rd l s.pos = x := ⟨_, rfl⟩
    rw [hx] at g0 g1 Y ⊢
    obtain ⟨k, hk⟩ : ∃ k, givenF x = k := ⟨_, rfl⟩
    have G := A1.mk (fun w => given_val x w g0 g1)
    rw [hk] at G ⊢
    obtain ⟨R, hR⟩ : ∃ R, heapF l ⟨s.pos + 1, s.e, s.bad⟩ = R := ⟨_, rfl⟩
    rw [hR] at HEAP ⊢
    clear h he h1 hz e2 hq hx hR
    by_cases hk0 : k = 0
    case neg =>
      rw [if_neg hk0]
      have kb : (k != 0) = true := bne_iff_ne.2 hk0
      clear hk0 hk
      go_enter Try.func45, Try.ntmps45
      go_wp2_with fail
      refine Y.out.mono ?_
      rintro e w2 ⟨rfl, h2, f2⟩
      have hs2 := f2.size
      have H2 := A1.mk (h2.alloc (.cells #[.int .i64 3, .bool true, .int .i64 0, .int .i64 0] 69))
      have F2 := A1.mk (F0.out.trans (f2.alloc (.cells #[.int .i64 3, .bool true, .int .i64 0, .int .i64 0] 69)))
      have Z2 := A1.mk ((f2.alloc (.cells #[.int .i64 3, .bool true, .int .i64 0, .int .i64 0] 69)).own hlt hne HZ.out)
      have V2 := A1.mk (heap_alloc_new w2 (.cells #[.int .i64 3, .bool true, .int .i64 0, .int .i64 0] 69))
      obtain ⟨b5, hb5⟩ : ∃ b, w2.heap.size = b := ⟨_, rfl⟩
      have hlt2 : b5 < (w2.alloc (.cells #[.int .i64 3, .bool true, .int .i64 0, .int .i64 0] 69)).heap.size := by rw [← hb5]; simp
      have hwb : w.heap.size < b5 := by rw [← hb5]; omega
      rw [hb5] at V2
      clear h2 f2 hs2
      go_wp2_with fail
      refine (G.out _).mono ?_
      rintro e w3 ⟨rfl, hb⟩
      have H3 := A1.mk (H2.out.below hb)
      have F3 := A1.mk (F2.out.step hb)
      have Z3 := A1.mk ((hb.block _ (by omega)).trans Z2.out)
      have V3 := A1.mk ((hb.block _ hlt2).trans V2.out)
      have hs3 := hb.size
      have hl3 : b5 < w3.heap.size := by omega
      have hne5 : b5 ≠ p := by omega
      have ho5 : w.heap.size ≠ b5 := by omega
      clear hb H2 F2 Z2 V2 hs3 hlt2 hb5
      have A5 := A1.mk (fun ad (e : A = some ad) (h0 : 0 < l.length) => (show ad.block ≠ b5 by have := AL.out ad e h0; omega))
      have W5 := A1.mk (fun (o : Obj) => (Below.alloc (Below.refl w3.heap.size w3) (Nat.le_refl _) o).block b5 hl3 |>.trans V3.out)
      have WZ := A1.mk (fun (o : Obj) => (Below.alloc (Below.refl w3.heap.size w3) (Nat.le_refl _) o).block w.heap.size (by omega) |>.trans Z3.out)
      have r0a := fun o => (H3.out.alloc o).c0
      have z0a := fun o => (H3.out.alloc o).f 0
      have v0 := fun o => (cell_of_row (w3.alloc o) b5 0 _ _ (0, 0) (W5.out o))
      have v1 := fun o => (cell_of_row (w3.alloc o) b5 1 _ _ (0, 0) (W5.out o))
      have v2 := fun o => (cell_of_row (w3.alloc o) b5 2 _ _ (0, 0) (W5.out o))
      have v3 := fun o => (cell_of_row (w3.alloc o) b5 3 _ _ (0, 0) (W5.out o))
      have y1 := fun o => frozen_of_row (w3.alloc o) b5 1 _ _ (W5.out o)
      have y2 := fun o => frozen_of_row (w3.alloc o) b5 2 _ _ (W5.out o)
      have y3 := fun o => frozen_of_row (w3.alloc o) b5 3 _ _ (W5.out o)
      go_wp2_with (first | ((with_reducible refine gateS (ty := 69) (x := .tmp 2) (y := .tmp 34) rfl ?_); refine wpList_store_row rfl 69 (.tmp 2) (.tmp 34) rfl _ ((⟨3, true, k, 0⟩ : VT).cells) rfl rfl 69 _ (heap_setO (heap_setO (heap_setO (WZ.out (.cells #[.int .i64 k, .int .i64 0] 65)) hne 0 (.int .i64 (s.pos + 1))) ho5 2 (.int .i64 k)) ho5 3 (.int .i64 0)) info_val rfl (val_one _) ?_))
      (try simp only [Exit.inBlock, Exit.then])
      refine bodyPost_ret (results_cell_row (p := 2) (ty := 69) rfl _ _ _ _ _ (0, 0) _ rfl (setRow_heap _ _ _ _ _ _ (heap_setO (heap_setO (heap_setO (WZ.out (.cells #[.int .i64 k, .int .i64 0] 65)) hne 0 (.int .i64 (s.pos + 1))) ho5 2 (.int .i64 k)) ho5 3 (.int .i64 0))) Try.underlying69 rfl info_val) rfl ?_
      exact ⟨rfl, (((((H3.out.alloc _).set0 (s.pos + 1) (by omega) hq4).setO hne5 A5.out 2 _).setO hne5 A5.out 3 _).setRow hne AW.out _), ((((F3.out.alloc _).set 0 _).setO (Nat.le_of_lt hwb) 2 _).setO (Nat.le_of_lt hwb) 3 _).setRow (Nat.le_refl _) _⟩
    case pos =>
      subst hk0
      rw [if_pos rfl]
      by_cases q127 : x = 127
      · subst q127
        rw [if_pos (by decide)]
        go_enter Try.func45, Try.ntmps45
        go_wp2_with fail
        refine Y.out.mono ?_
        rintro e w2 ⟨rfl, h2, f2⟩
        have hs2 := f2.size
        have H2 := A1.mk (h2.alloc (.cells #[.int .i64 3, .bool true, .int .i64 0, .int .i64 0] 69))
        have F2 := A1.mk (F0.out.trans (f2.alloc (.cells #[.int .i64 3, .bool true, .int .i64 0, .int .i64 0] 69)))
        have Z2 := A1.mk ((f2.alloc (.cells #[.int .i64 3, .bool true, .int .i64 0, .int .i64 0] 69)).own hlt hne HZ.out)
        have V2 := A1.mk (heap_alloc_new w2 (.cells #[.int .i64 3, .bool true, .int .i64 0, .int .i64 0] 69))
        obtain ⟨b5, hb5⟩ : ∃ b, w2.heap.size = b := ⟨_, rfl⟩
        have hlt2 : b5 < (w2.alloc (.cells #[.int .i64 3, .bool true, .int .i64 0, .int .i64 0] 69)).heap.size := by rw [← hb5]; simp
        have hwb : w.heap.size < b5 := by rw [← hb5]; omega
        rw [hb5] at V2
        clear h2 f2 hs2
        go_wp2_with fail
        refine (G.out _).mono ?_
        rintro e w3 ⟨rfl, hb⟩
        have H3 := A1.mk (H2.out.below hb)
        have F3 := A1.mk (F2.out.step hb)
        have Z3 := A1.mk ((hb.block _ (by omega)).trans Z2.out)
        have V3 := A1.mk ((hb.block _ hlt2).trans V2.out)
        have hs3 := hb.size
        have hl3 : b5 < w3.heap.size := by omega
        have hne5 : b5 ≠ p := by omega
        have ho5 : w.heap.size ≠ b5 := by omega
        clear hb H2 F2 Z2 V2 hs3 hlt2 hb5
        have A5 := A1.mk (fun ad (e : A = some ad) (h0 : 0 < l.length) => (show ad.block ≠ b5 by have := AL.out ad e h0; omega))
        have W5 := A1.mk (fun (o : Obj) => (Below.alloc (Below.refl w3.heap.size w3) (Nat.le_refl _) o).block b5 hl3 |>.trans V3.out)
        have WZ := A1.mk (fun (o : Obj) => (Below.alloc (Below.refl w3.heap.size w3) (Nat.le_refl _) o).block w.heap.size (by omega) |>.trans Z3.out)
        have r0a := fun o => (H3.out.alloc o).c0
        have z0a := fun o => (H3.out.alloc o).f 0
        have v0 := fun o => (cell_of_row (w3.alloc o) b5 0 _ _ (0, 0) (W5.out o))
        have v1 := fun o => (cell_of_row (w3.alloc o) b5 1 _ _ (0, 0) (W5.out o))
        have v2 := fun o => (cell_of_row (w3.alloc o) b5 2 _ _ (0, 0) (W5.out o))
        have v3 := fun o => (cell_of_row (w3.alloc o) b5 3 _ _ (0, 0) (W5.out o))
        have y1 := fun o => frozen_of_row (w3.alloc o) b5 1 _ _ (W5.out o)
        have y2 := fun o => frozen_of_row (w3.alloc o) b5 2 _ _ (W5.out o)
        have y3 := fun o => frozen_of_row (w3.alloc o) b5 3 _ _ (W5.out o)
        go_wp2_with (first | ((with_reducible refine gateS (ty := 69) (x := .tmp 2) (y := .tmp 61) rfl ?_); refine wpList_store_row rfl 69 (.tmp 2) (.tmp 61) rfl _ ((⟨1, false, 0, 0⟩ : VT).cells) rfl rfl 69 _ (heap_setO (WZ.out (.cells #[.int .i64 0, .int .i64 0] 65)) hne 0 (.int .i64 (s.pos + 1))) info_val rfl (val_one _) ?_))
        (try simp only [Exit.inBlock, Exit.then])
        refine bodyPost_ret (results_cell_row (p := 2) (ty := 69) rfl _ _ _ _ _ (0, 0) _ rfl (setRow_heap _ _ _ _ _ _ (heap_setO (WZ.out (.cells #[.int .i64 0, .int .i64 0] 65)) hne 0 (.int .i64 (s.pos + 1)))) Try.underlying69 rfl info_val) rfl ?_
        exact ⟨rfl, ((H3.out.alloc _).set0 (s.pos + 1) (by omega) hq4).setRow hne AW.out _, ((F3.out.alloc _).set 0 _).setRow (Nat.le_refl _) _⟩
      by_cases q126 : x = 126
      · subst q126
        rw [if_pos (by decide)]
        go_enter Try.func45, Try.ntmps45
        go_wp2_with fail
        refine Y.out.mono ?_
        rintro e w2 ⟨rfl, h2, f2⟩
        have hs2 := f2.size
        have H2 := A1.mk (h2.alloc (.cells #[.int .i64 3, .bool true, .int .i64 0, .int .i64 0] 69))
        have F2 := A1.mk (F0.out.trans (f2.alloc (.cells #[.int .i64 3, .bool true, .int .i64 0, .int .i64 0] 69)))
        have Z2 := A1.mk ((f2.alloc (.cells #[.int .i64 3, .bool true, .int .i64 0, .int .i64 0] 69)).own hlt hne HZ.out)
        have V2 := A1.mk (heap_alloc_new w2 (.cells #[.int .i64 3, .bool true, .int .i64 0, .int .i64 0] 69))
        obtain ⟨b5, hb5⟩ : ∃ b, w2.heap.size = b := ⟨_, rfl⟩
        have hlt2 : b5 < (w2.alloc (.cells #[.int .i64 3, .bool true, .int .i64 0, .int .i64 0] 69)).heap.size := by rw [← hb5]; simp
        have hwb : w.heap.size < b5 := by rw [← hb5]; omega
        rw [hb5] at V2
        clear h2 f2 hs2
        go_wp2_with fail
        refine (G.out _).mono ?_
        rintro e w3 ⟨rfl, hb⟩
        have H3 := A1.mk (H2.out.below hb)
        have F3 := A1.mk (F2.out.step hb)
        have Z3 := A1.mk ((hb.block _ (by omega)).trans Z2.out)
        have V3 := A1.mk ((hb.block _ hlt2).trans V2.out)
        have hs3 := hb.size
        have hl3 : b5 < w3.heap.size := by omega
        have hne5 : b5 ≠ p := by omega
        have ho5 : w.heap.size ≠ b5 := by omega
        clear hb H2 F2 Z2 V2 hs3 hlt2 hb5
        have A5 := A1.mk (fun ad (e : A = some ad) (h0 : 0 < l.length) => (show ad.block ≠ b5 by have := AL.out ad e h0; omega))
        have W5 := A1.mk (fun (o : Obj) => (Below.alloc (Below.refl w3.heap.size w3) (Nat.le_refl _) o).block b5 hl3 |>.trans V3.out)
        have WZ := A1.mk (fun (o : Obj) => (Below.alloc (Below.refl w3.heap.size w3) (Nat.le_refl _) o).block w.heap.size (by omega) |>.trans Z3.out)
        have r0a := fun o => (H3.out.alloc o).c0
        have z0a := fun o => (H3.out.alloc o).f 0
        have v0 := fun o => (cell_of_row (w3.alloc o) b5 0 _ _ (0, 0) (W5.out o))
        have v1 := fun o => (cell_of_row (w3.alloc o) b5 1 _ _ (0, 0) (W5.out o))
        have v2 := fun o => (cell_of_row (w3.alloc o) b5 2 _ _ (0, 0) (W5.out o))
        have v3 := fun o => (cell_of_row (w3.alloc o) b5 3 _ _ (0, 0) (W5.out o))
        have y1 := fun o => frozen_of_row (w3.alloc o) b5 1 _ _ (W5.out o)
        have y2 := fun o => frozen_of_row (w3.alloc o) b5 2 _ _ (W5.out o)
        have y3 := fun o => frozen_of_row (w3.alloc o) b5 3 _ _ (W5.out o)
        go_wp2_with (first | ((with_reducible refine gateS (ty := 69) (x := .tmp 2) (y := .tmp 61) rfl ?_); refine wpList_store_row rfl 69 (.tmp 2) (.tmp 61) rfl _ ((⟨2, false, 0, 0⟩ : VT).cells) rfl rfl 69 _ (heap_setO (WZ.out (.cells #[.int .i64 0, .int .i64 0] 65)) hne 0 (.int .i64 (s.pos + 1))) info_val rfl (val_one _) ?_))
        (try simp only [Exit.inBlock, Exit.then])
        refine bodyPost_ret (results_cell_row (p := 2) (ty := 69) rfl _ _ _ _ _ (0, 0) _ rfl (setRow_heap _ _ _ _ _ _ (heap_setO (WZ.out (.cells #[.int .i64 0, .int .i64 0] 65)) hne 0 (.int .i64 (s.pos + 1)))) Try.underlying69 rfl info_val) rfl ?_
        exact ⟨rfl, ((H3.out.alloc _).set0 (s.pos + 1) (by omega) hq4).setRow hne AW.out _, ((F3.out.alloc _).set 0 _).setRow (Nat.le_refl _) _⟩
      rw [if_neg (by omega)]
      by_cases q125 : x = 125
      · subst q125
        rw [if_pos (by decide)]
        go_enter Try.func45, Try.ntmps45
        go_wp2_with fail
        refine Y.out.mono ?_
        rintro e w2 ⟨rfl, h2, f2⟩
        have hs2 := f2.size
        have H2 := A1.mk (h2.alloc (.cells #[.int .i64 3, .bool true, .int .i64 0, .int .i64 0] 69))
        have F2 := A1.mk (F0.out.trans (f2.alloc (.cells #[.int .i64 3, .bool true, .int .i64 0, .int .i64 0] 69)))
        have Z2 := A1.mk ((f2.alloc (.cells #[.int .i64 3, .bool true, .int .i64 0, .int .i64 0] 69)).own hlt hne HZ.out)
        have V2 := A1.mk (heap_alloc_new w2 (.cells #[.int .i64 3, .bool true, .int .i64 0, .int .i64 0] 69))
        obtain ⟨b5, hb5⟩ : ∃ b, w2.heap.size = b := ⟨_, rfl⟩
        have hlt2 : b5 < (w2.alloc (.cells #[.int .i64 3, .bool true, .int .i64 0, .int .i64 0] 69)).heap.size := by rw [← hb5]; simp
        have hwb : w.heap.size < b5 := by rw [← hb5]; omega
        rw [hb5] at V2
        clear h2 f2 hs2
        go_wp2_with fail
        refine (G.out _).mono ?_
        rintro e w3 ⟨rfl, hb⟩
        have H3 := A1.mk (H2.out.below hb)
        have F3 := A1.mk (F2.out.step hb)
        have Z3 := A1.mk ((hb.block _ (by omega)).trans Z2.out)
        have V3 := A1.mk ((hb.block _ hlt2).trans V2.out)
        have hs3 := hb.size
        have hl3 : b5 < w3.heap.size := by omega
        have hne5 : b5 ≠ p := by omega
        have ho5 : w.heap.size ≠ b5 := by omega
        clear hb H2 F2 Z2 V2 hs3 hlt2 hb5
        have A5 := A1.mk (fun ad (e : A = some ad) (h0 : 0 < l.length) => (show ad.block ≠ b5 by have := AL.out ad e h0; omega))
        have W5 := A1.mk (fun (o : Obj) => (Below.alloc (Below.refl w3.heap.size w3) (Nat.le_refl _) o).block b5 hl3 |>.trans V3.out)
        have WZ := A1.mk (fun (o : Obj) => (Below.alloc (Below.refl w3.heap.size w3) (Nat.le_refl _) o).block w.heap.size (by omega) |>.trans Z3.out)
        have r0a := fun o => (H3.out.alloc o).c0
        have z0a := fun o => (H3.out.alloc o).f 0
        have v0 := fun o => (cell_of_row (w3.alloc o) b5 0 _ _ (0, 0) (W5.out o))
        have v1 := fun o => (cell_of_row (w3.alloc o) b5 1 _ _ (0, 0) (W5.out o))
        have v2 := fun o => (cell_of_row (w3.alloc o) b5 2 _ _ (0, 0) (W5.out o))
        have v3 := fun o => (cell_of_row (w3.alloc o) b5 3 _ _ (0, 0) (W5.out o))
        have y1 := fun o => frozen_of_row (w3.alloc o) b5 1 _ _ (W5.out o)
        have y2 := fun o => frozen_of_row (w3.alloc o) b5 2 _ _ (W5.out o)
        have y3 := fun o => frozen_of_row (w3.alloc o) b5 3 _ _ (W5.out o)
        go_wp2_with fail
        have c6 := r0a (.cells #[.int .i64 0, .int .i64 0] 65)
        go_region_held3 (fun w' => w'.cell? ⟨p, 0, none⟩ = some (.int .i64 s.pos)) (go_keep) ((go_at_call 73; refine (fail_on _ p A c l s ?_ 61 s.pos).mono ?_; (exact (H3.out.alloc (.cells #[.int .i64 0, .int .i64 0] 65)).drew); rintro e w4 ⟨rfl, h4, fr⟩; have H4 := A1.mk h4; have F4 := A1.mk fr; have r4 := h4.c0; rw [St.fail_pos] at r4; clear h4 fr))
        have Z6 := A1.mk ((((Fr.refl w3 p).alloc (.cells #[.int .i64 0, .int .i64 0] 65)).drew.trans F4.out).own (show w.heap.size < w3.heap.size by omega) hne Z3.out)
        have hfe : (s.fail 61 s.pos).e ≠ 0 := by
          unfold St.fail
          rw [if_pos ⟨HE.out, by decide⟩]
          show (61 : Int) ≠ 0
          decide
        clear r4 c6 r0a z0a v0 v1 v2 v3 y1 y2 y3
        go_wp2_with fail
        refine (Te.out _ _ H4.out hfe).mono ?_
        rintro e w5 ⟨rfl, rfl⟩
        go_wp2_with (first | ((with_reducible refine gateS (ty := 69) (x := .tmp 2) (y := .tmp 96) rfl ?_); refine wpList_store_row rfl 69 (.tmp 2) (.tmp 96) rfl _ (vt0.cells) rfl rfl 69 _ Z6.out info_val rfl (val_one _) ?_))
        (try simp only [Exit.inBlock, Exit.then])
        refine bodyPost_ret (results_cell_row (p := 2) (ty := 69) rfl _ _ _ _ _ (0, 0) _ rfl (setRow_heap _ _ _ _ _ _ Z6.out) Try.underlying69 rfl info_val) rfl ?_
        exact ⟨rfl, H4.out.setRow hne AW.out _, (((F3.out.alloc (.cells #[.int .i64 0, .int .i64 0] 65)).drew.trans F4.out)).setRow (Nat.le_refl _) _⟩
      by_cases q124 : x = 124
      · subst q124
        rw [if_pos (by decide)]
        go_enter Try.func45, Try.ntmps45
        go_wp2_with fail
        refine Y.out.mono ?_
        rintro e w2 ⟨rfl, h2, f2⟩
        have hs2 := f2.size
        have H2 := A1.mk (h2.alloc (.cells #[.int .i64 3, .bool true, .int .i64 0, .int .i64 0] 69))
        have F2 := A1.mk (F0.out.trans (f2.alloc (.cells #[.int .i64 3, .bool true, .int .i64 0, .int .i64 0] 69)))
        have Z2 := A1.mk ((f2.alloc (.cells #[.int .i64 3, .bool true, .int .i64 0, .int .i64 0] 69)).own hlt hne HZ.out)
        have V2 := A1.mk (heap_alloc_new w2 (.cells #[.int .i64 3, .bool true, .int .i64 0, .int .i64 0] 69))
        obtain ⟨b5, hb5⟩ : ∃ b, w2.heap.size = b := ⟨_, rfl⟩
        have hlt2 : b5 < (w2.alloc (.cells #[.int .i64 3, .bool true, .int .i64 0, .int .i64 0] 69)).heap.size := by rw [← hb5]; simp
        have hwb : w.heap.size < b5 := by rw [← hb5]; omega
        rw [hb5] at V2
        clear h2 f2 hs2
        go_wp2_with fail
        refine (G.out _).mono ?_
        rintro e w3 ⟨rfl, hb⟩
        have H3 := A1.mk (H2.out.below hb)
        have F3 := A1.mk (F2.out.step hb)
        have Z3 := A1.mk ((hb.block _ (by omega)).trans Z2.out)
        have V3 := A1.mk ((hb.block _ hlt2).trans V2.out)
        have hs3 := hb.size
        have hl3 : b5 < w3.heap.size := by omega
        have hne5 : b5 ≠ p := by omega
        have ho5 : w.heap.size ≠ b5 := by omega
        clear hb H2 F2 Z2 V2 hs3 hlt2 hb5
        have A5 := A1.mk (fun ad (e : A = some ad) (h0 : 0 < l.length) => (show ad.block ≠ b5 by have := AL.out ad e h0; omega))
        have W5 := A1.mk (fun (o : Obj) => (Below.alloc (Below.refl w3.heap.size w3) (Nat.le_refl _) o).block b5 hl3 |>.trans V3.out)
        have WZ := A1.mk (fun (o : Obj) => (Below.alloc (Below.refl w3.heap.size w3) (Nat.le_refl _) o).block w.heap.size (by omega) |>.trans Z3.out)
        have r0a := fun o => (H3.out.alloc o).c0
        have z0a := fun o => (H3.out.alloc o).f 0
        have v0 := fun o => (cell_of_row (w3.alloc o) b5 0 _ _ (0, 0) (W5.out o))
        have v1 := fun o => (cell_of_row (w3.alloc o) b5 1 _ _ (0, 0) (W5.out o))
        have v2 := fun o => (cell_of_row (w3.alloc o) b5 2 _ _ (0, 0) (W5.out o))
        have v3 := fun o => (cell_of_row (w3.alloc o) b5 3 _ _ (0, 0) (W5.out o))
        have y1 := fun o => frozen_of_row (w3.alloc o) b5 1 _ _ (W5.out o)
        have y2 := fun o => frozen_of_row (w3.alloc o) b5 2 _ _ (W5.out o)
        have y3 := fun o => frozen_of_row (w3.alloc o) b5 3 _ _ (W5.out o)
        go_wp2_with fail
        have c6 := r0a (.cells #[.int .i64 0, .int .i64 0] 65)
        go_region_held3 (fun w' => w'.cell? ⟨p, 0, none⟩ = some (.int .i64 s.pos)) (go_keep) ((go_at_call 73; refine (fail_on _ p A c l s ?_ 61 s.pos).mono ?_; (exact (H3.out.alloc (.cells #[.int .i64 0, .int .i64 0] 65)).drew); rintro e w4 ⟨rfl, h4, fr⟩; have H4 := A1.mk h4; have F4 := A1.mk fr; have r4 := h4.c0; rw [St.fail_pos] at r4; clear h4 fr))
        have Z6 := A1.mk ((((Fr.refl w3 p).alloc (.cells #[.int .i64 0, .int .i64 0] 65)).drew.trans F4.out).own (show w.heap.size < w3.heap.size by omega) hne Z3.out)
        have hfe : (s.fail 61 s.pos).e ≠ 0 := by
          unfold St.fail
          rw [if_pos ⟨HE.out, by decide⟩]
          show (61 : Int) ≠ 0
          decide
        clear r4 c6 r0a z0a v0 v1 v2 v3 y1 y2 y3
        go_wp2_with fail
        refine (Te.out _ _ H4.out hfe).mono ?_
        rintro e w5 ⟨rfl, rfl⟩
        go_wp2_with (first | ((with_reducible refine gateS (ty := 69) (x := .tmp 2) (y := .tmp 96) rfl ?_); refine wpList_store_row rfl 69 (.tmp 2) (.tmp 96) rfl _ (vt0.cells) rfl rfl 69 _ Z6.out info_val rfl (val_one _) ?_))
        (try simp only [Exit.inBlock, Exit.then])
        refine bodyPost_ret (results_cell_row (p := 2) (ty := 69) rfl _ _ _ _ _ (0, 0) _ rfl (setRow_heap _ _ _ _ _ _ Z6.out) Try.underlying69 rfl info_val) rfl ?_
        exact ⟨rfl, H4.out.setRow hne AW.out _, (((F3.out.alloc (.cells #[.int .i64 0, .int .i64 0] 65)).drew.trans F4.out)).setRow (Nat.le_refl _) _⟩
      by_cases q123 : x = 123
      · subst q123
        rw [if_pos (by decide)]
        go_enter Try.func45, Try.ntmps45
        go_wp2_with fail
        refine Y.out.mono ?_
        rintro e w2 ⟨rfl, h2, f2⟩
        have hs2 := f2.size
        have H2 := A1.mk (h2.alloc (.cells #[.int .i64 3, .bool true, .int .i64 0, .int .i64 0] 69))
        have F2 := A1.mk (F0.out.trans (f2.alloc (.cells #[.int .i64 3, .bool true, .int .i64 0, .int .i64 0] 69)))
        have Z2 := A1.mk ((f2.alloc (.cells #[.int .i64 3, .bool true, .int .i64 0, .int .i64 0] 69)).own hlt hne HZ.out)
        have V2 := A1.mk (heap_alloc_new w2 (.cells #[.int .i64 3, .bool true, .int .i64 0, .int .i64 0] 69))
        obtain ⟨b5, hb5⟩ : ∃ b, w2.heap.size = b := ⟨_, rfl⟩
        have hlt2 : b5 < (w2.alloc (.cells #[.int .i64 3, .bool true, .int .i64 0, .int .i64 0] 69)).heap.size := by rw [← hb5]; simp
        have hwb : w.heap.size < b5 := by rw [← hb5]; omega
        rw [hb5] at V2
        clear h2 f2 hs2
        go_wp2_with fail
        refine (G.out _).mono ?_
        rintro e w3 ⟨rfl, hb⟩
        have H3 := A1.mk (H2.out.below hb)
        have F3 := A1.mk (F2.out.step hb)
        have Z3 := A1.mk ((hb.block _ (by omega)).trans Z2.out)
        have V3 := A1.mk ((hb.block _ hlt2).trans V2.out)
        have hs3 := hb.size
        have hl3 : b5 < w3.heap.size := by omega
        have hne5 : b5 ≠ p := by omega
        have ho5 : w.heap.size ≠ b5 := by omega
        clear hb H2 F2 Z2 V2 hs3 hlt2 hb5
        have A5 := A1.mk (fun ad (e : A = some ad) (h0 : 0 < l.length) => (show ad.block ≠ b5 by have := AL.out ad e h0; omega))
        have W5 := A1.mk (fun (o : Obj) => (Below.alloc (Below.refl w3.heap.size w3) (Nat.le_refl _) o).block b5 hl3 |>.trans V3.out)
        have WZ := A1.mk (fun (o : Obj) => (Below.alloc (Below.refl w3.heap.size w3) (Nat.le_refl _) o).block w.heap.size (by omega) |>.trans Z3.out)
        have r0a := fun o => (H3.out.alloc o).c0
        have z0a := fun o => (H3.out.alloc o).f 0
        have v0 := fun o => (cell_of_row (w3.alloc o) b5 0 _ _ (0, 0) (W5.out o))
        have v1 := fun o => (cell_of_row (w3.alloc o) b5 1 _ _ (0, 0) (W5.out o))
        have v2 := fun o => (cell_of_row (w3.alloc o) b5 2 _ _ (0, 0) (W5.out o))
        have v3 := fun o => (cell_of_row (w3.alloc o) b5 3 _ _ (0, 0) (W5.out o))
        have y1 := fun o => frozen_of_row (w3.alloc o) b5 1 _ _ (W5.out o)
        have y2 := fun o => frozen_of_row (w3.alloc o) b5 2 _ _ (W5.out o)
        have y3 := fun o => frozen_of_row (w3.alloc o) b5 3 _ _ (W5.out o)
        go_wp2_with fail
        have c6 := r0a (.cells #[.int .i64 0, .int .i64 0] 65)
        go_region_held3 (fun w' => w'.cell? ⟨p, 0, none⟩ = some (.int .i64 s.pos)) (go_keep) ((go_at_call 73; refine (fail_on _ p A c l s ?_ 61 s.pos).mono ?_; (exact (H3.out.alloc (.cells #[.int .i64 0, .int .i64 0] 65)).drew); rintro e w4 ⟨rfl, h4, fr⟩; have H4 := A1.mk h4; have F4 := A1.mk fr; have r4 := h4.c0; rw [St.fail_pos] at r4; clear h4 fr))
        have Z6 := A1.mk ((((Fr.refl w3 p).alloc (.cells #[.int .i64 0, .int .i64 0] 65)).drew.trans F4.out).own (show w.heap.size < w3.heap.size by omega) hne Z3.out)
        have hfe : (s.fail 61 s.pos).e ≠ 0 := by
          unfold St.fail
          rw [if_pos ⟨HE.out, by decide⟩]
          show (61 : Int) ≠ 0
          decide
        clear r4 c6 r0a z0a v0 v1 v2 v3 y1 y2 y3
        go_wp2_with fail
        refine (Te.out _ _ H4.out hfe).mono ?_
        rintro e w5 ⟨rfl, rfl⟩
        go_wp2_with (first | ((with_reducible refine gateS (ty := 69) (x := .tmp 2) (y := .tmp 96) rfl ?_); refine wpList_store_row rfl 69 (.tmp 2) (.tmp 96) rfl _ (vt0.cells) rfl rfl 69 _ Z6.out info_val rfl (val_one _) ?_))
        (try simp only [Exit.inBlock, Exit.then])
        refine bodyPost_ret (results_cell_row (p := 2) (ty := 69) rfl _ _ _ _ _ (0, 0) _ rfl (setRow_heap _ _ _ _ _ _ Z6.out) Try.underlying69 rfl info_val) rfl ?_
        exact ⟨rfl, H4.out.setRow hne AW.out _, (((F3.out.alloc (.cells #[.int .i64 0, .int .i64 0] 65)).drew.trans F4.out)).setRow (Nat.le_refl _) _⟩
      rw [if_neg (by omega)]
      by_cases q99 : x = 99
      · subst q99
        rw [if_pos (by decide)]
        by_cases hre : R.1.e = 0
        · rw [if_pos hre]
          go_enter Try.func45, Try.ntmps45
          go_wp2_with fail
          refine Y.out.mono ?_
          rintro e w2 ⟨rfl, h2, f2⟩
          have hs2 := f2.size
          have H2 := A1.mk (h2.alloc (.cells #[.int .i64 3, .bool true, .int .i64 0, .int .i64 0] 69))
          have F2 := A1.mk (F0.out.trans (f2.alloc (.cells #[.int .i64 3, .bool true, .int .i64 0, .int .i64 0] 69)))
          have Z2 := A1.mk ((f2.alloc (.cells #[.int .i64 3, .bool true, .int .i64 0, .int .i64 0] 69)).own hlt hne HZ.out)
          have V2 := A1.mk (heap_alloc_new w2 (.cells #[.int .i64 3, .bool true, .int .i64 0, .int .i64 0] 69))
          obtain ⟨b5, hb5⟩ : ∃ b, w2.heap.size = b := ⟨_, rfl⟩
          have hlt2 : b5 < (w2.alloc (.cells #[.int .i64 3, .bool true, .int .i64 0, .int .i64 0] 69)).heap.size := by rw [← hb5]; simp
          have hwb : w.heap.size < b5 := by rw [← hb5]; omega
          rw [hb5] at V2
          clear h2 f2 hs2
          go_wp2_with fail
          refine (G.out _).mono ?_
          rintro e w3 ⟨rfl, hb⟩
          have H3 := A1.mk (H2.out.below hb)
          have F3 := A1.mk (F2.out.step hb)
          have Z3 := A1.mk ((hb.block _ (by omega)).trans Z2.out)
          have V3 := A1.mk ((hb.block _ hlt2).trans V2.out)
          have hs3 := hb.size
          have hl3 : b5 < w3.heap.size := by omega
          have hne5 : b5 ≠ p := by omega
          have ho5 : w.heap.size ≠ b5 := by omega
          clear hb H2 F2 Z2 V2 hs3 hlt2 hb5
          have A5 := A1.mk (fun ad (e : A = some ad) (h0 : 0 < l.length) => (show ad.block ≠ b5 by have := AL.out ad e h0; omega))
          have W5 := A1.mk (fun (o : Obj) => (Below.alloc (Below.refl w3.heap.size w3) (Nat.le_refl _) o).block b5 hl3 |>.trans V3.out)
          have WZ := A1.mk (fun (o : Obj) => (Below.alloc (Below.refl w3.heap.size w3) (Nat.le_refl _) o).block w.heap.size (by omega) |>.trans Z3.out)
          have r0a := fun o => (H3.out.alloc o).c0
          have z0a := fun o => (H3.out.alloc o).f 0
          have v0 := fun o => (cell_of_row (w3.alloc o) b5 0 _ _ (0, 0) (W5.out o))
          have v1 := fun o => (cell_of_row (w3.alloc o) b5 1 _ _ (0, 0) (W5.out o))
          have v2 := fun o => (cell_of_row (w3.alloc o) b5 2 _ _ (0, 0) (W5.out o))
          have v3 := fun o => (cell_of_row (w3.alloc o) b5 3 _ _ (0, 0) (W5.out o))
          have y1 := fun o => frozen_of_row (w3.alloc o) b5 1 _ _ (W5.out o)
          have y2 := fun o => frozen_of_row (w3.alloc o) b5 2 _ _ (W5.out o)
          have y3 := fun o => frozen_of_row (w3.alloc o) b5 3 _ _ (W5.out o)
          go_wp2_with fail
          refine (HEAP.out _ ?_).mono ?_
          · exact ((H3.out.alloc _).set0 (s.pos + 1) (by omega) hq4).setO hne5 A5.out 1 _
          rintro e w5 ⟨rfl, h5, f5⟩
          have H5 := A1.mk h5
          have F5 := A1.mk f5
          have FF := A1.mk ((((F3.out.alloc (.cells #[.int .i64 0, .int .i64 0] 65)).set 0 (.int .i64 (s.pos + 1))).setO (Nat.le_of_lt hwb) 1 (.bool true)).trans f5)
          have hX := row_set (heap_setO (W5.out (.cells #[.int .i64 0, .int .i64 0] 65)) hne5 0 (.int .i64 (s.pos + 1))) 1 (.bool true)
          have hlX : b5 < (((w3.alloc (.cells #[.int .i64 0, .int .i64 0] 65)).setCell ⟨p, 0, none⟩ (.int .i64 (s.pos + 1))).setCell ⟨b5, 1, none⟩ (.bool true)).heap.size := (Array.getElem?_eq_some_iff.1 hX).1
          have hV := f5.own hlX hne5 hX
          have hZ := f5.own (by omega) hne (heap_setO (heap_setO (WZ.out (.cells #[.int .i64 0, .int .i64 0] 65)) hne 0 (.int .i64 (s.pos + 1))) ho5 1 (.bool true))
          have Z6 := A1.mk (heap_setO (heap_setO hZ ho5 2 (.int .i64 R.2.1)) ho5 3 (.int .i64 R.2.2))
          clear h5 f5 hX hlX hZ r0a z0a v0 v1 v2 v3 y1 y2 y3
          have v0 := cell_of_row w5 b5 0 _ _ (0, 0) hV
          have v1 := cell_of_row w5 b5 1 _ _ (0, 0) hV
          have v2 := cell_of_row w5 b5 2 _ _ (0, 0) hV
          have v3 := cell_of_row w5 b5 3 _ _ (0, 0) hV
          have y2 := frozen_of_row w5 b5 2 _ _ hV
          have y3 := frozen_of_row w5 b5 3 _ _ hV
          clear hV
          have H6 := A1.mk ((H5.out.setO hne5 A5.out 2 (.int .i64 R.2.1)).setO hne5 A5.out 3 (.int .i64 R.2.2))
          have F6 := A1.mk ((FF.out.setO (Nat.le_of_lt hwb) 2 (.int .i64 R.2.1)).setO (Nat.le_of_lt hwb) 3 (.int .i64 R.2.2))
          go_wp2_with fail
          refine (To.out _ _ H6.out hre).mono ?_
          rintro e w6 ⟨rfl, rfl⟩
          go_wp2_with (first | ((with_reducible refine gateS (ty := 69) (x := .tmp 2) (y := .tmp 97) rfl ?_); refine wpList_store_row rfl 69 (.tmp 2) (.tmp 97) rfl _ ((⟨3, true, R.2.1, R.2.2⟩ : VT).cells) rfl rfl 69 _ Z6.out info_val rfl (val_one _) ?_))
          (try simp only [Exit.inBlock, Exit.then])
          refine bodyPost_ret (results_cell_row (p := 2) (ty := 69) rfl _ _ _ _ _ (0, 0) _ rfl (setRow_heap _ _ _ _ _ _ Z6.out) Try.underlying69 rfl info_val) rfl ?_
          exact ⟨rfl, H6.out.setRow hne AW.out _, F6.out.setRow (Nat.le_refl _) _⟩
        · rw [if_neg hre]
          go_enter Try.func45, Try.ntmps45
          go_wp2_with fail
          refine Y.out.mono ?_
          rintro e w2 ⟨rfl, h2, f2⟩
          have hs2 := f2.size
          have H2 := A1.mk (h2.alloc (.cells #[.int .i64 3, .bool true, .int .i64 0, .int .i64 0] 69))
          have F2 := A1.mk (F0.out.trans (f2.alloc (.cells #[.int .i64 3, .bool true, .int .i64 0, .int .i64 0] 69)))
          have Z2 := A1.mk ((f2.alloc (.cells #[.int .i64 3, .bool true, .int .i64 0, .int .i64 0] 69)).own hlt hne HZ.out)
          have V2 := A1.mk (heap_alloc_new w2 (.cells #[.int .i64 3, .bool true, .int .i64 0, .int .i64 0] 69))
          obtain ⟨b5, hb5⟩ : ∃ b, w2.heap.size = b := ⟨_, rfl⟩
          have hlt2 : b5 < (w2.alloc (.cells #[.int .i64 3, .bool true, .int .i64 0, .int .i64 0] 69)).heap.size := by rw [← hb5]; simp
          have hwb : w.heap.size < b5 := by rw [← hb5]; omega
          rw [hb5] at V2
          clear h2 f2 hs2
          go_wp2_with fail
          refine (G.out _).mono ?_
          rintro e w3 ⟨rfl, hb⟩
          have H3 := A1.mk (H2.out.below hb)
          have F3 := A1.mk (F2.out.step hb)
          have Z3 := A1.mk ((hb.block _ (by omega)).trans Z2.out)
          have V3 := A1.mk ((hb.block _ hlt2).trans V2.out)
          have hs3 := hb.size
          have hl3 : b5 < w3.heap.size := by omega
          have hne5 : b5 ≠ p := by omega
          have ho5 : w.heap.size ≠ b5 := by omega
          clear hb H2 F2 Z2 V2 hs3 hlt2 hb5
          have A5 := A1.mk (fun ad (e : A = some ad) (h0 : 0 < l.length) => (show ad.block ≠ b5 by have := AL.out ad e h0; omega))
          have W5 := A1.mk (fun (o : Obj) => (Below.alloc (Below.refl w3.heap.size w3) (Nat.le_refl _) o).block b5 hl3 |>.trans V3.out)
          have WZ := A1.mk (fun (o : Obj) => (Below.alloc (Below.refl w3.heap.size w3) (Nat.le_refl _) o).block w.heap.size (by omega) |>.trans Z3.out)
          have r0a := fun o => (H3.out.alloc o).c0
          have z0a := fun o => (H3.out.alloc o).f 0
          have v0 := fun o => (cell_of_row (w3.alloc o) b5 0 _ _ (0, 0) (W5.out o))
          have v1 := fun o => (cell_of_row (w3.alloc o) b5 1 _ _ (0, 0) (W5.out o))
          have v2 := fun o => (cell_of_row (w3.alloc o) b5 2 _ _ (0, 0) (W5.out o))
          have v3 := fun o => (cell_of_row (w3.alloc o) b5 3 _ _ (0, 0) (W5.out o))
          have y1 := fun o => frozen_of_row (w3.alloc o) b5 1 _ _ (W5.out o)
          have y2 := fun o => frozen_of_row (w3.alloc o) b5 2 _ _ (W5.out o)
          have y3 := fun o => frozen_of_row (w3.alloc o) b5 3 _ _ (W5.out o)
          go_wp2_with fail
          refine (HEAP.out _ ?_).mono ?_
          · exact ((H3.out.alloc _).set0 (s.pos + 1) (by omega) hq4).setO hne5 A5.out 1 _
          rintro e w5 ⟨rfl, h5, f5⟩
          have H5 := A1.mk h5
          have F5 := A1.mk f5
          have FF := A1.mk ((((F3.out.alloc (.cells #[.int .i64 0, .int .i64 0] 65)).set 0 (.int .i64 (s.pos + 1))).setO (Nat.le_of_lt hwb) 1 (.bool true)).trans f5)
          have hX := row_set (heap_setO (W5.out (.cells #[.int .i64 0, .int .i64 0] 65)) hne5 0 (.int .i64 (s.pos + 1))) 1 (.bool true)
          have hlX : b5 < (((w3.alloc (.cells #[.int .i64 0, .int .i64 0] 65)).setCell ⟨p, 0, none⟩ (.int .i64 (s.pos + 1))).setCell ⟨b5, 1, none⟩ (.bool true)).heap.size := (Array.getElem?_eq_some_iff.1 hX).1
          have hV := f5.own hlX hne5 hX
          have hZ := f5.own (by omega) hne (heap_setO (heap_setO (WZ.out (.cells #[.int .i64 0, .int .i64 0] 65)) hne 0 (.int .i64 (s.pos + 1))) ho5 1 (.bool true))
          have Z6 := A1.mk (heap_setO (heap_setO hZ ho5 2 (.int .i64 R.2.1)) ho5 3 (.int .i64 R.2.2))
          clear h5 f5 hX hlX hZ r0a z0a v0 v1 v2 v3 y1 y2 y3
          have v0 := cell_of_row w5 b5 0 _ _ (0, 0) hV
          have v1 := cell_of_row w5 b5 1 _ _ (0, 0) hV
          have v2 := cell_of_row w5 b5 2 _ _ (0, 0) hV
          have v3 := cell_of_row w5 b5 3 _ _ (0, 0) hV
          have y2 := frozen_of_row w5 b5 2 _ _ hV
          have y3 := frozen_of_row w5 b5 3 _ _ hV
          clear hV
          have H6 := A1.mk ((H5.out.setO hne5 A5.out 2 (.int .i64 R.2.1)).setO hne5 A5.out 3 (.int .i64 R.2.2))
          have F6 := A1.mk ((FF.out.setO (Nat.le_of_lt hwb) 2 (.int .i64 R.2.1)).setO (Nat.le_of_lt hwb) 3 (.int .i64 R.2.2))
          go_wp2_with fail
          refine (Te.out _ _ H6.out hre).mono ?_
          rintro e w6 ⟨rfl, rfl⟩
          go_wp2_with (first | ((with_reducible refine gateS (ty := 69) (x := .tmp 2) (y := .tmp 96) rfl ?_); refine wpList_store_row rfl 69 (.tmp 2) (.tmp 96) rfl _ (vt0.cells) rfl rfl 69 _ Z6.out info_val rfl (val_one _) ?_))
          (try simp only [Exit.inBlock, Exit.then])
          refine bodyPost_ret (results_cell_row (p := 2) (ty := 69) rfl _ _ _ _ _ (0, 0) _ rfl (setRow_heap _ _ _ _ _ _ Z6.out) Try.underlying69 rfl info_val) rfl ?_
          exact ⟨rfl, H6.out.setRow hne AW.out _, F6.out.setRow (Nat.le_refl _) _⟩
      by_cases q100 : x = 100
      · subst q100
        rw [if_pos (by decide)]
        by_cases hre : R.1.e = 0
        · rw [if_pos hre]
          go_enter Try.func45, Try.ntmps45
          go_wp2_with fail
          refine Y.out.mono ?_
          rintro e w2 ⟨rfl, h2, f2⟩
          have hs2 := f2.size
          have H2 := A1.mk (h2.alloc (.cells #[.int .i64 3, .bool true, .int .i64 0, .int .i64 0] 69))
          have F2 := A1.mk (F0.out.trans (f2.alloc (.cells #[.int .i64 3, .bool true, .int .i64 0, .int .i64 0] 69)))
          have Z2 := A1.mk ((f2.alloc (.cells #[.int .i64 3, .bool true, .int .i64 0, .int .i64 0] 69)).own hlt hne HZ.out)
          have V2 := A1.mk (heap_alloc_new w2 (.cells #[.int .i64 3, .bool true, .int .i64 0, .int .i64 0] 69))
          obtain ⟨b5, hb5⟩ : ∃ b, w2.heap.size = b := ⟨_, rfl⟩
          have hlt2 : b5 < (w2.alloc (.cells #[.int .i64 3, .bool true, .int .i64 0, .int .i64 0] 69)).heap.size := by rw [← hb5]; simp
          have hwb : w.heap.size < b5 := by rw [← hb5]; omega
          rw [hb5] at V2
          clear h2 f2 hs2
          go_wp2_with fail
          refine (G.out _).mono ?_
          rintro e w3 ⟨rfl, hb⟩
          have H3 := A1.mk (H2.out.below hb)
          have F3 := A1.mk (F2.out.step hb)
          have Z3 := A1.mk ((hb.block _ (by omega)).trans Z2.out)
          have V3 := A1.mk ((hb.block _ hlt2).trans V2.out)
          have hs3 := hb.size
          have hl3 : b5 < w3.heap.size := by omega
          have hne5 : b5 ≠ p := by omega
          have ho5 : w.heap.size ≠ b5 := by omega
          clear hb H2 F2 Z2 V2 hs3 hlt2 hb5
          have A5 := A1.mk (fun ad (e : A = some ad) (h0 : 0 < l.length) => (show ad.block ≠ b5 by have := AL.out ad e h0; omega))
          have W5 := A1.mk (fun (o : Obj) => (Below.alloc (Below.refl w3.heap.size w3) (Nat.le_refl _) o).block b5 hl3 |>.trans V3.out)
          have WZ := A1.mk (fun (o : Obj) => (Below.alloc (Below.refl w3.heap.size w3) (Nat.le_refl _) o).block w.heap.size (by omega) |>.trans Z3.out)
          have r0a := fun o => (H3.out.alloc o).c0
          have z0a := fun o => (H3.out.alloc o).f 0
          have v0 := fun o => (cell_of_row (w3.alloc o) b5 0 _ _ (0, 0) (W5.out o))
          have v1 := fun o => (cell_of_row (w3.alloc o) b5 1 _ _ (0, 0) (W5.out o))
          have v2 := fun o => (cell_of_row (w3.alloc o) b5 2 _ _ (0, 0) (W5.out o))
          have v3 := fun o => (cell_of_row (w3.alloc o) b5 3 _ _ (0, 0) (W5.out o))
          have y1 := fun o => frozen_of_row (w3.alloc o) b5 1 _ _ (W5.out o)
          have y2 := fun o => frozen_of_row (w3.alloc o) b5 2 _ _ (W5.out o)
          have y3 := fun o => frozen_of_row (w3.alloc o) b5 3 _ _ (W5.out o)
          go_wp2_with fail
          refine (HEAP.out _ ?_).mono ?_
          · exact ((H3.out.alloc _).set0 (s.pos + 1) (by omega) hq4).setO hne5 A5.out 1 _
          rintro e w5 ⟨rfl, h5, f5⟩
          have H5 := A1.mk h5
          have F5 := A1.mk f5
          have FF := A1.mk ((((F3.out.alloc (.cells #[.int .i64 0, .int .i64 0] 65)).set 0 (.int .i64 (s.pos + 1))).setO (Nat.le_of_lt hwb) 1 (.bool false)).trans f5)
          have hX := row_set (heap_setO (W5.out (.cells #[.int .i64 0, .int .i64 0] 65)) hne5 0 (.int .i64 (s.pos + 1))) 1 (.bool false)
          have hlX : b5 < (((w3.alloc (.cells #[.int .i64 0, .int .i64 0] 65)).setCell ⟨p, 0, none⟩ (.int .i64 (s.pos + 1))).setCell ⟨b5, 1, none⟩ (.bool false)).heap.size := (Array.getElem?_eq_some_iff.1 hX).1
          have hV := f5.own hlX hne5 hX
          have hZ := f5.own (by omega) hne (heap_setO (heap_setO (WZ.out (.cells #[.int .i64 0, .int .i64 0] 65)) hne 0 (.int .i64 (s.pos + 1))) ho5 1 (.bool false))
          have Z6 := A1.mk (heap_setO (heap_setO hZ ho5 2 (.int .i64 R.2.1)) ho5 3 (.int .i64 R.2.2))
          clear h5 f5 hX hlX hZ r0a z0a v0 v1 v2 v3 y1 y2 y3
          have v0 := cell_of_row w5 b5 0 _ _ (0, 0) hV
          have v1 := cell_of_row w5 b5 1 _ _ (0, 0) hV
          have v2 := cell_of_row w5 b5 2 _ _ (0, 0) hV
          have v3 := cell_of_row w5 b5 3 _ _ (0, 0) hV
          have y2 := frozen_of_row w5 b5 2 _ _ hV
          have y3 := frozen_of_row w5 b5 3 _ _ hV
          clear hV
          have H6 := A1.mk ((H5.out.setO hne5 A5.out 2 (.int .i64 R.2.1)).setO hne5 A5.out 3 (.int .i64 R.2.2))
          have F6 := A1.mk ((FF.out.setO (Nat.le_of_lt hwb) 2 (.int .i64 R.2.1)).setO (Nat.le_of_lt hwb) 3 (.int .i64 R.2.2))
          go_wp2_with fail
          refine (To.out _ _ H6.out hre).mono ?_
          rintro e w6 ⟨rfl, rfl⟩
          go_wp2_with (first | ((with_reducible refine gateS (ty := 69) (x := .tmp 2) (y := .tmp 97) rfl ?_); refine wpList_store_row rfl 69 (.tmp 2) (.tmp 97) rfl _ ((⟨3, false, R.2.1, R.2.2⟩ : VT).cells) rfl rfl 69 _ Z6.out info_val rfl (val_one _) ?_))
          (try simp only [Exit.inBlock, Exit.then])
          refine bodyPost_ret (results_cell_row (p := 2) (ty := 69) rfl _ _ _ _ _ (0, 0) _ rfl (setRow_heap _ _ _ _ _ _ Z6.out) Try.underlying69 rfl info_val) rfl ?_
          exact ⟨rfl, H6.out.setRow hne AW.out _, F6.out.setRow (Nat.le_refl _) _⟩
        · rw [if_neg hre]
          go_enter Try.func45, Try.ntmps45
          go_wp2_with fail
          refine Y.out.mono ?_
          rintro e w2 ⟨rfl, h2, f2⟩
          have hs2 := f2.size
          have H2 := A1.mk (h2.alloc (.cells #[.int .i64 3, .bool true, .int .i64 0, .int .i64 0] 69))
          have F2 := A1.mk (F0.out.trans (f2.alloc (.cells #[.int .i64 3, .bool true, .int .i64 0, .int .i64 0] 69)))
          have Z2 := A1.mk ((f2.alloc (.cells #[.int .i64 3, .bool true, .int .i64 0, .int .i64 0] 69)).own hlt hne HZ.out)
          have V2 := A1.mk (heap_alloc_new w2 (.cells #[.int .i64 3, .bool true, .int .i64 0, .int .i64 0] 69))
          obtain ⟨b5, hb5⟩ : ∃ b, w2.heap.size = b := ⟨_, rfl⟩
          have hlt2 : b5 < (w2.alloc (.cells #[.int .i64 3, .bool true, .int .i64 0, .int .i64 0] 69)).heap.size := by rw [← hb5]; simp
          have hwb : w.heap.size < b5 := by rw [← hb5]; omega
          rw [hb5] at V2
          clear h2 f2 hs2
          go_wp2_with fail
          refine (G.out _).mono ?_
          rintro e w3 ⟨rfl, hb⟩
          have H3 := A1.mk (H2.out.below hb)
          have F3 := A1.mk (F2.out.step hb)
          have Z3 := A1.mk ((hb.block _ (by omega)).trans Z2.out)
          have V3 := A1.mk ((hb.block _ hlt2).trans V2.out)
          have hs3 := hb.size
          have hl3 : b5 < w3.heap.size := by omega
          have hne5 : b5 ≠ p := by omega
          have ho5 : w.heap.size ≠ b5 := by omega
          clear hb H2 F2 Z2 V2 hs3 hlt2 hb5
          have A5 := A1.mk (fun ad (e : A = some ad) (h0 : 0 < l.length) => (show ad.block ≠ b5 by have := AL.out ad e h0; omega))
          have W5 := A1.mk (fun (o : Obj) => (Below.alloc (Below.refl w3.heap.size w3) (Nat.le_refl _) o).block b5 hl3 |>.trans V3.out)
          have WZ := A1.mk (fun (o : Obj) => (Below.alloc (Below.refl w3.heap.size w3) (Nat.le_refl _) o).block w.heap.size (by omega) |>.trans Z3.out)
          have r0a := fun o => (H3.out.alloc o).c0
          have z0a := fun o => (H3.out.alloc o).f 0
          have v0 := fun o => (cell_of_row (w3.alloc o) b5 0 _ _ (0, 0) (W5.out o))
          have v1 := fun o => (cell_of_row (w3.alloc o) b5 1 _ _ (0, 0) (W5.out o))
          have v2 := fun o => (cell_of_row (w3.alloc o) b5 2 _ _ (0, 0) (W5.out o))
          have v3 := fun o => (cell_of_row (w3.alloc o) b5 3 _ _ (0, 0) (W5.out o))
          have y1 := fun o => frozen_of_row (w3.alloc o) b5 1 _ _ (W5.out o)
          have y2 := fun o => frozen_of_row (w3.alloc o) b5 2 _ _ (W5.out o)
          have y3 := fun o => frozen_of_row (w3.alloc o) b5 3 _ _ (W5.out o)
          go_wp2_with fail
          refine (HEAP.out _ ?_).mono ?_
          · exact ((H3.out.alloc _).set0 (s.pos + 1) (by omega) hq4).setO hne5 A5.out 1 _
          rintro e w5 ⟨rfl, h5, f5⟩
          have H5 := A1.mk h5
          have F5 := A1.mk f5
          have FF := A1.mk ((((F3.out.alloc (.cells #[.int .i64 0, .int .i64 0] 65)).set 0 (.int .i64 (s.pos + 1))).setO (Nat.le_of_lt hwb) 1 (.bool false)).trans f5)
          have hX := row_set (heap_setO (W5.out (.cells #[.int .i64 0, .int .i64 0] 65)) hne5 0 (.int .i64 (s.pos + 1))) 1 (.bool false)
          have hlX : b5 < (((w3.alloc (.cells #[.int .i64 0, .int .i64 0] 65)).setCell ⟨p, 0, none⟩ (.int .i64 (s.pos + 1))).setCell ⟨b5, 1, none⟩ (.bool false)).heap.size := (Array.getElem?_eq_some_iff.1 hX).1
          have hV := f5.own hlX hne5 hX
          have hZ := f5.own (by omega) hne (heap_setO (heap_setO (WZ.out (.cells #[.int .i64 0, .int .i64 0] 65)) hne 0 (.int .i64 (s.pos + 1))) ho5 1 (.bool false))
          have Z6 := A1.mk (heap_setO (heap_setO hZ ho5 2 (.int .i64 R.2.1)) ho5 3 (.int .i64 R.2.2))
          clear h5 f5 hX hlX hZ r0a z0a v0 v1 v2 v3 y1 y2 y3
          have v0 := cell_of_row w5 b5 0 _ _ (0, 0) hV
          have v1 := cell_of_row w5 b5 1 _ _ (0, 0) hV
          have v2 := cell_of_row w5 b5 2 _ _ (0, 0) hV
          have v3 := cell_of_row w5 b5 3 _ _ (0, 0) hV
          have y2 := frozen_of_row w5 b5 2 _ _ hV
          have y3 := frozen_of_row w5 b5 3 _ _ hV
          clear hV
          have H6 := A1.mk ((H5.out.setO hne5 A5.out 2 (.int .i64 R.2.1)).setO hne5 A5.out 3 (.int .i64 R.2.2))
          have F6 := A1.mk ((FF.out.setO (Nat.le_of_lt hwb) 2 (.int .i64 R.2.1)).setO (Nat.le_of_lt hwb) 3 (.int .i64 R.2.2))
          go_wp2_with fail
          refine (Te.out _ _ H6.out hre).mono ?_
          rintro e w6 ⟨rfl, rfl⟩
          go_wp2_with (first | ((with_reducible refine gateS (ty := 69) (x := .tmp 2) (y := .tmp 96) rfl ?_); refine wpList_store_row rfl 69 (.tmp 2) (.tmp 96) rfl _ (vt0.cells) rfl rfl 69 _ Z6.out info_val rfl (val_one _) ?_))
          (try simp only [Exit.inBlock, Exit.then])
          refine bodyPost_ret (results_cell_row (p := 2) (ty := 69) rfl _ _ _ _ _ (0, 0) _ rfl (setRow_heap _ _ _ _ _ _ Z6.out) Try.underlying69 rfl info_val) rfl ?_
          exact ⟨rfl, H6.out.setRow hne AW.out _, F6.out.setRow (Nat.le_refl _) _⟩
      rw [if_neg (by omega)]
      have p127 : (x == 127) = false := beq_eq_false_iff_ne.2 q127
      have p126 : (x == 126) = false := beq_eq_false_iff_ne.2 q126
      have p125 : (x == 125) = false := beq_eq_false_iff_ne.2 q125
      have p124 : (x == 124) = false := beq_eq_false_iff_ne.2 q124
      have p123 : (x == 123) = false := beq_eq_false_iff_ne.2 q123
      have p99 : (x == 99) = false := beq_eq_false_iff_ne.2 q99
      have p100 : (x == 100) = false := beq_eq_false_iff_ne.2 q100
      clear q127 q126 q125 q124 q123 q99 q100
      go_enter Try.func45, Try.ntmps45
      go_wp2_with fail
      refine Y.out.mono ?_
      rintro e w2 ⟨rfl, h2, f2⟩
      have hs2 := f2.size
      have H2 := A1.mk (h2.alloc (.cells #[.int .i64 3, .bool true, .int .i64 0, .int .i64 0] 69))
      have F2 := A1.mk (F0.out.trans (f2.alloc (.cells #[.int .i64 3, .bool true, .int .i64 0, .int .i64 0] 69)))
      have Z2 := A1.mk ((f2.alloc (.cells #[.int .i64 3, .bool true, .int .i64 0, .int .i64 0] 69)).own hlt hne HZ.out)
      have V2 := A1.mk (heap_alloc_new w2 (.cells #[.int .i64 3, .bool true, .int .i64 0, .int .i64 0] 69))
      obtain ⟨b5, hb5⟩ : ∃ b, w2.heap.size = b := ⟨_, rfl⟩
      have hlt2 : b5 < (w2.alloc (.cells #[.int .i64 3, .bool true, .int .i64 0, .int .i64 0] 69)).heap.size := by rw [← hb5]; simp
      have hwb : w.heap.size < b5 := by rw [← hb5]; omega
      rw [hb5] at V2
      clear h2 f2 hs2
      go_wp2_with fail
      refine (G.out _).mono ?_
      rintro e w3 ⟨rfl, hb⟩
      have H3 := A1.mk (H2.out.below hb)
      have F3 := A1.mk (F2.out.step hb)
      have Z3 := A1.mk ((hb.block _ (by omega)).trans Z2.out)
      have V3 := A1.mk ((hb.block _ hlt2).trans V2.out)
      have hs3 := hb.size
      have hl3 : b5 < w3.heap.size := by omega
      have hne5 : b5 ≠ p := by omega
      have ho5 : w.heap.size ≠ b5 := by omega
      clear hb H2 F2 Z2 V2 hs3 hlt2 hb5
      have A5 := A1.mk (fun ad (e : A = some ad) (h0 : 0 < l.length) => (show ad.block ≠ b5 by have := AL.out ad e h0; omega))
      have W5 := A1.mk (fun (o : Obj) => (Below.alloc (Below.refl w3.heap.size w3) (Nat.le_refl _) o).block b5 hl3 |>.trans V3.out)
      have WZ := A1.mk (fun (o : Obj) => (Below.alloc (Below.refl w3.heap.size w3) (Nat.le_refl _) o).block w.heap.size (by omega) |>.trans Z3.out)
      have r0a := fun o => (H3.out.alloc o).c0
      have z0a := fun o => (H3.out.alloc o).f 0
      have v0 := fun o => (cell_of_row (w3.alloc o) b5 0 _ _ (0, 0) (W5.out o))
      have v1 := fun o => (cell_of_row (w3.alloc o) b5 1 _ _ (0, 0) (W5.out o))
      have v2 := fun o => (cell_of_row (w3.alloc o) b5 2 _ _ (0, 0) (W5.out o))
      have v3 := fun o => (cell_of_row (w3.alloc o) b5 3 _ _ (0, 0) (W5.out o))
      have y1 := fun o => frozen_of_row (w3.alloc o) b5 1 _ _ (W5.out o)
      have y2 := fun o => frozen_of_row (w3.alloc o) b5 2 _ _ (W5.out o)
      have y3 := fun o => frozen_of_row (w3.alloc o) b5 3 _ _ (W5.out o)
      go_wp2_with fail
      have c6 := r0a (.cells #[.int .i64 0, .int .i64 0] 65)
      go_region_held3 (fun w' => w'.cell? ⟨p, 0, none⟩ = some (.int .i64 s.pos)) (go_keep) ((go_at_call 73; refine (fail_on _ p A c l s ?_ 60 s.pos).mono ?_; (exact (H3.out.alloc (.cells #[.int .i64 0, .int .i64 0] 65)).drew); rintro e w4 ⟨rfl, h4, fr⟩; have H4 := A1.mk h4; have F4 := A1.mk fr; have r4 := h4.c0; rw [St.fail_pos] at r4; clear h4 fr))
      have Z6 := A1.mk ((((Fr.refl w3 p).alloc (.cells #[.int .i64 0, .int .i64 0] 65)).drew.trans F4.out).own (show w.heap.size < w3.heap.size by omega) hne Z3.out)
      have hfe : (s.fail 60 s.pos).e ≠ 0 := by
        unfold St.fail
        rw [if_pos ⟨HE.out, by decide⟩]
        show (60 : Int) ≠ 0
        decide
      clear r4 c6 r0a z0a v0 v1 v2 v3 y1 y2 y3
      go_wp2_with fail
      refine (Te.out _ _ H4.out hfe).mono ?_
      rintro e w5 ⟨rfl, rfl⟩
      go_wp2_with (first | ((with_reducible refine gateS (ty := 69) (x := .tmp 2) (y := .tmp 96) rfl ?_); refine wpList_store_row rfl 69 (.tmp 2) (.tmp 96) rfl _ (vt0.cells) rfl rfl 69 _ Z6.out info_val rfl (val_one _) ?_))
      (try simp only [Exit.inBlock, Exit.then])
      refine bodyPost_ret (results_cell_row (p := 2) (ty := 69) rfl _ _ _ _ _ (0, 0) _ rfl (setRow_heap _ _ _ _ _ _ Z6.out) Try.underlying69 rfl info_val) rfl ?_
      exact ⟨rfl, H4.out.setRow hne AW.out _, (((F3.out.alloc (.cells #[.int .i64 0, .int .i64 0] 65)).drew.trans F4.out)).setRow (Nat.le_refl _) _⟩
end Go.Proofs.Ythghmbfbjnedfaa.Tb
