/- Layer 6: a heap type is read. -/
import Derived.Test.YthghmbfbjnedfaaTbF
namespace Go.Proofs.Ythghmbfbjnedfaa.Tb
open Go Go.RowKit Go.Proofs.YthghmbfbjnedfaaW.PrintWords Go.Proofs.Ythghmbfbjnedfaa.Lb Go.Proofs.Ythghmbfbjnedfaa.Leb
set_option maxHeartbeats 4000000
set_option maxRecDepth 100000
/-- A heap type that is read: the state behind it, its kind and number. -/
def heapF (l : List Int) (s : St) : St × Int × Int :=
  if s.pos < l.length then
    if givenF (rd l s.pos) = 0 then
      if (sF l 33 s).2 < 0 then ((⟨s.pos, (sF l 33 s).1.e, (sF l 33 s).1.bad⟩ : St).fail 60 s.pos, 0, 0)
      else if (sF l 33 s).1.e = 0 then ((sF l 33 s).1, 13, (sF l 33 s).2)
      else ((sF l 33 s).1, 0, 0)
    else (⟨s.pos + 1, s.e, s.bad⟩, givenF (rd l s.pos), 0)
  else (s.fail 10 s.pos, 0, 0)
theorem info_heap : (Try.prog.info? 65).map (·.size) = some 2 := by kernel_rfl
theorem heap_one (k n : Int) : (#[.int .i64 k, .int .i64 n] : Array Value).all (·.oneCell') = true := by kernel_rfl
theorem rd_u8 {l : List Int} (hu : ∀ x ∈ l, 0 ≤ x ∧ x ≤ 255) {i : Int} (h0 : 0 ≤ i) (h1 : i < l.length) : 0 ≤ rd l i ∧ rd l i ≤ 255 := hu _ (rd_mem l i h0 h1)
theorem Heap_on (w : World) (p : Nat) (A : Option Addr) (c : Nat) (l : List Int) (s : St) (h : On w p A c l s) (he : s.e = 0) :
    Calls Try.prog 44 #[.pointer (some ⟨p, 0, none⟩)] w fun e w' => e = .returned (.agg #[.int .i64 (heapF l s).2.1, .int .i64 (heapF l s).2.2]) ∧ On w' p A c l (heapF l s).1 ∧ Fr w w' p := by
  have F0 := A1.mk ((Fr.refl w p).alloc (.cells #[.int .i64 0, .int .i64 0] 65))
  have hp := h.lt
  have hlo := h.lo
  have hbig : (l.length : Int) ≤ 1000000 := by have := h.big; omega
  have h1 := h.alloc (.cells #[.int .i64 0, .int .i64 0] 65)
  have hz := heap_alloc_new w (.cells #[.int .i64 0, .int .i64 0] 65)
  have hlt : w.heap.size < (w.alloc (.cells #[.int .i64 0, .int .i64 0] 65)).heap.size := by simp
  have hne : w.heap.size ≠ p := by omega
  have X := A1.mk (At_on _ p A c l s h1)
  have Y := A1.mk (peek_on _ p A c l s h1 he)
  have HZ := A1.mk hz
  have AW := A1.mk (fun ad e h0 => Nat.ne_of_lt (h.away ad e h0))
  by_cases hq : s.pos < l.length
  case neg =>
    have e1 : heapF l s = (s.fail 10 s.pos, 0, 0) := if_neg hq
    have e2 : peekF l s = (s.fail 10 s.pos, 0, false) := if_neg hq
    rw [e1]
    rw [e2] at Y
    clear h he h1 hz e1 e2 hq
    go_enter Try.func44, Try.ntmps44
    go_wp2_with fail
    refine X.out.mono ?_
    rintro e w1 ⟨rfl, rfl⟩
    go_wp2_with fail
    refine Y.out.mono ?_
    rintro e w2 ⟨rfl, h2, f2⟩
    have H2 := A1.mk h2
    have F2 := A1.mk f2
    clear h2 f2
    go_wp2_with (first | ((with_reducible refine gateS (ty := 65) (x := .tmp 2) (y := .tmp 18) rfl ?_); refine wpList_store_row rfl 65 (.tmp 2) (.tmp 18) rfl _ #[.int .i64 0, .int .i64 0] rfl rfl 65 _ (F2.out.own hlt hne HZ.out) info_heap rfl (heap_one _ _) ?_))
    (try simp only [Exit.inBlock, Exit.then])
    refine bodyPost_ret (results_cell_row (p := 2) (ty := 65) rfl _ _ _ _ _ (0, 0) _ rfl (setRow_heap _ _ _ _ _ _ (F2.out.own hlt hne HZ.out)) Try.underlying65 rfl info_heap) rfl ?_
    exact ⟨rfl, H2.out.setRow hne AW.out _, (F0.out.trans F2.out).setRow (Nat.le_refl _) _⟩
  case pos =>
    obtain ⟨g0, g1⟩ := rd_u8 h.u8 hlo hq
    have e2 : peekF l s = (s, rd l s.pos, true) := if_pos hq
    rw [e2] at Y
    have e1 : heapF l s = if givenF (rd l s.pos) = 0 then
      if (sF l 33 s).2 < 0 then ((⟨s.pos, (sF l 33 s).1.e, (sF l 33 s).1.bad⟩ : St).fail 60 s.pos, 0, 0)
      else if (sF l 33 s).1.e = 0 then ((sF l 33 s).1, 13, (sF l 33 s).2)
      else ((sF l 33 s).1, 0, 0)
    else (⟨s.pos + 1, s.e, s.bad⟩, givenF (rd l s.pos), 0) := if_pos hq
    rw [e1]
    have Sv := A1.mk (fun (w1 : World) (h1 : On w1 p A c l s) => S_on w1 p A c l s 33 h1 he)
    have Te := A1.mk (fun (w1 : World) (t : St) (h1 : On w1 p A c l t) (ht : t.e ≠ 0) => there_err w1 p A c l t h1 ht)
    have To := A1.mk (fun (w1 : World) (t : St) (h1 : On w1 p A c l t) (ht : t.e = 0) => there_on w1 p A c l t h1 ht)
    have HE := A1.mk he
    have hq3 : s.pos ≤ 1000000 := by omega
    have hq4 : s.pos + 1 ≤ l.length := by omega
    obtain ⟨x, hx⟩ : ∃ x, rd l s.pos = x := ⟨_, rfl⟩
    rw [hx] at g0 g1 Y ⊢
    obtain ⟨k, hk⟩ : ∃ k, givenF x = k := ⟨_, rfl⟩
    have G := A1.mk (fun w => given_val x w g0 g1)
    rw [hk] at G ⊢
    clear h he h1 hz e1 e2 hq hx hk
    by_cases hk0 : k = 0
    case neg =>
      rw [if_neg hk0]
      have kb : (k != 0) = true := bne_iff_ne.2 hk0
      clear hk0
      go_enter Try.func44, Try.ntmps44
      go_wp2_with fail
      refine X.out.mono ?_
      rintro e w1 ⟨rfl, rfl⟩
      go_wp2_with fail
      refine Y.out.mono ?_
      rintro e w2 ⟨rfl, h2, f2⟩
      have H2 := A1.mk h2
      have F2 := A1.mk f2
      have r0 := h2.c0
      have z0 := h2.f 0
      have hs2 := f2.size
      clear h2 f2
      go_wp2_with fail
      refine (G.out _).mono ?_
      rintro e w3 ⟨rfl, hb⟩
      have H3 := A1.mk (H2.out.below hb)
      have F3 := A1.mk (F2.out.step hb)
      have hs3 := hb.size
      clear hb r0 z0
      have r0 := H3.out.c0
      have r0a := fun o => (H3.out.alloc o).c0
      have z0a := fun o => (H3.out.alloc o).f 0
      have z0 := H3.out.f 0
      have HZ3 := A1.mk (F3.out.own hlt hne HZ.out)
      have hl3 : w.heap.size < w3.heap.size := by omega
      go_wp2_with (first | ((with_reducible refine gateS (ty := 65) (x := .tmp 2) (y := .tmp 34) rfl ?_); refine wpList_store_row rfl 65 (.tmp 2) (.tmp 34) rfl _ #[.int .i64 k, .int .i64 0] rfl rfl 65 _ ((((Fr.refl w3 p).alloc (.cells #[.int .i64 k, .int .i64 0] 65)).set 0 (.int .i64 (s.pos + 1))).own hl3 hne HZ3.out) info_heap rfl (heap_one _ _) ?_))
      (try simp only [Exit.inBlock, Exit.then])
      refine bodyPost_ret (results_cell_row (p := 2) (ty := 65) rfl _ _ _ _ _ (0, 0) _ rfl (setRow_heap _ _ _ _ _ _ ((((Fr.refl w3 p).alloc (.cells #[.int .i64 k, .int .i64 0] 65)).set 0 (.int .i64 (s.pos + 1))).own hl3 hne HZ3.out)) Try.underlying65 rfl info_heap) rfl ?_
      refine ⟨rfl, ?_, ?_⟩
      · exact ((H3.out.alloc _).set0 (s.pos + 1) (by omega) hq4).setRow hne AW.out _
      · exact (F0.out.trans ((F3.out.alloc _).set 0 _)).setRow (Nat.le_refl _) _
    case pos =>
      subst hk0
      rw [if_pos rfl]
      obtain ⟨n, hn⟩ : ∃ n, (sF l 33 s).2 = n := ⟨_, rfl⟩
      obtain ⟨s1, hs1⟩ : ∃ t, (sF l 33 s).1 = t := ⟨_, rfl⟩
      have hz1 : n < 0 → s1.e = 0 := by
        intro h0
        have hE := HE.out
        rw [← hs1]
        rw [← hn] at h0
        unfold sF at h0 ⊢
        split
        · exact hE
        · rename_i hq9; rw [if_neg hq9] at h0; exact absurd h0 (Int.lt_irrefl 0)
      rw [hn, hs1]
      rw [hs1] at Sv
      rw [hn] at Sv
      by_cases hn0 : n < 0
      case pos =>
        rw [if_pos hn0]
        have hs1e := hz1 hn0
        clear hz1
        go_enter Try.func44, Try.ntmps44
        go_wp2_with fail
        refine X.out.mono ?_
        rintro e w1 ⟨rfl, rfl⟩
        go_wp2_with fail
        refine Y.out.mono ?_
        rintro e w2 ⟨rfl, h2, f2⟩
        have H2 := A1.mk h2
        have F2 := A1.mk f2
        have r0 := h2.c0
        have z0 := h2.f 0
        have hs2 := f2.size
        clear h2 f2
        go_wp2_with fail
        refine (G.out _).mono ?_
        rintro e w3 ⟨rfl, hb⟩
        have H3 := A1.mk (H2.out.below hb)
        have F3 := A1.mk (F2.out.step hb)
        have hs3 := hb.size
        clear hb r0 z0
        have r0 := H3.out.c0
        have r0a := fun o => (H3.out.alloc o).c0
        have z0a := fun o => (H3.out.alloc o).f 0
        have z0 := H3.out.f 0
        have HZ3 := A1.mk (F3.out.own hlt hne HZ.out)
        have hl3 : w.heap.size < w3.heap.size := by omega
        go_wp2_with fail
        refine (Sv.out _ ?_).mono ?_
        · first | exact H3.out.alloc _ | exact H3.out
        rintro e w4 ⟨rfl, h4, f4⟩
        have H4 := A1.mk h4
        have F4 := A1.mk f4
        clear h4 f4 r0 z0 r0a z0a
        have r0 := H4.out.c0
        have z0 := H4.out.f 0
        have HZ4 := A1.mk (show w4.heap[w.heap.size]? = _ from (by first | exact ((Fr.refl w3 p).alloc _ |>.trans F4.out).own hl3 hne HZ3.out))
        have hl4 : w.heap.size < w4.heap.size := by have := F4.out.size; simp at this; omega
        have FF := A1.mk (show Fr w w4 p from F0.out.trans ((F3.out.alloc _).trans F4.out))
        have hp0 : (0 : Int) ≤ s.pos := hlo
        go_wp2_with fail
        refine (fail_on _ p A c l ⟨s.pos, s1.e, s1.bad⟩ ?_ 60 s.pos).mono ?_
        · exact H4.out.set0 s.pos hlo (by omega)
        rintro e w5 ⟨rfl, h5, f5⟩
        have H5 := A1.mk h5
        have F5 := A1.mk f5
        have hfe : ((⟨s.pos, s1.e, s1.bad⟩ : St).fail 60 s.pos).e ≠ 0 := by
          unfold St.fail
          rw [if_pos ⟨hs1e, by decide⟩]
          show (60 : Int) ≠ 0
          decide
        clear h5 f5
        have HZ5 := A1.mk ((((Fr.refl w4 p).set 0 (.int .i64 s.pos)).trans F5.out).own hl4 hne HZ4.out)
        go_wp2_with fail
        refine (Te.out _ _ H5.out hfe).mono ?_
        rintro e w6 ⟨rfl, rfl⟩
        go_wp2_with (first | ((with_reducible refine gateS (ty := 65) (x := .tmp 2) (y := .tmp 52) rfl ?_); refine wpList_store_row rfl 65 (.tmp 2) (.tmp 52) rfl _ #[.int .i64 0, .int .i64 0] rfl rfl 65 _ HZ5.out info_heap rfl (heap_one _ _) ?_))
        (try simp only [Exit.inBlock, Exit.then])
        refine bodyPost_ret (results_cell_row (p := 2) (ty := 65) rfl _ _ _ _ _ (0, 0) _ rfl (setRow_heap _ _ _ _ _ _ HZ5.out) Try.underlying65 rfl info_heap) rfl ?_
        exact ⟨rfl, H5.out.setRow hne AW.out _, (FF.out.trans (((Fr.refl _ p).set 0 _).trans F5.out)).setRow (Nat.le_refl _) _⟩
      case neg =>
        rw [if_neg hn0]
        clear hz1
        by_cases hse : s1.e = 0
        · rw [if_pos hse]
          go_enter Try.func44, Try.ntmps44
          go_wp2_with fail
          refine X.out.mono ?_
          rintro e w1 ⟨rfl, rfl⟩
          go_wp2_with fail
          refine Y.out.mono ?_
          rintro e w2 ⟨rfl, h2, f2⟩
          have H2 := A1.mk h2
          have F2 := A1.mk f2
          have r0 := h2.c0
          have z0 := h2.f 0
          have hs2 := f2.size
          clear h2 f2
          go_wp2_with fail
          refine (G.out _).mono ?_
          rintro e w3 ⟨rfl, hb⟩
          have H3 := A1.mk (H2.out.below hb)
          have F3 := A1.mk (F2.out.step hb)
          have hs3 := hb.size
          clear hb r0 z0
          have r0 := H3.out.c0
          have r0a := fun o => (H3.out.alloc o).c0
          have z0a := fun o => (H3.out.alloc o).f 0
          have z0 := H3.out.f 0
          have HZ3 := A1.mk (F3.out.own hlt hne HZ.out)
          have hl3 : w.heap.size < w3.heap.size := by omega
          go_wp2_with fail
          refine (Sv.out _ ?_).mono ?_
          · first | exact H3.out.alloc _ | exact H3.out
          rintro e w4 ⟨rfl, h4, f4⟩
          have H4 := A1.mk h4
          have F4 := A1.mk f4
          clear h4 f4 r0 z0 r0a z0a
          have r0 := H4.out.c0
          have z0 := H4.out.f 0
          have HZ4 := A1.mk (show w4.heap[w.heap.size]? = _ from (by first | exact ((Fr.refl w3 p).alloc _ |>.trans F4.out).own hl3 hne HZ3.out))
          have hl4 : w.heap.size < w4.heap.size := by have := F4.out.size; simp at this; omega
          have FF := A1.mk (show Fr w w4 p from F0.out.trans ((F3.out.alloc _).trans F4.out))
          go_wp2_with fail
          refine (To.out _ _ H4.out hse).mono ?_
          rintro e w6 ⟨rfl, rfl⟩
          go_wp2_with (first | ((with_reducible refine gateS (ty := 65) (x := .tmp 2) (y := .tmp 54) rfl ?_); refine wpList_store_row rfl 65 (.tmp 2) (.tmp 54) rfl _ #[.int .i64 13, .int .i64 n] rfl rfl 65 _ HZ4.out info_heap rfl (heap_one _ _) ?_))
          (try simp only [Exit.inBlock, Exit.then])
          refine bodyPost_ret (results_cell_row (p := 2) (ty := 65) rfl _ _ _ _ _ (0, 0) _ rfl (setRow_heap _ _ _ _ _ _ HZ4.out) Try.underlying65 rfl info_heap) rfl ?_
          exact ⟨rfl, H4.out.setRow hne AW.out _, FF.out.setRow (Nat.le_refl _) _⟩
        · rw [if_neg hse]
          go_enter Try.func44, Try.ntmps44
          go_wp2_with fail
          refine X.out.mono ?_
          rintro e w1 ⟨rfl, rfl⟩
          go_wp2_with fail
          refine Y.out.mono ?_
          rintro e w2 ⟨rfl, h2, f2⟩
          have H2 := A1.mk h2
          have F2 := A1.mk f2
          have r0 := h2.c0
          have z0 := h2.f 0
          have hs2 := f2.size
          clear h2 f2
          go_wp2_with fail
          refine (G.out _).mono ?_
          rintro e w3 ⟨rfl, hb⟩
          have H3 := A1.mk (H2.out.below hb)
          have F3 := A1.mk (F2.out.step hb)
          have hs3 := hb.size
          clear hb r0 z0
          have r0 := H3.out.c0
          have r0a := fun o => (H3.out.alloc o).c0
          have z0a := fun o => (H3.out.alloc o).f 0
          have z0 := H3.out.f 0
          have HZ3 := A1.mk (F3.out.own hlt hne HZ.out)
          have hl3 : w.heap.size < w3.heap.size := by omega
          go_wp2_with fail
          refine (Sv.out _ ?_).mono ?_
          · first | exact H3.out.alloc _ | exact H3.out
          rintro e w4 ⟨rfl, h4, f4⟩
          have H4 := A1.mk h4
          have F4 := A1.mk f4
          clear h4 f4 r0 z0 r0a z0a
          have r0 := H4.out.c0
          have z0 := H4.out.f 0
          have HZ4 := A1.mk (show w4.heap[w.heap.size]? = _ from (by first | exact ((Fr.refl w3 p).alloc _ |>.trans F4.out).own hl3 hne HZ3.out))
          have hl4 : w.heap.size < w4.heap.size := by have := F4.out.size; simp at this; omega
          have FF := A1.mk (show Fr w w4 p from F0.out.trans ((F3.out.alloc _).trans F4.out))
          go_wp2_with fail
          refine (Te.out _ _ H4.out hse).mono ?_
          rintro e w6 ⟨rfl, rfl⟩
          go_wp2_with (first | ((with_reducible refine gateS (ty := 65) (x := .tmp 2) (y := .tmp 52) rfl ?_); refine wpList_store_row rfl 65 (.tmp 2) (.tmp 52) rfl _ #[.int .i64 0, .int .i64 0] rfl rfl 65 _ HZ4.out info_heap rfl (heap_one _ _) ?_))
          (try simp only [Exit.inBlock, Exit.then])
          refine bodyPost_ret (results_cell_row (p := 2) (ty := 65) rfl _ _ _ _ _ (0, 0) _ rfl (setRow_heap _ _ _ _ _ _ HZ4.out) Try.underlying65 rfl info_heap) rfl ?_
          exact ⟨rfl, H4.out.setRow hne AW.out _, FF.out.setRow (Nat.le_refl _) _⟩
end Go.Proofs.Ythghmbfbjnedfaa.Tb
