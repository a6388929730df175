/- Layer 6: a function type that stands alone is read; what known asks. -/
import Derived.Test.YthghmbfbjnedfaaTbI
namespace Go.Proofs.Ythghmbfbjnedfaa.Tb
open Go Go.RowKit Go.Proofs.YthghmbfbjnedfaaW.PrintWords Go.Proofs.Ythghmbfbjnedfaa.Lb Go.Proofs.Ythghmbfbjnedfaa.Leb
set_option maxHeartbeats 8000000
set_option maxRecDepth 100000
theorem info_comp : (Try.prog.info? 82).map (·.size) = some 4 := by kernel_rfl
theorem info_sub : (Try.prog.info? 84).map (·.size) = some 6 := by kernel_rfl
theorem comp_one (k : Int) (A1 A2 A3 : Option Addr) (n1 n2 n3 c1 c2 c3 : Nat) : (#[.int .i64 k, .slice A1 n1 c1, .slice A2 n2 c2, .slice A3 n3 c3] : Array Value).all (·.oneCell') = true := by kernel_rfl
theorem sub_one (b : Bool) (k : Int) (A0 A1 A2 A3 : Option Addr) (n0 n1 n2 n3 c0 c1 c2 c3 : Nat) : (#[.bool b, .slice A0 n0 c0, .int .i64 k, .slice A1 n1 c1, .slice A2 n2 c2, .slice A3 n3 c3] : Array Value).all (·.oneCell') = true := by kernel_rfl
theorem comp_func (w : World) (p : Nat) (A : Option Addr) (c : Nat) (l : List Int) (s : St) (h : On w p A c l s) (he : s.e = 0) (hq : s.pos < l.length) (hx : rd l s.pos = 96)
    (h1e : (valsS l ⟨s.pos + 1, s.e, s.bad⟩).1.e = 0) :
    Calls Try.prog 104 #[.pointer (some ⟨p, 0, none⟩)] w fun e w' => ∃ A1 c1 A2 n2 c2, e = .returned (.agg #[.int .i64 1, .slice A1 (valsS l ⟨s.pos + 1, s.e, s.bad⟩).2.length c1, .slice A2 n2 c2, .slice none 0 0]) ∧
      On w' p A c l (valsS l (valsS l ⟨s.pos + 1, s.e, s.bad⟩).1).1 ∧ Fr w w' p := by
  have F0 := A1.mk ((Fr.refl w p).alloc (.cells #[.int .i64 0, .slice none 0 0, .slice none 0 0, .slice none 0 0] 82))
  have hp := h.lt
  have h1 := h.alloc (.cells #[.int .i64 0, .slice none 0 0, .slice none 0 0, .slice none 0 0] 82)
  have HZ := A1.mk (heap_alloc_new w (.cells #[.int .i64 0, .slice none 0 0, .slice none 0 0, .slice none 0 0] 82))
  have hlt : w.heap.size < (w.alloc (.cells #[.int .i64 0, .slice none 0 0, .slice none 0 0, .slice none 0 0] 82)).heap.size := by simp
  have hne : w.heap.size ≠ p := by omega
  have AW := A1.mk (fun ad e h0 => Nat.ne_of_lt (h.away ad e h0))
  have X := A1.mk (At_on _ p A c l s h1)
  have Y := A1.mk (Byte_on _ p A c l s h1 he)
  have e1 : byteF l s = (⟨s.pos + 1, s.e, s.bad⟩, rd l s.pos) := if_pos hq
  rw [e1, hx] at Y
  have V1 := A1.mk (fun (w1 : World) (h1 : On w1 p A c l ⟨s.pos + 1, s.e, s.bad⟩) => Vals_on w1 p A c l _ h1 he)
  obtain ⟨r1, hr1⟩ : ∃ r, valsS l ⟨s.pos + 1, s.e, s.bad⟩ = r := ⟨_, rfl⟩
  rw [hr1] at V1 h1e ⊢
  have ok1 : okL r1.1 r1.2 = r1.2 := if_pos h1e
  rw [ok1] at V1
  have V2 := A1.mk (fun (w1 : World) (h1 : On w1 p A c l r1.1) => Vals_on w1 p A c l _ h1 h1e)
  obtain ⟨r2, hr2⟩ : ∃ r, valsS l r1.1 = r := ⟨_, rfl⟩
  rw [hr2] at V2 ⊢
  clear h he h1 e1 hx hq hr1 hr2 h1e ok1
  go_enter Try.func104, Try.ntmps104
  go_wp2_with fail
  refine X.out.mono ?_
  rintro e w1 ⟨rfl, rfl⟩
  go_wp2_with fail
  refine Y.out.mono ?_
  rintro e w2 ⟨rfl, h2, f2⟩
  have H2 := A1.mk h2
  have F2 := A1.mk (F0.out.trans f2)
  have Z2 := A1.mk (f2.own hlt hne HZ.out)
  have hl2 := Nat.lt_of_lt_of_le hlt f2.size
  clear h2 f2
  go_wp2_with fail
  refine (V1.out _ H2.out).mono ?_
  rintro e w3 ⟨v1, rfl, k3, h3, f3⟩
  obtain ⟨A1', c1', rfl⟩ := Kd.R_slice k3
  have H3 := A1.mk h3
  have F3 := A1.mk (F2.out.trans f3)
  have Z3 := A1.mk (f3.own hl2 hne Z2.out)
  have hl3 := Nat.lt_of_lt_of_le hl2 f3.size
  clear h3 f3 k3
  go_wp2_with fail
  refine (V2.out _ H3.out).mono ?_
  rintro e w4 ⟨v2, rfl, k4, h4, f4⟩
  obtain ⟨A2', c2', rfl⟩ := Kd.R_slice k4
  have H4 := A1.mk h4
  have F4 := A1.mk (F3.out.trans f4)
  have Z4 := A1.mk (f4.own hl3 hne Z3.out)
  clear h4 f4 k4
  go_wp2_with (first | ((with_reducible refine gateS (ty := 82) (x := .tmp 2) (y := .tmp 18) rfl ?_); refine wpList_store_row rfl 82 (.tmp 2) (.tmp 18) rfl _ #[.int .i64 1, .slice A1' r1.2.length c1', .slice A2' (okL r2.1 r2.2).length c2', .slice none 0 0] rfl rfl 82 _ Z4.out info_comp rfl (comp_one _ _ _ _ _ _ _ _ _ _) ?_))
  (try simp only [Exit.inBlock, Exit.then])
  refine bodyPost_ret (results_cell_row (p := 2) (ty := 82) rfl _ _ _ _ _ (0, 0) _ rfl (setRow_heap _ _ _ _ _ _ Z4.out) Try.underlying82 rfl info_comp) rfl ?_
  exact ⟨A1', c1', A2', _, c2', rfl, H4.out.setRow hne AW.out _, F4.out.setRow (Nat.le_refl _) _⟩
theorem sub_func (w : World) (p : Nat) (A : Option Addr) (c : Nat) (l : List Int) (s : St) (h : On w p A c l s) (he : s.e = 0) (hq : s.pos < l.length) (hx : rd l s.pos = 96)
    (h1e : (valsS l ⟨s.pos + 1, s.e, s.bad⟩).1.e = 0) :
    Calls Try.prog 91 #[.pointer (some ⟨p, 0, none⟩)] w fun e w' => ∃ A1 c1 A2 n2 c2, e = .returned (.agg #[.bool true, .slice none 0 0, .int .i64 1, .slice A1 (valsS l ⟨s.pos + 1, s.e, s.bad⟩).2.length c1, .slice A2 n2 c2, .slice none 0 0]) ∧
      On w' p A c l (valsS l (valsS l ⟨s.pos + 1, s.e, s.bad⟩).1).1 ∧ Fr w w' p := by
  have F0 := A1.mk ((Fr.refl w p).alloc (.cells #[.bool false, .slice none 0 0, .int .i64 0, .slice none 0 0, .slice none 0 0, .slice none 0 0] 84))
  have hp := h.lt
  have h1 := h.alloc (.cells #[.bool false, .slice none 0 0, .int .i64 0, .slice none 0 0, .slice none 0 0, .slice none 0 0] 84)
  have HZ := A1.mk (heap_alloc_new w (.cells #[.bool false, .slice none 0 0, .int .i64 0, .slice none 0 0, .slice none 0 0, .slice none 0 0] 84))
  have hlt : w.heap.size < (w.alloc (.cells #[.bool false, .slice none 0 0, .int .i64 0, .slice none 0 0, .slice none 0 0, .slice none 0 0] 84)).heap.size := by simp
  have hne : w.heap.size ≠ p := by omega
  have AW := A1.mk (fun ad e h0 => Nat.ne_of_lt (h.away ad e h0))
  have Y := A1.mk (peek_on _ p A c l s h1 he)
  have e1 : peekF l s = (s, rd l s.pos, true) := if_pos hq
  rw [e1, hx] at Y
  have CF := A1.mk (fun (w1 : World) (h1 : On w1 p A c l s) => comp_func w1 p A c l s h1 he hq hx h1e)
  obtain ⟨r1, hr1⟩ : ∃ r, valsS l ⟨s.pos + 1, s.e, s.bad⟩ = r := ⟨_, rfl⟩
  rw [hr1] at CF ⊢
  obtain ⟨r2, hr2⟩ : ∃ r, valsS l r1.1 = r := ⟨_, rfl⟩
  rw [hr2] at CF ⊢
  clear h he h1 e1 hx hq hr1 hr2 h1e
  go_enter Try.func91, Try.ntmps91
  go_wp2_with fail
  refine Y.out.mono ?_
  rintro e w2 ⟨rfl, h2, f2⟩
  have H2 := A1.mk h2
  have F2 := A1.mk (F0.out.trans f2)
  have Z2 := A1.mk (f2.own hlt hne HZ.out)
  have hl2 := Nat.lt_of_lt_of_le hlt f2.size
  clear h2 f2
  go_wp2_with fail
  refine (CF.out _ H2.out).mono ?_
  rintro e w3 ⟨A1', c1', A2', n2', c2', rfl, h3, f3⟩
  have H3 := A1.mk h3
  have F3 := A1.mk (F2.out.trans f3)
  have Z3 := A1.mk (f3.own hl2 hne Z2.out)
  clear h3 f3
  go_wp2_with (first | ((with_reducible refine gateS (ty := 84) (x := .tmp 2) (y := .tmp 19) rfl ?_); refine wpList_store_row rfl 84 (.tmp 2) (.tmp 19) rfl _ #[.bool true, .slice none 0 0, .int .i64 1, .slice A1' r1.2.length c1', .slice A2' n2' c2', .slice none 0 0] rfl rfl 84 _ Z3.out info_sub rfl (sub_one _ _ _ _ _ _ _ _ _ _ _ _ _ _) ?_))
  (try simp only [Exit.inBlock, Exit.then])
  refine bodyPost_ret (results_cell_row (p := 2) (ty := 84) rfl _ _ _ _ _ (0, 0) _ rfl (setRow_heap _ _ _ _ _ _ Z3.out) Try.underlying84 rfl info_sub) rfl ?_
  exact ⟨A1', c1', A2', _, c2', rfl, H3.out.setRow hne AW.out _, F3.out.setRow (Nat.le_refl _) _⟩
theorem Rec_func (w : World) (p : Nat) (A : Option Addr) (c : Nat) (l : List Int) (s : St) (h : On w p A c l s) (he : s.e = 0) (hq : s.pos < l.length) (hx : rd l s.pos = 96)
    (h1e : (valsS l ⟨s.pos + 1, s.e, s.bad⟩).1.e = 0) (h2e : (valsS l (valsS l ⟨s.pos + 1, s.e, s.bad⟩).1).1.e = 0) :
    Calls Try.prog 47 #[.pointer (some ⟨p, 0, none⟩)] w fun e w' => ∃ b A1 c1 A2 n2 c2, e = .returned (.slice (some ⟨b, 0, none⟩) 1 1) ∧ w.heap.size ≤ b ∧
      w'.heap[b]? = some (.cells #[.bool true, .slice none 0 0, .int .i64 1, .slice A1 (valsS l ⟨s.pos + 1, s.e, s.bad⟩).2.length c1, .slice A2 n2 c2, .slice none 0 0] 84 (0, 0)) ∧ Fr w w' p := by
  have hp := h.lt
  have Y := A1.mk (peek_on _ p A c l s h he)
  have e1 : peekF l s = (s, rd l s.pos, true) := if_pos hq
  rw [e1, hx] at Y
  have CF := A1.mk (fun (w1 : World) (h1 : On w1 p A c l s) => sub_func w1 p A c l s h1 he hq hx h1e)
  obtain ⟨r1, hr1⟩ : ∃ r, valsS l ⟨s.pos + 1, s.e, s.bad⟩ = r := ⟨_, rfl⟩
  rw [hr1] at CF h2e ⊢
  obtain ⟨r2, hr2⟩ : ∃ r, valsS l r1.1 = r := ⟨_, rfl⟩
  rw [hr2] at CF h2e
  have TO := A1.mk (fun (w1 : World) (h1 : On w1 p A c l r2.1) => there_on w1 p A c l r2.1 h1 h2e)
  clear h he e1 hx hq hr1 hr2 h1e h2e
  go_enter Try.func47, Try.ntmps47
  go_wp2_with fail
  refine Y.out.mono ?_
  rintro e w2 ⟨rfl, h2, f2⟩
  have H2 := A1.mk h2
  have F2 := A1.mk f2
  clear h2 f2
  go_wp2_with fail
  refine (CF.out _ H2.out).mono ?_
  rintro e w3 ⟨A1', c1', A2', n2', c2', rfl, h3, f3⟩
  have H3 := A1.mk (h3.alloc (.cells #[.bool true, .slice none 0 0, .int .i64 1, .slice A1' r1.2.length c1', .slice A2' n2' c2', .slice none 0 0] 84))
  have F3 := A1.mk ((F2.out.trans f3).alloc (.cells #[.bool true, .slice none 0 0, .int .i64 1, .slice A1' r1.2.length c1', .slice A2' n2' c2', .slice none 0 0] 84))
  have Z3 := A1.mk (heap_alloc_new w3 (.cells #[.bool true, .slice none 0 0, .int .i64 1, .slice A1' r1.2.length c1', .slice A2' n2' c2', .slice none 0 0] 84))
  have hs3 : w.heap.size ≤ w3.heap.size := (F2.out.trans f3).size
  clear h3 f3
  go_wp2_with fail
  refine (TO.out _ H3.out).mono ?_
  rintro e w4 ⟨rfl, rfl⟩
  go_wp2
  go_ret
  exact ⟨w3.heap.size, A1', c1', A2', _, c2', rfl, hs3, Z3.out, F3.out⟩
end Go.Proofs.Ythghmbfbjnedfaa.Tb
