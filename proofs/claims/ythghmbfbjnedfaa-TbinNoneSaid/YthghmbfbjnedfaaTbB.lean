/- Layer 6: a reader's small methods. -/
import Derived.Test.YthghmbfbjnedfaaTbA
namespace Go.Proofs.Ythghmbfbjnedfaa.Tb
open Go Go.RowKit Go.Proofs.YthghmbfbjnedfaaW.PrintWords
set_option maxHeartbeats 2000000
theorem fail_on (w : World) (p : Nat) (A : Option Addr) (c : Nat) (l : List Int) (s : St) (h : On w p A c l s) (e pos : Int) :
    Calls Try.prog 73 #[.pointer (some ⟨p, 0, none⟩), .int .i64 e, .int .i64 pos] w fun en w' => en = .returned (.tuple #[]) ∧ On w' p A c l (s.fail e pos) ∧ Fr w w' p := by
  have c1 := h.c1
  have c2 := h.c2
  have f1 := h.f 1
  have f2 := h.f 2
  have H := A1.mk h
  clear h
  by_cases h0 : s.e = 0
  · rw [h0] at c1
    by_cases he : e = 0
    · have hs : s.fail e pos = s := if_neg (fun q => q.2 he)
      rw [hs]
      subst he
      clear h0 hs
      go_enter Try.func73, Try.ntmps73
      go_wp2
      go_end0
      exact ⟨rfl, H.out, Fr.refl _ _⟩
    · have hs : s.fail e pos = ⟨s.pos, e, pos⟩ := if_pos ⟨h0, he⟩
      rw [hs]
      have q : (e != 0) = true := bne_iff_ne.2 he
      have q2 : (e == 0) = false := beq_eq_false_iff_ne.2 he
      clear h0 hs he
      go_enter Try.func73, Try.ntmps73
      go_wp2
      go_end0
      exact ⟨rfl, (H.out.set1 e).set2 pos, ((Fr.refl _ _).set 1 _).set 2 _⟩
  · have hs : s.fail e pos = s := if_neg (fun q => h0 q.1)
    rw [hs]
    have q : (s.e == 0) = false := beq_eq_false_iff_ne.2 h0
    clear h0 hs
    go_enter Try.func73, Try.ntmps73
    go_wp2
    go_end0
    exact ⟨rfl, H.out, Fr.refl _ _⟩
theorem Fail_raw (w : World) (v : Value) (h : Raw w v) (e pos : Int) : Calls Try.prog 37 #[v, .int .i64 e, .int .i64 pos] w fun en w' => en = .returned (.tuple #[]) ∧ w' = w := by
  cases h with
  | none =>
    go_enter Try.func37, Try.ntmps37
    go_wp2
    go_end0
    exact ⟨rfl, rfl⟩
  | raw p h =>
    have c4 : w.cell? ⟨p, 4, none⟩ = some (.bool false) := by rw [cell_of_row w p 4 _ _ (0, 0) h]; rfl
    clear h
    go_enter Try.func37, Try.ntmps37
    go_wp2
    go_end0
    exact ⟨rfl, rfl⟩
theorem At_on (w : World) (p : Nat) (A : Option Addr) (c : Nat) (l : List Int) (s : St) (h : On w p A c l s) :
    Calls Try.prog 48 #[.pointer (some ⟨p, 0, none⟩)] w fun en w' => en = .returned (.int .i64 s.pos) ∧ w' = w := by
  have c0 := h.c0
  clear h
  go_enter Try.func48, Try.ntmps48
  go_wp2
  go_ret
  exact ⟨rfl, rfl⟩
theorem At_raw (w : World) (v : Value) (h : Raw w v) : Calls Try.prog 48 #[v] w fun en w' => en = .returned (.int .i64 0) ∧ w' = w := by
  cases h with
  | none =>
    go_enter Try.func48, Try.ntmps48
    go_wp2
    go_ret
    exact ⟨rfl, rfl⟩
  | raw p h =>
    have c0 : w.cell? ⟨p, 0, none⟩ = some (.int .i64 0) := by rw [cell_of_row w p 0 _ _ (0, 0) h]; rfl
    clear h
    go_enter Try.func48, Try.ntmps48
    go_wp2
    go_ret
    exact ⟨rfl, rfl⟩
theorem Left_on (w : World) (p : Nat) (A : Option Addr) (c : Nat) (l : List Int) (s : St) (h : On w p A c l s) :
    Calls Try.prog 49 #[.pointer (some ⟨p, 0, none⟩)] w fun en w' => en = .returned (.int .i64 (l.length - s.pos)) ∧ Below w.heap.size w w' := by
  have c0 := h.c0
  have c3 := h.c3
  have b0 := h.lo
  have b1 := h.hi
  have b2 : (l.length : Int) ≤ 1000000 := by have := h.big; omega
  have q : IntKind.i64.wrap ((l.length : Int) - s.pos) = (l.length : Int) - s.pos := by simp [IntKind.wrap, IntKind.bits, IntKind.signed]; omega
  have HB := A1.mk (Below.refl w.heap.size w)
  clear h
  go_enter Try.func49, Try.ntmps49
  go_wp2
  go_region_held3 (fun w' => w'.cell? ⟨p, 0, none⟩ = some (.int .i64 s.pos) ∧ w'.cell? ⟨p, 3, none⟩ = some (.slice A l.length c)) (go_keep) (fail)
  go_wp2
  go_ret
  exact ⟨rfl, HB.out.drew⟩
theorem Left_raw (w : World) (v : Value) (h : Raw w v) : Calls Try.prog 49 #[v] w fun en w' => en = .returned (.int .i64 0) ∧ Below w.heap.size w w' := by
  have HB := A1.mk (Below.refl w.heap.size w)
  cases h with
  | none =>
    go_enter Try.func49, Try.ntmps49
    go_wp2
    go_ret
    exact ⟨rfl, HB.out⟩
  | raw p h =>
    have c0 : w.cell? ⟨p, 0, none⟩ = some (.int .i64 0) := by rw [cell_of_row w p 0 _ _ (0, 0) h]; rfl
    have c3 : w.cell? ⟨p, 3, none⟩ = some (.slice none 0 0) := by rw [cell_of_row w p 3 _ _ (0, 0) h]; rfl
    clear h
    go_enter Try.func49, Try.ntmps49
    go_wp2
    go_region_held3 (fun w' => w'.cell? ⟨p, 0, none⟩ = some (.int .i64 0) ∧ w'.cell? ⟨p, 3, none⟩ = some (.slice none 0 0)) (go_keep) (fail)
    go_wp2
    go_ret
    exact ⟨rfl, HB.out.drew⟩
theorem Err_on (w : World) (p : Nat) (A : Option Addr) (c : Nat) (l : List Int) (s : St) (h : On w p A c l s) :
    Calls Try.prog 50 #[.pointer (some ⟨p, 0, none⟩)] w fun en w' => en = .returned (.tuple #[.int .i64 s.e, .int .i64 s.bad]) ∧ Below w.heap.size w w' := by
  have c1 := h.c1
  have c2 := h.c2
  have c4 := h.c4
  have HB := A1.mk (Below.refl w.heap.size w)
  clear h
  go_enter Try.func50, Try.ntmps50
  go_wp2
  go_region_held3 (fun w' => w'.cell? ⟨p, 1, none⟩ = some (.int .i64 s.e) ∧ w'.cell? ⟨p, 2, none⟩ = some (.int .i64 s.bad)) (go_keep) (fail)
  go_wp2
  go_ret2
  exact ⟨rfl, HB.out.drew⟩
theorem Err_raw (w : World) (v : Value) (h : Raw w v) : Calls Try.prog 50 #[v] w fun en w' => en = .returned (.tuple #[.int .i64 1, .int .i64 0]) ∧ w' = w := by
  cases h with
  | none =>
    go_enter Try.func50, Try.ntmps50
    go_wp2
    go_ret2
    exact ⟨rfl, rfl⟩
  | raw p h =>
    have c4 : w.cell? ⟨p, 4, none⟩ = some (.bool false) := by rw [cell_of_row w p 4 _ _ (0, 0) h]; rfl
    clear h
    go_enter Try.func50, Try.ntmps50
    go_wp2
    go_ret2
    exact ⟨rfl, rfl⟩
theorem At_off (w : World) (v : Value) (h : Off w v) : Calls Try.prog 48 #[v] w fun en w' => ∃ a, en = .returned (.int .i64 a) ∧ w' = w := by
  cases h with
  | of h => exact (At_raw w v h).mono (fun e w1 hq => ⟨0, hq⟩)
  | err p A c l s h he => exact (At_on w p A c l s h).mono (fun e w1 hq => ⟨s.pos, hq⟩)
theorem peek_off (w : World) (v : Value) (h : Off w v) : Calls Try.prog 86 #[v] w fun en w' => en = .returned (.tuple #[.int .u8 0, .bool false]) ∧ w' = w := by
  have T := A1.mk (there_off w v h)
  clear h
  go_enter Try.func86, Try.ntmps86
  go_wp2_with fail
  refine T.out.mono ?_
  rintro e w1 ⟨rfl, rfl⟩
  go_wp2
  go_ret2
  exact ⟨rfl, rfl⟩
end Go.Proofs.Ythghmbfbjnedfaa.Tb
