/- Layer 6: item at a reader that may read. -/
import Derived.Test.YthghmbfbjnedfaaTbC
namespace Go.Proofs.Ythghmbfbjnedfaa.Tb
open Go Go.RowKit Go.Proofs.YthghmbfbjnedfaaW.PrintWords
set_option maxHeartbeats 4000000
theorem St.fail_pos (s : St) (e x : Int) : (s.fail e x).pos = s.pos := by
  unfold St.fail; split <;> rfl
theorem item_byte_ok (w : World) (p : Nat) (A : Option Addr) (c : Nat) (l : List Int) (s : St) (x : Value) (nx : Int) (h : On w p A c l s) (he : s.e = 0) (n0 : 0 ≤ nx) (n1 : nx ≤ l.length)
    (hg : ∀ w1, Below w.heap.size w w1 → Calls Try.prog 75 #[.slice A l.length c, .int .i64 s.pos] w1 fun e w2 => e = .returned (.tuple #[x, .int .i64 nx, .int .i64 0]) ∧ Below w1.heap.size w1 w2) :
    Calls Try.prog 74 #[.pointer (some ⟨p, 0, none⟩), .func (.func 75) #[] #[]] w fun e w' => e = .returned x ∧ On w' p A c l ⟨nx, s.e, s.bad⟩ ∧ Fr w w' p := by
  have T := A1.mk (there_on w p A c l s h he)
  have H := A1.mk h
  have c0 := h.c0
  have c3 := h.c3
  have G := A1.mk hg
  clear h he hg
  go_enter Try.func74, Try.ntmps74
  go_wp2_with fail
  refine T.out.mono ?_
  rintro e w1 ⟨rfl, rfl⟩
  go_wp2_with fail
  go_region_held3 (fun w' => w'.cell? ⟨p, 0, none⟩ = some (.int .i64 s.pos) ∧ w'.cell? ⟨p, 3, none⟩ = some (.slice A l.length c)) (go_keep) ((go_at_call 75; refine (G.out _ ?_).mono ?_; (exact (Below.refl _ _).drew); rintro e w2 ⟨rfl, hb⟩; have HB := A1.mk ((Below.refl _ _).drew.trans hb); have H2 := A1.mk (H.out.drew.below hb); have r0 := H2.out.c0; have r3 := H2.out.c3; have f0 := H2.out.f 0; clear hb))
  go_wp2
  go_ret
  exact ⟨rfl, H2.out.set0 nx n0 n1, (Fr.below HB.out).set 0 _⟩
theorem item_byte_bad (w : World) (p : Nat) (A : Option Addr) (c : Nat) (l : List Int) (s : St) (x : Value) (nx er : Int) (h : On w p A c l s) (he : s.e = 0) (hr : er ≠ 0)
    (hg : ∀ w1, Below w.heap.size w w1 → Calls Try.prog 75 #[.slice A l.length c, .int .i64 s.pos] w1 fun e w2 => e = .returned (.tuple #[x, .int .i64 nx, .int .i64 er]) ∧ Below w1.heap.size w1 w2) :
    Calls Try.prog 74 #[.pointer (some ⟨p, 0, none⟩), .func (.func 75) #[] #[]] w fun e w' => e = .returned (.int .u8 0) ∧ On w' p A c l (s.fail er s.pos) ∧ Fr w w' p := by
  have T := A1.mk (there_on w p A c l s h he)
  have H := A1.mk h
  have c0 := h.c0
  have c3 := h.c3
  have G := A1.mk hg
  have q : (er != 0) = true := bne_iff_ne.2 hr
  have q2 : (er == 0) = false := beq_eq_false_iff_ne.2 hr
  clear h he hg
  go_enter Try.func74, Try.ntmps74
  go_wp2_with fail
  refine T.out.mono ?_
  rintro e w1 ⟨rfl, rfl⟩
  go_wp2_with fail
  go_region_held3 (fun w' => w'.cell? ⟨p, 0, none⟩ = some (.int .i64 s.pos) ∧ w'.cell? ⟨p, 3, none⟩ = some (.slice A l.length c)) (go_keep) ((go_at_call 75; refine (G.out _ ?_).mono ?_; (exact (Below.refl _ _).drew); rintro e w2 ⟨rfl, hb⟩; have HB := A1.mk ((Below.refl _ _).drew.trans hb); have H2 := A1.mk (H.out.drew.below hb); have r0 := H2.out.c0; have r3 := H2.out.c3; have f0 := H2.out.f 0; clear hb))
  go_wp2
  go_region_held3 (fun w' => w'.cell? ⟨p, 0, none⟩ = some (.int .i64 s.pos)) (go_keep) ((go_at_call 73; refine (fail_on _ p A c l s ?_ er s.pos).mono ?_; (exact H2.out.drew); rintro e w4 ⟨rfl, h4, fr⟩; have H4 := A1.mk h4; have F4 := A1.mk fr; have r4 := h4.c0; rw [St.fail_pos] at r4; clear h4 fr))
  go_wp2
  go_ret
  exact ⟨rfl, H4.out, (Fr.below HB.out).drew.trans F4.out⟩
theorem item_u64_ok (w : World) (p : Nat) (A : Option Addr) (c : Nat) (l : List Int) (s : St) (B : Nat) (x : Value) (nx : Int) (h : On w p A c l s) (he : s.e = 0) (n0 : 0 ≤ nx) (n1 : nx ≤ l.length)
    (hg : ∀ w1, Below w.heap.size w w1 → Calls Try.prog 77 #[.slice A l.length c, .int .i64 s.pos, .pointer (some ⟨B, 0, none⟩)] w1 fun e w2 => e = .returned (.tuple #[x, .int .i64 nx, .int .i64 0]) ∧ Below w1.heap.size w1 w2) :
    Calls Try.prog 76 #[.pointer (some ⟨p, 0, none⟩), .func (.func 77) #[] #[.pointer (some ⟨B, 0, none⟩)]] w fun e w' => e = .returned x ∧ On w' p A c l ⟨nx, s.e, s.bad⟩ ∧ Fr w w' p := by
  have T := A1.mk (there_on w p A c l s h he)
  have H := A1.mk h
  have c0 := h.c0
  have c3 := h.c3
  have G := A1.mk hg
  clear h he hg
  go_enter Try.func76, Try.ntmps76
  go_wp2_with fail
  refine T.out.mono ?_
  rintro e w1 ⟨rfl, rfl⟩
  go_wp2_with fail
  go_region_held3 (fun w' => w'.cell? ⟨p, 0, none⟩ = some (.int .i64 s.pos) ∧ w'.cell? ⟨p, 3, none⟩ = some (.slice A l.length c)) (go_keep) ((go_at_call 77; refine (G.out _ ?_).mono ?_; (exact (Below.refl _ _).drew); rintro e w2 ⟨rfl, hb⟩; have HB := A1.mk ((Below.refl _ _).drew.trans hb); have H2 := A1.mk (H.out.drew.below hb); have r0 := H2.out.c0; have r3 := H2.out.c3; have f0 := H2.out.f 0; clear hb))
  go_wp2
  go_ret
  exact ⟨rfl, H2.out.set0 nx n0 n1, (Fr.below HB.out).set 0 _⟩
theorem item_u64_bad (w : World) (p : Nat) (A : Option Addr) (c : Nat) (l : List Int) (s : St) (B : Nat) (x : Value) (nx er : Int) (h : On w p A c l s) (he : s.e = 0) (hr : er ≠ 0)
    (hg : ∀ w1, Below w.heap.size w w1 → Calls Try.prog 77 #[.slice A l.length c, .int .i64 s.pos, .pointer (some ⟨B, 0, none⟩)] w1 fun e w2 => e = .returned (.tuple #[x, .int .i64 nx, .int .i64 er]) ∧ Below w1.heap.size w1 w2) :
    Calls Try.prog 76 #[.pointer (some ⟨p, 0, none⟩), .func (.func 77) #[] #[.pointer (some ⟨B, 0, none⟩)]] w fun e w' => e = .returned (.int .u64 0) ∧ On w' p A c l (s.fail er s.pos) ∧ Fr w w' p := by
  have T := A1.mk (there_on w p A c l s h he)
  have H := A1.mk h
  have c0 := h.c0
  have c3 := h.c3
  have G := A1.mk hg
  have q : (er != 0) = true := bne_iff_ne.2 hr
  have q2 : (er == 0) = false := beq_eq_false_iff_ne.2 hr
  clear h he hg
  go_enter Try.func76, Try.ntmps76
  go_wp2_with fail
  refine T.out.mono ?_
  rintro e w1 ⟨rfl, rfl⟩
  go_wp2_with fail
  go_region_held3 (fun w' => w'.cell? ⟨p, 0, none⟩ = some (.int .i64 s.pos) ∧ w'.cell? ⟨p, 3, none⟩ = some (.slice A l.length c)) (go_keep) ((go_at_call 77; refine (G.out _ ?_).mono ?_; (exact (Below.refl _ _).drew); rintro e w2 ⟨rfl, hb⟩; have HB := A1.mk ((Below.refl _ _).drew.trans hb); have H2 := A1.mk (H.out.drew.below hb); have r0 := H2.out.c0; have r3 := H2.out.c3; have f0 := H2.out.f 0; clear hb))
  go_wp2
  go_region_held3 (fun w' => w'.cell? ⟨p, 0, none⟩ = some (.int .i64 s.pos)) (go_keep) ((go_at_call 73; refine (fail_on _ p A c l s ?_ er s.pos).mono ?_; (exact H2.out.drew); rintro e w4 ⟨rfl, h4, fr⟩; have H4 := A1.mk h4; have F4 := A1.mk fr; have r4 := h4.c0; rw [St.fail_pos] at r4; clear h4 fr))
  go_wp2
  go_ret
  exact ⟨rfl, H4.out, (Fr.below HB.out).drew.trans F4.out⟩
theorem item_i64_ok (w : World) (p : Nat) (A : Option Addr) (c : Nat) (l : List Int) (s : St) (B : Nat) (x : Value) (nx : Int) (h : On w p A c l s) (he : s.e = 0) (n0 : 0 ≤ nx) (n1 : nx ≤ l.length)
    (hg : ∀ w1, Below w.heap.size w w1 → Calls Try.prog 79 #[.slice A l.length c, .int .i64 s.pos, .pointer (some ⟨B, 0, none⟩)] w1 fun e w2 => e = .returned (.tuple #[x, .int .i64 nx, .int .i64 0]) ∧ Below w1.heap.size w1 w2) :
    Calls Try.prog 78 #[.pointer (some ⟨p, 0, none⟩), .func (.func 79) #[] #[.pointer (some ⟨B, 0, none⟩)]] w fun e w' => e = .returned x ∧ On w' p A c l ⟨nx, s.e, s.bad⟩ ∧ Fr w w' p := by
  have T := A1.mk (there_on w p A c l s h he)
  have H := A1.mk h
  have c0 := h.c0
  have c3 := h.c3
  have G := A1.mk hg
  clear h he hg
  go_enter Try.func78, Try.ntmps78
  go_wp2_with fail
  refine T.out.mono ?_
  rintro e w1 ⟨rfl, rfl⟩
  go_wp2_with fail
  go_region_held3 (fun w' => w'.cell? ⟨p, 0, none⟩ = some (.int .i64 s.pos) ∧ w'.cell? ⟨p, 3, none⟩ = some (.slice A l.length c)) (go_keep) ((go_at_call 79; refine (G.out _ ?_).mono ?_; (exact (Below.refl _ _).drew); rintro e w2 ⟨rfl, hb⟩; have HB := A1.mk ((Below.refl _ _).drew.trans hb); have H2 := A1.mk (H.out.drew.below hb); have r0 := H2.out.c0; have r3 := H2.out.c3; have f0 := H2.out.f 0; clear hb))
  go_wp2
  go_ret
  exact ⟨rfl, H2.out.set0 nx n0 n1, (Fr.below HB.out).set 0 _⟩
theorem item_i64_bad (w : World) (p : Nat) (A : Option Addr) (c : Nat) (l : List Int) (s : St) (B : Nat) (x : Value) (nx er : Int) (h : On w p A c l s) (he : s.e = 0) (hr : er ≠ 0)
    (hg : ∀ w1, Below w.heap.size w w1 → Calls Try.prog 79 #[.slice A l.length c, .int .i64 s.pos, .pointer (some ⟨B, 0, none⟩)] w1 fun e w2 => e = .returned (.tuple #[x, .int .i64 nx, .int .i64 er]) ∧ Below w1.heap.size w1 w2) :
    Calls Try.prog 78 #[.pointer (some ⟨p, 0, none⟩), .func (.func 79) #[] #[.pointer (some ⟨B, 0, none⟩)]] w fun e w' => e = .returned (.int .i64 0) ∧ On w' p A c l (s.fail er s.pos) ∧ Fr w w' p := by
  have T := A1.mk (there_on w p A c l s h he)
  have H := A1.mk h
  have c0 := h.c0
  have c3 := h.c3
  have G := A1.mk hg
  have q : (er != 0) = true := bne_iff_ne.2 hr
  have q2 : (er == 0) = false := beq_eq_false_iff_ne.2 hr
  clear h he hg
  go_enter Try.func78, Try.ntmps78
  go_wp2_with fail
  refine T.out.mono ?_
  rintro e w1 ⟨rfl, rfl⟩
  go_wp2_with fail
  go_region_held3 (fun w' => w'.cell? ⟨p, 0, none⟩ = some (.int .i64 s.pos) ∧ w'.cell? ⟨p, 3, none⟩ = some (.slice A l.length c)) (go_keep) ((go_at_call 79; refine (G.out _ ?_).mono ?_; (exact (Below.refl _ _).drew); rintro e w2 ⟨rfl, hb⟩; have HB := A1.mk ((Below.refl _ _).drew.trans hb); have H2 := A1.mk (H.out.drew.below hb); have r0 := H2.out.c0; have r3 := H2.out.c3; have f0 := H2.out.f 0; clear hb))
  go_wp2
  go_region_held3 (fun w' => w'.cell? ⟨p, 0, none⟩ = some (.int .i64 s.pos)) (go_keep) ((go_at_call 73; refine (fail_on _ p A c l s ?_ er s.pos).mono ?_; (exact H2.out.drew); rintro e w4 ⟨rfl, h4, fr⟩; have H4 := A1.mk h4; have F4 := A1.mk fr; have r4 := h4.c0; rw [St.fail_pos] at r4; clear h4 fr))
  go_wp2
  go_ret
  exact ⟨rfl, H4.out, (Fr.below HB.out).drew.trans F4.out⟩
theorem item_int_ok (w : World) (p : Nat) (A : Option Addr) (c : Nat) (l : List Int) (s : St) (x : Value) (nx : Int) (h : On w p A c l s) (he : s.e = 0) (n0 : 0 ≤ nx) (n1 : nx ≤ l.length)
    (hg : ∀ w1, Below w.heap.size w w1 → Calls Try.prog 82 #[.slice A l.length c, .int .i64 s.pos] w1 fun e w2 => e = .returned (.tuple #[x, .int .i64 nx, .int .i64 0]) ∧ Below w1.heap.size w1 w2) :
    Calls Try.prog 81 #[.pointer (some ⟨p, 0, none⟩), .func (.func 82) #[] #[]] w fun e w' => e = .returned x ∧ On w' p A c l ⟨nx, s.e, s.bad⟩ ∧ Fr w w' p := by
  have T := A1.mk (there_on w p A c l s h he)
  have H := A1.mk h
  have c0 := h.c0
  have c3 := h.c3
  have G := A1.mk hg
  clear h he hg
  go_enter Try.func81, Try.ntmps81
  go_wp2_with fail
  refine T.out.mono ?_
  rintro e w1 ⟨rfl, rfl⟩
  go_wp2_with fail
  go_region_held3 (fun w' => w'.cell? ⟨p, 0, none⟩ = some (.int .i64 s.pos) ∧ w'.cell? ⟨p, 3, none⟩ = some (.slice A l.length c)) (go_keep) ((go_at_call 82; refine (G.out _ ?_).mono ?_; (exact (Below.refl _ _).drew); rintro e w2 ⟨rfl, hb⟩; have HB := A1.mk ((Below.refl _ _).drew.trans hb); have H2 := A1.mk (H.out.drew.below hb); have r0 := H2.out.c0; have r3 := H2.out.c3; have f0 := H2.out.f 0; clear hb))
  go_wp2
  go_ret
  exact ⟨rfl, H2.out.set0 nx n0 n1, (Fr.below HB.out).set 0 _⟩
theorem item_int_bad (w : World) (p : Nat) (A : Option Addr) (c : Nat) (l : List Int) (s : St) (x : Value) (nx er : Int) (h : On w p A c l s) (he : s.e = 0) (hr : er ≠ 0)
    (hg : ∀ w1, Below w.heap.size w w1 → Calls Try.prog 82 #[.slice A l.length c, .int .i64 s.pos] w1 fun e w2 => e = .returned (.tuple #[x, .int .i64 nx, .int .i64 er]) ∧ Below w1.heap.size w1 w2) :
    Calls Try.prog 81 #[.pointer (some ⟨p, 0, none⟩), .func (.func 82) #[] #[]] w fun e w' => e = .returned (.int .i64 0) ∧ On w' p A c l (s.fail er s.pos) ∧ Fr w w' p := by
  have T := A1.mk (there_on w p A c l s h he)
  have H := A1.mk h
  have c0 := h.c0
  have c3 := h.c3
  have G := A1.mk hg
  have q : (er != 0) = true := bne_iff_ne.2 hr
  have q2 : (er == 0) = false := beq_eq_false_iff_ne.2 hr
  clear h he hg
  go_enter Try.func81, Try.ntmps81
  go_wp2_with fail
  refine T.out.mono ?_
  rintro e w1 ⟨rfl, rfl⟩
  go_wp2_with fail
  go_region_held3 (fun w' => w'.cell? ⟨p, 0, none⟩ = some (.int .i64 s.pos) ∧ w'.cell? ⟨p, 3, none⟩ = some (.slice A l.length c)) (go_keep) ((go_at_call 82; refine (G.out _ ?_).mono ?_; (exact (Below.refl _ _).drew); rintro e w2 ⟨rfl, hb⟩; have HB := A1.mk ((Below.refl _ _).drew.trans hb); have H2 := A1.mk (H.out.drew.below hb); have r0 := H2.out.c0; have r3 := H2.out.c3; have f0 := H2.out.f 0; clear hb))
  go_wp2
  go_region_held3 (fun w' => w'.cell? ⟨p, 0, none⟩ = some (.int .i64 s.pos)) (go_keep) ((go_at_call 73; refine (fail_on _ p A c l s ?_ er s.pos).mono ?_; (exact H2.out.drew); rintro e w4 ⟨rfl, h4, fr⟩; have H4 := A1.mk h4; have F4 := A1.mk fr; have r4 := h4.c0; rw [St.fail_pos] at r4; clear h4 fr))
  go_wp2
  go_ret
  exact ⟨rfl, H4.out, (Fr.below HB.out).drew.trans F4.out⟩
end Go.Proofs.Ythghmbfbjnedfaa.Tb
