/- Layer 6: the reader's Byte, U, S, Count, peek at a reader that was made. -/
import Derived.Test.YthghmbfbjnedfaaTbD
import Derived.Test.YthghmbfbjnedfaaTbP
namespace Go.Proofs.Ythghmbfbjnedfaa.Tb
open Go Go.RowKit Go.Proofs.YthghmbfbjnedfaaW.PrintWords Go.Proofs.Ythghmbfbjnedfaa.Lb Go.Proofs.Ythghmbfbjnedfaa.Leb
set_option maxHeartbeats 4000000
theorem On.at_ {w : World} {p : Nat} {A : Option Addr} {c : Nat} {l : List Int} {s : St} (h : On w p A c l s) (hp : s.pos < l.length) : ∃ ad, A = some ad ∧ w.cell? (ad.add s.pos.toNat) = some (.int .u8 (rd l s.pos)) := h.bytes.at_ s.pos h.lo hp
theorem byte1_ok (w : World) (A : Option Addr) (c : Nat) (l : List Int) (pos : Int) (hb : ReadsInt w .u8 A l.length l) (h0 : 0 ≤ pos) (h1 : pos < l.length) (hl : l.length ≤ 1000000) :
    Calls Try.prog 75 #[.slice A l.length c, .int .i64 pos] w fun e w' => e = .returned (.tuple #[.int .u8 (rd l pos), .int .i64 (pos + 1), .int .i64 0]) ∧ Below w.heap.size w w' := by
  obtain ⟨ad, rfl, hc⟩ := hb.at_ pos h0 h1
  have HB := A1.mk (Below.refl w.heap.size w)
  have h2 : ¬ (l.length : Int) ≤ pos := by omega
  have h3 : pos ≤ 1000000 := by omega
  clear hb hl
  go_enter Try.func75, Try.ntmps75
  go_wp2
  go_ret3
  exact ⟨rfl, HB.out⟩
theorem byte1_end (w : World) (A : Option Addr) (c : Nat) (l : List Int) (pos : Int) (h1 : (l.length : Int) ≤ pos) :
    Calls Try.prog 75 #[.slice A l.length c, .int .i64 pos] w fun e w' => e = .returned (.tuple #[.int .u8 0, .int .i64 0, .int .i64 10]) ∧ Below w.heap.size w w' := by
  have HB := A1.mk (Below.refl w.heap.size w)
  go_enter Try.func75, Try.ntmps75
  go_wp2
  go_ret3
  exact ⟨rfl, HB.out⟩
theorem s1_val (w : World) (A : Option Addr) (c : Nat) (l : List Int) (pos bits : Int) (B : Nat) (hb : ReadsInt w .u8 A l.length l) (hc : w.cell? ⟨B, 0, none⟩ = some (.int .i64 bits)) (hl : l.length ≤ 1000000) (hu : ∀ x ∈ l, 0 ≤ x ∧ x ≤ 255) :
    Calls Try.prog 79 #[.slice A l.length c, .int .i64 pos, .pointer (some ⟨B, 0, none⟩)] w fun e w' => e = .returned (.tuple #[.int .i64 (readS l pos bits).1, .int .i64 (readS l pos bits).2.1, .int .i64 (readS l pos bits).2.2]) ∧ Below w.heap.size w w' := by
  have X := A1.mk (S_calls A c l pos bits w (by omega) hb hu)
  have HB := A1.mk (Below.refl w.heap.size w)
  clear hb hl hu
  obtain ⟨r, hr⟩ : ∃ r, readS l pos bits = r := ⟨_, rfl⟩
  rw [hr] at X ⊢
  clear hr
  obtain ⟨a, b, d⟩ := r
  go_enter Try.func79, Try.ntmps79
  go_wp2_with fail
  refine X.out.mono ?_
  rintro e w1 ⟨rfl, rfl⟩
  go_wp2
  go_ret3
  exact ⟨rfl, HB.out⟩
theorem u1_val (w : World) (A : Option Addr) (c : Nat) (l : List Int) (pos bits : Int) (B : Nat) (hb : ReadsInt w .u8 A l.length l) (hc : w.cell? ⟨B, 0, none⟩ = some (.int .i64 bits)) (hl : l.length ≤ 1000000) (hu : ∀ x ∈ l, 0 ≤ x ∧ x ≤ 255) :
    Calls Try.prog 77 #[.slice A l.length c, .int .i64 pos, .pointer (some ⟨B, 0, none⟩)] w fun e w' => e = .returned (.tuple #[.int .u64 (readU l pos bits).1, .int .i64 (readU l pos bits).2.1, .int .i64 (readU l pos bits).2.2]) ∧ Below w.heap.size w w' := by
  have X := A1.mk (U_calls A c l pos bits w (by omega) hb hu)
  have HB := A1.mk (Below.refl w.heap.size w)
  clear hb hl hu
  obtain ⟨r, hr⟩ : ∃ r, readU l pos bits = r := ⟨_, rfl⟩
  rw [hr] at X ⊢
  clear hr
  obtain ⟨a, b, d⟩ := r
  go_enter Try.func77, Try.ntmps77
  go_wp2_with fail
  refine X.out.mono ?_
  rintro e w1 ⟨rfl, rfl⟩
  go_wp2
  go_ret3
  exact ⟨rfl, HB.out⟩
/-- A list's number: the number, the place behind it, the error. -/
def cntF (l : List Int) (pos : Int) : Int × Int × Int :=
  if (readU l pos 32).2.2 ≠ 0 then (0, 0, (readU l pos 32).2.2)
  else if (l.length : Int) - (readU l pos 32).2.1 < (readU l pos 32).1 then (0, 0, 10)
  else ((readU l pos 32).1, (readU l pos 32).2.1, 0)
theorem count1_val (w : World) (A : Option Addr) (c : Nat) (l : List Int) (pos : Int) (hb : ReadsInt w .u8 A l.length l) (hl : l.length ≤ 1000000) (hu : ∀ x ∈ l, 0 ≤ x ∧ x ≤ 255) :
    ((cntF l pos).2.2 = 0 → wrap64 (readU l pos 32).1 = (cntF l pos).1 ∧ (readU l pos 32).2.1 = (cntF l pos).2.1) ∧
    Calls Try.prog 82 #[.slice A l.length c, .int .i64 pos] w fun e w' => e = .returned (.tuple #[.int .i64 (wrap64 (readU l pos 32).1), .int .i64 (readU l pos 32).2.1, .int .i64 (cntF l pos).2.2]) ∧ Below w.heap.size w w' := by
  have X := A1.mk (U_calls A c l pos 32 w (by omega) hb hu)
  have HB := A1.mk (Below.refl w.heap.size w)
  have hl2 : (l.length : Int) ≤ 1000000 := by omega
  clear hb hl
  by_cases h0 : (readU l pos 32).2.2 = 0
  · obtain ⟨n, nx, hr, hn, hp1, hp2, hp3⟩ := readU32 l pos hu h0
    unfold cntF
    rw [hr] at X ⊢
    clear hu h0 hr
    have hp2' : (nx : Int) ≤ l.length := by omega
    have hn' : (n : Int) ≤ 4294967295 := by omega
    have q1 : IntKind.i64.wrap ((l.length : Int) - nx) = (l.length : Int) - nx := by simp [IntKind.wrap, IntKind.bits, IntKind.signed]; omega
    have q2 : IntKind.u64.wrap ((l.length : Int) - nx) = (l.length : Int) - nx := by simp [IntKind.wrap, IntKind.bits, IntKind.signed]; omega
    have q3 : IntKind.i64.wrap (n : Int) = (n : Int) := by simp [IntKind.wrap, IntKind.bits, IntKind.signed]; omega
    have q4 : wrap64 (n : Int) = (n : Int) := by unfold wrap64; omega
    rw [q4]
    by_cases hq : (l.length : Int) - nx < n
    · refine ⟨?_, ?_⟩
      · intro h; simp [hq] at h
      have e : (if (((n : Int), (nx : Int), (0 : Int)) : Int × Int × Int).2.2 ≠ 0 then ((0, 0, (((n : Int), (nx : Int), (0 : Int)) : Int × Int × Int).2.2) : Int × Int × Int) else if (l.length : Int) - (((n : Int), (nx : Int), (0 : Int)) : Int × Int × Int).2.1 < (((n : Int), (nx : Int), (0 : Int)) : Int × Int × Int).1 then (0, 0, 10) else ((((n : Int), (nx : Int), (0 : Int)) : Int × Int × Int).1, (((n : Int), (nx : Int), (0 : Int)) : Int × Int × Int).2.1, 0)).2.2 = 10 := by simp [hq]
      rw [e]
      clear e
      go_enter Try.func82, Try.ntmps82
      go_wp2_with fail
      refine X.out.mono ?_
      rintro e w1 ⟨rfl, rfl⟩
      go_wp2
      go_ret3
      exact ⟨rfl, HB.out⟩
    · refine ⟨?_, ?_⟩
      · intro h; simp [hq]
      have e : (if (((n : Int), (nx : Int), (0 : Int)) : Int × Int × Int).2.2 ≠ 0 then ((0, 0, (((n : Int), (nx : Int), (0 : Int)) : Int × Int × Int).2.2) : Int × Int × Int) else if (l.length : Int) - (((n : Int), (nx : Int), (0 : Int)) : Int × Int × Int).2.1 < (((n : Int), (nx : Int), (0 : Int)) : Int × Int × Int).1 then (0, 0, 10) else ((((n : Int), (nx : Int), (0 : Int)) : Int × Int × Int).1, (((n : Int), (nx : Int), (0 : Int)) : Int × Int × Int).2.1, 0)).2.2 = 0 := by simp [hq]
      rw [e]
      clear e
      go_enter Try.func82, Try.ntmps82
      go_wp2_with fail
      refine X.out.mono ?_
      rintro e w1 ⟨rfl, rfl⟩
      go_wp2
      go_ret3
      exact ⟨rfl, HB.out⟩
  · obtain ⟨r, hr⟩ : ∃ r, readU l pos 32 = r := ⟨_, rfl⟩
    obtain ⟨n, nx, er⟩ := r
    have her : er ≠ 0 := by rw [hr] at h0; exact h0
    unfold cntF
    rw [hr] at X ⊢
    have q : (er == 0) = false := beq_eq_false_iff_ne.2 her
    refine ⟨?_, ?_⟩
    · intro h; exact absurd h (by simp [her])
    have e : (if ((n, nx, er) : Int × Int × Int).2.2 ≠ 0 then ((0, 0, ((n, nx, er) : Int × Int × Int).2.2) : Int × Int × Int) else if (l.length : Int) - ((n, nx, er) : Int × Int × Int).2.1 < ((n, nx, er) : Int × Int × Int).1 then (0, 0, 10) else (((n, nx, er) : Int × Int × Int).1, ((n, nx, er) : Int × Int × Int).2.1, 0)).2.2 = er := by simp [her]
    rw [e]
    clear e hu h0 hr her
    go_enter Try.func82, Try.ntmps82
    go_wp2_with fail
    refine X.out.mono ?_
    rintro e w1 ⟨rfl, rfl⟩
    go_wp2
    go_ret3
    exact ⟨rfl, HB.out⟩
/-- Byte's state and value. -/
def byteF (l : List Int) (s : St) : St × Int := if s.pos < l.length then (⟨s.pos + 1, s.e, s.bad⟩, rd l s.pos) else (s.fail 10 s.pos, 0)
theorem Byte_on (w : World) (p : Nat) (A : Option Addr) (c : Nat) (l : List Int) (s : St) (h : On w p A c l s) (he : s.e = 0) :
    Calls Try.prog 38 #[.pointer (some ⟨p, 0, none⟩)] w fun e w' => e = .returned (.int .u8 (byteF l s).2) ∧ On w' p A c l (byteF l s).1 ∧ Fr w w' p := by
  by_cases hp : s.pos < l.length
  · have e1 : byteF l s = (⟨s.pos + 1, s.e, s.bad⟩, rd l s.pos) := if_pos hp
    rw [e1]
    have I := A1.mk (item_byte_ok w p A c l s (.int .u8 (rd l s.pos)) (s.pos + 1) h he (by have := h.lo; omega) (by omega)
      (fun w1 hb => byte1_ok w1 A c l s.pos (h.bytes.below hb) h.lo hp h.big))
    clear h he hp e1
    go_enter Try.func38, Try.ntmps38
    go_wp2_with fail
    refine I.out.mono ?_
    rintro e w1 ⟨rfl, h1, f1⟩
    have X := A1.mk (And.intro h1 f1)
    clear h1 f1
    go_wp2
    go_ret
    exact ⟨rfl, X.out⟩
  · have e1 : byteF l s = (s.fail 10 s.pos, 0) := if_neg hp
    rw [e1]
    have I := A1.mk (item_byte_bad w p A c l s (.int .u8 0) 0 10 h he (by decide) (fun w1 _ => byte1_end w1 A c l s.pos (by omega)))
    clear h he hp e1
    go_enter Try.func38, Try.ntmps38
    go_wp2_with fail
    refine I.out.mono ?_
    rintro e w1 ⟨rfl, h1, f1⟩
    have X := A1.mk (And.intro h1 f1)
    clear h1 f1
    go_wp2
    go_ret
    exact ⟨rfl, X.out⟩
/-- S's state and value. -/
def sF (l : List Int) (bits : Int) (s : St) : St × Int := if (readS l s.pos bits).2.2 = 0 then (⟨(readS l s.pos bits).2.1, s.e, s.bad⟩, (readS l s.pos bits).1) else (s.fail (readS l s.pos bits).2.2 s.pos, 0)
theorem S_on (w : World) (p : Nat) (A : Option Addr) (c : Nat) (l : List Int) (s : St) (bits : Int) (h : On w p A c l s) (he : s.e = 0) :
    Calls Try.prog 40 #[.pointer (some ⟨p, 0, none⟩), .int .i64 bits] w fun e w' => e = .returned (.int .i64 (sF l bits s).2) ∧ On w' p A c l (sF l bits s).1 ∧ Fr w w' p := by
  have F0 := A1.mk ((Fr.refl w p).alloc (.cells #[.int .i64 bits] 3))
  have h1 := h.alloc (.cells #[.int .i64 bits] 3)
  have hc0 : (w.alloc (.cells #[.int .i64 bits] 3)).cell? ⟨w.heap.size, 0, none⟩ = some (.int .i64 bits) := by simp
  have G : ∀ w1, Below (w.alloc (.cells #[.int .i64 bits] 3)).heap.size (w.alloc (.cells #[.int .i64 bits] 3)) w1 → Calls Try.prog 79 #[.slice A l.length c, .int .i64 s.pos, .pointer (some ⟨w.heap.size, 0, none⟩)] w1 fun e w2 => e = .returned (.tuple #[.int .i64 (readS l s.pos bits).1, .int .i64 (readS l s.pos bits).2.1, .int .i64 (readS l s.pos bits).2.2]) ∧ Below w1.heap.size w1 w2 :=
    fun w1 hb => s1_val w1 A c l s.pos bits w.heap.size (h1.bytes.below hb) ((hb.cell (p := ⟨w.heap.size, 0, none⟩) (by simp)).trans hc0) h.big h.u8
  have hpl := readS_place l s.pos bits
  by_cases hp : (readS l s.pos bits).2.2 = 0
  · have e1 : sF l bits s = (⟨(readS l s.pos bits).2.1, s.e, s.bad⟩, (readS l s.pos bits).1) := if_pos hp
    rw [e1]
    rw [hp] at G
    have I := A1.mk (item_i64_ok _ p A c l s w.heap.size (.int .i64 (readS l s.pos bits).1) (readS l s.pos bits).2.1 h1 he hpl.1 hpl.2 G)
    clear h he hp e1 h1 hc0 G hpl
    go_enter Try.func40, Try.ntmps40
    go_wp2_with fail
    refine I.out.mono ?_
    rintro e w1 ⟨rfl, h1, f1⟩
    have X := A1.mk (And.intro h1 (F0.out.trans f1))
    clear h1 f1
    go_wp2
    go_ret
    exact ⟨rfl, X.out⟩
  · have e1 : sF l bits s = (s.fail (readS l s.pos bits).2.2 s.pos, 0) := if_neg hp
    rw [e1]
    have I := A1.mk (item_i64_bad _ p A c l s w.heap.size (.int .i64 (readS l s.pos bits).1) (readS l s.pos bits).2.1 (readS l s.pos bits).2.2 h1 he hp G)
    clear h he hp e1 h1 hc0 G hpl
    go_enter Try.func40, Try.ntmps40
    go_wp2_with fail
    refine I.out.mono ?_
    rintro e w1 ⟨rfl, h1, f1⟩
    have X := A1.mk (And.intro h1 (F0.out.trans f1))
    clear h1 f1
    go_wp2
    go_ret
    exact ⟨rfl, X.out⟩
/-- Count's state and value. -/
def countF (l : List Int) (s : St) : St × Int := if (cntF l s.pos).2.2 = 0 then (⟨(cntF l s.pos).2.1, s.e, s.bad⟩, (cntF l s.pos).1) else (s.fail (cntF l s.pos).2.2 s.pos, 0)
theorem cntF_place (l : List Int) (pos : Int) : 0 ≤ (cntF l pos).2.1 ∧ (cntF l pos).2.1 ≤ l.length := by
  have h := readU_place l pos 32
  unfold cntF
  split
  · simp
  · split
    · simp
    · exact h
theorem Count_on (w : World) (p : Nat) (A : Option Addr) (c : Nat) (l : List Int) (s : St) (h : On w p A c l s) (he : s.e = 0) :
    Calls Try.prog 42 #[.pointer (some ⟨p, 0, none⟩)] w fun e w' => e = .returned (.int .i64 (countF l s).2) ∧ On w' p A c l (countF l s).1 ∧ Fr w w' p := by
  have hpl := cntF_place l s.pos
  by_cases hp : (cntF l s.pos).2.2 = 0
  · have e1 : countF l s = (⟨(cntF l s.pos).2.1, s.e, s.bad⟩, (cntF l s.pos).1) := if_pos hp
    rw [e1]
    have I := A1.mk (item_int_ok w p A c l s (.int .i64 (cntF l s.pos).1) (cntF l s.pos).2.1 h he hpl.1 hpl.2 (fun w1 hb => by
      obtain ⟨hx, hcall⟩ := count1_val w1 A c l s.pos (h.bytes.below hb) h.big h.u8
      obtain ⟨e1, e2⟩ := hx hp
      rw [hp, e1, e2] at hcall
      exact hcall))
    clear h he hp e1 hpl
    go_enter Try.func42, Try.ntmps42
    go_wp2_with fail
    refine I.out.mono ?_
    rintro e w1 ⟨rfl, h1, f1⟩
    have X := A1.mk (And.intro h1 f1)
    clear h1 f1
    go_wp2
    go_ret
    exact ⟨rfl, X.out⟩
  · have e1 : countF l s = (s.fail (cntF l s.pos).2.2 s.pos, 0) := if_neg hp
    rw [e1]
    have I := A1.mk (item_int_bad w p A c l s (.int .i64 (wrap64 (readU l s.pos 32).1)) (readU l s.pos 32).2.1 (cntF l s.pos).2.2 h he hp (fun w1 hb => (count1_val w1 A c l s.pos (h.bytes.below hb) h.big h.u8).2))
    clear h he hp e1 hpl
    go_enter Try.func42, Try.ntmps42
    go_wp2_with fail
    refine I.out.mono ?_
    rintro e w1 ⟨rfl, h1, f1⟩
    have X := A1.mk (And.intro h1 f1)
    clear h1 f1
    go_wp2
    go_ret
    exact ⟨rfl, X.out⟩
/-- peek's state and value. -/
def peekF (l : List Int) (s : St) : St × Int × Bool := if s.pos < l.length then (s, rd l s.pos, true) else (s.fail 10 s.pos, 0, false)
theorem peek_on (w : World) (p : Nat) (A : Option Addr) (c : Nat) (l : List Int) (s : St) (h : On w p A c l s) (he : s.e = 0) :
    Calls Try.prog 86 #[.pointer (some ⟨p, 0, none⟩)] w fun e w' => e = .returned (.tuple #[.int .u8 (peekF l s).2.1, .bool (peekF l s).2.2]) ∧ On w' p A c l (peekF l s).1 ∧ Fr w w' p := by
  have T := A1.mk (there_on w p A c l s h he)
  have H := A1.mk h
  have c0 := h.c0
  have c3 := h.c3
  have h0 := h.lo
  have hbig : (l.length : Int) ≤ 1000000 := by have := h.big; omega
  by_cases hp : s.pos < l.length
  · obtain ⟨ad, rfl, hcell⟩ := h.at_ hp
    have e1 : peekF l s = (s, rd l s.pos, true) := if_pos hp
    rw [e1]
    have hq : ¬ (l.length : Int) ≤ s.pos := by omega
    clear h he e1
    go_enter Try.func86, Try.ntmps86
    go_wp2_with fail
    refine T.out.mono ?_
    rintro e w1 ⟨rfl, rfl⟩
    go_wp2_with fail
    go_region_held3 (fun w' => w'.cell? ⟨p, 0, none⟩ = some (.int .i64 s.pos) ∧ w'.cell? ⟨p, 3, none⟩ = some (.slice (some ad) l.length c)) (go_keep) (fail)
    go_wp2
    go_region_held3 (fun w' => w'.cell? ⟨p, 0, none⟩ = some (.int .i64 s.pos) ∧ w'.cell? ⟨p, 3, none⟩ = some (.slice (some ad) l.length c) ∧ w'.cell? (ad.add s.pos.toNat) = some (.int .u8 (rd l s.pos))) (go_keep) (fail)
    go_wp2
    go_ret2
    exact ⟨rfl, H.out.drew.drew, (Fr.refl _ _).drew.drew⟩
  · have e1 : peekF l s = (s.fail 10 s.pos, 0, false) := if_neg hp
    rw [e1]
    have hq : (l.length : Int) ≤ s.pos := by omega
    clear h he e1 hp
    go_enter Try.func86, Try.ntmps86
    go_wp2_with fail
    refine T.out.mono ?_
    rintro e w1 ⟨rfl, rfl⟩
    go_wp2_with fail
    go_region_held3 (fun w' => w'.cell? ⟨p, 0, none⟩ = some (.int .i64 s.pos) ∧ w'.cell? ⟨p, 3, none⟩ = some (.slice A l.length c)) (go_keep) (fail)
    go_wp2
    go_region_held3 (fun w' => w'.cell? ⟨p, 0, none⟩ = some (.int .i64 s.pos)) (go_keep) ((go_at_call 73; refine (fail_on _ p A c l s ?_ 10 s.pos).mono ?_; (exact H.out.drew.drew); rintro e w4 ⟨rfl, h4, fr⟩; have H4 := A1.mk h4; have F4 := A1.mk fr; have r4 := h4.c0; rw [St.fail_pos] at r4; clear h4 fr))
    go_wp2
    go_ret2
    exact ⟨rfl, H4.out, (Fr.refl _ _).drew.drew.trans F4.out⟩
end Go.Proofs.Ythghmbfbjnedfaa.Tb
