/- Layer 6: a reader in memory: what its cells hold, what may turn beside it. -/
import Derived.Test.YthghmbfbjnedfaaLebRead
import Derived.Deep.RegionHeld3
import Derived.Deep.WholeRow
namespace Go.Proofs.Ythghmbfbjnedfaa.Tb
open Go Go.RowKit Go.Proofs.YthghmbfbjnedfaaW.PrintWords
/-- A reader's state: its place, its error, the error's place. -/
structure St where
  pos : Int
  e : Int
  bad : Int
structure A1 (p : Prop) : Prop where
  out : p
def rcells (s : St) (A : Option Addr) (n c : Nat) : Array Value := #[.int .i64 s.pos, .int .i64 s.e, .int .i64 s.bad, .slice A n c, .bool true]
/-- A reader that was made, at block p, over the bytes l. -/
structure On (w : World) (p : Nat) (A : Option Addr) (c : Nat) (l : List Int) (s : St) : Prop where
  row : w.heap[p]? = some (.cells (rcells s A l.length c) 54 (0, 0))
  bytes : ReadsInt w .u8 A l.length l
  apart : ∀ ad, A = some ad → 0 < l.length → ad.block ≠ p
  cap : l.length ≤ c
  lo : 0 ≤ s.pos
  hi : s.pos ≤ l.length
  u8 : ∀ x ∈ l, 0 ≤ x ∧ x ≤ 255
  big : l.length ≤ 1000000
/-- Nothing but the block p has turned; blocks may be new. -/
abbrev Fr (w w' : World) (p : Nat) : Prop := w.grownBy w' (some p)
section
variable {w w1 w2 : World} {p : Nat} {A : Option Addr} {c : Nat} {l : List Int} {s : St}
theorem Fr.refl (w : World) (p : Nat) : Fr w w p := ⟨rfl, rfl, rfl, Nat.le_refl _, fun _ _ _ => rfl⟩
theorem Fr.trans (h : Fr w w1 p) (k : Fr w1 w2 p) : Fr w w2 p :=
  ⟨k.os.trans h.os, k.tape.trans h.tape, k.output.trans h.output, Nat.le_trans h.size k.size, fun i hi hne => (k.block i (Nat.lt_of_lt_of_le hi h.size) hne).trans (h.block i hi hne)⟩
theorem Fr.below (h : Below w.heap.size w w1) : Fr w w1 p := ⟨h.os, h.tape, h.output, h.size, fun i hi _ => h.block i hi⟩
theorem Fr.step (h : Fr w w1 p) (k : Below w1.heap.size w1 w2) : Fr w w2 p := h.trans (Fr.below k)
theorem Fr.set (h : Fr w w1 p) (j : Nat) (v : Value) : Fr w (w1.setCell ⟨p, j, none⟩ v) p :=
  h.trans ⟨rfl, rfl, rfl, by simp [World.setCell], fun i _ hne => Below.heap_setCell w1 ⟨p, j, none⟩ v i (fun e => hne (by rw [e]))⟩
theorem Fr.alloc (h : Fr w w1 p) (o : Obj) : Fr w (w1.alloc o) p := h.step (below_alloc (Below.refl _ _) o)
theorem Fr.drew (h : Fr w w1 p) : Fr w w1.drew p := h.step (Below.refl _ _).drew
theorem Fr.base (h : Fr w w1 p) {B : Nat} (hb : B ≤ w.heap.size) (hp : B ≤ p) : Below B w w1 := ⟨h.os, h.tape, h.output, h.size, fun k hk => h.block k (by omega) (fun e => by have := Option.some.inj e; omega)⟩
theorem Fr.cell (h : Fr w w1 p) {a : Addr} {v : Value} (hc : w.cell? a = some v) (hne : a.block ≠ p) : w1.cell? a = some v :=
  World.grownBy.cell h hc (fun e => hne (Option.some.inj e))
theorem On.lt (h : On w p A c l s) : p < w.heap.size := (Array.getElem?_eq_some_iff.1 h.row).1
theorem On.c0 (h : On w p A c l s) : w.cell? ⟨p, 0, none⟩ = some (.int .i64 s.pos) := by rw [cell_of_row w p 0 _ _ (0, 0) h.row]; rfl
theorem On.c1 (h : On w p A c l s) : w.cell? ⟨p, 1, none⟩ = some (.int .i64 s.e) := by rw [cell_of_row w p 1 _ _ (0, 0) h.row]; rfl
theorem On.c2 (h : On w p A c l s) : w.cell? ⟨p, 2, none⟩ = some (.int .i64 s.bad) := by rw [cell_of_row w p 2 _ _ (0, 0) h.row]; rfl
theorem On.c3 (h : On w p A c l s) : w.cell? ⟨p, 3, none⟩ = some (.slice A l.length c) := by rw [cell_of_row w p 3 _ _ (0, 0) h.row]; rfl
theorem On.c4 (h : On w p A c l s) : w.cell? ⟨p, 4, none⟩ = some (.bool true) := by rw [cell_of_row w p 4 _ _ (0, 0) h.row]; rfl
theorem On.f (h : On w p A c l s) (j : Nat) : w.frozen? ⟨p, j, none⟩ = false := frozen_of_row w p j _ _ h.row
/-- Nothing that lay has turned. -/
theorem On.below (h : On w p A c l s) (hb : Below w.heap.size w w1) : On w1 p A c l s :=
  ⟨(hb.block p h.lt).trans h.row, h.bytes.below hb, h.apart, h.cap, h.lo, h.hi, h.u8, h.big⟩
theorem On.alloc (h : On w p A c l s) (o : Obj) : On (w.alloc o) p A c l s := h.below (below_alloc (Below.refl _ _) o)
theorem On.drew (h : On w p A c l s) : On w.drew p A c l s := h.below (Below.refl _ _).drew
theorem row_set {cs : Array Value} {t : TypeId} (h : w.heap[p]? = some (.cells cs t (0, 0))) (j : Nat) (v : Value) : (w.setCell ⟨p, j, none⟩ v).heap[p]? = some (.cells (cs.setIfInBounds j v) t (0, 0)) := by
  rw [setCell_eq_setRow w p j cs t (0, 0) v h]
  exact setRow_heap w p cs _ t (0, 0) h
theorem bytes_set (h : ReadsInt w .u8 A l.length l) (ha : ∀ ad, A = some ad → 0 < l.length → ad.block ≠ p) (j : Nat) (v : Value) : ReadsInt (w.setCell ⟨p, j, none⟩ v) .u8 A l.length l :=
  h.keep (KeepBut.set_ (KeepBut.refl w p none) j v) ha
theorem On.set0 (h : On w p A c l s) (v : Int) (h0 : 0 ≤ v) (h1 : v ≤ l.length) : On (w.setCell ⟨p, 0, none⟩ (.int .i64 v)) p A c l ⟨v, s.e, s.bad⟩ :=
  ⟨row_set h.row 0 _, bytes_set h.bytes h.apart 0 _, h.apart, h.cap, h0, h1, h.u8, h.big⟩
theorem On.set1 (h : On w p A c l s) (v : Int) : On (w.setCell ⟨p, 1, none⟩ (.int .i64 v)) p A c l ⟨s.pos, v, s.bad⟩ :=
  ⟨row_set h.row 1 _, bytes_set h.bytes h.apart 1 _, h.apart, h.cap, h.lo, h.hi, h.u8, h.big⟩
theorem On.set2 (h : On w p A c l s) (v : Int) : On (w.setCell ⟨p, 2, none⟩ (.int .i64 v)) p A c l ⟨s.pos, s.e, v⟩ :=
  ⟨row_set h.row 2 _, bytes_set h.bytes h.apart 2 _, h.apart, h.cap, h.lo, h.hi, h.u8, h.big⟩
end
section
variable {P : Program} {ops : Array Oper} {rest : List Oper} {o : Oper} {a : Act} {Q : Exit → Act → World → Prop} {W : World}
theorem gateS {ty : TypeId} {x y : Operand} (_ho : o.op = .store ty x y) (h : wpList P ops Q (o :: rest) a W) : wpList P ops Q (o :: rest) a W := h
theorem gateB {b : Builtin} {xs : Array Operand} {ts : Array TypeId} (_ho : o.op = .call { callee := .builtin b, args := xs, argTypes := ts }) (h : wpList P ops Q (o :: rest) a W) : wpList P ops Q (o :: rest) a W := h
end
/-- A reader that is not there, or was not made. -/
inductive Raw (w : World) : Value → Prop
  | none : Raw w (.pointer none)
  | raw (p : Nat) (h : w.heap[p]? = some (.cells #[.int .i64 0, .int .i64 0, .int .i64 0, .slice none 0 0, .bool false] 54 (0, 0))) : Raw w (.pointer (some ⟨p, 0, none⟩))
theorem Raw.below {w w1 : World} {v : Value} (h : Raw w v) (hb : Below w.heap.size w w1) : Raw w1 v := by
  cases h with
  | none => exact .none
  | raw p h => exact .raw p ((hb.block p (Array.getElem?_eq_some_iff.1 h).1).trans h)
/-- A reader that may not read: that is not there, was not made, or has met an error. -/
inductive Off (w : World) : Value → Prop
  | of {v : Value} (h : Raw w v) : Off w v
  | err (p : Nat) (A : Option Addr) (c : Nat) (l : List Int) (s : St) (h : On w p A c l s) (he : s.e ≠ 0) : Off w (.pointer (some ⟨p, 0, none⟩))
theorem Off.below {w w1 : World} {v : Value} (h : Off w v) (hb : Below w.heap.size w w1) : Off w1 v := by
  cases h with
  | of h => exact .of (h.below hb)
  | err p A c l s h he => exact .err p A c l s (h.below hb) he
section
variable {w w1 : World} {p b : Nat} {A : Option Addr} {c : Nat} {l : List Int} {s : St}
/-- A block of the call's own stays beside the reader's. -/
theorem Fr.own {o : Option Obj} (h : Fr w w1 p) (hb : b < w.heap.size) (hne : b ≠ p) (hz : w.heap[b]? = o) : w1.heap[b]? = o :=
  (h.block b hb (fun e => hne (Option.some.inj e))).trans hz
theorem Fr.setRow (h : Fr w w1 p) (hb : w.heap.size ≤ b) (cs : Array Value) : Fr w (w1.setRow b cs) p :=
  ⟨h.os, h.tape, h.output, by rw [size_setRow]; exact h.size, fun i hi hne => (setRow_other w1 b i cs (by omega)).trans (h.block i hi hne)⟩
theorem On.away (h : On w p A c l s) : ∀ ad, A = some ad → 0 < l.length → ad.block < w.heap.size := by
  intro ad e h0
  obtain ⟨ad2, e3, hc⟩ := h.bytes.2.2 h0
  obtain rfl := Option.some.inj (e.symm.trans e3)
  have h5 := World.block_lt_of_cell? w _ (hc 0 h0)
  have h6 : (ad.add 0).block = ad.block := by unfold Addr.add; rfl
  omega
theorem On.setRow (h : On w p A c l s) (hb : b ≠ p) (ha : ∀ ad, A = some ad → 0 < l.length → ad.block ≠ b) (cs : Array Value) : On (w.setRow b cs) p A c l s := by
  refine ⟨(setRow_other w b p cs (fun e => hb e.symm)).trans h.row, ?_, h.apart, h.cap, h.lo, h.hi, h.u8, h.big⟩
  refine h.bytes.keep (g := b) ⟨by rw [size_setRow]; exact Nat.le_refl _, fun i _ hi _ => setRow_other w b i cs hi⟩ ha
end
/-- Meets an error. -/
def St.fail (s : St) (e pos : Int) : St := if s.e = 0 ∧ e ≠ 0 then ⟨s.pos, e, pos⟩ else s
set_option maxHeartbeats 2000000
theorem there_on (w : World) (p : Nat) (A : Option Addr) (c : Nat) (l : List Int) (s : St) (h : On w p A c l s) (he : s.e = 0) :
    Calls Try.prog 88 #[.pointer (some ⟨p, 0, none⟩)] w fun e w' => e = .returned (.bool true) ∧ w' = w := by
  have c1 := h.c1
  have c4 := h.c4
  rw [he] at c1
  clear h he
  go_enter Try.func88, Try.ntmps88
  go_wp2
  go_ret
  exact ⟨rfl, rfl⟩
theorem there_err (w : World) (p : Nat) (A : Option Addr) (c : Nat) (l : List Int) (s : St) (h : On w p A c l s) (he : s.e ≠ 0) :
    Calls Try.prog 88 #[.pointer (some ⟨p, 0, none⟩)] w fun e w' => e = .returned (.bool false) ∧ w' = w := by
  have c1 := h.c1
  have c4 := h.c4
  have q : (s.e == 0) = false := beq_eq_false_iff_ne.2 he
  clear h he
  go_enter Try.func88, Try.ntmps88
  go_wp2
  go_ret
  exact ⟨rfl, rfl⟩
theorem there_raw (w : World) (v : Value) (h : Raw w v) : Calls Try.prog 88 #[v] w fun e w' => e = .returned (.bool false) ∧ w' = w := by
  cases h with
  | none =>
    go_enter Try.func88, Try.ntmps88
    go_wp2
    go_ret
    exact ⟨rfl, rfl⟩
  | raw p h =>
    have c4 : w.cell? ⟨p, 4, none⟩ = some (.bool false) := by rw [cell_of_row w p 4 _ _ (0, 0) h]; rfl
    clear h
    go_enter Try.func88, Try.ntmps88
    go_wp2
    go_ret
    exact ⟨rfl, rfl⟩
theorem there_off (w : World) (v : Value) (h : Off w v) : Calls Try.prog 88 #[v] w fun e w' => e = .returned (.bool false) ∧ w' = w := by
  cases h with
  | of h => exact there_raw w v h
  | err p A c l s h he => exact there_err w p A c l s h he
end Go.Proofs.Ythghmbfbjnedfaa.Tb
