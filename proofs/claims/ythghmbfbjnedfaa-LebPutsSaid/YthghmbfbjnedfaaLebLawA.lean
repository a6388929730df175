/- Words that the laws of layer 1 share: bytes that a call made, read and appended. -/
import Derived.Test.YthghmbfbjnedfaaLebKnown
import Derived.Test.YthghmbfbjnedfaaLebPlainS
namespace Go.Proofs.Ythghmbfbjnedfaa.Leb
open Go.RowKit Go.Proofs.YthghmbfbjnedfaaW.PrintWords Go.Proofs.Ythghmbfbjnedfaa.Base Go.Proofs.Ythghmbfbjnedfaa.BitsA Go.Proofs.Ythghmbfbjnedfaa.Lb
/-- Bytes that a call made can be read. -/
theorem bytes_open {w : World} {base : Nat} {ok : Nat → Prop} {v : Value} {xs : List Int} (h : Kd.R (Kd.int .u8) 5 w base ok v xs) : ∃ A c, v = .slice A xs.length c ∧ xs.length ≤ c ∧ ReadsInt w .u8 A xs.length xs := by
  obtain ⟨A, c, e, hc, _⟩ := Kd.R_reads h
  obtain ⟨A', c', e', hr⟩ := own_reads (k := .u8) (xs := xs) (Kd.own_of_R h)
  rw [e] at e'
  injection e' with e1 e2 e3
  subst e1
  exact ⟨A, c, e, hc, hr⟩
theorem own_empty (W : World) : (W.alloc (.cells #[] 5)).ownsRow W.heap.size 5 1 (.slice (some ⟨W.heap.size, 0, none⟩) 0 0) ([] : List Int).length (nums .u8 []) :=
  own_lit W W.heap.size 5 .u8 [] (Nat.le_refl _) (by decide)
theorem U_val (A0 : Option Addr) (c0 n : Nat) (l : List Int) (at_ bits : Int) (w : World) (r1 r2 r3 : Int) (hn : l.length = n) (hl : n ≤ 9223372036854775807) (hr0 : ReadsInt w .u8 A0 n l) (hby : ∀ x ∈ l, 0 ≤ x ∧ x ≤ 255) (hv : readU l at_ bits = (r1, r2, r3)) :
    Calls Try.prog 20 #[.slice A0 n c0, .int .i64 at_, .int .i64 bits] w fun e w' => e = .returned (.tuple #[.int .u64 r1, .int .i64 r2, .int .i64 r3]) ∧ w = w' := by
  subst hn
  have := U_calls A0 c0 l at_ bits w hl hr0 hby
  rw [hv] at this
  exact this
theorem S_val (A0 : Option Addr) (c0 n : Nat) (l : List Int) (at_ bits : Int) (w : World) (r1 r2 r3 : Int) (hn : l.length = n) (hl : n ≤ 9223372036854775807) (hr0 : ReadsInt w .u8 A0 n l) (hby : ∀ x ∈ l, 0 ≤ x ∧ x ≤ 255) (hv : readS l at_ bits = (r1, r2, r3)) :
    Calls Try.prog 22 #[.slice A0 n c0, .int .i64 at_, .int .i64 bits] w fun e w' => e = .returned (.tuple #[.int .i64 r1, .int .i64 r2, .int .i64 r3]) ∧ w = w' := by
  subst hn
  have := S_calls A0 c0 l at_ bits w hl hr0 hby
  rw [hv] at this
  exact this
theorem bytes_app {l m : List Int} (hl : ∀ x ∈ l, 0 ≤ x ∧ x ≤ 255) (hm : ∀ x ∈ m, 0 ≤ x ∧ x ≤ 255) : ∀ x ∈ l ++ m, 0 ≤ x ∧ x ≤ 255 := fun x h => by
  rcases List.mem_append.1 h with h | h
  · exact hl x h
  · exact hm x h
theorem U_bytes (n : Int) : ∀ x ∈ U n, 0 ≤ x ∧ x ≤ 255 := putU_bytes 10 n
theorem S_bytes (n : Int) : ∀ x ∈ S n, 0 ≤ x ∧ x ≤ 255 := putS_bytes 10 n
theorem U_length (n : Int) : (U n).length ≤ 10 := putU_length 10 n
theorem S_length (n : Int) : (S n).length ≤ 10 := putS_length 10 n
theorem wf_u64 {n : Int} (h : (Lit.int .u64 n).wf = true) : 0 ≤ n ∧ n ≤ 18446744073709551615 := by
  simpa [Lit.wf, IntKind.min, IntKind.max, IntKind.bits, IntKind.signed] using h
theorem wf_i64' {n : Int} (h : (Lit.int .i64 n).wf = true) : -9223372036854775808 ≤ n ∧ n ≤ 9223372036854775807 := by
  simpa [Lit.wf, IntKind.min, IntKind.max, IntKind.bits, IntKind.signed] using h
theorem wf_u8 {n : Int} (h : (Lit.int .u8 n).wf = true) : 0 ≤ n ∧ n ≤ 255 := by
  simpa [Lit.wf, IntKind.min, IntKind.max, IntKind.bits, IntKind.signed] using h
end Go.Proofs.Ythghmbfbjnedfaa.Leb
