/- What leb.read, leb.U, leb.S compute, as plain functions: no program in it. -/
import Derived.Test.YthghmbfbjnedfaaWWords
import Derived.WalkKit
import Derived.Laws.BitsLemmas
namespace Go.Proofs.Ythghmbfbjnedfaa.Lb
open Go Go.RowKit Go.Proofs.YthghmbfbjnedfaaW.PrintWords
def beyond (x room : Int) : Int := Go.bits BinOp.and IntKind.u8 x 127 / 2 ^ room.toNat
def topB (x room : Int) : Bool := Go.bits BinOp.and IntKind.u8 (x / 2 ^ (room.toNat - 1)) 1 == 1
def bad (x room : Int) (sg : Bool) : Bool :=
  if beyond x room = 0 then sg && topB x room else !(sg && topB x room && (beyond x room == 127 / 2 ^ room.toNat))
def nxt (n x p : Int) : Int := Go.bits BinOp.or IntKind.u64 n (IntKind.u64.wrap (IntKind.u64.wrap (Go.bits BinOp.and IntKind.u8 x 127) * 2 ^ p.toNat))
def ext (n p : Int) : Int := Go.bits BinOp.or IntKind.u64 n (IntKind.u64.wrap (18446744073709551615 * 2 ^ p.toNat))
def rdL (l : List Int) (bits : Int) (sg : Bool) : Nat → Int → Int → Int → Int × Int × Int
  | 0, _, _, _ => (0, 0, 0)
  | k + 1, i, n, p =>
    if i < l.length then
      if bits - p < 7 ∧ bad (rd l i) (bits - p) sg = true then (0, 0, 11)
      else if rd l i < 128 then
        if sg = true ∧ p + 7 < 64 ∧ (Go.bits BinOp.and IntKind.u8 (rd l i) 64 != 0) = true then (ext (nxt n (rd l i) p) (p + 7), i + 1, 0)
        else (nxt n (rd l i) p, i + 1, 0)
      else if bits ≤ p + 7 then (0, 0, 11)
      else rdL l bits sg k (i + 1) (nxt n (rd l i) p) (p + 7)
    else (0, 0, 10)
/-- leb.read: the number's 64 bits, the place behind it, the error. -/
def readF (l : List Int) (at_ bits : Int) (sg : Bool) : Int × Int × Int :=
  if 1 ≤ bits ∧ bits ≤ 64 ∧ 0 ≤ at_ ∧ at_ ≤ l.length then rdL l bits sg 10 at_ 0 0 else (0, 0, 2)
def readU (l : List Int) (at_ bits : Int) : Int × Int × Int := readF l at_ bits false
def readS (l : List Int) (at_ bits : Int) : Int × Int × Int := (wrap64 (readF l at_ bits true).1, (readF l at_ bits true).2)
theorem rd_mem (l : List Int) (i : Int) (h0 : 0 ≤ i) (h : i < l.length) : rd l i ∈ l := by
  unfold rd; rw [List.getD_eq_getElem?_getD, List.getElem?_eq_getElem (by omega)]; simp
end Go.Proofs.Ythghmbfbjnedfaa.Lb
