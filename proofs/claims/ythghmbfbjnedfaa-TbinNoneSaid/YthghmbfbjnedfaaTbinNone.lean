/- Layer 6: the statement TbinNone. -/
import Derived.Test.YthghmbfbjnedfaaTbK
import Derived.Test.YthghmbfbjnedfaaTbNone
namespace Go.Proofs.Ythghmbfbjnedfaa.Tb
open Go Go.RowKit
theorem TbinNone_law (n er : Int) (w : World) : Calls Try.prog 15 #[.int .i64 n, .int .i64 er] w fun e w' => e = .returned (.bool true) ∧ Below w.heap.size w w' :=
  TbinNone_walk n er w known_calls
end Go.Proofs.Ythghmbfbjnedfaa.Tb
