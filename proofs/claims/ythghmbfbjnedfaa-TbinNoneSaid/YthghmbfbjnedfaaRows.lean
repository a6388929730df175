/-
  No cell of these rows narrows 'for every input' (looked for: loops, veiled, ifaces, maps, wideKeys, modest, calm, conditions, laid).
  DERIVED. THE GIVEN ROWS OF THIS SEAT. 16 by the template 'for every input the law returns true; each argument reads behind the call as it read before'; 0 by the template 'total and deterministic' (their statements: YthghmbfbjnedfaaTotals.lean).
  GIVEN WITH THE SEED: the statements are not yours to turn. If you find one false, say at which input.
  Laid BY PROGRAM, IN A SANDBOX (cutbox-rows.mjs): the forced cells as the released guide's own fill.sh prints them over the translation d6739b3e24a23425… (all of the seat's roots in one cut). By AI agents, Wed Nov 11 2026. No macro, syntax, notation, axiom, sorry.
-/
import Derived.Test.YthghmbfbjnedfaaChecked
import GoSem.Claim
import GoSem.ClaimJoined
import GoSem.ClaimMapViews
import Derived.JoinedTies
import Derived.KernelRfl
namespace Go.Proofs.Ythghmbfbjnedfaa
/- THE CELL 'sum', in the pinned program and in every row, IS THE sha256 OF THE DUMP (.gsa) THAT YthghmbfbjnedfaaProg.lean LOADS. Nothing in Lean hashes anything: it is a label: what it is worth is what the hold of that sum in a sandbox is worth. -/
noncomputable def Try.pinned : Pinned := { name := "ythghmbfbjnedfaa", sum := "d6739b3e24a23425fa0fe057882d6eb8f7875e191d609c5cdfa94592ce643900", checked := Try.checked }
namespace Rows
def none {H : Type} : Left H := { results := [], args := [] }

/-- 'geodelaw01.LebReads': WHATEVER THE INPUT: true; the input reads as it did. -/
def lebReadsSpec : ChangeSpec := { name := "lebReads", fn := fun _ => fun
  | [d1, d2, d3] => { results := [.lit (.bool true)], args := [d1, d2, d3] }
  | _ => none }
def lebReadsRow : OpenClaim := { program := "ythghmbfbjnedfaa", sum := "d6739b3e24a23425fa0fe057882d6eb8f7875e191d609c5cdfa94592ce643900", func := "geode/geodelaw01.LebReads", spec := "lebReads", unfollowed := true, recurses := true, apart := false }
def LebReadsSaid : Prop := lebReadsRow.holds Try.pinned (OpenSpec.ofChange lebReadsSpec)

/-- ITS FALSE NEIGHBOUR: 'it returns false'. Refute it at one input. -/
def lebReadsWrong : ChangeSpec := { name := "lebReads", fn := fun _ => fun
  | [d1, d2, d3] => { results := [.lit (.bool false)], args := [d1, d2, d3] }
  | _ => none }
def LebReadsWrongFalsely : Prop := lebReadsRow.holds Try.pinned (OpenSpec.ofChange lebReadsWrong)

/-- 'geodelaw01.LebPuts': WHATEVER THE INPUT: true; the input reads as it did. -/
def lebPutsSpec : ChangeSpec := { name := "lebPuts", fn := fun _ => fun
  | [d1, d2] => { results := [.lit (.bool true)], args := [d1, d2] }
  | _ => none }
def lebPutsRow : OpenClaim := { program := "ythghmbfbjnedfaa", sum := "d6739b3e24a23425fa0fe057882d6eb8f7875e191d609c5cdfa94592ce643900", func := "geode/geodelaw01.LebPuts", spec := "lebPuts", unfollowed := true, recurses := true, apart := false }
def LebPutsSaid : Prop := lebPutsRow.holds Try.pinned (OpenSpec.ofChange lebPutsSpec)

/-- ITS FALSE NEIGHBOUR: 'it returns false'. Refute it at one input. -/
def lebPutsWrong : ChangeSpec := { name := "lebPuts", fn := fun _ => fun
  | [d1, d2] => { results := [.lit (.bool false)], args := [d1, d2] }
  | _ => none }
def LebPutsWrongFalsely : Prop := lebPutsRow.holds Try.pinned (OpenSpec.ofChange lebPutsWrong)

/-- 'geodelaw01.LebBack': WHATEVER THE INPUT: true; the input reads as it did. -/
def lebBackSpec : ChangeSpec := { name := "lebBack", fn := fun _ => fun
  | [d1, d2, d3, d4, d5] => { results := [.lit (.bool true)], args := [d1, d2, d3, d4, d5] }
  | _ => none }
def lebBackRow : OpenClaim := { program := "ythghmbfbjnedfaa", sum := "d6739b3e24a23425fa0fe057882d6eb8f7875e191d609c5cdfa94592ce643900", func := "geode/geodelaw01.LebBack", spec := "lebBack", unfollowed := true, recurses := true, apart := false }
def LebBackSaid : Prop := lebBackRow.holds Try.pinned (OpenSpec.ofChange lebBackSpec)

/-- ITS FALSE NEIGHBOUR: 'it returns false'. Refute it at one input. -/
def lebBackWrong : ChangeSpec := { name := "lebBack", fn := fun _ => fun
  | [d1, d2, d3, d4, d5] => { results := [.lit (.bool false)], args := [d1, d2, d3, d4, d5] }
  | _ => none }
def LebBackWrongFalsely : Prop := lebBackRow.holds Try.pinned (OpenSpec.ofChange lebBackWrong)

/-- 'geodelaw01.LebShortest': WHATEVER THE INPUT: true; the input reads as it did. -/
def lebShortestSpec : ChangeSpec := { name := "lebShortest", fn := fun _ => fun
  | [d1, d2, d3] => { results := [.lit (.bool true)], args := [d1, d2, d3] }
  | _ => none }
def lebShortestRow : OpenClaim := { program := "ythghmbfbjnedfaa", sum := "d6739b3e24a23425fa0fe057882d6eb8f7875e191d609c5cdfa94592ce643900", func := "geode/geodelaw01.LebShortest", spec := "lebShortest", unfollowed := true, recurses := true, apart := false }
def LebShortestSaid : Prop := lebShortestRow.holds Try.pinned (OpenSpec.ofChange lebShortestSpec)

/-- ITS FALSE NEIGHBOUR: 'it returns false'. Refute it at one input. -/
def lebShortestWrong : ChangeSpec := { name := "lebShortest", fn := fun _ => fun
  | [d1, d2, d3] => { results := [.lit (.bool false)], args := [d1, d2, d3] }
  | _ => none }
def LebShortestWrongFalsely : Prop := lebShortestRow.holds Try.pinned (OpenSpec.ofChange lebShortestWrong)

/-- 'geodelaw01.LebCut': WHATEVER THE INPUT: true; the input reads as it did. -/
def lebCutSpec : ChangeSpec := { name := "lebCut", fn := fun _ => fun
  | [d1, d2] => { results := [.lit (.bool true)], args := [d1, d2] }
  | _ => none }
def lebCutRow : OpenClaim := { program := "ythghmbfbjnedfaa", sum := "d6739b3e24a23425fa0fe057882d6eb8f7875e191d609c5cdfa94592ce643900", func := "geode/geodelaw01.LebCut", spec := "lebCut", unfollowed := true, recurses := true, apart := false }
def LebCutSaid : Prop := lebCutRow.holds Try.pinned (OpenSpec.ofChange lebCutSpec)

/-- ITS FALSE NEIGHBOUR: 'it returns false'. Refute it at one input. -/
def lebCutWrong : ChangeSpec := { name := "lebCut", fn := fun _ => fun
  | [d1, d2] => { results := [.lit (.bool false)], args := [d1, d2] }
  | _ => none }
def LebCutWrongFalsely : Prop := lebCutRow.holds Try.pinned (OpenSpec.ofChange lebCutWrong)

/-- 'geodelaw01.LebBehind': WHATEVER THE INPUT: true; the input reads as it did. -/
def lebBehindSpec : ChangeSpec := { name := "lebBehind", fn := fun _ => fun
  | [d1, d2, d3] => { results := [.lit (.bool true)], args := [d1, d2, d3] }
  | _ => none }
def lebBehindRow : OpenClaim := { program := "ythghmbfbjnedfaa", sum := "d6739b3e24a23425fa0fe057882d6eb8f7875e191d609c5cdfa94592ce643900", func := "geode/geodelaw01.LebBehind", spec := "lebBehind", unfollowed := true, recurses := true, apart := false }
def LebBehindSaid : Prop := lebBehindRow.holds Try.pinned (OpenSpec.ofChange lebBehindSpec)

/-- ITS FALSE NEIGHBOUR: 'it returns false'. Refute it at one input. -/
def lebBehindWrong : ChangeSpec := { name := "lebBehind", fn := fun _ => fun
  | [d1, d2, d3] => { results := [.lit (.bool false)], args := [d1, d2, d3] }
  | _ => none }
def LebBehindWrongFalsely : Prop := lebBehindRow.holds Try.pinned (OpenSpec.ofChange lebBehindWrong)

/-- 'geodelaw01.LebPadded': WHATEVER THE INPUT: true; the input reads as it did. -/
def lebPaddedSpec : ChangeSpec := { name := "lebPadded", fn := fun _ => fun
  | [d1, d2] => { results := [.lit (.bool true)], args := [d1, d2] }
  | _ => none }
def lebPaddedRow : OpenClaim := { program := "ythghmbfbjnedfaa", sum := "d6739b3e24a23425fa0fe057882d6eb8f7875e191d609c5cdfa94592ce643900", func := "geode/geodelaw01.LebPadded", spec := "lebPadded", unfollowed := true, recurses := true, apart := false }
def LebPaddedSaid : Prop := lebPaddedRow.holds Try.pinned (OpenSpec.ofChange lebPaddedSpec)

/-- ITS FALSE NEIGHBOUR: 'it returns false'. Refute it at one input. -/
def lebPaddedWrong : ChangeSpec := { name := "lebPadded", fn := fun _ => fun
  | [d1, d2] => { results := [.lit (.bool false)], args := [d1, d2] }
  | _ => none }
def LebPaddedWrongFalsely : Prop := lebPaddedRow.holds Try.pinned (OpenSpec.ofChange lebPaddedWrong)

/-- 'geodelaw02.NameReads': WHATEVER THE INPUT: true; the input reads as it did. -/
def nameReadsSpec : ChangeSpec := { name := "nameReads", fn := fun _ => fun
  | [d1, d2, d3] => { results := [.lit (.bool true)], args := [d1, d2, d3] }
  | _ => none }
def nameReadsRow : OpenClaim := { program := "ythghmbfbjnedfaa", sum := "d6739b3e24a23425fa0fe057882d6eb8f7875e191d609c5cdfa94592ce643900", func := "geode/geodelaw02.NameReads", spec := "nameReads", apart := false }
def NameReadsSaid : Prop := nameReadsRow.holds Try.pinned (OpenSpec.ofChange nameReadsSpec)

/-- ITS FALSE NEIGHBOUR: 'it returns false'. Refute it at one input. -/
def nameReadsWrong : ChangeSpec := { name := "nameReads", fn := fun _ => fun
  | [d1, d2, d3] => { results := [.lit (.bool false)], args := [d1, d2, d3] }
  | _ => none }
def NameReadsWrongFalsely : Prop := nameReadsRow.holds Try.pinned (OpenSpec.ofChange nameReadsWrong)

/-- 'geodelaw02.NameJoins': WHATEVER THE INPUT: true; the input reads as it did. -/
def nameJoinsSpec : ChangeSpec := { name := "nameJoins", fn := fun _ => fun
  | [d1, d2] => { results := [.lit (.bool true)], args := [d1, d2] }
  | _ => none }
def nameJoinsRow : OpenClaim := { program := "ythghmbfbjnedfaa", sum := "d6739b3e24a23425fa0fe057882d6eb8f7875e191d609c5cdfa94592ce643900", func := "geode/geodelaw02.NameJoins", spec := "nameJoins", apart := false }
def NameJoinsSaid : Prop := nameJoinsRow.holds Try.pinned (OpenSpec.ofChange nameJoinsSpec)

/-- ITS FALSE NEIGHBOUR: 'it returns false'. Refute it at one input. -/
def nameJoinsWrong : ChangeSpec := { name := "nameJoins", fn := fun _ => fun
  | [d1, d2] => { results := [.lit (.bool false)], args := [d1, d2] }
  | _ => none }
def NameJoinsWrongFalsely : Prop := nameJoinsRow.holds Try.pinned (OpenSpec.ofChange nameJoinsWrong)

/-- 'geodelaw02.NameCuts': WHATEVER THE INPUT: true; the input reads as it did. -/
def nameCutsSpec : ChangeSpec := { name := "nameCuts", fn := fun _ => fun
  | [d1, d2, d3] => { results := [.lit (.bool true)], args := [d1, d2, d3] }
  | _ => none }
def nameCutsRow : OpenClaim := { program := "ythghmbfbjnedfaa", sum := "d6739b3e24a23425fa0fe057882d6eb8f7875e191d609c5cdfa94592ce643900", func := "geode/geodelaw02.NameCuts", spec := "nameCuts", apart := false }
def NameCutsSaid : Prop := nameCutsRow.holds Try.pinned (OpenSpec.ofChange nameCutsSpec)

/-- ITS FALSE NEIGHBOUR: 'it returns false'. Refute it at one input. -/
def nameCutsWrong : ChangeSpec := { name := "nameCuts", fn := fun _ => fun
  | [d1, d2, d3] => { results := [.lit (.bool false)], args := [d1, d2, d3] }
  | _ => none }
def NameCutsWrongFalsely : Prop := nameCutsRow.holds Try.pinned (OpenSpec.ofChange nameCutsWrong)

/-- 'geodelaw02.NamePuts': WHATEVER THE INPUT: true; the input reads as it did. -/
def namePutsSpec : ChangeSpec := { name := "namePuts", fn := fun _ => fun
  | [d1, d2] => { results := [.lit (.bool true)], args := [d1, d2] }
  | _ => none }
def namePutsRow : OpenClaim := { program := "ythghmbfbjnedfaa", sum := "d6739b3e24a23425fa0fe057882d6eb8f7875e191d609c5cdfa94592ce643900", func := "geode/geodelaw02.NamePuts", spec := "namePuts", unfollowed := true, recurses := true, apart := false }
def NamePutsSaid : Prop := namePutsRow.holds Try.pinned (OpenSpec.ofChange namePutsSpec)

/-- ITS FALSE NEIGHBOUR: 'it returns false'. Refute it at one input. -/
def namePutsWrong : ChangeSpec := { name := "namePuts", fn := fun _ => fun
  | [d1, d2] => { results := [.lit (.bool false)], args := [d1, d2] }
  | _ => none }
def NamePutsWrongFalsely : Prop := namePutsRow.holds Try.pinned (OpenSpec.ofChange namePutsWrong)

/-- 'geodelaw02.NameBack': WHATEVER THE INPUT: true; the input reads as it did. -/
def nameBackSpec : ChangeSpec := { name := "nameBack", fn := fun _ => fun
  | [d1, d2, d3] => { results := [.lit (.bool true)], args := [d1, d2, d3] }
  | _ => none }
def nameBackRow : OpenClaim := { program := "ythghmbfbjnedfaa", sum := "d6739b3e24a23425fa0fe057882d6eb8f7875e191d609c5cdfa94592ce643900", func := "geode/geodelaw02.NameBack", spec := "nameBack", unfollowed := true, recurses := true, apart := false }
def NameBackSaid : Prop := nameBackRow.holds Try.pinned (OpenSpec.ofChange nameBackSpec)

/-- ITS FALSE NEIGHBOUR: 'it returns false'. Refute it at one input. -/
def nameBackWrong : ChangeSpec := { name := "nameBack", fn := fun _ => fun
  | [d1, d2, d3] => { results := [.lit (.bool false)], args := [d1, d2, d3] }
  | _ => none }
def NameBackWrongFalsely : Prop := nameBackRow.holds Try.pinned (OpenSpec.ofChange nameBackWrong)

/-- 'geodelaw06.TbinNone': WHATEVER THE INPUT: true; the input reads as it did. -/
def tbinNoneSpec : ChangeSpec := { name := "tbinNone", fn := fun _ => fun
  | [d1, d2] => { results := [.lit (.bool true)], args := [d1, d2] }
  | _ => none }
def tbinNoneRow : OpenClaim := { program := "ythghmbfbjnedfaa", sum := "d6739b3e24a23425fa0fe057882d6eb8f7875e191d609c5cdfa94592ce643900", func := "geode/geodelaw06.TbinNone", spec := "tbinNone", unfollowed := true, recurses := true, apart := false }
def TbinNoneSaid : Prop := tbinNoneRow.holds Try.pinned (OpenSpec.ofChange tbinNoneSpec)

/-- ITS FALSE NEIGHBOUR: 'it returns false'. Refute it at one input. -/
def tbinNoneWrong : ChangeSpec := { name := "tbinNone", fn := fun _ => fun
  | [d1, d2] => { results := [.lit (.bool false)], args := [d1, d2] }
  | _ => none }
def TbinNoneWrongFalsely : Prop := tbinNoneRow.holds Try.pinned (OpenSpec.ofChange tbinNoneWrong)

/-- 'geodelaw06.TbinPuts': WHATEVER THE INPUT: true; the input reads as it did. -/
def tbinPutsSpec : ChangeSpec := { name := "tbinPuts", fn := fun _ => fun
  | [d1, d2, d3, d4] => { results := [.lit (.bool true)], args := [d1, d2, d3, d4] }
  | _ => none }
def tbinPutsRow : OpenClaim := { program := "ythghmbfbjnedfaa", sum := "d6739b3e24a23425fa0fe057882d6eb8f7875e191d609c5cdfa94592ce643900", func := "geode/geodelaw06.TbinPuts", spec := "tbinPuts", unfollowed := true, recurses := true, apart := false }
def TbinPutsSaid : Prop := tbinPutsRow.holds Try.pinned (OpenSpec.ofChange tbinPutsSpec)

/-- ITS FALSE NEIGHBOUR: 'it returns false'. Refute it at one input. -/
def tbinPutsWrong : ChangeSpec := { name := "tbinPuts", fn := fun _ => fun
  | [d1, d2, d3, d4] => { results := [.lit (.bool false)], args := [d1, d2, d3, d4] }
  | _ => none }
def TbinPutsWrongFalsely : Prop := tbinPutsRow.holds Try.pinned (OpenSpec.ofChange tbinPutsWrong)

/-- 'geodelaw06.TbinCut': WHATEVER THE INPUT: true; the input reads as it did. -/
def tbinCutSpec : ChangeSpec := { name := "tbinCut", fn := fun _ => fun
  | [d1, d2] => { results := [.lit (.bool true)], args := [d1, d2] }
  | _ => none }
def tbinCutRow : OpenClaim := { program := "ythghmbfbjnedfaa", sum := "d6739b3e24a23425fa0fe057882d6eb8f7875e191d609c5cdfa94592ce643900", func := "geode/geodelaw06.TbinCut", spec := "tbinCut", unfollowed := true, recurses := true, apart := false }
def TbinCutSaid : Prop := tbinCutRow.holds Try.pinned (OpenSpec.ofChange tbinCutSpec)

/-- ITS FALSE NEIGHBOUR: 'it returns false'. Refute it at one input. -/
def tbinCutWrong : ChangeSpec := { name := "tbinCut", fn := fun _ => fun
  | [d1, d2] => { results := [.lit (.bool false)], args := [d1, d2] }
  | _ => none }
def TbinCutWrongFalsely : Prop := tbinCutRow.holds Try.pinned (OpenSpec.ofChange tbinCutWrong)

/-- 'geodelaw06.TbinBack': WHATEVER THE INPUT: true; the input reads as it did. -/
def tbinBackSpec : ChangeSpec := { name := "tbinBack", fn := fun _ => fun
  | [d1, d2, d3] => { results := [.lit (.bool true)], args := [d1, d2, d3] }
  | _ => none }
def tbinBackRow : OpenClaim := { program := "ythghmbfbjnedfaa", sum := "d6739b3e24a23425fa0fe057882d6eb8f7875e191d609c5cdfa94592ce643900", func := "geode/geodelaw06.TbinBack", spec := "tbinBack", unfollowed := true, recurses := true, apart := false }
def TbinBackSaid : Prop := tbinBackRow.holds Try.pinned (OpenSpec.ofChange tbinBackSpec)

/-- ITS FALSE NEIGHBOUR: 'it returns false'. Refute it at one input. -/
def tbinBackWrong : ChangeSpec := { name := "tbinBack", fn := fun _ => fun
  | [d1, d2, d3] => { results := [.lit (.bool false)], args := [d1, d2, d3] }
  | _ => none }
def TbinBackWrongFalsely : Prop := tbinBackRow.holds Try.pinned (OpenSpec.ofChange tbinBackWrong)

/- THE SECOND FORM. 'bulk': how many values and letters a reading holds, each counted each time it is reached (what is shared counts as often as it is met; a slice's spare places count too). A statement '..UptoSaid' is the law's where the arguments, and the package variables that the reading takes, are together of bulk at most 1048576: NARROWER than '..Said'. Prove '..Said' where nothing that the law and all that it calls make is longer than what came in: it says more and counts as full. Else prove '..UptoSaid'. A law counts once. -/
mutual
def uptoBulk {H : Type} : DataW H → Nat
  | .lit (.string bytes) => bytes.length + 1
  | .lit _ => 1
  | .nil => 1
  | .ptr d => uptoBulk d + 1
  | .slice elems spare => uptoBulkAll elems + uptoBulkAll spare + 1
  | .agg parts => uptoBulkAll parts + 1
  | .iface _ d => uptoBulk d + 1
  | .map entries => uptoBulkEntries entries + 1
  | .held _ => 1
def uptoBulkAll {H : Type} : List (DataW H) → Nat
  | [] => 0
  | d :: r => uptoBulk d + uptoBulkAll r
def uptoBulkEntries {H : Type} : List (Lit × DataW H) → Nat
  | [] => 0
  | x :: r => uptoBulkEntry x + uptoBulkEntries r
def uptoBulkEntry {H : Type} : Lit × DataW H → Nat
  | (.string bytes, d) => bytes.length + uptoBulk d + 1
  | (_, d) => uptoBulk d + 1
 end
def uptoSmall : (H : Type) → List (DataW H) → Bool := fun _ ds => decide (uptoBulkAll ds ≤ 1048576)
def OpenSpec.upto (s : _root_.Go.ChangeSpec) : _root_.Go.OpenSpec := { _root_.Go.OpenSpec.ofChange s with cond := some uptoSmall }

/-- 'geodelaw01.LebReads', WHERE WHAT IT READS IS OF BULK AT MOST 1048576: true; the input reads as it did. -/
def lebReadsUptoRow : OpenClaim := { program := "ythghmbfbjnedfaa", sum := "d6739b3e24a23425fa0fe057882d6eb8f7875e191d609c5cdfa94592ce643900", func := "geode/geodelaw01.LebReads", spec := "lebReads", unfollowed := true, recurses := true, apart := false, narrowed := true }
def LebReadsUptoSaid : Prop := lebReadsUptoRow.holds Try.pinned (OpenSpec.upto lebReadsSpec)

/-- 'geodelaw01.LebPuts', WHERE WHAT IT READS IS OF BULK AT MOST 1048576: true; the input reads as it did. -/
def lebPutsUptoRow : OpenClaim := { program := "ythghmbfbjnedfaa", sum := "d6739b3e24a23425fa0fe057882d6eb8f7875e191d609c5cdfa94592ce643900", func := "geode/geodelaw01.LebPuts", spec := "lebPuts", unfollowed := true, recurses := true, apart := false, narrowed := true }
def LebPutsUptoSaid : Prop := lebPutsUptoRow.holds Try.pinned (OpenSpec.upto lebPutsSpec)

/-- 'geodelaw01.LebBack', WHERE WHAT IT READS IS OF BULK AT MOST 1048576: true; the input reads as it did. -/
def lebBackUptoRow : OpenClaim := { program := "ythghmbfbjnedfaa", sum := "d6739b3e24a23425fa0fe057882d6eb8f7875e191d609c5cdfa94592ce643900", func := "geode/geodelaw01.LebBack", spec := "lebBack", unfollowed := true, recurses := true, apart := false, narrowed := true }
def LebBackUptoSaid : Prop := lebBackUptoRow.holds Try.pinned (OpenSpec.upto lebBackSpec)

/-- 'geodelaw01.LebShortest', WHERE WHAT IT READS IS OF BULK AT MOST 1048576: true; the input reads as it did. -/
def lebShortestUptoRow : OpenClaim := { program := "ythghmbfbjnedfaa", sum := "d6739b3e24a23425fa0fe057882d6eb8f7875e191d609c5cdfa94592ce643900", func := "geode/geodelaw01.LebShortest", spec := "lebShortest", unfollowed := true, recurses := true, apart := false, narrowed := true }
def LebShortestUptoSaid : Prop := lebShortestUptoRow.holds Try.pinned (OpenSpec.upto lebShortestSpec)

/-- 'geodelaw01.LebCut', WHERE WHAT IT READS IS OF BULK AT MOST 1048576: true; the input reads as it did. -/
def lebCutUptoRow : OpenClaim := { program := "ythghmbfbjnedfaa", sum := "d6739b3e24a23425fa0fe057882d6eb8f7875e191d609c5cdfa94592ce643900", func := "geode/geodelaw01.LebCut", spec := "lebCut", unfollowed := true, recurses := true, apart := false, narrowed := true }
def LebCutUptoSaid : Prop := lebCutUptoRow.holds Try.pinned (OpenSpec.upto lebCutSpec)

/-- 'geodelaw01.LebBehind', WHERE WHAT IT READS IS OF BULK AT MOST 1048576: true; the input reads as it did. -/
def lebBehindUptoRow : OpenClaim := { program := "ythghmbfbjnedfaa", sum := "d6739b3e24a23425fa0fe057882d6eb8f7875e191d609c5cdfa94592ce643900", func := "geode/geodelaw01.LebBehind", spec := "lebBehind", unfollowed := true, recurses := true, apart := false, narrowed := true }
def LebBehindUptoSaid : Prop := lebBehindUptoRow.holds Try.pinned (OpenSpec.upto lebBehindSpec)

/-- 'geodelaw01.LebPadded', WHERE WHAT IT READS IS OF BULK AT MOST 1048576: true; the input reads as it did. -/
def lebPaddedUptoRow : OpenClaim := { program := "ythghmbfbjnedfaa", sum := "d6739b3e24a23425fa0fe057882d6eb8f7875e191d609c5cdfa94592ce643900", func := "geode/geodelaw01.LebPadded", spec := "lebPadded", unfollowed := true, recurses := true, apart := false, narrowed := true }
def LebPaddedUptoSaid : Prop := lebPaddedUptoRow.holds Try.pinned (OpenSpec.upto lebPaddedSpec)

/-- 'geodelaw02.NameReads', WHERE WHAT IT READS IS OF BULK AT MOST 1048576: true; the input reads as it did. -/
def nameReadsUptoRow : OpenClaim := { program := "ythghmbfbjnedfaa", sum := "d6739b3e24a23425fa0fe057882d6eb8f7875e191d609c5cdfa94592ce643900", func := "geode/geodelaw02.NameReads", spec := "nameReads", apart := false, narrowed := true }
def NameReadsUptoSaid : Prop := nameReadsUptoRow.holds Try.pinned (OpenSpec.upto nameReadsSpec)

/-- 'geodelaw02.NameJoins', WHERE WHAT IT READS IS OF BULK AT MOST 1048576: true; the input reads as it did. -/
def nameJoinsUptoRow : OpenClaim := { program := "ythghmbfbjnedfaa", sum := "d6739b3e24a23425fa0fe057882d6eb8f7875e191d609c5cdfa94592ce643900", func := "geode/geodelaw02.NameJoins", spec := "nameJoins", apart := false, narrowed := true }
def NameJoinsUptoSaid : Prop := nameJoinsUptoRow.holds Try.pinned (OpenSpec.upto nameJoinsSpec)

/-- 'geodelaw02.NameCuts', WHERE WHAT IT READS IS OF BULK AT MOST 1048576: true; the input reads as it did. -/
def nameCutsUptoRow : OpenClaim := { program := "ythghmbfbjnedfaa", sum := "d6739b3e24a23425fa0fe057882d6eb8f7875e191d609c5cdfa94592ce643900", func := "geode/geodelaw02.NameCuts", spec := "nameCuts", apart := false, narrowed := true }
def NameCutsUptoSaid : Prop := nameCutsUptoRow.holds Try.pinned (OpenSpec.upto nameCutsSpec)

/-- 'geodelaw02.NamePuts', WHERE WHAT IT READS IS OF BULK AT MOST 1048576: true; the input reads as it did. -/
def namePutsUptoRow : OpenClaim := { program := "ythghmbfbjnedfaa", sum := "d6739b3e24a23425fa0fe057882d6eb8f7875e191d609c5cdfa94592ce643900", func := "geode/geodelaw02.NamePuts", spec := "namePuts", unfollowed := true, recurses := true, apart := false, narrowed := true }
def NamePutsUptoSaid : Prop := namePutsUptoRow.holds Try.pinned (OpenSpec.upto namePutsSpec)

/-- 'geodelaw02.NameBack', WHERE WHAT IT READS IS OF BULK AT MOST 1048576: true; the input reads as it did. -/
def nameBackUptoRow : OpenClaim := { program := "ythghmbfbjnedfaa", sum := "d6739b3e24a23425fa0fe057882d6eb8f7875e191d609c5cdfa94592ce643900", func := "geode/geodelaw02.NameBack", spec := "nameBack", unfollowed := true, recurses := true, apart := false, narrowed := true }
def NameBackUptoSaid : Prop := nameBackUptoRow.holds Try.pinned (OpenSpec.upto nameBackSpec)

/-- 'geodelaw06.TbinNone', WHERE WHAT IT READS IS OF BULK AT MOST 1048576: true; the input reads as it did. -/
def tbinNoneUptoRow : OpenClaim := { program := "ythghmbfbjnedfaa", sum := "d6739b3e24a23425fa0fe057882d6eb8f7875e191d609c5cdfa94592ce643900", func := "geode/geodelaw06.TbinNone", spec := "tbinNone", unfollowed := true, recurses := true, apart := false, narrowed := true }
def TbinNoneUptoSaid : Prop := tbinNoneUptoRow.holds Try.pinned (OpenSpec.upto tbinNoneSpec)

/-- 'geodelaw06.TbinPuts', WHERE WHAT IT READS IS OF BULK AT MOST 1048576: true; the input reads as it did. -/
def tbinPutsUptoRow : OpenClaim := { program := "ythghmbfbjnedfaa", sum := "d6739b3e24a23425fa0fe057882d6eb8f7875e191d609c5cdfa94592ce643900", func := "geode/geodelaw06.TbinPuts", spec := "tbinPuts", unfollowed := true, recurses := true, apart := false, narrowed := true }
def TbinPutsUptoSaid : Prop := tbinPutsUptoRow.holds Try.pinned (OpenSpec.upto tbinPutsSpec)

/-- 'geodelaw06.TbinCut', WHERE WHAT IT READS IS OF BULK AT MOST 1048576: true; the input reads as it did. -/
def tbinCutUptoRow : OpenClaim := { program := "ythghmbfbjnedfaa", sum := "d6739b3e24a23425fa0fe057882d6eb8f7875e191d609c5cdfa94592ce643900", func := "geode/geodelaw06.TbinCut", spec := "tbinCut", unfollowed := true, recurses := true, apart := false, narrowed := true }
def TbinCutUptoSaid : Prop := tbinCutUptoRow.holds Try.pinned (OpenSpec.upto tbinCutSpec)

/-- 'geodelaw06.TbinBack', WHERE WHAT IT READS IS OF BULK AT MOST 1048576: true; the input reads as it did. -/
def tbinBackUptoRow : OpenClaim := { program := "ythghmbfbjnedfaa", sum := "d6739b3e24a23425fa0fe057882d6eb8f7875e191d609c5cdfa94592ce643900", func := "geode/geodelaw06.TbinBack", spec := "tbinBack", unfollowed := true, recurses := true, apart := false, narrowed := true }
def TbinBackUptoSaid : Prop := tbinBackUptoRow.holds Try.pinned (OpenSpec.upto tbinBackSpec)

end Rows
end Go.Proofs.Ythghmbfbjnedfaa
