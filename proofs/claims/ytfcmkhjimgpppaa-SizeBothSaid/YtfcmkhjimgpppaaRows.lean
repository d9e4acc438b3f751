/-
  No cell of these rows narrows 'for every input' (looked for: loops, veiled, ifaces, maps, wideKeys, modest, calm, conditions, laid).
  DERIVED. THE GIVEN ROWS OF THIS SEAT. 9 by the template 'for every input the law returns true; each argument reads behind the call as it read before'; 0 by the template 'total and deterministic' (their statements: YtfcmkhjimgpppaaTotals.lean).
  GIVEN WITH THE SEED: the statements are not yours to turn. If you find one false, say at which input.
  Laid BY PROGRAM, IN A SANDBOX (cutbox-rows.mjs): the forced cells as the released guide's own fill.sh prints them over the translation 4d9bc1cf4f9c154e… (all of the seat's roots in one cut). By AI agents, Wed Nov 11 2026. No macro, syntax, notation, axiom, sorry.
-/
import Derived.Test.YtfcmkhjimgpppaaChecked
import GoSem.Claim
import GoSem.ClaimJoined
import GoSem.ClaimMapViews
import Derived.JoinedTies
import Derived.KernelRfl
namespace Go.Proofs.Ytfcmkhjimgpppaa
/- THE CELL 'sum', in the pinned program and in every row, IS THE sha256 OF THE DUMP (.gsa) THAT YtfcmkhjimgpppaaProg.lean LOADS. Nothing in Lean hashes anything: it is a label: what it is worth is what the hold of that sum in a sandbox is worth. -/
noncomputable def Try.pinned : Pinned := { name := "ytfcmkhjimgpppaa", sum := "4d9bc1cf4f9c154e2fd8141f2b189cfc9a05f513aee92bab3a17b9a53f53d908", checked := Try.checked }
namespace Rows
def none {H : Type} : Left H := { results := [], args := [] }

/-- 'scholiumlaw30.MatrixProducts': WHATEVER THE INPUT: true; the input reads as it did. -/
def matrixProductsSpec : ChangeSpec := { name := "matrixProducts", fn := fun _ => fun
  | [d1, d2] => { results := [.lit (.bool true)], args := [d1, d2] }
  | _ => none }
def matrixProductsRow : OpenClaim := { program := "ytfcmkhjimgpppaa", sum := "4d9bc1cf4f9c154e2fd8141f2b189cfc9a05f513aee92bab3a17b9a53f53d908", func := "scholium/scholiumlaw30.MatrixProducts", spec := "matrixProducts", unfollowed := true, recurses := true, apart := false }
def MatrixProductsSaid : Prop := matrixProductsRow.holds Try.pinned (OpenSpec.ofChange matrixProductsSpec)

/-- ITS FALSE NEIGHBOUR: 'it returns false'. Refute it at one input. -/
def matrixProductsWrong : ChangeSpec := { name := "matrixProducts", fn := fun _ => fun
  | [d1, d2] => { results := [.lit (.bool false)], args := [d1, d2] }
  | _ => none }
def MatrixProductsWrongFalsely : Prop := matrixProductsRow.holds Try.pinned (OpenSpec.ofChange matrixProductsWrong)

/-- 'scholiumlaw30.MatrixKeeps': WHATEVER THE INPUT: true; the input reads as it did. -/
def matrixKeepsSpec : ChangeSpec := { name := "matrixKeeps", fn := fun _ => fun
  | [d1, d2, d3] => { results := [.lit (.bool true)], args := [d1, d2, d3] }
  | _ => none }
def matrixKeepsRow : OpenClaim := { program := "ytfcmkhjimgpppaa", sum := "4d9bc1cf4f9c154e2fd8141f2b189cfc9a05f513aee92bab3a17b9a53f53d908", func := "scholium/scholiumlaw30.MatrixKeeps", spec := "matrixKeeps", unfollowed := true, recurses := true, apart := false }
def MatrixKeepsSaid : Prop := matrixKeepsRow.holds Try.pinned (OpenSpec.ofChange matrixKeepsSpec)

/-- ITS FALSE NEIGHBOUR: 'it returns false'. Refute it at one input. -/
def matrixKeepsWrong : ChangeSpec := { name := "matrixKeeps", fn := fun _ => fun
  | [d1, d2, d3] => { results := [.lit (.bool false)], args := [d1, d2, d3] }
  | _ => none }
def MatrixKeepsWrongFalsely : Prop := matrixKeepsRow.holds Try.pinned (OpenSpec.ofChange matrixKeepsWrong)

/-- 'scholiumlaw30.MatrixAssociates': WHATEVER THE INPUT: true; the input reads as it did. -/
def matrixAssociatesSpec : ChangeSpec := { name := "matrixAssociates", fn := fun _ => fun
  | [d1, d2, d3] => { results := [.lit (.bool true)], args := [d1, d2, d3] }
  | _ => none }
def matrixAssociatesRow : OpenClaim := { program := "ytfcmkhjimgpppaa", sum := "4d9bc1cf4f9c154e2fd8141f2b189cfc9a05f513aee92bab3a17b9a53f53d908", func := "scholium/scholiumlaw30.MatrixAssociates", spec := "matrixAssociates", unfollowed := true, recurses := true, apart := false }
def MatrixAssociatesSaid : Prop := matrixAssociatesRow.holds Try.pinned (OpenSpec.ofChange matrixAssociatesSpec)

/-- ITS FALSE NEIGHBOUR: 'it returns false'. Refute it at one input. -/
def matrixAssociatesWrong : ChangeSpec := { name := "matrixAssociates", fn := fun _ => fun
  | [d1, d2, d3] => { results := [.lit (.bool false)], args := [d1, d2, d3] }
  | _ => none }
def MatrixAssociatesWrongFalsely : Prop := matrixAssociatesRow.holds Try.pinned (OpenSpec.ofChange matrixAssociatesWrong)

/-- 'scholiumlaw30.MatrixKinds': WHATEVER THE INPUT: true; the input reads as it did. -/
def matrixKindsSpec : ChangeSpec := { name := "matrixKinds", fn := fun _ => fun
  | [d1, d2] => { results := [.lit (.bool true)], args := [d1, d2] }
  | _ => none }
def matrixKindsRow : OpenClaim := { program := "ytfcmkhjimgpppaa", sum := "4d9bc1cf4f9c154e2fd8141f2b189cfc9a05f513aee92bab3a17b9a53f53d908", func := "scholium/scholiumlaw30.MatrixKinds", spec := "matrixKinds", unfollowed := true, recurses := true, apart := false }
def MatrixKindsSaid : Prop := matrixKindsRow.holds Try.pinned (OpenSpec.ofChange matrixKindsSpec)

/-- ITS FALSE NEIGHBOUR: 'it returns false'. Refute it at one input. -/
def matrixKindsWrong : ChangeSpec := { name := "matrixKinds", fn := fun _ => fun
  | [d1, d2] => { results := [.lit (.bool false)], args := [d1, d2] }
  | _ => none }
def MatrixKindsWrongFalsely : Prop := matrixKindsRow.holds Try.pinned (OpenSpec.ofChange matrixKindsWrong)

/-- 'scholiumlaw30.MatrixClosures': WHATEVER THE INPUT: true; the input reads as it did. -/
def matrixClosuresSpec : ChangeSpec := { name := "matrixClosures", fn := fun _ => fun
  | [d] => { results := [.lit (.bool true)], args := [d] }
  | _ => none }
def matrixClosuresRow : OpenClaim := { program := "ytfcmkhjimgpppaa", sum := "4d9bc1cf4f9c154e2fd8141f2b189cfc9a05f513aee92bab3a17b9a53f53d908", func := "scholium/scholiumlaw30.MatrixClosures", spec := "matrixClosures", unfollowed := true, recurses := true, apart := false }
def MatrixClosuresSaid : Prop := matrixClosuresRow.holds Try.pinned (OpenSpec.ofChange matrixClosuresSpec)

/-- ITS FALSE NEIGHBOUR: 'it returns false'. Refute it at one input. -/
def matrixClosuresWrong : ChangeSpec := { name := "matrixClosures", fn := fun _ => fun
  | [d] => { results := [.lit (.bool false)], args := [d] }
  | _ => none }
def MatrixClosuresWrongFalsely : Prop := matrixClosuresRow.holds Try.pinned (OpenSpec.ofChange matrixClosuresWrong)

/-- 'scholiumlaw30.MatrixClosed': WHATEVER THE INPUT: true; the input reads as it did. -/
def matrixClosedSpec : ChangeSpec := { name := "matrixClosed", fn := fun _ => fun
  | [d] => { results := [.lit (.bool true)], args := [d] }
  | _ => none }
def matrixClosedRow : OpenClaim := { program := "ytfcmkhjimgpppaa", sum := "4d9bc1cf4f9c154e2fd8141f2b189cfc9a05f513aee92bab3a17b9a53f53d908", func := "scholium/scholiumlaw30.MatrixClosed", spec := "matrixClosed", unfollowed := true, recurses := true, apart := false }
def MatrixClosedSaid : Prop := matrixClosedRow.holds Try.pinned (OpenSpec.ofChange matrixClosedSpec)

/-- ITS FALSE NEIGHBOUR: 'it returns false'. Refute it at one input. -/
def matrixClosedWrong : ChangeSpec := { name := "matrixClosed", fn := fun _ => fun
  | [d] => { results := [.lit (.bool false)], args := [d] }
  | _ => none }
def MatrixClosedWrongFalsely : Prop := matrixClosedRow.holds Try.pinned (OpenSpec.ofChange matrixClosedWrong)

/-- 'scholiumlaw31.SizeBoth': WHATEVER THE INPUT: true; the input reads as it did. -/
def sizeBothSpec : ChangeSpec := { name := "sizeBoth", fn := fun _ => fun
  | [d1, d2] => { results := [.lit (.bool true)], args := [d1, d2] }
  | _ => none }
def sizeBothRow : OpenClaim := { program := "ytfcmkhjimgpppaa", sum := "4d9bc1cf4f9c154e2fd8141f2b189cfc9a05f513aee92bab3a17b9a53f53d908", func := "scholium/scholiumlaw31.SizeBoth", spec := "sizeBoth", unfollowed := true, recurses := true, apart := false }
def SizeBothSaid : Prop := sizeBothRow.holds Try.pinned (OpenSpec.ofChange sizeBothSpec)

/-- ITS FALSE NEIGHBOUR: 'it returns false'. Refute it at one input. -/
def sizeBothWrong : ChangeSpec := { name := "sizeBoth", fn := fun _ => fun
  | [d1, d2] => { results := [.lit (.bool false)], args := [d1, d2] }
  | _ => none }
def SizeBothWrongFalsely : Prop := sizeBothRow.holds Try.pinned (OpenSpec.ofChange sizeBothWrong)

/-- 'scholiumlaw31.SizeFewer': WHATEVER THE INPUT: true; the input reads as it did. -/
def sizeFewerSpec : ChangeSpec := { name := "sizeFewer", fn := fun _ => fun
  | [d1, d2] => { results := [.lit (.bool true)], args := [d1, d2] }
  | _ => none }
def sizeFewerRow : OpenClaim := { program := "ytfcmkhjimgpppaa", sum := "4d9bc1cf4f9c154e2fd8141f2b189cfc9a05f513aee92bab3a17b9a53f53d908", func := "scholium/scholiumlaw31.SizeFewer", spec := "sizeFewer", unfollowed := true, recurses := true, apart := false }
def SizeFewerSaid : Prop := sizeFewerRow.holds Try.pinned (OpenSpec.ofChange sizeFewerSpec)

/-- ITS FALSE NEIGHBOUR: 'it returns false'. Refute it at one input. -/
def sizeFewerWrong : ChangeSpec := { name := "sizeFewer", fn := fun _ => fun
  | [d1, d2] => { results := [.lit (.bool false)], args := [d1, d2] }
  | _ => none }
def SizeFewerWrongFalsely : Prop := sizeFewerRow.holds Try.pinned (OpenSpec.ofChange sizeFewerWrong)

/-- 'scholiumlaw31.SizeEnds': WHATEVER THE INPUT: true; the input reads as it did. -/
def sizeEndsSpec : ChangeSpec := { name := "sizeEnds", fn := fun _ => fun
  | [d] => { results := [.lit (.bool true)], args := [d] }
  | _ => none }
def sizeEndsRow : OpenClaim := { program := "ytfcmkhjimgpppaa", sum := "4d9bc1cf4f9c154e2fd8141f2b189cfc9a05f513aee92bab3a17b9a53f53d908", func := "scholium/scholiumlaw31.SizeEnds", spec := "sizeEnds", unfollowed := true, recurses := true, apart := false }
def SizeEndsSaid : Prop := sizeEndsRow.holds Try.pinned (OpenSpec.ofChange sizeEndsSpec)

/-- ITS FALSE NEIGHBOUR: 'it returns false'. Refute it at one input. -/
def sizeEndsWrong : ChangeSpec := { name := "sizeEnds", fn := fun _ => fun
  | [d] => { results := [.lit (.bool false)], args := [d] }
  | _ => none }
def SizeEndsWrongFalsely : Prop := sizeEndsRow.holds Try.pinned (OpenSpec.ofChange sizeEndsWrong)

/- THE SECOND FORM. 'bulk': how many values and letters a reading holds, each counted each time it is reached (what is shared counts as often as it is met; a slice's spare places count too). A statement '..UptoSaid' is the law's where the arguments, and the package variables that the reading takes, are together of bulk at most 1048576: NARROWER than '..Said'. Prove '..Said' where nothing that the law and all that it calls make is longer than what came in: it says more and counts as full. Else prove '..UptoSaid'. A law counts once. -/
mutual
def uptoBulk {H : Type} : DataW H → Nat
  | .lit (.string bytes) => bytes.length + 1
  | .lit _ => 1
  | .nil => 1
  | .ptr d => uptoBulk d + 1
  | .slice elems spare => uptoBulkAll elems + uptoBulkAll spare + 1
  | .agg parts => uptoBulkAll parts + 1
  | .iface _ d => uptoBulk d + 1
  | .map entries => uptoBulkEntries entries + 1
  | .held _ => 1
def uptoBulkAll {H : Type} : List (DataW H) → Nat
  | [] => 0
  | d :: r => uptoBulk d + uptoBulkAll r
def uptoBulkEntries {H : Type} : List (Lit × DataW H) → Nat
  | [] => 0
  | x :: r => uptoBulkEntry x + uptoBulkEntries r
def uptoBulkEntry {H : Type} : Lit × DataW H → Nat
  | (.string bytes, d) => bytes.length + uptoBulk d + 1
  | (_, d) => uptoBulk d + 1
 end
def uptoSmall : (H : Type) → List (DataW H) → Bool := fun _ ds => decide (uptoBulkAll ds ≤ 1048576)
def OpenSpec.upto (s : _root_.Go.ChangeSpec) : _root_.Go.OpenSpec := { _root_.Go.OpenSpec.ofChange s with cond := some uptoSmall }

/-- 'scholiumlaw30.MatrixProducts', WHERE WHAT IT READS IS OF BULK AT MOST 1048576: true; the input reads as it did. -/
def matrixProductsUptoRow : OpenClaim := { program := "ytfcmkhjimgpppaa", sum := "4d9bc1cf4f9c154e2fd8141f2b189cfc9a05f513aee92bab3a17b9a53f53d908", func := "scholium/scholiumlaw30.MatrixProducts", spec := "matrixProducts", unfollowed := true, recurses := true, apart := false, narrowed := true }
def MatrixProductsUptoSaid : Prop := matrixProductsUptoRow.holds Try.pinned (OpenSpec.upto matrixProductsSpec)

/-- 'scholiumlaw30.MatrixKeeps', WHERE WHAT IT READS IS OF BULK AT MOST 1048576: true; the input reads as it did. -/
def matrixKeepsUptoRow : OpenClaim := { program := "ytfcmkhjimgpppaa", sum := "4d9bc1cf4f9c154e2fd8141f2b189cfc9a05f513aee92bab3a17b9a53f53d908", func := "scholium/scholiumlaw30.MatrixKeeps", spec := "matrixKeeps", unfollowed := true, recurses := true, apart := false, narrowed := true }
def MatrixKeepsUptoSaid : Prop := matrixKeepsUptoRow.holds Try.pinned (OpenSpec.upto matrixKeepsSpec)

/-- 'scholiumlaw30.MatrixAssociates', WHERE WHAT IT READS IS OF BULK AT MOST 1048576: true; the input reads as it did. -/
def matrixAssociatesUptoRow : OpenClaim := { program := "ytfcmkhjimgpppaa", sum := "4d9bc1cf4f9c154e2fd8141f2b189cfc9a05f513aee92bab3a17b9a53f53d908", func := "scholium/scholiumlaw30.MatrixAssociates", spec := "matrixAssociates", unfollowed := true, recurses := true, apart := false, narrowed := true }
def MatrixAssociatesUptoSaid : Prop := matrixAssociatesUptoRow.holds Try.pinned (OpenSpec.upto matrixAssociatesSpec)

/-- 'scholiumlaw30.MatrixKinds', WHERE WHAT IT READS IS OF BULK AT MOST 1048576: true; the input reads as it did. -/
def matrixKindsUptoRow : OpenClaim := { program := "ytfcmkhjimgpppaa", sum := "4d9bc1cf4f9c154e2fd8141f2b189cfc9a05f513aee92bab3a17b9a53f53d908", func := "scholium/scholiumlaw30.MatrixKinds", spec := "matrixKinds", unfollowed := true, recurses := true, apart := false, narrowed := true }
def MatrixKindsUptoSaid : Prop := matrixKindsUptoRow.holds Try.pinned (OpenSpec.upto matrixKindsSpec)

/-- 'scholiumlaw30.MatrixClosures', WHERE WHAT IT READS IS OF BULK AT MOST 1048576: true; the input reads as it did. -/
def matrixClosuresUptoRow : OpenClaim := { program := "ytfcmkhjimgpppaa", sum := "4d9bc1cf4f9c154e2fd8141f2b189cfc9a05f513aee92bab3a17b9a53f53d908", func := "scholium/scholiumlaw30.MatrixClosures", spec := "matrixClosures", unfollowed := true, recurses := true, apart := false, narrowed := true }
def MatrixClosuresUptoSaid : Prop := matrixClosuresUptoRow.holds Try.pinned (OpenSpec.upto matrixClosuresSpec)

/-- 'scholiumlaw30.MatrixClosed', WHERE WHAT IT READS IS OF BULK AT MOST 1048576: true; the input reads as it did. -/
def matrixClosedUptoRow : OpenClaim := { program := "ytfcmkhjimgpppaa", sum := "4d9bc1cf4f9c154e2fd8141f2b189cfc9a05f513aee92bab3a17b9a53f53d908", func := "scholium/scholiumlaw30.MatrixClosed", spec := "matrixClosed", unfollowed := true, recurses := true, apart := false, narrowed := true }
def MatrixClosedUptoSaid : Prop := matrixClosedUptoRow.holds Try.pinned (OpenSpec.upto matrixClosedSpec)

/-- 'scholiumlaw31.SizeBoth', WHERE WHAT IT READS IS OF BULK AT MOST 1048576: true; the input reads as it did. -/
def sizeBothUptoRow : OpenClaim := { program := "ytfcmkhjimgpppaa", sum := "4d9bc1cf4f9c154e2fd8141f2b189cfc9a05f513aee92bab3a17b9a53f53d908", func := "scholium/scholiumlaw31.SizeBoth", spec := "sizeBoth", unfollowed := true, recurses := true, apart := false, narrowed := true }
def SizeBothUptoSaid : Prop := sizeBothUptoRow.holds Try.pinned (OpenSpec.upto sizeBothSpec)

/-- 'scholiumlaw31.SizeFewer', WHERE WHAT IT READS IS OF BULK AT MOST 1048576: true; the input reads as it did. -/
def sizeFewerUptoRow : OpenClaim := { program := "ytfcmkhjimgpppaa", sum := "4d9bc1cf4f9c154e2fd8141f2b189cfc9a05f513aee92bab3a17b9a53f53d908", func := "scholium/scholiumlaw31.SizeFewer", spec := "sizeFewer", unfollowed := true, recurses := true, apart := false, narrowed := true }
def SizeFewerUptoSaid : Prop := sizeFewerUptoRow.holds Try.pinned (OpenSpec.upto sizeFewerSpec)

/-- 'scholiumlaw31.SizeEnds', WHERE WHAT IT READS IS OF BULK AT MOST 1048576: true; the input reads as it did. -/
def sizeEndsUptoRow : OpenClaim := { program := "ytfcmkhjimgpppaa", sum := "4d9bc1cf4f9c154e2fd8141f2b189cfc9a05f513aee92bab3a17b9a53f53d908", func := "scholium/scholiumlaw31.SizeEnds", spec := "sizeEnds", unfollowed := true, recurses := true, apart := false, narrowed := true }
def SizeEndsUptoSaid : Prop := sizeEndsUptoRow.holds Try.pinned (OpenSpec.upto sizeEndsSpec)

end Rows
end Go.Proofs.Ytfcmkhjimgpppaa
