/-
  No cell of these rows narrows 'for every input' (looked for: loops, veiled, ifaces, maps, wideKeys, modest, calm, conditions, laid).
  DERIVED. THE GIVEN ROWS OF THIS SEAT. 4 by the template 'for every input the law returns true; each argument reads behind the call as it read before'; 0 by the template 'total and deterministic' (their statements: YtkghgilpocbifaaTotals.lean).
  GIVEN WITH THE SEED: the statements are not yours to turn. If you find one false, say at which input.
  Laid BY PROGRAM, IN A SANDBOX (cutbox-rows.mjs): the forced cells as the released guide's own fill.sh prints them over the translation 38b3db79d2bfbe64… (all of the seat's roots in one cut). By AI agents, Wed Nov 11 2026. No macro, syntax, notation, axiom, sorry.
-/
import Derived.Test.YtkghgilpocbifaaChecked
import GoSem.Claim
import GoSem.ClaimJoined
import GoSem.ClaimMapViews
import Derived.JoinedTies
import Derived.KernelRfl
namespace Go.Proofs.Ytkghgilpocbifaa
/- THE CELL 'sum', in the pinned program and in every row, IS THE sha256 OF THE DUMP (.gsa) THAT YtkghgilpocbifaaProg.lean LOADS. Nothing in Lean hashes anything: it is a label: what it is worth is what the hold of that sum in a sandbox is worth. -/
noncomputable def Try.pinned : Pinned := { name := "ytkghgilpocbifaa", sum := "38b3db79d2bfbe641e96436fb47b29d157812693a19a62a7622b3090e50934ca", checked := Try.checked }
namespace Rows
def none {H : Type} : Left H := { results := [], args := [] }

/-- 'scholiumlaw11.MeterSpends': WHATEVER THE INPUT: true; the input reads as it did. -/
def meterSpendsSpec : ChangeSpec := { name := "meterSpends", fn := fun _ => fun
  | [d1, d2] => { results := [.lit (.bool true)], args := [d1, d2] }
  | _ => none }
def meterSpendsRow : OpenClaim := { program := "ytkghgilpocbifaa", sum := "38b3db79d2bfbe641e96436fb47b29d157812693a19a62a7622b3090e50934ca", func := "scholium/scholiumlaw11.MeterSpends", spec := "meterSpends", inPlace := ["sync/atomic.StoreInt64", "sync/atomic.LoadInt64", "sync/atomic.AddInt64"], apart := false }
def MeterSpendsSaid : Prop := meterSpendsRow.holds Try.pinned (OpenSpec.ofChange meterSpendsSpec)

/-- ITS FALSE NEIGHBOUR: 'it returns false'. Refute it at one input. -/
def meterSpendsWrong : ChangeSpec := { name := "meterSpends", fn := fun _ => fun
  | [d1, d2] => { results := [.lit (.bool false)], args := [d1, d2] }
  | _ => none }
def MeterSpendsWrongFalsely : Prop := meterSpendsRow.holds Try.pinned (OpenSpec.ofChange meterSpendsWrong)

/-- 'scholiumlaw11.MeterTakes': WHATEVER THE INPUT: true; the input reads as it did. -/
def meterTakesSpec : ChangeSpec := { name := "meterTakes", fn := fun _ => fun
  | [d1, d2] => { results := [.lit (.bool true)], args := [d1, d2] }
  | _ => none }
def meterTakesRow : OpenClaim := { program := "ytkghgilpocbifaa", sum := "38b3db79d2bfbe641e96436fb47b29d157812693a19a62a7622b3090e50934ca", func := "scholium/scholiumlaw11.MeterTakes", spec := "meterTakes", inPlace := ["sync/atomic.StoreInt64", "sync/atomic.LoadInt64", "sync/atomic.AddInt64"], apart := false }
def MeterTakesSaid : Prop := meterTakesRow.holds Try.pinned (OpenSpec.ofChange meterTakesSpec)

/-- ITS FALSE NEIGHBOUR: 'it returns false'. Refute it at one input. -/
def meterTakesWrong : ChangeSpec := { name := "meterTakes", fn := fun _ => fun
  | [d1, d2] => { results := [.lit (.bool false)], args := [d1, d2] }
  | _ => none }
def MeterTakesWrongFalsely : Prop := meterTakesRow.holds Try.pinned (OpenSpec.ofChange meterTakesWrong)

/-- 'scholiumlaw11.MeterForks': WHATEVER THE INPUT: true; the input reads as it did. -/
def meterForksSpec : ChangeSpec := { name := "meterForks", fn := fun _ => fun
  | [d1, d2, d3] => { results := [.lit (.bool true)], args := [d1, d2, d3] }
  | _ => none }
def meterForksRow : OpenClaim := { program := "ytkghgilpocbifaa", sum := "38b3db79d2bfbe641e96436fb47b29d157812693a19a62a7622b3090e50934ca", func := "scholium/scholiumlaw11.MeterForks", spec := "meterForks", inPlace := ["sync/atomic.StoreInt64", "sync/atomic.LoadInt64", "sync/atomic.AddInt64"], apart := false }
def MeterForksSaid : Prop := meterForksRow.holds Try.pinned (OpenSpec.ofChange meterForksSpec)

/-- ITS FALSE NEIGHBOUR: 'it returns false'. Refute it at one input. -/
def meterForksWrong : ChangeSpec := { name := "meterForks", fn := fun _ => fun
  | [d1, d2, d3] => { results := [.lit (.bool false)], args := [d1, d2, d3] }
  | _ => none }
def MeterForksWrongFalsely : Prop := meterForksRow.holds Try.pinned (OpenSpec.ofChange meterForksWrong)

/-- 'scholiumlaw11.MeterNil': WHATEVER THE INPUT: true; the input reads as it did. -/
def meterNilSpec : ChangeSpec := { name := "meterNil", fn := fun _ => fun
  | [d] => { results := [.lit (.bool true)], args := [d] }
  | _ => none }
def meterNilRow : OpenClaim := { program := "ytkghgilpocbifaa", sum := "38b3db79d2bfbe641e96436fb47b29d157812693a19a62a7622b3090e50934ca", func := "scholium/scholiumlaw11.MeterNil", spec := "meterNil", inPlace := ["sync/atomic.LoadInt64", "sync/atomic.StoreInt64", "sync/atomic.StoreUint32", "sync/atomic.LoadUint32", "(*internal/sync.Mutex).Lock", "internal/race.Disable", "sync/atomic.CompareAndSwapInt32", "internal/race.Enable", "internal/race.Acquire", "(*internal/sync.Mutex).lockSlow", "internal/sync.runtime_canSpin", "internal/sync.runtime_doSpin", "internal/sync.throw", "internal/sync.runtime_nanotime", "internal/sync.runtime_SemacquireMutex", "sync/atomic.AddInt32", "(*internal/sync.Mutex).Unlock", "internal/race.ReleaseMerge", "(*internal/sync.Mutex).unlockSlow", "internal/sync.fatal", "internal/sync.runtime_Semrelease", "sync/atomic.AddInt64"], unfollowed := true, recurses := true, apart := false }
def MeterNilSaid : Prop := meterNilRow.holds Try.pinned (OpenSpec.ofChange meterNilSpec)

/-- ITS FALSE NEIGHBOUR: 'it returns false'. Refute it at one input. -/
def meterNilWrong : ChangeSpec := { name := "meterNil", fn := fun _ => fun
  | [d] => { results := [.lit (.bool false)], args := [d] }
  | _ => none }
def MeterNilWrongFalsely : Prop := meterNilRow.holds Try.pinned (OpenSpec.ofChange meterNilWrong)

/- THE SECOND FORM. 'bulk': how many values and letters a reading holds, each counted each time it is reached (what is shared counts as often as it is met; a slice's spare places count too). A statement '..UptoSaid' is the law's where the arguments, and the package variables that the reading takes, are together of bulk at most 1048576: NARROWER than '..Said'. Prove '..Said' where nothing that the law and all that it calls make is longer than what came in: it says more and counts as full. Else prove '..UptoSaid'. A law counts once. -/
mutual
def uptoBulk {H : Type} : DataW H → Nat
  | .lit (.string bytes) => bytes.length + 1
  | .lit _ => 1
  | .nil => 1
  | .ptr d => uptoBulk d + 1
  | .slice elems spare => uptoBulkAll elems + uptoBulkAll spare + 1
  | .agg parts => uptoBulkAll parts + 1
  | .iface _ d => uptoBulk d + 1
  | .map entries => uptoBulkEntries entries + 1
  | .held _ => 1
def uptoBulkAll {H : Type} : List (DataW H) → Nat
  | [] => 0
  | d :: r => uptoBulk d + uptoBulkAll r
def uptoBulkEntries {H : Type} : List (Lit × DataW H) → Nat
  | [] => 0
  | x :: r => uptoBulkEntry x + uptoBulkEntries r
def uptoBulkEntry {H : Type} : Lit × DataW H → Nat
  | (.string bytes, d) => bytes.length + uptoBulk d + 1
  | (_, d) => uptoBulk d + 1
 end
def uptoSmall : (H : Type) → List (DataW H) → Bool := fun _ ds => decide (uptoBulkAll ds ≤ 1048576)
def OpenSpec.upto (s : _root_.Go.ChangeSpec) : _root_.Go.OpenSpec := { _root_.Go.OpenSpec.ofChange s with cond := some uptoSmall }

/-- 'scholiumlaw11.MeterSpends', WHERE WHAT IT READS IS OF BULK AT MOST 1048576: true; the input reads as it did. -/
def meterSpendsUptoRow : OpenClaim := { program := "ytkghgilpocbifaa", sum := "38b3db79d2bfbe641e96436fb47b29d157812693a19a62a7622b3090e50934ca", func := "scholium/scholiumlaw11.MeterSpends", spec := "meterSpends", inPlace := ["sync/atomic.StoreInt64", "sync/atomic.LoadInt64", "sync/atomic.AddInt64"], apart := false, narrowed := true }
def MeterSpendsUptoSaid : Prop := meterSpendsUptoRow.holds Try.pinned (OpenSpec.upto meterSpendsSpec)

/-- 'scholiumlaw11.MeterTakes', WHERE WHAT IT READS IS OF BULK AT MOST 1048576: true; the input reads as it did. -/
def meterTakesUptoRow : OpenClaim := { program := "ytkghgilpocbifaa", sum := "38b3db79d2bfbe641e96436fb47b29d157812693a19a62a7622b3090e50934ca", func := "scholium/scholiumlaw11.MeterTakes", spec := "meterTakes", inPlace := ["sync/atomic.StoreInt64", "sync/atomic.LoadInt64", "sync/atomic.AddInt64"], apart := false, narrowed := true }
def MeterTakesUptoSaid : Prop := meterTakesUptoRow.holds Try.pinned (OpenSpec.upto meterTakesSpec)

/-- 'scholiumlaw11.MeterForks', WHERE WHAT IT READS IS OF BULK AT MOST 1048576: true; the input reads as it did. -/
def meterForksUptoRow : OpenClaim := { program := "ytkghgilpocbifaa", sum := "38b3db79d2bfbe641e96436fb47b29d157812693a19a62a7622b3090e50934ca", func := "scholium/scholiumlaw11.MeterForks", spec := "meterForks", inPlace := ["sync/atomic.StoreInt64", "sync/atomic.LoadInt64", "sync/atomic.AddInt64"], apart := false, narrowed := true }
def MeterForksUptoSaid : Prop := meterForksUptoRow.holds Try.pinned (OpenSpec.upto meterForksSpec)

/-- 'scholiumlaw11.MeterNil', WHERE WHAT IT READS IS OF BULK AT MOST 1048576: true; the input reads as it did. -/
def meterNilUptoRow : OpenClaim := { program := "ytkghgilpocbifaa", sum := "38b3db79d2bfbe641e96436fb47b29d157812693a19a62a7622b3090e50934ca", func := "scholium/scholiumlaw11.MeterNil", spec := "meterNil", inPlace := ["sync/atomic.LoadInt64", "sync/atomic.StoreInt64", "sync/atomic.StoreUint32", "sync/atomic.LoadUint32", "(*internal/sync.Mutex).Lock", "internal/race.Disable", "sync/atomic.CompareAndSwapInt32", "internal/race.Enable", "internal/race.Acquire", "(*internal/sync.Mutex).lockSlow", "internal/sync.runtime_canSpin", "internal/sync.runtime_doSpin", "internal/sync.throw", "internal/sync.runtime_nanotime", "internal/sync.runtime_SemacquireMutex", "sync/atomic.AddInt32", "(*internal/sync.Mutex).Unlock", "internal/race.ReleaseMerge", "(*internal/sync.Mutex).unlockSlow", "internal/sync.fatal", "internal/sync.runtime_Semrelease", "sync/atomic.AddInt64"], unfollowed := true, recurses := true, apart := false, narrowed := true }
def MeterNilUptoSaid : Prop := meterNilUptoRow.holds Try.pinned (OpenSpec.upto meterNilSpec)

end Rows
end Go.Proofs.Ytkghgilpocbifaa
