/-
  NARROWER THAN 'FOR EVERY INPUT', by the rows' own cells (each row's printed sentence says how): LiftLifts: loops · LiftAdds: loops · LiftAlls: loops · TeleArounds: loops · LiftLowers: loops · LiftBack: loops · LiftSwaps: loops · TeleSplits: loops · SubstManies: loops · SubstLifted: loops · SubstAlls: loops · SubstAts: loops · SubstTwice: loops · SubstBack: loops · SubstNames: loops · TeleResults: loops · TeleSelf: loops · TeleTypes: loops · TeleBack: loops.
  DERIVED. THE GIVEN ROWS OF THIS SEAT. 20 by the template 'for every input the law returns true; each argument reads behind the call as it read before'; 0 by the template 'total and deterministic' (their statements: YthjlfjaciigfiaaTotals.lean).
  GIVEN WITH THE SEED: the statements are not yours to turn. If you find one false, say at which input.
  Laid BY PROGRAM, IN A SANDBOX (cutbox-rows.mjs): the forced cells as the released guide's own fill.sh prints them over the translation b23e377a011813ee… (all of the seat's roots in one cut). By AI agents, Wed Nov 11 2026. No macro, syntax, notation, axiom, sorry.
-/
import Derived.Test.YthjlfjaciigfiaaChecked
import GoSem.Claim
import GoSem.ClaimJoined
import GoSem.ClaimMapViews
import Derived.JoinedTies
import Derived.KernelRfl
namespace Go.Proofs.Ythjlfjaciigfiaa
/- THE CELL 'sum', in the pinned program and in every row, IS THE sha256 OF THE DUMP (.gsa) THAT YthjlfjaciigfiaaProg.lean LOADS. Nothing in Lean hashes anything: it is a label: what it is worth is what the hold of that sum in a sandbox is worth. -/
noncomputable def Try.pinned : Pinned := { name := "ythjlfjaciigfiaa", sum := "b23e377a011813ee7070ff1a553489604e2097fb2a48b89be78b4dcac30d9b65", checked := Try.checked }
namespace Rows
def none {H : Type} : Left H := { results := [], args := [] }

/-- 'scholiumlaw08.LiftLifts': WHATEVER THE INPUT: true; the input reads as it did. -/
def liftLiftsSpec : ChangeSpec := { name := "liftLifts", fn := fun _ => fun
  | [d1, d2, d3] => { results := [.lit (.bool true)], args := [d1, d2, d3] }
  | _ => none }
def liftLiftsRow : OpenClaim := { program := "ythjlfjaciigfiaa", sum := "b23e377a011813ee7070ff1a553489604e2097fb2a48b89be78b4dcac30d9b65", func := "scholium/scholiumlaw08.LiftLifts", spec := "liftLifts", unfollowed := true, recurses := true, loops := true, apart := false }
def LiftLiftsSaid : Prop := liftLiftsRow.holds Try.pinned (OpenSpec.ofChange liftLiftsSpec)

/-- ITS FALSE NEIGHBOUR: 'it returns false'. Refute it at one input. -/
def liftLiftsWrong : ChangeSpec := { name := "liftLifts", fn := fun _ => fun
  | [d1, d2, d3] => { results := [.lit (.bool false)], args := [d1, d2, d3] }
  | _ => none }
def LiftLiftsWrongFalsely : Prop := liftLiftsRow.holds Try.pinned (OpenSpec.ofChange liftLiftsWrong)

/-- 'scholiumlaw08.LiftAdds': WHATEVER THE INPUT: true; the input reads as it did. -/
def liftAddsSpec : ChangeSpec := { name := "liftAdds", fn := fun _ => fun
  | [d1, d2, d3] => { results := [.lit (.bool true)], args := [d1, d2, d3] }
  | _ => none }
def liftAddsRow : OpenClaim := { program := "ythjlfjaciigfiaa", sum := "b23e377a011813ee7070ff1a553489604e2097fb2a48b89be78b4dcac30d9b65", func := "scholium/scholiumlaw08.LiftAdds", spec := "liftAdds", unfollowed := true, recurses := true, loops := true, apart := false }
def LiftAddsSaid : Prop := liftAddsRow.holds Try.pinned (OpenSpec.ofChange liftAddsSpec)

/-- ITS FALSE NEIGHBOUR: 'it returns false'. Refute it at one input. -/
def liftAddsWrong : ChangeSpec := { name := "liftAdds", fn := fun _ => fun
  | [d1, d2, d3] => { results := [.lit (.bool false)], args := [d1, d2, d3] }
  | _ => none }
def LiftAddsWrongFalsely : Prop := liftAddsRow.holds Try.pinned (OpenSpec.ofChange liftAddsWrong)

/-- 'scholiumlaw08.LiftAlls': WHATEVER THE INPUT: true; the input reads as it did. -/
def liftAllsSpec : ChangeSpec := { name := "liftAlls", fn := fun _ => fun
  | [d1, d2, d3] => { results := [.lit (.bool true)], args := [d1, d2, d3] }
  | _ => none }
def liftAllsRow : OpenClaim := { program := "ythjlfjaciigfiaa", sum := "b23e377a011813ee7070ff1a553489604e2097fb2a48b89be78b4dcac30d9b65", func := "scholium/scholiumlaw08.LiftAlls", spec := "liftAlls", unfollowed := true, recurses := true, loops := true, apart := false }
def LiftAllsSaid : Prop := liftAllsRow.holds Try.pinned (OpenSpec.ofChange liftAllsSpec)

/-- ITS FALSE NEIGHBOUR: 'it returns false'. Refute it at one input. -/
def liftAllsWrong : ChangeSpec := { name := "liftAlls", fn := fun _ => fun
  | [d1, d2, d3] => { results := [.lit (.bool false)], args := [d1, d2, d3] }
  | _ => none }
def LiftAllsWrongFalsely : Prop := liftAllsRow.holds Try.pinned (OpenSpec.ofChange liftAllsWrong)

/-- 'scholiumlaw10.TeleArounds': WHATEVER THE INPUT: true; the input reads as it did. -/
def teleAroundsSpec : ChangeSpec := { name := "teleArounds", fn := fun _ => fun
  | [d1, d2] => { results := [.lit (.bool true)], args := [d1, d2] }
  | _ => none }
def teleAroundsRow : OpenClaim := { program := "ythjlfjaciigfiaa", sum := "b23e377a011813ee7070ff1a553489604e2097fb2a48b89be78b4dcac30d9b65", func := "scholium/scholiumlaw10.TeleArounds", spec := "teleArounds", unfollowed := true, recurses := true, loops := true, apart := false }
def TeleAroundsSaid : Prop := teleAroundsRow.holds Try.pinned (OpenSpec.ofChange teleAroundsSpec)

/-- ITS FALSE NEIGHBOUR: 'it returns false'. Refute it at one input. -/
def teleAroundsWrong : ChangeSpec := { name := "teleArounds", fn := fun _ => fun
  | [d1, d2] => { results := [.lit (.bool false)], args := [d1, d2] }
  | _ => none }
def TeleAroundsWrongFalsely : Prop := teleAroundsRow.holds Try.pinned (OpenSpec.ofChange teleAroundsWrong)

/-- 'scholiumlaw08.LiftLowers': WHATEVER THE INPUT: true; the input reads as it did. -/
def liftLowersSpec : ChangeSpec := { name := "liftLowers", fn := fun _ => fun
  | [d1, d2, d3] => { results := [.lit (.bool true)], args := [d1, d2, d3] }
  | _ => none }
def liftLowersRow : OpenClaim := { program := "ythjlfjaciigfiaa", sum := "b23e377a011813ee7070ff1a553489604e2097fb2a48b89be78b4dcac30d9b65", func := "scholium/scholiumlaw08.LiftLowers", spec := "liftLowers", unfollowed := true, recurses := true, loops := true, apart := false }
def LiftLowersSaid : Prop := liftLowersRow.holds Try.pinned (OpenSpec.ofChange liftLowersSpec)

/-- ITS FALSE NEIGHBOUR: 'it returns false'. Refute it at one input. -/
def liftLowersWrong : ChangeSpec := { name := "liftLowers", fn := fun _ => fun
  | [d1, d2, d3] => { results := [.lit (.bool false)], args := [d1, d2, d3] }
  | _ => none }
def LiftLowersWrongFalsely : Prop := liftLowersRow.holds Try.pinned (OpenSpec.ofChange liftLowersWrong)

/-- 'scholiumlaw08.LiftBack': WHATEVER THE INPUT: true; the input reads as it did. -/
def liftBackSpec : ChangeSpec := { name := "liftBack", fn := fun _ => fun
  | [d1, d2, d3] => { results := [.lit (.bool true)], args := [d1, d2, d3] }
  | _ => none }
def liftBackRow : OpenClaim := { program := "ythjlfjaciigfiaa", sum := "b23e377a011813ee7070ff1a553489604e2097fb2a48b89be78b4dcac30d9b65", func := "scholium/scholiumlaw08.LiftBack", spec := "liftBack", unfollowed := true, recurses := true, loops := true, apart := false }
def LiftBackSaid : Prop := liftBackRow.holds Try.pinned (OpenSpec.ofChange liftBackSpec)

/-- ITS FALSE NEIGHBOUR: 'it returns false'. Refute it at one input. -/
def liftBackWrong : ChangeSpec := { name := "liftBack", fn := fun _ => fun
  | [d1, d2, d3] => { results := [.lit (.bool false)], args := [d1, d2, d3] }
  | _ => none }
def LiftBackWrongFalsely : Prop := liftBackRow.holds Try.pinned (OpenSpec.ofChange liftBackWrong)

/-- 'scholiumlaw08.LiftSwaps': WHATEVER THE INPUT: true; the input reads as it did. -/
def liftSwapsSpec : ChangeSpec := { name := "liftSwaps", fn := fun _ => fun
  | [d1, d2] => { results := [.lit (.bool true)], args := [d1, d2] }
  | _ => none }
def liftSwapsRow : OpenClaim := { program := "ythjlfjaciigfiaa", sum := "b23e377a011813ee7070ff1a553489604e2097fb2a48b89be78b4dcac30d9b65", func := "scholium/scholiumlaw08.LiftSwaps", spec := "liftSwaps", unfollowed := true, recurses := true, loops := true, apart := false }
def LiftSwapsSaid : Prop := liftSwapsRow.holds Try.pinned (OpenSpec.ofChange liftSwapsSpec)

/-- ITS FALSE NEIGHBOUR: 'it returns false'. Refute it at one input. -/
def liftSwapsWrong : ChangeSpec := { name := "liftSwaps", fn := fun _ => fun
  | [d1, d2] => { results := [.lit (.bool false)], args := [d1, d2] }
  | _ => none }
def LiftSwapsWrongFalsely : Prop := liftSwapsRow.holds Try.pinned (OpenSpec.ofChange liftSwapsWrong)

/-- 'scholiumlaw10.TeleSplits': WHATEVER THE INPUT: true; the input reads as it did. -/
def teleSplitsSpec : ChangeSpec := { name := "teleSplits", fn := fun _ => fun
  | [d1, d2] => { results := [.lit (.bool true)], args := [d1, d2] }
  | _ => none }
def teleSplitsRow : OpenClaim := { program := "ythjlfjaciigfiaa", sum := "b23e377a011813ee7070ff1a553489604e2097fb2a48b89be78b4dcac30d9b65", func := "scholium/scholiumlaw10.TeleSplits", spec := "teleSplits", unfollowed := true, recurses := true, loops := true, apart := false }
def TeleSplitsSaid : Prop := teleSplitsRow.holds Try.pinned (OpenSpec.ofChange teleSplitsSpec)

/-- ITS FALSE NEIGHBOUR: 'it returns false'. Refute it at one input. -/
def teleSplitsWrong : ChangeSpec := { name := "teleSplits", fn := fun _ => fun
  | [d1, d2] => { results := [.lit (.bool false)], args := [d1, d2] }
  | _ => none }
def TeleSplitsWrongFalsely : Prop := teleSplitsRow.holds Try.pinned (OpenSpec.ofChange teleSplitsWrong)

/-- 'scholiumlaw09.SubstManies': WHATEVER THE INPUT: true; the input reads as it did. -/
def substManiesSpec : ChangeSpec := { name := "substManies", fn := fun _ => fun
  | [d1, d2] => { results := [.lit (.bool true)], args := [d1, d2] }
  | _ => none }
def substManiesRow : OpenClaim := { program := "ythjlfjaciigfiaa", sum := "b23e377a011813ee7070ff1a553489604e2097fb2a48b89be78b4dcac30d9b65", func := "scholium/scholiumlaw09.SubstManies", spec := "substManies", unfollowed := true, recurses := true, loops := true, apart := false }
def SubstManiesSaid : Prop := substManiesRow.holds Try.pinned (OpenSpec.ofChange substManiesSpec)

/-- ITS FALSE NEIGHBOUR: 'it returns false'. Refute it at one input. -/
def substManiesWrong : ChangeSpec := { name := "substManies", fn := fun _ => fun
  | [d1, d2] => { results := [.lit (.bool false)], args := [d1, d2] }
  | _ => none }
def SubstManiesWrongFalsely : Prop := substManiesRow.holds Try.pinned (OpenSpec.ofChange substManiesWrong)

/-- 'scholiumlaw09.SubstLifted': WHATEVER THE INPUT: true; the input reads as it did. -/
def substLiftedSpec : ChangeSpec := { name := "substLifted", fn := fun _ => fun
  | [d1, d2] => { results := [.lit (.bool true)], args := [d1, d2] }
  | _ => none }
def substLiftedRow : OpenClaim := { program := "ythjlfjaciigfiaa", sum := "b23e377a011813ee7070ff1a553489604e2097fb2a48b89be78b4dcac30d9b65", func := "scholium/scholiumlaw09.SubstLifted", spec := "substLifted", unfollowed := true, recurses := true, loops := true, apart := false }
def SubstLiftedSaid : Prop := substLiftedRow.holds Try.pinned (OpenSpec.ofChange substLiftedSpec)

/-- ITS FALSE NEIGHBOUR: 'it returns false'. Refute it at one input. -/
def substLiftedWrong : ChangeSpec := { name := "substLifted", fn := fun _ => fun
  | [d1, d2] => { results := [.lit (.bool false)], args := [d1, d2] }
  | _ => none }
def SubstLiftedWrongFalsely : Prop := substLiftedRow.holds Try.pinned (OpenSpec.ofChange substLiftedWrong)

/-- 'scholiumlaw09.SubstLimits': WHATEVER THE INPUT: true; the input reads as it did. -/
def substLimitsSpec : ChangeSpec := { name := "substLimits", fn := fun _ => fun
  | [d] => { results := [.lit (.bool true)], args := [d] }
  | _ => none }
def substLimitsRow : OpenClaim := { program := "ythjlfjaciigfiaa", sum := "b23e377a011813ee7070ff1a553489604e2097fb2a48b89be78b4dcac30d9b65", func := "scholium/scholiumlaw09.SubstLimits", spec := "substLimits", unfollowed := true, recurses := true, apart := false }
def SubstLimitsSaid : Prop := substLimitsRow.holds Try.pinned (OpenSpec.ofChange substLimitsSpec)

/-- ITS FALSE NEIGHBOUR: 'it returns false'. Refute it at one input. -/
def substLimitsWrong : ChangeSpec := { name := "substLimits", fn := fun _ => fun
  | [d] => { results := [.lit (.bool false)], args := [d] }
  | _ => none }
def SubstLimitsWrongFalsely : Prop := substLimitsRow.holds Try.pinned (OpenSpec.ofChange substLimitsWrong)

/-- 'scholiumlaw09.SubstAlls': WHATEVER THE INPUT: true; the input reads as it did. -/
def substAllsSpec : ChangeSpec := { name := "substAlls", fn := fun _ => fun
  | [d1, d2] => { results := [.lit (.bool true)], args := [d1, d2] }
  | _ => none }
def substAllsRow : OpenClaim := { program := "ythjlfjaciigfiaa", sum := "b23e377a011813ee7070ff1a553489604e2097fb2a48b89be78b4dcac30d9b65", func := "scholium/scholiumlaw09.SubstAlls", spec := "substAlls", unfollowed := true, recurses := true, loops := true, apart := false }
def SubstAllsSaid : Prop := substAllsRow.holds Try.pinned (OpenSpec.ofChange substAllsSpec)

/-- ITS FALSE NEIGHBOUR: 'it returns false'. Refute it at one input. -/
def substAllsWrong : ChangeSpec := { name := "substAlls", fn := fun _ => fun
  | [d1, d2] => { results := [.lit (.bool false)], args := [d1, d2] }
  | _ => none }
def SubstAllsWrongFalsely : Prop := substAllsRow.holds Try.pinned (OpenSpec.ofChange substAllsWrong)

/-- 'scholiumlaw09.SubstAts': WHATEVER THE INPUT: true; the input reads as it did. -/
def substAtsSpec : ChangeSpec := { name := "substAts", fn := fun _ => fun
  | [d1, d2, d3] => { results := [.lit (.bool true)], args := [d1, d2, d3] }
  | _ => none }
def substAtsRow : OpenClaim := { program := "ythjlfjaciigfiaa", sum := "b23e377a011813ee7070ff1a553489604e2097fb2a48b89be78b4dcac30d9b65", func := "scholium/scholiumlaw09.SubstAts", spec := "substAts", unfollowed := true, recurses := true, loops := true, apart := false }
def SubstAtsSaid : Prop := substAtsRow.holds Try.pinned (OpenSpec.ofChange substAtsSpec)

/-- ITS FALSE NEIGHBOUR: 'it returns false'. Refute it at one input. -/
def substAtsWrong : ChangeSpec := { name := "substAts", fn := fun _ => fun
  | [d1, d2, d3] => { results := [.lit (.bool false)], args := [d1, d2, d3] }
  | _ => none }
def SubstAtsWrongFalsely : Prop := substAtsRow.holds Try.pinned (OpenSpec.ofChange substAtsWrong)

/-- 'scholiumlaw09.SubstTwice': WHATEVER THE INPUT: true; the input reads as it did. -/
def substTwiceSpec : ChangeSpec := { name := "substTwice", fn := fun _ => fun
  | [d1, d2, d3] => { results := [.lit (.bool true)], args := [d1, d2, d3] }
  | _ => none }
def substTwiceRow : OpenClaim := { program := "ythjlfjaciigfiaa", sum := "b23e377a011813ee7070ff1a553489604e2097fb2a48b89be78b4dcac30d9b65", func := "scholium/scholiumlaw09.SubstTwice", spec := "substTwice", unfollowed := true, recurses := true, loops := true, apart := false }
def SubstTwiceSaid : Prop := substTwiceRow.holds Try.pinned (OpenSpec.ofChange substTwiceSpec)

/-- ITS FALSE NEIGHBOUR: 'it returns false'. Refute it at one input. -/
def substTwiceWrong : ChangeSpec := { name := "substTwice", fn := fun _ => fun
  | [d1, d2, d3] => { results := [.lit (.bool false)], args := [d1, d2, d3] }
  | _ => none }
def SubstTwiceWrongFalsely : Prop := substTwiceRow.holds Try.pinned (OpenSpec.ofChange substTwiceWrong)

/-- 'scholiumlaw09.SubstBack': WHATEVER THE INPUT: true; the input reads as it did. -/
def substBackSpec : ChangeSpec := { name := "substBack", fn := fun _ => fun
  | [d1, d2] => { results := [.lit (.bool true)], args := [d1, d2] }
  | _ => none }
def substBackRow : OpenClaim := { program := "ythjlfjaciigfiaa", sum := "b23e377a011813ee7070ff1a553489604e2097fb2a48b89be78b4dcac30d9b65", func := "scholium/scholiumlaw09.SubstBack", spec := "substBack", unfollowed := true, recurses := true, loops := true, apart := false }
def SubstBackSaid : Prop := substBackRow.holds Try.pinned (OpenSpec.ofChange substBackSpec)

/-- ITS FALSE NEIGHBOUR: 'it returns false'. Refute it at one input. -/
def substBackWrong : ChangeSpec := { name := "substBack", fn := fun _ => fun
  | [d1, d2] => { results := [.lit (.bool false)], args := [d1, d2] }
  | _ => none }
def SubstBackWrongFalsely : Prop := substBackRow.holds Try.pinned (OpenSpec.ofChange substBackWrong)

/-- 'scholiumlaw09.SubstNames': WHATEVER THE INPUT: true; the input reads as it did. -/
def substNamesSpec : ChangeSpec := { name := "substNames", fn := fun _ => fun
  | [d1, d2, d3] => { results := [.lit (.bool true)], args := [d1, d2, d3] }
  | _ => none }
def substNamesRow : OpenClaim := { program := "ythjlfjaciigfiaa", sum := "b23e377a011813ee7070ff1a553489604e2097fb2a48b89be78b4dcac30d9b65", func := "scholium/scholiumlaw09.SubstNames", spec := "substNames", unfollowed := true, recurses := true, loops := true, apart := false }
def SubstNamesSaid : Prop := substNamesRow.holds Try.pinned (OpenSpec.ofChange substNamesSpec)

/-- ITS FALSE NEIGHBOUR: 'it returns false'. Refute it at one input. -/
def substNamesWrong : ChangeSpec := { name := "substNames", fn := fun _ => fun
  | [d1, d2, d3] => { results := [.lit (.bool false)], args := [d1, d2, d3] }
  | _ => none }
def SubstNamesWrongFalsely : Prop := substNamesRow.holds Try.pinned (OpenSpec.ofChange substNamesWrong)

/-- 'scholiumlaw10.TeleResults': WHATEVER THE INPUT: true; the input reads as it did. -/
def teleResultsSpec : ChangeSpec := { name := "teleResults", fn := fun _ => fun
  | [d1, d2] => { results := [.lit (.bool true)], args := [d1, d2] }
  | _ => none }
def teleResultsRow : OpenClaim := { program := "ythjlfjaciigfiaa", sum := "b23e377a011813ee7070ff1a553489604e2097fb2a48b89be78b4dcac30d9b65", func := "scholium/scholiumlaw10.TeleResults", spec := "teleResults", unfollowed := true, recurses := true, loops := true, apart := false }
def TeleResultsSaid : Prop := teleResultsRow.holds Try.pinned (OpenSpec.ofChange teleResultsSpec)

/-- ITS FALSE NEIGHBOUR: 'it returns false'. Refute it at one input. -/
def teleResultsWrong : ChangeSpec := { name := "teleResults", fn := fun _ => fun
  | [d1, d2] => { results := [.lit (.bool false)], args := [d1, d2] }
  | _ => none }
def TeleResultsWrongFalsely : Prop := teleResultsRow.holds Try.pinned (OpenSpec.ofChange teleResultsWrong)

/-- 'scholiumlaw10.TeleSelf': WHATEVER THE INPUT: true; the input reads as it did. -/
def teleSelfSpec : ChangeSpec := { name := "teleSelf", fn := fun _ => fun
  | [d1, d2] => { results := [.lit (.bool true)], args := [d1, d2] }
  | _ => none }
def teleSelfRow : OpenClaim := { program := "ythjlfjaciigfiaa", sum := "b23e377a011813ee7070ff1a553489604e2097fb2a48b89be78b4dcac30d9b65", func := "scholium/scholiumlaw10.TeleSelf", spec := "teleSelf", unfollowed := true, recurses := true, loops := true, apart := false }
def TeleSelfSaid : Prop := teleSelfRow.holds Try.pinned (OpenSpec.ofChange teleSelfSpec)

/-- ITS FALSE NEIGHBOUR: 'it returns false'. Refute it at one input. -/
def teleSelfWrong : ChangeSpec := { name := "teleSelf", fn := fun _ => fun
  | [d1, d2] => { results := [.lit (.bool false)], args := [d1, d2] }
  | _ => none }
def TeleSelfWrongFalsely : Prop := teleSelfRow.holds Try.pinned (OpenSpec.ofChange teleSelfWrong)

/-- 'scholiumlaw10.TeleTypes': WHATEVER THE INPUT: true; the input reads as it did. -/
def teleTypesSpec : ChangeSpec := { name := "teleTypes", fn := fun _ => fun
  | [d1, d2, d3] => { results := [.lit (.bool true)], args := [d1, d2, d3] }
  | _ => none }
def teleTypesRow : OpenClaim := { program := "ythjlfjaciigfiaa", sum := "b23e377a011813ee7070ff1a553489604e2097fb2a48b89be78b4dcac30d9b65", func := "scholium/scholiumlaw10.TeleTypes", spec := "teleTypes", unfollowed := true, recurses := true, loops := true, apart := false }
def TeleTypesSaid : Prop := teleTypesRow.holds Try.pinned (OpenSpec.ofChange teleTypesSpec)

/-- ITS FALSE NEIGHBOUR: 'it returns false'. Refute it at one input. -/
def teleTypesWrong : ChangeSpec := { name := "teleTypes", fn := fun _ => fun
  | [d1, d2, d3] => { results := [.lit (.bool false)], args := [d1, d2, d3] }
  | _ => none }
def TeleTypesWrongFalsely : Prop := teleTypesRow.holds Try.pinned (OpenSpec.ofChange teleTypesWrong)

/-- 'scholiumlaw10.TeleBack': WHATEVER THE INPUT: true; the input reads as it did. -/
def teleBackSpec : ChangeSpec := { name := "teleBack", fn := fun _ => fun
  | [d1, d2, d3] => { results := [.lit (.bool true)], args := [d1, d2, d3] }
  | _ => none }
def teleBackRow : OpenClaim := { program := "ythjlfjaciigfiaa", sum := "b23e377a011813ee7070ff1a553489604e2097fb2a48b89be78b4dcac30d9b65", func := "scholium/scholiumlaw10.TeleBack", spec := "teleBack", unfollowed := true, recurses := true, loops := true, apart := false }
def TeleBackSaid : Prop := teleBackRow.holds Try.pinned (OpenSpec.ofChange teleBackSpec)

/-- ITS FALSE NEIGHBOUR: 'it returns false'. Refute it at one input. -/
def teleBackWrong : ChangeSpec := { name := "teleBack", fn := fun _ => fun
  | [d1, d2, d3] => { results := [.lit (.bool false)], args := [d1, d2, d3] }
  | _ => none }
def TeleBackWrongFalsely : Prop := teleBackRow.holds Try.pinned (OpenSpec.ofChange teleBackWrong)

/- THE SECOND FORM. 'bulk': how many values and letters a reading holds, each counted each time it is reached (what is shared counts as often as it is met; a slice's spare places count too). A statement '..UptoSaid' is the law's where the arguments, and the package variables that the reading takes, are together of bulk at most 1048576: NARROWER than '..Said'. Prove '..Said' where nothing that the law and all that it calls make is longer than what came in: it says more and counts as full. Else prove '..UptoSaid'. A law counts once. -/
mutual
def uptoBulk {H : Type} : DataW H → Nat
  | .lit (.string bytes) => bytes.length + 1
  | .lit _ => 1
  | .nil => 1
  | .ptr d => uptoBulk d + 1
  | .slice elems spare => uptoBulkAll elems + uptoBulkAll spare + 1
  | .agg parts => uptoBulkAll parts + 1
  | .iface _ d => uptoBulk d + 1
  | .map entries => uptoBulkEntries entries + 1
  | .held _ => 1
def uptoBulkAll {H : Type} : List (DataW H) → Nat
  | [] => 0
  | d :: r => uptoBulk d + uptoBulkAll r
def uptoBulkEntries {H : Type} : List (Lit × DataW H) → Nat
  | [] => 0
  | x :: r => uptoBulkEntry x + uptoBulkEntries r
def uptoBulkEntry {H : Type} : Lit × DataW H → Nat
  | (.string bytes, d) => bytes.length + uptoBulk d + 1
  | (_, d) => uptoBulk d + 1
 end
def uptoSmall : (H : Type) → List (DataW H) → Bool := fun _ ds => decide (uptoBulkAll ds ≤ 1048576)
def OpenSpec.upto (s : _root_.Go.ChangeSpec) : _root_.Go.OpenSpec := { _root_.Go.OpenSpec.ofChange s with cond := some uptoSmall }

/-- 'scholiumlaw08.LiftLifts', WHERE WHAT IT READS IS OF BULK AT MOST 1048576: true; the input reads as it did. -/
def liftLiftsUptoRow : OpenClaim := { program := "ythjlfjaciigfiaa", sum := "b23e377a011813ee7070ff1a553489604e2097fb2a48b89be78b4dcac30d9b65", func := "scholium/scholiumlaw08.LiftLifts", spec := "liftLifts", unfollowed := true, recurses := true, loops := true, apart := false, narrowed := true }
def LiftLiftsUptoSaid : Prop := liftLiftsUptoRow.holds Try.pinned (OpenSpec.upto liftLiftsSpec)

/-- 'scholiumlaw08.LiftAdds', WHERE WHAT IT READS IS OF BULK AT MOST 1048576: true; the input reads as it did. -/
def liftAddsUptoRow : OpenClaim := { program := "ythjlfjaciigfiaa", sum := "b23e377a011813ee7070ff1a553489604e2097fb2a48b89be78b4dcac30d9b65", func := "scholium/scholiumlaw08.LiftAdds", spec := "liftAdds", unfollowed := true, recurses := true, loops := true, apart := false, narrowed := true }
def LiftAddsUptoSaid : Prop := liftAddsUptoRow.holds Try.pinned (OpenSpec.upto liftAddsSpec)

/-- 'scholiumlaw08.LiftAlls', WHERE WHAT IT READS IS OF BULK AT MOST 1048576: true; the input reads as it did. -/
def liftAllsUptoRow : OpenClaim := { program := "ythjlfjaciigfiaa", sum := "b23e377a011813ee7070ff1a553489604e2097fb2a48b89be78b4dcac30d9b65", func := "scholium/scholiumlaw08.LiftAlls", spec := "liftAlls", unfollowed := true, recurses := true, loops := true, apart := false, narrowed := true }
def LiftAllsUptoSaid : Prop := liftAllsUptoRow.holds Try.pinned (OpenSpec.upto liftAllsSpec)

/-- 'scholiumlaw10.TeleArounds', WHERE WHAT IT READS IS OF BULK AT MOST 1048576: true; the input reads as it did. -/
def teleAroundsUptoRow : OpenClaim := { program := "ythjlfjaciigfiaa", sum := "b23e377a011813ee7070ff1a553489604e2097fb2a48b89be78b4dcac30d9b65", func := "scholium/scholiumlaw10.TeleArounds", spec := "teleArounds", unfollowed := true, recurses := true, loops := true, apart := false, narrowed := true }
def TeleAroundsUptoSaid : Prop := teleAroundsUptoRow.holds Try.pinned (OpenSpec.upto teleAroundsSpec)

/-- 'scholiumlaw08.LiftLowers', WHERE WHAT IT READS IS OF BULK AT MOST 1048576: true; the input reads as it did. -/
def liftLowersUptoRow : OpenClaim := { program := "ythjlfjaciigfiaa", sum := "b23e377a011813ee7070ff1a553489604e2097fb2a48b89be78b4dcac30d9b65", func := "scholium/scholiumlaw08.LiftLowers", spec := "liftLowers", unfollowed := true, recurses := true, loops := true, apart := false, narrowed := true }
def LiftLowersUptoSaid : Prop := liftLowersUptoRow.holds Try.pinned (OpenSpec.upto liftLowersSpec)

/-- 'scholiumlaw08.LiftBack', WHERE WHAT IT READS IS OF BULK AT MOST 1048576: true; the input reads as it did. -/
def liftBackUptoRow : OpenClaim := { program := "ythjlfjaciigfiaa", sum := "b23e377a011813ee7070ff1a553489604e2097fb2a48b89be78b4dcac30d9b65", func := "scholium/scholiumlaw08.LiftBack", spec := "liftBack", unfollowed := true, recurses := true, loops := true, apart := false, narrowed := true }
def LiftBackUptoSaid : Prop := liftBackUptoRow.holds Try.pinned (OpenSpec.upto liftBackSpec)

/-- 'scholiumlaw08.LiftSwaps', WHERE WHAT IT READS IS OF BULK AT MOST 1048576: true; the input reads as it did. -/
def liftSwapsUptoRow : OpenClaim := { program := "ythjlfjaciigfiaa", sum := "b23e377a011813ee7070ff1a553489604e2097fb2a48b89be78b4dcac30d9b65", func := "scholium/scholiumlaw08.LiftSwaps", spec := "liftSwaps", unfollowed := true, recurses := true, loops := true, apart := false, narrowed := true }
def LiftSwapsUptoSaid : Prop := liftSwapsUptoRow.holds Try.pinned (OpenSpec.upto liftSwapsSpec)

/-- 'scholiumlaw10.TeleSplits', WHERE WHAT IT READS IS OF BULK AT MOST 1048576: true; the input reads as it did. -/
def teleSplitsUptoRow : OpenClaim := { program := "ythjlfjaciigfiaa", sum := "b23e377a011813ee7070ff1a553489604e2097fb2a48b89be78b4dcac30d9b65", func := "scholium/scholiumlaw10.TeleSplits", spec := "teleSplits", unfollowed := true, recurses := true, loops := true, apart := false, narrowed := true }
def TeleSplitsUptoSaid : Prop := teleSplitsUptoRow.holds Try.pinned (OpenSpec.upto teleSplitsSpec)

/-- 'scholiumlaw09.SubstManies', WHERE WHAT IT READS IS OF BULK AT MOST 1048576: true; the input reads as it did. -/
def substManiesUptoRow : OpenClaim := { program := "ythjlfjaciigfiaa", sum := "b23e377a011813ee7070ff1a553489604e2097fb2a48b89be78b4dcac30d9b65", func := "scholium/scholiumlaw09.SubstManies", spec := "substManies", unfollowed := true, recurses := true, loops := true, apart := false, narrowed := true }
def SubstManiesUptoSaid : Prop := substManiesUptoRow.holds Try.pinned (OpenSpec.upto substManiesSpec)

/-- 'scholiumlaw09.SubstLifted', WHERE WHAT IT READS IS OF BULK AT MOST 1048576: true; the input reads as it did. -/
def substLiftedUptoRow : OpenClaim := { program := "ythjlfjaciigfiaa", sum := "b23e377a011813ee7070ff1a553489604e2097fb2a48b89be78b4dcac30d9b65", func := "scholium/scholiumlaw09.SubstLifted", spec := "substLifted", unfollowed := true, recurses := true, loops := true, apart := false, narrowed := true }
def SubstLiftedUptoSaid : Prop := substLiftedUptoRow.holds Try.pinned (OpenSpec.upto substLiftedSpec)

/-- 'scholiumlaw09.SubstLimits', WHERE WHAT IT READS IS OF BULK AT MOST 1048576: true; the input reads as it did. -/
def substLimitsUptoRow : OpenClaim := { program := "ythjlfjaciigfiaa", sum := "b23e377a011813ee7070ff1a553489604e2097fb2a48b89be78b4dcac30d9b65", func := "scholium/scholiumlaw09.SubstLimits", spec := "substLimits", unfollowed := true, recurses := true, apart := false, narrowed := true }
def SubstLimitsUptoSaid : Prop := substLimitsUptoRow.holds Try.pinned (OpenSpec.upto substLimitsSpec)

/-- 'scholiumlaw09.SubstAlls', WHERE WHAT IT READS IS OF BULK AT MOST 1048576: true; the input reads as it did. -/
def substAllsUptoRow : OpenClaim := { program := "ythjlfjaciigfiaa", sum := "b23e377a011813ee7070ff1a553489604e2097fb2a48b89be78b4dcac30d9b65", func := "scholium/scholiumlaw09.SubstAlls", spec := "substAlls", unfollowed := true, recurses := true, loops := true, apart := false, narrowed := true }
def SubstAllsUptoSaid : Prop := substAllsUptoRow.holds Try.pinned (OpenSpec.upto substAllsSpec)

/-- 'scholiumlaw09.SubstAts', WHERE WHAT IT READS IS OF BULK AT MOST 1048576: true; the input reads as it did. -/
def substAtsUptoRow : OpenClaim := { program := "ythjlfjaciigfiaa", sum := "b23e377a011813ee7070ff1a553489604e2097fb2a48b89be78b4dcac30d9b65", func := "scholium/scholiumlaw09.SubstAts", spec := "substAts", unfollowed := true, recurses := true, loops := true, apart := false, narrowed := true }
def SubstAtsUptoSaid : Prop := substAtsUptoRow.holds Try.pinned (OpenSpec.upto substAtsSpec)

/-- 'scholiumlaw09.SubstTwice', WHERE WHAT IT READS IS OF BULK AT MOST 1048576: true; the input reads as it did. -/
def substTwiceUptoRow : OpenClaim := { program := "ythjlfjaciigfiaa", sum := "b23e377a011813ee7070ff1a553489604e2097fb2a48b89be78b4dcac30d9b65", func := "scholium/scholiumlaw09.SubstTwice", spec := "substTwice", unfollowed := true, recurses := true, loops := true, apart := false, narrowed := true }
def SubstTwiceUptoSaid : Prop := substTwiceUptoRow.holds Try.pinned (OpenSpec.upto substTwiceSpec)

/-- 'scholiumlaw09.SubstBack', WHERE WHAT IT READS IS OF BULK AT MOST 1048576: true; the input reads as it did. -/
def substBackUptoRow : OpenClaim := { program := "ythjlfjaciigfiaa", sum := "b23e377a011813ee7070ff1a553489604e2097fb2a48b89be78b4dcac30d9b65", func := "scholium/scholiumlaw09.SubstBack", spec := "substBack", unfollowed := true, recurses := true, loops := true, apart := false, narrowed := true }
def SubstBackUptoSaid : Prop := substBackUptoRow.holds Try.pinned (OpenSpec.upto substBackSpec)

/-- 'scholiumlaw09.SubstNames', WHERE WHAT IT READS IS OF BULK AT MOST 1048576: true; the input reads as it did. -/
def substNamesUptoRow : OpenClaim := { program := "ythjlfjaciigfiaa", sum := "b23e377a011813ee7070ff1a553489604e2097fb2a48b89be78b4dcac30d9b65", func := "scholium/scholiumlaw09.SubstNames", spec := "substNames", unfollowed := true, recurses := true, loops := true, apart := false, narrowed := true }
def SubstNamesUptoSaid : Prop := substNamesUptoRow.holds Try.pinned (OpenSpec.upto substNamesSpec)

/-- 'scholiumlaw10.TeleResults', WHERE WHAT IT READS IS OF BULK AT MOST 1048576: true; the input reads as it did. -/
def teleResultsUptoRow : OpenClaim := { program := "ythjlfjaciigfiaa", sum := "b23e377a011813ee7070ff1a553489604e2097fb2a48b89be78b4dcac30d9b65", func := "scholium/scholiumlaw10.TeleResults", spec := "teleResults", unfollowed := true, recurses := true, loops := true, apart := false, narrowed := true }
def TeleResultsUptoSaid : Prop := teleResultsUptoRow.holds Try.pinned (OpenSpec.upto teleResultsSpec)

/-- 'scholiumlaw10.TeleSelf', WHERE WHAT IT READS IS OF BULK AT MOST 1048576: true; the input reads as it did. -/
def teleSelfUptoRow : OpenClaim := { program := "ythjlfjaciigfiaa", sum := "b23e377a011813ee7070ff1a553489604e2097fb2a48b89be78b4dcac30d9b65", func := "scholium/scholiumlaw10.TeleSelf", spec := "teleSelf", unfollowed := true, recurses := true, loops := true, apart := false, narrowed := true }
def TeleSelfUptoSaid : Prop := teleSelfUptoRow.holds Try.pinned (OpenSpec.upto teleSelfSpec)

/-- 'scholiumlaw10.TeleTypes', WHERE WHAT IT READS IS OF BULK AT MOST 1048576: true; the input reads as it did. -/
def teleTypesUptoRow : OpenClaim := { program := "ythjlfjaciigfiaa", sum := "b23e377a011813ee7070ff1a553489604e2097fb2a48b89be78b4dcac30d9b65", func := "scholium/scholiumlaw10.TeleTypes", spec := "teleTypes", unfollowed := true, recurses := true, loops := true, apart := false, narrowed := true }
def TeleTypesUptoSaid : Prop := teleTypesUptoRow.holds Try.pinned (OpenSpec.upto teleTypesSpec)

/-- 'scholiumlaw10.TeleBack', WHERE WHAT IT READS IS OF BULK AT MOST 1048576: true; the input reads as it did. -/
def teleBackUptoRow : OpenClaim := { program := "ythjlfjaciigfiaa", sum := "b23e377a011813ee7070ff1a553489604e2097fb2a48b89be78b4dcac30d9b65", func := "scholium/scholiumlaw10.TeleBack", spec := "teleBack", unfollowed := true, recurses := true, loops := true, apart := false, narrowed := true }
def TeleBackUptoSaid : Prop := teleBackUptoRow.holds Try.pinned (OpenSpec.upto teleBackSpec)

end Rows
end Go.Proofs.Ythjlfjaciigfiaa
