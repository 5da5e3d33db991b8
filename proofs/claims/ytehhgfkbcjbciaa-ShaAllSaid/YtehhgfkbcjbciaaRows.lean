/-
  No cell of these rows narrows 'for every input' (looked for: loops, veiled, ifaces, maps, wideKeys, modest, calm, conditions, laid).
  DERIVED. THE GIVEN ROWS OF THIS SEAT. 17 by the template 'for every input the law returns true; each argument reads behind the call as it read before'; 0 by the template 'total and deterministic' (their statements: YtehhgfkbcjbciaaTotals.lean).
  GIVEN WITH THE SEED: the statements are not yours to turn. If you find one false, say at which input.
  Laid BY PROGRAM, IN A SANDBOX (cutbox-rows.mjs): the forced cells as the released guide's own fill.sh prints them over the translation 0017ad9a57b0d3f1… (all of the seat's roots in one cut). By AI agents, Wed Nov 11 2026. No macro, syntax, notation, axiom, sorry.
-/
import Derived.Test.YtehhgfkbcjbciaaChecked
import GoSem.Claim
import GoSem.ClaimJoined
import GoSem.ClaimMapViews
import Derived.JoinedTies
import Derived.KernelRfl
namespace Go.Proofs.Ytehhgfkbcjbciaa
/- THE CELL 'sum', in the pinned program and in every row, IS THE sha256 OF THE DUMP (.gsa) THAT YtehhgfkbcjbciaaProg.lean LOADS. Nothing in Lean hashes anything: it is a label: what it is worth is what the hold of that sum in a sandbox is worth. -/
noncomputable def Try.pinned : Pinned := { name := "ytehhgfkbcjbciaa", sum := "0017ad9a57b0d3f1838b3ca0325c561b7b1e4416748b9f55a76bfbf172db199e", checked := Try.checked }
namespace Rows
def none {H : Type} : Left H := { results := [], args := [] }

/-- 'stillroomlaw0.Names': WHATEVER THE INPUT: true; the input reads as it did. -/
def namesSpec : ChangeSpec := { name := "names", fn := fun _ => fun
  | [] => { results := [.lit (.bool true)], args := [] }
  | _ => none }
def namesRow : OpenClaim := { program := "ytehhgfkbcjbciaa", sum := "0017ad9a57b0d3f1838b3ca0325c561b7b1e4416748b9f55a76bfbf172db199e", func := "stillroom/stillroomlaw0.Names", spec := "names", apart := false }
def NamesSaid : Prop := namesRow.holds Try.pinned (OpenSpec.ofChange namesSpec)

/-- ITS FALSE NEIGHBOUR: 'it returns false'. Refute it at one input. -/
def namesWrong : ChangeSpec := { name := "names", fn := fun _ => fun
  | [] => { results := [.lit (.bool false)], args := [] }
  | _ => none }
def NamesWrongFalsely : Prop := namesRow.holds Try.pinned (OpenSpec.ofChange namesWrong)

/-- 'stillroomlaw1.CrcMany': WHATEVER THE INPUT: true; the input reads as it did. -/
def crcManySpec : ChangeSpec := { name := "crcMany", fn := fun _ => fun
  | [d1, d2] => { results := [.lit (.bool true)], args := [d1, d2] }
  | _ => none }
def crcManyRow : OpenClaim := { program := "ytehhgfkbcjbciaa", sum := "0017ad9a57b0d3f1838b3ca0325c561b7b1e4416748b9f55a76bfbf172db199e", func := "stillroom/stillroomlaw1.CrcMany", spec := "crcMany", apart := false }
def CrcManySaid : Prop := crcManyRow.holds Try.pinned (OpenSpec.ofChange crcManySpec)

/-- ITS FALSE NEIGHBOUR: 'it returns false'. Refute it at one input. -/
def crcManyWrong : ChangeSpec := { name := "crcMany", fn := fun _ => fun
  | [d1, d2] => { results := [.lit (.bool false)], args := [d1, d2] }
  | _ => none }
def CrcManyWrongFalsely : Prop := crcManyRow.holds Try.pinned (OpenSpec.ofChange crcManyWrong)

/-- 'stillroomlaw1.CrcAll': WHATEVER THE INPUT: true; the input reads as it did. -/
def crcAllSpec : ChangeSpec := { name := "crcAll", fn := fun _ => fun
  | [d1, d2] => { results := [.lit (.bool true)], args := [d1, d2] }
  | _ => none }
def crcAllRow : OpenClaim := { program := "ytehhgfkbcjbciaa", sum := "0017ad9a57b0d3f1838b3ca0325c561b7b1e4416748b9f55a76bfbf172db199e", func := "stillroom/stillroomlaw1.CrcAll", spec := "crcAll", apart := false }
def CrcAllSaid : Prop := crcAllRow.holds Try.pinned (OpenSpec.ofChange crcAllSpec)

/-- ITS FALSE NEIGHBOUR: 'it returns false'. Refute it at one input. -/
def crcAllWrong : ChangeSpec := { name := "crcAll", fn := fun _ => fun
  | [d1, d2] => { results := [.lit (.bool false)], args := [d1, d2] }
  | _ => none }
def CrcAllWrongFalsely : Prop := crcAllRow.holds Try.pinned (OpenSpec.ofChange crcAllWrong)

/-- 'stillroomlaw1.CrcBurst': WHATEVER THE INPUT: true; the input reads as it did. -/
def crcBurstSpec : ChangeSpec := { name := "crcBurst", fn := fun _ => fun
  | [d1, d2, d3] => { results := [.lit (.bool true)], args := [d1, d2, d3] }
  | _ => none }
def crcBurstRow : OpenClaim := { program := "ytehhgfkbcjbciaa", sum := "0017ad9a57b0d3f1838b3ca0325c561b7b1e4416748b9f55a76bfbf172db199e", func := "stillroom/stillroomlaw1.CrcBurst", spec := "crcBurst", apart := false }
def CrcBurstSaid : Prop := crcBurstRow.holds Try.pinned (OpenSpec.ofChange crcBurstSpec)

/-- ITS FALSE NEIGHBOUR: 'it returns false'. Refute it at one input. -/
def crcBurstWrong : ChangeSpec := { name := "crcBurst", fn := fun _ => fun
  | [d1, d2, d3] => { results := [.lit (.bool false)], args := [d1, d2, d3] }
  | _ => none }
def CrcBurstWrongFalsely : Prop := crcBurstRow.holds Try.pinned (OpenSpec.ofChange crcBurstWrong)

/-- 'stillroomlaw1.CrcThree': WHATEVER THE INPUT: true; the input reads as it did. -/
def crcThreeSpec : ChangeSpec := { name := "crcThree", fn := fun _ => fun
  | [d1, d2, d3] => { results := [.lit (.bool true)], args := [d1, d2, d3] }
  | _ => none }
def crcThreeRow : OpenClaim := { program := "ytehhgfkbcjbciaa", sum := "0017ad9a57b0d3f1838b3ca0325c561b7b1e4416748b9f55a76bfbf172db199e", func := "stillroom/stillroomlaw1.CrcThree", spec := "crcThree", apart := false }
def CrcThreeSaid : Prop := crcThreeRow.holds Try.pinned (OpenSpec.ofChange crcThreeSpec)

/-- ITS FALSE NEIGHBOUR: 'it returns false'. Refute it at one input. -/
def crcThreeWrong : ChangeSpec := { name := "crcThree", fn := fun _ => fun
  | [d1, d2, d3] => { results := [.lit (.bool false)], args := [d1, d2, d3] }
  | _ => none }
def CrcThreeWrongFalsely : Prop := crcThreeRow.holds Try.pinned (OpenSpec.ofChange crcThreeWrong)

/-- 'stillroomlaw6.RecordBytes': WHATEVER THE INPUT: true; the input reads as it did. -/
def recordBytesSpec : ChangeSpec := { name := "recordBytes", fn := fun _ => fun
  | [d1, d2] => { results := [.lit (.bool true)], args := [d1, d2] }
  | _ => none }
def recordBytesRow : OpenClaim := { program := "ytehhgfkbcjbciaa", sum := "0017ad9a57b0d3f1838b3ca0325c561b7b1e4416748b9f55a76bfbf172db199e", func := "stillroom/stillroomlaw6.RecordBytes", spec := "recordBytes", apart := false }
def RecordBytesSaid : Prop := recordBytesRow.holds Try.pinned (OpenSpec.ofChange recordBytesSpec)

/-- ITS FALSE NEIGHBOUR: 'it returns false'. Refute it at one input. -/
def recordBytesWrong : ChangeSpec := { name := "recordBytes", fn := fun _ => fun
  | [d1, d2] => { results := [.lit (.bool false)], args := [d1, d2] }
  | _ => none }
def RecordBytesWrongFalsely : Prop := recordBytesRow.holds Try.pinned (OpenSpec.ofChange recordBytesWrong)

/-- 'stillroomlaw6.RecordEnds': WHATEVER THE INPUT: true; the input reads as it did. -/
def recordEndsSpec : ChangeSpec := { name := "recordEnds", fn := fun _ => fun
  | [d1, d2, d3, d4] => { results := [.lit (.bool true)], args := [d1, d2, d3, d4] }
  | _ => none }
def recordEndsRow : OpenClaim := { program := "ytehhgfkbcjbciaa", sum := "0017ad9a57b0d3f1838b3ca0325c561b7b1e4416748b9f55a76bfbf172db199e", func := "stillroom/stillroomlaw6.RecordEnds", spec := "recordEnds", apart := false }
def RecordEndsSaid : Prop := recordEndsRow.holds Try.pinned (OpenSpec.ofChange recordEndsSpec)

/-- ITS FALSE NEIGHBOUR: 'it returns false'. Refute it at one input. -/
def recordEndsWrong : ChangeSpec := { name := "recordEnds", fn := fun _ => fun
  | [d1, d2, d3, d4] => { results := [.lit (.bool false)], args := [d1, d2, d3, d4] }
  | _ => none }
def RecordEndsWrongFalsely : Prop := recordEndsRow.holds Try.pinned (OpenSpec.ofChange recordEndsWrong)

/-- 'stillroomlaw7.ScanAll': WHATEVER THE INPUT: true; the input reads as it did. -/
def scanAllSpec : ChangeSpec := { name := "scanAll", fn := fun _ => fun
  | [d1, d2, d3, d4] => { results := [.lit (.bool true)], args := [d1, d2, d3, d4] }
  | _ => none }
def scanAllRow : OpenClaim := { program := "ytehhgfkbcjbciaa", sum := "0017ad9a57b0d3f1838b3ca0325c561b7b1e4416748b9f55a76bfbf172db199e", func := "stillroom/stillroomlaw7.ScanAll", spec := "scanAll", apart := false }
def ScanAllSaid : Prop := scanAllRow.holds Try.pinned (OpenSpec.ofChange scanAllSpec)

/-- ITS FALSE NEIGHBOUR: 'it returns false'. Refute it at one input. -/
def scanAllWrong : ChangeSpec := { name := "scanAll", fn := fun _ => fun
  | [d1, d2, d3, d4] => { results := [.lit (.bool false)], args := [d1, d2, d3, d4] }
  | _ => none }
def ScanAllWrongFalsely : Prop := scanAllRow.holds Try.pinned (OpenSpec.ofChange scanAllWrong)

/-- 'stillroomlaw7.ScanBytes': WHATEVER THE INPUT: true; the input reads as it did. -/
def scanBytesSpec : ChangeSpec := { name := "scanBytes", fn := fun _ => fun
  | [d] => { results := [.lit (.bool true)], args := [d] }
  | _ => none }
def scanBytesRow : OpenClaim := { program := "ytehhgfkbcjbciaa", sum := "0017ad9a57b0d3f1838b3ca0325c561b7b1e4416748b9f55a76bfbf172db199e", func := "stillroom/stillroomlaw7.ScanBytes", spec := "scanBytes", apart := false }
def ScanBytesSaid : Prop := scanBytesRow.holds Try.pinned (OpenSpec.ofChange scanBytesSpec)

/-- ITS FALSE NEIGHBOUR: 'it returns false'. Refute it at one input. -/
def scanBytesWrong : ChangeSpec := { name := "scanBytes", fn := fun _ => fun
  | [d] => { results := [.lit (.bool false)], args := [d] }
  | _ => none }
def ScanBytesWrongFalsely : Prop := scanBytesRow.holds Try.pinned (OpenSpec.ofChange scanBytesWrong)

/-- 'stillroomlaw7.ScanInside': WHATEVER THE INPUT: true; the input reads as it did. -/
def scanInsideSpec : ChangeSpec := { name := "scanInside", fn := fun _ => fun
  | [d1, d2] => { results := [.lit (.bool true)], args := [d1, d2] }
  | _ => none }
def scanInsideRow : OpenClaim := { program := "ytehhgfkbcjbciaa", sum := "0017ad9a57b0d3f1838b3ca0325c561b7b1e4416748b9f55a76bfbf172db199e", func := "stillroom/stillroomlaw7.ScanInside", spec := "scanInside", apart := false }
def ScanInsideSaid : Prop := scanInsideRow.holds Try.pinned (OpenSpec.ofChange scanInsideSpec)

/-- ITS FALSE NEIGHBOUR: 'it returns false'. Refute it at one input. -/
def scanInsideWrong : ChangeSpec := { name := "scanInside", fn := fun _ => fun
  | [d1, d2] => { results := [.lit (.bool false)], args := [d1, d2] }
  | _ => none }
def ScanInsideWrongFalsely : Prop := scanInsideRow.holds Try.pinned (OpenSpec.ofChange scanInsideWrong)

/-- 'stillroomlaw2.ShaAll': WHATEVER THE INPUT: true; the input reads as it did. -/
def shaAllSpec : ChangeSpec := { name := "shaAll", fn := fun _ => fun
  | [d1, d2] => { results := [.lit (.bool true)], args := [d1, d2] }
  | _ => none }
def shaAllRow : OpenClaim := { program := "ytehhgfkbcjbciaa", sum := "0017ad9a57b0d3f1838b3ca0325c561b7b1e4416748b9f55a76bfbf172db199e", func := "stillroom/stillroomlaw2.ShaAll", spec := "shaAll", inPlace := ["internal/bytealg.IndexByteString"], recurses := true, apart := false }
def ShaAllSaid : Prop := shaAllRow.holds Try.pinned (OpenSpec.ofChange shaAllSpec)

/-- ITS FALSE NEIGHBOUR: 'it returns false'. Refute it at one input. -/
def shaAllWrong : ChangeSpec := { name := "shaAll", fn := fun _ => fun
  | [d1, d2] => { results := [.lit (.bool false)], args := [d1, d2] }
  | _ => none }
def ShaAllWrongFalsely : Prop := shaAllRow.holds Try.pinned (OpenSpec.ofChange shaAllWrong)

/-- 'stillroomlaw2.ShaParts': WHATEVER THE INPUT: true; the input reads as it did. -/
def shaPartsSpec : ChangeSpec := { name := "shaParts", fn := fun _ => fun
  | [d1, d2] => { results := [.lit (.bool true)], args := [d1, d2] }
  | _ => none }
def shaPartsRow : OpenClaim := { program := "ytehhgfkbcjbciaa", sum := "0017ad9a57b0d3f1838b3ca0325c561b7b1e4416748b9f55a76bfbf172db199e", func := "stillroom/stillroomlaw2.ShaParts", spec := "shaParts", inPlace := ["internal/bytealg.IndexByteString"], recurses := true, apart := false }
def ShaPartsSaid : Prop := shaPartsRow.holds Try.pinned (OpenSpec.ofChange shaPartsSpec)

/-- ITS FALSE NEIGHBOUR: 'it returns false'. Refute it at one input. -/
def shaPartsWrong : ChangeSpec := { name := "shaParts", fn := fun _ => fun
  | [d1, d2] => { results := [.lit (.bool false)], args := [d1, d2] }
  | _ => none }
def ShaPartsWrongFalsely : Prop := shaPartsRow.holds Try.pinned (OpenSpec.ofChange shaPartsWrong)

/-- 'stillroomlaw2.ShaNone': WHATEVER THE INPUT: true; the input reads as it did. -/
def shaNoneSpec : ChangeSpec := { name := "shaNone", fn := fun _ => fun
  | [] => { results := [.lit (.bool true)], args := [] }
  | _ => none }
def shaNoneRow : OpenClaim := { program := "ytehhgfkbcjbciaa", sum := "0017ad9a57b0d3f1838b3ca0325c561b7b1e4416748b9f55a76bfbf172db199e", func := "stillroom/stillroomlaw2.ShaNone", spec := "shaNone", inPlace := ["internal/bytealg.IndexByteString"], recurses := true, apart := false }
def ShaNoneSaid : Prop := shaNoneRow.holds Try.pinned (OpenSpec.ofChange shaNoneSpec)

/-- ITS FALSE NEIGHBOUR: 'it returns false'. Refute it at one input. -/
def shaNoneWrong : ChangeSpec := { name := "shaNone", fn := fun _ => fun
  | [] => { results := [.lit (.bool false)], args := [] }
  | _ => none }
def ShaNoneWrongFalsely : Prop := shaNoneRow.holds Try.pinned (OpenSpec.ofChange shaNoneWrong)

/-- 'stillroomlaw2.ShaLong': WHATEVER THE INPUT: true; the input reads as it did. -/
def shaLongSpec : ChangeSpec := { name := "shaLong", fn := fun _ => fun
  | [d1, d2] => { results := [.lit (.bool true)], args := [d1, d2] }
  | _ => none }
def shaLongRow : OpenClaim := { program := "ytehhgfkbcjbciaa", sum := "0017ad9a57b0d3f1838b3ca0325c561b7b1e4416748b9f55a76bfbf172db199e", func := "stillroom/stillroomlaw2.ShaLong", spec := "shaLong", inPlace := ["internal/bytealg.IndexByteString"], recurses := true, apart := false }
def ShaLongSaid : Prop := shaLongRow.holds Try.pinned (OpenSpec.ofChange shaLongSpec)

/-- ITS FALSE NEIGHBOUR: 'it returns false'. Refute it at one input. -/
def shaLongWrong : ChangeSpec := { name := "shaLong", fn := fun _ => fun
  | [d1, d2] => { results := [.lit (.bool false)], args := [d1, d2] }
  | _ => none }
def ShaLongWrongFalsely : Prop := shaLongRow.holds Try.pinned (OpenSpec.ofChange shaLongWrong)

/-- 'stillroomlaw2.ShaTwo': WHATEVER THE INPUT: true; the input reads as it did. -/
def shaTwoSpec : ChangeSpec := { name := "shaTwo", fn := fun _ => fun
  | [d1, d2] => { results := [.lit (.bool true)], args := [d1, d2] }
  | _ => none }
def shaTwoRow : OpenClaim := { program := "ytehhgfkbcjbciaa", sum := "0017ad9a57b0d3f1838b3ca0325c561b7b1e4416748b9f55a76bfbf172db199e", func := "stillroom/stillroomlaw2.ShaTwo", spec := "shaTwo", inPlace := ["internal/bytealg.IndexByteString"], recurses := true, apart := false }
def ShaTwoSaid : Prop := shaTwoRow.holds Try.pinned (OpenSpec.ofChange shaTwoSpec)

/-- ITS FALSE NEIGHBOUR: 'it returns false'. Refute it at one input. -/
def shaTwoWrong : ChangeSpec := { name := "shaTwo", fn := fun _ => fun
  | [d1, d2] => { results := [.lit (.bool false)], args := [d1, d2] }
  | _ => none }
def ShaTwoWrongFalsely : Prop := shaTwoRow.holds Try.pinned (OpenSpec.ofChange shaTwoWrong)

/-- 'stillroomlaw3.MacAll': WHATEVER THE INPUT: true; the input reads as it did. -/
def macAllSpec : ChangeSpec := { name := "macAll", fn := fun _ => fun
  | [d1, d2, d3] => { results := [.lit (.bool true)], args := [d1, d2, d3] }
  | _ => none }
def macAllRow : OpenClaim := { program := "ytehhgfkbcjbciaa", sum := "0017ad9a57b0d3f1838b3ca0325c561b7b1e4416748b9f55a76bfbf172db199e", func := "stillroom/stillroomlaw3.MacAll", spec := "macAll", recurses := true, apart := false }
def MacAllSaid : Prop := macAllRow.holds Try.pinned (OpenSpec.ofChange macAllSpec)

/-- ITS FALSE NEIGHBOUR: 'it returns false'. Refute it at one input. -/
def macAllWrong : ChangeSpec := { name := "macAll", fn := fun _ => fun
  | [d1, d2, d3] => { results := [.lit (.bool false)], args := [d1, d2, d3] }
  | _ => none }
def MacAllWrongFalsely : Prop := macAllRow.holds Try.pinned (OpenSpec.ofChange macAllWrong)

/-- 'stillroomlaw3.MacCheck': WHATEVER THE INPUT: true; the input reads as it did. -/
def macCheckSpec : ChangeSpec := { name := "macCheck", fn := fun _ => fun
  | [d1, d2, d3, d4, d5] => { results := [.lit (.bool true)], args := [d1, d2, d3, d4, d5] }
  | _ => none }
def macCheckRow : OpenClaim := { program := "ytehhgfkbcjbciaa", sum := "0017ad9a57b0d3f1838b3ca0325c561b7b1e4416748b9f55a76bfbf172db199e", func := "stillroom/stillroomlaw3.MacCheck", spec := "macCheck", recurses := true, apart := false }
def MacCheckSaid : Prop := macCheckRow.holds Try.pinned (OpenSpec.ofChange macCheckSpec)

/-- ITS FALSE NEIGHBOUR: 'it returns false'. Refute it at one input. -/
def macCheckWrong : ChangeSpec := { name := "macCheck", fn := fun _ => fun
  | [d1, d2, d3, d4, d5] => { results := [.lit (.bool false)], args := [d1, d2, d3, d4, d5] }
  | _ => none }
def MacCheckWrongFalsely : Prop := macCheckRow.holds Try.pinned (OpenSpec.ofChange macCheckWrong)

/- THE SECOND FORM. 'bulk': how many values and letters a reading holds, each counted each time it is reached (what is shared counts as often as it is met; a slice's spare places count too). A statement '..UptoSaid' is the law's where the arguments, and the package variables that the reading takes, are together of bulk at most 1048576: NARROWER than '..Said'. Prove '..Said' where nothing that the law and all that it calls make is longer than what came in: it says more and counts as full. Else prove '..UptoSaid'. A law counts once. -/
mutual
def uptoBulk {H : Type} : DataW H → Nat
  | .lit (.string bytes) => bytes.length + 1
  | .lit _ => 1
  | .nil => 1
  | .ptr d => uptoBulk d + 1
  | .slice elems spare => uptoBulkAll elems + uptoBulkAll spare + 1
  | .agg parts => uptoBulkAll parts + 1
  | .iface _ d => uptoBulk d + 1
  | .map entries => uptoBulkEntries entries + 1
  | .held _ => 1
def uptoBulkAll {H : Type} : List (DataW H) → Nat
  | [] => 0
  | d :: r => uptoBulk d + uptoBulkAll r
def uptoBulkEntries {H : Type} : List (Lit × DataW H) → Nat
  | [] => 0
  | x :: r => uptoBulkEntry x + uptoBulkEntries r
def uptoBulkEntry {H : Type} : Lit × DataW H → Nat
  | (.string bytes, d) => bytes.length + uptoBulk d + 1
  | (_, d) => uptoBulk d + 1
 end
def uptoSmall : (H : Type) → List (DataW H) → Bool := fun _ ds => decide (uptoBulkAll ds ≤ 1048576)
def OpenSpec.upto (s : _root_.Go.ChangeSpec) : _root_.Go.OpenSpec := { _root_.Go.OpenSpec.ofChange s with cond := some uptoSmall }

/-- 'stillroomlaw0.Names', WHERE WHAT IT READS IS OF BULK AT MOST 1048576: true; the input reads as it did. -/
def namesUptoRow : OpenClaim := { program := "ytehhgfkbcjbciaa", sum := "0017ad9a57b0d3f1838b3ca0325c561b7b1e4416748b9f55a76bfbf172db199e", func := "stillroom/stillroomlaw0.Names", spec := "names", apart := false, narrowed := true }
def NamesUptoSaid : Prop := namesUptoRow.holds Try.pinned (OpenSpec.upto namesSpec)

/-- 'stillroomlaw1.CrcMany', WHERE WHAT IT READS IS OF BULK AT MOST 1048576: true; the input reads as it did. -/
def crcManyUptoRow : OpenClaim := { program := "ytehhgfkbcjbciaa", sum := "0017ad9a57b0d3f1838b3ca0325c561b7b1e4416748b9f55a76bfbf172db199e", func := "stillroom/stillroomlaw1.CrcMany", spec := "crcMany", apart := false, narrowed := true }
def CrcManyUptoSaid : Prop := crcManyUptoRow.holds Try.pinned (OpenSpec.upto crcManySpec)

/-- 'stillroomlaw1.CrcAll', WHERE WHAT IT READS IS OF BULK AT MOST 1048576: true; the input reads as it did. -/
def crcAllUptoRow : OpenClaim := { program := "ytehhgfkbcjbciaa", sum := "0017ad9a57b0d3f1838b3ca0325c561b7b1e4416748b9f55a76bfbf172db199e", func := "stillroom/stillroomlaw1.CrcAll", spec := "crcAll", apart := false, narrowed := true }
def CrcAllUptoSaid : Prop := crcAllUptoRow.holds Try.pinned (OpenSpec.upto crcAllSpec)

/-- 'stillroomlaw1.CrcBurst', WHERE WHAT IT READS IS OF BULK AT MOST 1048576: true; the input reads as it did. -/
def crcBurstUptoRow : OpenClaim := { program := "ytehhgfkbcjbciaa", sum := "0017ad9a57b0d3f1838b3ca0325c561b7b1e4416748b9f55a76bfbf172db199e", func := "stillroom/stillroomlaw1.CrcBurst", spec := "crcBurst", apart := false, narrowed := true }
def CrcBurstUptoSaid : Prop := crcBurstUptoRow.holds Try.pinned (OpenSpec.upto crcBurstSpec)

/-- 'stillroomlaw1.CrcThree', WHERE WHAT IT READS IS OF BULK AT MOST 1048576: true; the input reads as it did. -/
def crcThreeUptoRow : OpenClaim := { program := "ytehhgfkbcjbciaa", sum := "0017ad9a57b0d3f1838b3ca0325c561b7b1e4416748b9f55a76bfbf172db199e", func := "stillroom/stillroomlaw1.CrcThree", spec := "crcThree", apart := false, narrowed := true }
def CrcThreeUptoSaid : Prop := crcThreeUptoRow.holds Try.pinned (OpenSpec.upto crcThreeSpec)

/-- 'stillroomlaw6.RecordBytes', WHERE WHAT IT READS IS OF BULK AT MOST 1048576: true; the input reads as it did. -/
def recordBytesUptoRow : OpenClaim := { program := "ytehhgfkbcjbciaa", sum := "0017ad9a57b0d3f1838b3ca0325c561b7b1e4416748b9f55a76bfbf172db199e", func := "stillroom/stillroomlaw6.RecordBytes", spec := "recordBytes", apart := false, narrowed := true }
def RecordBytesUptoSaid : Prop := recordBytesUptoRow.holds Try.pinned (OpenSpec.upto recordBytesSpec)

/-- 'stillroomlaw6.RecordEnds', WHERE WHAT IT READS IS OF BULK AT MOST 1048576: true; the input reads as it did. -/
def recordEndsUptoRow : OpenClaim := { program := "ytehhgfkbcjbciaa", sum := "0017ad9a57b0d3f1838b3ca0325c561b7b1e4416748b9f55a76bfbf172db199e", func := "stillroom/stillroomlaw6.RecordEnds", spec := "recordEnds", apart := false, narrowed := true }
def RecordEndsUptoSaid : Prop := recordEndsUptoRow.holds Try.pinned (OpenSpec.upto recordEndsSpec)

/-- 'stillroomlaw7.ScanAll', WHERE WHAT IT READS IS OF BULK AT MOST 1048576: true; the input reads as it did. -/
def scanAllUptoRow : OpenClaim := { program := "ytehhgfkbcjbciaa", sum := "0017ad9a57b0d3f1838b3ca0325c561b7b1e4416748b9f55a76bfbf172db199e", func := "stillroom/stillroomlaw7.ScanAll", spec := "scanAll", apart := false, narrowed := true }
def ScanAllUptoSaid : Prop := scanAllUptoRow.holds Try.pinned (OpenSpec.upto scanAllSpec)

/-- 'stillroomlaw7.ScanBytes', WHERE WHAT IT READS IS OF BULK AT MOST 1048576: true; the input reads as it did. -/
def scanBytesUptoRow : OpenClaim := { program := "ytehhgfkbcjbciaa", sum := "0017ad9a57b0d3f1838b3ca0325c561b7b1e4416748b9f55a76bfbf172db199e", func := "stillroom/stillroomlaw7.ScanBytes", spec := "scanBytes", apart := false, narrowed := true }
def ScanBytesUptoSaid : Prop := scanBytesUptoRow.holds Try.pinned (OpenSpec.upto scanBytesSpec)

/-- 'stillroomlaw7.ScanInside', WHERE WHAT IT READS IS OF BULK AT MOST 1048576: true; the input reads as it did. -/
def scanInsideUptoRow : OpenClaim := { program := "ytehhgfkbcjbciaa", sum := "0017ad9a57b0d3f1838b3ca0325c561b7b1e4416748b9f55a76bfbf172db199e", func := "stillroom/stillroomlaw7.ScanInside", spec := "scanInside", apart := false, narrowed := true }
def ScanInsideUptoSaid : Prop := scanInsideUptoRow.holds Try.pinned (OpenSpec.upto scanInsideSpec)

/-- 'stillroomlaw2.ShaAll', WHERE WHAT IT READS IS OF BULK AT MOST 1048576: true; the input reads as it did. -/
def shaAllUptoRow : OpenClaim := { program := "ytehhgfkbcjbciaa", sum := "0017ad9a57b0d3f1838b3ca0325c561b7b1e4416748b9f55a76bfbf172db199e", func := "stillroom/stillroomlaw2.ShaAll", spec := "shaAll", inPlace := ["internal/bytealg.IndexByteString"], recurses := true, apart := false, narrowed := true }
def ShaAllUptoSaid : Prop := shaAllUptoRow.holds Try.pinned (OpenSpec.upto shaAllSpec)

/-- 'stillroomlaw2.ShaParts', WHERE WHAT IT READS IS OF BULK AT MOST 1048576: true; the input reads as it did. -/
def shaPartsUptoRow : OpenClaim := { program := "ytehhgfkbcjbciaa", sum := "0017ad9a57b0d3f1838b3ca0325c561b7b1e4416748b9f55a76bfbf172db199e", func := "stillroom/stillroomlaw2.ShaParts", spec := "shaParts", inPlace := ["internal/bytealg.IndexByteString"], recurses := true, apart := false, narrowed := true }
def ShaPartsUptoSaid : Prop := shaPartsUptoRow.holds Try.pinned (OpenSpec.upto shaPartsSpec)

/-- 'stillroomlaw2.ShaNone', WHERE WHAT IT READS IS OF BULK AT MOST 1048576: true; the input reads as it did. -/
def shaNoneUptoRow : OpenClaim := { program := "ytehhgfkbcjbciaa", sum := "0017ad9a57b0d3f1838b3ca0325c561b7b1e4416748b9f55a76bfbf172db199e", func := "stillroom/stillroomlaw2.ShaNone", spec := "shaNone", inPlace := ["internal/bytealg.IndexByteString"], recurses := true, apart := false, narrowed := true }
def ShaNoneUptoSaid : Prop := shaNoneUptoRow.holds Try.pinned (OpenSpec.upto shaNoneSpec)

/-- 'stillroomlaw2.ShaLong', WHERE WHAT IT READS IS OF BULK AT MOST 1048576: true; the input reads as it did. -/
def shaLongUptoRow : OpenClaim := { program := "ytehhgfkbcjbciaa", sum := "0017ad9a57b0d3f1838b3ca0325c561b7b1e4416748b9f55a76bfbf172db199e", func := "stillroom/stillroomlaw2.ShaLong", spec := "shaLong", inPlace := ["internal/bytealg.IndexByteString"], recurses := true, apart := false, narrowed := true }
def ShaLongUptoSaid : Prop := shaLongUptoRow.holds Try.pinned (OpenSpec.upto shaLongSpec)

/-- 'stillroomlaw2.ShaTwo', WHERE WHAT IT READS IS OF BULK AT MOST 1048576: true; the input reads as it did. -/
def shaTwoUptoRow : OpenClaim := { program := "ytehhgfkbcjbciaa", sum := "0017ad9a57b0d3f1838b3ca0325c561b7b1e4416748b9f55a76bfbf172db199e", func := "stillroom/stillroomlaw2.ShaTwo", spec := "shaTwo", inPlace := ["internal/bytealg.IndexByteString"], recurses := true, apart := false, narrowed := true }
def ShaTwoUptoSaid : Prop := shaTwoUptoRow.holds Try.pinned (OpenSpec.upto shaTwoSpec)

/-- 'stillroomlaw3.MacAll', WHERE WHAT IT READS IS OF BULK AT MOST 1048576: true; the input reads as it did. -/
def macAllUptoRow : OpenClaim := { program := "ytehhgfkbcjbciaa", sum := "0017ad9a57b0d3f1838b3ca0325c561b7b1e4416748b9f55a76bfbf172db199e", func := "stillroom/stillroomlaw3.MacAll", spec := "macAll", recurses := true, apart := false, narrowed := true }
def MacAllUptoSaid : Prop := macAllUptoRow.holds Try.pinned (OpenSpec.upto macAllSpec)

/-- 'stillroomlaw3.MacCheck', WHERE WHAT IT READS IS OF BULK AT MOST 1048576: true; the input reads as it did. -/
def macCheckUptoRow : OpenClaim := { program := "ytehhgfkbcjbciaa", sum := "0017ad9a57b0d3f1838b3ca0325c561b7b1e4416748b9f55a76bfbf172db199e", func := "stillroom/stillroomlaw3.MacCheck", spec := "macCheck", recurses := true, apart := false, narrowed := true }
def MacCheckUptoSaid : Prop := macCheckUptoRow.holds Try.pinned (OpenSpec.upto macCheckSpec)

end Rows
end Go.Proofs.Ytehhgfkbcjbciaa
