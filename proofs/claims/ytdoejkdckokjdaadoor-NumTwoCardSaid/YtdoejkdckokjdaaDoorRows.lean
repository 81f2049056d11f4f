/-
  NARROWER THAN 'FOR EVERY INPUT', by the rows' own cells (each row's printed sentence says how): NumTwo: laid · NumRing: laid · NumTurns: laid · NumExtends: laid · NumShift: laid · NumLogic: laid · NumOne: laid.
  DERIVED. THE GIVEN ROWS OF THIS SEAT. 7 by the template 'for every input the law returns true; each argument reads behind the call as it read before'; 0 by the template 'total and deterministic' (their statements: YtdoejkdckokjdaaDoorTotals.lean).
  GIVEN WITH THE SEED: the statements are not yours to turn. If you find one false, say at which input.
  Laid BY PROGRAM, IN A SANDBOX (cutbox-rows.mjs): the forced cells as the released guide's own fill.sh prints them over the translation 966cd5816e838f7d… (all of the seat's roots in one cut). By AI agents, Wed Nov 11 2026. No macro, syntax, notation, axiom, sorry.
-/
import Derived.Test.YtdoejkdckokjdaaDoorChecked
import GoSem.Claim
import GoSem.ClaimJoined
import GoSem.ClaimMapViews
import Derived.JoinedTies
import Derived.KernelRfl
namespace Go.Proofs.YtdoejkdckokjdaaDoor
/- THE CELL 'sum', in the pinned program and in every row, IS THE sha256 OF THE DUMP (.gsa) THAT YtdoejkdckokjdaaDoorProg.lean LOADS. Nothing in Lean hashes anything: it is a label: what it is worth is what the hold of that sum in a sandbox is worth. -/
noncomputable def Tryd.pinned : Pinned := { name := "ytdoejkdckokjdaadoor", sum := "966cd5816e838f7d5896db99fd84ed0fc03282f4f98842eb57ce613a80be6a84", checked := Tryd.checked }
namespace Rows
def none {H : Type} : Left H := { results := [], args := [] }

/- WHAT THE LISTED PACKAGE-LEVEL VARIABLES READ AS WHEN THE CALL BEGINS. Each datum BY PROGRAM (the guide's laid-datum.mjs) off the statement by which the dump's own 'gosem.cut.vars' lays the variable. In a bare row this is a premise. The card (YtdoejkdckokjdaaDoorCards.lean) ties it to the program's text. -/
def laid_math_bits_deBruijn64tab {H : Type} : DataW H := .agg [.lit (.int .u8 0), .lit (.int .u8 1), .lit (.int .u8 56), .lit (.int .u8 2), .lit (.int .u8 57), .lit (.int .u8 49), .lit (.int .u8 28), .lit (.int .u8 3), .lit (.int .u8 61), .lit (.int .u8 58), .lit (.int .u8 42), .lit (.int .u8 50), .lit (.int .u8 38), .lit (.int .u8 29), .lit (.int .u8 17), .lit (.int .u8 4), .lit (.int .u8 62), .lit (.int .u8 47), .lit (.int .u8 59), .lit (.int .u8 36), .lit (.int .u8 45), .lit (.int .u8 43), .lit (.int .u8 51), .lit (.int .u8 22), .lit (.int .u8 53), .lit (.int .u8 39), .lit (.int .u8 33), .lit (.int .u8 30), .lit (.int .u8 24), .lit (.int .u8 18), .lit (.int .u8 12), .lit (.int .u8 5), .lit (.int .u8 63), .lit (.int .u8 55), .lit (.int .u8 48), .lit (.int .u8 27), .lit (.int .u8 60), .lit (.int .u8 41), .lit (.int .u8 37), .lit (.int .u8 16), .lit (.int .u8 46), .lit (.int .u8 35), .lit (.int .u8 44), .lit (.int .u8 21), .lit (.int .u8 52), .lit (.int .u8 32), .lit (.int .u8 23), .lit (.int .u8 11), .lit (.int .u8 54), .lit (.int .u8 26), .lit (.int .u8 40), .lit (.int .u8 15), .lit (.int .u8 34), .lit (.int .u8 20), .lit (.int .u8 31), .lit (.int .u8 10), .lit (.int .u8 25), .lit (.int .u8 14), .lit (.int .u8 19), .lit (.int .u8 9), .lit (.int .u8 13), .lit (.int .u8 8), .lit (.int .u8 7), .lit (.int .u8 6)]
def laid_geode_num_runs {H : Type} : DataW H := .agg [.agg [.lit (.int .i64 69), .lit (.int .i64 11), .lit (.int .i64 32), .lit (.int .i64 0)], .agg [.lit (.int .i64 80), .lit (.int .i64 11), .lit (.int .i64 64), .lit (.int .i64 0)], .agg [.lit (.int .i64 103), .lit (.int .i64 18), .lit (.int .i64 32), .lit (.int .i64 11)], .agg [.lit (.int .i64 121), .lit (.int .i64 18), .lit (.int .i64 64), .lit (.int .i64 11)], .agg [.lit (.int .i64 192), .lit (.int .i64 2), .lit (.int .i64 32), .lit (.int .i64 29)], .agg [.lit (.int .i64 194), .lit (.int .i64 3), .lit (.int .i64 64), .lit (.int .i64 29)], .agg [.lit (.int .i64 167), .lit (.int .i64 1), .lit (.int .i64 64), .lit (.int .i64 32)], .agg [.lit (.int .i64 172), .lit (.int .i64 2), .lit (.int .i64 32), .lit (.int .i64 33)]]

/-- 'geodelaw03.NumTwo': WHATEVER THE INPUT: true; the input reads as it did. -/
def numTwoSpec : ChangeSpec := { name := "numTwo", fn := fun _ => fun
  | [d1, d2, d3] => { results := [.lit (.bool true)], args := [d1, d2, d3] }
  | _ => none }
def numTwoRow : OpenClaim := { program := "ytdoejkdckokjdaadoor", sum := "966cd5816e838f7d5896db99fd84ed0fc03282f4f98842eb57ce613a80be6a84", func := "geode/geodelaw03.NumTwo", spec := "numTwo", unfollowed := true, recurses := true, named := ["geode/num.runs", "math/bits.deBruijn64tab"], apart := false, laid := [("math/bits.deBruijn64tab", laid_math_bits_deBruijn64tab), ("geode/num.runs", laid_geode_num_runs)] }
def NumTwoSaid : Prop := numTwoRow.holds Tryd.pinned (OpenSpec.ofChange numTwoSpec)

/-- ITS FALSE NEIGHBOUR: 'it returns false'. Refute it at one input. -/
def numTwoWrong : ChangeSpec := { name := "numTwo", fn := fun _ => fun
  | [d1, d2, d3] => { results := [.lit (.bool false)], args := [d1, d2, d3] }
  | _ => none }
def NumTwoWrongFalsely : Prop := numTwoRow.holds Tryd.pinned (OpenSpec.ofChange numTwoWrong)

/-- 'geodelaw03.NumRing': WHATEVER THE INPUT: true; the input reads as it did. -/
def numRingSpec : ChangeSpec := { name := "numRing", fn := fun _ => fun
  | [d1, d2, d3] => { results := [.lit (.bool true)], args := [d1, d2, d3] }
  | _ => none }
def numRingRow : OpenClaim := { program := "ytdoejkdckokjdaadoor", sum := "966cd5816e838f7d5896db99fd84ed0fc03282f4f98842eb57ce613a80be6a84", func := "geode/geodelaw03.NumRing", spec := "numRing", unfollowed := true, recurses := true, named := ["geode/num.runs", "math/bits.deBruijn64tab"], apart := false, laid := [("math/bits.deBruijn64tab", laid_math_bits_deBruijn64tab), ("geode/num.runs", laid_geode_num_runs)] }
def NumRingSaid : Prop := numRingRow.holds Tryd.pinned (OpenSpec.ofChange numRingSpec)

/-- ITS FALSE NEIGHBOUR: 'it returns false'. Refute it at one input. -/
def numRingWrong : ChangeSpec := { name := "numRing", fn := fun _ => fun
  | [d1, d2, d3] => { results := [.lit (.bool false)], args := [d1, d2, d3] }
  | _ => none }
def NumRingWrongFalsely : Prop := numRingRow.holds Tryd.pinned (OpenSpec.ofChange numRingWrong)

/-- 'geodelaw03.NumTurns': WHATEVER THE INPUT: true; the input reads as it did. -/
def numTurnsSpec : ChangeSpec := { name := "numTurns", fn := fun _ => fun
  | [d1, d2] => { results := [.lit (.bool true)], args := [d1, d2] }
  | _ => none }
def numTurnsRow : OpenClaim := { program := "ytdoejkdckokjdaadoor", sum := "966cd5816e838f7d5896db99fd84ed0fc03282f4f98842eb57ce613a80be6a84", func := "geode/geodelaw03.NumTurns", spec := "numTurns", unfollowed := true, recurses := true, named := ["geode/num.runs", "math/bits.deBruijn64tab"], apart := false, laid := [("math/bits.deBruijn64tab", laid_math_bits_deBruijn64tab), ("geode/num.runs", laid_geode_num_runs)] }
def NumTurnsSaid : Prop := numTurnsRow.holds Tryd.pinned (OpenSpec.ofChange numTurnsSpec)

/-- ITS FALSE NEIGHBOUR: 'it returns false'. Refute it at one input. -/
def numTurnsWrong : ChangeSpec := { name := "numTurns", fn := fun _ => fun
  | [d1, d2] => { results := [.lit (.bool false)], args := [d1, d2] }
  | _ => none }
def NumTurnsWrongFalsely : Prop := numTurnsRow.holds Tryd.pinned (OpenSpec.ofChange numTurnsWrong)

/-- 'geodelaw03.NumExtends': WHATEVER THE INPUT: true; the input reads as it did. -/
def numExtendsSpec : ChangeSpec := { name := "numExtends", fn := fun _ => fun
  | [d1, d2] => { results := [.lit (.bool true)], args := [d1, d2] }
  | _ => none }
def numExtendsRow : OpenClaim := { program := "ytdoejkdckokjdaadoor", sum := "966cd5816e838f7d5896db99fd84ed0fc03282f4f98842eb57ce613a80be6a84", func := "geode/geodelaw03.NumExtends", spec := "numExtends", unfollowed := true, recurses := true, named := ["geode/num.runs", "math/bits.deBruijn64tab"], apart := false, laid := [("math/bits.deBruijn64tab", laid_math_bits_deBruijn64tab), ("geode/num.runs", laid_geode_num_runs)] }
def NumExtendsSaid : Prop := numExtendsRow.holds Tryd.pinned (OpenSpec.ofChange numExtendsSpec)

/-- ITS FALSE NEIGHBOUR: 'it returns false'. Refute it at one input. -/
def numExtendsWrong : ChangeSpec := { name := "numExtends", fn := fun _ => fun
  | [d1, d2] => { results := [.lit (.bool false)], args := [d1, d2] }
  | _ => none }
def NumExtendsWrongFalsely : Prop := numExtendsRow.holds Tryd.pinned (OpenSpec.ofChange numExtendsWrong)

/-- 'geodelaw03.NumShift': WHATEVER THE INPUT: true; the input reads as it did. -/
def numShiftSpec : ChangeSpec := { name := "numShift", fn := fun _ => fun
  | [d1, d2] => { results := [.lit (.bool true)], args := [d1, d2] }
  | _ => none }
def numShiftRow : OpenClaim := { program := "ytdoejkdckokjdaadoor", sum := "966cd5816e838f7d5896db99fd84ed0fc03282f4f98842eb57ce613a80be6a84", func := "geode/geodelaw03.NumShift", spec := "numShift", unfollowed := true, recurses := true, named := ["geode/num.runs", "math/bits.deBruijn64tab"], apart := false, laid := [("math/bits.deBruijn64tab", laid_math_bits_deBruijn64tab), ("geode/num.runs", laid_geode_num_runs)] }
def NumShiftSaid : Prop := numShiftRow.holds Tryd.pinned (OpenSpec.ofChange numShiftSpec)

/-- ITS FALSE NEIGHBOUR: 'it returns false'. Refute it at one input. -/
def numShiftWrong : ChangeSpec := { name := "numShift", fn := fun _ => fun
  | [d1, d2] => { results := [.lit (.bool false)], args := [d1, d2] }
  | _ => none }
def NumShiftWrongFalsely : Prop := numShiftRow.holds Tryd.pinned (OpenSpec.ofChange numShiftWrong)

/-- 'geodelaw03.NumLogic': WHATEVER THE INPUT: true; the input reads as it did. -/
def numLogicSpec : ChangeSpec := { name := "numLogic", fn := fun _ => fun
  | [d1, d2] => { results := [.lit (.bool true)], args := [d1, d2] }
  | _ => none }
def numLogicRow : OpenClaim := { program := "ytdoejkdckokjdaadoor", sum := "966cd5816e838f7d5896db99fd84ed0fc03282f4f98842eb57ce613a80be6a84", func := "geode/geodelaw03.NumLogic", spec := "numLogic", unfollowed := true, recurses := true, named := ["geode/num.runs", "math/bits.deBruijn64tab"], apart := false, laid := [("math/bits.deBruijn64tab", laid_math_bits_deBruijn64tab), ("geode/num.runs", laid_geode_num_runs)] }
def NumLogicSaid : Prop := numLogicRow.holds Tryd.pinned (OpenSpec.ofChange numLogicSpec)

/-- ITS FALSE NEIGHBOUR: 'it returns false'. Refute it at one input. -/
def numLogicWrong : ChangeSpec := { name := "numLogic", fn := fun _ => fun
  | [d1, d2] => { results := [.lit (.bool false)], args := [d1, d2] }
  | _ => none }
def NumLogicWrongFalsely : Prop := numLogicRow.holds Tryd.pinned (OpenSpec.ofChange numLogicWrong)

/-- 'geodelaw03.NumOne': WHATEVER THE INPUT: true; the input reads as it did. -/
def numOneSpec : ChangeSpec := { name := "numOne", fn := fun _ => fun
  | [d1, d2] => { results := [.lit (.bool true)], args := [d1, d2] }
  | _ => none }
def numOneRow : OpenClaim := { program := "ytdoejkdckokjdaadoor", sum := "966cd5816e838f7d5896db99fd84ed0fc03282f4f98842eb57ce613a80be6a84", func := "geode/geodelaw03.NumOne", spec := "numOne", unfollowed := true, recurses := true, named := ["geode/num.runs", "math/bits.deBruijn64tab"], apart := false, laid := [("math/bits.deBruijn64tab", laid_math_bits_deBruijn64tab), ("geode/num.runs", laid_geode_num_runs)] }
def NumOneSaid : Prop := numOneRow.holds Tryd.pinned (OpenSpec.ofChange numOneSpec)

/-- ITS FALSE NEIGHBOUR: 'it returns false'. Refute it at one input. -/
def numOneWrong : ChangeSpec := { name := "numOne", fn := fun _ => fun
  | [d1, d2] => { results := [.lit (.bool false)], args := [d1, d2] }
  | _ => none }
def NumOneWrongFalsely : Prop := numOneRow.holds Tryd.pinned (OpenSpec.ofChange numOneWrong)

/- THE SECOND FORM. 'bulk': how many values and letters a reading holds, each counted each time it is reached (what is shared counts as often as it is met; a slice's spare places count too). A statement '..UptoSaid' is the law's where the arguments, and the package variables that the reading takes, are together of bulk at most 1048576: NARROWER than '..Said'. Prove '..Said' where nothing that the law and all that it calls make is longer than what came in: it says more and counts as full. Else prove '..UptoSaid'. A law counts once. -/
mutual
def uptoBulk {H : Type} : DataW H → Nat
  | .lit (.string bytes) => bytes.length + 1
  | .lit _ => 1
  | .nil => 1
  | .ptr d => uptoBulk d + 1
  | .slice elems spare => uptoBulkAll elems + uptoBulkAll spare + 1
  | .agg parts => uptoBulkAll parts + 1
  | .iface _ d => uptoBulk d + 1
  | .map entries => uptoBulkEntries entries + 1
  | .held _ => 1
def uptoBulkAll {H : Type} : List (DataW H) → Nat
  | [] => 0
  | d :: r => uptoBulk d + uptoBulkAll r
def uptoBulkEntries {H : Type} : List (Lit × DataW H) → Nat
  | [] => 0
  | x :: r => uptoBulkEntry x + uptoBulkEntries r
def uptoBulkEntry {H : Type} : Lit × DataW H → Nat
  | (.string bytes, d) => bytes.length + uptoBulk d + 1
  | (_, d) => uptoBulk d + 1
 end
def uptoSmall : (H : Type) → List (DataW H) → Bool := fun _ ds => decide (uptoBulkAll ds ≤ 1048576)
def OpenSpec.upto (s : _root_.Go.ChangeSpec) : _root_.Go.OpenSpec := { _root_.Go.OpenSpec.ofChange s with cond := some uptoSmall }

/-- 'geodelaw03.NumTwo', WHERE WHAT IT READS IS OF BULK AT MOST 1048576: true; the input reads as it did. -/
def numTwoUptoRow : OpenClaim := { program := "ytdoejkdckokjdaadoor", sum := "966cd5816e838f7d5896db99fd84ed0fc03282f4f98842eb57ce613a80be6a84", func := "geode/geodelaw03.NumTwo", spec := "numTwo", unfollowed := true, recurses := true, named := ["geode/num.runs", "math/bits.deBruijn64tab"], apart := false, laid := [("math/bits.deBruijn64tab", laid_math_bits_deBruijn64tab), ("geode/num.runs", laid_geode_num_runs)], narrowed := true }
def NumTwoUptoSaid : Prop := numTwoUptoRow.holds Tryd.pinned (OpenSpec.upto numTwoSpec)

/-- 'geodelaw03.NumRing', WHERE WHAT IT READS IS OF BULK AT MOST 1048576: true; the input reads as it did. -/
def numRingUptoRow : OpenClaim := { program := "ytdoejkdckokjdaadoor", sum := "966cd5816e838f7d5896db99fd84ed0fc03282f4f98842eb57ce613a80be6a84", func := "geode/geodelaw03.NumRing", spec := "numRing", unfollowed := true, recurses := true, named := ["geode/num.runs", "math/bits.deBruijn64tab"], apart := false, laid := [("math/bits.deBruijn64tab", laid_math_bits_deBruijn64tab), ("geode/num.runs", laid_geode_num_runs)], narrowed := true }
def NumRingUptoSaid : Prop := numRingUptoRow.holds Tryd.pinned (OpenSpec.upto numRingSpec)

/-- 'geodelaw03.NumTurns', WHERE WHAT IT READS IS OF BULK AT MOST 1048576: true; the input reads as it did. -/
def numTurnsUptoRow : OpenClaim := { program := "ytdoejkdckokjdaadoor", sum := "966cd5816e838f7d5896db99fd84ed0fc03282f4f98842eb57ce613a80be6a84", func := "geode/geodelaw03.NumTurns", spec := "numTurns", unfollowed := true, recurses := true, named := ["geode/num.runs", "math/bits.deBruijn64tab"], apart := false, laid := [("math/bits.deBruijn64tab", laid_math_bits_deBruijn64tab), ("geode/num.runs", laid_geode_num_runs)], narrowed := true }
def NumTurnsUptoSaid : Prop := numTurnsUptoRow.holds Tryd.pinned (OpenSpec.upto numTurnsSpec)

/-- 'geodelaw03.NumExtends', WHERE WHAT IT READS IS OF BULK AT MOST 1048576: true; the input reads as it did. -/
def numExtendsUptoRow : OpenClaim := { program := "ytdoejkdckokjdaadoor", sum := "966cd5816e838f7d5896db99fd84ed0fc03282f4f98842eb57ce613a80be6a84", func := "geode/geodelaw03.NumExtends", spec := "numExtends", unfollowed := true, recurses := true, named := ["geode/num.runs", "math/bits.deBruijn64tab"], apart := false, laid := [("math/bits.deBruijn64tab", laid_math_bits_deBruijn64tab), ("geode/num.runs", laid_geode_num_runs)], narrowed := true }
def NumExtendsUptoSaid : Prop := numExtendsUptoRow.holds Tryd.pinned (OpenSpec.upto numExtendsSpec)

/-- 'geodelaw03.NumShift', WHERE WHAT IT READS IS OF BULK AT MOST 1048576: true; the input reads as it did. -/
def numShiftUptoRow : OpenClaim := { program := "ytdoejkdckokjdaadoor", sum := "966cd5816e838f7d5896db99fd84ed0fc03282f4f98842eb57ce613a80be6a84", func := "geode/geodelaw03.NumShift", spec := "numShift", unfollowed := true, recurses := true, named := ["geode/num.runs", "math/bits.deBruijn64tab"], apart := false, laid := [("math/bits.deBruijn64tab", laid_math_bits_deBruijn64tab), ("geode/num.runs", laid_geode_num_runs)], narrowed := true }
def NumShiftUptoSaid : Prop := numShiftUptoRow.holds Tryd.pinned (OpenSpec.upto numShiftSpec)

/-- 'geodelaw03.NumLogic', WHERE WHAT IT READS IS OF BULK AT MOST 1048576: true; the input reads as it did. -/
def numLogicUptoRow : OpenClaim := { program := "ytdoejkdckokjdaadoor", sum := "966cd5816e838f7d5896db99fd84ed0fc03282f4f98842eb57ce613a80be6a84", func := "geode/geodelaw03.NumLogic", spec := "numLogic", unfollowed := true, recurses := true, named := ["geode/num.runs", "math/bits.deBruijn64tab"], apart := false, laid := [("math/bits.deBruijn64tab", laid_math_bits_deBruijn64tab), ("geode/num.runs", laid_geode_num_runs)], narrowed := true }
def NumLogicUptoSaid : Prop := numLogicUptoRow.holds Tryd.pinned (OpenSpec.upto numLogicSpec)

/-- 'geodelaw03.NumOne', WHERE WHAT IT READS IS OF BULK AT MOST 1048576: true; the input reads as it did. -/
def numOneUptoRow : OpenClaim := { program := "ytdoejkdckokjdaadoor", sum := "966cd5816e838f7d5896db99fd84ed0fc03282f4f98842eb57ce613a80be6a84", func := "geode/geodelaw03.NumOne", spec := "numOne", unfollowed := true, recurses := true, named := ["geode/num.runs", "math/bits.deBruijn64tab"], apart := false, laid := [("math/bits.deBruijn64tab", laid_math_bits_deBruijn64tab), ("geode/num.runs", laid_geode_num_runs)], narrowed := true }
def NumOneUptoSaid : Prop := numOneUptoRow.holds Tryd.pinned (OpenSpec.upto numOneSpec)

end Rows
end Go.Proofs.YtdoejkdckokjdaaDoor
