/-
  NARROWER THAN 'FOR EVERY INPUT', by the rows' own cells (each row's printed sentence says how): StoreMakes: laid · ContractKeeps: laid · ContractPicks: laid · ContractCuts: laid · ContractRanks: laid · ContractRefuses: laid · ContractRounds: laid.
  DERIVED. THE GIVEN ROWS OF THIS SEAT. 7 by the template 'for every input the law returns true; each argument reads behind the call as it read before'; 0 by the template 'total and deterministic' (their statements: YthkkgdpomhhjjaaGreatDoorTotals.lean).
  GIVEN WITH THE SEED: the statements are not yours to turn. If you find one false, say at which input.
  Laid BY PROGRAM, IN A SANDBOX (cutbox-rows.mjs): the forced cells as the released guide's own fill.sh prints them over the translation 75f3dca14ef91b43… (all of the seat's roots in one cut). By AI agents, Wed Nov 11 2026. No macro, syntax, notation, axiom, sorry.
-/
import Derived.Test.YthkkgdpomhhjjaaGreatDoorChecked
import GoSem.Claim
import GoSem.ClaimJoined
import GoSem.ClaimMapViews
import Derived.JoinedTies
import Derived.KernelRfl
namespace Go.Proofs.YthkkgdpomhhjjaaGreatDoor
/- THE CELL 'sum', in the pinned program and in every row, IS THE sha256 OF THE DUMP (.gsa) THAT YthkkgdpomhhjjaaGreatDoorProg.lean LOADS. Nothing in Lean hashes anything: it is a label: what it is worth is what the hold of that sum in a sandbox is worth. -/
noncomputable def Tryz.pinned : Pinned := { name := "ythkkgdpomhhjjaagreatdoor", sum := "75f3dca14ef91b438af466f4b9bf52913ea5db6516b8cc02b63da54497e2c232", checked := Tryz.checked }
namespace Rows
def none {H : Type} : Left H := { results := [], args := [] }

/- WHAT THE LISTED PACKAGE-LEVEL VARIABLES READ AS WHEN THE CALL BEGINS. Each datum BY PROGRAM (the guide's laid-datum.mjs) off the statement by which the dump's own 'gosem.cut.vars' lays the variable. In a bare row this is a premise. The card (YthkkgdpomhhjjaaGreatDoorCards.lean) ties it to the program's text. -/
def laid_math_bits_deBruijn32tab {H : Type} : DataW H := .agg [.lit (.int .u8 0), .lit (.int .u8 1), .lit (.int .u8 28), .lit (.int .u8 2), .lit (.int .u8 29), .lit (.int .u8 14), .lit (.int .u8 24), .lit (.int .u8 3), .lit (.int .u8 30), .lit (.int .u8 22), .lit (.int .u8 20), .lit (.int .u8 15), .lit (.int .u8 25), .lit (.int .u8 17), .lit (.int .u8 4), .lit (.int .u8 8), .lit (.int .u8 31), .lit (.int .u8 27), .lit (.int .u8 13), .lit (.int .u8 23), .lit (.int .u8 21), .lit (.int .u8 19), .lit (.int .u8 16), .lit (.int .u8 7), .lit (.int .u8 26), .lit (.int .u8 12), .lit (.int .u8 18), .lit (.int .u8 6), .lit (.int .u8 11), .lit (.int .u8 5), .lit (.int .u8 10), .lit (.int .u8 9)]
def laid_math_bits_deBruijn64tab {H : Type} : DataW H := .agg [.lit (.int .u8 0), .lit (.int .u8 1), .lit (.int .u8 56), .lit (.int .u8 2), .lit (.int .u8 57), .lit (.int .u8 49), .lit (.int .u8 28), .lit (.int .u8 3), .lit (.int .u8 61), .lit (.int .u8 58), .lit (.int .u8 42), .lit (.int .u8 50), .lit (.int .u8 38), .lit (.int .u8 29), .lit (.int .u8 17), .lit (.int .u8 4), .lit (.int .u8 62), .lit (.int .u8 47), .lit (.int .u8 59), .lit (.int .u8 36), .lit (.int .u8 45), .lit (.int .u8 43), .lit (.int .u8 51), .lit (.int .u8 22), .lit (.int .u8 53), .lit (.int .u8 39), .lit (.int .u8 33), .lit (.int .u8 30), .lit (.int .u8 24), .lit (.int .u8 18), .lit (.int .u8 12), .lit (.int .u8 5), .lit (.int .u8 63), .lit (.int .u8 55), .lit (.int .u8 48), .lit (.int .u8 27), .lit (.int .u8 60), .lit (.int .u8 41), .lit (.int .u8 37), .lit (.int .u8 16), .lit (.int .u8 46), .lit (.int .u8 35), .lit (.int .u8 44), .lit (.int .u8 21), .lit (.int .u8 52), .lit (.int .u8 32), .lit (.int .u8 23), .lit (.int .u8 11), .lit (.int .u8 54), .lit (.int .u8 26), .lit (.int .u8 40), .lit (.int .u8 15), .lit (.int .u8 34), .lit (.int .u8 20), .lit (.int .u8 31), .lit (.int .u8 10), .lit (.int .u8 25), .lit (.int .u8 14), .lit (.int .u8 19), .lit (.int .u8 9), .lit (.int .u8 13), .lit (.int .u8 8), .lit (.int .u8 7), .lit (.int .u8 6)]
def laid_internal_strconv_uint64pow10 {H : Type} : DataW H := .agg [.lit (.int .u64 1), .lit (.int .u64 10), .lit (.int .u64 100), .lit (.int .u64 1000), .lit (.int .u64 10000), .lit (.int .u64 100000), .lit (.int .u64 1000000), .lit (.int .u64 10000000), .lit (.int .u64 100000000), .lit (.int .u64 1000000000), .lit (.int .u64 10000000000), .lit (.int .u64 100000000000), .lit (.int .u64 1000000000000), .lit (.int .u64 10000000000000), .lit (.int .u64 100000000000000), .lit (.int .u64 1000000000000000), .lit (.int .u64 10000000000000000), .lit (.int .u64 100000000000000000), .lit (.int .u64 1000000000000000000), .lit (.int .u64 10000000000000000000)]

/-- 'milepostlaw13.StoreMakes': WHATEVER THE INPUT: true; the input reads as it did. -/
def storeMakesSpec : ChangeSpec := { name := "storeMakes", fn := fun _ => fun
  | [d1, d2, d3] => { results := [.lit (.bool true)], args := [d1, d2, d3] }
  | _ => none }
def storeMakesRow : OpenClaim := { program := "ythkkgdpomhhjjaagreatdoor", sum := "75f3dca14ef91b438af466f4b9bf52913ea5db6516b8cc02b63da54497e2c232", func := "milepost/milepostlaw13.StoreMakes", spec := "storeMakes", unfollowed := true, recurses := true, named := ["internal/strconv.uint64pow10", "math/bits.deBruijn32tab", "math/bits.deBruijn64tab"], plainKeys := false, apart := false, laid := [("math/bits.deBruijn32tab", laid_math_bits_deBruijn32tab), ("math/bits.deBruijn64tab", laid_math_bits_deBruijn64tab), ("internal/strconv.uint64pow10", laid_internal_strconv_uint64pow10)] }
def StoreMakesSaid : Prop := storeMakesRow.holds Tryz.pinned (OpenSpec.ofChange storeMakesSpec)

/-- ITS FALSE NEIGHBOUR: 'it returns false'. Refute it at one input. -/
def storeMakesWrong : ChangeSpec := { name := "storeMakes", fn := fun _ => fun
  | [d1, d2, d3] => { results := [.lit (.bool false)], args := [d1, d2, d3] }
  | _ => none }
def StoreMakesWrongFalsely : Prop := storeMakesRow.holds Tryz.pinned (OpenSpec.ofChange storeMakesWrong)

/-- 'milepostlaw18.ContractKeeps': WHATEVER THE INPUT: true; the input reads as it did. -/
def contractKeepsSpec : ChangeSpec := { name := "contractKeeps", fn := fun _ => fun
  | [d1, d2, d3, d4] => { results := [.lit (.bool true)], args := [d1, d2, d3, d4] }
  | _ => none }
def contractKeepsRow : OpenClaim := { program := "ythkkgdpomhhjjaagreatdoor", sum := "75f3dca14ef91b438af466f4b9bf52913ea5db6516b8cc02b63da54497e2c232", func := "milepost/milepostlaw18.ContractKeeps", spec := "contractKeeps", inPlace := ["math/bits.Add64"], unfollowed := true, recurses := true, named := ["internal/strconv.uint64pow10", "math/bits.deBruijn32tab", "math/bits.deBruijn64tab"], plainKeys := false, apart := false, laid := [("math/bits.deBruijn32tab", laid_math_bits_deBruijn32tab), ("math/bits.deBruijn64tab", laid_math_bits_deBruijn64tab), ("internal/strconv.uint64pow10", laid_internal_strconv_uint64pow10)] }
def ContractKeepsSaid : Prop := contractKeepsRow.holds Tryz.pinned (OpenSpec.ofChange contractKeepsSpec)

/-- ITS FALSE NEIGHBOUR: 'it returns false'. Refute it at one input. -/
def contractKeepsWrong : ChangeSpec := { name := "contractKeeps", fn := fun _ => fun
  | [d1, d2, d3, d4] => { results := [.lit (.bool false)], args := [d1, d2, d3, d4] }
  | _ => none }
def ContractKeepsWrongFalsely : Prop := contractKeepsRow.holds Tryz.pinned (OpenSpec.ofChange contractKeepsWrong)

/-- 'milepostlaw18.ContractPicks': WHATEVER THE INPUT: true; the input reads as it did. -/
def contractPicksSpec : ChangeSpec := { name := "contractPicks", fn := fun _ => fun
  | [d1, d2] => { results := [.lit (.bool true)], args := [d1, d2] }
  | _ => none }
def contractPicksRow : OpenClaim := { program := "ythkkgdpomhhjjaagreatdoor", sum := "75f3dca14ef91b438af466f4b9bf52913ea5db6516b8cc02b63da54497e2c232", func := "milepost/milepostlaw18.ContractPicks", spec := "contractPicks", inPlace := ["math/bits.Add64"], unfollowed := true, recurses := true, named := ["internal/strconv.uint64pow10", "math/bits.deBruijn32tab", "math/bits.deBruijn64tab"], plainKeys := false, apart := false, laid := [("math/bits.deBruijn32tab", laid_math_bits_deBruijn32tab), ("math/bits.deBruijn64tab", laid_math_bits_deBruijn64tab), ("internal/strconv.uint64pow10", laid_internal_strconv_uint64pow10)] }
def ContractPicksSaid : Prop := contractPicksRow.holds Tryz.pinned (OpenSpec.ofChange contractPicksSpec)

/-- ITS FALSE NEIGHBOUR: 'it returns false'. Refute it at one input. -/
def contractPicksWrong : ChangeSpec := { name := "contractPicks", fn := fun _ => fun
  | [d1, d2] => { results := [.lit (.bool false)], args := [d1, d2] }
  | _ => none }
def ContractPicksWrongFalsely : Prop := contractPicksRow.holds Tryz.pinned (OpenSpec.ofChange contractPicksWrong)

/-- 'milepostlaw18.ContractCuts': WHATEVER THE INPUT: true; the input reads as it did. -/
def contractCutsSpec : ChangeSpec := { name := "contractCuts", fn := fun _ => fun
  | [d1, d2] => { results := [.lit (.bool true)], args := [d1, d2] }
  | _ => none }
def contractCutsRow : OpenClaim := { program := "ythkkgdpomhhjjaagreatdoor", sum := "75f3dca14ef91b438af466f4b9bf52913ea5db6516b8cc02b63da54497e2c232", func := "milepost/milepostlaw18.ContractCuts", spec := "contractCuts", inPlace := ["math/bits.Add64"], unfollowed := true, recurses := true, named := ["internal/strconv.uint64pow10", "math/bits.deBruijn32tab", "math/bits.deBruijn64tab"], plainKeys := false, apart := false, laid := [("math/bits.deBruijn32tab", laid_math_bits_deBruijn32tab), ("math/bits.deBruijn64tab", laid_math_bits_deBruijn64tab), ("internal/strconv.uint64pow10", laid_internal_strconv_uint64pow10)] }
def ContractCutsSaid : Prop := contractCutsRow.holds Tryz.pinned (OpenSpec.ofChange contractCutsSpec)

/-- ITS FALSE NEIGHBOUR: 'it returns false'. Refute it at one input. -/
def contractCutsWrong : ChangeSpec := { name := "contractCuts", fn := fun _ => fun
  | [d1, d2] => { results := [.lit (.bool false)], args := [d1, d2] }
  | _ => none }
def ContractCutsWrongFalsely : Prop := contractCutsRow.holds Tryz.pinned (OpenSpec.ofChange contractCutsWrong)

/-- 'milepostlaw18.ContractRanks': WHATEVER THE INPUT: true; the input reads as it did. -/
def contractRanksSpec : ChangeSpec := { name := "contractRanks", fn := fun _ => fun
  | [d] => { results := [.lit (.bool true)], args := [d] }
  | _ => none }
def contractRanksRow : OpenClaim := { program := "ythkkgdpomhhjjaagreatdoor", sum := "75f3dca14ef91b438af466f4b9bf52913ea5db6516b8cc02b63da54497e2c232", func := "milepost/milepostlaw18.ContractRanks", spec := "contractRanks", inPlace := ["math/bits.Add64"], unfollowed := true, recurses := true, named := ["internal/strconv.uint64pow10", "math/bits.deBruijn32tab", "math/bits.deBruijn64tab"], plainKeys := false, apart := false, laid := [("math/bits.deBruijn32tab", laid_math_bits_deBruijn32tab), ("math/bits.deBruijn64tab", laid_math_bits_deBruijn64tab), ("internal/strconv.uint64pow10", laid_internal_strconv_uint64pow10)] }
def ContractRanksSaid : Prop := contractRanksRow.holds Tryz.pinned (OpenSpec.ofChange contractRanksSpec)

/-- ITS FALSE NEIGHBOUR: 'it returns false'. Refute it at one input. -/
def contractRanksWrong : ChangeSpec := { name := "contractRanks", fn := fun _ => fun
  | [d] => { results := [.lit (.bool false)], args := [d] }
  | _ => none }
def ContractRanksWrongFalsely : Prop := contractRanksRow.holds Tryz.pinned (OpenSpec.ofChange contractRanksWrong)

/-- 'milepostlaw18.ContractRefuses': WHATEVER THE INPUT: true; the input reads as it did. -/
def contractRefusesSpec : ChangeSpec := { name := "contractRefuses", fn := fun _ => fun
  | [d1, d2, d3] => { results := [.lit (.bool true)], args := [d1, d2, d3] }
  | _ => none }
def contractRefusesRow : OpenClaim := { program := "ythkkgdpomhhjjaagreatdoor", sum := "75f3dca14ef91b438af466f4b9bf52913ea5db6516b8cc02b63da54497e2c232", func := "milepost/milepostlaw18.ContractRefuses", spec := "contractRefuses", inPlace := ["math/bits.Add64"], unfollowed := true, recurses := true, named := ["internal/strconv.uint64pow10", "math/bits.deBruijn32tab", "math/bits.deBruijn64tab"], plainKeys := false, apart := false, laid := [("math/bits.deBruijn32tab", laid_math_bits_deBruijn32tab), ("math/bits.deBruijn64tab", laid_math_bits_deBruijn64tab), ("internal/strconv.uint64pow10", laid_internal_strconv_uint64pow10)] }
def ContractRefusesSaid : Prop := contractRefusesRow.holds Tryz.pinned (OpenSpec.ofChange contractRefusesSpec)

/-- ITS FALSE NEIGHBOUR: 'it returns false'. Refute it at one input. -/
def contractRefusesWrong : ChangeSpec := { name := "contractRefuses", fn := fun _ => fun
  | [d1, d2, d3] => { results := [.lit (.bool false)], args := [d1, d2, d3] }
  | _ => none }
def ContractRefusesWrongFalsely : Prop := contractRefusesRow.holds Tryz.pinned (OpenSpec.ofChange contractRefusesWrong)

/-- 'milepostlaw18.ContractRounds': WHATEVER THE INPUT: true; the input reads as it did. -/
def contractRoundsSpec : ChangeSpec := { name := "contractRounds", fn := fun _ => fun
  | [d] => { results := [.lit (.bool true)], args := [d] }
  | _ => none }
def contractRoundsRow : OpenClaim := { program := "ythkkgdpomhhjjaagreatdoor", sum := "75f3dca14ef91b438af466f4b9bf52913ea5db6516b8cc02b63da54497e2c232", func := "milepost/milepostlaw18.ContractRounds", spec := "contractRounds", inPlace := ["math/bits.Add64"], unfollowed := true, recurses := true, named := ["internal/strconv.uint64pow10", "math/bits.deBruijn32tab", "math/bits.deBruijn64tab"], plainKeys := false, apart := false, laid := [("math/bits.deBruijn32tab", laid_math_bits_deBruijn32tab), ("math/bits.deBruijn64tab", laid_math_bits_deBruijn64tab), ("internal/strconv.uint64pow10", laid_internal_strconv_uint64pow10)] }
def ContractRoundsSaid : Prop := contractRoundsRow.holds Tryz.pinned (OpenSpec.ofChange contractRoundsSpec)

/-- ITS FALSE NEIGHBOUR: 'it returns false'. Refute it at one input. -/
def contractRoundsWrong : ChangeSpec := { name := "contractRounds", fn := fun _ => fun
  | [d] => { results := [.lit (.bool false)], args := [d] }
  | _ => none }
def ContractRoundsWrongFalsely : Prop := contractRoundsRow.holds Tryz.pinned (OpenSpec.ofChange contractRoundsWrong)

/- THE SECOND FORM. 'bulk': how many values and letters a reading holds, each counted each time it is reached (what is shared counts as often as it is met; a slice's spare places count too). A statement '..UptoSaid' is the law's where the arguments, and the package variables that the reading takes, are together of bulk at most 1048576: NARROWER than '..Said'. Prove '..Said' where nothing that the law and all that it calls make is longer than what came in: it says more and counts as full. Else prove '..UptoSaid'. A law counts once. -/
mutual
def uptoBulk {H : Type} : DataW H → Nat
  | .lit (.string bytes) => bytes.length + 1
  | .lit _ => 1
  | .nil => 1
  | .ptr d => uptoBulk d + 1
  | .slice elems spare => uptoBulkAll elems + uptoBulkAll spare + 1
  | .agg parts => uptoBulkAll parts + 1
  | .iface _ d => uptoBulk d + 1
  | .map entries => uptoBulkEntries entries + 1
  | .held _ => 1
def uptoBulkAll {H : Type} : List (DataW H) → Nat
  | [] => 0
  | d :: r => uptoBulk d + uptoBulkAll r
def uptoBulkEntries {H : Type} : List (Lit × DataW H) → Nat
  | [] => 0
  | x :: r => uptoBulkEntry x + uptoBulkEntries r
def uptoBulkEntry {H : Type} : Lit × DataW H → Nat
  | (.string bytes, d) => bytes.length + uptoBulk d + 1
  | (_, d) => uptoBulk d + 1
 end
def uptoSmall : (H : Type) → List (DataW H) → Bool := fun _ ds => decide (uptoBulkAll ds ≤ 1048576)
def OpenSpec.upto (s : _root_.Go.ChangeSpec) : _root_.Go.OpenSpec := { _root_.Go.OpenSpec.ofChange s with cond := some uptoSmall }

/-- 'milepostlaw13.StoreMakes', WHERE WHAT IT READS IS OF BULK AT MOST 1048576: true; the input reads as it did. -/
def storeMakesUptoRow : OpenClaim := { program := "ythkkgdpomhhjjaagreatdoor", sum := "75f3dca14ef91b438af466f4b9bf52913ea5db6516b8cc02b63da54497e2c232", func := "milepost/milepostlaw13.StoreMakes", spec := "storeMakes", unfollowed := true, recurses := true, named := ["internal/strconv.uint64pow10", "math/bits.deBruijn32tab", "math/bits.deBruijn64tab"], plainKeys := false, apart := false, laid := [("math/bits.deBruijn32tab", laid_math_bits_deBruijn32tab), ("math/bits.deBruijn64tab", laid_math_bits_deBruijn64tab), ("internal/strconv.uint64pow10", laid_internal_strconv_uint64pow10)], narrowed := true }
def StoreMakesUptoSaid : Prop := storeMakesUptoRow.holds Tryz.pinned (OpenSpec.upto storeMakesSpec)

/-- 'milepostlaw18.ContractKeeps', WHERE WHAT IT READS IS OF BULK AT MOST 1048576: true; the input reads as it did. -/
def contractKeepsUptoRow : OpenClaim := { program := "ythkkgdpomhhjjaagreatdoor", sum := "75f3dca14ef91b438af466f4b9bf52913ea5db6516b8cc02b63da54497e2c232", func := "milepost/milepostlaw18.ContractKeeps", spec := "contractKeeps", inPlace := ["math/bits.Add64"], unfollowed := true, recurses := true, named := ["internal/strconv.uint64pow10", "math/bits.deBruijn32tab", "math/bits.deBruijn64tab"], plainKeys := false, apart := false, laid := [("math/bits.deBruijn32tab", laid_math_bits_deBruijn32tab), ("math/bits.deBruijn64tab", laid_math_bits_deBruijn64tab), ("internal/strconv.uint64pow10", laid_internal_strconv_uint64pow10)], narrowed := true }
def ContractKeepsUptoSaid : Prop := contractKeepsUptoRow.holds Tryz.pinned (OpenSpec.upto contractKeepsSpec)

/-- 'milepostlaw18.ContractPicks', WHERE WHAT IT READS IS OF BULK AT MOST 1048576: true; the input reads as it did. -/
def contractPicksUptoRow : OpenClaim := { program := "ythkkgdpomhhjjaagreatdoor", sum := "75f3dca14ef91b438af466f4b9bf52913ea5db6516b8cc02b63da54497e2c232", func := "milepost/milepostlaw18.ContractPicks", spec := "contractPicks", inPlace := ["math/bits.Add64"], unfollowed := true, recurses := true, named := ["internal/strconv.uint64pow10", "math/bits.deBruijn32tab", "math/bits.deBruijn64tab"], plainKeys := false, apart := false, laid := [("math/bits.deBruijn32tab", laid_math_bits_deBruijn32tab), ("math/bits.deBruijn64tab", laid_math_bits_deBruijn64tab), ("internal/strconv.uint64pow10", laid_internal_strconv_uint64pow10)], narrowed := true }
def ContractPicksUptoSaid : Prop := contractPicksUptoRow.holds Tryz.pinned (OpenSpec.upto contractPicksSpec)

/-- 'milepostlaw18.ContractCuts', WHERE WHAT IT READS IS OF BULK AT MOST 1048576: true; the input reads as it did. -/
def contractCutsUptoRow : OpenClaim := { program := "ythkkgdpomhhjjaagreatdoor", sum := "75f3dca14ef91b438af466f4b9bf52913ea5db6516b8cc02b63da54497e2c232", func := "milepost/milepostlaw18.ContractCuts", spec := "contractCuts", inPlace := ["math/bits.Add64"], unfollowed := true, recurses := true, named := ["internal/strconv.uint64pow10", "math/bits.deBruijn32tab", "math/bits.deBruijn64tab"], plainKeys := false, apart := false, laid := [("math/bits.deBruijn32tab", laid_math_bits_deBruijn32tab), ("math/bits.deBruijn64tab", laid_math_bits_deBruijn64tab), ("internal/strconv.uint64pow10", laid_internal_strconv_uint64pow10)], narrowed := true }
def ContractCutsUptoSaid : Prop := contractCutsUptoRow.holds Tryz.pinned (OpenSpec.upto contractCutsSpec)

/-- 'milepostlaw18.ContractRanks', WHERE WHAT IT READS IS OF BULK AT MOST 1048576: true; the input reads as it did. -/
def contractRanksUptoRow : OpenClaim := { program := "ythkkgdpomhhjjaagreatdoor", sum := "75f3dca14ef91b438af466f4b9bf52913ea5db6516b8cc02b63da54497e2c232", func := "milepost/milepostlaw18.ContractRanks", spec := "contractRanks", inPlace := ["math/bits.Add64"], unfollowed := true, recurses := true, named := ["internal/strconv.uint64pow10", "math/bits.deBruijn32tab", "math/bits.deBruijn64tab"], plainKeys := false, apart := false, laid := [("math/bits.deBruijn32tab", laid_math_bits_deBruijn32tab), ("math/bits.deBruijn64tab", laid_math_bits_deBruijn64tab), ("internal/strconv.uint64pow10", laid_internal_strconv_uint64pow10)], narrowed := true }
def ContractRanksUptoSaid : Prop := contractRanksUptoRow.holds Tryz.pinned (OpenSpec.upto contractRanksSpec)

/-- 'milepostlaw18.ContractRefuses', WHERE WHAT IT READS IS OF BULK AT MOST 1048576: true; the input reads as it did. -/
def contractRefusesUptoRow : OpenClaim := { program := "ythkkgdpomhhjjaagreatdoor", sum := "75f3dca14ef91b438af466f4b9bf52913ea5db6516b8cc02b63da54497e2c232", func := "milepost/milepostlaw18.ContractRefuses", spec := "contractRefuses", inPlace := ["math/bits.Add64"], unfollowed := true, recurses := true, named := ["internal/strconv.uint64pow10", "math/bits.deBruijn32tab", "math/bits.deBruijn64tab"], plainKeys := false, apart := false, laid := [("math/bits.deBruijn32tab", laid_math_bits_deBruijn32tab), ("math/bits.deBruijn64tab", laid_math_bits_deBruijn64tab), ("internal/strconv.uint64pow10", laid_internal_strconv_uint64pow10)], narrowed := true }
def ContractRefusesUptoSaid : Prop := contractRefusesUptoRow.holds Tryz.pinned (OpenSpec.upto contractRefusesSpec)

/-- 'milepostlaw18.ContractRounds', WHERE WHAT IT READS IS OF BULK AT MOST 1048576: true; the input reads as it did. -/
def contractRoundsUptoRow : OpenClaim := { program := "ythkkgdpomhhjjaagreatdoor", sum := "75f3dca14ef91b438af466f4b9bf52913ea5db6516b8cc02b63da54497e2c232", func := "milepost/milepostlaw18.ContractRounds", spec := "contractRounds", inPlace := ["math/bits.Add64"], unfollowed := true, recurses := true, named := ["internal/strconv.uint64pow10", "math/bits.deBruijn32tab", "math/bits.deBruijn64tab"], plainKeys := false, apart := false, laid := [("math/bits.deBruijn32tab", laid_math_bits_deBruijn32tab), ("math/bits.deBruijn64tab", laid_math_bits_deBruijn64tab), ("internal/strconv.uint64pow10", laid_internal_strconv_uint64pow10)], narrowed := true }
def ContractRoundsUptoSaid : Prop := contractRoundsUptoRow.holds Tryz.pinned (OpenSpec.upto contractRoundsSpec)

end Rows
end Go.Proofs.YthkkgdpomhhjjaaGreatDoor
