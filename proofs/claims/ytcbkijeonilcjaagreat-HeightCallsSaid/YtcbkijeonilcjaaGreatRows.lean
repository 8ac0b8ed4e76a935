/-
  No cell of these rows narrows 'for every input' (looked for: loops, veiled, ifaces, maps, wideKeys, modest, calm, conditions, laid).
  DERIVED. THE GIVEN ROWS OF THIS SEAT. 6 by the template 'for every input the law returns true; each argument reads behind the call as it read before'; 0 by the template 'total and deterministic' (their statements: YtcbkijeonilcjaaGreatTotals.lean).
  GIVEN WITH THE SEED: the statements are not yours to turn. If you find one false, say at which input.
  Laid BY PROGRAM, IN A SANDBOX (cutbox-rows.mjs): the forced cells as the released guide's own fill.sh prints them over the translation 64810acdec0e5e5a… (all of the seat's roots in one cut). By AI agents, Wed Nov 11 2026. No macro, syntax, notation, axiom, sorry.
-/
import Derived.Test.YtcbkijeonilcjaaGreatChecked
import GoSem.Claim
import GoSem.ClaimJoined
import GoSem.ClaimMapViews
import Derived.JoinedTies
import Derived.KernelRfl
namespace Go.Proofs.YtcbkijeonilcjaaGreat
/- THE CELL 'sum', in the pinned program and in every row, IS THE sha256 OF THE DUMP (.gsa) THAT YtcbkijeonilcjaaGreatProg.lean LOADS. Nothing in Lean hashes anything: it is a label: what it is worth is what the hold of that sum in a sandbox is worth. -/
noncomputable def Tryz.pinned : Pinned := { name := "ytcbkijeonilcjaagreat", sum := "64810acdec0e5e5a27960662ea47ecf7a1f4aa83419e952db5dcfde3e3330776", checked := Tryz.checked }
namespace Rows
def none {H : Type} : Left H := { results := [], args := [] }

/-- 'slackwaterlaw16.HeightCalls': WHATEVER THE INPUT: true; the input reads as it did. -/
def heightCallsSpec : ChangeSpec := { name := "heightCalls", fn := fun _ => fun
  | [d1, d2] => { results := [.lit (.bool true)], args := [d1, d2] }
  | _ => none }
def heightCallsRow : OpenClaim := { program := "ytcbkijeonilcjaagreat", sum := "64810acdec0e5e5a27960662ea47ecf7a1f4aa83419e952db5dcfde3e3330776", func := "slackwater/slackwaterlaw16.HeightCalls", spec := "heightCalls", inPlace := ["math.Float64bits", "math.Float64frombits"], plainKeys := false, apart := false }
def HeightCallsSaid : Prop := heightCallsRow.holds Tryz.pinned (OpenSpec.ofChange heightCallsSpec)

/-- ITS FALSE NEIGHBOUR: 'it returns false'. Refute it at one input. -/
def heightCallsWrong : ChangeSpec := { name := "heightCalls", fn := fun _ => fun
  | [d1, d2] => { results := [.lit (.bool false)], args := [d1, d2] }
  | _ => none }
def HeightCallsWrongFalsely : Prop := heightCallsRow.holds Tryz.pinned (OpenSpec.ofChange heightCallsWrong)

/-- 'slackwaterlaw16.HeightSure': WHATEVER THE INPUT: true; the input reads as it did. -/
def heightSureSpec : ChangeSpec := { name := "heightSure", fn := fun _ => fun
  | [d1, d2, d3] => { results := [.lit (.bool true)], args := [d1, d2, d3] }
  | _ => none }
def heightSureRow : OpenClaim := { program := "ytcbkijeonilcjaagreat", sum := "64810acdec0e5e5a27960662ea47ecf7a1f4aa83419e952db5dcfde3e3330776", func := "slackwater/slackwaterlaw16.HeightSure", spec := "heightSure", inPlace := ["math.Float64bits", "math.Float64frombits"], plainKeys := false, apart := false }
def HeightSureSaid : Prop := heightSureRow.holds Tryz.pinned (OpenSpec.ofChange heightSureSpec)

/-- ITS FALSE NEIGHBOUR: 'it returns false'. Refute it at one input. -/
def heightSureWrong : ChangeSpec := { name := "heightSure", fn := fun _ => fun
  | [d1, d2, d3] => { results := [.lit (.bool false)], args := [d1, d2, d3] }
  | _ => none }
def HeightSureWrongFalsely : Prop := heightSureRow.holds Tryz.pinned (OpenSpec.ofChange heightSureWrong)

/-- 'slackwaterlaw16.HeightBound': WHATEVER THE INPUT: true; the input reads as it did. -/
def heightBoundSpec : ChangeSpec := { name := "heightBound", fn := fun _ => fun
  | [d1, d2] => { results := [.lit (.bool true)], args := [d1, d2] }
  | _ => none }
def heightBoundRow : OpenClaim := { program := "ytcbkijeonilcjaagreat", sum := "64810acdec0e5e5a27960662ea47ecf7a1f4aa83419e952db5dcfde3e3330776", func := "slackwater/slackwaterlaw16.HeightBound", spec := "heightBound", inPlace := ["math.Float64bits", "math.Float64frombits"], plainKeys := false, apart := false }
def HeightBoundSaid : Prop := heightBoundRow.holds Tryz.pinned (OpenSpec.ofChange heightBoundSpec)

/-- ITS FALSE NEIGHBOUR: 'it returns false'. Refute it at one input. -/
def heightBoundWrong : ChangeSpec := { name := "heightBound", fn := fun _ => fun
  | [d1, d2] => { results := [.lit (.bool false)], args := [d1, d2] }
  | _ => none }
def HeightBoundWrongFalsely : Prop := heightBoundRow.holds Tryz.pinned (OpenSpec.ofChange heightBoundWrong)

/-- 'slackwaterlaw23.AnalyseExact': WHATEVER THE INPUT: true; the input reads as it did. -/
def analyseExactSpec : ChangeSpec := { name := "analyseExact", fn := fun _ => fun
  | [d1, d2, d3] => { results := [.lit (.bool true)], args := [d1, d2, d3] }
  | _ => none }
def analyseExactRow : OpenClaim := { program := "ytcbkijeonilcjaagreat", sum := "64810acdec0e5e5a27960662ea47ecf7a1f4aa83419e952db5dcfde3e3330776", func := "slackwater/slackwaterlaw23.AnalyseExact", spec := "analyseExact", unfollowed := true, recurses := true, plainKeys := false, apart := false }
def AnalyseExactSaid : Prop := analyseExactRow.holds Tryz.pinned (OpenSpec.ofChange analyseExactSpec)

/-- ITS FALSE NEIGHBOUR: 'it returns false'. Refute it at one input. -/
def analyseExactWrong : ChangeSpec := { name := "analyseExact", fn := fun _ => fun
  | [d1, d2, d3] => { results := [.lit (.bool false)], args := [d1, d2, d3] }
  | _ => none }
def AnalyseExactWrongFalsely : Prop := analyseExactRow.holds Tryz.pinned (OpenSpec.ofChange analyseExactWrong)

/-- 'slackwaterlaw25.WaterPorts': WHATEVER THE INPUT: true; the input reads as it did. -/
def waterPortsSpec : ChangeSpec := { name := "waterPorts", fn := fun _ => fun
  | [d1, d2, d3] => { results := [.lit (.bool true)], args := [d1, d2, d3] }
  | _ => none }
def waterPortsRow : OpenClaim := { program := "ytcbkijeonilcjaagreat", sum := "64810acdec0e5e5a27960662ea47ecf7a1f4aa83419e952db5dcfde3e3330776", func := "slackwater/slackwaterlaw25.WaterPorts", spec := "waterPorts", inPlace := ["math.Float64bits", "math.Float64frombits"], plainKeys := false, apart := false }
def WaterPortsSaid : Prop := waterPortsRow.holds Tryz.pinned (OpenSpec.ofChange waterPortsSpec)

/-- ITS FALSE NEIGHBOUR: 'it returns false'. Refute it at one input. -/
def waterPortsWrong : ChangeSpec := { name := "waterPorts", fn := fun _ => fun
  | [d1, d2, d3] => { results := [.lit (.bool false)], args := [d1, d2, d3] }
  | _ => none }
def WaterPortsWrongFalsely : Prop := waterPortsRow.holds Tryz.pinned (OpenSpec.ofChange waterPortsWrong)

/-- 'slackwaterlaw25.WaterSure': WHATEVER THE INPUT: true; the input reads as it did. -/
def waterSureSpec : ChangeSpec := { name := "waterSure", fn := fun _ => fun
  | [d1, d2, d3] => { results := [.lit (.bool true)], args := [d1, d2, d3] }
  | _ => none }
def waterSureRow : OpenClaim := { program := "ytcbkijeonilcjaagreat", sum := "64810acdec0e5e5a27960662ea47ecf7a1f4aa83419e952db5dcfde3e3330776", func := "slackwater/slackwaterlaw25.WaterSure", spec := "waterSure", inPlace := ["math.Float64bits", "math.Float64frombits"], plainKeys := false, apart := false }
def WaterSureSaid : Prop := waterSureRow.holds Tryz.pinned (OpenSpec.ofChange waterSureSpec)

/-- ITS FALSE NEIGHBOUR: 'it returns false'. Refute it at one input. -/
def waterSureWrong : ChangeSpec := { name := "waterSure", fn := fun _ => fun
  | [d1, d2, d3] => { results := [.lit (.bool false)], args := [d1, d2, d3] }
  | _ => none }
def WaterSureWrongFalsely : Prop := waterSureRow.holds Tryz.pinned (OpenSpec.ofChange waterSureWrong)

/- THE SECOND FORM. 'bulk': how many values and letters a reading holds, each counted each time it is reached (what is shared counts as often as it is met; a slice's spare places count too). A statement '..UptoSaid' is the law's where the arguments, and the package variables that the reading takes, are together of bulk at most 1048576: NARROWER than '..Said'. Prove '..Said' where nothing that the law and all that it calls make is longer than what came in: it says more and counts as full. Else prove '..UptoSaid'. A law counts once. -/
mutual
def uptoBulk {H : Type} : DataW H → Nat
  | .lit (.string bytes) => bytes.length + 1
  | .lit _ => 1
  | .nil => 1
  | .ptr d => uptoBulk d + 1
  | .slice elems spare => uptoBulkAll elems + uptoBulkAll spare + 1
  | .agg parts => uptoBulkAll parts + 1
  | .iface _ d => uptoBulk d + 1
  | .map entries => uptoBulkEntries entries + 1
  | .held _ => 1
def uptoBulkAll {H : Type} : List (DataW H) → Nat
  | [] => 0
  | d :: r => uptoBulk d + uptoBulkAll r
def uptoBulkEntries {H : Type} : List (Lit × DataW H) → Nat
  | [] => 0
  | x :: r => uptoBulkEntry x + uptoBulkEntries r
def uptoBulkEntry {H : Type} : Lit × DataW H → Nat
  | (.string bytes, d) => bytes.length + uptoBulk d + 1
  | (_, d) => uptoBulk d + 1
 end
def uptoSmall : (H : Type) → List (DataW H) → Bool := fun _ ds => decide (uptoBulkAll ds ≤ 1048576)
def OpenSpec.upto (s : _root_.Go.ChangeSpec) : _root_.Go.OpenSpec := { _root_.Go.OpenSpec.ofChange s with cond := some uptoSmall }

/-- 'slackwaterlaw16.HeightCalls', WHERE WHAT IT READS IS OF BULK AT MOST 1048576: true; the input reads as it did. -/
def heightCallsUptoRow : OpenClaim := { program := "ytcbkijeonilcjaagreat", sum := "64810acdec0e5e5a27960662ea47ecf7a1f4aa83419e952db5dcfde3e3330776", func := "slackwater/slackwaterlaw16.HeightCalls", spec := "heightCalls", inPlace := ["math.Float64bits", "math.Float64frombits"], plainKeys := false, apart := false, narrowed := true }
def HeightCallsUptoSaid : Prop := heightCallsUptoRow.holds Tryz.pinned (OpenSpec.upto heightCallsSpec)

/-- 'slackwaterlaw16.HeightSure', WHERE WHAT IT READS IS OF BULK AT MOST 1048576: true; the input reads as it did. -/
def heightSureUptoRow : OpenClaim := { program := "ytcbkijeonilcjaagreat", sum := "64810acdec0e5e5a27960662ea47ecf7a1f4aa83419e952db5dcfde3e3330776", func := "slackwater/slackwaterlaw16.HeightSure", spec := "heightSure", inPlace := ["math.Float64bits", "math.Float64frombits"], plainKeys := false, apart := false, narrowed := true }
def HeightSureUptoSaid : Prop := heightSureUptoRow.holds Tryz.pinned (OpenSpec.upto heightSureSpec)

/-- 'slackwaterlaw16.HeightBound', WHERE WHAT IT READS IS OF BULK AT MOST 1048576: true; the input reads as it did. -/
def heightBoundUptoRow : OpenClaim := { program := "ytcbkijeonilcjaagreat", sum := "64810acdec0e5e5a27960662ea47ecf7a1f4aa83419e952db5dcfde3e3330776", func := "slackwater/slackwaterlaw16.HeightBound", spec := "heightBound", inPlace := ["math.Float64bits", "math.Float64frombits"], plainKeys := false, apart := false, narrowed := true }
def HeightBoundUptoSaid : Prop := heightBoundUptoRow.holds Tryz.pinned (OpenSpec.upto heightBoundSpec)

/-- 'slackwaterlaw23.AnalyseExact', WHERE WHAT IT READS IS OF BULK AT MOST 1048576: true; the input reads as it did. -/
def analyseExactUptoRow : OpenClaim := { program := "ytcbkijeonilcjaagreat", sum := "64810acdec0e5e5a27960662ea47ecf7a1f4aa83419e952db5dcfde3e3330776", func := "slackwater/slackwaterlaw23.AnalyseExact", spec := "analyseExact", unfollowed := true, recurses := true, plainKeys := false, apart := false, narrowed := true }
def AnalyseExactUptoSaid : Prop := analyseExactUptoRow.holds Tryz.pinned (OpenSpec.upto analyseExactSpec)

/-- 'slackwaterlaw25.WaterPorts', WHERE WHAT IT READS IS OF BULK AT MOST 1048576: true; the input reads as it did. -/
def waterPortsUptoRow : OpenClaim := { program := "ytcbkijeonilcjaagreat", sum := "64810acdec0e5e5a27960662ea47ecf7a1f4aa83419e952db5dcfde3e3330776", func := "slackwater/slackwaterlaw25.WaterPorts", spec := "waterPorts", inPlace := ["math.Float64bits", "math.Float64frombits"], plainKeys := false, apart := false, narrowed := true }
def WaterPortsUptoSaid : Prop := waterPortsUptoRow.holds Tryz.pinned (OpenSpec.upto waterPortsSpec)

/-- 'slackwaterlaw25.WaterSure', WHERE WHAT IT READS IS OF BULK AT MOST 1048576: true; the input reads as it did. -/
def waterSureUptoRow : OpenClaim := { program := "ytcbkijeonilcjaagreat", sum := "64810acdec0e5e5a27960662ea47ecf7a1f4aa83419e952db5dcfde3e3330776", func := "slackwater/slackwaterlaw25.WaterSure", spec := "waterSure", inPlace := ["math.Float64bits", "math.Float64frombits"], plainKeys := false, apart := false, narrowed := true }
def WaterSureUptoSaid : Prop := waterSureUptoRow.holds Tryz.pinned (OpenSpec.upto waterSureSpec)

end Rows
end Go.Proofs.YtcbkijeonilcjaaGreat
