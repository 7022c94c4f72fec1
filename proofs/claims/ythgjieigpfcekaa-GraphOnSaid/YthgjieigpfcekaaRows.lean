/-
  NARROWER THAN 'FOR EVERY INPUT', by the rows' own cells (each row's printed sentence says how): MatchTells: loops · MatchOn: loops.
  DERIVED. THE GIVEN ROWS OF THIS SEAT. 10 by the template 'for every input the law returns true; each argument reads behind the call as it read before'; 0 by the template 'total and deterministic' (their statements: YthgjieigpfcekaaTotals.lean).
  GIVEN WITH THE SEED: the statements are not yours to turn. If you find one false, say at which input.
  Laid BY PROGRAM, IN A SANDBOX (cutbox-rows.mjs): the forced cells as the released guide's own fill.sh prints them over the translation 27639c83cf5625a4… (all of the seat's roots in one cut). By AI agents, Wed Nov 11 2026. No macro, syntax, notation, axiom, sorry.
-/
import Derived.Test.YthgjieigpfcekaaChecked
import GoSem.Claim
import GoSem.ClaimJoined
import GoSem.ClaimMapViews
import Derived.JoinedTies
import Derived.KernelRfl
namespace Go.Proofs.Ythgjieigpfcekaa
/- THE CELL 'sum', in the pinned program and in every row, IS THE sha256 OF THE DUMP (.gsa) THAT YthgjieigpfcekaaProg.lean LOADS. Nothing in Lean hashes anything: it is a label: what it is worth is what the hold of that sum in a sandbox is worth. -/
noncomputable def Try.pinned : Pinned := { name := "ythgjieigpfcekaa", sum := "27639c83cf5625a48cf68a0acf19fc6811205dbe4eddb76ea2d28b9435bcbd37", checked := Try.checked }
namespace Rows
def none {H : Type} : Left H := { results := [], args := [] }

/-- 'oriellaw12.MatchLinks': WHATEVER THE INPUT: true; the input reads as it did. -/
def matchLinksSpec : ChangeSpec := { name := "matchLinks", fn := fun _ => fun
  | [d1, d2, d3, d4] => { results := [.lit (.bool true)], args := [d1, d2, d3, d4] }
  | _ => none }
def matchLinksRow : OpenClaim := { program := "ythgjieigpfcekaa", sum := "27639c83cf5625a48cf68a0acf19fc6811205dbe4eddb76ea2d28b9435bcbd37", func := "oriel/oriellaw12.MatchLinks", spec := "matchLinks", unfollowed := true, recurses := true, plainKeys := false, apart := false }
def MatchLinksSaid : Prop := matchLinksRow.holds Try.pinned (OpenSpec.ofChange matchLinksSpec)

/-- ITS FALSE NEIGHBOUR: 'it returns false'. Refute it at one input. -/
def matchLinksWrong : ChangeSpec := { name := "matchLinks", fn := fun _ => fun
  | [d1, d2, d3, d4] => { results := [.lit (.bool false)], args := [d1, d2, d3, d4] }
  | _ => none }
def MatchLinksWrongFalsely : Prop := matchLinksRow.holds Try.pinned (OpenSpec.ofChange matchLinksWrong)

/-- 'oriellaw12.MatchClasses': WHATEVER THE INPUT: true; the input reads as it did. -/
def matchClassesSpec : ChangeSpec := { name := "matchClasses", fn := fun _ => fun
  | [d1, d2, d3, d4] => { results := [.lit (.bool true)], args := [d1, d2, d3, d4] }
  | _ => none }
def matchClassesRow : OpenClaim := { program := "ythgjieigpfcekaa", sum := "27639c83cf5625a48cf68a0acf19fc6811205dbe4eddb76ea2d28b9435bcbd37", func := "oriel/oriellaw12.MatchClasses", spec := "matchClasses", unfollowed := true, recurses := true, plainKeys := false, apart := false }
def MatchClassesSaid : Prop := matchClassesRow.holds Try.pinned (OpenSpec.ofChange matchClassesSpec)

/-- ITS FALSE NEIGHBOUR: 'it returns false'. Refute it at one input. -/
def matchClassesWrong : ChangeSpec := { name := "matchClasses", fn := fun _ => fun
  | [d1, d2, d3, d4] => { results := [.lit (.bool false)], args := [d1, d2, d3, d4] }
  | _ => none }
def MatchClassesWrongFalsely : Prop := matchClassesRow.holds Try.pinned (OpenSpec.ofChange matchClassesWrong)

/-- 'oriellaw12.MatchTells': WHATEVER THE INPUT: true; the input reads as it did. -/
def matchTellsSpec : ChangeSpec := { name := "matchTells", fn := fun _ => fun
  | [d1, d2] => { results := [.lit (.bool true)], args := [d1, d2] }
  | _ => none }
def matchTellsRow : OpenClaim := { program := "ythgjieigpfcekaa", sum := "27639c83cf5625a48cf68a0acf19fc6811205dbe4eddb76ea2d28b9435bcbd37", func := "oriel/oriellaw12.MatchTells", spec := "matchTells", unfollowed := true, recurses := true, loops := true, plainKeys := false, apart := false }
def MatchTellsSaid : Prop := matchTellsRow.holds Try.pinned (OpenSpec.ofChange matchTellsSpec)

/-- ITS FALSE NEIGHBOUR: 'it returns false'. Refute it at one input. -/
def matchTellsWrong : ChangeSpec := { name := "matchTells", fn := fun _ => fun
  | [d1, d2] => { results := [.lit (.bool false)], args := [d1, d2] }
  | _ => none }
def MatchTellsWrongFalsely : Prop := matchTellsRow.holds Try.pinned (OpenSpec.ofChange matchTellsWrong)

/-- 'oriellaw12.MatchOn': WHATEVER THE INPUT: true; the input reads as it did. -/
def matchOnSpec : ChangeSpec := { name := "matchOn", fn := fun _ => fun
  | [d1, d2, d3] => { results := [.lit (.bool true)], args := [d1, d2, d3] }
  | _ => none }
def matchOnRow : OpenClaim := { program := "ythgjieigpfcekaa", sum := "27639c83cf5625a48cf68a0acf19fc6811205dbe4eddb76ea2d28b9435bcbd37", func := "oriel/oriellaw12.MatchOn", spec := "matchOn", unfollowed := true, recurses := true, loops := true, plainKeys := false, apart := false }
def MatchOnSaid : Prop := matchOnRow.holds Try.pinned (OpenSpec.ofChange matchOnSpec)

/-- ITS FALSE NEIGHBOUR: 'it returns false'. Refute it at one input. -/
def matchOnWrong : ChangeSpec := { name := "matchOn", fn := fun _ => fun
  | [d1, d2, d3] => { results := [.lit (.bool false)], args := [d1, d2, d3] }
  | _ => none }
def MatchOnWrongFalsely : Prop := matchOnRow.holds Try.pinned (OpenSpec.ofChange matchOnWrong)

/-- 'oriellaw15.GraphRight': WHATEVER THE INPUT: true; the input reads as it did. -/
def graphRightSpec : ChangeSpec := { name := "graphRight", fn := fun _ => fun
  | [d1, d2, d3] => { results := [.lit (.bool true)], args := [d1, d2, d3] }
  | _ => none }
def graphRightRow : OpenClaim := { program := "ythgjieigpfcekaa", sum := "27639c83cf5625a48cf68a0acf19fc6811205dbe4eddb76ea2d28b9435bcbd37", func := "oriel/oriellaw15.GraphRight", spec := "graphRight", unfollowed := true, recurses := true, plainKeys := false, apart := false }
def GraphRightSaid : Prop := graphRightRow.holds Try.pinned (OpenSpec.ofChange graphRightSpec)

/-- ITS FALSE NEIGHBOUR: 'it returns false'. Refute it at one input. -/
def graphRightWrong : ChangeSpec := { name := "graphRight", fn := fun _ => fun
  | [d1, d2, d3] => { results := [.lit (.bool false)], args := [d1, d2, d3] }
  | _ => none }
def GraphRightWrongFalsely : Prop := graphRightRow.holds Try.pinned (OpenSpec.ofChange graphRightWrong)

/-- 'oriellaw15.GraphSelf': WHATEVER THE INPUT: true; the input reads as it did. -/
def graphSelfSpec : ChangeSpec := { name := "graphSelf", fn := fun _ => fun
  | [d1, d2, d3, d4] => { results := [.lit (.bool true)], args := [d1, d2, d3, d4] }
  | _ => none }
def graphSelfRow : OpenClaim := { program := "ythgjieigpfcekaa", sum := "27639c83cf5625a48cf68a0acf19fc6811205dbe4eddb76ea2d28b9435bcbd37", func := "oriel/oriellaw15.GraphSelf", spec := "graphSelf", unfollowed := true, recurses := true, plainKeys := false, apart := false }
def GraphSelfSaid : Prop := graphSelfRow.holds Try.pinned (OpenSpec.ofChange graphSelfSpec)

/-- ITS FALSE NEIGHBOUR: 'it returns false'. Refute it at one input. -/
def graphSelfWrong : ChangeSpec := { name := "graphSelf", fn := fun _ => fun
  | [d1, d2, d3, d4] => { results := [.lit (.bool false)], args := [d1, d2, d3, d4] }
  | _ => none }
def GraphSelfWrongFalsely : Prop := graphSelfRow.holds Try.pinned (OpenSpec.ofChange graphSelfWrong)

/-- 'oriellaw15.GraphOn': WHATEVER THE INPUT: true; the input reads as it did. -/
def graphOnSpec : ChangeSpec := { name := "graphOn", fn := fun _ => fun
  | [d1, d2, d3, d4, d5] => { results := [.lit (.bool true)], args := [d1, d2, d3, d4, d5] }
  | _ => none }
def graphOnRow : OpenClaim := { program := "ythgjieigpfcekaa", sum := "27639c83cf5625a48cf68a0acf19fc6811205dbe4eddb76ea2d28b9435bcbd37", func := "oriel/oriellaw15.GraphOn", spec := "graphOn", unfollowed := true, recurses := true, plainKeys := false, apart := false }
def GraphOnSaid : Prop := graphOnRow.holds Try.pinned (OpenSpec.ofChange graphOnSpec)

/-- ITS FALSE NEIGHBOUR: 'it returns false'. Refute it at one input. -/
def graphOnWrong : ChangeSpec := { name := "graphOn", fn := fun _ => fun
  | [d1, d2, d3, d4, d5] => { results := [.lit (.bool false)], args := [d1, d2, d3, d4, d5] }
  | _ => none }
def GraphOnWrongFalsely : Prop := graphOnRow.holds Try.pinned (OpenSpec.ofChange graphOnWrong)

/-- 'oriellaw15.GraphMaps': WHATEVER THE INPUT: true; the input reads as it did. -/
def graphMapsSpec : ChangeSpec := { name := "graphMaps", fn := fun _ => fun
  | [d1, d2, d3] => { results := [.lit (.bool true)], args := [d1, d2, d3] }
  | _ => none }
def graphMapsRow : OpenClaim := { program := "ythgjieigpfcekaa", sum := "27639c83cf5625a48cf68a0acf19fc6811205dbe4eddb76ea2d28b9435bcbd37", func := "oriel/oriellaw15.GraphMaps", spec := "graphMaps", unfollowed := true, recurses := true, plainKeys := false, apart := false }
def GraphMapsSaid : Prop := graphMapsRow.holds Try.pinned (OpenSpec.ofChange graphMapsSpec)

/-- ITS FALSE NEIGHBOUR: 'it returns false'. Refute it at one input. -/
def graphMapsWrong : ChangeSpec := { name := "graphMaps", fn := fun _ => fun
  | [d1, d2, d3] => { results := [.lit (.bool false)], args := [d1, d2, d3] }
  | _ => none }
def GraphMapsWrongFalsely : Prop := graphMapsRow.holds Try.pinned (OpenSpec.ofChange graphMapsWrong)

/-- 'oriellaw32.WhyPaths': WHATEVER THE INPUT: true; the input reads as it did. -/
def whyPathsSpec : ChangeSpec := { name := "whyPaths", fn := fun _ => fun
  | [d1, d2, d3] => { results := [.lit (.bool true)], args := [d1, d2, d3] }
  | _ => none }
def whyPathsRow : OpenClaim := { program := "ythgjieigpfcekaa", sum := "27639c83cf5625a48cf68a0acf19fc6811205dbe4eddb76ea2d28b9435bcbd37", func := "oriel/oriellaw32.WhyPaths", spec := "whyPaths", unfollowed := true, recurses := true, plainKeys := false, apart := false }
def WhyPathsSaid : Prop := whyPathsRow.holds Try.pinned (OpenSpec.ofChange whyPathsSpec)

/-- ITS FALSE NEIGHBOUR: 'it returns false'. Refute it at one input. -/
def whyPathsWrong : ChangeSpec := { name := "whyPaths", fn := fun _ => fun
  | [d1, d2, d3] => { results := [.lit (.bool false)], args := [d1, d2, d3] }
  | _ => none }
def WhyPathsWrongFalsely : Prop := whyPathsRow.holds Try.pinned (OpenSpec.ofChange whyPathsWrong)

/-- 'oriellaw32.WhySteps': WHATEVER THE INPUT: true; the input reads as it did. -/
def whyStepsSpec : ChangeSpec := { name := "whySteps", fn := fun _ => fun
  | [d1, d2, d3, d4] => { results := [.lit (.bool true)], args := [d1, d2, d3, d4] }
  | _ => none }
def whyStepsRow : OpenClaim := { program := "ythgjieigpfcekaa", sum := "27639c83cf5625a48cf68a0acf19fc6811205dbe4eddb76ea2d28b9435bcbd37", func := "oriel/oriellaw32.WhySteps", spec := "whySteps", unfollowed := true, recurses := true, plainKeys := false, apart := false }
def WhyStepsSaid : Prop := whyStepsRow.holds Try.pinned (OpenSpec.ofChange whyStepsSpec)

/-- ITS FALSE NEIGHBOUR: 'it returns false'. Refute it at one input. -/
def whyStepsWrong : ChangeSpec := { name := "whySteps", fn := fun _ => fun
  | [d1, d2, d3, d4] => { results := [.lit (.bool false)], args := [d1, d2, d3, d4] }
  | _ => none }
def WhyStepsWrongFalsely : Prop := whyStepsRow.holds Try.pinned (OpenSpec.ofChange whyStepsWrong)

/- THE SECOND FORM. 'bulk': how many values and letters a reading holds, each counted each time it is reached (what is shared counts as often as it is met; a slice's spare places count too). A statement '..UptoSaid' is the law's where the arguments, and the package variables that the reading takes, are together of bulk at most 1048576: NARROWER than '..Said'. Prove '..Said' where nothing that the law and all that it calls make is longer than what came in: it says more and counts as full. Else prove '..UptoSaid'. A law counts once. -/
mutual
def uptoBulk {H : Type} : DataW H → Nat
  | .lit (.string bytes) => bytes.length + 1
  | .lit _ => 1
  | .nil => 1
  | .ptr d => uptoBulk d + 1
  | .slice elems spare => uptoBulkAll elems + uptoBulkAll spare + 1
  | .agg parts => uptoBulkAll parts + 1
  | .iface _ d => uptoBulk d + 1
  | .map entries => uptoBulkEntries entries + 1
  | .held _ => 1
def uptoBulkAll {H : Type} : List (DataW H) → Nat
  | [] => 0
  | d :: r => uptoBulk d + uptoBulkAll r
def uptoBulkEntries {H : Type} : List (Lit × DataW H) → Nat
  | [] => 0
  | x :: r => uptoBulkEntry x + uptoBulkEntries r
def uptoBulkEntry {H : Type} : Lit × DataW H → Nat
  | (.string bytes, d) => bytes.length + uptoBulk d + 1
  | (_, d) => uptoBulk d + 1
 end
def uptoSmall : (H : Type) → List (DataW H) → Bool := fun _ ds => decide (uptoBulkAll ds ≤ 1048576)
def OpenSpec.upto (s : _root_.Go.ChangeSpec) : _root_.Go.OpenSpec := { _root_.Go.OpenSpec.ofChange s with cond := some uptoSmall }

/-- 'oriellaw12.MatchLinks', WHERE WHAT IT READS IS OF BULK AT MOST 1048576: true; the input reads as it did. -/
def matchLinksUptoRow : OpenClaim := { program := "ythgjieigpfcekaa", sum := "27639c83cf5625a48cf68a0acf19fc6811205dbe4eddb76ea2d28b9435bcbd37", func := "oriel/oriellaw12.MatchLinks", spec := "matchLinks", unfollowed := true, recurses := true, plainKeys := false, apart := false, narrowed := true }
def MatchLinksUptoSaid : Prop := matchLinksUptoRow.holds Try.pinned (OpenSpec.upto matchLinksSpec)

/-- 'oriellaw12.MatchClasses', WHERE WHAT IT READS IS OF BULK AT MOST 1048576: true; the input reads as it did. -/
def matchClassesUptoRow : OpenClaim := { program := "ythgjieigpfcekaa", sum := "27639c83cf5625a48cf68a0acf19fc6811205dbe4eddb76ea2d28b9435bcbd37", func := "oriel/oriellaw12.MatchClasses", spec := "matchClasses", unfollowed := true, recurses := true, plainKeys := false, apart := false, narrowed := true }
def MatchClassesUptoSaid : Prop := matchClassesUptoRow.holds Try.pinned (OpenSpec.upto matchClassesSpec)

/-- 'oriellaw12.MatchTells', WHERE WHAT IT READS IS OF BULK AT MOST 1048576: true; the input reads as it did. -/
def matchTellsUptoRow : OpenClaim := { program := "ythgjieigpfcekaa", sum := "27639c83cf5625a48cf68a0acf19fc6811205dbe4eddb76ea2d28b9435bcbd37", func := "oriel/oriellaw12.MatchTells", spec := "matchTells", unfollowed := true, recurses := true, loops := true, plainKeys := false, apart := false, narrowed := true }
def MatchTellsUptoSaid : Prop := matchTellsUptoRow.holds Try.pinned (OpenSpec.upto matchTellsSpec)

/-- 'oriellaw12.MatchOn', WHERE WHAT IT READS IS OF BULK AT MOST 1048576: true; the input reads as it did. -/
def matchOnUptoRow : OpenClaim := { program := "ythgjieigpfcekaa", sum := "27639c83cf5625a48cf68a0acf19fc6811205dbe4eddb76ea2d28b9435bcbd37", func := "oriel/oriellaw12.MatchOn", spec := "matchOn", unfollowed := true, recurses := true, loops := true, plainKeys := false, apart := false, narrowed := true }
def MatchOnUptoSaid : Prop := matchOnUptoRow.holds Try.pinned (OpenSpec.upto matchOnSpec)

/-- 'oriellaw15.GraphRight', WHERE WHAT IT READS IS OF BULK AT MOST 1048576: true; the input reads as it did. -/
def graphRightUptoRow : OpenClaim := { program := "ythgjieigpfcekaa", sum := "27639c83cf5625a48cf68a0acf19fc6811205dbe4eddb76ea2d28b9435bcbd37", func := "oriel/oriellaw15.GraphRight", spec := "graphRight", unfollowed := true, recurses := true, plainKeys := false, apart := false, narrowed := true }
def GraphRightUptoSaid : Prop := graphRightUptoRow.holds Try.pinned (OpenSpec.upto graphRightSpec)

/-- 'oriellaw15.GraphSelf', WHERE WHAT IT READS IS OF BULK AT MOST 1048576: true; the input reads as it did. -/
def graphSelfUptoRow : OpenClaim := { program := "ythgjieigpfcekaa", sum := "27639c83cf5625a48cf68a0acf19fc6811205dbe4eddb76ea2d28b9435bcbd37", func := "oriel/oriellaw15.GraphSelf", spec := "graphSelf", unfollowed := true, recurses := true, plainKeys := false, apart := false, narrowed := true }
def GraphSelfUptoSaid : Prop := graphSelfUptoRow.holds Try.pinned (OpenSpec.upto graphSelfSpec)

/-- 'oriellaw15.GraphOn', WHERE WHAT IT READS IS OF BULK AT MOST 1048576: true; the input reads as it did. -/
def graphOnUptoRow : OpenClaim := { program := "ythgjieigpfcekaa", sum := "27639c83cf5625a48cf68a0acf19fc6811205dbe4eddb76ea2d28b9435bcbd37", func := "oriel/oriellaw15.GraphOn", spec := "graphOn", unfollowed := true, recurses := true, plainKeys := false, apart := false, narrowed := true }
def GraphOnUptoSaid : Prop := graphOnUptoRow.holds Try.pinned (OpenSpec.upto graphOnSpec)

/-- 'oriellaw15.GraphMaps', WHERE WHAT IT READS IS OF BULK AT MOST 1048576: true; the input reads as it did. -/
def graphMapsUptoRow : OpenClaim := { program := "ythgjieigpfcekaa", sum := "27639c83cf5625a48cf68a0acf19fc6811205dbe4eddb76ea2d28b9435bcbd37", func := "oriel/oriellaw15.GraphMaps", spec := "graphMaps", unfollowed := true, recurses := true, plainKeys := false, apart := false, narrowed := true }
def GraphMapsUptoSaid : Prop := graphMapsUptoRow.holds Try.pinned (OpenSpec.upto graphMapsSpec)

/-- 'oriellaw32.WhyPaths', WHERE WHAT IT READS IS OF BULK AT MOST 1048576: true; the input reads as it did. -/
def whyPathsUptoRow : OpenClaim := { program := "ythgjieigpfcekaa", sum := "27639c83cf5625a48cf68a0acf19fc6811205dbe4eddb76ea2d28b9435bcbd37", func := "oriel/oriellaw32.WhyPaths", spec := "whyPaths", unfollowed := true, recurses := true, plainKeys := false, apart := false, narrowed := true }
def WhyPathsUptoSaid : Prop := whyPathsUptoRow.holds Try.pinned (OpenSpec.upto whyPathsSpec)

/-- 'oriellaw32.WhySteps', WHERE WHAT IT READS IS OF BULK AT MOST 1048576: true; the input reads as it did. -/
def whyStepsUptoRow : OpenClaim := { program := "ythgjieigpfcekaa", sum := "27639c83cf5625a48cf68a0acf19fc6811205dbe4eddb76ea2d28b9435bcbd37", func := "oriel/oriellaw32.WhySteps", spec := "whySteps", unfollowed := true, recurses := true, plainKeys := false, apart := false, narrowed := true }
def WhyStepsUptoSaid : Prop := whyStepsUptoRow.holds Try.pinned (OpenSpec.upto whyStepsSpec)

end Rows
end Go.Proofs.Ythgjieigpfcekaa
