/-
  No cell of these rows narrows 'for every input' (looked for: loops, veiled, ifaces, maps, wideKeys, modest, calm, conditions, laid).
  DERIVED. THE GIVEN ROWS OF THIS SEAT. 3 by the template 'for every input the law returns true; each argument reads behind the call as it read before'; 0 by the template 'total and deterministic' (their statements: YtlkddekecegfdaaGreatTotals.lean).
  GIVEN WITH THE SEED: the statements are not yours to turn. If you find one false, say at which input.
  Laid BY PROGRAM, IN A SANDBOX (cutbox-rows.mjs): the forced cells as the released guide's own fill.sh prints them over the translation 1072c5dbc4007c41… (all of the seat's roots in one cut). By AI agents, Wed Nov 11 2026. No macro, syntax, notation, axiom, sorry.
-/
import Derived.Test.YtlkddekecegfdaaGreatChecked
import GoSem.Claim
import GoSem.ClaimJoined
import GoSem.ClaimMapViews
import Derived.JoinedTies
import Derived.KernelRfl
namespace Go.Proofs.YtlkddekecegfdaaGreat
/- THE CELL 'sum', in the pinned program and in every row, IS THE sha256 OF THE DUMP (.gsa) THAT YtlkddekecegfdaaGreatProg.lean LOADS. Nothing in Lean hashes anything: it is a label: what it is worth is what the hold of that sum in a sandbox is worth. -/
noncomputable def Tryz.pinned : Pinned := { name := "ytlkddekecegfdaagreat", sum := "1072c5dbc4007c41d428f23bfd98c461c370373d3ead4431103470c1a69b86a6", checked := Tryz.checked }
namespace Rows
def none {H : Type} : Left H := { results := [], args := [] }

/-- 'isochronlaw21.RouteChecks': WHATEVER THE INPUT: true; the input reads as it did. -/
def routeChecksSpec : ChangeSpec := { name := "routeChecks", fn := fun _ => fun
  | [d1, d2, d3] => { results := [.lit (.bool true)], args := [d1, d2, d3] }
  | _ => none }
def routeChecksRow : OpenClaim := { program := "ytlkddekecegfdaagreat", sum := "1072c5dbc4007c41d428f23bfd98c461c370373d3ead4431103470c1a69b86a6", func := "isochron/isochronlaw21.RouteChecks", spec := "routeChecks", unfollowed := true, recurses := true, apart := false }
def RouteChecksSaid : Prop := routeChecksRow.holds Tryz.pinned (OpenSpec.ofChange routeChecksSpec)

/-- ITS FALSE NEIGHBOUR: 'it returns false'. Refute it at one input. -/
def routeChecksWrong : ChangeSpec := { name := "routeChecks", fn := fun _ => fun
  | [d1, d2, d3] => { results := [.lit (.bool false)], args := [d1, d2, d3] }
  | _ => none }
def RouteChecksWrongFalsely : Prop := routeChecksRow.holds Tryz.pinned (OpenSpec.ofChange routeChecksWrong)

/-- 'isochronlaw21.RouteAparts': WHATEVER THE INPUT: true; the input reads as it did. -/
def routeApartsSpec : ChangeSpec := { name := "routeAparts", fn := fun _ => fun
  | [d1, d2, d3] => { results := [.lit (.bool true)], args := [d1, d2, d3] }
  | _ => none }
def routeApartsRow : OpenClaim := { program := "ytlkddekecegfdaagreat", sum := "1072c5dbc4007c41d428f23bfd98c461c370373d3ead4431103470c1a69b86a6", func := "isochron/isochronlaw21.RouteAparts", spec := "routeAparts", unfollowed := true, recurses := true, apart := false }
def RouteApartsSaid : Prop := routeApartsRow.holds Tryz.pinned (OpenSpec.ofChange routeApartsSpec)

/-- ITS FALSE NEIGHBOUR: 'it returns false'. Refute it at one input. -/
def routeApartsWrong : ChangeSpec := { name := "routeAparts", fn := fun _ => fun
  | [d1, d2, d3] => { results := [.lit (.bool false)], args := [d1, d2, d3] }
  | _ => none }
def RouteApartsWrongFalsely : Prop := routeApartsRow.holds Tryz.pinned (OpenSpec.ofChange routeApartsWrong)

/-- 'isochronlaw21.RouteTrees': WHATEVER THE INPUT: true; the input reads as it did. -/
def routeTreesSpec : ChangeSpec := { name := "routeTrees", fn := fun _ => fun
  | [d1, d2] => { results := [.lit (.bool true)], args := [d1, d2] }
  | _ => none }
def routeTreesRow : OpenClaim := { program := "ytlkddekecegfdaagreat", sum := "1072c5dbc4007c41d428f23bfd98c461c370373d3ead4431103470c1a69b86a6", func := "isochron/isochronlaw21.RouteTrees", spec := "routeTrees", unfollowed := true, recurses := true, apart := false }
def RouteTreesSaid : Prop := routeTreesRow.holds Tryz.pinned (OpenSpec.ofChange routeTreesSpec)

/-- ITS FALSE NEIGHBOUR: 'it returns false'. Refute it at one input. -/
def routeTreesWrong : ChangeSpec := { name := "routeTrees", fn := fun _ => fun
  | [d1, d2] => { results := [.lit (.bool false)], args := [d1, d2] }
  | _ => none }
def RouteTreesWrongFalsely : Prop := routeTreesRow.holds Tryz.pinned (OpenSpec.ofChange routeTreesWrong)

/- THE SECOND FORM. 'bulk': how many values and letters a reading holds, each counted each time it is reached (what is shared counts as often as it is met; a slice's spare places count too). A statement '..UptoSaid' is the law's where the arguments, and the package variables that the reading takes, are together of bulk at most 1048576: NARROWER than '..Said'. Prove '..Said' where nothing that the law and all that it calls make is longer than what came in: it says more and counts as full. Else prove '..UptoSaid'. A law counts once. -/
mutual
def uptoBulk {H : Type} : DataW H → Nat
  | .lit (.string bytes) => bytes.length + 1
  | .lit _ => 1
  | .nil => 1
  | .ptr d => uptoBulk d + 1
  | .slice elems spare => uptoBulkAll elems + uptoBulkAll spare + 1
  | .agg parts => uptoBulkAll parts + 1
  | .iface _ d => uptoBulk d + 1
  | .map entries => uptoBulkEntries entries + 1
  | .held _ => 1
def uptoBulkAll {H : Type} : List (DataW H) → Nat
  | [] => 0
  | d :: r => uptoBulk d + uptoBulkAll r
def uptoBulkEntries {H : Type} : List (Lit × DataW H) → Nat
  | [] => 0
  | x :: r => uptoBulkEntry x + uptoBulkEntries r
def uptoBulkEntry {H : Type} : Lit × DataW H → Nat
  | (.string bytes, d) => bytes.length + uptoBulk d + 1
  | (_, d) => uptoBulk d + 1
 end
def uptoSmall : (H : Type) → List (DataW H) → Bool := fun _ ds => decide (uptoBulkAll ds ≤ 1048576)
def OpenSpec.upto (s : _root_.Go.ChangeSpec) : _root_.Go.OpenSpec := { _root_.Go.OpenSpec.ofChange s with cond := some uptoSmall }

/-- 'isochronlaw21.RouteChecks', WHERE WHAT IT READS IS OF BULK AT MOST 1048576: true; the input reads as it did. -/
def routeChecksUptoRow : OpenClaim := { program := "ytlkddekecegfdaagreat", sum := "1072c5dbc4007c41d428f23bfd98c461c370373d3ead4431103470c1a69b86a6", func := "isochron/isochronlaw21.RouteChecks", spec := "routeChecks", unfollowed := true, recurses := true, apart := false, narrowed := true }
def RouteChecksUptoSaid : Prop := routeChecksUptoRow.holds Tryz.pinned (OpenSpec.upto routeChecksSpec)

/-- 'isochronlaw21.RouteAparts', WHERE WHAT IT READS IS OF BULK AT MOST 1048576: true; the input reads as it did. -/
def routeApartsUptoRow : OpenClaim := { program := "ytlkddekecegfdaagreat", sum := "1072c5dbc4007c41d428f23bfd98c461c370373d3ead4431103470c1a69b86a6", func := "isochron/isochronlaw21.RouteAparts", spec := "routeAparts", unfollowed := true, recurses := true, apart := false, narrowed := true }
def RouteApartsUptoSaid : Prop := routeApartsUptoRow.holds Tryz.pinned (OpenSpec.upto routeApartsSpec)

/-- 'isochronlaw21.RouteTrees', WHERE WHAT IT READS IS OF BULK AT MOST 1048576: true; the input reads as it did. -/
def routeTreesUptoRow : OpenClaim := { program := "ytlkddekecegfdaagreat", sum := "1072c5dbc4007c41d428f23bfd98c461c370373d3ead4431103470c1a69b86a6", func := "isochron/isochronlaw21.RouteTrees", spec := "routeTrees", unfollowed := true, recurses := true, apart := false, narrowed := true }
def RouteTreesUptoSaid : Prop := routeTreesUptoRow.holds Tryz.pinned (OpenSpec.upto routeTreesSpec)

end Rows
end Go.Proofs.YtlkddekecegfdaaGreat
