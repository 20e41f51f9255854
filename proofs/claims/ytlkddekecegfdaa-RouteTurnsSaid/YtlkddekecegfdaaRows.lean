/-
  No cell of these rows narrows 'for every input' (looked for: loops, veiled, ifaces, maps, wideKeys, modest, calm, conditions, laid).
  DERIVED. THE GIVEN ROWS OF THIS SEAT. 4 by the template 'for every input the law returns true; each argument reads behind the call as it read before'; 0 by the template 'total and deterministic' (their statements: YtlkddekecegfdaaTotals.lean).
  GIVEN WITH THE SEED: the statements are not yours to turn. If you find one false, say at which input.
  Laid BY PROGRAM, IN A SANDBOX (cutbox-rows.mjs): the forced cells as the released guide's own fill.sh prints them over the translation 2979f489da6f3c58… (all of the seat's roots in one cut). By AI agents, Wed Nov 11 2026. No macro, syntax, notation, axiom, sorry.
-/
import Derived.Test.YtlkddekecegfdaaChecked
import GoSem.Claim
import GoSem.ClaimJoined
import GoSem.ClaimMapViews
import Derived.JoinedTies
import Derived.KernelRfl
namespace Go.Proofs.Ytlkddekecegfdaa
/- THE CELL 'sum', in the pinned program and in every row, IS THE sha256 OF THE DUMP (.gsa) THAT YtlkddekecegfdaaProg.lean LOADS. Nothing in Lean hashes anything: it is a label: what it is worth is what the hold of that sum in a sandbox is worth. -/
noncomputable def Try.pinned : Pinned := { name := "ytlkddekecegfdaa", sum := "2979f489da6f3c58b4fd3c997b5c570c27af5a9691ace6c870a8a108ff5ef62b", checked := Try.checked }
namespace Rows
def none {H : Type} : Left H := { results := [], args := [] }

/-- 'isochronlaw16.TopoTurns': WHATEVER THE INPUT: true; the input reads as it did. -/
def topoTurnsSpec : ChangeSpec := { name := "topoTurns", fn := fun _ => fun
  | [d] => { results := [.lit (.bool true)], args := [d] }
  | _ => none }
def topoTurnsRow : OpenClaim := { program := "ytlkddekecegfdaa", sum := "2979f489da6f3c58b4fd3c997b5c570c27af5a9691ace6c870a8a108ff5ef62b", func := "isochron/isochronlaw16.TopoTurns", spec := "topoTurns", unfollowed := true, recurses := true, apart := false }
def TopoTurnsSaid : Prop := topoTurnsRow.holds Try.pinned (OpenSpec.ofChange topoTurnsSpec)

/-- ITS FALSE NEIGHBOUR: 'it returns false'. Refute it at one input. -/
def topoTurnsWrong : ChangeSpec := { name := "topoTurns", fn := fun _ => fun
  | [d] => { results := [.lit (.bool false)], args := [d] }
  | _ => none }
def TopoTurnsWrongFalsely : Prop := topoTurnsRow.holds Try.pinned (OpenSpec.ofChange topoTurnsWrong)

/-- 'isochronlaw21.RouteParts': WHATEVER THE INPUT: true; the input reads as it did. -/
def routePartsSpec : ChangeSpec := { name := "routeParts", fn := fun _ => fun
  | [d1, d2, d3, d4, d5] => { results := [.lit (.bool true)], args := [d1, d2, d3, d4, d5] }
  | _ => none }
def routePartsRow : OpenClaim := { program := "ytlkddekecegfdaa", sum := "2979f489da6f3c58b4fd3c997b5c570c27af5a9691ace6c870a8a108ff5ef62b", func := "isochron/isochronlaw21.RouteParts", spec := "routeParts", unfollowed := true, recurses := true, apart := false }
def RoutePartsSaid : Prop := routePartsRow.holds Try.pinned (OpenSpec.ofChange routePartsSpec)

/-- ITS FALSE NEIGHBOUR: 'it returns false'. Refute it at one input. -/
def routePartsWrong : ChangeSpec := { name := "routeParts", fn := fun _ => fun
  | [d1, d2, d3, d4, d5] => { results := [.lit (.bool false)], args := [d1, d2, d3, d4, d5] }
  | _ => none }
def RoutePartsWrongFalsely : Prop := routePartsRow.holds Try.pinned (OpenSpec.ofChange routePartsWrong)

/-- 'isochronlaw21.RouteEither': WHATEVER THE INPUT: true; the input reads as it did. -/
def routeEitherSpec : ChangeSpec := { name := "routeEither", fn := fun _ => fun
  | [d1, d2, d3, d4, d5] => { results := [.lit (.bool true)], args := [d1, d2, d3, d4, d5] }
  | _ => none }
def routeEitherRow : OpenClaim := { program := "ytlkddekecegfdaa", sum := "2979f489da6f3c58b4fd3c997b5c570c27af5a9691ace6c870a8a108ff5ef62b", func := "isochron/isochronlaw21.RouteEither", spec := "routeEither", unfollowed := true, recurses := true, apart := false }
def RouteEitherSaid : Prop := routeEitherRow.holds Try.pinned (OpenSpec.ofChange routeEitherSpec)

/-- ITS FALSE NEIGHBOUR: 'it returns false'. Refute it at one input. -/
def routeEitherWrong : ChangeSpec := { name := "routeEither", fn := fun _ => fun
  | [d1, d2, d3, d4, d5] => { results := [.lit (.bool false)], args := [d1, d2, d3, d4, d5] }
  | _ => none }
def RouteEitherWrongFalsely : Prop := routeEitherRow.holds Try.pinned (OpenSpec.ofChange routeEitherWrong)

/-- 'isochronlaw21.RouteTurns': WHATEVER THE INPUT: true; the input reads as it did. -/
def routeTurnsSpec : ChangeSpec := { name := "routeTurns", fn := fun _ => fun
  | [d1, d2, d3] => { results := [.lit (.bool true)], args := [d1, d2, d3] }
  | _ => none }
def routeTurnsRow : OpenClaim := { program := "ytlkddekecegfdaa", sum := "2979f489da6f3c58b4fd3c997b5c570c27af5a9691ace6c870a8a108ff5ef62b", func := "isochron/isochronlaw21.RouteTurns", spec := "routeTurns", unfollowed := true, recurses := true, apart := false }
def RouteTurnsSaid : Prop := routeTurnsRow.holds Try.pinned (OpenSpec.ofChange routeTurnsSpec)

/-- ITS FALSE NEIGHBOUR: 'it returns false'. Refute it at one input. -/
def routeTurnsWrong : ChangeSpec := { name := "routeTurns", fn := fun _ => fun
  | [d1, d2, d3] => { results := [.lit (.bool false)], args := [d1, d2, d3] }
  | _ => none }
def RouteTurnsWrongFalsely : Prop := routeTurnsRow.holds Try.pinned (OpenSpec.ofChange routeTurnsWrong)

/- THE SECOND FORM. 'bulk': how many values and letters a reading holds, each counted each time it is reached (what is shared counts as often as it is met; a slice's spare places count too). A statement '..UptoSaid' is the law's where the arguments, and the package variables that the reading takes, are together of bulk at most 1048576: NARROWER than '..Said'. Prove '..Said' where nothing that the law and all that it calls make is longer than what came in: it says more and counts as full. Else prove '..UptoSaid'. A law counts once. -/
mutual
def uptoBulk {H : Type} : DataW H → Nat
  | .lit (.string bytes) => bytes.length + 1
  | .lit _ => 1
  | .nil => 1
  | .ptr d => uptoBulk d + 1
  | .slice elems spare => uptoBulkAll elems + uptoBulkAll spare + 1
  | .agg parts => uptoBulkAll parts + 1
  | .iface _ d => uptoBulk d + 1
  | .map entries => uptoBulkEntries entries + 1
  | .held _ => 1
def uptoBulkAll {H : Type} : List (DataW H) → Nat
  | [] => 0
  | d :: r => uptoBulk d + uptoBulkAll r
def uptoBulkEntries {H : Type} : List (Lit × DataW H) → Nat
  | [] => 0
  | x :: r => uptoBulkEntry x + uptoBulkEntries r
def uptoBulkEntry {H : Type} : Lit × DataW H → Nat
  | (.string bytes, d) => bytes.length + uptoBulk d + 1
  | (_, d) => uptoBulk d + 1
 end
def uptoSmall : (H : Type) → List (DataW H) → Bool := fun _ ds => decide (uptoBulkAll ds ≤ 1048576)
def OpenSpec.upto (s : _root_.Go.ChangeSpec) : _root_.Go.OpenSpec := { _root_.Go.OpenSpec.ofChange s with cond := some uptoSmall }

/-- 'isochronlaw16.TopoTurns', WHERE WHAT IT READS IS OF BULK AT MOST 1048576: true; the input reads as it did. -/
def topoTurnsUptoRow : OpenClaim := { program := "ytlkddekecegfdaa", sum := "2979f489da6f3c58b4fd3c997b5c570c27af5a9691ace6c870a8a108ff5ef62b", func := "isochron/isochronlaw16.TopoTurns", spec := "topoTurns", unfollowed := true, recurses := true, apart := false, narrowed := true }
def TopoTurnsUptoSaid : Prop := topoTurnsUptoRow.holds Try.pinned (OpenSpec.upto topoTurnsSpec)

/-- 'isochronlaw21.RouteParts', WHERE WHAT IT READS IS OF BULK AT MOST 1048576: true; the input reads as it did. -/
def routePartsUptoRow : OpenClaim := { program := "ytlkddekecegfdaa", sum := "2979f489da6f3c58b4fd3c997b5c570c27af5a9691ace6c870a8a108ff5ef62b", func := "isochron/isochronlaw21.RouteParts", spec := "routeParts", unfollowed := true, recurses := true, apart := false, narrowed := true }
def RoutePartsUptoSaid : Prop := routePartsUptoRow.holds Try.pinned (OpenSpec.upto routePartsSpec)

/-- 'isochronlaw21.RouteEither', WHERE WHAT IT READS IS OF BULK AT MOST 1048576: true; the input reads as it did. -/
def routeEitherUptoRow : OpenClaim := { program := "ytlkddekecegfdaa", sum := "2979f489da6f3c58b4fd3c997b5c570c27af5a9691ace6c870a8a108ff5ef62b", func := "isochron/isochronlaw21.RouteEither", spec := "routeEither", unfollowed := true, recurses := true, apart := false, narrowed := true }
def RouteEitherUptoSaid : Prop := routeEitherUptoRow.holds Try.pinned (OpenSpec.upto routeEitherSpec)

/-- 'isochronlaw21.RouteTurns', WHERE WHAT IT READS IS OF BULK AT MOST 1048576: true; the input reads as it did. -/
def routeTurnsUptoRow : OpenClaim := { program := "ytlkddekecegfdaa", sum := "2979f489da6f3c58b4fd3c997b5c570c27af5a9691ace6c870a8a108ff5ef62b", func := "isochron/isochronlaw21.RouteTurns", spec := "routeTurns", unfollowed := true, recurses := true, apart := false, narrowed := true }
def RouteTurnsUptoSaid : Prop := routeTurnsUptoRow.holds Try.pinned (OpenSpec.upto routeTurnsSpec)

end Rows
end Go.Proofs.Ytlkddekecegfdaa
