/-
  No cell of these rows narrows 'for every input' (looked for: loops, veiled, ifaces, maps, wideKeys, modest, calm, conditions, laid).
  DERIVED. THE GIVEN ROWS OF THIS SEAT. 5 by the template 'for every input the law returns true; each argument reads behind the call as it read before'; 0 by the template 'total and deterministic' (their statements: YtcfokcdmkhljoaaTotals.lean).
  GIVEN WITH THE SEED: the statements are not yours to turn. If you find one false, say at which input.
  Laid BY PROGRAM, IN A SANDBOX (cutbox-rows.mjs): the forced cells as the released guide's own fill.sh prints them over the translation 50192fd0de63c4ca… (all of the seat's roots in one cut). By AI agents, Wed Nov 11 2026. No macro, syntax, notation, axiom, sorry.
-/
import Derived.Test.YtcfokcdmkhljoaaChecked
import GoSem.Claim
import GoSem.ClaimJoined
import GoSem.ClaimMapViews
import Derived.JoinedTies
import Derived.KernelRfl
namespace Go.Proofs.Ytcfokcdmkhljoaa
/- THE CELL 'sum', in the pinned program and in every row, IS THE sha256 OF THE DUMP (.gsa) THAT YtcfokcdmkhljoaaProg.lean LOADS. Nothing in Lean hashes anything: it is a label: what it is worth is what the hold of that sum in a sandbox is worth. -/
noncomputable def Try.pinned : Pinned := { name := "ytcfokcdmkhljoaa", sum := "50192fd0de63c4ca005e1f49448652fd43a03683e1fc56821da1ec9fe6a4c23d", checked := Try.checked }
namespace Rows
def none {H : Type} : Left H := { results := [], args := [] }

/-- 'lienlaw06.SpacePlots': WHATEVER THE INPUT: true; the input reads as it did. -/
def spacePlotsSpec : ChangeSpec := { name := "spacePlots", fn := fun _ => fun
  | [d1, d2, d3] => { results := [.lit (.bool true)], args := [d1, d2, d3] }
  | _ => none }
def spacePlotsRow : OpenClaim := { program := "ytcfokcdmkhljoaa", sum := "50192fd0de63c4ca005e1f49448652fd43a03683e1fc56821da1ec9fe6a4c23d", func := "lien/lienlaw06.SpacePlots", spec := "spacePlots", apart := false }
def SpacePlotsSaid : Prop := spacePlotsRow.holds Try.pinned (OpenSpec.ofChange spacePlotsSpec)

/-- ITS FALSE NEIGHBOUR: 'it returns false'. Refute it at one input. -/
def spacePlotsWrong : ChangeSpec := { name := "spacePlots", fn := fun _ => fun
  | [d1, d2, d3] => { results := [.lit (.bool false)], args := [d1, d2, d3] }
  | _ => none }
def SpacePlotsWrongFalsely : Prop := spacePlotsRow.holds Try.pinned (OpenSpec.ofChange spacePlotsWrong)

/-- 'lienlaw06.SpaceOnce': WHATEVER THE INPUT: true; the input reads as it did. -/
def spaceOnceSpec : ChangeSpec := { name := "spaceOnce", fn := fun _ => fun
  | [d1, d2, d3] => { results := [.lit (.bool true)], args := [d1, d2, d3] }
  | _ => none }
def spaceOnceRow : OpenClaim := { program := "ytcfokcdmkhljoaa", sum := "50192fd0de63c4ca005e1f49448652fd43a03683e1fc56821da1ec9fe6a4c23d", func := "lien/lienlaw06.SpaceOnce", spec := "spaceOnce", unfollowed := true, recurses := true, apart := false }
def SpaceOnceSaid : Prop := spaceOnceRow.holds Try.pinned (OpenSpec.ofChange spaceOnceSpec)

/-- ITS FALSE NEIGHBOUR: 'it returns false'. Refute it at one input. -/
def spaceOnceWrong : ChangeSpec := { name := "spaceOnce", fn := fun _ => fun
  | [d1, d2, d3] => { results := [.lit (.bool false)], args := [d1, d2, d3] }
  | _ => none }
def SpaceOnceWrongFalsely : Prop := spaceOnceRow.holds Try.pinned (OpenSpec.ofChange spaceOnceWrong)

/-- 'lienlaw06.SpaceOrder': WHATEVER THE INPUT: true; the input reads as it did. -/
def spaceOrderSpec : ChangeSpec := { name := "spaceOrder", fn := fun _ => fun
  | [d1, d2] => { results := [.lit (.bool true)], args := [d1, d2] }
  | _ => none }
def spaceOrderRow : OpenClaim := { program := "ytcfokcdmkhljoaa", sum := "50192fd0de63c4ca005e1f49448652fd43a03683e1fc56821da1ec9fe6a4c23d", func := "lien/lienlaw06.SpaceOrder", spec := "spaceOrder", unfollowed := true, recurses := true, apart := false }
def SpaceOrderSaid : Prop := spaceOrderRow.holds Try.pinned (OpenSpec.ofChange spaceOrderSpec)

/-- ITS FALSE NEIGHBOUR: 'it returns false'. Refute it at one input. -/
def spaceOrderWrong : ChangeSpec := { name := "spaceOrder", fn := fun _ => fun
  | [d1, d2] => { results := [.lit (.bool false)], args := [d1, d2] }
  | _ => none }
def SpaceOrderWrongFalsely : Prop := spaceOrderRow.holds Try.pinned (OpenSpec.ofChange spaceOrderWrong)

/-- 'lienlaw06.SpaceRuns': WHATEVER THE INPUT: true; the input reads as it did. -/
def spaceRunsSpec : ChangeSpec := { name := "spaceRuns", fn := fun _ => fun
  | [d1, d2] => { results := [.lit (.bool true)], args := [d1, d2] }
  | _ => none }
def spaceRunsRow : OpenClaim := { program := "ytcfokcdmkhljoaa", sum := "50192fd0de63c4ca005e1f49448652fd43a03683e1fc56821da1ec9fe6a4c23d", func := "lien/lienlaw06.SpaceRuns", spec := "spaceRuns", unfollowed := true, recurses := true, apart := false }
def SpaceRunsSaid : Prop := spaceRunsRow.holds Try.pinned (OpenSpec.ofChange spaceRunsSpec)

/-- ITS FALSE NEIGHBOUR: 'it returns false'. Refute it at one input. -/
def spaceRunsWrong : ChangeSpec := { name := "spaceRuns", fn := fun _ => fun
  | [d1, d2] => { results := [.lit (.bool false)], args := [d1, d2] }
  | _ => none }
def SpaceRunsWrongFalsely : Prop := spaceRunsRow.holds Try.pinned (OpenSpec.ofChange spaceRunsWrong)

/-- 'lienlaw06.SpaceNobody': WHATEVER THE INPUT: true; the input reads as it did. -/
def spaceNobodySpec : ChangeSpec := { name := "spaceNobody", fn := fun _ => fun
  | [d1, d2] => { results := [.lit (.bool true)], args := [d1, d2] }
  | _ => none }
def spaceNobodyRow : OpenClaim := { program := "ytcfokcdmkhljoaa", sum := "50192fd0de63c4ca005e1f49448652fd43a03683e1fc56821da1ec9fe6a4c23d", func := "lien/lienlaw06.SpaceNobody", spec := "spaceNobody", unfollowed := true, recurses := true, apart := false }
def SpaceNobodySaid : Prop := spaceNobodyRow.holds Try.pinned (OpenSpec.ofChange spaceNobodySpec)

/-- ITS FALSE NEIGHBOUR: 'it returns false'. Refute it at one input. -/
def spaceNobodyWrong : ChangeSpec := { name := "spaceNobody", fn := fun _ => fun
  | [d1, d2] => { results := [.lit (.bool false)], args := [d1, d2] }
  | _ => none }
def SpaceNobodyWrongFalsely : Prop := spaceNobodyRow.holds Try.pinned (OpenSpec.ofChange spaceNobodyWrong)

/- THE SECOND FORM. 'bulk': how many values and letters a reading holds, each counted each time it is reached (what is shared counts as often as it is met; a slice's spare places count too). A statement '..UptoSaid' is the law's where the arguments, and the package variables that the reading takes, are together of bulk at most 1048576: NARROWER than '..Said'. Prove '..Said' where nothing that the law and all that it calls make is longer than what came in: it says more and counts as full. Else prove '..UptoSaid'. A law counts once. -/
mutual
def uptoBulk {H : Type} : DataW H → Nat
  | .lit (.string bytes) => bytes.length + 1
  | .lit _ => 1
  | .nil => 1
  | .ptr d => uptoBulk d + 1
  | .slice elems spare => uptoBulkAll elems + uptoBulkAll spare + 1
  | .agg parts => uptoBulkAll parts + 1
  | .iface _ d => uptoBulk d + 1
  | .map entries => uptoBulkEntries entries + 1
  | .held _ => 1
def uptoBulkAll {H : Type} : List (DataW H) → Nat
  | [] => 0
  | d :: r => uptoBulk d + uptoBulkAll r
def uptoBulkEntries {H : Type} : List (Lit × DataW H) → Nat
  | [] => 0
  | x :: r => uptoBulkEntry x + uptoBulkEntries r
def uptoBulkEntry {H : Type} : Lit × DataW H → Nat
  | (.string bytes, d) => bytes.length + uptoBulk d + 1
  | (_, d) => uptoBulk d + 1
 end
def uptoSmall : (H : Type) → List (DataW H) → Bool := fun _ ds => decide (uptoBulkAll ds ≤ 1048576)
def OpenSpec.upto (s : _root_.Go.ChangeSpec) : _root_.Go.OpenSpec := { _root_.Go.OpenSpec.ofChange s with cond := some uptoSmall }

/-- 'lienlaw06.SpacePlots', WHERE WHAT IT READS IS OF BULK AT MOST 1048576: true; the input reads as it did. -/
def spacePlotsUptoRow : OpenClaim := { program := "ytcfokcdmkhljoaa", sum := "50192fd0de63c4ca005e1f49448652fd43a03683e1fc56821da1ec9fe6a4c23d", func := "lien/lienlaw06.SpacePlots", spec := "spacePlots", apart := false, narrowed := true }
def SpacePlotsUptoSaid : Prop := spacePlotsUptoRow.holds Try.pinned (OpenSpec.upto spacePlotsSpec)

/-- 'lienlaw06.SpaceOnce', WHERE WHAT IT READS IS OF BULK AT MOST 1048576: true; the input reads as it did. -/
def spaceOnceUptoRow : OpenClaim := { program := "ytcfokcdmkhljoaa", sum := "50192fd0de63c4ca005e1f49448652fd43a03683e1fc56821da1ec9fe6a4c23d", func := "lien/lienlaw06.SpaceOnce", spec := "spaceOnce", unfollowed := true, recurses := true, apart := false, narrowed := true }
def SpaceOnceUptoSaid : Prop := spaceOnceUptoRow.holds Try.pinned (OpenSpec.upto spaceOnceSpec)

/-- 'lienlaw06.SpaceOrder', WHERE WHAT IT READS IS OF BULK AT MOST 1048576: true; the input reads as it did. -/
def spaceOrderUptoRow : OpenClaim := { program := "ytcfokcdmkhljoaa", sum := "50192fd0de63c4ca005e1f49448652fd43a03683e1fc56821da1ec9fe6a4c23d", func := "lien/lienlaw06.SpaceOrder", spec := "spaceOrder", unfollowed := true, recurses := true, apart := false, narrowed := true }
def SpaceOrderUptoSaid : Prop := spaceOrderUptoRow.holds Try.pinned (OpenSpec.upto spaceOrderSpec)

/-- 'lienlaw06.SpaceRuns', WHERE WHAT IT READS IS OF BULK AT MOST 1048576: true; the input reads as it did. -/
def spaceRunsUptoRow : OpenClaim := { program := "ytcfokcdmkhljoaa", sum := "50192fd0de63c4ca005e1f49448652fd43a03683e1fc56821da1ec9fe6a4c23d", func := "lien/lienlaw06.SpaceRuns", spec := "spaceRuns", unfollowed := true, recurses := true, apart := false, narrowed := true }
def SpaceRunsUptoSaid : Prop := spaceRunsUptoRow.holds Try.pinned (OpenSpec.upto spaceRunsSpec)

/-- 'lienlaw06.SpaceNobody', WHERE WHAT IT READS IS OF BULK AT MOST 1048576: true; the input reads as it did. -/
def spaceNobodyUptoRow : OpenClaim := { program := "ytcfokcdmkhljoaa", sum := "50192fd0de63c4ca005e1f49448652fd43a03683e1fc56821da1ec9fe6a4c23d", func := "lien/lienlaw06.SpaceNobody", spec := "spaceNobody", unfollowed := true, recurses := true, apart := false, narrowed := true }
def SpaceNobodyUptoSaid : Prop := spaceNobodyUptoRow.holds Try.pinned (OpenSpec.upto spaceNobodySpec)

end Rows
end Go.Proofs.Ytcfokcdmkhljoaa
