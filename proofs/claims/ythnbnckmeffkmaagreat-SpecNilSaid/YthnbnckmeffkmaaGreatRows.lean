/-
  No cell of these rows narrows 'for every input' (looked for: loops, veiled, ifaces, maps, wideKeys, modest, calm, conditions, laid).
  DERIVED. THE GIVEN ROWS OF THIS SEAT. 3 by the template 'for every input the law returns true; each argument reads behind the call as it read before'; 0 by the template 'total and deterministic' (their statements: YthnbnckmeffkmaaGreatTotals.lean).
  GIVEN WITH THE SEED: the statements are not yours to turn. If you find one false, say at which input.
  Laid BY PROGRAM, IN A SANDBOX (cutbox-rows.mjs): the forced cells as the released guide's own fill.sh prints them over the translation eb2e0537488eb99c… (all of the seat's roots in one cut). By AI agents, Wed Nov 11 2026. No macro, syntax, notation, axiom, sorry.
-/
import Derived.Test.YthnbnckmeffkmaaGreatChecked
import GoSem.Claim
import GoSem.ClaimJoined
import GoSem.ClaimMapViews
import Derived.JoinedTies
import Derived.KernelRfl
namespace Go.Proofs.YthnbnckmeffkmaaGreat
/- THE CELL 'sum', in the pinned program and in every row, IS THE sha256 OF THE DUMP (.gsa) THAT YthnbnckmeffkmaaGreatProg.lean LOADS. Nothing in Lean hashes anything: it is a label: what it is worth is what the hold of that sum in a sandbox is worth. -/
noncomputable def Tryz.pinned : Pinned := { name := "ythnbnckmeffkmaagreat", sum := "eb2e0537488eb99c10ae274265dbc2b1349f02e100254d7aeef9aba537f3aa7b", checked := Tryz.checked }
namespace Rows
def none {H : Type} : Left H := { results := [], args := [] }

/-- 'plexuslaw25.SpecGraph': WHATEVER THE INPUT: true; the input reads as it did. -/
def specGraphSpec : ChangeSpec := { name := "specGraph", fn := fun _ => fun
  | [d1, d2, d3] => { results := [.lit (.bool true)], args := [d1, d2, d3] }
  | _ => none }
def specGraphRow : OpenClaim := { program := "ythnbnckmeffkmaagreat", sum := "eb2e0537488eb99c10ae274265dbc2b1349f02e100254d7aeef9aba537f3aa7b", func := "plexus/plexuslaw25.SpecGraph", spec := "specGraph", inPlace := ["math/bits.Add64", "internal/bytealg.Compare", "maps.clone"], unfollowed := true, recurses := true, plainKeys := false, apart := false }
def SpecGraphSaid : Prop := specGraphRow.holds Tryz.pinned (OpenSpec.ofChange specGraphSpec)

/-- ITS FALSE NEIGHBOUR: 'it returns false'. Refute it at one input. -/
def specGraphWrong : ChangeSpec := { name := "specGraph", fn := fun _ => fun
  | [d1, d2, d3] => { results := [.lit (.bool false)], args := [d1, d2, d3] }
  | _ => none }
def SpecGraphWrongFalsely : Prop := specGraphRow.holds Tryz.pinned (OpenSpec.ofChange specGraphWrong)

/-- 'plexuslaw25.SpecCoins': WHATEVER THE INPUT: true; the input reads as it did. -/
def specCoinsSpec : ChangeSpec := { name := "specCoins", fn := fun _ => fun
  | [d1, d2] => { results := [.lit (.bool true)], args := [d1, d2] }
  | _ => none }
def specCoinsRow : OpenClaim := { program := "ythnbnckmeffkmaagreat", sum := "eb2e0537488eb99c10ae274265dbc2b1349f02e100254d7aeef9aba537f3aa7b", func := "plexus/plexuslaw25.SpecCoins", spec := "specCoins", inPlace := ["math/bits.Add64", "internal/bytealg.Compare", "maps.clone"], unfollowed := true, recurses := true, plainKeys := false, apart := false }
def SpecCoinsSaid : Prop := specCoinsRow.holds Tryz.pinned (OpenSpec.ofChange specCoinsSpec)

/-- ITS FALSE NEIGHBOUR: 'it returns false'. Refute it at one input. -/
def specCoinsWrong : ChangeSpec := { name := "specCoins", fn := fun _ => fun
  | [d1, d2] => { results := [.lit (.bool false)], args := [d1, d2] }
  | _ => none }
def SpecCoinsWrongFalsely : Prop := specCoinsRow.holds Tryz.pinned (OpenSpec.ofChange specCoinsWrong)

/-- 'plexuslaw25.SpecNil': WHATEVER THE INPUT: true; the input reads as it did. -/
def specNilSpec : ChangeSpec := { name := "specNil", fn := fun _ => fun
  | [] => { results := [.lit (.bool true)], args := [] }
  | _ => none }
def specNilRow : OpenClaim := { program := "ythnbnckmeffkmaagreat", sum := "eb2e0537488eb99c10ae274265dbc2b1349f02e100254d7aeef9aba537f3aa7b", func := "plexus/plexuslaw25.SpecNil", spec := "specNil", inPlace := ["maps.clone", "internal/bytealg.Compare", "math/bits.Add64"], unfollowed := true, recurses := true, plainKeys := false, apart := false }
def SpecNilSaid : Prop := specNilRow.holds Tryz.pinned (OpenSpec.ofChange specNilSpec)

/-- ITS FALSE NEIGHBOUR: 'it returns false'. Refute it at one input. -/
def specNilWrong : ChangeSpec := { name := "specNil", fn := fun _ => fun
  | [] => { results := [.lit (.bool false)], args := [] }
  | _ => none }
def SpecNilWrongFalsely : Prop := specNilRow.holds Tryz.pinned (OpenSpec.ofChange specNilWrong)

/- THE SECOND FORM. 'bulk': how many values and letters a reading holds, each counted each time it is reached (what is shared counts as often as it is met; a slice's spare places count too). A statement '..UptoSaid' is the law's where the arguments, and the package variables that the reading takes, are together of bulk at most 1048576: NARROWER than '..Said'. Prove '..Said' where nothing that the law and all that it calls make is longer than what came in: it says more and counts as full. Else prove '..UptoSaid'. A law counts once. -/
mutual
def uptoBulk {H : Type} : DataW H → Nat
  | .lit (.string bytes) => bytes.length + 1
  | .lit _ => 1
  | .nil => 1
  | .ptr d => uptoBulk d + 1
  | .slice elems spare => uptoBulkAll elems + uptoBulkAll spare + 1
  | .agg parts => uptoBulkAll parts + 1
  | .iface _ d => uptoBulk d + 1
  | .map entries => uptoBulkEntries entries + 1
  | .held _ => 1
def uptoBulkAll {H : Type} : List (DataW H) → Nat
  | [] => 0
  | d :: r => uptoBulk d + uptoBulkAll r
def uptoBulkEntries {H : Type} : List (Lit × DataW H) → Nat
  | [] => 0
  | x :: r => uptoBulkEntry x + uptoBulkEntries r
def uptoBulkEntry {H : Type} : Lit × DataW H → Nat
  | (.string bytes, d) => bytes.length + uptoBulk d + 1
  | (_, d) => uptoBulk d + 1
 end
def uptoSmall : (H : Type) → List (DataW H) → Bool := fun _ ds => decide (uptoBulkAll ds ≤ 1048576)
def OpenSpec.upto (s : _root_.Go.ChangeSpec) : _root_.Go.OpenSpec := { _root_.Go.OpenSpec.ofChange s with cond := some uptoSmall }

/-- 'plexuslaw25.SpecGraph', WHERE WHAT IT READS IS OF BULK AT MOST 1048576: true; the input reads as it did. -/
def specGraphUptoRow : OpenClaim := { program := "ythnbnckmeffkmaagreat", sum := "eb2e0537488eb99c10ae274265dbc2b1349f02e100254d7aeef9aba537f3aa7b", func := "plexus/plexuslaw25.SpecGraph", spec := "specGraph", inPlace := ["math/bits.Add64", "internal/bytealg.Compare", "maps.clone"], unfollowed := true, recurses := true, plainKeys := false, apart := false, narrowed := true }
def SpecGraphUptoSaid : Prop := specGraphUptoRow.holds Tryz.pinned (OpenSpec.upto specGraphSpec)

/-- 'plexuslaw25.SpecCoins', WHERE WHAT IT READS IS OF BULK AT MOST 1048576: true; the input reads as it did. -/
def specCoinsUptoRow : OpenClaim := { program := "ythnbnckmeffkmaagreat", sum := "eb2e0537488eb99c10ae274265dbc2b1349f02e100254d7aeef9aba537f3aa7b", func := "plexus/plexuslaw25.SpecCoins", spec := "specCoins", inPlace := ["math/bits.Add64", "internal/bytealg.Compare", "maps.clone"], unfollowed := true, recurses := true, plainKeys := false, apart := false, narrowed := true }
def SpecCoinsUptoSaid : Prop := specCoinsUptoRow.holds Tryz.pinned (OpenSpec.upto specCoinsSpec)

/-- 'plexuslaw25.SpecNil', WHERE WHAT IT READS IS OF BULK AT MOST 1048576: true; the input reads as it did. -/
def specNilUptoRow : OpenClaim := { program := "ythnbnckmeffkmaagreat", sum := "eb2e0537488eb99c10ae274265dbc2b1349f02e100254d7aeef9aba537f3aa7b", func := "plexus/plexuslaw25.SpecNil", spec := "specNil", inPlace := ["maps.clone", "internal/bytealg.Compare", "math/bits.Add64"], unfollowed := true, recurses := true, plainKeys := false, apart := false, narrowed := true }
def SpecNilUptoSaid : Prop := specNilUptoRow.holds Tryz.pinned (OpenSpec.upto specNilSpec)

end Rows
end Go.Proofs.YthnbnckmeffkmaaGreat
