/-
  NARROWER THAN 'FOR EVERY INPUT', by the rows' own cells (each row's printed sentence says how): WindowOrders: laid.
  DERIVED. THE GIVEN ROWS OF THIS SEAT. 1 by the template 'for every input the law returns true; each argument reads behind the call as it read before'; 0 by the template 'total and deterministic' (their statements: YtfcniikbcjmlcaaGreatDoorTotals.lean).
  GIVEN WITH THE SEED: the statements are not yours to turn. If you find one false, say at which input.
  Laid BY PROGRAM, IN A SANDBOX (cutbox-rows.mjs): the forced cells as the released guide's own fill.sh prints them over the translation 7b48311c3cb512ea… (all of the seat's roots in one cut). By AI agents, Wed Nov 11 2026. No macro, syntax, notation, axiom, sorry.
-/
import Derived.Test.YtfcniikbcjmlcaaGreatDoorChecked
import GoSem.Claim
import GoSem.ClaimJoined
import GoSem.ClaimMapViews
import Derived.JoinedTies
import Derived.KernelRfl
namespace Go.Proofs.YtfcniikbcjmlcaaGreatDoor
/- THE CELL 'sum', in the pinned program and in every row, IS THE sha256 OF THE DUMP (.gsa) THAT YtfcniikbcjmlcaaGreatDoorProg.lean LOADS. Nothing in Lean hashes anything: it is a label: what it is worth is what the hold of that sum in a sandbox is worth. -/
noncomputable def Tryz.pinned : Pinned := { name := "ytfcniikbcjmlcaagreatdoor", sum := "7b48311c3cb512ead941a91168682e09ac9e1572e8199500e5a2bbc1c55284d0", checked := Tryz.checked }
namespace Rows
def none {H : Type} : Left H := { results := [], args := [] }

/- WHAT THE LISTED PACKAGE-LEVEL VARIABLES READ AS WHEN THE CALL BEGINS. Each datum BY PROGRAM (the guide's laid-datum.mjs) off the statement by which the dump's own 'gosem.cut.vars' lays the variable. In a bare row this is a premise. The card (YtfcniikbcjmlcaaGreatDoorCards.lean) ties it to the program's text. -/
def laid_spinnaker_isa_names {H : Type} : DataW H := .agg [.lit (.string []), .lit (.string [108, 117, 105]), .lit (.string [97, 117, 105, 112, 99]), .lit (.string [106, 97, 108]), .lit (.string [106, 97, 108, 114]), .lit (.string [98, 101, 113]), .lit (.string [98, 110, 101]), .lit (.string [98, 108, 116]), .lit (.string [98, 103, 101]), .lit (.string [98, 108, 116, 117]), .lit (.string [98, 103, 101, 117]), .lit (.string [108, 98]), .lit (.string [108, 104]), .lit (.string [108, 119]), .lit (.string [108, 100]), .lit (.string [108, 98, 117]), .lit (.string [108, 104, 117]), .lit (.string [108, 119, 117]), .lit (.string [115, 98]), .lit (.string [115, 104]), .lit (.string [115, 119]), .lit (.string [115, 100]), .lit (.string [97, 100, 100, 105]), .lit (.string [115, 108, 116, 105]), .lit (.string [115, 108, 116, 105, 117]), .lit (.string [120, 111, 114, 105]), .lit (.string [111, 114, 105]), .lit (.string [97, 110, 100, 105]), .lit (.string [115, 108, 108, 105]), .lit (.string [115, 114, 108, 105]), .lit (.string [115, 114, 97, 105]), .lit (.string [97, 100, 100, 105, 119]), .lit (.string [115, 108, 108, 105, 119]), .lit (.string [115, 114, 108, 105, 119]), .lit (.string [115, 114, 97, 105, 119]), .lit (.string [97, 100, 100]), .lit (.string [115, 117, 98]), .lit (.string [115, 108, 108]), .lit (.string [115, 108, 116]), .lit (.string [115, 108, 116, 117]), .lit (.string [120, 111, 114]), .lit (.string [115, 114, 108]), .lit (.string [115, 114, 97]), .lit (.string [111, 114]), .lit (.string [97, 110, 100]), .lit (.string [97, 100, 100, 119]), .lit (.string [115, 117, 98, 119]), .lit (.string [115, 108, 108, 119]), .lit (.string [115, 114, 108, 119]), .lit (.string [115, 114, 97, 119]), .lit (.string [109, 117, 108]), .lit (.string [109, 117, 108, 104]), .lit (.string [109, 117, 108, 104, 115, 117]), .lit (.string [109, 117, 108, 104, 117]), .lit (.string [100, 105, 118]), .lit (.string [100, 105, 118, 117]), .lit (.string [114, 101, 109]), .lit (.string [114, 101, 109, 117]), .lit (.string [109, 117, 108, 119]), .lit (.string [100, 105, 118, 119]), .lit (.string [100, 105, 118, 117, 119]), .lit (.string [114, 101, 109, 119]), .lit (.string [114, 101, 109, 117, 119]), .lit (.string [102, 101, 110, 99, 101]), .lit (.string [101, 99, 97, 108, 108]), .lit (.string [101, 98, 114, 101, 97, 107]), .lit (.string [108, 114, 46, 119]), .lit (.string [115, 99, 46, 119]), .lit (.string [97, 109, 111, 115, 119, 97, 112, 46, 119]), .lit (.string [97, 109, 111, 97, 100, 100, 46, 119]), .lit (.string [97, 109, 111, 120, 111, 114, 46, 119]), .lit (.string [97, 109, 111, 97, 110, 100, 46, 119]), .lit (.string [97, 109, 111, 111, 114, 46, 119]), .lit (.string [97, 109, 111, 109, 105, 110, 46, 119]), .lit (.string [97, 109, 111, 109, 97, 120, 46, 119]), .lit (.string [97, 109, 111, 109, 105, 110, 117, 46, 119]), .lit (.string [97, 109, 111, 109, 97, 120, 117, 46, 119]), .lit (.string [108, 114, 46, 100]), .lit (.string [115, 99, 46, 100]), .lit (.string [97, 109, 111, 115, 119, 97, 112, 46, 100]), .lit (.string [97, 109, 111, 97, 100, 100, 46, 100]), .lit (.string [97, 109, 111, 120, 111, 114, 46, 100]), .lit (.string [97, 109, 111, 97, 110, 100, 46, 100]), .lit (.string [97, 109, 111, 111, 114, 46, 100]), .lit (.string [97, 109, 111, 109, 105, 110, 46, 100]), .lit (.string [97, 109, 111, 109, 97, 120, 46, 100]), .lit (.string [97, 109, 111, 109, 105, 110, 117, 46, 100]), .lit (.string [97, 109, 111, 109, 97, 120, 117, 46, 100])]

/-- 'spinnakerlaw19.WindowOrders': WHATEVER THE INPUT: true; the input reads as it did. -/
def windowOrdersSpec : ChangeSpec := { name := "windowOrders", fn := fun _ => fun
  | [d1, d2, d3] => { results := [.lit (.bool true)], args := [d1, d2, d3] }
  | _ => none }
def windowOrdersRow : OpenClaim := { program := "ytfcniikbcjmlcaagreatdoor", sum := "7b48311c3cb512ead941a91168682e09ac9e1572e8199500e5a2bbc1c55284d0", func := "spinnaker/spinnakerlaw19.WindowOrders", spec := "windowOrders", unfollowed := true, recurses := true, named := ["spinnaker/isa.names"], apart := false, laid := [("spinnaker/isa.names", laid_spinnaker_isa_names)] }
def WindowOrdersSaid : Prop := windowOrdersRow.holds Tryz.pinned (OpenSpec.ofChange windowOrdersSpec)

/-- ITS FALSE NEIGHBOUR: 'it returns false'. Refute it at one input. -/
def windowOrdersWrong : ChangeSpec := { name := "windowOrders", fn := fun _ => fun
  | [d1, d2, d3] => { results := [.lit (.bool false)], args := [d1, d2, d3] }
  | _ => none }
def WindowOrdersWrongFalsely : Prop := windowOrdersRow.holds Tryz.pinned (OpenSpec.ofChange windowOrdersWrong)

/- THE SECOND FORM. 'bulk': how many values and letters a reading holds, each counted each time it is reached (what is shared counts as often as it is met; a slice's spare places count too). A statement '..UptoSaid' is the law's where the arguments, and the package variables that the reading takes, are together of bulk at most 1048576: NARROWER than '..Said'. Prove '..Said' where nothing that the law and all that it calls make is longer than what came in: it says more and counts as full. Else prove '..UptoSaid'. A law counts once. -/
mutual
def uptoBulk {H : Type} : DataW H → Nat
  | .lit (.string bytes) => bytes.length + 1
  | .lit _ => 1
  | .nil => 1
  | .ptr d => uptoBulk d + 1
  | .slice elems spare => uptoBulkAll elems + uptoBulkAll spare + 1
  | .agg parts => uptoBulkAll parts + 1
  | .iface _ d => uptoBulk d + 1
  | .map entries => uptoBulkEntries entries + 1
  | .held _ => 1
def uptoBulkAll {H : Type} : List (DataW H) → Nat
  | [] => 0
  | d :: r => uptoBulk d + uptoBulkAll r
def uptoBulkEntries {H : Type} : List (Lit × DataW H) → Nat
  | [] => 0
  | x :: r => uptoBulkEntry x + uptoBulkEntries r
def uptoBulkEntry {H : Type} : Lit × DataW H → Nat
  | (.string bytes, d) => bytes.length + uptoBulk d + 1
  | (_, d) => uptoBulk d + 1
 end
def uptoSmall : (H : Type) → List (DataW H) → Bool := fun _ ds => decide (uptoBulkAll ds ≤ 1048576)
def OpenSpec.upto (s : _root_.Go.ChangeSpec) : _root_.Go.OpenSpec := { _root_.Go.OpenSpec.ofChange s with cond := some uptoSmall }

/-- 'spinnakerlaw19.WindowOrders', WHERE WHAT IT READS IS OF BULK AT MOST 1048576: true; the input reads as it did. -/
def windowOrdersUptoRow : OpenClaim := { program := "ytfcniikbcjmlcaagreatdoor", sum := "7b48311c3cb512ead941a91168682e09ac9e1572e8199500e5a2bbc1c55284d0", func := "spinnaker/spinnakerlaw19.WindowOrders", spec := "windowOrders", unfollowed := true, recurses := true, named := ["spinnaker/isa.names"], apart := false, laid := [("spinnaker/isa.names", laid_spinnaker_isa_names)], narrowed := true }
def WindowOrdersUptoSaid : Prop := windowOrdersUptoRow.holds Tryz.pinned (OpenSpec.upto windowOrdersSpec)

end Rows
end Go.Proofs.YtfcniikbcjmlcaaGreatDoor
