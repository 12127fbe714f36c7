/-
  No cell of these rows narrows 'for every input' (looked for: loops, veiled, ifaces, maps, wideKeys, modest, calm, conditions, laid).
  DERIVED. THE GIVEN ROWS OF THIS SEAT. 4 by the template 'for every input the law returns true; each argument reads behind the call as it read before'; 0 by the template 'total and deterministic' (their statements: YtmeeibcbhjifbaaTotals.lean).
  GIVEN WITH THE SEED: the statements are not yours to turn. If you find one false, say at which input.
  Laid BY PROGRAM, IN A SANDBOX (cutbox-rows.mjs): the forced cells as the released guide's own fill.sh prints them over the translation 66a4195976a2144b… (all of the seat's roots in one cut). By AI agents, Wed Nov 11 2026. No macro, syntax, notation, axiom, sorry.
-/
import Derived.Test.YtmeeibcbhjifbaaChecked
import GoSem.Claim
import GoSem.ClaimJoined
import GoSem.ClaimMapViews
import Derived.JoinedTies
import Derived.KernelRfl
namespace Go.Proofs.Ytmeeibcbhjifbaa
/- THE CELL 'sum', in the pinned program and in every row, IS THE sha256 OF THE DUMP (.gsa) THAT YtmeeibcbhjifbaaProg.lean LOADS. Nothing in Lean hashes anything: it is a label: what it is worth is what the hold of that sum in a sandbox is worth. -/
noncomputable def Try.pinned : Pinned := { name := "ytmeeibcbhjifbaa", sum := "66a4195976a2144bbaf66923941712c1b4fc998d5c8ab1c112ef65c5878f9121", checked := Try.checked }
namespace Rows
def none {H : Type} : Left H := { results := [], args := [] }

/-- 'laws.FnExactFamilyOf': WHATEVER THE INPUT: true; the input reads as it did. -/
def fnExactFamilyOfSpec : ChangeSpec := { name := "fnExactFamilyOf", fn := fun _ => fun
  | [d1, d2, d3, d4] => { results := [.lit (.bool true)], args := [d1, d2, d3, d4] }
  | _ => none }
def fnExactFamilyOfRow : OpenClaim := { program := "ytmeeibcbhjifbaa", sum := "66a4195976a2144bbaf66923941712c1b4fc998d5c8ab1c112ef65c5878f9121", func := "loop.example/g00952/laws.FnExactFamilyOf", spec := "fnExactFamilyOf", unfollowed := true, recurses := true, apart := false }
def FnExactFamilyOfSaid : Prop := fnExactFamilyOfRow.holds Try.pinned (OpenSpec.ofChange fnExactFamilyOfSpec)

/-- ITS FALSE NEIGHBOUR: 'it returns false'. Refute it at one input. -/
def fnExactFamilyOfWrong : ChangeSpec := { name := "fnExactFamilyOf", fn := fun _ => fun
  | [d1, d2, d3, d4] => { results := [.lit (.bool false)], args := [d1, d2, d3, d4] }
  | _ => none }
def FnExactFamilyOfWrongFalsely : Prop := fnExactFamilyOfRow.holds Try.pinned (OpenSpec.ofChange fnExactFamilyOfWrong)

/-- 'laws.FnExactFitBase': WHATEVER THE INPUT: true; the input reads as it did. -/
def fnExactFitBaseSpec : ChangeSpec := { name := "fnExactFitBase", fn := fun _ => fun
  | [d1, d2, d3] => { results := [.lit (.bool true)], args := [d1, d2, d3] }
  | _ => none }
def fnExactFitBaseRow : OpenClaim := { program := "ytmeeibcbhjifbaa", sum := "66a4195976a2144bbaf66923941712c1b4fc998d5c8ab1c112ef65c5878f9121", func := "loop.example/g00952/laws.FnExactFitBase", spec := "fnExactFitBase", unfollowed := true, recurses := true, apart := false }
def FnExactFitBaseSaid : Prop := fnExactFitBaseRow.holds Try.pinned (OpenSpec.ofChange fnExactFitBaseSpec)

/-- ITS FALSE NEIGHBOUR: 'it returns false'. Refute it at one input. -/
def fnExactFitBaseWrong : ChangeSpec := { name := "fnExactFitBase", fn := fun _ => fun
  | [d1, d2, d3] => { results := [.lit (.bool false)], args := [d1, d2, d3] }
  | _ => none }
def FnExactFitBaseWrongFalsely : Prop := fnExactFitBaseRow.holds Try.pinned (OpenSpec.ofChange fnExactFitBaseWrong)

/-- 'laws.FnSensitivity': WHATEVER THE INPUT: true; the input reads as it did. -/
def fnSensitivitySpec : ChangeSpec := { name := "fnSensitivity", fn := fun _ => fun
  | [d] => { results := [.lit (.bool true)], args := [d] }
  | _ => none }
def fnSensitivityRow : OpenClaim := { program := "ytmeeibcbhjifbaa", sum := "66a4195976a2144bbaf66923941712c1b4fc998d5c8ab1c112ef65c5878f9121", func := "loop.example/g00952/laws.FnSensitivity", spec := "fnSensitivity", unfollowed := true, recurses := true, apart := false }
def FnSensitivitySaid : Prop := fnSensitivityRow.holds Try.pinned (OpenSpec.ofChange fnSensitivitySpec)

/-- ITS FALSE NEIGHBOUR: 'it returns false'. Refute it at one input. -/
def fnSensitivityWrong : ChangeSpec := { name := "fnSensitivity", fn := fun _ => fun
  | [d] => { results := [.lit (.bool false)], args := [d] }
  | _ => none }
def FnSensitivityWrongFalsely : Prop := fnSensitivityRow.holds Try.pinned (OpenSpec.ofChange fnSensitivityWrong)

/-- 'laws.FnExactBlockedBy': WHATEVER THE INPUT: true; the input reads as it did. -/
def fnExactBlockedBySpec : ChangeSpec := { name := "fnExactBlockedBy", fn := fun _ => fun
  | [d1, d2, d3] => { results := [.lit (.bool true)], args := [d1, d2, d3] }
  | _ => none }
def fnExactBlockedByRow : OpenClaim := { program := "ytmeeibcbhjifbaa", sum := "66a4195976a2144bbaf66923941712c1b4fc998d5c8ab1c112ef65c5878f9121", func := "loop.example/g00952/laws.FnExactBlockedBy", spec := "fnExactBlockedBy", unfollowed := true, recurses := true, apart := false }
def FnExactBlockedBySaid : Prop := fnExactBlockedByRow.holds Try.pinned (OpenSpec.ofChange fnExactBlockedBySpec)

/-- ITS FALSE NEIGHBOUR: 'it returns false'. Refute it at one input. -/
def fnExactBlockedByWrong : ChangeSpec := { name := "fnExactBlockedBy", fn := fun _ => fun
  | [d1, d2, d3] => { results := [.lit (.bool false)], args := [d1, d2, d3] }
  | _ => none }
def FnExactBlockedByWrongFalsely : Prop := fnExactBlockedByRow.holds Try.pinned (OpenSpec.ofChange fnExactBlockedByWrong)

/- THE SECOND FORM. 'bulk': how many values and letters a reading holds, each counted each time it is reached (what is shared counts as often as it is met; a slice's spare places count too). A statement '..UptoSaid' is the law's where the arguments, and the package variables that the reading takes, are together of bulk at most 1048576: NARROWER than '..Said'. Prove '..Said' where nothing that the law and all that it calls make is longer than what came in: it says more and counts as full. Else prove '..UptoSaid'. A law counts once. -/
mutual
def uptoBulk {H : Type} : DataW H → Nat
  | .lit (.string bytes) => bytes.length + 1
  | .lit _ => 1
  | .nil => 1
  | .ptr d => uptoBulk d + 1
  | .slice elems spare => uptoBulkAll elems + uptoBulkAll spare + 1
  | .agg parts => uptoBulkAll parts + 1
  | .iface _ d => uptoBulk d + 1
  | .map entries => uptoBulkEntries entries + 1
  | .held _ => 1
def uptoBulkAll {H : Type} : List (DataW H) → Nat
  | [] => 0
  | d :: r => uptoBulk d + uptoBulkAll r
def uptoBulkEntries {H : Type} : List (Lit × DataW H) → Nat
  | [] => 0
  | x :: r => uptoBulkEntry x + uptoBulkEntries r
def uptoBulkEntry {H : Type} : Lit × DataW H → Nat
  | (.string bytes, d) => bytes.length + uptoBulk d + 1
  | (_, d) => uptoBulk d + 1
 end
def uptoSmall : (H : Type) → List (DataW H) → Bool := fun _ ds => decide (uptoBulkAll ds ≤ 1048576)
def OpenSpec.upto (s : _root_.Go.ChangeSpec) : _root_.Go.OpenSpec := { _root_.Go.OpenSpec.ofChange s with cond := some uptoSmall }

/-- 'laws.FnExactFamilyOf', WHERE WHAT IT READS IS OF BULK AT MOST 1048576: true; the input reads as it did. -/
def fnExactFamilyOfUptoRow : OpenClaim := { program := "ytmeeibcbhjifbaa", sum := "66a4195976a2144bbaf66923941712c1b4fc998d5c8ab1c112ef65c5878f9121", func := "loop.example/g00952/laws.FnExactFamilyOf", spec := "fnExactFamilyOf", unfollowed := true, recurses := true, apart := false, narrowed := true }
def FnExactFamilyOfUptoSaid : Prop := fnExactFamilyOfUptoRow.holds Try.pinned (OpenSpec.upto fnExactFamilyOfSpec)

/-- 'laws.FnExactFitBase', WHERE WHAT IT READS IS OF BULK AT MOST 1048576: true; the input reads as it did. -/
def fnExactFitBaseUptoRow : OpenClaim := { program := "ytmeeibcbhjifbaa", sum := "66a4195976a2144bbaf66923941712c1b4fc998d5c8ab1c112ef65c5878f9121", func := "loop.example/g00952/laws.FnExactFitBase", spec := "fnExactFitBase", unfollowed := true, recurses := true, apart := false, narrowed := true }
def FnExactFitBaseUptoSaid : Prop := fnExactFitBaseUptoRow.holds Try.pinned (OpenSpec.upto fnExactFitBaseSpec)

/-- 'laws.FnSensitivity', WHERE WHAT IT READS IS OF BULK AT MOST 1048576: true; the input reads as it did. -/
def fnSensitivityUptoRow : OpenClaim := { program := "ytmeeibcbhjifbaa", sum := "66a4195976a2144bbaf66923941712c1b4fc998d5c8ab1c112ef65c5878f9121", func := "loop.example/g00952/laws.FnSensitivity", spec := "fnSensitivity", unfollowed := true, recurses := true, apart := false, narrowed := true }
def FnSensitivityUptoSaid : Prop := fnSensitivityUptoRow.holds Try.pinned (OpenSpec.upto fnSensitivitySpec)

/-- 'laws.FnExactBlockedBy', WHERE WHAT IT READS IS OF BULK AT MOST 1048576: true; the input reads as it did. -/
def fnExactBlockedByUptoRow : OpenClaim := { program := "ytmeeibcbhjifbaa", sum := "66a4195976a2144bbaf66923941712c1b4fc998d5c8ab1c112ef65c5878f9121", func := "loop.example/g00952/laws.FnExactBlockedBy", spec := "fnExactBlockedBy", unfollowed := true, recurses := true, apart := false, narrowed := true }
def FnExactBlockedByUptoSaid : Prop := fnExactBlockedByUptoRow.holds Try.pinned (OpenSpec.upto fnExactBlockedBySpec)

end Rows
end Go.Proofs.Ytmeeibcbhjifbaa
