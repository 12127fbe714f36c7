/-
  No cell of these rows narrows 'for every input' (looked for: loops, veiled, ifaces, maps, wideKeys, modest, calm, conditions, laid).
  DERIVED. THE GIVEN ROWS OF THIS SEAT. 12 by the template 'for every input the law returns true; each argument reads behind the call as it read before'; 0 by the template 'total and deterministic' (their statements: YtddkjcdnomoglaaTotals.lean).
  GIVEN WITH THE SEED: the statements are not yours to turn. If you find one false, say at which input.
  Laid BY PROGRAM, IN A SANDBOX (cutbox-rows.mjs): the forced cells as the released guide's own fill.sh prints them over the translation 21bb1ae981fe1e8b… (all of the seat's roots in one cut). By AI agents, Wed Nov 11 2026. No macro, syntax, notation, axiom, sorry.
-/
import Derived.Test.YtddkjcdnomoglaaChecked
import GoSem.Claim
import GoSem.ClaimJoined
import GoSem.ClaimMapViews
import Derived.JoinedTies
import Derived.KernelRfl
namespace Go.Proofs.Ytddkjcdnomoglaa
/- THE CELL 'sum', in the pinned program and in every row, IS THE sha256 OF THE DUMP (.gsa) THAT YtddkjcdnomoglaaProg.lean LOADS. Nothing in Lean hashes anything: it is a label: what it is worth is what the hold of that sum in a sandbox is worth. -/
noncomputable def Try.pinned : Pinned := { name := "ytddkjcdnomoglaa", sum := "21bb1ae981fe1e8b57ac164e3f21f489cc0a85f511c8deac23cafbbbcca8bd77", checked := Try.checked }
namespace Rows
def none {H : Type} : Left H := { results := [], args := [] }

/-- 'laws.FnExactMostSteps': WHATEVER THE INPUT: true; the input reads as it did. -/
def fnExactMostStepsSpec : ChangeSpec := { name := "fnExactMostSteps", fn := fun _ => fun
  | [d1, d2, d3] => { results := [.lit (.bool true)], args := [d1, d2, d3] }
  | _ => none }
def fnExactMostStepsRow : OpenClaim := { program := "ytddkjcdnomoglaa", sum := "21bb1ae981fe1e8b57ac164e3f21f489cc0a85f511c8deac23cafbbbcca8bd77", func := "loop.example/g00952/laws.FnExactMostSteps", spec := "fnExactMostSteps", unfollowed := true, recurses := true, apart := false }
def FnExactMostStepsSaid : Prop := fnExactMostStepsRow.holds Try.pinned (OpenSpec.ofChange fnExactMostStepsSpec)

/-- ITS FALSE NEIGHBOUR: 'it returns false'. Refute it at one input. -/
def fnExactMostStepsWrong : ChangeSpec := { name := "fnExactMostSteps", fn := fun _ => fun
  | [d1, d2, d3] => { results := [.lit (.bool false)], args := [d1, d2, d3] }
  | _ => none }
def FnExactMostStepsWrongFalsely : Prop := fnExactMostStepsRow.holds Try.pinned (OpenSpec.ofChange fnExactMostStepsWrong)

/-- 'laws.FnExactZoneWalls': WHATEVER THE INPUT: true; the input reads as it did. -/
def fnExactZoneWallsSpec : ChangeSpec := { name := "fnExactZoneWalls", fn := fun _ => fun
  | [d1, d2] => { results := [.lit (.bool true)], args := [d1, d2] }
  | _ => none }
def fnExactZoneWallsRow : OpenClaim := { program := "ytddkjcdnomoglaa", sum := "21bb1ae981fe1e8b57ac164e3f21f489cc0a85f511c8deac23cafbbbcca8bd77", func := "loop.example/g00952/laws.FnExactZoneWalls", spec := "fnExactZoneWalls", unfollowed := true, recurses := true, apart := false }
def FnExactZoneWallsSaid : Prop := fnExactZoneWallsRow.holds Try.pinned (OpenSpec.ofChange fnExactZoneWallsSpec)

/-- ITS FALSE NEIGHBOUR: 'it returns false'. Refute it at one input. -/
def fnExactZoneWallsWrong : ChangeSpec := { name := "fnExactZoneWalls", fn := fun _ => fun
  | [d1, d2] => { results := [.lit (.bool false)], args := [d1, d2] }
  | _ => none }
def FnExactZoneWallsWrongFalsely : Prop := fnExactZoneWallsRow.holds Try.pinned (OpenSpec.ofChange fnExactZoneWallsWrong)

/-- 'laws.FnExactRoomOf': WHATEVER THE INPUT: true; the input reads as it did. -/
def fnExactRoomOfSpec : ChangeSpec := { name := "fnExactRoomOf", fn := fun _ => fun
  | [d1, d2] => { results := [.lit (.bool true)], args := [d1, d2] }
  | _ => none }
def fnExactRoomOfRow : OpenClaim := { program := "ytddkjcdnomoglaa", sum := "21bb1ae981fe1e8b57ac164e3f21f489cc0a85f511c8deac23cafbbbcca8bd77", func := "loop.example/g00952/laws.FnExactRoomOf", spec := "fnExactRoomOf", unfollowed := true, recurses := true, apart := false }
def FnExactRoomOfSaid : Prop := fnExactRoomOfRow.holds Try.pinned (OpenSpec.ofChange fnExactRoomOfSpec)

/-- ITS FALSE NEIGHBOUR: 'it returns false'. Refute it at one input. -/
def fnExactRoomOfWrong : ChangeSpec := { name := "fnExactRoomOf", fn := fun _ => fun
  | [d1, d2] => { results := [.lit (.bool false)], args := [d1, d2] }
  | _ => none }
def FnExactRoomOfWrongFalsely : Prop := fnExactRoomOfRow.holds Try.pinned (OpenSpec.ofChange fnExactRoomOfWrong)

/-- 'laws.FnExactSmoothProfile': WHATEVER THE INPUT: true; the input reads as it did. -/
def fnExactSmoothProfileSpec : ChangeSpec := { name := "fnExactSmoothProfile", fn := fun _ => fun
  | [d] => { results := [.lit (.bool true)], args := [d] }
  | _ => none }
def fnExactSmoothProfileRow : OpenClaim := { program := "ytddkjcdnomoglaa", sum := "21bb1ae981fe1e8b57ac164e3f21f489cc0a85f511c8deac23cafbbbcca8bd77", func := "loop.example/g00952/laws.FnExactSmoothProfile", spec := "fnExactSmoothProfile", unfollowed := true, recurses := true, apart := false }
def FnExactSmoothProfileSaid : Prop := fnExactSmoothProfileRow.holds Try.pinned (OpenSpec.ofChange fnExactSmoothProfileSpec)

/-- ITS FALSE NEIGHBOUR: 'it returns false'. Refute it at one input. -/
def fnExactSmoothProfileWrong : ChangeSpec := { name := "fnExactSmoothProfile", fn := fun _ => fun
  | [d] => { results := [.lit (.bool false)], args := [d] }
  | _ => none }
def FnExactSmoothProfileWrongFalsely : Prop := fnExactSmoothProfileRow.holds Try.pinned (OpenSpec.ofChange fnExactSmoothProfileWrong)

/-- 'laws.FnExactBlendProfiles': WHATEVER THE INPUT: true; the input reads as it did. -/
def fnExactBlendProfilesSpec : ChangeSpec := { name := "fnExactBlendProfiles", fn := fun _ => fun
  | [d1, d2, d3] => { results := [.lit (.bool true)], args := [d1, d2, d3] }
  | _ => none }
def fnExactBlendProfilesRow : OpenClaim := { program := "ytddkjcdnomoglaa", sum := "21bb1ae981fe1e8b57ac164e3f21f489cc0a85f511c8deac23cafbbbcca8bd77", func := "loop.example/g00952/laws.FnExactBlendProfiles", spec := "fnExactBlendProfiles", unfollowed := true, recurses := true, apart := false }
def FnExactBlendProfilesSaid : Prop := fnExactBlendProfilesRow.holds Try.pinned (OpenSpec.ofChange fnExactBlendProfilesSpec)

/-- ITS FALSE NEIGHBOUR: 'it returns false'. Refute it at one input. -/
def fnExactBlendProfilesWrong : ChangeSpec := { name := "fnExactBlendProfiles", fn := fun _ => fun
  | [d1, d2, d3] => { results := [.lit (.bool false)], args := [d1, d2, d3] }
  | _ => none }
def FnExactBlendProfilesWrongFalsely : Prop := fnExactBlendProfilesRow.holds Try.pinned (OpenSpec.ofChange fnExactBlendProfilesWrong)

/-- 'laws.FnExactSplitRing': WHATEVER THE INPUT: true; the input reads as it did. -/
def fnExactSplitRingSpec : ChangeSpec := { name := "fnExactSplitRing", fn := fun _ => fun
  | [d1, d2] => { results := [.lit (.bool true)], args := [d1, d2] }
  | _ => none }
def fnExactSplitRingRow : OpenClaim := { program := "ytddkjcdnomoglaa", sum := "21bb1ae981fe1e8b57ac164e3f21f489cc0a85f511c8deac23cafbbbcca8bd77", func := "loop.example/g00952/laws.FnExactSplitRing", spec := "fnExactSplitRing", unfollowed := true, recurses := true, apart := false }
def FnExactSplitRingSaid : Prop := fnExactSplitRingRow.holds Try.pinned (OpenSpec.ofChange fnExactSplitRingSpec)

/-- ITS FALSE NEIGHBOUR: 'it returns false'. Refute it at one input. -/
def fnExactSplitRingWrong : ChangeSpec := { name := "fnExactSplitRing", fn := fun _ => fun
  | [d1, d2] => { results := [.lit (.bool false)], args := [d1, d2] }
  | _ => none }
def FnExactSplitRingWrongFalsely : Prop := fnExactSplitRingRow.holds Try.pinned (OpenSpec.ofChange fnExactSplitRingWrong)

/-- 'laws.FnExactInsertRing': WHATEVER THE INPUT: true; the input reads as it did. -/
def fnExactInsertRingSpec : ChangeSpec := { name := "fnExactInsertRing", fn := fun _ => fun
  | [d1, d2, d3] => { results := [.lit (.bool true)], args := [d1, d2, d3] }
  | _ => none }
def fnExactInsertRingRow : OpenClaim := { program := "ytddkjcdnomoglaa", sum := "21bb1ae981fe1e8b57ac164e3f21f489cc0a85f511c8deac23cafbbbcca8bd77", func := "loop.example/g00952/laws.FnExactInsertRing", spec := "fnExactInsertRing", inPlace := ["slices.overlaps[loop.example/g00952/impl.Ring]"], unfollowed := true, recurses := true, apart := false }
def FnExactInsertRingSaid : Prop := fnExactInsertRingRow.holds Try.pinned (OpenSpec.ofChange fnExactInsertRingSpec)

/-- ITS FALSE NEIGHBOUR: 'it returns false'. Refute it at one input. -/
def fnExactInsertRingWrong : ChangeSpec := { name := "fnExactInsertRing", fn := fun _ => fun
  | [d1, d2, d3] => { results := [.lit (.bool false)], args := [d1, d2, d3] }
  | _ => none }
def FnExactInsertRingWrongFalsely : Prop := fnExactInsertRingRow.holds Try.pinned (OpenSpec.ofChange fnExactInsertRingWrong)

/-- 'laws.FnExactCutsBetween': WHATEVER THE INPUT: true; the input reads as it did. -/
def fnExactCutsBetweenSpec : ChangeSpec := { name := "fnExactCutsBetween", fn := fun _ => fun
  | [d1, d2, d3] => { results := [.lit (.bool true)], args := [d1, d2, d3] }
  | _ => none }
def fnExactCutsBetweenRow : OpenClaim := { program := "ytddkjcdnomoglaa", sum := "21bb1ae981fe1e8b57ac164e3f21f489cc0a85f511c8deac23cafbbbcca8bd77", func := "loop.example/g00952/laws.FnExactCutsBetween", spec := "fnExactCutsBetween", unfollowed := true, recurses := true, apart := false }
def FnExactCutsBetweenSaid : Prop := fnExactCutsBetweenRow.holds Try.pinned (OpenSpec.ofChange fnExactCutsBetweenSpec)

/-- ITS FALSE NEIGHBOUR: 'it returns false'. Refute it at one input. -/
def fnExactCutsBetweenWrong : ChangeSpec := { name := "fnExactCutsBetween", fn := fun _ => fun
  | [d1, d2, d3] => { results := [.lit (.bool false)], args := [d1, d2, d3] }
  | _ => none }
def FnExactCutsBetweenWrongFalsely : Prop := fnExactCutsBetweenRow.holds Try.pinned (OpenSpec.ofChange fnExactCutsBetweenWrong)

/-- 'laws.FnExactChipsOf': WHATEVER THE INPUT: true; the input reads as it did. -/
def fnExactChipsOfSpec : ChangeSpec := { name := "fnExactChipsOf", fn := fun _ => fun
  | [d1, d2, d3] => { results := [.lit (.bool true)], args := [d1, d2, d3] }
  | _ => none }
def fnExactChipsOfRow : OpenClaim := { program := "ytddkjcdnomoglaa", sum := "21bb1ae981fe1e8b57ac164e3f21f489cc0a85f511c8deac23cafbbbcca8bd77", func := "loop.example/g00952/laws.FnExactChipsOf", spec := "fnExactChipsOf", unfollowed := true, recurses := true, apart := false }
def FnExactChipsOfSaid : Prop := fnExactChipsOfRow.holds Try.pinned (OpenSpec.ofChange fnExactChipsOfSpec)

/-- ITS FALSE NEIGHBOUR: 'it returns false'. Refute it at one input. -/
def fnExactChipsOfWrong : ChangeSpec := { name := "fnExactChipsOf", fn := fun _ => fun
  | [d1, d2, d3] => { results := [.lit (.bool false)], args := [d1, d2, d3] }
  | _ => none }
def FnExactChipsOfWrongFalsely : Prop := fnExactChipsOfRow.holds Try.pinned (OpenSpec.ofChange fnExactChipsOfWrong)

/-- 'laws.FnExactApplyCuts': WHATEVER THE INPUT: true; the input reads as it did. -/
def fnExactApplyCutsSpec : ChangeSpec := { name := "fnExactApplyCuts", fn := fun _ => fun
  | [d1, d2, d3] => { results := [.lit (.bool true)], args := [d1, d2, d3] }
  | _ => none }
def fnExactApplyCutsRow : OpenClaim := { program := "ytddkjcdnomoglaa", sum := "21bb1ae981fe1e8b57ac164e3f21f489cc0a85f511c8deac23cafbbbcca8bd77", func := "loop.example/g00952/laws.FnExactApplyCuts", spec := "fnExactApplyCuts", unfollowed := true, recurses := true, apart := false }
def FnExactApplyCutsSaid : Prop := fnExactApplyCutsRow.holds Try.pinned (OpenSpec.ofChange fnExactApplyCutsSpec)

/-- ITS FALSE NEIGHBOUR: 'it returns false'. Refute it at one input. -/
def fnExactApplyCutsWrong : ChangeSpec := { name := "fnExactApplyCuts", fn := fun _ => fun
  | [d1, d2, d3] => { results := [.lit (.bool false)], args := [d1, d2, d3] }
  | _ => none }
def FnExactApplyCutsWrongFalsely : Prop := fnExactApplyCutsRow.holds Try.pinned (OpenSpec.ofChange fnExactApplyCutsWrong)

/-- 'laws.FnExactRawPartials': WHATEVER THE INPUT: true; the input reads as it did. -/
def fnExactRawPartialsSpec : ChangeSpec := { name := "fnExactRawPartials", fn := fun _ => fun
  | [d1, d2] => { results := [.lit (.bool true)], args := [d1, d2] }
  | _ => none }
def fnExactRawPartialsRow : OpenClaim := { program := "ytddkjcdnomoglaa", sum := "21bb1ae981fe1e8b57ac164e3f21f489cc0a85f511c8deac23cafbbbcca8bd77", func := "loop.example/g00952/laws.FnExactRawPartials", spec := "fnExactRawPartials", unfollowed := true, recurses := true, apart := false }
def FnExactRawPartialsSaid : Prop := fnExactRawPartialsRow.holds Try.pinned (OpenSpec.ofChange fnExactRawPartialsSpec)

/-- ITS FALSE NEIGHBOUR: 'it returns false'. Refute it at one input. -/
def fnExactRawPartialsWrong : ChangeSpec := { name := "fnExactRawPartials", fn := fun _ => fun
  | [d1, d2] => { results := [.lit (.bool false)], args := [d1, d2] }
  | _ => none }
def FnExactRawPartialsWrongFalsely : Prop := fnExactRawPartialsRow.holds Try.pinned (OpenSpec.ofChange fnExactRawPartialsWrong)

/-- 'laws.FnExactSoundOf': WHATEVER THE INPUT: true; the input reads as it did. -/
def fnExactSoundOfSpec : ChangeSpec := { name := "fnExactSoundOf", fn := fun _ => fun
  | [d1, d2] => { results := [.lit (.bool true)], args := [d1, d2] }
  | _ => none }
def fnExactSoundOfRow : OpenClaim := { program := "ytddkjcdnomoglaa", sum := "21bb1ae981fe1e8b57ac164e3f21f489cc0a85f511c8deac23cafbbbcca8bd77", func := "loop.example/g00952/laws.FnExactSoundOf", spec := "fnExactSoundOf", unfollowed := true, recurses := true, apart := false }
def FnExactSoundOfSaid : Prop := fnExactSoundOfRow.holds Try.pinned (OpenSpec.ofChange fnExactSoundOfSpec)

/-- ITS FALSE NEIGHBOUR: 'it returns false'. Refute it at one input. -/
def fnExactSoundOfWrong : ChangeSpec := { name := "fnExactSoundOf", fn := fun _ => fun
  | [d1, d2] => { results := [.lit (.bool false)], args := [d1, d2] }
  | _ => none }
def FnExactSoundOfWrongFalsely : Prop := fnExactSoundOfRow.holds Try.pinned (OpenSpec.ofChange fnExactSoundOfWrong)

/- THE SECOND FORM. 'bulk': how many values and letters a reading holds, each counted each time it is reached (what is shared counts as often as it is met; a slice's spare places count too). A statement '..UptoSaid' is the law's where the arguments, and the package variables that the reading takes, are together of bulk at most 1048576: NARROWER than '..Said'. Prove '..Said' where nothing that the law and all that it calls make is longer than what came in: it says more and counts as full. Else prove '..UptoSaid'. A law counts once. -/
mutual
def uptoBulk {H : Type} : DataW H → Nat
  | .lit (.string bytes) => bytes.length + 1
  | .lit _ => 1
  | .nil => 1
  | .ptr d => uptoBulk d + 1
  | .slice elems spare => uptoBulkAll elems + uptoBulkAll spare + 1
  | .agg parts => uptoBulkAll parts + 1
  | .iface _ d => uptoBulk d + 1
  | .map entries => uptoBulkEntries entries + 1
  | .held _ => 1
def uptoBulkAll {H : Type} : List (DataW H) → Nat
  | [] => 0
  | d :: r => uptoBulk d + uptoBulkAll r
def uptoBulkEntries {H : Type} : List (Lit × DataW H) → Nat
  | [] => 0
  | x :: r => uptoBulkEntry x + uptoBulkEntries r
def uptoBulkEntry {H : Type} : Lit × DataW H → Nat
  | (.string bytes, d) => bytes.length + uptoBulk d + 1
  | (_, d) => uptoBulk d + 1
 end
def uptoSmall : (H : Type) → List (DataW H) → Bool := fun _ ds => decide (uptoBulkAll ds ≤ 1048576)
def OpenSpec.upto (s : _root_.Go.ChangeSpec) : _root_.Go.OpenSpec := { _root_.Go.OpenSpec.ofChange s with cond := some uptoSmall }

/-- 'laws.FnExactMostSteps', WHERE WHAT IT READS IS OF BULK AT MOST 1048576: true; the input reads as it did. -/
def fnExactMostStepsUptoRow : OpenClaim := { program := "ytddkjcdnomoglaa", sum := "21bb1ae981fe1e8b57ac164e3f21f489cc0a85f511c8deac23cafbbbcca8bd77", func := "loop.example/g00952/laws.FnExactMostSteps", spec := "fnExactMostSteps", unfollowed := true, recurses := true, apart := false, narrowed := true }
def FnExactMostStepsUptoSaid : Prop := fnExactMostStepsUptoRow.holds Try.pinned (OpenSpec.upto fnExactMostStepsSpec)

/-- 'laws.FnExactZoneWalls', WHERE WHAT IT READS IS OF BULK AT MOST 1048576: true; the input reads as it did. -/
def fnExactZoneWallsUptoRow : OpenClaim := { program := "ytddkjcdnomoglaa", sum := "21bb1ae981fe1e8b57ac164e3f21f489cc0a85f511c8deac23cafbbbcca8bd77", func := "loop.example/g00952/laws.FnExactZoneWalls", spec := "fnExactZoneWalls", unfollowed := true, recurses := true, apart := false, narrowed := true }
def FnExactZoneWallsUptoSaid : Prop := fnExactZoneWallsUptoRow.holds Try.pinned (OpenSpec.upto fnExactZoneWallsSpec)

/-- 'laws.FnExactRoomOf', WHERE WHAT IT READS IS OF BULK AT MOST 1048576: true; the input reads as it did. -/
def fnExactRoomOfUptoRow : OpenClaim := { program := "ytddkjcdnomoglaa", sum := "21bb1ae981fe1e8b57ac164e3f21f489cc0a85f511c8deac23cafbbbcca8bd77", func := "loop.example/g00952/laws.FnExactRoomOf", spec := "fnExactRoomOf", unfollowed := true, recurses := true, apart := false, narrowed := true }
def FnExactRoomOfUptoSaid : Prop := fnExactRoomOfUptoRow.holds Try.pinned (OpenSpec.upto fnExactRoomOfSpec)

/-- 'laws.FnExactSmoothProfile', WHERE WHAT IT READS IS OF BULK AT MOST 1048576: true; the input reads as it did. -/
def fnExactSmoothProfileUptoRow : OpenClaim := { program := "ytddkjcdnomoglaa", sum := "21bb1ae981fe1e8b57ac164e3f21f489cc0a85f511c8deac23cafbbbcca8bd77", func := "loop.example/g00952/laws.FnExactSmoothProfile", spec := "fnExactSmoothProfile", unfollowed := true, recurses := true, apart := false, narrowed := true }
def FnExactSmoothProfileUptoSaid : Prop := fnExactSmoothProfileUptoRow.holds Try.pinned (OpenSpec.upto fnExactSmoothProfileSpec)

/-- 'laws.FnExactBlendProfiles', WHERE WHAT IT READS IS OF BULK AT MOST 1048576: true; the input reads as it did. -/
def fnExactBlendProfilesUptoRow : OpenClaim := { program := "ytddkjcdnomoglaa", sum := "21bb1ae981fe1e8b57ac164e3f21f489cc0a85f511c8deac23cafbbbcca8bd77", func := "loop.example/g00952/laws.FnExactBlendProfiles", spec := "fnExactBlendProfiles", unfollowed := true, recurses := true, apart := false, narrowed := true }
def FnExactBlendProfilesUptoSaid : Prop := fnExactBlendProfilesUptoRow.holds Try.pinned (OpenSpec.upto fnExactBlendProfilesSpec)

/-- 'laws.FnExactSplitRing', WHERE WHAT IT READS IS OF BULK AT MOST 1048576: true; the input reads as it did. -/
def fnExactSplitRingUptoRow : OpenClaim := { program := "ytddkjcdnomoglaa", sum := "21bb1ae981fe1e8b57ac164e3f21f489cc0a85f511c8deac23cafbbbcca8bd77", func := "loop.example/g00952/laws.FnExactSplitRing", spec := "fnExactSplitRing", unfollowed := true, recurses := true, apart := false, narrowed := true }
def FnExactSplitRingUptoSaid : Prop := fnExactSplitRingUptoRow.holds Try.pinned (OpenSpec.upto fnExactSplitRingSpec)

/-- 'laws.FnExactInsertRing', WHERE WHAT IT READS IS OF BULK AT MOST 1048576: true; the input reads as it did. -/
def fnExactInsertRingUptoRow : OpenClaim := { program := "ytddkjcdnomoglaa", sum := "21bb1ae981fe1e8b57ac164e3f21f489cc0a85f511c8deac23cafbbbcca8bd77", func := "loop.example/g00952/laws.FnExactInsertRing", spec := "fnExactInsertRing", inPlace := ["slices.overlaps[loop.example/g00952/impl.Ring]"], unfollowed := true, recurses := true, apart := false, narrowed := true }
def FnExactInsertRingUptoSaid : Prop := fnExactInsertRingUptoRow.holds Try.pinned (OpenSpec.upto fnExactInsertRingSpec)

/-- 'laws.FnExactCutsBetween', WHERE WHAT IT READS IS OF BULK AT MOST 1048576: true; the input reads as it did. -/
def fnExactCutsBetweenUptoRow : OpenClaim := { program := "ytddkjcdnomoglaa", sum := "21bb1ae981fe1e8b57ac164e3f21f489cc0a85f511c8deac23cafbbbcca8bd77", func := "loop.example/g00952/laws.FnExactCutsBetween", spec := "fnExactCutsBetween", unfollowed := true, recurses := true, apart := false, narrowed := true }
def FnExactCutsBetweenUptoSaid : Prop := fnExactCutsBetweenUptoRow.holds Try.pinned (OpenSpec.upto fnExactCutsBetweenSpec)

/-- 'laws.FnExactChipsOf', WHERE WHAT IT READS IS OF BULK AT MOST 1048576: true; the input reads as it did. -/
def fnExactChipsOfUptoRow : OpenClaim := { program := "ytddkjcdnomoglaa", sum := "21bb1ae981fe1e8b57ac164e3f21f489cc0a85f511c8deac23cafbbbcca8bd77", func := "loop.example/g00952/laws.FnExactChipsOf", spec := "fnExactChipsOf", unfollowed := true, recurses := true, apart := false, narrowed := true }
def FnExactChipsOfUptoSaid : Prop := fnExactChipsOfUptoRow.holds Try.pinned (OpenSpec.upto fnExactChipsOfSpec)

/-- 'laws.FnExactApplyCuts', WHERE WHAT IT READS IS OF BULK AT MOST 1048576: true; the input reads as it did. -/
def fnExactApplyCutsUptoRow : OpenClaim := { program := "ytddkjcdnomoglaa", sum := "21bb1ae981fe1e8b57ac164e3f21f489cc0a85f511c8deac23cafbbbcca8bd77", func := "loop.example/g00952/laws.FnExactApplyCuts", spec := "fnExactApplyCuts", unfollowed := true, recurses := true, apart := false, narrowed := true }
def FnExactApplyCutsUptoSaid : Prop := fnExactApplyCutsUptoRow.holds Try.pinned (OpenSpec.upto fnExactApplyCutsSpec)

/-- 'laws.FnExactRawPartials', WHERE WHAT IT READS IS OF BULK AT MOST 1048576: true; the input reads as it did. -/
def fnExactRawPartialsUptoRow : OpenClaim := { program := "ytddkjcdnomoglaa", sum := "21bb1ae981fe1e8b57ac164e3f21f489cc0a85f511c8deac23cafbbbcca8bd77", func := "loop.example/g00952/laws.FnExactRawPartials", spec := "fnExactRawPartials", unfollowed := true, recurses := true, apart := false, narrowed := true }
def FnExactRawPartialsUptoSaid : Prop := fnExactRawPartialsUptoRow.holds Try.pinned (OpenSpec.upto fnExactRawPartialsSpec)

/-- 'laws.FnExactSoundOf', WHERE WHAT IT READS IS OF BULK AT MOST 1048576: true; the input reads as it did. -/
def fnExactSoundOfUptoRow : OpenClaim := { program := "ytddkjcdnomoglaa", sum := "21bb1ae981fe1e8b57ac164e3f21f489cc0a85f511c8deac23cafbbbcca8bd77", func := "loop.example/g00952/laws.FnExactSoundOf", spec := "fnExactSoundOf", unfollowed := true, recurses := true, apart := false, narrowed := true }
def FnExactSoundOfUptoSaid : Prop := fnExactSoundOfUptoRow.holds Try.pinned (OpenSpec.upto fnExactSoundOfSpec)

end Rows
end Go.Proofs.Ytddkjcdnomoglaa
