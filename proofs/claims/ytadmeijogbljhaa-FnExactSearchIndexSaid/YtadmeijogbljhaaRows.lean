/-
  No cell of these rows narrows 'for every input' (looked for: loops, veiled, ifaces, maps, wideKeys, modest, calm, conditions, laid).
  DERIVED. THE GIVEN ROWS OF THIS SEAT. 15 by the template 'for every input the law returns true; each argument reads behind the call as it read before'; 0 by the template 'total and deterministic' (their statements: YtadmeijogbljhaaTotals.lean).
  GIVEN WITH THE SEED: the statements are not yours to turn. If you find one false, say at which input.
  Laid BY PROGRAM, IN A SANDBOX (cutbox-rows.mjs): the forced cells as the released guide's own fill.sh prints them over the translation b90a0ee379d88326… (all of the seat's roots in one cut). By AI agents, Wed Nov 11 2026. No macro, syntax, notation, axiom, sorry.
-/
import Derived.Test.YtadmeijogbljhaaChecked
import GoSem.Claim
import GoSem.ClaimJoined
import GoSem.ClaimMapViews
import Derived.JoinedTies
import Derived.KernelRfl
namespace Go.Proofs.Ytadmeijogbljhaa
/- THE CELL 'sum', in the pinned program and in every row, IS THE sha256 OF THE DUMP (.gsa) THAT YtadmeijogbljhaaProg.lean LOADS. Nothing in Lean hashes anything: it is a label: what it is worth is what the hold of that sum in a sandbox is worth. -/
noncomputable def Try.pinned : Pinned := { name := "ytadmeijogbljhaa", sum := "b90a0ee379d8832681947e337d7afd05dcacca42e3248615e8855cd26e67b388", checked := Try.checked }
namespace Rows
def none {H : Type} : Left H := { results := [], args := [] }

/-- 'laws.FnExactTakeInbox': WHATEVER THE INPUT: true; the input reads as it did. -/
def fnExactTakeInboxSpec : ChangeSpec := { name := "fnExactTakeInbox", fn := fun _ => fun
  | [d] => { results := [.lit (.bool true)], args := [d] }
  | _ => none }
def fnExactTakeInboxRow : OpenClaim := { program := "ytadmeijogbljhaa", sum := "b90a0ee379d8832681947e337d7afd05dcacca42e3248615e8855cd26e67b388", func := "loop.example/g00810/laws.FnExactTakeInbox", spec := "fnExactTakeInbox", apart := false }
def FnExactTakeInboxSaid : Prop := fnExactTakeInboxRow.holds Try.pinned (OpenSpec.ofChange fnExactTakeInboxSpec)

/-- ITS FALSE NEIGHBOUR: 'it returns false'. Refute it at one input. -/
def fnExactTakeInboxWrong : ChangeSpec := { name := "fnExactTakeInbox", fn := fun _ => fun
  | [d] => { results := [.lit (.bool false)], args := [d] }
  | _ => none }
def FnExactTakeInboxWrongFalsely : Prop := fnExactTakeInboxRow.holds Try.pinned (OpenSpec.ofChange fnExactTakeInboxWrong)

/-- 'laws.FnExactOffer': WHATEVER THE INPUT: true; the input reads as it did. -/
def fnExactOfferSpec : ChangeSpec := { name := "fnExactOffer", fn := fun _ => fun
  | [d1, d2] => { results := [.lit (.bool true)], args := [d1, d2] }
  | _ => none }
def fnExactOfferRow : OpenClaim := { program := "ytadmeijogbljhaa", sum := "b90a0ee379d8832681947e337d7afd05dcacca42e3248615e8855cd26e67b388", func := "loop.example/g00810/laws.FnExactOffer", spec := "fnExactOffer", apart := false }
def FnExactOfferSaid : Prop := fnExactOfferRow.holds Try.pinned (OpenSpec.ofChange fnExactOfferSpec)

/-- ITS FALSE NEIGHBOUR: 'it returns false'. Refute it at one input. -/
def fnExactOfferWrong : ChangeSpec := { name := "fnExactOffer", fn := fun _ => fun
  | [d1, d2] => { results := [.lit (.bool false)], args := [d1, d2] }
  | _ => none }
def FnExactOfferWrongFalsely : Prop := fnExactOfferRow.holds Try.pinned (OpenSpec.ofChange fnExactOfferWrong)

/-- 'laws.FnOnce': WHATEVER THE INPUT: true; the input reads as it did. -/
def fnOnceSpec : ChangeSpec := { name := "fnOnce", fn := fun _ => fun
  | [d] => { results := [.lit (.bool true)], args := [d] }
  | _ => none }
def fnOnceRow : OpenClaim := { program := "ytadmeijogbljhaa", sum := "b90a0ee379d8832681947e337d7afd05dcacca42e3248615e8855cd26e67b388", func := "loop.example/g00810/laws.FnOnce", spec := "fnOnce", recurses := true, apart := false }
def FnOnceSaid : Prop := fnOnceRow.holds Try.pinned (OpenSpec.ofChange fnOnceSpec)

/-- ITS FALSE NEIGHBOUR: 'it returns false'. Refute it at one input. -/
def fnOnceWrong : ChangeSpec := { name := "fnOnce", fn := fun _ => fun
  | [d] => { results := [.lit (.bool false)], args := [d] }
  | _ => none }
def FnOnceWrongFalsely : Prop := fnOnceRow.holds Try.pinned (OpenSpec.ofChange fnOnceWrong)

/-- 'laws.FnExactNearestPlace': WHATEVER THE INPUT: true; the input reads as it did. -/
def fnExactNearestPlaceSpec : ChangeSpec := { name := "fnExactNearestPlace", fn := fun _ => fun
  | [d1, d2] => { results := [.lit (.bool true)], args := [d1, d2] }
  | _ => none }
def fnExactNearestPlaceRow : OpenClaim := { program := "ytadmeijogbljhaa", sum := "b90a0ee379d8832681947e337d7afd05dcacca42e3248615e8855cd26e67b388", func := "loop.example/g00810/laws.FnExactNearestPlace", spec := "fnExactNearestPlace", unfollowed := true, recurses := true, apart := false }
def FnExactNearestPlaceSaid : Prop := fnExactNearestPlaceRow.holds Try.pinned (OpenSpec.ofChange fnExactNearestPlaceSpec)

/-- ITS FALSE NEIGHBOUR: 'it returns false'. Refute it at one input. -/
def fnExactNearestPlaceWrong : ChangeSpec := { name := "fnExactNearestPlace", fn := fun _ => fun
  | [d1, d2] => { results := [.lit (.bool false)], args := [d1, d2] }
  | _ => none }
def FnExactNearestPlaceWrongFalsely : Prop := fnExactNearestPlaceRow.holds Try.pinned (OpenSpec.ofChange fnExactNearestPlaceWrong)

/-- 'laws.FnExactBundlesOf': WHATEVER THE INPUT: true; the input reads as it did. -/
def fnExactBundlesOfSpec : ChangeSpec := { name := "fnExactBundlesOf", fn := fun _ => fun
  | [d1, d2] => { results := [.lit (.bool true)], args := [d1, d2] }
  | _ => none }
def fnExactBundlesOfRow : OpenClaim := { program := "ytadmeijogbljhaa", sum := "b90a0ee379d8832681947e337d7afd05dcacca42e3248615e8855cd26e67b388", func := "loop.example/g00810/laws.FnExactBundlesOf", spec := "fnExactBundlesOf", apart := false }
def FnExactBundlesOfSaid : Prop := fnExactBundlesOfRow.holds Try.pinned (OpenSpec.ofChange fnExactBundlesOfSpec)

/-- ITS FALSE NEIGHBOUR: 'it returns false'. Refute it at one input. -/
def fnExactBundlesOfWrong : ChangeSpec := { name := "fnExactBundlesOf", fn := fun _ => fun
  | [d1, d2] => { results := [.lit (.bool false)], args := [d1, d2] }
  | _ => none }
def FnExactBundlesOfWrongFalsely : Prop := fnExactBundlesOfRow.holds Try.pinned (OpenSpec.ofChange fnExactBundlesOfWrong)

/-- 'laws.FnExactSearchPlaces': WHATEVER THE INPUT: true; the input reads as it did. -/
def fnExactSearchPlacesSpec : ChangeSpec := { name := "fnExactSearchPlaces", fn := fun _ => fun
  | [d1, d2, d3] => { results := [.lit (.bool true)], args := [d1, d2, d3] }
  | _ => none }
def fnExactSearchPlacesRow : OpenClaim := { program := "ytadmeijogbljhaa", sum := "b90a0ee379d8832681947e337d7afd05dcacca42e3248615e8855cd26e67b388", func := "loop.example/g00810/laws.FnExactSearchPlaces", spec := "fnExactSearchPlaces", unfollowed := true, recurses := true, apart := false }
def FnExactSearchPlacesSaid : Prop := fnExactSearchPlacesRow.holds Try.pinned (OpenSpec.ofChange fnExactSearchPlacesSpec)

/-- ITS FALSE NEIGHBOUR: 'it returns false'. Refute it at one input. -/
def fnExactSearchPlacesWrong : ChangeSpec := { name := "fnExactSearchPlaces", fn := fun _ => fun
  | [d1, d2, d3] => { results := [.lit (.bool false)], args := [d1, d2, d3] }
  | _ => none }
def FnExactSearchPlacesWrongFalsely : Prop := fnExactSearchPlacesRow.holds Try.pinned (OpenSpec.ofChange fnExactSearchPlacesWrong)

/-- 'laws.FnExactNewTeam': WHATEVER THE INPUT: true; the input reads as it did. -/
def fnExactNewTeamSpec : ChangeSpec := { name := "fnExactNewTeam", fn := fun _ => fun
  | [d] => { results := [.lit (.bool true)], args := [d] }
  | _ => none }
def fnExactNewTeamRow : OpenClaim := { program := "ytadmeijogbljhaa", sum := "b90a0ee379d8832681947e337d7afd05dcacca42e3248615e8855cd26e67b388", func := "loop.example/g00810/laws.FnExactNewTeam", spec := "fnExactNewTeam", apart := false }
def FnExactNewTeamSaid : Prop := fnExactNewTeamRow.holds Try.pinned (OpenSpec.ofChange fnExactNewTeamSpec)

/-- ITS FALSE NEIGHBOUR: 'it returns false'. Refute it at one input. -/
def fnExactNewTeamWrong : ChangeSpec := { name := "fnExactNewTeam", fn := fun _ => fun
  | [d] => { results := [.lit (.bool false)], args := [d] }
  | _ => none }
def FnExactNewTeamWrongFalsely : Prop := fnExactNewTeamRow.holds Try.pinned (OpenSpec.ofChange fnExactNewTeamWrong)

/-- 'laws.FnExactIsIndex': WHATEVER THE INPUT: true; the input reads as it did. -/
def fnExactIsIndexSpec : ChangeSpec := { name := "fnExactIsIndex", fn := fun _ => fun
  | [d] => { results := [.lit (.bool true)], args := [d] }
  | _ => none }
def fnExactIsIndexRow : OpenClaim := { program := "ytadmeijogbljhaa", sum := "b90a0ee379d8832681947e337d7afd05dcacca42e3248615e8855cd26e67b388", func := "loop.example/g00810/laws.FnExactIsIndex", spec := "fnExactIsIndex", unfollowed := true, recurses := true, apart := false }
def FnExactIsIndexSaid : Prop := fnExactIsIndexRow.holds Try.pinned (OpenSpec.ofChange fnExactIsIndexSpec)

/-- ITS FALSE NEIGHBOUR: 'it returns false'. Refute it at one input. -/
def fnExactIsIndexWrong : ChangeSpec := { name := "fnExactIsIndex", fn := fun _ => fun
  | [d] => { results := [.lit (.bool false)], args := [d] }
  | _ => none }
def FnExactIsIndexWrongFalsely : Prop := fnExactIsIndexRow.holds Try.pinned (OpenSpec.ofChange fnExactIsIndexWrong)

/-- 'laws.FnExactBuildIndex': WHATEVER THE INPUT: true; the input reads as it did. -/
def fnExactBuildIndexSpec : ChangeSpec := { name := "fnExactBuildIndex", fn := fun _ => fun
  | [d] => { results := [.lit (.bool true)], args := [d] }
  | _ => none }
def fnExactBuildIndexRow : OpenClaim := { program := "ytadmeijogbljhaa", sum := "b90a0ee379d8832681947e337d7afd05dcacca42e3248615e8855cd26e67b388", func := "loop.example/g00810/laws.FnExactBuildIndex", spec := "fnExactBuildIndex", unfollowed := true, recurses := true, apart := false }
def FnExactBuildIndexSaid : Prop := fnExactBuildIndexRow.holds Try.pinned (OpenSpec.ofChange fnExactBuildIndexSpec)

/-- ITS FALSE NEIGHBOUR: 'it returns false'. Refute it at one input. -/
def fnExactBuildIndexWrong : ChangeSpec := { name := "fnExactBuildIndex", fn := fun _ => fun
  | [d] => { results := [.lit (.bool false)], args := [d] }
  | _ => none }
def FnExactBuildIndexWrongFalsely : Prop := fnExactBuildIndexRow.holds Try.pinned (OpenSpec.ofChange fnExactBuildIndexWrong)

/-- 'laws.FnExactIsTeam': WHATEVER THE INPUT: true; the input reads as it did. -/
def fnExactIsTeamSpec : ChangeSpec := { name := "fnExactIsTeam", fn := fun _ => fun
  | [d] => { results := [.lit (.bool true)], args := [d] }
  | _ => none }
def fnExactIsTeamRow : OpenClaim := { program := "ytadmeijogbljhaa", sum := "b90a0ee379d8832681947e337d7afd05dcacca42e3248615e8855cd26e67b388", func := "loop.example/g00810/laws.FnExactIsTeam", spec := "fnExactIsTeam", apart := false }
def FnExactIsTeamSaid : Prop := fnExactIsTeamRow.holds Try.pinned (OpenSpec.ofChange fnExactIsTeamSpec)

/-- ITS FALSE NEIGHBOUR: 'it returns false'. Refute it at one input. -/
def fnExactIsTeamWrong : ChangeSpec := { name := "fnExactIsTeam", fn := fun _ => fun
  | [d] => { results := [.lit (.bool false)], args := [d] }
  | _ => none }
def FnExactIsTeamWrongFalsely : Prop := fnExactIsTeamRow.holds Try.pinned (OpenSpec.ofChange fnExactIsTeamWrong)

/-- 'laws.FnExactIsSynced': WHATEVER THE INPUT: true; the input reads as it did. -/
def fnExactIsSyncedSpec : ChangeSpec := { name := "fnExactIsSynced", fn := fun _ => fun
  | [d] => { results := [.lit (.bool true)], args := [d] }
  | _ => none }
def fnExactIsSyncedRow : OpenClaim := { program := "ytadmeijogbljhaa", sum := "b90a0ee379d8832681947e337d7afd05dcacca42e3248615e8855cd26e67b388", func := "loop.example/g00810/laws.FnExactIsSynced", spec := "fnExactIsSynced", apart := false }
def FnExactIsSyncedSaid : Prop := fnExactIsSyncedRow.holds Try.pinned (OpenSpec.ofChange fnExactIsSyncedSpec)

/-- ITS FALSE NEIGHBOUR: 'it returns false'. Refute it at one input. -/
def fnExactIsSyncedWrong : ChangeSpec := { name := "fnExactIsSynced", fn := fun _ => fun
  | [d] => { results := [.lit (.bool false)], args := [d] }
  | _ => none }
def FnExactIsSyncedWrongFalsely : Prop := fnExactIsSyncedRow.holds Try.pinned (OpenSpec.ofChange fnExactIsSyncedWrong)

/-- 'laws.FnIndex': WHATEVER THE INPUT: true; the input reads as it did. -/
def fnIndexSpec : ChangeSpec := { name := "fnIndex", fn := fun _ => fun
  | [d] => { results := [.lit (.bool true)], args := [d] }
  | _ => none }
def fnIndexRow : OpenClaim := { program := "ytadmeijogbljhaa", sum := "b90a0ee379d8832681947e337d7afd05dcacca42e3248615e8855cd26e67b388", func := "loop.example/g00810/laws.FnIndex", spec := "fnIndex", unfollowed := true, recurses := true, apart := false }
def FnIndexSaid : Prop := fnIndexRow.holds Try.pinned (OpenSpec.ofChange fnIndexSpec)

/-- ITS FALSE NEIGHBOUR: 'it returns false'. Refute it at one input. -/
def fnIndexWrong : ChangeSpec := { name := "fnIndex", fn := fun _ => fun
  | [d] => { results := [.lit (.bool false)], args := [d] }
  | _ => none }
def FnIndexWrongFalsely : Prop := fnIndexRow.holds Try.pinned (OpenSpec.ofChange fnIndexWrong)

/-- 'laws.FnExactUnionOf': WHATEVER THE INPUT: true; the input reads as it did. -/
def fnExactUnionOfSpec : ChangeSpec := { name := "fnExactUnionOf", fn := fun _ => fun
  | [d] => { results := [.lit (.bool true)], args := [d] }
  | _ => none }
def fnExactUnionOfRow : OpenClaim := { program := "ytadmeijogbljhaa", sum := "b90a0ee379d8832681947e337d7afd05dcacca42e3248615e8855cd26e67b388", func := "loop.example/g00810/laws.FnExactUnionOf", spec := "fnExactUnionOf", apart := false }
def FnExactUnionOfSaid : Prop := fnExactUnionOfRow.holds Try.pinned (OpenSpec.ofChange fnExactUnionOfSpec)

/-- ITS FALSE NEIGHBOUR: 'it returns false'. Refute it at one input. -/
def fnExactUnionOfWrong : ChangeSpec := { name := "fnExactUnionOf", fn := fun _ => fun
  | [d] => { results := [.lit (.bool false)], args := [d] }
  | _ => none }
def FnExactUnionOfWrongFalsely : Prop := fnExactUnionOfRow.holds Try.pinned (OpenSpec.ofChange fnExactUnionOfWrong)

/-- 'laws.FnExactCandidatesOf': WHATEVER THE INPUT: true; the input reads as it did. -/
def fnExactCandidatesOfSpec : ChangeSpec := { name := "fnExactCandidatesOf", fn := fun _ => fun
  | [d1, d2] => { results := [.lit (.bool true)], args := [d1, d2] }
  | _ => none }
def fnExactCandidatesOfRow : OpenClaim := { program := "ytadmeijogbljhaa", sum := "b90a0ee379d8832681947e337d7afd05dcacca42e3248615e8855cd26e67b388", func := "loop.example/g00810/laws.FnExactCandidatesOf", spec := "fnExactCandidatesOf", unfollowed := true, recurses := true, apart := false }
def FnExactCandidatesOfSaid : Prop := fnExactCandidatesOfRow.holds Try.pinned (OpenSpec.ofChange fnExactCandidatesOfSpec)

/-- ITS FALSE NEIGHBOUR: 'it returns false'. Refute it at one input. -/
def fnExactCandidatesOfWrong : ChangeSpec := { name := "fnExactCandidatesOf", fn := fun _ => fun
  | [d1, d2] => { results := [.lit (.bool false)], args := [d1, d2] }
  | _ => none }
def FnExactCandidatesOfWrongFalsely : Prop := fnExactCandidatesOfRow.holds Try.pinned (OpenSpec.ofChange fnExactCandidatesOfWrong)

/-- 'laws.FnExactSearchIndex': WHATEVER THE INPUT: true; the input reads as it did. -/
def fnExactSearchIndexSpec : ChangeSpec := { name := "fnExactSearchIndex", fn := fun _ => fun
  | [d1, d2, d3] => { results := [.lit (.bool true)], args := [d1, d2, d3] }
  | _ => none }
def fnExactSearchIndexRow : OpenClaim := { program := "ytadmeijogbljhaa", sum := "b90a0ee379d8832681947e337d7afd05dcacca42e3248615e8855cd26e67b388", func := "loop.example/g00810/laws.FnExactSearchIndex", spec := "fnExactSearchIndex", unfollowed := true, recurses := true, apart := false }
def FnExactSearchIndexSaid : Prop := fnExactSearchIndexRow.holds Try.pinned (OpenSpec.ofChange fnExactSearchIndexSpec)

/-- ITS FALSE NEIGHBOUR: 'it returns false'. Refute it at one input. -/
def fnExactSearchIndexWrong : ChangeSpec := { name := "fnExactSearchIndex", fn := fun _ => fun
  | [d1, d2, d3] => { results := [.lit (.bool false)], args := [d1, d2, d3] }
  | _ => none }
def FnExactSearchIndexWrongFalsely : Prop := fnExactSearchIndexRow.holds Try.pinned (OpenSpec.ofChange fnExactSearchIndexWrong)

/- THE SECOND FORM. 'bulk': how many values and letters a reading holds, each counted each time it is reached (what is shared counts as often as it is met; a slice's spare places count too). A statement '..UptoSaid' is the law's where the arguments, and the package variables that the reading takes, are together of bulk at most 1048576: NARROWER than '..Said'. Prove '..Said' where nothing that the law and all that it calls make is longer than what came in: it says more and counts as full. Else prove '..UptoSaid'. A law counts once. -/
mutual
def uptoBulk {H : Type} : DataW H → Nat
  | .lit (.string bytes) => bytes.length + 1
  | .lit _ => 1
  | .nil => 1
  | .ptr d => uptoBulk d + 1
  | .slice elems spare => uptoBulkAll elems + uptoBulkAll spare + 1
  | .agg parts => uptoBulkAll parts + 1
  | .iface _ d => uptoBulk d + 1
  | .map entries => uptoBulkEntries entries + 1
  | .held _ => 1
def uptoBulkAll {H : Type} : List (DataW H) → Nat
  | [] => 0
  | d :: r => uptoBulk d + uptoBulkAll r
def uptoBulkEntries {H : Type} : List (Lit × DataW H) → Nat
  | [] => 0
  | x :: r => uptoBulkEntry x + uptoBulkEntries r
def uptoBulkEntry {H : Type} : Lit × DataW H → Nat
  | (.string bytes, d) => bytes.length + uptoBulk d + 1
  | (_, d) => uptoBulk d + 1
 end
def uptoSmall : (H : Type) → List (DataW H) → Bool := fun _ ds => decide (uptoBulkAll ds ≤ 1048576)
def OpenSpec.upto (s : _root_.Go.ChangeSpec) : _root_.Go.OpenSpec := { _root_.Go.OpenSpec.ofChange s with cond := some uptoSmall }

/-- 'laws.FnExactTakeInbox', WHERE WHAT IT READS IS OF BULK AT MOST 1048576: true; the input reads as it did. -/
def fnExactTakeInboxUptoRow : OpenClaim := { program := "ytadmeijogbljhaa", sum := "b90a0ee379d8832681947e337d7afd05dcacca42e3248615e8855cd26e67b388", func := "loop.example/g00810/laws.FnExactTakeInbox", spec := "fnExactTakeInbox", apart := false, narrowed := true }
def FnExactTakeInboxUptoSaid : Prop := fnExactTakeInboxUptoRow.holds Try.pinned (OpenSpec.upto fnExactTakeInboxSpec)

/-- 'laws.FnExactOffer', WHERE WHAT IT READS IS OF BULK AT MOST 1048576: true; the input reads as it did. -/
def fnExactOfferUptoRow : OpenClaim := { program := "ytadmeijogbljhaa", sum := "b90a0ee379d8832681947e337d7afd05dcacca42e3248615e8855cd26e67b388", func := "loop.example/g00810/laws.FnExactOffer", spec := "fnExactOffer", apart := false, narrowed := true }
def FnExactOfferUptoSaid : Prop := fnExactOfferUptoRow.holds Try.pinned (OpenSpec.upto fnExactOfferSpec)

/-- 'laws.FnOnce', WHERE WHAT IT READS IS OF BULK AT MOST 1048576: true; the input reads as it did. -/
def fnOnceUptoRow : OpenClaim := { program := "ytadmeijogbljhaa", sum := "b90a0ee379d8832681947e337d7afd05dcacca42e3248615e8855cd26e67b388", func := "loop.example/g00810/laws.FnOnce", spec := "fnOnce", recurses := true, apart := false, narrowed := true }
def FnOnceUptoSaid : Prop := fnOnceUptoRow.holds Try.pinned (OpenSpec.upto fnOnceSpec)

/-- 'laws.FnExactNearestPlace', WHERE WHAT IT READS IS OF BULK AT MOST 1048576: true; the input reads as it did. -/
def fnExactNearestPlaceUptoRow : OpenClaim := { program := "ytadmeijogbljhaa", sum := "b90a0ee379d8832681947e337d7afd05dcacca42e3248615e8855cd26e67b388", func := "loop.example/g00810/laws.FnExactNearestPlace", spec := "fnExactNearestPlace", unfollowed := true, recurses := true, apart := false, narrowed := true }
def FnExactNearestPlaceUptoSaid : Prop := fnExactNearestPlaceUptoRow.holds Try.pinned (OpenSpec.upto fnExactNearestPlaceSpec)

/-- 'laws.FnExactBundlesOf', WHERE WHAT IT READS IS OF BULK AT MOST 1048576: true; the input reads as it did. -/
def fnExactBundlesOfUptoRow : OpenClaim := { program := "ytadmeijogbljhaa", sum := "b90a0ee379d8832681947e337d7afd05dcacca42e3248615e8855cd26e67b388", func := "loop.example/g00810/laws.FnExactBundlesOf", spec := "fnExactBundlesOf", apart := false, narrowed := true }
def FnExactBundlesOfUptoSaid : Prop := fnExactBundlesOfUptoRow.holds Try.pinned (OpenSpec.upto fnExactBundlesOfSpec)

/-- 'laws.FnExactSearchPlaces', WHERE WHAT IT READS IS OF BULK AT MOST 1048576: true; the input reads as it did. -/
def fnExactSearchPlacesUptoRow : OpenClaim := { program := "ytadmeijogbljhaa", sum := "b90a0ee379d8832681947e337d7afd05dcacca42e3248615e8855cd26e67b388", func := "loop.example/g00810/laws.FnExactSearchPlaces", spec := "fnExactSearchPlaces", unfollowed := true, recurses := true, apart := false, narrowed := true }
def FnExactSearchPlacesUptoSaid : Prop := fnExactSearchPlacesUptoRow.holds Try.pinned (OpenSpec.upto fnExactSearchPlacesSpec)

/-- 'laws.FnExactNewTeam', WHERE WHAT IT READS IS OF BULK AT MOST 1048576: true; the input reads as it did. -/
def fnExactNewTeamUptoRow : OpenClaim := { program := "ytadmeijogbljhaa", sum := "b90a0ee379d8832681947e337d7afd05dcacca42e3248615e8855cd26e67b388", func := "loop.example/g00810/laws.FnExactNewTeam", spec := "fnExactNewTeam", apart := false, narrowed := true }
def FnExactNewTeamUptoSaid : Prop := fnExactNewTeamUptoRow.holds Try.pinned (OpenSpec.upto fnExactNewTeamSpec)

/-- 'laws.FnExactIsIndex', WHERE WHAT IT READS IS OF BULK AT MOST 1048576: true; the input reads as it did. -/
def fnExactIsIndexUptoRow : OpenClaim := { program := "ytadmeijogbljhaa", sum := "b90a0ee379d8832681947e337d7afd05dcacca42e3248615e8855cd26e67b388", func := "loop.example/g00810/laws.FnExactIsIndex", spec := "fnExactIsIndex", unfollowed := true, recurses := true, apart := false, narrowed := true }
def FnExactIsIndexUptoSaid : Prop := fnExactIsIndexUptoRow.holds Try.pinned (OpenSpec.upto fnExactIsIndexSpec)

/-- 'laws.FnExactBuildIndex', WHERE WHAT IT READS IS OF BULK AT MOST 1048576: true; the input reads as it did. -/
def fnExactBuildIndexUptoRow : OpenClaim := { program := "ytadmeijogbljhaa", sum := "b90a0ee379d8832681947e337d7afd05dcacca42e3248615e8855cd26e67b388", func := "loop.example/g00810/laws.FnExactBuildIndex", spec := "fnExactBuildIndex", unfollowed := true, recurses := true, apart := false, narrowed := true }
def FnExactBuildIndexUptoSaid : Prop := fnExactBuildIndexUptoRow.holds Try.pinned (OpenSpec.upto fnExactBuildIndexSpec)

/-- 'laws.FnExactIsTeam', WHERE WHAT IT READS IS OF BULK AT MOST 1048576: true; the input reads as it did. -/
def fnExactIsTeamUptoRow : OpenClaim := { program := "ytadmeijogbljhaa", sum := "b90a0ee379d8832681947e337d7afd05dcacca42e3248615e8855cd26e67b388", func := "loop.example/g00810/laws.FnExactIsTeam", spec := "fnExactIsTeam", apart := false, narrowed := true }
def FnExactIsTeamUptoSaid : Prop := fnExactIsTeamUptoRow.holds Try.pinned (OpenSpec.upto fnExactIsTeamSpec)

/-- 'laws.FnExactIsSynced', WHERE WHAT IT READS IS OF BULK AT MOST 1048576: true; the input reads as it did. -/
def fnExactIsSyncedUptoRow : OpenClaim := { program := "ytadmeijogbljhaa", sum := "b90a0ee379d8832681947e337d7afd05dcacca42e3248615e8855cd26e67b388", func := "loop.example/g00810/laws.FnExactIsSynced", spec := "fnExactIsSynced", apart := false, narrowed := true }
def FnExactIsSyncedUptoSaid : Prop := fnExactIsSyncedUptoRow.holds Try.pinned (OpenSpec.upto fnExactIsSyncedSpec)

/-- 'laws.FnIndex', WHERE WHAT IT READS IS OF BULK AT MOST 1048576: true; the input reads as it did. -/
def fnIndexUptoRow : OpenClaim := { program := "ytadmeijogbljhaa", sum := "b90a0ee379d8832681947e337d7afd05dcacca42e3248615e8855cd26e67b388", func := "loop.example/g00810/laws.FnIndex", spec := "fnIndex", unfollowed := true, recurses := true, apart := false, narrowed := true }
def FnIndexUptoSaid : Prop := fnIndexUptoRow.holds Try.pinned (OpenSpec.upto fnIndexSpec)

/-- 'laws.FnExactUnionOf', WHERE WHAT IT READS IS OF BULK AT MOST 1048576: true; the input reads as it did. -/
def fnExactUnionOfUptoRow : OpenClaim := { program := "ytadmeijogbljhaa", sum := "b90a0ee379d8832681947e337d7afd05dcacca42e3248615e8855cd26e67b388", func := "loop.example/g00810/laws.FnExactUnionOf", spec := "fnExactUnionOf", apart := false, narrowed := true }
def FnExactUnionOfUptoSaid : Prop := fnExactUnionOfUptoRow.holds Try.pinned (OpenSpec.upto fnExactUnionOfSpec)

/-- 'laws.FnExactCandidatesOf', WHERE WHAT IT READS IS OF BULK AT MOST 1048576: true; the input reads as it did. -/
def fnExactCandidatesOfUptoRow : OpenClaim := { program := "ytadmeijogbljhaa", sum := "b90a0ee379d8832681947e337d7afd05dcacca42e3248615e8855cd26e67b388", func := "loop.example/g00810/laws.FnExactCandidatesOf", spec := "fnExactCandidatesOf", unfollowed := true, recurses := true, apart := false, narrowed := true }
def FnExactCandidatesOfUptoSaid : Prop := fnExactCandidatesOfUptoRow.holds Try.pinned (OpenSpec.upto fnExactCandidatesOfSpec)

/-- 'laws.FnExactSearchIndex', WHERE WHAT IT READS IS OF BULK AT MOST 1048576: true; the input reads as it did. -/
def fnExactSearchIndexUptoRow : OpenClaim := { program := "ytadmeijogbljhaa", sum := "b90a0ee379d8832681947e337d7afd05dcacca42e3248615e8855cd26e67b388", func := "loop.example/g00810/laws.FnExactSearchIndex", spec := "fnExactSearchIndex", unfollowed := true, recurses := true, apart := false, narrowed := true }
def FnExactSearchIndexUptoSaid : Prop := fnExactSearchIndexUptoRow.holds Try.pinned (OpenSpec.upto fnExactSearchIndexSpec)

end Rows
end Go.Proofs.Ytadmeijogbljhaa
