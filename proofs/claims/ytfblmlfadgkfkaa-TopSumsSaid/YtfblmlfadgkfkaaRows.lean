/-
  No cell of these rows narrows 'for every input' (looked for: loops, veiled, ifaces, maps, wideKeys, modest, calm, conditions, laid).
  DERIVED. THE GIVEN ROWS OF THIS SEAT. 15 by the template 'for every input the law returns true; each argument reads behind the call as it read before'; 0 by the template 'total and deterministic' (their statements: YtfblmlfadgkfkaaTotals.lean).
  GIVEN WITH THE SEED: the statements are not yours to turn. If you find one false, say at which input.
  Laid BY PROGRAM, IN A SANDBOX (cutbox-rows.mjs): the forced cells as the released guide's own fill.sh prints them over the translation 3601e9a4ab8d76e1… (all of the seat's roots in one cut). By AI agents, Wed Nov 11 2026. No macro, syntax, notation, axiom, sorry.
-/
import Derived.Test.YtfblmlfadgkfkaaChecked
import GoSem.Claim
import GoSem.ClaimJoined
import GoSem.ClaimMapViews
import Derived.JoinedTies
import Derived.KernelRfl
namespace Go.Proofs.Ytfblmlfadgkfkaa
/- THE CELL 'sum', in the pinned program and in every row, IS THE sha256 OF THE DUMP (.gsa) THAT YtfblmlfadgkfkaaProg.lean LOADS. Nothing in Lean hashes anything: it is a label: what it is worth is what the hold of that sum in a sandbox is worth. -/
noncomputable def Try.pinned : Pinned := { name := "ytfblmlfadgkfkaa", sum := "3601e9a4ab8d76e119d4b13925e32c1e19bd6809d0a7ae76ceccf0dadea49e49", checked := Try.checked }
namespace Rows
def none {H : Type} : Left H := { results := [], args := [] }

/-- 'linkboytop.TopSums': WHATEVER THE INPUT: true; the input reads as it did. -/
def topSumsSpec : ChangeSpec := { name := "topSums", fn := fun _ => fun
  | [d1, d2, d3, d4, d5, d6, d7] => { results := [.lit (.bool true)], args := [d1, d2, d3, d4, d5, d6, d7] }
  | _ => none }
def topSumsRow : OpenClaim := { program := "ytfblmlfadgkfkaa", sum := "3601e9a4ab8d76e119d4b13925e32c1e19bd6809d0a7ae76ceccf0dadea49e49", func := "linkboy/linkboytop.TopSums", spec := "topSums", inPlace := ["internal/abi.NoEscape", "internal/bytealg.MakeNoZero"], unfollowed := true, recurses := true, plainKeys := false, apart := false }
def TopSumsSaid : Prop := topSumsRow.holds Try.pinned (OpenSpec.ofChange topSumsSpec)

/-- ITS FALSE NEIGHBOUR: 'it returns false'. Refute it at one input. -/
def topSumsWrong : ChangeSpec := { name := "topSums", fn := fun _ => fun
  | [d1, d2, d3, d4, d5, d6, d7] => { results := [.lit (.bool false)], args := [d1, d2, d3, d4, d5, d6, d7] }
  | _ => none }
def TopSumsWrongFalsely : Prop := topSumsRow.holds Try.pinned (OpenSpec.ofChange topSumsWrong)

/-- 'linkboytop.TopSecrets': WHATEVER THE INPUT: true; the input reads as it did. -/
def topSecretsSpec : ChangeSpec := { name := "topSecrets", fn := fun _ => fun
  | [d1, d2, d3, d4, d5, d6, d7, d8] => { results := [.lit (.bool true)], args := [d1, d2, d3, d4, d5, d6, d7, d8] }
  | _ => none }
def topSecretsRow : OpenClaim := { program := "ytfblmlfadgkfkaa", sum := "3601e9a4ab8d76e119d4b13925e32c1e19bd6809d0a7ae76ceccf0dadea49e49", func := "linkboy/linkboytop.TopSecrets", spec := "topSecrets", inPlace := ["internal/abi.NoEscape", "internal/bytealg.MakeNoZero"], unfollowed := true, recurses := true, plainKeys := false, apart := false }
def TopSecretsSaid : Prop := topSecretsRow.holds Try.pinned (OpenSpec.ofChange topSecretsSpec)

/-- ITS FALSE NEIGHBOUR: 'it returns false'. Refute it at one input. -/
def topSecretsWrong : ChangeSpec := { name := "topSecrets", fn := fun _ => fun
  | [d1, d2, d3, d4, d5, d6, d7, d8] => { results := [.lit (.bool false)], args := [d1, d2, d3, d4, d5, d6, d7, d8] }
  | _ => none }
def TopSecretsWrongFalsely : Prop := topSecretsRow.holds Try.pinned (OpenSpec.ofChange topSecretsWrong)

/-- 'linkboytop.TopScores': WHATEVER THE INPUT: true; the input reads as it did. -/
def topScoresSpec : ChangeSpec := { name := "topScores", fn := fun _ => fun
  | [d1, d2, d3, d4, d5, d6, d7] => { results := [.lit (.bool true)], args := [d1, d2, d3, d4, d5, d6, d7] }
  | _ => none }
def topScoresRow : OpenClaim := { program := "ytfblmlfadgkfkaa", sum := "3601e9a4ab8d76e119d4b13925e32c1e19bd6809d0a7ae76ceccf0dadea49e49", func := "linkboy/linkboytop.TopScores", spec := "topScores", inPlace := ["internal/abi.NoEscape", "internal/bytealg.MakeNoZero"], plainKeys := false, apart := false }
def TopScoresSaid : Prop := topScoresRow.holds Try.pinned (OpenSpec.ofChange topScoresSpec)

/-- ITS FALSE NEIGHBOUR: 'it returns false'. Refute it at one input. -/
def topScoresWrong : ChangeSpec := { name := "topScores", fn := fun _ => fun
  | [d1, d2, d3, d4, d5, d6, d7] => { results := [.lit (.bool false)], args := [d1, d2, d3, d4, d5, d6, d7] }
  | _ => none }
def TopScoresWrongFalsely : Prop := topScoresRow.holds Try.pinned (OpenSpec.ofChange topScoresWrong)

/-- 'linkboytop.TopPools': WHATEVER THE INPUT: true; the input reads as it did. -/
def topPoolsSpec : ChangeSpec := { name := "topPools", fn := fun _ => fun
  | [d1, d2, d3] => { results := [.lit (.bool true)], args := [d1, d2, d3] }
  | _ => none }
def topPoolsRow : OpenClaim := { program := "ytfblmlfadgkfkaa", sum := "3601e9a4ab8d76e119d4b13925e32c1e19bd6809d0a7ae76ceccf0dadea49e49", func := "linkboy/linkboytop.TopPools", spec := "topPools", inPlace := ["internal/abi.NoEscape", "internal/bytealg.MakeNoZero"], unfollowed := true, recurses := true, plainKeys := false, apart := false }
def TopPoolsSaid : Prop := topPoolsRow.holds Try.pinned (OpenSpec.ofChange topPoolsSpec)

/-- ITS FALSE NEIGHBOUR: 'it returns false'. Refute it at one input. -/
def topPoolsWrong : ChangeSpec := { name := "topPools", fn := fun _ => fun
  | [d1, d2, d3] => { results := [.lit (.bool false)], args := [d1, d2, d3] }
  | _ => none }
def TopPoolsWrongFalsely : Prop := topPoolsRow.holds Try.pinned (OpenSpec.ofChange topPoolsWrong)

/-- 'linkboytop.TopTables': WHATEVER THE INPUT: true; the input reads as it did. -/
def topTablesSpec : ChangeSpec := { name := "topTables", fn := fun _ => fun
  | [d1, d2, d3, d4] => { results := [.lit (.bool true)], args := [d1, d2, d3, d4] }
  | _ => none }
def topTablesRow : OpenClaim := { program := "ytfblmlfadgkfkaa", sum := "3601e9a4ab8d76e119d4b13925e32c1e19bd6809d0a7ae76ceccf0dadea49e49", func := "linkboy/linkboytop.TopTables", spec := "topTables", inPlace := ["internal/abi.NoEscape", "internal/bytealg.MakeNoZero"], unfollowed := true, recurses := true, plainKeys := false, apart := false }
def TopTablesSaid : Prop := topTablesRow.holds Try.pinned (OpenSpec.ofChange topTablesSpec)

/-- ITS FALSE NEIGHBOUR: 'it returns false'. Refute it at one input. -/
def topTablesWrong : ChangeSpec := { name := "topTables", fn := fun _ => fun
  | [d1, d2, d3, d4] => { results := [.lit (.bool false)], args := [d1, d2, d3, d4] }
  | _ => none }
def TopTablesWrongFalsely : Prop := topTablesRow.holds Try.pinned (OpenSpec.ofChange topTablesWrong)

/-- 'linkboytop.TopOptions': WHATEVER THE INPUT: true; the input reads as it did. -/
def topOptionsSpec : ChangeSpec := { name := "topOptions", fn := fun _ => fun
  | [d1, d2, d3] => { results := [.lit (.bool true)], args := [d1, d2, d3] }
  | _ => none }
def topOptionsRow : OpenClaim := { program := "ytfblmlfadgkfkaa", sum := "3601e9a4ab8d76e119d4b13925e32c1e19bd6809d0a7ae76ceccf0dadea49e49", func := "linkboy/linkboytop.TopOptions", spec := "topOptions", inPlace := ["internal/abi.NoEscape", "internal/bytealg.MakeNoZero"], unfollowed := true, recurses := true, plainKeys := false, apart := false }
def TopOptionsSaid : Prop := topOptionsRow.holds Try.pinned (OpenSpec.ofChange topOptionsSpec)

/-- ITS FALSE NEIGHBOUR: 'it returns false'. Refute it at one input. -/
def topOptionsWrong : ChangeSpec := { name := "topOptions", fn := fun _ => fun
  | [d1, d2, d3] => { results := [.lit (.bool false)], args := [d1, d2, d3] }
  | _ => none }
def TopOptionsWrongFalsely : Prop := topOptionsRow.holds Try.pinned (OpenSpec.ofChange topOptionsWrong)

/-- 'linkboytop.TopPieces': WHATEVER THE INPUT: true; the input reads as it did. -/
def topPiecesSpec : ChangeSpec := { name := "topPieces", fn := fun _ => fun
  | [d1, d2, d3, d4, d5] => { results := [.lit (.bool true)], args := [d1, d2, d3, d4, d5] }
  | _ => none }
def topPiecesRow : OpenClaim := { program := "ytfblmlfadgkfkaa", sum := "3601e9a4ab8d76e119d4b13925e32c1e19bd6809d0a7ae76ceccf0dadea49e49", func := "linkboy/linkboytop.TopPieces", spec := "topPieces", inPlace := ["internal/abi.NoEscape", "internal/bytealg.MakeNoZero"], unfollowed := true, recurses := true, plainKeys := false, apart := false }
def TopPiecesSaid : Prop := topPiecesRow.holds Try.pinned (OpenSpec.ofChange topPiecesSpec)

/-- ITS FALSE NEIGHBOUR: 'it returns false'. Refute it at one input. -/
def topPiecesWrong : ChangeSpec := { name := "topPieces", fn := fun _ => fun
  | [d1, d2, d3, d4, d5] => { results := [.lit (.bool false)], args := [d1, d2, d3, d4, d5] }
  | _ => none }
def TopPiecesWrongFalsely : Prop := topPiecesRow.holds Try.pinned (OpenSpec.ofChange topPiecesWrong)

/-- 'linkboytop.TopPackets': WHATEVER THE INPUT: true; the input reads as it did. -/
def topPacketsSpec : ChangeSpec := { name := "topPackets", fn := fun _ => fun
  | [d1, d2, d3, d4, d5, d6, d7] => { results := [.lit (.bool true)], args := [d1, d2, d3, d4, d5, d6, d7] }
  | _ => none }
def topPacketsRow : OpenClaim := { program := "ytfblmlfadgkfkaa", sum := "3601e9a4ab8d76e119d4b13925e32c1e19bd6809d0a7ae76ceccf0dadea49e49", func := "linkboy/linkboytop.TopPackets", spec := "topPackets", inPlace := ["internal/abi.NoEscape", "internal/bytealg.MakeNoZero", "internal/bytealg.Compare"], unfollowed := true, recurses := true, plainKeys := false, apart := false }
def TopPacketsSaid : Prop := topPacketsRow.holds Try.pinned (OpenSpec.ofChange topPacketsSpec)

/-- ITS FALSE NEIGHBOUR: 'it returns false'. Refute it at one input. -/
def topPacketsWrong : ChangeSpec := { name := "topPackets", fn := fun _ => fun
  | [d1, d2, d3, d4, d5, d6, d7] => { results := [.lit (.bool false)], args := [d1, d2, d3, d4, d5, d6, d7] }
  | _ => none }
def TopPacketsWrongFalsely : Prop := topPacketsRow.holds Try.pinned (OpenSpec.ofChange topPacketsWrong)

/-- 'linkboytop.TopOctets': WHATEVER THE INPUT: true; the input reads as it did. -/
def topOctetsSpec : ChangeSpec := { name := "topOctets", fn := fun _ => fun
  | [d1, d2, d3, d4, d5, d6, d7] => { results := [.lit (.bool true)], args := [d1, d2, d3, d4, d5, d6, d7] }
  | _ => none }
def topOctetsRow : OpenClaim := { program := "ytfblmlfadgkfkaa", sum := "3601e9a4ab8d76e119d4b13925e32c1e19bd6809d0a7ae76ceccf0dadea49e49", func := "linkboy/linkboytop.TopOctets", spec := "topOctets", inPlace := ["internal/abi.NoEscape", "internal/bytealg.MakeNoZero", "internal/bytealg.IndexByteString", "internal/bytealg.IndexString"], unfollowed := true, recurses := true, named := ["internal/bytealg.MaxLen"], plainKeys := false, apart := false }
def TopOctetsSaid : Prop := topOctetsRow.holds Try.pinned (OpenSpec.ofChange topOctetsSpec)

/-- ITS FALSE NEIGHBOUR: 'it returns false'. Refute it at one input. -/
def topOctetsWrong : ChangeSpec := { name := "topOctets", fn := fun _ => fun
  | [d1, d2, d3, d4, d5, d6, d7] => { results := [.lit (.bool false)], args := [d1, d2, d3, d4, d5, d6, d7] }
  | _ => none }
def TopOctetsWrongFalsely : Prop := topOctetsRow.holds Try.pinned (OpenSpec.ofChange topOctetsWrong)

/-- 'linkboytop.TopSips': WHATEVER THE INPUT: true; the input reads as it did. -/
def topSipsSpec : ChangeSpec := { name := "topSips", fn := fun _ => fun
  | [d1, d2, d3, d4, d5, d6] => { results := [.lit (.bool true)], args := [d1, d2, d3, d4, d5, d6] }
  | _ => none }
def topSipsRow : OpenClaim := { program := "ytfblmlfadgkfkaa", sum := "3601e9a4ab8d76e119d4b13925e32c1e19bd6809d0a7ae76ceccf0dadea49e49", func := "linkboy/linkboytop.TopSips", spec := "topSips", inPlace := ["internal/abi.NoEscape", "internal/bytealg.MakeNoZero"], unfollowed := true, recurses := true, plainKeys := false, apart := false }
def TopSipsSaid : Prop := topSipsRow.holds Try.pinned (OpenSpec.ofChange topSipsSpec)

/-- ITS FALSE NEIGHBOUR: 'it returns false'. Refute it at one input. -/
def topSipsWrong : ChangeSpec := { name := "topSips", fn := fun _ => fun
  | [d1, d2, d3, d4, d5, d6] => { results := [.lit (.bool false)], args := [d1, d2, d3, d4, d5, d6] }
  | _ => none }
def TopSipsWrongFalsely : Prop := topSipsRow.holds Try.pinned (OpenSpec.ofChange topSipsWrong)

/-- 'linkboytop.TopSpans': WHATEVER THE INPUT: true; the input reads as it did. -/
def topSpansSpec : ChangeSpec := { name := "topSpans", fn := fun _ => fun
  | [d1, d2, d3, d4, d5] => { results := [.lit (.bool true)], args := [d1, d2, d3, d4, d5] }
  | _ => none }
def topSpansRow : OpenClaim := { program := "ytfblmlfadgkfkaa", sum := "3601e9a4ab8d76e119d4b13925e32c1e19bd6809d0a7ae76ceccf0dadea49e49", func := "linkboy/linkboytop.TopSpans", spec := "topSpans", inPlace := ["internal/abi.NoEscape", "internal/bytealg.MakeNoZero"], unfollowed := true, recurses := true, plainKeys := false, apart := false }
def TopSpansSaid : Prop := topSpansRow.holds Try.pinned (OpenSpec.ofChange topSpansSpec)

/-- ITS FALSE NEIGHBOUR: 'it returns false'. Refute it at one input. -/
def topSpansWrong : ChangeSpec := { name := "topSpans", fn := fun _ => fun
  | [d1, d2, d3, d4, d5] => { results := [.lit (.bool false)], args := [d1, d2, d3, d4, d5] }
  | _ => none }
def TopSpansWrongFalsely : Prop := topSpansRow.holds Try.pinned (OpenSpec.ofChange topSpansWrong)

/-- 'linkboytop.TopWheels': WHATEVER THE INPUT: true; the input reads as it did. -/
def topWheelsSpec : ChangeSpec := { name := "topWheels", fn := fun _ => fun
  | [d1, d2] => { results := [.lit (.bool true)], args := [d1, d2] }
  | _ => none }
def topWheelsRow : OpenClaim := { program := "ytfblmlfadgkfkaa", sum := "3601e9a4ab8d76e119d4b13925e32c1e19bd6809d0a7ae76ceccf0dadea49e49", func := "linkboy/linkboytop.TopWheels", spec := "topWheels", inPlace := ["internal/abi.NoEscape", "internal/bytealg.MakeNoZero"], unfollowed := true, recurses := true, plainKeys := false, apart := false }
def TopWheelsSaid : Prop := topWheelsRow.holds Try.pinned (OpenSpec.ofChange topWheelsSpec)

/-- ITS FALSE NEIGHBOUR: 'it returns false'. Refute it at one input. -/
def topWheelsWrong : ChangeSpec := { name := "topWheels", fn := fun _ => fun
  | [d1, d2] => { results := [.lit (.bool false)], args := [d1, d2] }
  | _ => none }
def TopWheelsWrongFalsely : Prop := topWheelsRow.holds Try.pinned (OpenSpec.ofChange topWheelsWrong)

/-- 'linkboytop.TopNets': WHATEVER THE INPUT: true; the input reads as it did. -/
def topNetsSpec : ChangeSpec := { name := "topNets", fn := fun _ => fun
  | [d] => { results := [.lit (.bool true)], args := [d] }
  | _ => none }
def topNetsRow : OpenClaim := { program := "ytfblmlfadgkfkaa", sum := "3601e9a4ab8d76e119d4b13925e32c1e19bd6809d0a7ae76ceccf0dadea49e49", func := "linkboy/linkboytop.TopNets", spec := "topNets", inPlace := ["internal/abi.NoEscape", "internal/bytealg.MakeNoZero"], unfollowed := true, recurses := true, plainKeys := false, apart := false }
def TopNetsSaid : Prop := topNetsRow.holds Try.pinned (OpenSpec.ofChange topNetsSpec)

/-- ITS FALSE NEIGHBOUR: 'it returns false'. Refute it at one input. -/
def topNetsWrong : ChangeSpec := { name := "topNets", fn := fun _ => fun
  | [d] => { results := [.lit (.bool false)], args := [d] }
  | _ => none }
def TopNetsWrongFalsely : Prop := topNetsRow.holds Try.pinned (OpenSpec.ofChange topNetsWrong)

/-- 'linkboytop.TopSlots': WHATEVER THE INPUT: true; the input reads as it did. -/
def topSlotsSpec : ChangeSpec := { name := "topSlots", fn := fun _ => fun
  | [d1, d2, d3] => { results := [.lit (.bool true)], args := [d1, d2, d3] }
  | _ => none }
def topSlotsRow : OpenClaim := { program := "ytfblmlfadgkfkaa", sum := "3601e9a4ab8d76e119d4b13925e32c1e19bd6809d0a7ae76ceccf0dadea49e49", func := "linkboy/linkboytop.TopSlots", spec := "topSlots", inPlace := ["internal/abi.NoEscape", "internal/bytealg.MakeNoZero", "internal/bytealg.Compare"], unfollowed := true, recurses := true, plainKeys := false, apart := false }
def TopSlotsSaid : Prop := topSlotsRow.holds Try.pinned (OpenSpec.ofChange topSlotsSpec)

/-- ITS FALSE NEIGHBOUR: 'it returns false'. Refute it at one input. -/
def topSlotsWrong : ChangeSpec := { name := "topSlots", fn := fun _ => fun
  | [d1, d2, d3] => { results := [.lit (.bool false)], args := [d1, d2, d3] }
  | _ => none }
def TopSlotsWrongFalsely : Prop := topSlotsRow.holds Try.pinned (OpenSpec.ofChange topSlotsWrong)

/-- 'linkboytop.TopCaches': WHATEVER THE INPUT: true; the input reads as it did. -/
def topCachesSpec : ChangeSpec := { name := "topCaches", fn := fun _ => fun
  | [d1, d2, d3] => { results := [.lit (.bool true)], args := [d1, d2, d3] }
  | _ => none }
def topCachesRow : OpenClaim := { program := "ytfblmlfadgkfkaa", sum := "3601e9a4ab8d76e119d4b13925e32c1e19bd6809d0a7ae76ceccf0dadea49e49", func := "linkboy/linkboytop.TopCaches", spec := "topCaches", inPlace := ["internal/abi.NoEscape", "internal/bytealg.MakeNoZero"], unfollowed := true, recurses := true, plainKeys := false, apart := false }
def TopCachesSaid : Prop := topCachesRow.holds Try.pinned (OpenSpec.ofChange topCachesSpec)

/-- ITS FALSE NEIGHBOUR: 'it returns false'. Refute it at one input. -/
def topCachesWrong : ChangeSpec := { name := "topCaches", fn := fun _ => fun
  | [d1, d2, d3] => { results := [.lit (.bool false)], args := [d1, d2, d3] }
  | _ => none }
def TopCachesWrongFalsely : Prop := topCachesRow.holds Try.pinned (OpenSpec.ofChange topCachesWrong)

/- THE SECOND FORM. 'bulk': how many values and letters a reading holds, each counted each time it is reached (what is shared counts as often as it is met; a slice's spare places count too). A statement '..UptoSaid' is the law's where the arguments, and the package variables that the reading takes, are together of bulk at most 1048576: NARROWER than '..Said'. Prove '..Said' where nothing that the law and all that it calls make is longer than what came in: it says more and counts as full. Else prove '..UptoSaid'. A law counts once. -/
mutual
def uptoBulk {H : Type} : DataW H → Nat
  | .lit (.string bytes) => bytes.length + 1
  | .lit _ => 1
  | .nil => 1
  | .ptr d => uptoBulk d + 1
  | .slice elems spare => uptoBulkAll elems + uptoBulkAll spare + 1
  | .agg parts => uptoBulkAll parts + 1
  | .iface _ d => uptoBulk d + 1
  | .map entries => uptoBulkEntries entries + 1
  | .held _ => 1
def uptoBulkAll {H : Type} : List (DataW H) → Nat
  | [] => 0
  | d :: r => uptoBulk d + uptoBulkAll r
def uptoBulkEntries {H : Type} : List (Lit × DataW H) → Nat
  | [] => 0
  | x :: r => uptoBulkEntry x + uptoBulkEntries r
def uptoBulkEntry {H : Type} : Lit × DataW H → Nat
  | (.string bytes, d) => bytes.length + uptoBulk d + 1
  | (_, d) => uptoBulk d + 1
 end
def uptoSmall : (H : Type) → List (DataW H) → Bool := fun _ ds => decide (uptoBulkAll ds ≤ 1048576)
def OpenSpec.upto (s : _root_.Go.ChangeSpec) : _root_.Go.OpenSpec := { _root_.Go.OpenSpec.ofChange s with cond := some uptoSmall }

/-- 'linkboytop.TopSums', WHERE WHAT IT READS IS OF BULK AT MOST 1048576: true; the input reads as it did. -/
def topSumsUptoRow : OpenClaim := { program := "ytfblmlfadgkfkaa", sum := "3601e9a4ab8d76e119d4b13925e32c1e19bd6809d0a7ae76ceccf0dadea49e49", func := "linkboy/linkboytop.TopSums", spec := "topSums", inPlace := ["internal/abi.NoEscape", "internal/bytealg.MakeNoZero"], unfollowed := true, recurses := true, plainKeys := false, apart := false, narrowed := true }
def TopSumsUptoSaid : Prop := topSumsUptoRow.holds Try.pinned (OpenSpec.upto topSumsSpec)

/-- 'linkboytop.TopSecrets', WHERE WHAT IT READS IS OF BULK AT MOST 1048576: true; the input reads as it did. -/
def topSecretsUptoRow : OpenClaim := { program := "ytfblmlfadgkfkaa", sum := "3601e9a4ab8d76e119d4b13925e32c1e19bd6809d0a7ae76ceccf0dadea49e49", func := "linkboy/linkboytop.TopSecrets", spec := "topSecrets", inPlace := ["internal/abi.NoEscape", "internal/bytealg.MakeNoZero"], unfollowed := true, recurses := true, plainKeys := false, apart := false, narrowed := true }
def TopSecretsUptoSaid : Prop := topSecretsUptoRow.holds Try.pinned (OpenSpec.upto topSecretsSpec)

/-- 'linkboytop.TopScores', WHERE WHAT IT READS IS OF BULK AT MOST 1048576: true; the input reads as it did. -/
def topScoresUptoRow : OpenClaim := { program := "ytfblmlfadgkfkaa", sum := "3601e9a4ab8d76e119d4b13925e32c1e19bd6809d0a7ae76ceccf0dadea49e49", func := "linkboy/linkboytop.TopScores", spec := "topScores", inPlace := ["internal/abi.NoEscape", "internal/bytealg.MakeNoZero"], plainKeys := false, apart := false, narrowed := true }
def TopScoresUptoSaid : Prop := topScoresUptoRow.holds Try.pinned (OpenSpec.upto topScoresSpec)

/-- 'linkboytop.TopPools', WHERE WHAT IT READS IS OF BULK AT MOST 1048576: true; the input reads as it did. -/
def topPoolsUptoRow : OpenClaim := { program := "ytfblmlfadgkfkaa", sum := "3601e9a4ab8d76e119d4b13925e32c1e19bd6809d0a7ae76ceccf0dadea49e49", func := "linkboy/linkboytop.TopPools", spec := "topPools", inPlace := ["internal/abi.NoEscape", "internal/bytealg.MakeNoZero"], unfollowed := true, recurses := true, plainKeys := false, apart := false, narrowed := true }
def TopPoolsUptoSaid : Prop := topPoolsUptoRow.holds Try.pinned (OpenSpec.upto topPoolsSpec)

/-- 'linkboytop.TopTables', WHERE WHAT IT READS IS OF BULK AT MOST 1048576: true; the input reads as it did. -/
def topTablesUptoRow : OpenClaim := { program := "ytfblmlfadgkfkaa", sum := "3601e9a4ab8d76e119d4b13925e32c1e19bd6809d0a7ae76ceccf0dadea49e49", func := "linkboy/linkboytop.TopTables", spec := "topTables", inPlace := ["internal/abi.NoEscape", "internal/bytealg.MakeNoZero"], unfollowed := true, recurses := true, plainKeys := false, apart := false, narrowed := true }
def TopTablesUptoSaid : Prop := topTablesUptoRow.holds Try.pinned (OpenSpec.upto topTablesSpec)

/-- 'linkboytop.TopOptions', WHERE WHAT IT READS IS OF BULK AT MOST 1048576: true; the input reads as it did. -/
def topOptionsUptoRow : OpenClaim := { program := "ytfblmlfadgkfkaa", sum := "3601e9a4ab8d76e119d4b13925e32c1e19bd6809d0a7ae76ceccf0dadea49e49", func := "linkboy/linkboytop.TopOptions", spec := "topOptions", inPlace := ["internal/abi.NoEscape", "internal/bytealg.MakeNoZero"], unfollowed := true, recurses := true, plainKeys := false, apart := false, narrowed := true }
def TopOptionsUptoSaid : Prop := topOptionsUptoRow.holds Try.pinned (OpenSpec.upto topOptionsSpec)

/-- 'linkboytop.TopPieces', WHERE WHAT IT READS IS OF BULK AT MOST 1048576: true; the input reads as it did. -/
def topPiecesUptoRow : OpenClaim := { program := "ytfblmlfadgkfkaa", sum := "3601e9a4ab8d76e119d4b13925e32c1e19bd6809d0a7ae76ceccf0dadea49e49", func := "linkboy/linkboytop.TopPieces", spec := "topPieces", inPlace := ["internal/abi.NoEscape", "internal/bytealg.MakeNoZero"], unfollowed := true, recurses := true, plainKeys := false, apart := false, narrowed := true }
def TopPiecesUptoSaid : Prop := topPiecesUptoRow.holds Try.pinned (OpenSpec.upto topPiecesSpec)

/-- 'linkboytop.TopPackets', WHERE WHAT IT READS IS OF BULK AT MOST 1048576: true; the input reads as it did. -/
def topPacketsUptoRow : OpenClaim := { program := "ytfblmlfadgkfkaa", sum := "3601e9a4ab8d76e119d4b13925e32c1e19bd6809d0a7ae76ceccf0dadea49e49", func := "linkboy/linkboytop.TopPackets", spec := "topPackets", inPlace := ["internal/abi.NoEscape", "internal/bytealg.MakeNoZero", "internal/bytealg.Compare"], unfollowed := true, recurses := true, plainKeys := false, apart := false, narrowed := true }
def TopPacketsUptoSaid : Prop := topPacketsUptoRow.holds Try.pinned (OpenSpec.upto topPacketsSpec)

/-- 'linkboytop.TopOctets', WHERE WHAT IT READS IS OF BULK AT MOST 1048576: true; the input reads as it did. -/
def topOctetsUptoRow : OpenClaim := { program := "ytfblmlfadgkfkaa", sum := "3601e9a4ab8d76e119d4b13925e32c1e19bd6809d0a7ae76ceccf0dadea49e49", func := "linkboy/linkboytop.TopOctets", spec := "topOctets", inPlace := ["internal/abi.NoEscape", "internal/bytealg.MakeNoZero", "internal/bytealg.IndexByteString", "internal/bytealg.IndexString"], unfollowed := true, recurses := true, named := ["internal/bytealg.MaxLen"], plainKeys := false, apart := false, narrowed := true }
def TopOctetsUptoSaid : Prop := topOctetsUptoRow.holds Try.pinned (OpenSpec.upto topOctetsSpec)

/-- 'linkboytop.TopSips', WHERE WHAT IT READS IS OF BULK AT MOST 1048576: true; the input reads as it did. -/
def topSipsUptoRow : OpenClaim := { program := "ytfblmlfadgkfkaa", sum := "3601e9a4ab8d76e119d4b13925e32c1e19bd6809d0a7ae76ceccf0dadea49e49", func := "linkboy/linkboytop.TopSips", spec := "topSips", inPlace := ["internal/abi.NoEscape", "internal/bytealg.MakeNoZero"], unfollowed := true, recurses := true, plainKeys := false, apart := false, narrowed := true }
def TopSipsUptoSaid : Prop := topSipsUptoRow.holds Try.pinned (OpenSpec.upto topSipsSpec)

/-- 'linkboytop.TopSpans', WHERE WHAT IT READS IS OF BULK AT MOST 1048576: true; the input reads as it did. -/
def topSpansUptoRow : OpenClaim := { program := "ytfblmlfadgkfkaa", sum := "3601e9a4ab8d76e119d4b13925e32c1e19bd6809d0a7ae76ceccf0dadea49e49", func := "linkboy/linkboytop.TopSpans", spec := "topSpans", inPlace := ["internal/abi.NoEscape", "internal/bytealg.MakeNoZero"], unfollowed := true, recurses := true, plainKeys := false, apart := false, narrowed := true }
def TopSpansUptoSaid : Prop := topSpansUptoRow.holds Try.pinned (OpenSpec.upto topSpansSpec)

/-- 'linkboytop.TopWheels', WHERE WHAT IT READS IS OF BULK AT MOST 1048576: true; the input reads as it did. -/
def topWheelsUptoRow : OpenClaim := { program := "ytfblmlfadgkfkaa", sum := "3601e9a4ab8d76e119d4b13925e32c1e19bd6809d0a7ae76ceccf0dadea49e49", func := "linkboy/linkboytop.TopWheels", spec := "topWheels", inPlace := ["internal/abi.NoEscape", "internal/bytealg.MakeNoZero"], unfollowed := true, recurses := true, plainKeys := false, apart := false, narrowed := true }
def TopWheelsUptoSaid : Prop := topWheelsUptoRow.holds Try.pinned (OpenSpec.upto topWheelsSpec)

/-- 'linkboytop.TopNets', WHERE WHAT IT READS IS OF BULK AT MOST 1048576: true; the input reads as it did. -/
def topNetsUptoRow : OpenClaim := { program := "ytfblmlfadgkfkaa", sum := "3601e9a4ab8d76e119d4b13925e32c1e19bd6809d0a7ae76ceccf0dadea49e49", func := "linkboy/linkboytop.TopNets", spec := "topNets", inPlace := ["internal/abi.NoEscape", "internal/bytealg.MakeNoZero"], unfollowed := true, recurses := true, plainKeys := false, apart := false, narrowed := true }
def TopNetsUptoSaid : Prop := topNetsUptoRow.holds Try.pinned (OpenSpec.upto topNetsSpec)

/-- 'linkboytop.TopSlots', WHERE WHAT IT READS IS OF BULK AT MOST 1048576: true; the input reads as it did. -/
def topSlotsUptoRow : OpenClaim := { program := "ytfblmlfadgkfkaa", sum := "3601e9a4ab8d76e119d4b13925e32c1e19bd6809d0a7ae76ceccf0dadea49e49", func := "linkboy/linkboytop.TopSlots", spec := "topSlots", inPlace := ["internal/abi.NoEscape", "internal/bytealg.MakeNoZero", "internal/bytealg.Compare"], unfollowed := true, recurses := true, plainKeys := false, apart := false, narrowed := true }
def TopSlotsUptoSaid : Prop := topSlotsUptoRow.holds Try.pinned (OpenSpec.upto topSlotsSpec)

/-- 'linkboytop.TopCaches', WHERE WHAT IT READS IS OF BULK AT MOST 1048576: true; the input reads as it did. -/
def topCachesUptoRow : OpenClaim := { program := "ytfblmlfadgkfkaa", sum := "3601e9a4ab8d76e119d4b13925e32c1e19bd6809d0a7ae76ceccf0dadea49e49", func := "linkboy/linkboytop.TopCaches", spec := "topCaches", inPlace := ["internal/abi.NoEscape", "internal/bytealg.MakeNoZero"], unfollowed := true, recurses := true, plainKeys := false, apart := false, narrowed := true }
def TopCachesUptoSaid : Prop := topCachesUptoRow.holds Try.pinned (OpenSpec.upto topCachesSpec)

end Rows
end Go.Proofs.Ytfblmlfadgkfkaa
