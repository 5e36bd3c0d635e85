/-
  No cell of these rows narrows 'for every input' (looked for: loops, veiled, ifaces, maps, wideKeys, modest, calm, conditions, laid).
  DERIVED. THE GIVEN ROWS OF THIS SEAT. 8 by the template 'for every input the law returns true; each argument reads behind the call as it read before'; 0 by the template 'total and deterministic' (their statements: YtohlaginanbclaaTotals.lean).
  GIVEN WITH THE SEED: the statements are not yours to turn. If you find one false, say at which input.
  Laid BY PROGRAM, IN A SANDBOX (cutbox-rows.mjs): the forced cells as the released guide's own fill.sh prints them over the translation 2a55782933d5699e… (all of the seat's roots in one cut). By AI agents, Wed Nov 11 2026. No macro, syntax, notation, axiom, sorry.
-/
import Derived.Test.YtohlaginanbclaaChecked
import GoSem.Claim
import GoSem.ClaimJoined
import GoSem.ClaimMapViews
import Derived.JoinedTies
import Derived.KernelRfl
namespace Go.Proofs.Ytohlaginanbclaa
/- THE CELL 'sum', in the pinned program and in every row, IS THE sha256 OF THE DUMP (.gsa) THAT YtohlaginanbclaaProg.lean LOADS. Nothing in Lean hashes anything: it is a label: what it is worth is what the hold of that sum in a sandbox is worth. -/
noncomputable def Try.pinned : Pinned := { name := "ytohlaginanbclaa", sum := "2a55782933d5699e2cc2909426c631c170ddffba6e4cc513d1050e796ad907a9", checked := Try.checked }
namespace Rows
def none {H : Type} : Left H := { results := [], args := [] }

/-- 'shunterlaw26.AdmitRuns': WHATEVER THE INPUT: true; the input reads as it did. -/
def admitRunsSpec : ChangeSpec := { name := "admitRuns", fn := fun _ => fun
  | [d1, d2, d3] => { results := [.lit (.bool true)], args := [d1, d2, d3] }
  | _ => none }
def admitRunsRow : OpenClaim := { program := "ytohlaginanbclaa", sum := "2a55782933d5699e2cc2909426c631c170ddffba6e4cc513d1050e796ad907a9", func := "shunter/shunterlaw26.AdmitRuns", spec := "admitRuns", unfollowed := true, recurses := true, apart := false }
def AdmitRunsSaid : Prop := admitRunsRow.holds Try.pinned (OpenSpec.ofChange admitRunsSpec)

/-- ITS FALSE NEIGHBOUR: 'it returns false'. Refute it at one input. -/
def admitRunsWrong : ChangeSpec := { name := "admitRuns", fn := fun _ => fun
  | [d1, d2, d3] => { results := [.lit (.bool false)], args := [d1, d2, d3] }
  | _ => none }
def AdmitRunsWrongFalsely : Prop := admitRunsRow.holds Try.pinned (OpenSpec.ofChange admitRunsWrong)

/-- 'shunterlaw26.AdmitOrder': WHATEVER THE INPUT: true; the input reads as it did. -/
def admitOrderSpec : ChangeSpec := { name := "admitOrder", fn := fun _ => fun
  | [d1, d2, d3] => { results := [.lit (.bool true)], args := [d1, d2, d3] }
  | _ => none }
def admitOrderRow : OpenClaim := { program := "ytohlaginanbclaa", sum := "2a55782933d5699e2cc2909426c631c170ddffba6e4cc513d1050e796ad907a9", func := "shunter/shunterlaw26.AdmitOrder", spec := "admitOrder", unfollowed := true, recurses := true, apart := false }
def AdmitOrderSaid : Prop := admitOrderRow.holds Try.pinned (OpenSpec.ofChange admitOrderSpec)

/-- ITS FALSE NEIGHBOUR: 'it returns false'. Refute it at one input. -/
def admitOrderWrong : ChangeSpec := { name := "admitOrder", fn := fun _ => fun
  | [d1, d2, d3] => { results := [.lit (.bool false)], args := [d1, d2, d3] }
  | _ => none }
def AdmitOrderWrongFalsely : Prop := admitOrderRow.holds Try.pinned (OpenSpec.ofChange admitOrderWrong)

/-- 'shunterlaw26.AdmitMost': WHATEVER THE INPUT: true; the input reads as it did. -/
def admitMostSpec : ChangeSpec := { name := "admitMost", fn := fun _ => fun
  | [d1, d2] => { results := [.lit (.bool true)], args := [d1, d2] }
  | _ => none }
def admitMostRow : OpenClaim := { program := "ytohlaginanbclaa", sum := "2a55782933d5699e2cc2909426c631c170ddffba6e4cc513d1050e796ad907a9", func := "shunter/shunterlaw26.AdmitMost", spec := "admitMost", unfollowed := true, recurses := true, apart := false }
def AdmitMostSaid : Prop := admitMostRow.holds Try.pinned (OpenSpec.ofChange admitMostSpec)

/-- ITS FALSE NEIGHBOUR: 'it returns false'. Refute it at one input. -/
def admitMostWrong : ChangeSpec := { name := "admitMost", fn := fun _ => fun
  | [d1, d2] => { results := [.lit (.bool false)], args := [d1, d2] }
  | _ => none }
def AdmitMostWrongFalsely : Prop := admitMostRow.holds Try.pinned (OpenSpec.ofChange admitMostWrong)

/-- 'shunterlaw26.AdmitAsks': WHATEVER THE INPUT: true; the input reads as it did. -/
def admitAsksSpec : ChangeSpec := { name := "admitAsks", fn := fun _ => fun
  | [d1, d2, d3] => { results := [.lit (.bool true)], args := [d1, d2, d3] }
  | _ => none }
def admitAsksRow : OpenClaim := { program := "ytohlaginanbclaa", sum := "2a55782933d5699e2cc2909426c631c170ddffba6e4cc513d1050e796ad907a9", func := "shunter/shunterlaw26.AdmitAsks", spec := "admitAsks", unfollowed := true, recurses := true, apart := false }
def AdmitAsksSaid : Prop := admitAsksRow.holds Try.pinned (OpenSpec.ofChange admitAsksSpec)

/-- ITS FALSE NEIGHBOUR: 'it returns false'. Refute it at one input. -/
def admitAsksWrong : ChangeSpec := { name := "admitAsks", fn := fun _ => fun
  | [d1, d2, d3] => { results := [.lit (.bool false)], args := [d1, d2, d3] }
  | _ => none }
def AdmitAsksWrongFalsely : Prop := admitAsksRow.holds Try.pinned (OpenSpec.ofChange admitAsksWrong)

/-- 'shunterlaw26.AdmitSums': WHATEVER THE INPUT: true; the input reads as it did. -/
def admitSumsSpec : ChangeSpec := { name := "admitSums", fn := fun _ => fun
  | [d1, d2, d3] => { results := [.lit (.bool true)], args := [d1, d2, d3] }
  | _ => none }
def admitSumsRow : OpenClaim := { program := "ytohlaginanbclaa", sum := "2a55782933d5699e2cc2909426c631c170ddffba6e4cc513d1050e796ad907a9", func := "shunter/shunterlaw26.AdmitSums", spec := "admitSums", unfollowed := true, recurses := true, apart := false }
def AdmitSumsSaid : Prop := admitSumsRow.holds Try.pinned (OpenSpec.ofChange admitSumsSpec)

/-- ITS FALSE NEIGHBOUR: 'it returns false'. Refute it at one input. -/
def admitSumsWrong : ChangeSpec := { name := "admitSums", fn := fun _ => fun
  | [d1, d2, d3] => { results := [.lit (.bool false)], args := [d1, d2, d3] }
  | _ => none }
def AdmitSumsWrongFalsely : Prop := admitSumsRow.holds Try.pinned (OpenSpec.ofChange admitSumsWrong)

/-- 'shunterlaw26.AdmitWords': WHATEVER THE INPUT: true; the input reads as it did. -/
def admitWordsSpec : ChangeSpec := { name := "admitWords", fn := fun _ => fun
  | [d1, d2] => { results := [.lit (.bool true)], args := [d1, d2] }
  | _ => none }
def admitWordsRow : OpenClaim := { program := "ytohlaginanbclaa", sum := "2a55782933d5699e2cc2909426c631c170ddffba6e4cc513d1050e796ad907a9", func := "shunter/shunterlaw26.AdmitWords", spec := "admitWords", unfollowed := true, recurses := true, apart := false }
def AdmitWordsSaid : Prop := admitWordsRow.holds Try.pinned (OpenSpec.ofChange admitWordsSpec)

/-- ITS FALSE NEIGHBOUR: 'it returns false'. Refute it at one input. -/
def admitWordsWrong : ChangeSpec := { name := "admitWords", fn := fun _ => fun
  | [d1, d2] => { results := [.lit (.bool false)], args := [d1, d2] }
  | _ => none }
def AdmitWordsWrongFalsely : Prop := admitWordsRow.holds Try.pinned (OpenSpec.ofChange admitWordsWrong)

/-- 'shunterlaw26.AdmitKnown': WHATEVER THE INPUT: true; the input reads as it did. -/
def admitKnownSpec : ChangeSpec := { name := "admitKnown", fn := fun _ => fun
  | [] => { results := [.lit (.bool true)], args := [] }
  | _ => none }
def admitKnownRow : OpenClaim := { program := "ytohlaginanbclaa", sum := "2a55782933d5699e2cc2909426c631c170ddffba6e4cc513d1050e796ad907a9", func := "shunter/shunterlaw26.AdmitKnown", spec := "admitKnown", unfollowed := true, recurses := true, apart := false }
def AdmitKnownSaid : Prop := admitKnownRow.holds Try.pinned (OpenSpec.ofChange admitKnownSpec)

/-- ITS FALSE NEIGHBOUR: 'it returns false'. Refute it at one input. -/
def admitKnownWrong : ChangeSpec := { name := "admitKnown", fn := fun _ => fun
  | [] => { results := [.lit (.bool false)], args := [] }
  | _ => none }
def AdmitKnownWrongFalsely : Prop := admitKnownRow.holds Try.pinned (OpenSpec.ofChange admitKnownWrong)

/-- 'shunterlaw26.AdmitRoom': WHATEVER THE INPUT: true; the input reads as it did. -/
def admitRoomSpec : ChangeSpec := { name := "admitRoom", fn := fun _ => fun
  | [d1, d2, d3] => { results := [.lit (.bool true)], args := [d1, d2, d3] }
  | _ => none }
def admitRoomRow : OpenClaim := { program := "ytohlaginanbclaa", sum := "2a55782933d5699e2cc2909426c631c170ddffba6e4cc513d1050e796ad907a9", func := "shunter/shunterlaw26.AdmitRoom", spec := "admitRoom", unfollowed := true, recurses := true, apart := false }
def AdmitRoomSaid : Prop := admitRoomRow.holds Try.pinned (OpenSpec.ofChange admitRoomSpec)

/-- ITS FALSE NEIGHBOUR: 'it returns false'. Refute it at one input. -/
def admitRoomWrong : ChangeSpec := { name := "admitRoom", fn := fun _ => fun
  | [d1, d2, d3] => { results := [.lit (.bool false)], args := [d1, d2, d3] }
  | _ => none }
def AdmitRoomWrongFalsely : Prop := admitRoomRow.holds Try.pinned (OpenSpec.ofChange admitRoomWrong)

/- THE SECOND FORM. 'bulk': how many values and letters a reading holds, each counted each time it is reached (what is shared counts as often as it is met; a slice's spare places count too). A statement '..UptoSaid' is the law's where the arguments, and the package variables that the reading takes, are together of bulk at most 1048576: NARROWER than '..Said'. Prove '..Said' where nothing that the law and all that it calls make is longer than what came in: it says more and counts as full. Else prove '..UptoSaid'. A law counts once. -/
mutual
def uptoBulk {H : Type} : DataW H → Nat
  | .lit (.string bytes) => bytes.length + 1
  | .lit _ => 1
  | .nil => 1
  | .ptr d => uptoBulk d + 1
  | .slice elems spare => uptoBulkAll elems + uptoBulkAll spare + 1
  | .agg parts => uptoBulkAll parts + 1
  | .iface _ d => uptoBulk d + 1
  | .map entries => uptoBulkEntries entries + 1
  | .held _ => 1
def uptoBulkAll {H : Type} : List (DataW H) → Nat
  | [] => 0
  | d :: r => uptoBulk d + uptoBulkAll r
def uptoBulkEntries {H : Type} : List (Lit × DataW H) → Nat
  | [] => 0
  | x :: r => uptoBulkEntry x + uptoBulkEntries r
def uptoBulkEntry {H : Type} : Lit × DataW H → Nat
  | (.string bytes, d) => bytes.length + uptoBulk d + 1
  | (_, d) => uptoBulk d + 1
 end
def uptoSmall : (H : Type) → List (DataW H) → Bool := fun _ ds => decide (uptoBulkAll ds ≤ 1048576)
def OpenSpec.upto (s : _root_.Go.ChangeSpec) : _root_.Go.OpenSpec := { _root_.Go.OpenSpec.ofChange s with cond := some uptoSmall }

/-- 'shunterlaw26.AdmitRuns', WHERE WHAT IT READS IS OF BULK AT MOST 1048576: true; the input reads as it did. -/
def admitRunsUptoRow : OpenClaim := { program := "ytohlaginanbclaa", sum := "2a55782933d5699e2cc2909426c631c170ddffba6e4cc513d1050e796ad907a9", func := "shunter/shunterlaw26.AdmitRuns", spec := "admitRuns", unfollowed := true, recurses := true, apart := false, narrowed := true }
def AdmitRunsUptoSaid : Prop := admitRunsUptoRow.holds Try.pinned (OpenSpec.upto admitRunsSpec)

/-- 'shunterlaw26.AdmitOrder', WHERE WHAT IT READS IS OF BULK AT MOST 1048576: true; the input reads as it did. -/
def admitOrderUptoRow : OpenClaim := { program := "ytohlaginanbclaa", sum := "2a55782933d5699e2cc2909426c631c170ddffba6e4cc513d1050e796ad907a9", func := "shunter/shunterlaw26.AdmitOrder", spec := "admitOrder", unfollowed := true, recurses := true, apart := false, narrowed := true }
def AdmitOrderUptoSaid : Prop := admitOrderUptoRow.holds Try.pinned (OpenSpec.upto admitOrderSpec)

/-- 'shunterlaw26.AdmitMost', WHERE WHAT IT READS IS OF BULK AT MOST 1048576: true; the input reads as it did. -/
def admitMostUptoRow : OpenClaim := { program := "ytohlaginanbclaa", sum := "2a55782933d5699e2cc2909426c631c170ddffba6e4cc513d1050e796ad907a9", func := "shunter/shunterlaw26.AdmitMost", spec := "admitMost", unfollowed := true, recurses := true, apart := false, narrowed := true }
def AdmitMostUptoSaid : Prop := admitMostUptoRow.holds Try.pinned (OpenSpec.upto admitMostSpec)

/-- 'shunterlaw26.AdmitAsks', WHERE WHAT IT READS IS OF BULK AT MOST 1048576: true; the input reads as it did. -/
def admitAsksUptoRow : OpenClaim := { program := "ytohlaginanbclaa", sum := "2a55782933d5699e2cc2909426c631c170ddffba6e4cc513d1050e796ad907a9", func := "shunter/shunterlaw26.AdmitAsks", spec := "admitAsks", unfollowed := true, recurses := true, apart := false, narrowed := true }
def AdmitAsksUptoSaid : Prop := admitAsksUptoRow.holds Try.pinned (OpenSpec.upto admitAsksSpec)

/-- 'shunterlaw26.AdmitSums', WHERE WHAT IT READS IS OF BULK AT MOST 1048576: true; the input reads as it did. -/
def admitSumsUptoRow : OpenClaim := { program := "ytohlaginanbclaa", sum := "2a55782933d5699e2cc2909426c631c170ddffba6e4cc513d1050e796ad907a9", func := "shunter/shunterlaw26.AdmitSums", spec := "admitSums", unfollowed := true, recurses := true, apart := false, narrowed := true }
def AdmitSumsUptoSaid : Prop := admitSumsUptoRow.holds Try.pinned (OpenSpec.upto admitSumsSpec)

/-- 'shunterlaw26.AdmitWords', WHERE WHAT IT READS IS OF BULK AT MOST 1048576: true; the input reads as it did. -/
def admitWordsUptoRow : OpenClaim := { program := "ytohlaginanbclaa", sum := "2a55782933d5699e2cc2909426c631c170ddffba6e4cc513d1050e796ad907a9", func := "shunter/shunterlaw26.AdmitWords", spec := "admitWords", unfollowed := true, recurses := true, apart := false, narrowed := true }
def AdmitWordsUptoSaid : Prop := admitWordsUptoRow.holds Try.pinned (OpenSpec.upto admitWordsSpec)

/-- 'shunterlaw26.AdmitKnown', WHERE WHAT IT READS IS OF BULK AT MOST 1048576: true; the input reads as it did. -/
def admitKnownUptoRow : OpenClaim := { program := "ytohlaginanbclaa", sum := "2a55782933d5699e2cc2909426c631c170ddffba6e4cc513d1050e796ad907a9", func := "shunter/shunterlaw26.AdmitKnown", spec := "admitKnown", unfollowed := true, recurses := true, apart := false, narrowed := true }
def AdmitKnownUptoSaid : Prop := admitKnownUptoRow.holds Try.pinned (OpenSpec.upto admitKnownSpec)

/-- 'shunterlaw26.AdmitRoom', WHERE WHAT IT READS IS OF BULK AT MOST 1048576: true; the input reads as it did. -/
def admitRoomUptoRow : OpenClaim := { program := "ytohlaginanbclaa", sum := "2a55782933d5699e2cc2909426c631c170ddffba6e4cc513d1050e796ad907a9", func := "shunter/shunterlaw26.AdmitRoom", spec := "admitRoom", unfollowed := true, recurses := true, apart := false, narrowed := true }
def AdmitRoomUptoSaid : Prop := admitRoomUptoRow.holds Try.pinned (OpenSpec.upto admitRoomSpec)

end Rows
end Go.Proofs.Ytohlaginanbclaa
