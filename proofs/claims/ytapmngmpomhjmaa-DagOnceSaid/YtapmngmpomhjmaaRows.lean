/-
  No cell of these rows narrows 'for every input' (looked for: loops, veiled, ifaces, maps, wideKeys, modest, calm, conditions, laid).
  DERIVED. THE GIVEN ROWS OF THIS SEAT. 4 by the template 'for every input the law returns true; each argument reads behind the call as it read before'; 0 by the template 'total and deterministic' (their statements: YtapmngmpomhjmaaTotals.lean).
  GIVEN WITH THE SEED: the statements are not yours to turn. If you find one false, say at which input.
  Laid BY PROGRAM, IN A SANDBOX (cutbox-rows.mjs): the forced cells as the released guide's own fill.sh prints them over the translation 69ce086172359774… (all of the seat's roots in one cut). By AI agents, Wed Nov 11 2026. No macro, syntax, notation, axiom, sorry.
-/
import Derived.Test.YtapmngmpomhjmaaChecked
import GoSem.Claim
import GoSem.ClaimJoined
import GoSem.ClaimMapViews
import Derived.JoinedTies
import Derived.KernelRfl
namespace Go.Proofs.Ytapmngmpomhjmaa
/- THE CELL 'sum', in the pinned program and in every row, IS THE sha256 OF THE DUMP (.gsa) THAT YtapmngmpomhjmaaProg.lean LOADS. Nothing in Lean hashes anything: it is a label: what it is worth is what the hold of that sum in a sandbox is worth. -/
noncomputable def Try.pinned : Pinned := { name := "ytapmngmpomhjmaa", sum := "69ce086172359774a872d363144723bde26353e44493ba2ce0a45e4301159d76", checked := Try.checked }
namespace Rows
def none {H : Type} : Left H := { results := [], args := [] }

/-- 'collatorlaw06.DagOnce': WHATEVER THE INPUT: true; the input reads as it did. -/
def dagOnceSpec : ChangeSpec := { name := "dagOnce", fn := fun _ => fun
  | [d1, d2] => { results := [.lit (.bool true)], args := [d1, d2] }
  | _ => none }
def dagOnceRow : OpenClaim := { program := "ytapmngmpomhjmaa", sum := "69ce086172359774a872d363144723bde26353e44493ba2ce0a45e4301159d76", func := "collator/collatorlaw06.DagOnce", spec := "dagOnce", unfollowed := true, recurses := true, apart := false }
def DagOnceSaid : Prop := dagOnceRow.holds Try.pinned (OpenSpec.ofChange dagOnceSpec)

/-- ITS FALSE NEIGHBOUR: 'it returns false'. Refute it at one input. -/
def dagOnceWrong : ChangeSpec := { name := "dagOnce", fn := fun _ => fun
  | [d1, d2] => { results := [.lit (.bool false)], args := [d1, d2] }
  | _ => none }
def DagOnceWrongFalsely : Prop := dagOnceRow.holds Try.pinned (OpenSpec.ofChange dagOnceWrong)

/-- 'collatorlaw06.DagBuckets': WHATEVER THE INPUT: true; the input reads as it did. -/
def dagBucketsSpec : ChangeSpec := { name := "dagBuckets", fn := fun _ => fun
  | [d1, d2] => { results := [.lit (.bool true)], args := [d1, d2] }
  | _ => none }
def dagBucketsRow : OpenClaim := { program := "ytapmngmpomhjmaa", sum := "69ce086172359774a872d363144723bde26353e44493ba2ce0a45e4301159d76", func := "collator/collatorlaw06.DagBuckets", spec := "dagBuckets", unfollowed := true, recurses := true, apart := false }
def DagBucketsSaid : Prop := dagBucketsRow.holds Try.pinned (OpenSpec.ofChange dagBucketsSpec)

/-- ITS FALSE NEIGHBOUR: 'it returns false'. Refute it at one input. -/
def dagBucketsWrong : ChangeSpec := { name := "dagBuckets", fn := fun _ => fun
  | [d1, d2] => { results := [.lit (.bool false)], args := [d1, d2] }
  | _ => none }
def DagBucketsWrongFalsely : Prop := dagBucketsRow.holds Try.pinned (OpenSpec.ofChange dagBucketsWrong)

/-- 'collatorlaw06.DagSame': WHATEVER THE INPUT: true; the input reads as it did. -/
def dagSameSpec : ChangeSpec := { name := "dagSame", fn := fun _ => fun
  | [d] => { results := [.lit (.bool true)], args := [d] }
  | _ => none }
def dagSameRow : OpenClaim := { program := "ytapmngmpomhjmaa", sum := "69ce086172359774a872d363144723bde26353e44493ba2ce0a45e4301159d76", func := "collator/collatorlaw06.DagSame", spec := "dagSame", unfollowed := true, recurses := true, apart := false }
def DagSameSaid : Prop := dagSameRow.holds Try.pinned (OpenSpec.ofChange dagSameSpec)

/-- ITS FALSE NEIGHBOUR: 'it returns false'. Refute it at one input. -/
def dagSameWrong : ChangeSpec := { name := "dagSame", fn := fun _ => fun
  | [d] => { results := [.lit (.bool false)], args := [d] }
  | _ => none }
def DagSameWrongFalsely : Prop := dagSameRow.holds Try.pinned (OpenSpec.ofChange dagSameWrong)

/-- 'collatorlaw06.DagSorts': WHATEVER THE INPUT: true; the input reads as it did. -/
def dagSortsSpec : ChangeSpec := { name := "dagSorts", fn := fun _ => fun
  | [d] => { results := [.lit (.bool true)], args := [d] }
  | _ => none }
def dagSortsRow : OpenClaim := { program := "ytapmngmpomhjmaa", sum := "69ce086172359774a872d363144723bde26353e44493ba2ce0a45e4301159d76", func := "collator/collatorlaw06.DagSorts", spec := "dagSorts", unfollowed := true, recurses := true, apart := false }
def DagSortsSaid : Prop := dagSortsRow.holds Try.pinned (OpenSpec.ofChange dagSortsSpec)

/-- ITS FALSE NEIGHBOUR: 'it returns false'. Refute it at one input. -/
def dagSortsWrong : ChangeSpec := { name := "dagSorts", fn := fun _ => fun
  | [d] => { results := [.lit (.bool false)], args := [d] }
  | _ => none }
def DagSortsWrongFalsely : Prop := dagSortsRow.holds Try.pinned (OpenSpec.ofChange dagSortsWrong)

/- THE SECOND FORM. 'bulk': how many values and letters a reading holds, each counted each time it is reached (what is shared counts as often as it is met; a slice's spare places count too). A statement '..UptoSaid' is the law's where the arguments, and the package variables that the reading takes, are together of bulk at most 1048576: NARROWER than '..Said'. Prove '..Said' where nothing that the law and all that it calls make is longer than what came in: it says more and counts as full. Else prove '..UptoSaid'. A law counts once. -/
mutual
def uptoBulk {H : Type} : DataW H → Nat
  | .lit (.string bytes) => bytes.length + 1
  | .lit _ => 1
  | .nil => 1
  | .ptr d => uptoBulk d + 1
  | .slice elems spare => uptoBulkAll elems + uptoBulkAll spare + 1
  | .agg parts => uptoBulkAll parts + 1
  | .iface _ d => uptoBulk d + 1
  | .map entries => uptoBulkEntries entries + 1
  | .held _ => 1
def uptoBulkAll {H : Type} : List (DataW H) → Nat
  | [] => 0
  | d :: r => uptoBulk d + uptoBulkAll r
def uptoBulkEntries {H : Type} : List (Lit × DataW H) → Nat
  | [] => 0
  | x :: r => uptoBulkEntry x + uptoBulkEntries r
def uptoBulkEntry {H : Type} : Lit × DataW H → Nat
  | (.string bytes, d) => bytes.length + uptoBulk d + 1
  | (_, d) => uptoBulk d + 1
 end
def uptoSmall : (H : Type) → List (DataW H) → Bool := fun _ ds => decide (uptoBulkAll ds ≤ 1048576)
def OpenSpec.upto (s : _root_.Go.ChangeSpec) : _root_.Go.OpenSpec := { _root_.Go.OpenSpec.ofChange s with cond := some uptoSmall }

/-- 'collatorlaw06.DagOnce', WHERE WHAT IT READS IS OF BULK AT MOST 1048576: true; the input reads as it did. -/
def dagOnceUptoRow : OpenClaim := { program := "ytapmngmpomhjmaa", sum := "69ce086172359774a872d363144723bde26353e44493ba2ce0a45e4301159d76", func := "collator/collatorlaw06.DagOnce", spec := "dagOnce", unfollowed := true, recurses := true, apart := false, narrowed := true }
def DagOnceUptoSaid : Prop := dagOnceUptoRow.holds Try.pinned (OpenSpec.upto dagOnceSpec)

/-- 'collatorlaw06.DagBuckets', WHERE WHAT IT READS IS OF BULK AT MOST 1048576: true; the input reads as it did. -/
def dagBucketsUptoRow : OpenClaim := { program := "ytapmngmpomhjmaa", sum := "69ce086172359774a872d363144723bde26353e44493ba2ce0a45e4301159d76", func := "collator/collatorlaw06.DagBuckets", spec := "dagBuckets", unfollowed := true, recurses := true, apart := false, narrowed := true }
def DagBucketsUptoSaid : Prop := dagBucketsUptoRow.holds Try.pinned (OpenSpec.upto dagBucketsSpec)

/-- 'collatorlaw06.DagSame', WHERE WHAT IT READS IS OF BULK AT MOST 1048576: true; the input reads as it did. -/
def dagSameUptoRow : OpenClaim := { program := "ytapmngmpomhjmaa", sum := "69ce086172359774a872d363144723bde26353e44493ba2ce0a45e4301159d76", func := "collator/collatorlaw06.DagSame", spec := "dagSame", unfollowed := true, recurses := true, apart := false, narrowed := true }
def DagSameUptoSaid : Prop := dagSameUptoRow.holds Try.pinned (OpenSpec.upto dagSameSpec)

/-- 'collatorlaw06.DagSorts', WHERE WHAT IT READS IS OF BULK AT MOST 1048576: true; the input reads as it did. -/
def dagSortsUptoRow : OpenClaim := { program := "ytapmngmpomhjmaa", sum := "69ce086172359774a872d363144723bde26353e44493ba2ce0a45e4301159d76", func := "collator/collatorlaw06.DagSorts", spec := "dagSorts", unfollowed := true, recurses := true, apart := false, narrowed := true }
def DagSortsUptoSaid : Prop := dagSortsUptoRow.holds Try.pinned (OpenSpec.upto dagSortsSpec)

end Rows
end Go.Proofs.Ytapmngmpomhjmaa
