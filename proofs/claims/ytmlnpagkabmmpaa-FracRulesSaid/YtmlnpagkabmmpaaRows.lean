/-
  No cell of these rows narrows 'for every input' (looked for: loops, veiled, ifaces, maps, wideKeys, modest, calm, conditions, laid).
  DERIVED. THE GIVEN ROWS OF THIS SEAT. 12 by the template 'for every input the law returns true; each argument reads behind the call as it read before'; 0 by the template 'total and deterministic' (their statements: YtmlnpagkabmmpaaTotals.lean).
  GIVEN WITH THE SEED: the statements are not yours to turn. If you find one false, say at which input.
  Laid BY PROGRAM, IN A SANDBOX (cutbox-rows.mjs): the forced cells as the released guide's own fill.sh prints them over the translation 3da6abb2ec49bf30… (all of the seat's roots in one cut). By AI agents, Wed Nov 11 2026. No macro, syntax, notation, axiom, sorry.
-/
import Derived.Test.YtmlnpagkabmmpaaChecked
import GoSem.Claim
import GoSem.ClaimJoined
import GoSem.ClaimMapViews
import Derived.JoinedTies
import Derived.KernelRfl
namespace Go.Proofs.Ytmlnpagkabmmpaa
/- THE CELL 'sum', in the pinned program and in every row, IS THE sha256 OF THE DUMP (.gsa) THAT YtmlnpagkabmmpaaProg.lean LOADS. Nothing in Lean hashes anything: it is a label: what it is worth is what the hold of that sum in a sandbox is worth. -/
noncomputable def Try.pinned : Pinned := { name := "ytmlnpagkabmmpaa", sum := "3da6abb2ec49bf30b706acf77ae2ca15614731e97f4d7da10561128b03d850da", checked := Try.checked }
namespace Rows
def none {H : Type} : Left H := { results := [], args := [] }

/-- 'collatorlaw02.FracRules': WHATEVER THE INPUT: true; the input reads as it did. -/
def fracRulesSpec : ChangeSpec := { name := "fracRules", fn := fun _ => fun
  | [d1, d2, d3] => { results := [.lit (.bool true)], args := [d1, d2, d3] }
  | _ => none }
def fracRulesRow : OpenClaim := { program := "ytmlnpagkabmmpaa", sum := "3da6abb2ec49bf30b706acf77ae2ca15614731e97f4d7da10561128b03d850da", func := "collator/collatorlaw02.FracRules", spec := "fracRules", unfollowed := true, recurses := true, plainKeys := false, apart := false }
def FracRulesSaid : Prop := fracRulesRow.holds Try.pinned (OpenSpec.ofChange fracRulesSpec)

/-- ITS FALSE NEIGHBOUR: 'it returns false'. Refute it at one input. -/
def fracRulesWrong : ChangeSpec := { name := "fracRules", fn := fun _ => fun
  | [d1, d2, d3] => { results := [.lit (.bool false)], args := [d1, d2, d3] }
  | _ => none }
def FracRulesWrongFalsely : Prop := fracRulesRow.holds Try.pinned (OpenSpec.ofChange fracRulesWrong)

/-- 'collatorlaw06.DagOnce': WHATEVER THE INPUT: true; the input reads as it did. -/
def dagOnceSpec : ChangeSpec := { name := "dagOnce", fn := fun _ => fun
  | [d1, d2] => { results := [.lit (.bool true)], args := [d1, d2] }
  | _ => none }
def dagOnceRow : OpenClaim := { program := "ytmlnpagkabmmpaa", sum := "3da6abb2ec49bf30b706acf77ae2ca15614731e97f4d7da10561128b03d850da", func := "collator/collatorlaw06.DagOnce", spec := "dagOnce", unfollowed := true, recurses := true, plainKeys := false, apart := false }
def DagOnceSaid : Prop := dagOnceRow.holds Try.pinned (OpenSpec.ofChange dagOnceSpec)

/-- ITS FALSE NEIGHBOUR: 'it returns false'. Refute it at one input. -/
def dagOnceWrong : ChangeSpec := { name := "dagOnce", fn := fun _ => fun
  | [d1, d2] => { results := [.lit (.bool false)], args := [d1, d2] }
  | _ => none }
def DagOnceWrongFalsely : Prop := dagOnceRow.holds Try.pinned (OpenSpec.ofChange dagOnceWrong)

/-- 'collatorlaw06.DagBuckets': WHATEVER THE INPUT: true; the input reads as it did. -/
def dagBucketsSpec : ChangeSpec := { name := "dagBuckets", fn := fun _ => fun
  | [d1, d2] => { results := [.lit (.bool true)], args := [d1, d2] }
  | _ => none }
def dagBucketsRow : OpenClaim := { program := "ytmlnpagkabmmpaa", sum := "3da6abb2ec49bf30b706acf77ae2ca15614731e97f4d7da10561128b03d850da", func := "collator/collatorlaw06.DagBuckets", spec := "dagBuckets", unfollowed := true, recurses := true, plainKeys := false, apart := false }
def DagBucketsSaid : Prop := dagBucketsRow.holds Try.pinned (OpenSpec.ofChange dagBucketsSpec)

/-- ITS FALSE NEIGHBOUR: 'it returns false'. Refute it at one input. -/
def dagBucketsWrong : ChangeSpec := { name := "dagBuckets", fn := fun _ => fun
  | [d1, d2] => { results := [.lit (.bool false)], args := [d1, d2] }
  | _ => none }
def DagBucketsWrongFalsely : Prop := dagBucketsRow.holds Try.pinned (OpenSpec.ofChange dagBucketsWrong)

/-- 'collatorlaw06.DagSame': WHATEVER THE INPUT: true; the input reads as it did. -/
def dagSameSpec : ChangeSpec := { name := "dagSame", fn := fun _ => fun
  | [d] => { results := [.lit (.bool true)], args := [d] }
  | _ => none }
def dagSameRow : OpenClaim := { program := "ytmlnpagkabmmpaa", sum := "3da6abb2ec49bf30b706acf77ae2ca15614731e97f4d7da10561128b03d850da", func := "collator/collatorlaw06.DagSame", spec := "dagSame", unfollowed := true, recurses := true, plainKeys := false, apart := false }
def DagSameSaid : Prop := dagSameRow.holds Try.pinned (OpenSpec.ofChange dagSameSpec)

/-- ITS FALSE NEIGHBOUR: 'it returns false'. Refute it at one input. -/
def dagSameWrong : ChangeSpec := { name := "dagSame", fn := fun _ => fun
  | [d] => { results := [.lit (.bool false)], args := [d] }
  | _ => none }
def DagSameWrongFalsely : Prop := dagSameRow.holds Try.pinned (OpenSpec.ofChange dagSameWrong)

/-- 'collatorlaw06.DagSorts': WHATEVER THE INPUT: true; the input reads as it did. -/
def dagSortsSpec : ChangeSpec := { name := "dagSorts", fn := fun _ => fun
  | [d] => { results := [.lit (.bool true)], args := [d] }
  | _ => none }
def dagSortsRow : OpenClaim := { program := "ytmlnpagkabmmpaa", sum := "3da6abb2ec49bf30b706acf77ae2ca15614731e97f4d7da10561128b03d850da", func := "collator/collatorlaw06.DagSorts", spec := "dagSorts", unfollowed := true, recurses := true, plainKeys := false, apart := false }
def DagSortsSaid : Prop := dagSortsRow.holds Try.pinned (OpenSpec.ofChange dagSortsSpec)

/-- ITS FALSE NEIGHBOUR: 'it returns false'. Refute it at one input. -/
def dagSortsWrong : ChangeSpec := { name := "dagSorts", fn := fun _ => fun
  | [d] => { results := [.lit (.bool false)], args := [d] }
  | _ => none }
def DagSortsWrongFalsely : Prop := dagSortsRow.holds Try.pinned (OpenSpec.ofChange dagSortsWrong)

/-- 'collatorlaw07.WalkBeneath': WHATEVER THE INPUT: true; the input reads as it did. -/
def walkBeneathSpec : ChangeSpec := { name := "walkBeneath", fn := fun _ => fun
  | [d] => { results := [.lit (.bool true)], args := [d] }
  | _ => none }
def walkBeneathRow : OpenClaim := { program := "ytmlnpagkabmmpaa", sum := "3da6abb2ec49bf30b706acf77ae2ca15614731e97f4d7da10561128b03d850da", func := "collator/collatorlaw07.WalkBeneath", spec := "walkBeneath", unfollowed := true, recurses := true, plainKeys := false, apart := false }
def WalkBeneathSaid : Prop := walkBeneathRow.holds Try.pinned (OpenSpec.ofChange walkBeneathSpec)

/-- ITS FALSE NEIGHBOUR: 'it returns false'. Refute it at one input. -/
def walkBeneathWrong : ChangeSpec := { name := "walkBeneath", fn := fun _ => fun
  | [d] => { results := [.lit (.bool false)], args := [d] }
  | _ => none }
def WalkBeneathWrongFalsely : Prop := walkBeneathRow.holds Try.pinned (OpenSpec.ofChange walkBeneathWrong)

/-- 'collatorlaw07.WalkOrders': WHATEVER THE INPUT: true; the input reads as it did. -/
def walkOrdersSpec : ChangeSpec := { name := "walkOrders", fn := fun _ => fun
  | [d1, d2] => { results := [.lit (.bool true)], args := [d1, d2] }
  | _ => none }
def walkOrdersRow : OpenClaim := { program := "ytmlnpagkabmmpaa", sum := "3da6abb2ec49bf30b706acf77ae2ca15614731e97f4d7da10561128b03d850da", func := "collator/collatorlaw07.WalkOrders", spec := "walkOrders", unfollowed := true, recurses := true, plainKeys := false, apart := false }
def WalkOrdersSaid : Prop := walkOrdersRow.holds Try.pinned (OpenSpec.ofChange walkOrdersSpec)

/-- ITS FALSE NEIGHBOUR: 'it returns false'. Refute it at one input. -/
def walkOrdersWrong : ChangeSpec := { name := "walkOrders", fn := fun _ => fun
  | [d1, d2] => { results := [.lit (.bool false)], args := [d1, d2] }
  | _ => none }
def WalkOrdersWrongFalsely : Prop := walkOrdersRow.holds Try.pinned (OpenSpec.ofChange walkOrdersWrong)

/-- 'collatorlaw07.WalkShares': WHATEVER THE INPUT: true; the input reads as it did. -/
def walkSharesSpec : ChangeSpec := { name := "walkShares", fn := fun _ => fun
  | [d1, d2] => { results := [.lit (.bool true)], args := [d1, d2] }
  | _ => none }
def walkSharesRow : OpenClaim := { program := "ytmlnpagkabmmpaa", sum := "3da6abb2ec49bf30b706acf77ae2ca15614731e97f4d7da10561128b03d850da", func := "collator/collatorlaw07.WalkShares", spec := "walkShares", unfollowed := true, recurses := true, plainKeys := false, apart := false }
def WalkSharesSaid : Prop := walkSharesRow.holds Try.pinned (OpenSpec.ofChange walkSharesSpec)

/-- ITS FALSE NEIGHBOUR: 'it returns false'. Refute it at one input. -/
def walkSharesWrong : ChangeSpec := { name := "walkShares", fn := fun _ => fun
  | [d1, d2] => { results := [.lit (.bool false)], args := [d1, d2] }
  | _ => none }
def WalkSharesWrongFalsely : Prop := walkSharesRow.holds Try.pinned (OpenSpec.ofChange walkSharesWrong)

/-- 'collatorlaw07.WalkSizes': WHATEVER THE INPUT: true; the input reads as it did. -/
def walkSizesSpec : ChangeSpec := { name := "walkSizes", fn := fun _ => fun
  | [d1, d2] => { results := [.lit (.bool true)], args := [d1, d2] }
  | _ => none }
def walkSizesRow : OpenClaim := { program := "ytmlnpagkabmmpaa", sum := "3da6abb2ec49bf30b706acf77ae2ca15614731e97f4d7da10561128b03d850da", func := "collator/collatorlaw07.WalkSizes", spec := "walkSizes", unfollowed := true, recurses := true, plainKeys := false, apart := false }
def WalkSizesSaid : Prop := walkSizesRow.holds Try.pinned (OpenSpec.ofChange walkSizesSpec)

/-- ITS FALSE NEIGHBOUR: 'it returns false'. Refute it at one input. -/
def walkSizesWrong : ChangeSpec := { name := "walkSizes", fn := fun _ => fun
  | [d1, d2] => { results := [.lit (.bool false)], args := [d1, d2] }
  | _ => none }
def WalkSizesWrongFalsely : Prop := walkSizesRow.holds Try.pinned (OpenSpec.ofChange walkSizesWrong)

/-- 'collatorlaw07.WalkTwice': WHATEVER THE INPUT: true; the input reads as it did. -/
def walkTwiceSpec : ChangeSpec := { name := "walkTwice", fn := fun _ => fun
  | [d1, d2] => { results := [.lit (.bool true)], args := [d1, d2] }
  | _ => none }
def walkTwiceRow : OpenClaim := { program := "ytmlnpagkabmmpaa", sum := "3da6abb2ec49bf30b706acf77ae2ca15614731e97f4d7da10561128b03d850da", func := "collator/collatorlaw07.WalkTwice", spec := "walkTwice", unfollowed := true, recurses := true, plainKeys := false, apart := false }
def WalkTwiceSaid : Prop := walkTwiceRow.holds Try.pinned (OpenSpec.ofChange walkTwiceSpec)

/-- ITS FALSE NEIGHBOUR: 'it returns false'. Refute it at one input. -/
def walkTwiceWrong : ChangeSpec := { name := "walkTwice", fn := fun _ => fun
  | [d1, d2] => { results := [.lit (.bool false)], args := [d1, d2] }
  | _ => none }
def WalkTwiceWrongFalsely : Prop := walkTwiceRow.holds Try.pinned (OpenSpec.ofChange walkTwiceWrong)

/-- 'collatorlaw03.ScoreBest': WHATEVER THE INPUT: true; the input reads as it did. -/
def scoreBestSpec : ChangeSpec := { name := "scoreBest", fn := fun _ => fun
  | [d1, d2, d3] => { results := [.lit (.bool true)], args := [d1, d2, d3] }
  | _ => none }
def scoreBestRow : OpenClaim := { program := "ytmlnpagkabmmpaa", sum := "3da6abb2ec49bf30b706acf77ae2ca15614731e97f4d7da10561128b03d850da", func := "collator/collatorlaw03.ScoreBest", spec := "scoreBest", inPlace := ["math.Float64frombits", "math.Float64bits"], unfollowed := true, recurses := true, plainKeys := false, apart := false }
def ScoreBestSaid : Prop := scoreBestRow.holds Try.pinned (OpenSpec.ofChange scoreBestSpec)

/-- ITS FALSE NEIGHBOUR: 'it returns false'. Refute it at one input. -/
def scoreBestWrong : ChangeSpec := { name := "scoreBest", fn := fun _ => fun
  | [d1, d2, d3] => { results := [.lit (.bool false)], args := [d1, d2, d3] }
  | _ => none }
def ScoreBestWrongFalsely : Prop := scoreBestRow.holds Try.pinned (OpenSpec.ofChange scoreBestWrong)

/-- 'collatorlaw16.EufMore': WHATEVER THE INPUT: true; the input reads as it did. -/
def eufMoreSpec : ChangeSpec := { name := "eufMore", fn := fun _ => fun
  | [d1, d2, d3, d4] => { results := [.lit (.bool true)], args := [d1, d2, d3, d4] }
  | _ => none }
def eufMoreRow : OpenClaim := { program := "ytmlnpagkabmmpaa", sum := "3da6abb2ec49bf30b706acf77ae2ca15614731e97f4d7da10561128b03d850da", func := "collator/collatorlaw16.EufMore", spec := "eufMore", unfollowed := true, recurses := true, plainKeys := false, apart := false }
def EufMoreSaid : Prop := eufMoreRow.holds Try.pinned (OpenSpec.ofChange eufMoreSpec)

/-- ITS FALSE NEIGHBOUR: 'it returns false'. Refute it at one input. -/
def eufMoreWrong : ChangeSpec := { name := "eufMore", fn := fun _ => fun
  | [d1, d2, d3, d4] => { results := [.lit (.bool false)], args := [d1, d2, d3, d4] }
  | _ => none }
def EufMoreWrongFalsely : Prop := eufMoreRow.holds Try.pinned (OpenSpec.ofChange eufMoreWrong)

/- THE SECOND FORM. 'bulk': how many values and letters a reading holds, each counted each time it is reached (what is shared counts as often as it is met; a slice's spare places count too). A statement '..UptoSaid' is the law's where the arguments, and the package variables that the reading takes, are together of bulk at most 1048576: NARROWER than '..Said'. Prove '..Said' where nothing that the law and all that it calls make is longer than what came in: it says more and counts as full. Else prove '..UptoSaid'. A law counts once. -/
mutual
def uptoBulk {H : Type} : DataW H → Nat
  | .lit (.string bytes) => bytes.length + 1
  | .lit _ => 1
  | .nil => 1
  | .ptr d => uptoBulk d + 1
  | .slice elems spare => uptoBulkAll elems + uptoBulkAll spare + 1
  | .agg parts => uptoBulkAll parts + 1
  | .iface _ d => uptoBulk d + 1
  | .map entries => uptoBulkEntries entries + 1
  | .held _ => 1
def uptoBulkAll {H : Type} : List (DataW H) → Nat
  | [] => 0
  | d :: r => uptoBulk d + uptoBulkAll r
def uptoBulkEntries {H : Type} : List (Lit × DataW H) → Nat
  | [] => 0
  | x :: r => uptoBulkEntry x + uptoBulkEntries r
def uptoBulkEntry {H : Type} : Lit × DataW H → Nat
  | (.string bytes, d) => bytes.length + uptoBulk d + 1
  | (_, d) => uptoBulk d + 1
 end
def uptoSmall : (H : Type) → List (DataW H) → Bool := fun _ ds => decide (uptoBulkAll ds ≤ 1048576)
def OpenSpec.upto (s : _root_.Go.ChangeSpec) : _root_.Go.OpenSpec := { _root_.Go.OpenSpec.ofChange s with cond := some uptoSmall }

/-- 'collatorlaw02.FracRules', WHERE WHAT IT READS IS OF BULK AT MOST 1048576: true; the input reads as it did. -/
def fracRulesUptoRow : OpenClaim := { program := "ytmlnpagkabmmpaa", sum := "3da6abb2ec49bf30b706acf77ae2ca15614731e97f4d7da10561128b03d850da", func := "collator/collatorlaw02.FracRules", spec := "fracRules", unfollowed := true, recurses := true, plainKeys := false, apart := false, narrowed := true }
def FracRulesUptoSaid : Prop := fracRulesUptoRow.holds Try.pinned (OpenSpec.upto fracRulesSpec)

/-- 'collatorlaw06.DagOnce', WHERE WHAT IT READS IS OF BULK AT MOST 1048576: true; the input reads as it did. -/
def dagOnceUptoRow : OpenClaim := { program := "ytmlnpagkabmmpaa", sum := "3da6abb2ec49bf30b706acf77ae2ca15614731e97f4d7da10561128b03d850da", func := "collator/collatorlaw06.DagOnce", spec := "dagOnce", unfollowed := true, recurses := true, plainKeys := false, apart := false, narrowed := true }
def DagOnceUptoSaid : Prop := dagOnceUptoRow.holds Try.pinned (OpenSpec.upto dagOnceSpec)

/-- 'collatorlaw06.DagBuckets', WHERE WHAT IT READS IS OF BULK AT MOST 1048576: true; the input reads as it did. -/
def dagBucketsUptoRow : OpenClaim := { program := "ytmlnpagkabmmpaa", sum := "3da6abb2ec49bf30b706acf77ae2ca15614731e97f4d7da10561128b03d850da", func := "collator/collatorlaw06.DagBuckets", spec := "dagBuckets", unfollowed := true, recurses := true, plainKeys := false, apart := false, narrowed := true }
def DagBucketsUptoSaid : Prop := dagBucketsUptoRow.holds Try.pinned (OpenSpec.upto dagBucketsSpec)

/-- 'collatorlaw06.DagSame', WHERE WHAT IT READS IS OF BULK AT MOST 1048576: true; the input reads as it did. -/
def dagSameUptoRow : OpenClaim := { program := "ytmlnpagkabmmpaa", sum := "3da6abb2ec49bf30b706acf77ae2ca15614731e97f4d7da10561128b03d850da", func := "collator/collatorlaw06.DagSame", spec := "dagSame", unfollowed := true, recurses := true, plainKeys := false, apart := false, narrowed := true }
def DagSameUptoSaid : Prop := dagSameUptoRow.holds Try.pinned (OpenSpec.upto dagSameSpec)

/-- 'collatorlaw06.DagSorts', WHERE WHAT IT READS IS OF BULK AT MOST 1048576: true; the input reads as it did. -/
def dagSortsUptoRow : OpenClaim := { program := "ytmlnpagkabmmpaa", sum := "3da6abb2ec49bf30b706acf77ae2ca15614731e97f4d7da10561128b03d850da", func := "collator/collatorlaw06.DagSorts", spec := "dagSorts", unfollowed := true, recurses := true, plainKeys := false, apart := false, narrowed := true }
def DagSortsUptoSaid : Prop := dagSortsUptoRow.holds Try.pinned (OpenSpec.upto dagSortsSpec)

/-- 'collatorlaw07.WalkBeneath', WHERE WHAT IT READS IS OF BULK AT MOST 1048576: true; the input reads as it did. -/
def walkBeneathUptoRow : OpenClaim := { program := "ytmlnpagkabmmpaa", sum := "3da6abb2ec49bf30b706acf77ae2ca15614731e97f4d7da10561128b03d850da", func := "collator/collatorlaw07.WalkBeneath", spec := "walkBeneath", unfollowed := true, recurses := true, plainKeys := false, apart := false, narrowed := true }
def WalkBeneathUptoSaid : Prop := walkBeneathUptoRow.holds Try.pinned (OpenSpec.upto walkBeneathSpec)

/-- 'collatorlaw07.WalkOrders', WHERE WHAT IT READS IS OF BULK AT MOST 1048576: true; the input reads as it did. -/
def walkOrdersUptoRow : OpenClaim := { program := "ytmlnpagkabmmpaa", sum := "3da6abb2ec49bf30b706acf77ae2ca15614731e97f4d7da10561128b03d850da", func := "collator/collatorlaw07.WalkOrders", spec := "walkOrders", unfollowed := true, recurses := true, plainKeys := false, apart := false, narrowed := true }
def WalkOrdersUptoSaid : Prop := walkOrdersUptoRow.holds Try.pinned (OpenSpec.upto walkOrdersSpec)

/-- 'collatorlaw07.WalkShares', WHERE WHAT IT READS IS OF BULK AT MOST 1048576: true; the input reads as it did. -/
def walkSharesUptoRow : OpenClaim := { program := "ytmlnpagkabmmpaa", sum := "3da6abb2ec49bf30b706acf77ae2ca15614731e97f4d7da10561128b03d850da", func := "collator/collatorlaw07.WalkShares", spec := "walkShares", unfollowed := true, recurses := true, plainKeys := false, apart := false, narrowed := true }
def WalkSharesUptoSaid : Prop := walkSharesUptoRow.holds Try.pinned (OpenSpec.upto walkSharesSpec)

/-- 'collatorlaw07.WalkSizes', WHERE WHAT IT READS IS OF BULK AT MOST 1048576: true; the input reads as it did. -/
def walkSizesUptoRow : OpenClaim := { program := "ytmlnpagkabmmpaa", sum := "3da6abb2ec49bf30b706acf77ae2ca15614731e97f4d7da10561128b03d850da", func := "collator/collatorlaw07.WalkSizes", spec := "walkSizes", unfollowed := true, recurses := true, plainKeys := false, apart := false, narrowed := true }
def WalkSizesUptoSaid : Prop := walkSizesUptoRow.holds Try.pinned (OpenSpec.upto walkSizesSpec)

/-- 'collatorlaw07.WalkTwice', WHERE WHAT IT READS IS OF BULK AT MOST 1048576: true; the input reads as it did. -/
def walkTwiceUptoRow : OpenClaim := { program := "ytmlnpagkabmmpaa", sum := "3da6abb2ec49bf30b706acf77ae2ca15614731e97f4d7da10561128b03d850da", func := "collator/collatorlaw07.WalkTwice", spec := "walkTwice", unfollowed := true, recurses := true, plainKeys := false, apart := false, narrowed := true }
def WalkTwiceUptoSaid : Prop := walkTwiceUptoRow.holds Try.pinned (OpenSpec.upto walkTwiceSpec)

/-- 'collatorlaw03.ScoreBest', WHERE WHAT IT READS IS OF BULK AT MOST 1048576: true; the input reads as it did. -/
def scoreBestUptoRow : OpenClaim := { program := "ytmlnpagkabmmpaa", sum := "3da6abb2ec49bf30b706acf77ae2ca15614731e97f4d7da10561128b03d850da", func := "collator/collatorlaw03.ScoreBest", spec := "scoreBest", inPlace := ["math.Float64frombits", "math.Float64bits"], unfollowed := true, recurses := true, plainKeys := false, apart := false, narrowed := true }
def ScoreBestUptoSaid : Prop := scoreBestUptoRow.holds Try.pinned (OpenSpec.upto scoreBestSpec)

/-- 'collatorlaw16.EufMore', WHERE WHAT IT READS IS OF BULK AT MOST 1048576: true; the input reads as it did. -/
def eufMoreUptoRow : OpenClaim := { program := "ytmlnpagkabmmpaa", sum := "3da6abb2ec49bf30b706acf77ae2ca15614731e97f4d7da10561128b03d850da", func := "collator/collatorlaw16.EufMore", spec := "eufMore", unfollowed := true, recurses := true, plainKeys := false, apart := false, narrowed := true }
def EufMoreUptoSaid : Prop := eufMoreUptoRow.holds Try.pinned (OpenSpec.upto eufMoreSpec)

end Rows
end Go.Proofs.Ytmlnpagkabmmpaa
