/-
  No cell of these rows narrows 'for every input' (looked for: loops, veiled, ifaces, maps, wideKeys, modest, calm, conditions, laid).
  DERIVED. THE GIVEN ROWS OF THIS SEAT. 12 by the template 'for every input the law returns true; each argument reads behind the call as it read before'; 0 by the template 'total and deterministic' (their statements: YtogodjiemgilaaaTotals.lean).
  GIVEN WITH THE SEED: the statements are not yours to turn. If you find one false, say at which input.
  Laid BY PROGRAM, IN A SANDBOX (cutbox-rows.mjs): the forced cells as the released guide's own fill.sh prints them over the translation 639b0cbfa669f358… (all of the seat's roots in one cut). By AI agents, Wed Nov 11 2026. No macro, syntax, notation, axiom, sorry.
-/
import Derived.Test.YtogodjiemgilaaaChecked
import GoSem.Claim
import GoSem.ClaimJoined
import GoSem.ClaimMapViews
import Derived.JoinedTies
import Derived.KernelRfl
namespace Go.Proofs.Ytogodjiemgilaaa
/- THE CELL 'sum', in the pinned program and in every row, IS THE sha256 OF THE DUMP (.gsa) THAT YtogodjiemgilaaaProg.lean LOADS. Nothing in Lean hashes anything: it is a label: what it is worth is what the hold of that sum in a sandbox is worth. -/
noncomputable def Try.pinned : Pinned := { name := "ytogodjiemgilaaa", sum := "639b0cbfa669f358e5abe2f052c6c3b92029b0d43bff3fcc94bbce28b989a08c", checked := Try.checked }
namespace Rows
def none {H : Type} : Left H := { results := [], args := [] }

/-- 'collatorlaw03.ScoreOrder': WHATEVER THE INPUT: true; the input reads as it did. -/
def scoreOrderSpec : ChangeSpec := { name := "scoreOrder", fn := fun _ => fun
  | [d1, d2, d3] => { results := [.lit (.bool true)], args := [d1, d2, d3] }
  | _ => none }
def scoreOrderRow : OpenClaim := { program := "ytogodjiemgilaaa", sum := "639b0cbfa669f358e5abe2f052c6c3b92029b0d43bff3fcc94bbce28b989a08c", func := "collator/collatorlaw03.ScoreOrder", spec := "scoreOrder", inPlace := ["math.Float64frombits", "math.Float64bits"], apart := false }
def ScoreOrderSaid : Prop := scoreOrderRow.holds Try.pinned (OpenSpec.ofChange scoreOrderSpec)

/-- ITS FALSE NEIGHBOUR: 'it returns false'. Refute it at one input. -/
def scoreOrderWrong : ChangeSpec := { name := "scoreOrder", fn := fun _ => fun
  | [d1, d2, d3] => { results := [.lit (.bool false)], args := [d1, d2, d3] }
  | _ => none }
def ScoreOrderWrongFalsely : Prop := scoreOrderRow.holds Try.pinned (OpenSpec.ofChange scoreOrderWrong)

/-- 'collatorlaw08.ScopeActs': WHATEVER THE INPUT: true; the input reads as it did. -/
def scopeActsSpec : ChangeSpec := { name := "scopeActs", fn := fun _ => fun
  | [d1, d2] => { results := [.lit (.bool true)], args := [d1, d2] }
  | _ => none }
def scopeActsRow : OpenClaim := { program := "ytogodjiemgilaaa", sum := "639b0cbfa669f358e5abe2f052c6c3b92029b0d43bff3fcc94bbce28b989a08c", func := "collator/collatorlaw08.ScopeActs", spec := "scopeActs", apart := false }
def ScopeActsSaid : Prop := scopeActsRow.holds Try.pinned (OpenSpec.ofChange scopeActsSpec)

/-- ITS FALSE NEIGHBOUR: 'it returns false'. Refute it at one input. -/
def scopeActsWrong : ChangeSpec := { name := "scopeActs", fn := fun _ => fun
  | [d1, d2] => { results := [.lit (.bool false)], args := [d1, d2] }
  | _ => none }
def ScopeActsWrongFalsely : Prop := scopeActsRow.holds Try.pinned (OpenSpec.ofChange scopeActsWrong)

/-- 'collatorlaw08.ScopeBack': WHATEVER THE INPUT: true; the input reads as it did. -/
def scopeBackSpec : ChangeSpec := { name := "scopeBack", fn := fun _ => fun
  | [d1, d2, d3] => { results := [.lit (.bool true)], args := [d1, d2, d3] }
  | _ => none }
def scopeBackRow : OpenClaim := { program := "ytogodjiemgilaaa", sum := "639b0cbfa669f358e5abe2f052c6c3b92029b0d43bff3fcc94bbce28b989a08c", func := "collator/collatorlaw08.ScopeBack", spec := "scopeBack", unfollowed := true, recurses := true, apart := false }
def ScopeBackSaid : Prop := scopeBackRow.holds Try.pinned (OpenSpec.ofChange scopeBackSpec)

/-- ITS FALSE NEIGHBOUR: 'it returns false'. Refute it at one input. -/
def scopeBackWrong : ChangeSpec := { name := "scopeBack", fn := fun _ => fun
  | [d1, d2, d3] => { results := [.lit (.bool false)], args := [d1, d2, d3] }
  | _ => none }
def ScopeBackWrongFalsely : Prop := scopeBackRow.holds Try.pinned (OpenSpec.ofChange scopeBackWrong)

/-- 'collatorlaw04.TokenCut': WHATEVER THE INPUT: true; the input reads as it did. -/
def tokenCutSpec : ChangeSpec := { name := "tokenCut", fn := fun _ => fun
  | [d1, d2] => { results := [.lit (.bool true)], args := [d1, d2] }
  | _ => none }
def tokenCutRow : OpenClaim := { program := "ytogodjiemgilaaa", sum := "639b0cbfa669f358e5abe2f052c6c3b92029b0d43bff3fcc94bbce28b989a08c", func := "collator/collatorlaw04.TokenCut", spec := "tokenCut", inPlace := ["internal/bytealg.IndexByteString"], unfollowed := true, recurses := true, apart := false }
def TokenCutSaid : Prop := tokenCutRow.holds Try.pinned (OpenSpec.ofChange tokenCutSpec)

/-- ITS FALSE NEIGHBOUR: 'it returns false'. Refute it at one input. -/
def tokenCutWrong : ChangeSpec := { name := "tokenCut", fn := fun _ => fun
  | [d1, d2] => { results := [.lit (.bool false)], args := [d1, d2] }
  | _ => none }
def TokenCutWrongFalsely : Prop := tokenCutRow.holds Try.pinned (OpenSpec.ofChange tokenCutWrong)

/-- 'collatorlaw01.WholeTold': WHATEVER THE INPUT: true; the input reads as it did. -/
def wholeToldSpec : ChangeSpec := { name := "wholeTold", fn := fun _ => fun
  | [d1, d2] => { results := [.lit (.bool true)], args := [d1, d2] }
  | _ => none }
def wholeToldRow : OpenClaim := { program := "ytogodjiemgilaaa", sum := "639b0cbfa669f358e5abe2f052c6c3b92029b0d43bff3fcc94bbce28b989a08c", func := "collator/collatorlaw01.WholeTold", spec := "wholeTold", unfollowed := true, recurses := true, apart := false }
def WholeToldSaid : Prop := wholeToldRow.holds Try.pinned (OpenSpec.ofChange wholeToldSpec)

/-- ITS FALSE NEIGHBOUR: 'it returns false'. Refute it at one input. -/
def wholeToldWrong : ChangeSpec := { name := "wholeTold", fn := fun _ => fun
  | [d1, d2] => { results := [.lit (.bool false)], args := [d1, d2] }
  | _ => none }
def WholeToldWrongFalsely : Prop := wholeToldRow.holds Try.pinned (OpenSpec.ofChange wholeToldWrong)

/-- 'collatorlaw01.WholeOrder': WHATEVER THE INPUT: true; the input reads as it did. -/
def wholeOrderSpec : ChangeSpec := { name := "wholeOrder", fn := fun _ => fun
  | [d1, d2, d3, d4] => { results := [.lit (.bool true)], args := [d1, d2, d3, d4] }
  | _ => none }
def wholeOrderRow : OpenClaim := { program := "ytogodjiemgilaaa", sum := "639b0cbfa669f358e5abe2f052c6c3b92029b0d43bff3fcc94bbce28b989a08c", func := "collator/collatorlaw01.WholeOrder", spec := "wholeOrder", unfollowed := true, recurses := true, apart := false }
def WholeOrderSaid : Prop := wholeOrderRow.holds Try.pinned (OpenSpec.ofChange wholeOrderSpec)

/-- ITS FALSE NEIGHBOUR: 'it returns false'. Refute it at one input. -/
def wholeOrderWrong : ChangeSpec := { name := "wholeOrder", fn := fun _ => fun
  | [d1, d2, d3, d4] => { results := [.lit (.bool false)], args := [d1, d2, d3, d4] }
  | _ => none }
def WholeOrderWrongFalsely : Prop := wholeOrderRow.holds Try.pinned (OpenSpec.ofChange wholeOrderWrong)

/-- 'collatorlaw01.WholeRules': WHATEVER THE INPUT: true; the input reads as it did. -/
def wholeRulesSpec : ChangeSpec := { name := "wholeRules", fn := fun _ => fun
  | [d1, d2, d3] => { results := [.lit (.bool true)], args := [d1, d2, d3] }
  | _ => none }
def wholeRulesRow : OpenClaim := { program := "ytogodjiemgilaaa", sum := "639b0cbfa669f358e5abe2f052c6c3b92029b0d43bff3fcc94bbce28b989a08c", func := "collator/collatorlaw01.WholeRules", spec := "wholeRules", unfollowed := true, recurses := true, apart := false }
def WholeRulesSaid : Prop := wholeRulesRow.holds Try.pinned (OpenSpec.ofChange wholeRulesSpec)

/-- ITS FALSE NEIGHBOUR: 'it returns false'. Refute it at one input. -/
def wholeRulesWrong : ChangeSpec := { name := "wholeRules", fn := fun _ => fun
  | [d1, d2, d3] => { results := [.lit (.bool false)], args := [d1, d2, d3] }
  | _ => none }
def WholeRulesWrongFalsely : Prop := wholeRulesRow.holds Try.pinned (OpenSpec.ofChange wholeRulesWrong)

/-- 'collatorlaw01.WholeReads': WHATEVER THE INPUT: true; the input reads as it did. -/
def wholeReadsSpec : ChangeSpec := { name := "wholeReads", fn := fun _ => fun
  | [d1, d2, d3] => { results := [.lit (.bool true)], args := [d1, d2, d3] }
  | _ => none }
def wholeReadsRow : OpenClaim := { program := "ytogodjiemgilaaa", sum := "639b0cbfa669f358e5abe2f052c6c3b92029b0d43bff3fcc94bbce28b989a08c", func := "collator/collatorlaw01.WholeReads", spec := "wholeReads", unfollowed := true, recurses := true, apart := false }
def WholeReadsSaid : Prop := wholeReadsRow.holds Try.pinned (OpenSpec.ofChange wholeReadsSpec)

/-- ITS FALSE NEIGHBOUR: 'it returns false'. Refute it at one input. -/
def wholeReadsWrong : ChangeSpec := { name := "wholeReads", fn := fun _ => fun
  | [d1, d2, d3] => { results := [.lit (.bool false)], args := [d1, d2, d3] }
  | _ => none }
def WholeReadsWrongFalsely : Prop := wholeReadsRow.holds Try.pinned (OpenSpec.ofChange wholeReadsWrong)

/-- 'collatorlaw02.FracOrder': WHATEVER THE INPUT: true; the input reads as it did. -/
def fracOrderSpec : ChangeSpec := { name := "fracOrder", fn := fun _ => fun
  | [d1, d2, d3] => { results := [.lit (.bool true)], args := [d1, d2, d3] }
  | _ => none }
def fracOrderRow : OpenClaim := { program := "ytogodjiemgilaaa", sum := "639b0cbfa669f358e5abe2f052c6c3b92029b0d43bff3fcc94bbce28b989a08c", func := "collator/collatorlaw02.FracOrder", spec := "fracOrder", unfollowed := true, recurses := true, apart := false }
def FracOrderSaid : Prop := fracOrderRow.holds Try.pinned (OpenSpec.ofChange fracOrderSpec)

/-- ITS FALSE NEIGHBOUR: 'it returns false'. Refute it at one input. -/
def fracOrderWrong : ChangeSpec := { name := "fracOrder", fn := fun _ => fun
  | [d1, d2, d3] => { results := [.lit (.bool false)], args := [d1, d2, d3] }
  | _ => none }
def FracOrderWrongFalsely : Prop := fracOrderRow.holds Try.pinned (OpenSpec.ofChange fracOrderWrong)

/-- 'collatorlaw06.DagOnce': WHATEVER THE INPUT: true; the input reads as it did. -/
def dagOnceSpec : ChangeSpec := { name := "dagOnce", fn := fun _ => fun
  | [d1, d2] => { results := [.lit (.bool true)], args := [d1, d2] }
  | _ => none }
def dagOnceRow : OpenClaim := { program := "ytogodjiemgilaaa", sum := "639b0cbfa669f358e5abe2f052c6c3b92029b0d43bff3fcc94bbce28b989a08c", func := "collator/collatorlaw06.DagOnce", spec := "dagOnce", unfollowed := true, recurses := true, apart := false }
def DagOnceSaid : Prop := dagOnceRow.holds Try.pinned (OpenSpec.ofChange dagOnceSpec)

/-- ITS FALSE NEIGHBOUR: 'it returns false'. Refute it at one input. -/
def dagOnceWrong : ChangeSpec := { name := "dagOnce", fn := fun _ => fun
  | [d1, d2] => { results := [.lit (.bool false)], args := [d1, d2] }
  | _ => none }
def DagOnceWrongFalsely : Prop := dagOnceRow.holds Try.pinned (OpenSpec.ofChange dagOnceWrong)

/-- 'collatorlaw02.FracMakes': WHATEVER THE INPUT: true; the input reads as it did. -/
def fracMakesSpec : ChangeSpec := { name := "fracMakes", fn := fun _ => fun
  | [d1, d2, d3] => { results := [.lit (.bool true)], args := [d1, d2, d3] }
  | _ => none }
def fracMakesRow : OpenClaim := { program := "ytogodjiemgilaaa", sum := "639b0cbfa669f358e5abe2f052c6c3b92029b0d43bff3fcc94bbce28b989a08c", func := "collator/collatorlaw02.FracMakes", spec := "fracMakes", unfollowed := true, recurses := true, apart := false }
def FracMakesSaid : Prop := fracMakesRow.holds Try.pinned (OpenSpec.ofChange fracMakesSpec)

/-- ITS FALSE NEIGHBOUR: 'it returns false'. Refute it at one input. -/
def fracMakesWrong : ChangeSpec := { name := "fracMakes", fn := fun _ => fun
  | [d1, d2, d3] => { results := [.lit (.bool false)], args := [d1, d2, d3] }
  | _ => none }
def FracMakesWrongFalsely : Prop := fracMakesRow.holds Try.pinned (OpenSpec.ofChange fracMakesWrong)

/-- 'collatorlaw02.FracTold': WHATEVER THE INPUT: true; the input reads as it did. -/
def fracToldSpec : ChangeSpec := { name := "fracTold", fn := fun _ => fun
  | [d1, d2] => { results := [.lit (.bool true)], args := [d1, d2] }
  | _ => none }
def fracToldRow : OpenClaim := { program := "ytogodjiemgilaaa", sum := "639b0cbfa669f358e5abe2f052c6c3b92029b0d43bff3fcc94bbce28b989a08c", func := "collator/collatorlaw02.FracTold", spec := "fracTold", unfollowed := true, recurses := true, apart := false }
def FracToldSaid : Prop := fracToldRow.holds Try.pinned (OpenSpec.ofChange fracToldSpec)

/-- ITS FALSE NEIGHBOUR: 'it returns false'. Refute it at one input. -/
def fracToldWrong : ChangeSpec := { name := "fracTold", fn := fun _ => fun
  | [d1, d2] => { results := [.lit (.bool false)], args := [d1, d2] }
  | _ => none }
def FracToldWrongFalsely : Prop := fracToldRow.holds Try.pinned (OpenSpec.ofChange fracToldWrong)

/- THE SECOND FORM. 'bulk': how many values and letters a reading holds, each counted each time it is reached (what is shared counts as often as it is met; a slice's spare places count too). A statement '..UptoSaid' is the law's where the arguments, and the package variables that the reading takes, are together of bulk at most 1048576: NARROWER than '..Said'. Prove '..Said' where nothing that the law and all that it calls make is longer than what came in: it says more and counts as full. Else prove '..UptoSaid'. A law counts once. -/
mutual
def uptoBulk {H : Type} : DataW H → Nat
  | .lit (.string bytes) => bytes.length + 1
  | .lit _ => 1
  | .nil => 1
  | .ptr d => uptoBulk d + 1
  | .slice elems spare => uptoBulkAll elems + uptoBulkAll spare + 1
  | .agg parts => uptoBulkAll parts + 1
  | .iface _ d => uptoBulk d + 1
  | .map entries => uptoBulkEntries entries + 1
  | .held _ => 1
def uptoBulkAll {H : Type} : List (DataW H) → Nat
  | [] => 0
  | d :: r => uptoBulk d + uptoBulkAll r
def uptoBulkEntries {H : Type} : List (Lit × DataW H) → Nat
  | [] => 0
  | x :: r => uptoBulkEntry x + uptoBulkEntries r
def uptoBulkEntry {H : Type} : Lit × DataW H → Nat
  | (.string bytes, d) => bytes.length + uptoBulk d + 1
  | (_, d) => uptoBulk d + 1
 end
def uptoSmall : (H : Type) → List (DataW H) → Bool := fun _ ds => decide (uptoBulkAll ds ≤ 1048576)
def OpenSpec.upto (s : _root_.Go.ChangeSpec) : _root_.Go.OpenSpec := { _root_.Go.OpenSpec.ofChange s with cond := some uptoSmall }

/-- 'collatorlaw03.ScoreOrder', WHERE WHAT IT READS IS OF BULK AT MOST 1048576: true; the input reads as it did. -/
def scoreOrderUptoRow : OpenClaim := { program := "ytogodjiemgilaaa", sum := "639b0cbfa669f358e5abe2f052c6c3b92029b0d43bff3fcc94bbce28b989a08c", func := "collator/collatorlaw03.ScoreOrder", spec := "scoreOrder", inPlace := ["math.Float64frombits", "math.Float64bits"], apart := false, narrowed := true }
def ScoreOrderUptoSaid : Prop := scoreOrderUptoRow.holds Try.pinned (OpenSpec.upto scoreOrderSpec)

/-- 'collatorlaw08.ScopeActs', WHERE WHAT IT READS IS OF BULK AT MOST 1048576: true; the input reads as it did. -/
def scopeActsUptoRow : OpenClaim := { program := "ytogodjiemgilaaa", sum := "639b0cbfa669f358e5abe2f052c6c3b92029b0d43bff3fcc94bbce28b989a08c", func := "collator/collatorlaw08.ScopeActs", spec := "scopeActs", apart := false, narrowed := true }
def ScopeActsUptoSaid : Prop := scopeActsUptoRow.holds Try.pinned (OpenSpec.upto scopeActsSpec)

/-- 'collatorlaw08.ScopeBack', WHERE WHAT IT READS IS OF BULK AT MOST 1048576: true; the input reads as it did. -/
def scopeBackUptoRow : OpenClaim := { program := "ytogodjiemgilaaa", sum := "639b0cbfa669f358e5abe2f052c6c3b92029b0d43bff3fcc94bbce28b989a08c", func := "collator/collatorlaw08.ScopeBack", spec := "scopeBack", unfollowed := true, recurses := true, apart := false, narrowed := true }
def ScopeBackUptoSaid : Prop := scopeBackUptoRow.holds Try.pinned (OpenSpec.upto scopeBackSpec)

/-- 'collatorlaw04.TokenCut', WHERE WHAT IT READS IS OF BULK AT MOST 1048576: true; the input reads as it did. -/
def tokenCutUptoRow : OpenClaim := { program := "ytogodjiemgilaaa", sum := "639b0cbfa669f358e5abe2f052c6c3b92029b0d43bff3fcc94bbce28b989a08c", func := "collator/collatorlaw04.TokenCut", spec := "tokenCut", inPlace := ["internal/bytealg.IndexByteString"], unfollowed := true, recurses := true, apart := false, narrowed := true }
def TokenCutUptoSaid : Prop := tokenCutUptoRow.holds Try.pinned (OpenSpec.upto tokenCutSpec)

/-- 'collatorlaw01.WholeTold', WHERE WHAT IT READS IS OF BULK AT MOST 1048576: true; the input reads as it did. -/
def wholeToldUptoRow : OpenClaim := { program := "ytogodjiemgilaaa", sum := "639b0cbfa669f358e5abe2f052c6c3b92029b0d43bff3fcc94bbce28b989a08c", func := "collator/collatorlaw01.WholeTold", spec := "wholeTold", unfollowed := true, recurses := true, apart := false, narrowed := true }
def WholeToldUptoSaid : Prop := wholeToldUptoRow.holds Try.pinned (OpenSpec.upto wholeToldSpec)

/-- 'collatorlaw01.WholeOrder', WHERE WHAT IT READS IS OF BULK AT MOST 1048576: true; the input reads as it did. -/
def wholeOrderUptoRow : OpenClaim := { program := "ytogodjiemgilaaa", sum := "639b0cbfa669f358e5abe2f052c6c3b92029b0d43bff3fcc94bbce28b989a08c", func := "collator/collatorlaw01.WholeOrder", spec := "wholeOrder", unfollowed := true, recurses := true, apart := false, narrowed := true }
def WholeOrderUptoSaid : Prop := wholeOrderUptoRow.holds Try.pinned (OpenSpec.upto wholeOrderSpec)

/-- 'collatorlaw01.WholeRules', WHERE WHAT IT READS IS OF BULK AT MOST 1048576: true; the input reads as it did. -/
def wholeRulesUptoRow : OpenClaim := { program := "ytogodjiemgilaaa", sum := "639b0cbfa669f358e5abe2f052c6c3b92029b0d43bff3fcc94bbce28b989a08c", func := "collator/collatorlaw01.WholeRules", spec := "wholeRules", unfollowed := true, recurses := true, apart := false, narrowed := true }
def WholeRulesUptoSaid : Prop := wholeRulesUptoRow.holds Try.pinned (OpenSpec.upto wholeRulesSpec)

/-- 'collatorlaw01.WholeReads', WHERE WHAT IT READS IS OF BULK AT MOST 1048576: true; the input reads as it did. -/
def wholeReadsUptoRow : OpenClaim := { program := "ytogodjiemgilaaa", sum := "639b0cbfa669f358e5abe2f052c6c3b92029b0d43bff3fcc94bbce28b989a08c", func := "collator/collatorlaw01.WholeReads", spec := "wholeReads", unfollowed := true, recurses := true, apart := false, narrowed := true }
def WholeReadsUptoSaid : Prop := wholeReadsUptoRow.holds Try.pinned (OpenSpec.upto wholeReadsSpec)

/-- 'collatorlaw02.FracOrder', WHERE WHAT IT READS IS OF BULK AT MOST 1048576: true; the input reads as it did. -/
def fracOrderUptoRow : OpenClaim := { program := "ytogodjiemgilaaa", sum := "639b0cbfa669f358e5abe2f052c6c3b92029b0d43bff3fcc94bbce28b989a08c", func := "collator/collatorlaw02.FracOrder", spec := "fracOrder", unfollowed := true, recurses := true, apart := false, narrowed := true }
def FracOrderUptoSaid : Prop := fracOrderUptoRow.holds Try.pinned (OpenSpec.upto fracOrderSpec)

/-- 'collatorlaw06.DagOnce', WHERE WHAT IT READS IS OF BULK AT MOST 1048576: true; the input reads as it did. -/
def dagOnceUptoRow : OpenClaim := { program := "ytogodjiemgilaaa", sum := "639b0cbfa669f358e5abe2f052c6c3b92029b0d43bff3fcc94bbce28b989a08c", func := "collator/collatorlaw06.DagOnce", spec := "dagOnce", unfollowed := true, recurses := true, apart := false, narrowed := true }
def DagOnceUptoSaid : Prop := dagOnceUptoRow.holds Try.pinned (OpenSpec.upto dagOnceSpec)

/-- 'collatorlaw02.FracMakes', WHERE WHAT IT READS IS OF BULK AT MOST 1048576: true; the input reads as it did. -/
def fracMakesUptoRow : OpenClaim := { program := "ytogodjiemgilaaa", sum := "639b0cbfa669f358e5abe2f052c6c3b92029b0d43bff3fcc94bbce28b989a08c", func := "collator/collatorlaw02.FracMakes", spec := "fracMakes", unfollowed := true, recurses := true, apart := false, narrowed := true }
def FracMakesUptoSaid : Prop := fracMakesUptoRow.holds Try.pinned (OpenSpec.upto fracMakesSpec)

/-- 'collatorlaw02.FracTold', WHERE WHAT IT READS IS OF BULK AT MOST 1048576: true; the input reads as it did. -/
def fracToldUptoRow : OpenClaim := { program := "ytogodjiemgilaaa", sum := "639b0cbfa669f358e5abe2f052c6c3b92029b0d43bff3fcc94bbce28b989a08c", func := "collator/collatorlaw02.FracTold", spec := "fracTold", unfollowed := true, recurses := true, apart := false, narrowed := true }
def FracToldUptoSaid : Prop := fracToldUptoRow.holds Try.pinned (OpenSpec.upto fracToldSpec)

end Rows
end Go.Proofs.Ytogodjiemgilaaa
