/- Part of the proof that a law returns true for all that comes in, and that what came in reads as it did. No condition. -/
import Derived.Test.YtogodjiemgilaaaRows
import Derived.Test.YtogodjiemgilaaaMgScopeActs0
/- ScopeActs: for all that comes in the law returns true, and what came in reads as it did. No condition. -/
namespace Go.Proofs.Ytogodjiemgilaaa
open Go.ChangeShapes Go.WideShapes Go.ChangeAt Go.RowKit

theorem scopeActs_own : ownKnob Try.prog.godebug = none := by kernel_rfl
theorem scopeActs_laid : laidOutB Try.prog = true := by kernel_rfl

theorem scopeActs_args (W : World) (args : Array Value) (hn : args.size = 2) (h : ∀ (j : Nat) (t : TypeId) (v : Value), (#[30, 31] : Array TypeId)[j]? = some t → args[j]? = some v → Arg Try.prog W t v) :
    Calls Try.prog 4 args W fun e W' => e = .returned (.bool true) ∧ Ext W W' := by
  obtain ⟨l⟩ := args
  match l, hn with
  | [v0, v1], _ =>
    obtain ⟨l, _, p1⟩ := O.arg_acts (h 0 _ v0 rfl rfl)
    obtain ⟨q, _, p2⟩ := O.arg_strs (h 1 _ v1 rfl rfl)
    exact O.SpecO.law (ps := [_, _]) (O.sl_ScopeActs l q) ⟨p1, p2, trivial⟩

set_option maxRecDepth 100000 in
theorem scopeActs_lifted (os : Os) (started : os.Started) (H : Type) (enc : TypeId × Value → H) :
    ReturnsInHanded {} Try.checked os 4 .any (Rows.scopeActsSpec.pre6 enc Try.prog Try.f4 Rows.scopeActsRow.domain false) (Rows.scopeActsSpec.post enc Try.prog Try.f4 false true false false) :=
  law_lifted (C := Try.checked) 4 scopeActs_own started (by kernel_rfl) Try.func4 scopeActs_laid
      (by rw [Try.params4]; exact (List.forall_mem_cons.2 ⟨⟨by kernel_rfl, of_decide_eq_true (by kernel_rfl)⟩, (List.forall_mem_cons.2 ⟨⟨by kernel_rfl, of_decide_eq_true (by kernel_rfl)⟩, (fun _ h => by cases h)⟩)⟩))
      (by rw [Try.params4]; exact (List.forall_mem_cons.2 ⟨(by show Served Try.prog _; unfold Served; rw [Try.underlying30]; trivial), (List.forall_mem_cons.2 ⟨(by show Served Try.prog _; unfold Served; rw [Try.underlying31]; trivial), (fun _ h => by cases h)⟩)⟩))
      rfl Try.underlying4 rfl
      (fun ds hd => by match ds, hd with | [_, _], _ => rfl)
      (ChangeSpec.witness6 (enc := enc) (C := Try.checked) false ⟨#[], #[.slice none 0 0, .slice none 0 0], []⟩ 8 (by kernel_rfl) (by kernel_rfl) (by kernel_rfl) (by kernel_rfl))
      (fun W args hn h => scopeActs_args W args (by rw [Try.params4] at hn; exact hn) (by rw [Try.params4] at h; exact h))

theorem scopeActs_over : Rows.scopeActsRow.holds Try.pinned (OpenSpec.ofChange Rows.scopeActsSpec) :=
  OpenClaim.holds_of_wide 4 Try.f4 rfl rfl rfl rfl rfl rfl rfl ⟨rfl, rfl, rfl, rfl, rfl⟩ rfl rfl rfl rfl rfl (by kernel_rfl) Try.func4 (by kernel_rfl)
    (of_decide_eq_true (by kernel_rfl)) (by unfold Func.isWrapper; first | (rw [if_pos (by decide +kernel)]; kernel_rfl) | (rw [if_neg (by decide +kernel)]; exact ⟨rfl, rfl⟩))
    (fun os started H enc _ => scopeActs_lifted os started H enc)

theorem scopeActs_holds : Rows.ScopeActsSaid := scopeActs_over
#print axioms scopeActs_holds
end Go.Proofs.Ytogodjiemgilaaa
