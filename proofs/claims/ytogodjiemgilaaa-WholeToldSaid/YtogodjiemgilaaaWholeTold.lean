/- WholeTold: for all that comes in the law returns true, and what came in reads as it did. No condition. -/
import Derived.Test.YtogodjiemgilaaaWholeToldA
namespace Go.Proofs.Ytogodjiemgilaaa
open Go.ChangeShapes Go.WideShapes Go.ChangeAt Go.RowKit

theorem wholeTold_own : ownKnob Try.prog.godebug = none := by kernel_rfl
theorem wholeTold_laid : laidOutB Try.prog = true := by kernel_rfl

theorem wholeTold_args (W : World) (args : Array Value) (hn : args.size = 2) (h : ∀ (j : Nat) (t : TypeId) (v : Value), (#[69, 69] : Array TypeId)[j]? = some t → args[j]? = some v → Arg Try.prog W t v) :
    Calls Try.prog 7 args W fun e W' => e = .returned (.bool true) ∧ Ext W W' := by
  obtain ⟨l⟩ := args
  match l, hn with
  | [v0, v1], _ =>
    obtain ⟨x, hx, p1⟩ := arg_raw (h 0 _ v0 rfl rfl)
    obtain ⟨y, hy, p2⟩ := arg_raw (h 1 _ v1 rfl rfl)
    exact wtold_all W v0 v1 x y hx hy p1 p2

set_option maxRecDepth 100000 in
theorem wholeTold_lifted (os : Os) (started : os.Started) (H : Type) (enc : TypeId × Value → H) :
    ReturnsInHanded {} Try.checked os 7 .any (Rows.wholeToldSpec.pre6 enc Try.prog Try.f7 Rows.wholeToldRow.domain false) (Rows.wholeToldSpec.post enc Try.prog Try.f7 false true false false) :=
  law_lifted (C := Try.checked) 4 wholeTold_own started (by kernel_rfl) Try.func7 wholeTold_laid
      (by rw [Try.params7]; exact (List.forall_mem_cons.2 ⟨⟨by kernel_rfl, of_decide_eq_true (by kernel_rfl)⟩, (List.forall_mem_cons.2 ⟨⟨by kernel_rfl, of_decide_eq_true (by kernel_rfl)⟩, (fun _ h => by cases h)⟩)⟩))
      (by rw [Try.params7]; exact (List.forall_mem_cons.2 ⟨(by show Served Try.prog _; unfold Served; rw [Try.underlying69]; trivial), (List.forall_mem_cons.2 ⟨(by show Served Try.prog _; unfold Served; rw [Try.underlying69]; trivial), (fun _ h => by cases h)⟩)⟩))
      rfl Try.underlying4 rfl
      (fun ds hd => by match ds, hd with | [_, _], _ => rfl)
      (ChangeSpec.witness6 (enc := enc) (C := Try.checked) false ⟨#[], #[.agg #[.bool false, .slice none 0 0], .agg #[.bool false, .slice none 0 0]], []⟩ 8 (by kernel_rfl) (by kernel_rfl) (by kernel_rfl) (by kernel_rfl))
      (fun W args hn h => wholeTold_args W args (by rw [Try.params7] at hn; exact hn) (by rw [Try.params7] at h; exact h))

theorem wholeTold_over : Rows.wholeToldRow.holds Try.pinned (OpenSpec.ofChange Rows.wholeToldSpec) :=
  OpenClaim.holds_of_wide 7 Try.f7 rfl rfl rfl rfl rfl rfl rfl ⟨rfl, rfl, rfl, rfl, rfl⟩ rfl rfl rfl rfl rfl (by kernel_rfl) Try.func7 (by kernel_rfl)
    (of_decide_eq_true (by kernel_rfl)) (by unfold Func.isWrapper; first | (rw [if_pos (by decide +kernel)]; kernel_rfl) | (rw [if_neg (by decide +kernel)]; exact ⟨rfl, rfl⟩))
    (fun os started H enc _ => wholeTold_lifted os started H enc)

theorem wholeTold_holds : Rows.WholeToldSaid := wholeTold_over
#print axioms wholeTold_holds
end Go.Proofs.Ytogodjiemgilaaa
