/- ScoreOrder: for all three words the law returns true, and what came in reads as it did. No condition. -/
import Derived.Test.YtogodjiemgilaaaScoreA
import Derived.Test.YtogodjiemgilaaaBase
namespace Go.Proofs.Ytogodjiemgilaaa
open Go.ChangeShapes Go.WideShapes Go.ChangeAt Go.RowKit

theorem own : ownKnob Try.prog.godebug = none := by kernel_rfl
theorem laid : laidOutB Try.prog = true := by kernel_rfl

theorem scoreOrder_args (W : World) (args : Array Value) (hn : args.size = 3) (h : ∀ (j : Nat) (t : TypeId) (v : Value), (#[22, 22, 22] : Array TypeId)[j]? = some t → args[j]? = some v → Arg Try.prog W t v) :
    Calls Try.prog 3 args W fun e W' => e = .returned (.bool true) ∧ Ext W W' := by
  obtain ⟨l⟩ := args
  match l, hn with
  | [v0, v1, v2], _ =>
    obtain ⟨a, rfl, ha⟩ := Arg.int Try.underlying22 (h 0 _ v0 rfl rfl)
    obtain ⟨b, rfl, hb⟩ := Arg.int Try.underlying22 (h 1 _ v1 rfl rfl)
    obtain ⟨c, rfl, hc⟩ := Arg.int Try.underlying22 (h 2 _ v2 rfl rfl)
    have ba := bounds_u64 ha
    have bb := bounds_u64 hb
    have bc := bounds_u64 hc
    obtain ⟨a, rfl⟩ := Int.eq_ofNat_of_zero_le ba.1
    obtain ⟨b, rfl⟩ := Int.eq_ofNat_of_zero_le bb.1
    obtain ⟨c, rfl⟩ := Int.eq_ofNat_of_zero_le bc.1
    exact scoreOrder_walk a b c (by omega) (by omega) (by omega) W

set_option maxRecDepth 100000 in
theorem scoreOrder_lifted (os : Os) (started : os.Started) (H : Type) (enc : TypeId × Value → H) :
    ReturnsInHanded {} Try.checked os 3 .any (Rows.scoreOrderSpec.pre6 enc Try.prog Try.f3 Rows.scoreOrderRow.domain false) (Rows.scoreOrderSpec.post enc Try.prog Try.f3 false true false false) :=
  law_lifted (C := Try.checked) 4 own started (by kernel_rfl) Try.func3 laid
      (by rw [Try.params3]; intro t ht; simp at ht; subst ht; exact ⟨by kernel_rfl, of_decide_eq_true (by kernel_rfl)⟩)
      (by rw [Try.params3]; intro t ht; simp at ht; subst ht; show Served Try.prog _; unfold Served; rw [Try.underlying22]; trivial)
      rfl Try.underlying4 rfl
      (fun ds hd => by match ds, hd with | [_, _, _], _ => rfl)
      (ChangeSpec.witness6 (enc := enc) (C := Try.checked) false ⟨#[], #[.int .u64 0, .int .u64 0, .int .u64 0], []⟩ 8 (by kernel_rfl) (by kernel_rfl) (by kernel_rfl) (by kernel_rfl))
      (fun W args hn h => scoreOrder_args W args (by rw [Try.params3] at hn; exact hn) (by rw [Try.params3] at h; exact h))

theorem scoreOrder_over : Rows.scoreOrderRow.holds Try.pinned (OpenSpec.ofChange Rows.scoreOrderSpec) :=
  OpenClaim.holds_of_wide 3 Try.f3 rfl rfl rfl rfl rfl rfl rfl ⟨rfl, rfl, rfl, rfl, rfl⟩ rfl rfl rfl rfl rfl (by kernel_rfl) Try.func3 (by kernel_rfl)
    (of_decide_eq_true (by kernel_rfl)) (by unfold Func.isWrapper; first | (rw [if_pos (by decide +kernel)]; kernel_rfl) | (rw [if_neg (by decide +kernel)]; exact ⟨rfl, rfl⟩))
    (fun os started H enc _ => scoreOrder_lifted os started H enc)

theorem scoreOrder_holds : Rows.ScoreOrderSaid := scoreOrder_over
#print axioms scoreOrder_holds
end Go.Proofs.Ytogodjiemgilaaa
