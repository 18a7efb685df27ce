/- WholeRules: for all that comes in the law returns true, and what came in reads as it did. No condition. -/
import Derived.Test.YtogodjiemgilaaaArgI
import Derived.Test.YtogodjiemgilaaaWholeRulesB
import Derived.Test.YtogodjiemgilaaaWholeRulesC
namespace Go.Proofs.Ytogodjiemgilaaa
open Go.ChangeShapes Go.WideShapes Go.ChangeAt Go.RowKit

theorem aint_even' {x : AInt} {W : World} (hx : x.ok W) (h : x.odd = false) : ∃ z : Int, (dg BB z.natAbs).length ≤ 10 ∧ IsInt W z x.a x.c ∧ x.s = decide (z < 0) ∧ x.l = dg BB z.natAbs := by
  unfold AInt.odd at h
  rw [Bool.or_eq_false_iff] at h
  obtain ⟨z, h1, h2⟩ := right_int (s := x.s) (l := x.l) (by simpa using h.2)
  have := of_decide_eq_false h.1
  refine ⟨z, by rw [← h2]; omega, ⟨by rw [← h2]; exact hx.1, hx.2.1, by rw [← h2]; exact hx.2.2.2⟩, h1, h2⟩

theorem wholeRules_all (x y z : AInt) (W : World) (hx : x.ok W) (hy : y.ok W) (hz : z.ok W) :
    Calls Try.prog 9 #[x.v, y.v, z.v] W fun e W' => e = .returned (.bool true) ∧ Ext W W' := by
  cases ho : [x, y, z].any AInt.odd
  · have hall := List.any_eq_false.1 ho
    obtain ⟨z1, b1, i1, s1, l1⟩ := aint_even' hx (by simpa using hall x (by simp))
    obtain ⟨z2, b2, i2, s2, l2⟩ := aint_even' hy (by simpa using hall y (by simp))
    obtain ⟨z3, b3, i3, s3, l3⟩ := aint_even' hz (by simpa using hall z (by simp))
    have HO : ∀ W', Ext W W' → _ := fun W' e => odd3 x y z W' (hx.ext e) (hy.ext e) (hz.ext e)
    rw [ho] at HO
    obtain ⟨sx, ax, lx, cx⟩ := x
    obtain ⟨sy, ay, ly, cy⟩ := y
    obtain ⟨s', az, lz, cz⟩ := z
    simp only at s1 l1 s2 l2 s3 l3 i1 i2 i3 HO
    subst s1 l1 s2 l2 s3 l3
    by_cases h0 : z2 = 0
    · exact wrules_even0 z1 z2 z3 ax ay az cx cy cz W i1 i2 i3 b1 b2 b3 h0 HO
    · exact wrules_evenY z1 z2 z3 ax ay az cx cy cz W i1 i2 i3 b1 b2 b3 h0 HO
  · exact wrules_odd x y z W hx hy hz ho

theorem wholeRules_own : ownKnob Try.prog.godebug = none := by kernel_rfl
theorem wholeRules_laid : laidOutB Try.prog = true := by kernel_rfl

theorem wholeRules_args (W : World) (args : Array Value) (hn : args.size = 3) (h : ∀ (j : Nat) (t : TypeId) (v : Value), (#[69, 69, 69] : Array TypeId)[j]? = some t → args[j]? = some v → Arg Try.prog W t v) :
    Calls Try.prog 9 args W fun e W' => e = .returned (.bool true) ∧ Ext W W' := by
  obtain ⟨l⟩ := args
  match l, hn with
  | [v0, v1, v2], _ =>
    obtain ⟨x, rfl, hx⟩ := arg_aint (h 0 _ v0 rfl rfl)
    obtain ⟨y, rfl, hy⟩ := arg_aint (h 1 _ v1 rfl rfl)
    obtain ⟨z, rfl, hz⟩ := arg_aint (h 2 _ v2 rfl rfl)
    exact wholeRules_all x y z W hx hy hz

set_option maxRecDepth 100000 in
theorem wholeRules_lifted (os : Os) (started : os.Started) (H : Type) (enc : TypeId × Value → H) :
    ReturnsInHanded {} Try.checked os 9 .any (Rows.wholeRulesSpec.pre6 enc Try.prog Try.f9 Rows.wholeRulesRow.domain false) (Rows.wholeRulesSpec.post enc Try.prog Try.f9 false true false false) :=
  law_lifted (C := Try.checked) 4 wholeRules_own started (by kernel_rfl) Try.func9 wholeRules_laid
      (by rw [Try.params9]; exact (List.forall_mem_cons.2 ⟨⟨by kernel_rfl, of_decide_eq_true (by kernel_rfl)⟩, (List.forall_mem_cons.2 ⟨⟨by kernel_rfl, of_decide_eq_true (by kernel_rfl)⟩, (List.forall_mem_cons.2 ⟨⟨by kernel_rfl, of_decide_eq_true (by kernel_rfl)⟩, (fun _ h => by cases h)⟩)⟩)⟩))
      (by rw [Try.params9]; exact (List.forall_mem_cons.2 ⟨(by show Served Try.prog _; unfold Served; rw [Try.underlying69]; trivial), (List.forall_mem_cons.2 ⟨(by show Served Try.prog _; unfold Served; rw [Try.underlying69]; trivial), (List.forall_mem_cons.2 ⟨(by show Served Try.prog _; unfold Served; rw [Try.underlying69]; trivial), (fun _ h => by cases h)⟩)⟩)⟩))
      rfl Try.underlying4 rfl
      (fun ds hd => by match ds, hd with | [_, _, _], _ => rfl)
      (ChangeSpec.witness6 (enc := enc) (C := Try.checked) false ⟨#[], #[.agg #[.bool false, .slice none 0 0], .agg #[.bool false, .slice none 0 0], .agg #[.bool false, .slice none 0 0]], []⟩ 8 (by kernel_rfl) (by kernel_rfl) (by kernel_rfl) (by kernel_rfl))
      (fun W args hn h => wholeRules_args W args (by rw [Try.params9] at hn; exact hn) (by rw [Try.params9] at h; exact h))

theorem wholeRules_over : Rows.wholeRulesRow.holds Try.pinned (OpenSpec.ofChange Rows.wholeRulesSpec) :=
  OpenClaim.holds_of_wide 9 Try.f9 rfl rfl rfl rfl rfl rfl rfl ⟨rfl, rfl, rfl, rfl, rfl⟩ rfl rfl rfl rfl rfl (by kernel_rfl) Try.func9 (by kernel_rfl)
    (of_decide_eq_true (by kernel_rfl)) (by unfold Func.isWrapper; first | (rw [if_pos (by decide +kernel)]; kernel_rfl) | (rw [if_neg (by decide +kernel)]; exact ⟨rfl, rfl⟩))
    (fun os started H enc _ => wholeRules_lifted os started H enc)

theorem wholeRules_holds : Rows.WholeRulesSaid := wholeRules_over
#print axioms wholeRules_holds
end Go.Proofs.Ytogodjiemgilaaa
