/- WholeOrder: for all that comes in the law returns true, and what came in reads as it did. No condition. -/
import Derived.Test.YtogodjiemgilaaaArgI
import Derived.Test.YtogodjiemgilaaaWholeOrderB
namespace Go.Proofs.Ytogodjiemgilaaa
open Go.ChangeShapes Go.WideShapes Go.ChangeAt Go.RowKit

theorem aint_even {x : AInt} {W : World} (hx : x.ok W) (h : x.odd = false) : ∃ z : Int, (dg BB z.natAbs).length ≤ 10 ∧ IsInt W z x.a x.c ∧ x.s = decide (z < 0) ∧ x.l = dg BB z.natAbs := by
  unfold AInt.odd at h
  rw [Bool.or_eq_false_iff] at h
  obtain ⟨z, h1, h2⟩ := right_int (s := x.s) (l := x.l) (by simpa using h.2)
  have := of_decide_eq_false h.1
  refine ⟨z, by rw [← h2]; omega, ⟨by rw [← h2]; exact hx.1, hx.2.1, by rw [← h2]; exact hx.2.2.2⟩, h1, h2⟩

theorem wholeOrder_all (x y z : AInt) (n : Int) (W : World) (hx : x.ok W) (hy : y.ok W) (hz : z.ok W) (hn : (Lit.int .i64 n).wf = true) :
    Calls Try.prog 8 #[x.v, y.v, z.v, .int .i64 n] W fun e W' => e = .returned (.bool true) ∧ Ext W W' := by
  cases ho : [x, y, z].any AInt.odd
  · have hall := List.any_eq_false.1 ho
    obtain ⟨z1, b1, i1, s1, l1⟩ := aint_even hx (by simpa using hall x (by simp))
    obtain ⟨z2, b2, i2, s2, l2⟩ := aint_even hy (by simpa using hall y (by simp))
    obtain ⟨z3, b3, i3, s3, l3⟩ := aint_even hz (by simpa using hall z (by simp))
    have HO : ∀ W', Ext W W' → _ := fun W' e => odd3 x y z W' (hx.ext e) (hy.ext e) (hz.ext e)
    rw [ho] at HO
    have hb : -9223372036854775808 ≤ n ∧ n < 9223372036854775808 := by simp [Lit.wf, IntKind.min, IntKind.max, IntKind.signed, IntKind.bits] at hn; omega
    obtain ⟨sx, ax, lx, cx⟩ := x
    obtain ⟨sy, ay, ly, cy⟩ := y
    obtain ⟨s', az, lz, cz⟩ := z
    simp only at s1 l1 s2 l2 s3 l3 i1 i2 i3 HO
    subst s1 l1 s2 l2 s3 l3
    exact worder_even z1 z2 z3 ax ay az cx cy cz n W i1 i2 i3 b1 b2 b3 hb.1 hb.2 HO
  · exact worder_odd x y z n W hx hy hz ho

theorem wholeOrder_own : ownKnob Try.prog.godebug = none := by kernel_rfl
theorem wholeOrder_laid : laidOutB Try.prog = true := by kernel_rfl

theorem wholeOrder_args (W : World) (args : Array Value) (hn : args.size = 4) (h : ∀ (j : Nat) (t : TypeId) (v : Value), (#[69, 69, 69, 2] : Array TypeId)[j]? = some t → args[j]? = some v → Arg Try.prog W t v) :
    Calls Try.prog 8 args W fun e W' => e = .returned (.bool true) ∧ Ext W W' := by
  obtain ⟨l⟩ := args
  match l, hn with
  | [v0, v1, v2, v3], _ =>
    obtain ⟨x, rfl, hx⟩ := arg_aint (h 0 _ v0 rfl rfl)
    obtain ⟨y, rfl, hy⟩ := arg_aint (h 1 _ v1 rfl rfl)
    obtain ⟨z, rfl, hz⟩ := arg_aint (h 2 _ v2 rfl rfl)
    obtain ⟨n, rfl, hn⟩ := Arg.int Try.underlying2 (h 3 _ v3 rfl rfl)
    exact wholeOrder_all x y z n W hx hy hz hn

set_option maxRecDepth 100000 in
theorem wholeOrder_lifted (os : Os) (started : os.Started) (H : Type) (enc : TypeId × Value → H) :
    ReturnsInHanded {} Try.checked os 8 .any (Rows.wholeOrderSpec.pre6 enc Try.prog Try.f8 Rows.wholeOrderRow.domain false) (Rows.wholeOrderSpec.post enc Try.prog Try.f8 false true false false) :=
  law_lifted (C := Try.checked) 4 wholeOrder_own started (by kernel_rfl) Try.func8 wholeOrder_laid
      (by rw [Try.params8]; exact (List.forall_mem_cons.2 ⟨⟨by kernel_rfl, of_decide_eq_true (by kernel_rfl)⟩, (List.forall_mem_cons.2 ⟨⟨by kernel_rfl, of_decide_eq_true (by kernel_rfl)⟩, (List.forall_mem_cons.2 ⟨⟨by kernel_rfl, of_decide_eq_true (by kernel_rfl)⟩, (List.forall_mem_cons.2 ⟨⟨by kernel_rfl, of_decide_eq_true (by kernel_rfl)⟩, (fun _ h => by cases h)⟩)⟩)⟩)⟩))
      (by rw [Try.params8]; exact (List.forall_mem_cons.2 ⟨(by show Served Try.prog _; unfold Served; rw [Try.underlying69]; trivial), (List.forall_mem_cons.2 ⟨(by show Served Try.prog _; unfold Served; rw [Try.underlying69]; trivial), (List.forall_mem_cons.2 ⟨(by show Served Try.prog _; unfold Served; rw [Try.underlying69]; trivial), (List.forall_mem_cons.2 ⟨(by show Served Try.prog _; unfold Served; rw [Try.underlying2]; trivial), (fun _ h => by cases h)⟩)⟩)⟩)⟩))
      rfl Try.underlying4 rfl
      (fun ds hd => by match ds, hd with | [_, _, _, _], _ => rfl)
      (ChangeSpec.witness6 (enc := enc) (C := Try.checked) false ⟨#[], #[.agg #[.bool false, .slice none 0 0], .agg #[.bool false, .slice none 0 0], .agg #[.bool false, .slice none 0 0], .int .i64 0], []⟩ 8 (by kernel_rfl) (by kernel_rfl) (by kernel_rfl) (by kernel_rfl))
      (fun W args hn h => wholeOrder_args W args (by rw [Try.params8] at hn; exact hn) (by rw [Try.params8] at h; exact h))

theorem wholeOrder_over : Rows.wholeOrderRow.holds Try.pinned (OpenSpec.ofChange Rows.wholeOrderSpec) :=
  OpenClaim.holds_of_wide 8 Try.f8 rfl rfl rfl rfl rfl rfl rfl ⟨rfl, rfl, rfl, rfl, rfl⟩ rfl rfl rfl rfl rfl (by kernel_rfl) Try.func8 (by kernel_rfl)
    (of_decide_eq_true (by kernel_rfl)) (by unfold Func.isWrapper; first | (rw [if_pos (by decide +kernel)]; kernel_rfl) | (rw [if_neg (by decide +kernel)]; exact ⟨rfl, rfl⟩))
    (fun os started H enc _ => wholeOrder_lifted os started H enc)

theorem wholeOrder_holds : Rows.WholeOrderSaid := wholeOrder_over
#print axioms wholeOrder_holds
end Go.Proofs.Ytogodjiemgilaaa
