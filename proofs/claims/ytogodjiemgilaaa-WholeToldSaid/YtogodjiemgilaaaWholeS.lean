/- The int of an integer. -/
import Derived.Test.YtogodjiemgilaaaWholeN
import Derived.Deep.CutRange
import Derived.IntWalk
namespace Go.Proofs.Ytogodjiemgilaaa
open Go.RowKit Go.Shelf

attribute [local go_sem] Oper.semAt_some

/-- the greatest number that Small gives -/
def edge : Int := 4611686018427387904
def small (z : Int) : Bool := decide (z.natAbs ≤ 4611686018427387904)
def smallV (z : Int) : Int := if small z then z else 0

theorem wrap_fold (M : Nat) (hM : M ≤ 4611686018427387904) : wrap64 (wrap64 (((M / BB : Nat) : Int) * 1000000000) + ((M % BB : Nat) : Int)) = M := by
  have h : M / BB * 1000000000 + M % BB = M := by have := Nat.div_add_mod M BB; rw [Nat.mul_comm] at this; exact this
  generalize M / BB = p at *
  generalize M % BB = q at *
  have h1 : wrap64 ((p : Int) * 1000000000) = (p : Int) * 1000000000 := by unfold wrap64; omega
  rw [h1]
  unfold wrap64; omega
theorem fold_step {N L k x : Nat} {v : Int} {pre : List (Fin L)} {hk : k < L} (h : pre = down L pre.length → pre.length ≤ L → v = (N / BB ^ (L - pre.length) : Nat)) (hx : x = N / BB ^ k % BB) (hN : N ≤ 4611686018427387904) :
    pre ++ [(⟨k, hk⟩ : Fin L)] = down L (pre ++ [(⟨k, hk⟩ : Fin L)]).length → (pre ++ [(⟨k, hk⟩ : Fin L)]).length ≤ L → wrap64 (wrap64 (v * 1000000000) + x) = (N / BB ^ (L - (pre ++ [(⟨k, hk⟩ : Fin L)]).length) : Nat) := by
  intro h1 h2
  rw [List.length_append, List.length_singleton] at h1 h2
  rw [down_succ _ _ (by omega)] at h1
  obtain ⟨e1, e2⟩ := List.append_inj' h1 rfl
  have hkk : L - 1 - pre.length = k := by simpa using (List.cons.inj e2).1.symm
  have hv := h e1 (by omega)
  have e3 : L - pre.length = k + 1 := by omega
  have e4 : L - (pre ++ [(⟨k, hk⟩ : Fin L)]).length = k := by rw [List.length_append, List.length_singleton]; omega
  rw [e3, Nat.pow_succ, ← Nat.div_div_eq_div_mul] at hv
  rw [e4]
  have h5 : N / BB ^ k ≤ N := Nat.div_le_self _ _
  generalize N / BB ^ k = M at *
  rw [hv, hx]
  exact wrap_fold M (by omega)

theorem ofi_edge (w : World) : Calls Try.prog 66 #[.int .i64 4611686018427387904] w (GotInt w edge) := ofi_walk 4611686018427387904 w (by decide) (by decide)

set_option maxRecDepth 100000 in
set_option maxHeartbeats 4000000 in
theorem small_walk (z : Int) (a : Option Addr) (ca : Nat) (w : World) (hb : (dg BB z.natAbs).length ≤ 100000) (h : IsInt w z a ca) :
    Calls Try.prog 65 #[.agg #[.bool (decide (z < 0)), .slice a (dg BB z.natAbs).length ca]] w fun e w' => e = .returned (.tuple #[.int .i64 (smallV z), .bool (small z)]) ∧ Ext w w' := by
  have hle : (dg BB edge.natAbs).length ≤ 1000000 := by
    have : (dg BB edge.natAbs).length ≤ 3 := by rw [dg_len_le BB_gt]; decide
    omega
  obtain ⟨y, hy⟩ : ∃ y, -z = y := ⟨_, rfl⟩
  have hnn : y.natAbs = z.natAbs := by omega
  have hbn : (dg BB y.natAbs).length ≤ 1000000 := by rw [hnn]; omega
  have HC1 := Lib.hid (fun W a' ca' b' cb' (g1 : IsInt W z a' ca') (g2 : IsInt W edge b' cb') => cmpz_walk z edge a' b' ca' cb' W (by omega) hle g1 g2)
  have HC2 := Lib.hid (fun W a' ca' b' cb' (g1 : IsInt W y a' ca') (g2 : IsInt W edge b' cb') => cmpz_walk y edge a' b' ca' cb' W hbn hle g1 g2)
  have HN := Lib.hid (fun W a' ca' (g1 : IsInt W z a' ca') => neg_walk z a' ca' W (by omega) g1)
  rw [hy] at HN
  have hq1 : cmpZ z edge > 0 ↔ z > 4611686018427387904 := by unfold cmpZ edge; (repeat' split) <;> omega
  have hq2 : cmpZ y edge > 0 ↔ -z > 4611686018427387904 := by unfold cmpZ edge; (repeat' split) <;> omega
  have HP := Lib.hid h
  have HZ : Hid (decide (z < 0) = true → -(z.natAbs : Int) = z) := fun h => by have := of_decide_eq_true h; omega
  have HZ2 : Hid (decide (z < 0) = false → (z.natAbs : Int) = z) := fun h => by have := of_decide_eq_false h; omega
  generalize hz1 : cmpZ z edge = q1 at *
  generalize hz2 : cmpZ y edge = q2 at *
  clear hz1 hz2 hnn hbn hle hy
  have HOE : Hid (∀ W, Calls Try.prog 66 #[.int .i64 4611686018427387904] W fun e w' => ∃ a1 c1, e = .returned (.agg #[.bool (decide (edge < 0)), .slice a1 (dg BB edge.natAbs).length c1]) ∧ IsInt w' edge a1 c1 ∧ Ext W w') := fun W => (ofi_edge W).mono (by rintro e w' ⟨a1, c1, h1, h2, h3, h4, h5, h6⟩; exact ⟨a1, c1, h1, ⟨h2, h3, h4⟩, h5⟩)
  by_cases g1 : z > 4611686018427387904
  · have hs : small z = false := by unfold small; exact decide_eq_false (by omega)
    have hv : smallV z = 0 := by unfold smallV; rw [hs]; rfl
    have hd1 : decide (0 < q1) = true := decide_eq_true (hq1.2 g1)
    rw [hs, hv]
    clear hs hv hq1 hq2 g1
    generalize decide (edge < 0) = se at *
    generalize hln : (dg BB edge.natAbs).length = ne at *
    have HLN := Lib.hid hln
    clear hln
    generalize decide (z < 0) = s at *
    generalize hna : (dg BB z.natAbs).length = na at *
    have HNA := Lib.hid hna
    clear hna
    have HOF : Hid (∀ W, Calls Try.prog 66 #[.int .i64 4611686018427387904] W fun e w' => ∃ a1 c1, e = .returned (.agg #[.bool se, .slice a1 ne c1]) ∧ IsInt w' edge a1 c1 ∧ Ext W w' ) := HOE
    clear HOE
    go_enter Try.func65, Try.ntmps65
    go_upto_region 2 with (go_at_call 66; refine (HOF.out _).mono ?_; rintro e w1 ⟨a1, c1, rfl, i4, t4⟩)
    have x2 : Ext w (w1.alloc (.cells #[.bool se, .slice a1 ne c1] 69)) := ((Ext.new w (.cells #[.bool s, .slice a na ca] 69)).trans t4).alloc _
    have r1 : Row (w1.alloc (.cells #[.bool se, .slice a1 ne c1] 69)) w.heap.size 69 [.bool s, .slice a na ca] := ((Row.new w 69 [.bool s, .slice a na ca]).ext t4).alloc _
    have r4 : Row (w1.alloc (.cells #[.bool se, .slice a1 ne c1] 69)) w1.heap.size 69 [.bool se, .slice a1 ne c1] := Row.new w1 69 [_, _]
    have i5 : IsInt (w1.alloc (.cells #[.bool se, .slice a1 ne c1] 69)) edge a1 c1 := i4.ext (Ext.new _ _)
    generalize w1.alloc (.cells #[.bool se, .slice a1 ne c1] 69) = W2 at *
    have i1 : IsInt W2 z a ca := HP.out.ext x2
    have Q := Lib.hid (And.intro x2 (And.intro r1 (And.intro r4 (And.intro i1 i5))))
    have k0 := r1.cell (i := 0) rfl
    have k1 := r1.cell (i := 1) rfl
    have k2 := r4.cell (i := 0) rfl
    have k3 := r4.cell (i := 1) rfl
    clear x2 r1 r4 i1 i4 i5 t4 h
    go_cut [19] from 9 to 19 (fun v wx => v = .bool true ∧ Ext W2 wx)
    case first =>
      go_region_with (first
        | (have hh := x4; go_at_call 61; refine (HC2.out _ _ _ _ _ ?_ ?_).mono ?_; exact ⟨t1, t2, t3⟩; exact Q.out.2.2.2.2.ext x4; rintro e w5 ⟨rfl, g5⟩; have x5 := x4.trans g5; have y0 := (Q.out.2.1.ext x5).cell (i := 0) rfl; have y1 := (Q.out.2.1.ext x5).cell (i := 1) rfl; have y2 := (Q.out.2.2.1.ext x5).cell (i := 0) rfl; have y3 := (Q.out.2.2.1.ext x5).cell (i := 1) rfl)
        | (go_at_call 61; refine (HC1.out _ _ _ _ _ ?_ ?_).mono ?_; exact Q.out.2.2.2.1.ext (Ext.refl W2).drew; exact Q.out.2.2.2.2.ext (Ext.refl W2).drew; rintro e w3 ⟨rfl, g3⟩; have x3 := (Ext.refl W2).drew.trans g3; have i0 := (Q.out.2.1.ext x3).cell (i := 0) rfl; have i1 := (Q.out.2.1.ext x3).cell (i := 1) rfl; have i2 := (Q.out.2.2.1.ext x3).cell (i := 0) rfl; have i3 := (Q.out.2.2.1.ext x3).cell (i := 1) rfl)
        | (go_at_call 57; refine (HN.out _ _ _ ?_).mono ?_; exact Q.out.2.2.2.1.ext x3; rintro e w4 ⟨a4, c4, rfl, t1, t2, t3, g4, t5⟩; have x4 := x3.trans g4; have j0 := (Q.out.2.1.ext x4).cell (i := 0) rfl; have j1 := (Q.out.2.1.ext x4).cell (i := 1) rfl; have j2 := (Q.out.2.2.1.ext x4).cell (i := 0) rfl; have j3 := (Q.out.2.2.1.ext x4).cell (i := 1) rfl))
      all_goals
        go_wp2_with fail
        go_meet
        exact ⟨rfl, x3⟩
    case rest =>
      obtain ⟨rfl, x9⟩ := hcut
      go_wp2_with fail
      refine bodyPost_ret (v := .tuple #[.int .i64 0, .bool false]) (by simp [results, Try.f65, go_sem]) rfl ⟨rfl, Q.out.1.trans x9⟩
  · have hd1 : decide (0 < q1) = false := decide_eq_false (fun h => g1 (hq1.1 h))
    by_cases g2 : -z > 4611686018427387904
    · have hs : small z = false := by unfold small; exact decide_eq_false (by omega)
      have hv : smallV z = 0 := by unfold smallV; rw [hs]; rfl
      have hd2 : decide (0 < q2) = true := decide_eq_true (hq2.2 g2)
      rw [hs, hv]
      clear hs hv hq1 hq2 g1 g2
      generalize decide (edge < 0) = se at *
      generalize hln : (dg BB edge.natAbs).length = ne at *
      have HLN := Lib.hid hln
      clear hln
      generalize decide (z < 0) = s at *
      generalize hna : (dg BB z.natAbs).length = na at *
      have HNA := Lib.hid hna
      clear hna
      have HOF : Hid (∀ W, Calls Try.prog 66 #[.int .i64 4611686018427387904] W fun e w' => ∃ a1 c1, e = .returned (.agg #[.bool se, .slice a1 ne c1]) ∧ IsInt w' edge a1 c1 ∧ Ext W w' ) := HOE
      clear HOE
      go_enter Try.func65, Try.ntmps65
      go_upto_region 2 with (go_at_call 66; refine (HOF.out _).mono ?_; rintro e w1 ⟨a1, c1, rfl, i4, t4⟩)
      have x2 : Ext w (w1.alloc (.cells #[.bool se, .slice a1 ne c1] 69)) := ((Ext.new w (.cells #[.bool s, .slice a na ca] 69)).trans t4).alloc _
      have r1 : Row (w1.alloc (.cells #[.bool se, .slice a1 ne c1] 69)) w.heap.size 69 [.bool s, .slice a na ca] := ((Row.new w 69 [.bool s, .slice a na ca]).ext t4).alloc _
      have r4 : Row (w1.alloc (.cells #[.bool se, .slice a1 ne c1] 69)) w1.heap.size 69 [.bool se, .slice a1 ne c1] := Row.new w1 69 [_, _]
      have i5 : IsInt (w1.alloc (.cells #[.bool se, .slice a1 ne c1] 69)) edge a1 c1 := i4.ext (Ext.new _ _)
      generalize w1.alloc (.cells #[.bool se, .slice a1 ne c1] 69) = W2 at *
      have i1 : IsInt W2 z a ca := HP.out.ext x2
      have Q := Lib.hid (And.intro x2 (And.intro r1 (And.intro r4 (And.intro i1 i5))))
      have k0 := r1.cell (i := 0) rfl
      have k1 := r1.cell (i := 1) rfl
      have k2 := r4.cell (i := 0) rfl
      have k3 := r4.cell (i := 1) rfl
      clear x2 r1 r4 i1 i4 i5 t4 h
      go_cut [19] from 9 to 19 (fun v wx => v = .bool true ∧ Ext W2 wx)
      case first =>
        go_region_held3 (fun w' => w'.cell? ⟨w.heap.size, 0, none⟩ = some (.bool s) ∧ w'.cell? ⟨w.heap.size, 1, none⟩ = some (.slice a na ca) ∧ w'.cell? ⟨w1.heap.size, 0, none⟩ = some (.bool se) ∧ w'.cell? ⟨w1.heap.size, 1, none⟩ = some (.slice a1 ne c1)) (first | exact ⟨(Q.out.2.1.drew).cell (i := 0) rfl, (Q.out.2.1.drew).cell (i := 1) rfl, (Q.out.2.2.1.drew).cell (i := 0) rfl, (Q.out.2.2.1.drew).cell (i := 1) rfl⟩ | exact ⟨(Q.out.2.1.ext x5).cell (i := 0) rfl, (Q.out.2.1.ext x5).cell (i := 1) rfl, (Q.out.2.2.1.ext x5).cell (i := 0) rfl, (Q.out.2.2.1.ext x5).cell (i := 1) rfl⟩ | exact ⟨(Q.out.2.1.ext x4).cell (i := 0) rfl, (Q.out.2.1.ext x4).cell (i := 1) rfl, (Q.out.2.2.1.ext x4).cell (i := 0) rfl, (Q.out.2.2.1.ext x4).cell (i := 1) rfl⟩ | exact ⟨(Q.out.2.1.ext x3).cell (i := 0) rfl, (Q.out.2.1.ext x3).cell (i := 1) rfl, (Q.out.2.2.1.ext x3).cell (i := 0) rfl, (Q.out.2.2.1.ext x3).cell (i := 1) rfl⟩) (first
          | (have hh := x4; go_at_call 61; refine (HC2.out _ _ _ _ _ ?_ ?_).mono ?_; exact ⟨t1, t2, t3⟩; exact Q.out.2.2.2.2.ext x4; rintro e w5 ⟨rfl, g5⟩; have x5 := x4.trans g5; have y0 := (Q.out.2.1.ext x5).cell (i := 0) rfl; have y1 := (Q.out.2.1.ext x5).cell (i := 1) rfl; have y2 := (Q.out.2.2.1.ext x5).cell (i := 0) rfl; have y3 := (Q.out.2.2.1.ext x5).cell (i := 1) rfl)
          | (go_at_call 61; refine (HC1.out _ _ _ _ _ ?_ ?_).mono ?_; exact Q.out.2.2.2.1.ext (Ext.refl W2).drew; exact Q.out.2.2.2.2.ext (Ext.refl W2).drew; rintro e w3 ⟨rfl, g3⟩; have x3 := (Ext.refl W2).drew.trans g3; have i0 := (Q.out.2.1.ext x3).cell (i := 0) rfl; have i1 := (Q.out.2.1.ext x3).cell (i := 1) rfl; have i2 := (Q.out.2.2.1.ext x3).cell (i := 0) rfl; have i3 := (Q.out.2.2.1.ext x3).cell (i := 1) rfl)
          | (go_at_call 57; refine (HN.out _ _ _ ?_).mono ?_; exact Q.out.2.2.2.1.ext x3; rintro e w4 ⟨a4, c4, rfl, t1, t2, t3, g4, t5⟩; have x4 := x3.trans g4; have j0 := (Q.out.2.1.ext x4).cell (i := 0) rfl; have j1 := (Q.out.2.1.ext x4).cell (i := 1) rfl; have j2 := (Q.out.2.2.1.ext x4).cell (i := 0) rfl; have j3 := (Q.out.2.2.1.ext x4).cell (i := 1) rfl))
        all_goals
          go_wp2_with fail
          go_meet
          exact ⟨rfl, x5⟩
      case rest =>
        obtain ⟨rfl, x9⟩ := hcut
        go_wp2_with fail
        refine bodyPost_ret (v := .tuple #[.int .i64 0, .bool false]) (by simp [results, Try.f65, go_sem]) rfl ⟨rfl, Q.out.1.trans x9⟩
    · have hs : small z = true := by unfold small; exact decide_eq_true (by omega)
      have hv : smallV z = z := by unfold smallV; rw [hs]; rfl
      have hd2 : decide (0 < q2) = false := decide_eq_false (fun h => g2 (hq2.1 h))
      have HSM : Hid (z.natAbs ≤ 4611686018427387904) := by show _ ≤ _; omega
      rw [hs, hv]
      clear hs hv hq1 hq2 g1 g2
      generalize decide (edge < 0) = se at *
      generalize hln : (dg BB edge.natAbs).length = ne at *
      have HLN := Lib.hid hln
      clear hln
      generalize decide (z < 0) = s at *
      generalize hna : (dg BB z.natAbs).length = na at *
      have HNA := Lib.hid hna
      clear hna
      have HOF : Hid (∀ W, Calls Try.prog 66 #[.int .i64 4611686018427387904] W fun e w' => ∃ a1 c1, e = .returned (.agg #[.bool se, .slice a1 ne c1]) ∧ IsInt w' edge a1 c1 ∧ Ext W w' ) := HOE
      clear HOE
      refine (callsIn_wide (n := 3)).1 ?_
      refine callsIn_of_wp_marks Try.func65 rfl trivial ?_ rfl
      simp only [Try.ntmps65, List.size_toArray, List.length_cons, List.length_nil, Nat.reduceAdd, Nat.reduceSub, Array.replicate_succ, Array.replicate_zero, List.push_toArray, List.append_toArray, List.nil_append, List.cons_append]
      refine wpIn_wide.2 ?_
      go_upto_region 2 with (go_at_call 66; refine (HOF.out _).mono ?_; rintro e w1 ⟨a1, c1, rfl, i4, t4⟩)
      have x2 : Ext w (w1.alloc (.cells #[.bool se, .slice a1 ne c1] 69)) := ((Ext.new w (.cells #[.bool s, .slice a na ca] 69)).trans t4).alloc _
      have r1 : Row (w1.alloc (.cells #[.bool se, .slice a1 ne c1] 69)) w.heap.size 69 [.bool s, .slice a na ca] := ((Row.new w 69 [.bool s, .slice a na ca]).ext t4).alloc _
      have r4 : Row (w1.alloc (.cells #[.bool se, .slice a1 ne c1] 69)) w1.heap.size 69 [.bool se, .slice a1 ne c1] := Row.new w1 69 [_, _]
      have i5 : IsInt (w1.alloc (.cells #[.bool se, .slice a1 ne c1] 69)) edge a1 c1 := i4.ext (Ext.new _ _)
      generalize w1.alloc (.cells #[.bool se, .slice a1 ne c1] 69) = W2 at *
      have i1 : IsInt W2 z a ca := HP.out.ext x2
      have Q := Lib.hid (And.intro x2 (And.intro r1 (And.intro r4 (And.intro i1 i5))))
      have k0 := r1.cell (i := 0) rfl
      have k1 := r1.cell (i := 1) rfl
      have k2 := r4.cell (i := 0) rfl
      have k3 := r4.cell (i := 1) rfl
      clear x2 r1 r4 i1 i4 i5 t4 h
      go_cut [19] from 9 to 19 (fun v wx => v = .bool false ∧ Ext W2 wx)
      case first =>
        go_region_held3 (fun w' => w'.cell? ⟨w.heap.size, 0, none⟩ = some (.bool s) ∧ w'.cell? ⟨w.heap.size, 1, none⟩ = some (.slice a na ca) ∧ w'.cell? ⟨w1.heap.size, 0, none⟩ = some (.bool se) ∧ w'.cell? ⟨w1.heap.size, 1, none⟩ = some (.slice a1 ne c1)) (first | exact ⟨(Q.out.2.1.drew).cell (i := 0) rfl, (Q.out.2.1.drew).cell (i := 1) rfl, (Q.out.2.2.1.drew).cell (i := 0) rfl, (Q.out.2.2.1.drew).cell (i := 1) rfl⟩ | exact ⟨(Q.out.2.1.ext x5).cell (i := 0) rfl, (Q.out.2.1.ext x5).cell (i := 1) rfl, (Q.out.2.2.1.ext x5).cell (i := 0) rfl, (Q.out.2.2.1.ext x5).cell (i := 1) rfl⟩ | exact ⟨(Q.out.2.1.ext x4).cell (i := 0) rfl, (Q.out.2.1.ext x4).cell (i := 1) rfl, (Q.out.2.2.1.ext x4).cell (i := 0) rfl, (Q.out.2.2.1.ext x4).cell (i := 1) rfl⟩ | exact ⟨(Q.out.2.1.ext x3).cell (i := 0) rfl, (Q.out.2.1.ext x3).cell (i := 1) rfl, (Q.out.2.2.1.ext x3).cell (i := 0) rfl, (Q.out.2.2.1.ext x3).cell (i := 1) rfl⟩) (first
          | (have hh := x4; go_at_call 61; refine (HC2.out _ _ _ _ _ ?_ ?_).mono ?_; exact ⟨t1, t2, t3⟩; exact Q.out.2.2.2.2.ext x4; rintro e w5 ⟨rfl, g5⟩; have x5 := x4.trans g5; have y0 := (Q.out.2.1.ext x5).cell (i := 0) rfl; have y1 := (Q.out.2.1.ext x5).cell (i := 1) rfl; have y2 := (Q.out.2.2.1.ext x5).cell (i := 0) rfl; have y3 := (Q.out.2.2.1.ext x5).cell (i := 1) rfl)
          | (go_at_call 61; refine (HC1.out _ _ _ _ _ ?_ ?_).mono ?_; exact Q.out.2.2.2.1.ext (Ext.refl W2).drew; exact Q.out.2.2.2.2.ext (Ext.refl W2).drew; rintro e w3 ⟨rfl, g3⟩; have x3 := (Ext.refl W2).drew.trans g3; have i0 := (Q.out.2.1.ext x3).cell (i := 0) rfl; have i1 := (Q.out.2.1.ext x3).cell (i := 1) rfl; have i2 := (Q.out.2.2.1.ext x3).cell (i := 0) rfl; have i3 := (Q.out.2.2.1.ext x3).cell (i := 1) rfl)
          | (go_at_call 57; refine (HN.out _ _ _ ?_).mono ?_; exact Q.out.2.2.2.1.ext x3; rintro e w4 ⟨a4, c4, rfl, t1, t2, t3, g4, t5⟩; have x4 := x3.trans g4; have j0 := (Q.out.2.1.ext x4).cell (i := 0) rfl; have j1 := (Q.out.2.1.ext x4).cell (i := 1) rfl; have j2 := (Q.out.2.2.1.ext x4).cell (i := 0) rfl; have j3 := (Q.out.2.2.1.ext x4).cell (i := 1) rfl))
        all_goals
          go_wp2_with fail
          go_meet
          exact ⟨rfl, x5⟩
      case rest =>
        obtain ⟨rfl, x9⟩ := hcut
        clear k0 k1 k2 k3
        have q0 := Q.out.2.1.ext x9
        have X9 := Lib.hid (Q.out.1.trans x9)
        have k1 := (q0.alloc (.cells #[.int .i64 0] 3)).cell (i := 1) rfl
        have I9 := Lib.hid (HP.out.2.2.ext (Q.out.1.trans x9))
        go_wp2_with (go_at_call 129; refine (callsIn_wide.1 (backB_in Fence.wide 2 trivial rfl _ _ _ _)).mono ?_; rintro e w' ⟨rfl, rfl⟩)
        obtain ⟨WL, hWL⟩ : ∃ WL, (wc.alloc (.cells #[.int .i64 0] 3)).alloc (.cells #[.slice a na ca] 67) = WL := ⟨_, rfl⟩
        have l5 : Row WL wc.heap.size 3 [.int .i64 0] := by rw [← hWL]; exact (Row.new wc _ [_]).alloc _
        have l6 : Row WL (wc.heap.size + 1) 67 [.slice a na ca] := by
          rw [← hWL]
          have := Row.new (wc.alloc (.cells #[.int .i64 0] 3)) 67 [.slice a na ca]
          rwa [World.size_alloc] at this
        have xL : Ext wc WL := by rw [← hWL]; exact (Ext.new _ _).alloc _
        have hsL : WL.heap.size = wc.heap.size + 1 + 1 := by rw [← hWL]; simp
        rw [hWL]
        clear hWL k1
        obtain ⟨l, hl⟩ : ∃ l, l = dg BB z.natAbs := ⟨_, rfl⟩
        have hna : l.length = na := by rw [hl]; exact HNA.out
        subst hna
        have I8 : Rd wc a (ks .u32 l) := by rw [hl]; exact I9.out
        have QB := q0
        have HL := Lib.hid hl
        clear hl
        have l6c := l6.cell (i := 0) rfl
        refine (wpIn_wide (n := 3)).1 ?_
        refine wpIn_rangeFunc_ownG (n := 3) rfl (by omega) (gf := 175) (lb := #[.pointer (some ⟨wc.heap.size + 1, 0, none⟩)]) rfl trivial (enters_of Try.func175 (by kernel_rfl) rfl)
          (backB_stops Fence.wide 2 trivial rfl (by omega) (wc.heap.size + 1) ca a l (by omega) wc WL I8 xL (by omega) l6c) kpB_t (kpB_b (by omega) (by omega)) (Below.refl _ _) (fun _ => rfl)
          (fun pre W => (∃ v : Int, Row W wc.heap.size 3 [.int .i64 v] ∧ (pre = down l.length pre.length → pre.length ≤ l.length → v = (z.natAbs / BB ^ (l.length - pre.length) : Nat))) ∧ Below wc.heap.size wc W)
          (fun _ _ _ => False)
          (OwnFrom.and (Own.from (fun s A B row hs hg hr => by obtain ⟨v, h1, h2⟩ := hs; exact ⟨v, h1.iter hg hr, h2⟩) _) (ownFrom_below (Nat.le_refl _) (by omega)))
          (fun _ _ _ _ _ hs _ _ => hs)
          ⟨⟨0, l5, fun _ _ => by rw [List.length_nil, Nat.sub_zero, Nat.div_eq_of_lt (by rw [HL.out]; exact lt_pow_len BB_gt _)]; rfl⟩, xL⟩
          (fun i => { tmps := #[.agg #[.bool s, .slice a l.length ca], .pointer (some ⟨w.heap.size, 0, none⟩), .int .i64 0, .bool false, .pointer (some ⟨w1.heap.size, 0, none⟩), .pointer (some ⟨wc.heap.size, 0, none⟩), undef, .int .u32 (l[i.1] : Int), .agg #[.bool se, .slice a1 ne c1], u9, u10, u11, u12, u13, u14, u15, u16, u17, u18, .bool false, .pointer (some ⟨w.heap.size, 1, none⟩), .slice a l.length ca, .func (.func 175) #[] #[.pointer (some ⟨wc.heap.size + 1, 0, none⟩)], .int .i64 (i.1 : Int), .int .u32 (l[i.1] : Int), undef, undef, undef, undef, undef, undef, undef, undef, undef, undef], defers := [] }) ?assign ?body ?done ?stop
        case assign =>
          intro lp x W K hK
          dsimp only [bkEnc]
          gi_wp2
          exact hK
        case body =>
          rintro lp pre ⟨k, hk⟩ W ⟨⟨v, i0, i1⟩, hB⟩ hlen
          have hxk : Hid (l[k] = z.natAbs / BB ^ k % BB) := by
            show _ = _
            have := HL.out; subst this; exact dg_at BB_gt hk
          have hx : l[k] < 1000000000 := by rw [hxk.out]; exact Nat.mod_lt _ (by decide)
          have c5 := i0.cell (i := 0) rfl
          have f5 := i0.frozen 0
          have J := Lib.hid (And.intro i0 (And.intro i1 hB))
          clear i0 i1 hB
          generalize l[k] = x at *
          gi_wp2_with fail
          obtain ⟨i0, i1, hB⟩ := J.out
          refine ⟨(KeepsOthers.setCell _ _ _).from _, (KpB.refl _ _ _).set (p := ⟨wc.heap.size, 0, none⟩) (Nat.le_refl _) (by simp) _, ⟨_, i0.set 0 _, ?_⟩, hB.setCell (p := ⟨wc.heap.size, 0, none⟩) (Nat.le_refl _) _⟩
          exact fold_step i1 hxk.out HSM.out
        case done =>
          rintro D ys W hD rfl ⟨⟨v, i0, i1⟩, hB⟩ hK
          have hv := i1 (by rw [down_len _ _ (Nat.le_refl _)]) (by rw [down_len _ _ (Nat.le_refl _)]; exact Nat.le_refl _)
          rw [down_len _ _ (Nat.le_refl _), Nat.sub_self, Nat.pow_zero, Nat.div_one] at hv
          subst hv
          have QW := Lib.hid (QB.ext (w' := W) (hB.mono (by have := QB.lt; omega)))
          clear i1
          have c5 := i0.cell (i := 0) rfl
          have f5 := i0.frozen 0
          have c1 := QW.out.cell (i := 0) rfl
          have HB := Lib.hid hB
          have HI := Lib.hid i0
          have HK := Lib.hid hK
          clear hB i0 hK
          cases s
          · have hz := HZ2.out rfl
            simp only [Exit.inBlock, Exit.then]
            go_wp2_with fail
            refine ⟨by simp, .inl ⟨_, _, rfl, run_takeDeferred HK.out, ?_⟩⟩
            refine ⟨.tuple #[.int .i64 z, .bool true], by simp [results, Try.f65, go_sem], rfl, ?_⟩
            exact X9.out.trans (Below.trans HB.out (belowK_b (w := wc) (Nat.le_refl _) _ D _ _ (by omega) HK.out rfl rfl))
          · have hz := HZ.out rfl
            have HWZ : Hid (wrap64 z = z) := by have := HSM.out; show wrap64 z = z; unfold wrap64; omega
            simp only [Exit.inBlock, Exit.then]
            go_wp2_with fail
            rw [HWZ.out]
            have hK' := (KeepsOthers.setCell W ⟨wc.heap.size, 0, none⟩ (.int .i64 z)).same D _ HK.out rfl
            refine ⟨by simp, .inl ⟨_, _, rfl, run_takeDeferred hK', ?_⟩⟩
            refine ⟨.tuple #[.int .i64 z, .bool true], by simp [results, Try.f65, go_sem], rfl, ?_⟩
            exact X9.out.trans (Below.trans (HB.out.setCell (p := ⟨wc.heap.size, 0, none⟩) (Nat.le_refl _) _) (belowK_b (w := wc) (Nat.le_refl _) _ D _ _ (by omega) hK' rfl rfl))
        case stop =>
          rintro D c pre W _ _ h _
          exact h.elim
end Go.Proofs.Ytogodjiemgilaaa
