/- Integers with a sign: of, Neg, Cmp, Add, Mul, Div, Gcd. -/
import Derived.Test.YtogodjiemgilaaaWholeQ
import Derived.Deep.RegionWith
import Derived.Deep.QuietTactic
import Derived.BigQuiet
import Derived.Deep.RegionHeld3
namespace Go.Proofs.Ytogodjiemgilaaa
open Go.RowKit

/-- the result is the integer z -/
def GotInt (W : World) (z : Int) (e : Ending) (w' : World) : Prop :=
  ∃ a c, e = .returned (.agg #[.bool (decide (z < 0)), .slice a (dg BB z.natAbs).length c]) ∧ (dg BB z.natAbs).length ≤ c ∧ c ≤ maxLen ∧ Rd w' a (ks .u32 (dg BB z.natAbs)) ∧ Ext W w' ∧ From W.heap.size a
theorem GotInt.later {W W' : World} {z : Int} {e : Ending} {w' : World} (h : GotInt W' z e w') (x : Ext W W') : GotInt W z e w' := by
  obtain ⟨a, c, h1, h2, h3, h4, h5, h6⟩ := h
  exact ⟨a, c, h1, h2, h3, h4, x.trans h5, h6.mono x.size⟩
/-- the result is stored in a variable of the call's own -/
theorem got_store {w W w' : World} {z : Int} {a : Option Addr} {c g : Nat} (hg1 : w.heap.size ≤ g) (hg2 : g < W.heap.size) (x : Ext w W) (h2 : (dg BB z.natAbs).length ≤ c) (h3 : c ≤ maxLen) (h4 : Rd w' a (ks .u32 (dg BB z.natAbs))) (h5 : Ext W w') (h6 : From W.heap.size a) (u v : Value) :
    GotInt w z (.returned (.agg #[.bool (decide (z < 0)), .slice a (dg BB z.natAbs).length c])) ((w'.setCell ⟨g, 0, none⟩ u).setCell ⟨g, 1, none⟩ v) := by
  refine ⟨a, c, rfl, h2, h3, ?_, ((x.trans h5).set (p := ⟨g, 0, none⟩) hg1 _).set (p := ⟨g, 1, none⟩) hg1 _, h6.mono x.size⟩
  exact (h4.keep fun bb off e _ => Below.heap_setCell _ _ _ _ (by have := h6 _ e; show bb ≠ g; simp only at this; omega)).keep fun bb off e _ => Below.heap_setCell _ _ _ _ (by have := h6 _ e; show bb ≠ g; simp only at this; omega)
/-- a sign, and digits -/
def sz (s : Bool) (n : Nat) : Int := if s then -(n : Int) else n
theorem sz_abs (s : Bool) (n : Nat) : (sz s n).natAbs = n := by unfold sz; cases s <;> simp
theorem sz_neg (s : Bool) (n : Nat) : decide (sz s n < 0) = (s && decide (0 < n)) := by
  unfold sz; cases s <;> simp
theorem sz_self (z : Int) : sz (decide (z < 0)) z.natAbs = z := by
  unfold sz; by_cases h : z < 0 <;> simp [h] <;> omega
theorem ks_one (k : IntKind) (l : List Nat) : ∀ u ∈ ks k l, u.oneCell' = true := by
  intro u hu; simp only [ks, List.mem_map] at hu; obtain ⟨_, _, rfl⟩ := hu; rfl

set_option maxRecDepth 100000 in
set_option maxHeartbeats 400000 in
theorem of_walk (s : Bool) (n : Nat) (a : Option Addr) (c : Nat) (w : World) (hc : (dg BB n).length ≤ c) (hm : c ≤ maxLen) (hb : (dg BB n).length ≤ 1000000) (hr : Rd w a (ks .u32 (dg BB n))) :
    Calls Try.prog 121 #[.bool s, .slice a (dg BB n).length c] w (GotInt w (sz s n)) := by
  have hpos : decide ((0 : Int) < ((dg BB n).length : Nat)) = decide (0 < n) := by
    rw [Bool.eq_iff_iff]; simp only [decide_eq_true_eq]
    have := dg_len0 BB_gt n; omega
  have HP := Lib.hid hpos
  have HC := Lib.hid (fun W (h : Rd W a (ks .u32 (dg BB n))) => cloneDg a (dg BB n).length c (ks .u32 (dg BB n)) W (by rw [ks_len, Nat.mul_one]) hc hm (by omega) h (ks_one _ _))
  clear hpos
  generalize hna : (dg BB n).length = na at *
  have HNA := Lib.hid hna
  clear hna
  cases s
  · have hsz : decide (sz false n < 0) = false := by rw [sz_neg, ← HP.out]; rfl
    have HSZ := Lib.hid hsz
    clear hsz
    go_enter Try.func121, Try.ntmps121
    go_wp2_with fail
    refine (HC.out _ (hr.alloc _)).mono ?_
    rintro e w1 ⟨a1, c1, rfl, g1, g2, g3, g4, g5⟩
    have r1 := (Row.new w 69 [.bool false, .slice none 0 0]).ext g4
    have k0 := r1.cell (i := 0) rfl
    have k1 := r1.cell (i := 1) rfl
    have f0 := r1.frozen 0
    have f1 := r1.frozen 1
    go_wp2
    have r2 := (r1.set 0 (.bool (false))).set 1 (.slice a1 na c1)
    have z0 := r2.cell (i := 0) rfl
    have z1 := r2.cell (i := 1) rfl
    refine bodyPost_ret (v := .agg #[.bool (false), .slice a1 na c1]) ?_ rfl ?_
    · simp [results, Try.f121, go_sem, z0, z1]
    · have hgs := got_store (w := w) (W := w.alloc (.cells #[.bool false, .slice none 0 0] 69)) (z := sz false n) (g := w.heap.size) (Nat.le_refl _) (by simp) (Ext.new _ _) (by rw [sz_abs, HNA.out]; exact g1) g2 (by rw [sz_abs]; exact g3) g4 g5
      rw [HSZ.out, sz_abs, HNA.out] at hgs
      exact hgs _ _
  · have hsz : decide (sz true n < 0) = decide (0 < na) := by rw [sz_neg, ← HP.out]; simp
    have HSZ := Lib.hid hsz
    clear hsz
    go_enter Try.func121, Try.ntmps121
    go_wp2_with fail
    refine (HC.out _ (hr.alloc _)).mono ?_
    rintro e w1 ⟨a1, c1, rfl, g1, g2, g3, g4, g5⟩
    have r1 := (Row.new w 69 [.bool false, .slice none 0 0]).ext g4
    have k0 := r1.cell (i := 0) rfl
    have k1 := r1.cell (i := 1) rfl
    have f0 := r1.frozen 0
    have f1 := r1.frozen 1
    go_wp2
    have r2 := (r1.set 0 (.bool (decide (0 < na)))).set 1 (.slice a1 na c1)
    have z0 := r2.cell (i := 0) rfl
    have z1 := r2.cell (i := 1) rfl
    refine bodyPost_ret (v := .agg #[.bool (decide (0 < na)), .slice a1 na c1]) ?_ rfl ?_
    · simp [results, Try.f121, go_sem, z0, z1]
    · have hgs := got_store (w := w) (W := w.alloc (.cells #[.bool false, .slice none 0 0] 69)) (z := sz true n) (g := w.heap.size) (Nat.le_refl _) (by simp) (Ext.new _ _) (by rw [sz_abs, HNA.out]; exact g1) g2 (by rw [sz_abs]; exact g3) g4 g5
      rw [HSZ.out, sz_abs, HNA.out] at hgs
      exact hgs _ _

/-- an integer as an argument -/
def IsInt (w : World) (z : Int) (a : Option Addr) (c : Nat) : Prop := (dg BB z.natAbs).length ≤ c ∧ c ≤ maxLen ∧ Rd w a (ks .u32 (dg BB z.natAbs))
theorem IsInt.ext {w w' : World} {z : Int} {a : Option Addr} {c : Nat} (h : IsInt w z a c) (x : Ext w w') : IsInt w' z a c := ⟨h.1, h.2.1, h.2.2.ext x⟩

set_option maxRecDepth 100000 in
set_option maxHeartbeats 400000 in
theorem neg_walk (z : Int) (a : Option Addr) (c : Nat) (w : World) (hb : (dg BB z.natAbs).length ≤ 1000000) (h : IsInt w z a c) :
    Calls Try.prog 57 #[.agg #[.bool (decide (z < 0)), .slice a (dg BB z.natAbs).length c]] w (GotInt w (-z)) := by
  obtain ⟨h1, h2, h3⟩ := h
  have HO := Lib.hid (fun W (hr : Rd W a (ks .u32 (dg BB z.natAbs))) => of_walk (!decide (z < 0)) z.natAbs a c W h1 h2 hb hr)
  have hz : sz (!decide (z < 0)) z.natAbs = -z := by unfold sz; by_cases hz : z < 0 <;> simp [hz] <;> omega
  rw [hz] at HO
  clear hz
  generalize -z = y at *
  generalize decide (z < 0) = s at *
  have HN : Hid ((dg BB z.natAbs).length = (dg BB z.natAbs).length) := rfl
  generalize (dg BB z.natAbs).length = na at *
  go_enter Try.func57, Try.ntmps57
  go_wp2_with (go_at_call 121; refine (HO.out _ ((h3.alloc _).alloc _)).mono ?_; rintro e w1 ⟨a1, c1, rfl, g1, g2, g3, g4, g5⟩; have r1 := (Row.new (w.alloc (.cells #[.bool s, .slice a na c] 69)) 69 [.bool false, .slice none 0 0]).ext g4; rw [World.size_alloc] at r1; have k0 := r1.cell (i := 0) rfl; have k1 := r1.cell (i := 1) rfl; have f0 := r1.frozen 0; have f1 := r1.frozen 1)
  have r2 := (r1.set 0 (.bool (decide (y < 0)))).set 1 (.slice a1 (dg BB y.natAbs).length c1)
  have z0 := r2.cell (i := 0) rfl
  have z1 := r2.cell (i := 1) rfl
  refine bodyPost_ret (v := .agg #[.bool (decide (y < 0)), .slice a1 (dg BB y.natAbs).length c1]) ?_ rfl ?_
  · simp [results, Try.f57, go_sem, z0, z1]
  · exact got_store (by simp) (by simp) ((Ext.new _ _).alloc _) g1 g2 g3 g4 g5 _ _

/-- -1, 0, 1 -/
def cmpZ (x y : Int) : Int := if x < y then -1 else if x = y then 0 else 1

set_option maxRecDepth 100000 in
set_option maxHeartbeats 400000 in
theorem cmpz_walk (z1 z2 : Int) (a b : Option Addr) (ca cb : Nat) (w : World) (hb1 : (dg BB z1.natAbs).length ≤ 1000000) (hb2 : (dg BB z2.natAbs).length ≤ 1000000) (h1 : IsInt w z1 a ca) (h2 : IsInt w z2 b cb) :
    Calls Try.prog 61 #[.agg #[.bool (decide (z1 < 0)), .slice a (dg BB z1.natAbs).length ca], .agg #[.bool (decide (z2 < 0)), .slice b (dg BB z2.natAbs).length cb]] w fun e w' => e = .returned (.int .i64 (cmpZ z1 z2)) ∧ Ext w w' := by
  have HC := Lib.hid (fun W (hr : Rd W a (ks .u32 (dg BB z1.natAbs))) (hr2 : Rd W b (ks .u32 (dg BB z2.natAbs))) => cmp_walk a b ca cb z1.natAbs z2.natAbs W hb1 hb2 hr hr2)
  have hR1 : Hid (decide (z1 < 0) = true → decide (z2 < 0) = false → cmpZ z1 z2 = -1) := by
    unfold Hid cmpZ; simp only [decide_eq_true_eq, decide_eq_false_iff_not]; intro p q; rw [if_pos (by omega)]
  have hR2 : Hid (decide (z1 < 0) = false → decide (z2 < 0) = true → cmpZ z1 z2 = 1) := by
    unfold Hid cmpZ; simp only [decide_eq_true_eq, decide_eq_false_iff_not]; intro p q; rw [if_neg (by omega), if_neg (by omega)]
  have hR3 : Hid (decide (z1 < 0) = true → decide (z2 < 0) = true → cmpZ z1 z2 = -cmpN z1.natAbs z2.natAbs) := by
    unfold Hid cmpZ cmpN; simp only [decide_eq_true_eq]; intro p q; (repeat' split) <;> omega
  have hR4 : Hid (decide (z1 < 0) = false → decide (z2 < 0) = false → cmpZ z1 z2 = cmpN z1.natAbs z2.natAbs) := by
    unfold Hid cmpZ cmpN; simp only [decide_eq_false_iff_not]; intro p q; (repeat' split) <;> omega
  have hcb : -1 ≤ cmpN z1.natAbs z2.natAbs ∧ cmpN z1.natAbs z2.natAbs ≤ 1 := by unfold cmpN; (repeat' split) <;> omega
  obtain ⟨hcb1, hcb2⟩ := hcb
  have r1 := h1.2.2
  have r2 := h2.2.2
  clear h1 h2 hb1 hb2
  generalize cmpZ z1 z2 = r at *
  generalize cmpN z1.natAbs z2.natAbs = q at *
  generalize hna : (dg BB z1.natAbs).length = na at *
  generalize hnb : (dg BB z2.natAbs).length = nb at *
  clear hna hnb
  cases s1 : decide (z1 < 0) <;> cases s2 : decide (z2 < 0)
  all_goals
    rw [s1, s2] at hR1 hR2 hR3 hR4
    clear s1 s2
    first
      | have HF := Lib.hid (hR4.out rfl rfl)
      | have HF := Lib.hid (hR3.out rfl rfl)
      | have HF := Lib.hid (hR2.out rfl rfl)
      | have HF := Lib.hid (hR1.out rfl rfl)
    clear hR1 hR2 hR3 hR4
    go_enter Try.func61, Try.ntmps61
    go_wp2_with (go_at_call 125; refine (HC.out _ ((r1.alloc _).alloc _) ((r2.alloc _).alloc _)).mono ?_; rintro e w1 ⟨rfl, g1⟩; first | have k0 := (((Row.new w 69 [.bool false, .slice a na ca]).alloc _).ext g1).cell (i := 0) rfl | have k0 := (((Row.new w 69 [.bool true, .slice a na ca]).alloc _).ext g1).cell (i := 0) rfl)
    go_ret
    first
      | exact ⟨ret_int HF.out.symm, ((Ext.new _ _).alloc _).trans g1⟩
      | exact ⟨ret_int HF.out.symm, (Ext.new _ _).alloc _⟩
end Go.Proofs.Ytogodjiemgilaaa
