/- What the functions of score and collatorref03 that ScoreOrder reaches compute, as contracts. -/
import Derived.Test.YtogodjiemgilaaaRows
import Derived.Test.YtogodjiemgilaaaScoreP
import Derived.WalkKit
import Derived.Lib.Hide
import Derived.WalkSpells
import Derived.WalkLawsBesides
namespace Go.Proofs.Ytogodjiemgilaaa
open Go.RowKit

theorem call_frombits (a : Int) (w : World) : (callFunc 107 #[.int .u64 a]).run Try.prog w = .ok (.value (.float .f64 a.toNat)) w := by
  rw [run_callFunc_extern (e := Extern.MathFloatBits.float64frombits) Try.func107 (by kernel_rfl) (by kernel_rfl) (by kernel_rfl) (by kernel_rfl)]
  rfl

theorem call_bits (a : Nat) (w : World) : (callFunc 111 #[.float .f64 a]).run Try.prog w = .ok (.value (.int .u64 a)) w := by
  rw [run_callFunc_extern (e := Extern.MathFloatBits.float64bits) Try.func111 (by kernel_rfl) (by kernel_rfl) (by kernel_rfl) (by kernel_rfl)]
  rfl

set_option maxHeartbeats 400000 in
theorem score_of (a : Int) (w : World) :
    Calls Try.prog 16 #[.int .u64 a] w fun e w' => e = .returned (.float .f64 a.toNat) ∧ w = w' := by
  have h1 := call_frombits
  go_enter Try.func16, Try.ntmps16
  go_wp2
  go_ret
  exact ⟨rfl, rfl⟩


set_option maxHeartbeats 400000 in
theorem isnan (a : Nat) (w : World) :
    Calls Try.prog 108 #[.float .f64 a] w fun e w' => e = .returned (.bool (nanB a)) ∧ w = w' := by
  rw [← isnan_eq]
  go_enter Try.func108, Try.ntmps108
  go_wp2
  go_ret
  exact ⟨rfl, rfl⟩

set_option maxRecDepth 100000 in
set_option maxHeartbeats 400000 in
theorem signbit (a : Nat) (w : World) (h : a < 18446744073709551616) :
    Calls Try.prog 109 #[.float .f64 a] w fun e w' => e = .returned (.bool (sg a)) ∧ w = w' := by
  rw [← sg_wrap a h]
  clear h
  have h1 := call_bits
  go_enter Try.func109, Try.ntmps109
  go_wp2
  go_ret
  exact ⟨rfl, rfl⟩

set_option maxHeartbeats 400000 in
theorem ref_nan (a : Nat) (w : World) :
    Calls Try.prog 21 #[.float .f64 a] w fun e w' => e = .returned (.bool (nanB a)) ∧ w = w' := by
  rw [← isnan_eq]
  go_enter Try.func21, Try.ntmps21
  go_wp2
  go_ret
  exact ⟨rfl, rfl⟩

theorem ret_bool {a b : Bool} (h : a = b) : Ending.returned (.bool a) = .returned (.bool b) := by rw [h]
theorem ret_int {k : IntKind} {a b : Int} (h : a = b) : Ending.returned (.int k a) = .returned (.int k b) := by rw [h]

set_option maxHeartbeats 1000000 in
theorem score_less (a b : Nat) (w : World) (ha : a < 18446744073709551616) (hb : b < 18446744073709551616) :
    Calls Try.prog 17 #[.float .f64 a, .float .f64 b] w fun e w' => e = .returned (.bool (decide (tot a < tot b))) ∧ w = w' := by
  have Ha := Lib.hid ha
  have Hb := Lib.hid hb
  clear ha hb
  by_cases hn : nanB a = true ∨ nanB b = true
  · have H := Lib.hid (less_nan a b hn)
    cases na : nanB a <;> cases nb : nanB b <;> simp only [na, nb, Bool.false_eq_true, or_self] at hn
    all_goals
      rw [na, nb] at H
      clear hn
      go_enter Try.func17, Try.ntmps17
      go_wp2_with (go_at_call 108; refine (isnan _ _).mono ?_; rintro e w' ⟨rfl, rfl⟩)
      go_ret
      exact ⟨ret_bool H.out, rfl⟩
  · have na : nanB a = false := by cases h : nanB a <;> simp [h] at hn ⊢
    have nb : nanB b = false := by cases h : nanB b <;> simp [h] at hn ⊢
    have hz := eq_zero a na
    have hz' := eq_zero b nb
    by_cases za : rung a = 0 <;> by_cases zb : rung b = 0
    · have H := Lib.hid (less_zero a b na nb za zb)
      simp only [za, zb, decide_true] at hz hz'
      clear za zb hn
      cases s1 : sg a <;> cases s2 : sg b
      all_goals
        rw [s1, s2] at H
        go_enter Try.func17, Try.ntmps17
        go_wp2_with (first | (go_at_call 108; refine (isnan _ _).mono ?_; rintro e w' ⟨rfl, rfl⟩) | (go_at_call 109; refine (signbit _ _ (by first | exact Ha.out | exact Hb.out)).mono ?_; rintro e w' ⟨rfl, rfl⟩))
        go_ret
        exact ⟨ret_bool H.out, rfl⟩
    all_goals
      have H := Lib.hid (less_num a b na nb (by omega))
      simp only [za, zb, decide_true, decide_false] at hz hz'
      clear za zb hn
      go_enter Try.func17, Try.ntmps17
      go_wp2_with (go_at_call 108; refine (isnan _ _).mono ?_; rintro e w' ⟨rfl, rfl⟩)
      go_ret
      exact ⟨ret_bool H.out, rfl⟩

theorem quo_0 (w : World) : (binOp .quo 24 (.float .f64 4607182418800017408) (.float .f64 0)).run Try.prog w = .ok (.float .f64 9218868437227405312) w :=
  run_float_arith w .quo _ .f64 _ _ _ (by decide +kernel)
theorem quo_m0 (w : World) : (binOp .quo 24 (.float .f64 4607182418800017408) (.float .f64 9223372036854775808)).run Try.prog w = .ok (.float .f64 18442240474082181120) w :=
  run_float_arith w .quo _ .f64 _ _ _ (by decide +kernel)

set_option maxRecDepth 100000 in
set_option maxHeartbeats 400000 in
theorem ref_minus (a : Nat) (w : World) (h : a < 18446744073709551616) (na : nanB a = false) :
    Calls Try.prog 151 #[.float .f64 a] w fun e w' => e = .returned (.bool (sg a && decide (rung a = 0))) ∧ w = w' := by
  have hz := eq_zero a na
  by_cases za : rung a = 0
  · have hs := split_bits a h
    rw [za] at hs
    cases s1 : sg a
    · obtain rfl : a = 0 := by rw [s1] at hs; simpa using hs
      have q := quo_0
      have o1 : (FloatKind.f64.format.order 0 0 == some .eq) = true := by decide +kernel
      have o2 : (FloatKind.f64.format.order 9218868437227405312 0 == some .lt) = false := by decide +kernel
      clear hz za hs s1 h na
      go_enter Try.func151, Try.ntmps151
      go_wp2
      go_ret
      exact ⟨rfl, rfl⟩
    · obtain rfl : a = 9223372036854775808 := by rw [s1] at hs; simpa using hs
      have q := quo_m0
      have o1 : (FloatKind.f64.format.order 9223372036854775808 0 == some .eq) = true := by decide +kernel
      have o2 : (FloatKind.f64.format.order 18442240474082181120 0 == some .lt) = true := by decide +kernel
      clear hz za hs s1 h na
      go_enter Try.func151, Try.ntmps151
      go_wp2
      go_ret
      exact ⟨ret_bool (by decide +kernel), rfl⟩
  · simp only [za, decide_false] at hz ⊢
    rw [Bool.and_false]
    clear za
    go_enter Try.func151, Try.ntmps151
    go_wp2
    go_ret
    exact ⟨rfl, rfl⟩

set_option maxHeartbeats 400000 in
theorem ref_rank (a : Nat) (w : World) (h : a < 18446744073709551616) :
    Calls Try.prog 110 #[.float .f64 a] w fun e w' => e = .returned (.int .i64 (rankI a)) ∧ w = w' := by
  have HL := Lib.hid h
  clear h
  unfold rankI
  cases na : nanB a
  · have hz := eq_zero a na
    have hl := lt_zero a na
    have NA := Lib.hid na
    by_cases za : rung a = 0 <;> cases s1 : sg a
    all_goals
      simp only [za, s1, decide_true, decide_false, Bool.not_true, Bool.not_false, Bool.and_true, Bool.and_false] at hz hl ⊢
      have H : (sg a && decide (rung a = 0)) = (sg a && decide (rung a = 0)) := rfl
      generalize hm : (sg a && decide (rung a = 0)) = mm at H
      have hm2 := hm
      simp only [za, s1, decide_true, decide_false, Bool.and_true, Bool.and_false] at hm2
      subst hm2
      have HM := Lib.hid hm
      clear hm H s1 za
      go_enter Try.func110, Try.ntmps110
      go_wp2_with (first | (go_at_call 21; refine (ref_nan _ _).mono ?_; rintro e w' ⟨rfl, rfl⟩) | (go_at_call 151; refine (ref_minus _ _ HL.out NA.out).mono ?_; rintro e w' ⟨rfl, rfl⟩; rw [HM.out]))
      go_ret
      exact ⟨rfl, rfl⟩
  · go_enter Try.func110, Try.ntmps110
    go_wp2_with (go_at_call 21; refine (ref_nan _ _).mono ?_; rintro e w' ⟨rfl, rfl⟩)
    go_ret
    exact ⟨rfl, rfl⟩

set_option maxHeartbeats 1000000 in
theorem ref_less (a b : Nat) (w : World) (ha : a < 18446744073709551616) (hb : b < 18446744073709551616) :
    Calls Try.prog 18 #[.float .f64 a, .float .f64 b] w fun e w' => e = .returned (.bool (decide (tot a < tot b))) ∧ w = w' := by
  have Ha := Lib.hid ha
  have Hb := Lib.hid hb
  clear ha hb
  by_cases hr : rankI a = rankI b
  · have H := Lib.hid (rank_same a b hr)
    have hne : (rankI a != rankI b) = false := by rw [hr]; simp
    clear hr
    go_enter Try.func18, Try.ntmps18
    go_wp2_with (go_at_call 110; refine (ref_rank _ _ (by first | exact Ha.out | exact Hb.out)).mono ?_; rintro e w' ⟨rfl, rfl⟩)
    go_ret
    exact ⟨ret_bool H.out, rfl⟩
  · have H := Lib.hid (rank_lt a b hr)
    have hne : (rankI a != rankI b) = true := by simpa using hr
    clear hr
    go_enter Try.func18, Try.ntmps18
    go_wp2_with (go_at_call 110; refine (ref_rank _ _ (by first | exact Ha.out | exact Hb.out)).mono ?_; rintro e w' ⟨rfl, rfl⟩)
    go_ret
    exact ⟨ret_bool H.out, rfl⟩

set_option maxHeartbeats 1000000 in
theorem ref_same (a b : Nat) (w : World) (ha : a < 18446744073709551616) (hb : b < 18446744073709551616) :
    Calls Try.prog 19 #[.float .f64 a, .float .f64 b] w fun e w' => e = .returned (.bool (decide (tot a = tot b))) ∧ w = w' := by
  have Ha := Lib.hid ha
  have Hb := Lib.hid hb
  clear ha hb
  by_cases hr : rankI a = rankI b
  · have H := Lib.hid (same_yes a b hr)
    have hne : (rankI a == rankI b) = true := by rw [hr]; simp
    clear hr
    cases ho : (FloatKind.f64.format.order a b == some .eq)
    all_goals
      rw [ho] at H
      go_enter Try.func19, Try.ntmps19
      go_wp2_with (first | (go_at_call 110; refine (ref_rank _ _ (by first | exact Ha.out | exact Hb.out)).mono ?_; rintro e w' ⟨rfl, rfl⟩) | (go_at_call 21; refine (ref_nan _ _).mono ?_; rintro e w' ⟨rfl, rfl⟩))
      go_ret
      exact ⟨ret_bool H.out, rfl⟩
  · have H := Lib.hid (same_no a b hr)
    have hne : (rankI a == rankI b) = false := by simpa using hr
    clear hr
    go_enter Try.func19, Try.ntmps19
    go_wp2_with (go_at_call 110; refine (ref_rank _ _ (by first | exact Ha.out | exact Hb.out)).mono ?_; rintro e w' ⟨rfl, rfl⟩)
    go_ret
    exact ⟨ret_bool H.out.symm, rfl⟩

set_option maxHeartbeats 400000 in
theorem score_bits (a : Nat) (w : World) :
    Calls Try.prog 20 #[.float .f64 a] w fun e w' => e = .returned (.int .u64 (bitsI a)) ∧ w = w' := by
  have h1 := call_bits
  unfold bitsI
  cases na : nanB a
  all_goals
    go_enter Try.func20, Try.ntmps20
    go_wp2_with (go_at_call 108; refine (isnan _ _).mono ?_; rintro e w' ⟨rfl, rfl⟩)
    go_ret
    exact ⟨rfl, rfl⟩

set_option maxHeartbeats 400000 in
theorem law_nan (w : World) :
    Calls Try.prog 104 #[] w fun e w' => e = .returned (.float .f64 9221120237041090561) ∧ w = w' := by
  go_enter Try.func104, Try.ntmps104
  go_wp2_with (go_at_call 16; refine (score_of _ _).mono ?_; rintro e w' ⟨rfl, rfl⟩)
  go_ret
  exact ⟨rfl, rfl⟩

/-- New with one unknown, then Step. -/
theorem infoF : (Try.prog.info? 24).map (fun i => (i.zero, i.size, i.bytes)) = some (some (.float .f64 0), 1, 8) := by kernel_rfl

def NewPost (n : Nat) (w : World) (e : Ending) (w' : World) : Prop :=
  ∃ g v, e = .returned (.pointer (some ⟨g, 0, none⟩)) ∧ w.heap.size ≤ g ∧ w'.ownsRow w.heap.size 24 1 v n (madeCells #[.float .f64 0] n).toList ∧ w'.heap[g]? = some (.cells #[v, .float .f64 4607182418800017408, .float .f64 4602678819172646912] 205) ∧ v.ownBlock ≠ some g ∧ Below w.heap.size w w'

set_option maxRecDepth 100000 in
set_option maxHeartbeats 400000 in
theorem score_new (n : Nat) (w : World) (hn : n ≤ 50) :
    Calls Try.prog 105 #[.int .i64 n, .float .f64 4602678819172646912] w (NewPost n w) := by
  have hn' : (n : Int) ≤ 50 := by omega
  have o1 : FloatKind.f64.format.order 4602678819172646912 0 = some .gt := by decide +kernel
  have o2 : FloatKind.f64.format.order 4602678819172646912 4607182418800017408 = some .lt := by decide +kernel
  obtain ⟨i0, hi, hz0, hz1, hz2⟩ := info_parts infoF
  go_enter Try.func105, Try.ntmps105
  go_wp2_with (at_make; refine wpList_make_full _ rfl _ _ 203 rfl w.heap.size 24 i0 (.float .f64 0) 1 Try.underlying203 hi hz0 hz1 _ _ _ _ n rfl rfl ?_ ?_ ?_ ?_ ?_ ?_)
  case refine_1 => rfl
  case refine_2 => rfl
  case refine_3 => rw [hz2]; omega
  case refine_4 => unfold maxLen; omega
  case refine_5 => omega
  intro w1 hown hg
  have h1 := hg.size
  have h2 := hown.lt _ rfl
  go_wp2
  go_ret
  refine ⟨w1.heap.size, _, rfl, h1, hown.alloc _, heap_alloc_new _ _, ?_, ?_⟩
  · simp only [Value.ownBlock, ne_eq, Option.some.injEq]; omega
  · exact ((Below.refl _ _).grown hg (Nat.le_refl _) (by simp)).alloc h1 _

set_option maxHeartbeats 400000 in
theorem score_step (g : Nat) (v d : Value) (b : Nat) (w : World) (h : w.heap[g]? = some (.cells #[v, .float .f64 b, d] 205)) :
    Calls Try.prog 106 #[.pointer (some ⟨g, 0, none⟩)] w fun e w' => e = .returned (.float .f64 b) ∧ w = w' := by
  have hc : w.cell? ⟨g, 1, none⟩ = some (.float .f64 b) := cell_of_row w g 1 _ _ _ h
  clear h
  go_enter Try.func106, Try.ntmps106
  go_wp2
  go_ret
  exact ⟨rfl, rfl⟩

set_option maxRecDepth 100000 in
set_option maxHeartbeats 400000 in
theorem law03_speaks (w : World) :
    Calls Try.prog 15 #[] w fun e w' => e = .returned (.bool true) ∧ Below w.heap.size w w' := by
  have t1 : decide (tot 9221120237041090561 < tot 18442240474082181120) = true := by decide +kernel
  have t2 : decide (tot 18442240474082181120 < tot 9221120237041090561) = false := by decide +kernel
  have t3 : decide (tot 18442240474082181120 < tot 0) = true := by decide +kernel
  have o1 : (FloatKind.f64.format.order 4607182418800017408 4607182418800017408 == some .eq) = true := by decide +kernel
  go_enter Try.func15, Try.ntmps15
  go_wp2_with (first
    | (go_at_call 16; refine (score_of _ _).mono ?_; rintro e w' ⟨rfl, rfl⟩)
    | (go_at_call 104; refine (law_nan _).mono ?_; rintro e w' ⟨rfl, rfl⟩)
    | (go_at_call 17; refine (score_less _ _ _ (by decide) (by decide)).mono ?_; rintro e w' ⟨rfl, rfl⟩))
  refine (score_new 1 _ (by omega)).mono ?_
  rintro e w1 ⟨g, v, rfl, hg, _, hh, _, hb⟩
  have HH := Lib.hid hh
  clear hh
  go_wp2_with (go_at_call 106; refine (score_step _ _ _ _ _ HH.out).mono ?_; rintro e w' ⟨rfl, rfl⟩)
  go_ret
  exact ⟨rfl, hb⟩

theorem score_iso (a b c : Nat) (ha : a < 18446744073709551616) (hb : b < 18446744073709551616) :
    (decide (bitsI a = bitsI b) = decide (tot a = tot b)) := by
  simp only [decide_eq_decide]; exact bits_tot a b ha hb

set_option maxRecDepth 100000 in
set_option maxHeartbeats 1600000 in
theorem scoreOrder_walk (a b c : Nat) (ha : a < 18446744073709551616) (hb : b < 18446744073709551616) (hc : c < 18446744073709551616) (w : World) :
    Calls Try.prog 3 #[.int .u64 a, .int .u64 b, .int .u64 c] w fun e w' => e = .returned (.bool true) ∧ Below w.heap.size w w' := by
  have HA := Lib.hid ha
  have HB := Lib.hid hb
  have HC := Lib.hid hc
  have hbt : (bitsI a == bitsI b) = decide (tot a = tot b) := by
    rw [Bool.eq_iff_iff]; simp only [beq_iff_eq, decide_eq_true_eq]; exact bits_tot a b ha hb
  have hba : nanB a = false → (bitsI a == (a : Int)) = true := fun h => by unfold bitsI; rw [h]; simp
  have hbn : nanB a = true → (bitsI a == 9221120237041090561) = true := fun h => by unfold bitsI; rw [h]; simp
  clear ha hb hc
  have xx : decide (tot a < tot a) = false := by simp
  have key : ∀ p q r s u n : Bool, decide (tot a < tot b) = p → decide (tot b < tot a) = q → decide (tot a = tot b) = r → decide (tot b < tot c) = s → decide (tot a < tot c) = u → nanB a = n →
    ((p = true ∧ q = false ∧ r = false) ∨ (p = false ∧ q = true ∧ r = false) ∨ (p = false ∧ q = false ∧ r = true)) ∧ (p = true → s = true → u = true) := by
    intro p q r s u n h1 h2 h3 h4 h5 _
    subst h1 h2 h3 h4 h5
    refine ⟨?_, ?_⟩
    · simp only [decide_eq_true_eq, decide_eq_false_iff_not]; omega
    · simp only [decide_eq_true_eq]; omega
  cases e1 : decide (tot a < tot b) <;> cases e2 : decide (tot b < tot a) <;> cases e3 : decide (tot a = tot b) <;> cases e4 : decide (tot b < tot c) <;> cases e5 : decide (tot a < tot c) <;> cases e6 : nanB a
  all_goals
    have k := key _ _ _ _ _ _ e1 e2 e3 e4 e5 e6
    simp only [Bool.false_eq_true, Bool.true_eq_false, and_false, false_and, or_false, false_or, and_self, true_implies, and_true, false_implies] at k
  all_goals
    clear key k
    simp only [e6, Bool.false_eq_true, Bool.true_eq_false, true_implies, false_implies] at hba hbn
    rw [e3] at hbt
    go_enter Try.func3, Try.ntmps3
    go_wp2_with fail
    refine (law03_speaks _).mono ?_
    rintro e w1 ⟨rfl, hbl⟩
    have HBL := Lib.hid hbl
    clear hbl
    go_wp2_with (first
      | (go_at_call 16; refine (score_of _ _).mono ?_; rintro e w' ⟨rfl, rfl⟩)
      | (go_at_call 17; refine (score_less _ _ _ (by first | exact HA.out | exact HB.out | exact HC.out) (by first | exact HA.out | exact HB.out | exact HC.out)).mono ?_; rintro e w' ⟨rfl, rfl⟩)
      | (go_at_call 18; refine (ref_less _ _ _ (by first | exact HA.out | exact HB.out | exact HC.out) (by first | exact HA.out | exact HB.out | exact HC.out)).mono ?_; rintro e w' ⟨rfl, rfl⟩)
      | (go_at_call 19; refine (ref_same _ _ _ (by first | exact HA.out | exact HB.out | exact HC.out) (by first | exact HA.out | exact HB.out | exact HC.out)).mono ?_; rintro e w' ⟨rfl, rfl⟩)
      | (go_at_call 21; refine (ref_nan _ _).mono ?_; rintro e w' ⟨rfl, rfl⟩)
      | (go_at_call 20; refine (score_bits _ _).mono ?_; rintro e w' ⟨rfl, rfl⟩))
    go_ret
    exact ⟨rfl, HBL.out⟩
end Go.Proofs.Ytogodjiemgilaaa
