/- Plain facts on the order of the words of a float64: a sign and a rung tell it. -/
import Derived.Laws.Cover2
import Derived.RowKit
namespace Go.Proofs.Ytogodjiemgilaaa
open Ieee Go.RowKit

def infR : Nat := 9218868437227405312
def rung (a : Nat) : Nat := a % 9223372036854775808
def sg (a : Nat) : Bool := a / 9223372036854775808 % 2 == 1
def nanB (a : Nat) : Bool := decide (infR < rung a)
def tk (s : Bool) (r : Nat) : Int := if s then -(r : Int) else (r : Int)
/-- the value of a rung, in units of the least place -/
def rv (r : Nat) : Nat := if r < 4503599627370496 then r else (4503599627370496 + r % 4503599627370496) * 2 ^ (r / 4503599627370496 - 1)

theorem rv_lt {r r' : Nat} (h : r < r') : rv r < rv r' := by
  unfold rv
  by_cases h1 : r < 4503599627370496
  · rw [if_pos h1]
    by_cases h2 : r' < 4503599627370496
    · rw [if_pos h2]; exact h
    · rw [if_neg h2]
      have hp : 1 ≤ 2 ^ (r' / 4503599627370496 - 1) := Nat.one_le_two_pow
      have : 4503599627370496 + r' % 4503599627370496 ≤ (4503599627370496 + r' % 4503599627370496) * 2 ^ (r' / 4503599627370496 - 1) := Nat.le_mul_of_pos_right _ hp
      omega
  · have h2 : ¬ r' < 4503599627370496 := by omega
    rw [if_neg h1, if_neg h2]
    have hq : r / 4503599627370496 ≤ r' / 4503599627370496 := Nat.div_le_div_right (by omega)
    by_cases he : r / 4503599627370496 = r' / 4503599627370496
    · rw [← he]
      refine Nat.mul_lt_mul_of_pos_right ?_ (Nat.two_pow_pos _)
      omega
    · obtain ⟨k, hk⟩ : ∃ k, r' / 4503599627370496 - 1 = (r / 4503599627370496 - 1) + 1 + k := ⟨r' / 4503599627370496 - 1 - (r / 4503599627370496 - 1) - 1, by omega⟩
      rw [hk, Nat.pow_add, Nat.pow_succ]
      have hp : 1 ≤ 2 ^ k := Nat.one_le_two_pow
      have hP : 0 < 2 ^ (r / 4503599627370496 - 1) := Nat.two_pow_pos _
      generalize 2 ^ (r / 4503599627370496 - 1) = P at *
      generalize 2 ^ k = Q at *
      have l1 : (4503599627370496 + r % 4503599627370496) * P < 9007199254740992 * P := Nat.mul_lt_mul_of_pos_right (by omega) hP
      have l2 : 4503599627370496 * (P * 2 * 1) ≤ (4503599627370496 + r' % 4503599627370496) * (P * 2 * Q) := Nat.mul_le_mul (by omega) (Nat.mul_le_mul_left _ hp)
      omega

theorem rv_lt_iff (r r' : Nat) : rv r < rv r' ↔ r < r' := by
  constructor
  · intro h
    rcases Nat.lt_trichotomy r r' with h' | h' | h'
    · exact h'
    · rw [h'] at h; omega
    · have := rv_lt h'; omega
  · exact rv_lt

theorem rv_inj (r r' : Nat) : rv r = rv r' ↔ r = r' := by
  have h1 := rv_lt_iff r r'
  have h2 := rv_lt_iff r' r
  omega

theorem cmp_tk (s t : Bool) (r r' : Nat) : compare (tk s (rv r)) (tk t (rv r')) = compare (tk s r) (tk t r') := by
  have h1 := rv_lt_iff r r'
  have h2 := rv_lt_iff r' r
  have h3 := rv_lt_iff 0 r
  have h4 := rv_lt_iff 0 r'
  have h0 : rv 0 = 0 := rfl
  rw [h0] at h3 h4
  show compareOfLessAndEq _ _ = compareOfLessAndEq _ _
  unfold compareOfLessAndEq tk
  cases s <;> cases t <;> simp only [Bool.false_eq_true, if_true, if_false] <;> (congr 1 <;> first | (simp only [eq_iff_iff]; omega) | (congr 1; simp only [eq_iff_iff]; omega))

theorem cmp_scale (x y : Int) (c : Nat) (hc : 0 < c) : compare (x * c) (y * c) = compare x y := by
  have hc' : (0 : Int) < c := by omega
  show compareOfLessAndEq _ _ = compareOfLessAndEq _ _
  unfold compareOfLessAndEq
  have h1 : x * (c : Int) < y * c ↔ x < y := ⟨fun h => Int.lt_of_mul_lt_mul_right h (by omega), fun h => Int.mul_lt_mul_of_pos_right h hc'⟩
  have h2 : x * (c : Int) = y * c ↔ x = y := ⟨fun h => Int.eq_of_mul_eq_mul_right (by omega) h, fun h => by rw [h]⟩
  simp only [h1, h2]

theorem signed_tk (s : Bool) (m k c : Nat) : signed s m k * (2 ^ c : Nat) = tk s (m * 2 ^ (k + c)) := by
  unfold signed tk
  cases s <;> simp [Nat.shiftLeft_eq, Nat.pow_add, Int.mul_assoc, Int.neg_mul]

theorem cmp_number (s t : Bool) (m n e d : Nat) (l : Int) :
    (Datum.number s m (l + e)).order (Datum.number t n (l + d)) = some (compare (tk s (m * 2 ^ e)) (tk t (n * 2 ^ d))) := by
  unfold Datum.order
  simp only []
  congr 1
  have hm : min (l + (e : Int)) (l + d) = l + (min e d : Nat) := by omega
  rw [hm, ← cmp_scale _ _ (2 ^ min e d) (Nat.two_pow_pos _), signed_tk, signed_tk]
  congr 3
  · congr 1; congr 1; omega
  · congr 1; congr 1; omega

theorem read_num {a : Nat} (h : rung a < infR) : ∃ m e : Nat, FloatKind.f64.format.read a = .number (sg a) m (-1074 + e) ∧ m * 2 ^ e = rv (rung a) := by
  unfold infR at h
  have hr : FloatKind.f64.format.read a = (if rung a < 4503599627370496 then Datum.number (sg a) (rung a) (-1074) else if rung a < 9218868437227405312 then Datum.number (sg a) (4503599627370496 + rung a % 4503599627370496) (-1074 + (rung a / 4503599627370496 - 1 : Nat)) else if rung a = 9218868437227405312 then Datum.infinity (sg a) else Datum.nan (sg a) (rung a - 9218868437227405312)) := rfl
  rw [hr]
  unfold rv
  by_cases h1 : rung a < 4503599627370496
  · rw [if_pos h1, if_pos h1]
    exact ⟨_, 0, rfl, by simp⟩
  · rw [if_neg h1, if_neg h1, if_pos h]
    exact ⟨_, _, rfl, rfl⟩

theorem read_inf {a : Nat} (h : rung a = infR) : FloatKind.f64.format.read a = .infinity (sg a) := by
  unfold infR at h
  have hr : FloatKind.f64.format.read a = (if rung a < 4503599627370496 then Datum.number (sg a) (rung a) (-1074) else if rung a < 9218868437227405312 then Datum.number (sg a) (4503599627370496 + rung a % 4503599627370496) (-1074 + (rung a / 4503599627370496 - 1 : Nat)) else if rung a = 9218868437227405312 then Datum.infinity (sg a) else Datum.nan (sg a) (rung a - 9218868437227405312)) := rfl
  rw [hr, if_neg (by omega), if_neg (by omega), if_pos h]

theorem read_nan {a : Nat} (h : infR < rung a) : FloatKind.f64.format.read a = .nan (sg a) (rung a - infR) := by
  unfold infR at *
  have hr : FloatKind.f64.format.read a = (if rung a < 4503599627370496 then Datum.number (sg a) (rung a) (-1074) else if rung a < 9218868437227405312 then Datum.number (sg a) (4503599627370496 + rung a % 4503599627370496) (-1074 + (rung a / 4503599627370496 - 1 : Nat)) else if rung a = 9218868437227405312 then Datum.infinity (sg a) else Datum.nan (sg a) (rung a - 9218868437227405312)) := rfl
  rw [hr, if_neg (by omega), if_neg (by omega), if_neg (by omega)]

theorem order_nan (a b : Nat) (h : nanB a = true ∨ nanB b = true) : FloatKind.f64.format.order a b = none := by
  unfold nanB at h
  simp only [decide_eq_true_eq] at h
  unfold Format.order
  by_cases ha : infR < rung a
  · rw [read_nan ha]; unfold Datum.order; cases FloatKind.f64.format.read b <;> rfl
  · have hb : infR < rung b := by omega
    rw [read_nan hb]; unfold Datum.order; cases FloatKind.f64.format.read a <;> rfl

theorem order_eq (a b : Nat) (ha : nanB a = false) (hb : nanB b = false) : FloatKind.f64.format.order a b = some (compare (tk (sg a) (rung a)) (tk (sg b) (rung b))) := by
  unfold nanB at ha hb
  simp only [decide_eq_false_iff_not] at ha hb
  unfold Format.order
  by_cases h1 : rung a = infR <;> by_cases h2 : rung b = infR
  · rw [read_inf h1, read_inf h2, h1, h2]
    cases sg a <;> cases sg b <;> rfl
  · obtain ⟨n, d, hn, _⟩ := read_num (a := b) (by omega)
    rw [read_inf h1, hn]
    unfold Datum.order
    simp only []
    congr 1
    show _ = compareOfLessAndEq _ _
    unfold compareOfLessAndEq tk
    cases sg a <;> cases sg b <;> simp only [Bool.false_eq_true, if_true, if_false] <;> first | rw [if_neg (by omega), if_neg (by omega)] | rw [if_pos (by unfold infR at *; omega)]
  · obtain ⟨m, e, hm, _⟩ := read_num (a := a) (by omega)
    rw [read_inf h2, hm]
    unfold Datum.order
    simp only []
    congr 1
    show _ = compareOfLessAndEq _ _
    unfold compareOfLessAndEq tk
    cases sg a <;> cases sg b <;> simp only [Bool.false_eq_true, if_true, if_false] <;> first | rw [if_neg (by omega), if_neg (by omega)] | rw [if_pos (by unfold infR at *; omega)]
  · obtain ⟨m, e, hm, hm'⟩ := read_num (a := a) (by omega)
    obtain ⟨n, d, hn, hn'⟩ := read_num (a := b) (by omega)
    rw [hm, hn, cmp_number, hm', hn', cmp_tk]

/-- where a score stands in the order of all -/
def tot (a : Nat) : Int := if nanB a then -18446744073709551616 else if sg a then -(rung a : Int) - 1 else rung a

theorem ord_lt (a b : Nat) (ha : nanB a = false) (hb : nanB b = false) : (FloatKind.f64.format.order a b == some .lt) = decide (tk (sg a) (rung a) < tk (sg b) (rung b)) := by
  rw [order_eq a b ha hb]
  show (some (compareOfLessAndEq _ _) == _) = _
  unfold compareOfLessAndEq
  by_cases h : tk (sg a) (rung a) < tk (sg b) (rung b)
  · simp [h]
  · rw [if_neg h]; split <;> simp [h]

theorem ord_eq (a b : Nat) (ha : nanB a = false) (hb : nanB b = false) : (FloatKind.f64.format.order a b == some .eq) = decide (tk (sg a) (rung a) = tk (sg b) (rung b)) := by
  rw [order_eq a b ha hb]
  show (some (compareOfLessAndEq _ _) == _) = _
  unfold compareOfLessAndEq
  by_cases h : tk (sg a) (rung a) < tk (sg b) (rung b)
  · rw [if_pos h]; simp; omega
  · rw [if_neg h]; split
    · simp [*]
    · simp [*]

theorem isnan_eq (a : Nat) : (FloatKind.f64.format.order a a != some .eq) = nanB a := by
  cases h : nanB a
  · rw [bne, ord_eq a a h h]; simp
  · rw [order_nan a a (.inl h)]; rfl

theorem sg_wrap (a : Nat) (h : a < 18446744073709551616) : decide (wrap64 (a : Int) < 0) = sg a := by
  unfold sg wrap64
  by_cases h1 : 9223372036854775808 ≤ a
  · have : a / 9223372036854775808 = 1 := by omega
    rw [this]; simp; omega
  · have : a / 9223372036854775808 = 0 := by omega
    rw [this]; simp; omega

theorem rung_0 : rung 0 = 0 := rfl
theorem nan_0 : nanB 0 = false := rfl
theorem sg_0 : sg 0 = false := rfl
theorem split_bits (a : Nat) (h : a < 18446744073709551616) : a = (if sg a then 9223372036854775808 else 0) + rung a := by
  unfold sg rung
  by_cases h1 : 9223372036854775808 ≤ a
  · have : a / 9223372036854775808 = 1 := by omega
    rw [this]; simp; omega
  · have : a / 9223372036854775808 = 0 := by omega
    rw [this]; simp; omega
theorem rung_lt (a : Nat) : rung a < 9223372036854775808 := Nat.mod_lt _ (by omega)
/-- equal in the order: the same word, or NaNs both -/
theorem tot_inj (a b : Nat) (ha : a < 18446744073709551616) (hb : b < 18446744073709551616) : tot a = tot b ↔ a = b ∨ (nanB a = true ∧ nanB b = true) := by
  have h1 := split_bits a ha
  have h2 := split_bits b hb
  have r1 := rung_lt a
  have r2 := rung_lt b
  unfold tot
  cases e1 : nanB a <;> cases e2 : nanB b
  · cases s1 : sg a <;> cases s2 : sg b <;> simp only [s1, s2, Bool.false_eq_true, if_true, if_false, false_and, or_false] at h1 h2 ⊢ <;> omega
  · have hne : a ≠ b := fun h => by rw [h, e2] at e1; cases e1
    cases s1 : sg a <;> simp only [Bool.false_eq_true, if_true, if_false, false_and, or_false] <;> exact ⟨fun h => by omega, fun h => absurd h hne⟩
  · have hne : a ≠ b := fun h => by rw [h, e2] at e1; cases e1
    cases s1 : sg b <;> simp only [Bool.false_eq_true, if_true, if_false, and_false, or_false] <;> exact ⟨fun h => by omega, fun h => absurd h hne⟩
  · simp
theorem tot_nan {a : Nat} (h : nanB a = true) : tot a = -18446744073709551616 := by simp [tot, h]
theorem tot_num {a : Nat} (h : nanB a = false) : tot a = if sg a then -(rung a : Int) - 1 else rung a := by simp [tot, h]
theorem tot_gt {a : Nat} (h : nanB a = false) : -18446744073709551616 < tot a := by
  have := rung_lt a
  rw [tot_num h]; split <;> omega
theorem less_num (a b : Nat) (na : nanB a = false) (nb : nanB b = false) (h : ¬(rung a = 0 ∧ rung b = 0)) : (FloatKind.f64.format.order a b == some .lt) = decide (tot a < tot b) := by
  rw [ord_lt a b na nb, tot_num na, tot_num nb]
  unfold tk
  cases sg a <;> cases sg b <;> simp only [Bool.false_eq_true, if_true, if_false, decide_eq_decide] <;> omega
theorem less_zero (a b : Nat) (na : nanB a = false) (nb : nanB b = false) (h1 : rung a = 0) (h2 : rung b = 0) : (sg a && !sg b) = decide (tot a < tot b) := by
  rw [tot_num na, tot_num nb, h1, h2]
  cases sg a <;> cases sg b <;> rfl
theorem eq_zero (a : Nat) (na : nanB a = false) : (FloatKind.f64.format.order a 0 == some .eq) = decide (rung a = 0) := by
  rw [ord_eq a 0 na nan_0]; unfold tk; simp only [rung_0, sg_0]; cases sg a <;> simp
theorem lt_zero (a : Nat) (na : nanB a = false) : (FloatKind.f64.format.order a 0 == some .lt) = (sg a && !decide (rung a = 0)) := by
  rw [ord_lt a 0 na nan_0]; unfold tk; simp only [rung_0, sg_0]; by_cases h : rung a = 0 <;> cases sg a <;> simp [h]; omega
theorem less_nan (a b : Nat) (h : nanB a = true ∨ nanB b = true) : (nanB a && !nanB b) = decide (tot a < tot b) := by
  cases na : nanB a <;> cases nb : nanB b
  · rw [na, nb] at h; simp at h
  · have := tot_nan nb; have := tot_gt na; simp; omega
  · have := tot_nan na; have := tot_gt nb; simp; omega
  · rw [tot_nan na, tot_nan nb]; rfl
/-- rank: nan 0, below 0 1, -0 2, 0 3, above 0 4 -/
def rankI (a : Nat) : Int := if nanB a then 0 else if sg a then (if rung a = 0 then 2 else 1) else (if rung a = 0 then 3 else 4)
theorem rank_pos {a : Nat} (h : nanB a = false) : 0 < rankI a := by
  unfold rankI; rw [h]; simp only [Bool.false_eq_true, if_false]; (repeat' split) <;> decide
theorem rank_nan {a : Nat} (h : nanB a = true) : rankI a = 0 := by
  unfold rankI; rw [h]; rfl
theorem rank_lt (a b : Nat) (h : rankI a ≠ rankI b) : decide (rankI a < rankI b) = decide (tot a < tot b) := by
  have ra := rung_lt a
  have rb := rung_lt b
  unfold rankI tot at *
  cases na : nanB a <;> cases nb : nanB b <;> cases s1 : sg a <;> cases s2 : sg b <;> simp only [na, nb, s1, s2, Bool.false_eq_true, if_true, if_false, decide_eq_decide] at h ⊢ <;> (by_cases za : rung a = 0 <;> by_cases zb : rung b = 0 <;> (try simp only [za, zb, if_true, if_false] at h ⊢) <;> omega)
theorem rank_same (a b : Nat) (h : rankI a = rankI b) : (FloatKind.f64.format.order a b == some .lt) = decide (tot a < tot b) := by
  cases na : nanB a <;> cases nb : nanB b
  · by_cases hz : rung a = 0 ∧ rung b = 0
    · obtain ⟨za, zb⟩ := hz
      have hs : sg a = sg b := by
        unfold rankI at h
        rw [na, nb, za, zb] at h
        cases s1 : sg a <;> cases s2 : sg b <;> rw [s1, s2] at h <;> simp at h <;> rfl
      rw [ord_lt a b na nb, tot_num na, tot_num nb, za, zb, hs]
      simp
    · exact less_num a b na nb hz
  · have := rank_pos na; have := rank_nan nb; omega
  · have := rank_pos nb; have := rank_nan na; omega
  · rw [order_nan a b (.inl na), tot_nan na, tot_nan nb]; rfl
theorem same_no (a b : Nat) (h : rankI a ≠ rankI b) : decide (tot a = tot b) = false := by
  have h1 := rank_lt a b h
  have h2 := rank_lt b a (fun e => h e.symm)
  simp only [decide_eq_decide] at h1 h2
  simp only [decide_eq_false_iff_not]
  omega
theorem same_yes (a b : Nat) (h : rankI a = rankI b) : ((FloatKind.f64.format.order a b == some .eq) || nanB a) = decide (tot a = tot b) := by
  cases na : nanB a <;> cases nb : nanB b
  · rw [Bool.or_false, ord_eq a b na nb, tot_num na, tot_num nb]
    have ra := rung_lt a
    have rb := rung_lt b
    unfold tk
    unfold rankI at h
    rw [na, nb] at h
    cases s1 : sg a <;> cases s2 : sg b <;> rw [s1, s2] at h <;> simp only [Bool.false_eq_true, if_true, if_false, decide_eq_decide] at h ⊢ <;> (by_cases za : rung a = 0 <;> by_cases zb : rung b = 0 <;> simp only [za, zb, if_true, if_false] at h ⊢ <;> omega)
  · have := rank_pos na; have := rank_nan nb; omega
  · have := rank_pos nb; have := rank_nan na; omega
  · rw [Bool.or_true, tot_nan na, tot_nan nb]; rfl
def bitsI (a : Nat) : Int := if nanB a then 9221120237041090561 else a
theorem bits_tot (a b : Nat) (ha : a < 18446744073709551616) (hb : b < 18446744073709551616) : bitsI a = bitsI b ↔ tot a = tot b := by
  have hn : nanB 9221120237041090561 = true := by decide +kernel
  rw [tot_inj a b ha hb]
  unfold bitsI
  cases na : nanB a <;> cases nb : nanB b
  · simp only [Bool.false_eq_true, if_false, false_and, or_false]; omega
  · simp only [Bool.false_eq_true, if_true, if_false, false_and, or_false]
    constructor
    · intro h; have : a = 9221120237041090561 := by omega
      rw [this, hn] at na; cases na
    · intro h; rw [h, nb] at na; cases na
  · simp only [Bool.false_eq_true, if_true, if_false, and_false, or_false]
    constructor
    · intro h; have : b = 9221120237041090561 := by omega
      rw [this, hn] at nb; cases nb
    · intro h; rw [h, nb] at na; cases na
  · simp
end Go.Proofs.Ytogodjiemgilaaa
