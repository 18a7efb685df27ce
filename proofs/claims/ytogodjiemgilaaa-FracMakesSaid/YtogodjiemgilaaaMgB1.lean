/- Part of the proof that a law returns true for all that comes in, and that what came in reads as it did. No condition. -/
import Derived.Test.YtogodjiemgilaaaMgB0
/- Fractions: plain laws: a fraction in its one form is a rational number. -/
namespace Go.Proofs.Ytogodjiemgilaaa
open Go.RowKit

theorem gcd_pos {x y : Int} (hy : y ≠ 0) : gcdZ x y ≠ 0 := by
  intro h0
  unfold gcdZ at h0
  have h2 : Nat.gcd x.natAbs y.natAbs = 0 := by omega
  have := Nat.eq_zero_of_gcd_eq_zero_right h2
  omega
theorem gcd_l (x y : Int) : gcdZ x y ∣ x := Int.ofNat_dvd_left.2 (Nat.gcd_dvd_left _ _)
theorem gcd_r (x y : Int) : gcdZ x y ∣ y := Int.ofNat_dvd_left.2 (Nat.gcd_dvd_right _ _)
theorem gcd_int (x y : Int) : ((y.gcd x : Nat) : Int) = gcdZ x y := by unfold gcdZ Int.gcd; rw [Nat.gcd_comm]
theorem mkO_num (x y : Int) : mkO x y = (Rat.divInt x y).num := by
  rw [Rat.num_divInt, gcd_int]
  unfold mkO
  by_cases h : x = 0 ∨ y = 0
  · rw [if_pos h]
    rcases h with rfl | rfl
    · simp
    · simp
  · rw [if_neg h]
    have hy : y ≠ 0 := fun e => h (.inr e)
    have hg := gcd_pos (x := x) hy
    by_cases hn : y < 0
    · rw [if_pos hn, Int.sign_eq_neg_one_of_neg hn]
      unfold divZ
      rw [if_neg (by omega), Int.ediv_neg, Int.neg_one_mul, Int.neg_ediv_of_dvd (gcd_l x y)]
    · rw [if_neg hn, Int.sign_eq_one_of_pos (by omega), Int.one_mul]
      unfold divZ
      rw [if_neg hg]
theorem mkD_den (x y : Int) (hx : ¬ (x = 0 ∨ y = 0)) : mkD x y = ((Rat.divInt x y).den : Nat) := by
  have hy : y ≠ 0 := fun e => hx (.inr e)
  rw [Rat.den_divInt, if_neg hy]
  have hg := gcd_pos (x := x) hy
  have hgi := gcd_int x y
  have e : ((y.natAbs / y.gcd x : Nat) : Int) = (y.natAbs : Int) / gcdZ x y := by rw [← hgi]; rfl
  rw [e]
  unfold mkD divZ
  by_cases hn : y < 0
  · rw [if_pos hn, if_neg (by omega), Int.ediv_neg, ← Int.neg_ediv_of_dvd (gcd_r x y)]
    congr 1; omega
  · rw [if_neg hn, if_neg hg]
    congr 1; omega
/-- the number under, 1 told as 0 -/
def fD (n : Nat) : Int := fU (n : Int)
theorem mkU_den (x y : Int) : mkU x y = fD (Rat.divInt x y).den := by
  unfold mkU fD fU
  by_cases h : x = 0 ∨ y = 0
  · rw [if_pos h]
    have : (Rat.divInt x y).den = 1 := by
      rw [Rat.den_divInt]
      rcases h with rfl | rfl
      · by_cases hy : y = 0
        · rw [if_pos hy]
        · rw [if_neg hy, Int.gcd_zero]; exact Nat.div_self (by omega)
      · rw [if_pos rfl]
    rw [this]; rfl
  · rw [if_neg h, mkD_den x y h]
theorem und_fD {n : Nat} (h : n ≠ 0) : und (fD n) = (n : Int) := by
  unfold und fD fU
  by_cases h1 : (n : Int) = 1
  · rw [if_pos h1, if_pos rfl]; omega
  · rw [if_neg h1, if_neg (by omega)]
theorem gcdZ_neg (x y : Int) : gcdZ (-x) (-y) = gcdZ x y := by unfold gcdZ; rw [Int.natAbs_neg, Int.natAbs_neg]
theorem rmO_num (x y : Int) : rmO x y = (Rat.divInt x y).num := by
  rw [← mkO_num]
  unfold rmO mkO
  by_cases h : x = 0 ∨ y = 0
  · rw [if_pos h, if_pos h]
  · rw [if_neg h, if_neg h]
    have hy : y ≠ 0 := fun e => h (.inr e)
    have hg := gcd_pos (x := x) hy
    by_cases hn : y < 0
    · rw [if_pos hn, if_pos hn, gcdZ_neg]
      unfold divZ
      rw [if_neg hg, if_neg (by omega), Int.ediv_neg, Int.neg_ediv_of_dvd (gcd_l x y)]
    · rw [if_neg hn, if_neg hn]
theorem rmD_den (x y : Int) : rmD x y = ((Rat.divInt x y).den : Nat) := by
  by_cases h : x = 0 ∨ y = 0
  · have h2 := mkU_den x y
    unfold mkU at h2
    rw [if_pos h] at h2
    unfold rmD
    rw [if_pos h]
    have h3 := und_fD (Rat.divInt x y).den_nz
    rw [← h2] at h3
    exact h3
  · rw [← mkD_den x y h]
    unfold rmD mkD
    rw [if_neg h]
    have hy : y ≠ 0 := fun e => h (.inr e)
    have hg := gcd_pos (x := x) hy
    by_cases hn : y < 0
    · rw [if_pos hn, if_pos hn, gcdZ_neg]
      unfold divZ
      rw [if_neg hg, if_neg (by omega), Int.ediv_neg, Int.neg_ediv_of_dvd (gcd_r x y)]
    · rw [if_neg hn, if_neg hn]

/-- a fraction that may be is a rational number's one form -/
theorem rightF_rat {p q : Int} (h : rightF p q = true) : ∃ r : Rat, p = r.num ∧ q = fD r.den := by
  unfold rightF at h
  rw [Bool.and_eq_true, decide_eq_true_eq] at h
  refine ⟨Rat.divInt p (und q), ?_, ?_⟩
  · rw [← rmO_num]; exact h.2.1
  · unfold fD; rw [← rmD_den]; exact h.2.2
theorem divInt_self (r : Rat) : Rat.divInt r.num (r.den : Int) = r := Rat.num_divInt_den r
theorem rat_rightF (r : Rat) : rightF r.num (fD r.den) = true := by
  unfold rightF
  rw [Bool.and_eq_true, decide_eq_true_eq, und_fD r.den_nz, rmO_num, rmD_den, divInt_self]
  refine ⟨?_, rfl, rfl⟩
  have : ¬ fD r.den < 0 := by unfold fD fU; split <;> omega
  simp [this]
def cmpR (a b : Rat) : Int := if a < b then -1 else if a = b then 0 else 1
theorem num_eq {a b : Rat} : a.num * (b.den : Int) = b.num * (a.den : Int) ↔ a = b := by
  constructor
  · intro h
    have h1 : ¬ a < b := fun hl => by rw [Rat.lt_iff] at hl; omega
    have h2 : ¬ b < a := fun hl => by rw [Rat.lt_iff] at hl; omega
    rw [Rat.not_lt] at h1 h2
    exact Rat.le_antisymm h2 h1
  · rintro rfl; rfl
theorem cmp_rat (a b : Rat) : cmpZ (a.num * (b.den : Int)) (b.num * (a.den : Int)) = cmpR a b := by
  unfold cmpZ cmpR
  have hi := Rat.lt_iff a b
  by_cases h : a < b
  · rw [if_pos h, if_pos (hi.1 h)]
  · rw [if_neg h, if_neg (fun k => h (hi.2 k))]
    by_cases h2 : a = b
    · rw [if_pos h2, if_pos (num_eq.2 h2)]
    · rw [if_neg h2, if_neg (fun h3 => h2 (num_eq.1 h3))]
theorem den_ne (r : Rat) : (r.den : Int) ≠ 0 := by have := r.den_nz; omega
theorem add_rat (a b : Rat) : Rat.divInt (a.num * (b.den : Int) + b.num * (a.den : Int)) ((a.den : Int) * (b.den : Int)) = a + b := by
  rw [← Rat.divInt_add_divInt _ _ (den_ne a) (den_ne b), divInt_self, divInt_self]
theorem mul_rat (a b : Rat) : Rat.divInt (a.num * b.num) ((a.den : Int) * (b.den : Int)) = a * b := by
  rw [← Rat.divInt_mul_divInt, divInt_self, divInt_self]
theorem neg_rat (a : Rat) : Rat.divInt (-a.num) (a.den : Int) = -a := by
  rw [← Rat.neg_divInt, divInt_self]
theorem div_rat (a b : Rat) : Rat.divInt (a.num * (b.den : Int)) (b.num * (a.den : Int)) = a / b := by
  rw [Rat.div_def, Rat.inv_def, Int.mul_comm b.num]
  conv => rhs; lhs; rw [← divInt_self a]
  rw [Rat.divInt_mul_divInt]
theorem div_rat' (a b : Rat) : Rat.divInt (a.num * (b.den : Int)) ((a.den : Int) * b.num) = a / b := by
  rw [Int.mul_comm (a.den : Int)]; exact div_rat a b
theorem int_rat (n : Int) : Rat.divInt n 1 = (n : Rat) := by
  have := divInt_self (n : Rat)
  rw [Rat.num_intCast, Rat.den_intCast] at this
  exact this
theorem floor_rat (a : Rat) : divZ a.num (a.den : Int) = a.floor := by
  unfold divZ Rat.floor
  rw [if_neg (den_ne a)]
  split
  · rename_i h; rw [h]; simp
  · rfl
theorem mod_rat (a : Rat) : decide (modZ a.num (a.den : Int) = 0) = decide ((a.floor : Rat) = a) := by
  unfold modZ
  rw [if_neg (den_ne a), Bool.eq_iff_iff, decide_eq_true_eq, decide_eq_true_eq]
  constructor
  · intro h
    have hd : (a.den : Int) ∣ a.num := Int.dvd_of_emod_eq_zero h
    have hg : a.num.natAbs.gcd a.den = 1 := a.reduced
    have h1 : a.den = 1 := by
      have h2 : a.den ∣ a.num.natAbs := Int.ofNat_dvd_left.1 hd
      have h3 := Nat.dvd_gcd h2 (Nat.dvd_refl a.den)
      rw [hg] at h3
      exact Nat.dvd_one.1 h3
    have h4 : a.floor = a.num := by unfold Rat.floor; rw [if_pos h1]
    rw [h4]
    apply Rat.ext
    · rw [Rat.num_intCast]
    · rw [Rat.den_intCast, h1]
  · intro h
    have h1 : a.den = 1 := by rw [← h, Rat.den_intCast]
    rw [h1]
    exact Int.emod_one _
end Go.Proofs.Ytogodjiemgilaaa

/- Fractions as rational numbers: what the functions do. -/
namespace Go.Proofs.Ytogodjiemgilaaa
open Go.RowKit
abbrev RAT (a : Rat) : VP := VP.agg [Bz a.num, Dz a.num, Bz (fD a.den), Dz (fD a.den)]
abbrev RRAT (a : Rat) : VP := VP.agg [Bz a.num, Tz a.num, Bz (a.den : Int), Tz (a.den : Int)]
/-- how many digits a fraction's numbers have -/
def LR (a : Rat) (n : Nat) : Prop := L a.num ≤ n ∧ L (a.den : Int) ≤ n
theorem LR.u {a : Rat} {n : Nat} (h : LR a n) : L (fD a.den) ≤ n := lfU h.2
theorem LR.le {a : Rat} {m n : Nat} (h : LR a m) (k : m ≤ n) : LR a n := ⟨Nat.le_trans h.1 k, Nat.le_trans h.2 k⟩
theorem lnum {x y : Int} {m : Nat} (h : L x ≤ m) : L (Rat.divInt x y).num ≤ m := by rw [← mkO_num]; exact lmkO h
theorem lden {x y : Int} {m : Nat} (h : L y ≤ m) (h1 : 1 ≤ m) : L ((Rat.divInt x y).den : Int) ≤ m := by rw [← rmD_den]; exact lrmD h h1
theorem LR.div {x y : Int} {m : Nat} (h : L x ≤ m) (k : L y ≤ m) (h1 : 1 ≤ m) : LR (Rat.divInt x y) m := ⟨lnum h, lden k h1⟩
theorem lradd {a b : Rat} {m n : Nat} (h : LR a m) (k : LR b n) : LR (a + b) (m + n + (m + n) + 1) := by
  rw [← add_rat]
  exact LR.div (Nat.le_trans (ladd (lmul h.1 k.2) (lmul k.1 h.2)) (by omega)) (Nat.le_trans (lmul h.2 k.2) (by omega)) (by omega)
theorem lrmul {a b : Rat} {m n : Nat} (h : LR a m) (k : LR b n) : LR (a * b) (m + n + 1) := by
  rw [← mul_rat]
  exact LR.div (Nat.le_trans (lmul h.1 k.1) (by omega)) (Nat.le_trans (lmul h.2 k.2) (by omega)) (by omega)
theorem lrdiv {a b : Rat} {m n : Nat} (h : LR a m) (k : LR b n) : LR (a / b) (m + n + 1) := by
  rw [← div_rat]
  exact LR.div (Nat.le_trans (lmul h.1 k.2) (by omega)) (Nat.le_trans (lmul k.1 h.2) (by omega)) (by omega)
theorem lrneg {a : Rat} {m : Nat} (h : LR a m) : LR (-a) m := ⟨by rw [Rat.neg_num]; exact lneg h.1, h.2⟩
theorem lrint {n : Int} {m : Nat} (h : L n ≤ m) (h1 : 1 ≤ m) : LR (n : Rat) m := ⟨by rw [Rat.num_intCast]; exact h, by rw [Rat.den_intCast]; exact Nat.le_trans lone h1⟩
theorem lrfloor {a : Rat} {m : Nat} (h : LR a m) : L a.floor ≤ m := by rw [← floor_rat]; exact ldiv h.1
theorem lrzero : LR 0 1 := ⟨Nat.zero_le _, lone⟩

section
variable (a b : Rat)
theorem q_make (x y : Int) (hx : L x ≤ 30000) (hy : L y ≤ 30000) : Spec Try.prog 90 [(INT x).p, (INT y).p] (RAT (Rat.divInt x y)) := by
  have h := f_make x y hx hy
  rw [mkO_num, mkU_den] at h; exact h
theorem q_of (n : Int) (h1 : L n ≤ 1000) : Spec Try.prog 77 [(INT n).p] (RAT (n : Rat)) := by
  have h := f_of n h1
  rw [mkO_num, mkU_den, int_rat] at h; exact h
theorem q_add (ha : LR a 1000) (hb : LR b 1000) : Spec Try.prog 96 [(RAT a).p, (RAT b).p] (RAT (a + b)) := by
  have h := f_add a.num (fD a.den) b.num (fD b.den) ha.1 ha.u hb.1 hb.u
  rw [und_fD a.den_nz, und_fD b.den_nz, mkO_num, mkU_den, add_rat] at h; exact h
theorem q_mul (ha : LR a 1000) (hb : LR b 1000) : Spec Try.prog 75 [(RAT a).p, (RAT b).p] (RAT (a * b)) := by
  have h := f_mul a.num (fD a.den) b.num (fD b.den) ha.1 ha.u hb.1 hb.u
  rw [und_fD a.den_nz, und_fD b.den_nz, mkO_num, mkU_den, mul_rat] at h; exact h
theorem q_div (ha : LR a 1000) (hb : LR b 1000) : Spec Try.prog 78 [(RAT a).p, (RAT b).p] (RAT (a / b)) := by
  have h := f_div a.num (fD a.den) b.num (fD b.den) ha.1 ha.u hb.1 hb.u
  rw [und_fD a.den_nz, und_fD b.den_nz, mkO_num, mkU_den, div_rat] at h; exact h
theorem q_neg (ha : LR a 1000) : Spec Try.prog 76 [(RAT a).p] (RAT (-a)) := by
  have h := f_neg a.num (fD a.den) ha.1 ha.u
  rw [und_fD a.den_nz, mkO_num, mkU_den, neg_rat] at h; exact h
theorem q_cmp (ha : LR a 1000) (hb : LR b 1000) : Spec Try.prog 74 [(RAT a).p, (RAT b).p] (VP.int .i64 (cmpR a b)) := by
  have h := f_cmp a.num (fD a.den) b.num (fD b.den) ha.1 ha.u hb.1 hb.u
  rw [und_fD a.den_nz, und_fD b.den_nz, cmp_rat] at h; exact h
theorem q_floor (ha : LR a 1000) : Spec Try.prog 94 [(RAT a).p] (VP.tup [INT a.floor, VP.bool (decide ((a.floor : Rat) = a))]) := by
  have h := f_floor a.num (fD a.den) ha.1 ha.u
  rw [und_fD a.den_nz, mod_rat, floor_rat] at h; exact h
/-- a fraction's text -/
def qtxt (a : Rat) : ByteArray := rtxt a.num (a.den : Int)
theorem ftxt_rat : ftxt a.num (fD a.den) = qtxt a := by
  unfold ftxt qtxt rtxt fD fU
  by_cases h : (a.den : Int) = 1
  · rw [if_pos h, if_pos rfl, if_pos h]
  · rw [if_neg h, if_neg (den_ne a), if_neg h]
theorem q_text (ha : LR a 1000) : Spec Try.prog 102 [(RAT a).p] (VP.str (qtxt a)) := by
  have h := f_text a.num (fD a.den) ha.1 ha.u
  rw [ftxt_rat] at h; exact h

theorem w_of (ha : LR a 1000) : Spec Try.prog 93 [(RAT a).p] (RRAT a) := by
  have h := g_of a.num (fD a.den) ha.1 ha.u
  rw [und_fD a.den_nz] at h; exact h
theorem w_make (x y : Int) (hx : L x ≤ 5000) (hy : L y ≤ 5000) : Spec Try.prog 92 [(NUM x).p, (NUM y).p] (RRAT (Rat.divInt x y)) := by
  have h := g_make x y hx hy
  rw [rmO_num, rmD_den] at h; exact h
theorem w_form (ha : LR a 1000) : Spec Try.prog 91 [(RRAT a).p] (RAT a) := g_form a.num (a.den : Int) ha.1 ha.2
theorem w_add (ha : LR a 1000) (hb : LR b 1000) : Spec Try.prog 97 [(RRAT a).p, (RRAT b).p] (RRAT (a + b)) := by
  have h := g_add a.num (a.den : Int) b.num (b.den : Int) ha.1 ha.2 hb.1 hb.2
  rw [rmO_num, rmD_den, add_rat] at h; exact h
theorem w_mul (ha : LR a 1000) (hb : LR b 1000) : Spec Try.prog 98 [(RRAT a).p, (RRAT b).p] (RRAT (a * b)) := by
  have h := g_mul a.num (a.den : Int) b.num (b.den : Int) ha.1 ha.2 hb.1 hb.2
  rw [rmO_num, rmD_den, mul_rat] at h; exact h
theorem w_div (ha : LR a 1000) (hb : LR b 1000) : Spec Try.prog 99 [(RRAT a).p, (RRAT b).p] (RRAT (a / b)) := by
  have h := g_div a.num (a.den : Int) b.num (b.den : Int) ha.1 ha.2 hb.1 hb.2
  rw [rmO_num, rmD_den, div_rat'] at h; exact h
theorem w_neg (ha : LR a 1000) : Spec Try.prog 100 [(RRAT a).p] (RRAT (-a)) := by
  have h := g_neg a.num (a.den : Int) ha.1 ha.2
  exact h
theorem w_cmp (ha : LR a 1000) (hb : LR b 1000) : Spec Try.prog 101 [(RRAT a).p, (RRAT b).p] (VP.int .i64 (cmpR a b)) := by
  have h := g_cmp a.num (a.den : Int) b.num (b.den : Int) ha.1 ha.2 hb.1 hb.2
  have e : cmpZ (rmO (a.num * (b.den : Int) + -b.num * (a.den : Int)) ((a.den : Int) * (b.den : Int))) 0 = cmpR a b := by
    have h1 := add_rat a (-b)
    rw [Rat.neg_num, Rat.neg_den] at h1
    rw [rmO_num, h1]
    have h2 := cmp_rat (a + -b) 0
    rw [show (0 : Rat).num = 0 from rfl, show ((0 : Rat).den : Int) = 1 from rfl, Int.zero_mul, Int.mul_one] at h2
    rw [h2]
    unfold cmpR
    have e1 : (a + -b < 0) ↔ a < b := by constructor <;> intro h <;> grind
    have e2 : (a + -b = 0) ↔ a = b := by constructor <;> intro h <;> grind
    by_cases g1 : a < b
    · rw [if_pos g1, if_pos (e1.2 g1)]
    · rw [if_neg g1, if_neg (fun h => g1 (e1.1 h))]
      by_cases g2 : a = b
      · rw [if_pos g2, if_pos (e2.2 g2)]
      · rw [if_neg g2, if_neg (fun h => g2 (e2.1 h))]
  rw [e] at h; exact h
theorem w_floor (ha : LR a 1000) : Spec Try.prog 95 [(RRAT a).p] (VP.tup [NUM a.floor, VP.bool (decide ((a.floor : Rat) = a))]) := by
  have h := g_floor a.num (a.den : Int) ha.1 ha.2
  rw [mod_rat, floor_rat] at h; exact h
theorem w_text (ha : LR a 1000) : Spec Try.prog 103 [(RRAT a).p] (VP.str (qtxt a)) := g_text a.num (a.den : Int) ha.1 ha.2
theorem fD_inj {m n : Nat} (hm : m ≠ 0) (hn : n ≠ 0) (h : fD m = fD n) : m = n := by
  have h1 := und_fD hm
  have h2 := und_fD hn
  rw [h] at h1
  omega
theorem w_same (ha : LR a 1000) (hb : LR b 1000) : Spec Try.prog 89 [(RAT a).p, (RAT b).p] (VP.bool (decide (a = b))) := by
  have h := g_same a.num (fD a.den) b.num (fD b.den) (lle ha.1 (by decide)) (lle ha.u (by decide)) (lle hb.1 (by decide)) (lle hb.u (by decide))
  have e : decide (a.num = b.num ∧ fD a.den = fD b.den) = decide (a = b) := by
    rw [Bool.eq_iff_iff, decide_eq_true_eq, decide_eq_true_eq]
    constructor
    · rintro ⟨h1, h2⟩; exact Rat.ext h1 (fD_inj a.den_nz b.den_nz h2)
    · rintro rfl; exact ⟨rfl, rfl⟩
  rw [e] at h; exact h
theorem w_same1 (ha : LR a 1000) : Spec Try.prog 89 [(RAT a).p, (RAT a).p] (VP.bool true) := by
  have h := w_same a a ha ha
  rwa [decide_eq_true rfl] at h
end
end Go.Proofs.Ytogodjiemgilaaa

/- Fractions: which are looked at. -/
namespace Go.Proofs.Ytogodjiemgilaaa
open Go.RowKit
theorem gt5_yes {p : Int} (h : 5 < L p) : decide ((((dg BB p.natAbs).length : Nat) : Int) > 5) = true := by unfold L at h; rw [decide_eq_true_eq]; omega
theorem gt5_no {p : Int} (h : L p ≤ 5) : decide ((((dg BB p.natAbs).length : Nat) : Int) > 5) = false := by unfold L at h; rw [decide_eq_false_iff_not]; omega
end Go.Proofs.Ytogodjiemgilaaa

/- Fractions: what comes in; the law's shared parts. -/
namespace Go.Proofs.Ytogodjiemgilaaa
open Go.RowKit

/-- a fraction as it came in -/
abbrev FRaw := Raw × Raw
abbrev FRAW (x : FRaw) : VP := VP.agg [VP.bool x.1.1, VP.nums .u32 x.1.2, VP.bool x.2.1, VP.nums .u32 x.2.2]
def fcells : List FRaw → List VP
  | [] => []
  | x :: r => VP.bool x.1.1 :: VP.nums .u32 x.1.2 :: VP.bool x.2.1 :: VP.nums .u32 x.2.2 :: fcells r
def FRaw.ok (x : FRaw) : Prop := x.1.ok ∧ x.2.ok
theorem typed_aint {w : World} {n : Nat} {cs : List Value} (h : Typed Try.prog w n 69 cs) : ∃ x : Raw, x.ok ∧ All2 [VP.bool x.1, VP.nums .u32 x.2] cs w := by
  obtain ⟨m, hl, hf⟩ := h.struct Try.underlying69
  rw [cells_aint] at hl
  obtain ⟨u0, u1, rfl⟩ := two_of hl
  have f0 := hf _ (List.mem_cons_self ..)
  have f1 := hf _ (List.mem_cons_of_mem _ (List.mem_cons_self ..))
  simp only at f0 f1
  rw [cells_bool] at f0
  rw [cells_u32s] at f1
  obtain ⟨s, hs⟩ := f0.bool Try.underlying4
  obtain ⟨a, l, c, hc, h1, h2, h3, h4⟩ := typed_u32s f1
  have e0 : u0 = .bool s := by simpa using hs
  have e1 : u1 = .slice a l.length c := by simpa using hc
  subst e0 e1
  exact ⟨(s, l), h3, rfl, ⟨a, c, rfl, h1, h2, h4⟩, trivial⟩
theorem cells_frac : Try.prog.cellsOf 100 = 4 := by kernel_rfl
theorem four_of {α : Type} {l : List α} (h : l.length = 4) : ∃ a b c d, l = [a, b, c, d] := by
  match l, h with
  | [a, b, c, d], _ => exact ⟨a, b, c, d, rfl⟩
theorem arg_frac {w : World} {v : Value} (h : Arg Try.prog w 100 v) : ∃ x : FRaw, x.ok ∧ (FRAW x).p v w := by
  obtain ⟨cs, m, rfl, hl, hf⟩ := h.struct Try.underlying100
  rw [cells_frac] at hl
  obtain ⟨u0, u1, u2, u3, rfl⟩ := four_of hl
  have f0 := hf _ (List.mem_cons_self ..)
  have f1 := hf _ (List.mem_cons_of_mem _ (List.mem_cons_self ..))
  simp only at f0 f1
  rw [cells_aint] at f0 f1
  obtain ⟨x, hx, p1⟩ := typed_aint f0
  obtain ⟨y, hy, p2⟩ := typed_aint f1
  exact ⟨(x, y), ⟨hx, hy⟩, [u0, u1, u2, u3], rfl, p1.1, p1.2.1, p2.1, p2.2.1, trivial⟩
theorem z_frac_2 (w : World) : All2 [Bz 0, Dz 0, Bz 0, Dz 0, Bz 0, Dz 0, Bz 0, Dz 0] [.bool false, .slice none 0 0, .bool false, .slice none 0 0, .bool false, .slice none 0 0, .bool false, .slice none 0 0] w := ⟨rfl, nums_nil _ _, rfl, nums_nil _ _, rfl, nums_nil _ _, rfl, nums_nil _ _, trivial⟩
theorem z_frac_3 (w : World) : All2 [Bz 0, Dz 0, Bz 0, Dz 0, Bz 0, Dz 0, Bz 0, Dz 0, Bz 0, Dz 0, Bz 0, Dz 0] [.bool false, .slice none 0 0, .bool false, .slice none 0 0, .bool false, .slice none 0 0, .bool false, .slice none 0 0, .bool false, .slice none 0 0, .bool false, .slice none 0 0] w := ⟨rfl, nums_nil _ _, rfl, nums_nil _ _, rfl, nums_nil _ _, rfl, nums_nil _ _, rfl, nums_nil _ _, rfl, nums_nil _ _, trivial⟩

/-- what a fraction that came in is: odd in one of four ways, or a rational number -/
inductive FSt (x : FRaw) : Prop where
  | a (h : [x.1, x.2].any oddP = true)
  | b (p q : Int) (e : x = (raw p, raw q)) (hp : L p ≤ 10) (hq : L q ≤ 10) (hb : 5 < L p)
  | c (p q : Int) (e : x = (raw p, raw q)) (hp : L p ≤ 5) (hq : L q ≤ 10) (hb : 5 < L q)
  | d (p q : Int) (e : x = (raw p, raw q)) (hp : L p ≤ 5) (hq : L q ≤ 5) (hb : rightF p q = false)
  | e (r : Rat) (e : x = (raw r.num, raw (fD r.den))) (h : LR r 5)
theorem fst (x : FRaw) : FSt x := by
  cases h : [x.1, x.2].any oddP
  · have hall := List.any_eq_false.1 h
    obtain ⟨p, l1, e1⟩ := raw_right (x := x.1) (by simpa using hall x.1 (by simp))
    obtain ⟨q, l2, e2⟩ := raw_right (x := x.2) (by simpa using hall x.2 (by simp))
    have e : x = (raw p, raw q) := Prod.ext e1 e2
    by_cases g1 : 5 < L p
    · exact .b p q e l1 l2 g1
    · by_cases g2 : 5 < L q
      · exact .c p q e (by omega) l2 g2
      · cases g3 : rightF p q
        · exact .d p q e (by omega) (by omega) g3
        · obtain ⟨r, h1, h2⟩ := rightF_rat g3
          subst h1 h2
          refine .e r e ⟨by omega, ?_⟩
          by_cases h1 : (r.den : Int) = 1
          · rw [h1]; exact Nat.le_trans lone (by decide)
          · have : fD r.den = (r.den : Int) := by unfold fD fU; rw [if_neg h1]
            rw [← this]; omega
  · exact .a h
abbrev Odd2 (x y : FRaw) (b : Bool) : Prop := Spec Try.prog 73 [isRows 2 (fcells [x, y])] (VP.bool b)
abbrev Odd3 (x y z : FRaw) (b : Bool) : Prop := Spec Try.prog 73 [isRows 3 (fcells [x, y, z])] (VP.bool b)
theorem sp2_1 : ((qtxt (Rat.divInt 6 (-4))).toList == (ByteArray.mk #[45, 51, 47, 50]).toList) = true := by
  rw [show qtxt (Rat.divInt 6 (-4)) = (ByteArray.mk #[45, 51, 47, 50]) from by rfl]; exact beq_self_eq_true _
theorem sp2_2 : ((txt ((Rat.divInt 6 (-4)).floor)).toList == (ByteArray.mk #[45, 50]).toList) = true := by
  rw [show txt ((Rat.divInt 6 (-4)).floor) = (ByteArray.mk #[45, 50]) from by rfl]; exact beq_self_eq_true _
theorem sp2_3 : (decide (((Rat.divInt 6 (-4)).floor : Rat) = (Rat.divInt 6 (-4)))) = false := by decide +kernel
set_option maxRecDepth 100000 in
set_option maxHeartbeats 4000000 in
theorem sp2_spec  : Spec Try.prog 72 [] (VP.bool true) := by
  refine spec_of (xs := []) 24 [1, 2] Try.func72 rfl Try.ntmps72 rfl fun w0 => ?_
  refine t_seq ?_
  refine t_region (F := ⟨_, _, _, _⟩) [] [] [(0, .slot 0 (VP.bool false))] [] [] rfl rfl follow rfl ⟨
    .inl ⟨wants_plain rfl, does_move _ (.inr rfl) rfl rfl rfl rfl (ar_const (fun _ => rfl))⟩,
    trivial⟩ ?_
  refine nx_sub (fs' := [.slot 0 (VP.bool false)]) [0] rfl ?_
  refine nx_then ?_
  refine t_seq ?_
  refine t_region (F := ⟨_, _, _, _⟩) [.slot 0 (VP.bool false)] [] [(0, .slot 4 (INT 6)), (1, .slot 5 (INT (-4))), (2, .slot 6 (RAT (Rat.divInt 6 (-4)))), (3, .own 1 100 4), (4, .box 1 100 [Bz ((Rat.divInt 6 (-4)).num), Dz ((Rat.divInt 6 (-4)).num), Bz (fD (Rat.divInt 6 (-4)).den), Dz (fD (Rat.divInt 6 (-4)).den)])] [0] [] rfl rfl follow rfl ⟨
    .inl ⟨wants_plain rfl, does_call (s_of 6 (by decide) (by decide)) rfl hb_collator_whole_Of rfl rfl rfl rfl ⟨(ar_const (fun _ => rfl)), trivial⟩⟩,
    .inl ⟨wants_plain rfl, does_call (s_of (-4) (by decide) (by decide)) rfl hb_collator_whole_Of rfl rfl rfl rfl ⟨(ar_const (fun _ => rfl)), trivial⟩⟩,
    .inl ⟨wants_plain rfl, does_call (q_make 6 (-4) (lle (lsmall 6 (by decide)) (by decide)) (lle (lsmall (-4) (by decide)) (by decide))) rfl hb_collator_frac_Make rfl rfl rfl rfl ⟨(ar_tmp (av_rs 0 rfl rfl)), (ar_tmp (av_rs 1 rfl rfl)), trivial⟩⟩,
    .inl ⟨wants_plain rfl, does_allocOwn [Bz 0, Dz 0, Bz 0, Dz 0] ty_zero_api_Frac rfl rfl rfl rfl rfl z_frac rfl⟩,
    .inl ⟨wants_plain rfl, does_storeNew 4 _ _ ty_agg_api_Frac rfl rfl rfl rfl rfl (pt_own (av_rs 3 rfl rfl)) (av_rs 3 rfl rfl) (ar_tmp (av_rs 2 rfl rfl))⟩,
    trivial⟩ ?_
  refine nx_sub (fs' := [.slot 0 (VP.bool false), .box 1 100 [Bz ((Rat.divInt 6 (-4)).num), Dz ((Rat.divInt 6 (-4)).num), Bz (fD (Rat.divInt 6 (-4)).den), Dz (fD (Rat.divInt 6 (-4)).den)]]) [0, 5] rfl ?_
  refine nx_then ?_
  refine t_seq ?_
  refine t_region (F := ⟨_, _, _, _⟩) [.slot 0 (VP.bool false), .box 1 100 [Bz ((Rat.divInt 6 (-4)).num), Dz ((Rat.divInt 6 (-4)).num), Bz (fD (Rat.divInt 6 (-4)).den), Dz (fD (Rat.divInt 6 (-4)).den)]] [] [(0, .slot 8 (RAT (Rat.divInt 6 (-4)))), (1, .slot 9 (VP.tup [INT ((Rat.divInt 6 (-4)).floor), VP.bool (decide (((Rat.divInt 6 (-4)).floor : Rat) = (Rat.divInt 6 (-4))))])), (2, .slot 7 (VP.tup [INT ((Rat.divInt 6 (-4)).floor), VP.bool (decide (((Rat.divInt 6 (-4)).floor : Rat) = (Rat.divInt 6 (-4))))])), (3, .slot 10 (INT ((Rat.divInt 6 (-4)).floor))), (4, .slot 11 (VP.bool (decide (((Rat.divInt 6 (-4)).floor : Rat) = (Rat.divInt 6 (-4)))))), (5, .own 2 69 2), (6, .box 2 69 [Bz ((Rat.divInt 6 (-4)).floor), Dz ((Rat.divInt 6 (-4)).floor)]), (7, .slot 3 (VP.bool (decide (((Rat.divInt 6 (-4)).floor : Rat) = (Rat.divInt 6 (-4))))))] [0, 1] [] rfl rfl follow rfl ⟨
    .inl ⟨wants_plain rfl, does_loadAgg _ ty_agg_api_Frac rfl rfl rfl rfl rfl rfl (pt_box (av_fs 1 rfl)) (av_fs 1 rfl)⟩,
    .inl ⟨wants_plain rfl, does_call (q_floor (Rat.divInt 6 (-4)) (LR.le (LR.div (lsmall 6 (by decide)) (lsmall (-4) (by decide)) (by decide)) (by decide))) rfl hb_collator_frac_Floor rfl rfl rfl rfl ⟨(ar_tmp (av_rs 0 rfl rfl)), trivial⟩⟩,
    .inl ⟨wants_plain rfl, does_move _ (.inl rfl) rfl rfl rfl rfl (ar_tmp (av_rs 1 rfl rfl))⟩,
    .inl ⟨wants_plain rfl, does_extract (ps := [INT ((Rat.divInt 6 (-4)).floor), VP.bool (decide (((Rat.divInt 6 (-4)).floor : Rat) = (Rat.divInt 6 (-4))))]) _ _ rfl rfl rfl rfl rfl (ar_tmp (av_rs 2 rfl rfl)) rfl⟩,
    .inl ⟨wants_plain rfl, does_extract (ps := [INT ((Rat.divInt 6 (-4)).floor), VP.bool (decide (((Rat.divInt 6 (-4)).floor : Rat) = (Rat.divInt 6 (-4))))]) _ _ rfl rfl rfl rfl rfl (ar_tmp (av_rs 2 rfl rfl)) rfl⟩,
    .inl ⟨wants_plain rfl, does_allocOwn [Bz 0, Dz 0] ty_zero_api_Int rfl rfl rfl rfl rfl z_int rfl⟩,
    .inl ⟨wants_plain rfl, does_storeNew 2 _ _ ty_agg_api_Int rfl rfl rfl rfl rfl (pt_own (av_rs 5 rfl rfl)) (av_rs 5 rfl rfl) (ar_tmp (av_rs 3 rfl rfl))⟩,
    .inl ⟨wants_plain rfl, does_move _ (.inr rfl) rfl rfl rfl rfl (ar_tmp (av_rs 4 rfl rfl))⟩,
    trivial⟩ ?_
  refine nx_sub (fs' := [.slot 0 (VP.bool false), .box 1 100 [Bz ((Rat.divInt 6 (-4)).num), Dz ((Rat.divInt 6 (-4)).num), Bz (fD (Rat.divInt 6 (-4)).den), Dz (fD (Rat.divInt 6 (-4)).den)], .box 2 69 [Bz ((Rat.divInt 6 (-4)).floor), Dz ((Rat.divInt 6 (-4)).floor)], .slot 3 (VP.bool (decide (((Rat.divInt 6 (-4)).floor : Rat) = (Rat.divInt 6 (-4)))))]) [0, 1, 8, 9] rfl ?_
  refine nx_then ?_
  refine t_seq ?_
  refine t_region (F := ⟨_, _, _, _⟩) [.box 1 100 [Bz ((Rat.divInt 6 (-4)).num), Dz ((Rat.divInt 6 (-4)).num), Bz (fD (Rat.divInt 6 (-4)).den), Dz (fD (Rat.divInt 6 (-4)).den)], .box 2 69 [Bz ((Rat.divInt 6 (-4)).floor), Dz ((Rat.divInt 6 (-4)).floor)], .slot 3 (VP.bool (decide (((Rat.divInt 6 (-4)).floor : Rat) = (Rat.divInt 6 (-4)))))] [(12, .slot 0 (VP.bool false))] [(0, .slot 12 (RAT (Rat.divInt 6 (-4)))), (1, .slot 13 (VP.str (qtxt (Rat.divInt 6 (-4))))), (2, .slot 14 (VP.bool ((qtxt (Rat.divInt 6 (-4))).toList == (ByteArray.mk #[45, 51, 47, 50]).toList))), (3, .slot 15 (VP.bool ((qtxt (Rat.divInt 6 (-4))).toList == (ByteArray.mk #[45, 51, 47, 50]).toList))), (4, .slot 16 (INT ((Rat.divInt 6 (-4)).floor))), (5, .slot 17 (VP.str (txt ((Rat.divInt 6 (-4)).floor)))), (6, .slot 18 (VP.bool ((txt ((Rat.divInt 6 (-4)).floor)).toList == (ByteArray.mk #[45, 50]).toList))), (7, .slot 19 (VP.bool ((txt ((Rat.divInt 6 (-4)).floor)).toList == (ByteArray.mk #[45, 50]).toList))), (8, .slot 20 (VP.bool ((txt ((Rat.divInt 6 (-4)).floor)).toList == (ByteArray.mk #[45, 50]).toList))), (9, .slot 21 (VP.bool (decide (((Rat.divInt 6 (-4)).floor : Rat) = (Rat.divInt 6 (-4)))))), (10, .slot 22 (VP.bool true)), (11, .slot 23 (VP.bool true)), (12, .slot 0 (VP.bool true))] [1, 2, 3] [0] rfl rfl follow rfl ⟨
    .inl ⟨wants_plain rfl, does_loadAgg _ ty_agg_api_Frac rfl rfl rfl rfl rfl rfl (pt_box (av_fs 0 rfl)) (av_fs 0 rfl)⟩,
    .inl ⟨wants_plain rfl, does_call (q_text (Rat.divInt 6 (-4)) (LR.le (LR.div (lsmall 6 (by decide)) (lsmall (-4) (by decide)) (by decide)) (by decide))) rfl hb_collator_frac_Text rfl rfl rfl rfl ⟨(ar_tmp (av_rs 0 rfl rfl)), trivial⟩⟩,
    .inl ⟨wants_plain rfl, does_eqStr (u := (qtxt (Rat.divInt 6 (-4)))) (v := (ByteArray.mk #[45, 51, 47, 50])) _ _ _ _ _ rfl rfl rfl rfl rfl rfl (ar_tmp (av_rs 1 rfl rfl)) (ar_const (fun _ => rfl))⟩,
    .inl ⟨wants_plain rfl, does_move _ (.inl rfl) rfl rfl rfl rfl (ar_tmp (av_rs 2 rfl rfl))⟩,
    .inl ⟨wants_guard true rfl rfl rfl (av_bool sp2_1 (av_rs 3 rfl rfl)), does_loadAgg _ ty_agg_api_Int rfl rfl rfl rfl rfl rfl (pt_box (av_fs 1 rfl)) (av_fs 1 rfl)⟩,
    .inl ⟨wants_guard true rfl rfl rfl (av_bool sp2_1 (av_rs 3 rfl rfl)), does_call (s_text ((Rat.divInt 6 (-4)).floor) (lle (lrfloor (LR.div (lsmall 6 (by decide)) (lsmall (-4) (by decide)) (by decide))) (by decide))) rfl hb_collator_whole_Text rfl rfl rfl rfl ⟨(ar_tmp (av_rs 4 rfl rfl)), trivial⟩⟩,
    .inl ⟨wants_guard true rfl rfl rfl (av_bool sp2_1 (av_rs 3 rfl rfl)), does_eqStr (u := (txt ((Rat.divInt 6 (-4)).floor))) (v := (ByteArray.mk #[45, 50])) _ _ _ _ _ rfl rfl rfl rfl rfl rfl (ar_tmp (av_rs 5 rfl rfl)) (ar_const (fun _ => rfl))⟩,
    .inl ⟨wants_plain rfl, does_pick true _ _ _ rfl rfl rfl rfl rfl (ar_tmp (av_bool sp2_1 (av_rs 3 rfl rfl))) (ar_tmp (av_rs 6 rfl rfl))⟩,
    .inl ⟨wants_plain rfl, does_move _ (.inl rfl) rfl rfl rfl rfl (ar_tmp (av_rs 7 rfl rfl))⟩,
    .inl ⟨wants_guard true rfl rfl rfl (av_bool sp2_2 (av_rs 8 rfl rfl)), does_move _ (.inl rfl) rfl rfl rfl rfl (ar_tmp (av_fs 2 rfl))⟩,
    .inl ⟨wants_guard true rfl rfl rfl (av_bool sp2_2 (av_rs 8 rfl rfl)), does_not false _ _ rfl rfl rfl rfl rfl (ar_tmp (av_bool sp2_3 (av_rs 9 rfl rfl)))⟩,
    .inl ⟨wants_plain rfl, does_pick true _ _ _ rfl rfl rfl rfl rfl (ar_tmp (av_bool sp2_2 (av_rs 8 rfl rfl))) (ar_tmp (av_rs 10 rfl rfl))⟩,
    .inl ⟨wants_plain rfl, does_move _ (.inr rfl) rfl rfl rfl rfl (ar_tmp (av_rs 11 rfl rfl))⟩,
    trivial⟩ ?_
  refine nx_sub (fs' := [.slot 0 (VP.bool true)]) [15] rfl ?_
  refine nx_then ?_
  refine t_ret ?_
  exact rt_one rfl (res_tmp 0 rfl)
end Go.Proofs.Ytogodjiemgilaaa
