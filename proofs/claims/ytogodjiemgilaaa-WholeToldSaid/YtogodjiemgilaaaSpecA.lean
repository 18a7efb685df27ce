/- What the functions on integers do, in the words of the logic over slots and boxes. -/
import Derived.Test.YtogodjiemgilaaaHLD
import Derived.Test.YtogodjiemgilaaaWholeRulesA
import Derived.Test.YtogodjiemgilaaaRef1H
namespace Go.Proofs.Ytogodjiemgilaaa
open Go.RowKit

section
variable {P : Program} {f : FuncId} {x : VP}
theorem spec0 (h : ∀ w, Calls P f #[] w fun e w' => ∃ v, e = .returned v ∧ x.p v w' ∧ Ext w w') : Spec P f [] x := by
  intro vs w hs _
  obtain rfl : vs = #[] := Array.eq_empty_of_size_eq_zero hs
  exact h w
theorem spec1 {q1 : Value → World → Prop} (h : ∀ v1 w, q1 v1 w → Calls P f #[v1] w fun e w' => ∃ v, e = .returned v ∧ x.p v w' ∧ Ext w w') : Spec P f [q1] x := by
  intro vs w hs hv
  obtain ⟨v1, h1, p1⟩ := hv 0 q1 rfl
  obtain rfl : vs = #[v1] := by
    apply Array.ext (by simpa using hs)
    intro j hj hj2
    have : j = 0 := by simp at hj2; omega
    subst this
    rw [Array.getElem?_eq_getElem hj] at h1
    exact Option.some.inj h1
  exact h v1 w p1
theorem spec2 {q1 q2 : Value → World → Prop} (h : ∀ v1 v2 w, q1 v1 w → q2 v2 w → Calls P f #[v1, v2] w fun e w' => ∃ v, e = .returned v ∧ x.p v w' ∧ Ext w w') : Spec P f [q1, q2] x := by
  intro vs w hs hv
  obtain ⟨v1, h1, p1⟩ := hv 0 q1 rfl
  obtain ⟨v2, h2, p2⟩ := hv 1 q2 rfl
  obtain rfl : vs = #[v1, v2] := by
    apply Array.ext (by simpa using hs)
    intro j hj hj2
    have : j = 0 ∨ j = 1 := by simp at hj2; omega
    rcases this with rfl | rfl
    · rw [Array.getElem?_eq_getElem hj] at h1; exact Option.some.inj h1
    · rw [Array.getElem?_eq_getElem hj] at h2; exact Option.some.inj h2
  exact h v1 v2 w p1 p2
end

abbrev Bz (z : Int) : VP := VP.bool (decide (z < 0))
abbrev Dz (z : Int) : VP := VP.nums .u32 (dg BB z.natAbs)
abbrev Tz (z : Int) : VP := VP.nums .i64 (dg 10 z.natAbs)
abbrev INT (z : Int) : VP := VP.agg [Bz z, Dz z]
abbrev NUM (z : Int) : VP := VP.agg [Bz z, Tz z]
theorem int_open {z : Int} {v : Value} {w : World} (h : (INT z).p v w) : ∃ a c, v = .agg #[.bool (decide (z < 0)), .slice a (dg BB z.natAbs).length c] ∧ IsInt w z a c := by
  obtain ⟨cs, rfl, h⟩ := h
  match cs, h with
  | [u, v], ⟨h1, ⟨a, c, h2, h3, h4, h5⟩, _⟩ =>
    have h1 : u = .bool (decide (z < 0)) := h1
    subst h1 h2
    exact ⟨a, c, rfl, h3, h4, h5⟩
theorem int_shut {z : Int} {w : World} {a : Option Addr} {c : Nat} (h : IsInt w z a c) : (INT z).p (.agg #[.bool (decide (z < 0)), .slice a (dg BB z.natAbs).length c]) w :=
  ⟨[.bool (decide (z < 0)), .slice a (dg BB z.natAbs).length c], rfl, rfl, ⟨a, c, rfl, h.1, h.2.1, h.2.2⟩, trivial⟩
theorem num_open {z : Int} {v : Value} {w : World} (h : (NUM z).p v w) : ∃ a c, v = .agg #[.bool (decide (z < 0)), .slice a (dg 10 z.natAbs).length c] ∧ IsNum w z a c := by
  obtain ⟨cs, rfl, h⟩ := h
  match cs, h with
  | [u, v], ⟨h1, ⟨a, c, h2, h3, h4, h5⟩, _⟩ =>
    have h1 : u = .bool (decide (z < 0)) := h1
    subst h1 h2
    exact ⟨a, c, rfl, h3, h4, h5⟩
theorem num_shut {z : Int} {w : World} {a : Option Addr} {c : Nat} (h : IsNum w z a c) : (NUM z).p (.agg #[.bool (decide (z < 0)), .slice a (dg 10 z.natAbs).length c]) w :=
  ⟨[.bool (decide (z < 0)), .slice a (dg 10 z.natAbs).length c], rfl, rfl, ⟨a, c, rfl, h.1, h.2.1, h.2.2⟩, trivial⟩
theorem gotint_shut {W : World} {z : Int} {e : Ending} {w' : World} (h : GotInt W z e w') : ∃ v, e = .returned v ∧ (INT z).p v w' ∧ Ext W w' := by
  obtain ⟨a, c, h1, h2, h3, h4, h5, _⟩ := h
  exact ⟨_, h1, int_shut ⟨h2, h3, h4⟩, h5⟩
theorem gi_shut {W : World} {z : Int} {e : Ending} {w' : World} (h : GI z W e w') : ∃ v, e = .returned v ∧ (INT z).p v w' ∧ Ext W w' := by
  obtain ⟨a, c, h1, h2, h3⟩ := h
  exact ⟨_, h1, int_shut h2, h3⟩
theorem gotnum_shut {W : World} {z : Int} {e : Ending} {w' : World} (h : GotNum z W e w') : ∃ v, e = .returned v ∧ (NUM z).p v w' ∧ Ext W w' := by
  obtain ⟨a, c, h1, h2, h3⟩ := h
  exact ⟨_, h1, num_shut h2, h3⟩

/-- how many digits an integer has -/
abbrev L (z : Int) : Nat := (dg BB z.natAbs).length
theorem ladd {x y : Int} {a b : Nat} (h : L x ≤ a) (k : L y ≤ b) : L (x + y) ≤ a + b + 1 := by have := len_add x y; unfold L at *; omega
theorem lmul {x y : Int} {a b : Nat} (h : L x ≤ a) (k : L y ≤ b) : L (x * y) ≤ a + b := by have := len_mul x y; unfold L at *; omega
theorem lneg {x : Int} {a : Nat} (h : L x ≤ a) : L (-x) ≤ a := by have := len_neg x; unfold L at *; omega
theorem ldiv {x y : Int} {a : Nat} (h : L x ≤ a) : L (divZ x y) ≤ a := Nat.le_trans (len_div x y) h
theorem lmod {x y : Int} {a : Nat} (h : L y ≤ a) : L (modZ x y) ≤ a := Nat.le_trans (len_mod x y) h
/-- the greatest number that divides both -/
abbrev gcdZ (x y : Int) : Int := ((Nat.gcd x.natAbs y.natAbs : Nat) : Int)
theorem lgcd {x y : Int} {a b : Nat} (h : L x ≤ a) (k : L y ≤ b) : L (gcdZ x y) ≤ a + b := by have := len_gcd x y; unfold L gcdZ at *; omega
theorem lone : L 1 ≤ 1 := by unfold L; rw [show (1 : Int).natAbs = 1 from rfl, dg_one BB_gt (by decide) BB_gt]; exact Nat.le_refl _
theorem lzero : L 0 ≤ 0 := Nat.le_refl _
theorem l10 {z : Int} {a : Nat} (h : L z ≤ a) : (dg 10 z.natAbs).length ≤ 9 * a := dg10_len _ _ h
theorem lle {z : Int} {a b : Nat} (h : L z ≤ a) (k : a ≤ b) : L z ≤ b := Nat.le_trans h k
theorem n10 {z : Int} {a b : Nat} (h : L z ≤ a) (k : 9 * a ≤ b) : (dg 10 z.natAbs).length ≤ b := Nat.le_trans (l10 h) k

theorem s_add (x y : Int) (h1 : L x ≤ 100000) (h2 : L y ≤ 100000) : Spec Try.prog 52 [(INT x).p, (INT y).p] (INT (x + y)) :=
  spec2 fun v1 v2 w p1 p2 => by
    obtain ⟨a, c, rfl, i1⟩ := int_open p1
    obtain ⟨b, d, rfl, i2⟩ := int_open p2
    exact (addz_walk x y a b c d w h1 h2 i1 i2).mono fun e w' h => gotint_shut h
theorem s_mul (x y : Int) (h1 : L x ≤ 100000) (h2 : L y ≤ 100000) : Spec Try.prog 55 [(INT x).p, (INT y).p] (INT (x * y)) :=
  spec2 fun v1 v2 w p1 p2 => by
    obtain ⟨a, c, rfl, i1⟩ := int_open p1
    obtain ⟨b, d, rfl, i2⟩ := int_open p2
    exact (mulz_walk x y a b c d w h1 h2 i1 i2).mono fun e w' h => gotint_shut h
theorem s_neg (x : Int) (h1 : L x ≤ 100000) : Spec Try.prog 57 [(INT x).p] (INT (-x)) :=
  spec1 fun v1 w p1 => by
    obtain ⟨a, c, rfl, i1⟩ := int_open p1
    exact (neg_walk x a c w (by unfold L at *; omega) i1).mono fun e w' h => gotint_shut h
theorem s_cmp (x y : Int) (h1 : L x ≤ 100000) (h2 : L y ≤ 100000) : Spec Try.prog 61 [(INT x).p, (INT y).p] (VP.int .i64 (cmpZ x y)) :=
  spec2 fun v1 v2 w p1 p2 => by
    obtain ⟨a, c, rfl, i1⟩ := int_open p1
    obtain ⟨b, d, rfl, i2⟩ := int_open p2
    exact (cmpz_walk x y a b c d w (by unfold L at *; omega) (by unfold L at *; omega) i1 i2).mono fun e w' h => ⟨_, h.1, rfl, h.2⟩
theorem s_div (x y : Int) (h1 : L x ≤ 100000) (h2 : L y ≤ 100000) : Spec Try.prog 49 [(INT x).p, (INT y).p] (VP.tup [INT (divZ x y), INT (modZ x y)]) :=
  spec2 fun v1 v2 w p1 p2 => by
    obtain ⟨a, c, rfl, i1⟩ := int_open p1
    obtain ⟨b, d, rfl, i2⟩ := int_open p2
    refine (divz_walk x y a b c d w h1 h2 i1 i2).mono fun e w' h => ?_
    obtain ⟨a1, c1, b1, d1, e1, e2, e3, e4, _⟩ := h
    exact ⟨_, e1, ⟨[_, _], rfl, int_shut e2, int_shut e3, trivial⟩, e4⟩
theorem s_gcd (x y : Int) (h1 : L x ≤ 100000) (h2 : L y ≤ 100000) : Spec Try.prog 59 [(INT x).p, (INT y).p] (INT (gcdZ x y)) :=
  spec2 fun v1 v2 w p1 p2 => by
    obtain ⟨a, c, rfl, i1⟩ := int_open p1
    obtain ⟨b, d, rfl, i2⟩ := int_open p2
    exact (gcdz_walk x y a b c d w h1 h2 i1 i2).mono fun e w' h => gotint_shut h
theorem s_of (n : Int) (h1 : -9223372036854775808 ≤ n) (h2 : n < 9223372036854775808) : Spec Try.prog 66 [(VP.int .i64 n).p] (INT n) :=
  spec1 fun v1 w p1 => by
    have p1 : v1 = .int .i64 n := p1
    subst p1
    exact (ofi_walk n w h1 h2).mono fun e w' h => gotint_shut h
theorem s_text (x : Int) (h1 : L x ≤ 100000) : Spec Try.prog 63 [(INT x).p] (VP.str (txt x)) :=
  spec1 fun v1 w p1 => by
    obtain ⟨a, c, rfl, i1⟩ := int_open p1
    exact (textz_walk x a c w h1 i1).mono fun e w' h => ⟨_, h.1, rfl, h.2⟩

theorem r_of (x : Int) (h1 : L x ≤ 100000) : Spec Try.prog 48 [(INT x).p] (NUM x) :=
  spec1 fun v1 w p1 => by
    obtain ⟨a, c, rfl, i1⟩ := int_open p1
    exact (rof_walk x a c w h1 i1).mono fun e w' h => gotnum_shut h
theorem r_form (x : Int) (h1 : (dg 10 x.natAbs).length ≤ 100000) : Spec Try.prog 53 [(NUM x).p] (INT x) :=
  spec1 fun v1 w p1 => by
    obtain ⟨a, c, rfl, i1⟩ := num_open p1
    exact (rform_walk x a c w h1 i1).mono fun e w' h => gi_shut h
theorem r_add (x y : Int) (h1 : (dg 10 x.natAbs).length ≤ 100000) (h2 : (dg 10 y.natAbs).length ≤ 100000) : Spec Try.prog 54 [(NUM x).p, (NUM y).p] (NUM (x + y)) :=
  spec2 fun v1 v2 w p1 p2 => by
    obtain ⟨a, c, rfl, i1⟩ := num_open p1
    obtain ⟨b, d, rfl, i2⟩ := num_open p2
    exact (raddz_walk x y a b c d w h1 h2 i1 i2).mono fun e w' h => gotnum_shut h
theorem r_mul (x y : Int) (h1 : (dg 10 x.natAbs).length ≤ 100000) (h2 : (dg 10 y.natAbs).length ≤ 100000) : Spec Try.prog 56 [(NUM x).p, (NUM y).p] (NUM (x * y)) :=
  spec2 fun v1 v2 w p1 p2 => by
    obtain ⟨a, c, rfl, i1⟩ := num_open p1
    obtain ⟨b, d, rfl, i2⟩ := num_open p2
    exact (rmul_walk x y a b c d w h1 h2 i1 i2).mono fun e w' h => gotnum_shut h
theorem r_neg (x : Int) : Spec Try.prog 58 [(NUM x).p] (NUM (-x)) :=
  spec1 fun v1 w p1 => by
    obtain ⟨a, c, rfl, i1⟩ := num_open p1
    exact (rneg_walk x a c w i1).mono fun e w' h => gotnum_shut h
theorem r_cmp (x y : Int) (h1 : (dg 10 x.natAbs).length ≤ 100000) (h2 : (dg 10 y.natAbs).length ≤ 100000) : Spec Try.prog 62 [(NUM x).p, (NUM y).p] (VP.int .i64 (cmpZ x y)) :=
  spec2 fun v1 v2 w p1 p2 => by
    obtain ⟨a, c, rfl, i1⟩ := num_open p1
    obtain ⟨b, d, rfl, i2⟩ := num_open p2
    exact (rcmpz_walk x y a b c d w (by omega) (by omega) i1 i2).mono fun e w' h => ⟨_, h.1, rfl, h.2⟩
theorem r_int (n : Int) (h1 : -4611686018427387904 ≤ n) (h2 : n ≤ 4611686018427387904) : Spec Try.prog 71 [(VP.int .i64 n).p] (NUM n) :=
  spec1 fun v1 w p1 => by
    have p1 : v1 = .int .i64 n := p1
    subst p1
    exact (rint_walk n w h1 h2).mono fun e w' h => gotnum_shut h
theorem r_text (x : Int) (h1 : (dg 10 x.natAbs).length ≤ 100000) : Spec Try.prog 64 [(NUM x).p] (VP.str (txt x)) :=
  spec1 fun v1 w p1 => by
    obtain ⟨a, c, rfl, i1⟩ := num_open p1
    exact (rtext_walk x a c w h1 i1).mono fun e w' h => ⟨_, h.1, rfl, h.2⟩
theorem r_make1 (s : Bool) (n : Nat) : Spec Try.prog 117 [(VP.bool s).p, (VP.nums .i64 (dg 10 n)).p] (NUM (sz s n)) :=
  spec2 fun v1 v2 w p1 p2 => by
    have p1 : v1 = .bool s := p1
    obtain ⟨a, c, rfl, h2, h3, h4⟩ := p2
    subst p1
    refine (rmk_walk s n a c w h2 h3 h4).mono fun e w' h => ⟨_, h.1, ?_, h.2⟩
    exact ⟨[_, _], rfl, rfl, ⟨a, c, by rw [sz_abs], by rw [sz_abs]; exact h2, h3, by rw [sz_abs]; exact (show Rd w a (ks .i64 (dg 10 n)) from h4).ext h.2⟩, trivial⟩
theorem r_makeQ (s : Bool) (n m k : Nat) (h : n < 10 ^ k) (hk : k ≤ 100000) : Spec Try.prog 117 [(VP.bool s).p, (VP.nums .i64 (fixd 10 k (n / m))).p] (NUM (sz s (n / m))) :=
  spec2 fun v1 v2 w p1 p2 => by
    have p1 : v1 = .bool s := p1
    obtain ⟨a, c, rfl, h2, h3, h4⟩ := p2
    subst p1
    have hv : val 10 (fixd 10 k (n / m)) = n / m := by rw [fixd_val]; exact Nat.mod_eq_of_lt (Nat.lt_of_le_of_lt (Nat.div_le_self _ _) h)
    have hw := rmake1_walk s a c (fixd 10 k (n / m)) (fixd 10 k (n / m)).length w (fun d hd => fixd_lt ten_gt hd) rfl h2 h3 h4
    rw [hv] at hw
    refine hw.mono fun e w' h5 => ⟨_, h5.1, ?_, h5.2⟩
    have hl : (dg 10 (n / m)).length ≤ (fixd 10 k (n / m)).length := by
      rw [fixd_len, dg_len_le ten_gt]; exact Nat.lt_of_le_of_lt (Nat.div_le_self _ _) h
    have h6 : Rd w a (ks .i64 (dg 10 (n / m))) := by
      have h7 := (show Rd w a (ks .i64 (fixd 10 k (n / m))) from h4).take (stripN (fixd 10 k (n / m)) (fixd 10 k (n / m)).length)
      rw [ks_take] at h7
      rwa [show (fixd 10 k (n / m)).take (stripN (fixd 10 k (n / m)) (fixd 10 k (n / m)).length) = dg 10 (n / m) from by
        have := strip_fixd ten_gt k (n / m) (Nat.lt_of_le_of_lt (Nat.div_le_self _ _) h)
        exact this] at h7
    exact ⟨[_, _], rfl, rfl, ⟨a, c, by rw [sz_abs], by rw [sz_abs]; omega, h3, by rw [sz_abs]; exact h6.ext h5.2⟩, trivial⟩
/-- Same, at two integers -/
theorem r_same (x y : Int) (h1 : L x ≤ 100000) (h2 : L y ≤ 100000) : Spec Try.prog 51 [(INT x).p, (INT y).p] (VP.bool (decide (x = y))) :=
  spec2 fun v1 v2 w p1 p2 => by
    obtain ⟨a, c, rfl, i1⟩ := int_open p1
    obtain ⟨b, d, rfl, i2⟩ := int_open p2
    refine (rsame_walk (decide (x < 0)) (decide (y < 0)) (dg BB x.natAbs) (dg BB y.natAbs) a b c d w (by unfold L at *; omega) (by unfold L at *; omega) i1.2.2 i2.2.2).mono fun e w' h => ⟨_, h.1, ?_, h.2⟩
    show Value.bool _ = Value.bool _
    congr 1
    rw [Bool.eq_iff_iff]
    simp only [decide_eq_true_eq]
    constructor
    · rintro ⟨h3, h4⟩
      have h5 := dg_inj BB_gt h4
      have : (x < 0) ↔ (y < 0) := by
        constructor
        · intro h; rw [decide_eq_true h] at h3; exact of_decide_eq_true h3.symm
        · intro h; rw [decide_eq_true h] at h3; exact of_decide_eq_true h3
      omega
    · rintro rfl; exact ⟨rfl, rfl⟩
end Go.Proofs.Ytogodjiemgilaaa
