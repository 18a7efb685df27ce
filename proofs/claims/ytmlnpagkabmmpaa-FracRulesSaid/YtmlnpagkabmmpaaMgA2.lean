/- Part of the proof that a law returns true for all that comes in, and that what came in reads as it did. No condition. -/
import Derived.Deep.Cut
import Derived.Test.YtmlnpagkabmmpaaMgA1
/- What the functions on integers do, in the words of the logic over slots and boxes. -/
namespace Go.Proofs.Ytmlnpagkabmmpaa
open Go.RowKit

section
variable {P : Program} {f : FuncId} {x : VP}
theorem spec0 (h : ∀ w, Calls P f #[] w fun e w' => ∃ v, e = .returned v ∧ x.p v w' ∧ Ext w w') : Spec P f [] x := by
  intro vs w hs _
  obtain rfl : vs = #[] := Array.eq_empty_of_size_eq_zero hs
  exact h w
theorem spec1 {q1 : Value → World → Prop} (h : ∀ v1 w, q1 v1 w → Calls P f #[v1] w fun e w' => ∃ v, e = .returned v ∧ x.p v w' ∧ Ext w w') : Spec P f [q1] x := by
  intro vs w hs hv
  obtain ⟨v1, h1, p1⟩ := hv 0 q1 rfl
  obtain rfl : vs = #[v1] := by
    apply Array.ext (by simpa using hs)
    intro j hj hj2
    have : j = 0 := by simp at hj2; omega
    subst this
    rw [Array.getElem?_eq_getElem hj] at h1
    exact Option.some.inj h1
  exact h v1 w p1
theorem spec2 {q1 q2 : Value → World → Prop} (h : ∀ v1 v2 w, q1 v1 w → q2 v2 w → Calls P f #[v1, v2] w fun e w' => ∃ v, e = .returned v ∧ x.p v w' ∧ Ext w w') : Spec P f [q1, q2] x := by
  intro vs w hs hv
  obtain ⟨v1, h1, p1⟩ := hv 0 q1 rfl
  obtain ⟨v2, h2, p2⟩ := hv 1 q2 rfl
  obtain rfl : vs = #[v1, v2] := by
    apply Array.ext (by simpa using hs)
    intro j hj hj2
    have : j = 0 ∨ j = 1 := by simp at hj2; omega
    rcases this with rfl | rfl
    · rw [Array.getElem?_eq_getElem hj] at h1; exact Option.some.inj h1
    · rw [Array.getElem?_eq_getElem hj] at h2; exact Option.some.inj h2
  exact h v1 v2 w p1 p2
end

abbrev Bz (z : Int) : VP := VP.bool (decide (z < 0))
abbrev Dz (z : Int) : VP := VP.nums .u32 (dg BB z.natAbs)
abbrev Tz (z : Int) : VP := VP.nums .i64 (dg 10 z.natAbs)
abbrev INT (z : Int) : VP := VP.agg [Bz z, Dz z]
abbrev NUM (z : Int) : VP := VP.agg [Bz z, Tz z]
theorem int_open {z : Int} {v : Value} {w : World} (h : (INT z).p v w) : ∃ a c, v = .agg #[.bool (decide (z < 0)), .slice a (dg BB z.natAbs).length c] ∧ IsInt w z a c := by
  obtain ⟨cs, rfl, h⟩ := h
  match cs, h with
  | [u, v], ⟨h1, ⟨a, c, h2, h3, h4, h5⟩, _⟩ =>
    have h1 : u = .bool (decide (z < 0)) := h1
    subst h1 h2
    exact ⟨a, c, rfl, h3, h4, h5⟩
theorem int_shut {z : Int} {w : World} {a : Option Addr} {c : Nat} (h : IsInt w z a c) : (INT z).p (.agg #[.bool (decide (z < 0)), .slice a (dg BB z.natAbs).length c]) w :=
  ⟨[.bool (decide (z < 0)), .slice a (dg BB z.natAbs).length c], rfl, rfl, ⟨a, c, rfl, h.1, h.2.1, h.2.2⟩, trivial⟩
theorem num_open {z : Int} {v : Value} {w : World} (h : (NUM z).p v w) : ∃ a c, v = .agg #[.bool (decide (z < 0)), .slice a (dg 10 z.natAbs).length c] ∧ IsNum w z a c := by
  obtain ⟨cs, rfl, h⟩ := h
  match cs, h with
  | [u, v], ⟨h1, ⟨a, c, h2, h3, h4, h5⟩, _⟩ =>
    have h1 : u = .bool (decide (z < 0)) := h1
    subst h1 h2
    exact ⟨a, c, rfl, h3, h4, h5⟩
theorem num_shut {z : Int} {w : World} {a : Option Addr} {c : Nat} (h : IsNum w z a c) : (NUM z).p (.agg #[.bool (decide (z < 0)), .slice a (dg 10 z.natAbs).length c]) w :=
  ⟨[.bool (decide (z < 0)), .slice a (dg 10 z.natAbs).length c], rfl, rfl, ⟨a, c, rfl, h.1, h.2.1, h.2.2⟩, trivial⟩
theorem gotint_shut {W : World} {z : Int} {e : Ending} {w' : World} (h : GotInt W z e w') : ∃ v, e = .returned v ∧ (INT z).p v w' ∧ Ext W w' := by
  obtain ⟨a, c, h1, h2, h3, h4, h5, _⟩ := h
  exact ⟨_, h1, int_shut ⟨h2, h3, h4⟩, h5⟩
theorem gi_shut {W : World} {z : Int} {e : Ending} {w' : World} (h : GI z W e w') : ∃ v, e = .returned v ∧ (INT z).p v w' ∧ Ext W w' := by
  obtain ⟨a, c, h1, h2, h3⟩ := h
  exact ⟨_, h1, int_shut h2, h3⟩
theorem gotnum_shut {W : World} {z : Int} {e : Ending} {w' : World} (h : GotNum z W e w') : ∃ v, e = .returned v ∧ (NUM z).p v w' ∧ Ext W w' := by
  obtain ⟨a, c, h1, h2, h3⟩ := h
  exact ⟨_, h1, num_shut h2, h3⟩

/-- how many digits an integer has -/
abbrev L (z : Int) : Nat := (dg BB z.natAbs).length
theorem ladd {x y : Int} {a b : Nat} (h : L x ≤ a) (k : L y ≤ b) : L (x + y) ≤ a + b + 1 := by have := len_add x y; unfold L at *; omega
theorem lmul {x y : Int} {a b : Nat} (h : L x ≤ a) (k : L y ≤ b) : L (x * y) ≤ a + b := by have := len_mul x y; unfold L at *; omega
theorem lneg {x : Int} {a : Nat} (h : L x ≤ a) : L (-x) ≤ a := by have := len_neg x; unfold L at *; omega
theorem ldiv {x y : Int} {a : Nat} (h : L x ≤ a) : L (divZ x y) ≤ a := Nat.le_trans (len_div x y) h
theorem lmod {x y : Int} {a : Nat} (h : L y ≤ a) : L (modZ x y) ≤ a := Nat.le_trans (len_mod x y) h
/-- the greatest number that divides both -/
abbrev gcdZ (x y : Int) : Int := ((Nat.gcd x.natAbs y.natAbs : Nat) : Int)
theorem lgcd {x y : Int} {a b : Nat} (h : L x ≤ a) (k : L y ≤ b) : L (gcdZ x y) ≤ a + b := by have := len_gcd x y; unfold L gcdZ at *; omega
theorem lone : L 1 ≤ 1 := by unfold L; rw [show (1 : Int).natAbs = 1 from rfl, dg_one BB_gt (by decide) BB_gt]; exact Nat.le_refl _
theorem lzero : L 0 ≤ 0 := Nat.le_refl _
theorem l10 {z : Int} {a : Nat} (h : L z ≤ a) : (dg 10 z.natAbs).length ≤ 9 * a := dg10_len _ _ h
theorem lle {z : Int} {a b : Nat} (h : L z ≤ a) (k : a ≤ b) : L z ≤ b := Nat.le_trans h k
theorem n10 {z : Int} {a b : Nat} (h : L z ≤ a) (k : 9 * a ≤ b) : (dg 10 z.natAbs).length ≤ b := Nat.le_trans (l10 h) k

theorem s_add (x y : Int) (h1 : L x ≤ 100000) (h2 : L y ≤ 100000) : Spec Try.prog 47 [(INT x).p, (INT y).p] (INT (x + y)) :=
  spec2 fun v1 v2 w p1 p2 => by
    obtain ⟨a, c, rfl, i1⟩ := int_open p1
    obtain ⟨b, d, rfl, i2⟩ := int_open p2
    exact (addz_walk x y a b c d w h1 h2 i1 i2).mono fun e w' h => gotint_shut h
theorem s_mul (x y : Int) (h1 : L x ≤ 100000) (h2 : L y ≤ 100000) : Spec Try.prog 76 [(INT x).p, (INT y).p] (INT (x * y)) :=
  spec2 fun v1 v2 w p1 p2 => by
    obtain ⟨a, c, rfl, i1⟩ := int_open p1
    obtain ⟨b, d, rfl, i2⟩ := int_open p2
    exact (mulz_walk x y a b c d w h1 h2 i1 i2).mono fun e w' h => gotint_shut h
theorem s_neg (x : Int) (h1 : L x ≤ 100000) : Spec Try.prog 78 [(INT x).p] (INT (-x)) :=
  spec1 fun v1 w p1 => by
    obtain ⟨a, c, rfl, i1⟩ := int_open p1
    exact (neg_walk x a c w (by unfold L at *; omega) i1).mono fun e w' h => gotint_shut h
theorem s_cmp (x y : Int) (h1 : L x ≤ 100000) (h2 : L y ≤ 100000) : Spec Try.prog 57 [(INT x).p, (INT y).p] (VP.int .i64 (cmpZ x y)) :=
  spec2 fun v1 v2 w p1 p2 => by
    obtain ⟨a, c, rfl, i1⟩ := int_open p1
    obtain ⟨b, d, rfl, i2⟩ := int_open p2
    exact (cmpz_walk x y a b c d w (by unfold L at *; omega) (by unfold L at *; omega) i1 i2).mono fun e w' h => ⟨_, h.1, rfl, h.2⟩
theorem s_div (x y : Int) (h1 : L x ≤ 100000) (h2 : L y ≤ 100000) : Spec Try.prog 79 [(INT x).p, (INT y).p] (VP.tup [INT (divZ x y), INT (modZ x y)]) :=
  spec2 fun v1 v2 w p1 p2 => by
    obtain ⟨a, c, rfl, i1⟩ := int_open p1
    obtain ⟨b, d, rfl, i2⟩ := int_open p2
    refine (divz_walk x y a b c d w h1 h2 i1 i2).mono fun e w' h => ?_
    obtain ⟨a1, c1, b1, d1, e1, e2, e3, e4, _⟩ := h
    exact ⟨_, e1, ⟨[_, _], rfl, int_shut e2, int_shut e3, trivial⟩, e4⟩
theorem s_gcd (x y : Int) (h1 : L x ≤ 100000) (h2 : L y ≤ 100000) : Spec Try.prog 137 [(INT x).p, (INT y).p] (INT (gcdZ x y)) :=
  spec2 fun v1 v2 w p1 p2 => by
    obtain ⟨a, c, rfl, i1⟩ := int_open p1
    obtain ⟨b, d, rfl, i2⟩ := int_open p2
    exact (gcdz_walk x y a b c d w h1 h2 i1 i2).mono fun e w' h => gotint_shut h
theorem s_of (n : Int) (h1 : -9223372036854775808 ≤ n) (h2 : n < 9223372036854775808) : Spec Try.prog 25 [(VP.int .i64 n).p] (INT n) :=
  spec1 fun v1 w p1 => by
    have p1 : v1 = .int .i64 n := p1
    subst p1
    exact (ofi_walk n w h1 h2).mono fun e w' h => gotint_shut h
theorem s_text (x : Int) (h1 : L x ≤ 100000) : Spec Try.prog 72 [(INT x).p] (VP.str (txt x)) :=
  spec1 fun v1 w p1 => by
    obtain ⟨a, c, rfl, i1⟩ := int_open p1
    exact (textz_walk x a c w h1 i1).mono fun e w' h => ⟨_, h.1, rfl, h.2⟩

theorem r_of (x : Int) (h1 : L x ≤ 100000) : Spec Try.prog 176 [(INT x).p] (NUM x) :=
  spec1 fun v1 w p1 => by
    obtain ⟨a, c, rfl, i1⟩ := int_open p1
    exact (rof_walk x a c w h1 i1).mono fun e w' h => gotnum_shut h
theorem r_form (x : Int) (h1 : (dg 10 x.natAbs).length ≤ 100000) : Spec Try.prog 54 [(NUM x).p] (INT x) :=
  spec1 fun v1 w p1 => by
    obtain ⟨a, c, rfl, i1⟩ := num_open p1
    exact (rform_walk x a c w h1 i1).mono fun e w' h => gi_shut h
theorem r_add (x y : Int) (h1 : (dg 10 x.natAbs).length ≤ 100000) (h2 : (dg 10 y.natAbs).length ≤ 100000) : Spec Try.prog 115 [(NUM x).p, (NUM y).p] (NUM (x + y)) :=
  spec2 fun v1 v2 w p1 p2 => by
    obtain ⟨a, c, rfl, i1⟩ := num_open p1
    obtain ⟨b, d, rfl, i2⟩ := num_open p2
    exact (raddz_walk x y a b c d w h1 h2 i1 i2).mono fun e w' h => gotnum_shut h
theorem r_neg (x : Int) : Spec Try.prog 179 [(NUM x).p] (NUM (-x)) :=
  spec1 fun v1 w p1 => by
    obtain ⟨a, c, rfl, i1⟩ := num_open p1
    exact (rneg_walk x a c w i1).mono fun e w' h => gotnum_shut h
theorem r_cmp (x y : Int) (h1 : (dg 10 x.natAbs).length ≤ 100000) (h2 : (dg 10 y.natAbs).length ≤ 100000) : Spec Try.prog 177 [(NUM x).p, (NUM y).p] (VP.int .i64 (cmpZ x y)) :=
  spec2 fun v1 v2 w p1 p2 => by
    obtain ⟨a, c, rfl, i1⟩ := num_open p1
    obtain ⟨b, d, rfl, i2⟩ := num_open p2
    exact (rcmpz_walk x y a b c d w (by omega) (by omega) i1 i2).mono fun e w' h => ⟨_, h.1, rfl, h.2⟩
theorem r_int (n : Int) (h1 : -4611686018427387904 ≤ n) (h2 : n ≤ 9223372036854775807) : Spec Try.prog 114 [(VP.int .i64 n).p] (NUM n) :=
  spec1 fun v1 w p1 => by
    have p1 : v1 = .int .i64 n := p1
    subst p1
    exact (rint_walk n w h1 h2).mono fun e w' h => gotnum_shut h
theorem r_make1 (s : Bool) (n : Nat) : Spec Try.prog 162 [(VP.bool s).p, (VP.nums .i64 (dg 10 n)).p] (NUM (sz s n)) :=
  spec2 fun v1 v2 w p1 p2 => by
    have p1 : v1 = .bool s := p1
    obtain ⟨a, c, rfl, h2, h3, h4⟩ := p2
    subst p1
    refine (rmk_walk s n a c w h2 h3 h4).mono fun e w' h => ⟨_, h.1, ?_, h.2⟩
    exact ⟨[_, _], rfl, rfl, ⟨a, c, by rw [sz_abs], by rw [sz_abs]; exact h2, h3, by rw [sz_abs]; exact (show Rd w a (ks .i64 (dg 10 n)) from h4).ext h.2⟩, trivial⟩
theorem r_makeQ (s : Bool) (n m k : Nat) (h : n < 10 ^ k) (_hk : k ≤ 100000) : Spec Try.prog 162 [(VP.bool s).p, (VP.nums .i64 (fixd 10 k (n / m))).p] (NUM (sz s (n / m))) :=
  spec2 fun v1 v2 w p1 p2 => by
    have p1 : v1 = .bool s := p1
    obtain ⟨a, c, rfl, h2, h3, h4⟩ := p2
    subst p1
    have hv : val 10 (fixd 10 k (n / m)) = n / m := by rw [fixd_val]; exact Nat.mod_eq_of_lt (Nat.lt_of_le_of_lt (Nat.div_le_self _ _) h)
    have hw := rmake1_walk s a c (fixd 10 k (n / m)) (fixd 10 k (n / m)).length w (fun d hd => fixd_lt ten_gt hd) rfl h2 h3 h4
    rw [hv] at hw
    refine hw.mono fun e w' h5 => ⟨_, h5.1, ?_, h5.2⟩
    have hl : (dg 10 (n / m)).length ≤ (fixd 10 k (n / m)).length := by
      rw [fixd_len, dg_len_le ten_gt]; exact Nat.lt_of_le_of_lt (Nat.div_le_self _ _) h
    have h6 : Rd w a (ks .i64 (dg 10 (n / m))) := by
      have h7 := (show Rd w a (ks .i64 (fixd 10 k (n / m))) from h4).take (stripN (fixd 10 k (n / m)) (fixd 10 k (n / m)).length)
      rw [ks_take] at h7
      rwa [show (fixd 10 k (n / m)).take (stripN (fixd 10 k (n / m)) (fixd 10 k (n / m)).length) = dg 10 (n / m) from by
        have := strip_fixd ten_gt k (n / m) (Nat.lt_of_le_of_lt (Nat.div_le_self _ _) h)
        exact this] at h7
    exact ⟨[_, _], rfl, rfl, ⟨a, c, by rw [sz_abs], by rw [sz_abs]; omega, h3, by rw [sz_abs]; exact h6.ext h5.2⟩, trivial⟩
/-- Same, at two integers -/
theorem r_same (x y : Int) (h1 : L x ≤ 100000) (h2 : L y ≤ 100000) : Spec Try.prog 48 [(INT x).p, (INT y).p] (VP.bool (decide (x = y))) :=
  spec2 fun v1 v2 w p1 p2 => by
    obtain ⟨a, c, rfl, i1⟩ := int_open p1
    obtain ⟨b, d, rfl, i2⟩ := int_open p2
    refine (rsame_walk (decide (x < 0)) (decide (y < 0)) (dg BB x.natAbs) (dg BB y.natAbs) a b c d w (by unfold L at *; omega) (by unfold L at *; omega) i1.2.2 i2.2.2).mono fun e w' h => ⟨_, h.1, ?_, h.2⟩
    show Value.bool _ = Value.bool _
    congr 1
    rw [Bool.eq_iff_iff]
    simp only [decide_eq_true_eq]
    constructor
    · rintro ⟨h3, h4⟩
      have h5 := dg_inj BB_gt h4
      have : (x < 0) ↔ (y < 0) := by
        constructor
        · intro h; rw [decide_eq_true h] at h3; exact of_decide_eq_true h3.symm
        · intro h; rw [decide_eq_true h] at h3; exact of_decide_eq_true h3
      omega
    · rintro rfl; exact ⟨rfl, rfl⟩
end Go.Proofs.Ytmlnpagkabmmpaa

/- Closed facts on the types of integers and fractions, and zeros. -/
namespace Go.Proofs.Ytmlnpagkabmmpaa
open Go.RowKit
theorem follow : Try.prog.follows .mixedOrders = true := by kernel_rfl
theorem nums_nil (k : IntKind) (w : World) : (VP.nums k []).p (.slice none 0 0) w := ⟨none, 0, rfl, Nat.le_refl _, by simp [maxLen], Rd.nil _ _⟩
theorem z_int (w : World) : All2 [Bz 0, Dz 0] [.bool false, .slice none 0 0] w := ⟨rfl, nums_nil _ _, trivial⟩
theorem z_num (w : World) : All2 [Bz 0, Tz 0] [.bool false, .slice none 0 0] w := ⟨rfl, nums_nil _ _, trivial⟩
theorem z_frac (w : World) : All2 [Bz 0, Dz 0, Bz 0, Dz 0] [.bool false, .slice none 0 0, .bool false, .slice none 0 0] w := ⟨rfl, nums_nil _ _, rfl, nums_nil _ _, trivial⟩
theorem z_rfrac (w : World) : All2 [Bz 0, Tz 0, Bz 0, Tz 0] [.bool false, .slice none 0 0, .bool false, .slice none 0 0] w := ⟨rfl, nums_nil _ _, rfl, nums_nil _ _, trivial⟩
theorem ty_agg_api_Int : aggTy Try.prog 24 2 = true := by kernel_rfl
theorem ty_zero_api_Int : zeroOf Try.prog 24 [.bool false, .slice none 0 0] := by unfold zeroOf; kernel_rfl
theorem ty_pl_api_Int : placesOf Try.prog 24 #[(0, 1), (1, 1)] := ⟨_, Try.underlying24, fun w => by kernel_rfl⟩
theorem ty_f0_api_Int : fieldAt Try.prog 24 0 0 = true := by kernel_rfl
theorem ty_f1_api_Int : fieldAt Try.prog 24 1 1 = true := by kernel_rfl
theorem ty_agg_collatorref01_Num : aggTy Try.prog 94 2 = true := by kernel_rfl
theorem ty_zero_collatorref01_Num : zeroOf Try.prog 94 [.bool false, .slice none 0 0] := by unfold zeroOf; kernel_rfl
theorem ty_pl_collatorref01_Num : placesOf Try.prog 94 #[(0, 1), (1, 1)] := ⟨_, Try.underlying94, fun w => by kernel_rfl⟩
theorem ty_f0_collatorref01_Num : fieldAt Try.prog 94 0 0 = true := by kernel_rfl
theorem ty_f1_collatorref01_Num : fieldAt Try.prog 94 1 1 = true := by kernel_rfl
theorem ty_agg_api_Frac : aggTy Try.prog 26 4 = true := by kernel_rfl
theorem ty_zero_api_Frac : zeroOf Try.prog 26 [.bool false, .slice none 0 0, .bool false, .slice none 0 0] := by unfold zeroOf; kernel_rfl
theorem ty_pl_api_Frac : placesOf Try.prog 26 #[(0, 2), (2, 2)] := ⟨_, Try.underlying26, fun w => by kernel_rfl⟩
theorem ty_f0_api_Frac : fieldAt Try.prog 26 0 0 = true := by kernel_rfl
theorem ty_f1_api_Frac : fieldAt Try.prog 26 1 2 = true := by kernel_rfl
theorem ty_agg_collatorref02_Frac : aggTy Try.prog 192 4 = true := by kernel_rfl
theorem ty_zero_collatorref02_Frac : zeroOf Try.prog 192 [.bool false, .slice none 0 0, .bool false, .slice none 0 0] := by unfold zeroOf; kernel_rfl
theorem ty_pl_collatorref02_Frac : placesOf Try.prog 192 #[(0, 2), (2, 2)] := ⟨_, Try.underlying192, fun w => by kernel_rfl⟩
theorem ty_f0_collatorref02_Frac : fieldAt Try.prog 192 0 0 = true := by kernel_rfl
theorem ty_f1_collatorref02_Frac : fieldAt Try.prog 192 1 2 = true := by kernel_rfl
theorem ty_one_bool : oneTy Try.prog 4 = true := by kernel_rfl
theorem ty_one___uint32 : oneTy Try.prog 22 = true := by kernel_rfl
theorem ty_one___int : oneTy Try.prog 43 = true := by kernel_rfl
theorem hb_collator_whole_Of : hasBody Try.prog 25 = true := by kernel_rfl
theorem hb_collator_whole_Add : hasBody Try.prog 47 = true := by kernel_rfl
theorem hb_collator_whole_Mul : hasBody Try.prog 76 = true := by kernel_rfl
theorem hb_collator_whole_Gcd : hasBody Try.prog 137 = true := by kernel_rfl
theorem hb_collator_whole_Cmp : hasBody Try.prog 57 = true := by kernel_rfl
theorem hb_collator_whole_Div : hasBody Try.prog 79 = true := by kernel_rfl
theorem hb_collator_whole_Neg : hasBody Try.prog 78 = true := by kernel_rfl
theorem hb_collator_whole_Text : hasBody Try.prog 72 = true := by kernel_rfl
theorem hb_collator_collatorref01_Of : hasBody Try.prog 176 = true := by kernel_rfl
theorem hb_collator_collatorref01_Form : hasBody Try.prog 54 = true := by kernel_rfl
theorem hb_collator_collatorref01_Add : hasBody Try.prog 115 = true := by kernel_rfl
theorem hb_collator_collatorref01_Neg : hasBody Try.prog 179 = true := by kernel_rfl
theorem hb_collator_collatorref01_Cmp : hasBody Try.prog 177 = true := by kernel_rfl
theorem hb_collator_collatorref01_Int : hasBody Try.prog 114 = true := by kernel_rfl
theorem hb_collator_collatorref01_make1 : hasBody Try.prog 162 = true := by kernel_rfl
theorem hb_collator_collatorref01_Same : hasBody Try.prog 48 = true := by kernel_rfl
theorem hb_collator_collatorref01_Div : hasBody Try.prog 181 = true := by kernel_rfl
theorem hb_collator_collatorref01_Gcd : hasBody Try.prog 180 = true := by kernel_rfl
theorem hb_collator_collatorref01_Right : hasBody Try.prog 139 = true := by kernel_rfl
theorem hb_collator_collatorlaw01_Odd : hasBody Try.prog 73 = true := by kernel_rfl
theorem hb_collator_frac_under : hasBody Try.prog 77 = true := by kernel_rfl
theorem hb_collator_frac_zero : hasBody Try.prog 80 = true := by kernel_rfl
theorem hb_collator_frac_cross : hasBody Try.prog 75 = true := by kernel_rfl
theorem hb_collator_frac_Make : hasBody Try.prog 70 = true := by kernel_rfl
theorem hb_collator_frac_Of : hasBody Try.prog 23 = true := by kernel_rfl
theorem hb_collator_frac_Add : hasBody Try.prog 18 = true := by kernel_rfl
theorem hb_collator_frac_Mul : hasBody Try.prog 19 = true := by kernel_rfl
theorem hb_collator_frac_Div : hasBody Try.prog 21 = true := by kernel_rfl
theorem hb_collator_frac_Neg : hasBody Try.prog 20 = true := by kernel_rfl
theorem hb_collator_frac_Cmp : hasBody Try.prog 24 = true := by kernel_rfl
theorem hb_collator_frac_Floor : hasBody Try.prog 22 = true := by kernel_rfl
theorem hb_collator_frac_Text : hasBody Try.prog 71 = true := by kernel_rfl
theorem hb_collator_collatorref02_Of : hasBody Try.prog 140 = true := by kernel_rfl
theorem hb_collator_collatorref02_Int : hasBody Try.prog 178 = true := by kernel_rfl
theorem hb_collator_collatorref02_Make : hasBody Try.prog 142 = true := by kernel_rfl
theorem hb_collator_collatorref02_Form : hasBody Try.prog 141 = true := by kernel_rfl
theorem hb_collator_collatorref02_Right : hasBody Try.prog 74 = true := by kernel_rfl
theorem hb_collator_collatorref02_Same : hasBody Try.prog 17 = true := by kernel_rfl
theorem hb_collator_collatorlaw02_speaks : hasBody Try.prog 15 = true := by kernel_rfl
theorem hb_collator_collatorlaw02_Odd : hasBody Try.prog 16 = true := by kernel_rfl
end Go.Proofs.Ytmlnpagkabmmpaa

/- The reference's Div: the loops. -/
namespace Go.Proofs.Ytmlnpagkabmmpaa
open Go.RowKit

/-- the boxes of the quotient's arguments and results -/
def N4 (w W : World) (u0 u1 v0 v1 : Value) : Prop := Row W w.heap.size 94 [u0, u1] ∧ Row W (w.heap.size + 1) 94 [v0, v1] ∧ Row W (w.heap.size + 1 + 1) 94 [.bool false, .slice none 0 0] ∧ Row W (w.heap.size + 1 + 1 + 1) 94 [.bool false, .slice none 0 0]
theorem N4.ext {w W W' : World} {u0 u1 v0 v1 : Value} (h : N4 w W u0 u1 v0 v1) (e : Ext W W') : N4 w W' u0 u1 v0 v1 := ⟨h.1.ext e, h.2.1.ext e, h.2.2.1.ext e, h.2.2.2.ext e⟩
theorem N4.new (w : World) (u0 u1 v0 v1 : Value) :
    ∃ W0, (((w.alloc (.cells #[u0, u1] 94)).alloc (.cells #[v0, v1] 94)).alloc (.cells #[.bool false, .slice none 0 0] 94)).alloc (.cells #[.bool false, .slice none 0 0] 94) = W0 ∧ N4 w W0 u0 u1 v0 v1 ∧ Ext w W0 ∧ W0.heap.size = w.heap.size + 1 + 1 + 1 + 1 := by
  obtain ⟨W, hW, q0, q1, q2, x, hs⟩ := two_nums w u0 u1 v0 v1
  rw [hW]
  refine ⟨_, rfl, ⟨q0.alloc _, q1.alloc _, q2.alloc _, ?_⟩, x.alloc _, by simp [hs]⟩
  have := Row.new W 94 [.bool false, .slice none 0 0]
  rwa [hs] at this

set_option maxRecDepth 100000 in
set_option maxHeartbeats 4000000 in
theorem rdiv_walk (z1 z2 : Int) (a b : Option Addr) (ca cb : Nat) (w : World) (hb1 : (dg 10 z1.natAbs).length ≤ 100000) (hb2 : (dg 10 z2.natAbs).length ≤ 100000) (h1 : IsNum w z1 a ca) (h2 : IsNum w z2 b cb) (h0 : z2 ≠ 0) :
    Calls Try.prog 181 #[.agg #[.bool (decide (z1 < 0)), .slice a (dg 10 z1.natAbs).length ca], .agg #[.bool (decide (z2 < 0)), .slice b (dg 10 z2.natAbs).length cb]] w (post w (VP.tup [NUM (divZ z1 z2), NUM (modZ z1 z2)])) := by
  have ha := h1.2.2
  have hb := h2.2.2
  have hm : 0 < z2.natAbs := by omega
  have h1c := h1.1
  have h2c := h2.1
  have h1m := h1.2.1
  have h2m := h2.2.1
  clear h1 h2 h0
  obtain ⟨n, hgn⟩ : ∃ n, z1.natAbs = n := ⟨_, rfl⟩
  obtain ⟨m, hgm⟩ : ∃ m, z2.natAbs = m := ⟨_, rfl⟩
  obtain ⟨s1, hgs1⟩ : ∃ s1, decide (z1 < 0) = s1 := ⟨_, rfl⟩
  obtain ⟨s2, hgs2⟩ : ∃ s2, decide (z2 < 0) = s2 := ⟨_, rfl⟩
  have HE := Lib.hid (And.intro hgn (And.intro hgm (And.intro hgs1 hgs2)))
  rw [hgn] at hb1 ha h1c ⊢
  rw [hgm] at hb2 hb h2c hm ⊢
  rw [hgs1, hgs2]
  clear hgn hgm hgs1 hgs2
  have hNN := lt_pow_len ten_gt n
  have hl0 := dg_len0 ten_gt m
  generalize hna : (dg 10 n).length = na at *
  generalize hnb : (dg 10 m).length = nb at *
  have HNA := Lib.hid hna
  have HNB := Lib.hid hnb
  have HN := Lib.hid hNN
  have HA := Lib.hid ha
  have HB := Lib.hid hb
  have hnb0 : 0 < nb := by omega
  have HM := Lib.hid hm
  clear hna hnb hNN ha hb hl0
  go_enter Try.func181, Try.ntmps181
  obtain ⟨W1, hW1, q0, x1, hs1⟩ := N4.new w (.bool s1) (.slice a na ca) (.bool s2) (.slice b nb cb)
  have Q := Lib.hid (And.intro q0 (And.intro x1 (And.intro hs1 hW1)))
  clear q0 x1 hs1 hW1
  go_wp2_with (at_make; rw [Q.out.2.2.2]; refine make_one elemI64 rfl rfl _ _ rfl rfl rfl (n := na) (by omega) (by omega) (by omega) (by unfold maxLen; omega) ?_; intro w0 hrow0 hext0; have k0 := (Q.out.1.1.ext hext0).cell (i := 0) rfl; have k1 := (Q.out.1.1.ext hext0).cell (i := 1) rfl; have k2 := (Q.out.1.2.1.ext hext0).cell (i := 0) rfl; have k3 := (Q.out.1.2.1.ext hext0).cell (i := 1) rfl; have kk1 := (Q.out.1.1.ext (hext0.alloc (.cells #[] 3))).cell (i := 1) rfl)
  have own0 := own_emptyE w0 3
  rw [ks_replicate] at hrow0
  have F0 := own_from own0
  have X0 := hext0.alloc (.cells #[] 3)
  have R0 := hrow0.alloc (.cells #[] 3)
  have hw0 := hext0.size
  have hgq : W1.heap.size < w0.heap.size := hrow0.lt
  go_loopw [7, 8] (fun rv iv wr => ∃ k : Nat, k ≤ na ∧ iv = .int .i64 ((na : Int) - 1 - k) ∧ ∃ a' c', rv = .slice a' (dg 10 (n / 10 ^ (na - k) % m)).length c' ∧ (dg 10 (n / 10 ^ (na - k) % m)).length ≤ c' ∧ c' ≤ maxLen ∧ Rd wr a' (ks .i64 (dg 10 (n / 10 ^ (na - k) % m))) ∧ From (W1.heap.size + 1) a' ∧ Row wr W1.heap.size 3 (ks .i64 (dvQ 10 n m na k)) ∧ Ext W1 wr) (fun _ iv _ => (intOf iv + 1).toNat)
  case atStart =>
    have hz : n / 10 ^ (na - 0) % m = 0 := by rw [Nat.sub_zero, Nat.div_eq_of_lt HN.out]; exact Nat.zero_mod m
    have hQ0 : dvQ 10 n m na 0 = List.replicate na 0 := by
      have h := dvS_down ten_gt n m na HM.out HN.out 0 (Nat.zero_le _)
      rw [List.range_zero, List.map_nil, dvS_nil] at h
      exact (Prod.mk.inj h).1.symm
    refine ⟨0, by omega, by simp, some ⟨w0.heap.size, 0, none⟩, 0, by rw [hz]; rfl, by rw [hz]; exact Nat.le_refl _, by simp [maxLen], by rw [hz]; exact Rd.nil _ _, ?_, by rw [hQ0]; exact R0, X0⟩
    intro ad e
    cases e
    exact hgq
  case round =>
    obtain ⟨k, hk, rfl, a', c', rfl, j1, j2, j3, j4, j5, hext⟩ := hrel
    clear own0 F0 X0 R0 hrow0 hext0 k0 k1 k2 k3 kk1 hw0 hgq
    have k0 := (Q.out.1.1.ext hext).cell (i := 0) rfl
    have k1 := (Q.out.1.1.ext hext).cell (i := 1) rfl
    have k2 := (Q.out.1.2.1.ext hext).cell (i := 0) rfl
    have k3 := (Q.out.1.2.1.ext hext).cell (i := 1) rfl
    by_cases hlt : k < na
    · obtain ⟨p, hp⟩ : ∃ p : Nat, (na : Int) - 1 - k = (p : Int) := ⟨na - 1 - k, by omega⟩
      have hpn : p < na := by omega
      have HPP : Hid (p = na - 1 - k) := by show _ = _; omega
      obtain ⟨ba, oa, rfl, hca⟩ := (HA.out.ext (Q.out.2.1.trans hext)).num (i := p) (by rw [HNA.out]; exact hpn)
      rw [fdig10] at hca
      have hRm : n / 10 ^ (na - k) % m < m := Nat.mod_lt _ HM.out
      obtain ⟨st1, st2⟩ := rdiv_step ten_gt n m na k p HM.out HN.out hlt HPP.out
      have hx : n / 10 ^ p % 10 < 10 := Nat.mod_lt _ (by decide)
      have hlenR : (dg 10 (n / 10 ^ (na - k) % m)).length ≤ nb := by rw [← HNB.out]; exact dg_len_mono ten_gt (Nat.le_of_lt hRm)
      generalize n / 10 ^ (na - k) % m = R at *
      generalize n / 10 ^ p % 10 = x at *
      have HST1 := Lib.hid st1
      have HST2 := Lib.hid st2
      have HRM := Lib.hid hRm
      rw [hp]
      clear st1 st2 hp hRm
      have ownD := (Row.new wr 3 [.int .i64 (x : Int)]).own (base := wr.heap.size) (Nat.le_refl _) (by simp [maxLen])
      go_wp2_with (at_builtin; refine append_row elemI64 (W := wr) ownD (Ext.new _ _) (by rw [ks_len, Nat.mul_one]) (j3.alloc _) (by unfold maxLen; simp; omega) (by simp; omega) (by simp [ks, Value.oneCell']) rfl _ _ rfl rfl rfl ?_; intro v1 w1 own1 x1 hg1; obtain ⟨a1, c1, rfl, f1, f2, f3⟩ := own_form own1)
      obtain ⟨t, ht⟩ : ∃ t, t = x + 10 * R := ⟨_, rfl⟩
      rw [← ht] at HST1 HST2
      have HTM : Hid (t < 10 * m) := by have := HRM.out; show _ < _; omega
      have hstrip : strip (x :: dg 10 R) = dg 10 t := by
        rw [strip_dg ten_gt _ (fun d hd => by
          rcases List.mem_cons.1 hd with h | h
          · rw [h]; exact hx
          · exact dg_lt ten_gt h)]
        simp only [val]; rw [val_dg ten_gt, ht]
      have hklen : stripN (x :: dg 10 R) (x :: dg 10 R).length = (dg 10 t).length := by rw [← strip_len, hstrip]
      have HC := Lib.hid (rcut_walk a1 c1 (x :: dg 10 R) (1 + (dg 10 R).length) w1 (by rw [List.length_cons, Nat.add_comm]) f1 f2 f3)
      rw [hklen] at HC
      have f4 : Rd w1 a1 (ks .i64 (dg 10 t)) := by
        have h6 := f3.take (stripN (x :: dg 10 R) (x :: dg 10 R).length)
        rw [show [Value.int .i64 (x : Int)] ++ ks .i64 (dg 10 R) = ks .i64 (x :: dg 10 R) from rfl, ks_take] at h6
        rwa [show (x :: dg 10 R).take (stripN (x :: dg 10 R) (x :: dg 10 R).length) = dg 10 t from hstrip] at h6
      have f5 : (dg 10 t).length ≤ c1 := by rw [← hklen]; exact Nat.le_trans (stripN_le _ _) (by rw [List.length_cons, Nat.add_comm]; exact f1)
      refine HC.out.mono ?_
      rintro e w2 ⟨rfl, rfl⟩
      have hQ0 : (dvQ 10 n m na k).set p 0 = dvQ 10 n m na k := by
        have hz := dvQ_get0 10 n m na k p hlt HPP.out
        apply List.ext_getElem?
        intro i
        rw [List.getElem?_set]
        by_cases hi : p = i
        · subst hi; rw [if_pos rfl, if_pos (by rw [dvQ_len]; exact hpn), hz]
        · rw [if_neg hi]
      have e1 := j5.ext x1
      have hext1 := hext.trans x1
      have hfa : From (W1.heap.size + 1) a1 := (own_from own1).mono (by have := j5.lt; omega)
      have hlen2 : (dg 10 t).length ≤ nb + 1 := by
        rw [← hklen]; exact Nat.le_trans (stripN_le _ _) (by rw [List.length_cons]; omega)
      have G := Lib.hid (And.intro f4 (And.intro f5 (And.intro f2 (And.intro hfa (And.intro e1 (And.intro hext1 (And.intro hQ0 hlen2)))))))
      clear f1 f2 f3 f4 f5 own1 ownD hg1 x1 e1 hext1 hfa hQ0 hlen2 j1 j2 j3 j4 j5 hext hca hstrip hklen k0 k1 k2 k3 HC ht
      go_wp2_with fail
      go_loopg [7] t (fun g rv wr => ∃ (c : Nat) (a' : Option Addr) (c' : Nat), c * m ≤ t ∧ g = t - c * m ∧ rv = .slice a' (dg 10 (t - c * m)).length c' ∧ (dg 10 (t - c * m)).length ≤ c' ∧ c' ≤ maxLen ∧ Rd wr a' (ks .i64 (dg 10 (t - c * m))) ∧ From (W1.heap.size + 1) a' ∧ Row wr W1.heap.size 3 (ks .i64 ((dvQ 10 n m na k).set p c)) ∧ Ext W1 wr)
      case atStart =>
        have ht0 : t - 0 * m = t := by rw [Nat.zero_mul, Nat.sub_zero]
        refine ⟨0, a1, c1, by omega, ht0.symm, by rw [ht0], by rw [ht0]; exact G.out.2.1, G.out.2.2.1, by rw [ht0]; exact G.out.1, G.out.2.2.2.1, by rw [G.out.2.2.2.2.2.2.1]; exact G.out.2.2.2.2.1, G.out.2.2.2.2.2.1⟩
      case round =>
        obtain ⟨c, a', c', hct, hgk, rfl, g1, g2, g3, g4, g5, g6⟩ := hrel
        have k2 := (Q.out.1.2.1.ext g6).cell (i := 0) rfl
        have k3 := (Q.out.1.2.1.ext g6).cell (i := 1) rfl
        have hlr : (dg 10 (t - c * m)).length ≤ 200000 := Nat.le_trans (dg_len_mono ten_gt (Nat.sub_le _ _)) (by have := G.out.2.2.2.2.2.2.2; omega)
        have HCM := Lib.hid (fun W (h1 : Rd W a' (ks .i64 (dg 10 (t - c * m)))) (h2 : Rd W b (ks .i64 (dg 10 m))) => rcmp_walk a' b c' cb (t - c * m) m W (by omega) (by rw [HNB.out]; omega) h1 h2)
        have HSB := Lib.hid (fun W (hle : m ≤ t - c * m) (h1 : Rd W a' (ks .i64 (dg 10 (t - c * m)))) (h2 : Rd W b (ks .i64 (dg 10 m))) => rsub_walk a' b c' cb (t - c * m) m W hle (by omega) (by rw [HNB.out]; omega) h1 h2)
        rw [HNB.out] at HCM HSB
        have hge := cmpN_ge (t - c * m) m
        have hc10 : c < 10 := Nat.lt_of_mul_lt_mul_right (Nat.lt_of_le_of_lt hct HTM.out)
        have I := Lib.hid (And.intro hct (And.intro hgk (And.intro g1 (And.intro g2 (And.intro g3 (And.intro g4 (And.intro g5 (And.intro g6 hlr))))))))
        clear hct hgk g1 g2 g3 g4 g5 g6 hlr
        generalize cmpN (t - c * m) m = q at *
        obtain ⟨u, hu⟩ : ∃ u, t - c * m = u := ⟨_, rfl⟩
        have HU := Lib.hid hu
        rw [hu] at HCM HSB hge ⊢
        clear hu
        by_cases hq : 0 ≤ q
        · have hle := hge.1 hq
          have HLE := Lib.hid hle
          clear hge hle
          go_wp2_with fail
          refine (HCM.out _ (by rw [← HU.out]; exact I.out.2.2.2.2.1) (HB.out.ext (Q.out.2.1.trans I.out.2.2.2.2.2.2.2.1))).mono ?_
          rintro e w3 ⟨rfl, x3⟩
          have e2 := (Q.out.1.2.1.ext (I.out.2.2.2.2.2.2.2.1.trans x3)).cell (i := 0) rfl
          have e3 := (Q.out.1.2.1.ext (I.out.2.2.2.2.2.2.2.1.trans x3)).cell (i := 1) rfl
          clear k2 k3
          go_wp2_with fail
          refine (HSB.out _ HLE.out (by rw [← HU.out]; exact I.out.2.2.2.2.1.ext x3) (HB.out.ext (Q.out.2.1.trans (I.out.2.2.2.2.2.2.2.1.trans x3)))).mono ?_
          rintro e w4 ⟨a4, c4, rfl, t1, t2, t3, t4, t5⟩
          have rq := (I.out.2.2.2.2.2.2.1.ext x3).ext t4
          have hqc : (ks .i64 ((dvQ 10 n m na k).set p c))[p]? = some (.int .i64 (c : Int)) := by
            rw [ks, List.getElem?_map, List.getElem?_set_self (by rw [dvQ_len]; exact hpn)]; rfl
          have cq := rq.cell hqc
          have fq := rq.frozen p
          have RQ := Lib.hid rq
          clear rq hqc e2 e3
          go_wp2_with fail
          go_roundg (t - (c + 1) * m)
          case measure =>
            have h1 := I.out.2.1
            have h2 := HLE.out
            have h3 := HU.out
            have h4 := HM.out
            rw [Nat.add_mul, Nat.one_mul]
            omega
          case rel =>
            obtain ⟨hct, hgk, g1, g2, g3, g4, g5, g6, hlr⟩ := I.out
            have h2 := HLE.out
            have h3 := HU.out
            have hnew : t - (c + 1) * m = u - m := by rw [Nat.add_mul, Nat.one_mul]; omega
            have hfr : ∀ bb off, a4 = some ⟨bb, off, none⟩ → bb ≠ W1.heap.size := fun bb off e => by
              have := t5 _ e
              have h6 := (g5.ext x3).lt
              simp only at this; omega
            refine ⟨c + 1, a4, c4, by rw [Nat.add_mul, Nat.one_mul]; omega, rfl, by rw [hnew], by rw [hnew]; exact t1, t2, ?_, ?_, ?_, (((g6.trans x3).trans t4).set (p := ⟨W1.heap.size, p, none⟩) (Nat.le_refl _) _)⟩
            · rw [hnew]
              exact t3.keep fun bb off e _ => Below.heap_setCell _ _ _ _ (hfr bb off e)
            · intro ad e
              have := t5 _ e
              have h6 := (g5.ext x3).lt
              omega
            · have h7 := RQ.out.set p (.int .i64 ((c + 1 : Nat) : Int))
              rw [ks_set, List.set_set] at h7
              exact h7
        · have hlt2 : u < m := by have := fun h => hq (hge.2 h); omega
          have HLT2 := Lib.hid hlt2
          clear hge hlt2
          go_wp2_with fail
          refine (HCM.out _ (by rw [← HU.out]; exact I.out.2.2.2.2.1) (HB.out.ext (Q.out.2.1.trans I.out.2.2.2.2.2.2.2.1))).mono ?_
          rintro e w3 ⟨rfl, x3⟩
          clear k2 k3
          go_wp2_with fail
          go_roundw
          case rel =>
            obtain ⟨hct, hgk, g1, g2, g3, g4, g5, g6, hlr⟩ := I.out
            have h2 := HLT2.out
            have h3 := HU.out
            have hp2 := HPP.out
            have hdm : t = c * m + u := by omega
            have hdiv : t / m = c := by rw [hdm, Nat.mul_comm, Nat.mul_add_div HM.out, Nat.div_eq_of_lt h2, Nat.add_zero]
            have hmod : t % m = u := by rw [hdm, Nat.mul_comm, Nat.mul_add_mod, Nat.mod_eq_of_lt h2]
            rw [h3] at g1 g3
            have e1 := HST1.out
            have e2 := HST2.out
            rw [hmod] at e1
            rw [hdiv] at e2
            refine ⟨k + 1, by omega, ?_, a', c', by rw [e1], by rw [e1]; exact g1, g2, by rw [e1]; exact g3.ext x3, g4, by rw [e2]; exact g5.ext x3, g6.trans x3⟩
            congr 1; omega
          case measure => simp [intOf] <;> omega
    · obtain rfl : k = na := by omega
      rw [Nat.sub_self, Nat.pow_zero, Nat.div_one] at j1 j3 ⊢
      rw [dvQ_all] at j5
      go_upto_region 12 with (fail)
      obtain ⟨rfl, rfl, rfl, rfl⟩ := HE.out
      have hk1 := hb1
      refine tail_in (F := ⟨Try.prog, w, 82, [2, 3, 4, 5, 9, 10]⟩) (fs := [.box 2 94 [Bz z1, Tz z1], .box 3 94 [Bz z2, Tz z2], .box 4 94 [Bz 0, Tz 0], .box 5 94 [Bz 0, Tz 0], .slot 6 (VP.nums .i64 (fixd 10 k (z1.natAbs / z2.natAbs))), .slot 7 (VP.nums .i64 (dg 10 (z1.natAbs % z2.natAbs)))]) ?_ (by assumption) ?_
      case refine_2 =>
        have q := Q.out
        refine ⟨⟨rfl, rfl, q.2.1.trans hext, ?_, ?_⟩, ?_⟩
        · intro k hk g hg
          simp only [List.mem_cons, List.not_mem_nil, or_false] at hk
          rcases hk with rfl | rfl | rfl | rfl | rfl | rfl <;> first | (cases hg; have := q.2.2.1; have := hext.size; dsimp only; omega) | (cases hg; done)
        · intro k hk k' hk' hne g hg hg'
          simp only [List.mem_cons, List.not_mem_nil, or_false] at hk hk'
          rcases hk with rfl | rfl | rfl | rfl | rfl | rfl <;> rcases hk' with rfl | rfl | rfl | rfl | rfl | rfl <;> first | exact hne rfl | (cases hg; cases hg'; done) | (cases hg; done) | (have h3 := Option.some.inj hg; have h4 := Option.some.inj hg'; unfold ptr at h3 h4; injection h3 with h3; injection h3 with h3; injection h3 with h3; injection h4 with h4; injection h4 with h4; injection h4 with h4; omega)
        · have hkk : k ≤ maxLen := by unfold maxLen; omega
          intro f hf
          simp only [List.mem_cons, List.not_mem_nil, or_false] at hf
          rcases hf with rfl | rfl | rfl | rfl | rfl | rfl
          · exact ⟨_, _, rfl, q.1.1.ext hext, rfl, ⟨a, ca, by rw [HNA.out], by rw [HNA.out]; exact h1c, h1m, (HA.out.ext (q.2.1.trans hext))⟩, trivial⟩
          · exact ⟨_, _, rfl, q.1.2.1.ext hext, rfl, ⟨b, cb, by rw [HNB.out], by rw [HNB.out]; exact h2c, h2m, (HB.out.ext (q.2.1.trans hext))⟩, trivial⟩
          · exact ⟨_, _, rfl, q.1.2.2.1.ext hext, z_num _⟩
          · exact ⟨_, _, rfl, q.1.2.2.2.ext hext, z_num _⟩
          · exact ⟨.slice (some ⟨W1.heap.size, 0, none⟩) k k, rfl, some ⟨W1.heap.size, 0, none⟩, k, by rw [fixd_len], by rw [fixd_len]; exact Nat.le_refl _, hkk, j5.rd⟩
          · exact ⟨_, rfl, a', c', rfl, j1, j2, j3⟩
      have hbz1 : (dg 10 z1.natAbs).length ≤ 100000 := by rw [HNA.out]; exact hb1
      have hbz2 : (dg 10 z2.natAbs).length ≤ 100000 := by rw [HNB.out]; exact hb2
      have HLQ : (dg 10 (z1.natAbs / z2.natAbs)).length ≤ 100000 := Nat.le_trans (dg_len_mono ten_gt (Nat.div_le_self _ _)) hbz1
      have HLR : (dg 10 (z1.natAbs % z2.natAbs)).length ≤ 100000 := Nat.le_trans (dg_len_mono ten_gt (Nat.le_of_lt (Nat.mod_lt _ HM.out))) hbz2
      clear HA HB Q j5 j3 j4 hext
      by_cases g1 : z1 < 0
      · by_cases g0 : z1.natAbs % z2.natAbs = 0
        · have e0 := div_sign2 z1 z2 HM.out (by rw [g0]; simp)
          rw [decide_eq_true g1] at e0
          have e1 : sz (decide (z1 < 0)) (z1.natAbs % z2.natAbs) = modZ z1 z2 := by rw [← e0.2, g0, decide_eq_true g1]; rfl
          have e2 := e0.1
          rw [show (true != decide (z2 < 0)) = (!(true == decide (z2 < 0))) from rfl] at e2
          rw [← e1, ← e2]
          refine t_region (F := ⟨_, _, _, _⟩) [.box 2 94 [Bz z1, Tz z1], .box 3 94 [Bz z2, Tz z2], .box 4 94 [Bz 0, Tz 0], .box 5 94 [Bz 0, Tz 0], .slot 6 (VP.nums .i64 (fixd 10 k (z1.natAbs / z2.natAbs))), .slot 7 (VP.nums .i64 (dg 10 (z1.natAbs % z2.natAbs)))] [] [(0, .fp 54 2 0), (1, .slot 55 (Bz z1)), (2, .fp 56 3 0), (3, .slot 57 (Bz z2)), (4, .slot 58 (VP.bool (!(true == (decide (z2 < 0)))))), (5, .slot 59 (VP.nums .i64 (fixd 10 k (z1.natAbs / z2.natAbs)))), (6, .slot 60 (NUM (sz (!(true == (decide (z2 < 0)))) (z1.natAbs / z2.natAbs)))), (7, .own 9 94 2), (8, .box 9 94 [Bz (sz (!(true == (decide (z2 < 0)))) (z1.natAbs / z2.natAbs)), Tz (sz (!(true == (decide (z2 < 0)))) (z1.natAbs / z2.natAbs))])] [] [0, 1, 2, 3, 4, 5] [] rfl rfl follow rfl ⟨
            .inl ⟨wants_plain rfl, does_field _ _ _ 0 ty_f0_collatorref01_Num rfl rfl rfl rfl rfl rfl rfl (pt_box (av_fs 0 rfl))⟩,
            .inl ⟨wants_plain rfl, does_loadOne _ ty_one_bool rfl rfl rfl rfl rfl rfl (pt_fp (av_rs 0 rfl rfl)) (av_fs 0 rfl)⟩,
            .inl ⟨wants_plain rfl, does_field _ _ _ 0 ty_f0_collatorref01_Num rfl rfl rfl rfl rfl rfl rfl (pt_box (av_fs 1 rfl))⟩,
            .inl ⟨wants_plain rfl, does_loadOne _ ty_one_bool rfl rfl rfl rfl rfl rfl (pt_fp (av_rs 2 rfl rfl)) (av_fs 1 rfl)⟩,
            .inl ⟨wants_plain rfl, does_eqBool (u := true) (v := (decide (z2 < 0))) _ _ _ _ _ (by kernel_rfl) rfl rfl rfl rfl rfl rfl (ar_tmp (av_bool (decide_eq_true g1) (av_rs 1 rfl rfl))) (ar_tmp (av_rs 3 rfl rfl))⟩,
            .inl ⟨wants_plain rfl, does_move _ (.inl rfl) rfl rfl rfl rfl (ar_tmp (av_fs 4 rfl))⟩,
            .inl ⟨wants_plain rfl, does_call (r_makeQ (!(true == (decide (z2 < 0)))) z1.natAbs z2.natAbs k HN.out hk1) rfl hb_collator_collatorref01_make1 rfl rfl rfl rfl ⟨(ar_tmp (av_rs 4 rfl rfl)), (ar_tmp (av_rs 5 rfl rfl)), trivial⟩⟩,
            .inl ⟨wants_plain rfl, does_allocOwn [Bz 0, Tz 0] ty_zero_collatorref01_Num rfl rfl rfl rfl rfl z_num rfl⟩,
            .inl ⟨wants_plain rfl, does_storeNew 2 _ _ ty_agg_collatorref01_Num rfl rfl rfl rfl rfl (pt_own (av_rs 7 rfl rfl)) (av_rs 7 rfl rfl) (ar_tmp (av_rs 6 rfl rfl))⟩,
            trivial⟩ ?_
          refine nx_sub (fs' := [.box 2 94 [Bz z1, Tz z1], .box 3 94 [Bz z2, Tz z2], .box 4 94 [Bz 0, Tz 0], .box 5 94 [Bz 0, Tz 0], .slot 7 (VP.nums .i64 (dg 10 (z1.natAbs % z2.natAbs))), .box 9 94 [Bz (sz (!(true == (decide (z2 < 0)))) (z1.natAbs / z2.natAbs)), Tz (sz (!(true == (decide (z2 < 0)))) (z1.natAbs / z2.natAbs))]]) [0, 1, 2, 3, 5, 14] rfl ?_
          refine nx_then ?_
          refine t_seq ?_
          refine t_region (F := ⟨_, _, _, _⟩) [.box 2 94 [Bz z1, Tz z1], .box 3 94 [Bz z2, Tz z2], .box 4 94 [Bz 0, Tz 0], .box 5 94 [Bz 0, Tz 0], .slot 7 (VP.nums .i64 (dg 10 (z1.natAbs % z2.natAbs))), .box 9 94 [Bz (sz (!(true == (decide (z2 < 0)))) (z1.natAbs / z2.natAbs)), Tz (sz (!(true == (decide (z2 < 0)))) (z1.natAbs / z2.natAbs))]] [] [(0, .fp 61 2 0), (1, .slot 62 (Bz z1)), (2, .slot 63 (VP.nums .i64 (dg 10 (z1.natAbs % z2.natAbs)))), (3, .slot 64 (NUM (sz (decide (z1 < 0)) (z1.natAbs % z2.natAbs)))), (4, .own 10 94 2), (5, .box 10 94 [Bz (sz (decide (z1 < 0)) (z1.natAbs % z2.natAbs)), Tz (sz (decide (z1 < 0)) (z1.natAbs % z2.natAbs))])] [] [0, 1, 2, 3, 4, 5] [] rfl rfl follow rfl ⟨
            .inl ⟨wants_plain rfl, does_field _ _ _ 0 ty_f0_collatorref01_Num rfl rfl rfl rfl rfl rfl rfl (pt_box (av_fs 0 rfl))⟩,
            .inl ⟨wants_plain rfl, does_loadOne _ ty_one_bool rfl rfl rfl rfl rfl rfl (pt_fp (av_rs 0 rfl rfl)) (av_fs 0 rfl)⟩,
            .inl ⟨wants_plain rfl, does_move _ (.inl rfl) rfl rfl rfl rfl (ar_tmp (av_fs 4 rfl))⟩,
            .inl ⟨wants_plain rfl, does_call (r_make1 (decide (z1 < 0)) (z1.natAbs % z2.natAbs)) rfl hb_collator_collatorref01_make1 rfl rfl rfl rfl ⟨(ar_tmp (av_rs 1 rfl rfl)), (ar_tmp (av_rs 2 rfl rfl)), trivial⟩⟩,
            .inl ⟨wants_plain rfl, does_allocOwn [Bz 0, Tz 0] ty_zero_collatorref01_Num rfl rfl rfl rfl rfl z_num rfl⟩,
            .inl ⟨wants_plain rfl, does_storeNew 2 _ _ ty_agg_collatorref01_Num rfl rfl rfl rfl rfl (pt_own (av_rs 4 rfl rfl)) (av_rs 4 rfl rfl) (ar_tmp (av_rs 3 rfl rfl))⟩,
            trivial⟩ ?_
          refine nx_sub (fs' := [.box 3 94 [Bz z2, Tz z2], .box 4 94 [Bz 0, Tz 0], .box 5 94 [Bz 0, Tz 0], .box 9 94 [Bz (sz (!(true == (decide (z2 < 0)))) (z1.natAbs / z2.natAbs)), Tz (sz (!(true == (decide (z2 < 0)))) (z1.natAbs / z2.natAbs))], .box 10 94 [Bz (sz (decide (z1 < 0)) (z1.natAbs % z2.natAbs)), Tz (sz (decide (z1 < 0)) (z1.natAbs % z2.natAbs))]]) [1, 2, 3, 5, 11] rfl ?_
          refine nx_then ?_
          refine t_seq ?_
          refine t_seq ?_
          refine t_region (F := ⟨_, _, _, _⟩) [.box 3 94 [Bz z2, Tz z2], .box 4 94 [Bz 0, Tz 0], .box 5 94 [Bz 0, Tz 0], .box 9 94 [Bz (sz (!(true == (decide (z2 < 0)))) (z1.natAbs / z2.natAbs)), Tz (sz (!(true == (decide (z2 < 0)))) (z1.natAbs / z2.natAbs))], .box 10 94 [Bz (sz (decide (z1 < 0)) (z1.natAbs % z2.natAbs)), Tz (sz (decide (z1 < 0)) (z1.natAbs % z2.natAbs))]] [] [(0, .fp 65 10 0), (1, .slot 66 (Bz (sz (decide (z1 < 0)) (z1.natAbs % z2.natAbs))))] [] [0, 1, 2, 3, 4] [] rfl rfl follow rfl ⟨
            .inl ⟨wants_plain rfl, does_field _ _ _ 0 ty_f0_collatorref01_Num rfl rfl rfl rfl rfl rfl rfl (pt_box (av_fs 4 rfl))⟩,
            .inl ⟨wants_plain rfl, does_loadOne _ ty_one_bool rfl rfl rfl rfl rfl rfl (pt_fp (av_rs 0 rfl rfl)) (av_fs 4 rfl)⟩,
            trivial⟩ ?_
          refine nx_sub (fs' := [.box 3 94 [Bz z2, Tz z2], .box 4 94 [Bz 0, Tz 0], .box 5 94 [Bz 0, Tz 0], .box 9 94 [Bz (sz (!(true == (decide (z2 < 0)))) (z1.natAbs / z2.natAbs)), Tz (sz (!(true == (decide (z2 < 0)))) (z1.natAbs / z2.natAbs))], .box 10 94 [Bz (sz (decide (z1 < 0)) (z1.natAbs % z2.natAbs)), Tz (sz (decide (z1 < 0)) (z1.natAbs % z2.natAbs))], .slot 66 (Bz (sz (decide (z1 < 0)) (z1.natAbs % z2.natAbs)))]) [0, 1, 2, 3, 4, 6] rfl ?_
          refine nx_then ?_
          refine t_cond_fe 5 rfl (by rw [g0, decide_eq_true g1]; rfl) ?_
          refine t_skip ?_
          refine nx_then ?_
          refine t_seq ?_
          refine t_region (F := ⟨_, _, _, _⟩) [.box 3 94 [Bz z2, Tz z2], .box 9 94 [Bz (sz (!(true == (decide (z2 < 0)))) (z1.natAbs / z2.natAbs)), Tz (sz (!(true == (decide (z2 < 0)))) (z1.natAbs / z2.natAbs))], .box 10 94 [Bz (sz (decide (z1 < 0)) (z1.natAbs % z2.natAbs)), Tz (sz (decide (z1 < 0)) (z1.natAbs % z2.natAbs))], .slot 66 (Bz (sz (decide (z1 < 0)) (z1.natAbs % z2.natAbs)))] [(2, .box 4 94 [Bz 0, Tz 0]), (3, .box 5 94 [Bz 0, Tz 0])] [(0, .slot 80 (NUM (sz (!(true == (decide (z2 < 0)))) (z1.natAbs / z2.natAbs)))), (1, .slot 81 (NUM (sz (decide (z1 < 0)) (z1.natAbs % z2.natAbs)))), (2, .box 4 94 [Bz (sz (!(true == (decide (z2 < 0)))) (z1.natAbs / z2.natAbs)), Tz (sz (!(true == (decide (z2 < 0)))) (z1.natAbs / z2.natAbs))]), (3, .box 5 94 [Bz (sz (decide (z1 < 0)) (z1.natAbs % z2.natAbs)), Tz (sz (decide (z1 < 0)) (z1.natAbs % z2.natAbs))])] [] [0, 3, 4, 5] [1, 2] rfl rfl follow rfl ⟨
            .inl ⟨wants_plain rfl, does_loadAgg _ ty_agg_collatorref01_Num rfl rfl rfl rfl rfl rfl (pt_box (av_fs 1 rfl)) (av_fs 1 rfl)⟩,
            .inl ⟨wants_plain rfl, does_loadAgg _ ty_agg_collatorref01_Num rfl rfl rfl rfl rfl rfl (pt_box (av_fs 2 rfl)) (av_fs 2 rfl)⟩,
            .inl ⟨wants_plain rfl, does_storeAgg 2 _ _ ty_agg_collatorref01_Num rfl rfl rfl rfl rfl (pt_box (av_os 0 rfl rfl)) (av_os 0 rfl rfl) (ar_tmp (av_rs 0 rfl rfl))⟩,
            .inl ⟨wants_plain rfl, does_storeAgg 2 _ _ ty_agg_collatorref01_Num rfl rfl rfl rfl rfl (pt_box (av_os 1 rfl rfl)) (av_os 1 rfl rfl) (ar_tmp (av_rs 1 rfl rfl))⟩,
            trivial⟩ ?_
          refine nx_sub (fs' := [.box 4 94 [Bz (sz (!(true == (decide (z2 < 0)))) (z1.natAbs / z2.natAbs)), Tz (sz (!(true == (decide (z2 < 0)))) (z1.natAbs / z2.natAbs))], .box 5 94 [Bz (sz (decide (z1 < 0)) (z1.natAbs % z2.natAbs)), Tz (sz (decide (z1 < 0)) (z1.natAbs % z2.natAbs))]]) [6, 7] rfl ?_
          refine nx_then ?_
          refine t_ret ?_
          exact rt_two rfl (res_agg 0 ty_agg_collatorref01_Num rfl) (res_agg 1 ty_agg_collatorref01_Num rfl)
        · have e0 := div_sign1 z1 z2 HM.out (by rw [decide_eq_true g1, decide_eq_true (by omega)]; rfl)
          have e1 : sz (decide (z1 < 0)) (z1.natAbs % z2.natAbs) + sz false z2.natAbs = modZ z1 z2 := by
            rw [← e0.2, decide_eq_true g1]
            have := Nat.mod_lt z1.natAbs HM.out
            unfold sz; simp only [if_true, Bool.false_eq_true, if_false]; omega
          rw [← e1]
          rw [decide_eq_true g1] at e0
          by_cases g2 : z2 < 0
          · rw [decide_eq_true g2] at e0
            have e2 : sz false (z1.natAbs / z2.natAbs) + 1 = divZ z1 z2 := by rw [← e0.1]; rfl
            rw [← e2]
            refine t_region (F := ⟨_, _, _, _⟩) [.box 2 94 [Bz z1, Tz z1], .box 3 94 [Bz z2, Tz z2], .box 4 94 [Bz 0, Tz 0], .box 5 94 [Bz 0, Tz 0], .slot 6 (VP.nums .i64 (fixd 10 k (z1.natAbs / z2.natAbs))), .slot 7 (VP.nums .i64 (dg 10 (z1.natAbs % z2.natAbs)))] [] [(0, .fp 54 2 0), (1, .slot 55 (Bz z1)), (2, .fp 56 3 0), (3, .slot 57 (Bz z2)), (4, .slot 58 (VP.bool false)), (5, .slot 59 (VP.nums .i64 (fixd 10 k (z1.natAbs / z2.natAbs)))), (6, .slot 60 (NUM (sz false (z1.natAbs / z2.natAbs)))), (7, .own 9 94 2), (8, .box 9 94 [Bz (sz false (z1.natAbs / z2.natAbs)), Tz (sz false (z1.natAbs / z2.natAbs))])] [] [0, 1, 2, 3, 4, 5] [] rfl rfl follow rfl ⟨
              .inl ⟨wants_plain rfl, does_field _ _ _ 0 ty_f0_collatorref01_Num rfl rfl rfl rfl rfl rfl rfl (pt_box (av_fs 0 rfl))⟩,
              .inl ⟨wants_plain rfl, does_loadOne _ ty_one_bool rfl rfl rfl rfl rfl rfl (pt_fp (av_rs 0 rfl rfl)) (av_fs 0 rfl)⟩,
              .inl ⟨wants_plain rfl, does_field _ _ _ 0 ty_f0_collatorref01_Num rfl rfl rfl rfl rfl rfl rfl (pt_box (av_fs 1 rfl))⟩,
              .inl ⟨wants_plain rfl, does_loadOne _ ty_one_bool rfl rfl rfl rfl rfl rfl (pt_fp (av_rs 2 rfl rfl)) (av_fs 1 rfl)⟩,
              .inl ⟨wants_plain rfl, does_eqBool (u := true) (v := true) _ _ _ _ _ (by kernel_rfl) rfl rfl rfl rfl rfl rfl (ar_tmp (av_bool (decide_eq_true g1) (av_rs 1 rfl rfl))) (ar_tmp (av_bool (decide_eq_true g2) (av_rs 3 rfl rfl)))⟩,
              .inl ⟨wants_plain rfl, does_move _ (.inl rfl) rfl rfl rfl rfl (ar_tmp (av_fs 4 rfl))⟩,
              .inl ⟨wants_plain rfl, does_call (r_makeQ false z1.natAbs z2.natAbs k HN.out hk1) rfl hb_collator_collatorref01_make1 rfl rfl rfl rfl ⟨(ar_tmp (av_rs 4 rfl rfl)), (ar_tmp (av_rs 5 rfl rfl)), trivial⟩⟩,
              .inl ⟨wants_plain rfl, does_allocOwn [Bz 0, Tz 0] ty_zero_collatorref01_Num rfl rfl rfl rfl rfl z_num rfl⟩,
              .inl ⟨wants_plain rfl, does_storeNew 2 _ _ ty_agg_collatorref01_Num rfl rfl rfl rfl rfl (pt_own (av_rs 7 rfl rfl)) (av_rs 7 rfl rfl) (ar_tmp (av_rs 6 rfl rfl))⟩,
              trivial⟩ ?_
            refine nx_sub (fs' := [.box 2 94 [Bz z1, Tz z1], .box 3 94 [Bz z2, Tz z2], .box 4 94 [Bz 0, Tz 0], .box 5 94 [Bz 0, Tz 0], .slot 7 (VP.nums .i64 (dg 10 (z1.natAbs % z2.natAbs))), .box 9 94 [Bz (sz false (z1.natAbs / z2.natAbs)), Tz (sz false (z1.natAbs / z2.natAbs))]]) [0, 1, 2, 3, 5, 14] rfl ?_
            refine nx_then ?_
            refine t_seq ?_
            refine t_region (F := ⟨_, _, _, _⟩) [.box 2 94 [Bz z1, Tz z1], .box 3 94 [Bz z2, Tz z2], .box 4 94 [Bz 0, Tz 0], .box 5 94 [Bz 0, Tz 0], .slot 7 (VP.nums .i64 (dg 10 (z1.natAbs % z2.natAbs))), .box 9 94 [Bz (sz false (z1.natAbs / z2.natAbs)), Tz (sz false (z1.natAbs / z2.natAbs))]] [] [(0, .fp 61 2 0), (1, .slot 62 (Bz z1)), (2, .slot 63 (VP.nums .i64 (dg 10 (z1.natAbs % z2.natAbs)))), (3, .slot 64 (NUM (sz (decide (z1 < 0)) (z1.natAbs % z2.natAbs)))), (4, .own 10 94 2), (5, .box 10 94 [Bz (sz (decide (z1 < 0)) (z1.natAbs % z2.natAbs)), Tz (sz (decide (z1 < 0)) (z1.natAbs % z2.natAbs))])] [] [0, 1, 2, 3, 4, 5] [] rfl rfl follow rfl ⟨
              .inl ⟨wants_plain rfl, does_field _ _ _ 0 ty_f0_collatorref01_Num rfl rfl rfl rfl rfl rfl rfl (pt_box (av_fs 0 rfl))⟩,
              .inl ⟨wants_plain rfl, does_loadOne _ ty_one_bool rfl rfl rfl rfl rfl rfl (pt_fp (av_rs 0 rfl rfl)) (av_fs 0 rfl)⟩,
              .inl ⟨wants_plain rfl, does_move _ (.inl rfl) rfl rfl rfl rfl (ar_tmp (av_fs 4 rfl))⟩,
              .inl ⟨wants_plain rfl, does_call (r_make1 (decide (z1 < 0)) (z1.natAbs % z2.natAbs)) rfl hb_collator_collatorref01_make1 rfl rfl rfl rfl ⟨(ar_tmp (av_rs 1 rfl rfl)), (ar_tmp (av_rs 2 rfl rfl)), trivial⟩⟩,
              .inl ⟨wants_plain rfl, does_allocOwn [Bz 0, Tz 0] ty_zero_collatorref01_Num rfl rfl rfl rfl rfl z_num rfl⟩,
              .inl ⟨wants_plain rfl, does_storeNew 2 _ _ ty_agg_collatorref01_Num rfl rfl rfl rfl rfl (pt_own (av_rs 4 rfl rfl)) (av_rs 4 rfl rfl) (ar_tmp (av_rs 3 rfl rfl))⟩,
              trivial⟩ ?_
            refine nx_sub (fs' := [.box 3 94 [Bz z2, Tz z2], .box 4 94 [Bz 0, Tz 0], .box 5 94 [Bz 0, Tz 0], .box 9 94 [Bz (sz false (z1.natAbs / z2.natAbs)), Tz (sz false (z1.natAbs / z2.natAbs))], .box 10 94 [Bz (sz (decide (z1 < 0)) (z1.natAbs % z2.natAbs)), Tz (sz (decide (z1 < 0)) (z1.natAbs % z2.natAbs))]]) [1, 2, 3, 5, 11] rfl ?_
            refine nx_then ?_
            refine t_seq ?_
            refine t_seq ?_
            refine t_region (F := ⟨_, _, _, _⟩) [.box 3 94 [Bz z2, Tz z2], .box 4 94 [Bz 0, Tz 0], .box 5 94 [Bz 0, Tz 0], .box 9 94 [Bz (sz false (z1.natAbs / z2.natAbs)), Tz (sz false (z1.natAbs / z2.natAbs))], .box 10 94 [Bz (sz (decide (z1 < 0)) (z1.natAbs % z2.natAbs)), Tz (sz (decide (z1 < 0)) (z1.natAbs % z2.natAbs))]] [] [(0, .fp 65 10 0), (1, .slot 66 (Bz (sz (decide (z1 < 0)) (z1.natAbs % z2.natAbs))))] [] [0, 1, 2, 3, 4] [] rfl rfl follow rfl ⟨
              .inl ⟨wants_plain rfl, does_field _ _ _ 0 ty_f0_collatorref01_Num rfl rfl rfl rfl rfl rfl rfl (pt_box (av_fs 4 rfl))⟩,
              .inl ⟨wants_plain rfl, does_loadOne _ ty_one_bool rfl rfl rfl rfl rfl rfl (pt_fp (av_rs 0 rfl rfl)) (av_fs 4 rfl)⟩,
              trivial⟩ ?_
            refine nx_sub (fs' := [.box 3 94 [Bz z2, Tz z2], .box 4 94 [Bz 0, Tz 0], .box 5 94 [Bz 0, Tz 0], .box 9 94 [Bz (sz false (z1.natAbs / z2.natAbs)), Tz (sz false (z1.natAbs / z2.natAbs))], .box 10 94 [Bz (sz (decide (z1 < 0)) (z1.natAbs % z2.natAbs)), Tz (sz (decide (z1 < 0)) (z1.natAbs % z2.natAbs))], .slot 66 (Bz (sz (decide (z1 < 0)) (z1.natAbs % z2.natAbs)))]) [0, 1, 2, 3, 4, 6] rfl ?_
            refine nx_then ?_
            refine t_cond_te 5 rfl (by rw [sz_neg, decide_eq_true g1, decide_eq_true (by omega)]; rfl) ?_
            refine t_seq ?_
            refine t_region (F := ⟨_, _, _, _⟩) [.box 3 94 [Bz z2, Tz z2], .box 4 94 [Bz 0, Tz 0], .box 5 94 [Bz 0, Tz 0], .box 9 94 [Bz (sz false (z1.natAbs / z2.natAbs)), Tz (sz false (z1.natAbs / z2.natAbs))], .slot 66 (Bz (sz (decide (z1 < 0)) (z1.natAbs % z2.natAbs)))] [(5, .box 10 94 [Bz (sz (decide (z1 < 0)) (z1.natAbs % z2.natAbs)), Tz (sz (decide (z1 < 0)) (z1.natAbs % z2.natAbs))])] [(0, .slot 67 (NUM (sz (decide (z1 < 0)) (z1.natAbs % z2.natAbs)))), (1, .fp 68 3 1), (2, .slot 69 (Tz z2)), (3, .slot 70 (NUM (sz false z2.natAbs))), (4, .slot 71 (NUM ((sz (decide (z1 < 0)) (z1.natAbs % z2.natAbs)) + (sz false z2.natAbs)))), (5, .box 10 94 [Bz ((sz (decide (z1 < 0)) (z1.natAbs % z2.natAbs)) + (sz false z2.natAbs)), Tz ((sz (decide (z1 < 0)) (z1.natAbs % z2.natAbs)) + (sz false z2.natAbs))])] [] [0, 1, 2, 3, 5] [4] rfl rfl follow rfl ⟨
              .inl ⟨wants_plain rfl, does_loadAgg _ ty_agg_collatorref01_Num rfl rfl rfl rfl rfl rfl (pt_box (av_os 0 rfl rfl)) (av_os 0 rfl rfl)⟩,
              .inl ⟨wants_plain rfl, does_field _ _ _ 1 ty_f1_collatorref01_Num rfl rfl rfl rfl rfl rfl rfl (pt_box (av_fs 0 rfl))⟩,
              .inl ⟨wants_plain rfl, does_loadOne _ ty_one___int rfl rfl rfl rfl rfl rfl (pt_fp (av_rs 1 rfl rfl)) (av_fs 0 rfl)⟩,
              .inl ⟨wants_plain rfl, does_call (r_make1 false z2.natAbs) rfl hb_collator_collatorref01_make1 rfl rfl rfl rfl ⟨(ar_const (fun _ => rfl)), (ar_tmp (av_rs 2 rfl rfl)), trivial⟩⟩,
              .inl ⟨wants_plain rfl, does_call (r_add (sz (decide (z1 < 0)) (z1.natAbs % z2.natAbs)) (sz false z2.natAbs) (by rw [sz_abs]; exact HLR) (by rw [sz_abs]; exact hbz2)) rfl hb_collator_collatorref01_Add rfl rfl rfl rfl ⟨(ar_tmp (av_rs 0 rfl rfl)), (ar_tmp (av_rs 3 rfl rfl)), trivial⟩⟩,
              .inl ⟨wants_plain rfl, does_storeAgg 2 _ _ ty_agg_collatorref01_Num rfl rfl rfl rfl rfl (pt_box (av_os 0 rfl rfl)) (av_os 0 rfl rfl) (ar_tmp (av_rs 4 rfl rfl))⟩,
              trivial⟩ ?_
            refine nx_sub (fs' := [.box 3 94 [Bz z2, Tz z2], .box 4 94 [Bz 0, Tz 0], .box 5 94 [Bz 0, Tz 0], .box 9 94 [Bz (sz false (z1.natAbs / z2.natAbs)), Tz (sz false (z1.natAbs / z2.natAbs))], .box 10 94 [Bz ((sz (decide (z1 < 0)) (z1.natAbs % z2.natAbs)) + (sz false z2.natAbs)), Tz ((sz (decide (z1 < 0)) (z1.natAbs % z2.natAbs)) + (sz false z2.natAbs))]]) [0, 1, 2, 3, 10] rfl ?_
            refine nx_then ?_
            refine t_seq ?_
            refine t_region (F := ⟨_, _, _, _⟩) [.box 3 94 [Bz z2, Tz z2], .box 4 94 [Bz 0, Tz 0], .box 5 94 [Bz 0, Tz 0], .box 9 94 [Bz (sz false (z1.natAbs / z2.natAbs)), Tz (sz false (z1.natAbs / z2.natAbs))], .box 10 94 [Bz ((sz (decide (z1 < 0)) (z1.natAbs % z2.natAbs)) + (sz false z2.natAbs)), Tz ((sz (decide (z1 < 0)) (z1.natAbs % z2.natAbs)) + (sz false z2.natAbs))]] [] [(0, .fp 72 3 0), (1, .slot 73 (Bz z2))] [] [0, 1, 2, 3, 4] [] rfl rfl follow rfl ⟨
              .inl ⟨wants_plain rfl, does_field _ _ _ 0 ty_f0_collatorref01_Num rfl rfl rfl rfl rfl rfl rfl (pt_box (av_fs 0 rfl))⟩,
              .inl ⟨wants_plain rfl, does_loadOne _ ty_one_bool rfl rfl rfl rfl rfl rfl (pt_fp (av_rs 0 rfl rfl)) (av_fs 0 rfl)⟩,
              trivial⟩ ?_
            refine nx_sub (fs' := [.box 4 94 [Bz 0, Tz 0], .box 5 94 [Bz 0, Tz 0], .box 9 94 [Bz (sz false (z1.natAbs / z2.natAbs)), Tz (sz false (z1.natAbs / z2.natAbs))], .box 10 94 [Bz ((sz (decide (z1 < 0)) (z1.natAbs % z2.natAbs)) + (sz false z2.natAbs)), Tz ((sz (decide (z1 < 0)) (z1.natAbs % z2.natAbs)) + (sz false z2.natAbs))], .slot 73 (Bz z2)]) [1, 2, 3, 4, 6] rfl ?_
            refine nx_then ?_
            refine t_cond_te 4 rfl (decide_eq_true g2) ?_
            refine t_region (F := ⟨_, _, _, _⟩) [.box 4 94 [Bz 0, Tz 0], .box 5 94 [Bz 0, Tz 0], .box 10 94 [Bz ((sz (decide (z1 < 0)) (z1.natAbs % z2.natAbs)) + (sz false z2.natAbs)), Tz ((sz (decide (z1 < 0)) (z1.natAbs % z2.natAbs)) + (sz false z2.natAbs))], .slot 73 (Bz z2)] [(3, .box 9 94 [Bz (sz false (z1.natAbs / z2.natAbs)), Tz (sz false (z1.natAbs / z2.natAbs))])] [(0, .slot 74 (NUM (sz false (z1.natAbs / z2.natAbs)))), (1, .slot 75 (NUM 1)), (2, .slot 76 (NUM ((sz false (z1.natAbs / z2.natAbs)) + 1))), (3, .box 9 94 [Bz ((sz false (z1.natAbs / z2.natAbs)) + 1), Tz ((sz false (z1.natAbs / z2.natAbs)) + 1)])] [] [0, 1, 3, 4] [2] rfl rfl follow rfl ⟨
              .inl ⟨wants_plain rfl, does_loadAgg _ ty_agg_collatorref01_Num rfl rfl rfl rfl rfl rfl (pt_box (av_os 0 rfl rfl)) (av_os 0 rfl rfl)⟩,
              .inl ⟨wants_plain rfl, does_call (r_int 1 (by decide) (by decide)) rfl hb_collator_collatorref01_Int rfl rfl rfl rfl ⟨(ar_const (fun _ => rfl)), trivial⟩⟩,
              .inl ⟨wants_plain rfl, does_call (r_add (sz false (z1.natAbs / z2.natAbs)) 1 (by rw [sz_abs]; exact HLQ) (by decide)) rfl hb_collator_collatorref01_Add rfl rfl rfl rfl ⟨(ar_tmp (av_rs 0 rfl rfl)), (ar_tmp (av_rs 1 rfl rfl)), trivial⟩⟩,
              .inl ⟨wants_plain rfl, does_storeAgg 2 _ _ ty_agg_collatorref01_Num rfl rfl rfl rfl rfl (pt_box (av_os 0 rfl rfl)) (av_os 0 rfl rfl) (ar_tmp (av_rs 2 rfl rfl))⟩,
              trivial⟩ ?_
            refine nx_sub (fs' := [.box 4 94 [Bz 0, Tz 0], .box 5 94 [Bz 0, Tz 0], .box 10 94 [Bz ((sz (decide (z1 < 0)) (z1.natAbs % z2.natAbs)) + (sz false z2.natAbs)), Tz ((sz (decide (z1 < 0)) (z1.natAbs % z2.natAbs)) + (sz false z2.natAbs))], .box 9 94 [Bz ((sz false (z1.natAbs / z2.natAbs)) + 1), Tz ((sz false (z1.natAbs / z2.natAbs)) + 1)]]) [0, 1, 2, 7] rfl ?_
            refine nx_then ?_
            refine t_seq ?_
            refine t_region (F := ⟨_, _, _, _⟩) [.box 10 94 [Bz ((sz (decide (z1 < 0)) (z1.natAbs % z2.natAbs)) + (sz false z2.natAbs)), Tz ((sz (decide (z1 < 0)) (z1.natAbs % z2.natAbs)) + (sz false z2.natAbs))], .box 9 94 [Bz ((sz false (z1.natAbs / z2.natAbs)) + 1), Tz ((sz false (z1.natAbs / z2.natAbs)) + 1)]] [(2, .box 4 94 [Bz 0, Tz 0]), (3, .box 5 94 [Bz 0, Tz 0])] [(0, .slot 80 (NUM ((sz false (z1.natAbs / z2.natAbs)) + 1))), (1, .slot 81 (NUM ((sz (decide (z1 < 0)) (z1.natAbs % z2.natAbs)) + (sz false z2.natAbs)))), (2, .box 4 94 [Bz ((sz false (z1.natAbs / z2.natAbs)) + 1), Tz ((sz false (z1.natAbs / z2.natAbs)) + 1)]), (3, .box 5 94 [Bz ((sz (decide (z1 < 0)) (z1.natAbs % z2.natAbs)) + (sz false z2.natAbs)), Tz ((sz (decide (z1 < 0)) (z1.natAbs % z2.natAbs)) + (sz false z2.natAbs))])] [] [2, 3] [0, 1] rfl rfl follow rfl ⟨
              .inl ⟨wants_plain rfl, does_loadAgg _ ty_agg_collatorref01_Num rfl rfl rfl rfl rfl rfl (pt_box (av_fs 1 rfl)) (av_fs 1 rfl)⟩,
              .inl ⟨wants_plain rfl, does_loadAgg _ ty_agg_collatorref01_Num rfl rfl rfl rfl rfl rfl (pt_box (av_fs 0 rfl)) (av_fs 0 rfl)⟩,
              .inl ⟨wants_plain rfl, does_storeAgg 2 _ _ ty_agg_collatorref01_Num rfl rfl rfl rfl rfl (pt_box (av_os 0 rfl rfl)) (av_os 0 rfl rfl) (ar_tmp (av_rs 0 rfl rfl))⟩,
              .inl ⟨wants_plain rfl, does_storeAgg 2 _ _ ty_agg_collatorref01_Num rfl rfl rfl rfl rfl (pt_box (av_os 1 rfl rfl)) (av_os 1 rfl rfl) (ar_tmp (av_rs 1 rfl rfl))⟩,
              trivial⟩ ?_
            refine nx_sub (fs' := [.box 4 94 [Bz ((sz false (z1.natAbs / z2.natAbs)) + 1), Tz ((sz false (z1.natAbs / z2.natAbs)) + 1)], .box 5 94 [Bz ((sz (decide (z1 < 0)) (z1.natAbs % z2.natAbs)) + (sz false z2.natAbs)), Tz ((sz (decide (z1 < 0)) (z1.natAbs % z2.natAbs)) + (sz false z2.natAbs))]]) [4, 5] rfl ?_
            refine nx_then ?_
            refine t_ret ?_
            exact rt_two rfl (res_agg 0 ty_agg_collatorref01_Num rfl) (res_agg 1 ty_agg_collatorref01_Num rfl)
          · rw [decide_eq_false g2] at e0
            have e2 : sz true (z1.natAbs / z2.natAbs) + (-1) = divZ z1 z2 := by
              rw [← e0.1]; show sz true _ + -1 = sz true _; unfold sz; simp only [if_true]; omega
            rw [← e2]
            refine t_region (F := ⟨_, _, _, _⟩) [.box 2 94 [Bz z1, Tz z1], .box 3 94 [Bz z2, Tz z2], .box 4 94 [Bz 0, Tz 0], .box 5 94 [Bz 0, Tz 0], .slot 6 (VP.nums .i64 (fixd 10 k (z1.natAbs / z2.natAbs))), .slot 7 (VP.nums .i64 (dg 10 (z1.natAbs % z2.natAbs)))] [] [(0, .fp 54 2 0), (1, .slot 55 (Bz z1)), (2, .fp 56 3 0), (3, .slot 57 (Bz z2)), (4, .slot 58 (VP.bool true)), (5, .slot 59 (VP.nums .i64 (fixd 10 k (z1.natAbs / z2.natAbs)))), (6, .slot 60 (NUM (sz true (z1.natAbs / z2.natAbs)))), (7, .own 9 94 2), (8, .box 9 94 [Bz (sz true (z1.natAbs / z2.natAbs)), Tz (sz true (z1.natAbs / z2.natAbs))])] [] [0, 1, 2, 3, 4, 5] [] rfl rfl follow rfl ⟨
              .inl ⟨wants_plain rfl, does_field _ _ _ 0 ty_f0_collatorref01_Num rfl rfl rfl rfl rfl rfl rfl (pt_box (av_fs 0 rfl))⟩,
              .inl ⟨wants_plain rfl, does_loadOne _ ty_one_bool rfl rfl rfl rfl rfl rfl (pt_fp (av_rs 0 rfl rfl)) (av_fs 0 rfl)⟩,
              .inl ⟨wants_plain rfl, does_field _ _ _ 0 ty_f0_collatorref01_Num rfl rfl rfl rfl rfl rfl rfl (pt_box (av_fs 1 rfl))⟩,
              .inl ⟨wants_plain rfl, does_loadOne _ ty_one_bool rfl rfl rfl rfl rfl rfl (pt_fp (av_rs 2 rfl rfl)) (av_fs 1 rfl)⟩,
              .inl ⟨wants_plain rfl, does_eqBool (u := true) (v := false) _ _ _ _ _ (by kernel_rfl) rfl rfl rfl rfl rfl rfl (ar_tmp (av_bool (decide_eq_true g1) (av_rs 1 rfl rfl))) (ar_tmp (av_bool (decide_eq_false g2) (av_rs 3 rfl rfl)))⟩,
              .inl ⟨wants_plain rfl, does_move _ (.inl rfl) rfl rfl rfl rfl (ar_tmp (av_fs 4 rfl))⟩,
              .inl ⟨wants_plain rfl, does_call (r_makeQ true z1.natAbs z2.natAbs k HN.out hk1) rfl hb_collator_collatorref01_make1 rfl rfl rfl rfl ⟨(ar_tmp (av_rs 4 rfl rfl)), (ar_tmp (av_rs 5 rfl rfl)), trivial⟩⟩,
              .inl ⟨wants_plain rfl, does_allocOwn [Bz 0, Tz 0] ty_zero_collatorref01_Num rfl rfl rfl rfl rfl z_num rfl⟩,
              .inl ⟨wants_plain rfl, does_storeNew 2 _ _ ty_agg_collatorref01_Num rfl rfl rfl rfl rfl (pt_own (av_rs 7 rfl rfl)) (av_rs 7 rfl rfl) (ar_tmp (av_rs 6 rfl rfl))⟩,
              trivial⟩ ?_
            refine nx_sub (fs' := [.box 2 94 [Bz z1, Tz z1], .box 3 94 [Bz z2, Tz z2], .box 4 94 [Bz 0, Tz 0], .box 5 94 [Bz 0, Tz 0], .slot 7 (VP.nums .i64 (dg 10 (z1.natAbs % z2.natAbs))), .box 9 94 [Bz (sz true (z1.natAbs / z2.natAbs)), Tz (sz true (z1.natAbs / z2.natAbs))]]) [0, 1, 2, 3, 5, 14] rfl ?_
            refine nx_then ?_
            refine t_seq ?_
            refine t_region (F := ⟨_, _, _, _⟩) [.box 2 94 [Bz z1, Tz z1], .box 3 94 [Bz z2, Tz z2], .box 4 94 [Bz 0, Tz 0], .box 5 94 [Bz 0, Tz 0], .slot 7 (VP.nums .i64 (dg 10 (z1.natAbs % z2.natAbs))), .box 9 94 [Bz (sz true (z1.natAbs / z2.natAbs)), Tz (sz true (z1.natAbs / z2.natAbs))]] [] [(0, .fp 61 2 0), (1, .slot 62 (Bz z1)), (2, .slot 63 (VP.nums .i64 (dg 10 (z1.natAbs % z2.natAbs)))), (3, .slot 64 (NUM (sz (decide (z1 < 0)) (z1.natAbs % z2.natAbs)))), (4, .own 10 94 2), (5, .box 10 94 [Bz (sz (decide (z1 < 0)) (z1.natAbs % z2.natAbs)), Tz (sz (decide (z1 < 0)) (z1.natAbs % z2.natAbs))])] [] [0, 1, 2, 3, 4, 5] [] rfl rfl follow rfl ⟨
              .inl ⟨wants_plain rfl, does_field _ _ _ 0 ty_f0_collatorref01_Num rfl rfl rfl rfl rfl rfl rfl (pt_box (av_fs 0 rfl))⟩,
              .inl ⟨wants_plain rfl, does_loadOne _ ty_one_bool rfl rfl rfl rfl rfl rfl (pt_fp (av_rs 0 rfl rfl)) (av_fs 0 rfl)⟩,
              .inl ⟨wants_plain rfl, does_move _ (.inl rfl) rfl rfl rfl rfl (ar_tmp (av_fs 4 rfl))⟩,
              .inl ⟨wants_plain rfl, does_call (r_make1 (decide (z1 < 0)) (z1.natAbs % z2.natAbs)) rfl hb_collator_collatorref01_make1 rfl rfl rfl rfl ⟨(ar_tmp (av_rs 1 rfl rfl)), (ar_tmp (av_rs 2 rfl rfl)), trivial⟩⟩,
              .inl ⟨wants_plain rfl, does_allocOwn [Bz 0, Tz 0] ty_zero_collatorref01_Num rfl rfl rfl rfl rfl z_num rfl⟩,
              .inl ⟨wants_plain rfl, does_storeNew 2 _ _ ty_agg_collatorref01_Num rfl rfl rfl rfl rfl (pt_own (av_rs 4 rfl rfl)) (av_rs 4 rfl rfl) (ar_tmp (av_rs 3 rfl rfl))⟩,
              trivial⟩ ?_
            refine nx_sub (fs' := [.box 3 94 [Bz z2, Tz z2], .box 4 94 [Bz 0, Tz 0], .box 5 94 [Bz 0, Tz 0], .box 9 94 [Bz (sz true (z1.natAbs / z2.natAbs)), Tz (sz true (z1.natAbs / z2.natAbs))], .box 10 94 [Bz (sz (decide (z1 < 0)) (z1.natAbs % z2.natAbs)), Tz (sz (decide (z1 < 0)) (z1.natAbs % z2.natAbs))]]) [1, 2, 3, 5, 11] rfl ?_
            refine nx_then ?_
            refine t_seq ?_
            refine t_seq ?_
            refine t_region (F := ⟨_, _, _, _⟩) [.box 3 94 [Bz z2, Tz z2], .box 4 94 [Bz 0, Tz 0], .box 5 94 [Bz 0, Tz 0], .box 9 94 [Bz (sz true (z1.natAbs / z2.natAbs)), Tz (sz true (z1.natAbs / z2.natAbs))], .box 10 94 [Bz (sz (decide (z1 < 0)) (z1.natAbs % z2.natAbs)), Tz (sz (decide (z1 < 0)) (z1.natAbs % z2.natAbs))]] [] [(0, .fp 65 10 0), (1, .slot 66 (Bz (sz (decide (z1 < 0)) (z1.natAbs % z2.natAbs))))] [] [0, 1, 2, 3, 4] [] rfl rfl follow rfl ⟨
              .inl ⟨wants_plain rfl, does_field _ _ _ 0 ty_f0_collatorref01_Num rfl rfl rfl rfl rfl rfl rfl (pt_box (av_fs 4 rfl))⟩,
              .inl ⟨wants_plain rfl, does_loadOne _ ty_one_bool rfl rfl rfl rfl rfl rfl (pt_fp (av_rs 0 rfl rfl)) (av_fs 4 rfl)⟩,
              trivial⟩ ?_
            refine nx_sub (fs' := [.box 3 94 [Bz z2, Tz z2], .box 4 94 [Bz 0, Tz 0], .box 5 94 [Bz 0, Tz 0], .box 9 94 [Bz (sz true (z1.natAbs / z2.natAbs)), Tz (sz true (z1.natAbs / z2.natAbs))], .box 10 94 [Bz (sz (decide (z1 < 0)) (z1.natAbs % z2.natAbs)), Tz (sz (decide (z1 < 0)) (z1.natAbs % z2.natAbs))], .slot 66 (Bz (sz (decide (z1 < 0)) (z1.natAbs % z2.natAbs)))]) [0, 1, 2, 3, 4, 6] rfl ?_
            refine nx_then ?_
            refine t_cond_te 5 rfl (by rw [sz_neg, decide_eq_true g1, decide_eq_true (by omega)]; rfl) ?_
            refine t_seq ?_
            refine t_region (F := ⟨_, _, _, _⟩) [.box 3 94 [Bz z2, Tz z2], .box 4 94 [Bz 0, Tz 0], .box 5 94 [Bz 0, Tz 0], .box 9 94 [Bz (sz true (z1.natAbs / z2.natAbs)), Tz (sz true (z1.natAbs / z2.natAbs))], .slot 66 (Bz (sz (decide (z1 < 0)) (z1.natAbs % z2.natAbs)))] [(5, .box 10 94 [Bz (sz (decide (z1 < 0)) (z1.natAbs % z2.natAbs)), Tz (sz (decide (z1 < 0)) (z1.natAbs % z2.natAbs))])] [(0, .slot 67 (NUM (sz (decide (z1 < 0)) (z1.natAbs % z2.natAbs)))), (1, .fp 68 3 1), (2, .slot 69 (Tz z2)), (3, .slot 70 (NUM (sz false z2.natAbs))), (4, .slot 71 (NUM ((sz (decide (z1 < 0)) (z1.natAbs % z2.natAbs)) + (sz false z2.natAbs)))), (5, .box 10 94 [Bz ((sz (decide (z1 < 0)) (z1.natAbs % z2.natAbs)) + (sz false z2.natAbs)), Tz ((sz (decide (z1 < 0)) (z1.natAbs % z2.natAbs)) + (sz false z2.natAbs))])] [] [0, 1, 2, 3, 5] [4] rfl rfl follow rfl ⟨
              .inl ⟨wants_plain rfl, does_loadAgg _ ty_agg_collatorref01_Num rfl rfl rfl rfl rfl rfl (pt_box (av_os 0 rfl rfl)) (av_os 0 rfl rfl)⟩,
              .inl ⟨wants_plain rfl, does_field _ _ _ 1 ty_f1_collatorref01_Num rfl rfl rfl rfl rfl rfl rfl (pt_box (av_fs 0 rfl))⟩,
              .inl ⟨wants_plain rfl, does_loadOne _ ty_one___int rfl rfl rfl rfl rfl rfl (pt_fp (av_rs 1 rfl rfl)) (av_fs 0 rfl)⟩,
              .inl ⟨wants_plain rfl, does_call (r_make1 false z2.natAbs) rfl hb_collator_collatorref01_make1 rfl rfl rfl rfl ⟨(ar_const (fun _ => rfl)), (ar_tmp (av_rs 2 rfl rfl)), trivial⟩⟩,
              .inl ⟨wants_plain rfl, does_call (r_add (sz (decide (z1 < 0)) (z1.natAbs % z2.natAbs)) (sz false z2.natAbs) (by rw [sz_abs]; exact HLR) (by rw [sz_abs]; exact hbz2)) rfl hb_collator_collatorref01_Add rfl rfl rfl rfl ⟨(ar_tmp (av_rs 0 rfl rfl)), (ar_tmp (av_rs 3 rfl rfl)), trivial⟩⟩,
              .inl ⟨wants_plain rfl, does_storeAgg 2 _ _ ty_agg_collatorref01_Num rfl rfl rfl rfl rfl (pt_box (av_os 0 rfl rfl)) (av_os 0 rfl rfl) (ar_tmp (av_rs 4 rfl rfl))⟩,
              trivial⟩ ?_
            refine nx_sub (fs' := [.box 3 94 [Bz z2, Tz z2], .box 4 94 [Bz 0, Tz 0], .box 5 94 [Bz 0, Tz 0], .box 9 94 [Bz (sz true (z1.natAbs / z2.natAbs)), Tz (sz true (z1.natAbs / z2.natAbs))], .box 10 94 [Bz ((sz (decide (z1 < 0)) (z1.natAbs % z2.natAbs)) + (sz false z2.natAbs)), Tz ((sz (decide (z1 < 0)) (z1.natAbs % z2.natAbs)) + (sz false z2.natAbs))]]) [0, 1, 2, 3, 10] rfl ?_
            refine nx_then ?_
            refine t_seq ?_
            refine t_region (F := ⟨_, _, _, _⟩) [.box 3 94 [Bz z2, Tz z2], .box 4 94 [Bz 0, Tz 0], .box 5 94 [Bz 0, Tz 0], .box 9 94 [Bz (sz true (z1.natAbs / z2.natAbs)), Tz (sz true (z1.natAbs / z2.natAbs))], .box 10 94 [Bz ((sz (decide (z1 < 0)) (z1.natAbs % z2.natAbs)) + (sz false z2.natAbs)), Tz ((sz (decide (z1 < 0)) (z1.natAbs % z2.natAbs)) + (sz false z2.natAbs))]] [] [(0, .fp 72 3 0), (1, .slot 73 (Bz z2))] [] [0, 1, 2, 3, 4] [] rfl rfl follow rfl ⟨
              .inl ⟨wants_plain rfl, does_field _ _ _ 0 ty_f0_collatorref01_Num rfl rfl rfl rfl rfl rfl rfl (pt_box (av_fs 0 rfl))⟩,
              .inl ⟨wants_plain rfl, does_loadOne _ ty_one_bool rfl rfl rfl rfl rfl rfl (pt_fp (av_rs 0 rfl rfl)) (av_fs 0 rfl)⟩,
              trivial⟩ ?_
            refine nx_sub (fs' := [.box 4 94 [Bz 0, Tz 0], .box 5 94 [Bz 0, Tz 0], .box 9 94 [Bz (sz true (z1.natAbs / z2.natAbs)), Tz (sz true (z1.natAbs / z2.natAbs))], .box 10 94 [Bz ((sz (decide (z1 < 0)) (z1.natAbs % z2.natAbs)) + (sz false z2.natAbs)), Tz ((sz (decide (z1 < 0)) (z1.natAbs % z2.natAbs)) + (sz false z2.natAbs))], .slot 73 (Bz z2)]) [1, 2, 3, 4, 6] rfl ?_
            refine nx_then ?_
            refine t_cond_fe 4 rfl (decide_eq_false g2) ?_
            refine t_region (F := ⟨_, _, _, _⟩) [.box 4 94 [Bz 0, Tz 0], .box 5 94 [Bz 0, Tz 0], .box 10 94 [Bz ((sz (decide (z1 < 0)) (z1.natAbs % z2.natAbs)) + (sz false z2.natAbs)), Tz ((sz (decide (z1 < 0)) (z1.natAbs % z2.natAbs)) + (sz false z2.natAbs))], .slot 73 (Bz z2)] [(3, .box 9 94 [Bz (sz true (z1.natAbs / z2.natAbs)), Tz (sz true (z1.natAbs / z2.natAbs))])] [(0, .slot 77 (NUM (sz true (z1.natAbs / z2.natAbs)))), (1, .slot 78 (NUM (-1))), (2, .slot 79 (NUM ((sz true (z1.natAbs / z2.natAbs)) + (-1)))), (3, .box 9 94 [Bz ((sz true (z1.natAbs / z2.natAbs)) + (-1)), Tz ((sz true (z1.natAbs / z2.natAbs)) + (-1))])] [] [0, 1, 3, 4] [2] rfl rfl follow rfl ⟨
              .inl ⟨wants_plain rfl, does_loadAgg _ ty_agg_collatorref01_Num rfl rfl rfl rfl rfl rfl (pt_box (av_os 0 rfl rfl)) (av_os 0 rfl rfl)⟩,
              .inl ⟨wants_plain rfl, does_call (r_int (-1) (by decide) (by decide)) rfl hb_collator_collatorref01_Int rfl rfl rfl rfl ⟨(ar_const (fun _ => rfl)), trivial⟩⟩,
              .inl ⟨wants_plain rfl, does_call (r_add (sz true (z1.natAbs / z2.natAbs)) (-1) (by rw [sz_abs]; exact HLQ) (by decide)) rfl hb_collator_collatorref01_Add rfl rfl rfl rfl ⟨(ar_tmp (av_rs 0 rfl rfl)), (ar_tmp (av_rs 1 rfl rfl)), trivial⟩⟩,
              .inl ⟨wants_plain rfl, does_storeAgg 2 _ _ ty_agg_collatorref01_Num rfl rfl rfl rfl rfl (pt_box (av_os 0 rfl rfl)) (av_os 0 rfl rfl) (ar_tmp (av_rs 2 rfl rfl))⟩,
              trivial⟩ ?_
            refine nx_sub (fs' := [.box 4 94 [Bz 0, Tz 0], .box 5 94 [Bz 0, Tz 0], .box 10 94 [Bz ((sz (decide (z1 < 0)) (z1.natAbs % z2.natAbs)) + (sz false z2.natAbs)), Tz ((sz (decide (z1 < 0)) (z1.natAbs % z2.natAbs)) + (sz false z2.natAbs))], .box 9 94 [Bz ((sz true (z1.natAbs / z2.natAbs)) + (-1)), Tz ((sz true (z1.natAbs / z2.natAbs)) + (-1))]]) [0, 1, 2, 7] rfl ?_
            refine nx_then ?_
            refine t_seq ?_
            refine t_region (F := ⟨_, _, _, _⟩) [.box 10 94 [Bz ((sz (decide (z1 < 0)) (z1.natAbs % z2.natAbs)) + (sz false z2.natAbs)), Tz ((sz (decide (z1 < 0)) (z1.natAbs % z2.natAbs)) + (sz false z2.natAbs))], .box 9 94 [Bz ((sz true (z1.natAbs / z2.natAbs)) + (-1)), Tz ((sz true (z1.natAbs / z2.natAbs)) + (-1))]] [(2, .box 4 94 [Bz 0, Tz 0]), (3, .box 5 94 [Bz 0, Tz 0])] [(0, .slot 80 (NUM ((sz true (z1.natAbs / z2.natAbs)) + (-1)))), (1, .slot 81 (NUM ((sz (decide (z1 < 0)) (z1.natAbs % z2.natAbs)) + (sz false z2.natAbs)))), (2, .box 4 94 [Bz ((sz true (z1.natAbs / z2.natAbs)) + (-1)), Tz ((sz true (z1.natAbs / z2.natAbs)) + (-1))]), (3, .box 5 94 [Bz ((sz (decide (z1 < 0)) (z1.natAbs % z2.natAbs)) + (sz false z2.natAbs)), Tz ((sz (decide (z1 < 0)) (z1.natAbs % z2.natAbs)) + (sz false z2.natAbs))])] [] [2, 3] [0, 1] rfl rfl follow rfl ⟨
              .inl ⟨wants_plain rfl, does_loadAgg _ ty_agg_collatorref01_Num rfl rfl rfl rfl rfl rfl (pt_box (av_fs 1 rfl)) (av_fs 1 rfl)⟩,
              .inl ⟨wants_plain rfl, does_loadAgg _ ty_agg_collatorref01_Num rfl rfl rfl rfl rfl rfl (pt_box (av_fs 0 rfl)) (av_fs 0 rfl)⟩,
              .inl ⟨wants_plain rfl, does_storeAgg 2 _ _ ty_agg_collatorref01_Num rfl rfl rfl rfl rfl (pt_box (av_os 0 rfl rfl)) (av_os 0 rfl rfl) (ar_tmp (av_rs 0 rfl rfl))⟩,
              .inl ⟨wants_plain rfl, does_storeAgg 2 _ _ ty_agg_collatorref01_Num rfl rfl rfl rfl rfl (pt_box (av_os 1 rfl rfl)) (av_os 1 rfl rfl) (ar_tmp (av_rs 1 rfl rfl))⟩,
              trivial⟩ ?_
            refine nx_sub (fs' := [.box 4 94 [Bz ((sz true (z1.natAbs / z2.natAbs)) + (-1)), Tz ((sz true (z1.natAbs / z2.natAbs)) + (-1))], .box 5 94 [Bz ((sz (decide (z1 < 0)) (z1.natAbs % z2.natAbs)) + (sz false z2.natAbs)), Tz ((sz (decide (z1 < 0)) (z1.natAbs % z2.natAbs)) + (sz false z2.natAbs))]]) [4, 5] rfl ?_
            refine nx_then ?_
            refine t_ret ?_
            exact rt_two rfl (res_agg 0 ty_agg_collatorref01_Num rfl) (res_agg 1 ty_agg_collatorref01_Num rfl)
      · have e0 := div_sign2 z1 z2 HM.out (by rw [decide_eq_false g1]; rfl)
        rw [decide_eq_false g1] at e0
        have e2 := e0.1
        rw [show (false != decide (z2 < 0)) = (!(false == decide (z2 < 0))) from rfl] at e2
        have e1 : sz (decide (z1 < 0)) (z1.natAbs % z2.natAbs) = modZ z1 z2 := by rw [← e0.2, decide_eq_false g1]
        rw [← e1, ← e2]
        refine t_region (F := ⟨_, _, _, _⟩) [.box 2 94 [Bz z1, Tz z1], .box 3 94 [Bz z2, Tz z2], .box 4 94 [Bz 0, Tz 0], .box 5 94 [Bz 0, Tz 0], .slot 6 (VP.nums .i64 (fixd 10 k (z1.natAbs / z2.natAbs))), .slot 7 (VP.nums .i64 (dg 10 (z1.natAbs % z2.natAbs)))] [] [(0, .fp 54 2 0), (1, .slot 55 (Bz z1)), (2, .fp 56 3 0), (3, .slot 57 (Bz z2)), (4, .slot 58 (VP.bool (!(false == (decide (z2 < 0)))))), (5, .slot 59 (VP.nums .i64 (fixd 10 k (z1.natAbs / z2.natAbs)))), (6, .slot 60 (NUM (sz (!(false == (decide (z2 < 0)))) (z1.natAbs / z2.natAbs)))), (7, .own 9 94 2), (8, .box 9 94 [Bz (sz (!(false == (decide (z2 < 0)))) (z1.natAbs / z2.natAbs)), Tz (sz (!(false == (decide (z2 < 0)))) (z1.natAbs / z2.natAbs))])] [] [0, 1, 2, 3, 4, 5] [] rfl rfl follow rfl ⟨
          .inl ⟨wants_plain rfl, does_field _ _ _ 0 ty_f0_collatorref01_Num rfl rfl rfl rfl rfl rfl rfl (pt_box (av_fs 0 rfl))⟩,
          .inl ⟨wants_plain rfl, does_loadOne _ ty_one_bool rfl rfl rfl rfl rfl rfl (pt_fp (av_rs 0 rfl rfl)) (av_fs 0 rfl)⟩,
          .inl ⟨wants_plain rfl, does_field _ _ _ 0 ty_f0_collatorref01_Num rfl rfl rfl rfl rfl rfl rfl (pt_box (av_fs 1 rfl))⟩,
          .inl ⟨wants_plain rfl, does_loadOne _ ty_one_bool rfl rfl rfl rfl rfl rfl (pt_fp (av_rs 2 rfl rfl)) (av_fs 1 rfl)⟩,
          .inl ⟨wants_plain rfl, does_eqBool (u := false) (v := (decide (z2 < 0))) _ _ _ _ _ (by kernel_rfl) rfl rfl rfl rfl rfl rfl (ar_tmp (av_bool (decide_eq_false g1) (av_rs 1 rfl rfl))) (ar_tmp (av_rs 3 rfl rfl))⟩,
          .inl ⟨wants_plain rfl, does_move _ (.inl rfl) rfl rfl rfl rfl (ar_tmp (av_fs 4 rfl))⟩,
          .inl ⟨wants_plain rfl, does_call (r_makeQ (!(false == (decide (z2 < 0)))) z1.natAbs z2.natAbs k HN.out hk1) rfl hb_collator_collatorref01_make1 rfl rfl rfl rfl ⟨(ar_tmp (av_rs 4 rfl rfl)), (ar_tmp (av_rs 5 rfl rfl)), trivial⟩⟩,
          .inl ⟨wants_plain rfl, does_allocOwn [Bz 0, Tz 0] ty_zero_collatorref01_Num rfl rfl rfl rfl rfl z_num rfl⟩,
          .inl ⟨wants_plain rfl, does_storeNew 2 _ _ ty_agg_collatorref01_Num rfl rfl rfl rfl rfl (pt_own (av_rs 7 rfl rfl)) (av_rs 7 rfl rfl) (ar_tmp (av_rs 6 rfl rfl))⟩,
          trivial⟩ ?_
        refine nx_sub (fs' := [.box 2 94 [Bz z1, Tz z1], .box 3 94 [Bz z2, Tz z2], .box 4 94 [Bz 0, Tz 0], .box 5 94 [Bz 0, Tz 0], .slot 7 (VP.nums .i64 (dg 10 (z1.natAbs % z2.natAbs))), .box 9 94 [Bz (sz (!(false == (decide (z2 < 0)))) (z1.natAbs / z2.natAbs)), Tz (sz (!(false == (decide (z2 < 0)))) (z1.natAbs / z2.natAbs))]]) [0, 1, 2, 3, 5, 14] rfl ?_
        refine nx_then ?_
        refine t_seq ?_
        refine t_region (F := ⟨_, _, _, _⟩) [.box 2 94 [Bz z1, Tz z1], .box 3 94 [Bz z2, Tz z2], .box 4 94 [Bz 0, Tz 0], .box 5 94 [Bz 0, Tz 0], .slot 7 (VP.nums .i64 (dg 10 (z1.natAbs % z2.natAbs))), .box 9 94 [Bz (sz (!(false == (decide (z2 < 0)))) (z1.natAbs / z2.natAbs)), Tz (sz (!(false == (decide (z2 < 0)))) (z1.natAbs / z2.natAbs))]] [] [(0, .fp 61 2 0), (1, .slot 62 (Bz z1)), (2, .slot 63 (VP.nums .i64 (dg 10 (z1.natAbs % z2.natAbs)))), (3, .slot 64 (NUM (sz (decide (z1 < 0)) (z1.natAbs % z2.natAbs)))), (4, .own 10 94 2), (5, .box 10 94 [Bz (sz (decide (z1 < 0)) (z1.natAbs % z2.natAbs)), Tz (sz (decide (z1 < 0)) (z1.natAbs % z2.natAbs))])] [] [0, 1, 2, 3, 4, 5] [] rfl rfl follow rfl ⟨
          .inl ⟨wants_plain rfl, does_field _ _ _ 0 ty_f0_collatorref01_Num rfl rfl rfl rfl rfl rfl rfl (pt_box (av_fs 0 rfl))⟩,
          .inl ⟨wants_plain rfl, does_loadOne _ ty_one_bool rfl rfl rfl rfl rfl rfl (pt_fp (av_rs 0 rfl rfl)) (av_fs 0 rfl)⟩,
          .inl ⟨wants_plain rfl, does_move _ (.inl rfl) rfl rfl rfl rfl (ar_tmp (av_fs 4 rfl))⟩,
          .inl ⟨wants_plain rfl, does_call (r_make1 (decide (z1 < 0)) (z1.natAbs % z2.natAbs)) rfl hb_collator_collatorref01_make1 rfl rfl rfl rfl ⟨(ar_tmp (av_rs 1 rfl rfl)), (ar_tmp (av_rs 2 rfl rfl)), trivial⟩⟩,
          .inl ⟨wants_plain rfl, does_allocOwn [Bz 0, Tz 0] ty_zero_collatorref01_Num rfl rfl rfl rfl rfl z_num rfl⟩,
          .inl ⟨wants_plain rfl, does_storeNew 2 _ _ ty_agg_collatorref01_Num rfl rfl rfl rfl rfl (pt_own (av_rs 4 rfl rfl)) (av_rs 4 rfl rfl) (ar_tmp (av_rs 3 rfl rfl))⟩,
          trivial⟩ ?_
        refine nx_sub (fs' := [.box 3 94 [Bz z2, Tz z2], .box 4 94 [Bz 0, Tz 0], .box 5 94 [Bz 0, Tz 0], .box 9 94 [Bz (sz (!(false == (decide (z2 < 0)))) (z1.natAbs / z2.natAbs)), Tz (sz (!(false == (decide (z2 < 0)))) (z1.natAbs / z2.natAbs))], .box 10 94 [Bz (sz (decide (z1 < 0)) (z1.natAbs % z2.natAbs)), Tz (sz (decide (z1 < 0)) (z1.natAbs % z2.natAbs))]]) [1, 2, 3, 5, 11] rfl ?_
        refine nx_then ?_
        refine t_seq ?_
        refine t_seq ?_
        refine t_region (F := ⟨_, _, _, _⟩) [.box 3 94 [Bz z2, Tz z2], .box 4 94 [Bz 0, Tz 0], .box 5 94 [Bz 0, Tz 0], .box 9 94 [Bz (sz (!(false == (decide (z2 < 0)))) (z1.natAbs / z2.natAbs)), Tz (sz (!(false == (decide (z2 < 0)))) (z1.natAbs / z2.natAbs))], .box 10 94 [Bz (sz (decide (z1 < 0)) (z1.natAbs % z2.natAbs)), Tz (sz (decide (z1 < 0)) (z1.natAbs % z2.natAbs))]] [] [(0, .fp 65 10 0), (1, .slot 66 (Bz (sz (decide (z1 < 0)) (z1.natAbs % z2.natAbs))))] [] [0, 1, 2, 3, 4] [] rfl rfl follow rfl ⟨
          .inl ⟨wants_plain rfl, does_field _ _ _ 0 ty_f0_collatorref01_Num rfl rfl rfl rfl rfl rfl rfl (pt_box (av_fs 4 rfl))⟩,
          .inl ⟨wants_plain rfl, does_loadOne _ ty_one_bool rfl rfl rfl rfl rfl rfl (pt_fp (av_rs 0 rfl rfl)) (av_fs 4 rfl)⟩,
          trivial⟩ ?_
        refine nx_sub (fs' := [.box 3 94 [Bz z2, Tz z2], .box 4 94 [Bz 0, Tz 0], .box 5 94 [Bz 0, Tz 0], .box 9 94 [Bz (sz (!(false == (decide (z2 < 0)))) (z1.natAbs / z2.natAbs)), Tz (sz (!(false == (decide (z2 < 0)))) (z1.natAbs / z2.natAbs))], .box 10 94 [Bz (sz (decide (z1 < 0)) (z1.natAbs % z2.natAbs)), Tz (sz (decide (z1 < 0)) (z1.natAbs % z2.natAbs))], .slot 66 (Bz (sz (decide (z1 < 0)) (z1.natAbs % z2.natAbs)))]) [0, 1, 2, 3, 4, 6] rfl ?_
        refine nx_then ?_
        refine t_cond_fe 5 rfl (by rw [sz_neg, decide_eq_false g1]; rfl) ?_
        refine t_skip ?_
        refine nx_then ?_
        refine t_seq ?_
        refine t_region (F := ⟨_, _, _, _⟩) [.box 3 94 [Bz z2, Tz z2], .box 9 94 [Bz (sz (!(false == (decide (z2 < 0)))) (z1.natAbs / z2.natAbs)), Tz (sz (!(false == (decide (z2 < 0)))) (z1.natAbs / z2.natAbs))], .box 10 94 [Bz (sz (decide (z1 < 0)) (z1.natAbs % z2.natAbs)), Tz (sz (decide (z1 < 0)) (z1.natAbs % z2.natAbs))], .slot 66 (Bz (sz (decide (z1 < 0)) (z1.natAbs % z2.natAbs)))] [(2, .box 4 94 [Bz 0, Tz 0]), (3, .box 5 94 [Bz 0, Tz 0])] [(0, .slot 80 (NUM (sz (!(false == (decide (z2 < 0)))) (z1.natAbs / z2.natAbs)))), (1, .slot 81 (NUM (sz (decide (z1 < 0)) (z1.natAbs % z2.natAbs)))), (2, .box 4 94 [Bz (sz (!(false == (decide (z2 < 0)))) (z1.natAbs / z2.natAbs)), Tz (sz (!(false == (decide (z2 < 0)))) (z1.natAbs / z2.natAbs))]), (3, .box 5 94 [Bz (sz (decide (z1 < 0)) (z1.natAbs % z2.natAbs)), Tz (sz (decide (z1 < 0)) (z1.natAbs % z2.natAbs))])] [] [0, 3, 4, 5] [1, 2] rfl rfl follow rfl ⟨
          .inl ⟨wants_plain rfl, does_loadAgg _ ty_agg_collatorref01_Num rfl rfl rfl rfl rfl rfl (pt_box (av_fs 1 rfl)) (av_fs 1 rfl)⟩,
          .inl ⟨wants_plain rfl, does_loadAgg _ ty_agg_collatorref01_Num rfl rfl rfl rfl rfl rfl (pt_box (av_fs 2 rfl)) (av_fs 2 rfl)⟩,
          .inl ⟨wants_plain rfl, does_storeAgg 2 _ _ ty_agg_collatorref01_Num rfl rfl rfl rfl rfl (pt_box (av_os 0 rfl rfl)) (av_os 0 rfl rfl) (ar_tmp (av_rs 0 rfl rfl))⟩,
          .inl ⟨wants_plain rfl, does_storeAgg 2 _ _ ty_agg_collatorref01_Num rfl rfl rfl rfl rfl (pt_box (av_os 1 rfl rfl)) (av_os 1 rfl rfl) (ar_tmp (av_rs 1 rfl rfl))⟩,
          trivial⟩ ?_
        refine nx_sub (fs' := [.box 4 94 [Bz (sz (!(false == (decide (z2 < 0)))) (z1.natAbs / z2.natAbs)), Tz (sz (!(false == (decide (z2 < 0)))) (z1.natAbs / z2.natAbs))], .box 5 94 [Bz (sz (decide (z1 < 0)) (z1.natAbs % z2.natAbs)), Tz (sz (decide (z1 < 0)) (z1.natAbs % z2.natAbs))]]) [6, 7] rfl ?_
        refine nx_then ?_
        refine t_ret ?_
        exact rt_two rfl (res_agg 0 ty_agg_collatorref01_Num rfl) (res_agg 1 ty_agg_collatorref01_Num rfl)
end Go.Proofs.Ytmlnpagkabmmpaa

/- The reference's Div and Gcd, in the words of the logic over slots and boxes. -/
namespace Go.Proofs.Ytmlnpagkabmmpaa
open Go.RowKit
theorem len10_yes {q : Int} (h : q = 0) : ((((dg 10 q.natAbs).length : Nat) : Int) == 0) = true := by subst h; rfl
theorem len10_no {q : Int} (h : q ≠ 0) : ((((dg 10 q.natAbs).length : Nat) : Int) == 0) = false := by
  have := dg_len0 ten_gt q.natAbs
  rw [beq_eq_false_iff_ne]; omega
theorem gcd_step {a b g : Nat} (h : Nat.gcd a b = g) : Nat.gcd b (a % b) = g := by
  rw [← h, Nat.gcd_comm a b, Nat.gcd_rec b a]; exact Nat.gcd_comm _ _
theorem pos10_no {q : Nat} (h : q = 0) : decide ((((dg 10 (sz false q).natAbs).length : Nat) : Int) > 0) = false := by subst h; rfl
theorem pos10_yes {q : Nat} (h : 0 < q) : decide ((((dg 10 (sz false q).natAbs).length : Nat) : Int) > 0) = true := by
  have := dg_len0 ten_gt (sz false q).natAbs
  rw [sz_abs] at *
  rw [decide_eq_true_eq]; omega
set_option maxRecDepth 100000 in
set_option maxHeartbeats 4000000 in
theorem rdiv_zero (x y : Int) (h : y = 0) : Spec Try.prog 181 [(NUM x).p, (NUM y).p] (VP.tup [NUM 0, NUM 0]) := by
  refine spec_of (xs := [NUM x, NUM y]) 82 [2, 3, 4, 5, 9, 10] Try.func181 rfl Try.ntmps181 rfl fun w0 => ?_
  refine t_seq ?_
  refine t_region (F := ⟨_, _, _, _⟩) [.slot 0 (NUM x), .slot 1 (NUM y)] [] [(0, .box 2 94 [Bz x, Tz x]), (1, .box 3 94 [Bz y, Tz y]), (2, .box 4 94 [Bz 0, Tz 0]), (3, .box 5 94 [Bz 0, Tz 0])] [] [0, 1] [] rfl rfl follow rfl ⟨
    .inl ⟨wants_plain rfl, does_box _ rfl rfl rfl rfl rfl (ar_tmp (av_fs 0 rfl))⟩,
    .inl ⟨wants_plain rfl, does_box _ rfl rfl rfl rfl rfl (ar_tmp (av_fs 1 rfl))⟩,
    .inl ⟨wants_plain rfl, does_alloc ty_zero_collatorref01_Num rfl rfl rfl rfl rfl z_num⟩,
    .inl ⟨wants_plain rfl, does_alloc ty_zero_collatorref01_Num rfl rfl rfl rfl rfl z_num⟩,
    trivial⟩ ?_
  refine nx_sub (fs' := [.box 2 94 [Bz x, Tz x], .box 3 94 [Bz y, Tz y], .box 4 94 [Bz 0, Tz 0], .box 5 94 [Bz 0, Tz 0]]) [2, 3, 4, 5] rfl ?_
  refine nx_then ?_
  refine t_seq ?_
  refine t_seq ?_
  refine t_region (F := ⟨_, _, _, _⟩) [.box 2 94 [Bz x, Tz x], .box 3 94 [Bz y, Tz y], .box 4 94 [Bz 0, Tz 0], .box 5 94 [Bz 0, Tz 0]] [] [(0, .fp 11 3 1), (1, .slot 12 (Tz y)), (2, .slot 13 (VP.int .i64 (((dg 10 y.natAbs).length : Nat) : Int))), (3, .slot 14 (VP.bool ((((dg 10 y.natAbs).length : Nat) : Int) == 0)))] [] [0, 1, 2, 3] [] rfl rfl follow rfl ⟨
    .inl ⟨wants_plain rfl, does_field _ _ _ 1 ty_f1_collatorref01_Num rfl rfl rfl rfl rfl rfl rfl (pt_box (av_fs 1 rfl))⟩,
    .inl ⟨wants_plain rfl, does_loadOne _ ty_one___int rfl rfl rfl rfl rfl rfl (pt_fp (av_rs 0 rfl rfl)) (av_fs 1 rfl)⟩,
    .inl ⟨wants_plain rfl, does_len _ _ (by kernel_rfl) rfl rfl rfl rfl rfl (ar_tmp (av_rs 1 rfl rfl))⟩,
    .inl ⟨wants_plain rfl, does_cmp (m := (((dg 10 y.natAbs).length : Nat) : Int)) (n := 0) _ _ _ _ _ rfl rfl rfl rfl rfl rfl .i64 (ar_tmp (av_rs 2 rfl rfl)) (ar_const (fun _ => rfl))⟩,
    trivial⟩ ?_
  refine nx_sub (fs' := [.box 2 94 [Bz x, Tz x], .box 3 94 [Bz y, Tz y], .box 4 94 [Bz 0, Tz 0], .box 5 94 [Bz 0, Tz 0], .slot 14 (VP.bool ((((dg 10 y.natAbs).length : Nat) : Int) == 0))]) [0, 1, 2, 3, 7] rfl ?_
  refine nx_then ?_
  refine t_cond_te 4 rfl (len10_yes h) ?_
  refine t_seq ?_
  refine t_region (F := ⟨_, _, _, _⟩) [.box 2 94 [Bz x, Tz x], .box 3 94 [Bz y, Tz y], .slot 14 (VP.bool ((((dg 10 y.natAbs).length : Nat) : Int) == 0))] [(2, .box 4 94 [Bz 0, Tz 0]), (3, .box 5 94 [Bz 0, Tz 0])] [(0, .slot 15 (NUM 0)), (1, .slot 16 (NUM 0)), (2, .box 4 94 [Bz 0, Tz 0]), (3, .box 5 94 [Bz 0, Tz 0])] [] [0, 1, 4] [2, 3] rfl rfl follow rfl ⟨
    .inl ⟨wants_plain rfl, does_build [Bz 0, Tz 0] ty_zero_collatorref01_Num ty_pl_collatorref01_Num rfl rfl rfl rfl rfl z_num (.nil _)⟩,
    .inl ⟨wants_plain rfl, does_build [Bz 0, Tz 0] ty_zero_collatorref01_Num ty_pl_collatorref01_Num rfl rfl rfl rfl rfl z_num (.nil _)⟩,
    .inl ⟨wants_plain rfl, does_storeAgg 2 _ _ ty_agg_collatorref01_Num rfl rfl rfl rfl rfl (pt_box (av_os 0 rfl rfl)) (av_os 0 rfl rfl) (ar_tmp (av_rs 0 rfl rfl))⟩,
    .inl ⟨wants_plain rfl, does_storeAgg 2 _ _ ty_agg_collatorref01_Num rfl rfl rfl rfl rfl (pt_box (av_os 1 rfl rfl)) (av_os 1 rfl rfl) (ar_tmp (av_rs 1 rfl rfl))⟩,
    trivial⟩ ?_
  refine nx_sub (fs' := [.box 2 94 [Bz x, Tz x], .box 3 94 [Bz y, Tz y], .box 4 94 [Bz 0, Tz 0], .box 5 94 [Bz 0, Tz 0]]) [0, 1, 5, 6] rfl ?_
  refine nx_then ?_
  refine t_ret ?_
  refine rt_then ?_
  exact rt_two rfl (res_agg 2 ty_agg_collatorref01_Num rfl) (res_agg 3 ty_agg_collatorref01_Num rfl)
theorem r_div (x y : Int) (h1 : (dg 10 x.natAbs).length ≤ 100000) (h2 : (dg 10 y.natAbs).length ≤ 100000) : Spec Try.prog 181 [(NUM x).p, (NUM y).p] (VP.tup [NUM (divZ x y), NUM (modZ x y)]) := by
  by_cases h : y = 0
  · have e1 : divZ x y = 0 := by unfold divZ; rw [if_pos h]
    have e2 : modZ x y = 0 := by unfold modZ; rw [if_pos h]
    rw [e1, e2]
    exact rdiv_zero x y h
  · exact spec2 fun v1 v2 w p1 p2 => by
      obtain ⟨a, c, rfl, i1⟩ := num_open p1
      obtain ⟨b, d, rfl, i2⟩ := num_open p2
      exact rdiv_walk x y a b c d w h1 h2 i1 i2 h
theorem r_divN (a b : Nat) (h0 : 0 < b) (h1 : (dg 10 a).length ≤ 100000) (h2 : (dg 10 b).length ≤ 100000) : Spec Try.prog 181 [(NUM (sz false a)).p, (NUM (sz false b)).p] (VP.tup [NUM (sz false (a / b)), NUM (sz false (a % b))]) := by
  have h := r_div (sz false a) (sz false b) (by rw [sz_abs]; exact h1) (by rw [sz_abs]; exact h2)
  have hb : sz false b ≠ 0 := by show (b : Int) ≠ 0; omega
  have e1 : divZ (sz false a) (sz false b) = sz false (a / b) := by unfold divZ; rw [if_neg hb]; rfl
  have e2 : modZ (sz false a) (sz false b) = sz false (a % b) := by unfold modZ; rw [if_neg hb]; rfl
  rwa [e1, e2] at h
set_option maxRecDepth 100000 in
set_option maxHeartbeats 4000000 in
theorem r_gcd (x y : Int) (h1 : (dg 10 x.natAbs).length ≤ 100000) (h2 : (dg 10 y.natAbs).length ≤ 100000) : Spec Try.prog 180 [(NUM x).p, (NUM y).p] (NUM (gcdZ x y)) := by
  refine spec_of (xs := [NUM x, NUM y]) 26 [2, 3, 4, 5, 6] Try.func180 rfl Try.ntmps180 rfl fun w0 => ?_
  refine t_seq ?_
  refine t_region (F := ⟨_, _, _, _⟩) [.slot 0 (NUM x), .slot 1 (NUM y)] [] [(0, .box 2 94 [Bz x, Tz x]), (1, .box 3 94 [Bz y, Tz y]), (2, .box 4 94 [Bz 0, Tz 0])] [] [0, 1] [] rfl rfl follow rfl ⟨
    .inl ⟨wants_plain rfl, does_box _ rfl rfl rfl rfl rfl (ar_tmp (av_fs 0 rfl))⟩,
    .inl ⟨wants_plain rfl, does_box _ rfl rfl rfl rfl rfl (ar_tmp (av_fs 1 rfl))⟩,
    .inl ⟨wants_plain rfl, does_alloc ty_zero_collatorref01_Num rfl rfl rfl rfl rfl z_num⟩,
    trivial⟩ ?_
  refine nx_sub (fs' := [.box 2 94 [Bz x, Tz x], .box 3 94 [Bz y, Tz y], .box 4 94 [Bz 0, Tz 0]]) [2, 3, 4] rfl ?_
  refine nx_then ?_
  refine t_seq ?_
  refine t_region (F := ⟨_, _, _, _⟩) [.box 3 94 [Bz y, Tz y], .box 4 94 [Bz 0, Tz 0]] [(3, .box 2 94 [Bz x, Tz x])] [(0, .fp 7 2 1), (1, .slot 8 (Tz x)), (2, .slot 9 (NUM (sz false x.natAbs))), (3, .box 2 94 [Bz (sz false x.natAbs), Tz (sz false x.natAbs)])] [] [1, 2] [0] rfl rfl follow rfl ⟨
    .inl ⟨wants_plain rfl, does_field _ _ _ 1 ty_f1_collatorref01_Num rfl rfl rfl rfl rfl rfl rfl (pt_box (av_os 0 rfl rfl))⟩,
    .inl ⟨wants_plain rfl, does_loadOne _ ty_one___int rfl rfl rfl rfl rfl rfl (pt_fp (av_rs 0 rfl rfl)) (av_os 0 rfl rfl)⟩,
    .inl ⟨wants_plain rfl, does_call (r_make1 false x.natAbs) rfl hb_collator_collatorref01_make1 rfl rfl rfl rfl ⟨(ar_const (fun _ => rfl)), (ar_tmp (av_rs 1 rfl rfl)), trivial⟩⟩,
    .inl ⟨wants_plain rfl, does_storeAgg 2 _ _ ty_agg_collatorref01_Num rfl rfl rfl rfl rfl (pt_box (av_os 0 rfl rfl)) (av_os 0 rfl rfl) (ar_tmp (av_rs 2 rfl rfl))⟩,
    trivial⟩ ?_
  refine nx_sub (fs' := [.box 3 94 [Bz y, Tz y], .box 4 94 [Bz 0, Tz 0], .box 2 94 [Bz (sz false x.natAbs), Tz (sz false x.natAbs)]]) [0, 1, 5] rfl ?_
  refine nx_then ?_
  refine t_seq ?_
  refine t_region (F := ⟨_, _, _, _⟩) [.box 4 94 [Bz 0, Tz 0], .box 2 94 [Bz (sz false x.natAbs), Tz (sz false x.natAbs)]] [(3, .box 3 94 [Bz y, Tz y])] [(0, .fp 10 3 1), (1, .slot 11 (Tz y)), (2, .slot 12 (NUM (sz false y.natAbs))), (3, .box 3 94 [Bz (sz false y.natAbs), Tz (sz false y.natAbs)])] [] [1, 2] [0] rfl rfl follow rfl ⟨
    .inl ⟨wants_plain rfl, does_field _ _ _ 1 ty_f1_collatorref01_Num rfl rfl rfl rfl rfl rfl rfl (pt_box (av_os 0 rfl rfl))⟩,
    .inl ⟨wants_plain rfl, does_loadOne _ ty_one___int rfl rfl rfl rfl rfl rfl (pt_fp (av_rs 0 rfl rfl)) (av_os 0 rfl rfl)⟩,
    .inl ⟨wants_plain rfl, does_call (r_make1 false y.natAbs) rfl hb_collator_collatorref01_make1 rfl rfl rfl rfl ⟨(ar_const (fun _ => rfl)), (ar_tmp (av_rs 1 rfl rfl)), trivial⟩⟩,
    .inl ⟨wants_plain rfl, does_storeAgg 2 _ _ ty_agg_collatorref01_Num rfl rfl rfl rfl rfl (pt_box (av_os 0 rfl rfl)) (av_os 0 rfl rfl) (ar_tmp (av_rs 2 rfl rfl))⟩,
    trivial⟩ ?_
  refine nx_sub (fs' := [.box 4 94 [Bz 0, Tz 0], .box 2 94 [Bz (sz false x.natAbs), Tz (sz false x.natAbs)], .box 3 94 [Bz (sz false y.natAbs), Tz (sz false y.natAbs)]]) [0, 1, 5] rfl ?_
  refine nx_then ?_
  refine t_seq ?_
  refine t_block ?_
  refine t_loop (σ := {s : Nat × Nat // Nat.gcd s.1 s.2 = Nat.gcd x.natAbs y.natAbs ∧ (dg 10 s.1).length ≤ 100000 ∧ (dg 10 s.2).length ≤ 100000}) (fun s => [.box 2 94 [Bz (sz false s.1.1), Tz (sz false s.1.1)], .box 3 94 [Bz (sz false s.1.2), Tz (sz false s.1.2)], .box 4 94 [Bz 0, Tz 0]]) (fun s => s.1.2) (⟨(x.natAbs, y.natAbs), rfl, h1, h2⟩) [1, 2, 0] rfl ?_
  intro s
  rcases Nat.eq_zero_or_pos s.1.2 with h | h
  case inl =>
    rw [show gcdZ x y = sz false s.1.1 from by have h3 := s.2.1; rw [h, Nat.gcd_zero_right] at h3; rw [h3]; rfl]
    refine t_seq ?_
    refine t_seq ?_
    refine t_region (F := ⟨_, _, _, _⟩) [.box 2 94 [Bz (sz false s.1.1), Tz (sz false s.1.1)], .box 3 94 [Bz (sz false s.1.2), Tz (sz false s.1.2)], .box 4 94 [Bz 0, Tz 0]] [] [(0, .fp 13 3 1), (1, .slot 14 (Tz (sz false s.1.2))), (2, .slot 15 (VP.int .i64 (((dg 10 (sz false s.1.2).natAbs).length : Nat) : Int))), (3, .slot 16 (VP.bool (decide ((((dg 10 (sz false s.1.2).natAbs).length : Nat) : Int) > 0))))] [] [0, 1, 2] [] rfl rfl follow rfl ⟨
      .inl ⟨wants_plain rfl, does_field _ _ _ 1 ty_f1_collatorref01_Num rfl rfl rfl rfl rfl rfl rfl (pt_box (av_fs 1 rfl))⟩,
      .inl ⟨wants_plain rfl, does_loadOne _ ty_one___int rfl rfl rfl rfl rfl rfl (pt_fp (av_rs 0 rfl rfl)) (av_fs 1 rfl)⟩,
      .inl ⟨wants_plain rfl, does_len _ _ (by kernel_rfl) rfl rfl rfl rfl rfl (ar_tmp (av_rs 1 rfl rfl))⟩,
      .inl ⟨wants_plain rfl, does_cmp (m := (((dg 10 (sz false s.1.2).natAbs).length : Nat) : Int)) (n := 0) _ _ _ _ _ rfl rfl rfl rfl rfl rfl .i64 (ar_tmp (av_rs 2 rfl rfl)) (ar_const (fun _ => rfl))⟩,
      trivial⟩ ?_
    refine nx_sub (fs' := [.box 2 94 [Bz (sz false s.1.1), Tz (sz false s.1.1)], .box 3 94 [Bz (sz false s.1.2), Tz (sz false s.1.2)], .box 4 94 [Bz 0, Tz 0], .fp 13 3 1, .slot 14 (Tz (sz false s.1.2)), .slot 15 (VP.int .i64 (((dg 10 (sz false s.1.2).natAbs).length : Nat) : Int)), .slot 16 (VP.bool (decide ((((dg 10 (sz false s.1.2).natAbs).length : Nat) : Int) > 0)))]) [0, 1, 2, 3, 4, 5, 6] rfl ?_
    refine nx_then ?_
    refine t_cond_fe 6 rfl (pos10_no h) ?_
    refine t_exit ?_
    refine ex_then ?_
    refine ex_then ?_
    refine ex_block ?_
    refine nx_then ?_
    refine t_seq ?_
    refine t_region (F := ⟨_, _, _, _⟩) [.box 2 94 [Bz (sz false s.1.1), Tz (sz false s.1.1)], .box 3 94 [Bz (sz false s.1.2), Tz (sz false s.1.2)], .fp 13 3 1, .slot 14 (Tz (sz false s.1.2)), .slot 15 (VP.int .i64 (((dg 10 (sz false s.1.2).natAbs).length : Nat) : Int)), .slot 16 (VP.bool (decide ((((dg 10 (sz false s.1.2).natAbs).length : Nat) : Int) > 0)))] [(1, .box 4 94 [Bz 0, Tz 0])] [(0, .slot 25 (NUM (sz false s.1.1))), (1, .box 4 94 [Bz (sz false s.1.1), Tz (sz false s.1.1)])] [] [0, 1, 3, 4, 5, 6] [2] rfl rfl follow rfl ⟨
      .inl ⟨wants_plain rfl, does_loadAgg _ ty_agg_collatorref01_Num rfl rfl rfl rfl rfl rfl (pt_box (av_fs 0 rfl)) (av_fs 0 rfl)⟩,
      .inl ⟨wants_plain rfl, does_storeAgg 2 _ _ ty_agg_collatorref01_Num rfl rfl rfl rfl rfl (pt_box (av_os 0 rfl rfl)) (av_os 0 rfl rfl) (ar_tmp (av_rs 0 rfl rfl))⟩,
      trivial⟩ ?_
    refine nx_sub (fs' := [.box 4 94 [Bz (sz false s.1.1), Tz (sz false s.1.1)]]) [7] rfl ?_
    refine nx_then ?_
    refine t_ret ?_
    exact rt_one rfl (res_agg 0 ty_agg_collatorref01_Num rfl)
  case inr =>
    refine t_seq ?_
    refine t_seq ?_
    refine t_region (F := ⟨_, _, _, _⟩) [.box 2 94 [Bz (sz false s.1.1), Tz (sz false s.1.1)], .box 3 94 [Bz (sz false s.1.2), Tz (sz false s.1.2)], .box 4 94 [Bz 0, Tz 0]] [] [(0, .fp 13 3 1), (1, .slot 14 (Tz (sz false s.1.2))), (2, .slot 15 (VP.int .i64 (((dg 10 (sz false s.1.2).natAbs).length : Nat) : Int))), (3, .slot 16 (VP.bool (decide ((((dg 10 (sz false s.1.2).natAbs).length : Nat) : Int) > 0))))] [] [0, 1, 2] [] rfl rfl follow rfl ⟨
      .inl ⟨wants_plain rfl, does_field _ _ _ 1 ty_f1_collatorref01_Num rfl rfl rfl rfl rfl rfl rfl (pt_box (av_fs 1 rfl))⟩,
      .inl ⟨wants_plain rfl, does_loadOne _ ty_one___int rfl rfl rfl rfl rfl rfl (pt_fp (av_rs 0 rfl rfl)) (av_fs 1 rfl)⟩,
      .inl ⟨wants_plain rfl, does_len _ _ (by kernel_rfl) rfl rfl rfl rfl rfl (ar_tmp (av_rs 1 rfl rfl))⟩,
      .inl ⟨wants_plain rfl, does_cmp (m := (((dg 10 (sz false s.1.2).natAbs).length : Nat) : Int)) (n := 0) _ _ _ _ _ rfl rfl rfl rfl rfl rfl .i64 (ar_tmp (av_rs 2 rfl rfl)) (ar_const (fun _ => rfl))⟩,
      trivial⟩ ?_
    refine nx_sub (fs' := [.box 2 94 [Bz (sz false s.1.1), Tz (sz false s.1.1)], .box 3 94 [Bz (sz false s.1.2), Tz (sz false s.1.2)], .box 4 94 [Bz 0, Tz 0], .fp 13 3 1, .slot 14 (Tz (sz false s.1.2)), .slot 15 (VP.int .i64 (((dg 10 (sz false s.1.2).natAbs).length : Nat) : Int)), .slot 16 (VP.bool (decide ((((dg 10 (sz false s.1.2).natAbs).length : Nat) : Int) > 0)))]) [0, 1, 2, 3, 4, 5, 6] rfl ?_
    refine nx_then ?_
    refine t_cond_te 6 rfl (pos10_yes h) ?_
    refine t_skip ?_
    refine nx_then ?_
    refine t_block ?_
    refine t_seq ?_
    refine t_region (F := ⟨_, _, _, _⟩) [.box 2 94 [Bz (sz false s.1.1), Tz (sz false s.1.1)], .box 3 94 [Bz (sz false s.1.2), Tz (sz false s.1.2)], .box 4 94 [Bz 0, Tz 0], .fp 13 3 1, .slot 14 (Tz (sz false s.1.2)), .slot 15 (VP.int .i64 (((dg 10 (sz false s.1.2).natAbs).length : Nat) : Int)), .slot 16 (VP.bool (decide ((((dg 10 (sz false s.1.2).natAbs).length : Nat) : Int) > 0)))] [] [(0, .slot 18 (NUM (sz false s.1.1))), (1, .slot 19 (NUM (sz false s.1.2))), (2, .slot 20 (VP.tup [NUM (sz false (s.1.1 / s.1.2)), NUM (sz false (s.1.1 % s.1.2))])), (3, .slot 17 (VP.tup [NUM (sz false (s.1.1 / s.1.2)), NUM (sz false (s.1.1 % s.1.2))])), (4, .slot 21 (NUM (sz false (s.1.1 / s.1.2)))), (5, .slot 22 (NUM (sz false (s.1.1 % s.1.2)))), (6, .own 5 94 2), (7, .own 6 94 2), (8, .box 5 94 [Bz (sz false (s.1.1 / s.1.2)), Tz (sz false (s.1.1 / s.1.2))]), (9, .box 6 94 [Bz (sz false (s.1.1 % s.1.2)), Tz (sz false (s.1.1 % s.1.2))])] [] [0, 1, 2, 3, 4, 5, 6] [] rfl rfl follow rfl ⟨
      .inl ⟨wants_plain rfl, does_loadAgg _ ty_agg_collatorref01_Num rfl rfl rfl rfl rfl rfl (pt_box (av_fs 0 rfl)) (av_fs 0 rfl)⟩,
      .inl ⟨wants_plain rfl, does_loadAgg _ ty_agg_collatorref01_Num rfl rfl rfl rfl rfl rfl (pt_box (av_fs 1 rfl)) (av_fs 1 rfl)⟩,
      .inl ⟨wants_plain rfl, does_call (r_divN s.1.1 s.1.2 h s.2.2.1 s.2.2.2) rfl hb_collator_collatorref01_Div rfl rfl rfl rfl ⟨(ar_tmp (av_rs 0 rfl rfl)), (ar_tmp (av_rs 1 rfl rfl)), trivial⟩⟩,
      .inl ⟨wants_plain rfl, does_move _ (.inl rfl) rfl rfl rfl rfl (ar_tmp (av_rs 2 rfl rfl))⟩,
      .inl ⟨wants_plain rfl, does_extract (ps := [NUM (sz false (s.1.1 / s.1.2)), NUM (sz false (s.1.1 % s.1.2))]) _ _ rfl rfl rfl rfl rfl (ar_tmp (av_rs 3 rfl rfl)) rfl⟩,
      .inl ⟨wants_plain rfl, does_extract (ps := [NUM (sz false (s.1.1 / s.1.2)), NUM (sz false (s.1.1 % s.1.2))]) _ _ rfl rfl rfl rfl rfl (ar_tmp (av_rs 3 rfl rfl)) rfl⟩,
      .inl ⟨wants_plain rfl, does_allocOwn [Bz 0, Tz 0] ty_zero_collatorref01_Num rfl rfl rfl rfl rfl z_num rfl⟩,
      .inl ⟨wants_plain rfl, does_allocOwn [Bz 0, Tz 0] ty_zero_collatorref01_Num rfl rfl rfl rfl rfl z_num rfl⟩,
      .inl ⟨wants_plain rfl, does_storeNew 2 _ _ ty_agg_collatorref01_Num rfl rfl rfl rfl rfl (pt_own (av_rs 6 rfl rfl)) (av_rs 6 rfl rfl) (ar_tmp (av_rs 4 rfl rfl))⟩,
      .inl ⟨wants_plain rfl, does_storeNew 2 _ _ ty_agg_collatorref01_Num rfl rfl rfl rfl rfl (pt_own (av_rs 7 rfl rfl)) (av_rs 7 rfl rfl) (ar_tmp (av_rs 5 rfl rfl))⟩,
      trivial⟩ ?_
    refine nx_sub (fs' := [.box 2 94 [Bz (sz false s.1.1), Tz (sz false s.1.1)], .box 3 94 [Bz (sz false s.1.2), Tz (sz false s.1.2)], .box 4 94 [Bz 0, Tz 0], .fp 13 3 1, .slot 14 (Tz (sz false s.1.2)), .slot 15 (VP.int .i64 (((dg 10 (sz false s.1.2).natAbs).length : Nat) : Int)), .slot 16 (VP.bool (decide ((((dg 10 (sz false s.1.2).natAbs).length : Nat) : Int) > 0))), .slot 18 (NUM (sz false s.1.1)), .slot 19 (NUM (sz false s.1.2)), .slot 20 (VP.tup [NUM (sz false (s.1.1 / s.1.2)), NUM (sz false (s.1.1 % s.1.2))]), .slot 17 (VP.tup [NUM (sz false (s.1.1 / s.1.2)), NUM (sz false (s.1.1 % s.1.2))]), .slot 21 (NUM (sz false (s.1.1 / s.1.2))), .slot 22 (NUM (sz false (s.1.1 % s.1.2))), .box 5 94 [Bz (sz false (s.1.1 / s.1.2)), Tz (sz false (s.1.1 / s.1.2))], .box 6 94 [Bz (sz false (s.1.1 % s.1.2)), Tz (sz false (s.1.1 % s.1.2))]]) [0, 1, 2, 3, 4, 5, 6, 7, 8, 9, 10, 11, 12, 15, 16] rfl ?_
    refine nx_then ?_
    refine t_region (F := ⟨_, _, _, _⟩) [.box 4 94 [Bz 0, Tz 0], .fp 13 3 1, .slot 14 (Tz (sz false s.1.2)), .slot 15 (VP.int .i64 (((dg 10 (sz false s.1.2).natAbs).length : Nat) : Int)), .slot 16 (VP.bool (decide ((((dg 10 (sz false s.1.2).natAbs).length : Nat) : Int) > 0))), .slot 18 (NUM (sz false s.1.1)), .slot 19 (NUM (sz false s.1.2)), .slot 20 (VP.tup [NUM (sz false (s.1.1 / s.1.2)), NUM (sz false (s.1.1 % s.1.2))]), .slot 17 (VP.tup [NUM (sz false (s.1.1 / s.1.2)), NUM (sz false (s.1.1 % s.1.2))]), .slot 21 (NUM (sz false (s.1.1 / s.1.2))), .slot 22 (NUM (sz false (s.1.1 % s.1.2))), .box 5 94 [Bz (sz false (s.1.1 / s.1.2)), Tz (sz false (s.1.1 / s.1.2))], .box 6 94 [Bz (sz false (s.1.1 % s.1.2)), Tz (sz false (s.1.1 % s.1.2))]] [(2, .box 2 94 [Bz (sz false s.1.1), Tz (sz false s.1.1)]), (3, .box 3 94 [Bz (sz false s.1.2), Tz (sz false s.1.2)])] [(0, .slot 23 (NUM (sz false s.1.2))), (1, .slot 24 (NUM (sz false (s.1.1 % s.1.2)))), (2, .box 2 94 [Bz (sz false s.1.2), Tz (sz false s.1.2)]), (3, .box 3 94 [Bz (sz false (s.1.1 % s.1.2)), Tz (sz false (s.1.1 % s.1.2))])] [] [2, 3, 4, 5, 6, 7, 8, 9, 10, 11, 12, 13, 14] [0, 1] rfl rfl follow rfl ⟨
      .inl ⟨wants_plain rfl, does_loadAgg _ ty_agg_collatorref01_Num rfl rfl rfl rfl rfl rfl (pt_box (av_os 1 rfl rfl)) (av_os 1 rfl rfl)⟩,
      .inl ⟨wants_plain rfl, does_loadAgg _ ty_agg_collatorref01_Num rfl rfl rfl rfl rfl rfl (pt_box (av_fs 12 rfl)) (av_fs 12 rfl)⟩,
      .inl ⟨wants_plain rfl, does_storeAgg 2 _ _ ty_agg_collatorref01_Num rfl rfl rfl rfl rfl (pt_box (av_os 0 rfl rfl)) (av_os 0 rfl rfl) (ar_tmp (av_rs 0 rfl rfl))⟩,
      .inl ⟨wants_plain rfl, does_storeAgg 2 _ _ ty_agg_collatorref01_Num rfl rfl rfl rfl rfl (pt_box (av_os 1 rfl rfl)) (av_os 1 rfl rfl) (ar_tmp (av_rs 1 rfl rfl))⟩,
      trivial⟩ ?_
    refine nx_sub (fs' := [.box 4 94 [Bz 0, Tz 0], .fp 13 3 1, .slot 14 (Tz (sz false s.1.2)), .slot 15 (VP.int .i64 (((dg 10 (sz false s.1.2).natAbs).length : Nat) : Int)), .slot 16 (VP.bool (decide ((((dg 10 (sz false s.1.2).natAbs).length : Nat) : Int) > 0))), .slot 18 (NUM (sz false s.1.1)), .slot 19 (NUM (sz false s.1.2)), .slot 20 (VP.tup [NUM (sz false (s.1.1 / s.1.2)), NUM (sz false (s.1.1 % s.1.2))]), .slot 17 (VP.tup [NUM (sz false (s.1.1 / s.1.2)), NUM (sz false (s.1.1 % s.1.2))]), .slot 21 (NUM (sz false (s.1.1 / s.1.2))), .slot 22 (NUM (sz false (s.1.1 % s.1.2))), .box 5 94 [Bz (sz false (s.1.1 / s.1.2)), Tz (sz false (s.1.1 / s.1.2))], .box 6 94 [Bz (sz false (s.1.1 % s.1.2)), Tz (sz false (s.1.1 % s.1.2))], .slot 23 (NUM (sz false s.1.2)), .slot 24 (NUM (sz false (s.1.1 % s.1.2))), .box 2 94 [Bz (sz false s.1.2), Tz (sz false s.1.2)], .box 3 94 [Bz (sz false (s.1.1 % s.1.2)), Tz (sz false (s.1.1 % s.1.2))]]) [0, 1, 2, 3, 4, 5, 6, 7, 8, 9, 10, 11, 12, 13, 14, 15, 16] rfl ?_
    refine nx_block ?_
    exact nx_round ⟨(s.1.2, s.1.1 % s.1.2), gcd_step s.2.1, s.2.2.2, Nat.le_trans (dg_len_mono ten_gt (Nat.mod_le _ _)) s.2.2.1⟩ (Nat.mod_lt _ h) [15, 16, 0] rfl
end Go.Proofs.Ytmlnpagkabmmpaa

/- What an argument of type api.Int is. -/
namespace Go.Proofs.Ytmlnpagkabmmpaa
open Go.RowKit

theorem nums_of {k : IntKind} {B : Nat} : ∀ (xs : List (List Value)), (∀ x ∈ xs, ∃ d : Nat, x = [.int k (d : Int)] ∧ d < B) → ∃ l : List Nat, l.length = xs.length ∧ xs.flatten = ks k l ∧ ∀ d ∈ l, d < B
  | [], _ => ⟨[], rfl, rfl, fun _ h => by cases h⟩
  | x :: r, h => by
    obtain ⟨d, rfl, hd⟩ := h x (List.mem_cons_self ..)
    obtain ⟨l, h1, h2, h3⟩ := nums_of r (fun x hx => h x (List.mem_cons_of_mem _ hx))
    exact ⟨d :: l, by simp [h1], by rw [List.flatten_cons, h2]; rfl, fun q hq => by
      rcases List.mem_cons.1 hq with rfl | hq
      · exact hd
      · exact h3 q hq⟩

theorem typed_u32s {w : World} {n : Nat} {cs : List Value} (h : Typed Try.prog w n 22 cs) :
    ∃ (a : Option Addr) (l : List Nat) (c : Nat), cs = [.slice a l.length c] ∧ l.length ≤ c ∧ c ≤ maxLen ∧ (∀ d ∈ l, d < 4294967296) ∧ Rd w a (ks .u32 l) := by
  obtain ⟨a, cap, xs, m, rfl, h1, h2, h3, h4⟩ := h.slice Try.underlying22
  obtain ⟨l, e1, e2, e3⟩ := nums_of (k := .u32) (B := 4294967296) xs (fun x hx => by
    obtain ⟨y, rfl, hy⟩ := (h3 x hx).2.int Try.underlying133
    have hb : 0 ≤ y ∧ y < 4294967296 := by simp [Lit.wf, IntKind.min, IntKind.max, IntKind.signed, IntKind.bits] at hy; omega
    exact ⟨y.toNat, by rw [Int.toNat_of_nonneg hb.1], by omega⟩)
  rw [e2] at h4
  exact ⟨a, l, cap, by rw [e1], by rw [e1]; exact h1, h2, e3, h4⟩

theorem two_of {α : Type} {l : List α} (h : l.length = 2) : ∃ a b, l = [a, b] := by
  cases l with
  | nil => cases h
  | cons a r =>
    cases r with
    | nil => cases h
    | cons b r2 =>
      cases r2 with
      | nil => exact ⟨a, b, rfl⟩
      | cons c r3 => simp at h

theorem cells_aint : Try.prog.cellsOf 24 = 2 := by kernel_rfl
theorem cells_u32s : Try.prog.cellsOf 22 = 1 := by kernel_rfl
theorem cells_bool : Try.prog.cellsOf 4 = 1 := by kernel_rfl

theorem arg_aint {w : World} {v : Value} (h : Arg Try.prog w 24 v) : ∃ x : AInt, v = x.v ∧ x.ok w := by
  obtain ⟨cs, m, rfl, hl, hf⟩ := h.struct Try.underlying24
  rw [cells_aint] at hl
  obtain ⟨u0, u1, rfl⟩ := two_of hl
  have f0 := hf _ (List.mem_cons_self ..)
  have f1 := hf _ (List.mem_cons_of_mem _ (List.mem_cons_self ..))
  simp only at f0 f1
  rw [cells_bool] at f0
  rw [cells_u32s] at f1
  obtain ⟨s, hs⟩ := f0.bool Try.underlying4
  obtain ⟨a, l, c, hc, h1, h2, h3, h4⟩ := typed_u32s f1
  have e0 : u0 = .bool s := by simpa using hs
  have e1 : u1 = .slice a l.length c := by simpa using hc
  subst e0 e1
  exact ⟨⟨s, a, l, c⟩, rfl, h1, h2, h3, h4⟩
end Go.Proofs.Ytmlnpagkabmmpaa

/- What the functions of law 1 do, in the words of the logic over slots and boxes. -/
namespace Go.Proofs.Ytmlnpagkabmmpaa
open Go.RowKit

theorem r_same1 (x : Int) (h1 : L x ≤ 100000) : Spec Try.prog 48 [(INT x).p, (INT x).p] (VP.bool true) := by
  have := r_same x x h1 h1
  rwa [decide_eq_true rfl] at this
/-- an integer as it came in: a sign, and digits -/
abbrev Raw := Bool × List Nat
abbrev RAW (x : Raw) : VP := VP.agg [VP.bool x.1, VP.nums .u32 x.2]
def rawcells : List Raw → List VP
  | [] => []
  | x :: r => VP.bool x.1 :: VP.nums .u32 x.2 :: rawcells r
/-- its digits are digits of 32 bits -/
def Raw.ok (x : Raw) : Prop := ∀ d ∈ x.2, d < 4294967296
def oddP (x : Raw) : Bool := decide (10 < x.2.length) || !rightB x.1 x.2
theorem raw_flat : ∀ (ps : List Raw) (cs : List Value) (w : World), All2 (rawcells ps) cs w → (∀ x ∈ ps, x.ok) → ∃ xs : List AInt, flatA xs = cs ∧ xs.map (fun x => (x.s, x.l)) = ps ∧ ∀ x ∈ xs, x.ok w
  | [], [], _, _, _ => ⟨[], rfl, rfl, fun _ h => by cases h⟩
  | x :: r, u :: v :: cs, w, h, hx => by
    obtain ⟨h1, ⟨a, c, h2, h3, h4, h5⟩, h6⟩ := h
    have h1 : u = .bool x.1 := h1
    subst h1 h2
    obtain ⟨xs, e1, e2, e3⟩ := raw_flat r cs w h6 (fun y hy => hx y (List.mem_cons_of_mem _ hy))
    refine ⟨⟨x.1, a, x.2, c⟩ :: xs, by simp only [flatA, e1], by simp only [List.map_cons, e2], fun y hy => ?_⟩
    rcases List.mem_cons.1 hy with rfl | hy
    · exact ⟨h3, h4, hx x (List.mem_cons_self ..), h5⟩
    · exact e3 y hy
theorem s_odd (ps : List Raw) (hn : ps.length ≤ 1000) (hx : ∀ x ∈ ps, x.ok) : Spec Try.prog 73 [isArr 24 ps.length (rawcells ps)] (VP.bool (ps.any oddP)) :=
  spec1 fun v1 w p1 => by
    obtain ⟨g, cs, rfl, h1, h2⟩ := p1
    obtain ⟨xs, e1, e2, e3⟩ := raw_flat ps cs w h2 hx
    have hl : xs.length = ps.length := by rw [← e2]; simp
    have := odd1_walk xs g 0 ps.length w (by omega) (fun j u hu => by rw [Nat.zero_add]; exact h1.cell (by rw [← e1]; exact hu)) e3
    rw [hl] at this
    refine this.mono fun e w' h => ⟨_, h.1, ?_, h.2⟩
    show Value.bool _ = Value.bool _
    rw [← e2, List.any_map]
    rfl
/-- an integer -/
abbrev raw (z : Int) : Raw := (decide (z < 0), dg BB z.natAbs)
theorem raw_ok (z : Int) : (raw z).ok := fun d hd => Nat.lt_trans (dg_lt BB_gt hd) (by decide)
theorem raw_even {z : Int} (h : L z ≤ 10) : oddP (raw z) = false := by
  unfold oddP raw
  rw [int_right, decide_eq_false (by unfold L at h; simp only; omega)]; rfl
theorem s_even2 (x y : Int) (h1 : L x ≤ 10) (h2 : L y ≤ 10) : Spec Try.prog 73 [isArr 24 2 [Bz x, Dz x, Bz y, Dz y]] (VP.bool false) := by
  have := s_odd [raw x, raw y] (by simp) (fun z hz => by
    simp only [List.mem_cons, List.not_mem_nil, or_false] at hz
    rcases hz with rfl | rfl <;> exact raw_ok _)
  simp only [List.any_cons, raw_even h1, raw_even h2, List.any_nil, Bool.or_self] at this
  exact this
theorem s_odd2 (x y : Raw) (h1 : x.ok) (h2 : y.ok) (h : [x, y].any oddP = true) : Spec Try.prog 73 [isArr 24 2 [VP.bool x.1, VP.nums .u32 x.2, VP.bool y.1, VP.nums .u32 y.2]] (VP.bool true) := by
  have := s_odd [x, y] (by simp) (fun z hz => by
    simp only [List.mem_cons, List.not_mem_nil, or_false] at hz
    rcases hz with rfl | rfl
    · exact h1
    · exact h2)
  rw [h] at this
  exact this
/-- an argument of type api.Int is a sign and digits -/
theorem arg_raw {w : World} {v : Value} (h : Arg Try.prog w 24 v) : ∃ x : Raw, x.ok ∧ (RAW x).p v w := by
  obtain ⟨x, rfl, h1, h2, h3, h4⟩ := arg_aint h
  exact ⟨(x.s, x.l), h3, [.bool x.s, .slice x.a x.l.length x.c], rfl, rfl, ⟨x.a, x.c, rfl, h1, h2, h4⟩, trivial⟩
/-- one that is right -/
theorem raw_right {x : Raw} (h : oddP x = false) : ∃ z : Int, L z ≤ 10 ∧ x = raw z := by
  unfold oddP at h
  rw [Bool.or_eq_false_iff] at h
  obtain ⟨z, h1, h2⟩ := right_int (s := x.1) (l := x.2) (by simpa using h.2)
  have := of_decide_eq_false h.1
  refine ⟨z, by unfold L; rw [← h2]; omega, ?_⟩
  obtain ⟨s, l⟩ := x
  simp only at h1 h2
  rw [h1, h2]
/-- a spec, called -/
theorem Spec.call1 {P : Program} {f : FuncId} {q : Value → World → Prop} {x : VP} (h : Spec P f [q] x) {v : Value} {w : World} (h1 : q v w) : Calls P f #[v] w fun e w' => ∃ v, e = .returned v ∧ x.p v w' ∧ Ext w w' :=
  h #[v] w rfl fun j q' hq => by
    match j, hq with
    | 0, hq => cases hq; exact ⟨v, rfl, h1⟩
theorem Spec.call2 {P : Program} {f : FuncId} {q r : Value → World → Prop} {x : VP} (h : Spec P f [q, r] x) {u v : Value} {w : World} (h1 : q u w) (h2 : r v w) : Calls P f #[u, v] w fun e w' => ∃ v, e = .returned v ∧ x.p v w' ∧ Ext w w' :=
  h #[u, v] w rfl fun j q' hq => by
    match j, hq with
    | 0, hq => cases hq; exact ⟨u, rfl, h1⟩
    | 1, hq => cases hq; exact ⟨v, rfl, h2⟩
theorem Spec.call3 {P : Program} {f : FuncId} {q r s : Value → World → Prop} {x : VP} (h : Spec P f [q, r, s] x) {u v t : Value} {w : World} (h1 : q u w) (h2 : r v w) (h3 : s t w) : Calls P f #[u, v, t] w fun e w' => ∃ v, e = .returned v ∧ x.p v w' ∧ Ext w w' :=
  h #[u, v, t] w rfl fun j q' hq => by
    match j, hq with
    | 0, hq => cases hq; exact ⟨u, rfl, h1⟩
    | 1, hq => cases hq; exact ⟨v, rfl, h2⟩
    | 2, hq => cases hq; exact ⟨t, rfl, h3⟩
theorem true_of {w : World} {e : Ending} {w' : World} (h : ∃ v, e = .returned v ∧ (VP.bool true).p v w' ∧ Ext w w') : e = .returned (.bool true) ∧ Ext w w' := by
  obtain ⟨v, h1, h2, h3⟩ := h
  have h2 : v = .bool true := h2
  subst h2
  exact ⟨h1, h3⟩
theorem z_int_2 : ∀ w, All2 [Bz 0, Dz 0, Bz 0, Dz 0] [.bool false, .slice none 0 0, .bool false, .slice none 0 0] w := z_frac
theorem z_int_3 (w : World) : All2 [Bz 0, Dz 0, Bz 0, Dz 0, Bz 0, Dz 0] [.bool false, .slice none 0 0, .bool false, .slice none 0 0, .bool false, .slice none 0 0] w := ⟨rfl, nums_nil _ _, rfl, nums_nil _ _, rfl, nums_nil _ _, trivial⟩
end Go.Proofs.Ytmlnpagkabmmpaa
