/- Part of the proof that a law returns true for all that comes in, and that what came in reads as it did. No condition. -/
import Derived.Laws.BytesArg
import Derived.Deep.CutRange
import Derived.IntWalk
import Derived.Laws.IdiomStrings
import Derived.Test.YtogodjiemgilaaaMgA0
/- The text of an integer. -/
namespace Go.Proofs.Ytogodjiemgilaaa
open Go.RowKit

/-- a text of bytes' numbers -/
def bs (l : List Nat) : ByteArray := ⟨(l.map UInt8.ofNat).toArray⟩
theorem conv_bytes {w : World} {a : Option Addr} {c : Nat} {l : List Nat} (h : Rd w a (ks .u8 l)) : (convert 59 9 (.slice a l.length c)).run Try.prog w = .ok (.string (bs l)) w := by
  cases l with
  | nil =>
    show (convert _ _ (.slice a 0 c)).run _ w = _
    rw [run_convert_bytes_string w _ _ 5 a 0 c Try.underlying59 Try.underlying5 Try.underlying9]
    cases a with
    | none => simp [Conv.bytesToString, bs, ByteArray.empty, ByteArray.emptyWithCapacity]; rfl
    | some p => simp [Conv.bytesToString, bs, loadCells, loadCellsFrom, ByteArray.empty, ByteArray.emptyWithCapacity]; rfl
  | cons d l' =>
    obtain ⟨b, off, rfl, _, hall⟩ := h.all (by simp [ks])
    have hl : (d :: l').length = ((d :: l').map Int.ofNat).length := by simp
    have := run_convert_bytes_arg w 59 5 Try.underlying59 Try.underlying5 b off (d :: l').length c ((d :: l').map Int.ofNat) hl.symm (fun i hi => by
      have := hall i (.int .u8 ((d :: l')[i] : Int)) (ks_get hi)
      rw [this]
      have e : ((d :: l').map Int.ofNat)[i]? = some (Int.ofNat (d :: l')[i]) := by rw [List.getElem?_map, List.getElem?_eq_getElem hi]; rfl
      rw [List.getD_eq_getElem?_getD, e]; rfl) 9 Try.underlying9
    rw [this]
    simp [strOfNums, bs]

theorem elemU8 : Elem Try.prog 59 5 (.int .u8 0) 1 1 := Elem.mk Try.underlying59 (by kernel_rfl) rfl (by decide)

/-- a row of the call's own that is not empty, its block whole -/
theorem own_row {w : World} {base : Nat} {e : TypeId} {n : Nat} {v : Value} {xs : List Value} (h : w.ownsRow base e 1 v n xs) (h0 : 0 < n) :
    ∃ g cap rest, v = .slice (some ⟨g, 0, none⟩) n cap ∧ base ≤ g ∧ Row w g e (xs ++ rest) ∧ n ≤ cap := by
  obtain ⟨h1, h2⟩ := h
  rcases h2 with ⟨rfl, rfl⟩ | ⟨g, cap, cur, rfl, hg, hh, hnc, hcm, hcs, htake⟩
  · exact absurd h0 (Nat.lt_irrefl 0)
  · refine ⟨g, cap, cur.toList.drop (n * 1), rfl, hg, ?_, hnc⟩
    show w.heap[g]? = _
    rw [hh, ← htake, List.take_append_drop]

/-- decimal digits as bytes, the least one first -/
def asc (l : List Nat) : List Nat := l.map (· + 48)
theorem asc_len (l : List Nat) : (asc l).length = l.length := by simp [asc]
theorem asc_append (a b : List Nat) : asc (a ++ b) = asc a ++ asc b := by simp [asc]
/-- the text of an integer -/
def txtR (s : Bool) (n : Nat) : List Nat := asc (dg 10 n) ++ (if n = 0 then [48] else []) ++ (if s then [45] else [])
def txt (z : Int) : ByteArray := bs (txtR (decide (z < 0)) z.natAbs).reverse

theorem ten_gt : 1 < 10 := by decide
theorem BB_pow (i : Nat) : BB ^ i = 10 ^ (9 * i) := by
  rw [show BB = 10 ^ 9 from rfl, ← Nat.pow_mul]
theorem dig9 (y k : Nat) (hk : k < 9) : y % BB / 10 ^ k % 10 = y / 10 ^ k % 10 := by
  have e : BB = 10 ^ k * 10 ^ (9 - k) := by rw [← Nat.pow_add, show k + (9 - k) = 9 by omega]; rfl
  rw [e, Nat.mod_mul_right_div_self]
  exact Nat.mod_mod_of_dvd _ ⟨10 ^ (9 - k - 1), by rw [← Nat.pow_succ', show (9 - k - 1).succ = 9 - k by omega]⟩
theorem dig_at (n i k : Nat) (hk : k < 9) : n / BB ^ i % BB / 10 ^ k % 10 = n / 10 ^ (9 * i + k) % 10 := by
  rw [dig9 _ _ hk, BB_pow, Nat.div_div_eq_div_mul, ← Nat.pow_add]
/-- one more digit stands -/
theorem dig_more (n i k len : Nat) (hlen : ∀ j, j < len ↔ BB ^ j ≤ n) (hk : k < 9) (h : 0 < n / BB ^ i % BB / 10 ^ k ∨ i + 1 < len) : 10 ^ (9 * i + k) ≤ n := by
  rcases h with h | h
  · have h1 : 10 ^ k ≤ n / BB ^ i % BB := by
      by_cases h1 : 10 ^ k ≤ n / BB ^ i % BB
      · exact h1
      · rw [Nat.div_eq_of_lt (by omega)] at h; omega
    have h2 : 10 ^ k ≤ n / BB ^ i := Nat.le_trans h1 (Nat.mod_le _ _)
    rw [Nat.le_div_iff_mul_le (Nat.pow_pos (by decide)), BB_pow, ← Nat.pow_add, Nat.add_comm] at h2
    exact h2
  · have h1 := (hlen (i + 1)).1 h
    rw [BB_pow] at h1
    exact Nat.le_trans (Nat.pow_le_pow_right (by decide) (by omega)) h1
/-- no digit stands any more -/
theorem dig_done (n i k : Nat) (hlen : n < BB ^ (i + 1)) (h : n / BB ^ i % BB / 10 ^ k = 0) : n < 10 ^ (9 * i + k) := by
  have h2 : n / BB ^ i < BB := by rw [Nat.div_lt_iff_lt_mul (Nat.pow_pos (by decide))]; rw [Nat.pow_succ, Nat.mul_comm] at hlen; exact hlen
  rw [Nat.mod_eq_of_lt h2] at h
  have h3 : n / BB ^ i < 10 ^ k := Nat.lt_of_div_eq_zero (Nat.pow_pos (by decide)) h
  rw [Nat.div_lt_iff_lt_mul (Nat.pow_pos (by decide)), BB_pow, ← Nat.pow_add, Nat.add_comm] at h3
  exact h3

/-- the text of a row that is turned round -/
def IsTxt (L : List Nat) (T : ByteArray) : Prop := bs L.reverse = T
/-- the text of a row of the call's own, turned round -/
theorem rev_text {W0 w : World} {g c m : Nat} {L : List Nat} {rest : List Value} (hm : m = L.length) (hl : m ≤ 100000000) (hg : W0.heap.size ≤ g) (x : Ext W0 w) (hr : Row w g 5 (ks .u8 L ++ rest)) {T : ByteArray} (hT : IsTxt L T) :
    Calls Try.prog 128 #[.slice (some ⟨g, 0, none⟩) m c] w fun e w' => e = .returned (.tuple #[]) ∧ Ext W0 w' ∧ (convert 59 9 (.slice (some ⟨g, 0, none⟩) m c)).run Try.prog w' = .ok (.string T) w' := by
  subst hm
  obtain rfl : bs L.reverse = T := hT
  refine (revb_walk g c L rest w hl hr).mono ?_
  rintro e w' ⟨rfl, h1, h2⟩
  refine ⟨rfl, x.grown h2 (fun k e => by cases e; exact hg), ?_⟩
  have h3 := h1.rd.take L.reverse.length
  rw [List.take_append_of_le_length (by rw [ks_len]; exact Nat.le_refl _), List.take_of_length_le (by rw [ks_len]; exact Nat.le_refl _)] at h3
  have := conv_bytes (c := c) h3
  rw [List.length_reverse] at this
  exact this

set_option maxRecDepth 100000 in
set_option maxHeartbeats 4000000 in
theorem textz_walk (z : Int) (a : Option Addr) (ca : Nat) (w : World) (hb : (dg BB z.natAbs).length ≤ 100000) (h : IsInt w z a ca) :
    Calls Try.prog 63 #[.agg #[.bool (decide (z < 0)), .slice a (dg BB z.natAbs).length ca]] w fun e w' => e = .returned (.string (txt z)) ∧ Ext w w' := by
  have hr := h.2.2
  have hlen := dg_len_lt BB_gt (n := z.natAbs)
  have hnb := lt_pow_len BB_gt z.natAbs
  have hs0 : z.natAbs = 0 → decide (z < 0) = false := fun h => decide_eq_false (by omega)
  unfold txt
  clear h
  obtain ⟨T, hT⟩ : ∃ T, bs (txtR (decide (z < 0)) z.natAbs).reverse = T := ⟨_, rfl⟩
  rw [hT]
  generalize z.natAbs = n at *
  generalize decide (z < 0) = s at *
  obtain ⟨l, hl⟩ : ∃ l, l = dg BB n := ⟨_, rfl⟩
  have hdig : ∀ i (hi : i < l.length), l[i] = n / BB ^ i % BB := fun i hi => by subst hl; exact dg_at BB_gt hi
  rw [← hl] at hr hb hnb ⊢
  have hlen : ∀ i, i < l.length ↔ BB ^ i ≤ n := fun i => by rw [hl]; exact hlen i
  have HNB := Lib.hid hnb
  have HLEN := Lib.hid hlen
  have HDIG := Lib.hid hdig
  have HR := Lib.hid hr
  have HS0 := Lib.hid hs0
  have HT := Lib.hid hT
  clear hl hdig hlen hnb hr hs0 hT
  go_enter Try.func63, Try.ntmps63
  go_wp2_with fail
  obtain ⟨W0, hW0⟩ : ∃ W0, w.alloc (.cells #[.bool s, .slice a l.length ca] 69) = W0 := ⟨_, rfl⟩
  have q0 : Row W0 w.heap.size 69 [.bool s, .slice a l.length ca] := by rw [← hW0]; exact Row.new w _ [_, _]
  have x0 : Ext w W0 := by rw [← hW0]; exact Ext.new _ _
  rw [hW0]
  clear hW0
  go_loopw [3, 10] (fun o iv wr => ∃ i J : Nat, i ≤ l.length ∧ J ≤ 9 * i ∧ iv = .int .i64 i ∧ wr.ownsRow W0.heap.size 5 1 o J (ks .u8 (asc (fixd 10 J n))) ∧ Ext W0 wr ∧ Hid ((J = 0 ∨ 10 ^ (J - 1) ≤ n) ∧ (i < l.length → J = 9 * i) ∧ (i = l.length → n < 10 ^ J))) (fun _ iv _ => l.length - (intOf iv).toNat)
  case atStart => exact ⟨0, 0, by omega, by omega, rfl, World.ownsRow_nil _ _ _ _, Ext.refl _, .inl rfl, fun _ => rfl, fun e => by have := HNB.out; rw [← e] at this; exact this⟩
  case round =>
    obtain ⟨i, J, hi, hJ, rfl, hown, hext, HH⟩ := hrel
    have q1 := q0.ext hext
    have k0 := q1.cell (i := 0) rfl
    have k1 := q1.cell (i := 1) rfl
    by_cases hlt : i < l.length
    · have HJ : J = 9 * i := HH.out.2.1 hlt
      subst HJ
      obtain ⟨b0, ob, rfl, hcb⟩ := (HR.out.ext (x0.trans hext)).num (i := i) hlt
      have hx : l[i] < 1000000000 := by rw [HDIG.out i hlt]; exact Nat.mod_lt _ (by decide)
      have hxk : Hid (l[i] = n / BB ^ i % BB) := HDIG.out i hlt
      generalize l[i] = x at *
      have HB1 : Hid (9 * i = 0 ∨ 10 ^ (9 * i - 1) ≤ n) := HH.out.1
      clear HH
      go_wp2_with fail
      clear k0 k1 q1 hcb
      go_loopw [3, 5, 6] (fun o d kv wr2 => ∃ k : Nat, k ≤ 9 ∧ kv = .int .i64 k ∧ d = .int .u32 ((x / 10 ^ k : Nat) : Int) ∧ wr2.ownsRow W0.heap.size 5 1 o (9 * i + k) (ks .u8 (asc (fixd 10 (9 * i + k) n))) ∧ Ext W0 wr2 ∧ Hid (9 * i + k = 0 ∨ 10 ^ (9 * i + k - 1) ≤ n)) (fun _ _ kv _ => 10 - (intOf kv).toNat)
      case atStart => exact ⟨0, by omega, rfl, by simp, hown, hext, HB1.out⟩
      case round =>
        obtain ⟨k, hk, rfl, rfl, hown2, hext2, HP⟩ := hrel
        have q1 := q0.ext hext2
        have k0 := q1.cell (i := 0) rfl
        have k1 := q1.cell (i := 1) rfl
        clear q1
        by_cases hmore : k < 9 ∧ (0 < x / 10 ^ k ∨ i + 1 < l.length)
        · obtain ⟨hk9, hor⟩ := hmore
          have HM : Hid (10 ^ (9 * i + k) ≤ n) := dig_more n i k l.length HLEN.out hk9 (by rw [← hxk.out]; exact hor)
          have HD : Hid (x / 10 ^ k % 10 = n / 10 ^ (9 * i + k) % 10) := by show _ = _; rw [hxk.out]; exact dig_at n i k hk9
          have HS : Hid (x / 10 ^ k / 10 = x / 10 ^ (k + 1)) := by show _ = _; rw [Nat.div_div_eq_div_mul, Nat.pow_succ]
          have hy : x / 10 ^ k < 1000000000 := Nat.lt_of_le_of_lt (Nat.div_le_self _ _) hx
          generalize hyy : x / 10 ^ k = y at *
          clear hyy
          have HC : Hid (∀ (v' : Value) (w1 : World), w1.ownsRow W0.heap.size 5 1 v' (9 * i + k + 1) (ks .u8 (asc (fixd 10 (9 * i + k) n)) ++ [.int .u8 ((48 + y % 10 : Nat) : Int)]) → Ext W0 w1 →
              ∃ k' : Nat, k' ≤ 9 ∧ Value.int .i64 ((k : Int) + 1) = .int .i64 k' ∧ Value.int .u32 ((y / 10 : Nat) : Int) = .int .u32 ((x / 10 ^ k' : Nat) : Int) ∧ w1.ownsRow W0.heap.size 5 1 v' (9 * i + k') (ks .u8 (asc (fixd 10 (9 * i + k') n))) ∧ Ext W0 w1 ∧ Hid (9 * i + k' = 0 ∨ 10 ^ (9 * i + k' - 1) ≤ n)) := by
            intro v' w1 own1 ext1
            refine ⟨k + 1, by omega, by go_num, by rw [HS.out], ?_, ext1, .inr ?_⟩
            · rw [show 9 * i + (k + 1) = 9 * i + k + 1 by omega, fixd_succ, asc_append, ks_append, ← HD.out]
              rw [Nat.add_comm 48] at own1
              exact own1
            · rw [show 9 * i + (k + 1) - 1 = 9 * i + k by omega]; exact HM.out
          clear HM HD HS HP
          by_cases hy0 : 0 < y
          · go_wp2_with (at_builtin; refine append_elem elemU8 hown2 hext2 (by unfold maxLen; omega) (by omega) rfl (by simp [Value.oneCell']) rfl _ _ rfl rfl rfl ?_; intro v' w1 own1 ext1 _)
            go_roundw
            case rel => exact HC.out _ _ own1 ext1
            case measure => simp [intOf]; omega
          · have hi1 : i + 1 < l.length := by omega
            have hyz : y = 0 := by omega
            subst hyz
            go_wp2_with (at_builtin; refine append_elem elemU8 hown2 hext2 (by unfold maxLen; omega) (by omega) rfl (by simp [Value.oneCell']) rfl _ _ rfl rfl rfl ?_; intro v' w1 own1 ext1 _)
            go_roundw
            case rel => exact HC.out _ _ own1 ext1
            case measure => simp [intOf]; omega
        · by_cases hk9 : k < 9
          · have hxz : x / 10 ^ k = 0 := Nat.eq_zero_of_not_pos fun h => hmore ⟨hk9, .inl h⟩
            have hi1 : ¬ i + 1 < l.length := fun h => hmore ⟨hk9, .inr h⟩
            have HXZ := Lib.hid hxz
            rw [hxz]
            clear hxz
            go_wp2_with fail
            go_roundw
            case rel => exact ⟨i + 1, 9 * i + k, by omega, by omega, by go_num, hown2, hext2, HP.out, fun h => absurd h hi1, fun e => dig_done n i k (by rw [e]; exact HNB.out) (by rw [← hxk.out]; exact HXZ.out)⟩
            case measure => simp [intOf]; omega
          · have hk9' : k = 9 := by omega
            subst hk9'
            have hyb : x / 10 ^ 9 < 1000000000 := Nat.lt_of_le_of_lt (Nat.div_le_self _ _) hx
            generalize x / 10 ^ 9 = y at *
            go_wp2_with fail
            go_roundw
            case rel => exact ⟨i + 1, 9 * i + 9, by omega, by omega, by go_num, hown2, hext2, HP.out, fun h => by omega, fun e => (by have := HNB.out; rw [← e, BB_pow] at this; exact this)⟩
            case measure => simp [intOf]; omega
    · have hi1 : i = l.length := by omega
      have HD : Hid (fixd 10 J n = dg 10 n) := fixd_dg ten_gt (HH.out.2.2 hi1) HH.out.1
      have hJ9 : J ≤ 900000 := by omega
      have HLJ : Hid (J = (dg 10 n).length) := by show _ = _; rw [← HD.out, fixd_len]
      rw [HD.out] at hown
      have hz := dg_len0 ten_gt n
      rw [← HLJ.out] at hz
      rcases Nat.eq_zero_or_pos J with hj0 | hj0
      · subst hj0
        have hn0 := hz.1 rfl
        subst hn0
        have hs := HS0.out rfl
        subst hs
        obtain ⟨a1, c1, rfl, g1, g2, g3⟩ := own_form hown
        have HTT : IsTxt [48] T := HT.out
        clear HT
        go_wp2_with (first
          | (at_builtin; refine append_elem elemU8 hown hext (by unfold maxLen; omega) (by omega) rfl (by simp [Value.oneCell']) rfl _ _ rfl rfl rfl ?_; intro v' w1 own1 ext1 _; obtain ⟨g, cap, rest, rfl, hgb, hrow, hnc⟩ := own_row own1 (by omega); have k5 := (q0.ext ext1).cell (i := 0) rfl)
          | (go_at_call 128; refine (rev_text (m := 1) (L := [48]) rfl (by omega) hgb ext1 (by exact hrow) HTT).mono ?_; rintro e w3 ⟨rfl, x3, hcv⟩))
        go_ret
        exact ⟨rfl, x0.trans x3⟩
      · have hn0 : ¬ n = 0 := fun e => by have := hz.2 e; omega
        have HT0 : Hid (txtR false n = asc (dg 10 n)) := by show _ = _; unfold txtR; rw [if_neg hn0]; simp
        have HT1 : Hid (txtR true n = asc (dg 10 n) ++ [45]) := by show _ = _; unfold txtR; rw [if_neg hn0]; simp
        have HI0 : s = false → IsTxt (asc (dg 10 n)) T := fun e => by subst e; show _ = _; rw [← HT0.out]; exact HT.out
        have HI1 : s = true → IsTxt (asc (dg 10 n) ++ [45]) T := fun e => by subst e; show _ = _; rw [← HT1.out]; exact HT.out
        have hla : J = (asc (dg 10 n)).length := by rw [asc_len]; exact HLJ.out
        clear hz hn0 HT HT0 HT1 HD HLJ
        generalize asc (dg 10 n) = L at *
        have HLA := Lib.hid hla
        clear hla
        cases s
        · obtain ⟨g, cap, rest, rfl, hgb, hrow, hnc⟩ := own_row hown hj0
          clear hown
          have HTT := HI0 rfl
          clear HI0 HI1
          have HROW := Lib.hid hrow
          go_wp2_with (go_at_call 128; refine (rev_text (L := L) HLA.out (by omega) hgb hext HROW.out HTT).mono ?_; rintro e w3 ⟨rfl, x3, hcv⟩)
          go_ret
          exact ⟨rfl, x0.trans x3⟩
        · obtain ⟨a1, c1, rfl, g1, g2, g3⟩ := own_form hown
          have HTT := HI1 rfl
          clear HI0 HI1
          have HLB : Hid (J + 1 = (L ++ [45]).length) := by show _ = _; rw [List.length_append, ← HLA.out]; rfl
          go_wp2_with (first
            | (at_builtin; refine append_elem elemU8 hown hext (by unfold maxLen; omega) (by omega) rfl (by simp [Value.oneCell']) rfl _ _ rfl rfl rfl ?_; intro v' w1 own1 ext1 _; obtain ⟨g, cap, rest, rfl, hgb, hrow, hnc⟩ := own_row own1 (by omega))
            | (go_at_call 128; refine (rev_text (L := L ++ [45]) HLB.out (by omega) hgb ext1 (by rw [ks_append]; exact hrow) HTT).mono ?_; rintro e w3 ⟨rfl, x3, hcv⟩))
          go_ret
          exact ⟨rfl, x0.trans x3⟩
end Go.Proofs.Ytogodjiemgilaaa

/- The int of an integer. -/
namespace Go.Proofs.Ytogodjiemgilaaa
open Go.RowKit Go.Shelf

attribute [local go_sem] Oper.semAt_some

/-- the greatest number that Small gives -/
def edge : Int := 4611686018427387904
def small (z : Int) : Bool := decide (z.natAbs ≤ 4611686018427387904)
def smallV (z : Int) : Int := if small z then z else 0

theorem wrap_fold (M : Nat) (hM : M ≤ 4611686018427387904) : wrap64 (wrap64 (((M / BB : Nat) : Int) * 1000000000) + ((M % BB : Nat) : Int)) = M := by
  have h : M / BB * 1000000000 + M % BB = M := by have := Nat.div_add_mod M BB; rw [Nat.mul_comm] at this; exact this
  generalize M / BB = p at *
  generalize M % BB = q at *
  have h1 : wrap64 ((p : Int) * 1000000000) = (p : Int) * 1000000000 := by unfold wrap64; omega
  rw [h1]
  unfold wrap64; omega
theorem fold_step {N L k x : Nat} {v : Int} {pre : List (Fin L)} {hk : k < L} (h : pre = down L pre.length → pre.length ≤ L → v = (N / BB ^ (L - pre.length) : Nat)) (hx : x = N / BB ^ k % BB) (hN : N ≤ 4611686018427387904) :
    pre ++ [(⟨k, hk⟩ : Fin L)] = down L (pre ++ [(⟨k, hk⟩ : Fin L)]).length → (pre ++ [(⟨k, hk⟩ : Fin L)]).length ≤ L → wrap64 (wrap64 (v * 1000000000) + x) = (N / BB ^ (L - (pre ++ [(⟨k, hk⟩ : Fin L)]).length) : Nat) := by
  intro h1 h2
  rw [List.length_append, List.length_singleton] at h1 h2
  rw [down_succ _ _ (by omega)] at h1
  obtain ⟨e1, e2⟩ := List.append_inj' h1 rfl
  have hkk : L - 1 - pre.length = k := by simpa using (List.cons.inj e2).1.symm
  have hv := h e1 (by omega)
  have e3 : L - pre.length = k + 1 := by omega
  have e4 : L - (pre ++ [(⟨k, hk⟩ : Fin L)]).length = k := by rw [List.length_append, List.length_singleton]; omega
  rw [e3, Nat.pow_succ, ← Nat.div_div_eq_div_mul] at hv
  rw [e4]
  have h5 : N / BB ^ k ≤ N := Nat.div_le_self _ _
  generalize N / BB ^ k = M at *
  rw [hv, hx]
  exact wrap_fold M (by omega)

theorem ofi_edge (w : World) : Calls Try.prog 66 #[.int .i64 4611686018427387904] w (GotInt w edge) := ofi_walk 4611686018427387904 w (by decide) (by decide)

set_option maxRecDepth 100000 in
set_option maxHeartbeats 4000000 in
theorem small_walk (z : Int) (a : Option Addr) (ca : Nat) (w : World) (hb : (dg BB z.natAbs).length ≤ 100000) (h : IsInt w z a ca) :
    Calls Try.prog 65 #[.agg #[.bool (decide (z < 0)), .slice a (dg BB z.natAbs).length ca]] w fun e w' => e = .returned (.tuple #[.int .i64 (smallV z), .bool (small z)]) ∧ Ext w w' := by
  have hle : (dg BB edge.natAbs).length ≤ 1000000 := by
    have : (dg BB edge.natAbs).length ≤ 3 := by rw [dg_len_le BB_gt]; decide
    omega
  obtain ⟨y, hy⟩ : ∃ y, -z = y := ⟨_, rfl⟩
  have hnn : y.natAbs = z.natAbs := by omega
  have hbn : (dg BB y.natAbs).length ≤ 1000000 := by rw [hnn]; omega
  have HC1 := Lib.hid (fun W a' ca' b' cb' (g1 : IsInt W z a' ca') (g2 : IsInt W edge b' cb') => cmpz_walk z edge a' b' ca' cb' W (by omega) hle g1 g2)
  have HC2 := Lib.hid (fun W a' ca' b' cb' (g1 : IsInt W y a' ca') (g2 : IsInt W edge b' cb') => cmpz_walk y edge a' b' ca' cb' W hbn hle g1 g2)
  have HN := Lib.hid (fun W a' ca' (g1 : IsInt W z a' ca') => neg_walk z a' ca' W (by omega) g1)
  rw [hy] at HN
  have hq1 : cmpZ z edge > 0 ↔ z > 4611686018427387904 := by unfold cmpZ edge; (repeat' split) <;> omega
  have hq2 : cmpZ y edge > 0 ↔ -z > 4611686018427387904 := by unfold cmpZ edge; (repeat' split) <;> omega
  have HP := Lib.hid h
  have HZ : Hid (decide (z < 0) = true → -(z.natAbs : Int) = z) := fun h => by have := of_decide_eq_true h; omega
  have HZ2 : Hid (decide (z < 0) = false → (z.natAbs : Int) = z) := fun h => by have := of_decide_eq_false h; omega
  generalize hz1 : cmpZ z edge = q1 at *
  generalize hz2 : cmpZ y edge = q2 at *
  clear hz1 hz2 hnn hbn hle hy
  have HOE : Hid (∀ W, Calls Try.prog 66 #[.int .i64 4611686018427387904] W fun e w' => ∃ a1 c1, e = .returned (.agg #[.bool (decide (edge < 0)), .slice a1 (dg BB edge.natAbs).length c1]) ∧ IsInt w' edge a1 c1 ∧ Ext W w') := fun W => (ofi_edge W).mono (by rintro e w' ⟨a1, c1, h1, h2, h3, h4, h5, h6⟩; exact ⟨a1, c1, h1, ⟨h2, h3, h4⟩, h5⟩)
  by_cases g1 : z > 4611686018427387904
  · have hs : small z = false := by unfold small; exact decide_eq_false (by omega)
    have hv : smallV z = 0 := by unfold smallV; rw [hs]; rfl
    have hd1 : decide (0 < q1) = true := decide_eq_true (hq1.2 g1)
    rw [hs, hv]
    clear hs hv hq1 hq2 g1
    generalize decide (edge < 0) = se at *
    generalize hln : (dg BB edge.natAbs).length = ne at *
    have HLN := Lib.hid hln
    clear hln
    generalize decide (z < 0) = s at *
    generalize hna : (dg BB z.natAbs).length = na at *
    have HNA := Lib.hid hna
    clear hna
    have HOF : Hid (∀ W, Calls Try.prog 66 #[.int .i64 4611686018427387904] W fun e w' => ∃ a1 c1, e = .returned (.agg #[.bool se, .slice a1 ne c1]) ∧ IsInt w' edge a1 c1 ∧ Ext W w' ) := HOE
    clear HOE
    go_enter Try.func65, Try.ntmps65
    go_upto_region 2 with (go_at_call 66; refine (HOF.out _).mono ?_; rintro e w1 ⟨a1, c1, rfl, i4, t4⟩)
    have x2 : Ext w (w1.alloc (.cells #[.bool se, .slice a1 ne c1] 69)) := ((Ext.new w (.cells #[.bool s, .slice a na ca] 69)).trans t4).alloc _
    have r1 : Row (w1.alloc (.cells #[.bool se, .slice a1 ne c1] 69)) w.heap.size 69 [.bool s, .slice a na ca] := ((Row.new w 69 [.bool s, .slice a na ca]).ext t4).alloc _
    have r4 : Row (w1.alloc (.cells #[.bool se, .slice a1 ne c1] 69)) w1.heap.size 69 [.bool se, .slice a1 ne c1] := Row.new w1 69 [_, _]
    have i5 : IsInt (w1.alloc (.cells #[.bool se, .slice a1 ne c1] 69)) edge a1 c1 := i4.ext (Ext.new _ _)
    generalize w1.alloc (.cells #[.bool se, .slice a1 ne c1] 69) = W2 at *
    have i1 : IsInt W2 z a ca := HP.out.ext x2
    have Q := Lib.hid (And.intro x2 (And.intro r1 (And.intro r4 (And.intro i1 i5))))
    have k0 := r1.cell (i := 0) rfl
    have k1 := r1.cell (i := 1) rfl
    have k2 := r4.cell (i := 0) rfl
    have k3 := r4.cell (i := 1) rfl
    clear x2 r1 r4 i1 i4 i5 t4 h
    go_cut [19] from 9 to 19 (fun v wx => v = .bool true ∧ Ext W2 wx)
    case first =>
      go_region_with (first
        | (have hh := x4; go_at_call 61; refine (HC2.out _ _ _ _ _ ?_ ?_).mono ?_; exact ⟨t1, t2, t3⟩; exact Q.out.2.2.2.2.ext x4; rintro e w5 ⟨rfl, g5⟩; have x5 := x4.trans g5; have y0 := (Q.out.2.1.ext x5).cell (i := 0) rfl; have y1 := (Q.out.2.1.ext x5).cell (i := 1) rfl; have y2 := (Q.out.2.2.1.ext x5).cell (i := 0) rfl; have y3 := (Q.out.2.2.1.ext x5).cell (i := 1) rfl)
        | (go_at_call 61; refine (HC1.out _ _ _ _ _ ?_ ?_).mono ?_; exact Q.out.2.2.2.1.ext (Ext.refl W2).drew; exact Q.out.2.2.2.2.ext (Ext.refl W2).drew; rintro e w3 ⟨rfl, g3⟩; have x3 := (Ext.refl W2).drew.trans g3; have i0 := (Q.out.2.1.ext x3).cell (i := 0) rfl; have i1 := (Q.out.2.1.ext x3).cell (i := 1) rfl; have i2 := (Q.out.2.2.1.ext x3).cell (i := 0) rfl; have i3 := (Q.out.2.2.1.ext x3).cell (i := 1) rfl)
        | (go_at_call 57; refine (HN.out _ _ _ ?_).mono ?_; exact Q.out.2.2.2.1.ext x3; rintro e w4 ⟨a4, c4, rfl, t1, t2, t3, g4, t5⟩; have x4 := x3.trans g4; have j0 := (Q.out.2.1.ext x4).cell (i := 0) rfl; have j1 := (Q.out.2.1.ext x4).cell (i := 1) rfl; have j2 := (Q.out.2.2.1.ext x4).cell (i := 0) rfl; have j3 := (Q.out.2.2.1.ext x4).cell (i := 1) rfl))
      all_goals
        go_wp2_with fail
        go_meet
        exact ⟨rfl, x3⟩
    case rest =>
      obtain ⟨rfl, x9⟩ := hcut
      go_wp2_with fail
      refine bodyPost_ret (v := .tuple #[.int .i64 0, .bool false]) (by simp [results, Try.f65, go_sem]) rfl ⟨rfl, Q.out.1.trans x9⟩
  · have hd1 : decide (0 < q1) = false := decide_eq_false (fun h => g1 (hq1.1 h))
    by_cases g2 : -z > 4611686018427387904
    · have hs : small z = false := by unfold small; exact decide_eq_false (by omega)
      have hv : smallV z = 0 := by unfold smallV; rw [hs]; rfl
      have hd2 : decide (0 < q2) = true := decide_eq_true (hq2.2 g2)
      rw [hs, hv]
      clear hs hv hq1 hq2 g1 g2
      generalize decide (edge < 0) = se at *
      generalize hln : (dg BB edge.natAbs).length = ne at *
      have HLN := Lib.hid hln
      clear hln
      generalize decide (z < 0) = s at *
      generalize hna : (dg BB z.natAbs).length = na at *
      have HNA := Lib.hid hna
      clear hna
      have HOF : Hid (∀ W, Calls Try.prog 66 #[.int .i64 4611686018427387904] W fun e w' => ∃ a1 c1, e = .returned (.agg #[.bool se, .slice a1 ne c1]) ∧ IsInt w' edge a1 c1 ∧ Ext W w' ) := HOE
      clear HOE
      go_enter Try.func65, Try.ntmps65
      go_upto_region 2 with (go_at_call 66; refine (HOF.out _).mono ?_; rintro e w1 ⟨a1, c1, rfl, i4, t4⟩)
      have x2 : Ext w (w1.alloc (.cells #[.bool se, .slice a1 ne c1] 69)) := ((Ext.new w (.cells #[.bool s, .slice a na ca] 69)).trans t4).alloc _
      have r1 : Row (w1.alloc (.cells #[.bool se, .slice a1 ne c1] 69)) w.heap.size 69 [.bool s, .slice a na ca] := ((Row.new w 69 [.bool s, .slice a na ca]).ext t4).alloc _
      have r4 : Row (w1.alloc (.cells #[.bool se, .slice a1 ne c1] 69)) w1.heap.size 69 [.bool se, .slice a1 ne c1] := Row.new w1 69 [_, _]
      have i5 : IsInt (w1.alloc (.cells #[.bool se, .slice a1 ne c1] 69)) edge a1 c1 := i4.ext (Ext.new _ _)
      generalize w1.alloc (.cells #[.bool se, .slice a1 ne c1] 69) = W2 at *
      have i1 : IsInt W2 z a ca := HP.out.ext x2
      have Q := Lib.hid (And.intro x2 (And.intro r1 (And.intro r4 (And.intro i1 i5))))
      have k0 := r1.cell (i := 0) rfl
      have k1 := r1.cell (i := 1) rfl
      have k2 := r4.cell (i := 0) rfl
      have k3 := r4.cell (i := 1) rfl
      clear x2 r1 r4 i1 i4 i5 t4 h
      go_cut [19] from 9 to 19 (fun v wx => v = .bool true ∧ Ext W2 wx)
      case first =>
        go_region_held3 (fun w' => w'.cell? ⟨w.heap.size, 0, none⟩ = some (.bool s) ∧ w'.cell? ⟨w.heap.size, 1, none⟩ = some (.slice a na ca) ∧ w'.cell? ⟨w1.heap.size, 0, none⟩ = some (.bool se) ∧ w'.cell? ⟨w1.heap.size, 1, none⟩ = some (.slice a1 ne c1)) (first | exact ⟨(Q.out.2.1.drew).cell (i := 0) rfl, (Q.out.2.1.drew).cell (i := 1) rfl, (Q.out.2.2.1.drew).cell (i := 0) rfl, (Q.out.2.2.1.drew).cell (i := 1) rfl⟩ | exact ⟨(Q.out.2.1.ext x5).cell (i := 0) rfl, (Q.out.2.1.ext x5).cell (i := 1) rfl, (Q.out.2.2.1.ext x5).cell (i := 0) rfl, (Q.out.2.2.1.ext x5).cell (i := 1) rfl⟩ | exact ⟨(Q.out.2.1.ext x4).cell (i := 0) rfl, (Q.out.2.1.ext x4).cell (i := 1) rfl, (Q.out.2.2.1.ext x4).cell (i := 0) rfl, (Q.out.2.2.1.ext x4).cell (i := 1) rfl⟩ | exact ⟨(Q.out.2.1.ext x3).cell (i := 0) rfl, (Q.out.2.1.ext x3).cell (i := 1) rfl, (Q.out.2.2.1.ext x3).cell (i := 0) rfl, (Q.out.2.2.1.ext x3).cell (i := 1) rfl⟩) (first
          | (have hh := x4; go_at_call 61; refine (HC2.out _ _ _ _ _ ?_ ?_).mono ?_; exact ⟨t1, t2, t3⟩; exact Q.out.2.2.2.2.ext x4; rintro e w5 ⟨rfl, g5⟩; have x5 := x4.trans g5; have y0 := (Q.out.2.1.ext x5).cell (i := 0) rfl; have y1 := (Q.out.2.1.ext x5).cell (i := 1) rfl; have y2 := (Q.out.2.2.1.ext x5).cell (i := 0) rfl; have y3 := (Q.out.2.2.1.ext x5).cell (i := 1) rfl)
          | (go_at_call 61; refine (HC1.out _ _ _ _ _ ?_ ?_).mono ?_; exact Q.out.2.2.2.1.ext (Ext.refl W2).drew; exact Q.out.2.2.2.2.ext (Ext.refl W2).drew; rintro e w3 ⟨rfl, g3⟩; have x3 := (Ext.refl W2).drew.trans g3; have i0 := (Q.out.2.1.ext x3).cell (i := 0) rfl; have i1 := (Q.out.2.1.ext x3).cell (i := 1) rfl; have i2 := (Q.out.2.2.1.ext x3).cell (i := 0) rfl; have i3 := (Q.out.2.2.1.ext x3).cell (i := 1) rfl)
          | (go_at_call 57; refine (HN.out _ _ _ ?_).mono ?_; exact Q.out.2.2.2.1.ext x3; rintro e w4 ⟨a4, c4, rfl, t1, t2, t3, g4, t5⟩; have x4 := x3.trans g4; have j0 := (Q.out.2.1.ext x4).cell (i := 0) rfl; have j1 := (Q.out.2.1.ext x4).cell (i := 1) rfl; have j2 := (Q.out.2.2.1.ext x4).cell (i := 0) rfl; have j3 := (Q.out.2.2.1.ext x4).cell (i := 1) rfl))
        all_goals
          go_wp2_with fail
          go_meet
          exact ⟨rfl, x5⟩
      case rest =>
        obtain ⟨rfl, x9⟩ := hcut
        go_wp2_with fail
        refine bodyPost_ret (v := .tuple #[.int .i64 0, .bool false]) (by simp [results, Try.f65, go_sem]) rfl ⟨rfl, Q.out.1.trans x9⟩
    · have hs : small z = true := by unfold small; exact decide_eq_true (by omega)
      have hv : smallV z = z := by unfold smallV; rw [hs]; rfl
      have hd2 : decide (0 < q2) = false := decide_eq_false (fun h => g2 (hq2.1 h))
      have HSM : Hid (z.natAbs ≤ 4611686018427387904) := by show _ ≤ _; omega
      rw [hs, hv]
      clear hs hv hq1 hq2 g1 g2
      generalize decide (edge < 0) = se at *
      generalize hln : (dg BB edge.natAbs).length = ne at *
      have HLN := Lib.hid hln
      clear hln
      generalize decide (z < 0) = s at *
      generalize hna : (dg BB z.natAbs).length = na at *
      have HNA := Lib.hid hna
      clear hna
      have HOF : Hid (∀ W, Calls Try.prog 66 #[.int .i64 4611686018427387904] W fun e w' => ∃ a1 c1, e = .returned (.agg #[.bool se, .slice a1 ne c1]) ∧ IsInt w' edge a1 c1 ∧ Ext W w' ) := HOE
      clear HOE
      refine (callsIn_wide (n := 3)).1 ?_
      refine callsIn_of_wp_marks Try.func65 rfl trivial ?_ rfl
      simp only [Try.ntmps65, List.size_toArray, List.length_cons, List.length_nil, Nat.reduceAdd, Nat.reduceSub, Array.replicate_succ, Array.replicate_zero, List.push_toArray, List.append_toArray, List.nil_append, List.cons_append]
      refine wpIn_wide.2 ?_
      go_upto_region 2 with (go_at_call 66; refine (HOF.out _).mono ?_; rintro e w1 ⟨a1, c1, rfl, i4, t4⟩)
      have x2 : Ext w (w1.alloc (.cells #[.bool se, .slice a1 ne c1] 69)) := ((Ext.new w (.cells #[.bool s, .slice a na ca] 69)).trans t4).alloc _
      have r1 : Row (w1.alloc (.cells #[.bool se, .slice a1 ne c1] 69)) w.heap.size 69 [.bool s, .slice a na ca] := ((Row.new w 69 [.bool s, .slice a na ca]).ext t4).alloc _
      have r4 : Row (w1.alloc (.cells #[.bool se, .slice a1 ne c1] 69)) w1.heap.size 69 [.bool se, .slice a1 ne c1] := Row.new w1 69 [_, _]
      have i5 : IsInt (w1.alloc (.cells #[.bool se, .slice a1 ne c1] 69)) edge a1 c1 := i4.ext (Ext.new _ _)
      generalize w1.alloc (.cells #[.bool se, .slice a1 ne c1] 69) = W2 at *
      have i1 : IsInt W2 z a ca := HP.out.ext x2
      have Q := Lib.hid (And.intro x2 (And.intro r1 (And.intro r4 (And.intro i1 i5))))
      have k0 := r1.cell (i := 0) rfl
      have k1 := r1.cell (i := 1) rfl
      have k2 := r4.cell (i := 0) rfl
      have k3 := r4.cell (i := 1) rfl
      clear x2 r1 r4 i1 i4 i5 t4 h
      go_cut [19] from 9 to 19 (fun v wx => v = .bool false ∧ Ext W2 wx)
      case first =>
        go_region_held3 (fun w' => w'.cell? ⟨w.heap.size, 0, none⟩ = some (.bool s) ∧ w'.cell? ⟨w.heap.size, 1, none⟩ = some (.slice a na ca) ∧ w'.cell? ⟨w1.heap.size, 0, none⟩ = some (.bool se) ∧ w'.cell? ⟨w1.heap.size, 1, none⟩ = some (.slice a1 ne c1)) (first | exact ⟨(Q.out.2.1.drew).cell (i := 0) rfl, (Q.out.2.1.drew).cell (i := 1) rfl, (Q.out.2.2.1.drew).cell (i := 0) rfl, (Q.out.2.2.1.drew).cell (i := 1) rfl⟩ | exact ⟨(Q.out.2.1.ext x5).cell (i := 0) rfl, (Q.out.2.1.ext x5).cell (i := 1) rfl, (Q.out.2.2.1.ext x5).cell (i := 0) rfl, (Q.out.2.2.1.ext x5).cell (i := 1) rfl⟩ | exact ⟨(Q.out.2.1.ext x4).cell (i := 0) rfl, (Q.out.2.1.ext x4).cell (i := 1) rfl, (Q.out.2.2.1.ext x4).cell (i := 0) rfl, (Q.out.2.2.1.ext x4).cell (i := 1) rfl⟩ | exact ⟨(Q.out.2.1.ext x3).cell (i := 0) rfl, (Q.out.2.1.ext x3).cell (i := 1) rfl, (Q.out.2.2.1.ext x3).cell (i := 0) rfl, (Q.out.2.2.1.ext x3).cell (i := 1) rfl⟩) (first
          | (have hh := x4; go_at_call 61; refine (HC2.out _ _ _ _ _ ?_ ?_).mono ?_; exact ⟨t1, t2, t3⟩; exact Q.out.2.2.2.2.ext x4; rintro e w5 ⟨rfl, g5⟩; have x5 := x4.trans g5; have y0 := (Q.out.2.1.ext x5).cell (i := 0) rfl; have y1 := (Q.out.2.1.ext x5).cell (i := 1) rfl; have y2 := (Q.out.2.2.1.ext x5).cell (i := 0) rfl; have y3 := (Q.out.2.2.1.ext x5).cell (i := 1) rfl)
          | (go_at_call 61; refine (HC1.out _ _ _ _ _ ?_ ?_).mono ?_; exact Q.out.2.2.2.1.ext (Ext.refl W2).drew; exact Q.out.2.2.2.2.ext (Ext.refl W2).drew; rintro e w3 ⟨rfl, g3⟩; have x3 := (Ext.refl W2).drew.trans g3; have i0 := (Q.out.2.1.ext x3).cell (i := 0) rfl; have i1 := (Q.out.2.1.ext x3).cell (i := 1) rfl; have i2 := (Q.out.2.2.1.ext x3).cell (i := 0) rfl; have i3 := (Q.out.2.2.1.ext x3).cell (i := 1) rfl)
          | (go_at_call 57; refine (HN.out _ _ _ ?_).mono ?_; exact Q.out.2.2.2.1.ext x3; rintro e w4 ⟨a4, c4, rfl, t1, t2, t3, g4, t5⟩; have x4 := x3.trans g4; have j0 := (Q.out.2.1.ext x4).cell (i := 0) rfl; have j1 := (Q.out.2.1.ext x4).cell (i := 1) rfl; have j2 := (Q.out.2.2.1.ext x4).cell (i := 0) rfl; have j3 := (Q.out.2.2.1.ext x4).cell (i := 1) rfl))
        all_goals
          go_wp2_with fail
          go_meet
          exact ⟨rfl, x5⟩
      case rest =>
        obtain ⟨rfl, x9⟩ := hcut
        clear k0 k1 k2 k3
        have q0 := Q.out.2.1.ext x9
        have X9 := Lib.hid (Q.out.1.trans x9)
        have k1 := (q0.alloc (.cells #[.int .i64 0] 3)).cell (i := 1) rfl
        have I9 := Lib.hid (HP.out.2.2.ext (Q.out.1.trans x9))
        go_wp2_with (go_at_call 129; refine (callsIn_wide.1 (backB_in Fence.wide 2 trivial rfl _ _ _ _)).mono ?_; rintro e w' ⟨rfl, rfl⟩)
        obtain ⟨WL, hWL⟩ : ∃ WL, (wc.alloc (.cells #[.int .i64 0] 3)).alloc (.cells #[.slice a na ca] 67) = WL := ⟨_, rfl⟩
        have l5 : Row WL wc.heap.size 3 [.int .i64 0] := by rw [← hWL]; exact (Row.new wc _ [_]).alloc _
        have l6 : Row WL (wc.heap.size + 1) 67 [.slice a na ca] := by
          rw [← hWL]
          have := Row.new (wc.alloc (.cells #[.int .i64 0] 3)) 67 [.slice a na ca]
          rwa [World.size_alloc] at this
        have xL : Ext wc WL := by rw [← hWL]; exact (Ext.new _ _).alloc _
        have hsL : WL.heap.size = wc.heap.size + 1 + 1 := by rw [← hWL]; simp
        rw [hWL]
        clear hWL k1
        obtain ⟨l, hl⟩ : ∃ l, l = dg BB z.natAbs := ⟨_, rfl⟩
        have hna : l.length = na := by rw [hl]; exact HNA.out
        subst hna
        have I8 : Rd wc a (ks .u32 l) := by rw [hl]; exact I9.out
        have QB := q0
        have HL := Lib.hid hl
        clear hl
        have l6c := l6.cell (i := 0) rfl
        refine (wpIn_wide (n := 3)).1 ?_
        refine wpIn_rangeFunc_ownG (n := 3) rfl (by omega) (gf := 175) (lb := #[.pointer (some ⟨wc.heap.size + 1, 0, none⟩)]) rfl trivial (enters_of Try.func175 (by kernel_rfl) rfl)
          (backB_stops Fence.wide 2 trivial rfl (by omega) (wc.heap.size + 1) ca a l (by omega) wc WL I8 xL (by omega) l6c) kpB_t (kpB_b (by omega) (by omega)) (Below.refl _ _) (fun _ => rfl)
          (fun pre W => (∃ v : Int, Row W wc.heap.size 3 [.int .i64 v] ∧ (pre = down l.length pre.length → pre.length ≤ l.length → v = (z.natAbs / BB ^ (l.length - pre.length) : Nat))) ∧ Below wc.heap.size wc W)
          (fun _ _ _ => False)
          (OwnFrom.and (Own.from (fun s A B row hs hg hr => by obtain ⟨v, h1, h2⟩ := hs; exact ⟨v, h1.iter hg hr, h2⟩) _) (ownFrom_below (Nat.le_refl _) (by omega)))
          (fun _ _ _ _ _ hs _ _ => hs)
          ⟨⟨0, l5, fun _ _ => by rw [List.length_nil, Nat.sub_zero, Nat.div_eq_of_lt (by rw [HL.out]; exact lt_pow_len BB_gt _)]; rfl⟩, xL⟩
          (fun i => { tmps := #[.agg #[.bool s, .slice a l.length ca], .pointer (some ⟨w.heap.size, 0, none⟩), .int .i64 0, .bool false, .pointer (some ⟨w1.heap.size, 0, none⟩), .pointer (some ⟨wc.heap.size, 0, none⟩), undef, .int .u32 (l[i.1] : Int), .agg #[.bool se, .slice a1 ne c1], u9, u10, u11, u12, u13, u14, u15, u16, u17, u18, .bool false, .pointer (some ⟨w.heap.size, 1, none⟩), .slice a l.length ca, .func (.func 175) #[] #[.pointer (some ⟨wc.heap.size + 1, 0, none⟩)], .int .i64 (i.1 : Int), .int .u32 (l[i.1] : Int), undef, undef, undef, undef, undef, undef, undef, undef, undef, undef], defers := [] }) ?assign ?body ?done ?stop
        case assign =>
          intro lp x W K hK
          dsimp only [bkEnc]
          gi_wp2
          exact hK
        case body =>
          rintro lp pre ⟨k, hk⟩ W ⟨⟨v, i0, i1⟩, hB⟩ hlen
          have hxk : Hid (l[k] = z.natAbs / BB ^ k % BB) := by
            show _ = _
            have := HL.out; subst this; exact dg_at BB_gt hk
          have hx : l[k] < 1000000000 := by rw [hxk.out]; exact Nat.mod_lt _ (by decide)
          have c5 := i0.cell (i := 0) rfl
          have f5 := i0.frozen 0
          have J := Lib.hid (And.intro i0 (And.intro i1 hB))
          clear i0 i1 hB
          generalize l[k] = x at *
          gi_wp2_with fail
          obtain ⟨i0, i1, hB⟩ := J.out
          refine ⟨(KeepsOthers.setCell _ _ _).from _, (KpB.refl _ _ _).set (p := ⟨wc.heap.size, 0, none⟩) (Nat.le_refl _) (by simp) _, ⟨_, i0.set 0 _, ?_⟩, hB.setCell (p := ⟨wc.heap.size, 0, none⟩) (Nat.le_refl _) _⟩
          exact fold_step i1 hxk.out HSM.out
        case done =>
          rintro D ys W hD rfl ⟨⟨v, i0, i1⟩, hB⟩ hK
          have hv := i1 (by rw [down_len _ _ (Nat.le_refl _)]) (by rw [down_len _ _ (Nat.le_refl _)]; exact Nat.le_refl _)
          rw [down_len _ _ (Nat.le_refl _), Nat.sub_self, Nat.pow_zero, Nat.div_one] at hv
          subst hv
          have QW := Lib.hid (QB.ext (w' := W) (hB.mono (by have := QB.lt; omega)))
          clear i1
          have c5 := i0.cell (i := 0) rfl
          have f5 := i0.frozen 0
          have c1 := QW.out.cell (i := 0) rfl
          have HB := Lib.hid hB
          have HI := Lib.hid i0
          have HK := Lib.hid hK
          clear hB i0 hK
          cases s
          · have hz := HZ2.out rfl
            simp only [Exit.inBlock, Exit.then]
            go_wp2_with fail
            refine ⟨by simp, .inl ⟨_, _, rfl, run_takeDeferred HK.out, ?_⟩⟩
            refine ⟨.tuple #[.int .i64 z, .bool true], by simp [results, Try.f65, go_sem], rfl, ?_⟩
            exact X9.out.trans (Below.trans HB.out (belowK_b (w := wc) (Nat.le_refl _) _ D _ _ (by omega) HK.out rfl rfl))
          · have hz := HZ.out rfl
            have HWZ : Hid (wrap64 z = z) := by have := HSM.out; show wrap64 z = z; unfold wrap64; omega
            simp only [Exit.inBlock, Exit.then]
            go_wp2_with fail
            rw [HWZ.out]
            have hK' := (KeepsOthers.setCell W ⟨wc.heap.size, 0, none⟩ (.int .i64 z)).same D _ HK.out rfl
            refine ⟨by simp, .inl ⟨_, _, rfl, run_takeDeferred hK', ?_⟩⟩
            refine ⟨.tuple #[.int .i64 z, .bool true], by simp [results, Try.f65, go_sem], rfl, ?_⟩
            exact X9.out.trans (Below.trans (HB.out.setCell (p := ⟨wc.heap.size, 0, none⟩) (Nat.le_refl _) _) (belowK_b (w := wc) (Nat.le_refl _) _ D _ _ (by omega) hK' rfl rfl))
        case stop =>
          rintro D c pre W _ _ h _
          exact h.elim
end Go.Proofs.Ytogodjiemgilaaa

/- The references Right and Same of integers; Odd. -/
namespace Go.Proofs.Ytogodjiemgilaaa
open Go.RowKit

/-- may digits with a sign be an integer? -/
def rightB (s : Bool) (l : List Nat) : Bool := l.all (fun d => decide (d < 1000000000)) && (if l.length = 0 then !s else decide (l[l.length - 1]?.getD 0 ≠ 0))

theorem ret_bool {a b : Bool} (h : a = b) : Ending.returned (Value.bool a) = .returned (.bool b) := by rw [h]

set_option maxRecDepth 100000 in
set_option maxHeartbeats 1000000 in
theorem rright_walk (s : Bool) (l : List Nat) (a : Option Addr) (c : Nat) (w : World) (hl : l.length ≤ 9223372036854775807) (h32 : ∀ d ∈ l, d < 4294967296) (h : Rd w a (ks .u32 l)) :
    Calls Try.prog 70 #[.agg #[.bool s, .slice a l.length c]] w fun e w' => e = .returned (.bool (rightB s l)) ∧ Ext w w' := by
  have HR := Lib.hid h
  have H32 := Lib.hid h32
  have H1 : Hid (∀ i, i < l.length → 999999999 < l[i]?.getD 0 → rightB s l = false) := by
    intro i hi hx
    unfold rightB
    rw [List.all_eq_false.2 ⟨l[i], List.getElem_mem hi, by rw [List.getElem?_eq_getElem hi] at hx; simp at hx ⊢; omega⟩]
    rfl
  have H2 : Hid ((∀ i, i < l.length → l[i]?.getD 0 < 1000000000) → rightB s l = (if l.length = 0 then !s else decide (l[l.length - 1]?.getD 0 ≠ 0))) := by
    intro hx
    unfold rightB
    rw [List.all_eq_true.2 (fun d hd => by
      obtain ⟨i, hi, rfl⟩ := List.getElem_of_mem hd
      have := hx i hi
      rw [List.getElem?_eq_getElem hi] at this
      simpa using this)]
    rfl
  generalize rightB s l = r at *
  clear h h32
  go_enter Try.func70, Try.ntmps70
  go_wp2_with fail
  obtain ⟨W0, hW0⟩ : ∃ W0, w.alloc (.cells #[.bool s, .slice a l.length c] 69) = W0 := ⟨_, rfl⟩
  have q0 : Row W0 w.heap.size 69 [.bool s, .slice a l.length c] := by rw [← hW0]; exact Row.new w _ [_, _]
  have x0 : Ext w W0 := by rw [← hW0]; exact Ext.new _ _
  rw [hW0]
  clear hW0
  have k0 := q0.cell (i := 0) rfl
  have k1 := q0.cell (i := 1) rfl
  go_loopw [3] (fun iv wr => ∃ i : Nat, i ≤ l.length ∧ iv = .int .i64 i ∧ W0 = wr ∧ Hid (∀ j, j < i → l[j]?.getD 0 < 1000000000)) (fun iv _ => l.length - (intOf iv).toNat)
  case atStart => exact ⟨0, by omega, rfl, rfl, fun j h => absurd h (Nat.not_lt_zero j)⟩
  case round =>
    obtain ⟨i, hi, rfl, rfl, HP⟩ := hrel
    by_cases hlt : i < l.length
    · obtain ⟨b0, ob, rfl, hcb⟩ := (HR.out.ext x0).num (i := i) hlt
      have hg : Hid (l[i]?.getD 0 = l[i]) := by show _ = _; rw [List.getElem?_eq_getElem hlt]; rfl
      have hx32 : l[i] < 4294967296 := H32.out _ (List.getElem_mem hlt)
      generalize l[i] = x at *
      by_cases hx : 999999999 < x
      · have HF := Lib.hid (H1.out i hlt (by rw [hg.out]; exact hx))
        go_wp2_with fail
        go_ret
        exact ⟨ret_bool HF.out.symm, x0⟩
      · go_wp2_with fail
        go_roundw
        case rel =>
          refine ⟨i + 1, by omega, by go_num, by first | trivial | rfl, ?_⟩
          intro j hj
          by_cases hji : j = i
          · subst hji; rw [hg.out]; omega
          · exact HP.out j (by omega)
        case measure => simp [intOf]; omega
    · have hil : i = l.length := by omega
      have HF := Lib.hid (H2.out (fun j hj => HP.out j (by omega)))
      by_cases h0 : l.length = 0
      · rw [if_pos h0] at HF
        generalize l.length = nl at *
        go_wp2_with fail
        go_ret
        exact ⟨ret_bool HF.out.symm, x0⟩
      · rw [if_neg h0] at HF
        have hlt2 : l.length - 1 < l.length := by omega
        obtain ⟨b0, ob, rfl, hcb⟩ := (HR.out.ext x0).num (i := l.length - 1) hlt2
        have hg : Hid (l[l.length - 1]?.getD 0 = l[l.length - 1]) := by show _ = _; rw [List.getElem?_eq_getElem hlt2]; rfl
        have hcast : ((l.length : Int) - 1) = ((l.length - 1 : Nat) : Int) := by omega
        rw [hg.out] at HF
        generalize l[l.length - 1] = x at *
        go_wp2_with fail
        go_ret
        exact ⟨ret_bool (by rw [HF.out, Bool.eq_iff_iff]; simp), x0⟩

set_option maxRecDepth 100000 in
set_option maxHeartbeats 1000000 in
theorem rsame_walk (s1 s2 : Bool) (l m : List Nat) (a b : Option Addr) (ca cb : Nat) (w : World) (hl : l.length ≤ 9223372036854775807) (_hm : m.length ≤ 9223372036854775807) (h1 : Rd w a (ks .u32 l)) (h2 : Rd w b (ks .u32 m)) :
    Calls Try.prog 51 #[.agg #[.bool s1, .slice a l.length ca], .agg #[.bool s2, .slice b m.length cb]] w fun e w' => e = .returned (.bool (decide (s1 = s2 ∧ l = m))) ∧ Ext w w' := by
  have HR1 := Lib.hid h1
  have HR2 := Lib.hid h2
  clear h1 h2
  by_cases hs : s1 = s2
  case neg =>
    have HF : Hid (decide (s1 = s2 ∧ l = m) = false) := decide_eq_false (fun h => hs h.1)
    generalize decide (s1 = s2 ∧ l = m) = r at *
    cases s1 <;> cases s2
    case false.false => exact absurd rfl hs
    case true.true => exact absurd rfl hs
    all_goals
      clear hs
      go_enter Try.func51, Try.ntmps51
      go_wp2_with fail
      go_ret
      exact ⟨ret_bool HF.out.symm, (Ext.new _ _).alloc _⟩
  case pos =>
    subst hs
    by_cases hn : l.length = m.length
    case neg =>
      have HF : Hid (decide (s1 = s1 ∧ l = m) = false) := decide_eq_false (fun h => hn (by rw [h.2]))
      generalize decide (s1 = s1 ∧ l = m) = r at *
      generalize l.length = nl at *
      generalize m.length = nm at *
      have hn' : ((nl : Int) != (nm : Int)) = true := by simp; omega
      go_enter Try.func51, Try.ntmps51
      go_wp2_with fail
      go_ret
      exact ⟨ret_bool HF.out.symm, (Ext.new _ _).alloc _⟩
    case pos =>
      have H1 : Hid (∀ i, i < l.length → l[i]?.getD 0 ≠ m[i]?.getD 0 → decide (s1 = s1 ∧ l = m) = false) := fun i hi hx => decide_eq_false (fun h => hx (by rw [h.2]))
      have H2 : Hid ((∀ i, i < l.length → l[i]?.getD 0 = m[i]?.getD 0) → decide (s1 = s1 ∧ l = m) = true) := fun hx => decide_eq_true ⟨rfl, List.ext_getElem hn (fun i h1 h2 => by
        have := hx i h1
        rwa [List.getElem?_eq_getElem h1, List.getElem?_eq_getElem h2] at this)⟩
      generalize decide (s1 = s1 ∧ l = m) = r at *
      have HN := Lib.hid hn
      rw [← hn] at _hm ⊢
      clear hn
      go_enter Try.func51, Try.ntmps51
      go_wp2_with fail
      obtain ⟨W0, hW0⟩ : ∃ W0, (w.alloc (.cells #[.bool s1, .slice a l.length ca] 69)).alloc (.cells #[.bool s1, .slice b l.length cb] 69) = W0 := ⟨_, rfl⟩
      have q0 : Row W0 w.heap.size 69 [.bool s1, .slice a l.length ca] := by rw [← hW0]; exact (Row.new w _ [_, _]).alloc _
      have q1 : Row W0 (w.heap.size + 1) 69 [.bool s1, .slice b l.length cb] := by
        rw [← hW0]
        have := Row.new (w.alloc (.cells #[.bool s1, .slice a l.length ca] 69)) 69 [.bool s1, .slice b l.length cb]
        rwa [World.size_alloc] at this
      have x0 : Ext w W0 := by rw [← hW0]; exact (Ext.new _ _).alloc _
      rw [hW0]
      clear hW0
      go_loopw [5] (fun iv wr => ∃ i : Nat, i ≤ l.length ∧ iv = .int .i64 i ∧ Ext W0 wr ∧ Hid (∀ j, j < i → l[j]?.getD 0 = m[j]?.getD 0)) (fun iv _ => l.length - (intOf iv).toNat)
      case atStart => exact ⟨0, by omega, rfl, Ext.refl _, fun j h => absurd h (Nat.not_lt_zero j)⟩
      case round =>
        obtain ⟨i, hi, rfl, hext, HP⟩ := hrel
        have k0 := (q0.ext hext).cell (i := 0) rfl
        have k1 := (q0.ext hext).cell (i := 1) rfl
        have k2 := (q1.ext hext).cell (i := 0) rfl
        have k3 := (q1.ext hext).cell (i := 1) rfl
        by_cases hlt : i < l.length
        · have hlt2 : i < m.length := by rw [← HN.out]; exact hlt
          obtain ⟨b0, ob, rfl, hcb⟩ := (HR1.out.ext (x0.trans hext)).num (i := i) hlt
          obtain ⟨b1, ob1, rfl, hcb1⟩ := (HR2.out.ext (x0.trans hext)).num (i := i) hlt2
          have hg : Hid (l[i]?.getD 0 = l[i]) := by show _ = _; rw [List.getElem?_eq_getElem hlt]; rfl
          have hg2 : Hid (m[i]?.getD 0 = m[i]) := by show _ = _; rw [List.getElem?_eq_getElem hlt2]; rfl
          generalize l[i] = x at *
          generalize m[i] = y at *
          by_cases hxy : x = y
          · subst hxy
            go_wp2_with fail
            go_quiet (fail)
            go_wp2_with fail
            go_roundw
            case rel =>
              refine ⟨i + 1, by omega, by go_num, hext.drewN _, ?_⟩
              intro j hj
              by_cases hji : j = i
              · subst hji; rw [hg.out, hg2.out]
              · exact HP.out j (by omega)
            case measure => simp [intOf]; omega
          · have hxy' : ((x : Int) != (y : Int)) = true := by simp; omega
            have HF := Lib.hid (H1.out i hlt (by rw [hg.out, hg2.out]; exact hxy))
            clear hxy
            go_wp2_with fail
            go_quiet (fail)
            go_wp2_with fail
            go_ret
            exact ⟨ret_bool HF.out.symm, x0.trans (hext.drewN _)⟩
        · have HF := Lib.hid (H2.out (fun j hj => HP.out j (by omega)))
          go_wp2_with fail
          go_ret
          exact ⟨ret_bool HF.out.symm, x0.trans hext⟩
end Go.Proofs.Ytogodjiemgilaaa

/- Odd: integers that are more than are looked at, or not right. -/
namespace Go.Proofs.Ytogodjiemgilaaa
open Go.RowKit

/-- an integer as it was handed in -/
structure AInt where
  s : Bool
  a : Option Addr
  l : List Nat
  c : Nat
def AInt.v (x : AInt) : Value := .agg #[.bool x.s, .slice x.a x.l.length x.c]
/-- what it reads as -/
def AInt.ok (w : World) (x : AInt) : Prop := x.l.length ≤ x.c ∧ x.c ≤ maxLen ∧ (∀ d ∈ x.l, d < 4294967296) ∧ Rd w x.a (ks .u32 x.l)
theorem AInt.ok.ext {w w' : World} {x : AInt} (h : x.ok w) (e : Ext w w') : x.ok w' := ⟨h.1, h.2.1, h.2.2.1, h.2.2.2.ext e⟩
def AInt.odd (x : AInt) : Bool := decide (10 < x.l.length) || !rightB x.s x.l
def flatA : List AInt → List Value
  | [] => []
  | x :: r => .bool x.s :: .slice x.a x.l.length x.c :: flatA r
theorem flatA_len : ∀ xs : List AInt, (flatA xs).length = 2 * xs.length
  | [] => rfl
  | x :: r => by simp only [flatA, List.length_cons, flatA_len r]; omega
theorem flatA_get0 : ∀ (xs : List AInt) (i : Nat) (h : i < xs.length), (flatA xs)[2 * i]? = some (.bool xs[i].s)
  | [], i, h => absurd h (Nat.not_lt_zero i)
  | x :: r, 0, _ => rfl
  | x :: r, i + 1, h => by rw [show 2 * (i + 1) = 2 * i + 1 + 1 by omega]; exact flatA_get0 r i (Nat.lt_of_succ_lt_succ h)
theorem flatA_get1 : ∀ (xs : List AInt) (i : Nat) (h : i < xs.length), (flatA xs)[2 * i + 1]? = some (.slice xs[i].a xs[i].l.length xs[i].c)
  | [], i, h => absurd h (Nat.not_lt_zero i)
  | x :: r, 0, _ => rfl
  | x :: r, i + 1, h => by rw [show 2 * (i + 1) + 1 = 2 * i + 1 + 1 + 1 by omega]; exact flatA_get1 r i (Nat.lt_of_succ_lt_succ h)

set_option maxRecDepth 100000 in
set_option maxHeartbeats 2000000 in
theorem odd1_walk (xs : List AInt) (b off c : Nat) (w : World) (hn : xs.length ≤ 1000) (hr : ∀ j u, (flatA xs)[j]? = some u → w.cell? ⟨b, off + j, none⟩ = some u) (hok : ∀ x ∈ xs, x.ok w) :
    Calls Try.prog 47 #[.slice (some ⟨b, off, none⟩) xs.length c] w fun e w' => e = .returned (.bool (xs.any AInt.odd)) ∧ Ext w w' := by
  have HR := Lib.hid hr
  have HK := Lib.hid hok
  have H1 : Hid (∀ i (h : i < xs.length), xs[i].odd = true → xs.any AInt.odd = true) := fun i h ho => List.any_eq_true.2 ⟨xs[i], List.getElem_mem h, ho⟩
  have H2 : Hid ((∀ i (h : i < xs.length), xs[i].odd = false) → xs.any AInt.odd = false) := fun h => by
    rw [List.any_eq_false]
    intro x hx
    obtain ⟨i, hi, rfl⟩ := List.getElem_of_mem hx
    rw [h i hi]; simp
  generalize xs.any AInt.odd = r at *
  clear hr hok
  go_enter Try.func47, Try.ntmps47
  go_wp2_with fail
  go_loopw [7] (fun iv wr => ∃ i : Nat, i ≤ xs.length ∧ iv = .int .i64 i ∧ Ext w wr ∧ Hid (∀ j (h : j < xs.length), j < i → xs[j].odd = false)) (fun iv _ => xs.length - (intOf iv).toNat)
  case atStart => exact ⟨0, by omega, rfl, Ext.refl _, fun j _ h => absurd h (Nat.not_lt_zero j)⟩
  case round =>
    obtain ⟨i, hi, rfl, hext, HP⟩ := hrel
    by_cases hlt : i < xs.length
    · have e0 := hext.cell (HR.out _ _ (flatA_get0 xs i hlt))
      have e1 := hext.cell (HR.out _ _ (flatA_get1 xs i hlt))
      rw [Nat.mul_comm] at e0 e1
      rw [← Nat.add_assoc] at e1
      have ok := (HK.out xs[i] (List.getElem_mem hlt)).ext hext
      have hx1 := H1.out i hlt
      have hx2 : Hid (∀ wq, wq = xs[i] → xs[i].odd = wq.odd) := fun wq h => by rw [h]
      generalize hxi : xs[i] = x at *
      have HXI := Lib.hid hxi
      clear hxi hx2
      obtain ⟨s, a, l, ca⟩ := x
      obtain ⟨o1, o2, o3, o4⟩ := ok
      simp only at o1 o2 o3 o4 e0 e1
      have hodd : (AInt.mk s a l ca).odd = (decide (10 < l.length) || !rightB s l) := rfl
      have HW := Lib.hid (fun W (h : Rd W a (ks .u32 l)) => rright_walk s l a ca W (by unfold maxLen at o2; omega) o3 h)
      have HX1 := Lib.hid hx1
      have HOD := Lib.hid hodd
      clear hx1 hodd
      by_cases h10 : 10 < l.length
      · have HF : Hid (r = true) := HX1.out (by rw [HOD.out, decide_eq_true h10]; rfl)
        generalize l.length = n at *
        go_wp2_with fail
        go_ret
        exact ⟨ret_bool HF.out.symm, hext.trans (Ext.new _ _)⟩
      · cases hrt : rightB s l
        · have HF : Hid (r = true) := HX1.out (by rw [HOD.out, hrt]; simp)
          rw [hrt] at HW
          go_wp2_with (go_at_call 70; refine (HW.out _ (o4.alloc _)).mono ?_; rintro e w1 ⟨rfl, g1⟩)
          go_ret
          exact ⟨ret_bool HF.out.symm, (hext.trans (Ext.new _ _)).trans g1⟩
        · have HG : Hid ((AInt.mk s a l ca).odd = false) := by show _ = _; rw [HOD.out, hrt, decide_eq_false h10]; rfl
          rw [hrt] at HW
          go_wp2_with (go_at_call 70; refine (HW.out _ (o4.alloc _)).mono ?_; rintro e w1 ⟨rfl, g1⟩)
          go_roundw
          case rel =>
            refine ⟨i + 1, by omega, by go_num, (hext.trans (Ext.new _ _)).trans g1, ?_⟩
            intro j hjl hj
            by_cases hji : j = i
            · subst hji; rw [HXI.out]; exact HG.out
            · exact HP.out j hjl (by omega)
          case measure => simp [intOf]; omega
    · have HF := Lib.hid (H2.out (fun j hj => HP.out j hj (by omega)))
      go_wp2_with fail
      go_ret
      exact ⟨ret_bool HF.out.symm, hext⟩
end Go.Proofs.Ytogodjiemgilaaa

/- What the laws of layer 1 share. -/
namespace Go.Proofs.Ytogodjiemgilaaa
open Go.RowKit

theorem right_int {s : Bool} {l : List Nat} (h : rightB s l = true) : ∃ z : Int, s = decide (z < 0) ∧ l = dg BB z.natAbs := by
  unfold rightB at h
  rw [Bool.and_eq_true] at h
  obtain ⟨h1, h2⟩ := h
  have hall : ∀ d ∈ l, d < BB := fun d hd => by have := List.all_eq_true.1 h1 d hd; simpa [BB] using this
  by_cases h0 : l.length = 0
  · rw [if_pos h0] at h2
    have : s = false := by simpa using h2
    subst this
    refine ⟨0, rfl, ?_⟩
    rw [List.length_eq_zero_iff.1 h0]; rfl
  · rw [if_neg h0] at h2
    have hl : l ≠ [] := fun e => h0 (by rw [e]; rfl)
    have hlast : ∀ h : l ≠ [], l.getLast h ≠ 0 := by
      intro h
      rw [List.getLast_eq_getElem]
      have := of_decide_eq_true h2
      rw [List.getElem?_eq_getElem (by omega)] at this
      exact this
    have hv := dg_val BB_gt l hall hlast
    have hpos : val BB l ≠ 0 := fun e => by rw [e] at hv; exact hl hv.symm
    refine ⟨sz s (val BB l), ?_, by rw [sz_abs, hv]⟩
    rw [sz_neg]
    have : decide (0 < val BB l) = true := decide_eq_true (by omega)
    rw [this, Bool.and_true]

theorem int_right (z : Int) : rightB (decide (z < 0)) (dg BB z.natAbs) = true := by
  unfold rightB
  rw [Bool.and_eq_true]
  refine ⟨List.all_eq_true.2 fun d hd => decide_eq_true (dg_lt BB_gt hd), ?_⟩
  by_cases h0 : (dg BB z.natAbs).length = 0
  · rw [if_pos h0]
    have := (dg_len0 BB_gt _).1 h0
    have : ¬ z < 0 := by omega
    simp [this]
  · rw [if_neg h0]
    refine decide_eq_true ?_
    have hk : (dg BB z.natAbs).length - 1 < (dg BB z.natAbs).length := by omega
    rw [List.getElem?_eq_getElem hk, Option.getD_some, dg_at BB_gt hk]
    have h1 := (dg_len_lt BB_gt _ _).1 hk
    have h2 := lt_pow_len BB_gt z.natAbs
    have e : (dg BB z.natAbs).length = (dg BB z.natAbs).length - 1 + 1 := by omega
    rw [e, Nat.pow_succ] at h2
    generalize (dg BB z.natAbs).length - 1 = k at *
    have h3 : 0 < z.natAbs / BB ^ k := Nat.div_pos h1 (Nat.pow_pos (by decide))
    have h4 : z.natAbs / BB ^ k < BB := by rw [Nat.div_lt_iff_lt_mul (Nat.pow_pos (by decide)), Nat.mul_comm]; exact h2
    rw [Nat.mod_eq_of_lt h4]
    omega

theorem len_add (x y : Int) : (dg BB (x + y).natAbs).length ≤ (dg BB x.natAbs).length + (dg BB y.natAbs).length + 1 :=
  Nat.le_trans (dg_len_mono BB_gt (by omega)) (dg_len_add BB_gt _ _)
theorem len_mul (x y : Int) : (dg BB (x * y).natAbs).length ≤ (dg BB x.natAbs).length + (dg BB y.natAbs).length := by
  rw [Int.natAbs_mul]; exact dg_len_mul BB_gt _ _
theorem len_neg (x : Int) : (dg BB (-x).natAbs).length = (dg BB x.natAbs).length := by rw [Int.natAbs_neg]

theorem GotInt.isInt {W : World} {z : Int} {e : Ending} {w' : World} (h : GotInt W z e w') : ∃ a c, e = .returned (.agg #[.bool (decide (z < 0)), .slice a (dg BB z.natAbs).length c]) ∧ IsInt w' z a c ∧ Ext W w' := by
  obtain ⟨a, c, h1, h2, h3, h4, h5, h6⟩ := h
  exact ⟨a, c, h1, ⟨h2, h3, h4⟩, h5⟩

set_option maxRecDepth 100000 in
set_option maxHeartbeats 2000000 in
theorem speaks1_walk (w : World) : Calls Try.prog 46 #[] w fun e w' => e = .returned (.bool true) ∧ Ext w w' := by
  have HO1 := fun W => (ofi_walk (-7) W (by decide) (by decide)).mono fun e w' h => GotInt.isInt h
  have HO2 := fun W => (ofi_walk 2 W (by decide) (by decide)).mono fun e w' h => GotInt.isInt h
  have HD := fun W a ca b cb (h1 : IsInt W (-7) a ca) (h2 : IsInt W 2 b cb) => divz_walk (-7) 2 a b ca cb W (by decide) (by decide) h1 h2
  have HT1 := fun W a ca (h1 : IsInt W (-4) a ca) => textz_walk (-4) a ca W (by decide) h1
  have HT2 := fun W a ca (h1 : IsInt W 1 a ca) => textz_walk 1 a ca W (by decide) h1
  have e1 : txt (-4) = ⟨#[45, 52]⟩ := by rfl
  have e2 : txt 1 = ⟨#[49]⟩ := by rfl
  have e3 : divZ (-7) 2 = -4 := by decide
  have e4 : modZ (-7) 2 = 1 := by decide
  rw [e1] at HT1
  rw [e2] at HT2
  rw [e3, e4] at HD
  unfold GotDiv at HD
  clear e1 e2 e3 e4
  revert HO1 HO2 HD HT1 HT2
  generalize decide ((-7 : Int) < 0) = s7
  generalize (dg BB (-7 : Int).natAbs).length = l7
  generalize decide ((2 : Int) < 0) = s2
  generalize (dg BB (2 : Int).natAbs).length = l2
  generalize decide ((-4 : Int) < 0) = s4
  generalize (dg BB (-4 : Int).natAbs).length = l4
  generalize decide ((1 : Int) < 0) = s1
  generalize (dg BB (1 : Int).natAbs).length = l1
  intro HO1 HO2 HD HT1 HT2
  have HO1 := Lib.hid HO1
  have HO2 := Lib.hid HO2
  have HD := Lib.hid HD
  have HT1 := Lib.hid HT1
  have HT2 := Lib.hid HT2
  go_enter Try.func46, Try.ntmps46
  go_wp2_with fail
  refine (HO1.out _).mono ?_
  rintro e w1 ⟨a1, c1, rfl, i1, x1⟩
  go_wp2_with fail
  refine (HO2.out _).mono ?_
  rintro e w2 ⟨a2, c2, rfl, i2, x2⟩
  go_wp2_with fail
  refine (HD.out _ _ _ _ _ (i1.ext x2) i2).mono ?_
  rintro e w3 ⟨a3, c3, a4, c4, rfl, i3, i4, x3, _, _⟩
  go_wp2_with fail
  have i3' : IsInt ((w3.alloc (.cells #[.bool s4, .slice a3 l4 c3] 69)).alloc (.cells #[.bool s1, .slice a4 l1 c4] 69)) (-4) a3 c3 := i3.ext ((Ext.new _ _).alloc _)
  have i4' : IsInt ((w3.alloc (.cells #[.bool s4, .slice a3 l4 c3] 69)).alloc (.cells #[.bool s1, .slice a4 l1 c4] 69)) 1 a4 c4 := i4.ext ((Ext.new _ _).alloc _)
  refine (HT1.out _ _ _ i3').mono ?_
  rintro e w4 ⟨rfl, x4⟩
  have r4 : Row w4 (w3.heap.size + 1) 69 [.bool s1, .slice a4 l1 c4] := by
    have := Row.new (w3.alloc (.cells #[.bool s4, .slice a3 l4 c3] 69)) 69 [.bool s1, .slice a4 l1 c4]
    rw [World.size_alloc] at this
    exact this.ext x4
  have k0 := r4.cell (i := 0) rfl
  have k1 := r4.cell (i := 1) rfl
  go_wp2_with fail
  refine (HT2.out _ _ _ (i4'.ext x4)).mono ?_
  rintro e w5 ⟨rfl, x5⟩
  go_wp2_with fail
  go_ret
  exact ⟨rfl, ((((x1.trans x2).trans x3).trans ((Ext.new _ _).alloc _)).trans x4).trans x5⟩
end Go.Proofs.Ytogodjiemgilaaa

/- The reference's decimal digits: cut, make1, add, sub. -/
namespace Go.Proofs.Ytogodjiemgilaaa
open Go.RowKit

theorem elemI64 : Elem Try.prog 35 3 (.int .i64 0) 1 8 := Elem.mk Try.underlying35 (by kernel_rfl) rfl (by decide)
theorem fdig10 (n i : Nat) (h : i < (dg 10 n).length) : (dg 10 n)[i] = n / 10 ^ i % 10 := dg_at ten_gt h
/-- a row of no element -/
theorem own_empty (w : World) (base : Nat) (hb : base ≤ w.heap.size) : (w.alloc (.cells #[] 3)).ownsRow base 3 1 (.slice (some ⟨w.heap.size, 0, none⟩) 0 0) 0 [] :=
  ⟨rfl, .inr ⟨w.heap.size, 0, #[], rfl, hb, heap_alloc_new w _, Nat.le_refl _, by simp [maxLen], rfl, rfl⟩⟩

set_option maxRecDepth 100000 in
set_option maxHeartbeats 400000 in
theorem rcut_walk (a : Option Addr) (cap : Nat) (l : List Nat) (ln : Nat) (w : World) (hln : l.length = ln) (hc : ln ≤ cap) (hm : cap ≤ maxLen) (hr : Rd w a (ks .i64 l)) :
    Calls Try.prog 122 #[.slice a ln cap] w fun e w' => e = .returned (.slice a (stripN l l.length) cap) ∧ w = w' := by
  subst hln
  unfold maxLen at hm
  go_enter Try.func122, Try.ntmps122
  go_wp2
  go_loop [3] (fun i => ∃ k : Nat, k ≤ l.length ∧ i = .int .i64 k ∧ stripN l l.length = stripN l k) (fun i => (intOf i).toNat)
  case atStart => exact ⟨l.length, Nat.le_refl _, rfl, rfl⟩
  case round =>
    obtain ⟨k, hk, rfl, hs⟩ := hrel
    have HS := Lib.hid hs
    clear hs
    cases k with
    | zero =>
      go_wp2
      go_ret
      exact ⟨ret_slice HS.out.symm rfl, rfl⟩
    | succ k =>
      obtain ⟨b, off, rfl, hcell⟩ := hr.num (i := k) (by omega)
      have HK : Hid (stripN l (k + 1) = if l[k] = 0 then stripN l k else k + 1) := by
        show stripN l (k + 1) = _
        conv => lhs; unfold stripN
        rw [List.getElem?_eq_getElem (by omega)]; rfl
      by_cases hz : l[k] = 0
      · rw [hz] at hcell
        rw [if_pos hz] at HK
        go_wp2
        go_round
        case rel => exact ⟨k, by omega, by go_num, by rw [HS.out, HK.out]⟩
        case measure => simp [intOf]
      · have hz' : (((l[k] : Nat) : Int) == 0) = false := by simp; omega
        rw [if_neg hz] at HK
        go_wp2
        go_ret
        exact ⟨ret_slice (by rw [HS.out, HK.out]) rfl, rfl⟩

/-- a number of the reference's as an argument -/
def IsNum (w : World) (z : Int) (a : Option Addr) (c : Nat) : Prop := (dg 10 z.natAbs).length ≤ c ∧ c ≤ maxLen ∧ Rd w a (ks .i64 (dg 10 z.natAbs))
theorem IsNum.ext {w w' : World} {z : Int} {a : Option Addr} {c : Nat} (h : IsNum w z a c) (x : Ext w w') : IsNum w' z a c := ⟨h.1, h.2.1, h.2.2.ext x⟩
/-- a number of the reference's as a result -/
def GotNum (z : Int) (W : World) (e : Ending) (w' : World) : Prop := ∃ a c, e = .returned (.agg #[.bool (decide (z < 0)), .slice a (dg 10 z.natAbs).length c]) ∧ IsNum w' z a c ∧ Ext W w'

set_option maxRecDepth 100000 in
set_option maxHeartbeats 400000 in
theorem rmake1_walk (s : Bool) (a : Option Addr) (cap : Nat) (l : List Nat) (ln : Nat) (w : World) (hd : ∀ d ∈ l, d < 10) (hln : l.length = ln) (hc : ln ≤ cap) (hm : cap ≤ maxLen) (hr : Rd w a (ks .i64 l)) :
    Calls Try.prog 117 #[.bool s, .slice a ln cap] w fun e w' => e = .returned (.agg #[.bool (decide (sz s (val 10 l) < 0)), .slice a (dg 10 (val 10 l)).length cap]) ∧ Ext w w' := by
  have HC := Lib.hid (fun W (h : Rd W a (ks .i64 l)) => rcut_walk a cap l ln W hln hc hm h)
  have hst := strip_dg ten_gt l hd
  have hk : stripN l l.length = (dg 10 (val 10 l)).length := by rw [← strip_len, hst]
  rw [hk] at HC
  generalize val 10 l = n at *
  have hsg := sz_neg s n
  have hlen := dg_len0 ten_gt n
  have hpos : decide (0 < n) = decide ((0 : Int) < ((dg 10 n).length : Nat)) := by rw [Bool.eq_iff_iff]; simp only [decide_eq_true_eq]; omega
  rw [hpos] at hsg
  rw [hsg]
  have HR := Lib.hid hr
  clear hst hk hsg hlen hpos hr hd hln
  unfold maxLen at hm
  obtain ⟨lm, hlm⟩ : ∃ x, (dg 10 n).length = x := ⟨_, rfl⟩
  rw [hlm] at HC ⊢
  clear hlm
  cases s
  · rw [Bool.false_and]
    go_enter Try.func117, Try.ntmps117
    go_wp2_with (go_at_call 122; refine (HC.out _ (HR.out.alloc _)).mono ?_; rintro e w' ⟨rfl, rfl⟩)
    have r2 := Row.new w 72 [.bool false, .slice a lm cap]
    have z0 := r2.cell (i := 0) rfl
    have z1 := r2.cell (i := 1) rfl
    exact bodyPost_ret (v := .agg #[.bool false, .slice a lm cap]) (by simp [results, Try.f117, go_sem, z0, z1]) rfl ⟨rfl, Ext.new _ _⟩
  · rw [Bool.true_and]
    go_enter Try.func117, Try.ntmps117
    go_wp2_with (go_at_call 122; refine (HC.out _ (HR.out.alloc _)).mono ?_; rintro e w' ⟨rfl, rfl⟩)
    have r2 := Row.new w 72 [.bool (decide ((0 : Int) < lm)), .slice a lm cap]
    have z0 := r2.cell (i := 0) rfl
    have z1 := r2.cell (i := 1) rfl
    exact bodyPost_ret (v := .agg #[.bool (decide ((0 : Int) < lm)), .slice a lm cap]) (by simp [results, Try.f117, go_sem]) rfl ⟨rfl, Ext.new _ _⟩
theorem rmk_walk (s : Bool) (n : Nat) (a : Option Addr) (cap : Nat) (w : World) (hc : (dg 10 n).length ≤ cap) (hm : cap ≤ maxLen) (hr : Rd w a (ks .i64 (dg 10 n))) :
    Calls Try.prog 117 #[.bool s, .slice a (dg 10 n).length cap] w fun e w' => e = .returned (.agg #[.bool (decide (sz s n < 0)), .slice a (dg 10 n).length cap]) ∧ Ext w w' := by
  have := rmake1_walk s a cap (dg 10 n) (dg 10 n).length w (fun d hd => dg_lt ten_gt hd) rfl hc hm hr
  rwa [val_dg ten_gt] at this

set_option maxRecDepth 100000 in
set_option maxHeartbeats 1000000 in
theorem radd_walk (a b : Option Addr) (ca cb n m : Nat) (w : World) (hla : (dg 10 n).length ≤ 1000000) (hlb : (dg 10 m).length ≤ 1000000) (ha : Rd w a (ks .i64 (dg 10 n))) (hb : Rd w b (ks .i64 (dg 10 m))) :
    Calls Try.prog 126 #[.slice a (dg 10 n).length ca, .slice b (dg 10 m).length cb] w (Made w 3 .i64 (dg 10 (n + m))) := by
  have LA : ∀ i, i < (dg 10 n).length ↔ 10 ^ i ≤ n := fun i => dg_len_lt ten_gt i n
  have LB : ∀ i, i < (dg 10 m).length ↔ 10 ^ i ≤ m := fun i => dg_len_lt ten_gt i m
  generalize hna : (dg 10 n).length = na at *
  generalize hnb : (dg 10 m).length = nb at *
  have HNA := Lib.hid hna
  have HNB := Lib.hid hnb
  have HLA := Lib.hid LA
  have HLB := Lib.hid LB
  clear hna hnb LA LB
  go_enter Try.func126, Try.ntmps126
  go_wp2
  go_loopw [5, 6, 7] (fun out c i wr => ∃ k : Nat, k ≤ na + nb + 1 ∧ i = .int .i64 k ∧ c = .int .i64 (carry 10 n m k) ∧ wr.ownsRow w.heap.size 3 1 out k (ks .i64 (fixd 10 k (n + m))) ∧ Ext w wr ∧ Hid (k = 0 ∨ 10 ^ (k - 1) ≤ n + m))
    (fun _ _ i _ => na + nb + 2 - (intOf i).toNat)
  case atStart => exact ⟨0, by omega, rfl, by simp [carry_zero], own_empty w _ (Nat.le_refl _), Ext.new _ _, .inl rfl⟩
  case round =>
    obtain ⟨k, hk, rfl, rfl, hown, hext, HP⟩ := hrel
    have HR := Lib.hid (add_round ten_gt n m k)
    have HM := Lib.hid (add_more ten_gt n m k)
    have HD := Lib.hid (add_done ten_gt n m k)
    have HBD := Lib.hid (add_bound ten_gt n m k)
    rw [HNA.out, HNB.out] at HBD
    have hc1 := carry_lt ten_gt n m k
    have hc0 : carry 10 n m k = 0 ∨ carry 10 n m k = 1 := by omega
    have HN : Hid (¬ k < na → n / 10 ^ k % 10 = 0) := fun h => digit_0 (by have := not_congr (HLA.out k); omega)
    have HM2 : Hid (¬ k < nb → m / 10 ^ k % 10 = 0) := fun h => digit_0 (by have := not_congr (HLB.out k); omega)
    have hxa : k < na → ∃ ba oa, a = some ⟨ba, oa, none⟩ ∧ wr.cell? ⟨ba, oa + k, none⟩ = some (.int .i64 ((n / 10 ^ k % 10 : Nat) : Int)) := fun h => by
      obtain ⟨ba, oa, e, hca⟩ := (ha.ext hext).num (i := k) (by rw [HNA.out]; exact h)
      rw [fdig10] at hca
      exact ⟨ba, oa, e, hca⟩
    have hxb : k < nb → ∃ bb ob, b = some ⟨bb, ob, none⟩ ∧ wr.cell? ⟨bb, ob + k, none⟩ = some (.int .i64 ((m / 10 ^ k % 10 : Nat) : Int)) := fun h => by
      obtain ⟨ba, oa, e, hca⟩ := (hb.ext hext).num (i := k) (by rw [HNB.out]; exact h)
      rw [fdig10] at hca
      exact ⟨ba, oa, e, hca⟩
    have d1 : n / 10 ^ k % 10 < 10 := Nat.mod_lt _ (by decide)
    have d2 : m / 10 ^ k % 10 < 10 := Nat.mod_lt _ (by decide)
    have HA2 := (HLA.out k)
    have HB2 := (HLB.out k)
    generalize n / 10 ^ k % 10 = x at *
    generalize m / 10 ^ k % 10 = y at *
    generalize hcc : carry 10 n m k = c at *
    have HCC := Lib.hid hcc
    have HA3 := Lib.hid HA2
    have HB3 := Lib.hid HB2
    clear hcc hc0 HA2 HB2
    have close : ∀ (v' : Value) (w1 : World) (t : Nat), (k < na ∨ k < nb ∨ 0 < c) → t = c + x + y → w1.ownsRow w.heap.size 3 1 v' (k + 1) (ks .i64 (fixd 10 k (n + m)) ++ [.int .i64 ((t % 10 : Nat) : Int)]) → Ext w w1 →
        ∃ k' : Nat, k' ≤ na + nb + 1 ∧ Value.int .i64 ((k : Int) + 1) = .int .i64 k' ∧ Value.int .i64 ((t / 10 : Nat) : Int) = .int .i64 (carry 10 n m k') ∧ w1.ownsRow w.heap.size 3 1 v' k' (ks .i64 (fixd 10 k' (n + m))) ∧ Ext w w1 ∧ Hid (k' = 0 ∨ 10 ^ (k' - 1) ≤ n + m) := by
      intro v' w1 t ht e own1 ext1
      have hr := HR.out
      refine ⟨k + 1, ?_, by go_num, ?_, ?_, ext1, .inr ?_⟩
      · rcases ht with h | h | h
        · omega
        · omega
        · by_cases h1 : k < na
          · omega
          · by_cases h2 : k < nb
            · omega
            · have := HBD.out (by omega) (by omega) h; omega
      · rw [hr.1, e]
      · rw [hr.2, ks_append, e.symm]; exact own1
      · have := HM.out (by have := HA3.out; have := HB3.out; omega)
        simpa using this
    have Hclose := Lib.hid close
    clear close
    by_cases h1 : k < na <;> by_cases h2 : k < nb
    · obtain ⟨ba, oa, rfl, hca⟩ := hxa h1
      obtain ⟨bb, ob, rfl, hcb⟩ := hxb h2
      clear hxa hxb
      go_wp2_with (at_builtin; refine append_elem elemI64 hown hext (by unfold maxLen; omega) (by omega) rfl (by simp [Value.oneCell']) rfl _ _ rfl rfl rfl ?_; intro v' w1 own1 ext1 _)
      go_roundw
      case rel => exact Hclose.out _ _ (c + x + y) (.inl h1) rfl own1 ext1
      case measure => simp [intOf]; omega
    · obtain ⟨ba, oa, rfl, hca⟩ := hxa h1
      have hy := HM2.out h2
      clear hxa hxb
      subst hy
      go_wp2_with (at_builtin; refine append_elem elemI64 hown hext (by unfold maxLen; omega) (by omega) rfl (by simp [Value.oneCell']) rfl _ _ rfl rfl rfl ?_; intro v' w1 own1 ext1 _)
      go_roundw
      case rel => exact Hclose.out _ _ (c + x) (.inl h1) rfl own1 ext1
      case measure => simp [intOf]; omega
    · obtain ⟨bb, ob, rfl, hcb⟩ := hxb h2
      have hy := HN.out h1
      clear hxa hxb
      subst hy
      go_wp2_with (at_builtin; refine append_elem elemI64 hown hext (by unfold maxLen; omega) (by omega) rfl (by simp [Value.oneCell']) rfl _ _ rfl rfl rfl ?_; intro v' w1 own1 ext1 _)
      go_roundw
      case rel => exact Hclose.out _ _ (c + y) (.inr (.inl h2)) (by omega) own1 ext1
      case measure => simp [intOf]; omega
    · have hx := HN.out h1
      have hy := HM2.out h2
      clear hxa hxb
      subst hx hy
      by_cases h3 : 0 < c
      · go_wp2_with (at_builtin; refine append_elem elemI64 hown hext (by unfold maxLen; omega) (by omega) rfl (by simp [Value.oneCell']) rfl _ _ rfl rfl rfl ?_; intro v' w1 own1 ext1 _)
        go_roundw
        case rel => exact Hclose.out _ _ c (.inr (.inr h3)) (by omega) own1 ext1
        case measure => simp [intOf]; omega
      · go_wp2
        go_ret
        have hk0 : fixd 10 k (n + m) = dg 10 (n + m) := HD.out (by have := HA3.out; omega) (by have := HB3.out; omega) (by omega) HP
        rw [hk0] at hown
        have hl : k = (dg 10 (n + m)).length := by rw [← hk0, fixd_len]
        rw [hl] at hown
        exact ⟨_, rfl, hown, hext⟩


set_option maxRecDepth 100000 in
set_option maxHeartbeats 1000000 in
theorem rsub_walk (a b : Option Addr) (ca cb n m : Nat) (w : World) (hnm : m ≤ n) (hla : (dg 10 n).length ≤ 1000000) (_hlb : (dg 10 m).length ≤ 1000000) (ha : Rd w a (ks .i64 (dg 10 n))) (hb : Rd w b (ks .i64 (dg 10 m))) :
    Calls Try.prog 124 #[.slice a (dg 10 n).length ca, .slice b (dg 10 m).length cb] w (Got w .i64 (dg 10 (n - m))) := by
  have LB : ∀ i, i < (dg 10 m).length ↔ 10 ^ i ≤ m := fun i => dg_len_lt ten_gt i m
  have HE : Hid (strip (fixd 10 (dg 10 n).length (n - m)) = dg 10 (n - m)) := strip_fixd ten_gt _ _ (by have := lt_pow_len ten_gt n; omega)
  generalize hna : (dg 10 n).length = na at *
  generalize hnb : (dg 10 m).length = nb at *
  have HNA := Lib.hid hna
  have HNB := Lib.hid hnb
  have HLB := Lib.hid LB
  clear hna hnb LB
  go_enter Try.func124, Try.ntmps124
  go_wp2
  go_loopw [5, 6, 7] (fun out c i wr => ∃ k : Nat, k ≤ na ∧ i = .int .i64 k ∧ c = .int .i64 (borrow 10 n m k) ∧ wr.ownsRow w.heap.size 3 1 out k (ks .i64 (fixd 10 k (n - m))) ∧ Ext w wr)
    (fun _ _ i _ => na - (intOf i).toNat)
  case atStart => exact ⟨0, by omega, rfl, by simp [borrow_zero], own_empty w _ (Nat.le_refl _), Ext.new _ _⟩
  case round =>
    obtain ⟨k, hk, rfl, rfl, hown, hext⟩ := hrel
    by_cases h1 : k < na
    · have HR := Lib.hid (sub_round ten_gt n m k hnm)
      have hc1 := borrow_le 10 n m k
      obtain ⟨ba, oa, rfl, hca⟩ := (ha.ext hext).num (i := k) (by rw [HNA.out]; exact h1)
      rw [fdig10] at hca
      have HN : Hid (¬ k < nb → m / 10 ^ k % 10 = 0) := fun h => digit_0 (by have := not_congr (HLB.out k); omega)
      have hxb : k < nb → ∃ bb ob, b = some ⟨bb, ob, none⟩ ∧ wr.cell? ⟨bb, ob + k, none⟩ = some (.int .i64 ((m / 10 ^ k % 10 : Nat) : Int)) := fun h => by
        obtain ⟨ba, oa, e, hca⟩ := (hb.ext hext).num (i := k) (by rw [HNB.out]; exact h)
        rw [fdig10] at hca
        exact ⟨ba, oa, e, hca⟩
      have d1 : n / 10 ^ k % 10 < 10 := Nat.mod_lt _ (by decide)
      have d2 : m / 10 ^ k % 10 < 10 := Nat.mod_lt _ (by decide)
      generalize n / 10 ^ k % 10 = x at *
      generalize m / 10 ^ k % 10 = y at *
      generalize borrow 10 n m k = c at *
      have close : ∀ (v' : Value) (w1 : World) (t : Int) (c' : Int), (x < y + c → t = x - c - y + 10 ∧ c' = 1) → (¬ x < y + c → t = x - c - y ∧ c' = 0) → w1.ownsRow w.heap.size 3 1 v' (k + 1) (ks .i64 (fixd 10 k (n - m)) ++ [.int .i64 t]) → Ext w w1 →
          ∃ k' : Nat, k' ≤ na ∧ Value.int .i64 ((k : Int) + 1) = .int .i64 k' ∧ Value.int .i64 c' = .int .i64 (borrow 10 n m k') ∧ w1.ownsRow w.heap.size 3 1 v' k' (ks .i64 (fixd 10 k' (n - m))) ∧ Ext w w1 := by
        intro v' w1 t c' e1 e2 own1 ext1
        have hr := HR.out
        refine ⟨k + 1, h1, by go_num, ?_, ?_, ext1⟩
        · rw [hr.1]
          by_cases hlt : x < y + c
          · rw [if_pos hlt, (e1 hlt).2]; rfl
          · rw [if_neg hlt, (e2 hlt).2]; rfl
        · rw [hr.2, ks_append]
          have : (((x + 10 - y - c) % 10 : Nat) : Int) = t := by
            by_cases hlt : x < y + c
            · rw [(e1 hlt).1, Nat.mod_eq_of_lt (by omega)]; omega
            · rw [(e2 hlt).1, show x + 10 - y - c = (x - y - c) + 10 by omega, Nat.add_mod_right, Nat.mod_eq_of_lt (by omega)]; omega
          rw [show ks .i64 [(x + 10 - y - c) % 10] = [.int .i64 t] by simp only [ks, List.map_cons, List.map_nil, this]]
          exact own1
      have Hclose := Lib.hid close
      clear close HR
      by_cases h2 : k < nb
      · obtain ⟨bb, ob, rfl, hcb⟩ := hxb h2
        clear hxb
        by_cases hlt : x < y + c
        all_goals
          go_wp2_with (at_builtin; refine append_elem elemI64 hown hext (by unfold maxLen; omega) (by omega) rfl (by simp [Value.oneCell']) rfl _ _ rfl rfl rfl ?_; intro v' w1 own1 ext1 _)
          go_roundw
          case rel => exact Hclose.out _ _ _ _ (fun _ => ⟨by omega, by omega⟩) (fun _ => ⟨by omega, by omega⟩) own1 ext1
          case measure => simp [intOf]; omega
      · have hy := HN.out h2
        clear hxb
        subst hy
        by_cases hlt : x < 0 + c
        all_goals
          go_wp2_with (at_builtin; refine append_elem elemI64 hown hext (by unfold maxLen; omega) (by omega) rfl (by simp [Value.oneCell']) rfl _ _ rfl rfl rfl ?_; intro v' w1 own1 ext1 _)
          go_roundw
          case rel => exact Hclose.out _ _ _ _ (fun _ => ⟨by omega, by omega⟩) (fun _ => ⟨by omega, by omega⟩) own1 ext1
          case measure => simp [intOf]; omega
    · obtain rfl : k = na := by omega
      obtain ⟨a', c', rfl, f1, f2, f3⟩ := own_form hown
      go_wp2_with (go_at_call 122; refine (rcut_walk _ _ (fixd 10 k (n - m)) _ _ (fixd_len _ _ _) f1 f2 f3).mono ?_; rintro e w' ⟨rfl, rfl⟩)
      go_ret
      have h5 : stripN (fixd 10 k (n - m)) (fixd 10 k (n - m)).length = (dg 10 (n - m)).length := by rw [← strip_len, HE.out]
      have h6 := f3.take (stripN (fixd 10 k (n - m)) (fixd 10 k (n - m)).length)
      rw [ks_take] at h6
      have h7 : (fixd 10 k (n - m)).take (stripN (fixd 10 k (n - m)) (fixd 10 k (n - m)).length) = dg 10 (n - m) := HE.out
      rw [h7] at h6
      refine ⟨a', c', ret_slice h5 rfl, ?_, f2, h6, hext, own_from hown⟩
      have := stripN_le (fixd 10 k (n - m)) (fixd 10 k (n - m)).length
      rw [h5, fixd_len] at this
      omega


end Go.Proofs.Ytogodjiemgilaaa

/- The reference's cmp, Cmp, Neg. -/
namespace Go.Proofs.Ytogodjiemgilaaa
open Go.RowKit

set_option maxRecDepth 100000 in
set_option maxHeartbeats 1000000 in
theorem rcmp_walk (a b : Option Addr) (ca cb n m : Nat) (w : World) (hla : (dg 10 n).length ≤ 1000000) (_hlb : (dg 10 m).length ≤ 1000000) (ha : Rd w a (ks .i64 (dg 10 n))) (hb : Rd w b (ks .i64 (dg 10 m))) :
    Calls Try.prog 123 #[.slice a (dg 10 n).length ca, .slice b (dg 10 m).length cb] w fun e w' => e = .returned (.int .i64 (cmpN n m)) ∧ Ext w w' := by
  by_cases hne : (dg 10 n).length = (dg 10 m).length
  · have HT := fun k h1 h2 h3 => cmpN_top ten_gt n m k hne h1 h2 h3
    have HE := cmpN_eq ten_gt n m hne
    generalize dg 10 n = l at *
    generalize dg 10 m = l2 at *
    generalize cmpN n m = r at *
    have HNE := Lib.hid hne
    have HHT := Lib.hid HT
    have HHE := Lib.hid HE
    have HA := Lib.hid ha
    have HB := Lib.hid hb
    rw [← hne]
    clear hne HT HE ha hb _hlb
    go_enter Try.func123, Try.ntmps123
    go_wp2_with fail
    go_loopw [5] (fun iv wr => ∃ k : Nat, k ≤ l.length ∧ iv = .int .i64 ((l.length : Int) - 1 - k) ∧ Ext w wr ∧ Hid (∀ j, l.length ≤ j + k → j < l.length → l[j]?.getD 0 = l2[j]?.getD 0)) (fun iv _ => (intOf iv + 1).toNat)
    case atStart => exact ⟨0, by omega, by simp, Ext.refl _, fun j h1 h2 => absurd h1 (by omega)⟩
    case round =>
      obtain ⟨k, hk, rfl, hext, HP⟩ := hrel
      by_cases hlt : k < l.length
      · obtain ⟨p, hp⟩ : ∃ p : Nat, (l.length : Int) - 1 - k = (p : Int) := ⟨l.length - 1 - k, by omega⟩
        have HPP := Lib.hid hp
        have hpl : p < l.length := by omega
        have hpl2 : p < l2.length := by rw [← HNE.out]; exact hpl
        rw [hp]
        clear hp
        obtain ⟨b0, ob, rfl, hcb⟩ := (HA.out.ext hext).num (i := p) hpl
        obtain ⟨b1, ob1, rfl, hcb1⟩ := (HB.out.ext hext).num (i := p) hpl2
        have hg : Hid (l[p]?.getD 0 = l[p]) := by show _ = _; rw [List.getElem?_eq_getElem hpl]; rfl
        have hg2 : Hid (l2[p]?.getD 0 = l2[p]) := by show _ = _; rw [List.getElem?_eq_getElem hpl2]; rfl
        have HQ : Hid (l[p] ≠ l2[p] → r = sgn ((l[p] : Nat) - (l2[p] : Nat) : Int)) := by
          intro hx
          have h4 := HPP.out
          have := HHT.out p hpl (fun i h1 h2 => HP.out i (by omega) h2) (by rw [hg.out, hg2.out]; exact hx)
          rw [hg.out, hg2.out] at this
          exact this
        generalize l[p] = x at *
        generalize l2[p] = y at *
        by_cases hxy : x = y
        · subst hxy
          go_wp2_with fail
          go_quiet (fail)
          go_wp2_with fail
          go_roundw
          case rel =>
            have h4 := HPP.out
            refine ⟨k + 1, by omega, ?_, hext.drewN _, ?_⟩
            · congr 1; omega
            · intro j h1 h2
              by_cases hj : j = p
              · subst hj; exact hg.out.trans hg2.out.symm
              · exact HP.out j (by omega) h2
          case measure => simp [intOf] <;> omega
        · have hxy' : ((x : Int) != (y : Int)) = true := by simp; omega
          have HR := Lib.hid (HQ.out hxy)
          clear HQ hxy
          by_cases hl : x < y
          · have HR2 : Hid (-1 = r) := by rw [HR.out]; show _ = _; unfold sgn; rw [if_pos (by omega)]
            go_wp2_with fail
            go_quiet (fail)
            go_wp2_with fail
            go_quiet (fail)
            go_wp2_with fail
            go_ret
            exact ⟨ret_int HR2.out, (hext.drewN _).drewN _⟩
          · have HR2 : Hid (1 = r) := by rw [HR.out]; show _ = _; unfold sgn; rw [if_neg (by omega), if_neg (by simp at hxy'; omega)]
            go_wp2_with fail
            go_quiet (fail)
            go_wp2_with fail
            go_quiet (fail)
            go_wp2_with fail
            go_ret
            exact ⟨ret_int HR2.out, (hext.drewN _).drewN _⟩
      · have HR : Hid (0 = r) := (HHE.out fun i hi => HP.out i (by omega) hi).symm
        go_wp2_with fail
        go_ret
        exact ⟨ret_int HR.out, hext⟩
  · have H := Lib.hid (cmpN_len ten_gt n m hne)
    have hne' : (((dg 10 n).length : Int) != ((dg 10 m).length : Int)) = true := by simp; omega
    generalize (dg 10 n).length = na at *
    generalize (dg 10 m).length = nb at *
    generalize cmpN n m = r at *
    by_cases hl : na < nb
    · have HR2 : Hid (-1 = r) := by rw [H.out]; show _ = _; unfold sgn; rw [if_pos (by omega)]
      clear hne
      go_enter Try.func123, Try.ntmps123
      go_wp2_with fail
      go_ret
      exact ⟨ret_int HR2.out, Ext.refl _⟩
    · have HR2 : Hid (1 = r) := by rw [H.out]; show _ = _; unfold sgn; rw [if_neg (by omega), if_neg (by omega)]
      clear hne
      go_enter Try.func123, Try.ntmps123
      go_wp2_with fail
      go_ret
      exact ⟨ret_int HR2.out, Ext.refl _⟩

/-- two numbers boxed -/
def N2 (w W : World) (u0 u1 v0 v1 : Value) : Prop := Row W w.heap.size 72 [u0, u1] ∧ Row W (w.heap.size + 1) 72 [v0, v1]
theorem N2.ext {w W W' : World} {u0 u1 v0 v1 : Value} (h : N2 w W u0 u1 v0 v1) (e : Ext W W') : N2 w W' u0 u1 v0 v1 := ⟨h.1.ext e, h.2.ext e⟩
theorem N2.cells {w W : World} {u0 u1 v0 v1 : Value} (h : N2 w W u0 u1 v0 v1) :
    W.cell? ⟨w.heap.size, 0, none⟩ = some u0 ∧ W.cell? ⟨w.heap.size, 1, none⟩ = some u1 ∧ W.cell? ⟨w.heap.size + 1, 0, none⟩ = some v0 ∧ W.cell? ⟨w.heap.size + 1, 1, none⟩ = some v1 :=
  ⟨h.1.cell (i := 0) rfl, h.1.cell (i := 1) rfl, h.2.cell (i := 0) rfl, h.2.cell (i := 1) rfl⟩
theorem N2.new (w : World) (u0 u1 v0 v1 : Value) : ∃ W0, (w.alloc (.cells #[u0, u1] 72)).alloc (.cells #[v0, v1] 72) = W0 ∧ N2 w W0 u0 u1 v0 v1 ∧ Ext w W0 ∧ W0.heap.size = w.heap.size + 1 + 1 := by
  refine ⟨_, rfl, ⟨(Row.new w _ [_, _]).alloc _, ?_⟩, (Ext.new _ _).alloc _, by simp⟩
  have := Row.new (w.alloc (.cells #[u0, u1] 72)) 72 [v0, v1]
  rwa [World.size_alloc] at this

set_option maxRecDepth 100000 in
set_option maxHeartbeats 2000000 in
theorem rcmpz_walk (z1 z2 : Int) (a b : Option Addr) (ca cb : Nat) (w : World) (hb1 : (dg 10 z1.natAbs).length ≤ 1000000) (hb2 : (dg 10 z2.natAbs).length ≤ 1000000) (h1 : IsNum w z1 a ca) (h2 : IsNum w z2 b cb) :
    Calls Try.prog 62 #[.agg #[.bool (decide (z1 < 0)), .slice a (dg 10 z1.natAbs).length ca], .agg #[.bool (decide (z2 < 0)), .slice b (dg 10 z2.natAbs).length cb]] w fun e w' => e = .returned (.int .i64 (cmpZ z1 z2)) ∧ Ext w w' := by
  have HC := Lib.hid (fun W (hr : Rd W a (ks .i64 (dg 10 z1.natAbs))) (hr2 : Rd W b (ks .i64 (dg 10 z2.natAbs))) => rcmp_walk a b ca cb z1.natAbs z2.natAbs W hb1 hb2 hr hr2)
  have HCS := Lib.hid (fun W (hr : Rd W a (ks .i64 (dg 10 z1.natAbs))) (hr2 : Rd W b (ks .i64 (dg 10 z2.natAbs))) => rcmp_walk b a cb ca z2.natAbs z1.natAbs W hb2 hb1 hr2 hr)
  have hR1 : Hid (decide (z1 < 0) = true → decide (z2 < 0) = false → cmpZ z1 z2 = -1) := by
    unfold Hid cmpZ; simp only [decide_eq_true_eq, decide_eq_false_iff_not]; intro p q; rw [if_pos (by omega)]
  have hR2 : Hid (decide (z1 < 0) = false → decide (z2 < 0) = true → cmpZ z1 z2 = 1) := by
    unfold Hid cmpZ; simp only [decide_eq_true_eq, decide_eq_false_iff_not]; intro p q; rw [if_neg (by omega), if_neg (by omega)]
  have hR3 : Hid (decide (z1 < 0) = true → decide (z2 < 0) = true → cmpZ z1 z2 = cmpN z2.natAbs z1.natAbs) := by
    unfold Hid cmpZ cmpN; simp only [decide_eq_true_eq]; intro p q; (repeat' split) <;> omega
  have hR4 : Hid (decide (z1 < 0) = false → decide (z2 < 0) = false → cmpZ z1 z2 = cmpN z1.natAbs z2.natAbs) := by
    unfold Hid cmpZ cmpN; simp only [decide_eq_false_iff_not]; intro p q; (repeat' split) <;> omega
  have R1 := Lib.hid h1.2.2
  have R2 := Lib.hid h2.2.2
  clear h1 h2 hb1 hb2
  generalize cmpZ z1 z2 = r at *
  generalize cmpN z1.natAbs z2.natAbs = q at *
  generalize cmpN z2.natAbs z1.natAbs = q' at *
  generalize hna : (dg 10 z1.natAbs).length = na at *
  generalize hnb : (dg 10 z2.natAbs).length = nb at *
  clear hna hnb
  cases s1 : decide (z1 < 0) <;> cases s2 : decide (z2 < 0)
  case false.false =>
    have HF := Lib.hid (hR4.out s1 s2)
    clear hR1 hR2 hR3 hR4 s1 s2
    go_enter Try.func62, Try.ntmps62
    go_wp2_with fail
    refine (HC.out _ ((R1.out.alloc _).alloc _) ((R2.out.alloc _).alloc _)).mono ?_
    rintro e w1 ⟨rfl, g1⟩
    go_wp2_with fail
    go_ret
    exact ⟨ret_int HF.out.symm, ((Ext.new _ _).alloc _).trans g1⟩
  case false.true =>
    have HF := Lib.hid (hR2.out s1 s2)
    clear hR1 hR2 hR3 hR4 s1 s2
    go_enter Try.func62, Try.ntmps62
    go_wp2_with fail
    go_ret
    exact ⟨ret_int HF.out.symm, (Ext.new _ _).alloc _⟩
  case true.false =>
    have HF := Lib.hid (hR1.out s1 s2)
    clear hR1 hR2 hR3 hR4 s1 s2
    go_enter Try.func62, Try.ntmps62
    go_wp2_with fail
    go_ret
    exact ⟨ret_int HF.out.symm, (Ext.new _ _).alloc _⟩
  case true.true =>
    have HF := Lib.hid (hR3.out s1 s2)
    clear hR1 hR2 hR3 hR4 s1 s2
    go_enter Try.func62, Try.ntmps62
    go_wp2_with fail
    refine (HCS.out _ ((R1.out.alloc _).alloc _) ((R2.out.alloc _).alloc _)).mono ?_
    rintro e w1 ⟨rfl, g1⟩
    go_wp2_with fail
    go_ret
    exact ⟨ret_int HF.out.symm, ((Ext.new _ _).alloc _).trans g1⟩
end Go.Proofs.Ytogodjiemgilaaa

/- The reference's Neg, Add. -/
namespace Go.Proofs.Ytogodjiemgilaaa
open Go.RowKit

/-- a number's own cells: the result is stored in a variable of the call's own -/
theorem num_store {w W w' : World} {z : Int} {a : Option Addr} {c g : Nat} (hg1 : w.heap.size ≤ g) (x : Ext w W) (h : IsNum w' z a c) (h5 : Ext W w') (hf : ∀ ad, a = some ad → ad.block ≠ g) (u v : Value) :
    GotNum z w (.returned (.agg #[.bool (decide (z < 0)), .slice a (dg 10 z.natAbs).length c])) ((w'.setCell ⟨g, 0, none⟩ u).setCell ⟨g, 1, none⟩ v) := by
  refine ⟨a, c, rfl, ⟨h.1, h.2.1, ?_⟩, ((x.trans h5).set (p := ⟨g, 0, none⟩) hg1 _).set (p := ⟨g, 1, none⟩) hg1 _⟩
  exact (h.2.2.keep fun bb off e _ => Below.heap_setCell _ _ _ _ (hf _ e)).keep fun bb off e _ => Below.heap_setCell _ _ _ _ (hf _ e)

/-- two numbers boxed, and a result's cells -/
theorem two_nums (w : World) (u0 u1 v0 v1 : Value) :
    ∃ W0, ((w.alloc (.cells #[u0, u1] 72)).alloc (.cells #[v0, v1] 72)).alloc (.cells #[.bool false, .slice none 0 0] 72) = W0 ∧ Row W0 w.heap.size 72 [u0, u1] ∧ Row W0 (w.heap.size + 1) 72 [v0, v1] ∧ Row W0 (w.heap.size + 1 + 1) 72 [.bool false, .slice none 0 0] ∧ Ext w W0 ∧ W0.heap.size = w.heap.size + 1 + 1 + 1 := by
  refine ⟨_, rfl, ((Row.new w _ [_, _]).alloc _).alloc _, ?_, ?_, ((Ext.new _ _).alloc _).alloc _, by simp⟩
  · have := (Row.new (w.alloc (.cells #[u0, u1] 72)) 72 [v0, v1]).alloc (.cells #[.bool false, .slice none 0 0] 72)
    rwa [World.size_alloc] at this
  · have := Row.new ((w.alloc (.cells #[u0, u1] 72)).alloc (.cells #[v0, v1] 72)) 72 [.bool false, .slice none 0 0]
    rwa [World.size_alloc, World.size_alloc] at this
theorem held4n {w W : World} {u0 u1 v0 v1 : Value} (h0 : Row W w.heap.size 72 [u0, u1]) (h1 : Row W (w.heap.size + 1) 72 [v0, v1]) :
    W.cell? ⟨w.heap.size, 0, none⟩ = some u0 ∧ W.cell? ⟨w.heap.size, 1, none⟩ = some u1 ∧ W.cell? ⟨w.heap.size + 1, 0, none⟩ = some v0 ∧ W.cell? ⟨w.heap.size + 1, 1, none⟩ = some v1 :=
  ⟨h0.cell (i := 0) rfl, h0.cell (i := 1) rfl, h1.cell (i := 0) rfl, h1.cell (i := 1) rfl⟩

set_option maxRecDepth 100000 in
set_option maxHeartbeats 4000000 in
theorem raddz_walk (z1 z2 : Int) (a b : Option Addr) (ca cb : Nat) (w : World) (hb1 : (dg 10 z1.natAbs).length ≤ 100000) (hb2 : (dg 10 z2.natAbs).length ≤ 100000) (h1 : IsNum w z1 a ca) (h2 : IsNum w z2 b cb) :
    Calls Try.prog 54 #[.agg #[.bool (decide (z1 < 0)), .slice a (dg 10 z1.natAbs).length ca], .agg #[.bool (decide (z2 < 0)), .slice b (dg 10 z2.natAbs).length cb]] w (GotNum (z1 + z2) w) := by
  have HA := Lib.hid (fun W (hr : Rd W a (ks .i64 (dg 10 z1.natAbs))) (hr2 : Rd W b (ks .i64 (dg 10 z2.natAbs))) => radd_walk a b ca cb z1.natAbs z2.natAbs W (by omega) (by omega) hr hr2)
  have HS1 := Lib.hid (fun W (hr : Rd W a (ks .i64 (dg 10 z1.natAbs))) (hr2 : Rd W b (ks .i64 (dg 10 z2.natAbs))) (hle : z2.natAbs ≤ z1.natAbs) => rsub_walk a b ca cb z1.natAbs z2.natAbs W hle (by omega) (by omega) hr hr2)
  have HS2 := Lib.hid (fun W (hr : Rd W a (ks .i64 (dg 10 z1.natAbs))) (hr2 : Rd W b (ks .i64 (dg 10 z2.natAbs))) (hle : z1.natAbs ≤ z2.natAbs) => rsub_walk b a cb ca z2.natAbs z1.natAbs W hle (by omega) (by omega) hr2 hr)
  have HC := Lib.hid (fun W (hr : Rd W a (ks .i64 (dg 10 z1.natAbs))) (hr2 : Rd W b (ks .i64 (dg 10 z2.natAbs))) => rcmp_walk a b ca cb z1.natAbs z2.natAbs W (by omega) (by omega) hr hr2)
  have hla := dg_len_add ten_gt z1.natAbs z2.natAbs
  have hls1 := dg_len_mono ten_gt (Nat.sub_le z1.natAbs z2.natAbs)
  have hls2 := dg_len_mono ten_gt (Nat.sub_le z2.natAbs z1.natAbs)
  have HO := Lib.hid (fun (s : Bool) (n : Nat) (hn : (dg 10 n).length ≤ 300000) W a' c' (g1 : (dg 10 n).length ≤ c') (g2 : c' ≤ maxLen) (hr : Rd W a' (ks .i64 (dg 10 n))) => rmk_walk s n a' c' W g1 g2 hr)
  have hn1 := cmpN_ge z1.natAbs z2.natAbs
  have hcb : -1 ≤ cmpN z1.natAbs z2.natAbs ∧ cmpN z1.natAbs z2.natAbs ≤ 1 := by unfold cmpN; (repeat' split) <;> omega
  obtain ⟨hcb1, hcb2⟩ := hcb
  have HY0 := Lib.hid (add_sign0 z1 z2)
  have HY1 := Lib.hid (add_sign1 z1 z2)
  have HY2 := Lib.hid (add_sign2 z1 z2)
  have r1 := h1.2.2
  have r2 := h2.2.2
  have hL0 : (dg 10 (z1.natAbs + z2.natAbs)).length ≤ 300000 := by omega
  have hL1 : (dg 10 (z1.natAbs - z2.natAbs)).length ≤ 300000 := by omega
  have hL2 : (dg 10 (z2.natAbs - z1.natAbs)).length ≤ 300000 := by omega
  have HO0 := Lib.hid (HO.out (decide (z1 < 0)) _ hL0)
  have HO1 := Lib.hid (HO.out (decide (z1 < 0)) _ hL1)
  have HO2 := Lib.hid (HO.out (decide (z2 < 0)) _ hL2)
  clear h1 h2 hb1 hb2 hla hls1 hls2 HO hL0 hL1 hL2
  generalize z1 + z2 = y at *
  generalize z1.natAbs + z2.natAbs = m0 at *
  generalize z1.natAbs - z2.natAbs = m1 at *
  generalize z2.natAbs - z1.natAbs = m2 at *
  generalize cmpN z1.natAbs z2.natAbs = q at *
  generalize decide (z1 < 0) = s1 at *
  generalize decide (z2 < 0) = s2 at *
  generalize hna : (dg 10 z1.natAbs).length = na at *
  generalize hnb : (dg 10 z2.natAbs).length = nb at *
  clear hna hnb
  cases he : (s1 == s2)
  · rw [he] at HY0 HY1 HY2
    have HE := Lib.hid he
    by_cases hq : 0 ≤ q
    · have hle := hn1.1 hq
      have HF := HY1.out rfl hle
      rw [HF] at HO1
      have HNAT : Hid (y.natAbs = m1) := by show _ = _; rw [← HF, sz_abs]
      have HS := Lib.hid (fun W p r => HS1.out W p r hle)
      clear HA HS1 HS2 HO0 HO2 HY0 HY1 HY2 hn1 HF hle
      go_enter Try.func54, Try.ntmps54
      go_wp2_with fail
      obtain ⟨W0, hW0, q0, q1, q2, x0, hs0⟩ := two_nums w (.bool s1) (.slice a na ca) (.bool s2) (.slice b nb cb)
      rw [hW0]
      have k0 := q0.cell (i := 0) rfl
      have k1 := q0.cell (i := 1) rfl
      have k2 := q1.cell (i := 0) rfl
      have k3 := q1.cell (i := 1) rfl
      have QQ := Lib.hid (And.intro q0 (And.intro q1 (And.intro q2 (And.intro x0 hs0))))
      clear hW0 q0 q1 q2 x0 hs0
      go_wp2_with (go_at_call 123; refine (HC.out _ ?_ ?_).mono ?_; exact r1.ext QQ.out.2.2.2.1; exact r2.ext QQ.out.2.2.2.1; rintro e w1 ⟨rfl, g0⟩)
      have p0 := Row.ext (show Row (W0) _ _ _ from QQ.out.1) g0
      have p1 := Row.ext (show Row (W0) _ _ _ from QQ.out.2.1) g0
      have p2 := Row.ext (show Row (W0) _ _ _ from QQ.out.2.2.1) g0
      have px := QQ.out.2.2.2.1.trans g0
      have ps : w.heap.size + 1 + 1 + 1 ≤ w1.heap.size := by have h1 := g0.size; have h2 := QQ.out.2.2.2.2; omega
      have PP := Lib.hid (And.intro p0 (And.intro p1 (And.intro p2 (And.intro px ps))))
      have k0 := p0.cell (i := 0) rfl
      have k1 := p0.cell (i := 1) rfl
      have k2 := p1.cell (i := 0) rfl
      have k3 := p1.cell (i := 1) rfl
      clear p0 p1 p2 px ps
      go_region_held3 (fun w' => w'.cell? ⟨w.heap.size, 0, none⟩ = some (.bool s1) ∧ w'.cell? ⟨w.heap.size, 1, none⟩ = some (.slice a na ca) ∧ w'.cell? ⟨w.heap.size + 1, 0, none⟩ = some (.bool s2) ∧ w'.cell? ⟨w.heap.size + 1, 1, none⟩ = some (.slice b nb cb)) (first | exact held4n PP.out.1.drew PP.out.2.1.drew | exact held4n (row_far2 (PP.out.1.drew.ext (Ext.trans g4 t4)) (by omega) _ _) (row_far2 (PP.out.2.1.drew.ext (Ext.trans g4 t4)) (by omega) _ _) | exact held4n (PP.out.1.drew.ext (Ext.trans g4 t4)) (PP.out.2.1.drew.ext (Ext.trans g4 t4)) | exact held4n (PP.out.1.drew.ext g4) (PP.out.2.1.drew.ext g4)) (first
        | (go_at_call 124; refine (HS.out _ ?_ ?_).mono ?_; exact (r1.ext PP.out.2.2.2.1).drew; exact (r2.ext PP.out.2.2.2.1).drew; rintro e w2 ⟨a2, c2, rfl, g1, g2, g3, g4, g5⟩)
        | (go_at_call 117; refine (HO1.out _ _ _ ?_ ?_ ?_).mono ?_; exact g1; exact g2; exact g3; rintro e w3 ⟨rfl, t4⟩; have h0 := ((PP.out.2.2.1.drew.ext g4).ext t4).cell (i := 0) rfl; have h1 := ((PP.out.2.2.1.drew.ext g4).ext t4).cell (i := 1) rfl; have h2 := ((PP.out.2.2.1.drew.ext g4).ext t4).frozen 0; have h3 := ((PP.out.2.2.1.drew.ext g4).ext t4).frozen 1))
      go_wp2_with fail
      obtain ⟨p0, p1, p2, px, ps⟩ := PP.out
      have r3 := (((p2.drew.ext g4).ext t4).set 0 (.bool (decide (y < 0)))).set 1 (.slice a2 (dg 10 m1).length c2)
      have z0 := r3.cell (i := 0) rfl
      have z1 := r3.cell (i := 1) rfl
      refine bodyPost_ret (v := .agg #[.bool (decide (y < 0)), .slice a2 (dg 10 m1).length c2]) ?_ rfl ?_
      · simp [results, Try.f54, go_sem, z0, z1]
      · have hz1 := g4.size
        simp only [World.drew] at hz1
        have hgs := num_store (w := w) (z := y) (g := w.heap.size + 1 + 1) (c := c2) (a := a2) (by omega) (px.drew.trans g4) (w' := w3) (by rw [IsNum, HNAT.out]; exact ⟨g1, g2, g3.ext t4⟩) t4 (fun ad e => by have := g5 _ e; simp only [World.drew] at this; omega) (.bool (decide (y < 0))) (.slice a2 (dg 10 m1).length c2)
        rw [HNAT.out] at hgs
        exact hgs
    · have hle : z1.natAbs ≤ z2.natAbs := by have : ¬ z2.natAbs ≤ z1.natAbs := fun h => hq (hn1.2 h); omega
      have HF := HY2.out rfl hle
      rw [HF] at HO2
      have HNAT : Hid (y.natAbs = m2) := by show _ = _; rw [← HF, sz_abs]
      have HS := Lib.hid (fun W p r => HS2.out W p r hle)
      clear HA HS1 HS2 HO0 HO1 HY0 HY1 HY2 hn1 HF hle
      go_enter Try.func54, Try.ntmps54
      go_wp2_with fail
      obtain ⟨W0, hW0, q0, q1, q2, x0, hs0⟩ := two_nums w (.bool s1) (.slice a na ca) (.bool s2) (.slice b nb cb)
      rw [hW0]
      have k0 := q0.cell (i := 0) rfl
      have k1 := q0.cell (i := 1) rfl
      have k2 := q1.cell (i := 0) rfl
      have k3 := q1.cell (i := 1) rfl
      have QQ := Lib.hid (And.intro q0 (And.intro q1 (And.intro q2 (And.intro x0 hs0))))
      clear hW0 q0 q1 q2 x0 hs0
      go_wp2_with (go_at_call 123; refine (HC.out _ ?_ ?_).mono ?_; exact r1.ext QQ.out.2.2.2.1; exact r2.ext QQ.out.2.2.2.1; rintro e w1 ⟨rfl, g0⟩)
      have p0 := Row.ext (show Row (W0) _ _ _ from QQ.out.1) g0
      have p1 := Row.ext (show Row (W0) _ _ _ from QQ.out.2.1) g0
      have p2 := Row.ext (show Row (W0) _ _ _ from QQ.out.2.2.1) g0
      have px := QQ.out.2.2.2.1.trans g0
      have ps : w.heap.size + 1 + 1 + 1 ≤ w1.heap.size := by have h1 := g0.size; have h2 := QQ.out.2.2.2.2; omega
      have PP := Lib.hid (And.intro p0 (And.intro p1 (And.intro p2 (And.intro px ps))))
      have k0 := p0.cell (i := 0) rfl
      have k1 := p0.cell (i := 1) rfl
      have k2 := p1.cell (i := 0) rfl
      have k3 := p1.cell (i := 1) rfl
      clear p0 p1 p2 px ps
      go_region_held3 (fun w' => w'.cell? ⟨w.heap.size, 0, none⟩ = some (.bool s1) ∧ w'.cell? ⟨w.heap.size, 1, none⟩ = some (.slice a na ca) ∧ w'.cell? ⟨w.heap.size + 1, 0, none⟩ = some (.bool s2) ∧ w'.cell? ⟨w.heap.size + 1, 1, none⟩ = some (.slice b nb cb)) (first | exact held4n PP.out.1.drew PP.out.2.1.drew | exact held4n (row_far2 (PP.out.1.drew.ext (Ext.trans g4 t4)) (by omega) _ _) (row_far2 (PP.out.2.1.drew.ext (Ext.trans g4 t4)) (by omega) _ _) | exact held4n (PP.out.1.drew.ext (Ext.trans g4 t4)) (PP.out.2.1.drew.ext (Ext.trans g4 t4)) | exact held4n (PP.out.1.drew.ext g4) (PP.out.2.1.drew.ext g4)) (first
        | (go_at_call 124; refine (HS.out _ ?_ ?_).mono ?_; exact (r1.ext PP.out.2.2.2.1).drew; exact (r2.ext PP.out.2.2.2.1).drew; rintro e w2 ⟨a2, c2, rfl, g1, g2, g3, g4, g5⟩)
        | (go_at_call 117; refine (HO2.out _ _ _ ?_ ?_ ?_).mono ?_; exact g1; exact g2; exact g3; rintro e w3 ⟨rfl, t4⟩; have h0 := ((PP.out.2.2.1.drew.ext g4).ext t4).cell (i := 0) rfl; have h1 := ((PP.out.2.2.1.drew.ext g4).ext t4).cell (i := 1) rfl; have h2 := ((PP.out.2.2.1.drew.ext g4).ext t4).frozen 0; have h3 := ((PP.out.2.2.1.drew.ext g4).ext t4).frozen 1))
      go_wp2_with fail
      obtain ⟨p0, p1, p2, px, ps⟩ := PP.out
      have r3 := (((p2.drew.ext g4).ext t4).set 0 (.bool (decide (y < 0)))).set 1 (.slice a2 (dg 10 m2).length c2)
      have z0 := r3.cell (i := 0) rfl
      have z1 := r3.cell (i := 1) rfl
      refine bodyPost_ret (v := .agg #[.bool (decide (y < 0)), .slice a2 (dg 10 m2).length c2]) ?_ rfl ?_
      · simp [results, Try.f54, go_sem, z0, z1]
      · have hz1 := g4.size
        simp only [World.drew] at hz1
        have hgs := num_store (w := w) (z := y) (g := w.heap.size + 1 + 1) (c := c2) (a := a2) (by omega) (px.drew.trans g4) (w' := w3) (by rw [IsNum, HNAT.out]; exact ⟨g1, g2, g3.ext t4⟩) t4 (fun ad e => by have := g5 _ e; simp only [World.drew] at this; omega) (.bool (decide (y < 0))) (.slice a2 (dg 10 m2).length c2)
        rw [HNAT.out] at hgs
        exact hgs
  · have HF := HY0.out he
    rw [HF] at HO0
    have HNAT : Hid (y.natAbs = m0) := by show _ = _; rw [← HF, sz_abs]
    have HE := Lib.hid he
    clear HS1 HS2 HO1 HO2 HY0 HY1 HY2 hn1 HF HC
    go_enter Try.func54, Try.ntmps54
    go_wp2_with fail
    obtain ⟨W0, hW0, q0, q1, q2, x0, hs0⟩ := two_nums w (.bool s1) (.slice a na ca) (.bool s2) (.slice b nb cb)
    rw [hW0]
    have k0 := q0.cell (i := 0) rfl
    have k1 := q0.cell (i := 1) rfl
    have k2 := q1.cell (i := 0) rfl
    have k3 := q1.cell (i := 1) rfl
    have QQ := Lib.hid (And.intro q0 (And.intro q1 (And.intro q2 (And.intro x0 hs0))))
    clear hW0 q0 q1 q2 x0 hs0
    go_wp2_with fail
    obtain ⟨w1, hw1⟩ : ∃ w1, W0 = w1 := ⟨_, rfl⟩
    have g0 : Ext (W0) w1 := by rw [← hw1]; exact Ext.refl _
    rw [hw1]
    clear hw1
    have p0 := Row.ext (show Row (W0) _ _ _ from QQ.out.1) g0
    have p1 := Row.ext (show Row (W0) _ _ _ from QQ.out.2.1) g0
    have p2 := Row.ext (show Row (W0) _ _ _ from QQ.out.2.2.1) g0
    have px := QQ.out.2.2.2.1.trans g0
    have ps : w.heap.size + 1 + 1 + 1 ≤ w1.heap.size := by have h1 := g0.size; have h2 := QQ.out.2.2.2.2; omega
    have PP := Lib.hid (And.intro p0 (And.intro p1 (And.intro p2 (And.intro px ps))))
    have k0 := p0.cell (i := 0) rfl
    have k1 := p0.cell (i := 1) rfl
    have k2 := p1.cell (i := 0) rfl
    have k3 := p1.cell (i := 1) rfl
    clear p0 p1 p2 px ps
    go_region_held3 (fun w' => w'.cell? ⟨w.heap.size, 0, none⟩ = some (.bool s1) ∧ w'.cell? ⟨w.heap.size, 1, none⟩ = some (.slice a na ca) ∧ w'.cell? ⟨w.heap.size + 1, 0, none⟩ = some (.bool s2) ∧ w'.cell? ⟨w.heap.size + 1, 1, none⟩ = some (.slice b nb cb)) (first | exact held4n PP.out.1.drew PP.out.2.1.drew | exact held4n (row_far2 (PP.out.1.drew.ext (Ext.trans g4 t4)) (by omega) _ _) (row_far2 (PP.out.2.1.drew.ext (Ext.trans g4 t4)) (by omega) _ _) | exact held4n (PP.out.1.drew.ext (Ext.trans g4 t4)) (PP.out.2.1.drew.ext (Ext.trans g4 t4)) | exact held4n (PP.out.1.drew.ext g4) (PP.out.2.1.drew.ext g4)) (first
      | (go_at_call 126; refine (HA.out _ ?_ ?_).mono ?_; exact (r1.ext PP.out.2.2.2.1).drew; exact (r2.ext PP.out.2.2.2.1).drew; rintro e w2 ⟨v2, rfl, own2, g4⟩; obtain ⟨a2, c2, rfl, g1, g2, g3⟩ := own_form own2; have g5 := own_from own2)
      | (go_at_call 117; refine (HO0.out _ _ _ ?_ ?_ ?_).mono ?_; exact g1; exact g2; exact g3; rintro e w3 ⟨rfl, t4⟩; have h0 := ((PP.out.2.2.1.drew.ext g4).ext t4).cell (i := 0) rfl; have h1 := ((PP.out.2.2.1.drew.ext g4).ext t4).cell (i := 1) rfl; have h2 := ((PP.out.2.2.1.drew.ext g4).ext t4).frozen 0; have h3 := ((PP.out.2.2.1.drew.ext g4).ext t4).frozen 1))
    go_wp2_with fail
    obtain ⟨p0, p1, p2, px, ps⟩ := PP.out
    have r3 := (((p2.drew.ext g4).ext t4).set 0 (.bool (decide (y < 0)))).set 1 (.slice a2 (dg 10 m0).length c2)
    have z0 := r3.cell (i := 0) rfl
    have z1 := r3.cell (i := 1) rfl
    refine bodyPost_ret (v := .agg #[.bool (decide (y < 0)), .slice a2 (dg 10 m0).length c2]) ?_ rfl ?_
    · simp [results, Try.f54, go_sem, z0, z1]
    · have hz1 := g4.size
      simp only [World.drew] at hz1
      have hgs := num_store (w := w) (z := y) (g := w.heap.size + 1 + 1) (c := c2) (a := a2) (by omega) (px.drew.trans g4) (w' := w3) (by rw [IsNum, HNAT.out]; exact ⟨g1, g2, g3.ext t4⟩) t4 (fun ad e => by have := g5 _ e; simp only [World.drew] at this; omega) (.bool (decide (y < 0))) (.slice a2 (dg 10 m0).length c2)
      rw [HNAT.out] at hgs
      exact hgs
end Go.Proofs.Ytogodjiemgilaaa

/- The reference's Neg, Of, Int. -/
namespace Go.Proofs.Ytogodjiemgilaaa
open Go.RowKit

set_option maxRecDepth 100000 in
set_option maxHeartbeats 1000000 in
theorem rneg_walk (z : Int) (a : Option Addr) (c : Nat) (w : World) (h : IsNum w z a c) :
    Calls Try.prog 58 #[.agg #[.bool (decide (z < 0)), .slice a (dg 10 z.natAbs).length c]] w (GotNum (-z) w) := by
  obtain ⟨h1, h2, h3⟩ := h
  have HO := Lib.hid (fun W (hr : Rd W a (ks .i64 (dg 10 z.natAbs))) => rmk_walk (!decide (z < 0)) z.natAbs a c W h1 h2 hr)
  have hz : sz (!decide (z < 0)) z.natAbs = -z := by unfold sz; by_cases hz : z < 0 <;> simp [hz] <;> omega
  rw [hz] at HO
  obtain ⟨y, hy⟩ : ∃ y, y = -z := ⟨_, rfl⟩
  have hyn : Hid (y.natAbs = z.natAbs) := by show _ = _; omega
  rw [← hy] at HO ⊢
  have H1 := Lib.hid (And.intro h1 (And.intro h2 h3))
  clear hz hy h1 h2 h3
  generalize z.natAbs = n at *
  generalize decide (z < 0) = s at *
  obtain ⟨na, hna⟩ : ∃ x, (dg 10 n).length = x := ⟨_, rfl⟩
  have HNA := Lib.hid hna
  rw [hna] at HO ⊢
  clear hna
  go_enter Try.func58, Try.ntmps58
  go_wp2_with fail
  refine (HO.out _ ((H1.out.2.2.alloc _).alloc _)).mono ?_
  rintro e w1 ⟨rfl, g1⟩
  have r1 := (Row.new (w.alloc (.cells #[.bool s, .slice a na c] 72)) 72 [.bool false, .slice none 0 0]).ext g1
  rw [World.size_alloc] at r1
  have k0 := r1.cell (i := 0) rfl
  have k1 := r1.cell (i := 1) rfl
  have f0 := r1.frozen 0
  have f1 := r1.frozen 1
  have R1 := Lib.hid r1
  clear r1
  go_wp2_with fail
  have r2 := (R1.out.set 0 (.bool (decide (y < 0)))).set 1 (.slice a na c)
  have z0 := r2.cell (i := 0) rfl
  have z1 := r2.cell (i := 1) rfl
  have xx : Ext w ((w1.setCell ⟨w.heap.size + 1, 0, none⟩ (.bool (decide (y < 0)))).setCell ⟨w.heap.size + 1, 1, none⟩ (.slice a na c)) := ((((Ext.new w _).alloc _).trans g1).set (p := ⟨w.heap.size + 1, 0, none⟩) (Nat.le_succ _) _).set (p := ⟨w.heap.size + 1, 1, none⟩) (Nat.le_succ _) _
  refine bodyPost_ret (v := .agg #[.bool (decide (y < 0)), .slice a na c]) (by simp [results, Try.f58, go_sem, z0, z1]) rfl ⟨a, c, by rw [hyn.out, HNA.out], by rw [IsNum, hyn.out]; exact ⟨H1.out.1, H1.out.2.1, H1.out.2.2.ext xx⟩, xx⟩

set_option maxRecDepth 100000 in
set_option maxHeartbeats 4000000 in
theorem rof_walk (z : Int) (a : Option Addr) (ca : Nat) (w : World) (hb : (dg BB z.natAbs).length ≤ 100000) (h : IsInt w z a ca) :
    Calls Try.prog 48 #[.agg #[.bool (decide (z < 0)), .slice a (dg BB z.natAbs).length ca]] w (GotNum z w) := by
  have hr := h.2.2
  have hnb := lt_pow_len BB_gt z.natAbs
  obtain ⟨y, hy⟩ : ∃ y, y = z := ⟨_, rfl⟩
  have hsz : sz (decide (z < 0)) z.natAbs = y := by rw [hy]; exact sz_self z
  have hyn : y.natAbs = z.natAbs := by rw [hy]
  suffices hmain : Calls Try.prog 48 #[.agg #[.bool (decide (z < 0)), .slice a (dg BB z.natAbs).length ca]] w (GotNum y w) by rw [← hy]; exact hy ▸ hmain
  clear h hy
  generalize z.natAbs = n at *
  generalize decide (z < 0) = s at *
  obtain ⟨l, hl⟩ : ∃ l, l = dg BB n := ⟨_, rfl⟩
  have hdig : ∀ i (hi : i < l.length), l[i] = n / BB ^ i % BB := fun i hi => by subst hl; exact dg_at BB_gt hi
  rw [← hl] at hr hb hnb ⊢
  have HNB := Lib.hid hnb
  have HDIG := Lib.hid hdig
  have HR := Lib.hid hr
  have HSZ := Lib.hid hsz
  have HYN := Lib.hid hyn
  clear hl hdig hnb hr hsz hyn
  go_enter Try.func48, Try.ntmps48
  go_wp2_with fail
  obtain ⟨W1, hW1⟩ : ∃ W1, (w.alloc (.cells #[.bool s, .slice a l.length ca] 69)).alloc (.cells #[.bool false, .slice none 0 0] 72) = W1 := ⟨_, rfl⟩
  have q0 : Row W1 w.heap.size 69 [.bool s, .slice a l.length ca] := by rw [← hW1]; exact (Row.new w _ [_, _]).alloc _
  have q1 : Row W1 (w.heap.size + 1) 72 [.bool false, .slice none 0 0] := by
    rw [← hW1]
    have := Row.new (w.alloc (.cells #[.bool s, .slice a l.length ca] 69)) 72 [.bool false, .slice none 0 0]
    rwa [World.size_alloc] at this
  have x1 : Ext w W1 := by rw [← hW1]; exact (Ext.new _ _).alloc _
  have hs1 : W1.heap.size = w.heap.size + 1 + 1 := by rw [← hW1]; simp
  rw [hW1]
  have own0 := own_empty W1 W1.heap.size (Nat.le_refl _)
  rw [hs1] at own0
  have HS1 := Lib.hid hs1
  clear hW1 hs1
  go_loopw [3, 4] (fun o iv wr => ∃ i : Nat, i ≤ l.length ∧ iv = .int .i64 i ∧ wr.ownsRow (w.heap.size + 1 + 1) 3 1 o (9 * i) (ks .i64 (fixd 10 (9 * i) n)) ∧ Ext W1 wr) (fun _ iv _ => l.length - (intOf iv).toNat)
  case atStart => exact ⟨0, by omega, rfl, own0, Ext.new _ _⟩
  case round =>
    obtain ⟨i, hi, rfl, hown, hext⟩ := hrel
    have k0 := (q0.ext hext).cell (i := 0) rfl
    have k1 := (q0.ext hext).cell (i := 1) rfl
    by_cases hlt : i < l.length
    · obtain ⟨b0, ob, rfl, hcb⟩ := (HR.out.ext (x1.trans hext)).num (i := i) hlt
      have hx : l[i] < 1000000000 := by rw [HDIG.out i hlt]; exact Nat.mod_lt _ (by decide)
      have hxk : Hid (l[i] = n / BB ^ i % BB) := HDIG.out i hlt
      generalize l[i] = x at *
      go_wp2_with fail
      clear k0 k1 hcb
      go_loopw [3, 5, 6] (fun o d kv wr2 => ∃ k : Nat, k ≤ 9 ∧ kv = .int .i64 k ∧ d = .int .i64 ((x / 10 ^ k : Nat) : Int) ∧ wr2.ownsRow (w.heap.size + 1 + 1) 3 1 o (9 * i + k) (ks .i64 (fixd 10 (9 * i + k) n)) ∧ Ext W1 wr2) (fun _ _ kv _ => 10 - (intOf kv).toNat)
      case atStart => exact ⟨0, by omega, rfl, by simp, hown, hext⟩
      case round =>
        obtain ⟨k, hk, rfl, rfl, hown2, hext2⟩ := hrel
        have k0 := (q0.ext hext2).cell (i := 0) rfl
        have k1 := (q0.ext hext2).cell (i := 1) rfl
        by_cases hk9 : k < 9
        · have HD : Hid (x / 10 ^ k % 10 = n / 10 ^ (9 * i + k) % 10) := by show _ = _; rw [hxk.out]; exact dig_at n i k hk9
          have HS : Hid (x / 10 ^ k / 10 = x / 10 ^ (k + 1)) := by show _ = _; rw [Nat.div_div_eq_div_mul, Nat.pow_succ]
          have hy : x / 10 ^ k < 1000000000 := Nat.lt_of_le_of_lt (Nat.div_le_self _ _) hx
          have hown3 : wr.ownsRow W1.heap.size 3 1 u3 (9 * i + k) (ks .i64 (fixd 10 (9 * i + k) n)) := by rw [HS1.out]; exact hown2
          generalize hyy : x / 10 ^ k = y at *
          clear hyy hown2
          go_wp2_with (at_builtin; refine append_elem elemI64 hown3 hext2 (by unfold maxLen; omega) (by omega) rfl (by simp [Value.oneCell']) rfl _ _ rfl rfl rfl ?_; intro v' w1 own1 ext1 _)
          go_roundw
          case rel =>
            refine ⟨k + 1, by omega, by go_num, by rw [← HS.out]; rfl, ?_, ext1⟩
            rw [HS1.out] at own1
            rw [show 9 * i + (k + 1) = 9 * i + k + 1 by omega, fixd_succ, ks_append, ← HD.out]
            exact own1
          case measure => simp [intOf] <;> omega
        · have hk9' : k = 9 := by omega
          subst hk9'
          generalize x / 10 ^ 9 = y at *
          go_wp2_with fail
          go_roundw
          case rel => exact ⟨i + 1, by omega, by go_num, by rw [show 9 * (i + 1) = 9 * i + 9 by omega]; exact hown2, hext2⟩
          case measure => simp [intOf] <;> omega
    · obtain rfl : i = l.length := by omega
      obtain ⟨a1, c1, rfl, g1, g2, g3⟩ := own_form hown
      have hv : val 10 (fixd 10 (9 * l.length) n) = n := by rw [fixd_val, ← BB_pow]; exact Nat.mod_eq_of_lt HNB.out
      have HM := Lib.hid (rmake1_walk s a1 c1 (fixd 10 (9 * l.length) n) (9 * l.length) wr (fun d hd => fixd_lt ten_gt hd) (fixd_len _ _ _) g1 g2 g3)
      rw [hv, HSZ.out] at HM
      have hle : (dg 10 n).length ≤ 9 * l.length := by rw [dg_len_le ten_gt, ← BB_pow]; exact HNB.out
      have hR : Rd wr a1 (ks .i64 (dg 10 n)) := by
        have h6 := g3.take (stripN (fixd 10 (9 * l.length) n) (fixd 10 (9 * l.length) n).length)
        rw [ks_take] at h6
        have : strip (fixd 10 (9 * l.length) n) = dg 10 n := by rw [strip_dg ten_gt _ (fun d hd => fixd_lt ten_gt hd), hv]
        rw [show (fixd 10 (9 * l.length) n).take (stripN (fixd 10 (9 * l.length) n) (fixd 10 (9 * l.length) n).length) = dg 10 n from this] at h6
        exact h6
      have G := Lib.hid (And.intro hR (And.intro (Nat.le_trans hle g1) (And.intro g2 (own_from hown))))
      obtain ⟨lm, hlm⟩ : ∃ x, (dg 10 n).length = x := ⟨_, rfl⟩
      have HLM := Lib.hid hlm
      rw [hlm] at HM
      clear hv hle hR g1 g2 g3 hown hlm
      have Q1 := Lib.hid (q1.ext hext)
      go_wp2_with fail
      refine HM.out.mono ?_
      rintro e w3 ⟨rfl, t4⟩
      have q3 := Q1.out.ext t4
      have e0 := q3.cell (i := 0) rfl
      have e1 := q3.cell (i := 1) rfl
      have f0 := q3.frozen 0
      have f1 := q3.frozen 1
      have Q3 := Lib.hid q3
      clear q3 k0 k1
      go_wp2_with fail
      have r9 := (Q3.out.set 0 (.bool (decide (y < 0)))).set 1 (.slice a1 lm c1)
      have z0 := r9.cell (i := 0) rfl
      have z1 := r9.cell (i := 1) rfl
      have hgs := num_store (w := w) (z := y) (g := w.heap.size + 1) (c := c1) (a := a1) (by omega) (x1.trans hext) (w' := w3) (by rw [IsNum, HYN.out]; exact ⟨G.out.2.1, G.out.2.2.1, G.out.1.ext t4⟩) t4 (fun ad e => by have := G.out.2.2.2 _ e; omega) (.bool (decide (y < 0))) (.slice a1 lm c1)
      rw [HYN.out, HLM.out] at hgs
      exact bodyPost_ret (v := .agg #[.bool (decide (y < 0)), .slice a1 lm c1]) (by simp [results, Try.f48, go_sem, z0, z1]) rfl hgs
end Go.Proofs.Ytogodjiemgilaaa

/- WholeOrder: the walk. -/
namespace Go.Proofs.Ytogodjiemgilaaa
open Go.RowKit

theorem cmpZ_add (x y z : Int) : cmpZ (x + z) (y + z) = cmpZ x y := by unfold cmpZ; (repeat' split) <;> omega
theorem cmpZ_swap (x y : Int) : cmpZ y x = -cmpZ x y := by unfold cmpZ; (repeat' split) <;> omega
theorem cmpZ_bd (x y : Int) : -1 ≤ cmpZ x y ∧ cmpZ x y ≤ 1 := by unfold cmpZ; (repeat' split) <;> omega
theorem cmpZ_mul (x y z : Int) : cmpZ (x * z) (y * z) = cmpZ x y * cmpZ z 0 := by
  rcases Int.lt_trichotomy z 0 with h | h | h
  · have e1 : cmpZ z 0 = -1 := by unfold cmpZ; rw [if_pos h]
    rw [e1, Int.mul_neg, Int.mul_one, ← cmpZ_swap]
    rcases Int.lt_trichotomy x y with g | g | g
    · have := Int.mul_lt_mul_of_neg_right g h
      unfold cmpZ; (repeat' split) <;> omega
    · subst g; unfold cmpZ; (repeat' split) <;> omega
    · have := Int.mul_lt_mul_of_neg_right g h
      unfold cmpZ; (repeat' split) <;> omega
  · subst h; simp [cmpZ]
  · have e1 : cmpZ z 0 = 1 := by unfold cmpZ; rw [if_neg (by omega), if_neg (by omega)]
    rw [e1, Int.mul_one]
    rcases Int.lt_trichotomy x y with g | g | g
    · have := Int.mul_lt_mul_of_pos_right g h
      unfold cmpZ; (repeat' split) <;> omega
    · subst g; unfold cmpZ; (repeat' split) <;> omega
    · have := Int.mul_lt_mul_of_pos_right g h
      unfold cmpZ; (repeat' split) <;> omega

/-- what the law's cells hold -/
def H3 (w W : World) (u0 u1 v0 v1 t0 t1 : Value) : Prop := Row W w.heap.size 69 [u0, u1] ∧ Row W (w.heap.size + 1) 69 [v0, v1] ∧ Row W (w.heap.size + 1 + 1) 69 [t0, t1]
theorem H3.ext {w W W' : World} {u0 u1 v0 v1 t0 t1 : Value} (h : H3 w W u0 u1 v0 v1 t0 t1) (e : Ext W W') : H3 w W' u0 u1 v0 v1 t0 t1 := ⟨h.1.ext e, h.2.1.ext e, h.2.2.ext e⟩
theorem H3.drew {w W : World} {u0 u1 v0 v1 t0 t1 : Value} (h : H3 w W u0 u1 v0 v1 t0 t1) : H3 w W.drew u0 u1 v0 v1 t0 t1 := h
theorem H3.cells {w W : World} {u0 u1 v0 v1 t0 t1 : Value} (h : H3 w W u0 u1 v0 v1 t0 t1) :
    W.cell? ⟨w.heap.size, 0, none⟩ = some u0 ∧ W.cell? ⟨w.heap.size, 1, none⟩ = some u1 ∧ W.cell? ⟨w.heap.size + 1, 0, none⟩ = some v0 ∧ W.cell? ⟨w.heap.size + 1, 1, none⟩ = some v1 ∧ W.cell? ⟨w.heap.size + 1 + 1, 0, none⟩ = some t0 ∧ W.cell? ⟨w.heap.size + 1 + 1, 1, none⟩ = some t1 :=
  ⟨h.1.cell (i := 0) rfl, h.1.cell (i := 1) rfl, h.2.1.cell (i := 0) rfl, h.2.1.cell (i := 1) rfl, h.2.2.cell (i := 0) rfl, h.2.2.cell (i := 1) rfl⟩
theorem H3.new (w : World) (u0 u1 v0 v1 t0 t1 : Value) : ∃ W0, ((w.alloc (.cells #[u0, u1] 69)).alloc (.cells #[v0, v1] 69)).alloc (.cells #[t0, t1] 69) = W0 ∧ H3 w W0 u0 u1 v0 v1 t0 t1 ∧ Ext w W0 := by
  refine ⟨_, rfl, ⟨((Row.new w _ [_, _]).alloc _).alloc _, ?_, ?_⟩, ((Ext.new _ _).alloc _).alloc _⟩
  · have := (Row.new (w.alloc (.cells #[u0, u1] 69)) 69 [v0, v1]).alloc (.cells #[t0, t1] 69)
    rwa [World.size_alloc] at this
  · have := Row.new ((w.alloc (.cells #[u0, u1] 69)).alloc (.cells #[v0, v1] 69)) 69 [t0, t1]
    rwa [World.size_alloc, World.size_alloc] at this

/-- Odd of three integers that the law has boxed -/
theorem odd3 (x y z : AInt) (W : World) (h : x.ok W) (k : y.ok W) (l : z.ok W) :
    Calls Try.prog 47 #[.slice (some ⟨W.heap.size, 0, none⟩) 3 3] (W.alloc (.cells #[.bool x.s, .slice x.a x.l.length x.c, .bool y.s, .slice y.a y.l.length y.c, .bool z.s, .slice z.a z.l.length z.c] 69)) fun e w' => e = .returned (.bool ([x, y, z].any AInt.odd)) ∧ Ext (W.alloc (.cells #[.bool x.s, .slice x.a x.l.length x.c, .bool y.s, .slice y.a y.l.length y.c, .bool z.s, .slice z.a z.l.length z.c] 69)) w' := by
  have r := Row.new W 69 (flatA [x, y, z])
  refine odd1_walk [x, y, z] W.heap.size 0 3 _ (by simp) (fun j u hu => ?_) ?_
  · rw [Nat.zero_add]; exact r.cell hu
  · intro q hq
    simp only [List.mem_cons, List.not_mem_nil, or_false] at hq
    rcases hq with rfl | rfl | rfl
    · exact h.ext (Ext.new _ _)
    · exact k.ext (Ext.new _ _)
    · exact l.ext (Ext.new _ _)

set_option maxRecDepth 100000 in
set_option maxHeartbeats 2000000 in
theorem worder_odd (x y z : AInt) (n : Int) (w : World) (hx : x.ok w) (hy : y.ok w) (hz : z.ok w) (ho : [x, y, z].any AInt.odd = true) :
    Calls Try.prog 8 #[x.v, y.v, z.v, .int .i64 n] w fun e w' => e = .returned (.bool true) ∧ Ext w w' := by
  have HO := Lib.hid (fun W (h : x.ok W) (k : y.ok W) (l : z.ok W) => odd3 x y z W h k l)
  rw [ho] at HO
  have HX := Lib.hid hx
  have HY := Lib.hid hy
  have HZ := Lib.hid hz
  clear ho hx hy hz
  obtain ⟨s1, a1, l1, c1⟩ := x
  obtain ⟨s2, a2, l2, c2⟩ := y
  obtain ⟨s3, a3, l3, c3⟩ := z
  unfold AInt.v
  simp only at HO ⊢
  generalize l1.length = n1 at *
  generalize l2.length = n2 at *
  generalize l3.length = n3 at *
  go_enter Try.func8, Try.ntmps8
  go_wp2_with fail
  obtain ⟨W0, hW0, q0, x0⟩ := H3.new w (.bool s1) (.slice a1 n1 c1) (.bool s2) (.slice a2 n2 c2) (.bool s3) (.slice a3 n3 c3)
  rw [hW0]
  clear hW0
  refine (speaks1_walk _).mono ?_
  rintro e w1 ⟨rfl, x1⟩
  obtain ⟨k0, k1, k2, k3, k4, k5⟩ := (q0.ext x1).cells
  go_wp2_with fail
  trace_state
  refine (HO.out _ (HX.out.ext (x0.trans x1)) (HY.out.ext (x0.trans x1)) (HZ.out.ext (x0.trans x1))).mono ?_
  rintro e w2 ⟨rfl, x2⟩
  go_wp2_with fail
  go_ret
  exact ⟨rfl, ((x0.trans x1).trans (Ext.new _ _)).trans x2⟩
end Go.Proofs.Ytogodjiemgilaaa

/- WholeOrder: the walk where the integers are right. -/
namespace Go.Proofs.Ytogodjiemgilaaa
open Go.RowKit

/-- an integer that is handed back -/
def GI (z : Int) (W : World) (e : Ending) (w' : World) : Prop := ∃ a c, e = .returned (.agg #[.bool (decide (z < 0)), .slice a (dg BB z.natAbs).length c]) ∧ IsInt w' z a c ∧ Ext W w'
theorem GI.of {z : Int} {W : World} {e : Ending} {w' : World} (h : GotInt W z e w') : GI z W e w' := GotInt.isInt h

set_option maxRecDepth 100000 in
set_option maxHeartbeats 8000000 in
theorem worder_even (z1 z2 z3 : Int) (a1 a2 a3 : Option Addr) (c1 c2 c3 : Nat) (n : Int) (w : World) (i1 : IsInt w z1 a1 c1) (i2 : IsInt w z2 a2 c2) (i3 : IsInt w z3 a3 c3)
    (b1 : (dg BB z1.natAbs).length ≤ 10) (b2 : (dg BB z2.natAbs).length ≤ 10) (b3 : (dg BB z3.natAbs).length ≤ 10) (hn1 : -9223372036854775808 ≤ n) (hn2 : n < 9223372036854775808)
    (HO : ∀ W, Ext w W → Calls Try.prog 47 #[.slice (some ⟨W.heap.size, 0, none⟩) 3 3] (W.alloc (.cells #[.bool (decide (z1 < 0)), .slice a1 (dg BB z1.natAbs).length c1, .bool (decide (z2 < 0)), .slice a2 (dg BB z2.natAbs).length c2, .bool (decide (z3 < 0)), .slice a3 (dg BB z3.natAbs).length c3] 69)) fun e w' => e = .returned (.bool false) ∧ Ext (W.alloc (.cells #[.bool (decide (z1 < 0)), .slice a1 (dg BB z1.natAbs).length c1, .bool (decide (z2 < 0)), .slice a2 (dg BB z2.natAbs).length c2, .bool (decide (z3 < 0)), .slice a3 (dg BB z3.natAbs).length c3] 69)) w') :
    Calls Try.prog 8 #[.agg #[.bool (decide (z1 < 0)), .slice a1 (dg BB z1.natAbs).length c1], .agg #[.bool (decide (z2 < 0)), .slice a2 (dg BB z2.natAbs).length c2], .agg #[.bool (decide (z3 < 0)), .slice a3 (dg BB z3.natAbs).length c3], .int .i64 n] w fun e w' => e = .returned (.bool true) ∧ Ext w w' := by
  have la13 := len_add z1 z3
  have la23 := len_add z2 z3
  have lm13 := len_mul z1 z3
  have lm23 := len_mul z2 z3
  have ln : (dg BB n.natAbs).length ≤ 3 := by rw [dg_len_le BB_gt]; have : n.natAbs ≤ 9223372036854775808 := by omega
                                              exact Nat.lt_of_le_of_lt this (by decide)
  have HC := fun W (h : IsInt W z1 a1 c1) (k : IsInt W z2 a2 c2) => cmpz_walk z1 z2 a1 a2 c1 c2 W (by omega) (by omega) h k
  have HCS := fun W (h : IsInt W z2 a2 c2) (k : IsInt W z1 a1 c1) => cmpz_walk z2 z1 a2 a1 c2 c1 W (by omega) (by omega) h k
  have HA1 := fun W (h : IsInt W z1 a1 c1) (k : IsInt W z3 a3 c3) => (addz_walk z1 z3 a1 a3 c1 c3 W (by omega) (by omega) h k).mono fun e w' h => GI.of h
  have HA2 := fun W (h : IsInt W z2 a2 c2) (k : IsInt W z3 a3 c3) => (addz_walk z2 z3 a2 a3 c2 c3 W (by omega) (by omega) h k).mono fun e w' h => GI.of h
  have HM1 := fun W (h : IsInt W z1 a1 c1) (k : IsInt W z3 a3 c3) => (mulz_walk z1 z3 a1 a3 c1 c3 W (by omega) (by omega) h k).mono fun e w' h => GI.of h
  have HM2 := fun W (h : IsInt W z2 a2 c2) (k : IsInt W z3 a3 c3) => (mulz_walk z2 z3 a2 a3 c2 c3 W (by omega) (by omega) h k).mono fun e w' h => GI.of h
  have HCA := fun W a b c d (h : IsInt W (z1 + z3) a c) (k : IsInt W (z2 + z3) b d) => cmpz_walk (z1 + z3) (z2 + z3) a b c d W (by omega) (by omega) h k
  have HCM := fun W a b c d (h : IsInt W (z1 * z3) a c) (k : IsInt W (z2 * z3) b d) => cmpz_walk (z1 * z3) (z2 * z3) a b c d W (by omega) (by omega) h k
  have HC0 := fun W (h : IsInt W z3 a3 c3) => cmpz_walk z3 0 a3 none c3 0 W (by omega) (by decide) h ⟨Nat.le_refl _, Nat.zero_le _, Rd.nil _ _⟩
  have HOF := fun W => (ofi_walk n W hn1 hn2).mono fun e w' h => GI.of h
  have HSM := fun W a c (h : IsInt W n a c) => small_walk n a c W (by omega) h
  have hs : small n = true → smallV n = n := fun h => by unfold smallV; rw [h]; rfl
  have hd := cmpZ_swap z1 z2
  have hp := cmpZ_mul z1 z2 z3
  have hb1 := cmpZ_bd z1 z2
  have hb2 := cmpZ_bd z3 0
  rw [cmpZ_add] at HCA
  have hw1 : IntKind.i64.wrap (-cmpZ z2 z1) = cmpZ z1 z2 := by
    rw [hd, Int.neg_neg]; simp only [IntKind.wrap, IntKind.bits, IntKind.signed]; simp; omega
  have hw2 : IntKind.i64.wrap (cmpZ z1 z2 * cmpZ z3 0) = cmpZ (z1 * z3) (z2 * z3) := by
    rw [← hp]
    have := cmpZ_bd (z1 * z3) (z2 * z3)
    simp only [IntKind.wrap, IntKind.bits, IntKind.signed]; simp; omega
  have J := Lib.hid (And.intro i1 (And.intro i2 i3))
  rw [show decide ((0 : Int) < 0) = false from rfl, show (dg BB (0 : Int).natAbs).length = 0 from rfl] at HC0
  clear la13 la23 lm13 lm23 ln b1 b2 b3 i1 i2 i3 hd hp hb1 hb2
  revert HC HCS HA1 HA2 HM1 HM2 HCA HCM HC0 HOF HSM hs hw1 hw2 HO
  unfold GI
  generalize cmpZ z1 z2 = q
  generalize cmpZ z2 z1 = q'
  generalize cmpZ z3 0 = e0
  generalize cmpZ (z1 * z3) (z2 * z3) = p
  generalize decide (z1 + z3 < 0) = s13
  generalize (dg BB (z1 + z3).natAbs).length = l13
  generalize decide (z2 + z3 < 0) = s23
  generalize (dg BB (z2 + z3).natAbs).length = l23
  generalize decide (z1 * z3 < 0) = t13
  generalize (dg BB (z1 * z3).natAbs).length = m13
  generalize decide (z2 * z3 < 0) = t23
  generalize (dg BB (z2 * z3).natAbs).length = m23
  generalize decide (n < 0) = sn
  generalize (dg BB n.natAbs).length = ln
  generalize decide (z1 < 0) = s1
  generalize decide (z2 < 0) = s2
  generalize decide (z3 < 0) = s3
  generalize (dg BB z1.natAbs).length = n1
  generalize (dg BB z2.natAbs).length = n2
  generalize (dg BB z3.natAbs).length = n3
  intro HO HC HCS HA1 HA2 HM1 HM2 HCA HCM HC0 HOF HSM hs hw1 hw2
  have HC := Lib.hid HC
  have HCS := Lib.hid HCS
  have HA1 := Lib.hid HA1
  have HA2 := Lib.hid HA2
  have HM1 := Lib.hid HM1
  have HM2 := Lib.hid HM2
  have HCA := Lib.hid HCA
  have HCM := Lib.hid HCM
  have HC0 := Lib.hid HC0
  have HOF := Lib.hid HOF
  have HSM := Lib.hid HSM
  have HO := Lib.hid HO
  have HS := Lib.hid hs
  clear hs
  go_enter Try.func8, Try.ntmps8
  go_wp2_with fail
  obtain ⟨W0, hW0, q0, x0⟩ := H3.new w (.bool s1) (.slice a1 n1 c1) (.bool s2) (.slice a2 n2 c2) (.bool s3) (.slice a3 n3 c3)
  rw [hW0]
  clear hW0
  refine (speaks1_walk _).mono ?_
  rintro e w1 ⟨rfl, x1⟩
  obtain ⟨k0, k1, k2, k3, k4, k5⟩ := (q0.ext x1).cells
  go_wp2_with fail
  refine (HO.out _ (x0.trans x1)).mono ?_
  rintro e w2 ⟨rfl, x2⟩
  have X2 := (x1.trans (Ext.new _ _)).trans x2
  clear k0 k1 k2 k3 k4 k5
  obtain ⟨k0, k1, k2, k3, k4, k5⟩ := (q0.ext X2).cells
  go_wp2_with fail
  refine (HC.out _ (J.out.1.ext (x0.trans X2)) (J.out.2.1.ext (x0.trans X2))).mono ?_
  rintro e w3 ⟨rfl, x3⟩
  have X3 := X2.trans x3
  clear k0 k1 k2 k3 k4 k5
  obtain ⟨k0, k1, k2, k3, k4, k5⟩ := (q0.ext X3).cells
  have Q := Lib.hid (And.intro q0 (And.intro x0 X3))
  clear q0 x0 x1 x2 x3 X2 X3
  go_wp2_with fail
  have cur := (Ext.refl w3).drew
  go_region_held3 (fun w' => w'.cell? ⟨w.heap.size, 0, none⟩ = some (.bool s1) ∧ w'.cell? ⟨w.heap.size, 1, none⟩ = some (.slice a1 n1 c1) ∧ w'.cell? ⟨w.heap.size + 1, 0, none⟩ = some (.bool s2) ∧ w'.cell? ⟨w.heap.size + 1, 1, none⟩ = some (.slice a2 n2 c2) ∧ w'.cell? ⟨w.heap.size + 1 + 1, 0, none⟩ = some (.bool s3) ∧ w'.cell? ⟨w.heap.size + 1 + 1, 1, none⟩ = some (.slice a3 n3 c3)) (exact (Q.out.1.ext (Q.out.2.2.trans cur)).cells) (first
    | (have hh := D7; go_at_call 61; refine (HC0.out _ ?_).mono ?_; exact J.out.2.2.ext ((Q.out.2.1.trans Q.out.2.2).trans cur); rintro e wn7 ⟨rfl, g⟩; have cur := cur.trans g; have D8 := trivial)
    | (have hh := D6; go_at_call 61; refine (HCM.out _ _ _ _ _ ?_ ?_).mono ?_; exact m5; exact m6; rintro e wn6 ⟨rfl, g⟩; have m5 := m5.ext g; have m6 := m6.ext g; have cur := cur.trans g; have D7 := trivial)
    | (have hh := D5; go_at_call 55; refine (HM2.out _ ?_ ?_).mono ?_; exact J.out.2.1.ext ((Q.out.2.1.trans Q.out.2.2).trans cur); exact J.out.2.2.ext ((Q.out.2.1.trans Q.out.2.2).trans cur); rintro e wn5 ⟨e4, d4, rfl, m6, g⟩; have m5 := m5.ext g; have cur := cur.trans g; have D6 := trivial)
    | (have hh := D4; go_at_call 55; refine (HM1.out _ ?_ ?_).mono ?_; exact J.out.1.ext ((Q.out.2.1.trans Q.out.2.2).trans cur); exact J.out.2.2.ext ((Q.out.2.1.trans Q.out.2.2).trans cur); rintro e wn4 ⟨e3, d3, rfl, m5, g⟩; have cur := cur.trans g; have D5 := trivial)
    | (have hh := D3; go_at_call 61; refine (HCS.out _ ?_ ?_).mono ?_; exact J.out.2.1.ext ((Q.out.2.1.trans Q.out.2.2).trans cur); exact J.out.1.ext ((Q.out.2.1.trans Q.out.2.2).trans cur); rintro e wn3 ⟨rfl, g⟩; have cur := cur.trans g; have D4 := trivial)
    | (have hh := D2; go_at_call 61; refine (HCA.out _ _ _ _ _ ?_ ?_).mono ?_; exact m1; exact m2; rintro e wn2 ⟨rfl, g⟩; have m1 := m1.ext g; have m2 := m2.ext g; have cur := cur.trans g; have D3 := trivial)
    | (have hh := D1; go_at_call 52; refine (HA2.out _ ?_ ?_).mono ?_; exact J.out.2.1.ext ((Q.out.2.1.trans Q.out.2.2).trans cur); exact J.out.2.2.ext ((Q.out.2.1.trans Q.out.2.2).trans cur); rintro e wn1 ⟨e2, d2, rfl, m2, g⟩; have m1 := m1.ext g; have cur := cur.trans g; have D2 := trivial)
    | (go_at_call 52; refine (HA1.out _ ?_ ?_).mono ?_; exact J.out.1.ext ((Q.out.2.1.trans Q.out.2.2).trans cur); exact J.out.2.2.ext ((Q.out.2.1.trans Q.out.2.2).trans cur); rintro e wn0 ⟨e1, d1, rfl, m1, g⟩; have cur := cur.trans g; have D1 := trivial))
  have X9 := Q.out.2.2.trans cur
  have X0 := Q.out.2.1
  cases hsn : small n
  · rw [hsn] at HSM
    go_wp2_with fail
    refine (HOF.out _).mono ?_
    rintro e wa ⟨aa, ca, rfl, ia, ga⟩
    go_wp2_with fail
    refine (HSM.out _ _ _ ia).mono ?_
    rintro e wb ⟨rfl, gb⟩
    go_wp2_with fail
    go_ret
    exact ⟨rfl, ((X0.trans X9).trans ga).trans gb⟩
  · rw [hsn, HS.out hsn] at HSM
    go_wp2_with fail
    refine (HOF.out _).mono ?_
    rintro e wa ⟨aa, ca, rfl, ia, ga⟩
    go_wp2_with fail
    refine (HSM.out _ _ _ ia).mono ?_
    rintro e wb ⟨rfl, gb⟩
    go_wp2_with fail
    go_ret
    exact ⟨rfl, ((X0.trans X9).trans ga).trans gb⟩
end Go.Proofs.Ytogodjiemgilaaa

/- Parse. -/
namespace Go.Proofs.Ytogodjiemgilaaa
open Go.RowKit

/-- the bytes of a text -/
def byt (s : ByteArray) : List Nat := s.data.toList.map UInt8.toNat
theorem byt_len (s : ByteArray) : (byt s).length = s.size := by unfold byt; rw [List.length_map]; rfl
theorem byt_get (s : ByteArray) (i : Nat) (h : i < s.size) : (byt s)[i]'(by rw [byt_len]; exact h) = s[i].toNat := by
  simp only [byt, List.getElem_map]
  rfl
theorem byt_lt (s : ByteArray) : ∀ d ∈ byt s, d < 256 := by
  intro d hd
  simp only [byt, List.mem_map] at hd
  obtain ⟨x, _, rfl⟩ := hd
  exact x.toNat_lt
theorem byt_extract (s : ByteArray) (i j : Nat) : byt (s.extract i j) = ((byt s).take j).drop i := by
  simp [byt, ByteArray.data_extract, Array.toList_extract, List.extract_eq_take_drop, List.drop_take]
/-- []byte(s) -/
theorem conv_text (w : World) (s : ByteArray) : ∃ c w', (convert 9 59 (.string s)).run Try.prog w = .ok (.slice (some ⟨w.heap.size, 0, none⟩) s.size c) w' ∧ Ext w w' ∧ Rd w' (some ⟨w.heap.size, 0, none⟩) (ks .u8 (byt s)) := by
  refine ⟨_, _, run_bytes_of_string w 9 59 5 s Try.underlying9 Try.underlying59 Try.underlying5, ((Ext.refl w).drew).alloc _, ?_⟩
  refine .inr ⟨w.heap.size, 0, rfl, fun j u hu => ?_⟩
  have hh := heap_alloc_new w.drew (.cells (bytesRow s (grownCap w s.size 0 5)) 5 ((bytesRow s (grownCap w s.size 0 5)).size, (bytesRow s (grownCap w s.size 0 5)).size + 1))
  rw [Nat.zero_add]
  rw [cell_of_row _ w.heap.size j _ _ _ hh]
  have hj : j < s.data.size := by
    have := (List.getElem?_eq_some_iff.1 hu).1
    rw [ks_len, byt_len] at this
    exact this
  rw [← hu, bytesRow_at _ _ _ hj]
  rw [ks, byt, List.map_map, List.getElem?_map, Array.getElem?_toList, Array.getElem?_eq_getElem hj]
  rfl
end Go.Proofs.Ytogodjiemgilaaa

/- Parse: what it gives, and its walk. -/
namespace Go.Proofs.Ytogodjiemgilaaa
open Go.RowKit

def isD (c : Nat) : Bool := decide (48 ≤ c) && decide (c ≤ 57)
def dgt (c : Nat) : Nat := if isD c then c - 48 else 0
theorem dgt_lt (c : Nat) : dgt c < 10 := by
  unfold dgt isD; split
  · rename_i h; rw [Bool.and_eq_true] at h; have h1 := of_decide_eq_true h.1; have h2 := of_decide_eq_true h.2; omega
  · omega
theorem dgt_of {c : Nat} (h : isD c = true) : dgt c = c - 48 ∧ 48 ≤ c ∧ c ≤ 57 := by
  unfold dgt; rw [if_pos h]; unfold isD at h; rw [Bool.and_eq_true] at h; exact ⟨rfl, of_decide_eq_true h.1, of_decide_eq_true h.2⟩
/-- the number of a text's digits -/
def numU (l : List Nat) : Nat := val 10 (l.reverse.map dgt)
def parseU (l : List Nat) : Option Nat := if 0 < l.length ∧ l.length ≤ 10000 ∧ l.all isD = true then some (numU l) else none
def parseL (l : List Nat) : Option Int := if l[0]?.getD 0 = 45 then (parseU (l.drop 1)).map (sz true) else (parseU l).map (sz false)
theorem numU_lt (l : List Nat) : numU l < 10 ^ l.length := by
  have := val_lt ten_gt (l := l.reverse.map dgt) (fun d hd => by
    simp only [List.mem_map] at hd
    obtain ⟨x, _, rfl⟩ := hd
    exact dgt_lt x)
  rw [List.length_map, List.length_reverse] at this
  exact this
theorem numU_dig (l : List Nat) (j : Nat) (h : j < l.length) : numU l / 10 ^ j % 10 = dgt (l[l.length - 1 - j]?.getD 0) := by
  have hd : ∀ d ∈ l.reverse.map dgt, d < 10 := fun d hd => by
    simp only [List.mem_map] at hd
    obtain ⟨x, _, rfl⟩ := hd
    exact dgt_lt x
  have h1 := fixd_of_val ten_gt (l.reverse.map dgt) hd
  rw [List.length_map, List.length_reverse] at h1
  have h2 := fixd_get (B := 10) (k := numU l) h
  unfold numU at h2 ⊢
  rw [h1, List.getElem?_map, List.getElem?_reverse h] at h2
  rw [List.getElem?_eq_getElem (by omega)] at h2 ⊢
  simpa using (Option.some.inj h2).symm
/-- one more digit of a piece -/
theorem piece_step (N e k : Nat) : N / 10 ^ e % 10 ^ (k + 1) = 10 * (N / 10 ^ (e + 1) % 10 ^ k) + N / 10 ^ e % 10 := by
  rw [Nat.pow_succ 10 k, Nat.mul_comm (10 ^ k) 10, Nat.mod_mul, Nat.div_div_eq_div_mul, show 10 ^ e * 10 = 10 ^ (e + 1) from rfl]
  omega
theorem piece_done (N L i m : Nat) (hN : N < 10 ^ L) (hm : m = 9 ∨ L = 9 * i + m) (h9 : m ≤ 9) : N / 10 ^ (9 * i) % 10 ^ m = N / BB ^ i % BB := by
  rw [BB_pow]
  by_cases h : m = 9
  · subst h; rfl
  · have hL : L = 9 * i + m := by omega
    have h1 : N / 10 ^ (9 * i) < 10 ^ m := by rw [Nat.div_lt_iff_lt_mul (Nat.pow_pos (by decide)), ← Nat.pow_add, Nat.add_comm, ← hL]; exact hN
    rw [Nat.mod_eq_of_lt h1, Nat.mod_eq_of_lt (Nat.lt_of_lt_of_le h1 (by rw [show BB = 10 ^ 9 from rfl]; exact Nat.pow_le_pow_right (by decide) h9))]

theorem own_ext {w w' : World} {base : Nat} {e : TypeId} {size n : Nat} {v : Value} {xs : List Value} (h : w.ownsRow base e size v n xs) (x : Ext w w') : w'.ownsRow base e size v n xs := by
  obtain ⟨h1, h2⟩ := h
  refine ⟨h1, ?_⟩
  rcases h2 with h2 | ⟨g, cap, cur, e1, e2, e3, e4⟩
  · exact .inl h2
  · exact .inr ⟨g, cap, cur, e1, e2, x.obj e3, e4⟩

/-- the results of Parse -/
def GotP (r : Option Int) (W : World) (e : Ending) (w' : World) : Prop :=
  match r with
  | some z => ∃ a c, e = .returned (.tuple #[.agg #[.bool (decide (z < 0)), .slice a (dg BB z.natAbs).length c], .bool true]) ∧ IsInt w' z a c ∧ Ext W w'
  | none => e = .returned (.tuple #[.agg #[.bool false, .slice none 0 0], .bool false]) ∧ Ext W w'

set_option maxRecDepth 100000 in
set_option maxHeartbeats 4000000 in
theorem parse_walk (s : ByteArray) (w : World) (hs : s.size ≤ 1000000) : Calls Try.prog 67 #[.string s] w (GotP (parseL (byt s)) w) := by
  by_cases h0 : s.size = 0
  · have he : byt s = [] := List.length_eq_zero_iff.1 (by rw [byt_len]; exact h0)
    have hr : parseL (byt s) = none := by rw [he]; rfl
    rw [hr]
    clear he hr hs
    go_enter Try.func67, Try.ntmps67
    go_wp2_with fail
    have r9 := Row.new w 69 [.bool false, .slice none 0 0]
    have z0 := r9.cell (i := 0) rfl
    have z1 := r9.cell (i := 1) rfl
    exact bodyPost_ret (v := .tuple #[.agg #[.bool false, .slice none 0 0], .bool false]) (by simp [results, Try.f67, go_sem, z0, z1]) rfl ⟨rfl, Ext.new _ _⟩
  · have hs0 : 0 < s.size := by omega
    have hget : (byt s)[0]?.getD 0 = s[0].toNat := by rw [List.getElem?_eq_getElem (by rw [byt_len]; exact hs0), Option.getD_some, byt_get s 0 hs0]
    by_cases hneg : s[0].toNat = 45
    · have hpl : parseL (byt s) = (parseU (byt (s.extract 1 s.size))).map (sz true) := by
        unfold parseL
        rw [hget, if_pos hneg, byt_extract, List.take_of_length_le (by rw [byt_len]; exact Nat.le_refl _)]
      rw [hpl]
      have n45 : ((s[0].toNat : Int) == 45) = true := by rw [hneg]; rfl
      clear hget
      by_cases hbig : s.size - 1 ≤ 10000 ∧ 0 < s.size - 1
      · obtain ⟨hbig, hs0⟩ := hbig
        have HR : Hid (∀ r, r = (parseU (byt (s.extract 1 s.size))).map (sz true) → (((byt (s.extract 1 s.size)).all isD = true → r = some (sz true (numU (byt (s.extract 1 s.size))))) ∧ ((byt (s.extract 1 s.size)).all isD = false → r = none))) := by
          intro r hr
          have hsz : (byt (s.extract 1 s.size)).length = (s.size - 1) := by rw [byt_len]; rw [ByteArray.size_extract]; omega
          constructor
          · intro h; rw [hr]; unfold parseU; rw [if_pos ⟨by omega, by omega, h⟩]; rfl
          · intro h; rw [hr]; unfold parseU; rw [if_neg (fun h2 => by rw [h2.2.2] at h; cases h)]; rfl
        generalize hrr : (parseU (byt (s.extract 1 s.size))).map (sz true) = r at *
        have HRR := Lib.hid (HR.out r rfl)
        have HTS : Hid ((s.extract 1 s.size).size = (s.size - 1)) := by show _ = _; rw [ByteArray.size_extract]; omega
        clear hrr HR hpl hneg
        have hz1 : (((s.size - 1) : Nat) : Int) ≠ 0 := by omega
        have hz0 : ((((s.size - 1) : Nat) : Int) == 0) = false := beq_false_of_ne hz1
        have hz2 : decide (10000 < (((s.size - 1) : Nat) : Int)) = false := decide_eq_false (by omega)
        go_enter Try.func67, Try.ntmps67
        go_wp2_with fail
        generalize s[0].toNat = b0 at *
        obtain ⟨t, ht⟩ : ∃ t, t = (s.extract 1 s.size) := ⟨_, rfl⟩
        obtain ⟨L, hL⟩ : ∃ L, L = (s.size - 1) := ⟨_, rfl⟩
        obtain ⟨N, hN⟩ : ∃ N, N = numU (byt t) := ⟨_, rfl⟩
        have HT : Hid (t.size = L) := by show _ = _; rw [ht, hL]; exact HTS.out
        have HN := Lib.hid hN
        rw [← ht, ← hN] at HRR
        rw [← ht, ← hL]
        have hbig' : L ≤ 10000 := by omega
        have hs0' : 0 < L := by omega
        clear hN ht hL hs h0 hz1 hz2 hz0 n45 hbig HTS
        obtain ⟨W0, hW0⟩ : ∃ W0, w.alloc (.cells #[.bool false, .slice none 0 0] 69) = W0 := ⟨_, rfl⟩
        have q0 : Row W0 w.heap.size 69 [.bool false, .slice none 0 0] := by rw [← hW0]; exact Row.new w _ [_, _]
        have x0 : Ext w W0 := by rw [← hW0]; exact Ext.new _ _
        rw [hW0]
        have Q := Lib.hid (And.intro x0 q0)
        clear hW0 x0 q0
        go_loopw [5, 6] (fun x ev wr => ∃ i : Nat, 9 * i ≤ L + 8 ∧ ev = .int .i64 ((L : Int) - 9 * i) ∧ wr.ownsRow W0.heap.size 160 1 x i (ks .u32 (fixd BB i N)) ∧ Ext W0 wr ∧ Hid (∀ j, L ≤ j + 9 * i → j < L → isD ((byt t)[j]?.getD 0) = true)) (fun _ ev _ => (intOf ev + 9).toNat)
        case atStart => exact ⟨0, by omega, by simp, World.ownsRow_nil _ _ _ _, Ext.refl _, fun j h1 h2 => absurd h1 (by omega)⟩
        case round =>
          obtain ⟨i, hi, rfl, hown, hext, HP⟩ := hrel
          by_cases hlt : 9 * i < L
          · obtain ⟨e, he⟩ : ∃ e : Nat, (L : Int) - 9 * i = (e : Int) := ⟨L - 9 * i, by omega⟩
            have heL : e ≤ L := by omega
            have he0 : 0 < e := by omega
            have HE := Lib.hid he
            rw [he]
            have HEN : Hid (L = 9 * i + e) := by show _ = _; omega
            clear he
            by_cases h9 : 9 ≤ e
            · have hsz : (t.extract (e - 9) e).size = 9 := by rw [ByteArray.size_extract]; have := HT.out; omega
              obtain ⟨cap, W1, hcv, x1, r1⟩ := conv_text wr (t.extract (e - 9) e)
              rw [hsz] at hcv
              have hb : byt (t.extract (e - 9) e) = ((byt t).take e).drop (e - 9) := byt_extract t (e - 9) e
              rw [hb] at r1
              have hlen1 : (((byt t).take e).drop (e - 9)).length = 9 := by rw [List.length_drop, List.length_take, byt_len]; have := HT.out; omega
              have HG : Hid (∀ k, k < 9 → (((byt t).take e).drop (e - 9))[k]?.getD 0 = (byt t)[(e - 9) + k]?.getD 0) := fun k hk => by
                rw [List.getElem?_drop, List.getElem?_take, if_pos (by omega)]
              have HLT : Hid (∀ d ∈ ((byt t).take e).drop (e - 9), d < 256) := fun d hd => byt_lt t d (List.mem_of_mem_take (List.mem_of_mem_drop hd))
              have HDIG : Hid (∀ k, k < 9 → N / 10 ^ (9 * i + 9 - (k + 1)) % 10 = dgt ((byt t)[(e - 9) + k]?.getD 0)) := fun k hk => by
                have h1 := HN.out
                have h2 := HT.out
                have h3 := HEN.out
                rw [h1, numU_dig _ _ (by rw [byt_len]; omega), byt_len]
                congr 3
                omega
              generalize ((byt t).take e).drop (e - 9) = l at *
              have HL1 := Lib.hid hlen1
              have R1 := Lib.hid r1
              have htl : e ≤ t.size := by have := HT.out; omega
              clear hb r1 hlen1 hsz
              go_wp2_with fail
              clear hcv
              go_loopw [7, 44] (fun nv kv wr2 => ∃ k : Nat, k ≤ 9 ∧ kv = .int .i64 k ∧ nv = .int .u32 ((N / 10 ^ (9 * i + 9 - k) % 10 ^ k : Nat) : Int) ∧ Ext W1 wr2 ∧ Hid (∀ j, j < k → isD ((byt t)[(e - 9) + j]?.getD 0) = true)) (fun _ kv _ => 10 - (intOf kv).toNat)
              case atStart => exact ⟨0, by omega, rfl, by simp [Nat.mod_one], Ext.refl _, fun j h => absurd h (Nat.not_lt_zero j)⟩
              case round =>
                obtain ⟨k, hk, rfl, rfl, hext2, HP2⟩ := hrel
                by_cases hkm : k < 9
                · obtain ⟨b0, ob, hbo, hcb⟩ := (R1.out.ext hext2).num (i := k) (by rw [HL1.out]; exact hkm)
                  simp only [Option.some.injEq, Addr.mk.injEq] at hbo
                  obtain ⟨rfl, rfl, -⟩ := hbo
                  rw [Nat.zero_add] at hcb
                  have hx : l[k]'(by rw [HL1.out]; exact hkm) < 256 := HLT.out _ (List.getElem_mem _)
                  have hxe : Hid ((byt t)[(e - 9) + k]?.getD 0 = l[k]'(by rw [HL1.out]; exact hkm)) := by
                    show _ = _; rw [← HG.out k hkm, List.getElem?_eq_getElem (by rw [HL1.out]; exact hkm)]; rfl
                  generalize l[k]'(by rw [HL1.out]; exact hkm) = c at *
                  have hnb : N / 10 ^ (9 * i + 9 - k) % 10 ^ k < 10 ^ k := Nat.mod_lt _ (Nat.pow_pos (by decide))
                  have hkb : 10 ^ k ≤ 10 ^ 8 := Nat.pow_le_pow_right (by decide) (by omega)
                  have hnb2 : N / 10 ^ (9 * i + 9 - k) % 10 ^ k < 100000000 := Nat.lt_of_lt_of_le hnb hkb
                  have HST : Hid (N / 10 ^ (9 * i + 9 - (k + 1)) % 10 ^ (k + 1) = 10 * (N / 10 ^ (9 * i + 9 - k) % 10 ^ k) + dgt c) := by
                    show _ = _
                    rw [piece_step, HDIG.out k hkm, hxe.out, show 9 * i + 9 - (k + 1) + 1 = 9 * i + 9 - k by omega]
                  clear hnb hkb
                  generalize N / 10 ^ (9 * i + 9 - k) % 10 ^ k = v at *
                  cases hd : isD c
                  · have hF : Hid ((byt t).all isD = false) := by
                      show _ = _
                      refine List.all_eq_false.2 ⟨c, ?_, by rw [hd]; simp⟩
                      have hi2 : (e - 9) + k < (byt t).length := by rw [byt_len]; have := HT.out; omega
                      have h3 := hxe.out
                      rw [List.getElem?_eq_getElem hi2, Option.getD_some] at h3
                      rw [← h3]; exact List.getElem_mem _
                    have hr := HRR.out.2 hF.out
                    have HRN := Lib.hid hr
                    have hcd : c < 48 ∨ 57 < c := by
                      by_cases h1 : 48 ≤ c
                      · by_cases h2 : c ≤ 57
                        · unfold isD at hd; rw [decide_eq_true h1, decide_eq_true h2] at hd; cases hd
                        · omega
                      · omega
                    have q2 := ((Q.out.2.ext hext).ext x1).ext hext2
                    have k0 := q2.cell (i := 0) rfl
                    have k1 := q2.cell (i := 1) rfl
                    have f0 := q2.frozen 0
                    have f1 := q2.frozen 1
                    have Q2 := Lib.hid q2
                    have X2 := Lib.hid (((Q.out.1.trans hext).trans x1).trans hext2)
                    clear q2 hr hext x1 hext2 hd
                    rcases hcd with hcd | hcd
                    all_goals
                      go_wp2_with fail
                      rw [HRN.out]
                      have r9 := (Q2.out.set 0 (.bool false)).set 1 (.slice none 0 0)
                      have z0 := r9.cell (i := 0) rfl
                      have z1 := r9.cell (i := 1) rfl
                      refine bodyPost_ret (v := .tuple #[.agg #[.bool false, .slice none 0 0], .bool false]) (by simp [results, Try.f67, go_sem, z0, z1]) rfl ⟨rfl, (X2.out.set (p := ⟨w.heap.size, 0, none⟩) (Nat.le_refl _) _).set (p := ⟨w.heap.size, 1, none⟩) (Nat.le_refl _) _⟩
                  · obtain ⟨e1, e2, e3⟩ := dgt_of hd
                    rw [e1] at HST
                    have HDD := Lib.hid hd
                    clear e1 hd
                    go_wp2_with fail
                    go_roundw
                    case rel =>
                      refine ⟨k + 1, hkm, by go_num, ?_, hext2, ?_⟩
                      · rw [HST.out]; congr 1; omega
                      · intro j hj
                        by_cases hji : j = k
                        · subst hji; rw [hxe.out]; exact HDD.out
                        · exact HP2.out j (by omega)
                    case measure => simp [intOf]; omega
                · have hkM : 9 = k := by omega
                  subst hkM
                  have HV : Hid (N / 10 ^ (9 * i + 9 - 9) % 10 ^ 9 = N / BB ^ i % BB) := by
                    show _ = _
                    rw [show 9 * i + 9 - 9 = 9 * i by omega]
                    exact piece_done N L i 9 (by have := numU_lt (byt t); rw [byt_len, HT.out, ← HN.out] at this; exact this) (by have := HEN.out; omega) (by omega)
                  have hvb : N / BB ^ i % BB < 1000000000 := Nat.mod_lt _ (by decide)
                  rw [HV.out]
                  have HFS : Hid (fixd BB (i + 1) N = fixd BB i N ++ [N / BB ^ i % BB]) := fixd_succ _ _ _
                  generalize N / BB ^ i % BB = v at *
                  have hown3 := own_ext hown (x1.trans hext2)
                  have hext3 := (hext.trans x1).trans hext2
                  clear hown
                  go_wp2_with (at_builtin; refine append_elem elemU32 hown3 hext3 (by unfold maxLen; omega) (by omega) rfl (by simp [Value.oneCell']) rfl _ _ rfl rfl rfl ?_; intro v' w1 own1 ext1 _)
                  go_roundw
                  case rel =>
                    have hEN := HEN.out
                    refine ⟨i + 1, by omega, ?_, ?_, ext1, ?_⟩
                    · congr 1; omega
                    · rw [HFS.out, ks_append]; exact own1
                    · intro j h1 h2
                      by_cases hj : L ≤ j + 9 * i
                      · exact HP.out j hj h2
                      · have := HP2.out (j - (e - 9)) (by omega)
                        rw [show (e - 9) + (j - (e - 9)) = j by omega] at this
                        exact this
                  case measure => simp [intOf]; omega
            · have hsz : (t.extract 0 e).size = e := by rw [ByteArray.size_extract]; have := HT.out; omega
              obtain ⟨cap, W1, hcv, x1, r1⟩ := conv_text wr (t.extract 0 e)
              rw [hsz] at hcv
              have hb : byt (t.extract 0 e) = ((byt t).take e).drop 0 := byt_extract t 0 e
              rw [hb] at r1
              have hlen1 : (((byt t).take e).drop 0).length = e := by rw [List.length_drop, List.length_take, byt_len]; have := HT.out; omega
              have HG : Hid (∀ k, k < e → (((byt t).take e).drop 0)[k]?.getD 0 = (byt t)[0 + k]?.getD 0) := fun k hk => by
                rw [List.getElem?_drop, List.getElem?_take, if_pos (by omega)]
              have HLT : Hid (∀ d ∈ ((byt t).take e).drop 0, d < 256) := fun d hd => byt_lt t d (List.mem_of_mem_take (List.mem_of_mem_drop hd))
              have HDIG : Hid (∀ k, k < e → N / 10 ^ (9 * i + e - (k + 1)) % 10 = dgt ((byt t)[0 + k]?.getD 0)) := fun k hk => by
                have h1 := HN.out
                have h2 := HT.out
                have h3 := HEN.out
                rw [h1, numU_dig _ _ (by rw [byt_len]; omega), byt_len]
                congr 3
                omega
              generalize ((byt t).take e).drop 0 = l at *
              have HL1 := Lib.hid hlen1
              have R1 := Lib.hid r1
              have htl : e ≤ t.size := by have := HT.out; omega
              clear hb r1 hlen1 hsz
              go_wp2_with fail
              clear hcv
              go_loopw [7, 44] (fun nv kv wr2 => ∃ k : Nat, k ≤ e ∧ kv = .int .i64 k ∧ nv = .int .u32 ((N / 10 ^ (9 * i + e - k) % 10 ^ k : Nat) : Int) ∧ Ext W1 wr2 ∧ Hid (∀ j, j < k → isD ((byt t)[0 + j]?.getD 0) = true)) (fun _ kv _ => 10 - (intOf kv).toNat)
              case atStart => exact ⟨0, by omega, rfl, by simp [Nat.mod_one], Ext.refl _, fun j h => absurd h (Nat.not_lt_zero j)⟩
              case round =>
                obtain ⟨k, hk, rfl, rfl, hext2, HP2⟩ := hrel
                by_cases hkm : k < e
                · obtain ⟨b0, ob, hbo, hcb⟩ := (R1.out.ext hext2).num (i := k) (by rw [HL1.out]; exact hkm)
                  simp only [Option.some.injEq, Addr.mk.injEq] at hbo
                  obtain ⟨rfl, rfl, -⟩ := hbo
                  rw [Nat.zero_add] at hcb
                  have hx : l[k]'(by rw [HL1.out]; exact hkm) < 256 := HLT.out _ (List.getElem_mem _)
                  have hxe : Hid ((byt t)[0 + k]?.getD 0 = l[k]'(by rw [HL1.out]; exact hkm)) := by
                    show _ = _; rw [← HG.out k hkm, List.getElem?_eq_getElem (by rw [HL1.out]; exact hkm)]; rfl
                  generalize l[k]'(by rw [HL1.out]; exact hkm) = c at *
                  have hnb : N / 10 ^ (9 * i + e - k) % 10 ^ k < 10 ^ k := Nat.mod_lt _ (Nat.pow_pos (by decide))
                  have hkb : 10 ^ k ≤ 10 ^ 8 := Nat.pow_le_pow_right (by decide) (by omega)
                  have hnb2 : N / 10 ^ (9 * i + e - k) % 10 ^ k < 100000000 := Nat.lt_of_lt_of_le hnb hkb
                  have HST : Hid (N / 10 ^ (9 * i + e - (k + 1)) % 10 ^ (k + 1) = 10 * (N / 10 ^ (9 * i + e - k) % 10 ^ k) + dgt c) := by
                    show _ = _
                    rw [piece_step, HDIG.out k hkm, hxe.out, show 9 * i + e - (k + 1) + 1 = 9 * i + e - k by omega]
                  clear hnb hkb
                  generalize N / 10 ^ (9 * i + e - k) % 10 ^ k = v at *
                  cases hd : isD c
                  · have hF : Hid ((byt t).all isD = false) := by
                      show _ = _
                      refine List.all_eq_false.2 ⟨c, ?_, by rw [hd]; simp⟩
                      have hi2 : 0 + k < (byt t).length := by rw [byt_len]; have := HT.out; omega
                      have h3 := hxe.out
                      rw [List.getElem?_eq_getElem hi2, Option.getD_some] at h3
                      rw [← h3]; exact List.getElem_mem _
                    have hr := HRR.out.2 hF.out
                    have HRN := Lib.hid hr
                    have hcd : c < 48 ∨ 57 < c := by
                      by_cases h1 : 48 ≤ c
                      · by_cases h2 : c ≤ 57
                        · unfold isD at hd; rw [decide_eq_true h1, decide_eq_true h2] at hd; cases hd
                        · omega
                      · omega
                    have q2 := ((Q.out.2.ext hext).ext x1).ext hext2
                    have k0 := q2.cell (i := 0) rfl
                    have k1 := q2.cell (i := 1) rfl
                    have f0 := q2.frozen 0
                    have f1 := q2.frozen 1
                    have Q2 := Lib.hid q2
                    have X2 := Lib.hid (((Q.out.1.trans hext).trans x1).trans hext2)
                    clear q2 hr hext x1 hext2 hd
                    rcases hcd with hcd | hcd
                    all_goals
                      go_wp2_with fail
                      rw [HRN.out]
                      have r9 := (Q2.out.set 0 (.bool false)).set 1 (.slice none 0 0)
                      have z0 := r9.cell (i := 0) rfl
                      have z1 := r9.cell (i := 1) rfl
                      refine bodyPost_ret (v := .tuple #[.agg #[.bool false, .slice none 0 0], .bool false]) (by simp [results, Try.f67, go_sem, z0, z1]) rfl ⟨rfl, (X2.out.set (p := ⟨w.heap.size, 0, none⟩) (Nat.le_refl _) _).set (p := ⟨w.heap.size, 1, none⟩) (Nat.le_refl _) _⟩
                  · obtain ⟨e1, e2, e3⟩ := dgt_of hd
                    rw [e1] at HST
                    have HDD := Lib.hid hd
                    clear e1 hd
                    go_wp2_with fail
                    go_roundw
                    case rel =>
                      refine ⟨k + 1, hkm, by go_num, ?_, hext2, ?_⟩
                      · rw [HST.out]; congr 1; omega
                      · intro j hj
                        by_cases hji : j = k
                        · subst hji; rw [hxe.out]; exact HDD.out
                        · exact HP2.out j (by omega)
                    case measure => simp [intOf]; omega
                · have hkM : e = k := by omega
                  subst hkM
                  have HV : Hid (N / 10 ^ (9 * i + e - e) % 10 ^ e = N / BB ^ i % BB) := by
                    show _ = _
                    rw [show 9 * i + e - e = 9 * i by omega]
                    exact piece_done N L i e (by have := numU_lt (byt t); rw [byt_len, HT.out, ← HN.out] at this; exact this) (by have := HEN.out; omega) (by omega)
                  have hvb : N / BB ^ i % BB < 1000000000 := Nat.mod_lt _ (by decide)
                  rw [HV.out]
                  have HFS : Hid (fixd BB (i + 1) N = fixd BB i N ++ [N / BB ^ i % BB]) := fixd_succ _ _ _
                  generalize N / BB ^ i % BB = v at *
                  have hown3 := own_ext hown (x1.trans hext2)
                  have hext3 := (hext.trans x1).trans hext2
                  clear hown
                  go_wp2_with (at_builtin; refine append_elem elemU32 hown3 hext3 (by unfold maxLen; omega) (by omega) rfl (by simp [Value.oneCell']) rfl _ _ rfl rfl rfl ?_; intro v' w1 own1 ext1 _)
                  go_roundw
                  case rel =>
                    have hEN := HEN.out
                    refine ⟨i + 1, by omega, ?_, ?_, ext1, ?_⟩
                    · congr 1; omega
                    · rw [HFS.out, ks_append]; exact own1
                    · intro j h1 h2
                      by_cases hj : L ≤ j + 9 * i
                      · exact HP.out j hj h2
                      · have := HP2.out (j - 0) (by omega)
                        rw [show 0 + (j - 0) = j by omega] at this
                        exact this
                  case measure => simp [intOf]; omega
          · have hNb : N < BB ^ i := by
              have h1 := numU_lt (byt t)
              rw [byt_len, HT.out, ← HN.out] at h1
              rw [BB_pow]
              exact Nat.lt_of_lt_of_le h1 (Nat.pow_le_pow_right (by decide) (by omega))
            have hall : (byt t).all isD = true := List.all_eq_true.2 fun d hd => by
              obtain ⟨j, hj, rfl⟩ := List.getElem_of_mem hd
              have h2 := HT.out
              rw [byt_len] at hj
              have := HP.out j (by omega) (by omega)
              rw [List.getElem?_eq_getElem (by rw [byt_len]; exact hj), Option.getD_some] at this
              exact this
            have HRS := Lib.hid (HRR.out.1 hall)
            obtain ⟨a1, c1, rfl, g1, g2, g3⟩ := own_form hown
            have HTR := Lib.hid (trim_walk a1 c1 (fixd BB i N) i wr (fixd_len _ _ _) g1 g2 g3)
            have h7 : strip (fixd BB i N) = dg BB N := strip_fixd BB_gt i N hNb
            have h5 : stripN (fixd BB i N) (fixd BB i N).length = (dg BB N).length := by rw [← strip_len, h7]
            have h6 := g3.take (stripN (fixd BB i N) (fixd BB i N).length)
            rw [ks_take, show (fixd BB i N).take (stripN (fixd BB i N) (fixd BB i N).length) = dg BB N from h7] at h6
            have hdl : (dg BB N).length ≤ i := by rw [← h5]; exact Nat.le_trans (stripN_le _ _) (by rw [fixd_len]; exact Nat.le_refl _)
            rw [h5] at HTR
            obtain ⟨y, hy⟩ : ∃ y, sz true N = y := ⟨_, rfl⟩
            have HO := Lib.hid (of_walk true N a1 (dg BB N).length wr (Nat.le_refl _) (by unfold maxLen; omega) (by omega) h6)
            rw [hy] at HO HRS
            have Q2 := Lib.hid (Q.out.2.ext hext)
            have X2 := Lib.hid (Q.out.1.trans hext)
            have hsz := (Q.out.2).lt
            have hsz2 := hext.size
            clear hNb hall HRR HP h7 h5 h6 hdl hy hown g1 g2 g3 hext
            go_wp2_with fail
            refine HTR.out.mono ?_
            rintro e w' ⟨rfl, rfl⟩
            go_wp2_with fail
            refine HO.out.mono ?_
            rintro e w3 ⟨a3, c3, rfl, t1, t2, t3, t4, t5⟩
            have q3 := Q2.out.ext t4
            have k0 := q3.cell (i := 0) rfl
            have k1 := q3.cell (i := 1) rfl
            have f0 := q3.frozen 0
            have f1 := q3.frozen 1
            have Q3 := Lib.hid q3
            clear q3
            go_wp2_with fail
            rw [HRS.out]
            have r9 := (Q3.out.set 0 (.bool (decide (y < 0)))).set 1 (.slice a3 (dg BB y.natAbs).length c3)
            have z0 := r9.cell (i := 0) rfl
            have z1 := r9.cell (i := 1) rfl
            refine bodyPost_ret (v := .tuple #[.agg #[.bool (decide (y < 0)), .slice a3 (dg BB y.natAbs).length c3], .bool true]) (by simp [results, Try.f67, go_sem, z0, z1]) rfl ⟨a3, c3, rfl, ⟨t1, t2, (t3.far t5 (p := ⟨w.heap.size, 0, none⟩) (by show w.heap.size < _; omega) _).far t5 (p := ⟨w.heap.size, 1, none⟩) (by show w.heap.size < _; omega) _⟩, ((X2.out.trans t4).set (p := ⟨w.heap.size, 0, none⟩) (Nat.le_refl _) _).set (p := ⟨w.heap.size, 1, none⟩) (Nat.le_refl _) _⟩
      · have hr : (parseU (byt (s.extract 1 s.size))).map (sz true) = none := by
          unfold parseU
          rw [if_neg (fun h => by rw [byt_len, ByteArray.size_extract] at h; omega)]; rfl
        rw [hr]
        clear hr hpl hneg
        by_cases hz : s.size - 1 = 0
        · have hz1 : ((s.size - 1 : Nat) : Int) = 0 := by omega
          clear hbig
          go_enter Try.func67, Try.ntmps67
          go_wp2_with fail
          have r9 := Row.new w 69 [.bool false, .slice none 0 0]
          have z0 := r9.cell (i := 0) rfl
          have z1 := r9.cell (i := 1) rfl
          exact bodyPost_ret (v := .tuple #[.agg #[.bool false, .slice none 0 0], .bool false]) (by simp [results, Try.f67, go_sem, z0, z1]) rfl ⟨rfl, Ext.new _ _⟩
        · have hz0 : (((s.size - 1 : Nat) : Int) == 0) = false := beq_false_of_ne (by omega)
          have hz2 : decide (10000 < ((s.size - 1 : Nat) : Int)) = true := decide_eq_true (by omega)
          go_enter Try.func67, Try.ntmps67
          go_wp2_with fail
          have r9 := Row.new w 69 [.bool false, .slice none 0 0]
          have z0 := r9.cell (i := 0) rfl
          have z1 := r9.cell (i := 1) rfl
          exact bodyPost_ret (v := .tuple #[.agg #[.bool false, .slice none 0 0], .bool false]) (by simp [results, Try.f67, go_sem, z0, z1]) rfl ⟨rfl, Ext.new _ _⟩
    · have n45 : ((s[0].toNat : Int) == 45) = false := by simp; omega
      have hpl : parseL (byt s) = (parseU (byt s)).map (sz false) := by
        unfold parseL
        rw [hget, if_neg hneg]
      rw [hpl]
      clear hget
      by_cases hbig : s.size ≤ 10000
      · have HR : Hid (∀ r, r = (parseU (byt s)).map (sz false) → (((byt s).all isD = true → r = some (sz false (numU (byt s)))) ∧ ((byt s).all isD = false → r = none))) := by
          intro r hr
          have hsz : (byt s).length = s.size := by rw [byt_len]
          constructor
          · intro h; rw [hr]; unfold parseU; rw [if_pos ⟨by omega, by omega, h⟩]; rfl
          · intro h; rw [hr]; unfold parseU; rw [if_neg (fun h2 => by rw [h2.2.2] at h; cases h)]; rfl
        generalize hrr : (parseU (byt s)).map (sz false) = r at *
        have HRR := Lib.hid (HR.out r rfl)
        clear hrr HR hpl hneg
        have hz1 : ((s.size : Nat) : Int) ≠ 0 := by omega
        have hz0 : (((s.size : Nat) : Int) == 0) = false := beq_false_of_ne hz1
        have hz2 : decide (10000 < ((s.size : Nat) : Int)) = false := decide_eq_false (by omega)
        go_enter Try.func67, Try.ntmps67
        go_wp2_with fail
        generalize s[0].toNat = b0 at *
        obtain ⟨t, ht⟩ : ∃ t, t = s := ⟨_, rfl⟩
        have hts : s.size = t.size := by rw [ht]
        obtain ⟨N, hN⟩ : ∃ N, N = numU (byt t) := ⟨_, rfl⟩
        have HN := Lib.hid hN
        rw [← ht, ← hN] at HRR
        rw [← ht]
        obtain ⟨L, hL⟩ : ∃ L, L = t.size := ⟨_, rfl⟩
        have HT : Hid (t.size = L) := hL.symm
        rw [← hL] at hts ⊢
        have hbig' : L ≤ 10000 := by omega
        have hs0' : 0 < L := by omega
        clear hN ht hL hs h0 hz1 hz2 hz0 n45 hbig
        obtain ⟨W0, hW0⟩ : ∃ W0, w.alloc (.cells #[.bool false, .slice none 0 0] 69) = W0 := ⟨_, rfl⟩
        have q0 : Row W0 w.heap.size 69 [.bool false, .slice none 0 0] := by rw [← hW0]; exact Row.new w _ [_, _]
        have x0 : Ext w W0 := by rw [← hW0]; exact Ext.new _ _
        rw [hW0]
        have Q := Lib.hid (And.intro x0 q0)
        clear hW0 x0 q0
        go_loopw [5, 6] (fun x ev wr => ∃ i : Nat, 9 * i ≤ L + 8 ∧ ev = .int .i64 ((L : Int) - 9 * i) ∧ wr.ownsRow W0.heap.size 160 1 x i (ks .u32 (fixd BB i N)) ∧ Ext W0 wr ∧ Hid (∀ j, L ≤ j + 9 * i → j < L → isD ((byt t)[j]?.getD 0) = true)) (fun _ ev _ => (intOf ev + 9).toNat)
        case atStart => exact ⟨0, by omega, by simp, World.ownsRow_nil _ _ _ _, Ext.refl _, fun j h1 h2 => absurd h1 (by omega)⟩
        case round =>
          obtain ⟨i, hi, rfl, hown, hext, HP⟩ := hrel
          by_cases hlt : 9 * i < L
          · obtain ⟨e, he⟩ : ∃ e : Nat, (L : Int) - 9 * i = (e : Int) := ⟨L - 9 * i, by omega⟩
            have heL : e ≤ L := by omega
            have he0 : 0 < e := by omega
            have HE := Lib.hid he
            rw [he]
            have HEN : Hid (L = 9 * i + e) := by show _ = _; omega
            clear he
            by_cases h9 : 9 ≤ e
            · have hsz : (t.extract (e - 9) e).size = 9 := by rw [ByteArray.size_extract]; have := HT.out; omega
              obtain ⟨cap, W1, hcv, x1, r1⟩ := conv_text wr (t.extract (e - 9) e)
              rw [hsz] at hcv
              have hb : byt (t.extract (e - 9) e) = ((byt t).take e).drop (e - 9) := byt_extract t (e - 9) e
              rw [hb] at r1
              have hlen1 : (((byt t).take e).drop (e - 9)).length = 9 := by rw [List.length_drop, List.length_take, byt_len]; have := HT.out; omega
              have HG : Hid (∀ k, k < 9 → (((byt t).take e).drop (e - 9))[k]?.getD 0 = (byt t)[(e - 9) + k]?.getD 0) := fun k hk => by
                rw [List.getElem?_drop, List.getElem?_take, if_pos (by omega)]
              have HLT : Hid (∀ d ∈ ((byt t).take e).drop (e - 9), d < 256) := fun d hd => byt_lt t d (List.mem_of_mem_take (List.mem_of_mem_drop hd))
              have HDIG : Hid (∀ k, k < 9 → N / 10 ^ (9 * i + 9 - (k + 1)) % 10 = dgt ((byt t)[(e - 9) + k]?.getD 0)) := fun k hk => by
                have h1 := HN.out
                have h2 := HT.out
                have h3 := HEN.out
                rw [h1, numU_dig _ _ (by rw [byt_len]; omega), byt_len]
                congr 3
                omega
              generalize ((byt t).take e).drop (e - 9) = l at *
              have HL1 := Lib.hid hlen1
              have R1 := Lib.hid r1
              have htl : e ≤ t.size := by have := HT.out; omega
              clear hb r1 hlen1 hsz
              go_wp2_with fail
              clear hcv
              go_loopw [7, 44] (fun nv kv wr2 => ∃ k : Nat, k ≤ 9 ∧ kv = .int .i64 k ∧ nv = .int .u32 ((N / 10 ^ (9 * i + 9 - k) % 10 ^ k : Nat) : Int) ∧ Ext W1 wr2 ∧ Hid (∀ j, j < k → isD ((byt t)[(e - 9) + j]?.getD 0) = true)) (fun _ kv _ => 10 - (intOf kv).toNat)
              case atStart => exact ⟨0, by omega, rfl, by simp [Nat.mod_one], Ext.refl _, fun j h => absurd h (Nat.not_lt_zero j)⟩
              case round =>
                obtain ⟨k, hk, rfl, rfl, hext2, HP2⟩ := hrel
                by_cases hkm : k < 9
                · obtain ⟨b0, ob, hbo, hcb⟩ := (R1.out.ext hext2).num (i := k) (by rw [HL1.out]; exact hkm)
                  simp only [Option.some.injEq, Addr.mk.injEq] at hbo
                  obtain ⟨rfl, rfl, -⟩ := hbo
                  rw [Nat.zero_add] at hcb
                  have hx : l[k]'(by rw [HL1.out]; exact hkm) < 256 := HLT.out _ (List.getElem_mem _)
                  have hxe : Hid ((byt t)[(e - 9) + k]?.getD 0 = l[k]'(by rw [HL1.out]; exact hkm)) := by
                    show _ = _; rw [← HG.out k hkm, List.getElem?_eq_getElem (by rw [HL1.out]; exact hkm)]; rfl
                  generalize l[k]'(by rw [HL1.out]; exact hkm) = c at *
                  have hnb : N / 10 ^ (9 * i + 9 - k) % 10 ^ k < 10 ^ k := Nat.mod_lt _ (Nat.pow_pos (by decide))
                  have hkb : 10 ^ k ≤ 10 ^ 8 := Nat.pow_le_pow_right (by decide) (by omega)
                  have hnb2 : N / 10 ^ (9 * i + 9 - k) % 10 ^ k < 100000000 := Nat.lt_of_lt_of_le hnb hkb
                  have HST : Hid (N / 10 ^ (9 * i + 9 - (k + 1)) % 10 ^ (k + 1) = 10 * (N / 10 ^ (9 * i + 9 - k) % 10 ^ k) + dgt c) := by
                    show _ = _
                    rw [piece_step, HDIG.out k hkm, hxe.out, show 9 * i + 9 - (k + 1) + 1 = 9 * i + 9 - k by omega]
                  clear hnb hkb
                  generalize N / 10 ^ (9 * i + 9 - k) % 10 ^ k = v at *
                  cases hd : isD c
                  · have hF : Hid ((byt t).all isD = false) := by
                      show _ = _
                      refine List.all_eq_false.2 ⟨c, ?_, by rw [hd]; simp⟩
                      have hi2 : (e - 9) + k < (byt t).length := by rw [byt_len]; have := HT.out; omega
                      have h3 := hxe.out
                      rw [List.getElem?_eq_getElem hi2, Option.getD_some] at h3
                      rw [← h3]; exact List.getElem_mem _
                    have hr := HRR.out.2 hF.out
                    have HRN := Lib.hid hr
                    have hcd : c < 48 ∨ 57 < c := by
                      by_cases h1 : 48 ≤ c
                      · by_cases h2 : c ≤ 57
                        · unfold isD at hd; rw [decide_eq_true h1, decide_eq_true h2] at hd; cases hd
                        · omega
                      · omega
                    have q2 := ((Q.out.2.ext hext).ext x1).ext hext2
                    have k0 := q2.cell (i := 0) rfl
                    have k1 := q2.cell (i := 1) rfl
                    have f0 := q2.frozen 0
                    have f1 := q2.frozen 1
                    have Q2 := Lib.hid q2
                    have X2 := Lib.hid (((Q.out.1.trans hext).trans x1).trans hext2)
                    clear q2 hr hext x1 hext2 hd
                    rcases hcd with hcd | hcd
                    all_goals
                      go_wp2_with fail
                      rw [HRN.out]
                      have r9 := (Q2.out.set 0 (.bool false)).set 1 (.slice none 0 0)
                      have z0 := r9.cell (i := 0) rfl
                      have z1 := r9.cell (i := 1) rfl
                      refine bodyPost_ret (v := .tuple #[.agg #[.bool false, .slice none 0 0], .bool false]) (by simp [results, Try.f67, go_sem, z0, z1]) rfl ⟨rfl, (X2.out.set (p := ⟨w.heap.size, 0, none⟩) (Nat.le_refl _) _).set (p := ⟨w.heap.size, 1, none⟩) (Nat.le_refl _) _⟩
                  · obtain ⟨e1, e2, e3⟩ := dgt_of hd
                    rw [e1] at HST
                    have HDD := Lib.hid hd
                    clear e1 hd
                    go_wp2_with fail
                    go_roundw
                    case rel =>
                      refine ⟨k + 1, hkm, by go_num, ?_, hext2, ?_⟩
                      · rw [HST.out]; congr 1; omega
                      · intro j hj
                        by_cases hji : j = k
                        · subst hji; rw [hxe.out]; exact HDD.out
                        · exact HP2.out j (by omega)
                    case measure => simp [intOf]; omega
                · have hkM : 9 = k := by omega
                  subst hkM
                  have HV : Hid (N / 10 ^ (9 * i + 9 - 9) % 10 ^ 9 = N / BB ^ i % BB) := by
                    show _ = _
                    rw [show 9 * i + 9 - 9 = 9 * i by omega]
                    exact piece_done N L i 9 (by have := numU_lt (byt t); rw [byt_len, HT.out, ← HN.out] at this; exact this) (by have := HEN.out; omega) (by omega)
                  have hvb : N / BB ^ i % BB < 1000000000 := Nat.mod_lt _ (by decide)
                  rw [HV.out]
                  have HFS : Hid (fixd BB (i + 1) N = fixd BB i N ++ [N / BB ^ i % BB]) := fixd_succ _ _ _
                  generalize N / BB ^ i % BB = v at *
                  have hown3 := own_ext hown (x1.trans hext2)
                  have hext3 := (hext.trans x1).trans hext2
                  clear hown
                  go_wp2_with (at_builtin; refine append_elem elemU32 hown3 hext3 (by unfold maxLen; omega) (by omega) rfl (by simp [Value.oneCell']) rfl _ _ rfl rfl rfl ?_; intro v' w1 own1 ext1 _)
                  go_roundw
                  case rel =>
                    have hEN := HEN.out
                    refine ⟨i + 1, by omega, ?_, ?_, ext1, ?_⟩
                    · congr 1; omega
                    · rw [HFS.out, ks_append]; exact own1
                    · intro j h1 h2
                      by_cases hj : L ≤ j + 9 * i
                      · exact HP.out j hj h2
                      · have := HP2.out (j - (e - 9)) (by omega)
                        rw [show (e - 9) + (j - (e - 9)) = j by omega] at this
                        exact this
                  case measure => simp [intOf]; omega
            · have hsz : (t.extract 0 e).size = e := by rw [ByteArray.size_extract]; have := HT.out; omega
              obtain ⟨cap, W1, hcv, x1, r1⟩ := conv_text wr (t.extract 0 e)
              rw [hsz] at hcv
              have hb : byt (t.extract 0 e) = ((byt t).take e).drop 0 := byt_extract t 0 e
              rw [hb] at r1
              have hlen1 : (((byt t).take e).drop 0).length = e := by rw [List.length_drop, List.length_take, byt_len]; have := HT.out; omega
              have HG : Hid (∀ k, k < e → (((byt t).take e).drop 0)[k]?.getD 0 = (byt t)[0 + k]?.getD 0) := fun k hk => by
                rw [List.getElem?_drop, List.getElem?_take, if_pos (by omega)]
              have HLT : Hid (∀ d ∈ ((byt t).take e).drop 0, d < 256) := fun d hd => byt_lt t d (List.mem_of_mem_take (List.mem_of_mem_drop hd))
              have HDIG : Hid (∀ k, k < e → N / 10 ^ (9 * i + e - (k + 1)) % 10 = dgt ((byt t)[0 + k]?.getD 0)) := fun k hk => by
                have h1 := HN.out
                have h2 := HT.out
                have h3 := HEN.out
                rw [h1, numU_dig _ _ (by rw [byt_len]; omega), byt_len]
                congr 3
                omega
              generalize ((byt t).take e).drop 0 = l at *
              have HL1 := Lib.hid hlen1
              have R1 := Lib.hid r1
              have htl : e ≤ t.size := by have := HT.out; omega
              clear hb r1 hlen1 hsz
              go_wp2_with fail
              clear hcv
              go_loopw [7, 44] (fun nv kv wr2 => ∃ k : Nat, k ≤ e ∧ kv = .int .i64 k ∧ nv = .int .u32 ((N / 10 ^ (9 * i + e - k) % 10 ^ k : Nat) : Int) ∧ Ext W1 wr2 ∧ Hid (∀ j, j < k → isD ((byt t)[0 + j]?.getD 0) = true)) (fun _ kv _ => 10 - (intOf kv).toNat)
              case atStart => exact ⟨0, by omega, rfl, by simp [Nat.mod_one], Ext.refl _, fun j h => absurd h (Nat.not_lt_zero j)⟩
              case round =>
                obtain ⟨k, hk, rfl, rfl, hext2, HP2⟩ := hrel
                by_cases hkm : k < e
                · obtain ⟨b0, ob, hbo, hcb⟩ := (R1.out.ext hext2).num (i := k) (by rw [HL1.out]; exact hkm)
                  simp only [Option.some.injEq, Addr.mk.injEq] at hbo
                  obtain ⟨rfl, rfl, -⟩ := hbo
                  rw [Nat.zero_add] at hcb
                  have hx : l[k]'(by rw [HL1.out]; exact hkm) < 256 := HLT.out _ (List.getElem_mem _)
                  have hxe : Hid ((byt t)[0 + k]?.getD 0 = l[k]'(by rw [HL1.out]; exact hkm)) := by
                    show _ = _; rw [← HG.out k hkm, List.getElem?_eq_getElem (by rw [HL1.out]; exact hkm)]; rfl
                  generalize l[k]'(by rw [HL1.out]; exact hkm) = c at *
                  have hnb : N / 10 ^ (9 * i + e - k) % 10 ^ k < 10 ^ k := Nat.mod_lt _ (Nat.pow_pos (by decide))
                  have hkb : 10 ^ k ≤ 10 ^ 8 := Nat.pow_le_pow_right (by decide) (by omega)
                  have hnb2 : N / 10 ^ (9 * i + e - k) % 10 ^ k < 100000000 := Nat.lt_of_lt_of_le hnb hkb
                  have HST : Hid (N / 10 ^ (9 * i + e - (k + 1)) % 10 ^ (k + 1) = 10 * (N / 10 ^ (9 * i + e - k) % 10 ^ k) + dgt c) := by
                    show _ = _
                    rw [piece_step, HDIG.out k hkm, hxe.out, show 9 * i + e - (k + 1) + 1 = 9 * i + e - k by omega]
                  clear hnb hkb
                  generalize N / 10 ^ (9 * i + e - k) % 10 ^ k = v at *
                  cases hd : isD c
                  · have hF : Hid ((byt t).all isD = false) := by
                      show _ = _
                      refine List.all_eq_false.2 ⟨c, ?_, by rw [hd]; simp⟩
                      have hi2 : 0 + k < (byt t).length := by rw [byt_len]; have := HT.out; omega
                      have h3 := hxe.out
                      rw [List.getElem?_eq_getElem hi2, Option.getD_some] at h3
                      rw [← h3]; exact List.getElem_mem _
                    have hr := HRR.out.2 hF.out
                    have HRN := Lib.hid hr
                    have hcd : c < 48 ∨ 57 < c := by
                      by_cases h1 : 48 ≤ c
                      · by_cases h2 : c ≤ 57
                        · unfold isD at hd; rw [decide_eq_true h1, decide_eq_true h2] at hd; cases hd
                        · omega
                      · omega
                    have q2 := ((Q.out.2.ext hext).ext x1).ext hext2
                    have k0 := q2.cell (i := 0) rfl
                    have k1 := q2.cell (i := 1) rfl
                    have f0 := q2.frozen 0
                    have f1 := q2.frozen 1
                    have Q2 := Lib.hid q2
                    have X2 := Lib.hid (((Q.out.1.trans hext).trans x1).trans hext2)
                    clear q2 hr hext x1 hext2 hd
                    rcases hcd with hcd | hcd
                    all_goals
                      go_wp2_with fail
                      rw [HRN.out]
                      have r9 := (Q2.out.set 0 (.bool false)).set 1 (.slice none 0 0)
                      have z0 := r9.cell (i := 0) rfl
                      have z1 := r9.cell (i := 1) rfl
                      refine bodyPost_ret (v := .tuple #[.agg #[.bool false, .slice none 0 0], .bool false]) (by simp [results, Try.f67, go_sem, z0, z1]) rfl ⟨rfl, (X2.out.set (p := ⟨w.heap.size, 0, none⟩) (Nat.le_refl _) _).set (p := ⟨w.heap.size, 1, none⟩) (Nat.le_refl _) _⟩
                  · obtain ⟨e1, e2, e3⟩ := dgt_of hd
                    rw [e1] at HST
                    have HDD := Lib.hid hd
                    clear e1 hd
                    go_wp2_with fail
                    go_roundw
                    case rel =>
                      refine ⟨k + 1, hkm, by go_num, ?_, hext2, ?_⟩
                      · rw [HST.out]; congr 1; omega
                      · intro j hj
                        by_cases hji : j = k
                        · subst hji; rw [hxe.out]; exact HDD.out
                        · exact HP2.out j (by omega)
                    case measure => simp [intOf]; omega
                · have hkM : e = k := by omega
                  subst hkM
                  have HV : Hid (N / 10 ^ (9 * i + e - e) % 10 ^ e = N / BB ^ i % BB) := by
                    show _ = _
                    rw [show 9 * i + e - e = 9 * i by omega]
                    exact piece_done N L i e (by have := numU_lt (byt t); rw [byt_len, HT.out, ← HN.out] at this; exact this) (by have := HEN.out; omega) (by omega)
                  have hvb : N / BB ^ i % BB < 1000000000 := Nat.mod_lt _ (by decide)
                  rw [HV.out]
                  have HFS : Hid (fixd BB (i + 1) N = fixd BB i N ++ [N / BB ^ i % BB]) := fixd_succ _ _ _
                  generalize N / BB ^ i % BB = v at *
                  have hown3 := own_ext hown (x1.trans hext2)
                  have hext3 := (hext.trans x1).trans hext2
                  clear hown
                  go_wp2_with (at_builtin; refine append_elem elemU32 hown3 hext3 (by unfold maxLen; omega) (by omega) rfl (by simp [Value.oneCell']) rfl _ _ rfl rfl rfl ?_; intro v' w1 own1 ext1 _)
                  go_roundw
                  case rel =>
                    have hEN := HEN.out
                    refine ⟨i + 1, by omega, ?_, ?_, ext1, ?_⟩
                    · congr 1; omega
                    · rw [HFS.out, ks_append]; exact own1
                    · intro j h1 h2
                      by_cases hj : L ≤ j + 9 * i
                      · exact HP.out j hj h2
                      · have := HP2.out (j - 0) (by omega)
                        rw [show 0 + (j - 0) = j by omega] at this
                        exact this
                  case measure => simp [intOf]; omega
          · have hNb : N < BB ^ i := by
              have h1 := numU_lt (byt t)
              rw [byt_len, HT.out, ← HN.out] at h1
              rw [BB_pow]
              exact Nat.lt_of_lt_of_le h1 (Nat.pow_le_pow_right (by decide) (by omega))
            have hall : (byt t).all isD = true := List.all_eq_true.2 fun d hd => by
              obtain ⟨j, hj, rfl⟩ := List.getElem_of_mem hd
              have h2 := HT.out
              rw [byt_len] at hj
              have := HP.out j (by omega) (by omega)
              rw [List.getElem?_eq_getElem (by rw [byt_len]; exact hj), Option.getD_some] at this
              exact this
            have HRS := Lib.hid (HRR.out.1 hall)
            obtain ⟨a1, c1, rfl, g1, g2, g3⟩ := own_form hown
            have HTR := Lib.hid (trim_walk a1 c1 (fixd BB i N) i wr (fixd_len _ _ _) g1 g2 g3)
            have h7 : strip (fixd BB i N) = dg BB N := strip_fixd BB_gt i N hNb
            have h5 : stripN (fixd BB i N) (fixd BB i N).length = (dg BB N).length := by rw [← strip_len, h7]
            have h6 := g3.take (stripN (fixd BB i N) (fixd BB i N).length)
            rw [ks_take, show (fixd BB i N).take (stripN (fixd BB i N) (fixd BB i N).length) = dg BB N from h7] at h6
            have hdl : (dg BB N).length ≤ i := by rw [← h5]; exact Nat.le_trans (stripN_le _ _) (by rw [fixd_len]; exact Nat.le_refl _)
            rw [h5] at HTR
            obtain ⟨y, hy⟩ : ∃ y, sz false N = y := ⟨_, rfl⟩
            have HO := Lib.hid (of_walk false N a1 (dg BB N).length wr (Nat.le_refl _) (by unfold maxLen; omega) (by omega) h6)
            rw [hy] at HO HRS
            have Q2 := Lib.hid (Q.out.2.ext hext)
            have X2 := Lib.hid (Q.out.1.trans hext)
            have hsz := (Q.out.2).lt
            have hsz2 := hext.size
            clear hNb hall HRR HP h7 h5 h6 hdl hy hown g1 g2 g3 hext
            go_wp2_with fail
            refine HTR.out.mono ?_
            rintro e w' ⟨rfl, rfl⟩
            go_wp2_with fail
            refine HO.out.mono ?_
            rintro e w3 ⟨a3, c3, rfl, t1, t2, t3, t4, t5⟩
            have q3 := Q2.out.ext t4
            have k0 := q3.cell (i := 0) rfl
            have k1 := q3.cell (i := 1) rfl
            have f0 := q3.frozen 0
            have f1 := q3.frozen 1
            have Q3 := Lib.hid q3
            clear q3
            go_wp2_with fail
            rw [HRS.out]
            have r9 := (Q3.out.set 0 (.bool (decide (y < 0)))).set 1 (.slice a3 (dg BB y.natAbs).length c3)
            have z0 := r9.cell (i := 0) rfl
            have z1 := r9.cell (i := 1) rfl
            refine bodyPost_ret (v := .tuple #[.agg #[.bool (decide (y < 0)), .slice a3 (dg BB y.natAbs).length c3], .bool true]) (by simp [results, Try.f67, go_sem, z0, z1]) rfl ⟨a3, c3, rfl, ⟨t1, t2, (t3.far t5 (p := ⟨w.heap.size, 0, none⟩) (by show w.heap.size < _; omega) _).far t5 (p := ⟨w.heap.size, 1, none⟩) (by show w.heap.size < _; omega) _⟩, ((X2.out.trans t4).set (p := ⟨w.heap.size, 0, none⟩) (Nat.le_refl _) _).set (p := ⟨w.heap.size, 1, none⟩) (Nat.le_refl _) _⟩
      · have hr : (parseU (byt s)).map (sz false) = none := by
          unfold parseU
          rw [if_neg (fun h => by rw [byt_len] at h; omega)]; rfl
        rw [hr]
        clear hr hpl hneg
        have hz0 : ((s.size : Int) == 0) = false := beq_false_of_ne (by omega)
        have hz2 : decide (10000 < (s.size : Int)) = true := decide_eq_true (by omega)
        go_enter Try.func67, Try.ntmps67
        go_wp2_with fail
        have r9 := Row.new w 69 [.bool false, .slice none 0 0]
        have z0 := r9.cell (i := 0) rfl
        have z1 := r9.cell (i := 1) rfl
        exact bodyPost_ret (v := .tuple #[.agg #[.bool false, .slice none 0 0], .bool false]) (by simp [results, Try.f67, go_sem, z0, z1]) rfl ⟨rfl, Ext.new _ _⟩
end Go.Proofs.Ytogodjiemgilaaa

/- A number's text read again. -/
namespace Go.Proofs.Ytogodjiemgilaaa
open Go.RowKit

theorem byt_bs (l : List Nat) (h : ∀ d ∈ l, d < 256) : byt (bs l) = l := by
  unfold byt bs
  simp only [List.map_map]
  conv => rhs; rw [← List.map_id l]
  apply List.map_congr_left
  intro d hd
  show (UInt8.ofNat d).toNat = d
  rw [UInt8.toNat_ofNat']
  exact Nat.mod_eq_of_lt (h d hd)

theorem isD_dig (d : Nat) (h : d < 10) : isD (d + 48) = true := by
  unfold isD; rw [decide_eq_true (by omega), decide_eq_true (by omega)]; rfl
theorem dgt_dig (d : Nat) (h : d < 10) : dgt (d + 48) = d := by rw [(dgt_of (isD_dig d h)).1]; omega

theorem parseU_asc (D : List Nat) (h : ∀ d ∈ D, d < 10) (h0 : 0 < D.length) (hl : D.length ≤ 10000) : parseU (asc D).reverse = some (val 10 D) := by
  unfold parseU
  rw [if_pos ⟨by rw [List.length_reverse, asc_len]; exact h0, by rw [List.length_reverse, asc_len]; exact hl, List.all_eq_true.2 fun c hc => by
    rw [List.mem_reverse] at hc
    simp only [asc, List.mem_map] at hc
    obtain ⟨d, hd, rfl⟩ := hc
    exact isD_dig d (h d hd)⟩]
  unfold numU
  rw [List.reverse_reverse]
  congr 2
  simp only [asc, List.map_map]
  conv => rhs; rw [← List.map_id D]
  apply List.map_congr_left
  intro d hd
  exact dgt_dig d (h d hd)

theorem txt_lt (z : Int) : ∀ d ∈ (txtR (decide (z < 0)) z.natAbs).reverse, d < 256 := by
  intro d hd
  rw [List.mem_reverse] at hd
  unfold txtR at hd
  rw [List.mem_append, List.mem_append] at hd
  rcases hd with (hd | hd) | hd
  · simp only [asc, List.mem_map] at hd
    obtain ⟨x, hx, rfl⟩ := hd
    have := dg_lt ten_gt hx
    omega
  · split at hd
    · simp at hd; omega
    · cases hd
  · split at hd
    · simp at hd; omega
    · cases hd

theorem parse_txt (z : Int) (hl : (dg 10 z.natAbs).length ≤ 9999) : parseL (byt (txt z)) = some z := by
  have hb := txt_lt z
  unfold txt
  rw [byt_bs _ hb]
  have hz := sz_self z
  have hs0 : z.natAbs = 0 → decide (z < 0) = false := fun h => decide_eq_false (by omega)
  generalize z.natAbs = n at *
  generalize decide (z < 0) = s at *
  -- the digits
  obtain ⟨D, hD⟩ : ∃ D : List Nat, D = if n = 0 then [0] else dg 10 n := ⟨_, rfl⟩
  have hDt : asc (dg 10 n) ++ (if n = 0 then [48] else []) = asc D := by
    rw [hD]
    by_cases h : n = 0
    · subst h; rfl
    · rw [if_neg h, if_neg h, List.append_nil]
  have hD10 : ∀ d ∈ D, d < 10 := by
    rw [hD]; split
    · intro d hd; simp at hd; omega
    · intro d hd; exact dg_lt ten_gt hd
  have hDv : val 10 D = n := by
    rw [hD]; split
    · rename_i h; rw [h]; rfl
    · exact val_dg ten_gt n
  have hD0 : 0 < D.length := by
    rw [hD]; split
    · simp
    · rename_i h
      have := dg_len0 ten_gt n
      omega
  have hDl : D.length ≤ 10000 := by
    rw [hD]; split
    · simp
    · omega
  have hP := parseU_asc D hD10 hD0 hDl
  unfold txtR
  rw [hDt]
  cases s
  · rw [if_neg (by simp), List.append_nil]
    unfold parseL
    rw [if_neg, hP, hDv, ← hz]; rfl
    intro h
    rw [List.getElem?_reverse (by rw [asc_len]; exact hD0)] at h
    have hk : (asc D).length - 1 - 0 < (asc D).length := by rw [asc_len]; omega
    rw [List.getElem?_eq_getElem hk, Option.getD_some] at h
    simp only [asc, List.getElem_map] at h
    omega
  · rw [if_pos rfl, List.reverse_append]
    unfold parseL
    rw [if_pos (show ([45].reverse ++ (asc D).reverse)[0]?.getD 0 = 45 from rfl)]
    show (parseU (asc D).reverse).map (sz true) = _
    rw [hP, hDv, ← hz]; rfl

theorem dg10_len (n k : Nat) (h : (dg BB n).length ≤ k) : (dg 10 n).length ≤ 9 * k := by
  rw [dg_len_le BB_gt] at h
  rw [dg_len_le ten_gt, ← BB_pow]
  exact h
end Go.Proofs.Ytogodjiemgilaaa

/- WholeRules: plain laws; the odd case. -/
namespace Go.Proofs.Ytogodjiemgilaaa
open Go.RowKit

theorem rsame_int (z : Int) (a b : Option Addr) (c d : Nat) (W : World) (hl : (dg BB z.natAbs).length ≤ 1000000) (h : IsInt W z a c) (k : IsInt W z b d) :
    Calls Try.prog 51 #[.agg #[.bool (decide (z < 0)), .slice a (dg BB z.natAbs).length c], .agg #[.bool (decide (z < 0)), .slice b (dg BB z.natAbs).length d]] W fun e w' => e = .returned (.bool true) ∧ Ext W w' := by
  have := rsame_walk (decide (z < 0)) (decide (z < 0)) (dg BB z.natAbs) (dg BB z.natAbs) a b c d W (by omega) (by omega) h.2.2 k.2.2
  rwa [decide_eq_true (⟨rfl, rfl⟩ : decide (z < 0) = decide (z < 0) ∧ dg BB z.natAbs = dg BB z.natAbs)] at this

theorem mod_bd (x y : Int) (h : y ≠ 0) : 0 ≤ modZ x y ∧ modZ x y < (y.natAbs : Int) := by
  unfold modZ; rw [if_neg h]
  exact ⟨Int.emod_nonneg x h, Int.emod_lt x h⟩
theorem div_mod (x y : Int) (h : y ≠ 0) : divZ x y * y + modZ x y = x := by
  unfold divZ modZ; rw [if_neg h, if_neg h, Int.mul_comm]; exact Int.mul_ediv_add_emod x y
theorem mod_gcd (x : Int) (g : Int) (h : g ∣ x) (h0 : g ≠ 0) : modZ x g = 0 := by
  unfold modZ; rw [if_neg h0]; exact Int.emod_eq_zero_of_dvd h
theorem len_div (x y : Int) : (dg BB (divZ x y).natAbs).length ≤ (dg BB x.natAbs).length := by
  refine dg_len_mono BB_gt ?_
  unfold divZ; split
  · simp
  · exact Int.natAbs_ediv_le_natAbs x y
theorem len_mod (x y : Int) : (dg BB (modZ x y).natAbs).length ≤ (dg BB y.natAbs).length := by
  by_cases h : y = 0
  · unfold modZ; rw [if_pos h]; simp [dg_zero]
  · refine dg_len_mono BB_gt ?_
    have := mod_bd x y h
    omega
theorem len_gcd (x y : Int) : (dg BB ((Nat.gcd x.natAbs y.natAbs : Nat) : Int).natAbs).length ≤ (dg BB x.natAbs).length + (dg BB y.natAbs).length := by
  rw [Int.natAbs_natCast]
  rcases Nat.eq_zero_or_pos y.natAbs with h | h
  · rw [h, Nat.gcd_zero_right]; omega
  · exact Nat.le_trans (dg_len_mono BB_gt (Nat.gcd_le_right _ h)) (Nat.le_add_left _ _)

theorem new1 (w : World) (u0 u1 : Value) : ∃ W0, w.alloc (.cells #[u0, u1] 69) = W0 ∧ Row W0 w.heap.size 69 [u0, u1] ∧ Ext w W0 := ⟨_, rfl, Row.new w _ [_, _], Ext.new _ _⟩
theorem new2 (w : World) (u0 u1 v0 v1 : Value) : ∃ W0, (w.alloc (.cells #[u0, u1] 69)).alloc (.cells #[v0, v1] 69) = W0 ∧ Row W0 w.heap.size 69 [u0, u1] ∧ Row W0 (w.heap.size + 1) 69 [v0, v1] ∧ Ext w W0 := by
  refine ⟨_, rfl, (Row.new w _ [_, _]).alloc _, ?_, (Ext.new _ _).alloc _⟩
  have := Row.new (w.alloc (.cells #[u0, u1] 69)) 69 [v0, v1]
  rwa [World.size_alloc] at this

set_option maxRecDepth 100000 in
set_option maxHeartbeats 2000000 in
theorem wrules_odd (x y z : AInt) (w : World) (hx : x.ok w) (hy : y.ok w) (hz : z.ok w) (ho : [x, y, z].any AInt.odd = true) :
    Calls Try.prog 9 #[x.v, y.v, z.v] w fun e w' => e = .returned (.bool true) ∧ Ext w w' := by
  have HO := Lib.hid (fun W (h : x.ok W) (k : y.ok W) (l : z.ok W) => odd3 x y z W h k l)
  rw [ho] at HO
  have HX := Lib.hid hx
  have HY := Lib.hid hy
  have HZ := Lib.hid hz
  clear ho hx hy hz
  obtain ⟨s1, a1, l1, c1⟩ := x
  obtain ⟨s2, a2, l2, c2⟩ := y
  obtain ⟨s3, a3, l3, c3⟩ := z
  unfold AInt.v
  simp only at HO ⊢
  generalize l1.length = n1 at *
  generalize l2.length = n2 at *
  generalize l3.length = n3 at *
  go_enter Try.func9, Try.ntmps9
  go_wp2_with fail
  obtain ⟨W0, hW0, q0, x0⟩ := H3.new w (.bool s1) (.slice a1 n1 c1) (.bool s2) (.slice a2 n2 c2) (.bool s3) (.slice a3 n3 c3)
  rw [hW0]
  clear hW0
  refine (speaks1_walk _).mono ?_
  rintro e w1 ⟨rfl, x1⟩
  obtain ⟨k0, k1, k2, k3, k4, k5⟩ := (q0.ext x1).cells
  go_wp2_with fail
  refine (HO.out _ (HX.out.ext (x0.trans x1)) (HY.out.ext (x0.trans x1)) (HZ.out.ext (x0.trans x1))).mono ?_
  rintro e w2 ⟨rfl, x2⟩
  go_wp2_with fail
  go_ret
  exact ⟨rfl, ((x0.trans x1).trans (Ext.new _ _)).trans x2⟩
end Go.Proofs.Ytogodjiemgilaaa

/- The reference's Form. -/
namespace Go.Proofs.Ytogodjiemgilaaa
open Go.RowKit

/-- append of one element, whatever else has turned -/
theorem append_elem_b {P : Program} {T E : TypeId} {z : Value} {size bytes : Nat} (he : Elem P T E z size bytes) {base : Nat} {w : World} {v : Value} {n : Nat} {xs : List Value}
    (own : w.ownsRow base E size v n xs) (hbase : base ≤ w.heap.size) (hn : n + 1 ≤ maxLen) (hb : (n + 1) * bytes ≤ 140737488355328)
    {cs : Array Value} (hcs : cs.size = size) (h1 : ∀ u ∈ cs.toList, u.oneCell' = true)
    {ops : Array Oper} {rest : List Oper} {o : Oper} {a : Act} {Q : Exit → Act → World → Prop} (hgd : o.guard = none) (s x : Operand)
    (ho : o.op = .call { callee := .builtin .append, args := #[s, x], argTypes := #[T, T] }) (hs : a.eval s = v) (hx : a.eval x = .slice (some ⟨w.heap.size, 0, none⟩) 1 1)
    (h : ∀ v' w', w'.ownsRow base E size v' (n + 1) (xs ++ cs.toList) → (w.alloc (.cells cs E)).grownBy w' v.ownBlock → wpList P ops Q rest (a.put o.dst v') w') : wpList P ops Q (o :: rest) a (w.alloc (.cells cs E)) := by
  obtain ⟨ht, i, hi, hz, hsz, hby, hzs, hpos⟩ := he
  refine wpList_append_own _ hgd s x T ho base E i z size bytes ht hi hz hsz hby hzs hpos v n xs hs (own.alloc _) ⟨w.heap.size, 0, none⟩ 1 1 cs.toList hx (by simpa using hcs) (cells_new w cs E) h1 hn hb (by simp; omega) ?_
  intro v' w' own' hg _
  exact h v' w' own' hg

theorem elemU32s : Elem Try.prog 67 160 (.int .u32 0) 1 4 := Elem.mk Try.underlying67 (by kernel_rfl) rfl (by decide)

theorem own_far {w : World} {base : Nat} {e : TypeId} {size n : Nat} {v : Value} {xs : List Value} (h : w.ownsRow base e size v n xs) {p : Addr} (hp : p.block < base) (u : Value) : (w.setCell p u).ownsRow base e size v n xs := by
  obtain ⟨h1, h2⟩ := h
  refine ⟨h1, ?_⟩
  rcases h2 with h2 | ⟨g, cap, cur, e1, e2, e3, e4⟩
  · exact .inl h2
  · exact .inr ⟨g, cap, cur, e1, e2, (Below.heap_setCell _ _ _ _ (by omega)).trans e3, e4⟩

/-- a row below the base stands when a row of the call's own grows -/
theorem Row.below {w w' : World} {g base n : Nat} {E E' : TypeId} {xs ys : List Value} {o : Obj} {v : Value} {size : Nat} (h : Row w g E xs) (own : w.ownsRow base E' size v n ys) (hg : g < base) (hgr : (w.alloc o).grownBy w' v.ownBlock) : Row w' g E xs :=
  (h.alloc o).grown hgr (fun e => by
    have := (own.lt g e.symm).1
    omega)

set_option maxRecDepth 100000 in
set_option maxHeartbeats 4000000 in
theorem rform_walk (z : Int) (a : Option Addr) (ca : Nat) (w : World) (hb : (dg 10 z.natAbs).length ≤ 100000) (h : IsNum w z a ca) :
    Calls Try.prog 53 #[.agg #[.bool (decide (z < 0)), .slice a (dg 10 z.natAbs).length ca]] w (GI z w) := by
  have hr := h.2.2
  have hnb := lt_pow_len ten_gt z.natAbs
  have hlt10 := dg_len_lt ten_gt (n := z.natAbs)
  unfold GI
  have HI : Hid (∀ W a c, (dg BB z.natAbs).length ≤ c → c ≤ maxLen → Rd W a (ks .u32 (dg BB z.natAbs)) → IsInt W z a c) := fun W a c h1 h2 h3 => ⟨h1, h2, h3⟩
  clear h
  generalize z.natAbs = y at *
  generalize decide (z < 0) = s at *
  obtain ⟨L, hL⟩ : ∃ L, L = (dg 10 y).length := ⟨_, rfl⟩
  rw [← hL] at hb hnb ⊢
  have hlt : ∀ i, i < L ↔ 10 ^ i ≤ y := fun i => by rw [hL]; exact hlt10 i
  have hget : ∀ i, (hi : i < L) → (dg 10 y)[i]'(by rw [← hL]; exact hi) = y / 10 ^ i % 10 := fun i hi => dg_at ten_gt _
  have HL := Lib.hid hL
  have HLT := Lib.hid hlt
  have HNB := Lib.hid hnb
  have HR := Lib.hid hr
  have HGET : Hid (∀ W, Rd W a (ks .i64 (dg 10 y)) → ∀ i, i < L → ∃ b off, a = some ⟨b, off, none⟩ ∧ W.cell? ⟨b, off + i, none⟩ = some (.int .i64 ((y / 10 ^ i % 10 : Nat) : Int))) := fun W hW i hi => by
    obtain ⟨b, off, e, hc⟩ := hW.num (i := i) (by rw [← hL]; exact hi)
    rw [dg_at ten_gt] at hc
    exact ⟨b, off, e, hc⟩
  clear hL hlt hnb hr hlt10 hget
  go_enter Try.func53, Try.ntmps53
  go_wp2_with fail
  obtain ⟨W1, hW1⟩ : ∃ W1, ((w.alloc (.cells #[.bool s, .slice a L ca] 72)).alloc (.cells #[.bool false, .slice none 0 0] 69)).alloc (.cells #[.bool s, .slice none 0 0] 69) = W1 := ⟨_, rfl⟩
  have q0 : Row W1 w.heap.size 72 [.bool s, .slice a L ca] := by rw [← hW1]; exact ((Row.new w _ [_, _]).alloc _).alloc _
  have q1 : Row W1 (w.heap.size + 1) 69 [.bool false, .slice none 0 0] := by
    rw [← hW1]
    have := (Row.new (w.alloc (.cells #[.bool s, .slice a L ca] 72)) 69 [.bool false, .slice none 0 0]).alloc (.cells #[.bool s, .slice none 0 0] 69)
    rwa [World.size_alloc] at this
  have q2 : Row W1 (w.heap.size + 1 + 1) 69 [.bool s, .slice none 0 0] := by
    rw [← hW1]
    have := Row.new ((w.alloc (.cells #[.bool s, .slice a L ca] 72)).alloc (.cells #[.bool false, .slice none 0 0] 69)) 69 [.bool s, .slice none 0 0]
    rwa [World.size_alloc, World.size_alloc] at this
  have x1 : Ext w W1 := by rw [← hW1]; exact ((Ext.new _ _).alloc _).alloc _
  have hs1 : W1.heap.size = w.heap.size + 1 + 1 + 1 := by rw [← hW1]; simp
  rw [hW1]
  clear hW1
  go_loopw [4] (fun iv wr => ∃ (k : Nat) (v : Value), 9 * k ≤ L + 8 ∧ iv = .int .i64 ((9 * k : Nat) : Int) ∧ Row wr w.heap.size 72 [.bool s, .slice a L ca] ∧ Row wr (w.heap.size + 1) 69 [.bool false, .slice none 0 0] ∧ Row wr (w.heap.size + 1 + 1) 69 [.bool s, v] ∧ wr.ownsRow (w.heap.size + 1 + 1 + 1) 160 1 v k (ks .u32 (fixd BB k y)) ∧ w.heap.size + 1 + 1 + 1 ≤ wr.heap.size ∧ Ext w wr ∧ Hid (k = 0 ∨ BB ^ (k - 1) ≤ y)) (fun iv _ => L + 9 - (intOf iv).toNat)
  case atStart => exact ⟨0, .slice none 0 0, by omega, rfl, q0, q1, q2, World.ownsRow_nil _ _ _ _, by omega, x1, .inl rfl⟩
  case round =>
    obtain ⟨k, v, hk, rfl, p0, p1, p2, hown, hsz, hext, HP⟩ := hrel
    have k0 := p0.cell (i := 0) rfl
    have k1 := p0.cell (i := 1) rfl
    by_cases hlt : 9 * k < L
    · have P := Lib.hid (And.intro p0 (And.intro p1 (And.intro p2 (And.intro hown (And.intro hsz hext)))))
      have hkb : BB ^ k ≤ y := by rw [BB_pow]; exact (HLT.out _).1 hlt
      have HKB := Lib.hid hkb
      clear p0 p1 p2 hown hsz hext hkb
      go_wp2_with fail
      clear k0 k1
      obtain ⟨wo, hwo⟩ : ∃ wo, wo = wr := ⟨_, rfl⟩
      rw [← hwo] at P ⊢
      clear hwo
      go_loopw [5, 6] (fun nv iv wr2 => ∃ j : Nat, j ≤ 9 ∧ iv = .int .i64 (((9 * k : Nat) : Int) + 8 - j) ∧ nv = .int .i64 ((y / 10 ^ (9 * k + 9 - j) % 10 ^ j : Nat) : Int) ∧ wo = wr2) (fun _ iv _ => (intOf iv + 1).toNat)
      case atStart => exact ⟨0, by omega, by simp, by simp [Nat.mod_one], rfl⟩
      case round =>
        obtain ⟨j, hj, rfl, rfl, rfl⟩ := hrel
        have k0 := P.out.1.cell (i := 0) rfl
        have k1 := P.out.1.cell (i := 1) rfl
        by_cases hj9 : j < 9
        · obtain ⟨p, hp⟩ : ∃ p : Nat, ((9 * k : Nat) : Int) + 8 - j = (p : Int) := ⟨9 * k + 8 - j, by omega⟩
          have HPP := Lib.hid hp
          have hpk : 9 * k ≤ p := by omega
          have hpl : p ≤ 200000 := by omega
          rw [hp]
          have hnb : y / 10 ^ (9 * k + 9 - j) % 10 ^ j < 10 ^ j := Nat.mod_lt _ (Nat.pow_pos (by decide))
          have hkb : 10 ^ j ≤ 10 ^ 8 := Nat.pow_le_pow_right (by decide) (by omega)
          have hnb2 : y / 10 ^ (9 * k + 9 - j) % 10 ^ j < 100000000 := Nat.lt_of_lt_of_le hnb hkb
          have HST : Hid (y / 10 ^ (9 * k + 9 - (j + 1)) % 10 ^ (j + 1) = 10 * (y / 10 ^ (9 * k + 9 - j) % 10 ^ j) + y / 10 ^ p % 10) := by
            show _ = _
            rw [piece_step, show 9 * k + 9 - (j + 1) = p by omega, show p + 1 = 9 * k + 9 - j by omega]
          have hd10 : y / 10 ^ p % 10 < 10 := Nat.mod_lt _ (by decide)
          have HZ : Hid (¬ p < L → y / 10 ^ p % 10 = 0) := fun h => digit_0 (by have := not_congr (HLT.out p); omega)
          have HC := HGET.out wo (HR.out.ext P.out.2.2.2.2.2) p
          clear hp hnb hkb
          generalize y / 10 ^ (9 * k + 9 - j) % 10 ^ j = v0 at *
          generalize y / 10 ^ p % 10 = d at *
          by_cases hpL : p < L
          · obtain ⟨b0, ob, rfl, hcb⟩ := HC hpL
            clear HC
            go_wp2_with fail
            go_roundw
            case rel =>
              have h4 := HPP.out
              refine ⟨j + 1, by omega, ?_, ?_, by first | rfl | trivial⟩
              · congr 1; omega
              · rw [HST.out]; congr 1
            case measure => simp [intOf] <;> omega
          · have hd0 := HZ.out hpL
            subst hd0
            clear HC
            go_wp2_with fail
            go_roundw
            case rel =>
              have h4 := HPP.out
              refine ⟨j + 1, by omega, ?_, ?_, by first | rfl | trivial⟩
              · congr 1; omega
              · rw [HST.out]; congr 1
            case measure => simp [intOf] <;> omega
        · have hj9' : 9 = j := by omega
          subst hj9'
          have HV : Hid (y / 10 ^ (9 * k + 9 - 9) % 10 ^ 9 = y / BB ^ k % BB) := by show _ = _; rw [BB_pow]; rfl
          have hvb : y / BB ^ k % BB < 1000000000 := Nat.mod_lt _ (by decide)
          rw [HV.out]
          have HFS : Hid (fixd BB (k + 1) y = fixd BB k y ++ [y / BB ^ k % BB]) := fixd_succ _ _ _
          generalize y / BB ^ k % BB = x at *
          have k2 := P.out.2.2.1.cell (i := 0) rfl
          have k3 := P.out.2.2.1.cell (i := 1) rfl
          go_wp2_with (at_builtin; refine append_elem_b elemU32s P.out.2.2.2.1 P.out.2.2.2.2.1 (by unfold maxLen; omega) (by omega) rfl (by simp [Value.oneCell']) rfl _ _ rfl rfl rfl ?_; intro v' w1 own1 gr1; obtain ⟨a5, c5, rfl, g1, g2, g3⟩ := own_form own1; have t2 := P.out.2.2.1.below P.out.2.2.2.1 (by omega) gr1; have e2 := t2.cell (i := 0) rfl; have e3 := t2.cell (i := 1) rfl; have f2 := t2.frozen 1)
          go_roundw
          case rel =>
            obtain ⟨p0, p1, p2, hown, hsz, hext⟩ := P.out
            have e0 := p0.below hown (by omega) gr1
            have e1 := p1.below hown (by omega) gr1
            have e4 := t2.set 1 (.slice a5 (k + 1) c5)
            refine ⟨k + 1, .slice a5 (k + 1) c5, by omega, ?_, e0.far (p := ⟨w.heap.size + 1 + 1, 1, none⟩) (Nat.ne_of_lt (by show _ < w.heap.size + 1 + 1; omega)) _, e1.far (p := ⟨w.heap.size + 1 + 1, 1, none⟩) (Nat.ne_of_lt (by show _ < w.heap.size + 1 + 1; omega)) _, e4, ?_, ?_, ?_, .inr HKB.out⟩
            · congr 1 <;> omega
            · rw [HFS.out, ks_append]
              exact own_far own1 (by show w.heap.size + 1 + 1 < _; omega) _
            · have := gr1.size; simp [World.setCell] at this ⊢; omega
            · exact ((hext.alloc _).grown gr1 (fun q hq => by have := (hown.lt q hq).1; omega)).set (p := ⟨w.heap.size + 1 + 1, 1, none⟩) (by show w.heap.size ≤ w.heap.size + 1 + 1; omega) _
          case measure => simp [intOf] <;> omega
    · have hN : y < BB ^ k := by rw [BB_pow]; exact Nat.lt_of_lt_of_le HNB.out (Nat.pow_le_pow_right (by decide) (by omega))
      have hfd : fixd BB k y = dg BB y := fixd_dg BB_gt hN HP.out
      rw [hfd] at hown
      have hkl : k = (dg BB y).length := by rw [← hfd, fixd_len]
      obtain ⟨a1, c1, rfl, g1, g2, g3⟩ := own_form hown
      have gf := own_from hown
      have k2 := p2.cell (i := 0) rfl
      have k3 := p2.cell (i := 1) rfl
      have k4 := p1.cell (i := 0) rfl
      have k5 := p1.cell (i := 1) rfl
      have f4 := p1.frozen 0
      have f5 := p1.frozen 1
      rw [hkl] at g1 k3
      have G := Lib.hid (And.intro g1 (And.intro g2 (And.intro g3 (And.intro gf (And.intro p1 hext)))))
      obtain ⟨lm, hlm⟩ : ∃ x, (dg BB y).length = x := ⟨_, rfl⟩
      have HLM := Lib.hid hlm
      rw [hlm] at k3
      clear g1 g2 g3 gf p0 p1 p2 hown hkl hfd hN hsz hext hlm
      go_wp2_with fail
      obtain ⟨g1, g2, g3, gf, p1, hext⟩ := G.out
      have r9 := (p1.set 0 (.bool s)).set 1 (.slice a1 lm c1)
      have z0 := r9.cell (i := 0) rfl
      have z1 := r9.cell (i := 1) rfl
      refine bodyPost_ret (v := .agg #[.bool s, .slice a1 lm c1]) (by simp [results, Try.f53, go_sem, z0, z1]) rfl ⟨a1, c1, by rw [HLM.out], HI.out _ _ _ g1 g2 ((g3.far gf (p := ⟨w.heap.size + 1, 0, none⟩) (by show w.heap.size + 1 < _; omega) _).far gf (p := ⟨w.heap.size + 1, 1, none⟩) (by show w.heap.size + 1 < _; omega) _), (hext.set (p := ⟨w.heap.size + 1, 0, none⟩) (Nat.le_succ _) _).set (p := ⟨w.heap.size + 1, 1, none⟩) (Nat.le_succ _) _⟩
end Go.Proofs.Ytogodjiemgilaaa

/- The reference's Text. -/
namespace Go.Proofs.Ytogodjiemgilaaa
open Go.RowKit

theorem own_emptyE (w : World) (E : TypeId) : (w.alloc (.cells #[] E)).ownsRow w.heap.size E 1 (.slice (some ⟨w.heap.size, 0, none⟩) 0 0) 0 [] :=
  ⟨rfl, .inr ⟨w.heap.size, 0, #[], rfl, Nat.le_refl _, heap_alloc_new w _, Nat.le_refl _, by simp [maxLen], rfl, rfl⟩⟩

set_option maxRecDepth 100000 in
set_option maxHeartbeats 4000000 in
theorem rtext_walk (z : Int) (a : Option Addr) (ca : Nat) (w : World) (hb : (dg 10 z.natAbs).length ≤ 100000) (h : IsNum w z a ca) :
    Calls Try.prog 64 #[.agg #[.bool (decide (z < 0)), .slice a (dg 10 z.natAbs).length ca]] w fun e w' => e = .returned (.string (txt z)) ∧ Ext w w' := by
  have hr := h.2.2
  have hs0 : z.natAbs = 0 → decide (z < 0) = false := fun h => decide_eq_false (by omega)
  obtain ⟨T, hT⟩ : ∃ T, txt z = T := ⟨_, rfl⟩
  rw [hT]
  unfold txt at hT
  clear h
  generalize z.natAbs = n at *
  generalize decide (z < 0) = s at *
  obtain ⟨L, hL⟩ : ∃ L, (dg 10 n).length = L := ⟨_, rfl⟩
  have hlen0 := dg_len0 ten_gt n
  rw [hL] at hb hlen0 ⊢
  obtain ⟨RV, hRV⟩ : ∃ RV, RV = (asc (dg 10 n)).reverse := ⟨_, rfl⟩
  have HGET : Hid (∀ W, Rd W a (ks .i64 (dg 10 n)) → ∀ i, i < L → ∃ b off, a = some ⟨b, off, none⟩ ∧ W.cell? ⟨b, off + i, none⟩ = some (.int .i64 ((n / 10 ^ i % 10 : Nat) : Int))) := fun W hW i hi => by
    obtain ⟨b, off, e, hc⟩ := hW.num (i := i) (by rw [hL]; exact hi)
    rw [dg_at ten_gt] at hc
    exact ⟨b, off, e, hc⟩
  have HRV : Hid (∀ j p, j < L → p = L - 1 - j → RV.take (j + 1) = RV.take j ++ [48 + n / 10 ^ p % 10]) := fun j p hj hp => by
    have hlr : RV.length = L := by rw [hRV, List.length_reverse, asc_len, hL]
    rw [List.take_succ_eq_append_getElem (by rw [hlr]; exact hj)]
    congr 2
    subst hRV hp
    rw [List.getElem_reverse]
    simp only [asc, List.getElem_map, List.length_map]
    rw [dg_at ten_gt, hL, Nat.add_comm]
  have HR := Lib.hid hr
  by_cases hL0 : L = 0
  · have hn := hlen0.1 hL0
    subst hn
    have := hs0 rfl
    subst this
    have HT : Hid (T = ⟨#[48]⟩) := by show _ = _; rw [← hT]; rfl
    subst hL0
    rw [HT.out]
    clear hT HT HGET HRV hs0 hlen0 hRV hL hr
    go_enter Try.func64, Try.ntmps64
    go_wp2_with fail
    obtain ⟨W1, hW1⟩ : ∃ W1, w.alloc (.cells #[.bool false, .slice a 0 ca] 72) = W1 := ⟨_, rfl⟩
    have q0 : Row W1 w.heap.size 72 [.bool false, .slice a 0 ca] := by rw [← hW1]; exact Row.new w _ [_, _]
    have x1 : Ext w W1 := by rw [← hW1]; exact Ext.new _ _
    rw [hW1]
    have q2 := q0.alloc (.cells #[] 5)
    have X2 := x1.alloc (.cells #[] 5)
    clear hW1
    generalize W1.alloc (.cells #[] 5) = W2 at *
    have k0 := q2.cell (i := 0) rfl
    have k1 := q2.cell (i := 1) rfl
    go_loopw [4] (fun iv wr => iv = .int .i64 (-1) ∧ W2 = wr) (fun _ _ => 0)
    case atStart => exact ⟨rfl, rfl⟩
    case round =>
      obtain ⟨rfl, rfl⟩ := hrel
      go_wp2_with fail
      go_ret
      exact ⟨rfl, X2⟩
  · have hn0 : ¬ n = 0 := fun e => hL0 (hlen0.2 e)
    have hL0' : ((L : Int) == 0) = false := beq_false_of_ne (by omega)
    have hLp : 0 < L := by omega
    cases s
    · have HFIN : Hid (bs ([] ++ RV.take L) = T) := by
        show _ = _
        rw [← hT, List.take_of_length_le (by rw [hRV, List.length_reverse, asc_len, hL]; exact Nat.le_refl _), hRV]
        unfold txtR; rw [if_neg hn0]; simp
      have HLEN : Hid (([] ++ RV.take L : List Nat).length = L) := by
        show _ = _
        rw [List.nil_append, List.length_take, hRV, List.length_reverse, asc_len, hL]; omega
      clear hT hs0 hlen0 hRV hL hr hn0
      go_enter Try.func64, Try.ntmps64
      go_wp2_with fail
      obtain ⟨W1, hW1⟩ : ∃ W1, w.alloc (.cells #[.bool false, .slice a L ca] 72) = W1 := ⟨_, rfl⟩
      have q0 : Row W1 w.heap.size 72 [.bool false, .slice a L ca] := by rw [← hW1]; exact Row.new w _ [_, _]
      have x1 : Ext w W1 := by rw [← hW1]; exact Ext.new _ _
      have hs1 : W1.heap.size = w.heap.size + 1 := by rw [← hW1]; simp
      rw [hW1]
      have own0 := own_emptyE W1 5
      rw [hs1] at own0
      rw [← hs1] at *
      clear hW1
      go_loopw [3, 4] (fun o iv wr => ∃ j : Nat, j ≤ L ∧ iv = .int .i64 ((L : Int) - 1 - j) ∧ wr.ownsRow W1.heap.size 5 1 o j (ks .u8 (([] : List Nat) ++ RV.take j)) ∧ Ext W1 wr) (fun _ iv _ => (intOf iv + 1).toNat)
      case atStart => exact ⟨0, by omega, by simp, own0, Ext.new _ _⟩
      case round =>
        obtain ⟨j, hj, rfl, hown, hext⟩ := hrel
        have k0 := (q0.ext hext).cell (i := 0) rfl
        have k1 := (q0.ext hext).cell (i := 1) rfl
        by_cases hlt : j < L
        · obtain ⟨p, hp⟩ : ∃ p : Nat, (L : Int) - 1 - j = (p : Int) := ⟨L - 1 - j, by omega⟩
          have HPP := Lib.hid hp
          have hpl : p < L := by omega
          rw [hp]
          clear hp
          obtain ⟨b0, ob, rfl, hcb⟩ := HGET.out wr (HR.out.ext (x1.trans hext)) p hpl
          have HTK : Hid (RV.take (j + 1) = RV.take j ++ [48 + n / 10 ^ p % 10]) := by
            have h4 := HPP.out
            exact HRV.out j p hlt (by omega)
          have hd10 : n / 10 ^ p % 10 < 10 := Nat.mod_lt _ (by decide)
          generalize n / 10 ^ p % 10 = d at *
          go_wp2_with (at_builtin; refine append_elem elemU8 hown hext (by unfold maxLen; omega) (by omega) rfl (by simp [Value.oneCell']) rfl _ _ rfl rfl rfl ?_; intro v' w1 own1 ext1 _)
          go_roundw
          case rel =>
            have h4 := HPP.out
            refine ⟨j + 1, by omega, ?_, ?_, ext1⟩
            · congr 1; omega
            · rw [HTK.out, ← List.append_assoc, ks_append]; exact own1
          case measure => simp [intOf] <;> omega
        · obtain rfl : j = L := by omega
          obtain ⟨a1, c1, rfl, g1, g2, g3⟩ := own_form hown
          have hcv := conv_bytes (c := c1) g3
          rw [HFIN.out, HLEN.out] at hcv
          go_wp2_with fail
          go_ret
          exact ⟨rfl, x1.trans hext⟩
    · have HFIN : Hid (bs ([45] ++ RV.take L) = T) := by
        show _ = _
        rw [← hT, List.take_of_length_le (by rw [hRV, List.length_reverse, asc_len, hL]; exact Nat.le_refl _), hRV]
        unfold txtR; rw [if_neg hn0]; simp
      have HLEN : Hid (([45] ++ RV.take L : List Nat).length = 1 + L) := by
        show _ = _
        rw [List.length_append, List.length_take, hRV, List.length_reverse, asc_len, hL]; simp
      clear hT hs0 hlen0 hRV hL hr hn0
      have own0 := own_emptyE (w.alloc (.cells #[.bool true, .slice a L ca] 72)) 5
      rw [World.size_alloc] at own0
      have Q0 := Lib.hid (Row.new w 72 [.bool true, .slice a L ca])
      go_enter Try.func64, Try.ntmps64
      go_wp2_with (at_builtin; refine append_elem_b elemU8 own0 (by simp) (by unfold maxLen; omega) (by omega) rfl (by simp [Value.oneCell']) rfl _ _ rfl rfl (by simp [Act.eval]) ?_; intro v' w1 own1 gr1; have t0 := (Q0.out.alloc (.cells #[] 5)).below own0 (Nat.lt_succ_self _) gr1; have k0 := t0.cell (i := 0) rfl; have k1 := t0.cell (i := 1) rfl)
      obtain ⟨W1, hW1⟩ : ∃ W1, w.alloc (.cells #[.bool true, .slice a L ca] 72) = W1 := ⟨_, rfl⟩
      have q0 : Row W1 w.heap.size 72 [.bool true, .slice a L ca] := by rw [← hW1]; exact Row.new w _ [_, _]
      have x1 : Ext w W1 := by rw [← hW1]; exact Ext.new _ _
      have hs1 : W1.heap.size = w.heap.size + 1 := by rw [← hW1]; simp
      have y1 : Ext W1 w1 := by
        rw [← hW1]
        exact (((Ext.new _ _).alloc _)).grown gr1 (fun q hq => by have := (own0.lt q hq).1; simpa using this)
      rw [← hs1] at own1
      clear hW1 own0 gr1 k0 k1 t0 Q0
      go_loopw [3, 4] (fun o iv wr => ∃ j : Nat, j ≤ L ∧ iv = .int .i64 ((L : Int) - 1 - j) ∧ wr.ownsRow W1.heap.size 5 1 o (1 + j) (ks .u8 (([45] : List Nat) ++ RV.take j)) ∧ Ext W1 wr) (fun _ iv _ => (intOf iv + 1).toNat)
      case atStart => exact ⟨0, by omega, by simp, own1, y1⟩
      case round =>
        obtain ⟨j, hj, rfl, hown, hext⟩ := hrel
        have k0 := (q0.ext hext).cell (i := 0) rfl
        have k1 := (q0.ext hext).cell (i := 1) rfl
        by_cases hlt : j < L
        · obtain ⟨p, hp⟩ : ∃ p : Nat, (L : Int) - 1 - j = (p : Int) := ⟨L - 1 - j, by omega⟩
          have HPP := Lib.hid hp
          have hpl : p < L := by omega
          rw [hp]
          clear hp
          obtain ⟨b0, ob, rfl, hcb⟩ := HGET.out wr (HR.out.ext (x1.trans hext)) p hpl
          have HTK : Hid (RV.take (j + 1) = RV.take j ++ [48 + n / 10 ^ p % 10]) := by
            have h4 := HPP.out
            exact HRV.out j p hlt (by omega)
          have hd10 : n / 10 ^ p % 10 < 10 := Nat.mod_lt _ (by decide)
          generalize n / 10 ^ p % 10 = d at *
          go_wp2_with (at_builtin; refine append_elem elemU8 hown hext (by unfold maxLen; omega) (by omega) rfl (by simp [Value.oneCell']) rfl _ _ rfl rfl rfl ?_; intro v' w1 own1 ext1 _)
          go_roundw
          case rel =>
            have h4 := HPP.out
            refine ⟨j + 1, by omega, ?_, ?_, ext1⟩
            · congr 1; omega
            · rw [HTK.out, ← List.append_assoc, ks_append]; exact own1
          case measure => simp [intOf] <;> omega
        · obtain rfl : j = L := by omega
          obtain ⟨a1, c1, rfl, g1, g2, g3⟩ := own_form hown
          have hcv := conv_bytes (c := c1) g3
          rw [HFIN.out, HLEN.out] at hcv
          go_wp2_with fail
          go_ret
          exact ⟨rfl, x1.trans hext⟩
end Go.Proofs.Ytogodjiemgilaaa

/- The reference's Mul. -/
namespace Go.Proofs.Ytogodjiemgilaaa
open Go.RowKit

theorem mul_inside_ge {B : Nat} (hB : 1 < B) (n m k j c na : Nat) (out : List Nat) (hk : k < na) (hna : na = (dg B n).length) (hl : na + (dg B m).length ≤ out.length)
    (h : val B out + c * B ^ (k + j) = (n % B ^ k) * m + B ^ k * (n / B ^ k % B * (m % B ^ j))) (hc : j < (dg B m).length ∨ 0 < c) : k + j < out.length := by
  rcases hc with hc | hc
  · omega
  · have h1 : B ^ (k + j) ≤ c * B ^ (k + j) := Nat.le_mul_of_pos_left _ hc
    have h2 : (n % B ^ k) * m + B ^ k * (n / B ^ k % B * (m % B ^ j)) ≤ (n % B ^ (k + 1)) * m := by
      rw [mod_pow_succ', Nat.add_mul]
      apply Nat.add_le_add_left
      rw [← Nat.mul_assoc]
      exact Nat.mul_le_mul_left _ (Nat.mod_le _ _)
    have hp : 0 < B ^ (k + 1) := Nat.pow_pos (by omega)
    have h3 : (n % B ^ (k + 1)) * m < B ^ (k + 1) * B ^ (dg B m).length := by
      have := Nat.mod_lt n hp
      exact Nat.mul_lt_mul'' this (lt_pow_len hB m)
    rw [← Nat.pow_add] at h3
    have h4 : B ^ (k + j) < B ^ (k + 1 + (dg B m).length) := by omega
    have := (Nat.pow_lt_pow_iff_right hB).1 h4
    omega

/-- what the product's row holds -/
def RMul (W1 : World) (g L v : Nat) (wr : World) (out : List Nat) : Prop :=
  Row wr g 3 (ks .i64 out) ∧ out.length = L ∧ (∀ d ∈ out, d < 10) ∧ val 10 out = v ∧ Ext W1 wr

set_option maxRecDepth 100000 in
set_option maxHeartbeats 4000000 in
theorem rmul_walk (z1 z2 : Int) (a b : Option Addr) (ca cb : Nat) (w : World) (hb1 : (dg 10 z1.natAbs).length ≤ 100000) (hb2 : (dg 10 z2.natAbs).length ≤ 100000) (h1 : IsNum w z1 a ca) (h2 : IsNum w z2 b cb) :
    Calls Try.prog 56 #[.agg #[.bool (decide (z1 < 0)), .slice a (dg 10 z1.natAbs).length ca], .agg #[.bool (decide (z2 < 0)), .slice b (dg 10 z2.natAbs).length cb]] w (GotNum (z1 * z2) w) := by
  have ha := h1.2.2
  have hb := h2.2.2
  have hms := mul_sign z1 z2
  have hmn : (z1 * z2).natAbs = z1.natAbs * z2.natAbs := Int.natAbs_mul _ _
  have HLM := dg_len_mul ten_gt z1.natAbs z2.natAbs
  obtain ⟨y0, hy0⟩ : ∃ y, z1 * z2 = y := ⟨_, rfl⟩
  rw [hy0] at hms hmn ⊢
  clear h1 h2 hy0
  generalize z1.natAbs = n at *
  generalize z2.natAbs = m at *
  generalize decide (z1 < 0) = s1 at *
  generalize decide (z2 < 0) = s2 at *
  have LB : ∀ i, (dg 10 m).length ≤ i → m < 10 ^ i := fun i h => (dg_len_le ten_gt i m).1 h
  have HNN := lt_pow_len ten_gt n
  have HIN : ∀ (k j c : Nat) (out : List Nat), k < (dg 10 n).length → out.length = (dg 10 n).length + (dg 10 m).length + 1 → val 10 out + c * 10 ^ (k + j) = (n % 10 ^ k) * m + 10 ^ k * (n / 10 ^ k % 10 * (m % 10 ^ j)) → (j < (dg 10 m).length ∨ 0 < c) → k + j < out.length :=
    fun k j c out hk hl h hc => mul_inside_ge ten_gt n m k j c _ out hk rfl (by omega) h hc
  generalize hna : (dg 10 n).length = na at *
  generalize hnb : (dg 10 m).length = nb at *
  have HNA := Lib.hid hna
  have HNB := Lib.hid hnb
  have HLB := Lib.hid LB
  have HN := Lib.hid HNN
  have HI := Lib.hid HIN
  have HA := Lib.hid ha
  have HB := Lib.hid hb
  have HMS := Lib.hid hms
  have HMN := Lib.hid hmn
  have HLL := Lib.hid HLM
  clear hna hnb LB HNN HIN ha hb hms hmn HLM
  go_enter Try.func56, Try.ntmps56
  obtain ⟨W1, hW1, q0, q1, q2, x1, hs1⟩ := two_nums w (.bool s1) (.slice a na ca) (.bool s2) (.slice b nb cb)
  have Q := Lib.hid (And.intro q0 (And.intro q1 (And.intro q2 (And.intro x1 (And.intro hs1 hW1)))))
  clear q0 q1 q2 x1 hs1 hW1
  go_wp2_with (at_make; rw [Q.out.2.2.2.2.2]; refine make_one elemI64 rfl rfl _ _ rfl rfl rfl (n := na + nb + 1) (by omega) (by omega) (by omega) (by unfold maxLen; omega) ?_; intro w0 hrow0 hext0)
  rw [ks_replicate] at hrow0
  go_loopw [6] (fun i wr => ∃ k : Nat, k ≤ na ∧ i = .int .i64 k ∧ ∃ out, RMul W1 W1.heap.size (na + nb + 1) ((n % 10 ^ k) * m) wr out)
    (fun i _ => na - (intOf i).toNat)
  case atStart =>
    refine ⟨0, by omega, rfl, List.replicate (na + nb + 1) 0, hrow0, by simp, ?_, ?_, hext0⟩
    · intro d hd; rw [(List.mem_replicate.1 hd).2]; decide
    · rw [val_replicate]; simp [Nat.mod_one]
  case round =>
    obtain ⟨k, hk, rfl, out, hrow, hlen, hlt, hval, hext⟩ := hrel
    clear hrow0 hext0
    obtain ⟨wo, rfl⟩ : ∃ wo : World, wo = wr := ⟨_, rfl⟩
    have k0 := (Q.out.1.ext hext).cell (i := 0) rfl
    have k1 := (Q.out.1.ext hext).cell (i := 1) rfl
    have k2 := (Q.out.2.1.ext hext).cell (i := 0) rfl
    have k3 := (Q.out.2.1.ext hext).cell (i := 1) rfl
    by_cases h1 : k < na
    · obtain ⟨ba, oa, rfl, hca⟩ := (HA.out.ext (Q.out.2.2.2.1.trans hext)).num (i := k) (by rw [HNA.out]; exact h1)
      rw [fdig10] at hca
      have hca1 := (HA.out).num (i := k) (by rw [HNA.out]; exact h1)
      obtain ⟨ba', oa', hbe, hca1⟩ := hca1
      simp only [Option.some.injEq, Addr.mk.injEq] at hbe
      obtain ⟨rfl, rfl, -⟩ := hbe
      rw [fdig10] at hca1
      have d1 : n / 10 ^ k % 10 < 10 := Nat.mod_lt _ (by decide)
      generalize hx : n / 10 ^ k % 10 = x at *
      have HV := Lib.hid hval
      have HL := Lib.hid hlen
      have HCA := Lib.hid hca1
      clear hval hlen hca hca1
      have HX := Lib.hid hx
      clear hx
      go_wp2_with fail
      clear k0 k1 k2 k3
      go_loopw [7, 8] (fun cv jv wr => ∃ c j : Nat, ∃ o2 : List Nat, cv = .int .i64 c ∧ jv = .int .i64 j ∧ c < 10 ∧ j ≤ na + nb + 1 ∧ Row wr W1.heap.size 3 (ks .i64 o2) ∧ Hid (o2.length = na + nb + 1) ∧ (∀ d ∈ o2, d < 10) ∧ Hid (val 10 o2 + c * 10 ^ (k + j) = (n % 10 ^ k) * m + 10 ^ k * (x * (m % 10 ^ j))) ∧ Ext W1 wr)
        (fun _ jv _ => na + nb + 2 - (intOf jv).toNat)
      case atStart => exact ⟨0, 0, out, rfl, rfl, by omega, by omega, hrow, HL.out, hlt, by show _ = _; rw [HV.out]; simp [Nat.mod_one], hext⟩
      case round =>
        obtain ⟨c, j, o2, rfl, rfl, hc, hj, hrow2, HL2, hlt2, HV2, hext2⟩ := hrel
        have hcx := (Q.out.2.2.2.1.trans hext2).cell HCA.out
        have k0 := (Q.out.1.ext hext2).cell (i := 0) rfl
        have k1 := (Q.out.1.ext hext2).cell (i := 1) rfl
        have k2 := (Q.out.2.1.ext hext2).cell (i := 0) rfl
        have k3 := (Q.out.2.1.ext hext2).cell (i := 1) rfl
        clear hrow hlt
        by_cases hmore : j < nb ∨ 0 < c
        · have hin : k + j < o2.length := HI.out k j c o2 h1 HL2.out (by rw [HX.out]; exact HV2.out) hmore
          have hlo : o2[k + j] < 10 := hlt2 _ (List.getElem_mem hin)
          have hcell : wr.cell? ⟨W1.heap.size, k + j, none⟩ = some (.int .i64 ((o2[k + j] : Nat) : Int)) := hrow2.cell (ks_get hin)
          have hfz : wr.frozen? ⟨W1.heap.size, k + j, none⟩ = false := hrow2.frozen _
          have hyl : m / 10 ^ j % 10 < 10 := Nat.mod_lt _ (by decide)
          have HMR := Lib.hid (mul_round (B := 10) n m x k j c o2 hin HV2.out)
          have HMC := mul_carry (B := 10) c o2[k + j] x (m / 10 ^ j % 10) hc hlo d1 hyl
          have HY0 : Hid (¬ j < nb → m / 10 ^ j % 10 = 0) := fun h => digit_0 (HLB.out j (by omega))
          have hyc : j < nb → ∃ bb ob, b = some ⟨bb, ob, none⟩ ∧ wr.cell? ⟨bb, ob + j, none⟩ = some (.int .i64 ((m / 10 ^ j % 10 : Nat) : Int)) := fun h => by
            obtain ⟨ba, oa, e, hca⟩ := (HB.out.ext (Q.out.2.2.2.1.trans hext2)).num (i := j) (by rw [HNB.out]; exact h)
            rw [fdig10] at hca
            exact ⟨ba, oa, e, hca⟩
          have hkj : k + j < na + nb + 1 := by rw [← HL2.out]; exact hin
          generalize m / 10 ^ j % 10 = y at *
          generalize hoo : o2[k + j] = oo at *
          clear hoo
          have close : ∀ (W : World) (t : Nat), t = c + oo + x * y → Row W W1.heap.size 3 (ks .i64 (o2.set (k + j) (t % 10))) → Ext W1 W → ∃ c' j' : Nat, ∃ o3 : List Nat, Value.int .i64 ((t / 10 : Nat) : Int) = .int .i64 c' ∧ Value.int .i64 ((j : Int) + 1) = .int .i64 j' ∧ c' < 10 ∧ j' ≤ na + nb + 1 ∧ Row W W1.heap.size 3 (ks .i64 o3) ∧ Hid (o3.length = na + nb + 1) ∧ (∀ d ∈ o3, d < 10) ∧ Hid (val 10 o3 + c' * 10 ^ (k + j') = (n % 10 ^ k) * m + 10 ^ k * (x * (m % 10 ^ j'))) ∧ Ext W1 W := by
            intro W t ht hW1 hW2
            subst ht
            refine ⟨_, j + 1, o2.set (k + j) ((c + oo + x * y) % 10), rfl, by go_num, HMC.1, by omega, hW1, ?_, ?_, HMR.out, hW2⟩
            · show _ = _; rw [List.length_set]; exact HL2.out
            · exact set_lt hlt2 _ _ (Nat.mod_lt _ (by decide))
          have HCL := Lib.hid close
          have hxy : x * y ≤ 81 := by have h3 := HMC.2; omega
          have hxyi : ((x : Int) * y) = ((x * y : Nat) : Int) := by rw [Int.natCast_mul]
          have R2 := Lib.hid hrow2
          have X2 := Lib.hid hext2
          clear close HMR HMC hlt2 hrow2 hext2
          by_cases h2 : j < nb
          · obtain ⟨bb, ob, rfl, hcb⟩ := hyc h2
            clear hyc hmore hin
            have hw1 : IntKind.i64.wrap ((x : Int) * y) = ((x * y : Nat) : Int) := by rw [hxyi]; simp only [IntKind.wrap, IntKind.bits, IntKind.signed]; simp; omega
            generalize hpp : x * y = pp at *
            have hw2 : IntKind.i64.wrap ((c : Int) + oo + pp) = (c : Int) + oo + pp := by simp only [IntKind.wrap, IntKind.bits, IntKind.signed]; simp; omega
            clear hxyi
            have HPP := Lib.hid hpp
            clear hpp
            go_wp2_with fail
            go_quiet (fail)
            clear hw1 hw2
            go_wp2_with fail
            go_roundw
            case rel =>
              have := HCL.out ((wr.drewN nq).setCell ⟨W1.heap.size, k + j, none⟩ (.int .i64 (((c + oo + pp) % 10 : Nat) : Int))) (c + oo + pp) rfl (by rw [← ks_set]; exact (R2.out.set _ _)) ((X2.out.drewN nq).set (p := ⟨W1.heap.size, k + j, none⟩) (Nat.le_refl _) _)
              rw [Int.natCast_ediv, Int.natCast_emod, Int.natCast_add, Int.natCast_add] at this
              exact this
            case measure => simp [intOf] <;> omega
          · have hy0 := HY0.out h2
            subst hy0
            have hc1 : 0 < c := by omega
            clear hyc hmore hin hxyi
            go_wp2_with fail
            go_roundw
            case rel => exact HCL.out (wr.setCell ⟨W1.heap.size, k + j, none⟩ (.int .i64 (((c + oo) % 10 : Nat) : Int))) (c + oo) (by omega) (by rw [← ks_set]; exact (R2.out.set _ _)) (X2.out.set (p := ⟨W1.heap.size, k + j, none⟩) (Nat.le_refl _) _)
            case measure => simp [intOf] <;> omega
        · have h2 : ¬ j < nb := by omega
          have h3 : ¬ 0 < c := by omega
          obtain rfl : c = 0 := by omega
          have HROW := Lib.hid (mul_row (B := 10) n m k j o2 (HLB.out j (by omega)) (by rw [HX.out]; exact HV2.out))
          clear hmore
          go_wp2_with fail
          go_roundw
          case rel => exact ⟨k + 1, h1, by go_num, o2, hrow2, HL2.out, hlt2, HROW.out, hext2⟩
          case measure => simp [intOf] <;> omega
    · obtain rfl : k = na := by omega
      have hv : val 10 out = n * m := by rw [hval, Nat.mod_eq_of_lt HN.out]
      have HM := Lib.hid (rmake1_walk (s1 != s2) (some ⟨W1.heap.size, 0, none⟩) (k + nb + 1) out (k + nb + 1) wo hlt hlen (Nat.le_refl _) (by unfold maxLen; omega) hrow.rd)
      rw [hv, HMS.out] at HM
      have hR : Rd wo (some ⟨W1.heap.size, 0, none⟩) (ks .i64 (dg 10 (n * m))) := by
        have h6 := hrow.rd.take (stripN out out.length)
        rw [ks_take] at h6
        have : strip out = dg 10 (n * m) := by rw [strip_dg ten_gt _ hlt, hv]
        rw [show out.take (stripN out out.length) = dg 10 (n * m) from this] at h6
        exact h6
      have hq2 := Q.out.2.2.1.ext hext
      have G := Lib.hid (And.intro hR (And.intro hq2 hext))
      obtain ⟨lm, hlm⟩ : ∃ x, (dg 10 (n * m)).length = x := ⟨_, rfl⟩
      have HLM := Lib.hid hlm
      have hle := HLL.out
      rw [hlm] at HM hle
      clear hv hR hrow hlen hlt hval hext hq2 hlm
      go_wp2_with fail
      refine HM.out.mono ?_
      rintro e w3 ⟨rfl, t4⟩
      have q3 := G.out.2.1.ext t4
      have e0 := q3.cell (i := 0) rfl
      have e1 := q3.cell (i := 1) rfl
      have f0 := q3.frozen 0
      have f1 := q3.frozen 1
      have Q3 := Lib.hid q3
      clear q3 k0 k1 k2 k3
      go_wp2_with fail
      have r9 := (Q3.out.set 0 (.bool (decide (y0 < 0)))).set 1 (.slice (some ⟨W1.heap.size, 0, none⟩) lm (k + nb + 1))
      have z0 := r9.cell (i := 0) rfl
      have z1 := r9.cell (i := 1) rfl
      have hgs := num_store (w := w) (z := y0) (g := w.heap.size + 1 + 1) (c := k + nb + 1) (a := some ⟨W1.heap.size, 0, none⟩) (by omega) (Q.out.2.2.2.1.trans G.out.2.2) (w' := w3) (by rw [IsNum, HMN.out]; exact ⟨by rw [HLM.out]; omega, by unfold maxLen; omega, G.out.1.ext t4⟩) t4 (fun ad e => by cases e; have := Q.out.2.2.2.2.1; show W1.heap.size ≠ _; omega) (.bool (decide (y0 < 0))) (.slice (some ⟨W1.heap.size, 0, none⟩) lm (k + nb + 1))
      rw [HMN.out, HLM.out] at hgs
      exact bodyPost_ret (v := .agg #[.bool (decide (y0 < 0)), .slice (some ⟨W1.heap.size, 0, none⟩) lm (k + nb + 1)]) (by simp [results, Try.f56, go_sem, z0, z1]) rfl hgs
end Go.Proofs.Ytogodjiemgilaaa

/- The reference's Int. -/
namespace Go.Proofs.Ytogodjiemgilaaa
open Go.RowKit

set_option maxRecDepth 100000 in
set_option maxHeartbeats 4000000 in
theorem rint_walk (n : Int) (w : World) (h1 : -4611686018427387904 ≤ n) (h2 : n ≤ 9223372036854775807) :
    Calls Try.prog 71 #[.int .i64 n] w (GotNum n w) := by
  suffices hall : ∀ y, y = n → Calls Try.prog 71 #[.int .i64 n] w (GotNum y w) from hall n rfl
  intro y hy
  obtain ⟨N, hNe⟩ : ∃ N, N = n.natAbs := ⟨_, rfl⟩
  have HN : Hid (N ≤ 9223372036854775807) := by show _ ≤ _; omega
  have HNY : Hid (y.natAbs = N) := by show _ = _; rw [hy, hNe]
  by_cases hn : n < 0
  · have HSZ : Hid (sz true N = y) := by show sz true N = y; unfold sz; rw [hNe, hy]; simp; omega
    have HW : Hid (-n = (N : Int)) := by show _ = _; rw [hNe]; omega
    clear hNe hy
    go_enter Try.func71, Try.ntmps71
    go_wp2_with fail
    rw [HW.out]
    obtain ⟨W1, hW1⟩ : ∃ W1, w.alloc (.cells #[.bool false, .slice none 0 0] 72) = W1 := ⟨_, rfl⟩
    have q0 : Row W1 w.heap.size 72 [.bool false, .slice none 0 0] := by rw [← hW1]; exact Row.new w _ [_, _]
    have x1 : Ext w W1 := by rw [← hW1]; exact Ext.new _ _
    have hs1 : W1.heap.size = w.heap.size + 1 := by rw [← hW1]; simp
    rw [hW1]
    have own0 := own_emptyE W1 3
    rw [← hs1]
    have HS1 := Lib.hid hs1
    clear hW1 hs1
    go_loopw [0, 4] (fun nv o wr => ∃ i : Nat, i ≤ 20 ∧ nv = .int .i64 ((N / 10 ^ i : Nat) : Int) ∧ wr.ownsRow W1.heap.size 3 1 o i (ks .i64 (fixd 10 i N)) ∧ Ext W1 wr ∧ Hid (i = 0 ∨ 10 ^ (i - 1) ≤ N)) (fun nv _ _ => (intOf nv).toNat)
    case atStart => exact ⟨0, by omega, by simp, own0, Ext.new _ _, .inl rfl⟩
    case round =>
      obtain ⟨i, hi, rfl, hown, hext, HP⟩ := hrel
      by_cases hz : N / 10 ^ i = 0
      · rw [hz]
        have hlt : N < 10 ^ i := Nat.lt_of_div_eq_zero (Nat.pow_pos (by decide)) hz
        have hfd : fixd 10 i N = dg 10 N := fixd_dg ten_gt hlt HP.out
        rw [hfd] at hown
        have hl : i = (dg 10 N).length := by rw [← hfd, fixd_len]
        rw [hl] at hown
        obtain ⟨a1, c1, rfl, g1, g2, g3⟩ := own_form hown
        have gf := own_from hown
        have HO := Lib.hid (rmk_walk true N a1 c1 wr g1 g2 g3)
        rw [HSZ.out] at HO
        have G := Lib.hid (And.intro g1 (And.intro g2 (And.intro g3 (And.intro gf (And.intro (q0.ext hext) hext)))))
        obtain ⟨lm, hlm⟩ : ∃ x, (dg 10 N).length = x := ⟨_, rfl⟩
        have HLM := Lib.hid hlm
        rw [hlm] at HO ⊢
        clear hz hlt hfd hl hi HP g1 g2 g3 gf hown hext own0 hlm
        go_wp2_with fail
        refine HO.out.mono ?_
        rintro e w3 ⟨rfl, t4⟩
        have q3 := G.out.2.2.2.2.1.ext t4
        have k0 := q3.cell (i := 0) rfl
        have k1 := q3.cell (i := 1) rfl
        have f0 := q3.frozen 0
        have f1 := q3.frozen 1
        have Q3 := Lib.hid q3
        clear q3
        go_wp2_with fail
        have r3 := (Q3.out.set 0 (.bool (decide (y < 0)))).set 1 (.slice a1 lm c1)
        have z0 := r3.cell (i := 0) rfl
        have z1 := r3.cell (i := 1) rfl
        have hgs := num_store (w := w) (z := y) (g := w.heap.size) (c := c1) (a := a1) (Nat.le_refl _) (x1.trans G.out.2.2.2.2.2) (w' := w3) (by rw [IsNum, HNY.out]; exact ⟨G.out.1, G.out.2.1, G.out.2.2.1.ext t4⟩) t4 (fun ad e => by have := G.out.2.2.2.1 _ e; have := HS1.out; omega) (.bool (decide (y < 0))) (.slice a1 lm c1)
        rw [HNY.out, HLM.out] at hgs
        exact bodyPost_ret (v := .agg #[.bool (decide (y < 0)), .slice a1 lm c1]) (by simp [results, Try.f71, go_sem, z0, z1]) rfl hgs
      · have hN9 : N / 10 ^ i ≤ 9223372036854775807 := Nat.le_trans (Nat.div_le_self _ _) HN.out
        have hle : 10 ^ i ≤ N := by
          by_cases hc : 10 ^ i ≤ N
          · exact hc
          · exact absurd (Nat.div_eq_of_lt (by omega)) hz
        have hi2 : i < 20 := by
          by_cases h3 : i = 20
          · subst h3
            have := HN.out
            exact absurd hle (by omega)
          · omega
        have hpos : 0 < N / 10 ^ i := Nat.pos_of_ne_zero hz
        have HS : Hid (N / 10 ^ i / 10 = N / 10 ^ (i + 1)) := by show _ = _; rw [Nat.div_div_eq_div_mul, Nat.pow_succ]
        have HF : Hid (fixd 10 (i + 1) N = fixd 10 i N ++ [N / 10 ^ i % 10]) := fixd_succ _ _ _
        have HLE := Lib.hid hle
        clear hle hz
        generalize N / 10 ^ i = x at *
        go_wp2_with (at_builtin; refine append_elem elemI64 hown hext (by unfold maxLen; omega) (by omega) rfl (by simp [Value.oneCell']) rfl _ _ rfl rfl rfl ?_; intro v' w1 own1 ext1 _)
        go_roundw
        case rel =>
          refine ⟨i + 1, by omega, ?_, ?_, ext1, .inr ?_⟩
          · have := HS.out
            rw [← this]; rfl
          · rw [HF.out, ks_append]; exact own1
          · simpa using HLE.out
        case measure => simp [intOf] <;> omega
  · have HSZ : Hid (sz false N = y) := by show sz false N = y; unfold sz; rw [hNe, hy]; simp; omega
    have HW : Hid (n = (N : Int)) := by show n = _; rw [hNe]; omega
    clear hNe hy
    go_enter Try.func71, Try.ntmps71
    go_wp2_with fail
    rw [HW.out]
    obtain ⟨W1, hW1⟩ : ∃ W1, w.alloc (.cells #[.bool false, .slice none 0 0] 72) = W1 := ⟨_, rfl⟩
    have q0 : Row W1 w.heap.size 72 [.bool false, .slice none 0 0] := by rw [← hW1]; exact Row.new w _ [_, _]
    have x1 : Ext w W1 := by rw [← hW1]; exact Ext.new _ _
    have hs1 : W1.heap.size = w.heap.size + 1 := by rw [← hW1]; simp
    rw [hW1]
    have own0 := own_emptyE W1 3
    rw [← hs1]
    have HS1 := Lib.hid hs1
    clear hW1 hs1
    go_loopw [0, 4] (fun nv o wr => ∃ i : Nat, i ≤ 20 ∧ nv = .int .i64 ((N / 10 ^ i : Nat) : Int) ∧ wr.ownsRow W1.heap.size 3 1 o i (ks .i64 (fixd 10 i N)) ∧ Ext W1 wr ∧ Hid (i = 0 ∨ 10 ^ (i - 1) ≤ N)) (fun nv _ _ => (intOf nv).toNat)
    case atStart => exact ⟨0, by omega, by simp, own0, Ext.new _ _, .inl rfl⟩
    case round =>
      obtain ⟨i, hi, rfl, hown, hext, HP⟩ := hrel
      by_cases hz : N / 10 ^ i = 0
      · rw [hz]
        have hlt : N < 10 ^ i := Nat.lt_of_div_eq_zero (Nat.pow_pos (by decide)) hz
        have hfd : fixd 10 i N = dg 10 N := fixd_dg ten_gt hlt HP.out
        rw [hfd] at hown
        have hl : i = (dg 10 N).length := by rw [← hfd, fixd_len]
        rw [hl] at hown
        obtain ⟨a1, c1, rfl, g1, g2, g3⟩ := own_form hown
        have gf := own_from hown
        have HO := Lib.hid (rmk_walk false N a1 c1 wr g1 g2 g3)
        rw [HSZ.out] at HO
        have G := Lib.hid (And.intro g1 (And.intro g2 (And.intro g3 (And.intro gf (And.intro (q0.ext hext) hext)))))
        obtain ⟨lm, hlm⟩ : ∃ x, (dg 10 N).length = x := ⟨_, rfl⟩
        have HLM := Lib.hid hlm
        rw [hlm] at HO ⊢
        clear hz hlt hfd hl hi HP g1 g2 g3 gf hown hext own0 hlm
        go_wp2_with fail
        refine HO.out.mono ?_
        rintro e w3 ⟨rfl, t4⟩
        have q3 := G.out.2.2.2.2.1.ext t4
        have k0 := q3.cell (i := 0) rfl
        have k1 := q3.cell (i := 1) rfl
        have f0 := q3.frozen 0
        have f1 := q3.frozen 1
        have Q3 := Lib.hid q3
        clear q3
        go_wp2_with fail
        have r3 := (Q3.out.set 0 (.bool (decide (y < 0)))).set 1 (.slice a1 lm c1)
        have z0 := r3.cell (i := 0) rfl
        have z1 := r3.cell (i := 1) rfl
        have hgs := num_store (w := w) (z := y) (g := w.heap.size) (c := c1) (a := a1) (Nat.le_refl _) (x1.trans G.out.2.2.2.2.2) (w' := w3) (by rw [IsNum, HNY.out]; exact ⟨G.out.1, G.out.2.1, G.out.2.2.1.ext t4⟩) t4 (fun ad e => by have := G.out.2.2.2.1 _ e; have := HS1.out; omega) (.bool (decide (y < 0))) (.slice a1 lm c1)
        rw [HNY.out, HLM.out] at hgs
        exact bodyPost_ret (v := .agg #[.bool (decide (y < 0)), .slice a1 lm c1]) (by simp [results, Try.f71, go_sem, z0, z1]) rfl hgs
      · have hN9 : N / 10 ^ i ≤ 9223372036854775807 := Nat.le_trans (Nat.div_le_self _ _) HN.out
        have hle : 10 ^ i ≤ N := by
          by_cases hc : 10 ^ i ≤ N
          · exact hc
          · exact absurd (Nat.div_eq_of_lt (by omega)) hz
        have hi2 : i < 20 := by
          by_cases h3 : i = 20
          · subst h3
            have := HN.out
            exact absurd hle (by omega)
          · omega
        have hpos : 0 < N / 10 ^ i := Nat.pos_of_ne_zero hz
        have HS : Hid (N / 10 ^ i / 10 = N / 10 ^ (i + 1)) := by show _ = _; rw [Nat.div_div_eq_div_mul, Nat.pow_succ]
        have HF : Hid (fixd 10 (i + 1) N = fixd 10 i N ++ [N / 10 ^ i % 10]) := fixd_succ _ _ _
        have HLE := Lib.hid hle
        clear hle hz
        generalize N / 10 ^ i = x at *
        go_wp2_with (at_builtin; refine append_elem elemI64 hown hext (by unfold maxLen; omega) (by omega) rfl (by simp [Value.oneCell']) rfl _ _ rfl rfl rfl ?_; intro v' w1 own1 ext1 _)
        go_roundw
        case rel =>
          refine ⟨i + 1, by omega, ?_, ?_, ext1, .inr ?_⟩
          · have := HS.out
            rw [← this]; rfl
          · rw [HF.out, ks_append]; exact own1
          · simpa using HLE.out
        case measure => simp [intOf] <;> omega
end Go.Proofs.Ytogodjiemgilaaa

/- The reference's Div: plain laws. -/
namespace Go.Proofs.Ytogodjiemgilaaa
open Go.RowKit

theorem dvQ_len (B n m L k : Nat) : (dvQ B n m L k).length = L := by simp [dvQ]
theorem dvQ_get0 (B n m L k p : Nat) (hk : k < L) (hp : p = L - 1 - k) : (dvQ B n m L k)[p]? = some 0 := by
  have hpl : p < L := by omega
  unfold dvQ
  rw [List.getElem?_map, List.getElem?_range hpl]
  show some (if L - k ≤ p then _ else 0) = _
  rw [if_neg (by omega)]
theorem rdiv_step {B : Nat} (hB : 1 < B) (n m L k p : Nat) (hm : 0 < m) (hn : n < B ^ L) (hk : k < L) (hp : p = L - 1 - k) :
    n / B ^ (L - (k + 1)) % m = (n / B ^ p % B + B * (n / B ^ (L - k) % m)) % m ∧
    dvQ B n m L (k + 1) = (dvQ B n m L k).set p ((n / B ^ p % B + B * (n / B ^ (L - k) % m)) / m) := by
  have h1 := dvS_down hB n m L hm hn k (by omega)
  have h2 := dvS_down hB n m L hm hn (k + 1) (by omega)
  rw [List.range_succ, List.map_append, List.map_cons, List.map_nil, dvS_snoc, h1, ← hp] at h2
  unfold dvStep at h2
  simp only at h2
  have hz := dvQ_get0 B n m L k p hk hp
  generalize n / B ^ p % B + B * (n / B ^ (L - k) % m) = t at *
  by_cases ht : t < m
  · rw [if_pos ht] at h2
    have e := Prod.mk.inj h2
    refine ⟨by rw [← e.2, Nat.mod_eq_of_lt ht], ?_⟩
    rw [← e.1, Nat.div_eq_of_lt ht]
    apply List.ext_getElem?
    intro i
    rw [List.getElem?_set]
    by_cases hi : p = i
    · subst hi
      rw [if_pos rfl, if_pos (by rw [dvQ_len]; omega), hz]
    · rw [if_neg hi]
  · rw [if_neg ht] at h2
    have e := Prod.mk.inj h2
    exact ⟨e.2.symm, e.1.symm⟩
end Go.Proofs.Ytogodjiemgilaaa
