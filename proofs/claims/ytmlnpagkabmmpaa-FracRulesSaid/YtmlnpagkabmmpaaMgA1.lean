/- Part of the proof that a law returns true for all that comes in, and that what came in reads as it did. No condition. -/
import Derived.Laws.BytesArg
import Derived.Deep.CutRange
import Derived.IntWalk
import Derived.Laws.IdiomStrings
import Derived.Orders
import Derived.Deep.LoopGhost
import Derived.Test.YtmlnpagkabmmpaaMgA0
/- The text of an integer. -/
namespace Go.Proofs.Ytmlnpagkabmmpaa
open Go.RowKit

/-- a text of bytes' numbers -/
def bs (l : List Nat) : ByteArray := ⟨(l.map UInt8.ofNat).toArray⟩
theorem conv_bytes {w : World} {a : Option Addr} {c : Nat} {l : List Nat} (h : Rd w a (ks .u8 l)) : (convert 153 9 (.slice a l.length c)).run Try.prog w = .ok (.string (bs l)) w := by
  cases l with
  | nil =>
    show (convert _ _ (.slice a 0 c)).run _ w = _
    rw [run_convert_bytes_string w _ _ 5 a 0 c Try.underlying153 Try.underlying5 Try.underlying9]
    cases a with
    | none => simp [Conv.bytesToString, bs, ByteArray.empty, ByteArray.emptyWithCapacity]; rfl
    | some p => simp [Conv.bytesToString, bs, loadCells, loadCellsFrom, ByteArray.empty, ByteArray.emptyWithCapacity]; rfl
  | cons d l' =>
    obtain ⟨b, off, rfl, _, hall⟩ := h.all (by simp [ks])
    have hl : (d :: l').length = ((d :: l').map Int.ofNat).length := by simp
    have := run_convert_bytes_arg w 153 5 Try.underlying153 Try.underlying5 b off (d :: l').length c ((d :: l').map Int.ofNat) hl.symm (fun i hi => by
      have := hall i (.int .u8 ((d :: l')[i] : Int)) (ks_get hi)
      rw [this]
      have e : ((d :: l').map Int.ofNat)[i]? = some (Int.ofNat (d :: l')[i]) := by rw [List.getElem?_map, List.getElem?_eq_getElem hi]; rfl
      rw [List.getD_eq_getElem?_getD, e]; rfl) 9 Try.underlying9
    rw [this]
    simp [strOfNums, bs]

theorem elemU8 : Elem Try.prog 153 5 (.int .u8 0) 1 1 := Elem.mk Try.underlying153 (by kernel_rfl) rfl (by decide)

/-- a row of the call's own that is not empty, its block whole -/
theorem own_row {w : World} {base : Nat} {e : TypeId} {n : Nat} {v : Value} {xs : List Value} (h : w.ownsRow base e 1 v n xs) (h0 : 0 < n) :
    ∃ g cap rest, v = .slice (some ⟨g, 0, none⟩) n cap ∧ base ≤ g ∧ Row w g e (xs ++ rest) ∧ n ≤ cap := by
  obtain ⟨h1, h2⟩ := h
  rcases h2 with ⟨rfl, rfl⟩ | ⟨g, cap, cur, rfl, hg, hh, hnc, hcm, hcs, htake⟩
  · exact absurd h0 (Nat.lt_irrefl 0)
  · refine ⟨g, cap, cur.toList.drop (n * 1), rfl, hg, ?_, hnc⟩
    show w.heap[g]? = _
    rw [hh, ← htake, List.take_append_drop]

/-- decimal digits as bytes, the least one first -/
def asc (l : List Nat) : List Nat := l.map (· + 48)
theorem asc_len (l : List Nat) : (asc l).length = l.length := by simp [asc]
theorem asc_append (a b : List Nat) : asc (a ++ b) = asc a ++ asc b := by simp [asc]
/-- the text of an integer -/
def txtR (s : Bool) (n : Nat) : List Nat := asc (dg 10 n) ++ (if n = 0 then [48] else []) ++ (if s then [45] else [])
def txt (z : Int) : ByteArray := bs (txtR (decide (z < 0)) z.natAbs).reverse

theorem ten_gt : 1 < 10 := by decide
theorem BB_pow (i : Nat) : BB ^ i = 10 ^ (9 * i) := by
  rw [show BB = 10 ^ 9 from rfl, ← Nat.pow_mul]
theorem dig9 (y k : Nat) (hk : k < 9) : y % BB / 10 ^ k % 10 = y / 10 ^ k % 10 := by
  have e : BB = 10 ^ k * 10 ^ (9 - k) := by rw [← Nat.pow_add, show k + (9 - k) = 9 by omega]; rfl
  rw [e, Nat.mod_mul_right_div_self]
  exact Nat.mod_mod_of_dvd _ ⟨10 ^ (9 - k - 1), by rw [← Nat.pow_succ', show (9 - k - 1).succ = 9 - k by omega]⟩
theorem dig_at (n i k : Nat) (hk : k < 9) : n / BB ^ i % BB / 10 ^ k % 10 = n / 10 ^ (9 * i + k) % 10 := by
  rw [dig9 _ _ hk, BB_pow, Nat.div_div_eq_div_mul, ← Nat.pow_add]
/-- one more digit stands -/
theorem dig_more (n i k len : Nat) (hlen : ∀ j, j < len ↔ BB ^ j ≤ n) (hk : k < 9) (h : 0 < n / BB ^ i % BB / 10 ^ k ∨ i + 1 < len) : 10 ^ (9 * i + k) ≤ n := by
  rcases h with h | h
  · have h1 : 10 ^ k ≤ n / BB ^ i % BB := by
      by_cases h1 : 10 ^ k ≤ n / BB ^ i % BB
      · exact h1
      · rw [Nat.div_eq_of_lt (by omega)] at h; omega
    have h2 : 10 ^ k ≤ n / BB ^ i := Nat.le_trans h1 (Nat.mod_le _ _)
    rw [Nat.le_div_iff_mul_le (Nat.pow_pos (by decide)), BB_pow, ← Nat.pow_add, Nat.add_comm] at h2
    exact h2
  · have h1 := (hlen (i + 1)).1 h
    rw [BB_pow] at h1
    exact Nat.le_trans (Nat.pow_le_pow_right (by decide) (by omega)) h1
/-- no digit stands any more -/
theorem dig_done (n i k : Nat) (hlen : n < BB ^ (i + 1)) (h : n / BB ^ i % BB / 10 ^ k = 0) : n < 10 ^ (9 * i + k) := by
  have h2 : n / BB ^ i < BB := by rw [Nat.div_lt_iff_lt_mul (Nat.pow_pos (by decide))]; rw [Nat.pow_succ, Nat.mul_comm] at hlen; exact hlen
  rw [Nat.mod_eq_of_lt h2] at h
  have h3 : n / BB ^ i < 10 ^ k := Nat.lt_of_div_eq_zero (Nat.pow_pos (by decide)) h
  rw [Nat.div_lt_iff_lt_mul (Nat.pow_pos (by decide)), BB_pow, ← Nat.pow_add, Nat.add_comm] at h3
  exact h3

/-- the text of a row that is turned round -/
def IsTxt (L : List Nat) (T : ByteArray) : Prop := bs L.reverse = T
/-- the text of a row of the call's own, turned round -/
theorem rev_text {W0 w : World} {g c m : Nat} {L : List Nat} {rest : List Value} (hm : m = L.length) (hl : m ≤ 100000000) (hg : W0.heap.size ≤ g) (x : Ext W0 w) (hr : Row w g 5 (ks .u8 L ++ rest)) {T : ByteArray} (hT : IsTxt L T) :
    Calls Try.prog 138 #[.slice (some ⟨g, 0, none⟩) m c] w fun e w' => e = .returned (.tuple #[]) ∧ Ext W0 w' ∧ (convert 153 9 (.slice (some ⟨g, 0, none⟩) m c)).run Try.prog w' = .ok (.string T) w' := by
  subst hm
  obtain rfl : bs L.reverse = T := hT
  refine (revb_walk g c L rest w hl hr).mono ?_
  rintro e w' ⟨rfl, h1, h2⟩
  refine ⟨rfl, x.grown h2 (fun k e => by cases e; exact hg), ?_⟩
  have h3 := h1.rd.take L.reverse.length
  rw [List.take_append_of_le_length (by rw [ks_len]; exact Nat.le_refl _), List.take_of_length_le (by rw [ks_len]; exact Nat.le_refl _)] at h3
  have := conv_bytes (c := c) h3
  rw [List.length_reverse] at this
  exact this

set_option maxRecDepth 100000 in
set_option maxHeartbeats 4000000 in
theorem textz_walk (z : Int) (a : Option Addr) (ca : Nat) (w : World) (hb : (dg BB z.natAbs).length ≤ 100000) (h : IsInt w z a ca) :
    Calls Try.prog 72 #[.agg #[.bool (decide (z < 0)), .slice a (dg BB z.natAbs).length ca]] w fun e w' => e = .returned (.string (txt z)) ∧ Ext w w' := by
  have hr := h.2.2
  have hlen := dg_len_lt BB_gt (n := z.natAbs)
  have hnb := lt_pow_len BB_gt z.natAbs
  have hs0 : z.natAbs = 0 → decide (z < 0) = false := fun h => decide_eq_false (by omega)
  unfold txt
  clear h
  obtain ⟨T, hT⟩ : ∃ T, bs (txtR (decide (z < 0)) z.natAbs).reverse = T := ⟨_, rfl⟩
  rw [hT]
  generalize z.natAbs = n at *
  generalize decide (z < 0) = s at *
  obtain ⟨l, hl⟩ : ∃ l, l = dg BB n := ⟨_, rfl⟩
  have hdig : ∀ i (hi : i < l.length), l[i] = n / BB ^ i % BB := fun i hi => by subst hl; exact dg_at BB_gt hi
  rw [← hl] at hr hb hnb ⊢
  have hlen : ∀ i, i < l.length ↔ BB ^ i ≤ n := fun i => by rw [hl]; exact hlen i
  have HNB := Lib.hid hnb
  have HLEN := Lib.hid hlen
  have HDIG := Lib.hid hdig
  have HR := Lib.hid hr
  have HS0 := Lib.hid hs0
  have HT := Lib.hid hT
  clear hl hdig hlen hnb hr hs0 hT
  go_enter Try.func72, Try.ntmps72
  go_wp2_with fail
  obtain ⟨W0, hW0⟩ : ∃ W0, w.alloc (.cells #[.bool s, .slice a l.length ca] 24) = W0 := ⟨_, rfl⟩
  have q0 : Row W0 w.heap.size 24 [.bool s, .slice a l.length ca] := by rw [← hW0]; exact Row.new w _ [_, _]
  have x0 : Ext w W0 := by rw [← hW0]; exact Ext.new _ _
  rw [hW0]
  clear hW0
  go_loopw [3, 10] (fun o iv wr => ∃ i J : Nat, i ≤ l.length ∧ J ≤ 9 * i ∧ iv = .int .i64 i ∧ wr.ownsRow W0.heap.size 5 1 o J (ks .u8 (asc (fixd 10 J n))) ∧ Ext W0 wr ∧ Hid ((J = 0 ∨ 10 ^ (J - 1) ≤ n) ∧ (i < l.length → J = 9 * i) ∧ (i = l.length → n < 10 ^ J))) (fun _ iv _ => l.length - (intOf iv).toNat)
  case atStart => exact ⟨0, 0, by omega, by omega, rfl, World.ownsRow_nil _ _ _ _, Ext.refl _, .inl rfl, fun _ => rfl, fun e => by have := HNB.out; rw [← e] at this; exact this⟩
  case round =>
    obtain ⟨i, J, hi, hJ, rfl, hown, hext, HH⟩ := hrel
    have q1 := q0.ext hext
    have k0 := q1.cell (i := 0) rfl
    have k1 := q1.cell (i := 1) rfl
    by_cases hlt : i < l.length
    · have HJ : J = 9 * i := HH.out.2.1 hlt
      subst HJ
      obtain ⟨b0, ob, rfl, hcb⟩ := (HR.out.ext (x0.trans hext)).num (i := i) hlt
      have hx : l[i] < 1000000000 := by rw [HDIG.out i hlt]; exact Nat.mod_lt _ (by decide)
      have hxk : Hid (l[i] = n / BB ^ i % BB) := HDIG.out i hlt
      generalize l[i] = x at *
      have HB1 : Hid (9 * i = 0 ∨ 10 ^ (9 * i - 1) ≤ n) := HH.out.1
      clear HH
      go_wp2_with fail
      clear k0 k1 q1 hcb
      go_loopw [3, 5, 6] (fun o d kv wr2 => ∃ k : Nat, k ≤ 9 ∧ kv = .int .i64 k ∧ d = .int .u32 ((x / 10 ^ k : Nat) : Int) ∧ wr2.ownsRow W0.heap.size 5 1 o (9 * i + k) (ks .u8 (asc (fixd 10 (9 * i + k) n))) ∧ Ext W0 wr2 ∧ Hid (9 * i + k = 0 ∨ 10 ^ (9 * i + k - 1) ≤ n)) (fun _ _ kv _ => 10 - (intOf kv).toNat)
      case atStart => exact ⟨0, by omega, rfl, by simp, hown, hext, HB1.out⟩
      case round =>
        obtain ⟨k, hk, rfl, rfl, hown2, hext2, HP⟩ := hrel
        have q1 := q0.ext hext2
        have k0 := q1.cell (i := 0) rfl
        have k1 := q1.cell (i := 1) rfl
        clear q1
        by_cases hmore : k < 9 ∧ (0 < x / 10 ^ k ∨ i + 1 < l.length)
        · obtain ⟨hk9, hor⟩ := hmore
          have HM : Hid (10 ^ (9 * i + k) ≤ n) := dig_more n i k l.length HLEN.out hk9 (by rw [← hxk.out]; exact hor)
          have HD : Hid (x / 10 ^ k % 10 = n / 10 ^ (9 * i + k) % 10) := by show _ = _; rw [hxk.out]; exact dig_at n i k hk9
          have HS : Hid (x / 10 ^ k / 10 = x / 10 ^ (k + 1)) := by show _ = _; rw [Nat.div_div_eq_div_mul, Nat.pow_succ]
          have hy : x / 10 ^ k < 1000000000 := Nat.lt_of_le_of_lt (Nat.div_le_self _ _) hx
          generalize hyy : x / 10 ^ k = y at *
          clear hyy
          have HC : Hid (∀ (v' : Value) (w1 : World), w1.ownsRow W0.heap.size 5 1 v' (9 * i + k + 1) (ks .u8 (asc (fixd 10 (9 * i + k) n)) ++ [.int .u8 ((48 + y % 10 : Nat) : Int)]) → Ext W0 w1 →
              ∃ k' : Nat, k' ≤ 9 ∧ Value.int .i64 ((k : Int) + 1) = .int .i64 k' ∧ Value.int .u32 ((y / 10 : Nat) : Int) = .int .u32 ((x / 10 ^ k' : Nat) : Int) ∧ w1.ownsRow W0.heap.size 5 1 v' (9 * i + k') (ks .u8 (asc (fixd 10 (9 * i + k') n))) ∧ Ext W0 w1 ∧ Hid (9 * i + k' = 0 ∨ 10 ^ (9 * i + k' - 1) ≤ n)) := by
            intro v' w1 own1 ext1
            refine ⟨k + 1, by omega, by go_num, by rw [HS.out], ?_, ext1, .inr ?_⟩
            · rw [show 9 * i + (k + 1) = 9 * i + k + 1 by omega, fixd_succ, asc_append, ks_append, ← HD.out]
              rw [Nat.add_comm 48] at own1
              exact own1
            · rw [show 9 * i + (k + 1) - 1 = 9 * i + k by omega]; exact HM.out
          clear HM HD HS HP
          by_cases hy0 : 0 < y
          · go_wp2_with (at_builtin; refine append_elem elemU8 hown2 hext2 (by unfold maxLen; omega) (by omega) rfl (by simp [Value.oneCell']) rfl _ _ rfl rfl rfl ?_; intro v' w1 own1 ext1 _)
            go_roundw
            case rel => exact HC.out _ _ own1 ext1
            case measure => simp [intOf]; omega
          · have hi1 : i + 1 < l.length := by omega
            have hyz : y = 0 := by omega
            subst hyz
            go_wp2_with (at_builtin; refine append_elem elemU8 hown2 hext2 (by unfold maxLen; omega) (by omega) rfl (by simp [Value.oneCell']) rfl _ _ rfl rfl rfl ?_; intro v' w1 own1 ext1 _)
            go_roundw
            case rel => exact HC.out _ _ own1 ext1
            case measure => simp [intOf]; omega
        · by_cases hk9 : k < 9
          · have hxz : x / 10 ^ k = 0 := Nat.eq_zero_of_not_pos fun h => hmore ⟨hk9, .inl h⟩
            have hi1 : ¬ i + 1 < l.length := fun h => hmore ⟨hk9, .inr h⟩
            have HXZ := Lib.hid hxz
            rw [hxz]
            clear hxz
            go_wp2_with fail
            go_roundw
            case rel => exact ⟨i + 1, 9 * i + k, by omega, by omega, by go_num, hown2, hext2, HP.out, fun h => absurd h hi1, fun e => dig_done n i k (by rw [e]; exact HNB.out) (by rw [← hxk.out]; exact HXZ.out)⟩
            case measure => simp [intOf]; omega
          · have hk9' : k = 9 := by omega
            subst hk9'
            have hyb : x / 10 ^ 9 < 1000000000 := Nat.lt_of_le_of_lt (Nat.div_le_self _ _) hx
            generalize x / 10 ^ 9 = y at *
            go_wp2_with fail
            go_roundw
            case rel => exact ⟨i + 1, 9 * i + 9, by omega, by omega, by go_num, hown2, hext2, HP.out, fun h => by omega, fun e => (by have := HNB.out; rw [← e, BB_pow] at this; exact this)⟩
            case measure => simp [intOf]; omega
    · have hi1 : i = l.length := by omega
      have HD : Hid (fixd 10 J n = dg 10 n) := fixd_dg ten_gt (HH.out.2.2 hi1) HH.out.1
      have hJ9 : J ≤ 900000 := by omega
      have HLJ : Hid (J = (dg 10 n).length) := by show _ = _; rw [← HD.out, fixd_len]
      rw [HD.out] at hown
      have hz := dg_len0 ten_gt n
      rw [← HLJ.out] at hz
      rcases Nat.eq_zero_or_pos J with hj0 | hj0
      · subst hj0
        have hn0 := hz.1 rfl
        subst hn0
        have hs := HS0.out rfl
        subst hs
        obtain ⟨a1, c1, rfl, g1, g2, g3⟩ := own_form hown
        have HTT : IsTxt [48] T := HT.out
        clear HT
        go_wp2_with (first
          | (at_builtin; refine append_elem elemU8 hown hext (by unfold maxLen; omega) (by omega) rfl (by simp [Value.oneCell']) rfl _ _ rfl rfl rfl ?_; intro v' w1 own1 ext1 _; obtain ⟨g, cap, rest, rfl, hgb, hrow, hnc⟩ := own_row own1 (by omega); have k5 := (q0.ext ext1).cell (i := 0) rfl)
          | (go_at_call 138; refine (rev_text (m := 1) (L := [48]) rfl (by omega) hgb ext1 (by exact hrow) HTT).mono ?_; rintro e w3 ⟨rfl, x3, hcv⟩))
        go_ret
        exact ⟨rfl, x0.trans x3⟩
      · have hn0 : ¬ n = 0 := fun e => by have := hz.2 e; omega
        have HT0 : Hid (txtR false n = asc (dg 10 n)) := by show _ = _; unfold txtR; rw [if_neg hn0]; simp
        have HT1 : Hid (txtR true n = asc (dg 10 n) ++ [45]) := by show _ = _; unfold txtR; rw [if_neg hn0]; simp
        have HI0 : s = false → IsTxt (asc (dg 10 n)) T := fun e => by subst e; show _ = _; rw [← HT0.out]; exact HT.out
        have HI1 : s = true → IsTxt (asc (dg 10 n) ++ [45]) T := fun e => by subst e; show _ = _; rw [← HT1.out]; exact HT.out
        have hla : J = (asc (dg 10 n)).length := by rw [asc_len]; exact HLJ.out
        clear hz hn0 HT HT0 HT1 HD HLJ
        generalize asc (dg 10 n) = L at *
        have HLA := Lib.hid hla
        clear hla
        cases s
        · obtain ⟨g, cap, rest, rfl, hgb, hrow, hnc⟩ := own_row hown hj0
          clear hown
          have HTT := HI0 rfl
          clear HI0 HI1
          have HROW := Lib.hid hrow
          go_wp2_with (go_at_call 138; refine (rev_text (L := L) HLA.out (by omega) hgb hext HROW.out HTT).mono ?_; rintro e w3 ⟨rfl, x3, hcv⟩)
          go_ret
          exact ⟨rfl, x0.trans x3⟩
        · obtain ⟨a1, c1, rfl, g1, g2, g3⟩ := own_form hown
          have HTT := HI1 rfl
          clear HI0 HI1
          have HLB : Hid (J + 1 = (L ++ [45]).length) := by show _ = _; rw [List.length_append, ← HLA.out]; rfl
          go_wp2_with (first
            | (at_builtin; refine append_elem elemU8 hown hext (by unfold maxLen; omega) (by omega) rfl (by simp [Value.oneCell']) rfl _ _ rfl rfl rfl ?_; intro v' w1 own1 ext1 _; obtain ⟨g, cap, rest, rfl, hgb, hrow, hnc⟩ := own_row own1 (by omega))
            | (go_at_call 138; refine (rev_text (L := L ++ [45]) HLB.out (by omega) hgb ext1 (by rw [ks_append]; exact hrow) HTT).mono ?_; rintro e w3 ⟨rfl, x3, hcv⟩))
          go_ret
          exact ⟨rfl, x0.trans x3⟩
end Go.Proofs.Ytmlnpagkabmmpaa

/- The int of an integer. -/
namespace Go.Proofs.Ytmlnpagkabmmpaa
open Go.RowKit Go.Shelf

attribute [local go_sem] Oper.semAt_some

/-- the greatest number that Small gives -/
def edge : Int := 4611686018427387904
def small (z : Int) : Bool := decide (z.natAbs ≤ 4611686018427387904)
def smallV (z : Int) : Int := if small z then z else 0

theorem wrap_fold (M : Nat) (hM : M ≤ 4611686018427387904) : wrap64 (wrap64 (((M / BB : Nat) : Int) * 1000000000) + ((M % BB : Nat) : Int)) = M := by
  have h : M / BB * 1000000000 + M % BB = M := by have := Nat.div_add_mod M BB; rw [Nat.mul_comm] at this; exact this
  generalize M / BB = p at *
  generalize M % BB = q at *
  have h1 : wrap64 ((p : Int) * 1000000000) = (p : Int) * 1000000000 := by unfold wrap64; omega
  rw [h1]
  unfold wrap64; omega
theorem fold_step {N L k x : Nat} {v : Int} {pre : List (Fin L)} {hk : k < L} (h : pre = down L pre.length → pre.length ≤ L → v = (N / BB ^ (L - pre.length) : Nat)) (hx : x = N / BB ^ k % BB) (hN : N ≤ 4611686018427387904) :
    pre ++ [(⟨k, hk⟩ : Fin L)] = down L (pre ++ [(⟨k, hk⟩ : Fin L)]).length → (pre ++ [(⟨k, hk⟩ : Fin L)]).length ≤ L → wrap64 (wrap64 (v * 1000000000) + x) = (N / BB ^ (L - (pre ++ [(⟨k, hk⟩ : Fin L)]).length) : Nat) := by
  intro h1 h2
  rw [List.length_append, List.length_singleton] at h1 h2
  rw [down_succ _ _ (by omega)] at h1
  obtain ⟨e1, e2⟩ := List.append_inj' h1 rfl
  have hkk : L - 1 - pre.length = k := by simpa using (List.cons.inj e2).1.symm
  have hv := h e1 (by omega)
  have e3 : L - pre.length = k + 1 := by omega
  have e4 : L - (pre ++ [(⟨k, hk⟩ : Fin L)]).length = k := by rw [List.length_append, List.length_singleton]; omega
  rw [e3, Nat.pow_succ, ← Nat.div_div_eq_div_mul] at hv
  rw [e4]
  have h5 : N / BB ^ k ≤ N := Nat.div_le_self _ _
  generalize N / BB ^ k = M at *
  rw [hv, hx]
  exact wrap_fold M (by omega)

theorem ofi_edge (w : World) : Calls Try.prog 25 #[.int .i64 4611686018427387904] w (GotInt w edge) := ofi_walk 4611686018427387904 w (by decide) (by decide)

end Go.Proofs.Ytmlnpagkabmmpaa

/- The references Right and Same of integers; Odd. -/
namespace Go.Proofs.Ytmlnpagkabmmpaa
open Go.RowKit

/-- may digits with a sign be an integer? -/
def rightB (s : Bool) (l : List Nat) : Bool := l.all (fun d => decide (d < 1000000000)) && (if l.length = 0 then !s else decide (l[l.length - 1]?.getD 0 ≠ 0))

theorem ret_bool {a b : Bool} (h : a = b) : Ending.returned (Value.bool a) = .returned (.bool b) := by rw [h]

set_option maxRecDepth 100000 in
set_option maxHeartbeats 1000000 in
theorem rright_walk (s : Bool) (l : List Nat) (a : Option Addr) (c : Nat) (w : World) (hl : l.length ≤ 9223372036854775807) (h32 : ∀ d ∈ l, d < 4294967296) (h : Rd w a (ks .u32 l)) :
    Calls Try.prog 139 #[.agg #[.bool s, .slice a l.length c]] w fun e w' => e = .returned (.bool (rightB s l)) ∧ Ext w w' := by
  have HR := Lib.hid h
  have H32 := Lib.hid h32
  have H1 : Hid (∀ i, i < l.length → 999999999 < l[i]?.getD 0 → rightB s l = false) := by
    intro i hi hx
    unfold rightB
    rw [List.all_eq_false.2 ⟨l[i], List.getElem_mem hi, by rw [List.getElem?_eq_getElem hi] at hx; simp at hx ⊢; omega⟩]
    rfl
  have H2 : Hid ((∀ i, i < l.length → l[i]?.getD 0 < 1000000000) → rightB s l = (if l.length = 0 then !s else decide (l[l.length - 1]?.getD 0 ≠ 0))) := by
    intro hx
    unfold rightB
    rw [List.all_eq_true.2 (fun d hd => by
      obtain ⟨i, hi, rfl⟩ := List.getElem_of_mem hd
      have := hx i hi
      rw [List.getElem?_eq_getElem hi] at this
      simpa using this)]
    rfl
  generalize rightB s l = r at *
  clear h h32
  go_enter Try.func139, Try.ntmps139
  go_wp2_with fail
  obtain ⟨W0, hW0⟩ : ∃ W0, w.alloc (.cells #[.bool s, .slice a l.length c] 24) = W0 := ⟨_, rfl⟩
  have q0 : Row W0 w.heap.size 24 [.bool s, .slice a l.length c] := by rw [← hW0]; exact Row.new w _ [_, _]
  have x0 : Ext w W0 := by rw [← hW0]; exact Ext.new _ _
  rw [hW0]
  clear hW0
  have k0 := q0.cell (i := 0) rfl
  have k1 := q0.cell (i := 1) rfl
  go_loopw [3] (fun iv wr => ∃ i : Nat, i ≤ l.length ∧ iv = .int .i64 i ∧ W0 = wr ∧ Hid (∀ j, j < i → l[j]?.getD 0 < 1000000000)) (fun iv _ => l.length - (intOf iv).toNat)
  case atStart => exact ⟨0, by omega, rfl, rfl, fun j h => absurd h (Nat.not_lt_zero j)⟩
  case round =>
    obtain ⟨i, hi, rfl, rfl, HP⟩ := hrel
    by_cases hlt : i < l.length
    · obtain ⟨b0, ob, rfl, hcb⟩ := (HR.out.ext x0).num (i := i) hlt
      have hg : Hid (l[i]?.getD 0 = l[i]) := by show _ = _; rw [List.getElem?_eq_getElem hlt]; rfl
      have hx32 : l[i] < 4294967296 := H32.out _ (List.getElem_mem hlt)
      generalize l[i] = x at *
      by_cases hx : 999999999 < x
      · have HF := Lib.hid (H1.out i hlt (by rw [hg.out]; exact hx))
        go_wp2_with fail
        go_ret
        exact ⟨ret_bool HF.out.symm, x0⟩
      · go_wp2_with fail
        go_roundw
        case rel =>
          refine ⟨i + 1, by omega, by go_num, by first | trivial | rfl, ?_⟩
          intro j hj
          by_cases hji : j = i
          · subst hji; rw [hg.out]; omega
          · exact HP.out j (by omega)
        case measure => simp [intOf]; omega
    · have hil : i = l.length := by omega
      have HF := Lib.hid (H2.out (fun j hj => HP.out j (by omega)))
      by_cases h0 : l.length = 0
      · rw [if_pos h0] at HF
        generalize l.length = nl at *
        go_wp2_with fail
        go_ret
        exact ⟨ret_bool HF.out.symm, x0⟩
      · rw [if_neg h0] at HF
        have hlt2 : l.length - 1 < l.length := by omega
        obtain ⟨b0, ob, rfl, hcb⟩ := (HR.out.ext x0).num (i := l.length - 1) hlt2
        have hg : Hid (l[l.length - 1]?.getD 0 = l[l.length - 1]) := by show _ = _; rw [List.getElem?_eq_getElem hlt2]; rfl
        have hcast : ((l.length : Int) - 1) = ((l.length - 1 : Nat) : Int) := by omega
        rw [hg.out] at HF
        generalize l[l.length - 1] = x at *
        go_wp2_with fail
        go_ret
        exact ⟨ret_bool (by rw [HF.out, Bool.eq_iff_iff]; simp), x0⟩

set_option maxRecDepth 100000 in
set_option maxHeartbeats 1000000 in
theorem rsame_walk (s1 s2 : Bool) (l m : List Nat) (a b : Option Addr) (ca cb : Nat) (w : World) (hl : l.length ≤ 9223372036854775807) (_hm : m.length ≤ 9223372036854775807) (h1 : Rd w a (ks .u32 l)) (h2 : Rd w b (ks .u32 m)) :
    Calls Try.prog 48 #[.agg #[.bool s1, .slice a l.length ca], .agg #[.bool s2, .slice b m.length cb]] w fun e w' => e = .returned (.bool (decide (s1 = s2 ∧ l = m))) ∧ Ext w w' := by
  have HR1 := Lib.hid h1
  have HR2 := Lib.hid h2
  clear h1 h2
  by_cases hs : s1 = s2
  case neg =>
    have HF : Hid (decide (s1 = s2 ∧ l = m) = false) := decide_eq_false (fun h => hs h.1)
    generalize decide (s1 = s2 ∧ l = m) = r at *
    cases s1 <;> cases s2
    case false.false => exact absurd rfl hs
    case true.true => exact absurd rfl hs
    all_goals
      clear hs
      go_enter Try.func48, Try.ntmps48
      go_wp2_with fail
      go_ret
      exact ⟨ret_bool HF.out.symm, (Ext.new _ _).alloc _⟩
  case pos =>
    subst hs
    by_cases hn : l.length = m.length
    case neg =>
      have HF : Hid (decide (s1 = s1 ∧ l = m) = false) := decide_eq_false (fun h => hn (by rw [h.2]))
      generalize decide (s1 = s1 ∧ l = m) = r at *
      generalize l.length = nl at *
      generalize m.length = nm at *
      have hn' : ((nl : Int) != (nm : Int)) = true := by simp; omega
      go_enter Try.func48, Try.ntmps48
      go_wp2_with fail
      go_ret
      exact ⟨ret_bool HF.out.symm, (Ext.new _ _).alloc _⟩
    case pos =>
      have H1 : Hid (∀ i, i < l.length → l[i]?.getD 0 ≠ m[i]?.getD 0 → decide (s1 = s1 ∧ l = m) = false) := fun i hi hx => decide_eq_false (fun h => hx (by rw [h.2]))
      have H2 : Hid ((∀ i, i < l.length → l[i]?.getD 0 = m[i]?.getD 0) → decide (s1 = s1 ∧ l = m) = true) := fun hx => decide_eq_true ⟨rfl, List.ext_getElem hn (fun i h1 h2 => by
        have := hx i h1
        rwa [List.getElem?_eq_getElem h1, List.getElem?_eq_getElem h2] at this)⟩
      generalize decide (s1 = s1 ∧ l = m) = r at *
      have HN := Lib.hid hn
      rw [← hn] at _hm ⊢
      clear hn
      go_enter Try.func48, Try.ntmps48
      go_wp2_with fail
      obtain ⟨W0, hW0⟩ : ∃ W0, (w.alloc (.cells #[.bool s1, .slice a l.length ca] 24)).alloc (.cells #[.bool s1, .slice b l.length cb] 24) = W0 := ⟨_, rfl⟩
      have q0 : Row W0 w.heap.size 24 [.bool s1, .slice a l.length ca] := by rw [← hW0]; exact (Row.new w _ [_, _]).alloc _
      have q1 : Row W0 (w.heap.size + 1) 24 [.bool s1, .slice b l.length cb] := by
        rw [← hW0]
        have := Row.new (w.alloc (.cells #[.bool s1, .slice a l.length ca] 24)) 24 [.bool s1, .slice b l.length cb]
        rwa [World.size_alloc] at this
      have x0 : Ext w W0 := by rw [← hW0]; exact (Ext.new _ _).alloc _
      rw [hW0]
      clear hW0
      go_loopw [5] (fun iv wr => ∃ i : Nat, i ≤ l.length ∧ iv = .int .i64 i ∧ Ext W0 wr ∧ Hid (∀ j, j < i → l[j]?.getD 0 = m[j]?.getD 0)) (fun iv _ => l.length - (intOf iv).toNat)
      case atStart => exact ⟨0, by omega, rfl, Ext.refl _, fun j h => absurd h (Nat.not_lt_zero j)⟩
      case round =>
        obtain ⟨i, hi, rfl, hext, HP⟩ := hrel
        have k0 := (q0.ext hext).cell (i := 0) rfl
        have k1 := (q0.ext hext).cell (i := 1) rfl
        have k2 := (q1.ext hext).cell (i := 0) rfl
        have k3 := (q1.ext hext).cell (i := 1) rfl
        by_cases hlt : i < l.length
        · have hlt2 : i < m.length := by rw [← HN.out]; exact hlt
          obtain ⟨b0, ob, rfl, hcb⟩ := (HR1.out.ext (x0.trans hext)).num (i := i) hlt
          obtain ⟨b1, ob1, rfl, hcb1⟩ := (HR2.out.ext (x0.trans hext)).num (i := i) hlt2
          have hg : Hid (l[i]?.getD 0 = l[i]) := by show _ = _; rw [List.getElem?_eq_getElem hlt]; rfl
          have hg2 : Hid (m[i]?.getD 0 = m[i]) := by show _ = _; rw [List.getElem?_eq_getElem hlt2]; rfl
          generalize l[i] = x at *
          generalize m[i] = y at *
          by_cases hxy : x = y
          · subst hxy
            go_wp2_with fail
            go_quiet (fail)
            go_wp2_with fail
            go_roundw
            case rel =>
              refine ⟨i + 1, by omega, by go_num, hext.drewN _, ?_⟩
              intro j hj
              by_cases hji : j = i
              · subst hji; rw [hg.out, hg2.out]
              · exact HP.out j (by omega)
            case measure => simp [intOf]; omega
          · have hxy' : ((x : Int) != (y : Int)) = true := by simp; omega
            have HF := Lib.hid (H1.out i hlt (by rw [hg.out, hg2.out]; exact hxy))
            clear hxy
            go_wp2_with fail
            go_quiet (fail)
            go_wp2_with fail
            go_ret
            exact ⟨ret_bool HF.out.symm, x0.trans (hext.drewN _)⟩
        · have HF := Lib.hid (H2.out (fun j hj => HP.out j (by omega)))
          go_wp2_with fail
          go_ret
          exact ⟨ret_bool HF.out.symm, x0.trans hext⟩
end Go.Proofs.Ytmlnpagkabmmpaa

/- Odd: integers that are more than are looked at, or not right. -/
namespace Go.Proofs.Ytmlnpagkabmmpaa
open Go.RowKit

/-- an integer as it was handed in -/
structure AInt where
  s : Bool
  a : Option Addr
  l : List Nat
  c : Nat
def AInt.v (x : AInt) : Value := .agg #[.bool x.s, .slice x.a x.l.length x.c]
/-- what it reads as -/
def AInt.ok (w : World) (x : AInt) : Prop := x.l.length ≤ x.c ∧ x.c ≤ maxLen ∧ (∀ d ∈ x.l, d < 4294967296) ∧ Rd w x.a (ks .u32 x.l)
theorem AInt.ok.ext {w w' : World} {x : AInt} (h : x.ok w) (e : Ext w w') : x.ok w' := ⟨h.1, h.2.1, h.2.2.1, h.2.2.2.ext e⟩
def AInt.odd (x : AInt) : Bool := decide (10 < x.l.length) || !rightB x.s x.l
def flatA : List AInt → List Value
  | [] => []
  | x :: r => .bool x.s :: .slice x.a x.l.length x.c :: flatA r
theorem flatA_len : ∀ xs : List AInt, (flatA xs).length = 2 * xs.length
  | [] => rfl
  | x :: r => by simp only [flatA, List.length_cons, flatA_len r]; omega
theorem flatA_get0 : ∀ (xs : List AInt) (i : Nat) (h : i < xs.length), (flatA xs)[2 * i]? = some (.bool xs[i].s)
  | [], i, h => absurd h (Nat.not_lt_zero i)
  | x :: r, 0, _ => rfl
  | x :: r, i + 1, h => by rw [show 2 * (i + 1) = 2 * i + 1 + 1 by omega]; exact flatA_get0 r i (Nat.lt_of_succ_lt_succ h)
theorem flatA_get1 : ∀ (xs : List AInt) (i : Nat) (h : i < xs.length), (flatA xs)[2 * i + 1]? = some (.slice xs[i].a xs[i].l.length xs[i].c)
  | [], i, h => absurd h (Nat.not_lt_zero i)
  | x :: r, 0, _ => rfl
  | x :: r, i + 1, h => by rw [show 2 * (i + 1) + 1 = 2 * i + 1 + 1 + 1 by omega]; exact flatA_get1 r i (Nat.lt_of_succ_lt_succ h)

set_option maxRecDepth 100000 in
set_option maxHeartbeats 2000000 in
theorem odd1_walk (xs : List AInt) (b off c : Nat) (w : World) (hn : xs.length ≤ 1000) (hr : ∀ j u, (flatA xs)[j]? = some u → w.cell? ⟨b, off + j, none⟩ = some u) (hok : ∀ x ∈ xs, x.ok w) :
    Calls Try.prog 73 #[.slice (some ⟨b, off, none⟩) xs.length c] w fun e w' => e = .returned (.bool (xs.any AInt.odd)) ∧ Ext w w' := by
  have HR := Lib.hid hr
  have HK := Lib.hid hok
  have H1 : Hid (∀ i (h : i < xs.length), xs[i].odd = true → xs.any AInt.odd = true) := fun i h ho => List.any_eq_true.2 ⟨xs[i], List.getElem_mem h, ho⟩
  have H2 : Hid ((∀ i (h : i < xs.length), xs[i].odd = false) → xs.any AInt.odd = false) := fun h => by
    rw [List.any_eq_false]
    intro x hx
    obtain ⟨i, hi, rfl⟩ := List.getElem_of_mem hx
    rw [h i hi]; simp
  generalize xs.any AInt.odd = r at *
  clear hr hok
  go_enter Try.func73, Try.ntmps73
  go_wp2_with fail
  go_loopw [7] (fun iv wr => ∃ i : Nat, i ≤ xs.length ∧ iv = .int .i64 i ∧ Ext w wr ∧ Hid (∀ j (h : j < xs.length), j < i → xs[j].odd = false)) (fun iv _ => xs.length - (intOf iv).toNat)
  case atStart => exact ⟨0, by omega, rfl, Ext.refl _, fun j _ h => absurd h (Nat.not_lt_zero j)⟩
  case round =>
    obtain ⟨i, hi, rfl, hext, HP⟩ := hrel
    by_cases hlt : i < xs.length
    · have e0 := hext.cell (HR.out _ _ (flatA_get0 xs i hlt))
      have e1 := hext.cell (HR.out _ _ (flatA_get1 xs i hlt))
      rw [Nat.mul_comm] at e0 e1
      rw [← Nat.add_assoc] at e1
      have ok := (HK.out xs[i] (List.getElem_mem hlt)).ext hext
      have hx1 := H1.out i hlt
      have hx2 : Hid (∀ wq, wq = xs[i] → xs[i].odd = wq.odd) := fun wq h => by rw [h]
      generalize hxi : xs[i] = x at *
      have HXI := Lib.hid hxi
      clear hxi hx2
      obtain ⟨s, a, l, ca⟩ := x
      obtain ⟨o1, o2, o3, o4⟩ := ok
      simp only at o1 o2 o3 o4 e0 e1
      have hodd : (AInt.mk s a l ca).odd = (decide (10 < l.length) || !rightB s l) := rfl
      have HW := Lib.hid (fun W (h : Rd W a (ks .u32 l)) => rright_walk s l a ca W (by unfold maxLen at o2; omega) o3 h)
      have HX1 := Lib.hid hx1
      have HOD := Lib.hid hodd
      clear hx1 hodd
      by_cases h10 : 10 < l.length
      · have HF : Hid (r = true) := HX1.out (by rw [HOD.out, decide_eq_true h10]; rfl)
        generalize l.length = n at *
        go_wp2_with fail
        go_ret
        exact ⟨ret_bool HF.out.symm, hext.trans (Ext.new _ _)⟩
      · cases hrt : rightB s l
        · have HF : Hid (r = true) := HX1.out (by rw [HOD.out, hrt]; simp)
          rw [hrt] at HW
          go_wp2_with (go_at_call 139; refine (HW.out _ (o4.alloc _)).mono ?_; rintro e w1 ⟨rfl, g1⟩)
          go_ret
          exact ⟨ret_bool HF.out.symm, (hext.trans (Ext.new _ _)).trans g1⟩
        · have HG : Hid ((AInt.mk s a l ca).odd = false) := by show _ = _; rw [HOD.out, hrt, decide_eq_false h10]; rfl
          rw [hrt] at HW
          go_wp2_with (go_at_call 139; refine (HW.out _ (o4.alloc _)).mono ?_; rintro e w1 ⟨rfl, g1⟩)
          go_roundw
          case rel =>
            refine ⟨i + 1, by omega, by go_num, (hext.trans (Ext.new _ _)).trans g1, ?_⟩
            intro j hjl hj
            by_cases hji : j = i
            · subst hji; rw [HXI.out]; exact HG.out
            · exact HP.out j hjl (by omega)
          case measure => simp [intOf]; omega
    · have HF := Lib.hid (H2.out (fun j hj => HP.out j hj (by omega)))
      go_wp2_with fail
      go_ret
      exact ⟨ret_bool HF.out.symm, hext⟩
end Go.Proofs.Ytmlnpagkabmmpaa

/- What the laws of layer 1 share. -/
namespace Go.Proofs.Ytmlnpagkabmmpaa
open Go.RowKit

theorem right_int {s : Bool} {l : List Nat} (h : rightB s l = true) : ∃ z : Int, s = decide (z < 0) ∧ l = dg BB z.natAbs := by
  unfold rightB at h
  rw [Bool.and_eq_true] at h
  obtain ⟨h1, h2⟩ := h
  have hall : ∀ d ∈ l, d < BB := fun d hd => by have := List.all_eq_true.1 h1 d hd; simpa [BB] using this
  by_cases h0 : l.length = 0
  · rw [if_pos h0] at h2
    have : s = false := by simpa using h2
    subst this
    refine ⟨0, rfl, ?_⟩
    rw [List.length_eq_zero_iff.1 h0]; rfl
  · rw [if_neg h0] at h2
    have hl : l ≠ [] := fun e => h0 (by rw [e]; rfl)
    have hlast : ∀ h : l ≠ [], l.getLast h ≠ 0 := by
      intro h
      rw [List.getLast_eq_getElem]
      have := of_decide_eq_true h2
      rw [List.getElem?_eq_getElem (by omega)] at this
      exact this
    have hv := dg_val BB_gt l hall hlast
    have hpos : val BB l ≠ 0 := fun e => by rw [e] at hv; exact hl hv.symm
    refine ⟨sz s (val BB l), ?_, by rw [sz_abs, hv]⟩
    rw [sz_neg]
    have : decide (0 < val BB l) = true := decide_eq_true (by omega)
    rw [this, Bool.and_true]

theorem int_right (z : Int) : rightB (decide (z < 0)) (dg BB z.natAbs) = true := by
  unfold rightB
  rw [Bool.and_eq_true]
  refine ⟨List.all_eq_true.2 fun d hd => decide_eq_true (dg_lt BB_gt hd), ?_⟩
  by_cases h0 : (dg BB z.natAbs).length = 0
  · rw [if_pos h0]
    have := (dg_len0 BB_gt _).1 h0
    have : ¬ z < 0 := by omega
    simp [this]
  · rw [if_neg h0]
    refine decide_eq_true ?_
    have hk : (dg BB z.natAbs).length - 1 < (dg BB z.natAbs).length := by omega
    rw [List.getElem?_eq_getElem hk, Option.getD_some, dg_at BB_gt hk]
    have h1 := (dg_len_lt BB_gt _ _).1 hk
    have h2 := lt_pow_len BB_gt z.natAbs
    have e : (dg BB z.natAbs).length = (dg BB z.natAbs).length - 1 + 1 := by omega
    rw [e, Nat.pow_succ] at h2
    generalize (dg BB z.natAbs).length - 1 = k at *
    have h3 : 0 < z.natAbs / BB ^ k := Nat.div_pos h1 (Nat.pow_pos (by decide))
    have h4 : z.natAbs / BB ^ k < BB := by rw [Nat.div_lt_iff_lt_mul (Nat.pow_pos (by decide)), Nat.mul_comm]; exact h2
    rw [Nat.mod_eq_of_lt h4]
    omega

theorem len_add (x y : Int) : (dg BB (x + y).natAbs).length ≤ (dg BB x.natAbs).length + (dg BB y.natAbs).length + 1 :=
  Nat.le_trans (dg_len_mono BB_gt (by omega)) (dg_len_add BB_gt _ _)
theorem len_mul (x y : Int) : (dg BB (x * y).natAbs).length ≤ (dg BB x.natAbs).length + (dg BB y.natAbs).length := by
  rw [Int.natAbs_mul]; exact dg_len_mul BB_gt _ _
theorem len_neg (x : Int) : (dg BB (-x).natAbs).length = (dg BB x.natAbs).length := by rw [Int.natAbs_neg]

theorem GotInt.isInt {W : World} {z : Int} {e : Ending} {w' : World} (h : GotInt W z e w') : ∃ a c, e = .returned (.agg #[.bool (decide (z < 0)), .slice a (dg BB z.natAbs).length c]) ∧ IsInt w' z a c ∧ Ext W w' := by
  obtain ⟨a, c, h1, h2, h3, h4, h5, h6⟩ := h
  exact ⟨a, c, h1, ⟨h2, h3, h4⟩, h5⟩

end Go.Proofs.Ytmlnpagkabmmpaa

/- The reference's decimal digits: cut, make1, add, sub. -/
namespace Go.Proofs.Ytmlnpagkabmmpaa
open Go.RowKit

theorem elemI64 : Elem Try.prog 43 3 (.int .i64 0) 1 8 := Elem.mk Try.underlying43 (by kernel_rfl) rfl (by decide)
theorem fdig10 (n i : Nat) (h : i < (dg 10 n).length) : (dg 10 n)[i] = n / 10 ^ i % 10 := dg_at ten_gt h
/-- a row of no element -/
theorem own_empty (w : World) (base : Nat) (hb : base ≤ w.heap.size) : (w.alloc (.cells #[] 3)).ownsRow base 3 1 (.slice (some ⟨w.heap.size, 0, none⟩) 0 0) 0 [] :=
  ⟨rfl, .inr ⟨w.heap.size, 0, #[], rfl, hb, heap_alloc_new w _, Nat.le_refl _, by simp [maxLen], rfl, rfl⟩⟩

set_option maxRecDepth 100000 in
set_option maxHeartbeats 400000 in
theorem rcut_walk (a : Option Addr) (cap : Nat) (l : List Nat) (ln : Nat) (w : World) (hln : l.length = ln) (hc : ln ≤ cap) (hm : cap ≤ maxLen) (hr : Rd w a (ks .i64 l)) :
    Calls Try.prog 187 #[.slice a ln cap] w fun e w' => e = .returned (.slice a (stripN l l.length) cap) ∧ w = w' := by
  subst hln
  unfold maxLen at hm
  go_enter Try.func187, Try.ntmps187
  go_wp2
  go_loop [3] (fun i => ∃ k : Nat, k ≤ l.length ∧ i = .int .i64 k ∧ stripN l l.length = stripN l k) (fun i => (intOf i).toNat)
  case atStart => exact ⟨l.length, Nat.le_refl _, rfl, rfl⟩
  case round =>
    obtain ⟨k, hk, rfl, hs⟩ := hrel
    have HS := Lib.hid hs
    clear hs
    cases k with
    | zero =>
      go_wp2
      go_ret
      exact ⟨ret_slice HS.out.symm rfl, rfl⟩
    | succ k =>
      obtain ⟨b, off, rfl, hcell⟩ := hr.num (i := k) (by omega)
      have HK : Hid (stripN l (k + 1) = if l[k] = 0 then stripN l k else k + 1) := by
        show stripN l (k + 1) = _
        conv => lhs; unfold stripN
        rw [List.getElem?_eq_getElem (by omega)]; rfl
      by_cases hz : l[k] = 0
      · rw [hz] at hcell
        rw [if_pos hz] at HK
        go_wp2
        go_round
        case rel => exact ⟨k, by omega, by go_num, by rw [HS.out, HK.out]⟩
        case measure => simp [intOf]
      · have hz' : (((l[k] : Nat) : Int) == 0) = false := by simp; omega
        rw [if_neg hz] at HK
        go_wp2
        go_ret
        exact ⟨ret_slice (by rw [HS.out, HK.out]) rfl, rfl⟩

/-- a number of the reference's as an argument -/
def IsNum (w : World) (z : Int) (a : Option Addr) (c : Nat) : Prop := (dg 10 z.natAbs).length ≤ c ∧ c ≤ maxLen ∧ Rd w a (ks .i64 (dg 10 z.natAbs))
theorem IsNum.ext {w w' : World} {z : Int} {a : Option Addr} {c : Nat} (h : IsNum w z a c) (x : Ext w w') : IsNum w' z a c := ⟨h.1, h.2.1, h.2.2.ext x⟩
/-- a number of the reference's as a result -/
def GotNum (z : Int) (W : World) (e : Ending) (w' : World) : Prop := ∃ a c, e = .returned (.agg #[.bool (decide (z < 0)), .slice a (dg 10 z.natAbs).length c]) ∧ IsNum w' z a c ∧ Ext W w'

set_option maxRecDepth 100000 in
set_option maxHeartbeats 400000 in
theorem rmake1_walk (s : Bool) (a : Option Addr) (cap : Nat) (l : List Nat) (ln : Nat) (w : World) (hd : ∀ d ∈ l, d < 10) (hln : l.length = ln) (hc : ln ≤ cap) (hm : cap ≤ maxLen) (hr : Rd w a (ks .i64 l)) :
    Calls Try.prog 162 #[.bool s, .slice a ln cap] w fun e w' => e = .returned (.agg #[.bool (decide (sz s (val 10 l) < 0)), .slice a (dg 10 (val 10 l)).length cap]) ∧ Ext w w' := by
  have HC := Lib.hid (fun W (h : Rd W a (ks .i64 l)) => rcut_walk a cap l ln W hln hc hm h)
  have hst := strip_dg ten_gt l hd
  have hk : stripN l l.length = (dg 10 (val 10 l)).length := by rw [← strip_len, hst]
  rw [hk] at HC
  generalize val 10 l = n at *
  have hsg := sz_neg s n
  have hlen := dg_len0 ten_gt n
  have hpos : decide (0 < n) = decide ((0 : Int) < ((dg 10 n).length : Nat)) := by rw [Bool.eq_iff_iff]; simp only [decide_eq_true_eq]; omega
  rw [hpos] at hsg
  rw [hsg]
  have HR := Lib.hid hr
  clear hst hk hsg hlen hpos hr hd hln
  unfold maxLen at hm
  obtain ⟨lm, hlm⟩ : ∃ x, (dg 10 n).length = x := ⟨_, rfl⟩
  rw [hlm] at HC ⊢
  clear hlm
  cases s
  · rw [Bool.false_and]
    go_enter Try.func162, Try.ntmps162
    go_wp2_with (go_at_call 187; refine (HC.out _ (HR.out.alloc _)).mono ?_; rintro e w' ⟨rfl, rfl⟩)
    have r2 := Row.new w 94 [.bool false, .slice a lm cap]
    have z0 := r2.cell (i := 0) rfl
    have z1 := r2.cell (i := 1) rfl
    exact bodyPost_ret (v := .agg #[.bool false, .slice a lm cap]) (by simp [results, Try.f162, go_sem, z0, z1]) rfl ⟨rfl, Ext.new _ _⟩
  · rw [Bool.true_and]
    go_enter Try.func162, Try.ntmps162
    go_wp2_with (go_at_call 187; refine (HC.out _ (HR.out.alloc _)).mono ?_; rintro e w' ⟨rfl, rfl⟩)
    have r2 := Row.new w 94 [.bool (decide ((0 : Int) < lm)), .slice a lm cap]
    have z0 := r2.cell (i := 0) rfl
    have z1 := r2.cell (i := 1) rfl
    exact bodyPost_ret (v := .agg #[.bool (decide ((0 : Int) < lm)), .slice a lm cap]) (by simp [results, Try.f162, go_sem]) rfl ⟨rfl, Ext.new _ _⟩
theorem rmk_walk (s : Bool) (n : Nat) (a : Option Addr) (cap : Nat) (w : World) (hc : (dg 10 n).length ≤ cap) (hm : cap ≤ maxLen) (hr : Rd w a (ks .i64 (dg 10 n))) :
    Calls Try.prog 162 #[.bool s, .slice a (dg 10 n).length cap] w fun e w' => e = .returned (.agg #[.bool (decide (sz s n < 0)), .slice a (dg 10 n).length cap]) ∧ Ext w w' := by
  have := rmake1_walk s a cap (dg 10 n) (dg 10 n).length w (fun d hd => dg_lt ten_gt hd) rfl hc hm hr
  rwa [val_dg ten_gt] at this

set_option maxRecDepth 100000 in
set_option maxHeartbeats 1000000 in
theorem radd_walk (a b : Option Addr) (ca cb n m : Nat) (w : World) (hla : (dg 10 n).length ≤ 1000000) (hlb : (dg 10 m).length ≤ 1000000) (ha : Rd w a (ks .i64 (dg 10 n))) (hb : Rd w b (ks .i64 (dg 10 m))) :
    Calls Try.prog 163 #[.slice a (dg 10 n).length ca, .slice b (dg 10 m).length cb] w (Made w 3 .i64 (dg 10 (n + m))) := by
  have LA : ∀ i, i < (dg 10 n).length ↔ 10 ^ i ≤ n := fun i => dg_len_lt ten_gt i n
  have LB : ∀ i, i < (dg 10 m).length ↔ 10 ^ i ≤ m := fun i => dg_len_lt ten_gt i m
  generalize hna : (dg 10 n).length = na at *
  generalize hnb : (dg 10 m).length = nb at *
  have HNA := Lib.hid hna
  have HNB := Lib.hid hnb
  have HLA := Lib.hid LA
  have HLB := Lib.hid LB
  clear hna hnb LA LB
  go_enter Try.func163, Try.ntmps163
  go_wp2
  go_loopw [5, 6, 7] (fun out c i wr => ∃ k : Nat, k ≤ na + nb + 1 ∧ i = .int .i64 k ∧ c = .int .i64 (carry 10 n m k) ∧ wr.ownsRow w.heap.size 3 1 out k (ks .i64 (fixd 10 k (n + m))) ∧ Ext w wr ∧ Hid (k = 0 ∨ 10 ^ (k - 1) ≤ n + m))
    (fun _ _ i _ => na + nb + 2 - (intOf i).toNat)
  case atStart => exact ⟨0, by omega, rfl, by simp [carry_zero], own_empty w _ (Nat.le_refl _), Ext.new _ _, .inl rfl⟩
  case round =>
    obtain ⟨k, hk, rfl, rfl, hown, hext, HP⟩ := hrel
    have HR := Lib.hid (add_round ten_gt n m k)
    have HM := Lib.hid (add_more ten_gt n m k)
    have HD := Lib.hid (add_done ten_gt n m k)
    have HBD := Lib.hid (add_bound ten_gt n m k)
    rw [HNA.out, HNB.out] at HBD
    have hc1 := carry_lt ten_gt n m k
    have hc0 : carry 10 n m k = 0 ∨ carry 10 n m k = 1 := by omega
    have HN : Hid (¬ k < na → n / 10 ^ k % 10 = 0) := fun h => digit_0 (by have := not_congr (HLA.out k); omega)
    have HM2 : Hid (¬ k < nb → m / 10 ^ k % 10 = 0) := fun h => digit_0 (by have := not_congr (HLB.out k); omega)
    have hxa : k < na → ∃ ba oa, a = some ⟨ba, oa, none⟩ ∧ wr.cell? ⟨ba, oa + k, none⟩ = some (.int .i64 ((n / 10 ^ k % 10 : Nat) : Int)) := fun h => by
      obtain ⟨ba, oa, e, hca⟩ := (ha.ext hext).num (i := k) (by rw [HNA.out]; exact h)
      rw [fdig10] at hca
      exact ⟨ba, oa, e, hca⟩
    have hxb : k < nb → ∃ bb ob, b = some ⟨bb, ob, none⟩ ∧ wr.cell? ⟨bb, ob + k, none⟩ = some (.int .i64 ((m / 10 ^ k % 10 : Nat) : Int)) := fun h => by
      obtain ⟨ba, oa, e, hca⟩ := (hb.ext hext).num (i := k) (by rw [HNB.out]; exact h)
      rw [fdig10] at hca
      exact ⟨ba, oa, e, hca⟩
    have d1 : n / 10 ^ k % 10 < 10 := Nat.mod_lt _ (by decide)
    have d2 : m / 10 ^ k % 10 < 10 := Nat.mod_lt _ (by decide)
    have HA2 := (HLA.out k)
    have HB2 := (HLB.out k)
    generalize n / 10 ^ k % 10 = x at *
    generalize m / 10 ^ k % 10 = y at *
    generalize hcc : carry 10 n m k = c at *
    have HCC := Lib.hid hcc
    have HA3 := Lib.hid HA2
    have HB3 := Lib.hid HB2
    clear hcc hc0 HA2 HB2
    have close : ∀ (v' : Value) (w1 : World) (t : Nat), (k < na ∨ k < nb ∨ 0 < c) → t = c + x + y → w1.ownsRow w.heap.size 3 1 v' (k + 1) (ks .i64 (fixd 10 k (n + m)) ++ [.int .i64 ((t % 10 : Nat) : Int)]) → Ext w w1 →
        ∃ k' : Nat, k' ≤ na + nb + 1 ∧ Value.int .i64 ((k : Int) + 1) = .int .i64 k' ∧ Value.int .i64 ((t / 10 : Nat) : Int) = .int .i64 (carry 10 n m k') ∧ w1.ownsRow w.heap.size 3 1 v' k' (ks .i64 (fixd 10 k' (n + m))) ∧ Ext w w1 ∧ Hid (k' = 0 ∨ 10 ^ (k' - 1) ≤ n + m) := by
      intro v' w1 t ht e own1 ext1
      have hr := HR.out
      refine ⟨k + 1, ?_, by go_num, ?_, ?_, ext1, .inr ?_⟩
      · rcases ht with h | h | h
        · omega
        · omega
        · by_cases h1 : k < na
          · omega
          · by_cases h2 : k < nb
            · omega
            · have := HBD.out (by omega) (by omega) h; omega
      · rw [hr.1, e]
      · rw [hr.2, ks_append, e.symm]; exact own1
      · have := HM.out (by have := HA3.out; have := HB3.out; omega)
        simpa using this
    have Hclose := Lib.hid close
    clear close
    by_cases h1 : k < na <;> by_cases h2 : k < nb
    · obtain ⟨ba, oa, rfl, hca⟩ := hxa h1
      obtain ⟨bb, ob, rfl, hcb⟩ := hxb h2
      clear hxa hxb
      go_wp2_with (at_builtin; refine append_elem elemI64 hown hext (by unfold maxLen; omega) (by omega) rfl (by simp [Value.oneCell']) rfl _ _ rfl rfl rfl ?_; intro v' w1 own1 ext1 _)
      go_roundw
      case rel => exact Hclose.out _ _ (c + x + y) (.inl h1) rfl own1 ext1
      case measure => simp [intOf]; omega
    · obtain ⟨ba, oa, rfl, hca⟩ := hxa h1
      have hy := HM2.out h2
      clear hxa hxb
      subst hy
      go_wp2_with (at_builtin; refine append_elem elemI64 hown hext (by unfold maxLen; omega) (by omega) rfl (by simp [Value.oneCell']) rfl _ _ rfl rfl rfl ?_; intro v' w1 own1 ext1 _)
      go_roundw
      case rel => exact Hclose.out _ _ (c + x) (.inl h1) rfl own1 ext1
      case measure => simp [intOf]; omega
    · obtain ⟨bb, ob, rfl, hcb⟩ := hxb h2
      have hy := HN.out h1
      clear hxa hxb
      subst hy
      go_wp2_with (at_builtin; refine append_elem elemI64 hown hext (by unfold maxLen; omega) (by omega) rfl (by simp [Value.oneCell']) rfl _ _ rfl rfl rfl ?_; intro v' w1 own1 ext1 _)
      go_roundw
      case rel => exact Hclose.out _ _ (c + y) (.inr (.inl h2)) (by omega) own1 ext1
      case measure => simp [intOf]; omega
    · have hx := HN.out h1
      have hy := HM2.out h2
      clear hxa hxb
      subst hx hy
      by_cases h3 : 0 < c
      · go_wp2_with (at_builtin; refine append_elem elemI64 hown hext (by unfold maxLen; omega) (by omega) rfl (by simp [Value.oneCell']) rfl _ _ rfl rfl rfl ?_; intro v' w1 own1 ext1 _)
        go_roundw
        case rel => exact Hclose.out _ _ c (.inr (.inr h3)) (by omega) own1 ext1
        case measure => simp [intOf]; omega
      · go_wp2
        go_ret
        have hk0 : fixd 10 k (n + m) = dg 10 (n + m) := HD.out (by have := HA3.out; omega) (by have := HB3.out; omega) (by omega) HP
        rw [hk0] at hown
        have hl : k = (dg 10 (n + m)).length := by rw [← hk0, fixd_len]
        rw [hl] at hown
        exact ⟨_, rfl, hown, hext⟩


set_option maxRecDepth 100000 in
set_option maxHeartbeats 1000000 in
theorem rsub_walk (a b : Option Addr) (ca cb n m : Nat) (w : World) (hnm : m ≤ n) (hla : (dg 10 n).length ≤ 1000000) (_hlb : (dg 10 m).length ≤ 1000000) (ha : Rd w a (ks .i64 (dg 10 n))) (hb : Rd w b (ks .i64 (dg 10 m))) :
    Calls Try.prog 165 #[.slice a (dg 10 n).length ca, .slice b (dg 10 m).length cb] w (Got w .i64 (dg 10 (n - m))) := by
  have LB : ∀ i, i < (dg 10 m).length ↔ 10 ^ i ≤ m := fun i => dg_len_lt ten_gt i m
  have HE : Hid (strip (fixd 10 (dg 10 n).length (n - m)) = dg 10 (n - m)) := strip_fixd ten_gt _ _ (by have := lt_pow_len ten_gt n; omega)
  generalize hna : (dg 10 n).length = na at *
  generalize hnb : (dg 10 m).length = nb at *
  have HNA := Lib.hid hna
  have HNB := Lib.hid hnb
  have HLB := Lib.hid LB
  clear hna hnb LB
  go_enter Try.func165, Try.ntmps165
  go_wp2
  go_loopw [5, 6, 7] (fun out c i wr => ∃ k : Nat, k ≤ na ∧ i = .int .i64 k ∧ c = .int .i64 (borrow 10 n m k) ∧ wr.ownsRow w.heap.size 3 1 out k (ks .i64 (fixd 10 k (n - m))) ∧ Ext w wr)
    (fun _ _ i _ => na - (intOf i).toNat)
  case atStart => exact ⟨0, by omega, rfl, by simp [borrow_zero], own_empty w _ (Nat.le_refl _), Ext.new _ _⟩
  case round =>
    obtain ⟨k, hk, rfl, rfl, hown, hext⟩ := hrel
    by_cases h1 : k < na
    · have HR := Lib.hid (sub_round ten_gt n m k hnm)
      have hc1 := borrow_le 10 n m k
      obtain ⟨ba, oa, rfl, hca⟩ := (ha.ext hext).num (i := k) (by rw [HNA.out]; exact h1)
      rw [fdig10] at hca
      have HN : Hid (¬ k < nb → m / 10 ^ k % 10 = 0) := fun h => digit_0 (by have := not_congr (HLB.out k); omega)
      have hxb : k < nb → ∃ bb ob, b = some ⟨bb, ob, none⟩ ∧ wr.cell? ⟨bb, ob + k, none⟩ = some (.int .i64 ((m / 10 ^ k % 10 : Nat) : Int)) := fun h => by
        obtain ⟨ba, oa, e, hca⟩ := (hb.ext hext).num (i := k) (by rw [HNB.out]; exact h)
        rw [fdig10] at hca
        exact ⟨ba, oa, e, hca⟩
      have d1 : n / 10 ^ k % 10 < 10 := Nat.mod_lt _ (by decide)
      have d2 : m / 10 ^ k % 10 < 10 := Nat.mod_lt _ (by decide)
      generalize n / 10 ^ k % 10 = x at *
      generalize m / 10 ^ k % 10 = y at *
      generalize borrow 10 n m k = c at *
      have close : ∀ (v' : Value) (w1 : World) (t : Int) (c' : Int), (x < y + c → t = x - c - y + 10 ∧ c' = 1) → (¬ x < y + c → t = x - c - y ∧ c' = 0) → w1.ownsRow w.heap.size 3 1 v' (k + 1) (ks .i64 (fixd 10 k (n - m)) ++ [.int .i64 t]) → Ext w w1 →
          ∃ k' : Nat, k' ≤ na ∧ Value.int .i64 ((k : Int) + 1) = .int .i64 k' ∧ Value.int .i64 c' = .int .i64 (borrow 10 n m k') ∧ w1.ownsRow w.heap.size 3 1 v' k' (ks .i64 (fixd 10 k' (n - m))) ∧ Ext w w1 := by
        intro v' w1 t c' e1 e2 own1 ext1
        have hr := HR.out
        refine ⟨k + 1, h1, by go_num, ?_, ?_, ext1⟩
        · rw [hr.1]
          by_cases hlt : x < y + c
          · rw [if_pos hlt, (e1 hlt).2]; rfl
          · rw [if_neg hlt, (e2 hlt).2]; rfl
        · rw [hr.2, ks_append]
          have : (((x + 10 - y - c) % 10 : Nat) : Int) = t := by
            by_cases hlt : x < y + c
            · rw [(e1 hlt).1, Nat.mod_eq_of_lt (by omega)]; omega
            · rw [(e2 hlt).1, show x + 10 - y - c = (x - y - c) + 10 by omega, Nat.add_mod_right, Nat.mod_eq_of_lt (by omega)]; omega
          rw [show ks .i64 [(x + 10 - y - c) % 10] = [.int .i64 t] by simp only [ks, List.map_cons, List.map_nil, this]]
          exact own1
      have Hclose := Lib.hid close
      clear close HR
      by_cases h2 : k < nb
      · obtain ⟨bb, ob, rfl, hcb⟩ := hxb h2
        clear hxb
        by_cases hlt : x < y + c
        all_goals
          go_wp2_with (at_builtin; refine append_elem elemI64 hown hext (by unfold maxLen; omega) (by omega) rfl (by simp [Value.oneCell']) rfl _ _ rfl rfl rfl ?_; intro v' w1 own1 ext1 _)
          go_roundw
          case rel => exact Hclose.out _ _ _ _ (fun _ => ⟨by omega, by omega⟩) (fun _ => ⟨by omega, by omega⟩) own1 ext1
          case measure => simp [intOf]; omega
      · have hy := HN.out h2
        clear hxb
        subst hy
        by_cases hlt : x < 0 + c
        all_goals
          go_wp2_with (at_builtin; refine append_elem elemI64 hown hext (by unfold maxLen; omega) (by omega) rfl (by simp [Value.oneCell']) rfl _ _ rfl rfl rfl ?_; intro v' w1 own1 ext1 _)
          go_roundw
          case rel => exact Hclose.out _ _ _ _ (fun _ => ⟨by omega, by omega⟩) (fun _ => ⟨by omega, by omega⟩) own1 ext1
          case measure => simp [intOf]; omega
    · obtain rfl : k = na := by omega
      obtain ⟨a', c', rfl, f1, f2, f3⟩ := own_form hown
      go_wp2_with (go_at_call 187; refine (rcut_walk _ _ (fixd 10 k (n - m)) _ _ (fixd_len _ _ _) f1 f2 f3).mono ?_; rintro e w' ⟨rfl, rfl⟩)
      go_ret
      have h5 : stripN (fixd 10 k (n - m)) (fixd 10 k (n - m)).length = (dg 10 (n - m)).length := by rw [← strip_len, HE.out]
      have h6 := f3.take (stripN (fixd 10 k (n - m)) (fixd 10 k (n - m)).length)
      rw [ks_take] at h6
      have h7 : (fixd 10 k (n - m)).take (stripN (fixd 10 k (n - m)) (fixd 10 k (n - m)).length) = dg 10 (n - m) := HE.out
      rw [h7] at h6
      refine ⟨a', c', ret_slice h5 rfl, ?_, f2, h6, hext, own_from hown⟩
      have := stripN_le (fixd 10 k (n - m)) (fixd 10 k (n - m)).length
      rw [h5, fixd_len] at this
      omega


end Go.Proofs.Ytmlnpagkabmmpaa

/- The reference's cmp, Cmp, Neg. -/
namespace Go.Proofs.Ytmlnpagkabmmpaa
open Go.RowKit

set_option maxRecDepth 100000 in
set_option maxHeartbeats 1000000 in
theorem rcmp_walk (a b : Option Addr) (ca cb n m : Nat) (w : World) (hla : (dg 10 n).length ≤ 1000000) (_hlb : (dg 10 m).length ≤ 1000000) (ha : Rd w a (ks .i64 (dg 10 n))) (hb : Rd w b (ks .i64 (dg 10 m))) :
    Calls Try.prog 164 #[.slice a (dg 10 n).length ca, .slice b (dg 10 m).length cb] w fun e w' => e = .returned (.int .i64 (cmpN n m)) ∧ Ext w w' := by
  by_cases hne : (dg 10 n).length = (dg 10 m).length
  · have HT := fun k h1 h2 h3 => cmpN_top ten_gt n m k hne h1 h2 h3
    have HE := cmpN_eq ten_gt n m hne
    generalize dg 10 n = l at *
    generalize dg 10 m = l2 at *
    generalize cmpN n m = r at *
    have HNE := Lib.hid hne
    have HHT := Lib.hid HT
    have HHE := Lib.hid HE
    have HA := Lib.hid ha
    have HB := Lib.hid hb
    rw [← hne]
    clear hne HT HE ha hb _hlb
    go_enter Try.func164, Try.ntmps164
    go_wp2_with fail
    go_loopw [5] (fun iv wr => ∃ k : Nat, k ≤ l.length ∧ iv = .int .i64 ((l.length : Int) - 1 - k) ∧ Ext w wr ∧ Hid (∀ j, l.length ≤ j + k → j < l.length → l[j]?.getD 0 = l2[j]?.getD 0)) (fun iv _ => (intOf iv + 1).toNat)
    case atStart => exact ⟨0, by omega, by simp, Ext.refl _, fun j h1 h2 => absurd h1 (by omega)⟩
    case round =>
      obtain ⟨k, hk, rfl, hext, HP⟩ := hrel
      by_cases hlt : k < l.length
      · obtain ⟨p, hp⟩ : ∃ p : Nat, (l.length : Int) - 1 - k = (p : Int) := ⟨l.length - 1 - k, by omega⟩
        have HPP := Lib.hid hp
        have hpl : p < l.length := by omega
        have hpl2 : p < l2.length := by rw [← HNE.out]; exact hpl
        rw [hp]
        clear hp
        obtain ⟨b0, ob, rfl, hcb⟩ := (HA.out.ext hext).num (i := p) hpl
        obtain ⟨b1, ob1, rfl, hcb1⟩ := (HB.out.ext hext).num (i := p) hpl2
        have hg : Hid (l[p]?.getD 0 = l[p]) := by show _ = _; rw [List.getElem?_eq_getElem hpl]; rfl
        have hg2 : Hid (l2[p]?.getD 0 = l2[p]) := by show _ = _; rw [List.getElem?_eq_getElem hpl2]; rfl
        have HQ : Hid (l[p] ≠ l2[p] → r = sgn ((l[p] : Nat) - (l2[p] : Nat) : Int)) := by
          intro hx
          have h4 := HPP.out
          have := HHT.out p hpl (fun i h1 h2 => HP.out i (by omega) h2) (by rw [hg.out, hg2.out]; exact hx)
          rw [hg.out, hg2.out] at this
          exact this
        generalize l[p] = x at *
        generalize l2[p] = y at *
        by_cases hxy : x = y
        · subst hxy
          go_wp2_with fail
          go_quiet (fail)
          go_wp2_with fail
          go_roundw
          case rel =>
            have h4 := HPP.out
            refine ⟨k + 1, by omega, ?_, hext.drewN _, ?_⟩
            · congr 1; omega
            · intro j h1 h2
              by_cases hj : j = p
              · subst hj; exact hg.out.trans hg2.out.symm
              · exact HP.out j (by omega) h2
          case measure => simp [intOf] <;> omega
        · have hxy' : ((x : Int) != (y : Int)) = true := by simp; omega
          have HR := Lib.hid (HQ.out hxy)
          clear HQ hxy
          by_cases hl : x < y
          · have HR2 : Hid (-1 = r) := by rw [HR.out]; show _ = _; unfold sgn; rw [if_pos (by omega)]
            go_wp2_with fail
            go_quiet (fail)
            go_wp2_with fail
            go_quiet (fail)
            go_wp2_with fail
            go_ret
            exact ⟨ret_int HR2.out, (hext.drewN _).drewN _⟩
          · have HR2 : Hid (1 = r) := by rw [HR.out]; show _ = _; unfold sgn; rw [if_neg (by omega), if_neg (by simp at hxy'; omega)]
            go_wp2_with fail
            go_quiet (fail)
            go_wp2_with fail
            go_quiet (fail)
            go_wp2_with fail
            go_ret
            exact ⟨ret_int HR2.out, (hext.drewN _).drewN _⟩
      · have HR : Hid (0 = r) := (HHE.out fun i hi => HP.out i (by omega) hi).symm
        go_wp2_with fail
        go_ret
        exact ⟨ret_int HR.out, hext⟩
  · have H := Lib.hid (cmpN_len ten_gt n m hne)
    have hne' : (((dg 10 n).length : Int) != ((dg 10 m).length : Int)) = true := by simp; omega
    generalize (dg 10 n).length = na at *
    generalize (dg 10 m).length = nb at *
    generalize cmpN n m = r at *
    by_cases hl : na < nb
    · have HR2 : Hid (-1 = r) := by rw [H.out]; show _ = _; unfold sgn; rw [if_pos (by omega)]
      clear hne
      go_enter Try.func164, Try.ntmps164
      go_wp2_with fail
      go_ret
      exact ⟨ret_int HR2.out, Ext.refl _⟩
    · have HR2 : Hid (1 = r) := by rw [H.out]; show _ = _; unfold sgn; rw [if_neg (by omega), if_neg (by omega)]
      clear hne
      go_enter Try.func164, Try.ntmps164
      go_wp2_with fail
      go_ret
      exact ⟨ret_int HR2.out, Ext.refl _⟩

/-- two numbers boxed -/
def N2 (w W : World) (u0 u1 v0 v1 : Value) : Prop := Row W w.heap.size 94 [u0, u1] ∧ Row W (w.heap.size + 1) 94 [v0, v1]
theorem N2.ext {w W W' : World} {u0 u1 v0 v1 : Value} (h : N2 w W u0 u1 v0 v1) (e : Ext W W') : N2 w W' u0 u1 v0 v1 := ⟨h.1.ext e, h.2.ext e⟩
theorem N2.cells {w W : World} {u0 u1 v0 v1 : Value} (h : N2 w W u0 u1 v0 v1) :
    W.cell? ⟨w.heap.size, 0, none⟩ = some u0 ∧ W.cell? ⟨w.heap.size, 1, none⟩ = some u1 ∧ W.cell? ⟨w.heap.size + 1, 0, none⟩ = some v0 ∧ W.cell? ⟨w.heap.size + 1, 1, none⟩ = some v1 :=
  ⟨h.1.cell (i := 0) rfl, h.1.cell (i := 1) rfl, h.2.cell (i := 0) rfl, h.2.cell (i := 1) rfl⟩
theorem N2.new (w : World) (u0 u1 v0 v1 : Value) : ∃ W0, (w.alloc (.cells #[u0, u1] 94)).alloc (.cells #[v0, v1] 94) = W0 ∧ N2 w W0 u0 u1 v0 v1 ∧ Ext w W0 ∧ W0.heap.size = w.heap.size + 1 + 1 := by
  refine ⟨_, rfl, ⟨(Row.new w _ [_, _]).alloc _, ?_⟩, (Ext.new _ _).alloc _, by simp⟩
  have := Row.new (w.alloc (.cells #[u0, u1] 94)) 94 [v0, v1]
  rwa [World.size_alloc] at this

set_option maxRecDepth 100000 in
set_option maxHeartbeats 2000000 in
theorem rcmpz_walk (z1 z2 : Int) (a b : Option Addr) (ca cb : Nat) (w : World) (hb1 : (dg 10 z1.natAbs).length ≤ 1000000) (hb2 : (dg 10 z2.natAbs).length ≤ 1000000) (h1 : IsNum w z1 a ca) (h2 : IsNum w z2 b cb) :
    Calls Try.prog 177 #[.agg #[.bool (decide (z1 < 0)), .slice a (dg 10 z1.natAbs).length ca], .agg #[.bool (decide (z2 < 0)), .slice b (dg 10 z2.natAbs).length cb]] w fun e w' => e = .returned (.int .i64 (cmpZ z1 z2)) ∧ Ext w w' := by
  have HC := Lib.hid (fun W (hr : Rd W a (ks .i64 (dg 10 z1.natAbs))) (hr2 : Rd W b (ks .i64 (dg 10 z2.natAbs))) => rcmp_walk a b ca cb z1.natAbs z2.natAbs W hb1 hb2 hr hr2)
  have HCS := Lib.hid (fun W (hr : Rd W a (ks .i64 (dg 10 z1.natAbs))) (hr2 : Rd W b (ks .i64 (dg 10 z2.natAbs))) => rcmp_walk b a cb ca z2.natAbs z1.natAbs W hb2 hb1 hr2 hr)
  have hR1 : Hid (decide (z1 < 0) = true → decide (z2 < 0) = false → cmpZ z1 z2 = -1) := by
    unfold Hid cmpZ; simp only [decide_eq_true_eq, decide_eq_false_iff_not]; intro p q; rw [if_pos (by omega)]
  have hR2 : Hid (decide (z1 < 0) = false → decide (z2 < 0) = true → cmpZ z1 z2 = 1) := by
    unfold Hid cmpZ; simp only [decide_eq_true_eq, decide_eq_false_iff_not]; intro p q; rw [if_neg (by omega), if_neg (by omega)]
  have hR3 : Hid (decide (z1 < 0) = true → decide (z2 < 0) = true → cmpZ z1 z2 = cmpN z2.natAbs z1.natAbs) := by
    unfold Hid cmpZ cmpN; simp only [decide_eq_true_eq]; intro p q; (repeat' split) <;> omega
  have hR4 : Hid (decide (z1 < 0) = false → decide (z2 < 0) = false → cmpZ z1 z2 = cmpN z1.natAbs z2.natAbs) := by
    unfold Hid cmpZ cmpN; simp only [decide_eq_false_iff_not]; intro p q; (repeat' split) <;> omega
  have R1 := Lib.hid h1.2.2
  have R2 := Lib.hid h2.2.2
  clear h1 h2 hb1 hb2
  generalize cmpZ z1 z2 = r at *
  generalize cmpN z1.natAbs z2.natAbs = q at *
  generalize cmpN z2.natAbs z1.natAbs = q' at *
  generalize hna : (dg 10 z1.natAbs).length = na at *
  generalize hnb : (dg 10 z2.natAbs).length = nb at *
  clear hna hnb
  cases s1 : decide (z1 < 0) <;> cases s2 : decide (z2 < 0)
  case false.false =>
    have HF := Lib.hid (hR4.out s1 s2)
    clear hR1 hR2 hR3 hR4 s1 s2
    go_enter Try.func177, Try.ntmps177
    go_wp2_with fail
    refine (HC.out _ ((R1.out.alloc _).alloc _) ((R2.out.alloc _).alloc _)).mono ?_
    rintro e w1 ⟨rfl, g1⟩
    go_wp2_with fail
    go_ret
    exact ⟨ret_int HF.out.symm, ((Ext.new _ _).alloc _).trans g1⟩
  case false.true =>
    have HF := Lib.hid (hR2.out s1 s2)
    clear hR1 hR2 hR3 hR4 s1 s2
    go_enter Try.func177, Try.ntmps177
    go_wp2_with fail
    go_ret
    exact ⟨ret_int HF.out.symm, (Ext.new _ _).alloc _⟩
  case true.false =>
    have HF := Lib.hid (hR1.out s1 s2)
    clear hR1 hR2 hR3 hR4 s1 s2
    go_enter Try.func177, Try.ntmps177
    go_wp2_with fail
    go_ret
    exact ⟨ret_int HF.out.symm, (Ext.new _ _).alloc _⟩
  case true.true =>
    have HF := Lib.hid (hR3.out s1 s2)
    clear hR1 hR2 hR3 hR4 s1 s2
    go_enter Try.func177, Try.ntmps177
    go_wp2_with fail
    refine (HCS.out _ ((R1.out.alloc _).alloc _) ((R2.out.alloc _).alloc _)).mono ?_
    rintro e w1 ⟨rfl, g1⟩
    go_wp2_with fail
    go_ret
    exact ⟨ret_int HF.out.symm, ((Ext.new _ _).alloc _).trans g1⟩
end Go.Proofs.Ytmlnpagkabmmpaa

/- The reference's Neg, Add. -/
namespace Go.Proofs.Ytmlnpagkabmmpaa
open Go.RowKit

/-- a number's own cells: the result is stored in a variable of the call's own -/
theorem num_store {w W w' : World} {z : Int} {a : Option Addr} {c g : Nat} (hg1 : w.heap.size ≤ g) (x : Ext w W) (h : IsNum w' z a c) (h5 : Ext W w') (hf : ∀ ad, a = some ad → ad.block ≠ g) (u v : Value) :
    GotNum z w (.returned (.agg #[.bool (decide (z < 0)), .slice a (dg 10 z.natAbs).length c])) ((w'.setCell ⟨g, 0, none⟩ u).setCell ⟨g, 1, none⟩ v) := by
  refine ⟨a, c, rfl, ⟨h.1, h.2.1, ?_⟩, ((x.trans h5).set (p := ⟨g, 0, none⟩) hg1 _).set (p := ⟨g, 1, none⟩) hg1 _⟩
  exact (h.2.2.keep fun bb off e _ => Below.heap_setCell _ _ _ _ (hf _ e)).keep fun bb off e _ => Below.heap_setCell _ _ _ _ (hf _ e)

/-- two numbers boxed, and a result's cells -/
theorem two_nums (w : World) (u0 u1 v0 v1 : Value) :
    ∃ W0, ((w.alloc (.cells #[u0, u1] 94)).alloc (.cells #[v0, v1] 94)).alloc (.cells #[.bool false, .slice none 0 0] 94) = W0 ∧ Row W0 w.heap.size 94 [u0, u1] ∧ Row W0 (w.heap.size + 1) 94 [v0, v1] ∧ Row W0 (w.heap.size + 1 + 1) 94 [.bool false, .slice none 0 0] ∧ Ext w W0 ∧ W0.heap.size = w.heap.size + 1 + 1 + 1 := by
  refine ⟨_, rfl, ((Row.new w _ [_, _]).alloc _).alloc _, ?_, ?_, ((Ext.new _ _).alloc _).alloc _, by simp⟩
  · have := (Row.new (w.alloc (.cells #[u0, u1] 94)) 94 [v0, v1]).alloc (.cells #[.bool false, .slice none 0 0] 94)
    rwa [World.size_alloc] at this
  · have := Row.new ((w.alloc (.cells #[u0, u1] 94)).alloc (.cells #[v0, v1] 94)) 94 [.bool false, .slice none 0 0]
    rwa [World.size_alloc, World.size_alloc] at this
theorem held4n {w W : World} {u0 u1 v0 v1 : Value} (h0 : Row W w.heap.size 94 [u0, u1]) (h1 : Row W (w.heap.size + 1) 94 [v0, v1]) :
    W.cell? ⟨w.heap.size, 0, none⟩ = some u0 ∧ W.cell? ⟨w.heap.size, 1, none⟩ = some u1 ∧ W.cell? ⟨w.heap.size + 1, 0, none⟩ = some v0 ∧ W.cell? ⟨w.heap.size + 1, 1, none⟩ = some v1 :=
  ⟨h0.cell (i := 0) rfl, h0.cell (i := 1) rfl, h1.cell (i := 0) rfl, h1.cell (i := 1) rfl⟩

set_option maxRecDepth 100000 in
set_option maxHeartbeats 4000000 in
theorem raddz_walk (z1 z2 : Int) (a b : Option Addr) (ca cb : Nat) (w : World) (hb1 : (dg 10 z1.natAbs).length ≤ 100000) (hb2 : (dg 10 z2.natAbs).length ≤ 100000) (h1 : IsNum w z1 a ca) (h2 : IsNum w z2 b cb) :
    Calls Try.prog 115 #[.agg #[.bool (decide (z1 < 0)), .slice a (dg 10 z1.natAbs).length ca], .agg #[.bool (decide (z2 < 0)), .slice b (dg 10 z2.natAbs).length cb]] w (GotNum (z1 + z2) w) := by
  have HA := Lib.hid (fun W (hr : Rd W a (ks .i64 (dg 10 z1.natAbs))) (hr2 : Rd W b (ks .i64 (dg 10 z2.natAbs))) => radd_walk a b ca cb z1.natAbs z2.natAbs W (by omega) (by omega) hr hr2)
  have HS1 := Lib.hid (fun W (hr : Rd W a (ks .i64 (dg 10 z1.natAbs))) (hr2 : Rd W b (ks .i64 (dg 10 z2.natAbs))) (hle : z2.natAbs ≤ z1.natAbs) => rsub_walk a b ca cb z1.natAbs z2.natAbs W hle (by omega) (by omega) hr hr2)
  have HS2 := Lib.hid (fun W (hr : Rd W a (ks .i64 (dg 10 z1.natAbs))) (hr2 : Rd W b (ks .i64 (dg 10 z2.natAbs))) (hle : z1.natAbs ≤ z2.natAbs) => rsub_walk b a cb ca z2.natAbs z1.natAbs W hle (by omega) (by omega) hr2 hr)
  have HC := Lib.hid (fun W (hr : Rd W a (ks .i64 (dg 10 z1.natAbs))) (hr2 : Rd W b (ks .i64 (dg 10 z2.natAbs))) => rcmp_walk a b ca cb z1.natAbs z2.natAbs W (by omega) (by omega) hr hr2)
  have hla := dg_len_add ten_gt z1.natAbs z2.natAbs
  have hls1 := dg_len_mono ten_gt (Nat.sub_le z1.natAbs z2.natAbs)
  have hls2 := dg_len_mono ten_gt (Nat.sub_le z2.natAbs z1.natAbs)
  have HO := Lib.hid (fun (s : Bool) (n : Nat) (hn : (dg 10 n).length ≤ 300000) W a' c' (g1 : (dg 10 n).length ≤ c') (g2 : c' ≤ maxLen) (hr : Rd W a' (ks .i64 (dg 10 n))) => rmk_walk s n a' c' W g1 g2 hr)
  have hn1 := cmpN_ge z1.natAbs z2.natAbs
  have hcb : -1 ≤ cmpN z1.natAbs z2.natAbs ∧ cmpN z1.natAbs z2.natAbs ≤ 1 := by unfold cmpN; (repeat' split) <;> omega
  obtain ⟨hcb1, hcb2⟩ := hcb
  have HY0 := Lib.hid (add_sign0 z1 z2)
  have HY1 := Lib.hid (add_sign1 z1 z2)
  have HY2 := Lib.hid (add_sign2 z1 z2)
  have r1 := h1.2.2
  have r2 := h2.2.2
  have hL0 : (dg 10 (z1.natAbs + z2.natAbs)).length ≤ 300000 := by omega
  have hL1 : (dg 10 (z1.natAbs - z2.natAbs)).length ≤ 300000 := by omega
  have hL2 : (dg 10 (z2.natAbs - z1.natAbs)).length ≤ 300000 := by omega
  have HO0 := Lib.hid (HO.out (decide (z1 < 0)) _ hL0)
  have HO1 := Lib.hid (HO.out (decide (z1 < 0)) _ hL1)
  have HO2 := Lib.hid (HO.out (decide (z2 < 0)) _ hL2)
  clear h1 h2 hb1 hb2 hla hls1 hls2 HO hL0 hL1 hL2
  generalize z1 + z2 = y at *
  generalize z1.natAbs + z2.natAbs = m0 at *
  generalize z1.natAbs - z2.natAbs = m1 at *
  generalize z2.natAbs - z1.natAbs = m2 at *
  generalize cmpN z1.natAbs z2.natAbs = q at *
  generalize decide (z1 < 0) = s1 at *
  generalize decide (z2 < 0) = s2 at *
  generalize hna : (dg 10 z1.natAbs).length = na at *
  generalize hnb : (dg 10 z2.natAbs).length = nb at *
  clear hna hnb
  cases he : (s1 == s2)
  · rw [he] at HY0 HY1 HY2
    have HE := Lib.hid he
    by_cases hq : 0 ≤ q
    · have hle := hn1.1 hq
      have HF := HY1.out rfl hle
      rw [HF] at HO1
      have HNAT : Hid (y.natAbs = m1) := by show _ = _; rw [← HF, sz_abs]
      have HS := Lib.hid (fun W p r => HS1.out W p r hle)
      clear HA HS1 HS2 HO0 HO2 HY0 HY1 HY2 hn1 HF hle
      go_enter Try.func115, Try.ntmps115
      go_wp2_with fail
      obtain ⟨W0, hW0, q0, q1, q2, x0, hs0⟩ := two_nums w (.bool s1) (.slice a na ca) (.bool s2) (.slice b nb cb)
      rw [hW0]
      have k0 := q0.cell (i := 0) rfl
      have k1 := q0.cell (i := 1) rfl
      have k2 := q1.cell (i := 0) rfl
      have k3 := q1.cell (i := 1) rfl
      have QQ := Lib.hid (And.intro q0 (And.intro q1 (And.intro q2 (And.intro x0 hs0))))
      clear hW0 q0 q1 q2 x0 hs0
      go_wp2_with (go_at_call 164; refine (HC.out _ ?_ ?_).mono ?_; exact r1.ext QQ.out.2.2.2.1; exact r2.ext QQ.out.2.2.2.1; rintro e w1 ⟨rfl, g0⟩)
      have p0 := Row.ext (show Row (W0) _ _ _ from QQ.out.1) g0
      have p1 := Row.ext (show Row (W0) _ _ _ from QQ.out.2.1) g0
      have p2 := Row.ext (show Row (W0) _ _ _ from QQ.out.2.2.1) g0
      have px := QQ.out.2.2.2.1.trans g0
      have ps : w.heap.size + 1 + 1 + 1 ≤ w1.heap.size := by have h1 := g0.size; have h2 := QQ.out.2.2.2.2; omega
      have PP := Lib.hid (And.intro p0 (And.intro p1 (And.intro p2 (And.intro px ps))))
      have k0 := p0.cell (i := 0) rfl
      have k1 := p0.cell (i := 1) rfl
      have k2 := p1.cell (i := 0) rfl
      have k3 := p1.cell (i := 1) rfl
      clear p0 p1 p2 px ps
      go_region_held3 (fun w' => w'.cell? ⟨w.heap.size, 0, none⟩ = some (.bool s1) ∧ w'.cell? ⟨w.heap.size, 1, none⟩ = some (.slice a na ca) ∧ w'.cell? ⟨w.heap.size + 1, 0, none⟩ = some (.bool s2) ∧ w'.cell? ⟨w.heap.size + 1, 1, none⟩ = some (.slice b nb cb)) (first | exact held4n PP.out.1.drew PP.out.2.1.drew | exact held4n (row_far2 (PP.out.1.drew.ext (Ext.trans g4 t4)) (by omega) _ _) (row_far2 (PP.out.2.1.drew.ext (Ext.trans g4 t4)) (by omega) _ _) | exact held4n (PP.out.1.drew.ext (Ext.trans g4 t4)) (PP.out.2.1.drew.ext (Ext.trans g4 t4)) | exact held4n (PP.out.1.drew.ext g4) (PP.out.2.1.drew.ext g4)) (first
        | (go_at_call 165; refine (HS.out _ ?_ ?_).mono ?_; exact (r1.ext PP.out.2.2.2.1).drew; exact (r2.ext PP.out.2.2.2.1).drew; rintro e w2 ⟨a2, c2, rfl, g1, g2, g3, g4, g5⟩)
        | (go_at_call 162; refine (HO1.out _ _ _ ?_ ?_ ?_).mono ?_; exact g1; exact g2; exact g3; rintro e w3 ⟨rfl, t4⟩; have h0 := ((PP.out.2.2.1.drew.ext g4).ext t4).cell (i := 0) rfl; have h1 := ((PP.out.2.2.1.drew.ext g4).ext t4).cell (i := 1) rfl; have h2 := ((PP.out.2.2.1.drew.ext g4).ext t4).frozen 0; have h3 := ((PP.out.2.2.1.drew.ext g4).ext t4).frozen 1))
      go_wp2_with fail
      obtain ⟨p0, p1, p2, px, ps⟩ := PP.out
      have r3 := (((p2.drew.ext g4).ext t4).set 0 (.bool (decide (y < 0)))).set 1 (.slice a2 (dg 10 m1).length c2)
      have z0 := r3.cell (i := 0) rfl
      have z1 := r3.cell (i := 1) rfl
      refine bodyPost_ret (v := .agg #[.bool (decide (y < 0)), .slice a2 (dg 10 m1).length c2]) ?_ rfl ?_
      · simp [results, Try.f115, go_sem, z0, z1]
      · have hz1 := g4.size
        simp only [World.drew] at hz1
        have hgs := num_store (w := w) (z := y) (g := w.heap.size + 1 + 1) (c := c2) (a := a2) (by omega) (px.drew.trans g4) (w' := w3) (by rw [IsNum, HNAT.out]; exact ⟨g1, g2, g3.ext t4⟩) t4 (fun ad e => by have := g5 _ e; simp only [World.drew] at this; omega) (.bool (decide (y < 0))) (.slice a2 (dg 10 m1).length c2)
        rw [HNAT.out] at hgs
        exact hgs
    · have hle : z1.natAbs ≤ z2.natAbs := by have : ¬ z2.natAbs ≤ z1.natAbs := fun h => hq (hn1.2 h); omega
      have HF := HY2.out rfl hle
      rw [HF] at HO2
      have HNAT : Hid (y.natAbs = m2) := by show _ = _; rw [← HF, sz_abs]
      have HS := Lib.hid (fun W p r => HS2.out W p r hle)
      clear HA HS1 HS2 HO0 HO1 HY0 HY1 HY2 hn1 HF hle
      go_enter Try.func115, Try.ntmps115
      go_wp2_with fail
      obtain ⟨W0, hW0, q0, q1, q2, x0, hs0⟩ := two_nums w (.bool s1) (.slice a na ca) (.bool s2) (.slice b nb cb)
      rw [hW0]
      have k0 := q0.cell (i := 0) rfl
      have k1 := q0.cell (i := 1) rfl
      have k2 := q1.cell (i := 0) rfl
      have k3 := q1.cell (i := 1) rfl
      have QQ := Lib.hid (And.intro q0 (And.intro q1 (And.intro q2 (And.intro x0 hs0))))
      clear hW0 q0 q1 q2 x0 hs0
      go_wp2_with (go_at_call 164; refine (HC.out _ ?_ ?_).mono ?_; exact r1.ext QQ.out.2.2.2.1; exact r2.ext QQ.out.2.2.2.1; rintro e w1 ⟨rfl, g0⟩)
      have p0 := Row.ext (show Row (W0) _ _ _ from QQ.out.1) g0
      have p1 := Row.ext (show Row (W0) _ _ _ from QQ.out.2.1) g0
      have p2 := Row.ext (show Row (W0) _ _ _ from QQ.out.2.2.1) g0
      have px := QQ.out.2.2.2.1.trans g0
      have ps : w.heap.size + 1 + 1 + 1 ≤ w1.heap.size := by have h1 := g0.size; have h2 := QQ.out.2.2.2.2; omega
      have PP := Lib.hid (And.intro p0 (And.intro p1 (And.intro p2 (And.intro px ps))))
      have k0 := p0.cell (i := 0) rfl
      have k1 := p0.cell (i := 1) rfl
      have k2 := p1.cell (i := 0) rfl
      have k3 := p1.cell (i := 1) rfl
      clear p0 p1 p2 px ps
      go_region_held3 (fun w' => w'.cell? ⟨w.heap.size, 0, none⟩ = some (.bool s1) ∧ w'.cell? ⟨w.heap.size, 1, none⟩ = some (.slice a na ca) ∧ w'.cell? ⟨w.heap.size + 1, 0, none⟩ = some (.bool s2) ∧ w'.cell? ⟨w.heap.size + 1, 1, none⟩ = some (.slice b nb cb)) (first | exact held4n PP.out.1.drew PP.out.2.1.drew | exact held4n (row_far2 (PP.out.1.drew.ext (Ext.trans g4 t4)) (by omega) _ _) (row_far2 (PP.out.2.1.drew.ext (Ext.trans g4 t4)) (by omega) _ _) | exact held4n (PP.out.1.drew.ext (Ext.trans g4 t4)) (PP.out.2.1.drew.ext (Ext.trans g4 t4)) | exact held4n (PP.out.1.drew.ext g4) (PP.out.2.1.drew.ext g4)) (first
        | (go_at_call 165; refine (HS.out _ ?_ ?_).mono ?_; exact (r1.ext PP.out.2.2.2.1).drew; exact (r2.ext PP.out.2.2.2.1).drew; rintro e w2 ⟨a2, c2, rfl, g1, g2, g3, g4, g5⟩)
        | (go_at_call 162; refine (HO2.out _ _ _ ?_ ?_ ?_).mono ?_; exact g1; exact g2; exact g3; rintro e w3 ⟨rfl, t4⟩; have h0 := ((PP.out.2.2.1.drew.ext g4).ext t4).cell (i := 0) rfl; have h1 := ((PP.out.2.2.1.drew.ext g4).ext t4).cell (i := 1) rfl; have h2 := ((PP.out.2.2.1.drew.ext g4).ext t4).frozen 0; have h3 := ((PP.out.2.2.1.drew.ext g4).ext t4).frozen 1))
      go_wp2_with fail
      obtain ⟨p0, p1, p2, px, ps⟩ := PP.out
      have r3 := (((p2.drew.ext g4).ext t4).set 0 (.bool (decide (y < 0)))).set 1 (.slice a2 (dg 10 m2).length c2)
      have z0 := r3.cell (i := 0) rfl
      have z1 := r3.cell (i := 1) rfl
      refine bodyPost_ret (v := .agg #[.bool (decide (y < 0)), .slice a2 (dg 10 m2).length c2]) ?_ rfl ?_
      · simp [results, Try.f115, go_sem, z0, z1]
      · have hz1 := g4.size
        simp only [World.drew] at hz1
        have hgs := num_store (w := w) (z := y) (g := w.heap.size + 1 + 1) (c := c2) (a := a2) (by omega) (px.drew.trans g4) (w' := w3) (by rw [IsNum, HNAT.out]; exact ⟨g1, g2, g3.ext t4⟩) t4 (fun ad e => by have := g5 _ e; simp only [World.drew] at this; omega) (.bool (decide (y < 0))) (.slice a2 (dg 10 m2).length c2)
        rw [HNAT.out] at hgs
        exact hgs
  · have HF := HY0.out he
    rw [HF] at HO0
    have HNAT : Hid (y.natAbs = m0) := by show _ = _; rw [← HF, sz_abs]
    have HE := Lib.hid he
    clear HS1 HS2 HO1 HO2 HY0 HY1 HY2 hn1 HF HC
    go_enter Try.func115, Try.ntmps115
    go_wp2_with fail
    obtain ⟨W0, hW0, q0, q1, q2, x0, hs0⟩ := two_nums w (.bool s1) (.slice a na ca) (.bool s2) (.slice b nb cb)
    rw [hW0]
    have k0 := q0.cell (i := 0) rfl
    have k1 := q0.cell (i := 1) rfl
    have k2 := q1.cell (i := 0) rfl
    have k3 := q1.cell (i := 1) rfl
    have QQ := Lib.hid (And.intro q0 (And.intro q1 (And.intro q2 (And.intro x0 hs0))))
    clear hW0 q0 q1 q2 x0 hs0
    go_wp2_with fail
    obtain ⟨w1, hw1⟩ : ∃ w1, W0 = w1 := ⟨_, rfl⟩
    have g0 : Ext (W0) w1 := by rw [← hw1]; exact Ext.refl _
    rw [hw1]
    clear hw1
    have p0 := Row.ext (show Row (W0) _ _ _ from QQ.out.1) g0
    have p1 := Row.ext (show Row (W0) _ _ _ from QQ.out.2.1) g0
    have p2 := Row.ext (show Row (W0) _ _ _ from QQ.out.2.2.1) g0
    have px := QQ.out.2.2.2.1.trans g0
    have ps : w.heap.size + 1 + 1 + 1 ≤ w1.heap.size := by have h1 := g0.size; have h2 := QQ.out.2.2.2.2; omega
    have PP := Lib.hid (And.intro p0 (And.intro p1 (And.intro p2 (And.intro px ps))))
    have k0 := p0.cell (i := 0) rfl
    have k1 := p0.cell (i := 1) rfl
    have k2 := p1.cell (i := 0) rfl
    have k3 := p1.cell (i := 1) rfl
    clear p0 p1 p2 px ps
    go_region_held3 (fun w' => w'.cell? ⟨w.heap.size, 0, none⟩ = some (.bool s1) ∧ w'.cell? ⟨w.heap.size, 1, none⟩ = some (.slice a na ca) ∧ w'.cell? ⟨w.heap.size + 1, 0, none⟩ = some (.bool s2) ∧ w'.cell? ⟨w.heap.size + 1, 1, none⟩ = some (.slice b nb cb)) (first | exact held4n PP.out.1.drew PP.out.2.1.drew | exact held4n (row_far2 (PP.out.1.drew.ext (Ext.trans g4 t4)) (by omega) _ _) (row_far2 (PP.out.2.1.drew.ext (Ext.trans g4 t4)) (by omega) _ _) | exact held4n (PP.out.1.drew.ext (Ext.trans g4 t4)) (PP.out.2.1.drew.ext (Ext.trans g4 t4)) | exact held4n (PP.out.1.drew.ext g4) (PP.out.2.1.drew.ext g4)) (first
      | (go_at_call 163; refine (HA.out _ ?_ ?_).mono ?_; exact (r1.ext PP.out.2.2.2.1).drew; exact (r2.ext PP.out.2.2.2.1).drew; rintro e w2 ⟨v2, rfl, own2, g4⟩; obtain ⟨a2, c2, rfl, g1, g2, g3⟩ := own_form own2; have g5 := own_from own2)
      | (go_at_call 162; refine (HO0.out _ _ _ ?_ ?_ ?_).mono ?_; exact g1; exact g2; exact g3; rintro e w3 ⟨rfl, t4⟩; have h0 := ((PP.out.2.2.1.drew.ext g4).ext t4).cell (i := 0) rfl; have h1 := ((PP.out.2.2.1.drew.ext g4).ext t4).cell (i := 1) rfl; have h2 := ((PP.out.2.2.1.drew.ext g4).ext t4).frozen 0; have h3 := ((PP.out.2.2.1.drew.ext g4).ext t4).frozen 1))
    go_wp2_with fail
    obtain ⟨p0, p1, p2, px, ps⟩ := PP.out
    have r3 := (((p2.drew.ext g4).ext t4).set 0 (.bool (decide (y < 0)))).set 1 (.slice a2 (dg 10 m0).length c2)
    have z0 := r3.cell (i := 0) rfl
    have z1 := r3.cell (i := 1) rfl
    refine bodyPost_ret (v := .agg #[.bool (decide (y < 0)), .slice a2 (dg 10 m0).length c2]) ?_ rfl ?_
    · simp [results, Try.f115, go_sem, z0, z1]
    · have hz1 := g4.size
      simp only [World.drew] at hz1
      have hgs := num_store (w := w) (z := y) (g := w.heap.size + 1 + 1) (c := c2) (a := a2) (by omega) (px.drew.trans g4) (w' := w3) (by rw [IsNum, HNAT.out]; exact ⟨g1, g2, g3.ext t4⟩) t4 (fun ad e => by have := g5 _ e; simp only [World.drew] at this; omega) (.bool (decide (y < 0))) (.slice a2 (dg 10 m0).length c2)
      rw [HNAT.out] at hgs
      exact hgs
end Go.Proofs.Ytmlnpagkabmmpaa

/- The reference's Neg, Of, Int. -/
namespace Go.Proofs.Ytmlnpagkabmmpaa
open Go.RowKit

set_option maxRecDepth 100000 in
set_option maxHeartbeats 1000000 in
theorem rneg_walk (z : Int) (a : Option Addr) (c : Nat) (w : World) (h : IsNum w z a c) :
    Calls Try.prog 179 #[.agg #[.bool (decide (z < 0)), .slice a (dg 10 z.natAbs).length c]] w (GotNum (-z) w) := by
  obtain ⟨h1, h2, h3⟩ := h
  have HO := Lib.hid (fun W (hr : Rd W a (ks .i64 (dg 10 z.natAbs))) => rmk_walk (!decide (z < 0)) z.natAbs a c W h1 h2 hr)
  have hz : sz (!decide (z < 0)) z.natAbs = -z := by unfold sz; by_cases hz : z < 0 <;> simp [hz] <;> omega
  rw [hz] at HO
  obtain ⟨y, hy⟩ : ∃ y, y = -z := ⟨_, rfl⟩
  have hyn : Hid (y.natAbs = z.natAbs) := by show _ = _; omega
  rw [← hy] at HO ⊢
  have H1 := Lib.hid (And.intro h1 (And.intro h2 h3))
  clear hz hy h1 h2 h3
  generalize z.natAbs = n at *
  generalize decide (z < 0) = s at *
  obtain ⟨na, hna⟩ : ∃ x, (dg 10 n).length = x := ⟨_, rfl⟩
  have HNA := Lib.hid hna
  rw [hna] at HO ⊢
  clear hna
  go_enter Try.func179, Try.ntmps179
  go_wp2_with fail
  refine (HO.out _ ((H1.out.2.2.alloc _).alloc _)).mono ?_
  rintro e w1 ⟨rfl, g1⟩
  have r1 := (Row.new (w.alloc (.cells #[.bool s, .slice a na c] 94)) 94 [.bool false, .slice none 0 0]).ext g1
  rw [World.size_alloc] at r1
  have k0 := r1.cell (i := 0) rfl
  have k1 := r1.cell (i := 1) rfl
  have f0 := r1.frozen 0
  have f1 := r1.frozen 1
  have R1 := Lib.hid r1
  clear r1
  go_wp2_with fail
  have r2 := (R1.out.set 0 (.bool (decide (y < 0)))).set 1 (.slice a na c)
  have z0 := r2.cell (i := 0) rfl
  have z1 := r2.cell (i := 1) rfl
  have xx : Ext w ((w1.setCell ⟨w.heap.size + 1, 0, none⟩ (.bool (decide (y < 0)))).setCell ⟨w.heap.size + 1, 1, none⟩ (.slice a na c)) := ((((Ext.new w _).alloc _).trans g1).set (p := ⟨w.heap.size + 1, 0, none⟩) (Nat.le_succ _) _).set (p := ⟨w.heap.size + 1, 1, none⟩) (Nat.le_succ _) _
  refine bodyPost_ret (v := .agg #[.bool (decide (y < 0)), .slice a na c]) (by simp [results, Try.f179, go_sem, z0, z1]) rfl ⟨a, c, by rw [hyn.out, HNA.out], by rw [IsNum, hyn.out]; exact ⟨H1.out.1, H1.out.2.1, H1.out.2.2.ext xx⟩, xx⟩

set_option maxRecDepth 100000 in
set_option maxHeartbeats 4000000 in
theorem rof_walk (z : Int) (a : Option Addr) (ca : Nat) (w : World) (hb : (dg BB z.natAbs).length ≤ 100000) (h : IsInt w z a ca) :
    Calls Try.prog 176 #[.agg #[.bool (decide (z < 0)), .slice a (dg BB z.natAbs).length ca]] w (GotNum z w) := by
  have hr := h.2.2
  have hnb := lt_pow_len BB_gt z.natAbs
  obtain ⟨y, hy⟩ : ∃ y, y = z := ⟨_, rfl⟩
  have hsz : sz (decide (z < 0)) z.natAbs = y := by rw [hy]; exact sz_self z
  have hyn : y.natAbs = z.natAbs := by rw [hy]
  suffices hmain : Calls Try.prog 176 #[.agg #[.bool (decide (z < 0)), .slice a (dg BB z.natAbs).length ca]] w (GotNum y w) by rw [← hy]; exact hy ▸ hmain
  clear h hy
  generalize z.natAbs = n at *
  generalize decide (z < 0) = s at *
  obtain ⟨l, hl⟩ : ∃ l, l = dg BB n := ⟨_, rfl⟩
  have hdig : ∀ i (hi : i < l.length), l[i] = n / BB ^ i % BB := fun i hi => by subst hl; exact dg_at BB_gt hi
  rw [← hl] at hr hb hnb ⊢
  have HNB := Lib.hid hnb
  have HDIG := Lib.hid hdig
  have HR := Lib.hid hr
  have HSZ := Lib.hid hsz
  have HYN := Lib.hid hyn
  clear hl hdig hnb hr hsz hyn
  go_enter Try.func176, Try.ntmps176
  go_wp2_with fail
  obtain ⟨W1, hW1⟩ : ∃ W1, (w.alloc (.cells #[.bool s, .slice a l.length ca] 24)).alloc (.cells #[.bool false, .slice none 0 0] 94) = W1 := ⟨_, rfl⟩
  have q0 : Row W1 w.heap.size 24 [.bool s, .slice a l.length ca] := by rw [← hW1]; exact (Row.new w _ [_, _]).alloc _
  have q1 : Row W1 (w.heap.size + 1) 94 [.bool false, .slice none 0 0] := by
    rw [← hW1]
    have := Row.new (w.alloc (.cells #[.bool s, .slice a l.length ca] 24)) 94 [.bool false, .slice none 0 0]
    rwa [World.size_alloc] at this
  have x1 : Ext w W1 := by rw [← hW1]; exact (Ext.new _ _).alloc _
  have hs1 : W1.heap.size = w.heap.size + 1 + 1 := by rw [← hW1]; simp
  rw [hW1]
  have own0 := own_empty W1 W1.heap.size (Nat.le_refl _)
  rw [hs1] at own0
  have HS1 := Lib.hid hs1
  clear hW1 hs1
  go_loopw [3, 4] (fun o iv wr => ∃ i : Nat, i ≤ l.length ∧ iv = .int .i64 i ∧ wr.ownsRow (w.heap.size + 1 + 1) 3 1 o (9 * i) (ks .i64 (fixd 10 (9 * i) n)) ∧ Ext W1 wr) (fun _ iv _ => l.length - (intOf iv).toNat)
  case atStart => exact ⟨0, by omega, rfl, own0, Ext.new _ _⟩
  case round =>
    obtain ⟨i, hi, rfl, hown, hext⟩ := hrel
    have k0 := (q0.ext hext).cell (i := 0) rfl
    have k1 := (q0.ext hext).cell (i := 1) rfl
    by_cases hlt : i < l.length
    · obtain ⟨b0, ob, rfl, hcb⟩ := (HR.out.ext (x1.trans hext)).num (i := i) hlt
      have hx : l[i] < 1000000000 := by rw [HDIG.out i hlt]; exact Nat.mod_lt _ (by decide)
      have hxk : Hid (l[i] = n / BB ^ i % BB) := HDIG.out i hlt
      generalize l[i] = x at *
      go_wp2_with fail
      clear k0 k1 hcb
      go_loopw [3, 5, 6] (fun o d kv wr2 => ∃ k : Nat, k ≤ 9 ∧ kv = .int .i64 k ∧ d = .int .i64 ((x / 10 ^ k : Nat) : Int) ∧ wr2.ownsRow (w.heap.size + 1 + 1) 3 1 o (9 * i + k) (ks .i64 (fixd 10 (9 * i + k) n)) ∧ Ext W1 wr2) (fun _ _ kv _ => 10 - (intOf kv).toNat)
      case atStart => exact ⟨0, by omega, rfl, by simp, hown, hext⟩
      case round =>
        obtain ⟨k, hk, rfl, rfl, hown2, hext2⟩ := hrel
        have k0 := (q0.ext hext2).cell (i := 0) rfl
        have k1 := (q0.ext hext2).cell (i := 1) rfl
        by_cases hk9 : k < 9
        · have HD : Hid (x / 10 ^ k % 10 = n / 10 ^ (9 * i + k) % 10) := by show _ = _; rw [hxk.out]; exact dig_at n i k hk9
          have HS : Hid (x / 10 ^ k / 10 = x / 10 ^ (k + 1)) := by show _ = _; rw [Nat.div_div_eq_div_mul, Nat.pow_succ]
          have hy : x / 10 ^ k < 1000000000 := Nat.lt_of_le_of_lt (Nat.div_le_self _ _) hx
          have hown3 : wr.ownsRow W1.heap.size 3 1 u3 (9 * i + k) (ks .i64 (fixd 10 (9 * i + k) n)) := by rw [HS1.out]; exact hown2
          generalize hyy : x / 10 ^ k = y at *
          clear hyy hown2
          go_wp2_with (at_builtin; refine append_elem elemI64 hown3 hext2 (by unfold maxLen; omega) (by omega) rfl (by simp [Value.oneCell']) rfl _ _ rfl rfl rfl ?_; intro v' w1 own1 ext1 _)
          go_roundw
          case rel =>
            refine ⟨k + 1, by omega, by go_num, by rw [← HS.out]; rfl, ?_, ext1⟩
            rw [HS1.out] at own1
            rw [show 9 * i + (k + 1) = 9 * i + k + 1 by omega, fixd_succ, ks_append, ← HD.out]
            exact own1
          case measure => simp [intOf] <;> omega
        · have hk9' : k = 9 := by omega
          subst hk9'
          generalize x / 10 ^ 9 = y at *
          go_wp2_with fail
          go_roundw
          case rel => exact ⟨i + 1, by omega, by go_num, by rw [show 9 * (i + 1) = 9 * i + 9 by omega]; exact hown2, hext2⟩
          case measure => simp [intOf] <;> omega
    · obtain rfl : i = l.length := by omega
      obtain ⟨a1, c1, rfl, g1, g2, g3⟩ := own_form hown
      have hv : val 10 (fixd 10 (9 * l.length) n) = n := by rw [fixd_val, ← BB_pow]; exact Nat.mod_eq_of_lt HNB.out
      have HM := Lib.hid (rmake1_walk s a1 c1 (fixd 10 (9 * l.length) n) (9 * l.length) wr (fun d hd => fixd_lt ten_gt hd) (fixd_len _ _ _) g1 g2 g3)
      rw [hv, HSZ.out] at HM
      have hle : (dg 10 n).length ≤ 9 * l.length := by rw [dg_len_le ten_gt, ← BB_pow]; exact HNB.out
      have hR : Rd wr a1 (ks .i64 (dg 10 n)) := by
        have h6 := g3.take (stripN (fixd 10 (9 * l.length) n) (fixd 10 (9 * l.length) n).length)
        rw [ks_take] at h6
        have : strip (fixd 10 (9 * l.length) n) = dg 10 n := by rw [strip_dg ten_gt _ (fun d hd => fixd_lt ten_gt hd), hv]
        rw [show (fixd 10 (9 * l.length) n).take (stripN (fixd 10 (9 * l.length) n) (fixd 10 (9 * l.length) n).length) = dg 10 n from this] at h6
        exact h6
      have G := Lib.hid (And.intro hR (And.intro (Nat.le_trans hle g1) (And.intro g2 (own_from hown))))
      obtain ⟨lm, hlm⟩ : ∃ x, (dg 10 n).length = x := ⟨_, rfl⟩
      have HLM := Lib.hid hlm
      rw [hlm] at HM
      clear hv hle hR g1 g2 g3 hown hlm
      have Q1 := Lib.hid (q1.ext hext)
      go_wp2_with fail
      refine HM.out.mono ?_
      rintro e w3 ⟨rfl, t4⟩
      have q3 := Q1.out.ext t4
      have e0 := q3.cell (i := 0) rfl
      have e1 := q3.cell (i := 1) rfl
      have f0 := q3.frozen 0
      have f1 := q3.frozen 1
      have Q3 := Lib.hid q3
      clear q3 k0 k1
      go_wp2_with fail
      have r9 := (Q3.out.set 0 (.bool (decide (y < 0)))).set 1 (.slice a1 lm c1)
      have z0 := r9.cell (i := 0) rfl
      have z1 := r9.cell (i := 1) rfl
      have hgs := num_store (w := w) (z := y) (g := w.heap.size + 1) (c := c1) (a := a1) (by omega) (x1.trans hext) (w' := w3) (by rw [IsNum, HYN.out]; exact ⟨G.out.2.1, G.out.2.2.1, G.out.1.ext t4⟩) t4 (fun ad e => by have := G.out.2.2.2 _ e; omega) (.bool (decide (y < 0))) (.slice a1 lm c1)
      rw [HYN.out, HLM.out] at hgs
      exact bodyPost_ret (v := .agg #[.bool (decide (y < 0)), .slice a1 lm c1]) (by simp [results, Try.f176, go_sem, z0, z1]) rfl hgs
end Go.Proofs.Ytmlnpagkabmmpaa

/- WholeOrder: the walk. -/
namespace Go.Proofs.Ytmlnpagkabmmpaa
open Go.RowKit

theorem cmpZ_add (x y z : Int) : cmpZ (x + z) (y + z) = cmpZ x y := by unfold cmpZ; (repeat' split) <;> omega
theorem cmpZ_swap (x y : Int) : cmpZ y x = -cmpZ x y := by unfold cmpZ; (repeat' split) <;> omega
theorem cmpZ_bd (x y : Int) : -1 ≤ cmpZ x y ∧ cmpZ x y ≤ 1 := by unfold cmpZ; (repeat' split) <;> omega
theorem cmpZ_mul (x y z : Int) : cmpZ (x * z) (y * z) = cmpZ x y * cmpZ z 0 := by
  rcases Int.lt_trichotomy z 0 with h | h | h
  · have e1 : cmpZ z 0 = -1 := by unfold cmpZ; rw [if_pos h]
    rw [e1, Int.mul_neg, Int.mul_one, ← cmpZ_swap]
    rcases Int.lt_trichotomy x y with g | g | g
    · have := Int.mul_lt_mul_of_neg_right g h
      unfold cmpZ; (repeat' split) <;> omega
    · subst g; unfold cmpZ; (repeat' split) <;> omega
    · have := Int.mul_lt_mul_of_neg_right g h
      unfold cmpZ; (repeat' split) <;> omega
  · subst h; simp [cmpZ]
  · have e1 : cmpZ z 0 = 1 := by unfold cmpZ; rw [if_neg (by omega), if_neg (by omega)]
    rw [e1, Int.mul_one]
    rcases Int.lt_trichotomy x y with g | g | g
    · have := Int.mul_lt_mul_of_pos_right g h
      unfold cmpZ; (repeat' split) <;> omega
    · subst g; unfold cmpZ; (repeat' split) <;> omega
    · have := Int.mul_lt_mul_of_pos_right g h
      unfold cmpZ; (repeat' split) <;> omega

/-- what the law's cells hold -/
def H3 (w W : World) (u0 u1 v0 v1 t0 t1 : Value) : Prop := Row W w.heap.size 24 [u0, u1] ∧ Row W (w.heap.size + 1) 24 [v0, v1] ∧ Row W (w.heap.size + 1 + 1) 24 [t0, t1]
theorem H3.ext {w W W' : World} {u0 u1 v0 v1 t0 t1 : Value} (h : H3 w W u0 u1 v0 v1 t0 t1) (e : Ext W W') : H3 w W' u0 u1 v0 v1 t0 t1 := ⟨h.1.ext e, h.2.1.ext e, h.2.2.ext e⟩
theorem H3.drew {w W : World} {u0 u1 v0 v1 t0 t1 : Value} (h : H3 w W u0 u1 v0 v1 t0 t1) : H3 w W.drew u0 u1 v0 v1 t0 t1 := h
theorem H3.cells {w W : World} {u0 u1 v0 v1 t0 t1 : Value} (h : H3 w W u0 u1 v0 v1 t0 t1) :
    W.cell? ⟨w.heap.size, 0, none⟩ = some u0 ∧ W.cell? ⟨w.heap.size, 1, none⟩ = some u1 ∧ W.cell? ⟨w.heap.size + 1, 0, none⟩ = some v0 ∧ W.cell? ⟨w.heap.size + 1, 1, none⟩ = some v1 ∧ W.cell? ⟨w.heap.size + 1 + 1, 0, none⟩ = some t0 ∧ W.cell? ⟨w.heap.size + 1 + 1, 1, none⟩ = some t1 :=
  ⟨h.1.cell (i := 0) rfl, h.1.cell (i := 1) rfl, h.2.1.cell (i := 0) rfl, h.2.1.cell (i := 1) rfl, h.2.2.cell (i := 0) rfl, h.2.2.cell (i := 1) rfl⟩
theorem H3.new (w : World) (u0 u1 v0 v1 t0 t1 : Value) : ∃ W0, ((w.alloc (.cells #[u0, u1] 24)).alloc (.cells #[v0, v1] 24)).alloc (.cells #[t0, t1] 24) = W0 ∧ H3 w W0 u0 u1 v0 v1 t0 t1 ∧ Ext w W0 := by
  refine ⟨_, rfl, ⟨((Row.new w _ [_, _]).alloc _).alloc _, ?_, ?_⟩, ((Ext.new _ _).alloc _).alloc _⟩
  · have := (Row.new (w.alloc (.cells #[u0, u1] 24)) 24 [v0, v1]).alloc (.cells #[t0, t1] 24)
    rwa [World.size_alloc] at this
  · have := Row.new ((w.alloc (.cells #[u0, u1] 24)).alloc (.cells #[v0, v1] 24)) 24 [t0, t1]
    rwa [World.size_alloc, World.size_alloc] at this

/-- Odd of three integers that the law has boxed -/
theorem odd3 (x y z : AInt) (W : World) (h : x.ok W) (k : y.ok W) (l : z.ok W) :
    Calls Try.prog 73 #[.slice (some ⟨W.heap.size, 0, none⟩) 3 3] (W.alloc (.cells #[.bool x.s, .slice x.a x.l.length x.c, .bool y.s, .slice y.a y.l.length y.c, .bool z.s, .slice z.a z.l.length z.c] 24)) fun e w' => e = .returned (.bool ([x, y, z].any AInt.odd)) ∧ Ext (W.alloc (.cells #[.bool x.s, .slice x.a x.l.length x.c, .bool y.s, .slice y.a y.l.length y.c, .bool z.s, .slice z.a z.l.length z.c] 24)) w' := by
  have r := Row.new W 24 (flatA [x, y, z])
  refine odd1_walk [x, y, z] W.heap.size 0 3 _ (by simp) (fun j u hu => ?_) ?_
  · rw [Nat.zero_add]; exact r.cell hu
  · intro q hq
    simp only [List.mem_cons, List.not_mem_nil, or_false] at hq
    rcases hq with rfl | rfl | rfl
    · exact h.ext (Ext.new _ _)
    · exact k.ext (Ext.new _ _)
    · exact l.ext (Ext.new _ _)

end Go.Proofs.Ytmlnpagkabmmpaa

/- WholeOrder: the walk where the integers are right. -/
namespace Go.Proofs.Ytmlnpagkabmmpaa
open Go.RowKit

/-- an integer that is handed back -/
def GI (z : Int) (W : World) (e : Ending) (w' : World) : Prop := ∃ a c, e = .returned (.agg #[.bool (decide (z < 0)), .slice a (dg BB z.natAbs).length c]) ∧ IsInt w' z a c ∧ Ext W w'
theorem GI.of {z : Int} {W : World} {e : Ending} {w' : World} (h : GotInt W z e w') : GI z W e w' := GotInt.isInt h

end Go.Proofs.Ytmlnpagkabmmpaa

/- Parse. -/
namespace Go.Proofs.Ytmlnpagkabmmpaa
open Go.RowKit

/-- the bytes of a text -/
def byt (s : ByteArray) : List Nat := s.data.toList.map UInt8.toNat
theorem byt_len (s : ByteArray) : (byt s).length = s.size := by unfold byt; rw [List.length_map]; rfl
theorem byt_get (s : ByteArray) (i : Nat) (h : i < s.size) : (byt s)[i]'(by rw [byt_len]; exact h) = s[i].toNat := by
  simp only [byt, List.getElem_map]
  rfl
theorem byt_lt (s : ByteArray) : ∀ d ∈ byt s, d < 256 := by
  intro d hd
  simp only [byt, List.mem_map] at hd
  obtain ⟨x, _, rfl⟩ := hd
  exact x.toNat_lt
theorem byt_extract (s : ByteArray) (i j : Nat) : byt (s.extract i j) = ((byt s).take j).drop i := by
  simp [byt, ByteArray.data_extract, Array.toList_extract, List.extract_eq_take_drop, List.drop_take]
/-- []byte(s) -/
theorem conv_text (w : World) (s : ByteArray) : ∃ c w', (convert 9 153 (.string s)).run Try.prog w = .ok (.slice (some ⟨w.heap.size, 0, none⟩) s.size c) w' ∧ Ext w w' ∧ Rd w' (some ⟨w.heap.size, 0, none⟩) (ks .u8 (byt s)) := by
  refine ⟨_, _, run_bytes_of_string w 9 153 5 s Try.underlying9 Try.underlying153 Try.underlying5, ((Ext.refl w).drew).alloc _, ?_⟩
  refine .inr ⟨w.heap.size, 0, rfl, fun j u hu => ?_⟩
  have hh := heap_alloc_new w.drew (.cells (bytesRow s (grownCap w s.size 0 5)) 5 ((bytesRow s (grownCap w s.size 0 5)).size, (bytesRow s (grownCap w s.size 0 5)).size + 1))
  rw [Nat.zero_add]
  rw [cell_of_row _ w.heap.size j _ _ _ hh]
  have hj : j < s.data.size := by
    have := (List.getElem?_eq_some_iff.1 hu).1
    rw [ks_len, byt_len] at this
    exact this
  rw [← hu, bytesRow_at _ _ _ hj]
  rw [ks, byt, List.map_map, List.getElem?_map, Array.getElem?_toList, Array.getElem?_eq_getElem hj]
  rfl
end Go.Proofs.Ytmlnpagkabmmpaa

/- Parse: what it gives, and its walk. -/
namespace Go.Proofs.Ytmlnpagkabmmpaa
open Go.RowKit

def isD (c : Nat) : Bool := decide (48 ≤ c) && decide (c ≤ 57)
def dgt (c : Nat) : Nat := if isD c then c - 48 else 0
theorem dgt_lt (c : Nat) : dgt c < 10 := by
  unfold dgt isD; split
  · rename_i h; rw [Bool.and_eq_true] at h; have h1 := of_decide_eq_true h.1; have h2 := of_decide_eq_true h.2; omega
  · omega
theorem dgt_of {c : Nat} (h : isD c = true) : dgt c = c - 48 ∧ 48 ≤ c ∧ c ≤ 57 := by
  unfold dgt; rw [if_pos h]; unfold isD at h; rw [Bool.and_eq_true] at h; exact ⟨rfl, of_decide_eq_true h.1, of_decide_eq_true h.2⟩
/-- the number of a text's digits -/
def numU (l : List Nat) : Nat := val 10 (l.reverse.map dgt)
def parseU (l : List Nat) : Option Nat := if 0 < l.length ∧ l.length ≤ 10000 ∧ l.all isD = true then some (numU l) else none
def parseL (l : List Nat) : Option Int := if l[0]?.getD 0 = 45 then (parseU (l.drop 1)).map (sz true) else (parseU l).map (sz false)
theorem numU_lt (l : List Nat) : numU l < 10 ^ l.length := by
  have := val_lt ten_gt (l := l.reverse.map dgt) (fun d hd => by
    simp only [List.mem_map] at hd
    obtain ⟨x, _, rfl⟩ := hd
    exact dgt_lt x)
  rw [List.length_map, List.length_reverse] at this
  exact this
theorem numU_dig (l : List Nat) (j : Nat) (h : j < l.length) : numU l / 10 ^ j % 10 = dgt (l[l.length - 1 - j]?.getD 0) := by
  have hd : ∀ d ∈ l.reverse.map dgt, d < 10 := fun d hd => by
    simp only [List.mem_map] at hd
    obtain ⟨x, _, rfl⟩ := hd
    exact dgt_lt x
  have h1 := fixd_of_val ten_gt (l.reverse.map dgt) hd
  rw [List.length_map, List.length_reverse] at h1
  have h2 := fixd_get (B := 10) (k := numU l) h
  unfold numU at h2 ⊢
  rw [h1, List.getElem?_map, List.getElem?_reverse h] at h2
  rw [List.getElem?_eq_getElem (by omega)] at h2 ⊢
  simpa using (Option.some.inj h2).symm
/-- one more digit of a piece -/
theorem piece_step (N e k : Nat) : N / 10 ^ e % 10 ^ (k + 1) = 10 * (N / 10 ^ (e + 1) % 10 ^ k) + N / 10 ^ e % 10 := by
  rw [Nat.pow_succ 10 k, Nat.mul_comm (10 ^ k) 10, Nat.mod_mul, Nat.div_div_eq_div_mul, show 10 ^ e * 10 = 10 ^ (e + 1) from rfl]
  omega
theorem piece_done (N L i m : Nat) (hN : N < 10 ^ L) (hm : m = 9 ∨ L = 9 * i + m) (h9 : m ≤ 9) : N / 10 ^ (9 * i) % 10 ^ m = N / BB ^ i % BB := by
  rw [BB_pow]
  by_cases h : m = 9
  · subst h; rfl
  · have hL : L = 9 * i + m := by omega
    have h1 : N / 10 ^ (9 * i) < 10 ^ m := by rw [Nat.div_lt_iff_lt_mul (Nat.pow_pos (by decide)), ← Nat.pow_add, Nat.add_comm, ← hL]; exact hN
    rw [Nat.mod_eq_of_lt h1, Nat.mod_eq_of_lt (Nat.lt_of_lt_of_le h1 (by rw [show BB = 10 ^ 9 from rfl]; exact Nat.pow_le_pow_right (by decide) h9))]

theorem own_ext {w w' : World} {base : Nat} {e : TypeId} {size n : Nat} {v : Value} {xs : List Value} (h : w.ownsRow base e size v n xs) (x : Ext w w') : w'.ownsRow base e size v n xs := by
  obtain ⟨h1, h2⟩ := h
  refine ⟨h1, ?_⟩
  rcases h2 with h2 | ⟨g, cap, cur, e1, e2, e3, e4⟩
  · exact .inl h2
  · exact .inr ⟨g, cap, cur, e1, e2, x.obj e3, e4⟩

/-- the results of Parse -/
def GotP (r : Option Int) (W : World) (e : Ending) (w' : World) : Prop :=
  match r with
  | some z => ∃ a c, e = .returned (.tuple #[.agg #[.bool (decide (z < 0)), .slice a (dg BB z.natAbs).length c], .bool true]) ∧ IsInt w' z a c ∧ Ext W w'
  | none => e = .returned (.tuple #[.agg #[.bool false, .slice none 0 0], .bool false]) ∧ Ext W w'

end Go.Proofs.Ytmlnpagkabmmpaa

/- A number's text read again. -/
namespace Go.Proofs.Ytmlnpagkabmmpaa
open Go.RowKit

theorem byt_bs (l : List Nat) (h : ∀ d ∈ l, d < 256) : byt (bs l) = l := by
  unfold byt bs
  simp only [List.map_map]
  conv => rhs; rw [← List.map_id l]
  apply List.map_congr_left
  intro d hd
  show (UInt8.ofNat d).toNat = d
  rw [UInt8.toNat_ofNat']
  exact Nat.mod_eq_of_lt (h d hd)

theorem isD_dig (d : Nat) (h : d < 10) : isD (d + 48) = true := by
  unfold isD; rw [decide_eq_true (by omega), decide_eq_true (by omega)]; rfl
theorem dgt_dig (d : Nat) (h : d < 10) : dgt (d + 48) = d := by rw [(dgt_of (isD_dig d h)).1]; omega

theorem parseU_asc (D : List Nat) (h : ∀ d ∈ D, d < 10) (h0 : 0 < D.length) (hl : D.length ≤ 10000) : parseU (asc D).reverse = some (val 10 D) := by
  unfold parseU
  rw [if_pos ⟨by rw [List.length_reverse, asc_len]; exact h0, by rw [List.length_reverse, asc_len]; exact hl, List.all_eq_true.2 fun c hc => by
    rw [List.mem_reverse] at hc
    simp only [asc, List.mem_map] at hc
    obtain ⟨d, hd, rfl⟩ := hc
    exact isD_dig d (h d hd)⟩]
  unfold numU
  rw [List.reverse_reverse]
  congr 2
  simp only [asc, List.map_map]
  conv => rhs; rw [← List.map_id D]
  apply List.map_congr_left
  intro d hd
  exact dgt_dig d (h d hd)

theorem txt_lt (z : Int) : ∀ d ∈ (txtR (decide (z < 0)) z.natAbs).reverse, d < 256 := by
  intro d hd
  rw [List.mem_reverse] at hd
  unfold txtR at hd
  rw [List.mem_append, List.mem_append] at hd
  rcases hd with (hd | hd) | hd
  · simp only [asc, List.mem_map] at hd
    obtain ⟨x, hx, rfl⟩ := hd
    have := dg_lt ten_gt hx
    omega
  · split at hd
    · simp at hd; omega
    · cases hd
  · split at hd
    · simp at hd; omega
    · cases hd

theorem parse_txt (z : Int) (hl : (dg 10 z.natAbs).length ≤ 9999) : parseL (byt (txt z)) = some z := by
  have hb := txt_lt z
  unfold txt
  rw [byt_bs _ hb]
  have hz := sz_self z
  have hs0 : z.natAbs = 0 → decide (z < 0) = false := fun h => decide_eq_false (by omega)
  generalize z.natAbs = n at *
  generalize decide (z < 0) = s at *
  -- the digits
  obtain ⟨D, hD⟩ : ∃ D : List Nat, D = if n = 0 then [0] else dg 10 n := ⟨_, rfl⟩
  have hDt : asc (dg 10 n) ++ (if n = 0 then [48] else []) = asc D := by
    rw [hD]
    by_cases h : n = 0
    · subst h; rfl
    · rw [if_neg h, if_neg h, List.append_nil]
  have hD10 : ∀ d ∈ D, d < 10 := by
    rw [hD]; split
    · intro d hd; simp at hd; omega
    · intro d hd; exact dg_lt ten_gt hd
  have hDv : val 10 D = n := by
    rw [hD]; split
    · rename_i h; rw [h]; rfl
    · exact val_dg ten_gt n
  have hD0 : 0 < D.length := by
    rw [hD]; split
    · simp
    · rename_i h
      have := dg_len0 ten_gt n
      omega
  have hDl : D.length ≤ 10000 := by
    rw [hD]; split
    · simp
    · omega
  have hP := parseU_asc D hD10 hD0 hDl
  unfold txtR
  rw [hDt]
  cases s
  · rw [if_neg (by simp), List.append_nil]
    unfold parseL
    rw [if_neg, hP, hDv, ← hz]; rfl
    intro h
    rw [List.getElem?_reverse (by rw [asc_len]; exact hD0)] at h
    have hk : (asc D).length - 1 - 0 < (asc D).length := by rw [asc_len]; omega
    rw [List.getElem?_eq_getElem hk, Option.getD_some] at h
    simp only [asc, List.getElem_map] at h
    omega
  · rw [if_pos rfl, List.reverse_append]
    unfold parseL
    rw [if_pos (show ([45].reverse ++ (asc D).reverse)[0]?.getD 0 = 45 from rfl)]
    show (parseU (asc D).reverse).map (sz true) = _
    rw [hP, hDv, ← hz]; rfl

theorem dg10_len (n k : Nat) (h : (dg BB n).length ≤ k) : (dg 10 n).length ≤ 9 * k := by
  rw [dg_len_le BB_gt] at h
  rw [dg_len_le ten_gt, ← BB_pow]
  exact h
end Go.Proofs.Ytmlnpagkabmmpaa

/- WholeRules: plain laws; the odd case. -/
namespace Go.Proofs.Ytmlnpagkabmmpaa
open Go.RowKit

theorem rsame_int (z : Int) (a b : Option Addr) (c d : Nat) (W : World) (hl : (dg BB z.natAbs).length ≤ 1000000) (h : IsInt W z a c) (k : IsInt W z b d) :
    Calls Try.prog 48 #[.agg #[.bool (decide (z < 0)), .slice a (dg BB z.natAbs).length c], .agg #[.bool (decide (z < 0)), .slice b (dg BB z.natAbs).length d]] W fun e w' => e = .returned (.bool true) ∧ Ext W w' := by
  have := rsame_walk (decide (z < 0)) (decide (z < 0)) (dg BB z.natAbs) (dg BB z.natAbs) a b c d W (by omega) (by omega) h.2.2 k.2.2
  rwa [decide_eq_true (⟨rfl, rfl⟩ : decide (z < 0) = decide (z < 0) ∧ dg BB z.natAbs = dg BB z.natAbs)] at this

theorem mod_bd (x y : Int) (h : y ≠ 0) : 0 ≤ modZ x y ∧ modZ x y < (y.natAbs : Int) := by
  unfold modZ; rw [if_neg h]
  exact ⟨Int.emod_nonneg x h, Int.emod_lt x h⟩
theorem div_mod (x y : Int) (h : y ≠ 0) : divZ x y * y + modZ x y = x := by
  unfold divZ modZ; rw [if_neg h, if_neg h, Int.mul_comm]; exact Int.mul_ediv_add_emod x y
theorem mod_gcd (x : Int) (g : Int) (h : g ∣ x) (h0 : g ≠ 0) : modZ x g = 0 := by
  unfold modZ; rw [if_neg h0]; exact Int.emod_eq_zero_of_dvd h
theorem len_div (x y : Int) : (dg BB (divZ x y).natAbs).length ≤ (dg BB x.natAbs).length := by
  refine dg_len_mono BB_gt ?_
  unfold divZ; split
  · simp
  · exact Int.natAbs_ediv_le_natAbs x y
theorem len_mod (x y : Int) : (dg BB (modZ x y).natAbs).length ≤ (dg BB y.natAbs).length := by
  by_cases h : y = 0
  · unfold modZ; rw [if_pos h]; simp [dg_zero]
  · refine dg_len_mono BB_gt ?_
    have := mod_bd x y h
    omega
theorem len_gcd (x y : Int) : (dg BB ((Nat.gcd x.natAbs y.natAbs : Nat) : Int).natAbs).length ≤ (dg BB x.natAbs).length + (dg BB y.natAbs).length := by
  rw [Int.natAbs_natCast]
  rcases Nat.eq_zero_or_pos y.natAbs with h | h
  · rw [h, Nat.gcd_zero_right]; omega
  · exact Nat.le_trans (dg_len_mono BB_gt (Nat.gcd_le_right _ h)) (Nat.le_add_left _ _)

theorem new1 (w : World) (u0 u1 : Value) : ∃ W0, w.alloc (.cells #[u0, u1] 24) = W0 ∧ Row W0 w.heap.size 24 [u0, u1] ∧ Ext w W0 := ⟨_, rfl, Row.new w _ [_, _], Ext.new _ _⟩
theorem new2 (w : World) (u0 u1 v0 v1 : Value) : ∃ W0, (w.alloc (.cells #[u0, u1] 24)).alloc (.cells #[v0, v1] 24) = W0 ∧ Row W0 w.heap.size 24 [u0, u1] ∧ Row W0 (w.heap.size + 1) 24 [v0, v1] ∧ Ext w W0 := by
  refine ⟨_, rfl, (Row.new w _ [_, _]).alloc _, ?_, (Ext.new _ _).alloc _⟩
  have := Row.new (w.alloc (.cells #[u0, u1] 24)) 24 [v0, v1]
  rwa [World.size_alloc] at this

end Go.Proofs.Ytmlnpagkabmmpaa

/- The reference's Form. -/
namespace Go.Proofs.Ytmlnpagkabmmpaa
open Go.RowKit

/-- append of one element, whatever else has turned -/
theorem append_elem_b {P : Program} {T E : TypeId} {z : Value} {size bytes : Nat} (he : Elem P T E z size bytes) {base : Nat} {w : World} {v : Value} {n : Nat} {xs : List Value}
    (own : w.ownsRow base E size v n xs) (hbase : base ≤ w.heap.size) (hn : n + 1 ≤ maxLen) (hb : (n + 1) * bytes ≤ 140737488355328)
    {cs : Array Value} (hcs : cs.size = size) (h1 : ∀ u ∈ cs.toList, u.oneCell' = true)
    {ops : Array Oper} {rest : List Oper} {o : Oper} {a : Act} {Q : Exit → Act → World → Prop} (hgd : o.guard = none) (s x : Operand)
    (ho : o.op = .call { callee := .builtin .append, args := #[s, x], argTypes := #[T, T] }) (hs : a.eval s = v) (hx : a.eval x = .slice (some ⟨w.heap.size, 0, none⟩) 1 1)
    (h : ∀ v' w', w'.ownsRow base E size v' (n + 1) (xs ++ cs.toList) → (w.alloc (.cells cs E)).grownBy w' v.ownBlock → wpList P ops Q rest (a.put o.dst v') w') : wpList P ops Q (o :: rest) a (w.alloc (.cells cs E)) := by
  obtain ⟨ht, i, hi, hz, hsz, hby, hzs, hpos⟩ := he
  refine wpList_append_own _ hgd s x T ho base E i z size bytes ht hi hz hsz hby hzs hpos v n xs hs (own.alloc _) ⟨w.heap.size, 0, none⟩ 1 1 cs.toList hx (by simpa using hcs) (cells_new w cs E) h1 hn hb (by simp; omega) ?_
  intro v' w' own' hg _
  exact h v' w' own' hg

theorem elemU32s : Elem Try.prog 22 133 (.int .u32 0) 1 4 := Elem.mk Try.underlying22 (by kernel_rfl) rfl (by decide)

theorem own_far {w : World} {base : Nat} {e : TypeId} {size n : Nat} {v : Value} {xs : List Value} (h : w.ownsRow base e size v n xs) {p : Addr} (hp : p.block < base) (u : Value) : (w.setCell p u).ownsRow base e size v n xs := by
  obtain ⟨h1, h2⟩ := h
  refine ⟨h1, ?_⟩
  rcases h2 with h2 | ⟨g, cap, cur, e1, e2, e3, e4⟩
  · exact .inl h2
  · exact .inr ⟨g, cap, cur, e1, e2, (Below.heap_setCell _ _ _ _ (by omega)).trans e3, e4⟩

/-- a row below the base stands when a row of the call's own grows -/
theorem Row.below {w w' : World} {g base n : Nat} {E E' : TypeId} {xs ys : List Value} {o : Obj} {v : Value} {size : Nat} (h : Row w g E xs) (own : w.ownsRow base E' size v n ys) (hg : g < base) (hgr : (w.alloc o).grownBy w' v.ownBlock) : Row w' g E xs :=
  (h.alloc o).grown hgr (fun e => by
    have := (own.lt g e.symm).1
    omega)

set_option maxRecDepth 100000 in
set_option maxHeartbeats 4000000 in
theorem rform_walk (z : Int) (a : Option Addr) (ca : Nat) (w : World) (hb : (dg 10 z.natAbs).length ≤ 100000) (h : IsNum w z a ca) :
    Calls Try.prog 54 #[.agg #[.bool (decide (z < 0)), .slice a (dg 10 z.natAbs).length ca]] w (GI z w) := by
  have hr := h.2.2
  have hnb := lt_pow_len ten_gt z.natAbs
  have hlt10 := dg_len_lt ten_gt (n := z.natAbs)
  unfold GI
  have HI : Hid (∀ W a c, (dg BB z.natAbs).length ≤ c → c ≤ maxLen → Rd W a (ks .u32 (dg BB z.natAbs)) → IsInt W z a c) := fun W a c h1 h2 h3 => ⟨h1, h2, h3⟩
  clear h
  generalize z.natAbs = y at *
  generalize decide (z < 0) = s at *
  obtain ⟨L, hL⟩ : ∃ L, L = (dg 10 y).length := ⟨_, rfl⟩
  rw [← hL] at hb hnb ⊢
  have hlt : ∀ i, i < L ↔ 10 ^ i ≤ y := fun i => by rw [hL]; exact hlt10 i
  have hget : ∀ i, (hi : i < L) → (dg 10 y)[i]'(by rw [← hL]; exact hi) = y / 10 ^ i % 10 := fun i hi => dg_at ten_gt _
  have HL := Lib.hid hL
  have HLT := Lib.hid hlt
  have HNB := Lib.hid hnb
  have HR := Lib.hid hr
  have HGET : Hid (∀ W, Rd W a (ks .i64 (dg 10 y)) → ∀ i, i < L → ∃ b off, a = some ⟨b, off, none⟩ ∧ W.cell? ⟨b, off + i, none⟩ = some (.int .i64 ((y / 10 ^ i % 10 : Nat) : Int))) := fun W hW i hi => by
    obtain ⟨b, off, e, hc⟩ := hW.num (i := i) (by rw [← hL]; exact hi)
    rw [dg_at ten_gt] at hc
    exact ⟨b, off, e, hc⟩
  clear hL hlt hnb hr hlt10 hget
  go_enter Try.func54, Try.ntmps54
  go_wp2_with fail
  obtain ⟨W1, hW1⟩ : ∃ W1, ((w.alloc (.cells #[.bool s, .slice a L ca] 94)).alloc (.cells #[.bool false, .slice none 0 0] 24)).alloc (.cells #[.bool s, .slice none 0 0] 24) = W1 := ⟨_, rfl⟩
  have q0 : Row W1 w.heap.size 94 [.bool s, .slice a L ca] := by rw [← hW1]; exact ((Row.new w _ [_, _]).alloc _).alloc _
  have q1 : Row W1 (w.heap.size + 1) 24 [.bool false, .slice none 0 0] := by
    rw [← hW1]
    have := (Row.new (w.alloc (.cells #[.bool s, .slice a L ca] 94)) 24 [.bool false, .slice none 0 0]).alloc (.cells #[.bool s, .slice none 0 0] 24)
    rwa [World.size_alloc] at this
  have q2 : Row W1 (w.heap.size + 1 + 1) 24 [.bool s, .slice none 0 0] := by
    rw [← hW1]
    have := Row.new ((w.alloc (.cells #[.bool s, .slice a L ca] 94)).alloc (.cells #[.bool false, .slice none 0 0] 24)) 24 [.bool s, .slice none 0 0]
    rwa [World.size_alloc, World.size_alloc] at this
  have x1 : Ext w W1 := by rw [← hW1]; exact ((Ext.new _ _).alloc _).alloc _
  have hs1 : W1.heap.size = w.heap.size + 1 + 1 + 1 := by rw [← hW1]; simp
  rw [hW1]
  clear hW1
  go_loopw [4] (fun iv wr => ∃ (k : Nat) (v : Value), 9 * k ≤ L + 8 ∧ iv = .int .i64 ((9 * k : Nat) : Int) ∧ Row wr w.heap.size 94 [.bool s, .slice a L ca] ∧ Row wr (w.heap.size + 1) 24 [.bool false, .slice none 0 0] ∧ Row wr (w.heap.size + 1 + 1) 24 [.bool s, v] ∧ wr.ownsRow (w.heap.size + 1 + 1 + 1) 133 1 v k (ks .u32 (fixd BB k y)) ∧ w.heap.size + 1 + 1 + 1 ≤ wr.heap.size ∧ Ext w wr ∧ Hid (k = 0 ∨ BB ^ (k - 1) ≤ y)) (fun iv _ => L + 9 - (intOf iv).toNat)
  case atStart => exact ⟨0, .slice none 0 0, by omega, rfl, q0, q1, q2, World.ownsRow_nil _ _ _ _, by omega, x1, .inl rfl⟩
  case round =>
    obtain ⟨k, v, hk, rfl, p0, p1, p2, hown, hsz, hext, HP⟩ := hrel
    have k0 := p0.cell (i := 0) rfl
    have k1 := p0.cell (i := 1) rfl
    by_cases hlt : 9 * k < L
    · have P := Lib.hid (And.intro p0 (And.intro p1 (And.intro p2 (And.intro hown (And.intro hsz hext)))))
      have hkb : BB ^ k ≤ y := by rw [BB_pow]; exact (HLT.out _).1 hlt
      have HKB := Lib.hid hkb
      clear p0 p1 p2 hown hsz hext hkb
      go_wp2_with fail
      clear k0 k1
      obtain ⟨wo, hwo⟩ : ∃ wo, wo = wr := ⟨_, rfl⟩
      rw [← hwo] at P ⊢
      clear hwo
      go_loopw [5, 6] (fun nv iv wr2 => ∃ j : Nat, j ≤ 9 ∧ iv = .int .i64 (((9 * k : Nat) : Int) + 8 - j) ∧ nv = .int .i64 ((y / 10 ^ (9 * k + 9 - j) % 10 ^ j : Nat) : Int) ∧ wo = wr2) (fun _ iv _ => (intOf iv + 1).toNat)
      case atStart => exact ⟨0, by omega, by simp, by simp [Nat.mod_one], rfl⟩
      case round =>
        obtain ⟨j, hj, rfl, rfl, rfl⟩ := hrel
        have k0 := P.out.1.cell (i := 0) rfl
        have k1 := P.out.1.cell (i := 1) rfl
        by_cases hj9 : j < 9
        · obtain ⟨p, hp⟩ : ∃ p : Nat, ((9 * k : Nat) : Int) + 8 - j = (p : Int) := ⟨9 * k + 8 - j, by omega⟩
          have HPP := Lib.hid hp
          have hpk : 9 * k ≤ p := by omega
          have hpl : p ≤ 200000 := by omega
          rw [hp]
          have hnb : y / 10 ^ (9 * k + 9 - j) % 10 ^ j < 10 ^ j := Nat.mod_lt _ (Nat.pow_pos (by decide))
          have hkb : 10 ^ j ≤ 10 ^ 8 := Nat.pow_le_pow_right (by decide) (by omega)
          have hnb2 : y / 10 ^ (9 * k + 9 - j) % 10 ^ j < 100000000 := Nat.lt_of_lt_of_le hnb hkb
          have HST : Hid (y / 10 ^ (9 * k + 9 - (j + 1)) % 10 ^ (j + 1) = 10 * (y / 10 ^ (9 * k + 9 - j) % 10 ^ j) + y / 10 ^ p % 10) := by
            show _ = _
            rw [piece_step, show 9 * k + 9 - (j + 1) = p by omega, show p + 1 = 9 * k + 9 - j by omega]
          have hd10 : y / 10 ^ p % 10 < 10 := Nat.mod_lt _ (by decide)
          have HZ : Hid (¬ p < L → y / 10 ^ p % 10 = 0) := fun h => digit_0 (by have := not_congr (HLT.out p); omega)
          have HC := HGET.out wo (HR.out.ext P.out.2.2.2.2.2) p
          clear hp hnb hkb
          generalize y / 10 ^ (9 * k + 9 - j) % 10 ^ j = v0 at *
          generalize y / 10 ^ p % 10 = d at *
          by_cases hpL : p < L
          · obtain ⟨b0, ob, rfl, hcb⟩ := HC hpL
            clear HC
            go_wp2_with fail
            go_roundw
            case rel =>
              have h4 := HPP.out
              refine ⟨j + 1, by omega, ?_, ?_, by first | rfl | trivial⟩
              · congr 1; omega
              · rw [HST.out]; congr 1
            case measure => simp [intOf] <;> omega
          · have hd0 := HZ.out hpL
            subst hd0
            clear HC
            go_wp2_with fail
            go_roundw
            case rel =>
              have h4 := HPP.out
              refine ⟨j + 1, by omega, ?_, ?_, by first | rfl | trivial⟩
              · congr 1; omega
              · rw [HST.out]; congr 1
            case measure => simp [intOf] <;> omega
        · have hj9' : 9 = j := by omega
          subst hj9'
          have HV : Hid (y / 10 ^ (9 * k + 9 - 9) % 10 ^ 9 = y / BB ^ k % BB) := by show _ = _; rw [BB_pow]; rfl
          have hvb : y / BB ^ k % BB < 1000000000 := Nat.mod_lt _ (by decide)
          rw [HV.out]
          have HFS : Hid (fixd BB (k + 1) y = fixd BB k y ++ [y / BB ^ k % BB]) := fixd_succ _ _ _
          generalize y / BB ^ k % BB = x at *
          have k2 := P.out.2.2.1.cell (i := 0) rfl
          have k3 := P.out.2.2.1.cell (i := 1) rfl
          go_wp2_with (at_builtin; refine append_elem_b elemU32s P.out.2.2.2.1 P.out.2.2.2.2.1 (by unfold maxLen; omega) (by omega) rfl (by simp [Value.oneCell']) rfl _ _ rfl rfl rfl ?_; intro v' w1 own1 gr1; obtain ⟨a5, c5, rfl, g1, g2, g3⟩ := own_form own1; have t2 := P.out.2.2.1.below P.out.2.2.2.1 (by omega) gr1; have e2 := t2.cell (i := 0) rfl; have e3 := t2.cell (i := 1) rfl; have f2 := t2.frozen 1)
          go_roundw
          case rel =>
            obtain ⟨p0, p1, p2, hown, hsz, hext⟩ := P.out
            have e0 := p0.below hown (by omega) gr1
            have e1 := p1.below hown (by omega) gr1
            have e4 := t2.set 1 (.slice a5 (k + 1) c5)
            refine ⟨k + 1, .slice a5 (k + 1) c5, by omega, ?_, e0.far (p := ⟨w.heap.size + 1 + 1, 1, none⟩) (Nat.ne_of_lt (by show _ < w.heap.size + 1 + 1; omega)) _, e1.far (p := ⟨w.heap.size + 1 + 1, 1, none⟩) (Nat.ne_of_lt (by show _ < w.heap.size + 1 + 1; omega)) _, e4, ?_, ?_, ?_, .inr HKB.out⟩
            · congr 1 <;> omega
            · rw [HFS.out, ks_append]
              exact own_far own1 (by show w.heap.size + 1 + 1 < _; omega) _
            · have := gr1.size; simp [World.setCell] at this ⊢; omega
            · exact ((hext.alloc _).grown gr1 (fun q hq => by have := (hown.lt q hq).1; omega)).set (p := ⟨w.heap.size + 1 + 1, 1, none⟩) (by show w.heap.size ≤ w.heap.size + 1 + 1; omega) _
          case measure => simp [intOf] <;> omega
    · have hN : y < BB ^ k := by rw [BB_pow]; exact Nat.lt_of_lt_of_le HNB.out (Nat.pow_le_pow_right (by decide) (by omega))
      have hfd : fixd BB k y = dg BB y := fixd_dg BB_gt hN HP.out
      rw [hfd] at hown
      have hkl : k = (dg BB y).length := by rw [← hfd, fixd_len]
      obtain ⟨a1, c1, rfl, g1, g2, g3⟩ := own_form hown
      have gf := own_from hown
      have k2 := p2.cell (i := 0) rfl
      have k3 := p2.cell (i := 1) rfl
      have k4 := p1.cell (i := 0) rfl
      have k5 := p1.cell (i := 1) rfl
      have f4 := p1.frozen 0
      have f5 := p1.frozen 1
      rw [hkl] at g1 k3
      have G := Lib.hid (And.intro g1 (And.intro g2 (And.intro g3 (And.intro gf (And.intro p1 hext)))))
      obtain ⟨lm, hlm⟩ : ∃ x, (dg BB y).length = x := ⟨_, rfl⟩
      have HLM := Lib.hid hlm
      rw [hlm] at k3
      clear g1 g2 g3 gf p0 p1 p2 hown hkl hfd hN hsz hext hlm
      go_wp2_with fail
      obtain ⟨g1, g2, g3, gf, p1, hext⟩ := G.out
      have r9 := (p1.set 0 (.bool s)).set 1 (.slice a1 lm c1)
      have z0 := r9.cell (i := 0) rfl
      have z1 := r9.cell (i := 1) rfl
      refine bodyPost_ret (v := .agg #[.bool s, .slice a1 lm c1]) (by simp [results, Try.f54, go_sem, z0, z1]) rfl ⟨a1, c1, by rw [HLM.out], HI.out _ _ _ g1 g2 ((g3.far gf (p := ⟨w.heap.size + 1, 0, none⟩) (by show w.heap.size + 1 < _; omega) _).far gf (p := ⟨w.heap.size + 1, 1, none⟩) (by show w.heap.size + 1 < _; omega) _), (hext.set (p := ⟨w.heap.size + 1, 0, none⟩) (Nat.le_succ _) _).set (p := ⟨w.heap.size + 1, 1, none⟩) (Nat.le_succ _) _⟩
end Go.Proofs.Ytmlnpagkabmmpaa

/- The reference's Text. -/
namespace Go.Proofs.Ytmlnpagkabmmpaa
open Go.RowKit

theorem own_emptyE (w : World) (E : TypeId) : (w.alloc (.cells #[] E)).ownsRow w.heap.size E 1 (.slice (some ⟨w.heap.size, 0, none⟩) 0 0) 0 [] :=
  ⟨rfl, .inr ⟨w.heap.size, 0, #[], rfl, Nat.le_refl _, heap_alloc_new w _, Nat.le_refl _, by simp [maxLen], rfl, rfl⟩⟩

end Go.Proofs.Ytmlnpagkabmmpaa

/- The reference's Mul. -/
namespace Go.Proofs.Ytmlnpagkabmmpaa
open Go.RowKit

theorem mul_inside_ge {B : Nat} (hB : 1 < B) (n m k j c na : Nat) (out : List Nat) (hk : k < na) (hna : na = (dg B n).length) (hl : na + (dg B m).length ≤ out.length)
    (h : val B out + c * B ^ (k + j) = (n % B ^ k) * m + B ^ k * (n / B ^ k % B * (m % B ^ j))) (hc : j < (dg B m).length ∨ 0 < c) : k + j < out.length := by
  rcases hc with hc | hc
  · omega
  · have h1 : B ^ (k + j) ≤ c * B ^ (k + j) := Nat.le_mul_of_pos_left _ hc
    have h2 : (n % B ^ k) * m + B ^ k * (n / B ^ k % B * (m % B ^ j)) ≤ (n % B ^ (k + 1)) * m := by
      rw [mod_pow_succ', Nat.add_mul]
      apply Nat.add_le_add_left
      rw [← Nat.mul_assoc]
      exact Nat.mul_le_mul_left _ (Nat.mod_le _ _)
    have hp : 0 < B ^ (k + 1) := Nat.pow_pos (by omega)
    have h3 : (n % B ^ (k + 1)) * m < B ^ (k + 1) * B ^ (dg B m).length := by
      have := Nat.mod_lt n hp
      exact Nat.mul_lt_mul'' this (lt_pow_len hB m)
    rw [← Nat.pow_add] at h3
    have h4 : B ^ (k + j) < B ^ (k + 1 + (dg B m).length) := by omega
    have := (Nat.pow_lt_pow_iff_right hB).1 h4
    omega

/-- what the product's row holds -/
def RMul (W1 : World) (g L v : Nat) (wr : World) (out : List Nat) : Prop :=
  Row wr g 3 (ks .i64 out) ∧ out.length = L ∧ (∀ d ∈ out, d < 10) ∧ val 10 out = v ∧ Ext W1 wr

end Go.Proofs.Ytmlnpagkabmmpaa

/- The reference's Int. -/
namespace Go.Proofs.Ytmlnpagkabmmpaa
open Go.RowKit

set_option maxRecDepth 100000 in
set_option maxHeartbeats 4000000 in
theorem rint_walk (n : Int) (w : World) (h1 : -4611686018427387904 ≤ n) (h2 : n ≤ 9223372036854775807) :
    Calls Try.prog 114 #[.int .i64 n] w (GotNum n w) := by
  suffices hall : ∀ y, y = n → Calls Try.prog 114 #[.int .i64 n] w (GotNum y w) from hall n rfl
  intro y hy
  obtain ⟨N, hNe⟩ : ∃ N, N = n.natAbs := ⟨_, rfl⟩
  have HN : Hid (N ≤ 9223372036854775807) := by show _ ≤ _; omega
  have HNY : Hid (y.natAbs = N) := by show _ = _; rw [hy, hNe]
  by_cases hn : n < 0
  · have HSZ : Hid (sz true N = y) := by show sz true N = y; unfold sz; rw [hNe, hy]; simp; omega
    have HW : Hid (-n = (N : Int)) := by show _ = _; rw [hNe]; omega
    clear hNe hy
    go_enter Try.func114, Try.ntmps114
    go_wp2_with fail
    rw [HW.out]
    obtain ⟨W1, hW1⟩ : ∃ W1, w.alloc (.cells #[.bool false, .slice none 0 0] 94) = W1 := ⟨_, rfl⟩
    have q0 : Row W1 w.heap.size 94 [.bool false, .slice none 0 0] := by rw [← hW1]; exact Row.new w _ [_, _]
    have x1 : Ext w W1 := by rw [← hW1]; exact Ext.new _ _
    have hs1 : W1.heap.size = w.heap.size + 1 := by rw [← hW1]; simp
    rw [hW1]
    have own0 := own_emptyE W1 3
    rw [← hs1]
    have HS1 := Lib.hid hs1
    clear hW1 hs1
    go_loopw [0, 4] (fun nv o wr => ∃ i : Nat, i ≤ 20 ∧ nv = .int .i64 ((N / 10 ^ i : Nat) : Int) ∧ wr.ownsRow W1.heap.size 3 1 o i (ks .i64 (fixd 10 i N)) ∧ Ext W1 wr ∧ Hid (i = 0 ∨ 10 ^ (i - 1) ≤ N)) (fun nv _ _ => (intOf nv).toNat)
    case atStart => exact ⟨0, by omega, by simp, own0, Ext.new _ _, .inl rfl⟩
    case round =>
      obtain ⟨i, hi, rfl, hown, hext, HP⟩ := hrel
      by_cases hz : N / 10 ^ i = 0
      · rw [hz]
        have hlt : N < 10 ^ i := Nat.lt_of_div_eq_zero (Nat.pow_pos (by decide)) hz
        have hfd : fixd 10 i N = dg 10 N := fixd_dg ten_gt hlt HP.out
        rw [hfd] at hown
        have hl : i = (dg 10 N).length := by rw [← hfd, fixd_len]
        rw [hl] at hown
        obtain ⟨a1, c1, rfl, g1, g2, g3⟩ := own_form hown
        have gf := own_from hown
        have HO := Lib.hid (rmk_walk true N a1 c1 wr g1 g2 g3)
        rw [HSZ.out] at HO
        have G := Lib.hid (And.intro g1 (And.intro g2 (And.intro g3 (And.intro gf (And.intro (q0.ext hext) hext)))))
        obtain ⟨lm, hlm⟩ : ∃ x, (dg 10 N).length = x := ⟨_, rfl⟩
        have HLM := Lib.hid hlm
        rw [hlm] at HO ⊢
        clear hz hlt hfd hl hi HP g1 g2 g3 gf hown hext own0 hlm
        go_wp2_with fail
        refine HO.out.mono ?_
        rintro e w3 ⟨rfl, t4⟩
        have q3 := G.out.2.2.2.2.1.ext t4
        have k0 := q3.cell (i := 0) rfl
        have k1 := q3.cell (i := 1) rfl
        have f0 := q3.frozen 0
        have f1 := q3.frozen 1
        have Q3 := Lib.hid q3
        clear q3
        go_wp2_with fail
        have r3 := (Q3.out.set 0 (.bool (decide (y < 0)))).set 1 (.slice a1 lm c1)
        have z0 := r3.cell (i := 0) rfl
        have z1 := r3.cell (i := 1) rfl
        have hgs := num_store (w := w) (z := y) (g := w.heap.size) (c := c1) (a := a1) (Nat.le_refl _) (x1.trans G.out.2.2.2.2.2) (w' := w3) (by rw [IsNum, HNY.out]; exact ⟨G.out.1, G.out.2.1, G.out.2.2.1.ext t4⟩) t4 (fun ad e => by have := G.out.2.2.2.1 _ e; have := HS1.out; omega) (.bool (decide (y < 0))) (.slice a1 lm c1)
        rw [HNY.out, HLM.out] at hgs
        exact bodyPost_ret (v := .agg #[.bool (decide (y < 0)), .slice a1 lm c1]) (by simp [results, Try.f114, go_sem, z0, z1]) rfl hgs
      · have hN9 : N / 10 ^ i ≤ 9223372036854775807 := Nat.le_trans (Nat.div_le_self _ _) HN.out
        have hle : 10 ^ i ≤ N := by
          by_cases hc : 10 ^ i ≤ N
          · exact hc
          · exact absurd (Nat.div_eq_of_lt (by omega)) hz
        have hi2 : i < 20 := by
          by_cases h3 : i = 20
          · subst h3
            have := HN.out
            exact absurd hle (by omega)
          · omega
        have hpos : 0 < N / 10 ^ i := Nat.pos_of_ne_zero hz
        have HS : Hid (N / 10 ^ i / 10 = N / 10 ^ (i + 1)) := by show _ = _; rw [Nat.div_div_eq_div_mul, Nat.pow_succ]
        have HF : Hid (fixd 10 (i + 1) N = fixd 10 i N ++ [N / 10 ^ i % 10]) := fixd_succ _ _ _
        have HLE := Lib.hid hle
        clear hle hz
        generalize N / 10 ^ i = x at *
        go_wp2_with (at_builtin; refine append_elem elemI64 hown hext (by unfold maxLen; omega) (by omega) rfl (by simp [Value.oneCell']) rfl _ _ rfl rfl rfl ?_; intro v' w1 own1 ext1 _)
        go_roundw
        case rel =>
          refine ⟨i + 1, by omega, ?_, ?_, ext1, .inr ?_⟩
          · have := HS.out
            rw [← this]; rfl
          · rw [HF.out, ks_append]; exact own1
          · simpa using HLE.out
        case measure => simp [intOf] <;> omega
  · have HSZ : Hid (sz false N = y) := by show sz false N = y; unfold sz; rw [hNe, hy]; simp; omega
    have HW : Hid (n = (N : Int)) := by show n = _; rw [hNe]; omega
    clear hNe hy
    go_enter Try.func114, Try.ntmps114
    go_wp2_with fail
    rw [HW.out]
    obtain ⟨W1, hW1⟩ : ∃ W1, w.alloc (.cells #[.bool false, .slice none 0 0] 94) = W1 := ⟨_, rfl⟩
    have q0 : Row W1 w.heap.size 94 [.bool false, .slice none 0 0] := by rw [← hW1]; exact Row.new w _ [_, _]
    have x1 : Ext w W1 := by rw [← hW1]; exact Ext.new _ _
    have hs1 : W1.heap.size = w.heap.size + 1 := by rw [← hW1]; simp
    rw [hW1]
    have own0 := own_emptyE W1 3
    rw [← hs1]
    have HS1 := Lib.hid hs1
    clear hW1 hs1
    go_loopw [0, 4] (fun nv o wr => ∃ i : Nat, i ≤ 20 ∧ nv = .int .i64 ((N / 10 ^ i : Nat) : Int) ∧ wr.ownsRow W1.heap.size 3 1 o i (ks .i64 (fixd 10 i N)) ∧ Ext W1 wr ∧ Hid (i = 0 ∨ 10 ^ (i - 1) ≤ N)) (fun nv _ _ => (intOf nv).toNat)
    case atStart => exact ⟨0, by omega, by simp, own0, Ext.new _ _, .inl rfl⟩
    case round =>
      obtain ⟨i, hi, rfl, hown, hext, HP⟩ := hrel
      by_cases hz : N / 10 ^ i = 0
      · rw [hz]
        have hlt : N < 10 ^ i := Nat.lt_of_div_eq_zero (Nat.pow_pos (by decide)) hz
        have hfd : fixd 10 i N = dg 10 N := fixd_dg ten_gt hlt HP.out
        rw [hfd] at hown
        have hl : i = (dg 10 N).length := by rw [← hfd, fixd_len]
        rw [hl] at hown
        obtain ⟨a1, c1, rfl, g1, g2, g3⟩ := own_form hown
        have gf := own_from hown
        have HO := Lib.hid (rmk_walk false N a1 c1 wr g1 g2 g3)
        rw [HSZ.out] at HO
        have G := Lib.hid (And.intro g1 (And.intro g2 (And.intro g3 (And.intro gf (And.intro (q0.ext hext) hext)))))
        obtain ⟨lm, hlm⟩ : ∃ x, (dg 10 N).length = x := ⟨_, rfl⟩
        have HLM := Lib.hid hlm
        rw [hlm] at HO ⊢
        clear hz hlt hfd hl hi HP g1 g2 g3 gf hown hext own0 hlm
        go_wp2_with fail
        refine HO.out.mono ?_
        rintro e w3 ⟨rfl, t4⟩
        have q3 := G.out.2.2.2.2.1.ext t4
        have k0 := q3.cell (i := 0) rfl
        have k1 := q3.cell (i := 1) rfl
        have f0 := q3.frozen 0
        have f1 := q3.frozen 1
        have Q3 := Lib.hid q3
        clear q3
        go_wp2_with fail
        have r3 := (Q3.out.set 0 (.bool (decide (y < 0)))).set 1 (.slice a1 lm c1)
        have z0 := r3.cell (i := 0) rfl
        have z1 := r3.cell (i := 1) rfl
        have hgs := num_store (w := w) (z := y) (g := w.heap.size) (c := c1) (a := a1) (Nat.le_refl _) (x1.trans G.out.2.2.2.2.2) (w' := w3) (by rw [IsNum, HNY.out]; exact ⟨G.out.1, G.out.2.1, G.out.2.2.1.ext t4⟩) t4 (fun ad e => by have := G.out.2.2.2.1 _ e; have := HS1.out; omega) (.bool (decide (y < 0))) (.slice a1 lm c1)
        rw [HNY.out, HLM.out] at hgs
        exact bodyPost_ret (v := .agg #[.bool (decide (y < 0)), .slice a1 lm c1]) (by simp [results, Try.f114, go_sem, z0, z1]) rfl hgs
      · have hN9 : N / 10 ^ i ≤ 9223372036854775807 := Nat.le_trans (Nat.div_le_self _ _) HN.out
        have hle : 10 ^ i ≤ N := by
          by_cases hc : 10 ^ i ≤ N
          · exact hc
          · exact absurd (Nat.div_eq_of_lt (by omega)) hz
        have hi2 : i < 20 := by
          by_cases h3 : i = 20
          · subst h3
            have := HN.out
            exact absurd hle (by omega)
          · omega
        have hpos : 0 < N / 10 ^ i := Nat.pos_of_ne_zero hz
        have HS : Hid (N / 10 ^ i / 10 = N / 10 ^ (i + 1)) := by show _ = _; rw [Nat.div_div_eq_div_mul, Nat.pow_succ]
        have HF : Hid (fixd 10 (i + 1) N = fixd 10 i N ++ [N / 10 ^ i % 10]) := fixd_succ _ _ _
        have HLE := Lib.hid hle
        clear hle hz
        generalize N / 10 ^ i = x at *
        go_wp2_with (at_builtin; refine append_elem elemI64 hown hext (by unfold maxLen; omega) (by omega) rfl (by simp [Value.oneCell']) rfl _ _ rfl rfl rfl ?_; intro v' w1 own1 ext1 _)
        go_roundw
        case rel =>
          refine ⟨i + 1, by omega, ?_, ?_, ext1, .inr ?_⟩
          · have := HS.out
            rw [← this]; rfl
          · rw [HF.out, ks_append]; exact own1
          · simpa using HLE.out
        case measure => simp [intOf] <;> omega
end Go.Proofs.Ytmlnpagkabmmpaa

/- The reference's Div: plain laws. -/
namespace Go.Proofs.Ytmlnpagkabmmpaa
open Go.RowKit

theorem dvQ_len (B n m L k : Nat) : (dvQ B n m L k).length = L := by simp [dvQ]
theorem dvQ_get0 (B n m L k p : Nat) (hk : k < L) (hp : p = L - 1 - k) : (dvQ B n m L k)[p]? = some 0 := by
  have hpl : p < L := by omega
  unfold dvQ
  rw [List.getElem?_map, List.getElem?_range hpl]
  show some (if L - k ≤ p then _ else 0) = _
  rw [if_neg (by omega)]
theorem rdiv_step {B : Nat} (hB : 1 < B) (n m L k p : Nat) (hm : 0 < m) (hn : n < B ^ L) (hk : k < L) (hp : p = L - 1 - k) :
    n / B ^ (L - (k + 1)) % m = (n / B ^ p % B + B * (n / B ^ (L - k) % m)) % m ∧
    dvQ B n m L (k + 1) = (dvQ B n m L k).set p ((n / B ^ p % B + B * (n / B ^ (L - k) % m)) / m) := by
  have h1 := dvS_down hB n m L hm hn k (by omega)
  have h2 := dvS_down hB n m L hm hn (k + 1) (by omega)
  rw [List.range_succ, List.map_append, List.map_cons, List.map_nil, dvS_snoc, h1, ← hp] at h2
  unfold dvStep at h2
  simp only at h2
  have hz := dvQ_get0 B n m L k p hk hp
  generalize n / B ^ p % B + B * (n / B ^ (L - k) % m) = t at *
  by_cases ht : t < m
  · rw [if_pos ht] at h2
    have e := Prod.mk.inj h2
    refine ⟨by rw [← e.2, Nat.mod_eq_of_lt ht], ?_⟩
    rw [← e.1, Nat.div_eq_of_lt ht]
    apply List.ext_getElem?
    intro i
    rw [List.getElem?_set]
    by_cases hi : p = i
    · subst hi
      rw [if_pos rfl, if_pos (by rw [dvQ_len]; omega), hz]
    · rw [if_neg hi]
  · rw [if_neg ht] at h2
    have e := Prod.mk.inj h2
    exact ⟨e.2.symm, e.1.symm⟩
end Go.Proofs.Ytmlnpagkabmmpaa

/- A logic of my own over slots and boxes: what values, worlds and frames are said to be. No program stands in this text. -/
namespace Go.Proofs.Ytmlnpagkabmmpaa
open Go.RowKit

/-! ### The world goes on: what holds numbers stands -/
def NotInt (v : Value) : Prop := ∀ k n, v ≠ .int k n
def Boxed (w : World) (b : Nat) : Prop := ∃ cs T, w.heap[b]? = some (.cells cs T (0, 0)) ∧ ∀ u ∈ cs.toList, NotInt u
def Evol (w w' : World) : Prop := w.heap.size ≤ w'.heap.size ∧ ∀ b, b < w.heap.size → w'.heap[b]? = w.heap[b]? ∨ (Boxed w b ∧ Boxed w' b)
theorem Evol.of_ext {w w' : World} (e : Ext w w') : Evol w w' := ⟨e.size, fun b hb => .inl (e.block b hb)⟩
theorem Evol.refl (w : World) : Evol w w := .of_ext (Ext.refl w)
theorem Evol.trans {a b c : World} (h : Evol a b) (k : Evol b c) : Evol a c := by
  refine ⟨Nat.le_trans h.1 k.1, fun x hx => ?_⟩
  rcases h.2 x hx with e1 | ⟨b1, b2⟩ <;> rcases k.2 x (Nat.lt_of_lt_of_le hx h.1) with e2 | ⟨b3, b4⟩
  · exact .inl (e2.trans e1)
  · refine .inr ⟨?_, b4⟩
    obtain ⟨cs, T, h1, h2⟩ := b3
    exact ⟨cs, T, e1.symm.trans h1, h2⟩
  · refine .inr ⟨b1, ?_⟩
    obtain ⟨cs, T, h1, h2⟩ := b2
    exact ⟨cs, T, e2.trans h1, h2⟩
  · exact .inr ⟨b1, b4⟩
theorem Rd.evol {w w' : World} {a : Option Addr} {xs : List Value} (h : Rd w a xs) (hx : ∀ u ∈ xs, ¬ NotInt u) (e : Evol w w') : Rd w' a xs := by
  rcases h with rfl | ⟨b, off, ea, hc⟩
  · exact .inl rfl
  · refine .inr ⟨b, off, ea, fun j u hu => ?_⟩
    have h1 := hc j u hu
    have hb := World.block_lt_of_cell? w _ h1
    rcases e.2 b hb with e1 | ⟨⟨cs, T, h2, h3⟩, _⟩
    · rw [World.cell?_of_block (w := w) e1]; exact h1
    · exfalso
      refine hx u (List.mem_of_getElem? hu) (h3 u ?_)
      rw [cell_of_row w b (off + j) cs T (0, 0) h2] at h1
      have := List.mem_of_getElem? (l := cs.toList) (i := off + j) (a := u) (by simpa using h1)
      exact this

/-! ### What is said of a value -/
structure VP where
  p : Value → World → Prop
  ni : Bool
  st : ∀ v w w', p v w → Evol w w' → p v w'
  hni : ni = true → ∀ v w, p v w → NotInt v
  one : Bool
  hone : one = true → ∀ v w, p v w → v.oneCell' = true
  ab : Bool
  hab : ab = true → ∀ v w w', p v w → p v w'

def All2 : List VP → List Value → World → Prop
  | [], [], _ => True
  | x :: xs, v :: vs, w => x.p v w ∧ All2 xs vs w
  | _, _, _ => False
theorem All2.len : ∀ {ps : List VP} {vs : List Value} {w : World}, All2 ps vs w → vs.length = ps.length
  | [], [], _, _ => rfl
  | _ :: _, _ :: _, _, h => by simp [All2.len h.2]
  | [], _ :: _, _, h => h.elim
  | _ :: _, [], _, h => h.elim
theorem All2.st : ∀ {ps : List VP} {vs : List Value} {w w' : World}, All2 ps vs w → Evol w w' → All2 ps vs w'
  | [], [], _, _, _, _ => trivial
  | x :: _, v :: _, _, _, h, e => ⟨x.st v _ _ h.1 e, All2.st h.2 e⟩
  | [], _ :: _, _, _, h, _ => h.elim
  | _ :: _, [], _, _, h, _ => h.elim
theorem All2.get : ∀ {ps : List VP} {vs : List Value} {w : World}, All2 ps vs w → ∀ {i : Nat} {x : VP}, ps[i]? = some x → ∃ v, vs[i]? = some v ∧ x.p v w
  | [], [], _, _, i, _, h => by simp at h
  | y :: _, v :: _, _, h, 0, x, hx => by simp at hx; subst hx; exact ⟨v, rfl, h.1⟩
  | _ :: _, _ :: _, _, h, i + 1, x, hx => by simpa using All2.get h.2 (by simpa using hx)
  | [], _ :: _, _, h, _, _, _ => h.elim
  | _ :: _, [], _, h, _, _, _ => h.elim
theorem All2.app : ∀ {ps qs : List VP} {us vs : List Value} {w : World}, All2 ps us w → All2 qs vs w → All2 (ps ++ qs) (us ++ vs) w
  | [], _, [], _, _, _, k => k
  | _ :: _, _, _ :: _, _, _, h, k => ⟨h.1, All2.app h.2 k⟩
  | [], _, _ :: _, _, _, h, _ => h.elim
  | _ :: _, _, [], _, _, h, _ => h.elim
theorem All2.take : ∀ {ps : List VP} {vs : List Value} {w : World}, All2 ps vs w → ∀ n, All2 (ps.take n) (vs.take n) w
  | [], [], _, _, n => by simp [All2]
  | _ :: _, _ :: _, _, h, 0 => trivial
  | _ :: _, _ :: _, _, h, n + 1 => ⟨h.1, All2.take h.2 n⟩
  | [], _ :: _, _, h, _ => h.elim
  | _ :: _, [], _, h, _ => h.elim
theorem All2.drop : ∀ {ps : List VP} {vs : List Value} {w : World}, All2 ps vs w → ∀ n, All2 (ps.drop n) (vs.drop n) w
  | [], [], _, _, n => by simp [All2]
  | _ :: _, _ :: _, _, h, 0 => h
  | _ :: _, _ :: _, _, h, n + 1 => All2.drop h.2 n
  | [], _ :: _, _, h, _ => h.elim
  | _ :: _, [], _, h, _ => h.elim
theorem All2.noint {ps : List VP} {vs : List Value} {w : World} (h : All2 ps vs w) (hn : ps.all (·.ni) = true) : ∀ u ∈ vs, NotInt u := by
  intro u hu
  obtain ⟨i, hi, rfl⟩ := List.mem_iff_getElem.1 hu
  have hl := h.len
  obtain ⟨v, hv, hp⟩ := h.get (i := i) (x := ps[i]'(by omega)) (List.getElem?_eq_getElem _)
  rw [List.getElem?_eq_getElem hi] at hv
  injection hv with hv
  subst hv
  exact (ps[i]'(by omega)).hni (List.all_eq_true.1 hn _ (List.getElem_mem _)) _ _ hp
theorem All2.ones {ps : List VP} {vs : List Value} {w : World} (h : All2 ps vs w) (hn : ps.all (·.one) = true) : ∀ u ∈ vs, u.oneCell' = true := by
  intro u hu
  obtain ⟨i, hi, rfl⟩ := List.mem_iff_getElem.1 hu
  have hl := h.len
  obtain ⟨v, hv, hp⟩ := h.get (i := i) (x := ps[i]'(by omega)) (List.getElem?_eq_getElem _)
  rw [List.getElem?_eq_getElem hi] at hv
  injection hv with hv
  subst hv
  exact (ps[i]'(by omega)).hone (List.all_eq_true.1 hn _ (List.getElem_mem _)) _ _ hp

theorem All2.abs {ps : List VP} {vs : List Value} {w w' : World} (h : All2 ps vs w) (hn : ps.all (·.ab) = true) : All2 ps vs w' := by
  induction ps generalizing vs with
  | nil => cases vs with
    | nil => trivial
    | cons v vs => exact h.elim
  | cons x xs ih => cases vs with
    | nil => exact h.elim
    | cons v vs =>
      simp only [List.all_cons, Bool.and_eq_true] at hn
      exact ⟨x.hab hn.1 v w w' h.1, ih h.2 hn.2⟩
/-- nothing is known -/
def VP.any : VP := ⟨fun _ _ => True, false, fun _ _ _ _ _ => trivial, fun h => (by cases h), false, fun h => (by cases h), true, fun _ _ _ _ _ => trivial⟩
def VP.bool (b : Bool) : VP := ⟨fun v _ => v = .bool b, true, fun _ _ _ h _ => h, fun _ v _ h k n e => (by rw [h] at e; cases e), true, fun _ v _ h => (by rw [h]; rfl), true, fun _ _ _ _ h => h⟩
def VP.int (k : IntKind) (n : Int) : VP := ⟨fun v _ => v = .int k n, false, fun _ _ _ h _ => h, fun h => (by cases h), true, fun _ v _ h => (by rw [h]; rfl), true, fun _ _ _ _ h => h⟩
def VP.str (s : ByteArray) : VP := ⟨fun v _ => v = .string s, true, fun _ _ _ h _ => h, fun _ v _ h k n e => (by rw [h] at e; cases e), true, fun _ v _ h => (by rw [h]; rfl), true, fun _ _ _ _ h => h⟩
/-- numbers of a kind as cells -/
def ksI (k : IntKind) (l : List Nat) : List Value := l.map fun d : Nat => .int k (d : Int)
/-- a slice of numbers -/
def VP.nums (k : IntKind) (l : List Nat) : VP := ⟨fun v w => ∃ a c, v = .slice a l.length c ∧ l.length ≤ c ∧ c ≤ maxLen ∧ Rd w a (ksI k l), true,
  fun _ _ _ ⟨a, c, h1, h2, h3, h4⟩ e => ⟨a, c, h1, h2, h3, h4.evol (fun u hu => by
    unfold ksI at hu
    obtain ⟨d, _, rfl⟩ := List.mem_map.1 hu
    exact fun hn => hn _ _ rfl) e⟩,
  fun _ v _ ⟨a, c, h1, _⟩ k n e => (by rw [h1] at e; cases e), true, fun _ v _ ⟨a, c, h1, _⟩ => (by rw [h1]; rfl), false, fun h => (by cases h)⟩
def VP.agg (ps : List VP) : VP := ⟨fun v w => ∃ cs : List Value, v = .agg cs.toArray ∧ All2 ps cs w, true, fun _ _ _ ⟨cs, h1, h2⟩ e => ⟨cs, h1, h2.st e⟩, fun _ v _ ⟨cs, h1, _⟩ k n e => (by rw [h1] at e; cases e), false, fun h => (by cases h), ps.all (·.ab), fun hn _ _ _ ⟨cs, h1, h2⟩ => ⟨cs, h1, h2.abs hn⟩⟩
def VP.tup (ps : List VP) : VP := ⟨fun v w => ∃ cs : List Value, v = .tuple cs.toArray ∧ All2 ps cs w, true, fun _ _ _ ⟨cs, h1, h2⟩ e => ⟨cs, h1, h2.st e⟩, fun _ v _ ⟨cs, h1, _⟩ k n e => (by rw [h1] at e; cases e), false, fun h => (by cases h), ps.all (·.ab), fun hn _ _ _ ⟨cs, h1, h2⟩ => ⟨cs, h1, h2.abs hn⟩⟩

/-! ### What is said of a frame -/
def ptr (g : Nat) : Value := .pointer (some ⟨g, 0, none⟩)
/-- from offset off of block g on lie cells of which ps is said -/
def Cells (w : World) (g off : Nat) (ps : List VP) : Prop := ∀ j x, ps[j]? = some x → ∃ u, w.cell? ⟨g, off + j, none⟩ = some u ∧ x.p u w
inductive Fact where
  | slot (k : Nat) (x : VP)
  | fp (d k off : Nat)
  | box (k : Nat) (T : TypeId) (ps : List VP)
  | arr (k : Nat) (T : TypeId) (n : Nat) (ps : List VP)
  | own (k : Nat) (T : TypeId) (n : Nat)
  | rows (k : Nat) (n : Nat) (ps : List VP)
  | rp (d k off : Nat)
  | orow (k : Nat) (E : TypeId) (sz n : Nat) (ps : List VP)

def Fact.holds (w0 : World) : Fact → Act → World → Prop
  | .slot k x, a, w => ∃ v, a.tmps[k]? = some v ∧ x.p v w
  | .fp d k off, a, _ => ∃ g, a.tmps[k]? = some (ptr g) ∧ a.tmps[d]? = some (.pointer (some ⟨g, off, none⟩))
  | .box k T ps, a, w => ∃ g cs, a.tmps[k]? = some (ptr g) ∧ Row w g T cs ∧ All2 ps cs w
  | .arr k T n ps, a, w => ∃ g cs, a.tmps[k]? = some (.slice (some ⟨g, 0, none⟩) n n) ∧ Row w g T cs ∧ All2 ps cs w
  | .own k T n, a, w => ∃ g cs, a.tmps[k]? = some (ptr g) ∧ Row w g T cs ∧ cs.length = n ∧ ∀ u ∈ cs, NotInt u
  | .rows k n ps, a, w => ∃ g off c, a.tmps[k]? = some (.slice (some ⟨g, off, none⟩) n c) ∧ n ≤ c ∧ c ≤ maxLen ∧ g < w0.heap.size ∧ Cells w g off ps
  | .rp d k off, a, _ => ∃ g o n c, a.tmps[k]? = some (.slice (some ⟨g, o, none⟩) n c) ∧ a.tmps[d]? = some (.pointer (some ⟨g, o + off, none⟩))
  | .orow k E sz n ps, a, w => ∃ v xs, a.tmps[k]? = some v ∧ w.ownsRow w0.heap.size E sz v n xs ∧ All2 ps xs w
/-- the slots of which a fact speaks -/
def Fact.uses : Fact → Nat → Bool
  | .slot k _, d => k == d
  | .fp e k _, d => e == d || k == d
  | .box k _ _, d => k == d
  | .arr k _ _ _, d => k == d
  | .own k _ _, d => k == d
  | .rows k _ _, d => k == d
  | .rp e k _, d => e == d || k == d
  | .orow k _ _ _ _, d => k == d
/-- a store into slot k's box leaves this fact -/
def Fact.off : Fact → Nat → Bool
  | .box j _ _, k => !(j == k)
  | .arr .., _ => false
  | _, _ => true

theorem put_ne {a : Act} {d k : Nat} (v : Value) (h : d ≠ k) : (a.put (some d) v).tmps[k]? = a.tmps[k]? := by
  simp [Act.put, Array.getElem?_setIfInBounds_ne h]
theorem put_eq {a : Act} {d : Nat} (v : Value) (h : d < a.tmps.size) : (a.put (some d) v).tmps[d]? = some v := by
  simp [Act.put, h]
theorem put_size (a : Act) (d : Option Nat) (v : Value) : (a.put d v).tmps.size = a.tmps.size := by
  cases d <;> simp [Act.put]
theorem put_defers' (a : Act) (d : Option Nat) (v : Value) : (a.put d v).defers = a.defers := by cases d <;> rfl

theorem Cells.evol {w w' : World} {g off : Nat} {ps : List VP} (h : Cells w g off ps) (e : Evol w w') (hb : w'.heap[g]? = w.heap[g]?) : Cells w' g off ps := fun j x hx => by
  obtain ⟨u, h1, h2⟩ := h j x hx
  exact ⟨u, by rw [World.cell?_of_block (w := w) hb]; exact h1, x.st _ _ _ h2 e⟩
theorem Cells.ext {w w' : World} {g off : Nat} {ps : List VP} (h : Cells w g off ps) (e : Ext w w') : Cells w' g off ps := fun j x hx => by
  obtain ⟨u, h1, h2⟩ := h j x hx
  exact ⟨u, e.cell h1, x.st _ _ _ h2 (.of_ext e)⟩
theorem own_kept {w w' : World} {base : Nat} {e : TypeId} {size n : Nat} {v : Value} {xs : List Value} (h : w.ownsRow base e size v n xs) (x : Ext w w') : w'.ownsRow base e size v n xs :=
  h.kept (row := none) ⟨x.os, x.tape, x.output, x.size, fun k hk _ => x.block k hk⟩ (by cases v.ownBlock <;> simp)
theorem fact_put {f : Fact} {w0 : World} {a : Act} {w w' : World} {d : Nat} {v : Value} (h : f.holds w0 a w) (hd : f.uses d = false) (e : Ext w w') : f.holds w0 (a.put (some d) v) w' := by
  cases f with
  | slot k x =>
    obtain ⟨u, h1, h2⟩ := h
    simp [Fact.uses] at hd
    exact ⟨u, by rw [put_ne v (Ne.symm hd)]; exact h1, x.st _ _ _ h2 (.of_ext e)⟩
  | fp c k off =>
    obtain ⟨g, h1, h2⟩ := h
    simp [Fact.uses] at hd
    exact ⟨g, by rw [put_ne v (Ne.symm hd.2)]; exact h1, by rw [put_ne v (Ne.symm hd.1)]; exact h2⟩
  | box k T ps =>
    obtain ⟨g, cs, h1, h2, h3⟩ := h
    simp [Fact.uses] at hd
    exact ⟨g, cs, by rw [put_ne v (Ne.symm hd)]; exact h1, h2.ext e, h3.st (.of_ext e)⟩
  | arr k T n ps =>
    obtain ⟨g, cs, h1, h2, h3⟩ := h
    simp [Fact.uses] at hd
    exact ⟨g, cs, by rw [put_ne v (Ne.symm hd)]; exact h1, h2.ext e, h3.st (.of_ext e)⟩
  | own k T n =>
    obtain ⟨g, cs, h1, h2, h3, h4⟩ := h
    simp [Fact.uses] at hd
    exact ⟨g, cs, by rw [put_ne v (Ne.symm hd)]; exact h1, h2.ext e, h3, h4⟩
  | rows k n ps =>
    obtain ⟨g, off, c, h1, h2, h3, h4, h5⟩ := h
    simp [Fact.uses] at hd
    exact ⟨g, off, c, by rw [put_ne v (Ne.symm hd)]; exact h1, h2, h3, h4, h5.ext e⟩
  | rp c k off =>
    obtain ⟨g, o, n, c', h1, h2⟩ := h
    simp [Fact.uses] at hd
    exact ⟨g, o, n, c', by rw [put_ne v (Ne.symm hd.2)]; exact h1, by rw [put_ne v (Ne.symm hd.1)]; exact h2⟩
  | orow k E sz n ps =>
    obtain ⟨u, xs, h1, h2, h3⟩ := h
    simp [Fact.uses] at hd
    exact ⟨u, xs, by rw [put_ne v (Ne.symm hd)]; exact h1, own_kept h2 e, h3.st (.of_ext e)⟩
theorem fact_ext {f : Fact} {w0 : World} {a : Act} {w w' : World} (h : f.holds w0 a w) (e : Ext w w') : f.holds w0 a w' := by
  cases f with
  | slot k x => obtain ⟨u, h1, h2⟩ := h; exact ⟨u, h1, x.st _ _ _ h2 (.of_ext e)⟩
  | fp c k off => exact h
  | box k T ps => obtain ⟨g, cs, h1, h2, h3⟩ := h; exact ⟨g, cs, h1, h2.ext e, h3.st (.of_ext e)⟩
  | arr k T n ps => obtain ⟨g, cs, h1, h2, h3⟩ := h; exact ⟨g, cs, h1, h2.ext e, h3.st (.of_ext e)⟩
  | own k T n => obtain ⟨g, cs, h1, h2, h3⟩ := h; exact ⟨g, cs, h1, h2.ext e, h3⟩
  | rows k n ps => obtain ⟨g, off, c, h1, h2, h3, h4, h5⟩ := h; exact ⟨g, off, c, h1, h2, h3, h4, h5.ext e⟩
  | rp c k off => exact h
  | orow k E sz n ps => obtain ⟨u, xs, h1, h2, h3⟩ := h; exact ⟨u, xs, h1, own_kept h2 e, h3.st (.of_ext e)⟩

def Base (w0 : World) (N : Nat) (B : List Nat) (a : Act) (w : World) : Prop :=
  a.tmps.size = N ∧ a.defers = [] ∧ Ext w0 w ∧ (∀ k ∈ B, ∀ g, a.tmps[k]? = some (ptr g) → w0.heap.size ≤ g ∧ g < w.heap.size) ∧
    (∀ k ∈ B, ∀ k' ∈ B, k ≠ k' → ∀ g, a.tmps[k]? = some (ptr g) → a.tmps[k']? ≠ some (ptr g))

theorem Base.put {w0 : World} {N : Nat} {B : List Nat} {a : Act} {w w' : World} (h : Base w0 N B a w) {d : Nat} (hd : B.contains d = false) (v : Value) (e : Ext w w') : Base w0 N B (a.put (some d) v) w' := by
  obtain ⟨h1, h2, h3, h4, h5⟩ := h
  have hne : ∀ k ∈ B, d ≠ k := fun k hk e => by subst e; simp [hk] at hd
  refine ⟨by rw [put_size]; exact h1, by rw [put_defers']; exact h2, h3.trans e, fun k hk g hg => ?_, fun k hk k' hk' hkk g hg => ?_⟩
  · rw [put_ne v (hne k hk)] at hg
    have := h4 k hk g hg
    exact ⟨this.1, Nat.lt_of_lt_of_le this.2 e.size⟩
  · rw [put_ne v (hne k hk)] at hg
    rw [put_ne v (hne k' hk')]
    exact h5 k hk k' hk' hkk g hg
theorem Base.ext {w0 : World} {N : Nat} {B : List Nat} {a : Act} {w w' : World} (h : Base w0 N B a w) (e : Ext w w') : Base w0 N B a w' := by
  obtain ⟨h1, h2, h3, h4, h5⟩ := h
  exact ⟨h1, h2, h3.trans e, fun k hk g hg => ⟨(h4 k hk g hg).1, Nat.lt_of_lt_of_le (h4 k hk g hg).2 e.size⟩, h5⟩
/-- a new box -/
theorem Base.new {w0 : World} {N : Nat} {B : List Nat} {a : Act} {w : World} (h : Base w0 N B a w) {d : Nat} (hd : d < N) (o : Obj) : Base w0 N B (a.put (some d) (ptr w.heap.size)) (w.alloc o) := by
  obtain ⟨h1, h2, h3, h4, h5⟩ := h
  have hself := put_eq (a := a) (ptr w.heap.size) (d := d) (by omega)
  refine ⟨by rw [put_size]; exact h1, by rw [put_defers']; exact h2, h3.alloc o, fun k hk g hg => ?_, fun k hk k' hk' hkk g hg => ?_⟩
  · by_cases e : d = k
    · subst e
      rw [hself] at hg
      injection hg with hg
      unfold ptr at hg
      injection hg with hg
      injection hg with hg
      injection hg with hg
      subst hg
      exact ⟨h3.size, by simp⟩
    · rw [put_ne _ e] at hg
      have := h4 k hk g hg
      exact ⟨this.1, by simp; omega⟩
  · by_cases e : d = k
    · subst e
      rw [hself] at hg
      rw [put_ne _ hkk]
      intro hg'
      rw [← Option.some.inj hg] at hg'
      have := (h4 k' hk' _ hg').2
      omega
    · rw [put_ne _ e] at hg
      by_cases e' : d = k'
      · subst e'
        rw [hself]
        intro hg'
        rw [← Option.some.inj hg'] at hg
        have := (h4 k hk _ hg).2
        omega
      · rw [put_ne _ e']
        exact h5 k hk k' hk' hkk g hg
end Go.Proofs.Ytmlnpagkabmmpaa

/- The logic over slots and boxes: a rule for each operation, whatever order a region takes. -/
namespace Go.Proofs.Ytmlnpagkabmmpaa
open Go.RowKit

structure Cx where
  P : Program
  w0 : World
  N : Nat
  B : List Nat
  fs : List Fact
  os : List (Nat × Fact)
  rs : List (Nat × Fact)
  ms : List (Nat × Nat × Fact)

def Inv (X : Cx) (c : Nat → Bool) (a : Act) (w : World) : Prop :=
  Base X.w0 X.N X.B a w ∧ (∀ f ∈ X.fs, f.holds X.w0 a w) ∧ (∀ x ∈ X.os, c x.1 = false → x.2.holds X.w0 a w) ∧ (∀ x ∈ X.rs, c x.1 = true → x.2.holds X.w0 a w) ∧ (∀ x ∈ X.ms, c x.1 = true → c x.2.1 = false → x.2.2.holds X.w0 a w)
def upd (c : Nat → Bool) (i : Nat) : Nat → Bool := fun j => if j = i then true else c j
structure Sit (X : Cx) (i : Nat) (pre suc : List Nat) (c : Nat → Bool) (a : Act) (w : World) : Prop where
  me : c i = false
  hpre : ∀ j ∈ pre, c j = true
  hsuc : ∀ j ∈ suc, c j = false
  inv : Inv X c a w
/-- this is known when operation i comes up -/
def Av (X : Cx) (i : Nat) (pre suc : List Nat) (f : Fact) : Prop := ∀ c a w, Sit X i pre suc c a w → f.holds X.w0 a w
section
variable {X : Cx} {i : Nat} {pre suc : List Nat}
theorem av_fs (n : Nat) {f : Fact} (h : X.fs[n]? = some f) : Av X i pre suc f := fun _ _ _ s => s.inv.2.1 f (List.mem_of_getElem? h)
theorem av_rs (n : Nat) {j : Nat} {f : Fact} (h : X.rs[n]? = some (j, f)) (hj : pre.contains j = true) : Av X i pre suc f :=
  fun _ _ _ s => s.inv.2.2.2.1 _ (List.mem_of_getElem? h) (s.hpre j (by simpa using hj))
theorem av_ms (n : Nat) {j e : Nat} {f : Fact} (h : X.ms[n]? = some (j, e, f)) (hj : pre.contains j = true) (he : (e == i || suc.contains e) = true) : Av X i pre suc f :=
  fun _ _ _ s => s.inv.2.2.2.2 _ (List.mem_of_getElem? h) (s.hpre j (by simpa using hj)) (by
    simp only [Bool.or_eq_true, beq_iff_eq] at he
    rcases he with rfl | he
    · exact s.me
    · exact s.hsuc e (by simpa using he))
theorem av_os (n : Nat) {j : Nat} {f : Fact} (h : X.os[n]? = some (j, f)) (hj : (j == i || suc.contains j) = true) : Av X i pre suc f :=
  fun _ _ _ s => s.inv.2.2.1 _ (List.mem_of_getElem? h) (by
    simp only [Bool.or_eq_true, beq_iff_eq] at hj
    rcases hj with rfl | hj
    · exact s.me
    · exact s.hsuc j (by simpa using hj))

theorem av_bool {k : Nat} {b b' : Bool} (e : b = b') (h : Av X i pre suc (.slot k (VP.bool b))) : Av X i pre suc (.slot k (VP.bool b')) := e ▸ h
theorem av_eq {k : Nat} {x y : VP} (e : x = y) (h : Av X i pre suc (.slot k x)) : Av X i pre suc (.slot k y) := e ▸ h

/-- an operand's value -/
def Ar (X : Cx) (i : Nat) (pre suc : List Nat) (x : Operand) (q : Value → World → Prop) : Prop := ∀ c a w, Sit X i pre suc c a w → q (a.eval x) w
theorem eval_tmp {a : Act} {k : Nat} {v : Value} (h : a.tmps[k]? = some v) : a.eval (.tmp k) = v := by simp [Act.eval, h]
theorem ar_tmp {k : Nat} {x : VP} (h : Av X i pre suc (.slot k x)) : Ar X i pre suc (.tmp k) x.p := fun c a w s => by
  obtain ⟨v, h1, h2⟩ := h c a w s
  rw [eval_tmp h1]; exact h2
theorem ar_const {v : Value} {q : Value → World → Prop} (h : ∀ w, q v w) : Ar X i pre suc (.const v) q := fun _ _ w _ => h w
/-- a slice of a block of its own, as an argument -/
def isArr (T : TypeId) (n : Nat) (ps : List VP) (v : Value) (w : World) : Prop := ∃ g cs, v = .slice (some ⟨g, 0, none⟩) n n ∧ Row w g T cs ∧ All2 ps cs w
theorem ar_arr {k : Nat} {T : TypeId} {n : Nat} {ps : List VP} (h : Av X i pre suc (.arr k T n ps)) : Ar X i pre suc (.tmp k) (isArr T n ps) := fun c a w s => by
  obtain ⟨g, cs, h1, h2, h3⟩ := h c a w s
  rw [eval_tmp h1]; exact ⟨g, cs, rfl, h2, h3⟩
def isPtr (g off : Nat) (v : Value) : Prop := v = .pointer (some ⟨g, off, none⟩)

/-- the operation does what the context says of it, when it comes up -/
def Does (X : Cx) (i : Nat) (pre suc : List Nat) (o : Oper) : Prop :=
  ∀ c a w, Sit X i pre suc c a w → ∀ Q (K : Act → World → Prop), (∀ a' w', Inv X (upd c i) a' w' → K a' w') → o.wp X.P a w K Q

def chk (X : Cx) (i : Nat) (pre suc : List Nat) (d : Nat) : Bool :=
  X.fs.all (fun f => !f.uses d) && X.os.all (fun x => x.1 == i || pre.contains x.1 || !x.2.uses d) && X.rs.all (fun x => x.1 == i || !x.2.uses d || suc.contains x.1) && X.ms.all (fun x => x.1 == i || x.2.1 == i || pre.contains x.2.1 || !x.2.2.uses d || suc.contains x.1)
def resOf (X : Cx) (i : Nat) : List (Nat × Fact) := X.rs.filter (fun x => x.1 == i) ++ (X.ms.filter (fun x => x.1 == i && !(x.2.1 == i))).map (fun x => (x.1, x.2.2))

theorem res_rs {x : Nat × Fact} (hx : x ∈ X.rs) (h : x.1 = i) : x ∈ resOf X i := by
  unfold resOf; rw [List.mem_append, List.mem_filter]; exact .inl ⟨hx, by simp [h]⟩
theorem res_ms {x : Nat × Nat × Fact} (hx : x ∈ X.ms) (h : x.1 = i) (h2 : x.2.1 ≠ i) : (x.1, x.2.2) ∈ resOf X i := by
  unfold resOf; rw [List.mem_append, List.mem_map]; exact .inr ⟨x, by rw [List.mem_filter]; exact ⟨hx, by simp [h, h2]⟩, rfl⟩
theorem not_pre {c : Nat → Bool} {a : Act} {w : World} (s : Sit X i pre suc c a w) {j : Nat} (hc : c j = false) : pre.contains j = false := by
  rw [Bool.eq_false_iff]
  intro h
  have := s.hpre j (by simpa using h)
  rw [this] at hc; cases hc
/-- the facts behind operation i: what it lays, and what it leaves -/
theorem inv_mk {c : Nat → Bool} {a a' : Act} {w w' : World} (s : Sit X i pre suc c a w) (hb : Base X.w0 X.N X.B a' w') (hr : ∀ x ∈ resOf X i, x.2.holds X.w0 a' w')
    (kf : ∀ f ∈ X.fs, f.holds X.w0 a w → f.holds X.w0 a' w') (ko : ∀ x ∈ X.os, x.1 ≠ i → pre.contains x.1 = false → x.2.holds X.w0 a w → x.2.holds X.w0 a' w')
    (kr : ∀ x ∈ X.rs, x.1 ≠ i → c x.1 = true → x.2.holds X.w0 a w → x.2.holds X.w0 a' w') (km : ∀ x ∈ X.ms, x.1 ≠ i → x.2.1 ≠ i → pre.contains x.2.1 = false → c x.1 = true → x.2.2.holds X.w0 a w → x.2.2.holds X.w0 a' w') : Inv X (upd c i) a' w' := by
  refine ⟨hb, fun f hf => kf f hf (s.inv.2.1 f hf), fun x hx hcx => ?_, fun x hx hcx => ?_, fun x hx hcx hce => ?_⟩
  · have hne : x.1 ≠ i := fun he => by simp [upd, he] at hcx
    have hcx' : c x.1 = false := by simpa [upd, hne] using hcx
    exact ko x hx hne (not_pre s hcx') (s.inv.2.2.1 x hx hcx')
  · by_cases hne : x.1 = i
    · exact hr x (res_rs hx hne)
    · have hcx' : c x.1 = true := by simpa [upd, hne] using hcx
      exact kr x hx hne hcx' (s.inv.2.2.2.1 x hx hcx')
  · have hne2 : x.2.1 ≠ i := fun he => by simp [upd, he] at hce
    have hce' : c x.2.1 = false := by simpa [upd, hne2] using hce
    by_cases hne : x.1 = i
    · exact hr (x.1, x.2.2) (res_ms hx hne hne2)
    · have hcx' : c x.1 = true := by simpa [upd, hne] using hcx
      exact km x hx hne hne2 (not_pre s hce') hcx' (s.inv.2.2.2.2 x hx hcx' hce')
theorem not_suc {c : Nat → Bool} {a : Act} {w : World} (s : Sit X i pre suc c a w) {j : Nat} (h : suc.contains j = true) (hc : c j = true) : False := by
  have := s.hsuc j (by simpa using h)
  rw [this] at hc; cases hc
theorem inv_put {c : Nat → Bool} {a : Act} {w w' : World} {d : Nat} {v : Value} (s : Sit X i pre suc c a w) (e : Ext w w')
    (hb : Base X.w0 X.N X.B (a.put (some d) v) w') (hc : chk X i pre suc d = true) (hr : ∀ x ∈ resOf X i, x.2.holds X.w0 (a.put (some d) v) w') : Inv X (upd c i) (a.put (some d) v) w' := by
  unfold chk at hc
  simp only [Bool.and_eq_true, List.all_eq_true] at hc
  obtain ⟨⟨⟨h1, h2⟩, h3⟩, h4⟩ := hc
  refine inv_mk s hb hr (fun f hf h => fact_put h (by simpa using h1 f hf) e) (fun x hx hne hp h => ?_) (fun x hx hne hcx h => ?_) (fun x hx hne hne2 hp hcx h => ?_)
  · have := h2 x hx
    simp only [Bool.or_eq_true, beq_iff_eq, hne, hp, Bool.false_eq_true, false_or] at this
    exact fact_put h (by simpa using this) e
  · have := h3 x hx
    simp only [Bool.or_eq_true, beq_iff_eq, hne, false_or] at this
    rcases this with hu | hs
    · exact fact_put h (by simpa using hu) e
    · exact (not_suc s hs hcx).elim
  · have := h4 x hx
    simp only [Bool.or_eq_true, beq_iff_eq, hne, hne2, hp, Bool.false_eq_true, false_or] at this
    rcases this with hu | hs
    · exact fact_put h (by simpa using hu) e
    · exact (not_suc s hs hcx).elim

/-- an operation that leaves a value in a slot that is no box's -/
theorem does_val {o : Oper} {d : Nat} (_hd : o.dst = some d) (hlt : (decide (d < X.N) && !X.B.contains d) = true) (hc : chk X i pre suc d = true)
    (h : ∀ c a w, Sit X i pre suc c a w → ∀ Q (K : Act → World → Prop), (∀ v w', Ext w w' → (∀ x ∈ resOf X i, x.2.holds X.w0 (a.put (some d) v) w') → K (a.put (some d) v) w') → o.wp X.P a w K Q) : Does X i pre suc o := by
  intro c a w s Q K hK
  simp only [Bool.and_eq_true, decide_eq_true_eq] at hlt
  exact h c a w s Q K fun v w' e hr => hK _ _ (inv_put s e (s.inv.1.put (by simpa using hlt.2) v e) hc hr)

theorem res_one {f : Fact} (hr : resOf X i = [(i, f)]) {a : Act} {w : World} (h : f.holds X.w0 a w) : ∀ x ∈ resOf X i, x.2.holds X.w0 a w := by
  rw [hr]; intro x hx; simp at hx; subst hx; exact h
theorem slot_put {a : Act} {w : World} {d : Nat} {v : Value} {x : VP} (hN : a.tmps.size = X.N) (hlt : (decide (d < X.N) && !X.B.contains d) = true) (h : x.p v w) : (Fact.slot d x).holds X.w0 (a.put (some d) v) w :=
  ⟨v, put_eq v (by simp only [Bool.and_eq_true, decide_eq_true_eq] at hlt; omega), h⟩

/-- an operation whose run is known: it yields a value, the world stands -/
theorem does_run {o : Oper} {d : Nat} {x : VP} (hd : o.dst = some d) (hlt : (decide (d < X.N) && !X.B.contains d) = true) (hc : chk X i pre suc d = true) (hr : resOf X i = [(i, .slot d x)])
    (h : ∀ c a w, Sit X i pre suc c a w → ∃ v, (execOp a.eval o).run X.P w = .ok (.value v) w ∧ x.p v w) : Does X i pre suc o :=
  does_val hd hlt hc fun c a w s Q K hK => by
    obtain ⟨v, h1, h2⟩ := h c a w s
    unfold Oper.wp
    rw [h1]
    show K (a.put o.dst v) w
    rw [hd]
    exact hK v w (Ext.refl w) (res_one hr (slot_put s.inv.1.1 hlt h2))

theorem does_move {o : Oper} {d : Nat} {x : VP} (y : Operand) (hop : o.op = .move y ∨ o.op = .assign y) (hd : o.dst = some d) (hlt : (decide (d < X.N) && !X.B.contains d) = true) (hc : chk X i pre suc d = true)
    (hr : resOf X i = [(i, .slot d x)]) (h : Ar X i pre suc y x.p) : Does X i pre suc o :=
  does_run hd hlt hc hr fun c a w s => ⟨a.eval y, by unfold execOp; rcases hop with e | e <;> rw [e] <;> rfl, h c a w s⟩

theorem does_pick {o : Oper} {d : Nat} {x : VP} (b : Bool) (y u v : Operand) (hop : o.op = .pick y u v) (hd : o.dst = some d) (hlt : (decide (d < X.N) && !X.B.contains d) = true) (hc : chk X i pre suc d = true)
    (hr : resOf X i = [(i, .slot d x)]) (hb : Ar X i pre suc y (VP.bool b).p) (h : Ar X i pre suc (if b then u else v) x.p) : Does X i pre suc o :=
  does_run hd hlt hc hr fun c a w s => ⟨a.eval (if b then u else v), by
    have := hb c a w s
    unfold execOp; rw [hop]
    have hb' : a.eval y = .bool b := this
    cases b <;> simp [hb', asBool], h c a w s⟩

theorem does_not {o : Oper} {d : Nat} (b : Bool) (T : TypeId) (y : Operand) (hop : o.op = .unOp .not T y) (hd : o.dst = some d) (hlt : (decide (d < X.N) && !X.B.contains d) = true) (hc : chk X i pre suc d = true)
    (hr : resOf X i = [(i, .slot d (VP.bool (!b)))]) (hb : Ar X i pre suc y (VP.bool b).p) : Does X i pre suc o :=
  does_run hd hlt hc hr fun c a w s => ⟨.bool (!b), by
    have hb' : a.eval y = .bool b := hb c a w s
    unfold execOp; rw [hop]
    simp [hb', Op.unary], rfl⟩

theorem does_extract {o : Oper} {d : Nat} {ps : List VP} {x : VP} (y : Operand) (n : Nat) (hop : o.op = .extract y n) (hd : o.dst = some d) (hlt : (decide (d < X.N) && !X.B.contains d) = true) (hc : chk X i pre suc d = true)
    (hr : resOf X i = [(i, .slot d x)]) (hb : Ar X i pre suc y (VP.tup ps).p) (hn : ps[n]? = some x) : Does X i pre suc o :=
  does_run hd hlt hc hr fun c a w s => by
    obtain ⟨cs, h1, h2⟩ := hb c a w s
    obtain ⟨v, hv, hp⟩ := h2.get hn
    exact ⟨v, by unfold execOp; rw [hop]; simp [h1, Instr.extract, hv], hp⟩

/-! ### calls -/
/-- WHAT A FUNCTION DOES: arguments of which that is said, a result of which this is said, and nothing that there was has turned -/
def Spec (P : Program) (f : FuncId) (qs : List (Value → World → Prop)) (x : VP) : Prop :=
  ∀ (vs : Array Value) (w : World), vs.size = qs.length → (∀ (j : Nat) (q : Value → World → Prop), qs[j]? = some q → ∃ v, vs[j]? = some v ∧ q v w) → Calls P f vs w fun e w' => ∃ v, e = .returned v ∧ x.p v w' ∧ Ext w w'

def Ars (X : Cx) (i : Nat) (pre suc : List Nat) : List Operand → List (Value → World → Prop) → Prop
  | [], [] => True
  | o :: os, q :: qs => Ar X i pre suc o q ∧ Ars X i pre suc os qs
  | _, _ => False
theorem Ars.len : ∀ {os : List Operand} {qs : List (Value → World → Prop)}, Ars X i pre suc os qs → os.length = qs.length
  | [], [], _ => rfl
  | _ :: _, _ :: _, h => by simp [Ars.len h.2]
  | [], _ :: _, h => h.elim
  | _ :: _, [], h => h.elim
theorem Ars.get : ∀ {os : List Operand} {qs : List (Value → World → Prop)}, Ars X i pre suc os qs → ∀ {j : Nat} {q : Value → World → Prop}, qs[j]? = some q → ∃ o, os[j]? = some o ∧ Ar X i pre suc o q
  | [], [], _, j, _, h => by simp at h
  | o :: _, _ :: _, h, 0, q, hq => by simp at hq; subst hq; exact ⟨o, rfl, h.1⟩
  | _ :: _, _ :: _, h, j + 1, q, hq => by simpa using Ars.get h.2 (by simpa using hq)
  | [], _ :: _, h, _, _, _ => h.elim
  | _ :: _, [], h, _, _, _ => h.elim

/-- function f has a text -/
def hasBody (P : Program) (f : FuncId) : Bool := match P.funcs[f]? with | some fn => fn.body.isSome && !(fn.name == "runtime.NumGoroutine") | none => false

theorem run_callv {P : Program} {f : FuncId} {o : Oper} {ags : Array Operand} {ts : Array TypeId} {a : Act} {w : World} (hop : o.op = .call { callee := .value (.func f), args := ags, argTypes := ts }) (hb : hasBody P f = true) :
    (execOp a.eval o).run P w = .ok (.enter f (ags.map a.eval)) w := by
  unfold hasBody at hb
  unfold execOp; rw [hop]
  cases hf : P.funcs[f]? with
  | none => rw [hf] at hb; cases hb
  | some fn =>
    rw [hf] at hb
    simp only [Bool.and_eq_true, Bool.not_eq_true', beq_eq_false_iff_ne, ne_eq, Option.isSome_iff_ne_none] at hb
    simp [resolve, Act.eval, Deferred.ofValue, invoke, callFunc, hf, hb.1, hb.2]

theorem does_call {o : Oper} {d : Nat} {f : FuncId} {ags : Array Operand} {ts : Array TypeId} {qs : List (Value → World → Prop)} {x : VP} (hs : Spec X.P f qs x)
    (hop : o.op = .call { callee := .value (.func f), args := ags, argTypes := ts }) (hbd : hasBody X.P f = true) (hd : o.dst = some d) (hlt : (decide (d < X.N) && !X.B.contains d) = true) (hc : chk X i pre suc d = true)
    (hr : resOf X i = [(i, .slot d x)]) (h : Ars X i pre suc ags.toList qs) : Does X i pre suc o :=
  does_val hd hlt hc fun c a w s Q K hK => by
    unfold Oper.wp
    rw [run_callv hop hbd]
    show Calls X.P f (ags.map a.eval) w _
    refine (hs (ags.map a.eval) w (by rw [Array.size_map, ← h.len]; simp) fun j q hq => ?_).mono ?_
    · obtain ⟨y, hy, har⟩ := h.get hq
      refine ⟨a.eval y, ?_, har c a w s⟩
      rw [Array.getElem?_map]
      have : ags[j]? = some y := by simpa using hy
      rw [this]; rfl
    · rintro e w' ⟨v, rfl, hp, he⟩
      show K (a.put o.dst v) w'
      rw [hd]
      exact hK v w' he (res_one hr (slot_put s.inv.1.1 hlt hp))

/-! ### boxes -/
theorem box_put {a : Act} {w : World} {d : Nat} {T : TypeId} {cs : List Value} {ps : List VP} (hlt : d < a.tmps.size) (h : All2 ps cs w) :
    (Fact.box d T ps).holds X.w0 (a.put (some d) (ptr w.heap.size)) (w.alloc (.cells cs.toArray T)) :=
  ⟨w.heap.size, cs, put_eq _ hlt, Row.new w T cs, h.st (.of_ext (Ext.new w _))⟩

theorem does_new {o : Oper} {d : Nat} {T : TypeId} {ps : List VP} (hd : o.dst = some d) (hlt : decide (d < X.N) = true) (hc : chk X i pre suc d = true) (hr : resOf X i = [(i, .box d T ps)])
    (h : ∀ c a w, Sit X i pre suc c a w → ∃ cs : List Value, (execOp a.eval o).run X.P w = .ok (.value (ptr w.heap.size)) (w.alloc (.cells cs.toArray T)) ∧ All2 ps cs w) : Does X i pre suc o := by
  intro c a w s Q K hK
  obtain ⟨cs, h1, h2⟩ := h c a w s
  have hlt' := of_decide_eq_true hlt
  unfold Oper.wp
  rw [h1]
  show K (a.put o.dst (ptr w.heap.size)) _
  rw [hd]
  exact hK _ _ (inv_put s (Ext.new w _) (s.inv.1.new hlt' _) hc (res_one hr (box_put (by rw [s.inv.1.1]; exact hlt') h2)))

theorem does_box {o : Oper} {d : Nat} {T : TypeId} {ps : List VP} (y : Operand) (hop : o.op = .box T y) (hd : o.dst = some d) (hlt : decide (d < X.N) = true) (hc : chk X i pre suc d = true) (hr : resOf X i = [(i, .box d T ps)])
    (h : Ar X i pre suc y (VP.agg ps).p) : Does X i pre suc o :=
  does_new hd hlt hc hr fun c a w s => by
    obtain ⟨cs, h1, h2⟩ := h c a w s
    refine ⟨cs, ?_, h2⟩
    unfold execOp; rw [hop]
    simp [Instr.box, newVar, newRow, h1, Value.cells, ptr]

/-- the cells of a type's zero -/
def zeroOf (P : Program) (T : TypeId) (zs : List Value) : Prop := (P.info? T).bind (fun i => i.zero.map (fun v => v.cells.toList)) = some zs
theorem does_alloc {o : Oper} {d : Nat} {T : TypeId} {zs : List Value} {ps : List VP} (hz : zeroOf X.P T zs) (hop : o.op = .alloc T) (hd : o.dst = some d) (hlt : decide (d < X.N) = true) (hc : chk X i pre suc d = true) (hr : resOf X i = [(i, .box d T ps)])
    (h : ∀ w, All2 ps zs w) : Does X i pre suc o :=
  does_new hd hlt hc hr fun c a w s => by
    refine ⟨zs, ?_, h w⟩
    unfold zeroOf at hz
    obtain ⟨ti, h1, h2⟩ := Option.bind_eq_some_iff.1 hz
    obtain ⟨v, h3, h4⟩ := Option.map_eq_some_iff.1 h2
    unfold execOp; rw [hop]
    simp [Instr.alloc, zeroValue, typeInfo, h1, h3, newVar, newRow, ptr, ← h4]

/-- field f of a struct type begins at cell off -/
def fieldAt (P : Program) (T : TypeId) (f off : Nat) : Bool :=
  match P.underlying T with
  | some (.struct fs) => match fs[f]? with
    | some fd => fd.offset == off && (match P.info? fd.type with | some i => !(i.size == 0) | none => false)
    | none => false
  | _ => false
theorem run_fieldAt {P : Program} {T : TypeId} {f off o g : Nat} (h : fieldAt P T f off = true) (w : World) : (Instr.fieldAt T (.pointer (some ⟨g, o, none⟩)) f).run P w = .ok (.pointer (some ⟨g, o + off, none⟩)) w := by
  unfold fieldAt at h
  split at h
  · rename_i fs hu
    split at h
    · rename_i fd hf
      simp only [Bool.and_eq_true, beq_iff_eq] at h
      obtain ⟨h1, h2⟩ := h
      split at h2
      · rename_i ti hi
        simp only [Bool.not_eq_true', beq_eq_false_iff_ne, ne_eq] at h2
        simp [Instr.fieldAt, run_underlying hu, hf, Instr.sureAddr, fieldPlace, sizeOf, typeInfo, hi, h2, h1, add_plain]
      · cases h2
    · cases h
  · cases h

/-- pointer operand: into slot k's box, at off -/
def Pt (X : Cx) (i : Nat) (pre suc : List Nat) (x : Operand) (k off : Nat) : Prop := ∀ c a w, Sit X i pre suc c a w → ∃ g, a.tmps[k]? = some (ptr g) ∧ a.eval x = .pointer (some ⟨g, off, none⟩)
theorem pt_fp {d k off : Nat} (h : Av X i pre suc (.fp d k off)) : Pt X i pre suc (.tmp d) k off := fun c a w s => by
  obtain ⟨g, h1, h2⟩ := h c a w s
  exact ⟨g, h1, eval_tmp h2⟩
theorem pt_box {k : Nat} {T : TypeId} {ps : List VP} (h : Av X i pre suc (.box k T ps)) : Pt X i pre suc (.tmp k) k 0 := fun c a w s => by
  obtain ⟨g, cs, h1, _⟩ := h c a w s
  exact ⟨g, h1, eval_tmp h1⟩

theorem does_field {o : Oper} {d k off off' : Nat} (T : TypeId) (y : Operand) (f fo : Nat) (hf : fieldAt X.P T f fo = true) (hop : o.op = .fieldAddr T y f) (hd : o.dst = some d) (hlt : (decide (d < X.N) && !X.B.contains d) = true) (hk : (d == k) = false) (hc : chk X i pre suc d = true)
    (hr : resOf X i = [(i, .fp d k off')]) (ho : off' = off + fo) (h : Pt X i pre suc y k off) : Does X i pre suc o :=
  does_val hd hlt hc fun c a w s Q K hK => by
    obtain ⟨g, h1, h2⟩ := h c a w s
    unfold Oper.wp execOp
    rw [hop]
    simp only [h2, Sem.run_bind, run_fieldAt hf, Result.andThen_ok, Sem.run_pure]
    show K (a.put o.dst _) w
    rw [hd, ← ho]
    refine hK _ w (Ext.refl w) (res_one hr ⟨g, ?_, put_eq _ ?_⟩)
    · rw [put_ne _ (by simpa using hk)]; exact h1
    · simp only [Bool.and_eq_true, decide_eq_true_eq] at hlt; rw [s.inv.1.1]; exact hlt.1

/-- T is a struct (array) of n cells -/
def aggTy (P : Program) (T : TypeId) (n : Nat) : Bool :=
  (match P.underlying T with | some (.struct _) => true | some (.array _ _) => true | _ => false) && (match P.info? T with | some i => i.size == n | none => false)
/-- T is a type of one cell -/
def oneTy (P : Program) (T : TypeId) : Bool :=
  (match P.underlying T with | some (.struct _) => false | some (.array _ _) => false | some _ => true | _ => false) && (match P.info? T with | some i => i.size == 1 | none => false)
theorem run_isAgg {P : Program} {T : TypeId} {n : Nat} (h : aggTy P T n = true) (w : World) : (isAgg T).run P w = .ok true w := by
  unfold aggTy at h
  simp only [Bool.and_eq_true] at h
  have h := h.1
  split at h
  · rename_i hu; simp [isAgg, run_underlying hu]
  · rename_i hu; simp [isAgg, run_underlying hu]
  · cases h
theorem run_isOne {P : Program} {T : TypeId} (h : oneTy P T = true) (w : World) : (isAgg T).run P w = .ok false w := by
  unfold oneTy at h
  simp only [Bool.and_eq_true] at h
  have h := h.1
  split at h
  · cases h
  · cases h
  · rename_i d hn1 hn2 hu
    simp only [isAgg, Sem.run_bind, run_underlying hu, Result.andThen_ok]
    cases d <;> simp_all
  · cases h
theorem run_sizeAgg {P : Program} {T : TypeId} {n : Nat} (h : aggTy P T n = true) (w : World) : (sizeOf T).run P w = .ok n w := by
  unfold aggTy at h
  simp only [Bool.and_eq_true] at h
  have h := h.2
  split at h
  · rename_i i hi; simp only [beq_iff_eq] at h; simp [sizeOf, typeInfo, hi, h]
  · cases h
theorem run_sizeOne {P : Program} {T : TypeId} (h : oneTy P T = true) (w : World) : (sizeOf T).run P w = .ok 1 w := by
  unfold oneTy at h
  simp only [Bool.and_eq_true] at h
  have h := h.2
  split at h
  · rename_i i hi; simp only [beq_iff_eq] at h; simp [sizeOf, typeInfo, hi, h]
  · cases h
theorem run_loadRow {P : Program} {T T' : TypeId} {n g off : Nat} (h : aggTy P T n = true) {w : World} {cs : List Value} (hr : Row w g T' cs) (hl : off + n ≤ cs.length) :
    (loadVar T ⟨g, off, none⟩).run P w = .ok (.agg ((cs.drop off).take n).toArray) w := by
  have hlen : ((cs.drop off).take n).length = n := by simp; omega
  have := run_loadCells_list (P := P) w ⟨g, off, none⟩ ((cs.drop off).take n) (fun j v hv => by
    rw [add_plain]
    refine hr.cell ?_
    rw [List.getElem?_take] at hv
    split at hv
    · rw [List.getElem?_drop] at hv; exact hv
    · cases hv)
  rw [hlen] at this
  simp [loadVar, run_isAgg h, run_sizeAgg h, this]
theorem run_loadCell {P : Program} {T T' : TypeId} {g off : Nat} (h : oneTy P T = true) {w : World} {cs : List Value} (hr : Row w g T' cs) {v : Value} (hv : cs[off]? = some v) :
    (loadVar T ⟨g, off, none⟩).run P w = .ok v w := by
  simp [loadVar, run_isOne h, hr.cell hv]

theorem does_loadAgg {o : Oper} {d k off : Nat} {T T' : TypeId} {n : Nat} {ps : List VP} (y : Operand) (ht : aggTy X.P T n = true) (hop : o.op = .load T y) (hd : o.dst = some d) (hlt : (decide (d < X.N) && !X.B.contains d) = true) (hc : chk X i pre suc d = true)
    (hr : resOf X i = [(i, .slot d (VP.agg ((ps.drop off).take n)))]) (hl : decide (off + n ≤ ps.length) = true) (hp : Pt X i pre suc y k off) (h : Av X i pre suc (.box k T' ps)) : Does X i pre suc o :=
  does_run hd hlt hc hr fun c a w s => by
    obtain ⟨g, h1, h2⟩ := hp c a w s
    obtain ⟨g', cs, h3, h4, h5⟩ := h c a w s
    rw [h1] at h3
    have : g = g' := by injection h3 with h3; unfold ptr at h3; injection h3 with h3; injection h3 with h3; injection h3
    subst this
    have hlen := h5.len
    have hl' := of_decide_eq_true hl
    refine ⟨_, ?_, ⟨(cs.drop off).take n, rfl, (h5.drop off).take n⟩⟩
    have hrun := run_loadRow (off := off) ht h4 (by omega)
    unfold execOp; rw [hop]
    simp [h2, Instr.loadAt, Instr.sureAddr, hrun]

theorem does_loadOne {o : Oper} {d k off : Nat} {T T' : TypeId} {ps : List VP} {x : VP} (y : Operand) (ht : oneTy X.P T = true) (hop : o.op = .load T y) (hd : o.dst = some d) (hlt : (decide (d < X.N) && !X.B.contains d) = true) (hc : chk X i pre suc d = true)
    (hr : resOf X i = [(i, .slot d x)]) (hx : ps[off]? = some x) (hp : Pt X i pre suc y k off) (h : Av X i pre suc (.box k T' ps)) : Does X i pre suc o :=
  does_run hd hlt hc hr fun c a w s => by
    obtain ⟨g, h1, h2⟩ := hp c a w s
    obtain ⟨g', cs, h3, h4, h5⟩ := h c a w s
    rw [h1] at h3
    have : g = g' := by injection h3 with h3; unfold ptr at h3; injection h3 with h3; injection h3 with h3; injection h3
    subst this
    obtain ⟨v, hv, hpv⟩ := h5.get hx
    refine ⟨v, ?_, hpv⟩
    unfold execOp; rw [hop]
    simp [h2, Instr.loadAt, Instr.sureAddr, run_loadCell ht h4 hv]

/-! ### stores -/
theorem run_storeCell {P : Program} {T T' : TypeId} {g off : Nat} (n : Nat) {w : World} {cs : List Value} (hr : Row w g T' cs) {v : Value} (hs : (sizeOf T).run P w = .ok n w) (hn : v.cells.size = n) (hl : off + n ≤ cs.length) (h1 : ∀ u ∈ v.cells.toList, u.oneCell' = true) :
    (storeVar T ⟨g, off, none⟩ v).run P w = .ok () (w.setRow g (cs.take off ++ v.cells.toList ++ cs.drop (off + n)).toArray) := by
  have h2 := run_storeCells_at (P := P) g off T' v.cells.toList 0 cs.toArray w hr (by simp; omega) h1
  simp only [Nat.add_zero, Array.length_toList, hn] at h2
  simp [storeVar, hs, hn, h2]

theorem setRow_row {w : World} {g : Nat} {T : TypeId} {cs : List Value} (hr : Row w g T cs) (ds : List Value) : Row (w.setRow g ds.toArray) g T ds := setRow_heap w g cs.toArray ds.toArray T (0, 0) hr
theorem setRow_far {w : World} {g b : Nat} (ds : Array Value) (h : b ≠ g) : (w.setRow g ds).heap[b]? = w.heap[b]? := by
  unfold World.setRow
  simp [Array.getElem?_modify, Ne.symm h]
theorem setRow_size {w : World} {g : Nat} (ds : Array Value) : (w.setRow g ds).heap.size = w.heap.size := by
  unfold World.setRow; simp
theorem setRow_ext {w0 w : World} {g : Nat} (ds : Array Value) (h : Ext w0 w) (hg : w0.heap.size ≤ g) : Ext w0 (w.setRow g ds) :=
  ⟨h.os, h.tape, h.output, by rw [setRow_size]; exact h.size, fun k hk => by rw [setRow_far ds (by omega)]; exact h.block k hk⟩

/-- a store into a box of cells of type T leaves this fact's row -/
def Fact.offT : Fact → TypeId → Bool
  | .orow _ E _ _ _, T => !(E == T)
  | _, _ => true
def Fact.bx : Fact → Option Nat
  | .box j _ _ => some j
  | .own j _ _ => some j
  | _ => none
/-- a fact stands behind a store into slot k's box -/
theorem fact_store {f : Fact} {w0 : World} {a : Act} {w : World} {g : Nat} {T : TypeId} {cs ds : List Value} {B : List Nat} {k : Nat} (h : f.holds w0 a w) (hk : a.tmps[k]? = some (ptr g)) (hr : Row w g T cs) (h1 : ∀ u ∈ cs, NotInt u) (h2 : ∀ u ∈ ds, NotInt u) (hlen : ds.length = cs.length) (hg0 : w0.heap.size ≤ g)
    (hoff : f.off k = true) (hoT : f.offT T = true) (hB : B.contains k = true) (hbx : ∀ j, f.bx = some j → B.contains j = true) (hsep : ∀ k ∈ B, ∀ k' ∈ B, k ≠ k' → ∀ g, a.tmps[k]? = some (ptr g) → a.tmps[k']? ≠ some (ptr g)) :
    f.holds w0 a (w.setRow g ds.toArray) := by
  have ev : Evol w (w.setRow g ds.toArray) := ⟨by rw [setRow_size]; exact Nat.le_refl _, fun b hb => by
    by_cases e : b = g
    · subst e
      exact .inr ⟨⟨_, T, hr, by simpa using h1⟩, ⟨_, T, setRow_row hr ds, by simpa using h2⟩⟩
    · exact .inl (setRow_far _ e)⟩
  cases f with
  | slot j x => obtain ⟨u, e1, e2⟩ := h; exact ⟨u, e1, x.st _ _ _ e2 ev⟩
  | fp c j off => exact h
  | box j T' ps =>
    obtain ⟨g', cs', e1, e2, e3⟩ := h
    have hne : j ≠ k := by simpa [Fact.off] using hoff
    have hg : g' ≠ g := fun e => hsep j (by simpa using hbx j rfl) k (by simpa using hB) hne g' e1 (by rw [e]; exact hk)
    exact ⟨g', cs', e1, (setRow_far _ hg).trans e2, e3.st ev⟩
  | arr j T' n ps => simp [Fact.off] at hoff
  | own j T' n =>
    obtain ⟨g', cs', e1, e2, e3, e4⟩ := h
    by_cases hne : j = k
    · subst hne
      rw [hk] at e1
      have : g = g' := by injection e1 with e1; unfold ptr at e1; injection e1 with e1; injection e1 with e1; injection e1
      subst this
      have hcc : cs.toArray = cs'.toArray := by
        unfold Row at hr e2
        rw [hr] at e2
        injection e2 with e2
        injection e2
      have : cs = cs' := by simpa using hcc
      subst this
      have hT : T = T' := by
        unfold Row at hr e2
        rw [hr] at e2
        injection e2 with e2
        injection e2
      subst hT
      exact ⟨g, ds, hk, setRow_row hr ds, by rw [hlen]; exact e3, h2⟩
    · have hg : g' ≠ g := fun e => hsep j (by simpa using hbx j rfl) k (by simpa using hB) hne g' e1 (by rw [e]; exact hk)
      exact ⟨g', cs', e1, (setRow_far _ hg).trans e2, e3, e4⟩
  | rows j n ps =>
    obtain ⟨g', off, c, e1, e2, e3, e4, e5⟩ := h
    exact ⟨g', off, c, e1, e2, e3, e4, e5.evol ev (setRow_far _ (by omega))⟩
  | rp c j off => exact h
  | orow j E sz n ps =>
    obtain ⟨u, xs, e1, e2, e3⟩ := h
    have hne : E ≠ T := by simpa [Fact.offT] using hoT
    refine ⟨u, xs, e1, ⟨e2.1, ?_⟩, e3.st ev⟩
    rcases e2.2 with hn | ⟨g', cap, cur, hu, hb, hg, rest⟩
    · exact .inl hn
    · refine .inr ⟨g', cap, cur, hu, hb, ?_, rest⟩
      have hgg : g' ≠ g := fun e => by
        subst e
        unfold Row at hr
        rw [hr] at hg
        injection hg with hg
        injection hg with _ hg _
        exact hne hg.symm
      rw [setRow_far _ hgg]; exact hg

def boxIn (B : List Nat) (f : Fact) : Bool := match f.bx with | some j => B.contains j | none => true
theorem boxIn_spec {B : List Nat} {f : Fact} (h : boxIn B f = true) : ∀ j, f.bx = some j → B.contains j = true := by
  intro j e; unfold boxIn at h; rw [e] at h; exact h
def okS (X : Cx) (k : Nat) (T : TypeId) (f : Fact) : Bool := f.off k && f.offT T && boxIn X.B f
def chkS (X : Cx) (i : Nat) (pre suc : List Nat) (k : Nat) (T : TypeId) : Bool :=
  X.fs.all (okS X k T) && X.os.all (fun x => x.1 == i || pre.contains x.1 || okS X k T x.2) && X.rs.all (fun x => x.1 == i || okS X k T x.2 || suc.contains x.1) && X.ms.all (fun x => x.1 == i || x.2.1 == i || pre.contains x.2.1 || okS X k T x.2.2 || suc.contains x.1) && X.B.contains k

theorem does_storeG {o : Oper} {k off : Nat} {T T' : TypeId} {qs rr : List VP} (n m : Nat) (y z : Operand) (hsz : ∀ w, (sizeOf T).run X.P w = .ok n w) (hop : o.op = .store T y z) (hd : o.dst = none) (hc : chkS X i pre suc k T' = true)
    (hr : resOf X i = [(i, .box k T' rr)]) (hl : off + n ≤ m) (hp : Pt X i pre suc y k off)
    (h : ∀ c a w, Sit X i pre suc c a w → ∃ g cs, a.tmps[k]? = some (ptr g) ∧ Row w g T' cs ∧ cs.length = m ∧ (∀ u ∈ cs, NotInt u) ∧ ∀ w' vs, Evol w w' → All2 qs vs w' → All2 rr (cs.take off ++ vs ++ cs.drop (off + n)) w')
    (hqn : qs.length = n) (hn2 : qs.all (·.ni) = true) (hn3 : qs.all (·.one) = true)
    (hz : Ar X i pre suc z (fun v w => v.cells.size = n ∧ All2 qs v.cells.toList w)) : Does X i pre suc o := by
  intro c a w s Q K hK
  obtain ⟨g, h1, h2⟩ := hp c a w s
  obtain ⟨g', cs, h3, h4, hlen, hnc, h5⟩ := h c a w s
  rw [h1] at h3
  have : g = g' := by injection h3 with h3; unfold ptr at h3; injection h3 with h3; injection h3 with h3; injection h3
  subst this
  obtain ⟨hvn, hv⟩ := hz c a w s
  have hrun := run_storeCell (P := X.P) (T := T) (off := off) n h4 (hsz w) hvn (by omega) (hv.ones hn3)
  unfold Oper.wp execOp
  rw [hop]
  simp only [h2, Instr.storeAt, Instr.sureAddr, Sem.run_bind, Sem.run_pure, Result.andThen_ok, hrun]
  show K (a.put o.dst undef) _
  rw [hd]
  show K a _
  unfold chkS at hc
  simp only [Bool.and_eq_true, List.all_eq_true] at hc
  obtain ⟨⟨⟨⟨c1, c2⟩, c3⟩, c5⟩, c4⟩ := hc
  obtain ⟨b1, b2, b3, b4, b5⟩ := s.inv.1
  have hnew : ∀ u ∈ cs.take off ++ (a.eval z).cells.toList ++ cs.drop (off + n), NotInt u := by
    intro u hu
    rw [List.mem_append, List.mem_append] at hu
    rcases hu with (hu | hu) | hu
    · exact hnc u (List.mem_of_mem_take hu)
    · exact hv.noint hn2 u hu
    · exact hnc u (List.mem_of_mem_drop hu)
  have hvl := hv.len
  have hlenn : (cs.take off ++ (a.eval z).cells.toList ++ cs.drop (off + n)).length = cs.length := by
    simp only [List.length_append, List.length_take, List.length_drop, hvl]; omega
  have hg0 := (b4 k (by simpa using c4) g h1)
  have keep : ∀ f : Fact, f.holds X.w0 a w → okS X k T' f = true → f.holds X.w0 a (w.setRow g (cs.take off ++ (a.eval z).cells.toList ++ cs.drop (off + n)).toArray) := by
    intro f hf hfo
    unfold okS at hfo
    simp only [Bool.and_eq_true] at hfo
    exact fact_store hf h1 h4 hnc hnew hlenn hg0.1 hfo.1.1 hfo.1.2 c4 (boxIn_spec hfo.2) b5
  have ev : Evol w (w.setRow g (cs.take off ++ (a.eval z).cells.toList ++ cs.drop (off + n)).toArray) := ⟨by rw [setRow_size]; exact Nat.le_refl _, fun b hb => by
    by_cases e : b = g
    · subst e
      exact .inr ⟨⟨_, T', h4, by simpa using hnc⟩, ⟨_, T', setRow_row h4 _, by simpa using hnew⟩⟩
    · exact .inl (setRow_far _ e)⟩
  refine hK _ _ (inv_mk s ⟨b1, b2, setRow_ext _ b3 hg0.1, fun k hk g hg => by rw [setRow_size]; exact b4 k hk g hg, b5⟩ ?_ (fun f hf h => keep f h (c1 f hf)) (fun x hx hne hp h => ?_) (fun x hx hne hcx h => ?_) (fun x hx hne hne2 hp hcx h => ?_))
  · intro x hx
    rw [hr, List.mem_singleton] at hx
    subst hx
    exact ⟨g, _, h1, setRow_row h4 _, h5 _ _ ev (hv.st ev)⟩
  · have := c2 x hx
    simp only [Bool.or_eq_true, beq_iff_eq, hne, hp, Bool.false_eq_true, false_or] at this
    exact keep _ h this
  · have := c3 x hx
    simp only [Bool.or_eq_true, beq_iff_eq, hne, false_or] at this
    rcases this with hu | hs
    · exact keep _ h hu
    · exact (not_suc s hs hcx).elim
  · have := c5 x hx
    simp only [Bool.or_eq_true, beq_iff_eq, hne, hne2, hp, Bool.false_eq_true, false_or] at this
    rcases this with hu | hs
    · exact keep _ h hu
    · exact (not_suc s hs hcx).elim

theorem av_row {k off n : Nat} {T' : TypeId} {ps qs : List VP} (h : Av X i pre suc (.box k T' ps)) (hn1 : ps.all (·.ni) = true) : ∀ c a w, Sit X i pre suc c a w → ∃ g cs, a.tmps[k]? = some (ptr g) ∧ Row w g T' cs ∧ cs.length = ps.length ∧ (∀ u ∈ cs, NotInt u) ∧ ∀ w' vs, Evol w w' → All2 qs vs w' → All2 (ps.take off ++ qs ++ ps.drop (off + n)) (cs.take off ++ vs ++ cs.drop (off + n)) w' := fun c a w s => by
  obtain ⟨g, cs, h1, h2, h3⟩ := h c a w s
  exact ⟨g, cs, h1, h2, h3.len, h3.noint hn1, fun w' vs e hv => (((h3.take off).st e).app hv).app ((h3.drop _).st e)⟩
theorem av_own {k n : Nat} {T' : TypeId} {qs : List VP} (h : Av X i pre suc (.own k T' n)) : ∀ c a w, Sit X i pre suc c a w → ∃ g cs, a.tmps[k]? = some (ptr g) ∧ Row w g T' cs ∧ cs.length = n ∧ (∀ u ∈ cs, NotInt u) ∧ ∀ w' vs, Evol w w' → All2 qs vs w' → All2 qs (cs.take 0 ++ vs ++ cs.drop (0 + n)) w' := fun c a w s => by
  obtain ⟨g, cs, h1, h2, h3, h4⟩ := h c a w s
  refine ⟨g, cs, h1, h2, h3, h4, fun w' vs e hv => ?_⟩
  rw [List.take_zero, List.drop_of_length_le (by omega), List.nil_append, List.append_nil]; exact hv

theorem pt_own {k n : Nat} {T : TypeId} (h : Av X i pre suc (.own k T n)) : Pt X i pre suc (.tmp k) k 0 := fun c a w s => by
  obtain ⟨g, cs, h1, _⟩ := h c a w s
  exact ⟨g, h1, eval_tmp h1⟩
theorem does_allocOwn {o : Oper} {d : Nat} {T : TypeId} {zs : List Value} (ps : List VP) (hz : zeroOf X.P T zs) (hop : o.op = .alloc T) (hd : o.dst = some d) (hlt : decide (d < X.N) = true) (hc : chk X i pre suc d = true) (hr : resOf X i = [(i, .own d T zs.length)])
    (h : ∀ w, All2 ps zs w) (hn : ps.all (·.ni) = true) : Does X i pre suc o := by
  intro c a w s Q K hK
  have hlt' := of_decide_eq_true hlt
  have hrun : (execOp a.eval o).run X.P w = .ok (.value (ptr w.heap.size)) (w.alloc (.cells zs.toArray T)) := by
    unfold zeroOf at hz
    obtain ⟨ti, h1, h2⟩ := Option.bind_eq_some_iff.1 hz
    obtain ⟨v, h3, h4⟩ := Option.map_eq_some_iff.1 h2
    unfold execOp; rw [hop]
    simp [Instr.alloc, zeroValue, typeInfo, h1, h3, newVar, newRow, ptr, ← h4]
  unfold Oper.wp
  rw [hrun]
  show K (a.put o.dst (ptr w.heap.size)) _
  rw [hd]
  exact hK _ _ (inv_put s (Ext.new w _) (s.inv.1.new hlt' _) hc (res_one hr ⟨w.heap.size, zs, put_eq _ (by rw [s.inv.1.1]; exact hlt'), Row.new w T zs, rfl, (h w).noint hn⟩))
theorem does_storeNew {o : Oper} {k : Nat} {T T' : TypeId} {qs : List VP} (n : Nat) (y z : Operand) (ht : aggTy X.P T n = true) (hop : o.op = .store T y z) (hd : o.dst = none) (hc : chkS X i pre suc k T' = true)
    (hr : resOf X i = [(i, .box k T' qs)]) (hl : (decide (qs.length = n) && qs.all (·.ni) && qs.all (·.one)) = true) (hp : Pt X i pre suc y k 0) (h : Av X i pre suc (.own k T' n))
    (hz : Ar X i pre suc z (VP.agg qs).p) : Does X i pre suc o := by
  simp only [Bool.and_eq_true, decide_eq_true_eq] at hl
  obtain ⟨⟨l2, l4⟩, l5⟩ := hl
  refine does_storeG (qs := qs) n n y z (run_sizeAgg ht) hop hd hc hr (by omega) hp (av_own h) l2 l4 l5 fun c a w s => ?_
  obtain ⟨cs, h1, h2⟩ := hz c a w s
  rw [h1]
  exact ⟨by simp [Value.cells, h2.len, l2], by simpa [Value.cells] using h2⟩

theorem does_storeAgg {o : Oper} {k off : Nat} {T T' : TypeId} {ps qs : List VP} (n : Nat) (y z : Operand) (ht : aggTy X.P T n = true) (hop : o.op = .store T y z) (hd : o.dst = none) (hc : chkS X i pre suc k T' = true)
    (hr : resOf X i = [(i, .box k T' (ps.take off ++ qs ++ ps.drop (off + n)))]) (hl : (decide (off + n ≤ ps.length) && decide (qs.length = n) && ps.all (·.ni) && qs.all (·.ni) && qs.all (·.one)) = true) (hp : Pt X i pre suc y k off) (h : Av X i pre suc (.box k T' ps))
    (hz : Ar X i pre suc z (VP.agg qs).p) : Does X i pre suc o := by
  simp only [Bool.and_eq_true, decide_eq_true_eq] at hl
  obtain ⟨⟨⟨⟨l1, l2⟩, l3⟩, l4⟩, l5⟩ := hl
  refine does_storeG (qs := qs) n ps.length y z (run_sizeAgg ht) hop hd hc hr l1 hp (av_row h l3) l2 l4 l5 fun c a w s => ?_
  obtain ⟨cs, h1, h2⟩ := hz c a w s
  rw [h1]
  exact ⟨by simp [Value.cells, h2.len, l2], by simpa [Value.cells] using h2⟩
theorem does_storeOne {o : Oper} {k off : Nat} {T T' : TypeId} {ps : List VP} {q : VP} (y z : Operand) (ht : oneTy X.P T = true) (hop : o.op = .store T y z) (hd : o.dst = none) (hc : chkS X i pre suc k T' = true)
    (hr : resOf X i = [(i, .box k T' (ps.take off ++ [q] ++ ps.drop (off + 1)))]) (hl : (decide (off + 1 ≤ ps.length) && ps.all (·.ni) && q.ni && q.one) = true) (hp : Pt X i pre suc y k off) (h : Av X i pre suc (.box k T' ps))
    (hz : Ar X i pre suc z q.p) : Does X i pre suc o := by
  simp only [Bool.and_eq_true, decide_eq_true_eq] at hl
  obtain ⟨⟨⟨l1, l3⟩, l4⟩, l5⟩ := hl
  refine does_storeG (qs := [q]) 1 ps.length y z (run_sizeOne ht) hop hd hc hr l1 hp (av_row h l3) rfl (by simp [l4]) (by simp [l5]) fun c a w s => ?_
  have h1 := hz c a w s
  have h2 := q.hone l5 _ _ h1
  have h3 : (a.eval z).cells = #[a.eval z] := by
    generalize a.eval z = v at *
    cases v <;> first | rfl | (simp [Value.oneCell'] at h2)
  show (a.eval z).cells.size = 1 ∧ All2 [q] (a.eval z).cells.toList w
  rw [h3]
  exact ⟨rfl, h1, trivial⟩

/-! ### len; comparisons -/
theorem does_len {o : Oper} {d : Nat} {k : IntKind} {l : List Nat} (T : TypeId) (y : Operand) (ht : (match X.P.underlying T with | some (.slice _) => true | _ => false) = true) (hop : o.op = .call { callee := .builtin .len, args := #[y], argTypes := #[T] }) (hd : o.dst = some d) (hlt : (decide (d < X.N) && !X.B.contains d) = true) (hc : chk X i pre suc d = true)
    (hr : resOf X i = [(i, .slot d (VP.int .i64 (l.length : Nat)))]) (h : Ar X i pre suc y (VP.nums k l).p) : Does X i pre suc o :=
  does_run hd hlt hc hr fun c a w s => by
    obtain ⟨ad, cp, h1, _⟩ := h c a w s
    split at ht
    · rename_i e hu
      refine ⟨.int .i64 (l.length : Nat), ?_, rfl⟩
      unfold execOp; rw [hop]
      simp [resolve, invoke, builtin, Builtin.len_, run_underlying hu, h1, goInt]
    · cases ht
theorem does_cmp {o : Oper} {d : Nat} {m n : Int} {b : Bool} (op : BinOp) (T T' : TypeId) (y z : Operand) (hop : o.op = .binOp op T y z T') (hd : o.dst = some d) (hlt : (decide (d < X.N) && !X.B.contains d) = true) (hc : chk X i pre suc d = true)
    (hr : resOf X i = [(i, .slot d (VP.bool b))])
    (hb : (match op with | .eql => some (m == n) | .neq => some (m != n) | .lss => some (decide (m < n)) | .leq => some (decide (m ≤ n)) | .gtr => some (decide (m > n)) | .geq => some (decide (m ≥ n)) | _ => none) = some b)
    (k : IntKind) (h1 : Ar X i pre suc y (VP.int k m).p) (h2 : Ar X i pre suc z (VP.int k n).p) : Does X i pre suc o :=
  does_run hd hlt hc hr fun c a w s => by
    have e1 : a.eval y = .int k m := h1 c a w s
    have e2 : a.eval z = .int k n := h2 c a w s
    refine ⟨.bool b, ?_, rfl⟩
    unfold execOp; rw [hop]
    cases op <;> simp at hb <;> (subst hb; simp [e1, e2, eqGuard, binOp, Op.intCmp])
theorem does_eqStr {o : Oper} {d : Nat} {u v : ByteArray} {b : Bool} (op : BinOp) (T T' : TypeId) (y z : Operand) (hop : o.op = .binOp op T y z T') (hd : o.dst = some d) (hlt : (decide (d < X.N) && !X.B.contains d) = true) (hc : chk X i pre suc d = true)
    (hr : resOf X i = [(i, .slot d (VP.bool b))])
    (hb : (match op with | .eql => some (u.toList == v.toList) | .neq => some (!(u.toList == v.toList)) | _ => none) = some b)
    (h1 : Ar X i pre suc y (VP.str u).p) (h2 : Ar X i pre suc z (VP.str v).p) : Does X i pre suc o :=
  does_run hd hlt hc hr fun c a w s => by
    have e1 : a.eval y = .string u := h1 c a w s
    have e2 : a.eval z = .string v := h2 c a w s
    refine ⟨.bool b, ?_, rfl⟩
    unfold execOp; rw [hop]
    cases op <;> first
      | (cases hb; done)
      | (have hb' := Option.some.inj hb; subst hb'; simp [e1, e2, eqGuard, binOp, Op.stringOp])
end
end Go.Proofs.Ytmlnpagkabmmpaa

/- The logic over slots and boxes: structs and slices that are built. -/
namespace Go.Proofs.Ytmlnpagkabmmpaa
open Go.RowKit

theorem fold_set (off : Nat) : ∀ (vs : List Value) (k : Nat) (cs : Array Value), off + k + vs.length ≤ cs.size →
    (vs.zipIdx k).foldl (fun (cs : Array Value) (x : Value × Nat) => cs.setIfInBounds (off + x.2) x.1) cs = (cs.toList.take (off + k) ++ vs ++ cs.toList.drop (off + k + vs.length)).toArray
  | [], k, cs, _ => by simp
  | v :: vs, k, cs, h => by
    simp only [List.length_cons] at h
    rw [List.zipIdx_cons, List.foldl_cons, fold_set off vs (k + 1) _ (by simp; omega)]
    simp only [Array.toList_setIfInBounds, List.length_cons]
    congr 1
    have h1 : (cs.toList.set (off + k) v).take (off + (k + 1)) = cs.toList.take (off + k) ++ [v] := by
      rw [show off + (k + 1) = off + k + 1 by omega, List.take_succ_eq_append_getElem (by simp; omega)]
      simp [List.take_set_of_le]
    have h2 : (cs.toList.set (off + k) v).drop (off + (k + 1) + vs.length) = cs.toList.drop (off + k + (vs.length + 1)) := by
      rw [List.drop_set_of_lt (by omega)]
      congr 1; omega
    rw [h1, h2]
    simp
theorem fold_set' (off : Nat) (vs : Array Value) (cs : Array Value) (h : off + vs.size ≤ cs.size) :
    vs.zipIdx.foldl (fun (cs : Array Value) (x : Value × Nat) => cs.setIfInBounds (off + x.2) x.1) cs = (cs.toList.take off ++ vs.toList ++ cs.toList.drop (off + vs.size)).toArray := by
  have := fold_set off vs.toList 0 cs (by simpa using h)
  rw [← Array.foldl_toList]
  simpa using this

def spl (ps : List VP) (off : Nat) (qs : List VP) : List VP := ps.take off ++ qs ++ ps.drop (off + qs.length)
/-- a value of n cells -/
def cellsAre (qs : List VP) (v : Value) (w : World) : Prop := v.cells.size = qs.length ∧ All2 qs v.cells.toList w

inductive Parts (X : Cx) (i : Nat) (pre suc : List Nat) (place : Nat → Option (Nat × Nat)) : List (Nat × Operand) → List VP → List VP → Prop where
  | nil (ps : List VP) : Parts X i pre suc place [] ps ps
  | cons {f : Nat} {x : Operand} {rest : List (Nat × Operand)} {ps ps' : List VP} (off : Nat) (qs : List VP) (hp : place f = some (off, qs.length)) (hl : decide (off + qs.length ≤ ps.length) = true) (hx : Ar X i pre suc x (cellsAre qs))
      (h : Parts X i pre suc place rest (spl ps off qs) ps') : Parts X i pre suc place ((f, x) :: rest) ps ps'

section
variable {X : Cx} {i : Nat} {pre suc : List Nat}
theorem parts_fill {place : Nat → Option (Nat × Nat)} {c : Nat → Bool} {a : Act} {w : World} (s : Sit X i pre suc c a w) : ∀ {parts : List (Nat × Operand)} {ps ps' : List VP}, Parts X i pre suc place parts ps ps' → ∀ (cs : List Value), All2 ps cs w →
    ∃ ds : List Value, Instr.fill place cs.toArray (parts.map fun x => (x.1, a.eval x.2)) = some ds.toArray ∧ All2 ps' ds w := by
  intro parts ps ps' h
  induction h with
  | nil ps => intro cs hc; exact ⟨cs, rfl, hc⟩
  | cons off qs hp hl hx h ih =>
    intro cs hc
    obtain ⟨h1, h2⟩ := hx c a w s
    have hl := of_decide_eq_true hl
    have hlen := hc.len
    obtain ⟨ds, e1, e2⟩ := ih (cs.take off ++ (a.eval _).cells.toList ++ cs.drop (off + qs.length)) (((hc.take off).app h2).app (hc.drop _))
    refine ⟨ds, ?_, e2⟩
    rw [List.map_cons]
    unfold Instr.fill
    simp only [hp, h1]
    rw [if_neg (by simp; omega)]
    have := fold_set' off (a.eval _).cells cs.toArray (by rw [h1]; simp; omega)
    rw [h1] at this
    rw [← e1]
    congr 1

/-- where a struct's fields lie -/
def placesOf (P : Program) (T : TypeId) (pl : Array (Nat × Nat)) : Prop :=
  ∃ fs, P.underlying T = some (.struct fs) ∧ ∀ w, (fs.mapM fun f => (do pure (f.offset, ← sizeOf f.type) : Sem (Nat × Nat))).run P w = .ok pl w

theorem ar_cells_agg {x : Operand} {qs : List VP} (h : Ar X i pre suc x (VP.agg qs).p) : Ar X i pre suc x (cellsAre qs) := fun c a w s => by
  obtain ⟨cs, h1, h2⟩ := h c a w s
  rw [h1]
  exact ⟨by simp [Value.cells, h2.len], by simpa [Value.cells] using h2⟩
theorem ar_cells_one {x : Operand} {q : VP} (h1 : q.one = true) (h : Ar X i pre suc x q.p) : Ar X i pre suc x (cellsAre [q]) := fun c a w s => by
  have h3 := h c a w s
  have h2 := q.hone h1 _ _ h3
  have h4 : (a.eval x).cells = #[a.eval x] := by
    generalize a.eval x = v at *
    cases v <;> first | rfl | (simp [Value.oneCell'] at h2)
  unfold cellsAre
  rw [h4]
  exact ⟨rfl, h3, trivial⟩

theorem does_build {o : Oper} {d : Nat} {T : TypeId} {parts : Array (Nat × Operand)} {zs : List Value} {pl : Array (Nat × Nat)} {ps : List VP} (ps0 : List VP) (hz : zeroOf X.P T zs) (hpl : placesOf X.P T pl) (hop : o.op = .build T parts) (hd : o.dst = some d) (hlt : (decide (d < X.N) && !X.B.contains d) = true) (hc : chk X i pre suc d = true)
    (hr : resOf X i = [(i, .slot d (VP.agg ps))]) (h0 : ∀ w, All2 ps0 zs w) (h : Parts X i pre suc (fun f => pl[f]?) parts.toList ps0 ps) : Does X i pre suc o :=
  does_run hd hlt hc hr fun c a w s => by
    obtain ⟨ds, e1, e2⟩ := parts_fill s h zs (h0 w)
    refine ⟨.agg ds.toArray, ?_, ⟨ds, rfl, e2⟩⟩
    obtain ⟨fs, hu, hm⟩ := hpl
    unfold zeroOf at hz
    obtain ⟨ti, h1, h2⟩ := Option.bind_eq_some_iff.1 hz
    obtain ⟨v, h3, h4⟩ := Option.map_eq_some_iff.1 h2
    have hz' : (zeroValue T).run X.P w = .ok v w := by simp [zeroValue, typeInfo, h1, h3]
    have hcs : v.cells = zs.toArray := by rw [← h4]
    unfold execOp; rw [hop]
    have hpt : (Array.map (fun x => (x.1, a.eval x.2)) parts).toList = parts.toList.map (fun x => (x.1, a.eval x.2)) := by simp
    have hb : (Instr.build T (parts.map fun x => (x.1, a.eval x.2))).run X.P w = .ok (.agg ds.toArray) w := by
      unfold Instr.build
      simp only [Sem.run_bind, hz', Result.andThen_ok, run_underlying hu, hm w, hpt, hcs, e1, Sem.run_pure]
    have hb' : (Instr.build T (parts.map fun (i, x) => (i, a.eval x))).run X.P w = .ok (.agg ds.toArray) w := hb
    simp only [Sem.run_bind, hb', Result.andThen_ok, Sem.run_pure]

theorem run_eqBool {P : Program} (w : World) (d : Nat) {T : TypeId} (hu : P.underlying T = some .bool) (u v : Bool) : (Op.equalIn (d + 1) T (.bool u) (.bool v)).run P w = .ok (u == v) w := by
  simp [Op.equalIn, run_underlying hu]
theorem run_eqlBool {P : Program} (w : World) {T : TypeId} (hu : P.underlying T = some .bool) (u v : Bool) : (binOp .eql T (.bool u) (.bool v)).run P w = .ok (.bool (u == v)) w := by
  simp only [binOp]
  simp [Op.equal, Op.maxDepth, run_eqBool w 9999 hu]
theorem run_neqBool {P : Program} (w : World) {T : TypeId} (hu : P.underlying T = some .bool) (u v : Bool) : (binOp .neq T (.bool u) (.bool v)).run P w = .ok (.bool (!(u == v))) w := by
  simp only [binOp]
  simp [Op.equal, Op.maxDepth, run_eqBool w 9999 hu]
theorem does_eqBool {o : Oper} {d : Nat} {u v b : Bool} (op : BinOp) (T T' : TypeId) (y z : Operand) (hu : X.P.underlying T = some .bool) (hop : o.op = .binOp op T y z T') (hd : o.dst = some d) (hlt : (decide (d < X.N) && !X.B.contains d) = true) (hc : chk X i pre suc d = true)
    (hr : resOf X i = [(i, .slot d (VP.bool b))]) (hb : (match op with | .eql => some (u == v) | .neq => some (!(u == v)) | _ => none) = some b)
    (h1 : Ar X i pre suc y (VP.bool u).p) (h2 : Ar X i pre suc z (VP.bool v).p) : Does X i pre suc o :=
  does_run hd hlt hc hr fun c a w s => by
    have e1 : a.eval y = .bool u := h1 c a w s
    have e2 : a.eval z = .bool v := h2 c a w s
    refine ⟨.bool b, ?_, rfl⟩
    unfold execOp; rw [hop]
    cases op <;> first
      | (cases hb; done)
      | (have hb' := Option.some.inj hb; subst hb'; simp [e1, e2, eqGuard, run_eqlBool w hu, run_neqBool w hu])
theorem does_cat {o : Oper} {d : Nat} {u v : ByteArray} (T T' : TypeId) (y z : Operand) (hop : o.op = .binOp .add T y z T') (hd : o.dst = some d) (hlt : (decide (d < X.N) && !X.B.contains d) = true) (hc : chk X i pre suc d = true)
    (hr : resOf X i = [(i, .slot d (VP.str (u ++ v)))]) (hs : u.size + v.size ≤ 1000000)
    (h1 : Ar X i pre suc y (VP.str u).p) (h2 : Ar X i pre suc z (VP.str v).p) : Does X i pre suc o :=
  does_run hd hlt hc hr fun c a w s => by
    have e1 : a.eval y = .string u := h1 c a w s
    have e2 : a.eval z = .string v := h2 c a w s
    refine ⟨.string (u ++ v), ?_, rfl⟩
    unfold execOp; rw [hop]
    have hx : ¬ ((u.size + v.size : Nat) : Int) > IntKind.i64.max := by
      have : IntKind.i64.max = 9223372036854775807 := rfl
      rw [this]; omega
    simp only [e1, e2, eqGuard, binOp, Op.stringOp, if_neg hx, Sem.run_bind, Sem.run_pure]
    rfl

/-- a slice of n elements, built -/
theorem does_buildSlice {o : Oper} {d : Nat} {T E : TypeId} {n sz : Nat} {parts : Array (Nat × Operand)} {zs : List Value} {ps : List VP} (ps0 : List VP) (hz : zeroOf X.P E zs) (hu : X.P.underlying T = some (.slice E)) (hsz : ∀ w, (sizeOf E).run X.P w = .ok sz w)
    (hop : o.op = .buildSlice T n parts) (hd : o.dst = some d) (hlt : (decide (d < X.N) && !X.B.contains d) = true) (hc : chk X i pre suc d = true)
    (hr : resOf X i = [(i, .arr d E n ps)]) (hs : (decide (n * sz ≤ 100) && decide (0 < n * sz)) = true) (hzz : (Array.range (n * sz)).map (fun j => zs.toArray[j % zs.toArray.size]!) = ((List.replicate n zs).flatten).toArray) (h0 : ∀ w, All2 ps0 (List.replicate n zs).flatten w)
    (h : Parts X i pre suc (fun j => some (j * sz, sz)) parts.toList ps0 ps) : Does X i pre suc o :=
  does_val hd hlt hc fun c a w s Q K hK => by
    obtain ⟨ds, e1, e2⟩ := parts_fill s h _ (h0 w)
    simp only [Bool.and_eq_true, decide_eq_true_eq] at hs
    unfold zeroOf at hz
    obtain ⟨ti, h1, h2⟩ := Option.bind_eq_some_iff.1 hz
    obtain ⟨v, h3, h4⟩ := Option.map_eq_some_iff.1 h2
    have hz' : (zeroValue E).run X.P w = .ok v w := by simp [zeroValue, typeInfo, h1, h3]
    have hcs : v.cells = zs.toArray := by rw [← h4]
    have hpt : (Array.map (fun x => (x.1, a.eval x.2)) parts).toList = parts.toList.map (fun x => (x.1, a.eval x.2)) := by simp
    have hb : (Instr.buildSlice T n (parts.map fun x => (x.1, a.eval x.2))).run X.P w = .ok (.slice (some ⟨w.heap.size, 0, none⟩) n n) (w.alloc (.cells ds.toArray E)) := by
      unfold Instr.buildSlice
      simp only [Sem.run_bind, run_underlying hu, Result.andThen_ok, hsz w]
      rw [if_neg (by omega), if_neg (by omega)]
      simp only [Sem.run_bind, Sem.run_pure, hz', Result.andThen_ok, hcs, hpt, hzz, e1, newRow, run_newObj_alloc]
    have hb' : (Instr.buildSlice T n (parts.map fun (i, x) => (i, a.eval x))).run X.P w = .ok (.slice (some ⟨w.heap.size, 0, none⟩) n n) (w.alloc (.cells ds.toArray E)) := hb
    unfold Oper.wp execOp; rw [hop]
    simp only [Sem.run_bind, hb', Result.andThen_ok, Sem.run_pure]
    show K (a.put o.dst _) _
    rw [hd]
    simp only [Bool.and_eq_true, decide_eq_true_eq] at hlt
    exact hK _ _ (Ext.new w _) (res_one hr ⟨w.heap.size, ds, put_eq _ (by rw [s.inv.1.1]; exact hlt.1), Row.new w E ds, e2.st (.of_ext (Ext.new w _))⟩)
end
end Go.Proofs.Ytmlnpagkabmmpaa

/- The logic over slots and boxes: regions in whatever order, and code. -/
namespace Go.Proofs.Ytmlnpagkabmmpaa
open Go.RowKit

def preOf (o : Oper) : List Nat := (o.after.toList.filter (fun e => Region.binds .any e)).map (·.on)
/-- and what comes ahead of these -/
def pre2 (ops : List Oper) (o : Oper) : List Nat := preOf o ++ (preOf o).flatMap fun j => match ops[j]? with | some p => preOf p | none => []
def sucOf (ops : List Oper) (i : Nat) : List Nat := (List.range ops.length).filter fun j => match ops[j]? with | some o => (preOf o).contains i | none => false
/-- edges lead back -/
def seqB (ops : List Oper) : Bool := (List.range ops.length).all fun j => match ops[j]? with | some o => (preOf o).all (fun i => decide (i < j)) | none => true

/-- the operation runs -/
def Wants (X : Cx) (ops : List Oper) (i : Nat) (pre suc : List Nat) (o : Oper) : Prop := ∀ c a w, Sit X i pre suc c a w → Region.wanted o (yielded ops.toArray a.tmps) = true
/-- the operation is passed by -/
def Skips (X : Cx) (ops : List Oper) (i : Nat) (pre suc : List Nat) (o : Oper) : Prop := ∀ c a w, Sit X i pre suc c a w → Region.wanted o (yielded ops.toArray a.tmps) = false ∧ Inv X (upd c i) (a.put o.dst undef) w
def Rule (X : Cx) (ops : List Oper) (i : Nat) (o : Oper) : Prop :=
  (Wants X ops i (pre2 ops o) (sucOf ops i) o ∧ Does X i (pre2 ops o) (sucOf ops i) o) ∨ Skips X ops i (pre2 ops o) (sucOf ops i) o
def Rules (X : Cx) (ops : List Oper) : List Oper → Nat → Prop
  | [], _ => True
  | o :: os, i => Rule X ops i o ∧ Rules X ops os (i + 1)
theorem Rules.get {X : Cx} {ops : List Oper} : ∀ {os : List Oper} {k : Nat}, Rules X ops os k → ∀ {j : Nat} {o : Oper}, os[j]? = some o → Rule X ops (k + j) o
  | [], _, _, j, _, h => by simp at h
  | o :: _, k, h, 0, x, hx => by simp at hx; subst hx; exact h.1
  | _ :: _, k, h, j + 1, x, hx => by
    have := Rules.get h.2 (j := j) (o := x) (by simpa using hx)
    rwa [show k + 1 + j = k + (j + 1) by omega] at this

section
variable {X : Cx} {ops : List Oper}
theorem wants_plain {i : Nat} {pre suc : List Nat} {o : Oper} (h : o.guard = none) : Wants X ops i pre suc o := fun c a w _ => by simp [Region.wanted, h]
theorem yielded_of {o : Oper} {g t : Nat} (ho : ops[g]? = some o) (hd : o.dst = some t) {a : Act} {b : Bool} (h : a.tmps[t]? = some (.bool b)) : yielded ops.toArray a.tmps g = some b := by
  unfold yielded
  have : (ops.toArray)[g]? = some o := by simpa using ho
  simp [this, hd, h]
theorem wants_guard {i : Nat} {pre suc : List Nat} {o og : Oper} {g t : Nat} (b : Bool) (h : o.guard = some (g, b)) (ho : ops[g]? = some og) (hd : og.dst = some t) (hv : Av X i pre suc (.slot t (VP.bool b))) : Wants X ops i pre suc o := fun c a w s => by
  obtain ⟨v, h1, h2⟩ := hv c a w s
  have h2 : v = .bool b := h2
  subst h2
  simp [Region.wanted, h, yielded_of ho hd h1]
theorem skips_guard {i d : Nat} {pre suc : List Nat} {o og : Oper} {g t : Nat} (b : Bool) (h : o.guard = some (g, !b)) (ho : ops[g]? = some og) (hd : og.dst = some t) (hv : Av X i pre suc (.slot t (VP.bool b))) (hod : o.dst = some d)
    (hlt : (decide (d < X.N) && !X.B.contains d) = true) (hc : chk X i pre suc d = true) (hr : resOf X i = []) : Skips X ops i pre suc o := fun c a w s => by
  obtain ⟨v, h1, h2⟩ := hv c a w s
  have h2 : v = .bool b := h2
  subst h2
  refine ⟨by cases b <;> simp [Region.wanted, h, yielded_of ho hd h1], ?_⟩
  rw [hod]
  simp only [Bool.and_eq_true, decide_eq_true_eq] at hlt
  exact inv_put s (Ext.refl w) (s.inv.1.put (by simpa using hlt.2) undef (Ext.refl w)) hc (by rw [hr]; intro x hx; cases hx)

/-- what a slot holds whose operation was passed by -/
def VP.undef : VP := ⟨fun v _ => v = Go.undef, false, fun _ _ _ h _ => h, fun h => (by cases h), false, fun h => (by cases h), true, fun _ _ _ _ h => h⟩
theorem skips_guardU {i d : Nat} {pre suc : List Nat} {o og : Oper} {g t : Nat} (b : Bool) (h : o.guard = some (g, !b)) (ho : ops[g]? = some og) (hd : og.dst = some t) (hv : Av X i pre suc (.slot t (VP.bool b))) (hod : o.dst = some d)
    (hlt : (decide (d < X.N) && !X.B.contains d) = true) (hc : chk X i pre suc d = true) (hr : resOf X i = [(i, .slot d VP.undef)]) : Skips X ops i pre suc o := fun c a w s => by
  obtain ⟨v, h1, h2⟩ := hv c a w s
  have h2 : v = .bool b := h2
  subst h2
  refine ⟨by cases b <;> simp [Region.wanted, h, yielded_of ho hd h1], ?_⟩
  rw [hod]
  have hlt' := hlt
  simp only [Bool.and_eq_true, decide_eq_true_eq] at hlt
  exact inv_put s (Ext.refl w) (s.inv.1.put (by simpa using hlt.2) Go.undef (Ext.refl w)) hc (res_one hr (slot_put s.inv.1.1 hlt' rfl))
theorem skips_undefU {i d : Nat} {pre suc : List Nat} {o og : Oper} {g t : Nat} (b : Bool) (h : o.guard = some (g, b)) (ho : ops[g]? = some og) (hd : og.dst = some t) (hv : Av X i pre suc (.slot t VP.undef)) (hod : o.dst = some d)
    (hlt : (decide (d < X.N) && !X.B.contains d) = true) (hc : chk X i pre suc d = true) (hr : resOf X i = [(i, .slot d VP.undef)]) : Skips X ops i pre suc o := fun c a w s => by
  obtain ⟨v, h1, h2⟩ := hv c a w s
  have h2 : v = Go.undef := h2
  subst h2
  have hy : yielded ops.toArray a.tmps g = none := by
    unfold yielded
    have : (ops.toArray)[g]? = some og := by simpa using ho
    simp [this, hd, h1, Go.undef]
  refine ⟨by simp [Region.wanted, h, hy], ?_⟩
  rw [hod]
  have hlt' := hlt
  simp only [Bool.and_eq_true, decide_eq_true_eq] at hlt
  exact inv_put s (Ext.refl w) (s.inv.1.put (by simpa using hlt.2) Go.undef (Ext.refl w)) hc (res_one hr (slot_put s.inv.1.1 hlt' rfl))

theorem rule_op {Q : Exit → Act → World → Prop} {i : Nat} {o : Oper} (ho : ops[i]? = some o) (hr : Rule X ops i o) {c : Nat → Bool} {a : Act} {w : World} (s : Sit X i (pre2 ops o) (sucOf ops i) c a w) {K : Act → World → Prop} (hK : ∀ a' w', Inv X (upd c i) a' w' → K a' w') :
    wpOp X.P ops.toArray Q i K a w := by
  unfold wpOp
  have : (ops.toArray)[i]? = some o := by simpa using ho
  rw [this]
  simp only
  rcases hr with ⟨h1, h2⟩ | h
  · rw [if_pos (h1 c a w s)]
    exact .inl (h2 c a w s Q K hK)
  · obtain ⟨h1, h2⟩ := h c a w s
    rw [if_neg (by rw [h1]; exact Bool.false_ne_true)]
    exact hK _ _ h2

theorem pre_lt (hq : seqB ops = true) {i : Nat} {o : Oper} (ho : ops[i]? = some o) : ∀ j ∈ preOf o, j < i := by
  intro j hj
  unfold seqB at hq
  rw [List.all_eq_true] at hq
  have := hq i (List.mem_range.2 (List.getElem?_eq_some_iff.1 ho).1)
  rw [ho] at this
  simp only [List.all_eq_true, decide_eq_true_eq] at this
  exact this j hj
theorem mem_pre2 {o : Oper} {j : Nat} (h : j ∈ pre2 ops o) : j ∈ preOf o ∨ ∃ k p, k ∈ preOf o ∧ ops[k]? = some p ∧ j ∈ preOf p := by
  unfold pre2 at h
  rw [List.mem_append] at h
  rcases h with h | h
  · exact .inl h
  · rw [List.mem_flatMap] at h
    obtain ⟨k, hk, h⟩ := h
    cases ho : ops[k]? with
    | none => rw [ho] at h; cases h
    | some p => rw [ho] at h; exact .inr ⟨k, p, hk, ho, h⟩
theorem pre2_lt (hq : seqB ops = true) {i : Nat} {o : Oper} (ho : ops[i]? = some o) : ∀ j ∈ pre2 ops o, j < i := by
  intro j hj
  rcases mem_pre2 hj with h | ⟨k, p, h1, h2, h3⟩
  · exact pre_lt hq ho j h
  · have := pre_lt hq ho k h1
    have := pre_lt hq h2 j h3
    omega
theorem suc_spec {i j : Nat} (h : j ∈ sucOf ops i) : ∃ o, ops[j]? = some o ∧ i ∈ preOf o := by
  unfold sucOf at h
  rw [List.mem_filter] at h
  obtain ⟨h1, h2⟩ := h
  cases ho : ops[j]? with
  | none => rw [ho] at h2; cases h2
  | some o => rw [ho] at h2; exact ⟨o, rfl, by simpa using h2⟩

/-- in the order of the text -/
theorem seq_ok {Q : Exit → Act → World → Prop} (hq : seqB ops = true) (hr : Rules X ops ops 0) (fin : ∀ a w, Inv X (fun j => decide (j < ops.length)) a w → Q .normal a w) :
    ∀ (m k : Nat), k + m = ops.length → ∀ a w, Inv X (fun j => decide (j < k)) a w → wpOps X.P ops.toArray Q (List.range' k m) a w := by
  intro m
  induction m with
  | zero =>
    intro k hk a w hi
    obtain rfl : k = ops.length := by omega
    exact fin a w hi
  | succ m ih =>
    intro k hk a w hi
    have hlt : k < ops.length := by omega
    rw [List.range'_succ, wpOps_cons]
    have ho : ops[k]? = some ops[k] := List.getElem?_eq_getElem hlt
    have hrk := hr.get ho
    rw [Nat.zero_add] at hrk
    refine rule_op ho hrk ⟨by simp, fun j hj => by simpa using pre2_lt hq ho j hj, fun j hj => ?_, hi⟩ fun a' w' hi' => ih (k + 1) (by omega) a' w' ?_
    · obtain ⟨o, h1, h2⟩ := suc_spec hj
      have := pre_lt hq h1 k h2
      simp; omega
    · have : upd (fun j => decide (j < k)) k = fun j => decide (j < k + 1) := by
        funext j
        unfold upd
        by_cases e : j = k
        · subst e; simp
        · rw [if_neg e]
          show decide (j < k) = decide (j < k + 1)
          by_cases h : j < k
          · rw [decide_eq_true h, decide_eq_true (by omega)]
          · rw [decide_eq_false h, decide_eq_false (by omega)]
      rwa [this] at hi'

def cOf (listed : Array Bool) : Nat → Bool := fun i => listed.getD i false
theorem cOf_set {listed : Array Bool} {i : Nat} (h : i < listed.size) : cOf (listed.setIfInBounds i true) = upd (cOf listed) i := by
  funext j
  unfold cOf upd
  by_cases e : j = i
  · subst e; rw [if_pos rfl]; simp [h]
  · rw [if_neg e, getD_set_ne false (Ne.symm e)]
/-- how many have not come up -/
def left (listed : Array Bool) : Nat := listed.toList.countP (fun b => !b)
theorem left_set {listed : Array Bool} {i : Nat} (h : i < listed.size) (hf : listed.getD i true = false) : left (listed.setIfInBounds i true) + 1 = left listed := by
  unfold left
  have hg : listed.toList[i] = false := by simpa [h] using hf
  rw [Array.toList_setIfInBounds, List.countP_set (by simpa using h)]
  have : 0 < listed.toList.countP (fun b => !b) := by
    rw [List.countP_pos_iff]
    exact ⟨false, by rw [← hg]; exact List.getElem_mem _, rfl⟩
  rw [hg]
  simp only [Bool.not_false, if_true, Bool.not_true, Bool.false_eq_true, if_false]
  omega
theorem ready_lt {listed : Array Bool} (_hs : listed.size = ops.length) {i : Nat} (h : listed.getD i true = false) : i < listed.size := by
  by_cases hh : i < listed.size
  · exact hh
  · simp [hh] at h
/-- where nothing may come up all has come up -/
theorem all_up (hq : seqB ops = true) {listed : Array Bool} (hs : listed.size = ops.length) (h : Region.ready .any ops.toArray listed = []) : ∀ i, i < ops.length → cOf listed i = true := by
  intro i
  induction i using Nat.strongRecOn with
  | ind i ih =>
    intro hi
    cases hc : cOf listed i with
    | true => rfl
    | false =>
      exfalso
      have hl : listed.getD i true = false := by
        unfold cOf at hc
        have : i < listed.size := by omega
        simpa [this] using hc
      have : i ∈ Region.ready .any ops.toArray listed := by
        rw [mem_ready]
        refine ⟨hl, ops[i], by simp [hi], fun e he hb => ?_⟩
        have hj : e.on ∈ preOf ops[i] := by
          unfold preOf
          rw [List.mem_map]
          exact ⟨e, by rw [List.mem_filter]; exact ⟨by simpa using he, hb⟩, rfl⟩
        have hlt := pre_lt hq (List.getElem?_eq_getElem hi) _ hj
        exact ih _ hlt (by omega)
      rw [h] at this
      cases this
theorem any_ok {Q : Exit → Act → World → Prop} (hq : seqB ops = true) (hr : Rules X ops ops 0) (fin : ∀ a w c, (∀ i, i < ops.length → c i = true) → Inv X c a w → Q .normal a w) :
    ∀ (fuel : Nat) (listed : Array Bool), listed.size = ops.length → (∀ i o, ops[i]? = some o → cOf listed i = true → ∀ j ∈ preOf o, cOf listed j = true) → left listed ≤ fuel → ∀ a w, Inv X (cOf listed) a w → wpAny X.P .any ops.toArray Q fuel listed a w := by
  intro fuel
  induction fuel with
  | zero =>
    intro listed hs hcl hle a w hi
    have hall : ∀ i, i < ops.length → cOf listed i = true := by
      intro i hlt
      cases hc : cOf listed i with
      | true => rfl
      | false =>
        exfalso
        have h2 : i < listed.size := by omega
        have : 0 < left listed := by
          unfold left
          rw [List.countP_pos_iff]
          exact ⟨false, by unfold cOf at hc; rw [← hc]; simp [h2], rfl⟩
        omega
    refine ⟨?_, fin a w _ hall hi⟩
    apply List.eq_nil_iff_forall_not_mem.2
    intro i hm
    rw [mem_ready] at hm
    have h2 := ready_lt (ops := ops) hs hm.1
    have := hall i (by omega)
    unfold cOf at this
    have h1 := hm.1
    simp [h2] at h1 this
    rw [h1] at this; cases this
  | succ fuel ih =>
    intro listed hs hcl hle a w hi
    refine ⟨fun hn => fin a w _ (all_up hq hs hn) hi, fun i hm => ?_⟩
    rw [mem_ready] at hm
    obtain ⟨h1, o, h2, h3⟩ := hm
    have ho : ops[i]? = some o := by simpa using h2
    have hlt := ready_lt (ops := ops) hs h1
    have hrk := hr.get ho
    rw [Nat.zero_add] at hrk
    have hme : cOf listed i = false := by unfold cOf; simpa [hlt] using h1
    have hpre : ∀ j ∈ preOf o, cOf listed j = true := by
      intro j hj
      unfold preOf at hj
      rw [List.mem_map] at hj
      obtain ⟨e, he, rfl⟩ := hj
      rw [List.mem_filter] at he
      exact h3 e (by simpa using he.1) he.2
    refine rule_op ho hrk ⟨hme, fun j hj => by
      rcases mem_pre2 hj with h | ⟨k, p, h1, h2, h3⟩
      · exact hpre j h
      · exact hcl k p h2 (hpre k h1) j h3, fun j hj => ?_, hi⟩ fun a' w' hi' => ih _ (by simp [hs]) ?_ ?_ a' w' (by rw [cOf_set hlt]; exact hi')
    · obtain ⟨oj, h4, h5⟩ := suc_spec hj
      cases hc : cOf listed j with
      | false => rfl
      | true =>
        have := hcl j oj h4 hc i h5
        rw [hme] at this; cases this
    · intro k ok hk hck j hj
      rw [cOf_set hlt] at hck ⊢
      unfold upd at hck ⊢
      by_cases e : j = i
      · rw [if_pos e]
      · rw [if_neg e]
        by_cases ek : k = i
        · subst ek
          rw [ho] at hk
          injection hk with hk
          subst hk
          exact hpre j hj
        · rw [if_neg ek] at hck
          exact hcl k ok hk hck j hj
    · have := left_set hlt h1
      omega

/-- what is known behind a region -/
def After (X : Cx) (a : Act) (w : World) : Prop := Base X.w0 X.N X.B a w ∧ (∀ f ∈ X.fs, f.holds X.w0 a w) ∧ (∀ x ∈ X.rs, x.2.holds X.w0 a w)
theorem region_ok {Q : Exit → Act → World → Prop} {id : Nat} {draw : Bool} (hm : X.P.follows .mixedOrders = true) (hq : (seqB ops && X.rs.all (fun x => decide (x.1 < ops.length))) = true) (hr : Rules X ops ops 0) {a : Act} {w : World}
    (hb : Base X.w0 X.N X.B a w) (hf : ∀ f ∈ X.fs, f.holds X.w0 a w) (ho : ∀ x ∈ X.os, x.2.holds X.w0 a w) (fin : ∀ a w, After X a w → Q .normal a w) : (Code.region id ops.toArray draw).wp X.P Q a w := by
  simp only [Bool.and_eq_true] at hq
  obtain ⟨hq, hrs⟩ := hq
  rw [List.all_eq_true] at hrs
  cases draw with
  | false =>
    refine wp_region ?_
    have := seq_ok (Q := Q) hq hr (fun a w hi => fin a w ⟨hi.1, hi.2.1, fun x hx => hi.2.2.2.1 x hx (by simpa using hrs x hx)⟩) ops.length 0 (by omega) a w ⟨hb, hf, fun x hx _ => ho x hx, fun x hx hc => by simp at hc, fun x hx hc => by simp at hc⟩
    rw [List.range_eq_range']
    simpa using this
  | true =>
    refine wp_region_any hm ?_
    have h0 : cOf (Array.replicate ops.toArray.size false) = fun _ => false := by
      funext i
      unfold cOf
      by_cases h : i < ops.length <;> simp [h]
    refine any_ok (Q := Q) hq hr (fun a w c hc hi => fin a w ⟨hi.1, hi.2.1, fun x hx => hi.2.2.2.1 x hx (hc _ (by simpa using hrs x hx))⟩) ops.toArray.size _ (by simp) (fun i o _ hc => by rw [h0] at hc; cases hc) (by
      unfold left
      exact Nat.le_trans List.countP_le_length (by simp)) a _ ?_
    rw [h0]
    have e : Ext w { w with drawn := w.drawn + 1 } := (Ext.refl w).drew
    exact ⟨hb.ext e, fun f hx => fact_ext (hf f hx) e, fun x hx _ => fact_ext (ho x hx) e, fun x hx hc => (by cases hc), fun x hx hc => (by cases hc)⟩
end
end Go.Proofs.Ytmlnpagkabmmpaa

/- The logic over slots and boxes: code, functions. -/
namespace Go.Proofs.Ytmlnpagkabmmpaa
open Go.RowKit

structure Fr where
  P : Program
  w0 : World
  N : Nat
  B : List Nat
/-- these facts stand -/
def Fs (F : Fr) (fs : List Fact) (a : Act) (w : World) : Prop := Base F.w0 F.N F.B a w ∧ ∀ f ∈ fs, f.holds F.w0 a w
def T (F : Fr) (fs : List Fact) (c : Code) (Q : Exit → Act → World → Prop) : Prop := ∀ a w, Fs F fs a w → c.wp F.P Q a w
def Nx (F : Fr) (fs : List Fact) (Q : Exit → Act → World → Prop) : Prop := ∀ a w, Fs F fs a w → Q .normal a w
def Rt (F : Fr) (fs : List Fact) (Q : Exit → Act → World → Prop) : Prop := ∀ a w, Fs F fs a w → Q .ret a w
def Ex (F : Fr) (fs : List Fact) (id : Nat) (Q : Exit → Act → World → Prop) : Prop := ∀ a w, Fs F fs a w → Q (.exit id) a w

section
variable {F : Fr} {fs : List Fact} {Q : Exit → Act → World → Prop}
theorem fs_sub {fs' : List Fact} {a : Act} {w : World} (idx : List Nat) (h : idx.map (fun n => fs[n]?) = fs'.map some) (hf : Fs F fs a w) : Fs F fs' a w := by
  refine ⟨hf.1, fun f hm => ?_⟩
  have : some f ∈ idx.map (fun n => fs[n]?) := by rw [h]; exact List.mem_map.2 ⟨f, hm, rfl⟩
  obtain ⟨n, _, hn⟩ := List.mem_map.1 this
  exact hf.2 f (List.mem_of_getElem? hn)
theorem t_sub {fs' : List Fact} {c : Code} (idx : List Nat) (h : idx.map (fun n => fs[n]?) = fs'.map some) (ht : T F fs' c Q) : T F fs c Q := fun a w hf => ht a w (fs_sub idx h hf)
theorem nx_sub {fs' : List Fact} (idx : List Nat) (h : idx.map (fun n => fs[n]?) = fs'.map some) (ht : Nx F fs' Q) : Nx F fs Q := fun a w hf => ht a w (fs_sub idx h hf)

theorem t_seq {x y : Code} (h : T F fs x (Exit.then (fun a w => y.wp F.P Q a w) Q)) : T F fs (.seq x y) Q := fun a w hf => wp_seq (h a w hf)
theorem nx_then {y : Code} (h : T F fs y Q) : Nx F fs (Exit.then (fun a w => y.wp F.P Q a w) Q) := h
theorem rt_then {K : Act → World → Prop} (h : Rt F fs Q) : Rt F fs (Exit.then K Q) := h
theorem ex_then {K : Act → World → Prop} {id : Nat} (h : Ex F fs id Q) : Ex F fs id (Exit.then K Q) := h
theorem t_skip (h : Nx F fs Q) : T F fs .skip Q := fun a w hf => wp_skip (h a w hf)
theorem t_ret (h : Rt F fs Q) : T F fs .ret Q := fun a w hf => wp_ret (h a w hf)
theorem t_exit {id : Nat} (h : Ex F fs id Q) : T F fs (.exit id) Q := fun a w hf => wp_exit (h a w hf)
theorem t_block {id : Nat} {c : Code} (h : T F fs c (Exit.inBlock id Q)) : T F fs (.block id c) Q := fun a w hf => wp_block (h a w hf)
theorem nx_block {id : Nat} (h : Nx F fs Q) : Nx F fs (Exit.inBlock id Q) := h
theorem rt_block {id : Nat} (h : Rt F fs Q) : Rt F fs (Exit.inBlock id Q) := h
theorem ex_block {id : Nat} (h : Nx F fs Q) : Ex F fs id (Exit.inBlock id Q) := fun a w hf => by
  show (if id = id then Q .normal a w else Q (.exit id) a w)
  rw [if_pos rfl]; exact h a w hf
theorem ex_other {id id' : Nat} (hne : (id == id') = false) (h : Ex F fs id Q) : Ex F fs id (Exit.inBlock id' Q) := fun a w hf => by
  show (if id = id' then Q .normal a w else Q (.exit id) a w)
  rw [if_neg (by simpa using hne)]; exact h a w hf
theorem t_cond (n : Nat) {k : Nat} (b : Bool) {x y : Code} (hs : fs[n]? = some (.slot k (VP.bool b))) (h : T F fs (if b then x else y) Q) : T F fs (.cond (.tmp k) x y) Q := fun a w hf => by
  obtain ⟨v, h1, h2⟩ := hf.2 _ (List.mem_of_getElem? hs)
  have h2 : v = .bool b := h2
  subst h2
  exact wp_cond (eval_tmp h1) (h a w hf)
theorem t_cond_t (n : Nat) {k : Nat} {x y : Code} (hs : fs[n]? = some (.slot k (VP.bool true))) (h : T F fs x Q) : T F fs (.cond (.tmp k) x y) Q := t_cond n true hs h
theorem t_cond_f (n : Nat) {k : Nat} {x y : Code} (hs : fs[n]? = some (.slot k (VP.bool false))) (h : T F fs y Q) : T F fs (.cond (.tmp k) x y) Q := t_cond n false hs h

theorem t_cond_te (n : Nat) {k : Nat} {b : Bool} {x y : Code} (hs : fs[n]? = some (.slot k (VP.bool b))) (e : b = true) (h : T F fs x Q) : T F fs (.cond (.tmp k) x y) Q := by subst e; exact t_cond n true hs h
theorem t_cond_fe (n : Nat) {k : Nat} {b : Bool} {x y : Code} (hs : fs[n]? = some (.slot k (VP.bool b))) (e : b = false) (h : T F fs y Q) : T F fs (.cond (.tmp k) x y) Q := by subst e; exact t_cond n false hs h

/-- a region: fs: what stands all through; os: what stands until operation i; rs: what operation i lays -/
theorem t_region {id : Nat} {draw : Bool} {ops : List Oper} (fs1 : List Fact) (os rs : List (Nat × Fact)) (ms : List (Nat × Nat × Fact)) (i1 i2 : List Nat) (h1 : i1.map (fun n => fs[n]?) = fs1.map some) (h2 : i2.map (fun n => fs[n]?) = os.map (fun x => some x.2))
    (hm : F.P.follows .mixedOrders = true) (hq : (seqB ops && rs.all (fun x => decide (x.1 < ops.length))) = true)
    (hr : Rules ⟨F.P, F.w0, F.N, F.B, fs1, os, rs, ms⟩ ops ops 0) (hn : Nx F (fs1 ++ rs.map (·.2)) Q) : T F fs (.region id ops.toArray draw) Q := fun a w hf => by
  have hx := (fs_sub i1 h1 hf).2
  have ho : ∀ x ∈ os, x.2.holds F.w0 a w := by
    intro x hxm
    have : some x.2 ∈ i2.map (fun n => fs[n]?) := by rw [h2]; exact List.mem_map.2 ⟨x, hxm, rfl⟩
    obtain ⟨n, _, hn⟩ := List.mem_map.1 this
    exact hf.2 _ (List.mem_of_getElem? hn)
  refine region_ok (X := ⟨F.P, F.w0, F.N, F.B, fs1, os, rs, ms⟩) hm hq hr hf.1 hx ho fun a' w' ha => hn a' w' ⟨ha.1, fun f hfm => ?_⟩
  rw [List.mem_append] at hfm
  rcases hfm with hfm | hfm
  · exact ha.2.1 f hfm
  · obtain ⟨x, hxm, rfl⟩ := List.mem_map.1 hfm
    exact ha.2.2 x hxm

/-- a loop: what stands at a round's head, with a number that each round lowers -/
theorem t_loop {σ : Type} (I : σ → List Fact) (μ : σ → Nat) (s0 : σ) {body : Code} (idx : List Nat) (h0 : idx.map (fun n => fs[n]?) = (I s0).map some)
    (h : ∀ s, T F (I s) body (Exit.then (fun a w => ∃ s', μ s' < μ s ∧ Fs F (I s') a w) Q)) : T F fs (.loop body) Q := fun a w hf => by
  refine wp_loop_ghost (fun n a w => ∃ s, μ s = n ∧ Fs F (I s) a w) (μ s0) ⟨s0, rfl, fs_sub idx h0 hf⟩ fun n a w ⟨s, hs, hfs⟩ => ?_
  refine Code.wp_mono (fun e a' w' hq => ?_) (h s a w hfs)
  cases e with
  | normal => obtain ⟨s', h1, h2⟩ := hq; exact ⟨μ s', by omega, s', rfl, h2⟩
  | exit id => exact hq
  | goto l => exact hq
  | ret => exact hq
  | panic ch => exact hq
  | outgrown => exact hq
theorem nx_round {σ : Type} {I : σ → List Fact} {μ : σ → Nat} {s : σ} (s' : σ) (hm : μ s' < μ s) (idx : List Nat) (h : idx.map (fun n => fs[n]?) = (I s').map some) : Nx F fs (Exit.then (fun a w => ∃ s', μ s' < μ s ∧ Fs F (I s') a w) Q) :=
  fun _ _ hf => ⟨s', hm, fs_sub idx h hf⟩

/-- from within another walk -/
theorem tail_in {x y : Code} {K : Act → World → Prop} {a : Act} {w : World} (h : T F fs x (Exit.then (fun a w => y.wp F.P Q a w) Q)) (hk : ∀ a w, y.wp F.P Q a w → K a w) (hf : Fs F fs a w) : x.wp F.P (Exit.then K Q) a w :=
  Code.wp_mono (fun e a w q => by cases e <;> first | exact hk _ _ q | exact q) (h a w hf)

/-! ### the end of a function -/
def resSem (tmps : Array Value) : ResultVar → Sem Value
  | .tmp t => pure (tmps.getD t undef)
  | .cell a t => do loadVar t (← asAddr (tmps.getD a undef))
def Res (F : Fr) (fs : List Fact) (r : ResultVar) (x : VP) : Prop := ∀ a w, Fs F fs a w → ∃ v, (resSem a.tmps r).run F.P w = .ok v w ∧ x.p v w
theorem res_tmp (n : Nat) {t : Nat} {x : VP} (h : fs[n]? = some (.slot t x)) : Res F fs (.tmp t) x := fun a w hf => by
  obtain ⟨v, h1, h2⟩ := hf.2 _ (List.mem_of_getElem? h)
  exact ⟨v, by simp [resSem, h1], h2⟩
theorem res_tmpb (n : Nat) {t : Nat} {b b' : Bool} (h : fs[n]? = some (.slot t (VP.bool b))) (e : b = b') : Res F fs (.tmp t) (VP.bool b') := e ▸ res_tmp n h
theorem res_agg (n : Nat) {k : Nat} {T T' : TypeId} {ps : List VP} (ht : aggTy F.P T ps.length = true) (h : fs[n]? = some (.box k T' ps)) : Res F fs (.cell k T) (VP.agg ps) := fun a w hf => by
  obtain ⟨g, cs, h1, h2, h3⟩ := hf.2 _ (List.mem_of_getElem? h)
  have hl := h3.len
  have := run_loadRow (off := 0) ht h2 (by omega)
  rw [List.drop_zero, List.take_of_length_le (by omega)] at this
  exact ⟨_, by simp [resSem, h1, ptr, asAddr, this], cs, rfl, h3⟩
theorem res_one' (n : Nat) {k : Nat} {T T' : TypeId} {x : VP} (ht : oneTy F.P T = true) (h : fs[n]? = some (.box k T' [x])) : Res F fs (.cell k T) x := fun a w hf => by
  obtain ⟨g, cs, h1, h2, h3⟩ := hf.2 _ (List.mem_of_getElem? h)
  obtain ⟨v, hv, hp⟩ := h3.get (i := 0) (x := x) rfl
  have := run_loadCell ht h2 hv
  exact ⟨v, by simp [resSem, h1, ptr, asAddr, this], hp⟩

def post (w0 : World) (x : VP) (e : Ending) (w' : World) : Prop := ∃ v, e = .returned v ∧ x.p v w' ∧ Ext w0 w'
theorem rt_one {fn : Func} {r : ResultVar} {x : VP} (hfn : fn.results = #[r]) (h : Res F fs r x) : Rt F fs (bodyPost F.P fn (post F.w0 x)) := fun a w hf => by
  obtain ⟨v, h1, h2⟩ := h a w hf
  refine ⟨hf.1.2.1, v, ?_, v, rfl, h2, hf.1.2.2.1⟩
  cases r with
  | tmp t => simp only [resSem] at h1; simpa [results, hfn] using h1
  | cell k T => simp only [resSem] at h1; simp only [results, hfn]; simpa using h1
theorem rt_two {fn : Func} {r1 r2 : ResultVar} {x1 x2 : VP} (hfn : fn.results = #[r1, r2]) (h1 : Res F fs r1 x1) (h2 : Res F fs r2 x2) : Rt F fs (bodyPost F.P fn (post F.w0 (VP.tup [x1, x2]))) := fun a w hf => by
  obtain ⟨v1, e1, p1⟩ := h1 a w hf
  obtain ⟨v2, e2, p2⟩ := h2 a w hf
  refine ⟨hf.1.2.1, .tuple #[v1, v2], ?_, _, rfl, ⟨[v1, v2], rfl, p1, p2, trivial⟩, hf.1.2.2.1⟩
  have hm : (#[r1, r2].mapM (resSem a.tmps)).run F.P w = .ok #[v1, v2] w := by simp [e1, e2]
  have : (results fn a.tmps) = (do let vs ← fn.results.mapM (resSem a.tmps); pure (if h : vs.size = 1 then vs[0] else .tuple vs)) := by
    unfold results resSem; rfl
  rw [this, hfn]
  simp only [Sem.run_bind, hm, Result.andThen_ok]
  rfl
theorem rt_three {fn : Func} {r1 r2 r3 : ResultVar} {x1 x2 x3 : VP} (hfn : fn.results = #[r1, r2, r3]) (h1 : Res F fs r1 x1) (h2 : Res F fs r2 x2) (h3 : Res F fs r3 x3) : Rt F fs (bodyPost F.P fn (post F.w0 (VP.tup [x1, x2, x3]))) := fun a w hf => by
  obtain ⟨v1, e1, p1⟩ := h1 a w hf
  obtain ⟨v2, e2, p2⟩ := h2 a w hf
  obtain ⟨v3, e3, p3⟩ := h3 a w hf
  refine ⟨hf.1.2.1, .tuple #[v1, v2, v3], ?_, _, rfl, ⟨[v1, v2, v3], rfl, p1, p2, p3, trivial⟩, hf.1.2.2.1⟩
  have hm : (#[r1, r2, r3].mapM (resSem a.tmps)).run F.P w = .ok #[v1, v2, v3] w := by simp [e1, e2, e3]
  have : (results fn a.tmps) = (do let vs ← fn.results.mapM (resSem a.tmps); pure (if h : vs.size = 1 then vs[0] else .tuple vs)) := by
    unfold results resSem; rfl
  rw [this, hfn]
  simp only [Sem.run_bind, hm, Result.andThen_ok]
  rfl
end

/-! ### a function -/
def paramFacts : List VP → Nat → List Fact
  | [], _ => []
  | x :: xs, k => .slot k x :: paramFacts xs (k + 1)
theorem paramFacts_mem : ∀ {xs : List VP} {k : Nat} {f : Fact}, f ∈ paramFacts xs k → ∃ j x, xs[j]? = some x ∧ f = .slot (k + j) x
  | x :: xs, k, f, h => by
    simp only [paramFacts, List.mem_cons] at h
    rcases h with rfl | h
    · exact ⟨0, x, rfl, rfl⟩
    · obtain ⟨j, y, h1, h2⟩ := paramFacts_mem h
      exact ⟨j + 1, y, by simpa using h1, by rw [h2]; congr 1; omega⟩
theorem spec_of {P : Program} {f : FuncId} {fn : Func} {c : Code} {xs : List VP} {x : VP} (N : Nat) (B : List Nat) (hf : P.funcs[f]? = some fn) (hc : fn.body = some c) (hN : fn.ntmps = N) (hB : (B.all (fun k => decide (xs.length ≤ k)) && decide (xs.length ≤ N)) = true)
    (h : ∀ w0, T ⟨P, w0, N, B⟩ (paramFacts xs 0) c (bodyPost P fn (post w0 x))) : Spec P f (xs.map (·.p)) x := by
  intro vs w hs hv
  rw [List.length_map] at hs
  simp only [Bool.and_eq_true, decide_eq_true_eq, List.all_eq_true] at hB
  refine calls_of_wp hf hc (h w _ w ⟨⟨?_, rfl, Ext.refl w, ?_, ?_⟩, ?_⟩)
  · simp; omega
  · intro k hk g hg
    have := hB.1 k hk
    rw [Array.getElem?_append_right (by omega)] at hg
    have hu := Array.mem_of_getElem? hg
    rw [Array.mem_replicate] at hu
    have := hu.2
    unfold ptr undef at this
    cases this
  · intro k hk k' hk' _ g hg
    have := hB.1 k hk
    rw [Array.getElem?_append_right (by omega)] at hg
    have hu := Array.mem_of_getElem? hg
    rw [Array.mem_replicate] at hu
    have := hu.2
    unfold ptr undef at this
    cases this
  · intro fa hfa
    obtain ⟨j, y, h1, rfl⟩ := paramFacts_mem hfa
    obtain ⟨v, h2, h3⟩ := hv j y.p (by rw [List.getElem?_map, h1]; rfl)
    rw [Nat.zero_add]
    refine ⟨v, ?_, h3⟩
    have hj := (Array.getElem?_eq_some_iff.1 h2).1
    show (vs ++ _)[j]? = some v
    rw [Array.getElem?_append_left hj]; exact h2
end Go.Proofs.Ytmlnpagkabmmpaa

/- The logic over slots and boxes: rows that came in. -/
namespace Go.Proofs.Ytmlnpagkabmmpaa
open Go.RowKit

/-- a slice of n elements whose cells are known -/
def isRows (n : Nat) (ps : List VP) (v : Value) (w : World) : Prop := ∃ g off c, v = .slice (some ⟨g, off, none⟩) n c ∧ n ≤ c ∧ c ≤ maxLen ∧ g < w.heap.size ∧ Cells w g off ps
theorem arr_rows {T : TypeId} {n : Nat} {ps : List VP} {v : Value} {w : World} (hn : n ≤ maxLen) (h : isArr T n ps v w) : isRows n ps v w := by
  obtain ⟨g, cs, rfl, h1, h2⟩ := h
  refine ⟨g, 0, n, rfl, Nat.le_refl _, hn, h1.lt, fun j x hx => ?_⟩
  obtain ⟨u, hu, hp⟩ := h2.get hx
  exact ⟨u, by rw [Nat.zero_add]; exact h1.cell hu, hp⟩

section
variable {X : Cx} {i : Nat} {pre suc : List Nat}
theorem ar_rows {k n : Nat} {ps : List VP} (h : Av X i pre suc (.rows k n ps)) : Ar X i pre suc (.tmp k) (isRows n ps) := fun c a w s => by
  obtain ⟨g, off, cp, h1, h2, h3, h4, h5⟩ := h c a w s
  rw [eval_tmp h1]
  exact ⟨g, off, cp, rfl, h2, h3, Nat.lt_of_lt_of_le h4 s.inv.1.2.2.1.size, h5⟩
theorem ar_arr_rows {k : Nat} {T : TypeId} {n : Nat} {ps : List VP} (hn : n ≤ maxLen) (h : Av X i pre suc (.arr k T n ps)) : Ar X i pre suc (.tmp k) (isRows n ps) := fun c a w s => arr_rows hn (ar_arr h c a w s)
theorem does_moveRows {o : Oper} {d k n : Nat} {ps : List VP} (y : Operand) (hop : o.op = .move y ∨ o.op = .assign y) (hy : y = .tmp k) (hd : o.dst = some d) (hlt : (decide (d < X.N) && !X.B.contains d) = true) (hc : chk X i pre suc d = true)
    (hr : resOf X i = [(i, .rows d n ps)]) (h : Av X i pre suc (.rows k n ps)) : Does X i pre suc o :=
  does_val hd hlt hc fun c a w s Q K hK => by
    obtain ⟨g, off, cp, h1, h2, h3, h4, h5⟩ := h c a w s
    unfold Oper.wp execOp
    rcases hop with e | e <;> rw [e] <;> (
      show K (a.put o.dst (a.eval y)) w
      rw [hd, hy, eval_tmp h1]
      refine hK _ w (Ext.refl w) (res_one hr ⟨g, off, cp, put_eq _ ?_, h2, h3, h4, h5⟩)
      simp only [Bool.and_eq_true, decide_eq_true_eq] at hlt; rw [s.inv.1.1]; exact hlt.1)
theorem does_lenRows {o : Oper} {d k n : Nat} {ps : List VP} (T : TypeId) (y : Operand) (hy : y = .tmp k) (ht : (match X.P.underlying T with | some (.slice _) => true | _ => false) = true) (hop : o.op = .call { callee := .builtin .len, args := #[y], argTypes := #[T] }) (hd : o.dst = some d) (hlt : (decide (d < X.N) && !X.B.contains d) = true) (hc : chk X i pre suc d = true)
    (hr : resOf X i = [(i, .slot d (VP.int .i64 (n : Nat)))]) (h : Av X i pre suc (.rows k n ps)) : Does X i pre suc o :=
  does_run hd hlt hc hr fun c a w s => by
    obtain ⟨g, off, cp, h1, _⟩ := h c a w s
    split at ht
    · rename_i e hu
      refine ⟨.int .i64 (n : Nat), ?_, rfl⟩
      unfold execOp; rw [hop]
      subst hy
      simp [resolve, invoke, builtin, Builtin.len_, run_underlying hu, eval_tmp h1, goInt]
    · cases ht
/-- the address of element m -/
theorem does_indexRows {o : Oper} {d k n m sz off : Nat} {ps : List VP} {T E : TypeId} (y z : Operand) (hy : y = .tmp k) (hu : X.P.underlying T = some (.slice E)) (hsz : ∀ w, (sizeOf E).run X.P w = .ok sz w) (hop : o.op = .indexAddr T y z) (hd : o.dst = some d) (hlt : (decide (d < X.N) && !X.B.contains d) = true) (hk : (d == k) = false) (hc : chk X i pre suc d = true)
    (hr : resOf X i = [(i, .rp d k off)]) (hm : m < n) (ho : off = m * sz) (h : Av X i pre suc (.rows k n ps)) (hz : Ar X i pre suc z (VP.int .i64 (m : Nat)).p) : Does X i pre suc o :=
  does_val hd hlt hc fun c a w s Q K hK => by
    obtain ⟨g, o0, cp, h1, h2, h3, h4, h5⟩ := h c a w s
    have ez : a.eval z = .int .i64 (m : Nat) := hz c a w s
    have hrun : (Instr.indexAt T (.slice (some ⟨g, o0, none⟩) n cp) (.int .i64 (m : Nat))).run X.P w = .ok (.pointer (some ⟨g, o0 + off, none⟩)) w := by
      unfold Instr.indexAt
      have hlt' : (0 : Int) ≤ (m : Nat) ∧ ((m : Nat) : Int) < (n : Nat) := by omega
      simp only [asIntOf, Sem.run_bind, Sem.run_pure, Result.andThen_ok, run_underlying hu, if_pos hlt', hsz w, Int.toNat_natCast, add_plain, ← ho]
    unfold Oper.wp execOp
    rw [hop]
    subst hy
    simp only [eval_tmp h1, ez, Sem.run_bind, hrun, Result.andThen_ok, Sem.run_pure]
    show K (a.put o.dst _) w
    rw [hd]
    refine hK _ w (Ext.refl w) (res_one hr ⟨g, o0, n, cp, ?_, put_eq _ ?_⟩)
    · rw [put_ne _ (by simpa using hk)]; exact h1
    · simp only [Bool.and_eq_true, decide_eq_true_eq] at hlt; rw [s.inv.1.1]; exact hlt.1
theorem cells_all2 {w : World} {g : Nat} : ∀ {ps : List VP} {off : Nat}, Cells w g off ps → ∃ cs : List Value, All2 ps cs w ∧ ∀ j v, cs[j]? = some v → w.cell? ⟨g, off + j, none⟩ = some v
  | [], off, _ => ⟨[], trivial, fun j v h => by simp at h⟩
  | x :: ps, off, h => by
    obtain ⟨u, hu, hp⟩ := h 0 x rfl
    obtain ⟨cs, h1, h2⟩ := cells_all2 (ps := ps) (off := off + 1) (g := g) (w := w) (fun j y hy => by
      obtain ⟨v, hv, hq⟩ := h (j + 1) y (by simpa using hy)
      exact ⟨v, by rw [show off + 1 + j = off + (j + 1) by omega]; exact hv, hq⟩)
    refine ⟨u :: cs, ⟨hp, h1⟩, fun j v hv => ?_⟩
    cases j with
    | zero => simp at hv; subst hv; exact hu
    | succ j => rw [show off + (j + 1) = off + 1 + j by omega]; exact h2 j v (by simpa using hv)
theorem Cells.sub {w : World} {g off : Nat} {ps : List VP} (h : Cells w g off ps) (o m : Nat) : Cells w g (off + o) ((ps.drop o).take m) := fun j x hx => by
  rw [List.getElem?_take] at hx
  split at hx
  · rw [List.getElem?_drop] at hx
    rw [Nat.add_assoc]; exact h _ x hx
  · cases hx
/-- where a rows pointer leads -/
theorem rows_at {k d off n : Nat} {ps : List VP} (hp : Av X i pre suc (.rp d k off)) (h : Av X i pre suc (.rows k n ps)) : ∀ c a w, Sit X i pre suc c a w → ∃ g o, a.tmps[d]? = some (.pointer (some ⟨g, o + off, none⟩)) ∧ Cells w g o ps := fun c a w s => by
  obtain ⟨g, o, n1, c1, h1, h2⟩ := hp c a w s
  obtain ⟨g', o', c', h3, h4, h5, h6, h7⟩ := h c a w s
  rw [h1] at h3
  injection h3 with h3
  injection h3 with h3 h8 h9
  injection h3 with h3
  injection h3 with h3 h10
  subst h3 h10
  exact ⟨g, o, h2, h7⟩
theorem does_loadRows {o : Oper} {d e k off n m : Nat} {T : TypeId} {ps qs : List VP} (y : Operand) (hy : y = .tmp e) (ht : aggTy X.P T m = true) (hop : o.op = .load T y) (hd : o.dst = some d) (hlt : (decide (d < X.N) && !X.B.contains d) = true) (hc : chk X i pre suc d = true)
    (hr : resOf X i = [(i, .slot d (VP.agg qs))]) (hq : (ps.drop off).take m = qs) (hl : qs.length = m) (hp : Av X i pre suc (.rp e k off)) (h : Av X i pre suc (.rows k n ps)) : Does X i pre suc o :=
  does_run hd hlt hc hr fun c a w s => by
    obtain ⟨g, o0, h1, h2⟩ := rows_at hp h c a w s
    have h3 := h2.sub off m
    rw [hq] at h3
    obtain ⟨cs, h4, h5⟩ := cells_all2 h3
    have hcl := h4.len
    have := run_loadCells_list (P := X.P) w ⟨g, o0 + off, none⟩ cs (fun j v hv => by rw [add_plain]; exact h5 j v hv)
    rw [hcl, hl] at this
    refine ⟨.agg cs.toArray, ?_, cs, rfl, h4⟩
    unfold execOp; rw [hop]
    subst hy
    simp [eval_tmp h1, Instr.loadAt, Instr.sureAddr, loadVar, run_isAgg ht, run_sizeAgg ht, this]
theorem does_loadRowsOne {o : Oper} {d e k off n : Nat} {T : TypeId} {ps : List VP} {x : VP} (y : Operand) (hy : y = .tmp e) (ht : oneTy X.P T = true) (hop : o.op = .load T y) (hd : o.dst = some d) (hlt : (decide (d < X.N) && !X.B.contains d) = true) (hc : chk X i pre suc d = true)
    (hr : resOf X i = [(i, .slot d x)]) (hq : ps[off]? = some x) (hp : Av X i pre suc (.rp e k off)) (h : Av X i pre suc (.rows k n ps)) : Does X i pre suc o :=
  does_run hd hlt hc hr fun c a w s => by
    obtain ⟨g, o0, h1, h2⟩ := rows_at hp h c a w s
    obtain ⟨v, hv, hp⟩ := h2 off x hq
    refine ⟨v, ?_, hp⟩
    unfold execOp; rw [hop]
    subst hy
    simp [eval_tmp h1, Instr.loadAt, Instr.sureAddr, loadVar, run_isOne ht, hv]
theorem does_mulInt {o : Oper} {d : Nat} {m n : Int} (T T' : TypeId) (y z : Operand) (hop : o.op = .binOp .mul T y z T') (hd : o.dst = some d) (hlt : (decide (d < X.N) && !X.B.contains d) = true) (hc : chk X i pre suc d = true)
    (hr : resOf X i = [(i, .slot d (VP.int .i64 (m * n)))]) (hb : -9223372036854775808 ≤ m * n ∧ m * n < 9223372036854775808)
    (h1 : Ar X i pre suc y (VP.int .i64 m).p) (h2 : Ar X i pre suc z (VP.int .i64 n).p) : Does X i pre suc o :=
  does_run hd hlt hc hr fun c a w s => by
    have e1 : a.eval y = .int .i64 m := h1 c a w s
    have e2 : a.eval z = .int .i64 n := h2 c a w s
    refine ⟨.int .i64 (m * n), ?_, rfl⟩
    have hw : IntKind.i64.wrap (m * n) = m * n := IntWalk.i64_in _ (by omega)
    unfold execOp; rw [hop]
    simp [e1, e2, eqGuard, binOp, Op.intArith, hw]
theorem does_negInt {o : Oper} {d : Nat} {m : Int} (T : TypeId) (y : Operand) (hop : o.op = .unOp .neg T y) (hd : o.dst = some d) (hlt : (decide (d < X.N) && !X.B.contains d) = true) (hc : chk X i pre suc d = true)
    (hr : resOf X i = [(i, .slot d (VP.int .i64 (-m)))]) (hb : -9223372036854775808 ≤ -m ∧ -m < 9223372036854775808)
    (h1 : Ar X i pre suc y (VP.int .i64 m).p) : Does X i pre suc o :=
  does_run hd hlt hc hr fun c a w s => by
    have e1 : a.eval y = .int .i64 m := h1 c a w s
    refine ⟨.int .i64 (-m), ?_, rfl⟩
    have hw : IntKind.i64.wrap (-m) = -m := IntWalk.i64_in _ (by omega)
    unfold execOp; rw [hop]
    simp [e1, Op.unary, Op.intArith, hw]
/-- a sum of ints that stays an int -/
theorem does_addInt {o : Oper} {d : Nat} {m n : Int} (T T' : TypeId) (y z : Operand) (hop : o.op = .binOp .add T y z T') (hd : o.dst = some d) (hlt : (decide (d < X.N) && !X.B.contains d) = true) (hc : chk X i pre suc d = true)
    (hr : resOf X i = [(i, .slot d (VP.int .i64 (m + n)))]) (hb : -9223372036854775808 ≤ m + n ∧ m + n < 9223372036854775808)
    (h1 : Ar X i pre suc y (VP.int .i64 m).p) (h2 : Ar X i pre suc z (VP.int .i64 n).p) : Does X i pre suc o :=
  does_run hd hlt hc hr fun c a w s => by
    have e1 : a.eval y = .int .i64 m := h1 c a w s
    have e2 : a.eval z = .int .i64 n := h2 c a w s
    refine ⟨.int .i64 (m + n), ?_, rfl⟩
    have hw : IntKind.i64.wrap (m + n) = m + n := IntWalk.i64_in _ (by omega)
    unfold execOp; rw [hop]
    simp [e1, e2, eqGuard, binOp, Op.intArith, hw]
end

/-! ### parameters of any kind -/
inductive PK where
  | val (x : VP)
  | rows (n : Nat) (ps : List VP)
def PK.q : PK → Value → World → Prop
  | .val x => x.p
  | .rows n ps => isRows n ps
def PK.fact (k : Nat) : PK → Fact
  | .val x => .slot k x
  | .rows n ps => .rows k n ps
def pkFacts : List PK → Nat → List Fact
  | [], _ => []
  | x :: xs, k => x.fact k :: pkFacts xs (k + 1)
theorem pkFacts_mem : ∀ {xs : List PK} {k : Nat} {f : Fact}, f ∈ pkFacts xs k → ∃ (j : Nat) (x : PK), xs[j]? = some x ∧ f = x.fact (k + j)
  | x :: xs, k, f, h => by
    simp only [pkFacts, List.mem_cons] at h
    rcases h with rfl | h
    · exact ⟨0, x, rfl, rfl⟩
    · obtain ⟨j, y, h1, h2⟩ := pkFacts_mem h
      exact ⟨j + 1, y, by simpa using h1, by rw [h2]; congr 1; omega⟩
theorem spec_ofP {P : Program} {f : FuncId} {fn : Func} {c : Code} {xs : List PK} {x : VP} (N : Nat) (B : List Nat) (hf : P.funcs[f]? = some fn) (hc : fn.body = some c) (hN : fn.ntmps = N) (hB : (B.all (fun k => decide (xs.length ≤ k)) && decide (xs.length ≤ N)) = true)
    (h : ∀ w0, T ⟨P, w0, N, B⟩ (pkFacts xs 0) c (bodyPost P fn (post w0 x))) : Spec P f (xs.map (·.q)) x := by
  intro vs w hs hv
  rw [List.length_map] at hs
  simp only [Bool.and_eq_true, decide_eq_true_eq, List.all_eq_true] at hB
  have hnp : ∀ k ∈ B, ∀ g, (vs ++ Array.replicate (fn.ntmps - vs.size) undef)[k]? ≠ some (ptr g) := by
    intro k hk g hg
    have := hB.1 k hk
    rw [Array.getElem?_append_right (by omega)] at hg
    have hu := Array.mem_of_getElem? hg
    rw [Array.mem_replicate] at hu
    have := hu.2
    unfold ptr undef at this
    cases this
  refine calls_of_wp hf hc (h w _ w ⟨⟨?_, rfl, Ext.refl w, fun k hk g hg => absurd hg (hnp k hk g), fun k hk _ _ _ g hg => absurd hg (hnp k hk g)⟩, ?_⟩)
  · simp; omega
  · intro fa hfa
    obtain ⟨j, y, h1, rfl⟩ := pkFacts_mem hfa
    obtain ⟨v, h2, h3⟩ := hv j y.q (by rw [List.getElem?_map, h1]; rfl)
    rw [Nat.zero_add]
    have hj := (Array.getElem?_eq_some_iff.1 h2).1
    have hat : (vs ++ Array.replicate (fn.ntmps - vs.size) undef)[j]? = some v := by rw [Array.getElem?_append_left hj]; exact h2
    cases y with
    | val x => exact ⟨v, hat, h3⟩
    | rows n ps =>
      obtain ⟨g, off, cp, rfl, h4, h5, h6, h7⟩ := h3
      exact ⟨g, off, cp, hat, h4, h5, h6, h7⟩
end Go.Proofs.Ytmlnpagkabmmpaa
