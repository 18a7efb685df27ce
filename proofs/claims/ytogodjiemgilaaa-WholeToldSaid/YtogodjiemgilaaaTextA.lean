/- The text of an integer. -/
import Derived.Test.YtogodjiemgilaaaRevB
import Derived.Laws.BytesArg
namespace Go.Proofs.Ytogodjiemgilaaa
open Go.RowKit

/-- a text of bytes' numbers -/
def bs (l : List Nat) : ByteArray := ⟨(l.map UInt8.ofNat).toArray⟩
theorem conv_bytes {w : World} {a : Option Addr} {c : Nat} {l : List Nat} (h : Rd w a (ks .u8 l)) : (convert 59 9 (.slice a l.length c)).run Try.prog w = .ok (.string (bs l)) w := by
  cases l with
  | nil =>
    show (convert _ _ (.slice a 0 c)).run _ w = _
    rw [run_convert_bytes_string w _ _ 5 a 0 c Try.underlying59 Try.underlying5 Try.underlying9]
    cases a with
    | none => simp [Conv.bytesToString, bs, ByteArray.empty, ByteArray.emptyWithCapacity]; rfl
    | some p => simp [Conv.bytesToString, bs, loadCells, loadCellsFrom, ByteArray.empty, ByteArray.emptyWithCapacity]; rfl
  | cons d l' =>
    obtain ⟨b, off, rfl, _, hall⟩ := h.all (by simp [ks])
    have hl : (d :: l').length = ((d :: l').map Int.ofNat).length := by simp
    have := run_convert_bytes_arg w 59 5 Try.underlying59 Try.underlying5 b off (d :: l').length c ((d :: l').map Int.ofNat) hl.symm (fun i hi => by
      have := hall i (.int .u8 ((d :: l')[i] : Int)) (ks_get hi)
      rw [this]
      have e : ((d :: l').map Int.ofNat)[i]? = some (Int.ofNat (d :: l')[i]) := by rw [List.getElem?_map, List.getElem?_eq_getElem hi]; rfl
      rw [List.getD_eq_getElem?_getD, e]; rfl) 9 Try.underlying9
    rw [this]
    simp [strOfNums, bs]

theorem elemU8 : Elem Try.prog 59 5 (.int .u8 0) 1 1 := Elem.mk Try.underlying59 (by kernel_rfl) rfl (by decide)

/-- a row of the call's own that is not empty, its block whole -/
theorem own_row {w : World} {base : Nat} {e : TypeId} {n : Nat} {v : Value} {xs : List Value} (h : w.ownsRow base e 1 v n xs) (h0 : 0 < n) :
    ∃ g cap rest, v = .slice (some ⟨g, 0, none⟩) n cap ∧ base ≤ g ∧ Row w g e (xs ++ rest) ∧ n ≤ cap := by
  obtain ⟨h1, h2⟩ := h
  rcases h2 with ⟨rfl, rfl⟩ | ⟨g, cap, cur, rfl, hg, hh, hnc, hcm, hcs, htake⟩
  · exact absurd h0 (Nat.lt_irrefl 0)
  · refine ⟨g, cap, cur.toList.drop (n * 1), rfl, hg, ?_, hnc⟩
    show w.heap[g]? = _
    rw [hh, ← htake, List.take_append_drop]

/-- decimal digits as bytes, the least one first -/
def asc (l : List Nat) : List Nat := l.map (· + 48)
theorem asc_len (l : List Nat) : (asc l).length = l.length := by simp [asc]
theorem asc_append (a b : List Nat) : asc (a ++ b) = asc a ++ asc b := by simp [asc]
/-- the text of an integer -/
def txtR (s : Bool) (n : Nat) : List Nat := asc (dg 10 n) ++ (if n = 0 then [48] else []) ++ (if s then [45] else [])
def txt (z : Int) : ByteArray := bs (txtR (decide (z < 0)) z.natAbs).reverse

theorem ten_gt : 1 < 10 := by decide
theorem BB_pow (i : Nat) : BB ^ i = 10 ^ (9 * i) := by
  rw [show BB = 10 ^ 9 from rfl, ← Nat.pow_mul]
theorem dig9 (y k : Nat) (hk : k < 9) : y % BB / 10 ^ k % 10 = y / 10 ^ k % 10 := by
  have e : BB = 10 ^ k * 10 ^ (9 - k) := by rw [← Nat.pow_add, show k + (9 - k) = 9 by omega]; rfl
  rw [e, Nat.mod_mul_right_div_self]
  exact Nat.mod_mod_of_dvd _ ⟨10 ^ (9 - k - 1), by rw [← Nat.pow_succ', show (9 - k - 1).succ = 9 - k by omega]⟩
theorem dig_at (n i k : Nat) (hk : k < 9) : n / BB ^ i % BB / 10 ^ k % 10 = n / 10 ^ (9 * i + k) % 10 := by
  rw [dig9 _ _ hk, BB_pow, Nat.div_div_eq_div_mul, ← Nat.pow_add]
/-- one more digit stands -/
theorem dig_more (n i k len : Nat) (hlen : ∀ j, j < len ↔ BB ^ j ≤ n) (hk : k < 9) (h : 0 < n / BB ^ i % BB / 10 ^ k ∨ i + 1 < len) : 10 ^ (9 * i + k) ≤ n := by
  rcases h with h | h
  · have h1 : 10 ^ k ≤ n / BB ^ i % BB := by
      by_cases h1 : 10 ^ k ≤ n / BB ^ i % BB
      · exact h1
      · rw [Nat.div_eq_of_lt (by omega)] at h; omega
    have h2 : 10 ^ k ≤ n / BB ^ i := Nat.le_trans h1 (Nat.mod_le _ _)
    rw [Nat.le_div_iff_mul_le (Nat.pow_pos (by decide)), BB_pow, ← Nat.pow_add, Nat.add_comm] at h2
    exact h2
  · have h1 := (hlen (i + 1)).1 h
    rw [BB_pow] at h1
    exact Nat.le_trans (Nat.pow_le_pow_right (by decide) (by omega)) h1
/-- no digit stands any more -/
theorem dig_done (n i k : Nat) (hlen : n < BB ^ (i + 1)) (h : n / BB ^ i % BB / 10 ^ k = 0) : n < 10 ^ (9 * i + k) := by
  have h2 : n / BB ^ i < BB := by rw [Nat.div_lt_iff_lt_mul (Nat.pow_pos (by decide))]; rw [Nat.pow_succ, Nat.mul_comm] at hlen; exact hlen
  rw [Nat.mod_eq_of_lt h2] at h
  have h3 : n / BB ^ i < 10 ^ k := Nat.lt_of_div_eq_zero (Nat.pow_pos (by decide)) h
  rw [Nat.div_lt_iff_lt_mul (Nat.pow_pos (by decide)), BB_pow, ← Nat.pow_add, Nat.add_comm] at h3
  exact h3

/-- the text of a row that is turned round -/
def IsTxt (L : List Nat) (T : ByteArray) : Prop := bs L.reverse = T
/-- the text of a row of the call's own, turned round -/
theorem rev_text {W0 w : World} {g c m : Nat} {L : List Nat} {rest : List Value} (hm : m = L.length) (hl : m ≤ 100000000) (hg : W0.heap.size ≤ g) (x : Ext W0 w) (hr : Row w g 5 (ks .u8 L ++ rest)) {T : ByteArray} (hT : IsTxt L T) :
    Calls Try.prog 128 #[.slice (some ⟨g, 0, none⟩) m c] w fun e w' => e = .returned (.tuple #[]) ∧ Ext W0 w' ∧ (convert 59 9 (.slice (some ⟨g, 0, none⟩) m c)).run Try.prog w' = .ok (.string T) w' := by
  subst hm
  obtain rfl : bs L.reverse = T := hT
  refine (revb_walk g c L rest w hl hr).mono ?_
  rintro e w' ⟨rfl, h1, h2⟩
  refine ⟨rfl, x.grown h2 (fun k e => by cases e; exact hg), ?_⟩
  have h3 := h1.rd.take L.reverse.length
  rw [List.take_append_of_le_length (by rw [ks_len]; exact Nat.le_refl _), List.take_of_length_le (by rw [ks_len]; exact Nat.le_refl _)] at h3
  have := conv_bytes (c := c) h3
  rw [List.length_reverse] at this
  exact this

set_option maxRecDepth 100000 in
set_option maxHeartbeats 4000000 in
theorem textz_walk (z : Int) (a : Option Addr) (ca : Nat) (w : World) (hb : (dg BB z.natAbs).length ≤ 100000) (h : IsInt w z a ca) :
    Calls Try.prog 63 #[.agg #[.bool (decide (z < 0)), .slice a (dg BB z.natAbs).length ca]] w fun e w' => e = .returned (.string (txt z)) ∧ Ext w w' := by
  have hr := h.2.2
  have hlen := dg_len_lt BB_gt (n := z.natAbs)
  have hnb := lt_pow_len BB_gt z.natAbs
  have hs0 : z.natAbs = 0 → decide (z < 0) = false := fun h => decide_eq_false (by omega)
  unfold txt
  clear h
  obtain ⟨T, hT⟩ : ∃ T, bs (txtR (decide (z < 0)) z.natAbs).reverse = T := ⟨_, rfl⟩
  rw [hT]
  generalize z.natAbs = n at *
  generalize decide (z < 0) = s at *
  obtain ⟨l, hl⟩ : ∃ l, l = dg BB n := ⟨_, rfl⟩
  have hdig : ∀ i (hi : i < l.length), l[i] = n / BB ^ i % BB := fun i hi => by subst hl; exact dg_at BB_gt hi
  rw [← hl] at hr hb hnb ⊢
  have hlen : ∀ i, i < l.length ↔ BB ^ i ≤ n := fun i => by rw [hl]; exact hlen i
  have HNB := Lib.hid hnb
  have HLEN := Lib.hid hlen
  have HDIG := Lib.hid hdig
  have HR := Lib.hid hr
  have HS0 := Lib.hid hs0
  have HT := Lib.hid hT
  clear hl hdig hlen hnb hr hs0 hT
  go_enter Try.func63, Try.ntmps63
  go_wp2_with fail
  obtain ⟨W0, hW0⟩ : ∃ W0, w.alloc (.cells #[.bool s, .slice a l.length ca] 69) = W0 := ⟨_, rfl⟩
  have q0 : Row W0 w.heap.size 69 [.bool s, .slice a l.length ca] := by rw [← hW0]; exact Row.new w _ [_, _]
  have x0 : Ext w W0 := by rw [← hW0]; exact Ext.new _ _
  rw [hW0]
  clear hW0
  go_loopw [3, 10] (fun o iv wr => ∃ i J : Nat, i ≤ l.length ∧ J ≤ 9 * i ∧ iv = .int .i64 i ∧ wr.ownsRow W0.heap.size 5 1 o J (ks .u8 (asc (fixd 10 J n))) ∧ Ext W0 wr ∧ Hid ((J = 0 ∨ 10 ^ (J - 1) ≤ n) ∧ (i < l.length → J = 9 * i) ∧ (i = l.length → n < 10 ^ J))) (fun _ iv _ => l.length - (intOf iv).toNat)
  case atStart => exact ⟨0, 0, by omega, by omega, rfl, World.ownsRow_nil _ _ _ _, Ext.refl _, .inl rfl, fun _ => rfl, fun e => by have := HNB.out; rw [← e] at this; exact this⟩
  case round =>
    obtain ⟨i, J, hi, hJ, rfl, hown, hext, HH⟩ := hrel
    have q1 := q0.ext hext
    have k0 := q1.cell (i := 0) rfl
    have k1 := q1.cell (i := 1) rfl
    by_cases hlt : i < l.length
    · have HJ : J = 9 * i := HH.out.2.1 hlt
      subst HJ
      obtain ⟨b0, ob, rfl, hcb⟩ := (HR.out.ext (x0.trans hext)).num (i := i) hlt
      have hx : l[i] < 1000000000 := by rw [HDIG.out i hlt]; exact Nat.mod_lt _ (by decide)
      have hxk : Hid (l[i] = n / BB ^ i % BB) := HDIG.out i hlt
      generalize l[i] = x at *
      have HB1 : Hid (9 * i = 0 ∨ 10 ^ (9 * i - 1) ≤ n) := HH.out.1
      clear HH
      go_wp2_with fail
      clear k0 k1 q1 hcb
      go_loopw [3, 5, 6] (fun o d kv wr2 => ∃ k : Nat, k ≤ 9 ∧ kv = .int .i64 k ∧ d = .int .u32 ((x / 10 ^ k : Nat) : Int) ∧ wr2.ownsRow W0.heap.size 5 1 o (9 * i + k) (ks .u8 (asc (fixd 10 (9 * i + k) n))) ∧ Ext W0 wr2 ∧ Hid (9 * i + k = 0 ∨ 10 ^ (9 * i + k - 1) ≤ n)) (fun _ _ kv _ => 10 - (intOf kv).toNat)
      case atStart => exact ⟨0, by omega, rfl, by simp, hown, hext, HB1.out⟩
      case round =>
        obtain ⟨k, hk, rfl, rfl, hown2, hext2, HP⟩ := hrel
        have q1 := q0.ext hext2
        have k0 := q1.cell (i := 0) rfl
        have k1 := q1.cell (i := 1) rfl
        clear q1
        by_cases hmore : k < 9 ∧ (0 < x / 10 ^ k ∨ i + 1 < l.length)
        · obtain ⟨hk9, hor⟩ := hmore
          have HM : Hid (10 ^ (9 * i + k) ≤ n) := dig_more n i k l.length HLEN.out hk9 (by rw [← hxk.out]; exact hor)
          have HD : Hid (x / 10 ^ k % 10 = n / 10 ^ (9 * i + k) % 10) := by show _ = _; rw [hxk.out]; exact dig_at n i k hk9
          have HS : Hid (x / 10 ^ k / 10 = x / 10 ^ (k + 1)) := by show _ = _; rw [Nat.div_div_eq_div_mul, Nat.pow_succ]
          have hy : x / 10 ^ k < 1000000000 := Nat.lt_of_le_of_lt (Nat.div_le_self _ _) hx
          generalize hyy : x / 10 ^ k = y at *
          clear hyy
          have HC : Hid (∀ (v' : Value) (w1 : World), w1.ownsRow W0.heap.size 5 1 v' (9 * i + k + 1) (ks .u8 (asc (fixd 10 (9 * i + k) n)) ++ [.int .u8 ((48 + y % 10 : Nat) : Int)]) → Ext W0 w1 →
              ∃ k' : Nat, k' ≤ 9 ∧ Value.int .i64 ((k : Int) + 1) = .int .i64 k' ∧ Value.int .u32 ((y / 10 : Nat) : Int) = .int .u32 ((x / 10 ^ k' : Nat) : Int) ∧ w1.ownsRow W0.heap.size 5 1 v' (9 * i + k') (ks .u8 (asc (fixd 10 (9 * i + k') n))) ∧ Ext W0 w1 ∧ Hid (9 * i + k' = 0 ∨ 10 ^ (9 * i + k' - 1) ≤ n)) := by
            intro v' w1 own1 ext1
            refine ⟨k + 1, by omega, by go_num, by rw [HS.out], ?_, ext1, .inr ?_⟩
            · rw [show 9 * i + (k + 1) = 9 * i + k + 1 by omega, fixd_succ, asc_append, ks_append, ← HD.out]
              rw [Nat.add_comm 48] at own1
              exact own1
            · rw [show 9 * i + (k + 1) - 1 = 9 * i + k by omega]; exact HM.out
          clear HM HD HS HP
          by_cases hy0 : 0 < y
          · go_wp2_with (at_builtin; refine append_elem elemU8 hown2 hext2 (by unfold maxLen; omega) (by omega) rfl (by simp [Value.oneCell']) rfl _ _ rfl rfl rfl ?_; intro v' w1 own1 ext1 _)
            go_roundw
            case rel => exact HC.out _ _ own1 ext1
            case measure => simp [intOf]; omega
          · have hi1 : i + 1 < l.length := by omega
            have hyz : y = 0 := by omega
            subst hyz
            go_wp2_with (at_builtin; refine append_elem elemU8 hown2 hext2 (by unfold maxLen; omega) (by omega) rfl (by simp [Value.oneCell']) rfl _ _ rfl rfl rfl ?_; intro v' w1 own1 ext1 _)
            go_roundw
            case rel => exact HC.out _ _ own1 ext1
            case measure => simp [intOf]; omega
        · by_cases hk9 : k < 9
          · have hxz : x / 10 ^ k = 0 := Nat.eq_zero_of_not_pos fun h => hmore ⟨hk9, .inl h⟩
            have hi1 : ¬ i + 1 < l.length := fun h => hmore ⟨hk9, .inr h⟩
            have HXZ := Lib.hid hxz
            rw [hxz]
            clear hxz
            go_wp2_with fail
            go_roundw
            case rel => exact ⟨i + 1, 9 * i + k, by omega, by omega, by go_num, hown2, hext2, HP.out, fun h => absurd h hi1, fun e => dig_done n i k (by rw [e]; exact HNB.out) (by rw [← hxk.out]; exact HXZ.out)⟩
            case measure => simp [intOf]; omega
          · have hk9' : k = 9 := by omega
            subst hk9'
            have hyb : x / 10 ^ 9 < 1000000000 := Nat.lt_of_le_of_lt (Nat.div_le_self _ _) hx
            generalize x / 10 ^ 9 = y at *
            go_wp2_with fail
            go_roundw
            case rel => exact ⟨i + 1, 9 * i + 9, by omega, by omega, by go_num, hown2, hext2, HP.out, fun h => by omega, fun e => (by have := HNB.out; rw [← e, BB_pow] at this; exact this)⟩
            case measure => simp [intOf]; omega
    · have hi1 : i = l.length := by omega
      have HD : Hid (fixd 10 J n = dg 10 n) := fixd_dg ten_gt (HH.out.2.2 hi1) HH.out.1
      have hJ9 : J ≤ 900000 := by omega
      have HLJ : Hid (J = (dg 10 n).length) := by show _ = _; rw [← HD.out, fixd_len]
      rw [HD.out] at hown
      have hz := dg_len0 ten_gt n
      rw [← HLJ.out] at hz
      rcases Nat.eq_zero_or_pos J with hj0 | hj0
      · subst hj0
        have hn0 := hz.1 rfl
        subst hn0
        have hs := HS0.out rfl
        subst hs
        obtain ⟨a1, c1, rfl, g1, g2, g3⟩ := own_form hown
        have HTT : IsTxt [48] T := HT.out
        clear HT
        go_wp2_with (first
          | (at_builtin; refine append_elem elemU8 hown hext (by unfold maxLen; omega) (by omega) rfl (by simp [Value.oneCell']) rfl _ _ rfl rfl rfl ?_; intro v' w1 own1 ext1 _; obtain ⟨g, cap, rest, rfl, hgb, hrow, hnc⟩ := own_row own1 (by omega); have k5 := (q0.ext ext1).cell (i := 0) rfl)
          | (go_at_call 128; refine (rev_text (m := 1) (L := [48]) rfl (by omega) hgb ext1 (by exact hrow) HTT).mono ?_; rintro e w3 ⟨rfl, x3, hcv⟩))
        go_ret
        exact ⟨rfl, x0.trans x3⟩
      · have hn0 : ¬ n = 0 := fun e => by have := hz.2 e; omega
        have HT0 : Hid (txtR false n = asc (dg 10 n)) := by show _ = _; unfold txtR; rw [if_neg hn0]; simp
        have HT1 : Hid (txtR true n = asc (dg 10 n) ++ [45]) := by show _ = _; unfold txtR; rw [if_neg hn0]; simp
        have HI0 : s = false → IsTxt (asc (dg 10 n)) T := fun e => by subst e; show _ = _; rw [← HT0.out]; exact HT.out
        have HI1 : s = true → IsTxt (asc (dg 10 n) ++ [45]) T := fun e => by subst e; show _ = _; rw [← HT1.out]; exact HT.out
        have hla : J = (asc (dg 10 n)).length := by rw [asc_len]; exact HLJ.out
        clear hz hn0 HT HT0 HT1 HD HLJ
        generalize asc (dg 10 n) = L at *
        have HLA := Lib.hid hla
        clear hla
        cases s
        · obtain ⟨g, cap, rest, rfl, hgb, hrow, hnc⟩ := own_row hown hj0
          clear hown
          have HTT := HI0 rfl
          clear HI0 HI1
          have HROW := Lib.hid hrow
          go_wp2_with (go_at_call 128; refine (rev_text (L := L) HLA.out (by omega) hgb hext HROW.out HTT).mono ?_; rintro e w3 ⟨rfl, x3, hcv⟩)
          go_ret
          exact ⟨rfl, x0.trans x3⟩
        · obtain ⟨a1, c1, rfl, g1, g2, g3⟩ := own_form hown
          have HTT := HI1 rfl
          clear HI0 HI1
          have HLB : Hid (J + 1 = (L ++ [45]).length) := by show _ = _; rw [List.length_append, ← HLA.out]; rfl
          go_wp2_with (first
            | (at_builtin; refine append_elem elemU8 hown hext (by unfold maxLen; omega) (by omega) rfl (by simp [Value.oneCell']) rfl _ _ rfl rfl rfl ?_; intro v' w1 own1 ext1 _; obtain ⟨g, cap, rest, rfl, hgb, hrow, hnc⟩ := own_row own1 (by omega))
            | (go_at_call 128; refine (rev_text (L := L ++ [45]) HLB.out (by omega) hgb ext1 (by rw [ks_append]; exact hrow) HTT).mono ?_; rintro e w3 ⟨rfl, x3, hcv⟩))
          go_ret
          exact ⟨rfl, x0.trans x3⟩
end Go.Proofs.Ytogodjiemgilaaa
