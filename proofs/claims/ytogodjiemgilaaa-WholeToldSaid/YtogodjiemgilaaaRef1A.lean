/- The reference's decimal digits: cut, make1, add, sub. -/
import Derived.Test.YtogodjiemgilaaaLaw1
namespace Go.Proofs.Ytogodjiemgilaaa
open Go.RowKit

theorem elemI64 : Elem Try.prog 35 3 (.int .i64 0) 1 8 := Elem.mk Try.underlying35 (by kernel_rfl) rfl (by decide)
theorem fdig10 (n i : Nat) (h : i < (dg 10 n).length) : (dg 10 n)[i] = n / 10 ^ i % 10 := dg_at ten_gt h
/-- a row of no element -/
theorem own_empty (w : World) (base : Nat) (hb : base ≤ w.heap.size) : (w.alloc (.cells #[] 3)).ownsRow base 3 1 (.slice (some ⟨w.heap.size, 0, none⟩) 0 0) 0 [] :=
  ⟨rfl, .inr ⟨w.heap.size, 0, #[], rfl, hb, heap_alloc_new w _, Nat.le_refl _, by simp [maxLen], rfl, rfl⟩⟩

set_option maxRecDepth 100000 in
set_option maxHeartbeats 400000 in
theorem rcut_walk (a : Option Addr) (cap : Nat) (l : List Nat) (ln : Nat) (w : World) (hln : l.length = ln) (hc : ln ≤ cap) (hm : cap ≤ maxLen) (hr : Rd w a (ks .i64 l)) :
    Calls Try.prog 122 #[.slice a ln cap] w fun e w' => e = .returned (.slice a (stripN l l.length) cap) ∧ w = w' := by
  subst hln
  unfold maxLen at hm
  go_enter Try.func122, Try.ntmps122
  go_wp2
  go_loop [3] (fun i => ∃ k : Nat, k ≤ l.length ∧ i = .int .i64 k ∧ stripN l l.length = stripN l k) (fun i => (intOf i).toNat)
  case atStart => exact ⟨l.length, Nat.le_refl _, rfl, rfl⟩
  case round =>
    obtain ⟨k, hk, rfl, hs⟩ := hrel
    have HS := Lib.hid hs
    clear hs
    cases k with
    | zero =>
      go_wp2
      go_ret
      exact ⟨ret_slice HS.out.symm rfl, rfl⟩
    | succ k =>
      obtain ⟨b, off, rfl, hcell⟩ := hr.num (i := k) (by omega)
      have HK : Hid (stripN l (k + 1) = if l[k] = 0 then stripN l k else k + 1) := by
        show stripN l (k + 1) = _
        conv => lhs; unfold stripN
        rw [List.getElem?_eq_getElem (by omega)]; rfl
      by_cases hz : l[k] = 0
      · rw [hz] at hcell
        rw [if_pos hz] at HK
        go_wp2
        go_round
        case rel => exact ⟨k, by omega, by go_num, by rw [HS.out, HK.out]⟩
        case measure => simp [intOf]
      · have hz' : (((l[k] : Nat) : Int) == 0) = false := by simp; omega
        rw [if_neg hz] at HK
        go_wp2
        go_ret
        exact ⟨ret_slice (by rw [HS.out, HK.out]) rfl, rfl⟩

/-- a number of the reference's as an argument -/
def IsNum (w : World) (z : Int) (a : Option Addr) (c : Nat) : Prop := (dg 10 z.natAbs).length ≤ c ∧ c ≤ maxLen ∧ Rd w a (ks .i64 (dg 10 z.natAbs))
theorem IsNum.ext {w w' : World} {z : Int} {a : Option Addr} {c : Nat} (h : IsNum w z a c) (x : Ext w w') : IsNum w' z a c := ⟨h.1, h.2.1, h.2.2.ext x⟩
/-- a number of the reference's as a result -/
def GotNum (z : Int) (W : World) (e : Ending) (w' : World) : Prop := ∃ a c, e = .returned (.agg #[.bool (decide (z < 0)), .slice a (dg 10 z.natAbs).length c]) ∧ IsNum w' z a c ∧ Ext W w'

set_option maxRecDepth 100000 in
set_option maxHeartbeats 400000 in
theorem rmake1_walk (s : Bool) (a : Option Addr) (cap : Nat) (l : List Nat) (ln : Nat) (w : World) (hd : ∀ d ∈ l, d < 10) (hln : l.length = ln) (hc : ln ≤ cap) (hm : cap ≤ maxLen) (hr : Rd w a (ks .i64 l)) :
    Calls Try.prog 117 #[.bool s, .slice a ln cap] w fun e w' => e = .returned (.agg #[.bool (decide (sz s (val 10 l) < 0)), .slice a (dg 10 (val 10 l)).length cap]) ∧ Ext w w' := by
  have HC := Lib.hid (fun W (h : Rd W a (ks .i64 l)) => rcut_walk a cap l ln W hln hc hm h)
  have hst := strip_dg ten_gt l hd
  have hk : stripN l l.length = (dg 10 (val 10 l)).length := by rw [← strip_len, hst]
  rw [hk] at HC
  generalize val 10 l = n at *
  have hsg := sz_neg s n
  have hlen := dg_len0 ten_gt n
  have hpos : decide (0 < n) = decide ((0 : Int) < ((dg 10 n).length : Nat)) := by rw [Bool.eq_iff_iff]; simp only [decide_eq_true_eq]; omega
  rw [hpos] at hsg
  rw [hsg]
  have HR := Lib.hid hr
  clear hst hk hsg hlen hpos hr hd hln
  unfold maxLen at hm
  obtain ⟨lm, hlm⟩ : ∃ x, (dg 10 n).length = x := ⟨_, rfl⟩
  rw [hlm] at HC ⊢
  clear hlm
  cases s
  · rw [Bool.false_and]
    go_enter Try.func117, Try.ntmps117
    go_wp2_with (go_at_call 122; refine (HC.out _ (HR.out.alloc _)).mono ?_; rintro e w' ⟨rfl, rfl⟩)
    have r2 := Row.new w 72 [.bool false, .slice a lm cap]
    have z0 := r2.cell (i := 0) rfl
    have z1 := r2.cell (i := 1) rfl
    exact bodyPost_ret (v := .agg #[.bool false, .slice a lm cap]) (by simp [results, Try.f117, go_sem, z0, z1]) rfl ⟨rfl, Ext.new _ _⟩
  · rw [Bool.true_and]
    go_enter Try.func117, Try.ntmps117
    go_wp2_with (go_at_call 122; refine (HC.out _ (HR.out.alloc _)).mono ?_; rintro e w' ⟨rfl, rfl⟩)
    have r2 := Row.new w 72 [.bool (decide ((0 : Int) < lm)), .slice a lm cap]
    have z0 := r2.cell (i := 0) rfl
    have z1 := r2.cell (i := 1) rfl
    exact bodyPost_ret (v := .agg #[.bool (decide ((0 : Int) < lm)), .slice a lm cap]) (by simp [results, Try.f117, go_sem, z0, z1]) rfl ⟨rfl, Ext.new _ _⟩
theorem rmk_walk (s : Bool) (n : Nat) (a : Option Addr) (cap : Nat) (w : World) (hc : (dg 10 n).length ≤ cap) (hm : cap ≤ maxLen) (hr : Rd w a (ks .i64 (dg 10 n))) :
    Calls Try.prog 117 #[.bool s, .slice a (dg 10 n).length cap] w fun e w' => e = .returned (.agg #[.bool (decide (sz s n < 0)), .slice a (dg 10 n).length cap]) ∧ Ext w w' := by
  have := rmake1_walk s a cap (dg 10 n) (dg 10 n).length w (fun d hd => dg_lt ten_gt hd) rfl hc hm hr
  rwa [val_dg ten_gt] at this

set_option maxRecDepth 100000 in
set_option maxHeartbeats 1000000 in
theorem radd_walk (a b : Option Addr) (ca cb n m : Nat) (w : World) (hla : (dg 10 n).length ≤ 1000000) (hlb : (dg 10 m).length ≤ 1000000) (ha : Rd w a (ks .i64 (dg 10 n))) (hb : Rd w b (ks .i64 (dg 10 m))) :
    Calls Try.prog 126 #[.slice a (dg 10 n).length ca, .slice b (dg 10 m).length cb] w (Made w 3 .i64 (dg 10 (n + m))) := by
  have LA : ∀ i, i < (dg 10 n).length ↔ 10 ^ i ≤ n := fun i => dg_len_lt ten_gt i n
  have LB : ∀ i, i < (dg 10 m).length ↔ 10 ^ i ≤ m := fun i => dg_len_lt ten_gt i m
  generalize hna : (dg 10 n).length = na at *
  generalize hnb : (dg 10 m).length = nb at *
  have HNA := Lib.hid hna
  have HNB := Lib.hid hnb
  have HLA := Lib.hid LA
  have HLB := Lib.hid LB
  clear hna hnb LA LB
  go_enter Try.func126, Try.ntmps126
  go_wp2
  go_loopw [5, 6, 7] (fun out c i wr => ∃ k : Nat, k ≤ na + nb + 1 ∧ i = .int .i64 k ∧ c = .int .i64 (carry 10 n m k) ∧ wr.ownsRow w.heap.size 3 1 out k (ks .i64 (fixd 10 k (n + m))) ∧ Ext w wr ∧ Hid (k = 0 ∨ 10 ^ (k - 1) ≤ n + m))
    (fun _ _ i _ => na + nb + 2 - (intOf i).toNat)
  case atStart => exact ⟨0, by omega, rfl, by simp [carry_zero], own_empty w _ (Nat.le_refl _), Ext.new _ _, .inl rfl⟩
  case round =>
    obtain ⟨k, hk, rfl, rfl, hown, hext, HP⟩ := hrel
    have HR := Lib.hid (add_round ten_gt n m k)
    have HM := Lib.hid (add_more ten_gt n m k)
    have HD := Lib.hid (add_done ten_gt n m k)
    have HBD := Lib.hid (add_bound ten_gt n m k)
    rw [HNA.out, HNB.out] at HBD
    have hc1 := carry_lt ten_gt n m k
    have hc0 : carry 10 n m k = 0 ∨ carry 10 n m k = 1 := by omega
    have HN : Hid (¬ k < na → n / 10 ^ k % 10 = 0) := fun h => digit_0 (by have := not_congr (HLA.out k); omega)
    have HM2 : Hid (¬ k < nb → m / 10 ^ k % 10 = 0) := fun h => digit_0 (by have := not_congr (HLB.out k); omega)
    have hxa : k < na → ∃ ba oa, a = some ⟨ba, oa, none⟩ ∧ wr.cell? ⟨ba, oa + k, none⟩ = some (.int .i64 ((n / 10 ^ k % 10 : Nat) : Int)) := fun h => by
      obtain ⟨ba, oa, e, hca⟩ := (ha.ext hext).num (i := k) (by rw [HNA.out]; exact h)
      rw [fdig10] at hca
      exact ⟨ba, oa, e, hca⟩
    have hxb : k < nb → ∃ bb ob, b = some ⟨bb, ob, none⟩ ∧ wr.cell? ⟨bb, ob + k, none⟩ = some (.int .i64 ((m / 10 ^ k % 10 : Nat) : Int)) := fun h => by
      obtain ⟨ba, oa, e, hca⟩ := (hb.ext hext).num (i := k) (by rw [HNB.out]; exact h)
      rw [fdig10] at hca
      exact ⟨ba, oa, e, hca⟩
    have d1 : n / 10 ^ k % 10 < 10 := Nat.mod_lt _ (by decide)
    have d2 : m / 10 ^ k % 10 < 10 := Nat.mod_lt _ (by decide)
    have HA2 := (HLA.out k)
    have HB2 := (HLB.out k)
    generalize n / 10 ^ k % 10 = x at *
    generalize m / 10 ^ k % 10 = y at *
    generalize hcc : carry 10 n m k = c at *
    have HCC := Lib.hid hcc
    have HA3 := Lib.hid HA2
    have HB3 := Lib.hid HB2
    clear hcc hc0 HA2 HB2
    have close : ∀ (v' : Value) (w1 : World) (t : Nat), (k < na ∨ k < nb ∨ 0 < c) → t = c + x + y → w1.ownsRow w.heap.size 3 1 v' (k + 1) (ks .i64 (fixd 10 k (n + m)) ++ [.int .i64 ((t % 10 : Nat) : Int)]) → Ext w w1 →
        ∃ k' : Nat, k' ≤ na + nb + 1 ∧ Value.int .i64 ((k : Int) + 1) = .int .i64 k' ∧ Value.int .i64 ((t / 10 : Nat) : Int) = .int .i64 (carry 10 n m k') ∧ w1.ownsRow w.heap.size 3 1 v' k' (ks .i64 (fixd 10 k' (n + m))) ∧ Ext w w1 ∧ Hid (k' = 0 ∨ 10 ^ (k' - 1) ≤ n + m) := by
      intro v' w1 t ht e own1 ext1
      have hr := HR.out
      refine ⟨k + 1, ?_, by go_num, ?_, ?_, ext1, .inr ?_⟩
      · rcases ht with h | h | h
        · omega
        · omega
        · by_cases h1 : k < na
          · omega
          · by_cases h2 : k < nb
            · omega
            · have := HBD.out (by omega) (by omega) h; omega
      · rw [hr.1, e]
      · rw [hr.2, ks_append, e.symm]; exact own1
      · have := HM.out (by have := HA3.out; have := HB3.out; omega)
        simpa using this
    have Hclose := Lib.hid close
    clear close
    by_cases h1 : k < na <;> by_cases h2 : k < nb
    · obtain ⟨ba, oa, rfl, hca⟩ := hxa h1
      obtain ⟨bb, ob, rfl, hcb⟩ := hxb h2
      clear hxa hxb
      go_wp2_with (at_builtin; refine append_elem elemI64 hown hext (by unfold maxLen; omega) (by omega) rfl (by simp [Value.oneCell']) rfl _ _ rfl rfl rfl ?_; intro v' w1 own1 ext1 _)
      go_roundw
      case rel => exact Hclose.out _ _ (c + x + y) (.inl h1) rfl own1 ext1
      case measure => simp [intOf]; omega
    · obtain ⟨ba, oa, rfl, hca⟩ := hxa h1
      have hy := HM2.out h2
      clear hxa hxb
      subst hy
      go_wp2_with (at_builtin; refine append_elem elemI64 hown hext (by unfold maxLen; omega) (by omega) rfl (by simp [Value.oneCell']) rfl _ _ rfl rfl rfl ?_; intro v' w1 own1 ext1 _)
      go_roundw
      case rel => exact Hclose.out _ _ (c + x) (.inl h1) rfl own1 ext1
      case measure => simp [intOf]; omega
    · obtain ⟨bb, ob, rfl, hcb⟩ := hxb h2
      have hy := HN.out h1
      clear hxa hxb
      subst hy
      go_wp2_with (at_builtin; refine append_elem elemI64 hown hext (by unfold maxLen; omega) (by omega) rfl (by simp [Value.oneCell']) rfl _ _ rfl rfl rfl ?_; intro v' w1 own1 ext1 _)
      go_roundw
      case rel => exact Hclose.out _ _ (c + y) (.inr (.inl h2)) (by omega) own1 ext1
      case measure => simp [intOf]; omega
    · have hx := HN.out h1
      have hy := HM2.out h2
      clear hxa hxb
      subst hx hy
      by_cases h3 : 0 < c
      · go_wp2_with (at_builtin; refine append_elem elemI64 hown hext (by unfold maxLen; omega) (by omega) rfl (by simp [Value.oneCell']) rfl _ _ rfl rfl rfl ?_; intro v' w1 own1 ext1 _)
        go_roundw
        case rel => exact Hclose.out _ _ c (.inr (.inr h3)) (by omega) own1 ext1
        case measure => simp [intOf]; omega
      · go_wp2
        go_ret
        have hk0 : fixd 10 k (n + m) = dg 10 (n + m) := HD.out (by have := HA3.out; omega) (by have := HB3.out; omega) (by omega) HP
        rw [hk0] at hown
        have hl : k = (dg 10 (n + m)).length := by rw [← hk0, fixd_len]
        rw [hl] at hown
        exact ⟨_, rfl, hown, hext⟩


set_option maxRecDepth 100000 in
set_option maxHeartbeats 1000000 in
theorem rsub_walk (a b : Option Addr) (ca cb n m : Nat) (w : World) (hnm : m ≤ n) (hla : (dg 10 n).length ≤ 1000000) (hlb : (dg 10 m).length ≤ 1000000) (ha : Rd w a (ks .i64 (dg 10 n))) (hb : Rd w b (ks .i64 (dg 10 m))) :
    Calls Try.prog 124 #[.slice a (dg 10 n).length ca, .slice b (dg 10 m).length cb] w (Got w .i64 (dg 10 (n - m))) := by
  have LB : ∀ i, i < (dg 10 m).length ↔ 10 ^ i ≤ m := fun i => dg_len_lt ten_gt i m
  have HE : Hid (strip (fixd 10 (dg 10 n).length (n - m)) = dg 10 (n - m)) := strip_fixd ten_gt _ _ (by have := lt_pow_len ten_gt n; omega)
  generalize hna : (dg 10 n).length = na at *
  generalize hnb : (dg 10 m).length = nb at *
  have HNA := Lib.hid hna
  have HNB := Lib.hid hnb
  have HLB := Lib.hid LB
  clear hna hnb LB
  go_enter Try.func124, Try.ntmps124
  go_wp2
  go_loopw [5, 6, 7] (fun out c i wr => ∃ k : Nat, k ≤ na ∧ i = .int .i64 k ∧ c = .int .i64 (borrow 10 n m k) ∧ wr.ownsRow w.heap.size 3 1 out k (ks .i64 (fixd 10 k (n - m))) ∧ Ext w wr)
    (fun _ _ i _ => na - (intOf i).toNat)
  case atStart => exact ⟨0, by omega, rfl, by simp [borrow_zero], own_empty w _ (Nat.le_refl _), Ext.new _ _⟩
  case round =>
    obtain ⟨k, hk, rfl, rfl, hown, hext⟩ := hrel
    by_cases h1 : k < na
    · have HR := Lib.hid (sub_round ten_gt n m k hnm)
      have hc1 := borrow_le 10 n m k
      obtain ⟨ba, oa, rfl, hca⟩ := (ha.ext hext).num (i := k) (by rw [HNA.out]; exact h1)
      rw [fdig10] at hca
      have HN : Hid (¬ k < nb → m / 10 ^ k % 10 = 0) := fun h => digit_0 (by have := not_congr (HLB.out k); omega)
      have hxb : k < nb → ∃ bb ob, b = some ⟨bb, ob, none⟩ ∧ wr.cell? ⟨bb, ob + k, none⟩ = some (.int .i64 ((m / 10 ^ k % 10 : Nat) : Int)) := fun h => by
        obtain ⟨ba, oa, e, hca⟩ := (hb.ext hext).num (i := k) (by rw [HNB.out]; exact h)
        rw [fdig10] at hca
        exact ⟨ba, oa, e, hca⟩
      have d1 : n / 10 ^ k % 10 < 10 := Nat.mod_lt _ (by decide)
      have d2 : m / 10 ^ k % 10 < 10 := Nat.mod_lt _ (by decide)
      generalize n / 10 ^ k % 10 = x at *
      generalize m / 10 ^ k % 10 = y at *
      generalize borrow 10 n m k = c at *
      have close : ∀ (v' : Value) (w1 : World) (t : Int) (c' : Int), (x < y + c → t = x - c - y + 10 ∧ c' = 1) → (¬ x < y + c → t = x - c - y ∧ c' = 0) → w1.ownsRow w.heap.size 3 1 v' (k + 1) (ks .i64 (fixd 10 k (n - m)) ++ [.int .i64 t]) → Ext w w1 →
          ∃ k' : Nat, k' ≤ na ∧ Value.int .i64 ((k : Int) + 1) = .int .i64 k' ∧ Value.int .i64 c' = .int .i64 (borrow 10 n m k') ∧ w1.ownsRow w.heap.size 3 1 v' k' (ks .i64 (fixd 10 k' (n - m))) ∧ Ext w w1 := by
        intro v' w1 t c' e1 e2 own1 ext1
        have hr := HR.out
        refine ⟨k + 1, h1, by go_num, ?_, ?_, ext1⟩
        · rw [hr.1]
          by_cases hlt : x < y + c
          · rw [if_pos hlt, (e1 hlt).2]; rfl
          · rw [if_neg hlt, (e2 hlt).2]; rfl
        · rw [hr.2, ks_append]
          have : (((x + 10 - y - c) % 10 : Nat) : Int) = t := by
            by_cases hlt : x < y + c
            · rw [(e1 hlt).1, Nat.mod_eq_of_lt (by omega)]; omega
            · rw [(e2 hlt).1, show x + 10 - y - c = (x - y - c) + 10 by omega, Nat.add_mod_right, Nat.mod_eq_of_lt (by omega)]; omega
          rw [show ks .i64 [(x + 10 - y - c) % 10] = [.int .i64 t] by simp only [ks, List.map_cons, List.map_nil, this]]
          exact own1
      have Hclose := Lib.hid close
      clear close HR
      by_cases h2 : k < nb
      · obtain ⟨bb, ob, rfl, hcb⟩ := hxb h2
        clear hxb
        by_cases hlt : x < y + c
        all_goals
          go_wp2_with (at_builtin; refine append_elem elemI64 hown hext (by unfold maxLen; omega) (by omega) rfl (by simp [Value.oneCell']) rfl _ _ rfl rfl rfl ?_; intro v' w1 own1 ext1 _)
          go_roundw
          case rel => exact Hclose.out _ _ _ _ (fun _ => ⟨by omega, by omega⟩) (fun _ => ⟨by omega, by omega⟩) own1 ext1
          case measure => simp [intOf]; omega
      · have hy := HN.out h2
        clear hxb
        subst hy
        by_cases hlt : x < 0 + c
        all_goals
          go_wp2_with (at_builtin; refine append_elem elemI64 hown hext (by unfold maxLen; omega) (by omega) rfl (by simp [Value.oneCell']) rfl _ _ rfl rfl rfl ?_; intro v' w1 own1 ext1 _)
          go_roundw
          case rel => exact Hclose.out _ _ _ _ (fun _ => ⟨by omega, by omega⟩) (fun _ => ⟨by omega, by omega⟩) own1 ext1
          case measure => simp [intOf]; omega
    · obtain rfl : k = na := by omega
      obtain ⟨a', c', rfl, f1, f2, f3⟩ := own_form hown
      go_wp2_with (go_at_call 122; refine (rcut_walk _ _ (fixd 10 k (n - m)) _ _ (fixd_len _ _ _) f1 f2 f3).mono ?_; rintro e w' ⟨rfl, rfl⟩)
      go_ret
      have h5 : stripN (fixd 10 k (n - m)) (fixd 10 k (n - m)).length = (dg 10 (n - m)).length := by rw [← strip_len, HE.out]
      have h6 := f3.take (stripN (fixd 10 k (n - m)) (fixd 10 k (n - m)).length)
      rw [ks_take] at h6
      have h7 : (fixd 10 k (n - m)).take (stripN (fixd 10 k (n - m)) (fixd 10 k (n - m)).length) = dg 10 (n - m) := HE.out
      rw [h7] at h6
      refine ⟨a', c', ret_slice h5 rfl, ?_, f2, h6, hext, own_from hown⟩
      have := stripN_le (fixd 10 k (n - m)) (fixd 10 k (n - m)).length
      rw [h5, fixd_len] at this
      omega


end Go.Proofs.Ytogodjiemgilaaa
