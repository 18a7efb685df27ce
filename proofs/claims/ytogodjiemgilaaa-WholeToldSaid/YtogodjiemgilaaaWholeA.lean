/- What the functions of whole on rows of digits compute. -/
import Derived.Test.YtogodjiemgilaaaRows
import Derived.Test.YtogodjiemgilaaaBase
import Derived.Test.YtogodjiemgilaaaNum
namespace Go.Proofs.Ytogodjiemgilaaa
open Go.RowKit

/-- numbers of a kind as cells -/
def ks (k : IntKind) (l : List Nat) : List Value := l.map fun d : Nat => .int k (d : Int)
theorem ks_len (k : IntKind) (l : List Nat) : (ks k l).length = l.length := by simp [ks]
theorem ks_get {k : IntKind} {l : List Nat} {i : Nat} (h : i < l.length) : (ks k l)[i]? = some (.int k (l[i] : Int)) := by simp [ks, h]
theorem ks_append (k : IntKind) (a b : List Nat) : ks k (a ++ b) = ks k a ++ ks k b := by simp [ks]
theorem ks_take (k : IntKind) (a : List Nat) (n : Nat) : (ks k a).take n = ks k (a.take n) := by simp [ks]
theorem Rd.num {w : World} {a : Option Addr} {k : IntKind} {l : List Nat} (h : Rd w a (ks k l)) {i : Nat} (hi : i < l.length) :
    ∃ b off, a = some ⟨b, off, none⟩ ∧ w.cell? ⟨b, off + i, none⟩ = some (.int k (l[i] : Int)) := h.get (ks_get hi)

theorem ret_int {k : IntKind} {a b : Int} (h : a = b) : Ending.returned (.int k a) = .returned (.int k b) := by rw [h]
theorem ret_slice {a : Option Addr} {n m n' m' : Nat} (h : n = n') (h' : m = m') : Ending.returned (.slice a n m) = .returned (.slice a n' m') := by rw [h, h']
def BB : Nat := 1000000000
theorem BB_eq : BB = 1000000000 := rfl
theorem BB_gt : 1 < BB := by decide

theorem elemU32 : Elem Try.prog 162 160 (.int .u32 0) 1 4 := Elem.mk Try.underlying162 (by kernel_rfl) rfl (by decide)

theorem sgn_walk (n : Int) (w : World) (h1 : -9223372036854775808 ≤ n) (h2 : n ≤ 9223372036854775807) :
    Calls Try.prog 174 #[.int .i64 n] w fun e w' => e = .returned (.int .i64 (sgn n)) ∧ w = w' := by
  have H : Hid (sgn n = if n < -1 then -1 else if 1 < n then 1 else n) := by
    unfold Hid sgn
    (repeat' split) <;> omega
  go_enter Try.func174, Try.ntmps174
  go_wp2
  all_goals
    go_ret
    refine ⟨ret_int ?_, rfl⟩
    have h := H.out
    rw [h]
    (repeat' split) <;> omega

set_option maxRecDepth 100000 in
set_option maxHeartbeats 400000 in
theorem trim_walk (a : Option Addr) (cap : Nat) (l : List Nat) (ln : Nat) (w : World) (hln : l.length = ln) (hc : ln ≤ cap) (hm : cap ≤ maxLen) (hr : Rd w a (ks .u32 l)) :
    Calls Try.prog 130 #[.slice a ln cap] w fun e w' => e = .returned (.slice a (stripN l l.length) (stripN l l.length)) ∧ w = w' := by
  subst hln
  unfold maxLen at hm
  go_enter Try.func130, Try.ntmps130
  go_wp2
  go_loop [3] (fun i => ∃ k : Nat, k ≤ l.length ∧ i = .int .i64 k ∧ stripN l l.length = stripN l k) (fun i => (intOf i).toNat)
  case atStart => exact ⟨l.length, Nat.le_refl _, rfl, rfl⟩
  case round =>
    obtain ⟨k, hk, rfl, hs⟩ := hrel
    have HS := Lib.hid hs
    clear hs
    cases k with
    | zero =>
      go_wp2
      go_ret
      exact ⟨ret_slice HS.out.symm HS.out.symm, rfl⟩
    | succ k =>
      obtain ⟨b, off, rfl, hcell⟩ := hr.num (i := k) (by omega)
      have HK : Hid (stripN l (k + 1) = if l[k] = 0 then stripN l k else k + 1) := by
        show stripN l (k + 1) = _
        conv => lhs; unfold stripN
        rw [List.getElem?_eq_getElem (by omega)]; rfl
      by_cases hz : l[k] = 0
      · rw [hz] at hcell
        rw [if_pos hz] at HK
        go_wp2
        go_round
        case rel => exact ⟨k, by omega, by go_num, by rw [HS.out, HK.out]⟩
        case measure => simp [intOf]
      · have hz' : (((l[k] : Nat) : Int) == 0) = false := by simp; omega
        rw [if_neg hz] at HK
        go_wp2
        go_ret
        exact ⟨ret_slice (by rw [HS.out, HK.out]) (by rw [HS.out, HK.out]), rfl⟩

/-- the result is a slice that reads as the numbers l, and nothing that there was has turned -/
def Got (W : World) (k : IntKind) (l : List Nat) (e : Ending) (w' : World) : Prop :=
  ∃ a cap, e = .returned (.slice a l.length cap) ∧ l.length ≤ cap ∧ cap ≤ maxLen ∧ Rd w' a (ks k l) ∧ Ext W w' ∧ From W.heap.size a

/-- what a call that makes a row of numbers leaves -/
def Made (W : World) (E : TypeId) (k : IntKind) (l : List Nat) (e : Ending) (w' : World) : Prop :=
  ∃ v, e = .returned v ∧ w'.ownsRow W.heap.size E 1 v l.length (ks k l) ∧ Ext W w'

theorem Made.got {W : World} {E : TypeId} {k : IntKind} {l : List Nat} {e : Ending} {w' : World} (h : Made W E k l e w') : Got W k l e w' := by
  obtain ⟨v, rfl, own, ext⟩ := h
  obtain ⟨a, cap, rfl, h1, h2, h3⟩ := own_form own
  exact ⟨a, cap, rfl, h1, h2, h3, ext, own_from own⟩

theorem fdig (n i : Nat) (h : i < (dg BB n).length) : (dg BB n)[i] = n / BB ^ i % BB := dg_at BB_gt h

set_option maxRecDepth 100000 in
set_option maxHeartbeats 1000000 in
theorem add_walk (a b : Option Addr) (ca cb n m : Nat) (w : World) (hla : (dg BB n).length ≤ 1000000) (hlb : (dg BB m).length ≤ 1000000) (ha : Rd w a (ks .u32 (dg BB n))) (hb : Rd w b (ks .u32 (dg BB m))) :
    Calls Try.prog 119 #[.slice a (dg BB n).length ca, .slice b (dg BB m).length cb] w (Made w 160 .u32 (dg BB (n + m))) := by
  have LA : ∀ i, i < (dg BB n).length ↔ BB ^ i ≤ n := fun i => dg_len_lt BB_gt i n
  have LB : ∀ i, i < (dg BB m).length ↔ BB ^ i ≤ m := fun i => dg_len_lt BB_gt i m
  generalize hna : (dg BB n).length = na at *
  generalize hnb : (dg BB m).length = nb at *
  have HNA := Lib.hid hna
  have HNB := Lib.hid hnb
  have HLA := Lib.hid LA
  have HLB := Lib.hid LB
  clear hna hnb LA LB
  go_enter Try.func119, Try.ntmps119
  go_wp2
  go_loopw [4, 5, 6] (fun out c i wr => ∃ k : Nat, k ≤ na + nb + 1 ∧ i = .int .i64 k ∧ c = .int .u32 (carry BB n m k) ∧ wr.ownsRow w.heap.size 160 1 out k (ks .u32 (fixd BB k (n + m))) ∧ Ext w wr ∧ Hid (k = 0 ∨ BB ^ (k - 1) ≤ n + m))
    (fun _ _ i _ => na + nb + 2 - (intOf i).toNat)
  case atStart => exact ⟨0, by omega, rfl, by simp [carry_zero], World.ownsRow_nil _ _ _ _, Ext.refl _, .inl rfl⟩
  case round =>
    obtain ⟨k, hk, rfl, rfl, hown, hext, HP⟩ := hrel
    have HR := Lib.hid (add_round BB_gt n m k)
    have HM := Lib.hid (add_more BB_gt n m k)
    have HD := Lib.hid (add_done BB_gt n m k)
    have HBD := Lib.hid (add_bound BB_gt n m k)
    rw [HNA.out, HNB.out] at HBD
    have hc1 := carry_lt BB_gt n m k
    have hc0 : carry BB n m k = 0 ∨ carry BB n m k = 1 := by omega
    have HN : Hid (¬ k < na → n / BB ^ k % BB = 0) := fun h => digit_0 (by have := not_congr (HLA.out k); omega)
    have HM2 : Hid (¬ k < nb → m / BB ^ k % BB = 0) := fun h => digit_0 (by have := not_congr (HLB.out k); omega)
    have hxa : k < na → ∃ ba oa, a = some ⟨ba, oa, none⟩ ∧ wr.cell? ⟨ba, oa + k, none⟩ = some (.int .u32 ((n / BB ^ k % BB : Nat) : Int)) := fun h => by
      obtain ⟨ba, oa, e, hca⟩ := (ha.ext hext).num (i := k) (by rw [HNA.out]; exact h)
      rw [fdig] at hca
      exact ⟨ba, oa, e, hca⟩
    have hxb : k < nb → ∃ bb ob, b = some ⟨bb, ob, none⟩ ∧ wr.cell? ⟨bb, ob + k, none⟩ = some (.int .u32 ((m / BB ^ k % BB : Nat) : Int)) := fun h => by
      obtain ⟨ba, oa, e, hca⟩ := (hb.ext hext).num (i := k) (by rw [HNB.out]; exact h)
      rw [fdig] at hca
      exact ⟨ba, oa, e, hca⟩
    have d1 : n / BB ^ k % BB < 1000000000 := Nat.mod_lt _ (by decide)
    have d2 : m / BB ^ k % BB < 1000000000 := Nat.mod_lt _ (by decide)
    have HA2 := (HLA.out k)
    have HB2 := (HLB.out k)
    generalize n / BB ^ k % BB = x at *
    generalize m / BB ^ k % BB = y at *
    generalize hcc : carry BB n m k = c at *
    have HCC := Lib.hid hcc
    have HA3 := Lib.hid HA2
    have HB3 := Lib.hid HB2
    clear hcc hc0 HA2 HB2
    have close : ∀ (v' : Value) (w1 : World) (t : Nat), (k < na ∨ k < nb ∨ 0 < c) → t = c + x + y → w1.ownsRow w.heap.size 160 1 v' (k + 1) (ks .u32 (fixd BB k (n + m)) ++ [.int .u32 ((t % 1000000000 : Nat) : Int)]) → Ext w w1 →
        ∃ k' : Nat, k' ≤ na + nb + 1 ∧ Value.int .i64 ((k : Int) + 1) = .int .i64 k' ∧ Value.int .u32 ((t / 1000000000 : Nat) : Int) = .int .u32 (carry BB n m k') ∧ w1.ownsRow w.heap.size 160 1 v' k' (ks .u32 (fixd BB k' (n + m))) ∧ Ext w w1 ∧ Hid (k' = 0 ∨ BB ^ (k' - 1) ≤ n + m) := by
      intro v' w1 t ht e own1 ext1
      have hr := HR.out
      refine ⟨k + 1, ?_, by go_num, ?_, ?_, ext1, .inr ?_⟩
      · rcases ht with h | h | h
        · omega
        · omega
        · by_cases h1 : k < na
          · omega
          · by_cases h2 : k < nb
            · omega
            · have := HBD.out (by omega) (by omega) h; omega
      · rw [hr.1, e]; rfl
      · rw [hr.2, ks_append, e.symm]; exact own1
      · have := HM.out (by have := HA3.out; have := HB3.out; omega)
        simpa using this
    have Hclose := Lib.hid close
    clear close
    by_cases h1 : k < na <;> by_cases h2 : k < nb
    · obtain ⟨ba, oa, rfl, hca⟩ := hxa h1
      obtain ⟨bb, ob, rfl, hcb⟩ := hxb h2
      clear hxa hxb
      go_wp2_with (at_builtin; refine append_elem elemU32 hown hext (by unfold maxLen; omega) (by omega) rfl (by simp [Value.oneCell']) rfl _ _ rfl rfl rfl ?_; intro v' w1 own1 ext1 _)
      go_roundw
      case rel => exact Hclose.out _ _ (c + x + y) (.inl h1) rfl own1 ext1
      case measure => simp [intOf]; omega
    · obtain ⟨ba, oa, rfl, hca⟩ := hxa h1
      have hy := HM2.out h2
      clear hxa hxb
      subst hy
      go_wp2_with (at_builtin; refine append_elem elemU32 hown hext (by unfold maxLen; omega) (by omega) rfl (by simp [Value.oneCell']) rfl _ _ rfl rfl rfl ?_; intro v' w1 own1 ext1 _)
      go_roundw
      case rel => exact Hclose.out _ _ (c + x) (.inl h1) rfl own1 ext1
      case measure => simp [intOf]; omega
    · obtain ⟨bb, ob, rfl, hcb⟩ := hxb h2
      have hy := HN.out h1
      clear hxa hxb
      subst hy
      go_wp2_with (at_builtin; refine append_elem elemU32 hown hext (by unfold maxLen; omega) (by omega) rfl (by simp [Value.oneCell']) rfl _ _ rfl rfl rfl ?_; intro v' w1 own1 ext1 _)
      go_roundw
      case rel => exact Hclose.out _ _ (c + y) (.inr (.inl h2)) (by omega) own1 ext1
      case measure => simp [intOf]; omega
    · have hx := HN.out h1
      have hy := HM2.out h2
      clear hxa hxb
      subst hx hy
      by_cases h3 : 0 < c
      · go_wp2_with (at_builtin; refine append_elem elemU32 hown hext (by unfold maxLen; omega) (by omega) rfl (by simp [Value.oneCell']) rfl _ _ rfl rfl rfl ?_; intro v' w1 own1 ext1 _)
        go_roundw
        case rel => exact Hclose.out _ _ c (.inr (.inr h3)) (by omega) own1 ext1
        case measure => simp [intOf]; omega
      · go_wp2
        go_ret
        have hk0 : fixd BB k (n + m) = dg BB (n + m) := HD.out (by have := HA3.out; omega) (by have := HB3.out; omega) (by omega) HP
        rw [hk0] at hown
        have hl : k = (dg BB (n + m)).length := by rw [← hk0, fixd_len]
        rw [hl] at hown
        exact ⟨_, rfl, hown, hext⟩

set_option maxRecDepth 100000 in
set_option maxHeartbeats 1000000 in
theorem sub_walk (a b : Option Addr) (ca cb n m : Nat) (w : World) (hnm : m ≤ n) (hla : (dg BB n).length ≤ 1000000) (hlb : (dg BB m).length ≤ 1000000) (ha : Rd w a (ks .u32 (dg BB n))) (hb : Rd w b (ks .u32 (dg BB m))) :
    Calls Try.prog 120 #[.slice a (dg BB n).length ca, .slice b (dg BB m).length cb] w (Got w .u32 (dg BB (n - m))) := by
  have LB : ∀ i, i < (dg BB m).length ↔ BB ^ i ≤ m := fun i => dg_len_lt BB_gt i m
  have HE : Hid (strip (fixd BB (dg BB n).length (n - m)) = dg BB (n - m)) := strip_fixd BB_gt _ _ (by have := lt_pow_len BB_gt n; omega)
  generalize hna : (dg BB n).length = na at *
  generalize hnb : (dg BB m).length = nb at *
  have HNA := Lib.hid hna
  have HNB := Lib.hid hnb
  have HLB := Lib.hid LB
  clear hna hnb LB
  go_enter Try.func120, Try.ntmps120
  go_wp2
  go_loopw [4, 5, 11] (fun out c i wr => ∃ k : Nat, k ≤ na ∧ i = .int .i64 k ∧ c = .int .i64 (borrow BB n m k) ∧ wr.ownsRow w.heap.size 160 1 out k (ks .u32 (fixd BB k (n - m))) ∧ Ext w wr)
    (fun _ _ i _ => na - (intOf i).toNat)
  case atStart => exact ⟨0, by omega, rfl, by simp [borrow_zero], World.ownsRow_nil _ _ _ _, Ext.refl _⟩
  case round =>
    obtain ⟨k, hk, rfl, rfl, hown, hext⟩ := hrel
    by_cases h1 : k < na
    · have HR := Lib.hid (sub_round BB_gt n m k hnm)
      have hc1 := borrow_le BB n m k
      obtain ⟨ba, oa, rfl, hca⟩ := (ha.ext hext).num (i := k) (by rw [HNA.out]; exact h1)
      rw [fdig] at hca
      have HN : Hid (¬ k < nb → m / BB ^ k % BB = 0) := fun h => digit_0 (by have := not_congr (HLB.out k); omega)
      have hxb : k < nb → ∃ bb ob, b = some ⟨bb, ob, none⟩ ∧ wr.cell? ⟨bb, ob + k, none⟩ = some (.int .u32 ((m / BB ^ k % BB : Nat) : Int)) := fun h => by
        obtain ⟨ba, oa, e, hca⟩ := (hb.ext hext).num (i := k) (by rw [HNB.out]; exact h)
        rw [fdig] at hca
        exact ⟨ba, oa, e, hca⟩
      have d1 : n / BB ^ k % BB < 1000000000 := Nat.mod_lt _ (by decide)
      have d2 : m / BB ^ k % BB < 1000000000 := Nat.mod_lt _ (by decide)
      generalize n / BB ^ k % BB = x at *
      generalize m / BB ^ k % BB = y at *
      generalize borrow BB n m k = c at *
      have close : ∀ (v' : Value) (w1 : World) (t : Int) (c' : Int), (x < y + c → t = x - c - y + 1000000000 ∧ c' = 1) → (¬ x < y + c → t = x - c - y ∧ c' = 0) → w1.ownsRow w.heap.size 160 1 v' (k + 1) (ks .u32 (fixd BB k (n - m)) ++ [.int .u32 t]) → Ext w w1 →
          ∃ k' : Nat, k' ≤ na ∧ Value.int .i64 ((k : Int) + 1) = .int .i64 k' ∧ Value.int .i64 c' = .int .i64 (borrow BB n m k') ∧ w1.ownsRow w.heap.size 160 1 v' k' (ks .u32 (fixd BB k' (n - m))) ∧ Ext w w1 := by
        intro v' w1 t c' e1 e2 own1 ext1
        have hr := HR.out
        refine ⟨k + 1, h1, by go_num, ?_, ?_, ext1⟩
        · rw [hr.1]
          by_cases hlt : x < y + c
          · rw [if_pos hlt, (e1 hlt).2]; rfl
          · rw [if_neg hlt, (e2 hlt).2]; rfl
        · rw [hr.2, ks_append]
          have : (((x + BB - y - c) % BB : Nat) : Int) = t := by
            rw [BB_eq]
            by_cases hlt : x < y + c
            · rw [(e1 hlt).1, Nat.mod_eq_of_lt (by omega)]; omega
            · rw [(e2 hlt).1, show x + 1000000000 - y - c = (x - y - c) + 1000000000 by omega, Nat.add_mod_right, Nat.mod_eq_of_lt (by omega)]; omega
          rw [show ks .u32 [(x + BB - y - c) % BB] = [.int .u32 t] by simp only [ks, List.map_cons, List.map_nil, this]]
          exact own1
      have Hclose := Lib.hid close
      clear close HR
      by_cases h2 : k < nb
      · obtain ⟨bb, ob, rfl, hcb⟩ := hxb h2
        clear hxb
        by_cases hlt : x < y + c
        all_goals
          go_wp2_with (at_builtin; refine append_elem elemU32 hown hext (by unfold maxLen; omega) (by omega) rfl (by simp [Value.oneCell']) rfl _ _ rfl rfl rfl ?_; intro v' w1 own1 ext1 _)
          go_roundw
          case rel => exact Hclose.out _ _ _ _ (fun _ => ⟨by omega, by omega⟩) (fun _ => ⟨by omega, by omega⟩) own1 ext1
          case measure => simp [intOf]; omega
      · have hy := HN.out h2
        clear hxb
        subst hy
        by_cases hlt : x < 0 + c
        all_goals
          go_wp2_with (at_builtin; refine append_elem elemU32 hown hext (by unfold maxLen; omega) (by omega) rfl (by simp [Value.oneCell']) rfl _ _ rfl rfl rfl ?_; intro v' w1 own1 ext1 _)
          go_roundw
          case rel => exact Hclose.out _ _ _ _ (fun _ => ⟨by omega, by omega⟩) (fun _ => ⟨by omega, by omega⟩) own1 ext1
          case measure => simp [intOf]; omega
    · obtain rfl : k = na := by omega
      obtain ⟨a', c', rfl, f1, f2, f3⟩ := own_form hown
      go_wp2_with (go_at_call 130; refine (trim_walk _ _ (fixd BB k (n - m)) _ _ (fixd_len _ _ _) f1 f2 f3).mono ?_; rintro e w' ⟨rfl, rfl⟩)
      go_ret
      have h5 : stripN (fixd BB k (n - m)) (fixd BB k (n - m)).length = (dg BB (n - m)).length := by rw [← strip_len, HE.out]
      have h6 := f3.take (stripN (fixd BB k (n - m)) (fixd BB k (n - m)).length)
      rw [ks_take] at h6
      have h7 : (fixd BB k (n - m)).take (stripN (fixd BB k (n - m)) (fixd BB k (n - m)).length) = dg BB (n - m) := HE.out
      rw [h7] at h6
      refine ⟨a', (dg BB (n - m)).length, ret_slice h5 h5, Nat.le_refl _, ?_, h6, hext, own_from hown⟩
      have := stripN_le (fixd BB k (n - m)) (fixd BB k (n - m)).length
      rw [h5, fixd_len] at this
      omega

end Go.Proofs.Ytogodjiemgilaaa
