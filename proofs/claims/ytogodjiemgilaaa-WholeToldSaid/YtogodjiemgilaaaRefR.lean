/- The references Right and Same of integers; Odd. -/
import Derived.Test.YtogodjiemgilaaaTextA
import Derived.Test.YtogodjiemgilaaaWholeS
namespace Go.Proofs.Ytogodjiemgilaaa
open Go.RowKit

/-- may digits with a sign be an integer? -/
def rightB (s : Bool) (l : List Nat) : Bool := l.all (fun d => decide (d < 1000000000)) && (if l.length = 0 then !s else decide (l[l.length - 1]?.getD 0 ≠ 0))

theorem ret_bool {a b : Bool} (h : a = b) : Ending.returned (Value.bool a) = .returned (.bool b) := by rw [h]

set_option maxRecDepth 100000 in
set_option maxHeartbeats 1000000 in
theorem rright_walk (s : Bool) (l : List Nat) (a : Option Addr) (c : Nat) (w : World) (hl : l.length ≤ 9223372036854775807) (h32 : ∀ d ∈ l, d < 4294967296) (h : Rd w a (ks .u32 l)) :
    Calls Try.prog 70 #[.agg #[.bool s, .slice a l.length c]] w fun e w' => e = .returned (.bool (rightB s l)) ∧ Ext w w' := by
  have HR := Lib.hid h
  have H32 := Lib.hid h32
  have H1 : Hid (∀ i, i < l.length → 999999999 < l[i]?.getD 0 → rightB s l = false) := by
    intro i hi hx
    unfold rightB
    rw [List.all_eq_false.2 ⟨l[i], List.getElem_mem hi, by rw [List.getElem?_eq_getElem hi] at hx; simp at hx ⊢; omega⟩]
    rfl
  have H2 : Hid ((∀ i, i < l.length → l[i]?.getD 0 < 1000000000) → rightB s l = (if l.length = 0 then !s else decide (l[l.length - 1]?.getD 0 ≠ 0))) := by
    intro hx
    unfold rightB
    rw [List.all_eq_true.2 (fun d hd => by
      obtain ⟨i, hi, rfl⟩ := List.getElem_of_mem hd
      have := hx i hi
      rw [List.getElem?_eq_getElem hi] at this
      simpa using this)]
    rfl
  generalize rightB s l = r at *
  clear h h32
  go_enter Try.func70, Try.ntmps70
  go_wp2_with fail
  obtain ⟨W0, hW0⟩ : ∃ W0, w.alloc (.cells #[.bool s, .slice a l.length c] 69) = W0 := ⟨_, rfl⟩
  have q0 : Row W0 w.heap.size 69 [.bool s, .slice a l.length c] := by rw [← hW0]; exact Row.new w _ [_, _]
  have x0 : Ext w W0 := by rw [← hW0]; exact Ext.new _ _
  rw [hW0]
  clear hW0
  have k0 := q0.cell (i := 0) rfl
  have k1 := q0.cell (i := 1) rfl
  go_loopw [3] (fun iv wr => ∃ i : Nat, i ≤ l.length ∧ iv = .int .i64 i ∧ W0 = wr ∧ Hid (∀ j, j < i → l[j]?.getD 0 < 1000000000)) (fun iv _ => l.length - (intOf iv).toNat)
  case atStart => exact ⟨0, by omega, rfl, rfl, fun j h => absurd h (Nat.not_lt_zero j)⟩
  case round =>
    obtain ⟨i, hi, rfl, rfl, HP⟩ := hrel
    by_cases hlt : i < l.length
    · obtain ⟨b0, ob, rfl, hcb⟩ := (HR.out.ext x0).num (i := i) hlt
      have hg : Hid (l[i]?.getD 0 = l[i]) := by show _ = _; rw [List.getElem?_eq_getElem hlt]; rfl
      have hx32 : l[i] < 4294967296 := H32.out _ (List.getElem_mem hlt)
      generalize l[i] = x at *
      by_cases hx : 999999999 < x
      · have HF := Lib.hid (H1.out i hlt (by rw [hg.out]; exact hx))
        go_wp2_with fail
        go_ret
        exact ⟨ret_bool HF.out.symm, x0⟩
      · go_wp2_with fail
        go_roundw
        case rel =>
          refine ⟨i + 1, by omega, by go_num, by first | trivial | rfl, ?_⟩
          intro j hj
          by_cases hji : j = i
          · subst hji; rw [hg.out]; omega
          · exact HP.out j (by omega)
        case measure => simp [intOf]; omega
    · have hil : i = l.length := by omega
      have HF := Lib.hid (H2.out (fun j hj => HP.out j (by omega)))
      by_cases h0 : l.length = 0
      · rw [if_pos h0] at HF
        generalize l.length = nl at *
        go_wp2_with fail
        go_ret
        exact ⟨ret_bool HF.out.symm, x0⟩
      · rw [if_neg h0] at HF
        have hlt2 : l.length - 1 < l.length := by omega
        obtain ⟨b0, ob, rfl, hcb⟩ := (HR.out.ext x0).num (i := l.length - 1) hlt2
        have hg : Hid (l[l.length - 1]?.getD 0 = l[l.length - 1]) := by show _ = _; rw [List.getElem?_eq_getElem hlt2]; rfl
        have hcast : ((l.length : Int) - 1) = ((l.length - 1 : Nat) : Int) := by omega
        rw [hg.out] at HF
        generalize l[l.length - 1] = x at *
        go_wp2_with fail
        go_ret
        exact ⟨ret_bool (by rw [HF.out, Bool.eq_iff_iff]; simp), x0⟩

set_option maxRecDepth 100000 in
set_option maxHeartbeats 1000000 in
theorem rsame_walk (s1 s2 : Bool) (l m : List Nat) (a b : Option Addr) (ca cb : Nat) (w : World) (hl : l.length ≤ 9223372036854775807) (hm : m.length ≤ 9223372036854775807) (h1 : Rd w a (ks .u32 l)) (h2 : Rd w b (ks .u32 m)) :
    Calls Try.prog 51 #[.agg #[.bool s1, .slice a l.length ca], .agg #[.bool s2, .slice b m.length cb]] w fun e w' => e = .returned (.bool (decide (s1 = s2 ∧ l = m))) ∧ Ext w w' := by
  have HR1 := Lib.hid h1
  have HR2 := Lib.hid h2
  clear h1 h2
  by_cases hs : s1 = s2
  case neg =>
    have HF : Hid (decide (s1 = s2 ∧ l = m) = false) := decide_eq_false (fun h => hs h.1)
    generalize decide (s1 = s2 ∧ l = m) = r at *
    cases s1 <;> cases s2
    case false.false => exact absurd rfl hs
    case true.true => exact absurd rfl hs
    all_goals
      clear hs
      go_enter Try.func51, Try.ntmps51
      go_wp2_with fail
      go_ret
      exact ⟨ret_bool HF.out.symm, (Ext.new _ _).alloc _⟩
  case pos =>
    subst hs
    by_cases hn : l.length = m.length
    case neg =>
      have HF : Hid (decide (s1 = s1 ∧ l = m) = false) := decide_eq_false (fun h => hn (by rw [h.2]))
      generalize decide (s1 = s1 ∧ l = m) = r at *
      generalize l.length = nl at *
      generalize m.length = nm at *
      have hn' : ((nl : Int) != (nm : Int)) = true := by simp; omega
      go_enter Try.func51, Try.ntmps51
      go_wp2_with fail
      go_ret
      exact ⟨ret_bool HF.out.symm, (Ext.new _ _).alloc _⟩
    case pos =>
      have H1 : Hid (∀ i, i < l.length → l[i]?.getD 0 ≠ m[i]?.getD 0 → decide (s1 = s1 ∧ l = m) = false) := fun i hi hx => decide_eq_false (fun h => hx (by rw [h.2]))
      have H2 : Hid ((∀ i, i < l.length → l[i]?.getD 0 = m[i]?.getD 0) → decide (s1 = s1 ∧ l = m) = true) := fun hx => decide_eq_true ⟨rfl, List.ext_getElem hn (fun i h1 h2 => by
        have := hx i h1
        rwa [List.getElem?_eq_getElem h1, List.getElem?_eq_getElem h2] at this)⟩
      generalize decide (s1 = s1 ∧ l = m) = r at *
      have HN := Lib.hid hn
      rw [← hn] at hm ⊢
      clear hn
      go_enter Try.func51, Try.ntmps51
      go_wp2_with fail
      obtain ⟨W0, hW0⟩ : ∃ W0, (w.alloc (.cells #[.bool s1, .slice a l.length ca] 69)).alloc (.cells #[.bool s1, .slice b l.length cb] 69) = W0 := ⟨_, rfl⟩
      have q0 : Row W0 w.heap.size 69 [.bool s1, .slice a l.length ca] := by rw [← hW0]; exact (Row.new w _ [_, _]).alloc _
      have q1 : Row W0 (w.heap.size + 1) 69 [.bool s1, .slice b l.length cb] := by
        rw [← hW0]
        have := Row.new (w.alloc (.cells #[.bool s1, .slice a l.length ca] 69)) 69 [.bool s1, .slice b l.length cb]
        rwa [World.size_alloc] at this
      have x0 : Ext w W0 := by rw [← hW0]; exact (Ext.new _ _).alloc _
      rw [hW0]
      clear hW0
      go_loopw [5] (fun iv wr => ∃ i : Nat, i ≤ l.length ∧ iv = .int .i64 i ∧ Ext W0 wr ∧ Hid (∀ j, j < i → l[j]?.getD 0 = m[j]?.getD 0)) (fun iv _ => l.length - (intOf iv).toNat)
      case atStart => exact ⟨0, by omega, rfl, Ext.refl _, fun j h => absurd h (Nat.not_lt_zero j)⟩
      case round =>
        obtain ⟨i, hi, rfl, hext, HP⟩ := hrel
        have k0 := (q0.ext hext).cell (i := 0) rfl
        have k1 := (q0.ext hext).cell (i := 1) rfl
        have k2 := (q1.ext hext).cell (i := 0) rfl
        have k3 := (q1.ext hext).cell (i := 1) rfl
        by_cases hlt : i < l.length
        · have hlt2 : i < m.length := by rw [← HN.out]; exact hlt
          obtain ⟨b0, ob, rfl, hcb⟩ := (HR1.out.ext (x0.trans hext)).num (i := i) hlt
          obtain ⟨b1, ob1, rfl, hcb1⟩ := (HR2.out.ext (x0.trans hext)).num (i := i) hlt2
          have hg : Hid (l[i]?.getD 0 = l[i]) := by show _ = _; rw [List.getElem?_eq_getElem hlt]; rfl
          have hg2 : Hid (m[i]?.getD 0 = m[i]) := by show _ = _; rw [List.getElem?_eq_getElem hlt2]; rfl
          generalize l[i] = x at *
          generalize m[i] = y at *
          by_cases hxy : x = y
          · subst hxy
            go_wp2_with fail
            go_quiet (fail)
            go_wp2_with fail
            go_roundw
            case rel =>
              refine ⟨i + 1, by omega, by go_num, hext.drewN _, ?_⟩
              intro j hj
              by_cases hji : j = i
              · subst hji; rw [hg.out, hg2.out]
              · exact HP.out j (by omega)
            case measure => simp [intOf]; omega
          · have hxy' : ((x : Int) != (y : Int)) = true := by simp; omega
            have HF := Lib.hid (H1.out i hlt (by rw [hg.out, hg2.out]; exact hxy))
            clear hxy
            go_wp2_with fail
            go_quiet (fail)
            go_wp2_with fail
            go_ret
            exact ⟨ret_bool HF.out.symm, x0.trans (hext.drewN _)⟩
        · have HF := Lib.hid (H2.out (fun j hj => HP.out j (by omega)))
          go_wp2_with fail
          go_ret
          exact ⟨ret_bool HF.out.symm, x0.trans hext⟩
end Go.Proofs.Ytogodjiemgilaaa
