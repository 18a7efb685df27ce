/- Odd: integers that are more than are looked at, or not right. -/
import Derived.Test.YtogodjiemgilaaaRefR
namespace Go.Proofs.Ytogodjiemgilaaa
open Go.RowKit

/-- an integer as it was handed in -/
structure AInt where
  s : Bool
  a : Option Addr
  l : List Nat
  c : Nat
def AInt.v (x : AInt) : Value := .agg #[.bool x.s, .slice x.a x.l.length x.c]
/-- what it reads as -/
def AInt.ok (w : World) (x : AInt) : Prop := x.l.length ≤ x.c ∧ x.c ≤ maxLen ∧ (∀ d ∈ x.l, d < 4294967296) ∧ Rd w x.a (ks .u32 x.l)
theorem AInt.ok.ext {w w' : World} {x : AInt} (h : x.ok w) (e : Ext w w') : x.ok w' := ⟨h.1, h.2.1, h.2.2.1, h.2.2.2.ext e⟩
def AInt.odd (x : AInt) : Bool := decide (10 < x.l.length) || !rightB x.s x.l
def flatA : List AInt → List Value
  | [] => []
  | x :: r => .bool x.s :: .slice x.a x.l.length x.c :: flatA r
theorem flatA_len : ∀ xs : List AInt, (flatA xs).length = 2 * xs.length
  | [] => rfl
  | x :: r => by simp only [flatA, List.length_cons, flatA_len r]; omega
theorem flatA_get0 : ∀ (xs : List AInt) (i : Nat) (h : i < xs.length), (flatA xs)[2 * i]? = some (.bool xs[i].s)
  | [], i, h => absurd h (Nat.not_lt_zero i)
  | x :: r, 0, _ => rfl
  | x :: r, i + 1, h => by rw [show 2 * (i + 1) = 2 * i + 1 + 1 by omega]; exact flatA_get0 r i (Nat.lt_of_succ_lt_succ h)
theorem flatA_get1 : ∀ (xs : List AInt) (i : Nat) (h : i < xs.length), (flatA xs)[2 * i + 1]? = some (.slice xs[i].a xs[i].l.length xs[i].c)
  | [], i, h => absurd h (Nat.not_lt_zero i)
  | x :: r, 0, _ => rfl
  | x :: r, i + 1, h => by rw [show 2 * (i + 1) + 1 = 2 * i + 1 + 1 + 1 by omega]; exact flatA_get1 r i (Nat.lt_of_succ_lt_succ h)

set_option maxRecDepth 100000 in
set_option maxHeartbeats 2000000 in
theorem odd1_walk (xs : List AInt) (b off c : Nat) (w : World) (hn : xs.length ≤ 1000) (hr : ∀ j u, (flatA xs)[j]? = some u → w.cell? ⟨b, off + j, none⟩ = some u) (hok : ∀ x ∈ xs, x.ok w) :
    Calls Try.prog 47 #[.slice (some ⟨b, off, none⟩) xs.length c] w fun e w' => e = .returned (.bool (xs.any AInt.odd)) ∧ Ext w w' := by
  have HR := Lib.hid hr
  have HK := Lib.hid hok
  have H1 : Hid (∀ i (h : i < xs.length), xs[i].odd = true → xs.any AInt.odd = true) := fun i h ho => List.any_eq_true.2 ⟨xs[i], List.getElem_mem h, ho⟩
  have H2 : Hid ((∀ i (h : i < xs.length), xs[i].odd = false) → xs.any AInt.odd = false) := fun h => by
    rw [List.any_eq_false]
    intro x hx
    obtain ⟨i, hi, rfl⟩ := List.getElem_of_mem hx
    rw [h i hi]; simp
  generalize xs.any AInt.odd = r at *
  clear hr hok
  go_enter Try.func47, Try.ntmps47
  go_wp2_with fail
  go_loopw [7] (fun iv wr => ∃ i : Nat, i ≤ xs.length ∧ iv = .int .i64 i ∧ Ext w wr ∧ Hid (∀ j (h : j < xs.length), j < i → xs[j].odd = false)) (fun iv _ => xs.length - (intOf iv).toNat)
  case atStart => exact ⟨0, by omega, rfl, Ext.refl _, fun j _ h => absurd h (Nat.not_lt_zero j)⟩
  case round =>
    obtain ⟨i, hi, rfl, hext, HP⟩ := hrel
    by_cases hlt : i < xs.length
    · have e0 := hext.cell (HR.out _ _ (flatA_get0 xs i hlt))
      have e1 := hext.cell (HR.out _ _ (flatA_get1 xs i hlt))
      rw [Nat.mul_comm] at e0 e1
      rw [← Nat.add_assoc] at e1
      have ok := (HK.out xs[i] (List.getElem_mem hlt)).ext hext
      have hx1 := H1.out i hlt
      have hx2 : Hid (∀ wq, wq = xs[i] → xs[i].odd = wq.odd) := fun wq h => by rw [h]
      generalize hxi : xs[i] = x at *
      have HXI := Lib.hid hxi
      clear hxi hx2
      obtain ⟨s, a, l, ca⟩ := x
      obtain ⟨o1, o2, o3, o4⟩ := ok
      simp only at o1 o2 o3 o4 e0 e1
      have hodd : (AInt.mk s a l ca).odd = (decide (10 < l.length) || !rightB s l) := rfl
      have HW := Lib.hid (fun W (h : Rd W a (ks .u32 l)) => rright_walk s l a ca W (by unfold maxLen at o2; omega) o3 h)
      have HX1 := Lib.hid hx1
      have HOD := Lib.hid hodd
      clear hx1 hodd
      by_cases h10 : 10 < l.length
      · have HF : Hid (r = true) := HX1.out (by rw [HOD.out, decide_eq_true h10]; rfl)
        generalize l.length = n at *
        go_wp2_with fail
        go_ret
        exact ⟨ret_bool HF.out.symm, hext.trans (Ext.new _ _)⟩
      · cases hrt : rightB s l
        · have HF : Hid (r = true) := HX1.out (by rw [HOD.out, hrt]; simp)
          rw [hrt] at HW
          go_wp2_with (go_at_call 70; refine (HW.out _ (o4.alloc _)).mono ?_; rintro e w1 ⟨rfl, g1⟩)
          go_ret
          exact ⟨ret_bool HF.out.symm, (hext.trans (Ext.new _ _)).trans g1⟩
        · have HG : Hid ((AInt.mk s a l ca).odd = false) := by show _ = _; rw [HOD.out, hrt, decide_eq_false h10]; rfl
          rw [hrt] at HW
          go_wp2_with (go_at_call 70; refine (HW.out _ (o4.alloc _)).mono ?_; rintro e w1 ⟨rfl, g1⟩)
          go_roundw
          case rel =>
            refine ⟨i + 1, by omega, by go_num, (hext.trans (Ext.new _ _)).trans g1, ?_⟩
            intro j hjl hj
            by_cases hji : j = i
            · subst hji; rw [HXI.out]; exact HG.out
            · exact HP.out j hjl (by omega)
          case measure => simp [intOf]; omega
    · have HF := Lib.hid (H2.out (fun j hj => HP.out j hj (by omega)))
      go_wp2_with fail
      go_ret
      exact ⟨ret_bool HF.out.symm, hext⟩
end Go.Proofs.Ytogodjiemgilaaa
