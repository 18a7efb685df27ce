/- slices.Reverse of bytes. -/
import Derived.Test.YtogodjiemgilaaaWholeN
namespace Go.Proofs.Ytogodjiemgilaaa
open Go.RowKit

/-- k exchanges from both ends inward -/
def revK (l : List Nat) (k : Nat) : List Nat := (List.range l.length).map fun i => if i < k ∨ l.length - 1 - i < k then l[l.length - 1 - i]?.getD 0 else l[i]?.getD 0
theorem revK_len (l : List Nat) (k : Nat) : (revK l k).length = l.length := by simp [revK]
theorem revK_get (l : List Nat) (k i : Nat) (h : i < l.length) : (revK l k)[i]? = some (if i < k ∨ l.length - 1 - i < k then l[l.length - 1 - i]?.getD 0 else l[i]?.getD 0) := by simp [revK, h]
theorem revK_zero (l : List Nat) : revK l 0 = l := by
  apply List.ext_getElem?
  intro i
  by_cases h : i < l.length
  · rw [revK_get _ _ _ h]; simp [h]
  · rw [List.getElem?_eq_none (by rw [revK_len]; omega), List.getElem?_eq_none (by omega)]
theorem revK_end (l : List Nat) (k : Nat) (hk : l.length ≤ 2 * k + 1) : revK l k = l.reverse := by
  apply List.ext_getElem?
  intro i
  by_cases h : i < l.length
  · rw [revK_get _ _ _ h, List.getElem?_reverse h]
    have hj : l.length - 1 - i < l.length := by omega
    by_cases hc : i < k ∨ l.length - 1 - i < k
    · rw [if_pos hc]; simp [hj]
    · rw [if_neg hc]
      have : l.length - 1 - i = i := by omega
      rw [this]; simp [h]
  · rw [List.getElem?_eq_none (by rw [revK_len]; omega), List.getElem?_eq_none (by simp; omega)]
theorem revK_step (l : List Nat) (k : Nat) (hk : 2 * k + 1 < l.length) :
    ((revK l k).set k ((revK l k)[l.length - 1 - k]?.getD 0)).set (l.length - 1 - k) ((revK l k)[k]?.getD 0) = revK l (k + 1) := by
  have e1 : l.length - 1 - (l.length - 1 - k) = k := by omega
  have hA : (revK l k)[l.length - 1 - k]?.getD 0 = l[l.length - 1 - k]?.getD 0 := by
    rw [revK_get _ _ _ (by omega), e1, if_neg (by omega)]; rfl
  have hB : (revK l k)[k]?.getD 0 = l[k]?.getD 0 := by
    rw [revK_get _ _ _ (by omega), if_neg (by omega)]; rfl
  rw [hA, hB]
  apply List.ext_getElem?
  intro i
  by_cases h : i < l.length
  · rw [revK_get l (k + 1) i h, List.getElem?_set, List.getElem?_set]
    simp only [List.length_set, revK_len]
    by_cases h1 : l.length - 1 - k = i
    · subst h1
      rw [if_pos rfl, if_pos (by omega), if_pos (by omega), e1]
    · rw [if_neg h1]
      by_cases h2 : k = i
      · subst h2
        rw [if_pos rfl, if_pos (by omega), if_pos (by omega)]
      · rw [if_neg h2, revK_get _ _ _ h]
        congr 1
        by_cases h3 : i < k ∨ l.length - 1 - i < k
        · rw [if_pos h3, if_pos (by omega)]
        · rw [if_neg h3, if_neg (by omega)]
  · rw [List.getElem?_eq_none (by simp [revK_len]; omega), List.getElem?_eq_none (by rw [revK_len]; omega)]

theorem grown_set {a b : World} {g : Nat} (h : a.grownBy b (some g)) (i : Nat) (u : Value) : a.grownBy (b.setCell ⟨g, i, none⟩ u) (some g) :=
  ⟨h.os, h.tape, h.output, by have := (KeepsOthers.setCell b ⟨g, i, none⟩ u).size; exact Nat.le_trans h.size this, fun k hk hne => (Below.heap_setCell b ⟨g, i, none⟩ u k (fun e => hne (by rw [e]))).trans (h.block k hk hne)⟩
theorem grown_drew {a b : World} {r : Option Nat} (h : a.grownBy b r) : a.grownBy b.drew r := ⟨h.os, h.tape, h.output, h.size, h.block⟩

set_option maxRecDepth 100000 in
set_option maxHeartbeats 1000000 in
theorem revb_walk (g c : Nat) (l : List Nat) (rest : List Value) (w : World) (hl : l.length ≤ 100000000) (hr : Row w g 5 (ks .u8 l ++ rest)) :
    Calls Try.prog 128 #[.slice (some ⟨g, 0, none⟩) l.length c] w fun e w' => e = .returned (.tuple #[]) ∧ Row w' g 5 (ks .u8 l.reverse ++ rest) ∧ w.grownBy w' (some g) := by
  have HR := Lib.hid hr
  obtain ⟨n, hn⟩ : ∃ n, n = l.length := ⟨_, rfl⟩
  have HN := Lib.hid hn
  rw [← hn] at hl ⊢
  clear hr hn
  go_enter Try.func128, Try.ntmps128
  go_wp2_with fail
  go_loopw [2, 3] (fun i j wr => ∃ k : Nat, 2 * k ≤ n + 1 ∧ i = .int .i64 k ∧ j = .int .i64 ((n : Int) - 1 - k) ∧ Row wr g 5 (ks .u8 (revK l k) ++ rest) ∧ w.grownBy wr (some g)) (fun i _ _ => n - (intOf i).toNat)
  case atStart => exact ⟨0, by omega, rfl, by simp, by rw [revK_zero]; exact HR.out, World.grownBy.refl _ _⟩
  case round =>
    obtain ⟨k, hk, rfl, rfl, hrow, hg⟩ := hrel
    by_cases hlt : 2 * k + 1 < n
    · obtain ⟨m, hm⟩ : ∃ m : Nat, (n : Int) - 1 - k = (m : Int) := ⟨n - 1 - k, by omega⟩
      rw [hm]
      have hmk : k < m := by omega
      have hmn : m < n := by omega
      have hlen : (revK l k).length = n := by rw [revK_len, HN.out]
      obtain ⟨x, hx⟩ : ∃ x, (revK l k)[k]? = some x := ⟨_, List.getElem?_eq_getElem (by omega)⟩
      obtain ⟨y, hy⟩ : ∃ y, (revK l k)[m]? = some y := ⟨_, List.getElem?_eq_getElem (by omega)⟩
      have ck : wr.cell? ⟨g, k, none⟩ = some (.int .u8 (x : Int)) := hrow.cell (by rw [List.getElem?_append_left (by rw [ks_len]; omega)]; simp [ks, hx])
      have cm : wr.cell? ⟨g, m, none⟩ = some (.int .u8 (y : Int)) := hrow.cell (by rw [List.getElem?_append_left (by rw [ks_len]; omega)]; simp [ks, hy])
      have fk := hrow.frozen k
      have fm := hrow.frozen m
      have HM := Lib.hid hm
      have HH := Lib.hid (And.intro hrow (And.intro hg (And.intro hlen (And.intro hx hy))))
      clear hrow hg hm hlen hx hy
      go_wp2_with fail
      go_region
      go_wp2_with fail
      go_roundw
      case rel =>
        obtain ⟨hrow, hg, hlen, hx, hy⟩ := HH.out
        have hm := HM.out
        have hn := HN.out
        refine ⟨k + 1, by omega, by go_num, ?_, ?_, ?_⟩
        · have : (m : Int) - 1 = (n : Int) - 1 - ((k + 1 : Nat) : Int) := by omega
          rw [this]
        · have h1 := (hrow.set k (.int .u8 (y : Int))).set m (.int .u8 (x : Int))
          rw [List.set_append_left _ _ (by rw [ks_len]; omega), ks_set, List.set_append_left _ _ (by rw [ks_len, List.length_set]; omega), ks_set] at h1
          have h2 := revK_step l k (by omega)
          have e1 : l.length - 1 - k = m := by omega
          rw [e1, hx, hy] at h2
          simp only [Option.getD_some] at h2
          rw [h2] at h1
          exact h1.drew
        · exact grown_drew (grown_set (grown_set hg _ _) _ _)
      case measure => simp [intOf]; omega
    · go_wp2_with fail
      have hk2 : l.length ≤ 2 * k + 1 := by rw [← HN.out]; omega
      rw [revK_end _ _ hk2] at hrow
      go_end0
      exact ⟨rfl, hrow, hg⟩
end Go.Proofs.Ytogodjiemgilaaa
