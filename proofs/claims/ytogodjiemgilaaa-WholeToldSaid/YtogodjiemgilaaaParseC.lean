/- A number's text read again. -/
import Derived.Test.YtogodjiemgilaaaParseB
namespace Go.Proofs.Ytogodjiemgilaaa
open Go.RowKit

theorem byt_bs (l : List Nat) (h : ∀ d ∈ l, d < 256) : byt (bs l) = l := by
  unfold byt bs
  simp only [List.map_map]
  conv => rhs; rw [← List.map_id l]
  apply List.map_congr_left
  intro d hd
  show (UInt8.ofNat d).toNat = d
  rw [UInt8.toNat_ofNat']
  exact Nat.mod_eq_of_lt (h d hd)

theorem isD_dig (d : Nat) (h : d < 10) : isD (d + 48) = true := by
  unfold isD; rw [decide_eq_true (by omega), decide_eq_true (by omega)]; rfl
theorem dgt_dig (d : Nat) (h : d < 10) : dgt (d + 48) = d := by rw [(dgt_of (isD_dig d h)).1]; omega

theorem parseU_asc (D : List Nat) (h : ∀ d ∈ D, d < 10) (h0 : 0 < D.length) (hl : D.length ≤ 10000) : parseU (asc D).reverse = some (val 10 D) := by
  unfold parseU
  rw [if_pos ⟨by rw [List.length_reverse, asc_len]; exact h0, by rw [List.length_reverse, asc_len]; exact hl, List.all_eq_true.2 fun c hc => by
    rw [List.mem_reverse] at hc
    simp only [asc, List.mem_map] at hc
    obtain ⟨d, hd, rfl⟩ := hc
    exact isD_dig d (h d hd)⟩]
  unfold numU
  rw [List.reverse_reverse]
  congr 2
  simp only [asc, List.map_map]
  conv => rhs; rw [← List.map_id D]
  apply List.map_congr_left
  intro d hd
  exact dgt_dig d (h d hd)

theorem txt_lt (z : Int) : ∀ d ∈ (txtR (decide (z < 0)) z.natAbs).reverse, d < 256 := by
  intro d hd
  rw [List.mem_reverse] at hd
  unfold txtR at hd
  rw [List.mem_append, List.mem_append] at hd
  rcases hd with (hd | hd) | hd
  · simp only [asc, List.mem_map] at hd
    obtain ⟨x, hx, rfl⟩ := hd
    have := dg_lt ten_gt hx
    omega
  · split at hd
    · simp at hd; omega
    · cases hd
  · split at hd
    · simp at hd; omega
    · cases hd

theorem parse_txt (z : Int) (hl : (dg 10 z.natAbs).length ≤ 9999) : parseL (byt (txt z)) = some z := by
  have hb := txt_lt z
  unfold txt
  rw [byt_bs _ hb]
  have hz := sz_self z
  have hs0 : z.natAbs = 0 → decide (z < 0) = false := fun h => decide_eq_false (by omega)
  generalize z.natAbs = n at *
  generalize decide (z < 0) = s at *
  -- the digits
  obtain ⟨D, hD⟩ : ∃ D : List Nat, D = if n = 0 then [0] else dg 10 n := ⟨_, rfl⟩
  have hDt : asc (dg 10 n) ++ (if n = 0 then [48] else []) = asc D := by
    rw [hD]
    by_cases h : n = 0
    · subst h; rfl
    · rw [if_neg h, if_neg h, List.append_nil]
  have hD10 : ∀ d ∈ D, d < 10 := by
    rw [hD]; split
    · intro d hd; simp at hd; omega
    · intro d hd; exact dg_lt ten_gt hd
  have hDv : val 10 D = n := by
    rw [hD]; split
    · rename_i h; rw [h]; rfl
    · exact val_dg ten_gt n
  have hD0 : 0 < D.length := by
    rw [hD]; split
    · simp
    · rename_i h
      have := dg_len0 ten_gt n
      omega
  have hDl : D.length ≤ 10000 := by
    rw [hD]; split
    · simp
    · omega
  have hP := parseU_asc D hD10 hD0 hDl
  unfold txtR
  rw [hDt]
  cases s
  · rw [if_neg (by simp), List.append_nil]
    unfold parseL
    rw [if_neg, hP, hDv, ← hz]; rfl
    intro h
    rw [List.getElem?_reverse (by rw [asc_len]; exact hD0)] at h
    have hk : (asc D).length - 1 - 0 < (asc D).length := by rw [asc_len]; omega
    rw [List.getElem?_eq_getElem hk, Option.getD_some] at h
    simp only [asc, List.getElem_map] at h
    omega
  · rw [if_pos rfl, List.reverse_append]
    unfold parseL
    rw [if_pos (show ([45].reverse ++ (asc D).reverse)[0]?.getD 0 = 45 from rfl)]
    show (parseU (asc D).reverse).map (sz true) = _
    rw [hP, hDv, ← hz]; rfl

theorem dg10_len (n k : Nat) (h : (dg BB n).length ≤ k) : (dg 10 n).length ≤ 9 * k := by
  rw [dg_len_le BB_gt] at h
  rw [dg_len_le ten_gt, ← BB_pow]
  exact h
end Go.Proofs.Ytogodjiemgilaaa
