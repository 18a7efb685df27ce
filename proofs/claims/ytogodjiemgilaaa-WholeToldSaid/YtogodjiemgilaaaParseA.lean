/- Parse. -/
import Derived.Test.YtogodjiemgilaaaLaw1
import Derived.Laws.IdiomStrings
namespace Go.Proofs.Ytogodjiemgilaaa
open Go.RowKit

/-- the bytes of a text -/
def byt (s : ByteArray) : List Nat := s.data.toList.map UInt8.toNat
theorem byt_len (s : ByteArray) : (byt s).length = s.size := by unfold byt; rw [List.length_map]; rfl
theorem byt_get (s : ByteArray) (i : Nat) (h : i < s.size) : (byt s)[i]'(by rw [byt_len]; exact h) = s[i].toNat := by
  simp only [byt, List.getElem_map]
  rfl
theorem byt_lt (s : ByteArray) : ∀ d ∈ byt s, d < 256 := by
  intro d hd
  simp only [byt, List.mem_map] at hd
  obtain ⟨x, _, rfl⟩ := hd
  exact x.toNat_lt
theorem byt_extract (s : ByteArray) (i j : Nat) : byt (s.extract i j) = ((byt s).take j).drop i := by
  simp [byt, ByteArray.data_extract, Array.toList_extract, List.extract_eq_take_drop, List.drop_take]
/-- []byte(s) -/
theorem conv_text (w : World) (s : ByteArray) : ∃ c w', (convert 9 59 (.string s)).run Try.prog w = .ok (.slice (some ⟨w.heap.size, 0, none⟩) s.size c) w' ∧ Ext w w' ∧ Rd w' (some ⟨w.heap.size, 0, none⟩) (ks .u8 (byt s)) := by
  refine ⟨_, _, run_bytes_of_string w 9 59 5 s Try.underlying9 Try.underlying59 Try.underlying5, ((Ext.refl w).drew).alloc _, ?_⟩
  refine .inr ⟨w.heap.size, 0, rfl, fun j u hu => ?_⟩
  have hh := heap_alloc_new w.drew (.cells (bytesRow s (grownCap w s.size 0 5)) 5 ((bytesRow s (grownCap w s.size 0 5)).size, (bytesRow s (grownCap w s.size 0 5)).size + 1))
  rw [Nat.zero_add]
  rw [cell_of_row _ w.heap.size j _ _ _ hh]
  have hj : j < s.data.size := by
    have := (List.getElem?_eq_some_iff.1 hu).1
    rw [ks_len, byt_len] at this
    exact this
  rw [← hu, bytesRow_at _ _ _ hj]
  rw [ks, byt, List.map_map, List.getElem?_map, Array.getElem?_toList, Array.getElem?_eq_getElem hj]
  rfl
end Go.Proofs.Ytogodjiemgilaaa
