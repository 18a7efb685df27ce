/- slices.Clone at one type of slices. -/
import Derived.Test.YtogodjiemgilaaaRows
import Derived.Test.YtogodjiemgilaaaBase
namespace Go.Proofs.Ytogodjiemgilaaa
open Go.RowKit

theorem elemDg : Elem Try.prog 162 160 (.int .u32 0) 1 4 := Elem.mk Try.underlying162 (by kernel_rfl) rfl (by decide)

set_option maxRecDepth 100000 in
set_option maxHeartbeats 400000 in
theorem cloneDg (a : Option Addr) (n c : Nat) (xs : List Value) (w : World) (hl : xs.length = n * 1) (hn : n ≤ c) (hc : c ≤ maxLen) (hb : n * 4 ≤ 140737488355328) (hr : Rd w a xs) (h1 : ∀ u ∈ xs, u.oneCell' = true) :
    Calls Try.prog 173 #[.slice a n c] w (GotC w n xs) := by
  have H1 := Lib.hid h1
  have HL := Lib.hid hl
  clear h1 hl
  rcases a with _ | ad
  · have hx : xs = [] := by
      rcases hr with h0 | ⟨b, off, e, _⟩
      · exact h0
      · cases e
    have hn0 : n = 0 := by have := HL.out; rw [hx] at this; simp at this; omega
    subst hn0
    have hnil := fun (w : World) (a : Option Addr) (l c : Nat) => Lib.run_eql_slice_nil (P := Try.prog) w (t := 162) (e := 160) a l c 0 0 Try.underlying162
    go_enter Try.func173, Try.ntmps173
    go_wp2
    go_ret
    exact ⟨none, 0, rfl, Nat.le_refl _, by simp [maxLen], by rw [hx]; exact Rd.nil _ _, Ext.refl _, From.none _⟩
  · have hm : n ≤ maxLen := by omega
    have hnil := fun (w : World) (a : Option Addr) (l c : Nat) => Lib.run_eql_slice_nil (P := Try.prog) w (t := 162) (e := 160) a l c 0 0 Try.underlying162
    go_enter Try.func173, Try.ntmps173
    go_wp2_with (at_builtin; refine append_row elemDg (World.ownsRow_made _ _ 0 (Nat.le_refl _) (by simp [maxLen]) rfl) (Ext.new _ _) HL.out (hr.alloc _) (by omega) (by omega) H1.out rfl _ _ rfl rfl rfl ?_; intro v' w1 own1 ext1 _)
    go_ret
    obtain ⟨a', c', rfl, f1, f2, f3⟩ := own_form own1
    have hf := own_from own1
    rw [Nat.zero_add] at *
    exact ⟨a', c', rfl, f1, f2, f3, ext1, hf⟩
end Go.Proofs.Ytogodjiemgilaaa
