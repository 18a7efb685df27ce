/- The reference's Form. -/
import Derived.Test.YtogodjiemgilaaaRef1D
import Derived.Test.YtogodjiemgilaaaWholeRulesA
namespace Go.Proofs.Ytogodjiemgilaaa
open Go.RowKit

/-- append of one element, whatever else has turned -/
theorem append_elem_b {P : Program} {T E : TypeId} {z : Value} {size bytes : Nat} (he : Elem P T E z size bytes) {base : Nat} {w : World} {v : Value} {n : Nat} {xs : List Value}
    (own : w.ownsRow base E size v n xs) (hbase : base ≤ w.heap.size) (hn : n + 1 ≤ maxLen) (hb : (n + 1) * bytes ≤ 140737488355328)
    {cs : Array Value} (hcs : cs.size = size) (h1 : ∀ u ∈ cs.toList, u.oneCell' = true)
    {ops : Array Oper} {rest : List Oper} {o : Oper} {a : Act} {Q : Exit → Act → World → Prop} (hgd : o.guard = none) (s x : Operand)
    (ho : o.op = .call { callee := .builtin .append, args := #[s, x], argTypes := #[T, T] }) (hs : a.eval s = v) (hx : a.eval x = .slice (some ⟨w.heap.size, 0, none⟩) 1 1)
    (h : ∀ v' w', w'.ownsRow base E size v' (n + 1) (xs ++ cs.toList) → (w.alloc (.cells cs E)).grownBy w' v.ownBlock → wpList P ops Q rest (a.put o.dst v') w') : wpList P ops Q (o :: rest) a (w.alloc (.cells cs E)) := by
  obtain ⟨ht, i, hi, hz, hsz, hby, hzs, hpos⟩ := he
  refine wpList_append_own _ hgd s x T ho base E i z size bytes ht hi hz hsz hby hzs hpos v n xs hs (own.alloc _) ⟨w.heap.size, 0, none⟩ 1 1 cs.toList hx (by simpa using hcs) (cells_new w cs E) h1 hn hb (by simp; omega) ?_
  intro v' w' own' hg _
  exact h v' w' own' hg

theorem elemU32s : Elem Try.prog 67 160 (.int .u32 0) 1 4 := Elem.mk Try.underlying67 (by kernel_rfl) rfl (by decide)

theorem own_far {w : World} {base : Nat} {e : TypeId} {size n : Nat} {v : Value} {xs : List Value} (h : w.ownsRow base e size v n xs) {p : Addr} (hp : p.block < base) (u : Value) : (w.setCell p u).ownsRow base e size v n xs := by
  obtain ⟨h1, h2⟩ := h
  refine ⟨h1, ?_⟩
  rcases h2 with h2 | ⟨g, cap, cur, e1, e2, e3, e4⟩
  · exact .inl h2
  · exact .inr ⟨g, cap, cur, e1, e2, (Below.heap_setCell _ _ _ _ (by omega)).trans e3, e4⟩

/-- a row below the base stands when a row of the call's own grows -/
theorem Row.below {w w' : World} {g base n : Nat} {E E' : TypeId} {xs ys : List Value} {o : Obj} {v : Value} {size : Nat} (h : Row w g E xs) (own : w.ownsRow base E' size v n ys) (hg : g < base) (hgr : (w.alloc o).grownBy w' v.ownBlock) : Row w' g E xs :=
  (h.alloc o).grown hgr (fun e => by
    have := (own.lt g e.symm).1
    omega)

set_option maxRecDepth 100000 in
set_option maxHeartbeats 4000000 in
theorem rform_walk (z : Int) (a : Option Addr) (ca : Nat) (w : World) (hb : (dg 10 z.natAbs).length ≤ 100000) (h : IsNum w z a ca) :
    Calls Try.prog 53 #[.agg #[.bool (decide (z < 0)), .slice a (dg 10 z.natAbs).length ca]] w (GI z w) := by
  have hr := h.2.2
  have hnb := lt_pow_len ten_gt z.natAbs
  have hlt10 := dg_len_lt ten_gt (n := z.natAbs)
  unfold GI
  have HI : Hid (∀ W a c, (dg BB z.natAbs).length ≤ c → c ≤ maxLen → Rd W a (ks .u32 (dg BB z.natAbs)) → IsInt W z a c) := fun W a c h1 h2 h3 => ⟨h1, h2, h3⟩
  clear h
  generalize z.natAbs = y at *
  generalize decide (z < 0) = s at *
  obtain ⟨L, hL⟩ : ∃ L, L = (dg 10 y).length := ⟨_, rfl⟩
  rw [← hL] at hb hnb ⊢
  have hlt : ∀ i, i < L ↔ 10 ^ i ≤ y := fun i => by rw [hL]; exact hlt10 i
  have hget : ∀ i, (hi : i < L) → (dg 10 y)[i]'(by rw [← hL]; exact hi) = y / 10 ^ i % 10 := fun i hi => dg_at ten_gt _
  have HL := Lib.hid hL
  have HLT := Lib.hid hlt
  have HNB := Lib.hid hnb
  have HR := Lib.hid hr
  have HGET : Hid (∀ W, Rd W a (ks .i64 (dg 10 y)) → ∀ i, i < L → ∃ b off, a = some ⟨b, off, none⟩ ∧ W.cell? ⟨b, off + i, none⟩ = some (.int .i64 ((y / 10 ^ i % 10 : Nat) : Int))) := fun W hW i hi => by
    obtain ⟨b, off, e, hc⟩ := hW.num (i := i) (by rw [← hL]; exact hi)
    rw [dg_at ten_gt] at hc
    exact ⟨b, off, e, hc⟩
  clear hL hlt hnb hr hlt10 hget
  go_enter Try.func53, Try.ntmps53
  go_wp2_with fail
  obtain ⟨W1, hW1⟩ : ∃ W1, ((w.alloc (.cells #[.bool s, .slice a L ca] 72)).alloc (.cells #[.bool false, .slice none 0 0] 69)).alloc (.cells #[.bool s, .slice none 0 0] 69) = W1 := ⟨_, rfl⟩
  have q0 : Row W1 w.heap.size 72 [.bool s, .slice a L ca] := by rw [← hW1]; exact ((Row.new w _ [_, _]).alloc _).alloc _
  have q1 : Row W1 (w.heap.size + 1) 69 [.bool false, .slice none 0 0] := by
    rw [← hW1]
    have := (Row.new (w.alloc (.cells #[.bool s, .slice a L ca] 72)) 69 [.bool false, .slice none 0 0]).alloc (.cells #[.bool s, .slice none 0 0] 69)
    rwa [World.size_alloc] at this
  have q2 : Row W1 (w.heap.size + 1 + 1) 69 [.bool s, .slice none 0 0] := by
    rw [← hW1]
    have := Row.new ((w.alloc (.cells #[.bool s, .slice a L ca] 72)).alloc (.cells #[.bool false, .slice none 0 0] 69)) 69 [.bool s, .slice none 0 0]
    rwa [World.size_alloc, World.size_alloc] at this
  have x1 : Ext w W1 := by rw [← hW1]; exact ((Ext.new _ _).alloc _).alloc _
  have hs1 : W1.heap.size = w.heap.size + 1 + 1 + 1 := by rw [← hW1]; simp
  rw [hW1]
  clear hW1
  go_loopw [4] (fun iv wr => ∃ (k : Nat) (v : Value), 9 * k ≤ L + 8 ∧ iv = .int .i64 ((9 * k : Nat) : Int) ∧ Row wr w.heap.size 72 [.bool s, .slice a L ca] ∧ Row wr (w.heap.size + 1) 69 [.bool false, .slice none 0 0] ∧ Row wr (w.heap.size + 1 + 1) 69 [.bool s, v] ∧ wr.ownsRow (w.heap.size + 1 + 1 + 1) 160 1 v k (ks .u32 (fixd BB k y)) ∧ w.heap.size + 1 + 1 + 1 ≤ wr.heap.size ∧ Ext w wr ∧ Hid (k = 0 ∨ BB ^ (k - 1) ≤ y)) (fun iv _ => L + 9 - (intOf iv).toNat)
  case atStart => exact ⟨0, .slice none 0 0, by omega, rfl, q0, q1, q2, World.ownsRow_nil _ _ _ _, by omega, x1, .inl rfl⟩
  case round =>
    obtain ⟨k, v, hk, rfl, p0, p1, p2, hown, hsz, hext, HP⟩ := hrel
    have k0 := p0.cell (i := 0) rfl
    have k1 := p0.cell (i := 1) rfl
    by_cases hlt : 9 * k < L
    · have P := Lib.hid (And.intro p0 (And.intro p1 (And.intro p2 (And.intro hown (And.intro hsz hext)))))
      have hkb : BB ^ k ≤ y := by rw [BB_pow]; exact (HLT.out _).1 hlt
      have HKB := Lib.hid hkb
      clear p0 p1 p2 hown hsz hext hkb
      go_wp2_with fail
      clear k0 k1
      obtain ⟨wo, hwo⟩ : ∃ wo, wo = wr := ⟨_, rfl⟩
      rw [← hwo] at P ⊢
      clear hwo
      go_loopw [5, 6] (fun nv iv wr2 => ∃ j : Nat, j ≤ 9 ∧ iv = .int .i64 (((9 * k : Nat) : Int) + 8 - j) ∧ nv = .int .i64 ((y / 10 ^ (9 * k + 9 - j) % 10 ^ j : Nat) : Int) ∧ wo = wr2) (fun _ iv _ => (intOf iv + 1).toNat)
      case atStart => exact ⟨0, by omega, by simp, by simp [Nat.mod_one], rfl⟩
      case round =>
        obtain ⟨j, hj, rfl, rfl, rfl⟩ := hrel
        have k0 := P.out.1.cell (i := 0) rfl
        have k1 := P.out.1.cell (i := 1) rfl
        by_cases hj9 : j < 9
        · obtain ⟨p, hp⟩ : ∃ p : Nat, ((9 * k : Nat) : Int) + 8 - j = (p : Int) := ⟨9 * k + 8 - j, by omega⟩
          have HPP := Lib.hid hp
          have hpk : 9 * k ≤ p := by omega
          have hpl : p ≤ 200000 := by omega
          rw [hp]
          have hnb : y / 10 ^ (9 * k + 9 - j) % 10 ^ j < 10 ^ j := Nat.mod_lt _ (Nat.pow_pos (by decide))
          have hkb : 10 ^ j ≤ 10 ^ 8 := Nat.pow_le_pow_right (by decide) (by omega)
          have hnb2 : y / 10 ^ (9 * k + 9 - j) % 10 ^ j < 100000000 := Nat.lt_of_lt_of_le hnb hkb
          have HST : Hid (y / 10 ^ (9 * k + 9 - (j + 1)) % 10 ^ (j + 1) = 10 * (y / 10 ^ (9 * k + 9 - j) % 10 ^ j) + y / 10 ^ p % 10) := by
            show _ = _
            rw [piece_step, show 9 * k + 9 - (j + 1) = p by omega, show p + 1 = 9 * k + 9 - j by omega]
          have hd10 : y / 10 ^ p % 10 < 10 := Nat.mod_lt _ (by decide)
          have HZ : Hid (¬ p < L → y / 10 ^ p % 10 = 0) := fun h => digit_0 (by have := not_congr (HLT.out p); omega)
          have HC := HGET.out wo (HR.out.ext P.out.2.2.2.2.2) p
          clear hp hnb hkb
          generalize y / 10 ^ (9 * k + 9 - j) % 10 ^ j = v0 at *
          generalize y / 10 ^ p % 10 = d at *
          by_cases hpL : p < L
          · obtain ⟨b0, ob, rfl, hcb⟩ := HC hpL
            clear HC
            go_wp2_with fail
            go_roundw
            case rel =>
              have h4 := HPP.out
              refine ⟨j + 1, by omega, ?_, ?_, by first | rfl | trivial⟩
              · congr 1; omega
              · rw [HST.out]; congr 1
            case measure => simp [intOf] <;> omega
          · have hd0 := HZ.out hpL
            subst hd0
            clear HC
            go_wp2_with fail
            go_roundw
            case rel =>
              have h4 := HPP.out
              refine ⟨j + 1, by omega, ?_, ?_, by first | rfl | trivial⟩
              · congr 1; omega
              · rw [HST.out]; congr 1
            case measure => simp [intOf] <;> omega
        · have hj9' : 9 = j := by omega
          subst hj9'
          have HV : Hid (y / 10 ^ (9 * k + 9 - 9) % 10 ^ 9 = y / BB ^ k % BB) := by show _ = _; rw [BB_pow]; rfl
          have hvb : y / BB ^ k % BB < 1000000000 := Nat.mod_lt _ (by decide)
          rw [HV.out]
          have HFS : Hid (fixd BB (k + 1) y = fixd BB k y ++ [y / BB ^ k % BB]) := fixd_succ _ _ _
          generalize y / BB ^ k % BB = x at *
          have k2 := P.out.2.2.1.cell (i := 0) rfl
          have k3 := P.out.2.2.1.cell (i := 1) rfl
          go_wp2_with (at_builtin; refine append_elem_b elemU32s P.out.2.2.2.1 P.out.2.2.2.2.1 (by unfold maxLen; omega) (by omega) rfl (by simp [Value.oneCell']) rfl _ _ rfl rfl rfl ?_; intro v' w1 own1 gr1; obtain ⟨a5, c5, rfl, g1, g2, g3⟩ := own_form own1; have t2 := P.out.2.2.1.below P.out.2.2.2.1 (by omega) gr1; have e2 := t2.cell (i := 0) rfl; have e3 := t2.cell (i := 1) rfl; have f2 := t2.frozen 1)
          go_roundw
          case rel =>
            obtain ⟨p0, p1, p2, hown, hsz, hext⟩ := P.out
            have e0 := p0.below hown (by omega) gr1
            have e1 := p1.below hown (by omega) gr1
            have e4 := t2.set 1 (.slice a5 (k + 1) c5)
            refine ⟨k + 1, .slice a5 (k + 1) c5, by omega, ?_, e0.far (p := ⟨w.heap.size + 1 + 1, 1, none⟩) (Nat.ne_of_lt (by show _ < w.heap.size + 1 + 1; omega)) _, e1.far (p := ⟨w.heap.size + 1 + 1, 1, none⟩) (Nat.ne_of_lt (by show _ < w.heap.size + 1 + 1; omega)) _, e4, ?_, ?_, ?_, .inr HKB.out⟩
            · congr 1 <;> omega
            · rw [HFS.out, ks_append]
              exact own_far own1 (by show w.heap.size + 1 + 1 < _; omega) _
            · have := gr1.size; simp [World.setCell] at this ⊢; omega
            · exact ((hext.alloc _).grown gr1 (fun q hq => by have := (hown.lt q hq).1; omega)).set (p := ⟨w.heap.size + 1 + 1, 1, none⟩) (by show w.heap.size ≤ w.heap.size + 1 + 1; omega) _
          case measure => simp [intOf] <;> omega
    · have hN : y < BB ^ k := by rw [BB_pow]; exact Nat.lt_of_lt_of_le HNB.out (Nat.pow_le_pow_right (by decide) (by omega))
      have hfd : fixd BB k y = dg BB y := fixd_dg BB_gt hN HP.out
      rw [hfd] at hown
      have hkl : k = (dg BB y).length := by rw [← hfd, fixd_len]
      obtain ⟨a1, c1, rfl, g1, g2, g3⟩ := own_form hown
      have gf := own_from hown
      have k2 := p2.cell (i := 0) rfl
      have k3 := p2.cell (i := 1) rfl
      have k4 := p1.cell (i := 0) rfl
      have k5 := p1.cell (i := 1) rfl
      have f4 := p1.frozen 0
      have f5 := p1.frozen 1
      rw [hkl] at g1 k3
      have G := Lib.hid (And.intro g1 (And.intro g2 (And.intro g3 (And.intro gf (And.intro p1 hext)))))
      obtain ⟨lm, hlm⟩ : ∃ x, (dg BB y).length = x := ⟨_, rfl⟩
      have HLM := Lib.hid hlm
      rw [hlm] at k3
      clear g1 g2 g3 gf p0 p1 p2 hown hkl hfd hN hsz hext hlm
      go_wp2_with fail
      obtain ⟨g1, g2, g3, gf, p1, hext⟩ := G.out
      have r9 := (p1.set 0 (.bool s)).set 1 (.slice a1 lm c1)
      have z0 := r9.cell (i := 0) rfl
      have z1 := r9.cell (i := 1) rfl
      refine bodyPost_ret (v := .agg #[.bool s, .slice a1 lm c1]) (by simp [results, Try.f53, go_sem, z0, z1]) rfl ⟨a1, c1, by rw [HLM.out], HI.out _ _ _ g1 g2 ((g3.far gf (p := ⟨w.heap.size + 1, 0, none⟩) (by show w.heap.size + 1 < _; omega) _).far gf (p := ⟨w.heap.size + 1, 1, none⟩) (by show w.heap.size + 1 < _; omega) _), (hext.set (p := ⟨w.heap.size + 1, 0, none⟩) (Nat.le_succ _) _).set (p := ⟨w.heap.size + 1, 1, none⟩) (Nat.le_succ _) _⟩
end Go.Proofs.Ytogodjiemgilaaa
