/- The reference's Div: the loops. -/
import Derived.Test.YtogodjiemgilaaaRef1I
import Derived.Test.YtogodjiemgilaaaTyA
import Derived.Deep.Cut
namespace Go.Proofs.Ytogodjiemgilaaa
open Go.RowKit

/-- the boxes of the quotient's arguments and results -/
def N4 (w W : World) (u0 u1 v0 v1 : Value) : Prop := Row W w.heap.size 72 [u0, u1] ∧ Row W (w.heap.size + 1) 72 [v0, v1] ∧ Row W (w.heap.size + 1 + 1) 72 [.bool false, .slice none 0 0] ∧ Row W (w.heap.size + 1 + 1 + 1) 72 [.bool false, .slice none 0 0]
theorem N4.ext {w W W' : World} {u0 u1 v0 v1 : Value} (h : N4 w W u0 u1 v0 v1) (e : Ext W W') : N4 w W' u0 u1 v0 v1 := ⟨h.1.ext e, h.2.1.ext e, h.2.2.1.ext e, h.2.2.2.ext e⟩
theorem N4.new (w : World) (u0 u1 v0 v1 : Value) :
    ∃ W0, (((w.alloc (.cells #[u0, u1] 72)).alloc (.cells #[v0, v1] 72)).alloc (.cells #[.bool false, .slice none 0 0] 72)).alloc (.cells #[.bool false, .slice none 0 0] 72) = W0 ∧ N4 w W0 u0 u1 v0 v1 ∧ Ext w W0 ∧ W0.heap.size = w.heap.size + 1 + 1 + 1 + 1 := by
  obtain ⟨W, hW, q0, q1, q2, x, hs⟩ := two_nums w u0 u1 v0 v1
  rw [hW]
  refine ⟨_, rfl, ⟨q0.alloc _, q1.alloc _, q2.alloc _, ?_⟩, x.alloc _, by simp [hs]⟩
  have := Row.new W 72 [.bool false, .slice none 0 0]
  rwa [hs] at this

set_option maxRecDepth 100000 in
set_option maxHeartbeats 4000000 in
theorem rdiv_walk (z1 z2 : Int) (a b : Option Addr) (ca cb : Nat) (w : World) (hb1 : (dg 10 z1.natAbs).length ≤ 100000) (hb2 : (dg 10 z2.natAbs).length ≤ 100000) (h1 : IsNum w z1 a ca) (h2 : IsNum w z2 b cb) (h0 : z2 ≠ 0) :
    Calls Try.prog 50 #[.agg #[.bool (decide (z1 < 0)), .slice a (dg 10 z1.natAbs).length ca], .agg #[.bool (decide (z2 < 0)), .slice b (dg 10 z2.natAbs).length cb]] w (post w (VP.tup [NUM (divZ z1 z2), NUM (modZ z1 z2)])) := by
  have ha := h1.2.2
  have hb := h2.2.2
  have hm : 0 < z2.natAbs := by omega
  have h1c := h1.1
  have h2c := h2.1
  have h1m := h1.2.1
  have h2m := h2.2.1
  clear h1 h2 h0
  obtain ⟨n, hgn⟩ : ∃ n, z1.natAbs = n := ⟨_, rfl⟩
  obtain ⟨m, hgm⟩ : ∃ m, z2.natAbs = m := ⟨_, rfl⟩
  obtain ⟨s1, hgs1⟩ : ∃ s1, decide (z1 < 0) = s1 := ⟨_, rfl⟩
  obtain ⟨s2, hgs2⟩ : ∃ s2, decide (z2 < 0) = s2 := ⟨_, rfl⟩
  have HE := Lib.hid (And.intro hgn (And.intro hgm (And.intro hgs1 hgs2)))
  rw [hgn] at hb1 ha h1c ⊢
  rw [hgm] at hb2 hb h2c hm ⊢
  rw [hgs1, hgs2]
  clear hgn hgm hgs1 hgs2
  have hNN := lt_pow_len ten_gt n
  have hl0 := dg_len0 ten_gt m
  generalize hna : (dg 10 n).length = na at *
  generalize hnb : (dg 10 m).length = nb at *
  have HNA := Lib.hid hna
  have HNB := Lib.hid hnb
  have HN := Lib.hid hNN
  have HA := Lib.hid ha
  have HB := Lib.hid hb
  have hnb0 : 0 < nb := by omega
  have HM := Lib.hid hm
  clear hna hnb hNN ha hb hl0
  go_enter Try.func50, Try.ntmps50
  obtain ⟨W1, hW1, q0, x1, hs1⟩ := N4.new w (.bool s1) (.slice a na ca) (.bool s2) (.slice b nb cb)
  have Q := Lib.hid (And.intro q0 (And.intro x1 (And.intro hs1 hW1)))
  clear q0 x1 hs1 hW1
  go_wp2_with (at_make; rw [Q.out.2.2.2]; refine make_one elemI64 rfl rfl _ _ rfl rfl rfl (n := na) (by omega) (by omega) (by omega) (by unfold maxLen; omega) ?_; intro w0 hrow0 hext0; have k0 := (Q.out.1.1.ext hext0).cell (i := 0) rfl; have k1 := (Q.out.1.1.ext hext0).cell (i := 1) rfl; have k2 := (Q.out.1.2.1.ext hext0).cell (i := 0) rfl; have k3 := (Q.out.1.2.1.ext hext0).cell (i := 1) rfl; have kk1 := (Q.out.1.1.ext (hext0.alloc (.cells #[] 3))).cell (i := 1) rfl)
  have own0 := own_emptyE w0 3
  rw [ks_replicate] at hrow0
  have F0 := own_from own0
  have X0 := hext0.alloc (.cells #[] 3)
  have R0 := hrow0.alloc (.cells #[] 3)
  have hw0 := hext0.size
  have hgq : W1.heap.size < w0.heap.size := hrow0.lt
  go_loopw [7, 8] (fun rv iv wr => ∃ k : Nat, k ≤ na ∧ iv = .int .i64 ((na : Int) - 1 - k) ∧ ∃ a' c', rv = .slice a' (dg 10 (n / 10 ^ (na - k) % m)).length c' ∧ (dg 10 (n / 10 ^ (na - k) % m)).length ≤ c' ∧ c' ≤ maxLen ∧ Rd wr a' (ks .i64 (dg 10 (n / 10 ^ (na - k) % m))) ∧ From (W1.heap.size + 1) a' ∧ Row wr W1.heap.size 3 (ks .i64 (dvQ 10 n m na k)) ∧ Ext W1 wr) (fun _ iv _ => (intOf iv + 1).toNat)
  case atStart =>
    have hz : n / 10 ^ (na - 0) % m = 0 := by rw [Nat.sub_zero, Nat.div_eq_of_lt HN.out]; exact Nat.zero_mod m
    have hQ0 : dvQ 10 n m na 0 = List.replicate na 0 := by
      have h := dvS_down ten_gt n m na HM.out HN.out 0 (Nat.zero_le _)
      rw [List.range_zero, List.map_nil, dvS_nil] at h
      exact (Prod.mk.inj h).1.symm
    refine ⟨0, by omega, by simp, some ⟨w0.heap.size, 0, none⟩, 0, by rw [hz]; rfl, by rw [hz]; exact Nat.le_refl _, by simp [maxLen], by rw [hz]; exact Rd.nil _ _, ?_, by rw [hQ0]; exact R0, X0⟩
    intro ad e
    cases e
    exact hgq
  case round =>
    obtain ⟨k, hk, rfl, a', c', rfl, j1, j2, j3, j4, j5, hext⟩ := hrel
    clear own0 F0 X0 R0 hrow0 hext0 k0 k1 k2 k3 kk1 hw0 hgq
    have k0 := (Q.out.1.1.ext hext).cell (i := 0) rfl
    have k1 := (Q.out.1.1.ext hext).cell (i := 1) rfl
    have k2 := (Q.out.1.2.1.ext hext).cell (i := 0) rfl
    have k3 := (Q.out.1.2.1.ext hext).cell (i := 1) rfl
    by_cases hlt : k < na
    · obtain ⟨p, hp⟩ : ∃ p : Nat, (na : Int) - 1 - k = (p : Int) := ⟨na - 1 - k, by omega⟩
      have hpn : p < na := by omega
      have HPP : Hid (p = na - 1 - k) := by show _ = _; omega
      obtain ⟨ba, oa, rfl, hca⟩ := (HA.out.ext (Q.out.2.1.trans hext)).num (i := p) (by rw [HNA.out]; exact hpn)
      rw [fdig10] at hca
      have hRm : n / 10 ^ (na - k) % m < m := Nat.mod_lt _ HM.out
      obtain ⟨st1, st2⟩ := rdiv_step ten_gt n m na k p HM.out HN.out hlt HPP.out
      have hx : n / 10 ^ p % 10 < 10 := Nat.mod_lt _ (by decide)
      have hlenR : (dg 10 (n / 10 ^ (na - k) % m)).length ≤ nb := by rw [← HNB.out]; exact dg_len_mono ten_gt (Nat.le_of_lt hRm)
      generalize n / 10 ^ (na - k) % m = R at *
      generalize n / 10 ^ p % 10 = x at *
      have HST1 := Lib.hid st1
      have HST2 := Lib.hid st2
      have HRM := Lib.hid hRm
      rw [hp]
      clear st1 st2 hp hRm
      have ownD := (Row.new wr 3 [.int .i64 (x : Int)]).own (base := wr.heap.size) (Nat.le_refl _) (by simp [maxLen])
      go_wp2_with (at_builtin; refine append_row elemI64 (W := wr) ownD (Ext.new _ _) (by rw [ks_len, Nat.mul_one]) (j3.alloc _) (by unfold maxLen; simp; omega) (by simp; omega) (by simp [ks, Value.oneCell']) rfl _ _ rfl rfl rfl ?_; intro v1 w1 own1 x1 hg1; obtain ⟨a1, c1, rfl, f1, f2, f3⟩ := own_form own1)
      obtain ⟨t, ht⟩ : ∃ t, t = x + 10 * R := ⟨_, rfl⟩
      rw [← ht] at HST1 HST2
      have HTM : Hid (t < 10 * m) := by have := HRM.out; show _ < _; omega
      have hstrip : strip (x :: dg 10 R) = dg 10 t := by
        rw [strip_dg ten_gt _ (fun d hd => by
          rcases List.mem_cons.1 hd with h | h
          · rw [h]; exact hx
          · exact dg_lt ten_gt h)]
        simp only [val]; rw [val_dg ten_gt, ht]
      have hklen : stripN (x :: dg 10 R) (x :: dg 10 R).length = (dg 10 t).length := by rw [← strip_len, hstrip]
      have HC := Lib.hid (rcut_walk a1 c1 (x :: dg 10 R) (1 + (dg 10 R).length) w1 (by rw [List.length_cons, Nat.add_comm]) f1 f2 f3)
      rw [hklen] at HC
      have f4 : Rd w1 a1 (ks .i64 (dg 10 t)) := by
        have h6 := f3.take (stripN (x :: dg 10 R) (x :: dg 10 R).length)
        rw [show [Value.int .i64 (x : Int)] ++ ks .i64 (dg 10 R) = ks .i64 (x :: dg 10 R) from rfl, ks_take] at h6
        rwa [show (x :: dg 10 R).take (stripN (x :: dg 10 R) (x :: dg 10 R).length) = dg 10 t from hstrip] at h6
      have f5 : (dg 10 t).length ≤ c1 := by rw [← hklen]; exact Nat.le_trans (stripN_le _ _) (by rw [List.length_cons, Nat.add_comm]; exact f1)
      refine HC.out.mono ?_
      rintro e w2 ⟨rfl, rfl⟩
      have hQ0 : (dvQ 10 n m na k).set p 0 = dvQ 10 n m na k := by
        have hz := dvQ_get0 10 n m na k p hlt HPP.out
        apply List.ext_getElem?
        intro i
        rw [List.getElem?_set]
        by_cases hi : p = i
        · subst hi; rw [if_pos rfl, if_pos (by rw [dvQ_len]; exact hpn), hz]
        · rw [if_neg hi]
      have e1 := j5.ext x1
      have hext1 := hext.trans x1
      have hfa : From (W1.heap.size + 1) a1 := (own_from own1).mono (by have := j5.lt; omega)
      have hlen2 : (dg 10 t).length ≤ nb + 1 := by
        rw [← hklen]; exact Nat.le_trans (stripN_le _ _) (by rw [List.length_cons]; omega)
      have G := Lib.hid (And.intro f4 (And.intro f5 (And.intro f2 (And.intro hfa (And.intro e1 (And.intro hext1 (And.intro hQ0 hlen2)))))))
      clear f1 f2 f3 f4 f5 own1 ownD hg1 x1 e1 hext1 hfa hQ0 hlen2 j1 j2 j3 j4 j5 hext hca hstrip hklen k0 k1 k2 k3 HC ht
      go_wp2_with fail
      go_loopg [7] t (fun g rv wr => ∃ (c : Nat) (a' : Option Addr) (c' : Nat), c * m ≤ t ∧ g = t - c * m ∧ rv = .slice a' (dg 10 (t - c * m)).length c' ∧ (dg 10 (t - c * m)).length ≤ c' ∧ c' ≤ maxLen ∧ Rd wr a' (ks .i64 (dg 10 (t - c * m))) ∧ From (W1.heap.size + 1) a' ∧ Row wr W1.heap.size 3 (ks .i64 ((dvQ 10 n m na k).set p c)) ∧ Ext W1 wr)
      case atStart =>
        have ht0 : t - 0 * m = t := by rw [Nat.zero_mul, Nat.sub_zero]
        refine ⟨0, a1, c1, by omega, ht0.symm, by rw [ht0], by rw [ht0]; exact G.out.2.1, G.out.2.2.1, by rw [ht0]; exact G.out.1, G.out.2.2.2.1, by rw [G.out.2.2.2.2.2.2.1]; exact G.out.2.2.2.2.1, G.out.2.2.2.2.2.1⟩
      case round =>
        obtain ⟨c, a', c', hct, hgk, rfl, g1, g2, g3, g4, g5, g6⟩ := hrel
        have k2 := (Q.out.1.2.1.ext g6).cell (i := 0) rfl
        have k3 := (Q.out.1.2.1.ext g6).cell (i := 1) rfl
        have hlr : (dg 10 (t - c * m)).length ≤ 200000 := Nat.le_trans (dg_len_mono ten_gt (Nat.sub_le _ _)) (by have := G.out.2.2.2.2.2.2.2; omega)
        have HCM := Lib.hid (fun W (h1 : Rd W a' (ks .i64 (dg 10 (t - c * m)))) (h2 : Rd W b (ks .i64 (dg 10 m))) => rcmp_walk a' b c' cb (t - c * m) m W (by omega) (by rw [HNB.out]; omega) h1 h2)
        have HSB := Lib.hid (fun W (hle : m ≤ t - c * m) (h1 : Rd W a' (ks .i64 (dg 10 (t - c * m)))) (h2 : Rd W b (ks .i64 (dg 10 m))) => rsub_walk a' b c' cb (t - c * m) m W hle (by omega) (by rw [HNB.out]; omega) h1 h2)
        rw [HNB.out] at HCM HSB
        have hge := cmpN_ge (t - c * m) m
        have hc10 : c < 10 := Nat.lt_of_mul_lt_mul_right (Nat.lt_of_le_of_lt hct HTM.out)
        have I := Lib.hid (And.intro hct (And.intro hgk (And.intro g1 (And.intro g2 (And.intro g3 (And.intro g4 (And.intro g5 (And.intro g6 hlr))))))))
        clear hct hgk g1 g2 g3 g4 g5 g6 hlr
        generalize cmpN (t - c * m) m = q at *
        obtain ⟨u, hu⟩ : ∃ u, t - c * m = u := ⟨_, rfl⟩
        have HU := Lib.hid hu
        rw [hu] at HCM HSB hge ⊢
        clear hu
        by_cases hq : 0 ≤ q
        · have hle := hge.1 hq
          have HLE := Lib.hid hle
          clear hge hle
          go_wp2_with fail
          refine (HCM.out _ (by rw [← HU.out]; exact I.out.2.2.2.2.1) (HB.out.ext (Q.out.2.1.trans I.out.2.2.2.2.2.2.2.1))).mono ?_
          rintro e w3 ⟨rfl, x3⟩
          have e2 := (Q.out.1.2.1.ext (I.out.2.2.2.2.2.2.2.1.trans x3)).cell (i := 0) rfl
          have e3 := (Q.out.1.2.1.ext (I.out.2.2.2.2.2.2.2.1.trans x3)).cell (i := 1) rfl
          clear k2 k3
          go_wp2_with fail
          refine (HSB.out _ HLE.out (by rw [← HU.out]; exact I.out.2.2.2.2.1.ext x3) (HB.out.ext (Q.out.2.1.trans (I.out.2.2.2.2.2.2.2.1.trans x3)))).mono ?_
          rintro e w4 ⟨a4, c4, rfl, t1, t2, t3, t4, t5⟩
          have rq := (I.out.2.2.2.2.2.2.1.ext x3).ext t4
          have hqc : (ks .i64 ((dvQ 10 n m na k).set p c))[p]? = some (.int .i64 (c : Int)) := by
            rw [ks, List.getElem?_map, List.getElem?_set_self (by rw [dvQ_len]; exact hpn)]; rfl
          have cq := rq.cell hqc
          have fq := rq.frozen p
          have RQ := Lib.hid rq
          clear rq hqc e2 e3
          go_wp2_with fail
          go_roundg (t - (c + 1) * m)
          case measure =>
            have h1 := I.out.2.1
            have h2 := HLE.out
            have h3 := HU.out
            have h4 := HM.out
            rw [Nat.add_mul, Nat.one_mul]
            omega
          case rel =>
            obtain ⟨hct, hgk, g1, g2, g3, g4, g5, g6, hlr⟩ := I.out
            have h2 := HLE.out
            have h3 := HU.out
            have hnew : t - (c + 1) * m = u - m := by rw [Nat.add_mul, Nat.one_mul]; omega
            have hfr : ∀ bb off, a4 = some ⟨bb, off, none⟩ → bb ≠ W1.heap.size := fun bb off e => by
              have := t5 _ e
              have h6 := (g5.ext x3).lt
              simp only at this; omega
            refine ⟨c + 1, a4, c4, by rw [Nat.add_mul, Nat.one_mul]; omega, rfl, by rw [hnew], by rw [hnew]; exact t1, t2, ?_, ?_, ?_, (((g6.trans x3).trans t4).set (p := ⟨W1.heap.size, p, none⟩) (Nat.le_refl _) _)⟩
            · rw [hnew]
              exact t3.keep fun bb off e _ => Below.heap_setCell _ _ _ _ (hfr bb off e)
            · intro ad e
              have := t5 _ e
              have h6 := (g5.ext x3).lt
              omega
            · have h7 := RQ.out.set p (.int .i64 ((c + 1 : Nat) : Int))
              rw [ks_set, List.set_set] at h7
              exact h7
        · have hlt2 : u < m := by have := fun h => hq (hge.2 h); omega
          have HLT2 := Lib.hid hlt2
          clear hge hlt2
          go_wp2_with fail
          refine (HCM.out _ (by rw [← HU.out]; exact I.out.2.2.2.2.1) (HB.out.ext (Q.out.2.1.trans I.out.2.2.2.2.2.2.2.1))).mono ?_
          rintro e w3 ⟨rfl, x3⟩
          clear k2 k3
          go_wp2_with fail
          go_roundw
          case rel =>
            obtain ⟨hct, hgk, g1, g2, g3, g4, g5, g6, hlr⟩ := I.out
            have h2 := HLT2.out
            have h3 := HU.out
            have hp2 := HPP.out
            have hdm : t = c * m + u := by omega
            have hdiv : t / m = c := by rw [hdm, Nat.mul_comm, Nat.mul_add_div HM.out, Nat.div_eq_of_lt h2, Nat.add_zero]
            have hmod : t % m = u := by rw [hdm, Nat.mul_comm, Nat.mul_add_mod, Nat.mod_eq_of_lt h2]
            rw [h3] at g1 g3
            have e1 := HST1.out
            have e2 := HST2.out
            rw [hmod] at e1
            rw [hdiv] at e2
            refine ⟨k + 1, by omega, ?_, a', c', by rw [e1], by rw [e1]; exact g1, g2, by rw [e1]; exact g3.ext x3, g4, by rw [e2]; exact g5.ext x3, g6.trans x3⟩
            congr 1; omega
          case measure => simp [intOf] <;> omega
    · obtain rfl : k = na := by omega
      rw [Nat.sub_self, Nat.pow_zero, Nat.div_one] at j1 j3 ⊢
      rw [dvQ_all] at j5
      go_upto_region 12 with (fail)
      obtain ⟨rfl, rfl, rfl, rfl⟩ := HE.out
      have hk1 := hb1
      refine tail_in (F := ⟨Try.prog, w, 82, [2, 3, 4, 5, 9, 10]⟩) (fs := [.box 2 72 [Bz z1, Tz z1], .box 3 72 [Bz z2, Tz z2], .box 4 72 [Bz 0, Tz 0], .box 5 72 [Bz 0, Tz 0], .slot 6 (VP.nums .i64 (fixd 10 k (z1.natAbs / z2.natAbs))), .slot 7 (VP.nums .i64 (dg 10 (z1.natAbs % z2.natAbs)))]) ?_ (by assumption) ?_
      case refine_2 =>
        have q := Q.out
        refine ⟨⟨rfl, rfl, q.2.1.trans hext, ?_, ?_⟩, ?_⟩
        · intro k hk g hg
          simp only [List.mem_cons, List.not_mem_nil, or_false] at hk
          rcases hk with rfl | rfl | rfl | rfl | rfl | rfl <;> first | (cases hg; have := q.2.2.1; have := hext.size; dsimp only; omega) | (cases hg; done)
        · intro k hk k' hk' hne g hg hg'
          simp only [List.mem_cons, List.not_mem_nil, or_false] at hk hk'
          rcases hk with rfl | rfl | rfl | rfl | rfl | rfl <;> rcases hk' with rfl | rfl | rfl | rfl | rfl | rfl <;> first | exact hne rfl | (cases hg; cases hg'; done) | (cases hg; done) | (have h3 := Option.some.inj hg; have h4 := Option.some.inj hg'; unfold ptr at h3 h4; injection h3 with h3; injection h3 with h3; injection h3 with h3; injection h4 with h4; injection h4 with h4; injection h4 with h4; omega)
        · have hkk : k ≤ maxLen := by unfold maxLen; omega
          intro f hf
          simp only [List.mem_cons, List.not_mem_nil, or_false] at hf
          rcases hf with rfl | rfl | rfl | rfl | rfl | rfl
          · exact ⟨_, _, rfl, q.1.1.ext hext, rfl, ⟨a, ca, by rw [HNA.out], by rw [HNA.out]; exact h1c, h1m, (HA.out.ext (q.2.1.trans hext))⟩, trivial⟩
          · exact ⟨_, _, rfl, q.1.2.1.ext hext, rfl, ⟨b, cb, by rw [HNB.out], by rw [HNB.out]; exact h2c, h2m, (HB.out.ext (q.2.1.trans hext))⟩, trivial⟩
          · exact ⟨_, _, rfl, q.1.2.2.1.ext hext, z_num _⟩
          · exact ⟨_, _, rfl, q.1.2.2.2.ext hext, z_num _⟩
          · exact ⟨.slice (some ⟨W1.heap.size, 0, none⟩) k k, rfl, some ⟨W1.heap.size, 0, none⟩, k, by rw [fixd_len], by rw [fixd_len]; exact Nat.le_refl _, hkk, j5.rd⟩
          · exact ⟨_, rfl, a', c', rfl, j1, j2, j3⟩
      have hbz1 : (dg 10 z1.natAbs).length ≤ 100000 := by rw [HNA.out]; exact hb1
      have hbz2 : (dg 10 z2.natAbs).length ≤ 100000 := by rw [HNB.out]; exact hb2
      have HLQ : (dg 10 (z1.natAbs / z2.natAbs)).length ≤ 100000 := Nat.le_trans (dg_len_mono ten_gt (Nat.div_le_self _ _)) hbz1
      have HLR : (dg 10 (z1.natAbs % z2.natAbs)).length ≤ 100000 := Nat.le_trans (dg_len_mono ten_gt (Nat.le_of_lt (Nat.mod_lt _ HM.out))) hbz2
      clear HA HB Q j5 j3 j4 hext
      by_cases g1 : z1 < 0
      · by_cases g0 : z1.natAbs % z2.natAbs = 0
        · have e0 := div_sign2 z1 z2 HM.out (by rw [g0]; simp)
          rw [decide_eq_true g1] at e0
          have e1 : sz (decide (z1 < 0)) (z1.natAbs % z2.natAbs) = modZ z1 z2 := by rw [← e0.2, g0, decide_eq_true g1]; rfl
          have e2 := e0.1
          rw [show (true != decide (z2 < 0)) = (!(true == decide (z2 < 0))) from rfl] at e2
          rw [← e1, ← e2]
          refine t_region (F := ⟨_, _, _, _⟩) [.box 2 72 [Bz z1, Tz z1], .box 3 72 [Bz z2, Tz z2], .box 4 72 [Bz 0, Tz 0], .box 5 72 [Bz 0, Tz 0], .slot 6 (VP.nums .i64 (fixd 10 k (z1.natAbs / z2.natAbs))), .slot 7 (VP.nums .i64 (dg 10 (z1.natAbs % z2.natAbs)))] [] [(0, .fp 54 2 0), (1, .slot 55 (Bz z1)), (2, .fp 56 3 0), (3, .slot 57 (Bz z2)), (4, .slot 58 (VP.bool (!(true == (decide (z2 < 0)))))), (5, .slot 59 (VP.nums .i64 (fixd 10 k (z1.natAbs / z2.natAbs)))), (6, .slot 60 (NUM (sz (!(true == (decide (z2 < 0)))) (z1.natAbs / z2.natAbs)))), (7, .own 9 72 2), (8, .box 9 72 [Bz (sz (!(true == (decide (z2 < 0)))) (z1.natAbs / z2.natAbs)), Tz (sz (!(true == (decide (z2 < 0)))) (z1.natAbs / z2.natAbs))])] [0, 1, 2, 3, 4, 5] [] rfl rfl follow rfl ⟨
            .inl ⟨wants_plain rfl, does_field _ _ _ 0 ty_f0_collatorref01_Num rfl rfl rfl rfl rfl rfl rfl (pt_box (av_fs 0 rfl))⟩,
            .inl ⟨wants_plain rfl, does_loadOne _ ty_one_bool rfl rfl rfl rfl rfl rfl (pt_fp (av_rs 0 rfl rfl)) (av_fs 0 rfl)⟩,
            .inl ⟨wants_plain rfl, does_field _ _ _ 0 ty_f0_collatorref01_Num rfl rfl rfl rfl rfl rfl rfl (pt_box (av_fs 1 rfl))⟩,
            .inl ⟨wants_plain rfl, does_loadOne _ ty_one_bool rfl rfl rfl rfl rfl rfl (pt_fp (av_rs 2 rfl rfl)) (av_fs 1 rfl)⟩,
            .inl ⟨wants_plain rfl, does_eqBool (u := true) (v := (decide (z2 < 0))) _ _ _ _ _ (by kernel_rfl) rfl rfl rfl rfl rfl rfl (ar_tmp (av_bool (decide_eq_true g1) (av_rs 1 rfl rfl))) (ar_tmp (av_rs 3 rfl rfl))⟩,
            .inl ⟨wants_plain rfl, does_move _ (.inl rfl) rfl rfl rfl rfl (ar_tmp (av_fs 4 rfl))⟩,
            .inl ⟨wants_plain rfl, does_call (r_makeQ (!(true == (decide (z2 < 0)))) z1.natAbs z2.natAbs k HN.out hk1) rfl hb_collator_collatorref01_make1 rfl rfl rfl rfl ⟨(ar_tmp (av_rs 4 rfl rfl)), (ar_tmp (av_rs 5 rfl rfl)), trivial⟩⟩,
            .inl ⟨wants_plain rfl, does_allocOwn [Bz 0, Tz 0] ty_zero_collatorref01_Num rfl rfl rfl rfl rfl z_num rfl⟩,
            .inl ⟨wants_plain rfl, does_storeNew 2 _ _ ty_agg_collatorref01_Num rfl rfl rfl rfl rfl (pt_own (av_rs 7 rfl rfl)) (av_rs 7 rfl rfl) (ar_tmp (av_rs 6 rfl rfl))⟩,
            trivial⟩ ?_
          refine nx_sub (fs' := [.box 2 72 [Bz z1, Tz z1], .box 3 72 [Bz z2, Tz z2], .box 4 72 [Bz 0, Tz 0], .box 5 72 [Bz 0, Tz 0], .slot 7 (VP.nums .i64 (dg 10 (z1.natAbs % z2.natAbs))), .box 9 72 [Bz (sz (!(true == (decide (z2 < 0)))) (z1.natAbs / z2.natAbs)), Tz (sz (!(true == (decide (z2 < 0)))) (z1.natAbs / z2.natAbs))]]) [0, 1, 2, 3, 5, 14] rfl ?_
          refine nx_then ?_
          refine t_seq ?_
          refine t_region (F := ⟨_, _, _, _⟩) [.box 2 72 [Bz z1, Tz z1], .box 3 72 [Bz z2, Tz z2], .box 4 72 [Bz 0, Tz 0], .box 5 72 [Bz 0, Tz 0], .slot 7 (VP.nums .i64 (dg 10 (z1.natAbs % z2.natAbs))), .box 9 72 [Bz (sz (!(true == (decide (z2 < 0)))) (z1.natAbs / z2.natAbs)), Tz (sz (!(true == (decide (z2 < 0)))) (z1.natAbs / z2.natAbs))]] [] [(0, .fp 61 2 0), (1, .slot 62 (Bz z1)), (2, .slot 63 (VP.nums .i64 (dg 10 (z1.natAbs % z2.natAbs)))), (3, .slot 64 (NUM (sz (decide (z1 < 0)) (z1.natAbs % z2.natAbs)))), (4, .own 10 72 2), (5, .box 10 72 [Bz (sz (decide (z1 < 0)) (z1.natAbs % z2.natAbs)), Tz (sz (decide (z1 < 0)) (z1.natAbs % z2.natAbs))])] [0, 1, 2, 3, 4, 5] [] rfl rfl follow rfl ⟨
            .inl ⟨wants_plain rfl, does_field _ _ _ 0 ty_f0_collatorref01_Num rfl rfl rfl rfl rfl rfl rfl (pt_box (av_fs 0 rfl))⟩,
            .inl ⟨wants_plain rfl, does_loadOne _ ty_one_bool rfl rfl rfl rfl rfl rfl (pt_fp (av_rs 0 rfl rfl)) (av_fs 0 rfl)⟩,
            .inl ⟨wants_plain rfl, does_move _ (.inl rfl) rfl rfl rfl rfl (ar_tmp (av_fs 4 rfl))⟩,
            .inl ⟨wants_plain rfl, does_call (r_make1 (decide (z1 < 0)) (z1.natAbs % z2.natAbs)) rfl hb_collator_collatorref01_make1 rfl rfl rfl rfl ⟨(ar_tmp (av_rs 1 rfl rfl)), (ar_tmp (av_rs 2 rfl rfl)), trivial⟩⟩,
            .inl ⟨wants_plain rfl, does_allocOwn [Bz 0, Tz 0] ty_zero_collatorref01_Num rfl rfl rfl rfl rfl z_num rfl⟩,
            .inl ⟨wants_plain rfl, does_storeNew 2 _ _ ty_agg_collatorref01_Num rfl rfl rfl rfl rfl (pt_own (av_rs 4 rfl rfl)) (av_rs 4 rfl rfl) (ar_tmp (av_rs 3 rfl rfl))⟩,
            trivial⟩ ?_
          refine nx_sub (fs' := [.box 3 72 [Bz z2, Tz z2], .box 4 72 [Bz 0, Tz 0], .box 5 72 [Bz 0, Tz 0], .box 9 72 [Bz (sz (!(true == (decide (z2 < 0)))) (z1.natAbs / z2.natAbs)), Tz (sz (!(true == (decide (z2 < 0)))) (z1.natAbs / z2.natAbs))], .box 10 72 [Bz (sz (decide (z1 < 0)) (z1.natAbs % z2.natAbs)), Tz (sz (decide (z1 < 0)) (z1.natAbs % z2.natAbs))]]) [1, 2, 3, 5, 11] rfl ?_
          refine nx_then ?_
          refine t_seq ?_
          refine t_seq ?_
          refine t_region (F := ⟨_, _, _, _⟩) [.box 3 72 [Bz z2, Tz z2], .box 4 72 [Bz 0, Tz 0], .box 5 72 [Bz 0, Tz 0], .box 9 72 [Bz (sz (!(true == (decide (z2 < 0)))) (z1.natAbs / z2.natAbs)), Tz (sz (!(true == (decide (z2 < 0)))) (z1.natAbs / z2.natAbs))], .box 10 72 [Bz (sz (decide (z1 < 0)) (z1.natAbs % z2.natAbs)), Tz (sz (decide (z1 < 0)) (z1.natAbs % z2.natAbs))]] [] [(0, .fp 65 10 0), (1, .slot 66 (Bz (sz (decide (z1 < 0)) (z1.natAbs % z2.natAbs))))] [0, 1, 2, 3, 4] [] rfl rfl follow rfl ⟨
            .inl ⟨wants_plain rfl, does_field _ _ _ 0 ty_f0_collatorref01_Num rfl rfl rfl rfl rfl rfl rfl (pt_box (av_fs 4 rfl))⟩,
            .inl ⟨wants_plain rfl, does_loadOne _ ty_one_bool rfl rfl rfl rfl rfl rfl (pt_fp (av_rs 0 rfl rfl)) (av_fs 4 rfl)⟩,
            trivial⟩ ?_
          refine nx_sub (fs' := [.box 3 72 [Bz z2, Tz z2], .box 4 72 [Bz 0, Tz 0], .box 5 72 [Bz 0, Tz 0], .box 9 72 [Bz (sz (!(true == (decide (z2 < 0)))) (z1.natAbs / z2.natAbs)), Tz (sz (!(true == (decide (z2 < 0)))) (z1.natAbs / z2.natAbs))], .box 10 72 [Bz (sz (decide (z1 < 0)) (z1.natAbs % z2.natAbs)), Tz (sz (decide (z1 < 0)) (z1.natAbs % z2.natAbs))], .slot 66 (Bz (sz (decide (z1 < 0)) (z1.natAbs % z2.natAbs)))]) [0, 1, 2, 3, 4, 6] rfl ?_
          refine nx_then ?_
          refine t_cond_fe 5 rfl (by rw [g0, decide_eq_true g1]; rfl) ?_
          refine t_skip ?_
          refine nx_then ?_
          refine t_seq ?_
          refine t_region (F := ⟨_, _, _, _⟩) [.box 3 72 [Bz z2, Tz z2], .box 9 72 [Bz (sz (!(true == (decide (z2 < 0)))) (z1.natAbs / z2.natAbs)), Tz (sz (!(true == (decide (z2 < 0)))) (z1.natAbs / z2.natAbs))], .box 10 72 [Bz (sz (decide (z1 < 0)) (z1.natAbs % z2.natAbs)), Tz (sz (decide (z1 < 0)) (z1.natAbs % z2.natAbs))], .slot 66 (Bz (sz (decide (z1 < 0)) (z1.natAbs % z2.natAbs)))] [(2, .box 4 72 [Bz 0, Tz 0]), (3, .box 5 72 [Bz 0, Tz 0])] [(0, .slot 80 (NUM (sz (!(true == (decide (z2 < 0)))) (z1.natAbs / z2.natAbs)))), (1, .slot 81 (NUM (sz (decide (z1 < 0)) (z1.natAbs % z2.natAbs)))), (2, .box 4 72 [Bz (sz (!(true == (decide (z2 < 0)))) (z1.natAbs / z2.natAbs)), Tz (sz (!(true == (decide (z2 < 0)))) (z1.natAbs / z2.natAbs))]), (3, .box 5 72 [Bz (sz (decide (z1 < 0)) (z1.natAbs % z2.natAbs)), Tz (sz (decide (z1 < 0)) (z1.natAbs % z2.natAbs))])] [0, 3, 4, 5] [1, 2] rfl rfl follow rfl ⟨
            .inl ⟨wants_plain rfl, does_loadAgg _ ty_agg_collatorref01_Num rfl rfl rfl rfl rfl rfl (pt_box (av_fs 1 rfl)) (av_fs 1 rfl)⟩,
            .inl ⟨wants_plain rfl, does_loadAgg _ ty_agg_collatorref01_Num rfl rfl rfl rfl rfl rfl (pt_box (av_fs 2 rfl)) (av_fs 2 rfl)⟩,
            .inl ⟨wants_plain rfl, does_storeAgg 2 _ _ ty_agg_collatorref01_Num rfl rfl rfl rfl rfl (pt_box (av_os 0 rfl rfl)) (av_os 0 rfl rfl) (ar_tmp (av_rs 0 rfl rfl))⟩,
            .inl ⟨wants_plain rfl, does_storeAgg 2 _ _ ty_agg_collatorref01_Num rfl rfl rfl rfl rfl (pt_box (av_os 1 rfl rfl)) (av_os 1 rfl rfl) (ar_tmp (av_rs 1 rfl rfl))⟩,
            trivial⟩ ?_
          refine nx_sub (fs' := [.box 4 72 [Bz (sz (!(true == (decide (z2 < 0)))) (z1.natAbs / z2.natAbs)), Tz (sz (!(true == (decide (z2 < 0)))) (z1.natAbs / z2.natAbs))], .box 5 72 [Bz (sz (decide (z1 < 0)) (z1.natAbs % z2.natAbs)), Tz (sz (decide (z1 < 0)) (z1.natAbs % z2.natAbs))]]) [6, 7] rfl ?_
          refine nx_then ?_
          refine t_ret ?_
          exact rt_two rfl (res_agg 0 ty_agg_collatorref01_Num rfl) (res_agg 1 ty_agg_collatorref01_Num rfl)
        · have e0 := div_sign1 z1 z2 HM.out (by rw [decide_eq_true g1, decide_eq_true (by omega)]; rfl)
          have e1 : sz (decide (z1 < 0)) (z1.natAbs % z2.natAbs) + sz false z2.natAbs = modZ z1 z2 := by
            rw [← e0.2, decide_eq_true g1]
            have := Nat.mod_lt z1.natAbs HM.out
            unfold sz; simp only [if_true, Bool.false_eq_true, if_false]; omega
          rw [← e1]
          rw [decide_eq_true g1] at e0
          by_cases g2 : z2 < 0
          · rw [decide_eq_true g2] at e0
            have e2 : sz false (z1.natAbs / z2.natAbs) + 1 = divZ z1 z2 := by rw [← e0.1]; rfl
            rw [← e2]
            refine t_region (F := ⟨_, _, _, _⟩) [.box 2 72 [Bz z1, Tz z1], .box 3 72 [Bz z2, Tz z2], .box 4 72 [Bz 0, Tz 0], .box 5 72 [Bz 0, Tz 0], .slot 6 (VP.nums .i64 (fixd 10 k (z1.natAbs / z2.natAbs))), .slot 7 (VP.nums .i64 (dg 10 (z1.natAbs % z2.natAbs)))] [] [(0, .fp 54 2 0), (1, .slot 55 (Bz z1)), (2, .fp 56 3 0), (3, .slot 57 (Bz z2)), (4, .slot 58 (VP.bool false)), (5, .slot 59 (VP.nums .i64 (fixd 10 k (z1.natAbs / z2.natAbs)))), (6, .slot 60 (NUM (sz false (z1.natAbs / z2.natAbs)))), (7, .own 9 72 2), (8, .box 9 72 [Bz (sz false (z1.natAbs / z2.natAbs)), Tz (sz false (z1.natAbs / z2.natAbs))])] [0, 1, 2, 3, 4, 5] [] rfl rfl follow rfl ⟨
              .inl ⟨wants_plain rfl, does_field _ _ _ 0 ty_f0_collatorref01_Num rfl rfl rfl rfl rfl rfl rfl (pt_box (av_fs 0 rfl))⟩,
              .inl ⟨wants_plain rfl, does_loadOne _ ty_one_bool rfl rfl rfl rfl rfl rfl (pt_fp (av_rs 0 rfl rfl)) (av_fs 0 rfl)⟩,
              .inl ⟨wants_plain rfl, does_field _ _ _ 0 ty_f0_collatorref01_Num rfl rfl rfl rfl rfl rfl rfl (pt_box (av_fs 1 rfl))⟩,
              .inl ⟨wants_plain rfl, does_loadOne _ ty_one_bool rfl rfl rfl rfl rfl rfl (pt_fp (av_rs 2 rfl rfl)) (av_fs 1 rfl)⟩,
              .inl ⟨wants_plain rfl, does_eqBool (u := true) (v := true) _ _ _ _ _ (by kernel_rfl) rfl rfl rfl rfl rfl rfl (ar_tmp (av_bool (decide_eq_true g1) (av_rs 1 rfl rfl))) (ar_tmp (av_bool (decide_eq_true g2) (av_rs 3 rfl rfl)))⟩,
              .inl ⟨wants_plain rfl, does_move _ (.inl rfl) rfl rfl rfl rfl (ar_tmp (av_fs 4 rfl))⟩,
              .inl ⟨wants_plain rfl, does_call (r_makeQ false z1.natAbs z2.natAbs k HN.out hk1) rfl hb_collator_collatorref01_make1 rfl rfl rfl rfl ⟨(ar_tmp (av_rs 4 rfl rfl)), (ar_tmp (av_rs 5 rfl rfl)), trivial⟩⟩,
              .inl ⟨wants_plain rfl, does_allocOwn [Bz 0, Tz 0] ty_zero_collatorref01_Num rfl rfl rfl rfl rfl z_num rfl⟩,
              .inl ⟨wants_plain rfl, does_storeNew 2 _ _ ty_agg_collatorref01_Num rfl rfl rfl rfl rfl (pt_own (av_rs 7 rfl rfl)) (av_rs 7 rfl rfl) (ar_tmp (av_rs 6 rfl rfl))⟩,
              trivial⟩ ?_
            refine nx_sub (fs' := [.box 2 72 [Bz z1, Tz z1], .box 3 72 [Bz z2, Tz z2], .box 4 72 [Bz 0, Tz 0], .box 5 72 [Bz 0, Tz 0], .slot 7 (VP.nums .i64 (dg 10 (z1.natAbs % z2.natAbs))), .box 9 72 [Bz (sz false (z1.natAbs / z2.natAbs)), Tz (sz false (z1.natAbs / z2.natAbs))]]) [0, 1, 2, 3, 5, 14] rfl ?_
            refine nx_then ?_
            refine t_seq ?_
            refine t_region (F := ⟨_, _, _, _⟩) [.box 2 72 [Bz z1, Tz z1], .box 3 72 [Bz z2, Tz z2], .box 4 72 [Bz 0, Tz 0], .box 5 72 [Bz 0, Tz 0], .slot 7 (VP.nums .i64 (dg 10 (z1.natAbs % z2.natAbs))), .box 9 72 [Bz (sz false (z1.natAbs / z2.natAbs)), Tz (sz false (z1.natAbs / z2.natAbs))]] [] [(0, .fp 61 2 0), (1, .slot 62 (Bz z1)), (2, .slot 63 (VP.nums .i64 (dg 10 (z1.natAbs % z2.natAbs)))), (3, .slot 64 (NUM (sz (decide (z1 < 0)) (z1.natAbs % z2.natAbs)))), (4, .own 10 72 2), (5, .box 10 72 [Bz (sz (decide (z1 < 0)) (z1.natAbs % z2.natAbs)), Tz (sz (decide (z1 < 0)) (z1.natAbs % z2.natAbs))])] [0, 1, 2, 3, 4, 5] [] rfl rfl follow rfl ⟨
              .inl ⟨wants_plain rfl, does_field _ _ _ 0 ty_f0_collatorref01_Num rfl rfl rfl rfl rfl rfl rfl (pt_box (av_fs 0 rfl))⟩,
              .inl ⟨wants_plain rfl, does_loadOne _ ty_one_bool rfl rfl rfl rfl rfl rfl (pt_fp (av_rs 0 rfl rfl)) (av_fs 0 rfl)⟩,
              .inl ⟨wants_plain rfl, does_move _ (.inl rfl) rfl rfl rfl rfl (ar_tmp (av_fs 4 rfl))⟩,
              .inl ⟨wants_plain rfl, does_call (r_make1 (decide (z1 < 0)) (z1.natAbs % z2.natAbs)) rfl hb_collator_collatorref01_make1 rfl rfl rfl rfl ⟨(ar_tmp (av_rs 1 rfl rfl)), (ar_tmp (av_rs 2 rfl rfl)), trivial⟩⟩,
              .inl ⟨wants_plain rfl, does_allocOwn [Bz 0, Tz 0] ty_zero_collatorref01_Num rfl rfl rfl rfl rfl z_num rfl⟩,
              .inl ⟨wants_plain rfl, does_storeNew 2 _ _ ty_agg_collatorref01_Num rfl rfl rfl rfl rfl (pt_own (av_rs 4 rfl rfl)) (av_rs 4 rfl rfl) (ar_tmp (av_rs 3 rfl rfl))⟩,
              trivial⟩ ?_
            refine nx_sub (fs' := [.box 3 72 [Bz z2, Tz z2], .box 4 72 [Bz 0, Tz 0], .box 5 72 [Bz 0, Tz 0], .box 9 72 [Bz (sz false (z1.natAbs / z2.natAbs)), Tz (sz false (z1.natAbs / z2.natAbs))], .box 10 72 [Bz (sz (decide (z1 < 0)) (z1.natAbs % z2.natAbs)), Tz (sz (decide (z1 < 0)) (z1.natAbs % z2.natAbs))]]) [1, 2, 3, 5, 11] rfl ?_
            refine nx_then ?_
            refine t_seq ?_
            refine t_seq ?_
            refine t_region (F := ⟨_, _, _, _⟩) [.box 3 72 [Bz z2, Tz z2], .box 4 72 [Bz 0, Tz 0], .box 5 72 [Bz 0, Tz 0], .box 9 72 [Bz (sz false (z1.natAbs / z2.natAbs)), Tz (sz false (z1.natAbs / z2.natAbs))], .box 10 72 [Bz (sz (decide (z1 < 0)) (z1.natAbs % z2.natAbs)), Tz (sz (decide (z1 < 0)) (z1.natAbs % z2.natAbs))]] [] [(0, .fp 65 10 0), (1, .slot 66 (Bz (sz (decide (z1 < 0)) (z1.natAbs % z2.natAbs))))] [0, 1, 2, 3, 4] [] rfl rfl follow rfl ⟨
              .inl ⟨wants_plain rfl, does_field _ _ _ 0 ty_f0_collatorref01_Num rfl rfl rfl rfl rfl rfl rfl (pt_box (av_fs 4 rfl))⟩,
              .inl ⟨wants_plain rfl, does_loadOne _ ty_one_bool rfl rfl rfl rfl rfl rfl (pt_fp (av_rs 0 rfl rfl)) (av_fs 4 rfl)⟩,
              trivial⟩ ?_
            refine nx_sub (fs' := [.box 3 72 [Bz z2, Tz z2], .box 4 72 [Bz 0, Tz 0], .box 5 72 [Bz 0, Tz 0], .box 9 72 [Bz (sz false (z1.natAbs / z2.natAbs)), Tz (sz false (z1.natAbs / z2.natAbs))], .box 10 72 [Bz (sz (decide (z1 < 0)) (z1.natAbs % z2.natAbs)), Tz (sz (decide (z1 < 0)) (z1.natAbs % z2.natAbs))], .slot 66 (Bz (sz (decide (z1 < 0)) (z1.natAbs % z2.natAbs)))]) [0, 1, 2, 3, 4, 6] rfl ?_
            refine nx_then ?_
            refine t_cond_te 5 rfl (by rw [sz_neg, decide_eq_true g1, decide_eq_true (by omega)]; rfl) ?_
            refine t_seq ?_
            refine t_region (F := ⟨_, _, _, _⟩) [.box 3 72 [Bz z2, Tz z2], .box 4 72 [Bz 0, Tz 0], .box 5 72 [Bz 0, Tz 0], .box 9 72 [Bz (sz false (z1.natAbs / z2.natAbs)), Tz (sz false (z1.natAbs / z2.natAbs))], .slot 66 (Bz (sz (decide (z1 < 0)) (z1.natAbs % z2.natAbs)))] [(5, .box 10 72 [Bz (sz (decide (z1 < 0)) (z1.natAbs % z2.natAbs)), Tz (sz (decide (z1 < 0)) (z1.natAbs % z2.natAbs))])] [(0, .slot 67 (NUM (sz (decide (z1 < 0)) (z1.natAbs % z2.natAbs)))), (1, .fp 68 3 1), (2, .slot 69 (Tz z2)), (3, .slot 70 (NUM (sz false z2.natAbs))), (4, .slot 71 (NUM ((sz (decide (z1 < 0)) (z1.natAbs % z2.natAbs)) + (sz false z2.natAbs)))), (5, .box 10 72 [Bz ((sz (decide (z1 < 0)) (z1.natAbs % z2.natAbs)) + (sz false z2.natAbs)), Tz ((sz (decide (z1 < 0)) (z1.natAbs % z2.natAbs)) + (sz false z2.natAbs))])] [0, 1, 2, 3, 5] [4] rfl rfl follow rfl ⟨
              .inl ⟨wants_plain rfl, does_loadAgg _ ty_agg_collatorref01_Num rfl rfl rfl rfl rfl rfl (pt_box (av_os 0 rfl rfl)) (av_os 0 rfl rfl)⟩,
              .inl ⟨wants_plain rfl, does_field _ _ _ 1 ty_f1_collatorref01_Num rfl rfl rfl rfl rfl rfl rfl (pt_box (av_fs 0 rfl))⟩,
              .inl ⟨wants_plain rfl, does_loadOne _ ty_one___int rfl rfl rfl rfl rfl rfl (pt_fp (av_rs 1 rfl rfl)) (av_fs 0 rfl)⟩,
              .inl ⟨wants_plain rfl, does_call (r_make1 false z2.natAbs) rfl hb_collator_collatorref01_make1 rfl rfl rfl rfl ⟨(ar_const (fun _ => rfl)), (ar_tmp (av_rs 2 rfl rfl)), trivial⟩⟩,
              .inl ⟨wants_plain rfl, does_call (r_add (sz (decide (z1 < 0)) (z1.natAbs % z2.natAbs)) (sz false z2.natAbs) (by rw [sz_abs]; exact HLR) (by rw [sz_abs]; exact hbz2)) rfl hb_collator_collatorref01_Add rfl rfl rfl rfl ⟨(ar_tmp (av_rs 0 rfl rfl)), (ar_tmp (av_rs 3 rfl rfl)), trivial⟩⟩,
              .inl ⟨wants_plain rfl, does_storeAgg 2 _ _ ty_agg_collatorref01_Num rfl rfl rfl rfl rfl (pt_box (av_os 0 rfl rfl)) (av_os 0 rfl rfl) (ar_tmp (av_rs 4 rfl rfl))⟩,
              trivial⟩ ?_
            refine nx_sub (fs' := [.box 3 72 [Bz z2, Tz z2], .box 4 72 [Bz 0, Tz 0], .box 5 72 [Bz 0, Tz 0], .box 9 72 [Bz (sz false (z1.natAbs / z2.natAbs)), Tz (sz false (z1.natAbs / z2.natAbs))], .box 10 72 [Bz ((sz (decide (z1 < 0)) (z1.natAbs % z2.natAbs)) + (sz false z2.natAbs)), Tz ((sz (decide (z1 < 0)) (z1.natAbs % z2.natAbs)) + (sz false z2.natAbs))]]) [0, 1, 2, 3, 10] rfl ?_
            refine nx_then ?_
            refine t_seq ?_
            refine t_region (F := ⟨_, _, _, _⟩) [.box 3 72 [Bz z2, Tz z2], .box 4 72 [Bz 0, Tz 0], .box 5 72 [Bz 0, Tz 0], .box 9 72 [Bz (sz false (z1.natAbs / z2.natAbs)), Tz (sz false (z1.natAbs / z2.natAbs))], .box 10 72 [Bz ((sz (decide (z1 < 0)) (z1.natAbs % z2.natAbs)) + (sz false z2.natAbs)), Tz ((sz (decide (z1 < 0)) (z1.natAbs % z2.natAbs)) + (sz false z2.natAbs))]] [] [(0, .fp 72 3 0), (1, .slot 73 (Bz z2))] [0, 1, 2, 3, 4] [] rfl rfl follow rfl ⟨
              .inl ⟨wants_plain rfl, does_field _ _ _ 0 ty_f0_collatorref01_Num rfl rfl rfl rfl rfl rfl rfl (pt_box (av_fs 0 rfl))⟩,
              .inl ⟨wants_plain rfl, does_loadOne _ ty_one_bool rfl rfl rfl rfl rfl rfl (pt_fp (av_rs 0 rfl rfl)) (av_fs 0 rfl)⟩,
              trivial⟩ ?_
            refine nx_sub (fs' := [.box 4 72 [Bz 0, Tz 0], .box 5 72 [Bz 0, Tz 0], .box 9 72 [Bz (sz false (z1.natAbs / z2.natAbs)), Tz (sz false (z1.natAbs / z2.natAbs))], .box 10 72 [Bz ((sz (decide (z1 < 0)) (z1.natAbs % z2.natAbs)) + (sz false z2.natAbs)), Tz ((sz (decide (z1 < 0)) (z1.natAbs % z2.natAbs)) + (sz false z2.natAbs))], .slot 73 (Bz z2)]) [1, 2, 3, 4, 6] rfl ?_
            refine nx_then ?_
            refine t_cond_te 4 rfl (decide_eq_true g2) ?_
            refine t_region (F := ⟨_, _, _, _⟩) [.box 4 72 [Bz 0, Tz 0], .box 5 72 [Bz 0, Tz 0], .box 10 72 [Bz ((sz (decide (z1 < 0)) (z1.natAbs % z2.natAbs)) + (sz false z2.natAbs)), Tz ((sz (decide (z1 < 0)) (z1.natAbs % z2.natAbs)) + (sz false z2.natAbs))], .slot 73 (Bz z2)] [(3, .box 9 72 [Bz (sz false (z1.natAbs / z2.natAbs)), Tz (sz false (z1.natAbs / z2.natAbs))])] [(0, .slot 74 (NUM (sz false (z1.natAbs / z2.natAbs)))), (1, .slot 75 (NUM 1)), (2, .slot 76 (NUM ((sz false (z1.natAbs / z2.natAbs)) + 1))), (3, .box 9 72 [Bz ((sz false (z1.natAbs / z2.natAbs)) + 1), Tz ((sz false (z1.natAbs / z2.natAbs)) + 1)])] [0, 1, 3, 4] [2] rfl rfl follow rfl ⟨
              .inl ⟨wants_plain rfl, does_loadAgg _ ty_agg_collatorref01_Num rfl rfl rfl rfl rfl rfl (pt_box (av_os 0 rfl rfl)) (av_os 0 rfl rfl)⟩,
              .inl ⟨wants_plain rfl, does_call (r_int 1 (by decide) (by decide)) rfl hb_collator_collatorref01_Int rfl rfl rfl rfl ⟨(ar_const (fun _ => rfl)), trivial⟩⟩,
              .inl ⟨wants_plain rfl, does_call (r_add (sz false (z1.natAbs / z2.natAbs)) 1 (by rw [sz_abs]; exact HLQ) (by decide)) rfl hb_collator_collatorref01_Add rfl rfl rfl rfl ⟨(ar_tmp (av_rs 0 rfl rfl)), (ar_tmp (av_rs 1 rfl rfl)), trivial⟩⟩,
              .inl ⟨wants_plain rfl, does_storeAgg 2 _ _ ty_agg_collatorref01_Num rfl rfl rfl rfl rfl (pt_box (av_os 0 rfl rfl)) (av_os 0 rfl rfl) (ar_tmp (av_rs 2 rfl rfl))⟩,
              trivial⟩ ?_
            refine nx_sub (fs' := [.box 4 72 [Bz 0, Tz 0], .box 5 72 [Bz 0, Tz 0], .box 10 72 [Bz ((sz (decide (z1 < 0)) (z1.natAbs % z2.natAbs)) + (sz false z2.natAbs)), Tz ((sz (decide (z1 < 0)) (z1.natAbs % z2.natAbs)) + (sz false z2.natAbs))], .box 9 72 [Bz ((sz false (z1.natAbs / z2.natAbs)) + 1), Tz ((sz false (z1.natAbs / z2.natAbs)) + 1)]]) [0, 1, 2, 7] rfl ?_
            refine nx_then ?_
            refine t_seq ?_
            refine t_region (F := ⟨_, _, _, _⟩) [.box 10 72 [Bz ((sz (decide (z1 < 0)) (z1.natAbs % z2.natAbs)) + (sz false z2.natAbs)), Tz ((sz (decide (z1 < 0)) (z1.natAbs % z2.natAbs)) + (sz false z2.natAbs))], .box 9 72 [Bz ((sz false (z1.natAbs / z2.natAbs)) + 1), Tz ((sz false (z1.natAbs / z2.natAbs)) + 1)]] [(2, .box 4 72 [Bz 0, Tz 0]), (3, .box 5 72 [Bz 0, Tz 0])] [(0, .slot 80 (NUM ((sz false (z1.natAbs / z2.natAbs)) + 1))), (1, .slot 81 (NUM ((sz (decide (z1 < 0)) (z1.natAbs % z2.natAbs)) + (sz false z2.natAbs)))), (2, .box 4 72 [Bz ((sz false (z1.natAbs / z2.natAbs)) + 1), Tz ((sz false (z1.natAbs / z2.natAbs)) + 1)]), (3, .box 5 72 [Bz ((sz (decide (z1 < 0)) (z1.natAbs % z2.natAbs)) + (sz false z2.natAbs)), Tz ((sz (decide (z1 < 0)) (z1.natAbs % z2.natAbs)) + (sz false z2.natAbs))])] [2, 3] [0, 1] rfl rfl follow rfl ⟨
              .inl ⟨wants_plain rfl, does_loadAgg _ ty_agg_collatorref01_Num rfl rfl rfl rfl rfl rfl (pt_box (av_fs 1 rfl)) (av_fs 1 rfl)⟩,
              .inl ⟨wants_plain rfl, does_loadAgg _ ty_agg_collatorref01_Num rfl rfl rfl rfl rfl rfl (pt_box (av_fs 0 rfl)) (av_fs 0 rfl)⟩,
              .inl ⟨wants_plain rfl, does_storeAgg 2 _ _ ty_agg_collatorref01_Num rfl rfl rfl rfl rfl (pt_box (av_os 0 rfl rfl)) (av_os 0 rfl rfl) (ar_tmp (av_rs 0 rfl rfl))⟩,
              .inl ⟨wants_plain rfl, does_storeAgg 2 _ _ ty_agg_collatorref01_Num rfl rfl rfl rfl rfl (pt_box (av_os 1 rfl rfl)) (av_os 1 rfl rfl) (ar_tmp (av_rs 1 rfl rfl))⟩,
              trivial⟩ ?_
            refine nx_sub (fs' := [.box 4 72 [Bz ((sz false (z1.natAbs / z2.natAbs)) + 1), Tz ((sz false (z1.natAbs / z2.natAbs)) + 1)], .box 5 72 [Bz ((sz (decide (z1 < 0)) (z1.natAbs % z2.natAbs)) + (sz false z2.natAbs)), Tz ((sz (decide (z1 < 0)) (z1.natAbs % z2.natAbs)) + (sz false z2.natAbs))]]) [4, 5] rfl ?_
            refine nx_then ?_
            refine t_ret ?_
            exact rt_two rfl (res_agg 0 ty_agg_collatorref01_Num rfl) (res_agg 1 ty_agg_collatorref01_Num rfl)
          · rw [decide_eq_false g2] at e0
            have e2 : sz true (z1.natAbs / z2.natAbs) + (-1) = divZ z1 z2 := by
              rw [← e0.1]; show sz true _ + -1 = sz true _; unfold sz; simp only [if_true]; omega
            rw [← e2]
            refine t_region (F := ⟨_, _, _, _⟩) [.box 2 72 [Bz z1, Tz z1], .box 3 72 [Bz z2, Tz z2], .box 4 72 [Bz 0, Tz 0], .box 5 72 [Bz 0, Tz 0], .slot 6 (VP.nums .i64 (fixd 10 k (z1.natAbs / z2.natAbs))), .slot 7 (VP.nums .i64 (dg 10 (z1.natAbs % z2.natAbs)))] [] [(0, .fp 54 2 0), (1, .slot 55 (Bz z1)), (2, .fp 56 3 0), (3, .slot 57 (Bz z2)), (4, .slot 58 (VP.bool true)), (5, .slot 59 (VP.nums .i64 (fixd 10 k (z1.natAbs / z2.natAbs)))), (6, .slot 60 (NUM (sz true (z1.natAbs / z2.natAbs)))), (7, .own 9 72 2), (8, .box 9 72 [Bz (sz true (z1.natAbs / z2.natAbs)), Tz (sz true (z1.natAbs / z2.natAbs))])] [0, 1, 2, 3, 4, 5] [] rfl rfl follow rfl ⟨
              .inl ⟨wants_plain rfl, does_field _ _ _ 0 ty_f0_collatorref01_Num rfl rfl rfl rfl rfl rfl rfl (pt_box (av_fs 0 rfl))⟩,
              .inl ⟨wants_plain rfl, does_loadOne _ ty_one_bool rfl rfl rfl rfl rfl rfl (pt_fp (av_rs 0 rfl rfl)) (av_fs 0 rfl)⟩,
              .inl ⟨wants_plain rfl, does_field _ _ _ 0 ty_f0_collatorref01_Num rfl rfl rfl rfl rfl rfl rfl (pt_box (av_fs 1 rfl))⟩,
              .inl ⟨wants_plain rfl, does_loadOne _ ty_one_bool rfl rfl rfl rfl rfl rfl (pt_fp (av_rs 2 rfl rfl)) (av_fs 1 rfl)⟩,
              .inl ⟨wants_plain rfl, does_eqBool (u := true) (v := false) _ _ _ _ _ (by kernel_rfl) rfl rfl rfl rfl rfl rfl (ar_tmp (av_bool (decide_eq_true g1) (av_rs 1 rfl rfl))) (ar_tmp (av_bool (decide_eq_false g2) (av_rs 3 rfl rfl)))⟩,
              .inl ⟨wants_plain rfl, does_move _ (.inl rfl) rfl rfl rfl rfl (ar_tmp (av_fs 4 rfl))⟩,
              .inl ⟨wants_plain rfl, does_call (r_makeQ true z1.natAbs z2.natAbs k HN.out hk1) rfl hb_collator_collatorref01_make1 rfl rfl rfl rfl ⟨(ar_tmp (av_rs 4 rfl rfl)), (ar_tmp (av_rs 5 rfl rfl)), trivial⟩⟩,
              .inl ⟨wants_plain rfl, does_allocOwn [Bz 0, Tz 0] ty_zero_collatorref01_Num rfl rfl rfl rfl rfl z_num rfl⟩,
              .inl ⟨wants_plain rfl, does_storeNew 2 _ _ ty_agg_collatorref01_Num rfl rfl rfl rfl rfl (pt_own (av_rs 7 rfl rfl)) (av_rs 7 rfl rfl) (ar_tmp (av_rs 6 rfl rfl))⟩,
              trivial⟩ ?_
            refine nx_sub (fs' := [.box 2 72 [Bz z1, Tz z1], .box 3 72 [Bz z2, Tz z2], .box 4 72 [Bz 0, Tz 0], .box 5 72 [Bz 0, Tz 0], .slot 7 (VP.nums .i64 (dg 10 (z1.natAbs % z2.natAbs))), .box 9 72 [Bz (sz true (z1.natAbs / z2.natAbs)), Tz (sz true (z1.natAbs / z2.natAbs))]]) [0, 1, 2, 3, 5, 14] rfl ?_
            refine nx_then ?_
            refine t_seq ?_
            refine t_region (F := ⟨_, _, _, _⟩) [.box 2 72 [Bz z1, Tz z1], .box 3 72 [Bz z2, Tz z2], .box 4 72 [Bz 0, Tz 0], .box 5 72 [Bz 0, Tz 0], .slot 7 (VP.nums .i64 (dg 10 (z1.natAbs % z2.natAbs))), .box 9 72 [Bz (sz true (z1.natAbs / z2.natAbs)), Tz (sz true (z1.natAbs / z2.natAbs))]] [] [(0, .fp 61 2 0), (1, .slot 62 (Bz z1)), (2, .slot 63 (VP.nums .i64 (dg 10 (z1.natAbs % z2.natAbs)))), (3, .slot 64 (NUM (sz (decide (z1 < 0)) (z1.natAbs % z2.natAbs)))), (4, .own 10 72 2), (5, .box 10 72 [Bz (sz (decide (z1 < 0)) (z1.natAbs % z2.natAbs)), Tz (sz (decide (z1 < 0)) (z1.natAbs % z2.natAbs))])] [0, 1, 2, 3, 4, 5] [] rfl rfl follow rfl ⟨
              .inl ⟨wants_plain rfl, does_field _ _ _ 0 ty_f0_collatorref01_Num rfl rfl rfl rfl rfl rfl rfl (pt_box (av_fs 0 rfl))⟩,
              .inl ⟨wants_plain rfl, does_loadOne _ ty_one_bool rfl rfl rfl rfl rfl rfl (pt_fp (av_rs 0 rfl rfl)) (av_fs 0 rfl)⟩,
              .inl ⟨wants_plain rfl, does_move _ (.inl rfl) rfl rfl rfl rfl (ar_tmp (av_fs 4 rfl))⟩,
              .inl ⟨wants_plain rfl, does_call (r_make1 (decide (z1 < 0)) (z1.natAbs % z2.natAbs)) rfl hb_collator_collatorref01_make1 rfl rfl rfl rfl ⟨(ar_tmp (av_rs 1 rfl rfl)), (ar_tmp (av_rs 2 rfl rfl)), trivial⟩⟩,
              .inl ⟨wants_plain rfl, does_allocOwn [Bz 0, Tz 0] ty_zero_collatorref01_Num rfl rfl rfl rfl rfl z_num rfl⟩,
              .inl ⟨wants_plain rfl, does_storeNew 2 _ _ ty_agg_collatorref01_Num rfl rfl rfl rfl rfl (pt_own (av_rs 4 rfl rfl)) (av_rs 4 rfl rfl) (ar_tmp (av_rs 3 rfl rfl))⟩,
              trivial⟩ ?_
            refine nx_sub (fs' := [.box 3 72 [Bz z2, Tz z2], .box 4 72 [Bz 0, Tz 0], .box 5 72 [Bz 0, Tz 0], .box 9 72 [Bz (sz true (z1.natAbs / z2.natAbs)), Tz (sz true (z1.natAbs / z2.natAbs))], .box 10 72 [Bz (sz (decide (z1 < 0)) (z1.natAbs % z2.natAbs)), Tz (sz (decide (z1 < 0)) (z1.natAbs % z2.natAbs))]]) [1, 2, 3, 5, 11] rfl ?_
            refine nx_then ?_
            refine t_seq ?_
            refine t_seq ?_
            refine t_region (F := ⟨_, _, _, _⟩) [.box 3 72 [Bz z2, Tz z2], .box 4 72 [Bz 0, Tz 0], .box 5 72 [Bz 0, Tz 0], .box 9 72 [Bz (sz true (z1.natAbs / z2.natAbs)), Tz (sz true (z1.natAbs / z2.natAbs))], .box 10 72 [Bz (sz (decide (z1 < 0)) (z1.natAbs % z2.natAbs)), Tz (sz (decide (z1 < 0)) (z1.natAbs % z2.natAbs))]] [] [(0, .fp 65 10 0), (1, .slot 66 (Bz (sz (decide (z1 < 0)) (z1.natAbs % z2.natAbs))))] [0, 1, 2, 3, 4] [] rfl rfl follow rfl ⟨
              .inl ⟨wants_plain rfl, does_field _ _ _ 0 ty_f0_collatorref01_Num rfl rfl rfl rfl rfl rfl rfl (pt_box (av_fs 4 rfl))⟩,
              .inl ⟨wants_plain rfl, does_loadOne _ ty_one_bool rfl rfl rfl rfl rfl rfl (pt_fp (av_rs 0 rfl rfl)) (av_fs 4 rfl)⟩,
              trivial⟩ ?_
            refine nx_sub (fs' := [.box 3 72 [Bz z2, Tz z2], .box 4 72 [Bz 0, Tz 0], .box 5 72 [Bz 0, Tz 0], .box 9 72 [Bz (sz true (z1.natAbs / z2.natAbs)), Tz (sz true (z1.natAbs / z2.natAbs))], .box 10 72 [Bz (sz (decide (z1 < 0)) (z1.natAbs % z2.natAbs)), Tz (sz (decide (z1 < 0)) (z1.natAbs % z2.natAbs))], .slot 66 (Bz (sz (decide (z1 < 0)) (z1.natAbs % z2.natAbs)))]) [0, 1, 2, 3, 4, 6] rfl ?_
            refine nx_then ?_
            refine t_cond_te 5 rfl (by rw [sz_neg, decide_eq_true g1, decide_eq_true (by omega)]; rfl) ?_
            refine t_seq ?_
            refine t_region (F := ⟨_, _, _, _⟩) [.box 3 72 [Bz z2, Tz z2], .box 4 72 [Bz 0, Tz 0], .box 5 72 [Bz 0, Tz 0], .box 9 72 [Bz (sz true (z1.natAbs / z2.natAbs)), Tz (sz true (z1.natAbs / z2.natAbs))], .slot 66 (Bz (sz (decide (z1 < 0)) (z1.natAbs % z2.natAbs)))] [(5, .box 10 72 [Bz (sz (decide (z1 < 0)) (z1.natAbs % z2.natAbs)), Tz (sz (decide (z1 < 0)) (z1.natAbs % z2.natAbs))])] [(0, .slot 67 (NUM (sz (decide (z1 < 0)) (z1.natAbs % z2.natAbs)))), (1, .fp 68 3 1), (2, .slot 69 (Tz z2)), (3, .slot 70 (NUM (sz false z2.natAbs))), (4, .slot 71 (NUM ((sz (decide (z1 < 0)) (z1.natAbs % z2.natAbs)) + (sz false z2.natAbs)))), (5, .box 10 72 [Bz ((sz (decide (z1 < 0)) (z1.natAbs % z2.natAbs)) + (sz false z2.natAbs)), Tz ((sz (decide (z1 < 0)) (z1.natAbs % z2.natAbs)) + (sz false z2.natAbs))])] [0, 1, 2, 3, 5] [4] rfl rfl follow rfl ⟨
              .inl ⟨wants_plain rfl, does_loadAgg _ ty_agg_collatorref01_Num rfl rfl rfl rfl rfl rfl (pt_box (av_os 0 rfl rfl)) (av_os 0 rfl rfl)⟩,
              .inl ⟨wants_plain rfl, does_field _ _ _ 1 ty_f1_collatorref01_Num rfl rfl rfl rfl rfl rfl rfl (pt_box (av_fs 0 rfl))⟩,
              .inl ⟨wants_plain rfl, does_loadOne _ ty_one___int rfl rfl rfl rfl rfl rfl (pt_fp (av_rs 1 rfl rfl)) (av_fs 0 rfl)⟩,
              .inl ⟨wants_plain rfl, does_call (r_make1 false z2.natAbs) rfl hb_collator_collatorref01_make1 rfl rfl rfl rfl ⟨(ar_const (fun _ => rfl)), (ar_tmp (av_rs 2 rfl rfl)), trivial⟩⟩,
              .inl ⟨wants_plain rfl, does_call (r_add (sz (decide (z1 < 0)) (z1.natAbs % z2.natAbs)) (sz false z2.natAbs) (by rw [sz_abs]; exact HLR) (by rw [sz_abs]; exact hbz2)) rfl hb_collator_collatorref01_Add rfl rfl rfl rfl ⟨(ar_tmp (av_rs 0 rfl rfl)), (ar_tmp (av_rs 3 rfl rfl)), trivial⟩⟩,
              .inl ⟨wants_plain rfl, does_storeAgg 2 _ _ ty_agg_collatorref01_Num rfl rfl rfl rfl rfl (pt_box (av_os 0 rfl rfl)) (av_os 0 rfl rfl) (ar_tmp (av_rs 4 rfl rfl))⟩,
              trivial⟩ ?_
            refine nx_sub (fs' := [.box 3 72 [Bz z2, Tz z2], .box 4 72 [Bz 0, Tz 0], .box 5 72 [Bz 0, Tz 0], .box 9 72 [Bz (sz true (z1.natAbs / z2.natAbs)), Tz (sz true (z1.natAbs / z2.natAbs))], .box 10 72 [Bz ((sz (decide (z1 < 0)) (z1.natAbs % z2.natAbs)) + (sz false z2.natAbs)), Tz ((sz (decide (z1 < 0)) (z1.natAbs % z2.natAbs)) + (sz false z2.natAbs))]]) [0, 1, 2, 3, 10] rfl ?_
            refine nx_then ?_
            refine t_seq ?_
            refine t_region (F := ⟨_, _, _, _⟩) [.box 3 72 [Bz z2, Tz z2], .box 4 72 [Bz 0, Tz 0], .box 5 72 [Bz 0, Tz 0], .box 9 72 [Bz (sz true (z1.natAbs / z2.natAbs)), Tz (sz true (z1.natAbs / z2.natAbs))], .box 10 72 [Bz ((sz (decide (z1 < 0)) (z1.natAbs % z2.natAbs)) + (sz false z2.natAbs)), Tz ((sz (decide (z1 < 0)) (z1.natAbs % z2.natAbs)) + (sz false z2.natAbs))]] [] [(0, .fp 72 3 0), (1, .slot 73 (Bz z2))] [0, 1, 2, 3, 4] [] rfl rfl follow rfl ⟨
              .inl ⟨wants_plain rfl, does_field _ _ _ 0 ty_f0_collatorref01_Num rfl rfl rfl rfl rfl rfl rfl (pt_box (av_fs 0 rfl))⟩,
              .inl ⟨wants_plain rfl, does_loadOne _ ty_one_bool rfl rfl rfl rfl rfl rfl (pt_fp (av_rs 0 rfl rfl)) (av_fs 0 rfl)⟩,
              trivial⟩ ?_
            refine nx_sub (fs' := [.box 4 72 [Bz 0, Tz 0], .box 5 72 [Bz 0, Tz 0], .box 9 72 [Bz (sz true (z1.natAbs / z2.natAbs)), Tz (sz true (z1.natAbs / z2.natAbs))], .box 10 72 [Bz ((sz (decide (z1 < 0)) (z1.natAbs % z2.natAbs)) + (sz false z2.natAbs)), Tz ((sz (decide (z1 < 0)) (z1.natAbs % z2.natAbs)) + (sz false z2.natAbs))], .slot 73 (Bz z2)]) [1, 2, 3, 4, 6] rfl ?_
            refine nx_then ?_
            refine t_cond_fe 4 rfl (decide_eq_false g2) ?_
            refine t_region (F := ⟨_, _, _, _⟩) [.box 4 72 [Bz 0, Tz 0], .box 5 72 [Bz 0, Tz 0], .box 10 72 [Bz ((sz (decide (z1 < 0)) (z1.natAbs % z2.natAbs)) + (sz false z2.natAbs)), Tz ((sz (decide (z1 < 0)) (z1.natAbs % z2.natAbs)) + (sz false z2.natAbs))], .slot 73 (Bz z2)] [(3, .box 9 72 [Bz (sz true (z1.natAbs / z2.natAbs)), Tz (sz true (z1.natAbs / z2.natAbs))])] [(0, .slot 77 (NUM (sz true (z1.natAbs / z2.natAbs)))), (1, .slot 78 (NUM (-1))), (2, .slot 79 (NUM ((sz true (z1.natAbs / z2.natAbs)) + (-1)))), (3, .box 9 72 [Bz ((sz true (z1.natAbs / z2.natAbs)) + (-1)), Tz ((sz true (z1.natAbs / z2.natAbs)) + (-1))])] [0, 1, 3, 4] [2] rfl rfl follow rfl ⟨
              .inl ⟨wants_plain rfl, does_loadAgg _ ty_agg_collatorref01_Num rfl rfl rfl rfl rfl rfl (pt_box (av_os 0 rfl rfl)) (av_os 0 rfl rfl)⟩,
              .inl ⟨wants_plain rfl, does_call (r_int (-1) (by decide) (by decide)) rfl hb_collator_collatorref01_Int rfl rfl rfl rfl ⟨(ar_const (fun _ => rfl)), trivial⟩⟩,
              .inl ⟨wants_plain rfl, does_call (r_add (sz true (z1.natAbs / z2.natAbs)) (-1) (by rw [sz_abs]; exact HLQ) (by decide)) rfl hb_collator_collatorref01_Add rfl rfl rfl rfl ⟨(ar_tmp (av_rs 0 rfl rfl)), (ar_tmp (av_rs 1 rfl rfl)), trivial⟩⟩,
              .inl ⟨wants_plain rfl, does_storeAgg 2 _ _ ty_agg_collatorref01_Num rfl rfl rfl rfl rfl (pt_box (av_os 0 rfl rfl)) (av_os 0 rfl rfl) (ar_tmp (av_rs 2 rfl rfl))⟩,
              trivial⟩ ?_
            refine nx_sub (fs' := [.box 4 72 [Bz 0, Tz 0], .box 5 72 [Bz 0, Tz 0], .box 10 72 [Bz ((sz (decide (z1 < 0)) (z1.natAbs % z2.natAbs)) + (sz false z2.natAbs)), Tz ((sz (decide (z1 < 0)) (z1.natAbs % z2.natAbs)) + (sz false z2.natAbs))], .box 9 72 [Bz ((sz true (z1.natAbs / z2.natAbs)) + (-1)), Tz ((sz true (z1.natAbs / z2.natAbs)) + (-1))]]) [0, 1, 2, 7] rfl ?_
            refine nx_then ?_
            refine t_seq ?_
            refine t_region (F := ⟨_, _, _, _⟩) [.box 10 72 [Bz ((sz (decide (z1 < 0)) (z1.natAbs % z2.natAbs)) + (sz false z2.natAbs)), Tz ((sz (decide (z1 < 0)) (z1.natAbs % z2.natAbs)) + (sz false z2.natAbs))], .box 9 72 [Bz ((sz true (z1.natAbs / z2.natAbs)) + (-1)), Tz ((sz true (z1.natAbs / z2.natAbs)) + (-1))]] [(2, .box 4 72 [Bz 0, Tz 0]), (3, .box 5 72 [Bz 0, Tz 0])] [(0, .slot 80 (NUM ((sz true (z1.natAbs / z2.natAbs)) + (-1)))), (1, .slot 81 (NUM ((sz (decide (z1 < 0)) (z1.natAbs % z2.natAbs)) + (sz false z2.natAbs)))), (2, .box 4 72 [Bz ((sz true (z1.natAbs / z2.natAbs)) + (-1)), Tz ((sz true (z1.natAbs / z2.natAbs)) + (-1))]), (3, .box 5 72 [Bz ((sz (decide (z1 < 0)) (z1.natAbs % z2.natAbs)) + (sz false z2.natAbs)), Tz ((sz (decide (z1 < 0)) (z1.natAbs % z2.natAbs)) + (sz false z2.natAbs))])] [2, 3] [0, 1] rfl rfl follow rfl ⟨
              .inl ⟨wants_plain rfl, does_loadAgg _ ty_agg_collatorref01_Num rfl rfl rfl rfl rfl rfl (pt_box (av_fs 1 rfl)) (av_fs 1 rfl)⟩,
              .inl ⟨wants_plain rfl, does_loadAgg _ ty_agg_collatorref01_Num rfl rfl rfl rfl rfl rfl (pt_box (av_fs 0 rfl)) (av_fs 0 rfl)⟩,
              .inl ⟨wants_plain rfl, does_storeAgg 2 _ _ ty_agg_collatorref01_Num rfl rfl rfl rfl rfl (pt_box (av_os 0 rfl rfl)) (av_os 0 rfl rfl) (ar_tmp (av_rs 0 rfl rfl))⟩,
              .inl ⟨wants_plain rfl, does_storeAgg 2 _ _ ty_agg_collatorref01_Num rfl rfl rfl rfl rfl (pt_box (av_os 1 rfl rfl)) (av_os 1 rfl rfl) (ar_tmp (av_rs 1 rfl rfl))⟩,
              trivial⟩ ?_
            refine nx_sub (fs' := [.box 4 72 [Bz ((sz true (z1.natAbs / z2.natAbs)) + (-1)), Tz ((sz true (z1.natAbs / z2.natAbs)) + (-1))], .box 5 72 [Bz ((sz (decide (z1 < 0)) (z1.natAbs % z2.natAbs)) + (sz false z2.natAbs)), Tz ((sz (decide (z1 < 0)) (z1.natAbs % z2.natAbs)) + (sz false z2.natAbs))]]) [4, 5] rfl ?_
            refine nx_then ?_
            refine t_ret ?_
            exact rt_two rfl (res_agg 0 ty_agg_collatorref01_Num rfl) (res_agg 1 ty_agg_collatorref01_Num rfl)
      · have e0 := div_sign2 z1 z2 HM.out (by rw [decide_eq_false g1]; rfl)
        rw [decide_eq_false g1] at e0
        have e2 := e0.1
        rw [show (false != decide (z2 < 0)) = (!(false == decide (z2 < 0))) from rfl] at e2
        have e1 : sz (decide (z1 < 0)) (z1.natAbs % z2.natAbs) = modZ z1 z2 := by rw [← e0.2, decide_eq_false g1]
        rw [← e1, ← e2]
        refine t_region (F := ⟨_, _, _, _⟩) [.box 2 72 [Bz z1, Tz z1], .box 3 72 [Bz z2, Tz z2], .box 4 72 [Bz 0, Tz 0], .box 5 72 [Bz 0, Tz 0], .slot 6 (VP.nums .i64 (fixd 10 k (z1.natAbs / z2.natAbs))), .slot 7 (VP.nums .i64 (dg 10 (z1.natAbs % z2.natAbs)))] [] [(0, .fp 54 2 0), (1, .slot 55 (Bz z1)), (2, .fp 56 3 0), (3, .slot 57 (Bz z2)), (4, .slot 58 (VP.bool (!(false == (decide (z2 < 0)))))), (5, .slot 59 (VP.nums .i64 (fixd 10 k (z1.natAbs / z2.natAbs)))), (6, .slot 60 (NUM (sz (!(false == (decide (z2 < 0)))) (z1.natAbs / z2.natAbs)))), (7, .own 9 72 2), (8, .box 9 72 [Bz (sz (!(false == (decide (z2 < 0)))) (z1.natAbs / z2.natAbs)), Tz (sz (!(false == (decide (z2 < 0)))) (z1.natAbs / z2.natAbs))])] [0, 1, 2, 3, 4, 5] [] rfl rfl follow rfl ⟨
          .inl ⟨wants_plain rfl, does_field _ _ _ 0 ty_f0_collatorref01_Num rfl rfl rfl rfl rfl rfl rfl (pt_box (av_fs 0 rfl))⟩,
          .inl ⟨wants_plain rfl, does_loadOne _ ty_one_bool rfl rfl rfl rfl rfl rfl (pt_fp (av_rs 0 rfl rfl)) (av_fs 0 rfl)⟩,
          .inl ⟨wants_plain rfl, does_field _ _ _ 0 ty_f0_collatorref01_Num rfl rfl rfl rfl rfl rfl rfl (pt_box (av_fs 1 rfl))⟩,
          .inl ⟨wants_plain rfl, does_loadOne _ ty_one_bool rfl rfl rfl rfl rfl rfl (pt_fp (av_rs 2 rfl rfl)) (av_fs 1 rfl)⟩,
          .inl ⟨wants_plain rfl, does_eqBool (u := false) (v := (decide (z2 < 0))) _ _ _ _ _ (by kernel_rfl) rfl rfl rfl rfl rfl rfl (ar_tmp (av_bool (decide_eq_false g1) (av_rs 1 rfl rfl))) (ar_tmp (av_rs 3 rfl rfl))⟩,
          .inl ⟨wants_plain rfl, does_move _ (.inl rfl) rfl rfl rfl rfl (ar_tmp (av_fs 4 rfl))⟩,
          .inl ⟨wants_plain rfl, does_call (r_makeQ (!(false == (decide (z2 < 0)))) z1.natAbs z2.natAbs k HN.out hk1) rfl hb_collator_collatorref01_make1 rfl rfl rfl rfl ⟨(ar_tmp (av_rs 4 rfl rfl)), (ar_tmp (av_rs 5 rfl rfl)), trivial⟩⟩,
          .inl ⟨wants_plain rfl, does_allocOwn [Bz 0, Tz 0] ty_zero_collatorref01_Num rfl rfl rfl rfl rfl z_num rfl⟩,
          .inl ⟨wants_plain rfl, does_storeNew 2 _ _ ty_agg_collatorref01_Num rfl rfl rfl rfl rfl (pt_own (av_rs 7 rfl rfl)) (av_rs 7 rfl rfl) (ar_tmp (av_rs 6 rfl rfl))⟩,
          trivial⟩ ?_
        refine nx_sub (fs' := [.box 2 72 [Bz z1, Tz z1], .box 3 72 [Bz z2, Tz z2], .box 4 72 [Bz 0, Tz 0], .box 5 72 [Bz 0, Tz 0], .slot 7 (VP.nums .i64 (dg 10 (z1.natAbs % z2.natAbs))), .box 9 72 [Bz (sz (!(false == (decide (z2 < 0)))) (z1.natAbs / z2.natAbs)), Tz (sz (!(false == (decide (z2 < 0)))) (z1.natAbs / z2.natAbs))]]) [0, 1, 2, 3, 5, 14] rfl ?_
        refine nx_then ?_
        refine t_seq ?_
        refine t_region (F := ⟨_, _, _, _⟩) [.box 2 72 [Bz z1, Tz z1], .box 3 72 [Bz z2, Tz z2], .box 4 72 [Bz 0, Tz 0], .box 5 72 [Bz 0, Tz 0], .slot 7 (VP.nums .i64 (dg 10 (z1.natAbs % z2.natAbs))), .box 9 72 [Bz (sz (!(false == (decide (z2 < 0)))) (z1.natAbs / z2.natAbs)), Tz (sz (!(false == (decide (z2 < 0)))) (z1.natAbs / z2.natAbs))]] [] [(0, .fp 61 2 0), (1, .slot 62 (Bz z1)), (2, .slot 63 (VP.nums .i64 (dg 10 (z1.natAbs % z2.natAbs)))), (3, .slot 64 (NUM (sz (decide (z1 < 0)) (z1.natAbs % z2.natAbs)))), (4, .own 10 72 2), (5, .box 10 72 [Bz (sz (decide (z1 < 0)) (z1.natAbs % z2.natAbs)), Tz (sz (decide (z1 < 0)) (z1.natAbs % z2.natAbs))])] [0, 1, 2, 3, 4, 5] [] rfl rfl follow rfl ⟨
          .inl ⟨wants_plain rfl, does_field _ _ _ 0 ty_f0_collatorref01_Num rfl rfl rfl rfl rfl rfl rfl (pt_box (av_fs 0 rfl))⟩,
          .inl ⟨wants_plain rfl, does_loadOne _ ty_one_bool rfl rfl rfl rfl rfl rfl (pt_fp (av_rs 0 rfl rfl)) (av_fs 0 rfl)⟩,
          .inl ⟨wants_plain rfl, does_move _ (.inl rfl) rfl rfl rfl rfl (ar_tmp (av_fs 4 rfl))⟩,
          .inl ⟨wants_plain rfl, does_call (r_make1 (decide (z1 < 0)) (z1.natAbs % z2.natAbs)) rfl hb_collator_collatorref01_make1 rfl rfl rfl rfl ⟨(ar_tmp (av_rs 1 rfl rfl)), (ar_tmp (av_rs 2 rfl rfl)), trivial⟩⟩,
          .inl ⟨wants_plain rfl, does_allocOwn [Bz 0, Tz 0] ty_zero_collatorref01_Num rfl rfl rfl rfl rfl z_num rfl⟩,
          .inl ⟨wants_plain rfl, does_storeNew 2 _ _ ty_agg_collatorref01_Num rfl rfl rfl rfl rfl (pt_own (av_rs 4 rfl rfl)) (av_rs 4 rfl rfl) (ar_tmp (av_rs 3 rfl rfl))⟩,
          trivial⟩ ?_
        refine nx_sub (fs' := [.box 3 72 [Bz z2, Tz z2], .box 4 72 [Bz 0, Tz 0], .box 5 72 [Bz 0, Tz 0], .box 9 72 [Bz (sz (!(false == (decide (z2 < 0)))) (z1.natAbs / z2.natAbs)), Tz (sz (!(false == (decide (z2 < 0)))) (z1.natAbs / z2.natAbs))], .box 10 72 [Bz (sz (decide (z1 < 0)) (z1.natAbs % z2.natAbs)), Tz (sz (decide (z1 < 0)) (z1.natAbs % z2.natAbs))]]) [1, 2, 3, 5, 11] rfl ?_
        refine nx_then ?_
        refine t_seq ?_
        refine t_seq ?_
        refine t_region (F := ⟨_, _, _, _⟩) [.box 3 72 [Bz z2, Tz z2], .box 4 72 [Bz 0, Tz 0], .box 5 72 [Bz 0, Tz 0], .box 9 72 [Bz (sz (!(false == (decide (z2 < 0)))) (z1.natAbs / z2.natAbs)), Tz (sz (!(false == (decide (z2 < 0)))) (z1.natAbs / z2.natAbs))], .box 10 72 [Bz (sz (decide (z1 < 0)) (z1.natAbs % z2.natAbs)), Tz (sz (decide (z1 < 0)) (z1.natAbs % z2.natAbs))]] [] [(0, .fp 65 10 0), (1, .slot 66 (Bz (sz (decide (z1 < 0)) (z1.natAbs % z2.natAbs))))] [0, 1, 2, 3, 4] [] rfl rfl follow rfl ⟨
          .inl ⟨wants_plain rfl, does_field _ _ _ 0 ty_f0_collatorref01_Num rfl rfl rfl rfl rfl rfl rfl (pt_box (av_fs 4 rfl))⟩,
          .inl ⟨wants_plain rfl, does_loadOne _ ty_one_bool rfl rfl rfl rfl rfl rfl (pt_fp (av_rs 0 rfl rfl)) (av_fs 4 rfl)⟩,
          trivial⟩ ?_
        refine nx_sub (fs' := [.box 3 72 [Bz z2, Tz z2], .box 4 72 [Bz 0, Tz 0], .box 5 72 [Bz 0, Tz 0], .box 9 72 [Bz (sz (!(false == (decide (z2 < 0)))) (z1.natAbs / z2.natAbs)), Tz (sz (!(false == (decide (z2 < 0)))) (z1.natAbs / z2.natAbs))], .box 10 72 [Bz (sz (decide (z1 < 0)) (z1.natAbs % z2.natAbs)), Tz (sz (decide (z1 < 0)) (z1.natAbs % z2.natAbs))], .slot 66 (Bz (sz (decide (z1 < 0)) (z1.natAbs % z2.natAbs)))]) [0, 1, 2, 3, 4, 6] rfl ?_
        refine nx_then ?_
        refine t_cond_fe 5 rfl (by rw [sz_neg, decide_eq_false g1]; rfl) ?_
        refine t_skip ?_
        refine nx_then ?_
        refine t_seq ?_
        refine t_region (F := ⟨_, _, _, _⟩) [.box 3 72 [Bz z2, Tz z2], .box 9 72 [Bz (sz (!(false == (decide (z2 < 0)))) (z1.natAbs / z2.natAbs)), Tz (sz (!(false == (decide (z2 < 0)))) (z1.natAbs / z2.natAbs))], .box 10 72 [Bz (sz (decide (z1 < 0)) (z1.natAbs % z2.natAbs)), Tz (sz (decide (z1 < 0)) (z1.natAbs % z2.natAbs))], .slot 66 (Bz (sz (decide (z1 < 0)) (z1.natAbs % z2.natAbs)))] [(2, .box 4 72 [Bz 0, Tz 0]), (3, .box 5 72 [Bz 0, Tz 0])] [(0, .slot 80 (NUM (sz (!(false == (decide (z2 < 0)))) (z1.natAbs / z2.natAbs)))), (1, .slot 81 (NUM (sz (decide (z1 < 0)) (z1.natAbs % z2.natAbs)))), (2, .box 4 72 [Bz (sz (!(false == (decide (z2 < 0)))) (z1.natAbs / z2.natAbs)), Tz (sz (!(false == (decide (z2 < 0)))) (z1.natAbs / z2.natAbs))]), (3, .box 5 72 [Bz (sz (decide (z1 < 0)) (z1.natAbs % z2.natAbs)), Tz (sz (decide (z1 < 0)) (z1.natAbs % z2.natAbs))])] [0, 3, 4, 5] [1, 2] rfl rfl follow rfl ⟨
          .inl ⟨wants_plain rfl, does_loadAgg _ ty_agg_collatorref01_Num rfl rfl rfl rfl rfl rfl (pt_box (av_fs 1 rfl)) (av_fs 1 rfl)⟩,
          .inl ⟨wants_plain rfl, does_loadAgg _ ty_agg_collatorref01_Num rfl rfl rfl rfl rfl rfl (pt_box (av_fs 2 rfl)) (av_fs 2 rfl)⟩,
          .inl ⟨wants_plain rfl, does_storeAgg 2 _ _ ty_agg_collatorref01_Num rfl rfl rfl rfl rfl (pt_box (av_os 0 rfl rfl)) (av_os 0 rfl rfl) (ar_tmp (av_rs 0 rfl rfl))⟩,
          .inl ⟨wants_plain rfl, does_storeAgg 2 _ _ ty_agg_collatorref01_Num rfl rfl rfl rfl rfl (pt_box (av_os 1 rfl rfl)) (av_os 1 rfl rfl) (ar_tmp (av_rs 1 rfl rfl))⟩,
          trivial⟩ ?_
        refine nx_sub (fs' := [.box 4 72 [Bz (sz (!(false == (decide (z2 < 0)))) (z1.natAbs / z2.natAbs)), Tz (sz (!(false == (decide (z2 < 0)))) (z1.natAbs / z2.natAbs))], .box 5 72 [Bz (sz (decide (z1 < 0)) (z1.natAbs % z2.natAbs)), Tz (sz (decide (z1 < 0)) (z1.natAbs % z2.natAbs))]]) [6, 7] rfl ?_
        refine nx_then ?_
        refine t_ret ?_
        exact rt_two rfl (res_agg 0 ty_agg_collatorref01_Num rfl) (res_agg 1 ty_agg_collatorref01_Num rfl)
end Go.Proofs.Ytogodjiemgilaaa
