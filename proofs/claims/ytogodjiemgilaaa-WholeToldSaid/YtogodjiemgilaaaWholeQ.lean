/- The quotient of two rows of digits, and what is left. -/
import Derived.Test.YtogodjiemgilaaaWholeD
import Derived.Shelf.RegionOpen
namespace Go.Proofs.Ytogodjiemgilaaa
open Go.RowKit Go.Shelf

attribute [local go_sem] Oper.semAt_some

/-- the two results of the quotient -/
def GotQR (W : World) (q r : Nat) (e : Ending) (w' : World) : Prop :=
  ∃ a c b d, e = .returned (.tuple #[.slice a (dg BB q).length c, .slice b (dg BB r).length d]) ∧ (dg BB q).length ≤ c ∧ c ≤ maxLen ∧ (dg BB r).length ≤ d ∧ d ≤ maxLen ∧ Rd w' a (ks .u32 (dg BB q)) ∧ Rd w' b (ks .u32 (dg BB r)) ∧ Ext W w'

theorem down_map (n : Nat) : ∀ k, k ≤ n → (down n k).map (fun i => i.1) = (List.range k).map fun j => n - 1 - j := by
  intro k
  induction k with
  | zero => intro _; simp [down_zero]
  | succ k ih => intro h; rw [down_succ _ _ h, List.map_append, ih (by omega), List.range_succ, List.map_append]; simp

/-- what the quotient's own cells hold behind some rounds -/
def DvI (w : World) (b : Option Addr) (nb cb n m L : Nat) (pre : List Nat) (W : World) : Prop :=
  Row W w.heap.size 162 [.slice b nb cb] ∧ Row W (w.heap.size + 1) 162 [.slice (some ⟨w.heap.size + 1 + 1 + 1, 0, none⟩) L L] ∧
  (∃ ar cr, Row W (w.heap.size + 1 + 1) 162 [.slice ar (dg BB (dvS BB n m L pre).2).length cr] ∧ (dg BB (dvS BB n m L pre).2).length ≤ cr ∧ cr ≤ maxLen ∧ Rd W ar (ks .u32 (dg BB (dvS BB n m L pre).2)) ∧ From (w.heap.size + 1 + 1 + 1 + 1 + 1) ar) ∧
  Row W (w.heap.size + 1 + 1 + 1) 160 (ks .u32 (dvS BB n m L pre).1) ∧ w.heap.size + 1 + 1 + 1 + 1 + 1 ≤ W.heap.size
theorem dvI_own {N : Nat} {w : World} {b : Option Addr} {nb cb n m L : Nat} : Own (fun (pre : List (Fin N)) W => DvI w b nb cb n m L (pre.map (·.1)) W) := by
  rintro s A B row ⟨h0, h1, ⟨ar, cr, h2, j1, j2, j3, j4⟩, h3, h5⟩ hg hr
  exact ⟨h0.iter hg hr, h1.iter hg hr, ⟨ar, cr, h2.iter hg hr, j1, j2, j3.iter hg hr, j4⟩, h3.iter hg hr, Nat.le_trans h5 hg.size⟩

/-- what a round of the quotient keeps, as worlds -/
def K3 (b : Nat) (W A : World) : Prop := KeepsFrom (b + 1 + 1 + 1 + 1 + 1) W A ∧ KpB b (b + 1 + 1 + 1 + 1) W A ∧ b + 1 + 1 + 1 + 1 + 1 ≤ A.heap.size
theorem K3.refl {b : Nat} {W : World} (h : b + 1 + 1 + 1 + 1 + 1 ≤ W.heap.size) : K3 b W W := ⟨KeepsFrom.refl _ _, KpB.refl _ _ _, h⟩
theorem K3.ext {b : Nat} {W A C : World} (h : K3 b W A) (e : Ext A C) : K3 b W C := by
  obtain ⟨h1, h2, h3⟩ := h
  refine ⟨h1.trans (KeepsFrom.of_grownBy (row := none) ⟨e.os, e.tape, e.output, e.size, fun k hk _ => e.block k hk⟩ (fun j h => by cases h)), ⟨h2.1.trans (e.mono (by omega)), (e.block _ (by omega)).trans h2.2⟩, Nat.le_trans h3 e.size⟩
theorem K3.set {b : Nat} {W A : World} (h : K3 b W A) {p : Addr} (h1 : b ≤ p.block) (h2 : p.block ≠ b + 1 + 1 + 1 + 1) (u : Value) : K3 b W (A.setCell p u) := by
  obtain ⟨k1, k2, k3⟩ := h
  exact ⟨k1.trans ((KeepsOthers.setCell _ _ _).from _), k2.set h1 h2 u, by simpa [World.setCell] using k3⟩
theorem K3.drew {b : Nat} {W A : World} (h : K3 b W A) : K3 b W A.drew := h.ext (Ext.refl A).drew

set_option maxRecDepth 100000 in
set_option maxHeartbeats 4000000 in
theorem divd_walk (a b : Option Addr) (ca cb n m : Nat) (w : World) (hm : 0 < m) (hla : (dg BB n).length ≤ 100000) (hlb : (dg BB m).length ≤ 100000) (ha : Rd w a (ks .u32 (dg BB n))) (hb : Rd w b (ks .u32 (dg BB m))) :
    Calls Try.prog 118 #[.slice a (dg BB n).length ca, .slice b (dg BB m).length cb] w (GotQR w (n / m) (n % m)) := by
  generalize hl : dg BB n = l at *
  generalize hnb : (dg BB m).length = nb at *
  have HL := Lib.hid hl
  have HNB := Lib.hid hnb
  clear hl hnb
  refine (callsIn_wide (n := 3)).1 ?_
  refine callsIn_of_wp_marks Try.func118 rfl trivial ?_ rfl
  simp only [Try.ntmps118, List.size_toArray, List.length_cons, List.length_nil, Nat.reduceAdd, Nat.reduceSub, Array.replicate_succ, Array.replicate_zero, List.push_toArray, List.append_toArray, List.nil_append, List.cons_append]
  have r0 : Row (((w.alloc (.cells #[.slice b nb cb] 162)).alloc (.cells #[.slice none 0 0] 162)).alloc (.cells #[.slice none 0 0] 162)) w.heap.size 162 [.slice b nb cb] := ((Row.new w _ [_]).alloc _).alloc _
  have r1 : Row (((w.alloc (.cells #[.slice b nb cb] 162)).alloc (.cells #[.slice none 0 0] 162)).alloc (.cells #[.slice none 0 0] 162)) (w.heap.size + 1) 162 [.slice none 0 0] := by
    have := (Row.new (w.alloc (.cells #[.slice b nb cb] 162)) 162 [.slice none 0 0]).alloc (.cells #[.slice none 0 0] 162)
    rwa [World.size_alloc] at this
  have r2 : Row (((w.alloc (.cells #[.slice b nb cb] 162)).alloc (.cells #[.slice none 0 0] 162)).alloc (.cells #[.slice none 0 0] 162)) (w.heap.size + 1 + 1) 162 [.slice none 0 0] := by
    have := Row.new ((w.alloc (.cells #[.slice b nb cb] 162)).alloc (.cells #[.slice none 0 0] 162)) 162 [.slice none 0 0]
    rwa [World.size_alloc, World.size_alloc] at this
  have x3 : Ext w (((w.alloc (.cells #[.slice b nb cb] 162)).alloc (.cells #[.slice none 0 0] 162)).alloc (.cells #[.slice none 0 0] 162)) := ((Ext.new _ _).alloc _).alloc _
  have R0 := Lib.hid r0
  have R1 := Lib.hid r1
  have R2 := Lib.hid r2
  have X3 := Lib.hid x3
  clear r0 r1 r2 x3
  gi_wp2_with (first | (gi_at_make; refine make_one_in elemU32 rfl rfl _ _ rfl rfl rfl (n := l.length) rfl rfl (by omega) (by unfold maxLen; omega) ?_; intro w0 hrow0 hext0 hsz0; have c1 := (R1.out.ext hext0).cell (i := 0) rfl; have f1 := (R1.out.ext hext0).frozen 0) | (refine ⟨trivial, ?_⟩; gi_at_call 170; refine (backA_in Fence.wide 2 trivial rfl _ _ _ _).mono ?_; rintro e w' ⟨rfl, rfl⟩))
  obtain ⟨WL, hWL⟩ : ∃ WL, (w0.setCell ⟨w.heap.size + 1, 0, none⟩ (.slice (some ⟨w.heap.size + 1 + 1 + 1, 0, none⟩) l.length l.length)).alloc (.cells #[.slice a l.length ca] 162) = WL := ⟨_, rfl⟩
  simp only [World.size_alloc] at hrow0 hsz0
  have hsL : WL.heap.size = w.heap.size + 1 + 1 + 1 + 1 + 1 := by rw [← hWL]; simp [World.setCell, hsz0]
  have l0 : Row WL w.heap.size 162 [.slice b nb cb] := by rw [← hWL]; exact ((R0.out.ext hext0).far (p := ⟨w.heap.size + 1, 0, none⟩) (by simp) _).alloc _
  have l1 : Row WL (w.heap.size + 1) 162 [.slice (some ⟨w.heap.size + 1 + 1 + 1, 0, none⟩) l.length l.length] := by rw [← hWL]; exact ((R1.out.ext hext0).set 0 _).alloc _
  have l2 : Row WL (w.heap.size + 1 + 1) 162 [.slice none 0 0] := by rw [← hWL]; exact ((R2.out.ext hext0).far (p := ⟨w.heap.size + 1, 0, none⟩) (by simp) _).alloc _
  have l3 : Row WL (w.heap.size + 1 + 1 + 1) 160 (ks .u32 (List.replicate l.length 0)) := by rw [← hWL, ← ks_replicate]; exact (hrow0.far (p := ⟨w.heap.size + 1, 0, none⟩) (Nat.ne_of_gt (by show w.heap.size + 1 < _; omega)) _).alloc _
  have l4 : Row WL (w.heap.size + 1 + 1 + 1 + 1) 162 [.slice a l.length ca] := by
    rw [← hWL]
    have := Row.new (w0.setCell ⟨w.heap.size + 1, 0, none⟩ (.slice (some ⟨w.heap.size + 1 + 1 + 1, 0, none⟩) l.length l.length)) 162 [.slice a l.length ca]
    rwa [show (w0.setCell ⟨w.heap.size + 1, 0, none⟩ (.slice (some ⟨w.heap.size + 1 + 1 + 1, 0, none⟩) l.length l.length)).heap.size = w.heap.size + 1 + 1 + 1 + 1 by simp [World.setCell, hsz0]] at this
  have xL : Ext w WL := by rw [← hWL]; exact ((X3.out.trans hext0).set (p := ⟨w.heap.size + 1, 0, none⟩) (by simp) _).alloc _
  rw [hWL]
  clear R0 R1 R2 X3 hrow0 hext0 hsz0 c1 f1 hWL
  have HSL := Lib.hid hsL
  refine wpIn_rangeFunc_ownG (n := 3) rfl (by omega) (gf := 197) (lb := #[.pointer (some ⟨w.heap.size + 1 + 1 + 1 + 1, 0, none⟩)]) rfl trivial (enters_of Try.func197 (by kernel_rfl) rfl)
    (backA_stops Fence.wide 2 trivial rfl (by omega) (w.heap.size + 1 + 1 + 1 + 1) ca a l (by omega) w WL ha xL (by omega) (l4.cell (i := 0) rfl)) kpB_t (kpB_b (by omega) (by omega)) (Below.refl _ _) (fun _ => rfl)
    (fun pre W => DvI w b nb cb n m l.length (pre.map (·.1)) W ∧ Below w.heap.size w W)
    (fun _ _ _ => False)
    (OwnFrom.and (Own.from dvI_own _) (ownFrom_below (Nat.le_refl _) (by omega)))
    (fun _ _ _ _ _ hs _ _ => hs)
    ⟨⟨l0, l1, ⟨none, 0, by simpa [dvS, dg_zero] using l2, by simp [dvS, dg_zero], by simp [maxLen], Rd.nil _ _, From.none _⟩, l3, by omega⟩, xL⟩
    (fun i => { tmps := #[.slice a l.length ca, .slice b nb cb, undef, .pointer (some ⟨w.heap.size, 0, none⟩), .pointer (some ⟨w.heap.size + 1, 0, none⟩), .pointer (some ⟨w.heap.size + 1 + 1, 0, none⟩), .int .i64 (i.1 : Int), .int .u32 (l[i.1] : Int), undef, .slice a l.length ca, .int .i64 (l.length : Int), .slice (some ⟨w.heap.size + 1 + 1 + 1, 0, none⟩) l.length l.length, .slice a l.length ca, .func (.func 197) #[] #[.pointer (some ⟨w.heap.size + 1 + 1 + 1 + 1, 0, none⟩)], .int .i64 (i.1 : Int), .int .u32 (l[i.1] : Int), undef, undef, undef, undef, undef, undef, undef, undef, undef, undef, undef, undef, undef, undef, undef, undef, undef, undef, undef, undef, undef, undef, undef, undef, undef], defers := [] }) ?assign ?body ?done ?stop
  case assign =>
    intro lp x W K hK
    dsimp only [bkEnc]
    gi_wp2
    exact hK
  case body =>
    rintro lp pre ⟨k, hk⟩ W ⟨⟨i0, i1, ⟨ar, cr, i2, j1, j2, j3, j4⟩, i3, hsW⟩, hB⟩ _
    have hRm := dvS_lt hm BB n l.length (pre.map (·.1))
    have hQl := dvS_len BB n m l.length (pre.map (·.1))
    have hSS : Hid (dvS BB n m l.length ((pre ++ [(⟨k, hk⟩ : Fin l.length)]).map (fun i => i.1)) = dvStep BB n m (dvS BB n m l.length (pre.map (·.1))) k) := by
      show _ = _; rw [List.map_append]; exact dvS_snoc _ _ _ _ _ _
    have hxk : l[k] = n / BB ^ k % BB := by
      have := HL.out; subst this; exact dg_at BB_gt hk
    unfold dvStep at hSS
    rw [← hxk] at hSS
    have hx : l[k] < 1000000000 := by rw [hxk]; exact Nat.mod_lt _ (by decide)
    clear hxk
    generalize l[k] = x at *
    generalize hR : (dvS BB n m l.length (pre.map (·.1))).2 = R at *
    generalize hQ : (dvS BB n m l.length (pre.map (·.1))).1 = Q at *
    clear hR hQ
    obtain ⟨t, ht⟩ : ∃ t, t = x + BB * R := ⟨_, rfl⟩
    rw [← ht] at hSS
    have hlenR : (dg BB R).length ≤ nb := by rw [← HNB.out]; exact dg_len_mono BB_gt (by omega)
    have hstrip : strip (x :: dg BB R) = dg BB t := by
      rw [strip_dg BB_gt _ (fun d hd => by
        rcases List.mem_cons.1 hd with h | h
        · rw [h]; exact hx
        · exact dg_lt BB_gt h)]
      simp only [val]; rw [val_dg BB_gt, ht]
    have hklen : Hid (stripN (x :: dg BB R) (x :: dg BB R).length = (dg BB t).length) := by show _ = _; rw [← strip_len, hstrip]
    have htm : Hid (t < BB * m) := by
      show _ < _
      have h3 : BB * (R + 1) ≤ BB * m := Nat.mul_le_mul_left _ hRm
      rw [Nat.mul_add] at h3
      have : x < BB := hx
      omega
    have hlent : (dg BB t).length ≤ nb + 1 := by
      rw [dg_len_le BB_gt, Nat.pow_succ, Nat.mul_comm]
      have h7 := lt_pow_len BB_gt m
      rw [HNB.out] at h7
      have h8 : BB * m ≤ BB * BB ^ nb := Nat.mul_le_mul_left _ (by omega)
      have := htm.out
      omega
    have ownD := (Row.new W 160 [.int .u32 (x : Int)]).own (base := W.heap.size) (Nat.le_refl _) (by simp [maxLen])
    have cr0 := i2.cell (i := 0) rfl
    have cr0' : (W.alloc (.cells #[.int .u32 (x : Int)] 160)).cell? ⟨w.heap.size + 1 + 1, 0, none⟩ = some (.slice ar (dg BB R).length cr) := (i2.alloc _).cell (i := 0) rfl
    have HSS := hSS
    have HI2 := Lib.hid i2
    clear hSS ht i2
    gi_wp2_with (gi_at_builtin; refine append_row_in elemU32 ownD (by simp) (by rw [ks_len, Nat.mul_one]) (j3.alloc _) (by unfold maxLen; simp; omega) (by simp; omega) (by simp [ks, Value.oneCell']) rfl _ _ rfl rfl rfl ?_; intro v1 w1 own1 hg1; obtain ⟨a1, c1, rfl, f1, f2, f3⟩ := own_form own1)
    have hx1 : Ext W w1 := (Ext.new _ _).grown hg1 (fun k e => by cases e; exact Nat.le_refl _)
    have hf1 := own_from own1
    refine ⟨trivial, ?_⟩
    refine (CallsIn.inRound lp (callsIn_wide.2 (trim_walk a1 c1 (x :: dg BB R) _ _ (by simp; omega) f1 f2 f3))).mono ?_
    rintro e w' ⟨rfl, rfl⟩
    rw [hklen.out]
    have f4 : Rd w1 a1 (ks .u32 (dg BB t)) := by
      have h6 := f3.take (stripN (x :: dg BB R) (x :: dg BB R).length)
      rw [show [Value.int .u32 (x : Int)] ++ ks .u32 (dg BB R) = ks .u32 (x :: dg BB R) from rfl, ks_take] at h6
      rwa [show (x :: dg BB R).take (stripN (x :: dg BB R) (x :: dg BB R).length) = dg BB t from hstrip] at h6
    have f5 : (dg BB t).length ≤ maxLen := by unfold maxLen; omega
    have n0 := i0.ext hx1
    have n1 := i1.ext hx1
    have n2 := HI2.out.ext hx1
    have n3 := i3.ext hx1
    have k3 := (K3.refl hsW).ext hx1
    have hB1 := hB.trans (hx1.mono (by omega))
    have hs1 : w.heap.size + 1 + 1 + 1 + 1 + 1 ≤ w1.heap.size := Nat.le_trans hsW hx1.size
    have f6 : From (w.heap.size + 1 + 1 + 1 + 1 + 1) a1 := hf1.mono hsW
    clear cr0 cr0' ownD own1 f1 f2 f3 hf1 j3 j4 HI2 i0 i1 i3
    have cA := n2.cell (i := 0) rfl
    have fA := n2.frozen 0
    have cY := n0.cell (i := 0) rfl
    have N0 := Lib.hid n0
    have N1 := Lib.hid n1
    have N2 := Lib.hid n2
    have N3 := Lib.hid n3
    clear n0 n1 n2 n3
    gi_wp2_with fail
    refine ⟨trivial, ?_⟩
    -- the world behind the store of what is left so far
    obtain ⟨w2, hw2⟩ : ∃ w2, w1.setCell ⟨w.heap.size + 1 + 1, 0, none⟩ (.slice a1 (dg BB t).length (dg BB t).length) = w2 := ⟨_, rfl⟩
    have q0 : Row w2 w.heap.size 162 [.slice b nb cb] := by rw [← hw2]; exact N0.out.far (p := ⟨w.heap.size + 1 + 1, 0, none⟩) (Nat.ne_of_lt (by show _ < w.heap.size + 1 + 1; omega)) _
    have q1 : Row w2 (w.heap.size + 1) 162 [.slice (some ⟨w.heap.size + 1 + 1 + 1, 0, none⟩) l.length l.length] := by rw [← hw2]; exact N1.out.far (p := ⟨w.heap.size + 1 + 1, 0, none⟩) (Nat.ne_of_lt (by show _ < w.heap.size + 1 + 1; omega)) _
    have q2 : Row w2 (w.heap.size + 1 + 1) 162 [.slice a1 (dg BB t).length (dg BB t).length] := by rw [← hw2]; exact N2.out.set 0 _
    have q3 : Row w2 (w.heap.size + 1 + 1 + 1) 160 (ks .u32 Q) := by rw [← hw2]; exact N3.out.far (p := ⟨w.heap.size + 1 + 1, 0, none⟩) (Nat.ne_of_gt (by show w.heap.size + 1 + 1 < _; omega)) _
    have q4 : Rd w2 a1 (ks .u32 (dg BB t)) := by
      rw [← hw2]
      refine f4.keep fun bb off e _ => Below.heap_setCell _ _ _ _ ?_
      have := f6 _ e
      show bb ≠ w.heap.size + 1 + 1
      simp only at this; omega
    have kk3 : K3 w.heap.size W w2 := by rw [← hw2]; exact k3.set (p := ⟨w.heap.size + 1 + 1, 0, none⟩) (by show _ ≤ w.heap.size + 1 + 1; omega) (by show w.heap.size + 1 + 1 ≠ _; omega) _
    have hB2 : Below w.heap.size w w2 := by rw [← hw2]; exact hB1.setCell (p := ⟨w.heap.size + 1 + 1, 0, none⟩) (by show _ ≤ w.heap.size + 1 + 1; omega) _
    have hs2 : w.heap.size + 1 + 1 + 1 + 1 + 1 ≤ w2.heap.size := kk3.2.2
    clear cA fA cY N0 N1 N2 N3 k3 hB1 hs1 hx1 f4 hg1
    rw [hw2]
    clear hw2
    have HCM := Lib.hid (cmp_walk a1 b (dg BB t).length cb t m w2 (by omega) (by rw [HNB.out]; omega) q4 (hb.ext hB2))
    rw [HNB.out] at HCM
    refine (CallsIn.inRound lp (callsIn_wide.2 HCM.out)).mono ?_
    rintro e w3 ⟨rfl, hx3⟩
    have p0 := q0.ext hx3
    have p1 := q1.ext hx3
    have p2 := q2.ext hx3
    have p3 := q3.ext hx3
    have p4 := q4.ext hx3
    have pk := kk3.ext hx3
    have pB := hB2.trans (hx3.mono (by omega))
    clear q0 q1 q2 q3 q4 kk3 hB2 HCM hx3 hs2
    by_cases hlt : t < m
    · have hc : decide (cmpN t m < 0) = true := by simp only [decide_eq_true_eq]; exact (cmpN_lt _ _).2 hlt
      rw [if_pos hlt] at HSS
      have P := Lib.hid (And.intro p0 (And.intro p1 (And.intro p2 p3)))
      clear p0 p1 p2 p3 hlt
      gi_wp2
      obtain ⟨p0, p1, p2, p3⟩ := P.out
      refine ⟨by rw [HSL.out]; exact pk.1, pk.2.1, ⟨p0, p1, ?_, ?_, pk.2.2⟩, pB⟩
      · rw [HSS.out]; exact ⟨a1, _, p2, Nat.le_refl _, f5, p4, f6⟩
      · rw [HSS.out]; exact p3
    · have hc : decide (cmpN t m < 0) = false := by simp only [decide_eq_false_iff_not]; exact fun h => hlt ((cmpN_lt _ _).1 h)
      rw [if_neg hlt] at HSS
      have hqq : t / m < 1000000000 := by rw [Nat.div_lt_iff_lt_mul hm]; exact htm.out
      have cR := p2.cell (i := 0) rfl
      have cY := p0.cell (i := 0) rfl
      have P0 := Lib.hid p0
      have P1 := Lib.hid p1
      have P2 := Lib.hid p2
      have P3 := Lib.hid p3
      clear p0 p1 p2 p3
      gi_wp2_with fail
      refine ⟨trivial, ?_⟩
      have HF := Lib.hid (fits_walk a1 b (dg BB t).length cb t m w3 (by omega) (by rw [HNB.out]; omega) p4 (hb.ext pB) htm.out)
      rw [HNB.out] at HF
      refine (CallsIn.inRound lp (callsIn_wide.2 HF.out)).mono ?_
      rintro e w4 ⟨rfl, hx4⟩
      clear HF cR cY
      have p0 := P0.out.ext hx4
      have p1 := P1.out.ext hx4
      have p2 := P2.out.ext hx4
      have p3 := P3.out.ext hx4
      replace p4 := p4.ext hx4
      replace pk := pk.ext hx4
      replace pB := pB.trans (hx4.mono (by have := P0.out.lt; omega))
      clear P0 P1 P2 P3 hx4
      generalize hqg : t / m = qd at *
      have HQG := Lib.hid hqg
      clear hqg
      have hkQ : k < Q.length := by rw [hQl]; exact hk
      have HKQ := Lib.hid hkQ
      have cQ := p1.cell (i := 0) rfl
      have cq : w4.cell? ⟨w.heap.size + 1 + 1 + 1, k, none⟩ = some (.int .u32 ((Q[k] : Nat) : Int)) := p3.cell (ks_get hkQ)
      have fq := p3.frozen k
      generalize hqk : Q[k] = qk at *
      clear hqk hkQ
      obtain ⟨w5, hw5⟩ : ∃ w5, w4.setCell ⟨w.heap.size + 1 + 1 + 1, k, none⟩ (.int .u32 (qd : Int)) = w5 := ⟨_, rfl⟩
      have e0 : Row w5 w.heap.size 162 [.slice b nb cb] := by rw [← hw5]; exact p0.far (p := ⟨w.heap.size + 1 + 1 + 1, k, none⟩) (Nat.ne_of_lt (by show _ < w.heap.size + 1 + 1 + 1; omega)) _
      have e1 : Row w5 (w.heap.size + 1) 162 [.slice (some ⟨w.heap.size + 1 + 1 + 1, 0, none⟩) l.length l.length] := by rw [← hw5]; exact p1.far (p := ⟨w.heap.size + 1 + 1 + 1, k, none⟩) (Nat.ne_of_lt (by show _ < w.heap.size + 1 + 1 + 1; omega)) _
      have e2 : Row w5 (w.heap.size + 1 + 1) 162 [.slice a1 (dg BB t).length (dg BB t).length] := by rw [← hw5]; exact p2.far (p := ⟨w.heap.size + 1 + 1 + 1, k, none⟩) (Nat.ne_of_lt (by show _ < w.heap.size + 1 + 1 + 1; omega)) _
      have e3 : Row w5 (w.heap.size + 1 + 1 + 1) 160 (ks .u32 (Q.set k qd)) := by rw [← hw5, ← ks_set]; exact p3.set _ _
      have e4 : Rd w5 a1 (ks .u32 (dg BB t)) := by
        rw [← hw5]
        refine p4.keep fun bb off e _ => Below.heap_setCell _ _ _ _ ?_
        have := f6 _ e
        show bb ≠ w.heap.size + 1 + 1 + 1
        simp only at this; omega
      have ek : K3 w.heap.size W w5 := by rw [← hw5]; exact pk.set (p := ⟨w.heap.size + 1 + 1 + 1, k, none⟩) (by show _ ≤ w.heap.size + 1 + 1 + 1; omega) (by show w.heap.size + 1 + 1 + 1 ≠ _; omega) _
      have eB : Below w.heap.size w w5 := by rw [← hw5]; exact pB.setCell (p := ⟨w.heap.size + 1 + 1 + 1, k, none⟩) (by show _ ≤ w.heap.size + 1 + 1 + 1; omega) _
      have E := Lib.hid (And.intro e0 (And.intro e1 (And.intro e2 (And.intro e3 (And.intro e4 (And.intro ek eB))))))
      clear p0 p1 p2 p3 p4 pk pB e0 e1 e2 e3 e4 ek eB
      gi_wp2_with fail
      clear hw5 cQ cq fq
      have cR := E.out.2.2.1.cell (i := 0) rfl
      have cY := E.out.1.cell (i := 0) rfl
      have hmx : Try.prog.follows .mixedOrders = true := by kernel_rfl
      have hbE : Rd w5 b (ks .u32 (dg BB m)) := hb.ext E.out.2.2.2.2.2.2
      have HT := Lib.hid (fun (W : World) (hr : Rd W b (ks .u32 (dg BB m))) => times_walk b cb m qd W hqq (by rw [HNB.out]; omega) hr)
      rw [HNB.out] at HT
      have hmq : m * qd ≤ t := by rw [← HQG.out]; exact Nat.mul_div_le t m
      have hrm : t - m * qd = t % m := by rw [← HQG.out]; have := Nat.mod_add_div t m; omega
      have hl6 := dg_len_mono BB_gt hmq
      have HS := Lib.hid (fun (W : World) (a6 : Option Addr) (c6 : Nat) (h1 : Rd W a1 (ks .u32 (dg BB t))) (h2 : Rd W a6 (ks .u32 (dg BB (m * qd)))) => sub_walk a1 a6 (dg BB t).length c6 t (m * qd) W hmq (by omega) (by omega) h1 h2)
      rw [hrm] at HS
      have HRM := Lib.hid hrm
      clear hrm hmq hl6
      gi_region_with_o (first
        | (refine ⟨trivial, ?_⟩; gi_at_call 172; refine (CallsIn.inRound lp (callsIn_wide.2 (HT.out _ (by exact hbE)))).mono ?_; rintro e w6 ⟨a6, c6, rfl, _, _, r6, x6, _⟩; have e6 : Row w6 (w.heap.size + 1 + 1) 162 [.slice a1 (dg BB t).length (dg BB t).length] := Row.ext (show Row w5.drew _ _ _ from E.out.2.2.1) x6; have cR6 := e6.cell (i := 0) rfl)
        | (refine ⟨trivial, ?_⟩; gi_at_call 120; refine (CallsIn.inRound lp (callsIn_wide.2 (HS.out _ _ _ (Rd.ext (show Rd w5.drew _ _ from E.out.2.2.2.2.1) x6) r6))).mono ?_; rintro e w7 ⟨a7, c7, rfl, g1, g2, r7, x7, g7⟩; have e7 := e6.ext x7; have cR7 := e7.cell (i := 0) rfl; have fR7 := e7.frozen 0))
      all_goals
        have P := Lib.hid (And.intro e7 (And.intro r7 (And.intro x7 x6)))
        clear e6 e7 r7 x7 x6 cR6 r6
        gi_wp2
        obtain ⟨e7, r7, x7, x6⟩ := P.out
        obtain ⟨e0, e1, e2, e3, e4, ek, eB⟩ := E.out
        have x8 : Ext w5 w7 := ((Ext.refl w5).drew.trans x6).trans x7
        have hs5 : w.heap.size + 1 + 1 + 1 + 1 + 1 ≤ w5.heap.size := ek.2.2
        have ek7 := (ek.ext x8).set (p := ⟨w.heap.size + 1 + 1, 0, none⟩) (by show _ ≤ w.heap.size + 1 + 1; omega) (by show w.heap.size + 1 + 1 ≠ _; omega) (.slice a7 (dg BB (t % m)).length c7)
        refine ⟨by rw [HSL.out]; exact ek7.1, ek7.2.1, ⟨?_, ?_, ?_, ?_, ek7.2.2⟩, (eB.trans (x8.mono (by omega))).setCell (p := ⟨w.heap.size + 1 + 1, 0, none⟩) (by show _ ≤ w.heap.size + 1 + 1; omega) _⟩
        · exact (e0.ext x8).far (p := ⟨w.heap.size + 1 + 1, 0, none⟩) (Nat.ne_of_lt (by show _ < w.heap.size + 1 + 1; omega)) _
        · exact (e1.ext x8).far (p := ⟨w.heap.size + 1 + 1, 0, none⟩) (Nat.ne_of_lt (by show _ < w.heap.size + 1 + 1; omega)) _
        · rw [HSS.out]
          refine ⟨a7, c7, e7.set 0 _, g1, g2, ?_, g7.mono (by have := ((Ext.refl w5).drew.trans x6).size; omega)⟩
          refine r7.keep fun bb off e _ => Below.heap_setCell _ _ _ _ ?_
          have h1 := g7 _ e
          have h2 := ((Ext.refl w5).drew.trans x6).size
          show bb ≠ w.heap.size + 1 + 1
          simp only at h1; omega
        · rw [HSS.out]
          exact (e3.ext x8).far (p := ⟨w.heap.size + 1 + 1, 0, none⟩) (Nat.ne_of_gt (by show w.heap.size + 1 + 1 < _; omega)) _
  case done =>
    rintro D ys W hD rfl ⟨⟨i0, i1, ⟨ar, cr, i2, j1, j2, j3, j4⟩, i3, hsW⟩, hB⟩ hK
    have hn : n < BB ^ l.length := by rw [← HL.out]; exact lt_pow_len BB_gt n
    have hS : dvS BB n m l.length ((down l.length l.length).map (fun i => i.1)) = (fixd BB l.length (n / m), n % m) := by
      rw [down_map _ _ (Nat.le_refl _), dvS_down BB_gt n m _ hm hn _ (Nat.le_refl _), dvQ_all]; simp
    rw [hS] at i2 j1 j3 i3
    simp only at i2 j1 j3 i3
    clear hS
    have hqlt : n / m < BB ^ l.length := Nat.lt_of_le_of_lt (Nat.div_le_self n m) hn
    have hst := strip_fixd BB_gt l.length (n / m) hqlt
    have cQ := i1.cell (i := 0) rfl
    have cR := i2.cell (i := 0) rfl
    have fQ := i1.frozen 0
    have fR := i2.frozen 0
    have HT := Lib.hid (fun (A : World) (h : Rd A (some ⟨w.heap.size + 1 + 1 + 1, 0, none⟩) (ks .u32 (fixd BB l.length (n / m)))) => trim_walk (some ⟨w.heap.size + 1 + 1 + 1, 0, none⟩) l.length (fixd BB l.length (n / m)) l.length A (fixd_len _ _ _) (Nat.le_refl _) (by unfold maxLen; omega) h)
    have hk5 : stripN (fixd BB l.length (n / m)) (fixd BB l.length (n / m)).length = (dg BB (n / m)).length := by rw [← strip_len, hst]
    rw [hk5] at HT
    have hrd := i3.rd
    have I1 := Lib.hid i1
    have I2 := Lib.hid i2
    have I3 := Lib.hid i3
    have HST := Lib.hid hst
    have HK5 := Lib.hid hk5
    have hKK := Lib.hid hK
    clear i0 i1 i2 i3 hst hk5 hn hqlt hK
    have hmx : Try.prog.follows .mixedOrders = true := by kernel_rfl
    simp only [Exit.inBlock, Exit.then]
    gi_wp2_with fail
    gi_region_with_o (refine ⟨trivial, ?_⟩; gi_at_call 130; refine (callsIn_wide.2 (HT.out _ (by exact hrd))).mono ?_; rintro e w6 ⟨rfl, rfl⟩)
    all_goals
      gi_wp2
      have hKd : W.drew.heap[D]? = some (.deferred (some [])) := hKK.out
      have hK1 := (KeepsOthers.setCell W.drew ⟨w.heap.size + 1, 0, none⟩ (.slice (some ⟨w.heap.size + 1 + 1 + 1, 0, none⟩) (dg BB (n / m)).length (dg BB (n / m)).length)).same D _ hKd rfl
      have hK2 := (KeepsOthers.setCell (W.drew.setCell ⟨w.heap.size + 1, 0, none⟩ (.slice (some ⟨w.heap.size + 1 + 1 + 1, 0, none⟩) (dg BB (n / m)).length (dg BB (n / m)).length)) ⟨w.heap.size + 1 + 1, 0, none⟩ (.slice ar (dg BB (n % m)).length cr)).same D _ hK1 rfl
      refine ⟨by simp, .inl ⟨_, _, rfl, run_takeDeferred hK2, ?_⟩⟩
      have hit : ∀ r, some D = some r → ∃ o : Obj, (((W.setCell ⟨w.heap.size + 1, 0, none⟩ (.slice (some ⟨w.heap.size + 1 + 1 + 1, 0, none⟩) (dg BB (n / m)).length (dg BB (n / m)).length)).setCell ⟨w.heap.size + 1 + 1, 0, none⟩ (.slice ar (dg BB (n % m)).length cr)).drew).heap[r]? = some o ∧ o.isCells = false := fun r e => by cases e; exact ⟨_, hK2, rfl⟩
      have hgb := grownBy_putObj' (((W.setCell ⟨w.heap.size + 1, 0, none⟩ (.slice (some ⟨w.heap.size + 1 + 1 + 1, 0, none⟩) (dg BB (n / m)).length (dg BB (n / m)).length)).setCell ⟨w.heap.size + 1 + 1, 0, none⟩ (.slice ar (dg BB (n % m)).length cr)).drew) D (.deferred none)
      have z1 := (((I1.out.set 0 (.slice (some ⟨w.heap.size + 1 + 1 + 1, 0, none⟩) (dg BB (n / m)).length (dg BB (n / m)).length)).far (p := ⟨w.heap.size + 1 + 1, 0, none⟩) (Nat.ne_of_lt (by show _ < w.heap.size + 1 + 1; omega)) (.slice ar (dg BB (n % m)).length cr)).drew.iter hgb hit).cell (i := 0) rfl
      have z2 := (((I2.out.far (p := ⟨w.heap.size + 1, 0, none⟩) (Nat.ne_of_gt (by show w.heap.size + 1 < _; omega)) (.slice (some ⟨w.heap.size + 1 + 1 + 1, 0, none⟩) (dg BB (n / m)).length (dg BB (n / m)).length)).set 0 (.slice ar (dg BB (n % m)).length cr)).drew.iter hgb hit).cell (i := 0) rfl
      have z3 := (((I3.out.far (p := ⟨w.heap.size + 1, 0, none⟩) (Nat.ne_of_gt (by show w.heap.size + 1 < _; omega)) (.slice (some ⟨w.heap.size + 1 + 1 + 1, 0, none⟩) (dg BB (n / m)).length (dg BB (n / m)).length)).far (p := ⟨w.heap.size + 1 + 1, 0, none⟩) (Nat.ne_of_gt (by show w.heap.size + 1 + 1 < _; omega)) (.slice ar (dg BB (n % m)).length cr)).drew.iter hgb hit).rd
      have z4 : Rd (((W.setCell ⟨w.heap.size + 1, 0, none⟩ (.slice (some ⟨w.heap.size + 1 + 1 + 1, 0, none⟩) (dg BB (n / m)).length (dg BB (n / m)).length)).setCell ⟨w.heap.size + 1 + 1, 0, none⟩ (.slice ar (dg BB (n % m)).length cr)).drew) ar (ks .u32 (dg BB (n % m))) := by
        refine Rd.drew ((j3.keep fun bb off e _ => Below.heap_setCell _ _ _ _ ?_).keep fun bb off e _ => Below.heap_setCell _ _ _ _ ?_)
        · have := j4 _ e
          show bb ≠ w.heap.size + 1
          simp only at this; omega
        · have := j4 _ e
          show bb ≠ w.heap.size + 1 + 1
          simp only at this; omega
      have z5 := z4.iter hgb hit
      have z6 := z3.take (stripN (fixd BB l.length (n / m)) (fixd BB l.length (n / m)).length)
      rw [ks_take, show (fixd BB l.length (n / m)).take (stripN (fixd BB l.length (n / m)) (fixd BB l.length (n / m)).length) = dg BB (n / m) from HST.out] at z6
      have z7 : (dg BB (n / m)).length ≤ maxLen := by
        have := stripN_le (fixd BB l.length (n / m)) (fixd BB l.length (n / m)).length
        rw [HK5.out, fixd_len] at this
        unfold maxLen; omega
      have hBF : Below w.heap.size w ((((W.setCell ⟨w.heap.size + 1, 0, none⟩ (.slice (some ⟨w.heap.size + 1 + 1 + 1, 0, none⟩) (dg BB (n / m)).length (dg BB (n / m)).length)).setCell ⟨w.heap.size + 1 + 1, 0, none⟩ (.slice ar (dg BB (n % m)).length cr)).drew).putObj D (.deferred none)) :=
        (((hB.setCell (p := ⟨w.heap.size + 1, 0, none⟩) (by show _ ≤ w.heap.size + 1; omega) _).setCell (p := ⟨w.heap.size + 1 + 1, 0, none⟩) (by show _ ≤ w.heap.size + 1 + 1; omega) _).drew).trans (belowK_b (w := w) (Nat.le_refl _) _ D _ _ (by omega) hK2 rfl rfl)
      refine ⟨.tuple #[.slice (some ⟨w.heap.size + 1 + 1 + 1, 0, none⟩) (dg BB (n / m)).length (dg BB (n / m)).length, .slice ar (dg BB (n % m)).length cr], ?_, ⟨_, _, _, _, rfl, Nat.le_refl _, z7, j1, j2, z6, z5, hBF⟩⟩
      simp [results, Try.f118, go_sem, z1, z2]
  case stop =>
    rintro D c pre W _ _ h _
    exact h.elim
end Go.Proofs.Ytogodjiemgilaaa
