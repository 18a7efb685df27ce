/- The logic over slots and boxes: regions in whatever order, and code. -/
import Derived.Test.YtogodjiemgilaaaHLB2
namespace Go.Proofs.Ytogodjiemgilaaa
open Go.RowKit

def preOf (o : Oper) : List Nat := (o.after.toList.filter (fun e => Region.binds .any e)).map (·.on)
def sucOf (ops : List Oper) (i : Nat) : List Nat := (List.range ops.length).filter fun j => match ops[j]? with | some o => (preOf o).contains i | none => false
/-- edges lead back -/
def seqB (ops : List Oper) : Bool := (List.range ops.length).all fun j => match ops[j]? with | some o => (preOf o).all (fun i => decide (i < j)) | none => true

/-- the operation runs -/
def Wants (X : Cx) (ops : List Oper) (i : Nat) (pre suc : List Nat) (o : Oper) : Prop := ∀ c a w, Sit X i pre suc c a w → Region.wanted o (yielded ops.toArray a.tmps) = true
/-- the operation is passed by -/
def Skips (X : Cx) (ops : List Oper) (i : Nat) (pre suc : List Nat) (o : Oper) : Prop := ∀ c a w, Sit X i pre suc c a w → Region.wanted o (yielded ops.toArray a.tmps) = false ∧ Inv X (upd c i) (a.put o.dst undef) w
def Rule (X : Cx) (ops : List Oper) (i : Nat) (o : Oper) : Prop :=
  (Wants X ops i (preOf o) (sucOf ops i) o ∧ Does X i (preOf o) (sucOf ops i) o) ∨ Skips X ops i (preOf o) (sucOf ops i) o
def Rules (X : Cx) (ops : List Oper) : List Oper → Nat → Prop
  | [], _ => True
  | o :: os, i => Rule X ops i o ∧ Rules X ops os (i + 1)
theorem Rules.get {X : Cx} {ops : List Oper} : ∀ {os : List Oper} {k : Nat}, Rules X ops os k → ∀ {j : Nat} {o : Oper}, os[j]? = some o → Rule X ops (k + j) o
  | [], _, _, j, _, h => by simp at h
  | o :: _, k, h, 0, x, hx => by simp at hx; subst hx; exact h.1
  | _ :: _, k, h, j + 1, x, hx => by
    have := Rules.get h.2 (j := j) (o := x) (by simpa using hx)
    rwa [show k + 1 + j = k + (j + 1) by omega] at this

section
variable {X : Cx} {ops : List Oper}
theorem wants_plain {i : Nat} {pre suc : List Nat} {o : Oper} (h : o.guard = none) : Wants X ops i pre suc o := fun c a w _ => by simp [Region.wanted, h]
theorem yielded_of {o : Oper} {g t : Nat} (ho : ops[g]? = some o) (hd : o.dst = some t) {a : Act} {b : Bool} (h : a.tmps[t]? = some (.bool b)) : yielded ops.toArray a.tmps g = some b := by
  unfold yielded
  have : (ops.toArray)[g]? = some o := by simpa using ho
  simp [this, hd, h]
theorem wants_guard {i : Nat} {pre suc : List Nat} {o og : Oper} {g t : Nat} (b : Bool) (h : o.guard = some (g, b)) (ho : ops[g]? = some og) (hd : og.dst = some t) (hv : Av X i pre suc (.slot t (VP.bool b))) : Wants X ops i pre suc o := fun c a w s => by
  obtain ⟨v, h1, h2⟩ := hv c a w s
  have h2 : v = .bool b := h2
  subst h2
  simp [Region.wanted, h, yielded_of ho hd h1]
theorem skips_guard {i d : Nat} {pre suc : List Nat} {o og : Oper} {g t : Nat} (b : Bool) (h : o.guard = some (g, !b)) (ho : ops[g]? = some og) (hd : og.dst = some t) (hv : Av X i pre suc (.slot t (VP.bool b))) (hod : o.dst = some d)
    (hlt : (decide (d < X.N) && !X.B.contains d) = true) (hc : chk X i suc d = true) (hr : resOf X i = []) : Skips X ops i pre suc o := fun c a w s => by
  obtain ⟨v, h1, h2⟩ := hv c a w s
  have h2 : v = .bool b := h2
  subst h2
  refine ⟨by cases b <;> simp [Region.wanted, h, yielded_of ho hd h1], ?_⟩
  rw [hod]
  simp only [Bool.and_eq_true, decide_eq_true_eq] at hlt
  exact inv_put s (Ext.refl w) (s.inv.1.put (by simpa using hlt.2) undef (Ext.refl w)) hc (by rw [hr]; intro x hx; cases hx)

theorem rule_op {Q : Exit → Act → World → Prop} {i : Nat} {o : Oper} (ho : ops[i]? = some o) (hr : Rule X ops i o) {c : Nat → Bool} {a : Act} {w : World} (s : Sit X i (preOf o) (sucOf ops i) c a w) {K : Act → World → Prop} (hK : ∀ a' w', Inv X (upd c i) a' w' → K a' w') :
    wpOp X.P ops.toArray Q i K a w := by
  unfold wpOp
  have : (ops.toArray)[i]? = some o := by simpa using ho
  rw [this]
  simp only
  rcases hr with ⟨h1, h2⟩ | h
  · rw [if_pos (h1 c a w s)]
    exact .inl (h2 c a w s Q K hK)
  · obtain ⟨h1, h2⟩ := h c a w s
    rw [if_neg (by rw [h1]; exact Bool.false_ne_true)]
    exact hK _ _ h2

theorem pre_lt (hq : seqB ops = true) {i : Nat} {o : Oper} (ho : ops[i]? = some o) : ∀ j ∈ preOf o, j < i := by
  intro j hj
  unfold seqB at hq
  rw [List.all_eq_true] at hq
  have := hq i (List.mem_range.2 (List.getElem?_eq_some_iff.1 ho).1)
  rw [ho] at this
  simp only [List.all_eq_true, decide_eq_true_eq] at this
  exact this j hj
theorem suc_spec {i j : Nat} (h : j ∈ sucOf ops i) : ∃ o, ops[j]? = some o ∧ i ∈ preOf o := by
  unfold sucOf at h
  rw [List.mem_filter] at h
  obtain ⟨h1, h2⟩ := h
  cases ho : ops[j]? with
  | none => rw [ho] at h2; cases h2
  | some o => rw [ho] at h2; exact ⟨o, rfl, by simpa using h2⟩

/-- in the order of the text -/
theorem seq_ok {Q : Exit → Act → World → Prop} (hq : seqB ops = true) (hr : Rules X ops ops 0) (fin : ∀ a w, Inv X (fun j => decide (j < ops.length)) a w → Q .normal a w) :
    ∀ (m k : Nat), k + m = ops.length → ∀ a w, Inv X (fun j => decide (j < k)) a w → wpOps X.P ops.toArray Q (List.range' k m) a w := by
  intro m
  induction m with
  | zero =>
    intro k hk a w hi
    obtain rfl : k = ops.length := by omega
    exact fin a w hi
  | succ m ih =>
    intro k hk a w hi
    have hlt : k < ops.length := by omega
    rw [List.range'_succ, wpOps_cons]
    have ho : ops[k]? = some ops[k] := List.getElem?_eq_getElem hlt
    have hrk := hr.get ho
    rw [Nat.zero_add] at hrk
    refine rule_op ho hrk ⟨by simp, fun j hj => by simpa using pre_lt hq ho j hj, fun j hj => ?_, hi⟩ fun a' w' hi' => ih (k + 1) (by omega) a' w' ?_
    · obtain ⟨o, h1, h2⟩ := suc_spec hj
      have := pre_lt hq h1 k h2
      simp; omega
    · have : upd (fun j => decide (j < k)) k = fun j => decide (j < k + 1) := by
        funext j
        unfold upd
        by_cases e : j = k
        · subst e; simp
        · rw [if_neg e]
          show decide (j < k) = decide (j < k + 1)
          by_cases h : j < k
          · rw [decide_eq_true h, decide_eq_true (by omega)]
          · rw [decide_eq_false h, decide_eq_false (by omega)]
      rwa [this] at hi'

def cOf (listed : Array Bool) : Nat → Bool := fun i => listed.getD i false
theorem cOf_set {listed : Array Bool} {i : Nat} (h : i < listed.size) : cOf (listed.setIfInBounds i true) = upd (cOf listed) i := by
  funext j
  unfold cOf upd
  by_cases e : j = i
  · subst e; rw [if_pos rfl]; simp [h]
  · rw [if_neg e, getD_set_ne false (Ne.symm e)]
/-- how many have not come up -/
def left (listed : Array Bool) : Nat := listed.toList.countP (fun b => !b)
theorem left_set {listed : Array Bool} {i : Nat} (h : i < listed.size) (hf : listed.getD i true = false) : left (listed.setIfInBounds i true) + 1 = left listed := by
  unfold left
  have hg : listed.toList[i] = false := by simpa [h] using hf
  rw [Array.toList_setIfInBounds, List.countP_set (by simpa using h)]
  have : 0 < listed.toList.countP (fun b => !b) := by
    rw [List.countP_pos_iff]
    exact ⟨false, by rw [← hg]; exact List.getElem_mem _, rfl⟩
  rw [hg]
  simp only [Bool.not_false, if_true, Bool.not_true, Bool.false_eq_true, if_false]
  omega
theorem ready_lt {listed : Array Bool} (hs : listed.size = ops.length) {i : Nat} (h : listed.getD i true = false) : i < listed.size := by
  by_cases hh : i < listed.size
  · exact hh
  · simp [hh] at h
/-- where nothing may come up all has come up -/
theorem all_up (hq : seqB ops = true) {listed : Array Bool} (hs : listed.size = ops.length) (h : Region.ready .any ops.toArray listed = []) : ∀ i, i < ops.length → cOf listed i = true := by
  intro i
  induction i using Nat.strongRecOn with
  | ind i ih =>
    intro hi
    cases hc : cOf listed i with
    | true => rfl
    | false =>
      exfalso
      have hl : listed.getD i true = false := by
        unfold cOf at hc
        have : i < listed.size := by omega
        simpa [this] using hc
      have : i ∈ Region.ready .any ops.toArray listed := by
        rw [mem_ready]
        refine ⟨hl, ops[i], by simp [hi], fun e he hb => ?_⟩
        have hj : e.on ∈ preOf ops[i] := by
          unfold preOf
          rw [List.mem_map]
          exact ⟨e, by rw [List.mem_filter]; exact ⟨by simpa using he, hb⟩, rfl⟩
        have hlt := pre_lt hq (List.getElem?_eq_getElem hi) _ hj
        exact ih _ hlt (by omega)
      rw [h] at this
      cases this
theorem any_ok {Q : Exit → Act → World → Prop} (hq : seqB ops = true) (hr : Rules X ops ops 0) (fin : ∀ a w c, (∀ i, i < ops.length → c i = true) → Inv X c a w → Q .normal a w) :
    ∀ (fuel : Nat) (listed : Array Bool), listed.size = ops.length → (∀ i o, ops[i]? = some o → cOf listed i = true → ∀ j ∈ preOf o, cOf listed j = true) → left listed ≤ fuel → ∀ a w, Inv X (cOf listed) a w → wpAny X.P .any ops.toArray Q fuel listed a w := by
  intro fuel
  induction fuel with
  | zero =>
    intro listed hs hcl hle a w hi
    have hall : ∀ i, i < ops.length → cOf listed i = true := by
      intro i hlt
      cases hc : cOf listed i with
      | true => rfl
      | false =>
        exfalso
        have h2 : i < listed.size := by omega
        have : 0 < left listed := by
          unfold left
          rw [List.countP_pos_iff]
          exact ⟨false, by unfold cOf at hc; rw [← hc]; simp [h2], rfl⟩
        omega
    refine ⟨?_, fin a w _ hall hi⟩
    apply List.eq_nil_iff_forall_not_mem.2
    intro i hm
    rw [mem_ready] at hm
    have h2 := ready_lt (ops := ops) hs hm.1
    have := hall i (by omega)
    unfold cOf at this
    have h1 := hm.1
    simp [h2] at h1 this
    rw [h1] at this; cases this
  | succ fuel ih =>
    intro listed hs hcl hle a w hi
    refine ⟨fun hn => fin a w _ (all_up hq hs hn) hi, fun i hm => ?_⟩
    rw [mem_ready] at hm
    obtain ⟨h1, o, h2, h3⟩ := hm
    have ho : ops[i]? = some o := by simpa using h2
    have hlt := ready_lt (ops := ops) hs h1
    have hrk := hr.get ho
    rw [Nat.zero_add] at hrk
    have hme : cOf listed i = false := by unfold cOf; simpa [hlt] using h1
    have hpre : ∀ j ∈ preOf o, cOf listed j = true := by
      intro j hj
      unfold preOf at hj
      rw [List.mem_map] at hj
      obtain ⟨e, he, rfl⟩ := hj
      rw [List.mem_filter] at he
      exact h3 e (by simpa using he.1) he.2
    refine rule_op ho hrk ⟨hme, hpre, fun j hj => ?_, hi⟩ fun a' w' hi' => ih _ (by simp [hs]) ?_ ?_ a' w' (by rw [cOf_set hlt]; exact hi')
    · obtain ⟨oj, h4, h5⟩ := suc_spec hj
      cases hc : cOf listed j with
      | false => rfl
      | true =>
        have := hcl j oj h4 hc i h5
        rw [hme] at this; cases this
    · intro k ok hk hck j hj
      rw [cOf_set hlt] at hck ⊢
      unfold upd at hck ⊢
      by_cases e : j = i
      · rw [if_pos e]
      · rw [if_neg e]
        by_cases ek : k = i
        · subst ek
          rw [ho] at hk
          injection hk with hk
          subst hk
          exact hpre j hj
        · rw [if_neg ek] at hck
          exact hcl k ok hk hck j hj
    · have := left_set hlt h1
      omega

/-- what is known behind a region -/
def After (X : Cx) (a : Act) (w : World) : Prop := Base X.w0 X.N X.B a w ∧ (∀ f ∈ X.fs, f.holds a w) ∧ (∀ x ∈ X.rs, x.2.holds a w)
theorem region_ok {Q : Exit → Act → World → Prop} {id : Nat} {draw : Bool} (hm : X.P.follows .mixedOrders = true) (hq : (seqB ops && X.rs.all (fun x => decide (x.1 < ops.length))) = true) (hr : Rules X ops ops 0) {a : Act} {w : World}
    (hb : Base X.w0 X.N X.B a w) (hf : ∀ f ∈ X.fs, f.holds a w) (ho : ∀ x ∈ X.os, x.2.holds a w) (fin : ∀ a w, After X a w → Q .normal a w) : (Code.region id ops.toArray draw).wp X.P Q a w := by
  simp only [Bool.and_eq_true] at hq
  obtain ⟨hq, hrs⟩ := hq
  rw [List.all_eq_true] at hrs
  cases draw with
  | false =>
    refine wp_region ?_
    have := seq_ok (Q := Q) hq hr (fun a w hi => fin a w ⟨hi.1, hi.2.1, fun x hx => hi.2.2.2 x hx (by simpa using hrs x hx)⟩) ops.length 0 (by omega) a w ⟨hb, hf, fun x hx _ => ho x hx, fun x hx hc => by simp at hc⟩
    rw [List.range_eq_range']
    simpa using this
  | true =>
    refine wp_region_any hm ?_
    have h0 : cOf (Array.replicate ops.toArray.size false) = fun _ => false := by
      funext i
      unfold cOf
      by_cases h : i < ops.length <;> simp [h]
    refine any_ok (Q := Q) hq hr (fun a w c hc hi => fin a w ⟨hi.1, hi.2.1, fun x hx => hi.2.2.2 x hx (hc _ (by simpa using hrs x hx))⟩) ops.toArray.size _ (by simp) (fun i o _ hc => by rw [h0] at hc; cases hc) (by
      unfold left
      exact Nat.le_trans List.countP_le_length (by simp)) a _ ?_
    rw [h0]
    have e : Ext w { w with drawn := w.drawn + 1 } := (Ext.refl w).drew
    exact ⟨hb.ext e, fun f hx => fact_ext (hf f hx) e, fun x hx _ => fact_ext (ho x hx) e, fun x hx hc => by cases hc⟩
end
end Go.Proofs.Ytogodjiemgilaaa
