/- Part of the proof that a law returns true for all that comes in, and that what came in reads as it did. No condition. -/
import Derived.Laws.Bits64
import Derived.Test.YtapmngmpomhjmaaProg
import Derived.Lib.AppendZeros
import Derived.Lib.ConvBytes
import Derived.Test.YtapmngmpomhjmaaMgDagOnce0
/- The logic over objects: functions and calls. -/
namespace Go.Proofs.Ytapmngmpomhjmaa
open Go.RowKit
namespace O
/-- what several have, each apart -/
theorem AllS.split {Z : Foot} {w : World} : ∀ {Rs : List HA} {vs : List Value} {S : Foot}, AllS Z Rs vs w S →
    ∃ F : Nat → Foot, (∀ (j : Nat) (R : HA) (v : Value), Rs[j]? = some R → vs[j]? = some v → R.p Z v w (F j)) ∧ (∀ j k b, j ≠ k → F j b → ¬ F k b) ∧ (∀ j b, F j b → S b)
  | [], [], S, _ => ⟨fun _ _ => False, fun j _ _ h => by simp at h, fun _ _ _ _ h => h.elim, fun _ _ h => h.elim⟩
  | R :: Rs, v :: vs, S, ⟨S1, S2, e, d, h1, h2⟩ => by
    obtain ⟨F, f1, f2, f3⟩ := AllS.split h2
    refine ⟨fun j => match j with | 0 => S1 | j + 1 => F j, fun j R' v' hR hv => ?_, fun j k b hne hj hk => ?_, fun j b hj => ?_⟩
    · cases j with
      | zero => simp at hR hv; subst hR hv; exact h1
      | succ j => exact f1 j R' v' (by simpa using hR) (by simpa using hv)
    · cases j with
      | zero => cases k with
        | zero => exact hne rfl
        | succ k => exact d b hj (f3 k b hk)
      | succ j => cases k with
        | zero => exact d b hk (f3 j b hj)
        | succ k => exact f2 j k b (fun e => hne (by rw [e])) hj hk
    · cases j with
      | zero => exact (e b).2 (.inl hj)
      | succ j => exact (e b).2 (.inr (f3 j b hj))
  | [], _ :: _, _, h => h.elim
  | _ :: _, [], _, h => h.elim
theorem AllS.join {Z : Foot} {w : World} : ∀ {Rs : List HA} {vs : List Value} (F : Nat → Foot), vs.length = Rs.length → (∀ (j : Nat) (R : HA) (v : Value), Rs[j]? = some R → vs[j]? = some v → R.p Z v w (F j)) → (∀ j k b, j ≠ k → F j b → ¬ F k b) → AllS Z Rs vs w (fun b => ∃ j, j < Rs.length ∧ F j b)
  | [], [], F, _, _, _ => fun b ⟨j, hj, _⟩ => by simp at hj
  | R :: Rs, v :: vs, F, hl, h1, h2 => by
    refine ⟨F 0, fun b => ∃ j, j < Rs.length ∧ F (j + 1) b, fun b => ⟨fun ⟨j, hj, hb⟩ => ?_, fun hb => ?_⟩, fun b hb ⟨j, _, hj⟩ => h2 0 (j + 1) b (by omega) hb hj, h1 0 R v rfl rfl, AllS.join (fun j => F (j + 1)) (by simpa using hl) (fun j R' v' hR hv => h1 (j + 1) R' v' (by simpa using hR) (by simpa using hv)) fun j k b hne => h2 (j + 1) (k + 1) b (by omega)⟩
    · cases j with
      | zero => exact .inl hb
      | succ j => exact .inr ⟨j, by simpa using hj, hb⟩
    · rcases hb with hb | ⟨j, hj, hb⟩
      · exact ⟨0, by simp, hb⟩
      · exact ⟨j + 1, by simpa using hj, hb⟩
  | [], _ :: _, _, hl, _, _ => by simp at hl
  | _ :: _, [], _, hl, _, _ => by simp at hl

/-- how a call ends: with a value of its own, what it was handed as it is now; what it says is for good is new, or was handed to it -/
def postO (w : World) (Z S : Foot) (O' : List (Value × HA)) (R : HA) (e : Ending) (w' : World) : Prop :=
  ∃ (v : Value) (Z' S' T : Foot), e = .returned v ∧ (∀ b, Z b → Z' b) ∧ (∀ b, Z' b → Z b ∨ ((S b ∨ w.heap.size ≤ b) ∧ b < w'.heap.size)) ∧ AllS Z' (O'.map (·.2)) (O'.map (·.1)) w' S' ∧ R.p Z' v w' T ∧ (∀ b, S' b → ¬ T b) ∧
    (∀ b, S' b ∨ T b → (S b ∨ w.heap.size ≤ b) ∧ b < w'.heap.size ∧ ¬ Z' b) ∧ Turn S w w'
/-- a parameter: a value, something that is looked at, something that is handed over -/
inductive Par where
  | vp (x : VP)
  | bo (R : HA)
  | mv (R : HA)
def Par.mvR : Par → HA
  | .mv R => R
  | _ => HA.of VP.any
def Par.ok (Z Bf : Foot) (w : World) (v : Value) : Par → Prop
  | .vp x => x.p Z v w
  | .bo R => ∃ T : Foot, (∀ b, T b → Bf b) ∧ R.p Z v w T
  | .mv _ => True
/-- parameters qs; B is looked at; O is turned to O'; R is the result -/
def SpecO (P : Program) (f : FuncId) (qs : List Par) (B O O' : List (Value × HA)) (R : HA) : Prop :=
  ∀ (vs : Array Value) (w : World) (Z Bf S : Foot), vs.size = qs.length → (∀ (j : Nat) (q : Par), qs[j]? = some q → ∃ v, vs[j]? = some v ∧ q.ok Z Bf w v) → (∀ y ∈ B, ∃ T : Foot, (∀ b, T b → Bf b) ∧ y.2.p Z y.1 w T) →
    AllS Z (qs.map Par.mvR ++ O.map (·.2)) (vs.toList ++ O.map (·.1)) w S → (∀ b, Z b → b < w.heap.size) → (∀ b, Bf b → b < w.heap.size) → (∀ b, S b → b < w.heap.size ∧ ¬ Z b ∧ ¬ Bf b) → Calls P f vs w (postO w Z S O' R)

/-! ### a call -/
section
variable {X : Cx} {i : Nat} {pre suc : List Nat}
def Vr (X : Cx) (i : Nat) (pre suc : List Nat) (v : Value) (x : VP) : Prop := ∀ c γ a w, Sit X i pre suc c γ a w → x.p γ.Z v w
/-- what a call looks at, when il is used up -/
def BrwV (X : Cx) (il : List Nat) (c : Nat → Bool) (γ : Gho) (w : World) (v : Value) (R : HA) : Prop := ∃ S : Foot, R.p γ.Z v w S ∧ ∀ b, S b → X.Bf b ∨ ∃ k, k ∉ il ∧ γ.σ k b ∧ ∃ r R, Has X c (.own k r R)
/-- an argument; id: the blocks that it hands over -/
def Pa (X : Cx) (i : Nat) (pre suc : List Nat) (il : List Nat) (y : Operand) (q : Par) (id : Option Nat) : Prop := match q with
  | .vp x => Ar X i pre suc y x.p ∧ id = none
  | .bo R => (∀ c γ a w, Sit X i pre suc c γ a w → BrwV X il c γ w (a.eval y) R) ∧ id = none
  | .mv R => Mv X i pre suc y R id
theorem pa_vp {il : List Nat} {y : Operand} {x : VP} (h : Ar X i pre suc y x.p) : Pa X i pre suc il y (.vp x) none := ⟨h, rfl⟩
theorem pa_tmp {il : List Nat} {k id : Nat} {R : HA} (h : Av X i pre suc (.own id (.tmp k) R)) (hk : il.contains id = false) : Pa X i pre suc il (.tmp k) (.bo R) none := ⟨fun c γ a w s => by
  obtain ⟨v, h1, h2⟩ := h.h s
  rw [eval_tmp h1]
  exact ⟨γ.σ id, h2, fun b hb => .inr ⟨id, by simpa using hk, hb, _, _, h c γ a w s⟩⟩, rfl⟩
theorem pa_own {il : List Nat} {y : Operand} {id : Nat} {v : Value} {nu one : Bool} {R : HA} (h : Av X i pre suc (.own id (.val v) R)) (hk : il.contains id = false) (hy : Ar X i pre suc y (VP.eq v nu one).p) : Pa X i pre suc il y (.bo R) none := ⟨fun c γ a w s => by
  obtain ⟨u, h1, h2⟩ := h.h s
  have h1 : u = v := h1
  subst h1
  rw [(hy c γ a w s).1]
  exact ⟨γ.σ id, h2, fun b hb => .inr ⟨id, by simpa using hk, hb, _, _, h c γ a w s⟩⟩, rfl⟩
theorem pa_bor {il : List Nat} {y : Operand} {v : Value} {nu one : Bool} {R : HA} (h : Av X i pre suc (.bor (.val v) R)) (hy : Ar X i pre suc y (VP.eq v nu one).p) : Pa X i pre suc il y (.bo R) none := ⟨fun c γ a w s => by
  obtain ⟨u, S, h1, h2, h3⟩ := h.h s
  have h1 : u = v := h1
  subst h1
  rw [(hy c γ a w s).1]
  exact ⟨S, h3, fun b hb => .inl (h2 b hb)⟩, rfl⟩
/-- a value that has no blocks, looked at -/
theorem pa_look {il : List Nat} {y : Operand} {R : HA} (h : ∀ c γ a w, Sit X i pre suc c γ a w → ∃ S : Foot, R.p γ.Z (a.eval y) w S ∧ ∀ b, ¬ S b) : Pa X i pre suc il y (.bo R) none := ⟨fun c γ a w s => by
  obtain ⟨S, h1, h2⟩ := h c γ a w s
  exact ⟨S, h1, fun b hb => (h2 b hb).elim⟩, rfl⟩
def Ars (X : Cx) (i : Nat) (pre suc : List Nat) (il : List Nat) : List Operand → List Value → List Par → List Nat → Prop
  | [], [], [], al => al = []
  | [], c :: cs, q :: qs, al => (∃ x, q = .vp x ∧ Vr X i pre suc c x) ∧ Ars X i pre suc il [] cs qs al
  | o :: os, cs, q :: qs, al => ∃ id al', al = id.toList ++ al' ∧ Pa X i pre suc il o q id ∧ Ars X i pre suc il os cs qs al'
  | _, _, _, _ => False
theorem ars_nil {il : List Nat} : Ars X i pre suc il [] [] [] [] := rfl
theorem ars_cap {il : List Nat} {c : Value} {cs : List Value} {x : VP} {qs : List Par} (h : Vr X i pre suc c x) (k : Ars X i pre suc il [] cs qs []) : Ars X i pre suc il [] (c :: cs) (.vp x :: qs) [] := ⟨⟨x, rfl, h⟩, k⟩
theorem ars_cons {il : List Nat} {o : Operand} {os : List Operand} {cs : List Value} {q : Par} {qs : List Par} {al : List Nat} (h : Pa X i pre suc il o q none) (k : Ars X i pre suc il os cs qs al) : Ars X i pre suc il (o :: os) cs (q :: qs) al := ⟨none, al, rfl, h, k⟩
theorem Ars.len {il : List Nat} : ∀ {os : List Operand} {cs : List Value} {qs : List Par} {al : List Nat}, Ars X i pre suc il os cs qs al → os.length + cs.length = qs.length
  | [], [], [], _, _ => rfl
  | [], _ :: _, _ :: _, _, h => by have := Ars.len h.2; simp at this ⊢; omega
  | _ :: _, _, _ :: _, _, ⟨_, _, _, _, h⟩ => by have := Ars.len h; simp at this ⊢; omega
  | [], [], _ :: _, _, h => h.elim
  | [], _ :: _, [], _, h => h.elim
  | _ :: _, _, [], _, h => h.elim
theorem Ars.ok {il : List Nat} {c : Nat → Bool} {γ : Gho} {a : Act} {w : World} (s : Sit X i pre suc c γ a w) : ∀ {os : List Operand} {cs : List Value} {qs : List Par} {al : List Nat}, Ars X i pre suc il os cs qs al → ∀ (j : Nat) (q : Par), qs[j]? = some q → ∃ v, (os.map a.eval ++ cs)[j]? = some v ∧ q.ok γ.Z (fun b => X.Bf b ∨ ∃ k, k ∉ il ∧ γ.σ k b ∧ ∃ r R, Has X c (.own k r R)) w v
  | [], [], [], _, _, j, q, hq => by simp at hq
  | [], cv :: cs, p :: qs, _, ⟨⟨x, e, h1⟩, h⟩, j, q, hq => by
    cases j with
    | zero => simp at hq; subst hq e; exact ⟨cv, rfl, h1 c γ a w s⟩
    | succ j => simpa using Ars.ok s h j q (by simpa using hq)
  | o :: os, cs, p :: qs, _, ⟨id, al', _, h1, h⟩, j, q, hq => by
    cases j with
    | zero =>
      simp at hq; subst hq
      refine ⟨a.eval o, rfl, ?_⟩
      cases p with
      | vp x => exact h1.1 c γ a w s
      | bo R => obtain ⟨S, h2, h3⟩ := h1.1 c γ a w s; exact ⟨S, h3, h2⟩
      | mv R => trivial
    | succ j => simpa using Ars.ok s h j q (by simpa using hq)
  | [], [], _ :: _, _, h, _, _, _ => h.elim
  | [], _ :: _, [], _, h, _, _, _ => h.elim
  | _ :: _, _, [], _, h, _, _, _ => h.elim
theorem Ars.mvs {il : List Nat} {c : Nat → Bool} {γ : Gho} {a : Act} {w : World} (s : Sit X i pre suc c γ a w) : ∀ {os : List Operand} {cs : List Value} {qs : List Par} {al : List Nat}, Ars X i pre suc il os cs qs al → al.Nodup → ∃ S, AllS γ.Z (qs.map Par.mvR) (os.map a.eval ++ cs) w S ∧ ∀ b, S b → ∃ k ∈ al, γ.σ k b ∧ ∃ r R, Has X c (.own k r R)
  | [], [], [], _, _, _ => ⟨fun _ => False, fun _ h => h, fun _ h => h.elim⟩
  | [], cv :: cs, p :: qs, _, ⟨⟨x, e, _⟩, h⟩, hn => by
    obtain ⟨S, h1, h2⟩ := Ars.mvs s h hn
    subst e
    exact ⟨S, ⟨fun _ => False, S, fun b => by simp, fun _ h => h.elim, ⟨trivial, fun _ h => h⟩, h1⟩, h2⟩
  | o :: os, cs, p :: qs, al, ⟨id, al', e, h1, h⟩, hn => by
    subst e
    rw [List.nodup_append] at hn
    obtain ⟨S, h2, h3⟩ := Ars.mvs s h hn.2.1
    have noth : p.mvR = HA.of VP.any → ∃ S', AllS γ.Z (p.mvR :: qs.map Par.mvR) (a.eval o :: (os.map a.eval ++ cs)) w S' ∧ ∀ b, S' b → ∃ k ∈ id.toList ++ al', γ.σ k b ∧ ∃ r R, Has X c (.own k r R) := fun e => by
      rw [e]
      exact ⟨S, ⟨fun _ => False, S, fun b => by simp, fun _ h => h.elim, ⟨trivial, fun _ h => h⟩, h2⟩, fun b hb => by
        obtain ⟨k, hk, h⟩ := h3 b hb
        exact ⟨k, List.mem_append_right _ hk, h⟩⟩
    cases p with
    | vp x => exact noth rfl
    | bo R => exact noth rfl
    | mv R =>
      obtain ⟨S1, k1, k2⟩ := h1 c γ a w s
      refine ⟨fun b => S1 b ∨ S b, ⟨S1, S, fun b => Iff.rfl, fun b hb hb' => ?_, k1, h2⟩, fun b hb => ?_⟩
      · obtain ⟨k, hk, m1, r1, R1, m2⟩ := k2 b hb
        obtain ⟨k', hk', m3, r2, R2, m4⟩ := h3 b hb'
        exact s.g.sep k r1 R1 k' r2 R2 m2 m4 (hn.2.2 k (by simpa [Option.mem_toList] using hk) k' hk') b m1 m3
      · rcases hb with hb | hb
        · obtain ⟨k, hk, h⟩ := k2 b hb
          exact ⟨k, List.mem_append_left _ (by simpa [Option.mem_toList] using hk), h⟩
        · obtain ⟨k, hk, h⟩ := h3 b hb
          exact ⟨k, List.mem_append_right _ hk, h⟩
  | [], [], _ :: _, _, h, _ => h.elim
  | [], _ :: _, [], _, h, _ => h.elim
  | _ :: _, _, [], _, h, _ => h.elim
def Owns (X : Cx) (i : Nat) (pre suc : List Nat) : List Nat → List (Value × HA) → Prop
  | [], [] => True
  | k :: ks, y :: ys => Av X i pre suc (.own k (.val y.1) y.2) ∧ Owns X i pre suc ks ys
  | _, _ => False
theorem Owns.len : ∀ {il : List Nat} {O : List (Value × HA)}, Owns X i pre suc il O → il.length = O.length
  | [], [], _ => rfl
  | _ :: _, _ :: _, h => by simp [Owns.len h.2]
  | [], _ :: _, h => h.elim
  | _ :: _, [], h => h.elim
theorem Owns.get : ∀ {il : List Nat} {O : List (Value × HA)}, Owns X i pre suc il O → ∀ {j k : Nat} {y : Value × HA}, il[j]? = some k → O[j]? = some y → Av X i pre suc (.own k (.val y.1) y.2)
  | _ :: _, _ :: _, h, 0, k, y, h1, h2 => by simp at h1 h2; subst h1 h2; exact h.1
  | _ :: _, _ :: _, h, j + 1, k, y, h1, h2 => Owns.get h.2 (j := j) (by simpa using h1) (by simpa using h2)
  | [], [], _, _, _, _, h1, _ => by simp at h1
  | [], _ :: _, h, _, _, _, _, _ => h.elim
  | _ :: _, [], h, _, _, _, _, _ => h.elim
/-- what a call looks at -/
def Brw (X : Cx) (i : Nat) (pre suc : List Nat) (il : List Nat) (y : Value × HA) : Prop := ∀ c γ a w, Sit X i pre suc c γ a w → ∃ S : Foot, y.2.p γ.Z y.1 w S ∧ ∀ b, S b → X.Bf b ∨ ∃ k, k ∉ il ∧ γ.σ k b ∧ ∃ r R, Has X c (.own k r R)
theorem brw_own {il : List Nat} {k : Nat} {v : Value} {R : HA} (h : Av X i pre suc (.own k (.val v) R)) (hk : il.contains k = false) : Brw X i pre suc il (v, R) := fun c γ a w s => by
  obtain ⟨u, h1, h2⟩ := h.h s
  have h1 : u = v := h1
  subst h1
  exact ⟨γ.σ k, h2, fun b hb => .inr ⟨k, by simpa using hk, hb, _, _, h c γ a w s⟩⟩
theorem brw_bor {il : List Nat} {v : Value} {R : HA} (h : Av X i pre suc (.bor (.val v) R)) : Brw X i pre suc il (v, R) := fun c γ a w s => by
  obtain ⟨u, S, h1, h2, h3⟩ := h.h s
  have h1 : u = v := h1
  subst h1
  exact ⟨S, h3, fun b hb => .inl (h2 b hb)⟩
def Brws (X : Cx) (i : Nat) (pre suc : List Nat) (il : List Nat) : List (Value × HA) → Prop
  | [] => True
  | y :: ys => Brw X i pre suc il y ∧ Brws X i pre suc il ys
theorem Brws.get {il : List Nat} : ∀ {B : List (Value × HA)}, Brws X i pre suc il B → ∀ y ∈ B, Brw X i pre suc il y
  | _ :: _, h, y, hy => by
    rcases List.mem_cons.1 hy with rfl | hy
    · exact h.1
    · exact Brws.get h.2 y hy
  | [], _, y, hy => by cases hy
def zipOwn : List Nat → List (Value × HA) → List Fact
  | k :: ks, y :: ys => .own k (.val y.1) y.2 :: zipOwn ks ys
  | _, _ => []
theorem zipOwn_mem : ∀ {il : List Nat} {O : List (Value × HA)} {f : Fact}, f ∈ zipOwn il O → ∃ (j k : Nat) (y : Value × HA), il[j]? = some k ∧ O[j]? = some y ∧ f = .own k (.val y.1) y.2
  | k :: ks, y :: ys, f, h => by
    unfold zipOwn at h
    rcases List.mem_cons.1 h with rfl | h
    · exact ⟨0, k, y, rfl, rfl, rfl⟩
    · obtain ⟨j, k', y', h1, h2, h3⟩ := zipOwn_mem h
      exact ⟨j + 1, k', y', by simpa using h1, by simpa using h2, h3⟩
  | [], _, _, h => by simp [zipOwn] at h
  | _ :: _, [], _, h => by simp [zipOwn] at h
theorem run_clo {P : Program} {f : FuncId} {cs : List Value} {o : Oper} {y : Operand} {ags : Array Operand} {ts : Array TypeId} {a : Act} {w : World} (hop : o.op = .call { callee := .value y, args := ags, argTypes := ts }) (hb : hasBody P f = true) (ey : a.eval y = .func (.func f) #[] cs.toArray) :
    (execOp a.eval o).run P w = .ok (.enter f (ags.map a.eval ++ cs.toArray)) w := by
  unfold hasBody at hb
  unfold execOp; rw [hop]
  cases hf : P.funcs[f]? with
  | none => rw [hf] at hb; cases hb
  | some fn =>
    rw [hf] at hb
    simp only [Bool.and_eq_true, Bool.not_eq_true', beq_eq_false_iff_ne, ne_eq, Option.isSome_iff_ne_none] at hb
    simp [resolve, ey, Deferred.ofValue, invoke, callFunc, hf, hb.1, hb.2]
theorem ar_clo {f : FuncId} : Ar X i pre suc (.func f) (VP.clo f []).p := fun _ _ _ _ _ => rfl
/-- what a call lays: in d its result (if it has one), and what it turned -/
def callRes (d : Option Nat) (id : Nat) (R : HA) (il : List Nat) (O' : List (Value × HA)) : List Fact := (match d with | some d => [Fact.own id (.tmp d) R] | none => []) ++ zipOwn il O'
theorem does_callG {o : Oper} {d : Option Nat} {f : FuncId} {cs : List Value} {y : Operand} {ags : Array Operand} {ts : Array TypeId} {qs : List Par} {B O O' : List (Value × HA)} {R : HA} (al il il' : List Nat) (id : Nat) (ri : List Nat) (hs : SpecO X.P f qs B O O' R)
    (hop : o.op = .call { callee := .value y, args := ags, argTypes := ts }) (hbd : hasBody X.P f = true) (hd : o.dst = d) (hlt : d.all (fun d => decide (d < X.N)) = true) (hc : chkM X i pre suc d (id :: ((al ++ il) ++ il')) = true) (hnd : (decide ((al ++ il).Nodup) && decide ((id :: il').Nodup) && (il'.length == O'.length)) = true)
    (hr : ri.map (fun n => (callRes d id R il' O')[n]?) = (resOf X i).map some)
    (hy : Ar X i pre suc y (VP.clo f cs).p) (h : Ars X i pre suc (al ++ il) ags.toList cs qs al) (hB : Brws X i pre suc (al ++ il) B) (hO : Owns X i pre suc il O) : Does X i pre suc o := by
  intro c γ a w s Q K hK
  simp only [Bool.and_eq_true, decide_eq_true_eq, beq_iff_eq] at hnd
  obtain ⟨⟨n1, n2⟩, n3⟩ := hnd
  have n1' := List.nodup_append.1 n1
  have ey : a.eval y = .func (.func f) #[] cs.toArray := hy c γ a w s
  unfold Oper.wp
  rw [run_clo hop hbd ey]
  show Calls X.P f (ags.map a.eval ++ cs.toArray) w _
  -- what is handed over
  have hOl := hO.len
  have hS : AllS γ.Z (O.map (·.2)) (O.map (·.1)) w (fun b => ∃ j, j < (O.map (·.2)).length ∧ γ.σ (il.getD j 0) b) := by
    have : ∃ G : Nat → Foot, (∀ j, j < O.length → G j = γ.σ (il.getD j 0)) ∧ (∀ j k b, j ≠ k → G j b → ¬ G k b) := by
      refine ⟨fun j b => j < O.length ∧ γ.σ (il.getD j 0) b, fun j hj => funext fun b => propext ⟨fun h => h.2, fun h => ⟨hj, h⟩⟩, fun j k b hne hj hk => ?_⟩
      have e1 : il[j]? = some (il.getD j 0) := by rw [List.getD_eq_getElem?_getD, List.getElem?_eq_getElem (by omega)]; rfl
      have e2 : il[k]? = some (il.getD k 0) := by rw [List.getD_eq_getElem?_getD, List.getElem?_eq_getElem (by omega)]; rfl
      refine s.g.sep _ _ _ _ _ _ (hO.get e1 (List.getElem?_eq_getElem hj.1) c γ a w s) (hO.get e2 (List.getElem?_eq_getElem hk.1) c γ a w s) (fun e => hne ?_) b hj.2 hk.2
      have h3 : j < il.length := by omega
      rw [e, ← e2] at e1
      exact (List.getElem?_inj h3 n1'.2.1).1 e1
    obtain ⟨G, g1, g2⟩ := this
    have := AllS.join (Z := γ.Z) (w := w) (Rs := O.map (·.2)) (vs := O.map (·.1)) G (by simp) (fun j R' v hR hv => ?_) g2
    · refine this.subS fun b => ⟨fun ⟨j, hj, hb⟩ => ⟨j, hj, ?_⟩, fun ⟨j, hj, hb⟩ => ⟨j, hj, ?_⟩⟩
      · rw [← g1 j (by simpa using hj)]; exact hb
      · rw [g1 j (by simpa using hj)]; exact hb
    · rw [List.getElem?_map, Option.map_eq_some_iff] at hR hv
      obtain ⟨y1, hy1, rfl⟩ := hR
      obtain ⟨y2, hy2, rfl⟩ := hv
      rw [hy1] at hy2
      injection hy2 with hy2
      subst hy2
      have hj := (List.getElem?_eq_some_iff.1 hy1).1
      have e1 : il[j]? = some (il.getD j 0) := by rw [List.getD_eq_getElem?_getD, List.getElem?_eq_getElem (by omega)]; rfl
      obtain ⟨u, h1, h2⟩ := (hO.get e1 hy1).h s
      have h1 : u = y1.1 := h1
      subst h1
      rw [g1 j hj]; exact h2
  have hSk : ∀ b, (∃ j, j < (O.map (·.2)).length ∧ γ.σ (il.getD j 0) b) → ∃ k ∈ il, γ.σ k b ∧ ∃ r R, Has X c (.own k r R) := fun b ⟨j, hj, hb⟩ => by
    have hj : j < O.length := by simpa using hj
    have e1 : il[j]? = some (il.getD j 0) := by rw [List.getD_eq_getElem?_getD, List.getElem?_eq_getElem (by omega)]; rfl
    exact ⟨_, List.mem_of_getElem? e1, hb, _, _, hO.get e1 (List.getElem?_eq_getElem hj) c γ a w s⟩
  obtain ⟨SA, a1, a2⟩ := h.mvs s n1'.1
  have hall := AllS.app a1 hS fun b hb hb' => by
    obtain ⟨k, hk, m1, r1, R1, m2⟩ := a2 b hb
    obtain ⟨k', hk', m3, r2, R2, m4⟩ := hSk b hb'
    exact s.g.sep k r1 R1 k' r2 R2 m2 m4 (n1'.2.2 k hk k' hk') b m1 m3
  have hSk2 : ∀ b, (SA b ∨ ∃ j, j < (O.map (·.2)).length ∧ γ.σ (il.getD j 0) b) → ∃ k ∈ al ++ il, γ.σ k b ∧ ∃ r R, Has X c (.own k r R) := fun b hb => by
    rcases hb with hb | hb
    · obtain ⟨k, hk, h⟩ := a2 b hb; exact ⟨k, List.mem_append_left _ hk, h⟩
    · obtain ⟨k, hk, h⟩ := hSk b hb; exact ⟨k, List.mem_append_right _ hk, h⟩
  generalize hSd : (fun b => SA b ∨ ∃ j, j < (O.map (·.2)).length ∧ γ.σ (il.getD j 0) b) = S at hall
  have hSk' : ∀ b, S b → ∃ k ∈ al ++ il, γ.σ k b ∧ ∃ r R, Has X c (.own k r R) := fun b hb => hSk2 b (by rw [← hSd] at hb; exact hb)
  have eargs : (ags.map a.eval ++ cs.toArray).toList = ags.toList.map a.eval ++ cs := by simp
  refine (hs _ w γ.Z (fun b => X.Bf b ∨ ∃ k, k ∉ al ++ il ∧ γ.σ k b ∧ ∃ r R, Has X c (.own k r R)) S ?_ (fun j q hj => ?_) (fun y hy => ?_) (by rw [eargs]; exact hall) (fun b hb => (s.g.zof b hb).1) (fun b hb => ?_) (fun b hb => ?_)).mono ?_
  · have := h.len
    simpa using this
  · obtain ⟨v, h1, h2⟩ := h.ok s j q hj
    refine ⟨v, ?_, h2⟩
    rw [← Array.getElem?_toList, eargs]; exact h1
  · obtain ⟨T, h1, h2⟩ := hB.get y hy c γ a w s
    exact ⟨T, h2, h1⟩
  · rcases hb with hb | ⟨k, _, hb, r, R', h1⟩
    · exact Nat.lt_of_lt_of_le (s.g.ok.b b hb) s.g.turn.size
    · exact (s.g.bnd k r R' h1 b hb).1
  · obtain ⟨k, hk, h1, r, R', h2⟩ := hSk' b hb
    have h3 := s.g.bnd k r R' h2 b h1
    refine ⟨h3.1, h3.2.2, fun h4 => ?_⟩
    rcases h4 with h4 | ⟨k', hk', h4, r'', R'', h5⟩
    · rcases h3.2.1 with h | h
      · have := s.g.ok.b b h4
        have this : b < X.w0.heap.size := this
        have h : X.w0.heap.size ≤ b := h
        omega
      · exact (s.g.ok.s b h).2.2 h4
    · exact s.g.sep k r R' k' r'' R'' h2 h5 (fun e => hk' (e ▸ hk)) b h1 h4
  · rintro e w' ⟨v, Z', S', T, rfl, z1, z2, p1, p2, p3, p4, t⟩
    show K (a.put o.dst v) w'
    rw [hd]
    obtain ⟨G, g1, g2, g3⟩ := p1.split
    have hres : ∀ f ∈ resOf X i, f ∈ callRes d id R il' O' := fun f hf => by
      have : some f ∈ ri.map (fun n => (callRes d id R il' O')[n]?) := by rw [hr]; exact List.mem_map.2 ⟨f, hf, rfl⟩
      obtain ⟨n, _, hn⟩ := List.mem_map.1 this
      exact List.mem_of_getElem? hn
    have hnd2 := List.nodup_cons.1 n2
    let σ' : Nat → Foot := fun k => if k = id then T else if k ∈ il' then G (il'.idxOf k) else γ.σ k
    have s1 : σ' id = T := if_pos rfl
    have s2 : ∀ {j k : Nat}, il'[j]? = some k → σ' k = G j := fun {j k} hk => by
      have hm := List.mem_of_getElem? hk
      have hne : k ≠ id := fun e => hnd2.1 (e ▸ hm)
      show (if k = id then T else if k ∈ il' then G (il'.idxOf k) else γ.σ k) = G j
      rw [if_neg hne, if_pos hm]
      obtain ⟨hj, rfl⟩ := List.getElem?_eq_some_iff.1 hk
      rw [hnd2.2.idxOf_getElem]
    have hpos : ∀ {f : Fact}, f ∈ callRes d id R il' O' → (∃ d', d = some d' ∧ f = .own id (.tmp d') R) ∨ ∃ (j k : Nat) (y : Value × HA), il'[j]? = some k ∧ O'[j]? = some y ∧ f = .own k (.val y.1) y.2 := fun {f} hf => by
      unfold callRes at hf
      rw [List.mem_append] at hf
      rcases hf with hf | hf
      · cases d with
        | none => cases hf
        | some d => rw [List.mem_singleton] at hf; exact .inl ⟨d, rfl, hf⟩
      · exact .inr (zipOwn_mem hf)
    have hfoot : ∀ {k : Nat} {r : Ref} {R' : HA}, Fact.own k r R' ∈ resOf X i → (k = id ∧ ∀ b, σ' k b → T b) ∨ ∃ j, il'[j]? = some k ∧ ∀ b, σ' k b → G j b := fun {k r R'} hf => by
      rcases hpos (hres _ hf) with ⟨d', _, e⟩ | ⟨j, k', y', h1, h2, e⟩
      · injection e with e; subst e; exact .inl ⟨rfl, fun b hb => by rw [s1] at hb; exact hb⟩
      · injection e with e; subst e; exact .inr ⟨j, h1, fun b hb => by rw [s2 h1] at hb; exact hb⟩
    refine hK ⟨σ', Z'⟩ _ _ (good_step (γ := γ) (γ' := ⟨σ', Z'⟩) s hc S (fun b hb => ?_) (by rw [put_size]; exact s.g.sz) (by rw [put_defers']; exact s.g.df) t (fun f hf w h => ?_) z1 z2 (fun k hk => ?_) (fun f hf => ?_) (fun k r R' hf b hb => ?_) (fun k r R' k' r' R'' hf hf' hne b hb hb' => ?_))
    · obtain ⟨k, hk, h1, h2⟩ := hSk' b hb
      exact ⟨k, List.mem_cons_of_mem _ (List.mem_append_left _ hk), h1, h2⟩
    · cases d with
      | none => exact h
      | some d => exact fact_put h (by simpa using hf)
    · simp only [List.mem_cons, List.mem_append, not_or] at hk
      show (if k = id then T else if k ∈ il' then G (il'.idxOf k) else γ.σ k) = γ.σ k
      rw [if_neg hk.1, if_neg hk.2.2]
    · rcases hpos (hres f hf) with ⟨d', rfl, rfl⟩ | ⟨j, k, y', h1, h2, rfl⟩
      · refine ⟨v, put_eq v ?_, by show R.p Z' v w' (σ' id); rw [s1]; exact p2⟩
        rw [s.g.sz]
        simpa using hlt
      · refine ⟨y'.1, rfl, ?_⟩
        show y'.2.p Z' y'.1 w' (σ' k)
        rw [s2 h1]
        exact g1 j y'.2 y'.1 (by rw [List.getElem?_map, h2]; rfl) (by rw [List.getElem?_map, h2]; rfl)
    · rcases hfoot hf with ⟨_, h1⟩ | ⟨j, _, h1⟩
      · exact p4 b (.inr (h1 b hb))
      · exact p4 b (.inl (g3 j b (h1 b hb)))
    · rcases hfoot hf with ⟨e1, h1⟩ | ⟨j, e1, h1⟩ <;> rcases hfoot hf' with ⟨e2, h2⟩ | ⟨j', e2, h2⟩
      · exact hne (e1.trans e2.symm)
      · exact p3 b (g3 j' b (h2 b hb')) (h1 b hb)
      · exact p3 b (g3 j b (h1 b hb)) (h2 b hb')
      · refine g2 j j' b (fun e => hne ?_) (h1 b hb) (h2 b hb')
        subst e
        rw [e1] at e2; injection e2
/-- a call that turns nothing -/
theorem does_call {o : Oper} {d : Nat} {f : FuncId} {cs : List Value} {y : Operand} {ags : Array Operand} {ts : Array TypeId} {qs : List Par} {B : List (Value × HA)} {x : VP} (hs : SpecO X.P f qs B [] [] (HA.of x))
    (hz : ∀ (Z Z' : Foot) (v : Value) (w : World), x.p Z v w → x.p Z' v w)
    (hop : o.op = .call { callee := .value y, args := ags, argTypes := ts }) (hbd : hasBody X.P f = true) (hd : o.dst = some d) (hlt : decide (d < X.N) = true) (hc : chk X i pre suc d = true)
    (hr : resOf X i = [.slot d x])
    (hy : Ar X i pre suc y (VP.clo f cs).p) (h : Ars X i pre suc [] ags.toList cs qs []) (hB : Brws X i pre suc [] B) : Does X i pre suc o :=
  does_val hd hlt hc hr rfl fun c γ a w s Q K hK => by
    have ey : a.eval y = .func (.func f) #[] cs.toArray := hy c γ a w s
    unfold Oper.wp
    rw [run_clo hop hbd ey]
    show Calls X.P f (ags.map a.eval ++ cs.toArray) w _
    have eargs : (ags.map a.eval ++ cs.toArray).toList = ags.toList.map a.eval ++ cs := by simp
    obtain ⟨SA, a1, a2⟩ := h.mvs s List.nodup_nil
    have hno : ∀ b, ¬ SA b := fun b hb => by obtain ⟨k, hk, _⟩ := a2 b hb; cases hk
    refine (hs _ w γ.Z (fun b => X.Bf b ∨ ∃ k, k ∉ [] ∧ γ.σ k b ∧ ∃ r R, Has X c (.own k r R)) SA ?_ (fun j q hj => ?_) (fun y hy => ?_) (by rw [eargs]; simpa using a1) (fun b hb => (s.g.zof b hb).1) (fun b hb => ?_) (fun b hb => (hno b hb).elim)).mono ?_
    · have := h.len
      simpa using this
    · obtain ⟨v, h1, h2⟩ := h.ok s j q hj
      refine ⟨v, ?_, h2⟩
      rw [← Array.getElem?_toList, eargs]; exact h1
    · obtain ⟨T, h1, h2⟩ := hB.get y hy c γ a w s
      exact ⟨T, h2, h1⟩
    · rcases hb with hb | ⟨k, _, hb, r, R', h1⟩
      · exact Nat.lt_of_lt_of_le (s.g.ok.b b hb) s.g.turn.size
      · exact (s.g.bnd k r R' h1 b hb).1
    · rintro e w' ⟨v, Z', S', T, rfl, z1, z2, p1, p2, p3, p4, t⟩
      show K (a.put o.dst v) w'
      rw [hd]
      exact hK v w' (t.to_ext hno) (slot_put s.g.sz hlt (hz Z' γ.Z v w' p2.1))
end

/-! ### a function -/
def Par.fact (k : Nat) : Par → Fact
  | .vp x => .slot k x
  | .bo R => .bor (.tmp k) R
  | .mv R => .own (1000 + k) (.tmp k) R
def paramFacts : List Par → Nat → List Fact
  | [], _ => []
  | x :: xs, k => x.fact k :: paramFacts xs (k + 1)
theorem paramFacts_mem : ∀ {xs : List Par} {k : Nat} {f : Fact}, f ∈ paramFacts xs k → ∃ (j : Nat) (x : Par), xs[j]? = some x ∧ f = x.fact (k + j)
  | x :: xs, k, f, h => by
    simp only [paramFacts, List.mem_cons] at h
    rcases h with rfl | h
    · exact ⟨0, x, rfl, rfl⟩
    · obtain ⟨j, y, h1, h2⟩ := paramFacts_mem h
      exact ⟨j + 1, y, by simpa using h1, by rw [h2, show k + 1 + j = k + (j + 1) by omega]⟩
def ownFacts : List (Value × HA) → Nat → List Fact
  | [], _ => []
  | y :: ys, k => .own k (.val y.1) y.2 :: ownFacts ys (k + 1)
theorem ownFacts_mem : ∀ {O : List (Value × HA)} {k : Nat} {f : Fact}, f ∈ ownFacts O k → ∃ (j : Nat) (y : Value × HA), O[j]? = some y ∧ f = .own (k + j) (.val y.1) y.2
  | x :: xs, k, f, h => by
    simp only [ownFacts, List.mem_cons] at h
    rcases h with rfl | h
    · exact ⟨0, x, rfl, rfl⟩
    · obtain ⟨j, y, h1, h2⟩ := ownFacts_mem h
      exact ⟨j + 1, y, by simpa using h1, by rw [h2]; congr 1; omega⟩
def borFacts (B : List (Value × HA)) : List Fact := B.map fun y => .bor (.val y.1) y.2
def initFacts (qs : List Par) (B O : List (Value × HA)) : List Fact := paramFacts qs 0 ++ (ownFacts O 0 ++ borFacts B)
theorem spec_of {P : Program} {f : FuncId} {fn : Func} {c : Code} {qs : List Par} {B O O' : List (Value × HA)} {R : HA} (N : Nat) (hf : P.funcs[f]? = some fn) (hc : fn.body = some c) (hN : fn.ntmps = N) (hx : (decide (qs.length ≤ N) && decide (O.length < 1000)) = true)
    (h : ∀ w0 S0 Z0 Bf, T ⟨P, w0, S0, Z0, Bf, N⟩ (initFacts qs B O) c (bodyPost P fn (postO w0 Z0 S0 O' R))) : SpecO P f qs B O O' R := by
  intro vs w Z Bf S hs hv hB hO hz hb hS
  simp only [Bool.and_eq_true, decide_eq_true_eq] at hx
  obtain ⟨G, g1, g2, g3⟩ := hO.split
  have hvl : vs.toList.length = qs.length := by simpa using hs
  let pos : Nat → Nat := fun k => if k < 1000 then qs.length + k else k - 1000
  have own : ∀ {k : Nat} {r : Ref} {R : HA}, Fact.own k r R ∈ initFacts qs B O → (k < O.length ∧ k < 1000) ∨ (1000 ≤ k ∧ k - 1000 < qs.length) := fun {k r R} hm => by
    unfold initFacts at hm
    rw [List.mem_append, List.mem_append] at hm
    rcases hm with hm | hm | hm
    · obtain ⟨j, x, h1, e⟩ := paramFacts_mem hm
      cases x with
      | vp x => cases e
      | bo R => cases e
      | mv R =>
        injection e with e1
        have := (List.getElem?_eq_some_iff.1 h1).1
        exact .inr (by omega)
    · obtain ⟨j, y, h1, e⟩ := ownFacts_mem hm
      injection e with e1
      have := (List.getElem?_eq_some_iff.1 h1).1
      exact .inl (by omega)
    · unfold borFacts at hm
      obtain ⟨y, _, e⟩ := List.mem_map.1 hm; cases e
  refine calls_of_wp hf hc (h w S Z Bf _ w ⟨⟨fun k => G (pos k), Z⟩, ⟨hS, hz, hb⟩, ?_, rfl, .refl _ _, fun _ h => h, fun b hb => ⟨hz b hb, .inl hb⟩, ?_, fun k r R k' r' R' h1 h2 hne b hb => ?_, fun k r R h1 b hb => ?_⟩)
  · simp; omega
  · intro fa hfa
    unfold initFacts at hfa
    rw [List.mem_append, List.mem_append] at hfa
    rcases hfa with hfa | hfa | hfa
    · obtain ⟨j, x, h1, rfl⟩ := paramFacts_mem hfa
      obtain ⟨v, h2, h3⟩ := hv j x h1
      rw [Nat.zero_add]
      have hj := (Array.getElem?_eq_some_iff.1 h2).1
      have hden : Ref.den (Act.mk (vs ++ Array.replicate (fn.ntmps - vs.size) undef) []) (.tmp j) v := by
        show (vs ++ _)[j]? = some v
        rw [Array.getElem?_append_left hj]; exact h2
      cases x with
      | vp x => exact ⟨v, hden, h3⟩
      | bo R => obtain ⟨T, h4, h5⟩ := h3; exact ⟨v, T, hden, h4, h5⟩
      | mv R =>
        refine ⟨v, hden, ?_⟩
        show R.p Z v w (G (pos (1000 + j)))
        have : pos (1000 + j) = j := by show (if 1000 + j < 1000 then _ else 1000 + j - 1000) = j; rw [if_neg (by omega)]; omega
        rw [this]
        have hjq := (List.getElem?_eq_some_iff.1 h1).1
        exact g1 j R v (by rw [List.getElem?_append_left (by simpa using hjq), List.getElem?_map, h1]; rfl) (by rw [List.getElem?_append_left (by omega), Array.getElem?_toList]; exact h2)
    · obtain ⟨j, y, h1, rfl⟩ := ownFacts_mem hfa
      refine ⟨y.1, rfl, ?_⟩
      rw [Nat.zero_add]
      show y.2.p Z y.1 w (G (pos j))
      have hj := (List.getElem?_eq_some_iff.1 h1).1
      have : pos j = qs.length + j := if_pos (by omega)
      rw [this]
      exact g1 _ y.2 y.1 (by rw [List.getElem?_append_right (by simp), List.length_map, Nat.add_sub_cancel_left, List.getElem?_map, h1]; rfl) (by rw [List.getElem?_append_right (by omega), hvl, Nat.add_sub_cancel_left, List.getElem?_map, h1]; rfl)
    · unfold borFacts at hfa
      obtain ⟨y, hy, rfl⟩ := List.mem_map.1 hfa
      obtain ⟨T, h1, h2⟩ := hB y hy
      exact ⟨y.1, T, rfl, h1, h2⟩
  · refine g2 (pos k) (pos k') b (fun e => hne ?_) hb
    have e : (if k < 1000 then qs.length + k else k - 1000) = (if k' < 1000 then qs.length + k' else k' - 1000) := e
    rcases own h1 with h1 | h1 <;> rcases own h2 with h2 | h2
    · rw [if_pos h1.2, if_pos h2.2] at e; omega
    · rw [if_pos h1.2, if_neg (by omega)] at e; omega
    · rw [if_neg (by omega), if_pos h2.2] at e; omega
    · rw [if_neg (by omega), if_neg (by omega)] at e; omega
  · have hb : G (pos k) b := hb
    have := hS b (g3 _ b hb)
    exact ⟨this.1, .inr (g3 _ b hb), this.2.1⟩

/-! ### how it ends -/
section
variable {F : Fr} {fs : List Fact}
def GF (F : Fr) (fs : List Fact) (γ : Gho) (a : Act) (w : World) : Prop := Good F (· ∈ fs) γ a w
/-- what a result is -/
def Rv (F : Fr) (fs : List Fact) (r : ResultVar) (R : HA) (ids : List Nat) : Prop := ∀ γ a w, GF F fs γ a w → ∃ (v : Value) (S : Foot), (resSem a.tmps r).run F.P w = .ok v w ∧ R.p γ.Z v w S ∧ ∀ b, S b → ∃ k ∈ ids, γ.σ k b ∧ ∃ r R, Fact.own k r R ∈ fs
theorem rv_vp (n : Nat) {t : Nat} {x : VP} (h : fs[n]? = some (.slot t x)) : Rv F fs (.tmp t) (HA.of x) [] := fun γ a w g => by
  obtain ⟨v, h1, h2⟩ := g.hold _ (List.mem_of_getElem? h)
  have h1 : a.tmps[t]? = some v := h1
  exact ⟨v, fun _ => False, by simp [resSem, h1], ⟨h2, fun _ h => h⟩, fun _ h => h.elim⟩
theorem rv_eq {r : ResultVar} {R R' : HA} {ids : List Nat} (e : R = R') (h : Rv F fs r R ids) : Rv F fs r R' ids := e ▸ h
theorem rv_weak {r : ResultVar} {R R' : HA} {ids : List Nat} (e : ∀ (Z : Foot) (v : Value) (w : World) (S : Foot), R.p Z v w S → R'.p Z v w S) (h : Rv F fs r R ids) : Rv F fs r R' ids := fun γ a w g => by
  obtain ⟨v, S, h1, h2, h3⟩ := h γ a w g
  exact ⟨v, S, h1, e _ _ _ _ h2, h3⟩
theorem rv_ownv (n m : Nat) {t id : Nat} {v : Value} {nu one : Bool} {R : HA} (h : fs[n]? = some (.own id (.val v) R)) (hm : fs[m]? = some (.slot t (VP.eq v nu one))) : Rv F fs (.tmp t) R [id] := fun γ a w g => by
  obtain ⟨u, h1, h2⟩ := g.hold _ (List.mem_of_getElem? h)
  obtain ⟨u', h3, h4, _⟩ := g.hold _ (List.mem_of_getElem? hm)
  have h1 : u = v := h1
  subst h1 h4
  have h3 : a.tmps[t]? = some u' := h3
  exact ⟨u', γ.σ id, by simp [resSem, h3], h2, fun b hb => ⟨id, by simp, hb, _, _, List.mem_of_getElem? h⟩⟩
theorem rv_ptr (n m : Nat) {t id : Nat} {v : Value} {R : HA} (h : fs[n]? = some (.own id (.val v) R)) (hm : fs[m]? = some (.slot t (VP.ptr v))) : Rv F fs (.tmp t) R [id] := fun γ a w g => by
  obtain ⟨u, h1, h2⟩ := g.hold _ (List.mem_of_getElem? h)
  obtain ⟨u', h3, h4, _⟩ := g.hold _ (List.mem_of_getElem? hm)
  have h1 : u = v := h1
  subst h1 h4
  have h3 : a.tmps[t]? = some u' := h3
  exact ⟨u', γ.σ id, by simp [resSem, h3], h2, fun b hb => ⟨id, by simp, hb, _, _, List.mem_of_getElem? h⟩⟩
def Rvs (F : Fr) (fs : List Fact) : List ResultVar → List HA → List (List Nat) → Prop
  | [], [], [] => True
  | r :: rs, R :: Rs, l :: ls => Rv F fs r R l ∧ Rvs F fs rs Rs ls
  | _, _, _ => False
theorem rvs_run {γ : Gho} {a : Act} {w : World} (g : GF F fs γ a w) : ∀ {rs : List ResultVar} {Rs : List HA} {ls : List (List Nat)}, Rvs F fs rs Rs ls → ls.flatten.Nodup →
    ∃ (vs : List Value) (S : Foot), (rs.mapM (resSem a.tmps)).run F.P w = .ok vs w ∧ AllS γ.Z Rs vs w S ∧ ∀ b, S b → ∃ k ∈ ls.flatten, γ.σ k b ∧ ∃ r R, Fact.own k r R ∈ fs
  | [], [], [], _, _ => ⟨[], fun _ => False, by simp, fun _ h => h, fun _ h => h.elim⟩
  | r :: rs, R :: Rs, l :: ls, h, hn => by
    rw [List.flatten_cons, List.nodup_append] at hn
    obtain ⟨v, S, h1, h2, h3⟩ := h.1 γ a w g
    obtain ⟨vs, S', k1, k2, k3⟩ := rvs_run g h.2 hn.2.1
    refine ⟨v :: vs, fun b => S b ∨ S' b, ?_, ⟨S, S', fun b => Iff.rfl, fun b hb hb' => ?_, h2, k2⟩, fun b hb => ?_⟩
    · rw [List.mapM_cons]; simp [h1, k1]
    · obtain ⟨k, m1, m2, r1, R1, m3⟩ := h3 b hb
      obtain ⟨k', m4, m5, r2, R2, m6⟩ := k3 b hb'
      exact g.sep k r1 R1 k' r2 R2 m3 m6 (hn.2.2 k m1 k' m4) b m2 m5
    · rw [List.flatten_cons]
      rcases hb with hb | hb
      · obtain ⟨k, m1, m2⟩ := h3 b hb
        exact ⟨k, List.mem_append_left _ m1, m2⟩
      · obtain ⟨k, m1, m2⟩ := k3 b hb
        exact ⟨k, List.mem_append_right _ m1, m2⟩
  | [], _ :: _, _, h, _ => h.elim
  | [], [], _ :: _, h, _ => h.elim
  | _ :: _, [], _, h, _ => h.elim
  | _ :: _, _ :: _, [], h, _ => h.elim
def resHA : List HA → HA
  | [R] => R
  | Rs => HA.tup Rs
theorem run_results {fn : Func} {rs : List ResultVar} {vs : List Value} {a : Act} {w : World} {P : Program} (hfn : fn.results = rs.toArray) (hm : (rs.mapM (resSem a.tmps)).run P w = .ok vs w) : (results fn a.tmps).run P w = .ok (match vs with | [v] => v | vs => .tuple vs.toArray) w := by
  have : (results fn a.tmps) = (do let vs ← fn.results.mapM (resSem a.tmps); pure (if h : vs.size = 1 then vs[0] else .tuple vs)) := by
    unfold results resSem; rfl
  rw [this, hfn]
  have h2 : (rs.toArray.mapM (resSem a.tmps)).run P w = .ok vs.toArray w := by
    rw [List.mapM_toArray]
    simp [hm]
  simp only [Sem.run_bind, h2, Result.andThen_ok]
  match vs with
  | [] => rfl
  | [v] => rfl
  | _ :: _ :: _ => rfl
theorem rt_post {fn : Func} {rs : List ResultVar} {O' : List (Value × HA)} (Rs : List HA) (ls : List (List Nat)) (il : List Nat) (oi : List Nat) (hfn : fn.results = rs.toArray) (hr : Rvs F fs rs Rs ls) (hn : (ls.flatten ++ il).Nodup) (ho : oi.map (fun n => fs[n]?) = (zipOwn il O').map some) (hl : il.length = O'.length) :
    Rt F fs (bodyPost F.P fn (postO F.w0 F.Z0 F.S0 O' (resHA Rs))) := fun a w ⟨γ, g⟩ => by
  rw [List.nodup_append] at hn
  obtain ⟨vs, S, h1, h2, h3⟩ := rvs_run g hr hn.1
  have hmem : ∀ {f : Fact}, f ∈ zipOwn il O' → f ∈ fs := fun {f} hf => by
    have : some f ∈ oi.map (fun n => fs[n]?) := by rw [ho]; exact List.mem_map.2 ⟨f, hf, rfl⟩
    obtain ⟨n, _, hn⟩ := List.mem_map.1 this
    exact List.mem_of_getElem? hn
  have hzip : ∀ {il : List Nat} {O' : List (Value × HA)} {j k : Nat} {y : Value × HA}, il[j]? = some k → O'[j]? = some y → Fact.own k (.val y.1) y.2 ∈ zipOwn il O' := by
    intro il
    induction il with
    | nil => intro O' j k y h; simp at h
    | cons x xs ih =>
      intro O' j k y h1 h2
      cases O' with
      | nil => simp at h2
      | cons z zs =>
        unfold zipOwn
        cases j with
        | zero => simp at h1 h2; subst h1 h2; exact List.mem_cons_self ..
        | succ j => exact List.mem_cons_of_mem _ (ih (j := j) (by simpa using h1) (by simpa using h2))
  have hget : ∀ {j : Nat} {y : Value × HA}, O'[j]? = some y → ∃ k, il[j]? = some k ∧ Fact.own k (.val y.1) y.2 ∈ fs := fun {j y} hy => by
    have hj := (List.getElem?_eq_some_iff.1 hy).1
    exact ⟨il[j]'(by omega), List.getElem?_eq_getElem (by omega), hmem (hzip (List.getElem?_eq_getElem (by omega)) hy)⟩
  refine ⟨g.df, _, run_results hfn h1, _, γ.Z, fun b => ∃ j, j < (O'.map (·.2)).length ∧ (j < O'.length ∧ γ.σ (il.getD j 0) b), S, rfl, g.zmono, fun b hb => ?_, AllS.join (fun j b => j < O'.length ∧ γ.σ (il.getD j 0) b) (by simp) (fun j R v hR hv => ?_) (fun j k b hne hj hk => ?_), ?_, fun b ⟨j, _, hj, hb⟩ hb' => ?_, fun b hb => ?_, g.turn⟩
  · rcases g.zof b hb with ⟨h, h' | h' | h'⟩
    · exact .inl h'
    · exact .inr ⟨.inl h', h⟩
    · exact .inr ⟨.inr h', h⟩
  · rw [List.getElem?_map, Option.map_eq_some_iff] at hR hv
    obtain ⟨y1, hy1, rfl⟩ := hR
    obtain ⟨y2, hy2, rfl⟩ := hv
    rw [hy1] at hy2
    injection hy2 with hy2
    subst hy2
    obtain ⟨k, hk, hf⟩ := hget hy1
    obtain ⟨u, e1, e2⟩ := g.hold _ hf
    have e1 : u = y1.1 := e1
    subst e1
    have hj := (List.getElem?_eq_some_iff.1 hy1).1
    have : (fun b => j < O'.length ∧ γ.σ (il.getD j 0) b) = γ.σ k := funext fun b => by
      rw [List.getD_eq_getElem?_getD, hk]
      exact propext ⟨fun h => h.2, fun h => ⟨hj, h⟩⟩
    rw [this]; exact e2
  · obtain ⟨k1, e1, m1⟩ := hget (List.getElem?_eq_getElem hj.1)
    obtain ⟨k2, e2, m2⟩ := hget (List.getElem?_eq_getElem hk.1)
    have hj2 := hj.2
    have hk2 := hk.2
    rw [List.getD_eq_getElem?_getD, e1] at hj2
    rw [List.getD_eq_getElem?_getD, e2] at hk2
    refine g.sep k1 _ _ k2 _ _ m1 m2 (fun e => hne ?_) b hj2 hk2
    have h3 := (List.getElem?_eq_some_iff.1 e1).1
    rw [e, ← e2] at e1
    exact (List.getElem?_inj h3 hn.2.1).1 e1
  · match vs, Rs, h2 with
    | [v], [R], h2 =>
      obtain ⟨S1, S2, e, _, h5, h6⟩ := h2
      have : S = S1 := funext fun b => propext ⟨fun h => ((e b).1 h).elim id fun h => (h6 b h).elim, fun h => (e b).2 (.inl h)⟩
      rw [this]; exact h5
    | [], [], h2 => exact ⟨[], rfl, h2⟩
    | v :: v' :: vs, R :: R' :: Rs, h2 => exact ⟨_, rfl, h2⟩
    | [v], _ :: _ :: _, ⟨_, _, _, _, _, h2⟩ => exact h2.elim
    | _ :: _ :: _, [_], ⟨_, _, _, _, _, h2⟩ => exact h2.elim
    | [], _ :: _, h2 => exact h2.elim
    | _ :: _, [], h2 => exact h2.elim
  · obtain ⟨k, m1, m2, r1, R1, m3⟩ := h3 b hb'
    obtain ⟨k2, e2, mm⟩ := hget (List.getElem?_eq_getElem hj)
    rw [List.getD_eq_getElem?_getD, e2] at hb
    exact g.sep k r1 R1 k2 _ _ m3 mm (hn.2.2 k m1 k2 (List.mem_of_getElem? e2)) b m2 hb
  · have hb : ∃ k, γ.σ k b ∧ ∃ r R, Fact.own k r R ∈ fs := by
      rcases hb with ⟨j, _, hj, hb⟩ | hb
      · obtain ⟨k, e, m⟩ := hget (List.getElem?_eq_getElem hj)
        rw [List.getD_eq_getElem?_getD, e] at hb
        exact ⟨k, hb, _, _, m⟩
      · obtain ⟨k, _, h⟩ := h3 b hb
        exact ⟨k, h⟩
    obtain ⟨k, hb, r, R, hm⟩ := hb
    have := g.bnd k r R hm b hb
    refine ⟨?_, this.1, this.2.2⟩
    rcases this.2.1 with h | h
    · exact .inr h
    · exact .inl h
end
end O
end Go.Proofs.Ytapmngmpomhjmaa

/- The logic over objects: what is known is told otherwise, between statements. -/
namespace Go.Proofs.Ytapmngmpomhjmaa
open Go.RowKit
namespace O
section
variable {F : Fr} {fs rest : List Fact} {K : Act → World → Prop}
/-- fact id's blocks are told anew -/
theorem good_open {id : Nat} {r : Ref} {R : HA} {γ : Gho} {a : Act} {w : World} (g : Good F (· ∈ Fact.own id r R :: rest) γ a w) {nids : List Nat} (ho : rest.all (fun f => f.off (id :: nids)) = true) (news : List Fact) (σ' : Nat → Foot)
    (hσ : ∀ k, k ∉ id :: nids → σ' k = γ.σ k) (hh : ∀ f ∈ news, f.holds F ⟨σ', γ.Z⟩ a w) (hs : ∀ k r R, Fact.own k r R ∈ news → k ∈ id :: nids ∧ ∀ b, σ' k b → γ.σ id b) (hd : ∀ k ∈ id :: nids, ∀ k' ∈ id :: nids, k ≠ k' → ∀ b, σ' k b → ¬ σ' k' b) :
    Good F (· ∈ news ++ rest) ⟨σ', γ.Z⟩ a w := by
  have off : ∀ {k r R}, Fact.own k r R ∈ rest → k ∉ id :: nids := fun {k r R} h => by
    have := List.all_eq_true.1 ho _ h
    simp only [Fact.off, Bool.not_eq_true'] at this
    simpa using this
  have old : ∀ {k r R}, Fact.own k r R ∈ rest → σ' k = γ.σ k ∧ ∀ b, γ.σ k b → ¬ γ.σ id b := fun {k r R'} h => by
    have hk := off h
    exact ⟨hσ k hk, g.sep _ _ _ _ _ _ (List.mem_cons_of_mem _ h) (List.mem_cons_self ..) fun e => hk (e ▸ List.mem_cons_self ..)⟩
  refine ⟨g.ok, g.sz, g.df, g.turn, g.zmono, g.zof, fun f hf => ?_, fun k r R k' r' R' h h' hne b hb hb' => ?_, fun k r R h b hb => ?_⟩
  · rcases List.mem_append.1 hf with hf | hf
    · exact hh f hf
    · refine fact_turn (g.hold f (List.mem_cons_of_mem _ hf)) (fun _ h => h) (fun _ _ => rfl) (Calm.of_ext (Ext.refl w)) (fun _ _ => rfl) fun k r R e => ?_
      subst e
      exact ⟨(old hf).1, fun _ _ => rfl⟩
  · have hb : σ' k b := hb
    have hb' : σ' k' b := hb'
    rcases List.mem_append.1 h with h | h <;> rcases List.mem_append.1 h' with h' | h'
    · exact hd k (hs _ _ _ h).1 k' (hs _ _ _ h').1 hne b hb hb'
    · rw [(old h').1] at hb'
      exact (old h').2 b hb' ((hs _ _ _ h).2 b hb)
    · rw [(old h).1] at hb
      exact (old h).2 b hb ((hs _ _ _ h').2 b hb')
    · rw [(old h).1] at hb
      rw [(old h').1] at hb'
      exact g.sep _ _ _ _ _ _ (List.mem_cons_of_mem _ h) (List.mem_cons_of_mem _ h') hne b hb hb'
  · have hb : σ' k b := hb
    rcases List.mem_append.1 h with h | h
    · exact g.bnd id _ _ (List.mem_cons_self ..) b ((hs _ _ _ h).2 b hb)
    · rw [(old h).1] at hb
      exact g.bnd k r R (List.mem_cons_of_mem _ h) b hb
/-- the same blocks, told otherwise -/
theorem t_same {id : Nat} {r : Ref} {R : HA} {α : Type} (news : α → List Fact) (ho : rest.all (fun f => f.off [id]) = true)
    (hh : ∀ γ a w v, r.den a v → R.p γ.Z v w (γ.σ id) → ∃ x, ∀ f ∈ news x, f.holds F γ a w) (hs : ∀ x k r R, Fact.own k r R ∈ news x → k = id) (h : ∀ x, Sat F (news x ++ rest) K) : Sat F (.own id r R :: rest) K := fun a w ⟨γ, g⟩ => by
  obtain ⟨v, h1, h2⟩ := g.hold _ (List.mem_cons_self ..)
  obtain ⟨x, hx⟩ := hh γ a w v h1 h2
  exact h x a w ⟨γ, good_open (nids := []) g ho (news x) γ.σ (fun _ _ => rfl) hx (fun k r R hk => by rw [hs x k r R hk]; exact ⟨List.mem_cons_self .., fun b hb => hb⟩) (fun k hk k' hk' hne => by
    simp only [List.mem_singleton] at hk hk'
    exact absurd (hk.trans hk'.symm) hne)⟩
/-- a new value gets a name -/
theorem t_name {id k : Nat} {R : HA} (ho : rest.all (fun f => f.off [id]) = true) (h : ∀ v, Sat F (.own id (.val v) R :: .slot k (VP.eq v R.nu R.one) :: rest) K) : Sat F (.own id (.tmp k) R :: rest) K :=
  t_same (α := Value) (fun v => [.own id (.val v) R, .slot k (VP.eq v R.nu R.one)]) ho (fun γ a w v h1 h2 => ⟨v, fun f hf => by
    rcases List.mem_cons.1 hf with rfl | hf
    · exact ⟨v, rfl, h2⟩
    · rw [List.mem_singleton] at hf; subst hf
      exact ⟨v, h1, rfl, fun hn => R.hnu hn _ _ _ _ h2, fun hn => R.hone hn _ _ _ _ h2⟩⟩) (fun v k' r' R' hf => by
    rcases List.mem_cons.1 hf with e | hf
    · injection e
    · rw [List.mem_singleton] at hf; cases hf) h
theorem t_nameP {id k : Nat} {T' : TypeId} {Rs : List HA} (ho : rest.all (fun f => f.off [id]) = true) (h : ∀ v, Sat F (.own id (.val v) (HA.cells T' Rs) :: .slot k (VP.ptr v) :: rest) K) : Sat F (.own id (.tmp k) (HA.cells T' Rs) :: rest) K :=
  t_same (α := Value) (fun v => [.own id (.val v) (HA.cells T' Rs), .slot k (VP.ptr v)]) ho (fun γ a w v h1 h2 => ⟨v, fun f hf => by
    rcases List.mem_cons.1 hf with rfl | hf
    · exact ⟨v, rfl, h2⟩
    · rw [List.mem_singleton] at hf; subst hf
      obtain ⟨g, cs, S', rfl, _⟩ := h2
      exact ⟨_, h1, rfl, g, 0, rfl⟩⟩) (fun v k' r' R' hf => by
    rcases List.mem_cons.1 hf with e | hf
    · injection e
    · rw [List.mem_singleton] at hf; cases hf) h
theorem t_weak {id : Nat} {r : Ref} {R R' : HA} (hw : ∀ Z v w S, R.p Z v w S → R'.p Z v w S) (ho : rest.all (fun f => f.off [id]) = true) (h : Sat F (.own id r R' :: rest) K) : Sat F (.own id r R :: rest) K :=
  t_same (α := Unit) (fun _ => [.own id r R']) ho (fun γ a w v h1 h2 => ⟨(), fun f hf => by
    rw [List.mem_singleton] at hf; subst hf; exact ⟨v, h1, hw _ _ _ _ h2⟩⟩) (fun _ k' r' R' hf => by rw [List.mem_singleton] at hf; injection hf) (fun _ => h)
theorem t_ex {id : Nat} {r : Ref} {α : Type} {nu one : Bool} {G : α → HA} (ho : rest.all (fun f => f.off [id]) = true) (h : ∀ x, Sat F (.own id r (G x) :: rest) K) : Sat F (.own id r (HA.ex nu one G) :: rest) K :=
  t_same (fun x => [.own id r (G x)]) ho (fun γ a w v h1 ⟨x, h2, _⟩ => ⟨x, fun f hf => by
    rw [List.mem_singleton] at hf; subst hf; exact ⟨v, h1, h2⟩⟩) (fun _ k' r' R' hf => by rw [List.mem_singleton] at hf; injection hf) h
theorem t_pure {id : Nat} {r : Ref} {φ : Prop} {R : HA} (ho : rest.all (fun f => f.off [id]) = true) (h : φ → Sat F (.own id r R :: rest) K) : Sat F (.own id r (HA.pure φ R) :: rest) K :=
  t_same (α := PLift φ) (fun _ => [.own id r R]) ho (fun γ a w v h1 h2 => ⟨⟨h2.1⟩, fun f hf => by
    rw [List.mem_singleton] at hf; subst hf; exact ⟨v, h1, h2.2⟩⟩) (fun _ k' r' R' hf => by rw [List.mem_singleton] at hf; injection hf) (fun x => h x.down)
/-- what follows of a fact -/
theorem t_know {f : Fact} {φ : Prop} (hφ : ∀ γ a w, f.holds F γ a w → φ) (h : φ → Sat F (f :: rest) K) : Sat F (f :: rest) K := fun a w ⟨γ, g⟩ => h (hφ γ a w (g.hold _ (List.mem_cons_self ..))) a w ⟨γ, g⟩
/-- for good: what is in these blocks never turns again -/
theorem t_freeze {id : Nat} {r : Ref} {R : HA} {x : VP} (hf : ∀ Z v w S, R.p Z v w S → x.p (fun b => Z b ∨ S b) v w) (ho : rest.all (fun f => f.off [id]) = true) (h : Sat F (.is r x :: rest) K) : Sat F (.own id r R :: rest) K := fun a w ⟨γ, g⟩ => by
  obtain ⟨v, h1, h2⟩ := g.hold _ (List.mem_cons_self ..)
  have hb := g.bnd id r R (List.mem_cons_self ..)
  have off : ∀ {k r R}, Fact.own k r R ∈ rest → k ≠ id := fun {k r R} h => by
    have := List.all_eq_true.1 ho _ h
    simp only [Fact.off, Bool.not_eq_true'] at this
    simpa using this
  refine h a w ⟨⟨γ.σ, fun b => γ.Z b ∨ γ.σ id b⟩, g.ok, g.sz, g.df, g.turn, fun b hb => .inl (g.zmono b hb), fun b hz => ?_, fun f hf' => ?_, fun k r R k' r' R' h1 h2 hne => ?_, fun k r R h1 b hk => ?_⟩
  · rcases hz with hz | hz
    · exact g.zof b hz
    · have := hb b hz
      refine ⟨this.1, ?_⟩
      rcases this.2.1 with h | h
      · exact .inr (.inr h)
      · exact .inr (.inl h)
  · rcases List.mem_cons.1 hf' with rfl | hf'
    · exact ⟨v, h1, hf _ _ _ _ h2⟩
    · exact fact_turn (g.hold f (List.mem_cons_of_mem _ hf')) (fun _ h => .inl h) (fun _ _ => rfl) (Calm.of_ext (Ext.refl w)) (fun _ _ => rfl) fun k r R e => ⟨rfl, fun _ _ => rfl⟩
  · rcases List.mem_cons.1 h1 with e | h1
    · cases e
    rcases List.mem_cons.1 h2 with e | h2
    · cases e
    exact g.sep _ _ _ _ _ _ (List.mem_cons_of_mem _ h1) (List.mem_cons_of_mem _ h2) hne
  · rcases List.mem_cons.1 h1 with e | h1
    · cases e
    have := g.bnd k r R (List.mem_cons_of_mem _ h1) b hk
    refine ⟨this.1, this.2.1, fun hz => ?_⟩
    rcases hz with hz | hz
    · exact this.2.2 hz
    · exact g.sep _ _ _ _ _ _ (List.mem_cons_of_mem _ h1) (List.mem_cons_self ..) (off h1) b hk hz
/-- a fact more, or another one, that has no blocks -/
theorem t_more {news : List Fact} (hn : news.all (fun f => !f.isOwn) = true) (hh : ∀ γ a w, GF F fs γ a w → ∀ f ∈ news, f.holds F γ a w) (h : Sat F (news ++ fs) K) : Sat F fs K := fun a w ⟨γ, g⟩ => by
  have no : ∀ {k r R}, ¬ Fact.own k r R ∈ news := fun {k r R} hm => by have := List.all_eq_true.1 hn _ hm; cases this
  refine h a w ⟨γ, g.ok, g.sz, g.df, g.turn, g.zmono, g.zof, fun f hf => ?_, fun k r R k' r' R' h1 h2 hne => ?_, fun k r R h1 => ?_⟩
  · rcases List.mem_append.1 hf with hf | hf
    · exact hh γ a w g f hf
    · exact g.hold f hf
  · rcases List.mem_append.1 h1 with h1 | h1
    · exact (no h1).elim
    rcases List.mem_append.1 h2 with h2 | h2
    · exact (no h2).elim
    exact g.sep _ _ _ _ _ _ h1 h2 hne
  · rcases List.mem_append.1 h1 with h1 | h1
    · exact (no h1).elim
    exact g.bnd _ _ _ h1
/-- what is said of a slot, said otherwise -/
theorem t_slot {r : Ref} {x y : VP} (hw : ∀ Z v w, x.p Z v w → y.p Z v w) (h : Sat F (.is r y :: rest) K) : Sat F (.is r x :: rest) K :=
  t_more (fs := .is r x :: rest) (news := [.is r y]) rfl (fun γ a w g f hf => by
    rw [List.mem_singleton] at hf; subst hf
    obtain ⟨v, h1, h2⟩ := g.hold _ (List.mem_cons_self ..)
    exact ⟨v, h1, hw _ _ _ h2⟩) (fun a w hf => h a w (by
    obtain ⟨γ, g⟩ := hf
    exact ⟨γ, g.sub fun f hf => by
      rcases List.mem_cons.1 hf with rfl | hf
      · exact List.mem_cons_self ..
      · exact List.mem_cons_of_mem _ (List.mem_cons_of_mem _ hf)⟩))
/-- one slot has what another one has -/
theorem t_eq {d k : Nat} {x : VP} (h : Sat F (.slot d x :: .slot k x :: rest) K) : Sat F (.eq d (.tmp k) :: .slot k x :: rest) K :=
  t_more (fs := .eq d (.tmp k) :: .slot k x :: rest) (news := [.slot d x]) rfl (fun γ a w g f hf => by
    rw [List.mem_singleton] at hf; subst hf
    obtain ⟨v, h1, h2⟩ := g.hold _ (List.mem_cons_self ..)
    obtain ⟨u, h3, h4⟩ := g.hold _ (List.mem_cons_of_mem _ (List.mem_cons_self ..))
    have := Ref.den_fun h1 h3
    subst this
    exact ⟨v, h2, h4⟩) (fun a w hf => h a w (by
    obtain ⟨γ, g⟩ := hf
    exact ⟨γ, g.sub fun f hf => by
      rcases List.mem_cons.1 hf with rfl | hf
      · exact List.mem_cons_self ..
      · exact List.mem_cons_of_mem _ (List.mem_cons_of_mem _ hf)⟩))
/-- a slot has this very value, of which more is known -/
theorem t_is {k : Nat} {v : Value} {nu one : Bool} {x : VP} (h : Sat F (.slot k x :: .slot k (VP.eq v nu one) :: .is (.val v) x :: rest) K) : Sat F (.slot k (VP.eq v nu one) :: .is (.val v) x :: rest) K :=
  t_more (fs := .slot k (VP.eq v nu one) :: .is (.val v) x :: rest) (news := [.slot k x]) rfl (fun γ a w g f hf => by
    rw [List.mem_singleton] at hf; subst hf
    obtain ⟨u, h1, h2, _⟩ := g.hold _ (List.mem_cons_self ..)
    obtain ⟨u', h3, h4⟩ := g.hold _ (List.mem_cons_of_mem _ (List.mem_cons_self ..))
    have h3 : u' = v := h3
    subst h3 h2
    exact ⟨_, h1, h4⟩) h
/-- facts with blocks become one -/
theorem good_close {id : Nat} {r : Ref} {R' : HA} {γ : Gho} {a : Act} {w : World} {olds : List Fact} (g : Good F (· ∈ olds ++ rest) γ a w) (ho : rest.all (fun f => f.off [id]) = true) (S : Foot)
    (hS : ∀ b, S b → ∃ k r R, Fact.own k r R ∈ olds ∧ γ.σ k b) (hsep : ∀ k r R k' r' R', Fact.own k r R ∈ olds → Fact.own k' r' R' ∈ rest → k ≠ k') {v : Value} (hv : r.den a v) (hR : R'.p γ.Z v w S) : Good F (· ∈ Fact.own id r R' :: rest) (γ.set id S) a w := by
  have off : ∀ {k r R}, Fact.own k r R ∈ rest → k ≠ id := fun {k r R} h => by
    have := List.all_eq_true.1 ho _ h
    simp only [Fact.off, Bool.not_eq_true'] at this
    simpa using this
  refine ⟨g.ok, g.sz, g.df, g.turn, g.zmono, g.zof, fun f hf => ?_, fun k r1 R1 k' r2 R2 h h' hne b hb hb' => ?_, fun k r1 R1 h b hb => ?_⟩
  · rcases List.mem_cons.1 hf with rfl | hf
    · exact ⟨v, hv, by rw [Gho.set_eq]; exact hR⟩
    · refine fact_turn (g.hold f (List.mem_append_right _ hf)) (fun _ h => h) (fun _ _ => rfl) (Calm.of_ext (Ext.refl w)) (fun _ _ => rfl) fun k r R e => ?_
      subst e
      exact ⟨Gho.set_ne γ S (off hf), fun _ _ => rfl⟩
  · rcases List.mem_cons.1 h with e | n1 <;> rcases List.mem_cons.1 h' with e' | n2
    · injection e with e; injection e' with e'
      exact hne (e.trans e'.symm)
    · injection e with e
      rw [e, Gho.set_eq] at hb
      rw [Gho.set_ne γ S (off n2)] at hb'
      obtain ⟨k2, r3, R3, m1, m2⟩ := hS b hb
      exact g.sep _ _ _ _ _ _ (List.mem_append_left _ m1) (List.mem_append_right _ n2) (hsep _ _ _ _ _ _ m1 n2) b m2 hb'
    · injection e' with e'
      rw [e', Gho.set_eq] at hb'
      rw [Gho.set_ne γ S (off n1)] at hb
      obtain ⟨k2, r3, R3, m1, m2⟩ := hS b hb'
      exact g.sep _ _ _ _ _ _ (List.mem_append_left _ m1) (List.mem_append_right _ n1) (hsep _ _ _ _ _ _ m1 n1) b m2 hb
    · rw [Gho.set_ne γ S (off n1)] at hb
      rw [Gho.set_ne γ S (off n2)] at hb'
      exact g.sep _ _ _ _ _ _ (List.mem_append_right _ n1) (List.mem_append_right _ n2) hne b hb hb'
  · rcases List.mem_cons.1 h with e | n1
    · injection e with e
      rw [e, Gho.set_eq] at hb
      obtain ⟨k2, r3, R3, m1, m2⟩ := hS b hb
      exact g.bnd _ _ _ (List.mem_append_left _ m1) b m2
    · rw [Gho.set_ne γ S (off n1)] at hb
      exact g.bnd _ _ _ (List.mem_append_right _ n1) b hb
theorem off_ne {il : List Nat} (ho : rest.all (fun f => f.off il) = true) {k : Nat} {r : Ref} {R : HA} (h : Fact.own k r R ∈ rest) : k ∉ il := by
  have := List.all_eq_true.1 ho _ h
  simp only [Fact.off, Bool.not_eq_true'] at this
  simpa using this
/-- an assertion of which one part can be taken out and laid back -/
def Part (R : HA) (P : HA) (H : HA → HA) : Prop :=
  (∀ Z v w S, R.p Z v w S → ∃ (u : Value) (S1 S2 : Foot), (∀ b, S b ↔ S1 b ∨ S2 b) ∧ (∀ b, S1 b → ¬ S2 b) ∧ P.p Z u w S1 ∧ (H (HA.of (VP.eq u P.nu P.one))).p Z v w S2)
/-- and laid back -/
def Whole (H : HA → HA) (u : Value) (nu one : Bool) (P : HA) : Prop :=
  (∀ Z v w S1 S2, P.p Z u w S1 → (∀ b, S1 b → ¬ S2 b) → (H (HA.of (VP.eq u nu one))).p Z v w S2 → (H P).p Z v w (fun b => S1 b ∨ S2 b))
theorem t_part {id : Nat} {r : Ref} {R P : HA} {H : HA → HA} (nid : Nat) (hp : Part R P H) (ho : rest.all (fun f => f.off [id, nid]) = true) (hne : (id == nid) = false) (h : ∀ u, Sat F (.own id r (H (HA.of (VP.eq u P.nu P.one))) :: .own nid (.val u) P :: rest) K) : Sat F (.own id r R :: rest) K := fun a w ⟨γ, g⟩ => by
  obtain ⟨v, h1, h2⟩ := g.hold _ (List.mem_cons_self ..)
  obtain ⟨u, S1, S2, e, d, h3, h4⟩ := hp _ _ _ _ h2
  have hne' : nid ≠ id := fun e => by simp [e] at hne
  have s1 : (if id = nid then S1 else if id = id then S2 else γ.σ id) = S2 := by rw [if_neg (Ne.symm hne'), if_pos rfl]
  refine h u a w ⟨⟨fun k => if k = nid then S1 else if k = id then S2 else γ.σ k, γ.Z⟩, good_open (nids := [nid]) g ho [.own id r (H (HA.of (VP.eq u P.nu P.one))), .own nid (.val u) P] _ (fun k hk => ?_) (fun f hf => ?_) (fun k r' R' hf => ?_) (fun k hk k' hk' hne2 b hb hb' => ?_)⟩
  · simp only [List.mem_cons, List.not_mem_nil, or_false, not_or] at hk
    show (if k = nid then S1 else if k = id then S2 else γ.σ k) = γ.σ k
    rw [if_neg hk.2, if_neg hk.1]
  · simp only [List.mem_cons, List.not_mem_nil, or_false] at hf
    rcases hf with rfl | rfl
    · exact ⟨v, h1, by show (H _).p γ.Z v w (if id = nid then S1 else if id = id then S2 else γ.σ id); rw [s1]; exact h4⟩
    · exact ⟨u, rfl, by show P.p γ.Z u w (if nid = nid then S1 else _); rw [if_pos rfl]; exact h3⟩
  · simp only [List.mem_cons, List.not_mem_nil, or_false] at hf
    rcases hf with e1 | e1
    · injection e1 with e1; subst e1
      refine ⟨List.mem_cons_self .., fun b hb => (e b).2 (.inr ?_)⟩
      rw [s1] at hb; exact hb
    · injection e1 with e1; subst e1
      refine ⟨by simp, fun b hb => (e b).2 (.inl ?_)⟩
      rw [if_pos rfl] at hb; exact hb
  · simp only [List.mem_cons, List.not_mem_nil, or_false] at hk hk'
    rcases hk with rfl | rfl <;> rcases hk' with rfl | rfl
    · exact hne2 rfl
    · rw [s1] at hb
      rw [if_pos rfl] at hb'
      exact d b hb' hb
    · rw [s1] at hb'
      rw [if_pos rfl] at hb
      exact d b hb hb'
    · exact hne2 rfl
theorem t_whole {id nid : Nat} {r : Ref} {P : HA} {H : HA → HA} {u : Value} {nu one : Bool} (hp : Whole H u nu one P) (ho : rest.all (fun f => f.off [id, nid]) = true) (hne : (id == nid) = false) (h : Sat F (.own id r (H P) :: rest) K) : Sat F (.own id r (H (HA.of (VP.eq u nu one))) :: .own nid (.val u) P :: rest) K := fun a w ⟨γ, g⟩ => by
  obtain ⟨v, h1, h2⟩ := g.hold _ (List.mem_cons_self ..)
  obtain ⟨u', h3, h4⟩ := g.hold _ (List.mem_cons_of_mem _ (List.mem_cons_self ..))
  have h3 : u' = u := h3
  subst h3
  have hne' : nid ≠ id := fun e => by simp [e] at hne
  have ho1 : rest.all (fun f => f.off [id]) = true := List.all_eq_true.2 fun f hf => by
    cases f with
    | own k r' R' =>
      have := off_ne ho hf
      simp only [List.mem_cons, not_or] at this
      simp [Fact.off, this.1]
    | _ => rfl
  have hs := g.sep nid _ _ id _ _ (List.mem_cons_of_mem _ (List.mem_cons_self ..)) (List.mem_cons_self ..) hne'
  refine h a w ⟨_, good_close (olds := [.own id r (H (HA.of (VP.eq u' nu one))), .own nid (.val u') P]) g ho1 (fun b => γ.σ nid b ∨ γ.σ id b) (fun b hb => ?_) (fun k r1 R1 k' r2 R2 m1 m2 e => ?_) h1 (hp _ _ _ _ _ h4 hs h2)⟩
  · rcases hb with hb | hb
    · exact ⟨nid, _, _, List.mem_cons_of_mem _ (List.mem_cons_self ..), hb⟩
    · exact ⟨id, _, _, List.mem_cons_self .., hb⟩
  · have := off_ne ho m2
    simp only [List.mem_cons, List.not_mem_nil, or_false] at m1 this
    rcases m1 with e1 | e1
    · injection e1 with e1; subst e1; exact this (.inl e.symm)
    · injection e1 with e1; subst e1; exact this (.inr e.symm)
theorem set_same {vs : List Value} {j : Nat} {u : Value} (h : vs[j]? = some u) : vs.set j u = vs := by
  obtain ⟨hj, rfl⟩ := List.getElem?_eq_some_iff.1 h
  exact List.set_getElem_self hj
theorem eq_self {P : HA} {Z : Foot} {u : Value} {w : World} {S : Foot} (h : P.p Z u w S) : (VP.eq u P.nu P.one).p Z u w := ⟨rfl, fun hn => P.hnu hn _ _ _ _ h, fun hn => P.hone hn _ _ _ _ h⟩
theorem part_all {Z : Foot} {w : World} {Rs : List HA} {vs : List Value} {S : Foot} (h : AllS Z Rs vs w S) {j : Nat} {P : HA} (hj : Rs[j]? = some P) : ∃ (u : Value) (S1 S2 : Foot), (∀ b, S b ↔ S1 b ∨ S2 b) ∧ (∀ b, S1 b → ¬ S2 b) ∧ P.p Z u w S1 ∧ AllS Z (Rs.set j (HA.of (VP.eq u P.nu P.one))) vs w S2 := by
  obtain ⟨u, S1, S2, h1, h2, h3, h4, h5⟩ := h.pick hj
  refine ⟨u, S1, S2, h2, h3, h4, ?_⟩
  have := h5 (HA.of (VP.eq u P.nu P.one)) (fun _ => False) u ⟨eq_self h4, fun _ h => h⟩ fun _ h => h.elim
  rw [set_same h1] at this
  exact this.subS fun b => by simp
theorem whole_all {Z : Foot} {w : World} {Rs : List HA} {vs : List Value} {S1 S2 : Foot} {j : Nat} {u : Value} {nu one : Bool} {P : HA} (hj : j < Rs.length) (h : AllS Z (Rs.set j (HA.of (VP.eq u nu one))) vs w S2) (hp : P.p Z u w S1) (hd : ∀ b, S1 b → ¬ S2 b) : AllS Z (Rs.set j P) vs w (fun b => S1 b ∨ S2 b) := by
  obtain ⟨u', T1, T2, h1, h2, h3, h4, h5⟩ := h.pick (i := j) (R := HA.of (VP.eq u nu one)) (by rw [List.getElem?_set]; simp [hj])
  obtain ⟨⟨h6, _⟩, h7⟩ := h4
  subst h6
  have e : ∀ b, S2 b ↔ T2 b := fun b => (h2 b).trans ⟨fun h => h.elim (fun h => (h7 b h).elim) id, .inr⟩
  have := h5 P S1 u' hp fun b hb hb' => hd b hb ((e b).2 hb')
  rw [List.set_set, set_same h1] at this
  exact this.subS fun b => by rw [e b]
theorem part_cells {T' : TypeId} {Rs : List HA} (j : Nat) {P : HA} (hj : Rs[j]? = some P) : Part (HA.cells T' Rs) P (fun X => HA.cells T' (Rs.set j X)) := fun Z v w S ⟨g, cs, S', h1, h2, h3, h4, h5, h6⟩ => by
  obtain ⟨u, S1, S2, e, d, h7, h8⟩ := part_all h3 hj
  refine ⟨u, S1, fun b => b = g ∨ S2 b, fun b => ?_, fun b hb hb' => ?_, h7, g, cs, S2, h1, h2, h8, fun b => Iff.rfl, fun hb => h5 ((e g).2 (.inr hb)), h6⟩
  · rw [h4 b, e b]; constructor <;> (intro h; rcases h with h | h | h <;> simp_all)
  · rcases hb' with rfl | hb'
    · exact h5 ((e _).2 (.inl hb))
    · exact d b hb hb'
theorem whole_cells {T' : TypeId} {Rs : List HA} {j : Nat} {u : Value} {nu one : Bool} {P : HA} (hj : j < Rs.length) : Whole (fun X => HA.cells T' (Rs.set j X)) u nu one P := fun Z v w S1 S2 hp hd ⟨g, cs, S', h1, h2, h3, h4, h5, h6⟩ => by
  have := whole_all hj h3 hp fun b hb hb' => hd b hb ((h4 b).2 (.inr hb'))
  refine ⟨g, cs, _, h1, h2, this, fun b => ?_, fun hb => ?_, h6⟩
  · show (S1 b ∨ S2 b) ↔ _
    rw [h4 b]; constructor <;> (intro h; rcases h with h | h | h <;> simp_all)
  · rcases hb with hb | hb
    · exact hd g hb ((h4 g).2 (.inl rfl))
    · exact h5 hb
theorem part_row {E : TypeId} {n : Nat} {Rs : List HA} {sz : Nat} (j : Nat) {P : HA} (hj : Rs[j]? = some P) : Part (HA.row E sz n Rs) P (fun X => HA.row E sz n (Rs.set j X)) := fun Z v w S ⟨h0, h⟩ => by
  rcases h with ⟨_, h, _⟩ | ⟨g, cap, cur, S', h1, h2, h3, h4, h5, h6, h7, h8, h9⟩
  · rw [h, Nat.zero_mul] at h0
    rw [List.eq_nil_of_length_eq_zero h0] at hj; simp at hj
  · obtain ⟨u, S1, S2, e, d, k1, k2⟩ := part_all h6 hj
    refine ⟨u, S1, fun b => b = g ∨ S2 b, fun b => ?_, fun b hb hb' => ?_, k1, by simpa using h0, .inr ⟨g, cap, cur, S2, h1, h2, h3, h4, h5, k2, fun b => Iff.rfl, fun hb => h8 ((e g).2 (.inr hb)), h9⟩⟩
    · rw [h7 b, e b]; constructor <;> (intro h; rcases h with h | h | h <;> simp_all)
    · rcases hb' with rfl | hb'
      · exact h8 ((e _).2 (.inl hb))
      · exact d b hb hb'
theorem whole_row {E : TypeId} {sz n : Nat} {Rs : List HA} {j : Nat} {u : Value} {nu one : Bool} {P : HA} (hj : j < Rs.length) : Whole (fun X => HA.row E sz n (Rs.set j X)) u nu one P := fun Z v w S1 S2 hp hd ⟨h0, h⟩ => by
  rcases h with ⟨_, h, _⟩ | ⟨g, cap, cur, S', h1, h2, h3, h4, h5, h6, h7, h8, h9⟩
  · rw [h, Nat.zero_mul] at h0
    simp only [List.length_set] at h0
    omega
  · have := whole_all hj h6 hp fun b hb hb' => hd b hb ((h7 b).2 (.inr hb'))
    refine ⟨by simpa using h0, .inr ⟨g, cap, cur, _, h1, h2, h3, h4, h5, this, fun b => ?_, fun hb => ?_, h9⟩⟩
    · show (S1 b ∨ S2 b) ↔ _
      rw [h7 b]; constructor <;> (intro h; rcases h with h | h | h <;> simp_all)
    · rcases hb with hb | hb
      · exact hd g hb ((h7 g).2 (.inl rfl))
      · exact h8 hb
theorem fz_of (x : VP) : ∀ Z v w S, (HA.of x).p Z v w S → x.p (fun b => Z b ∨ S b) v w := fun Z v w _ ⟨h1, _⟩ => x.hst _ _ _ _ _ h1 (fun _ h => .inl h) (fun _ _ => rfl) (Calm.of_ext (Ext.refl w))
/-- a row of values that have no blocks never turns again -/
theorem fz_row {E : TypeId} {sz n : Nat} (ps : List VP) : ∀ Z v w S, (HA.row E sz n (ps.map HA.of)).p Z v w S → (VP.ro n ps).p (fun b => Z b ∨ S b) v w := fun Z v w S ⟨h0, h⟩ => by
  rcases h with ⟨rfl, rfl, _⟩ | ⟨g, cap, cur, S', rfl, h2, h3, h4, h5, h6, h7, h8, h9⟩
  · refine ⟨none, 0, rfl, Nat.le_refl _, by simp [maxLen], .inl ?_⟩
    rw [Nat.zero_mul] at h0
    exact List.eq_nil_of_length_eq_zero (by simpa using h0)
  · refine ⟨_, cap, rfl, h3, h4, .inr ⟨g, 0, rfl, .inr ((h7 g).2 (.inl rfl)), fun j x hx => ?_⟩⟩
    obtain ⟨u, k1, k2⟩ := h6.all2.1.get hx
    refine ⟨u, ?_, x.hst _ _ _ _ _ k2 (fun _ h => .inl h) (fun _ _ => rfl) (Calm.of_ext (Ext.refl w))⟩
    rw [List.getElem?_take] at k1
    split at k1
    · rw [cell_of_row w g _ cur E (0, 0) h2, Nat.zero_add]; simpa using k1
    · cases k1
/-- what is looked at, opened -/
theorem t_bor {r : Ref} {R : HA} {α : Type} (news : α → List Fact) (hn : ∀ x, (news x).all (fun f => !f.isOwn) = true)
    (hh : ∀ γ a w v S, r.den a v → (∀ b, S b → F.Bf b) → R.p γ.Z v w S → ∃ x, ∀ f ∈ news x, f.holds F γ a w) (h : ∀ x, Sat F (news x ++ rest) K) : Sat F (.bor r R :: rest) K := fun a w ⟨γ, g⟩ => by
  obtain ⟨v, S, h1, h2, h3⟩ := g.hold _ (List.mem_cons_self ..)
  obtain ⟨x, hx⟩ := hh γ a w v S h1 h2 h3
  have no : ∀ {k r R}, ¬ Fact.own k r R ∈ news x := fun {k r R} hm => by have := List.all_eq_true.1 (hn x) _ hm; cases this
  refine h x a w ⟨γ, g.ok, g.sz, g.df, g.turn, g.zmono, g.zof, fun f hf => ?_, fun k r R k' r' R' h1 h2 hne => ?_, fun k r R h1 => ?_⟩
  · rcases List.mem_append.1 hf with hf | hf
    · exact hx f hf
    · exact g.hold f (List.mem_cons_of_mem _ hf)
  · rcases List.mem_append.1 h1 with h1 | h1
    · exact (no h1).elim
    rcases List.mem_append.1 h2 with h2 | h2
    · exact (no h2).elim
    exact g.sep _ _ _ _ _ _ (List.mem_cons_of_mem _ h1) (List.mem_cons_of_mem _ h2) hne
  · rcases List.mem_append.1 h1 with h1 | h1
    · exact (no h1).elim
    exact g.bnd _ _ _ (List.mem_cons_of_mem _ h1)
theorem b_part {r : Ref} {R P : HA} {H : HA → HA} (hp : Part R P H) (h : ∀ u, Sat F (.bor r (H (HA.of (VP.eq u P.nu P.one))) :: .bor (.val u) P :: rest) K) : Sat F (.bor r R :: rest) K :=
  t_bor (α := Value) (fun u => [.bor r (H (HA.of (VP.eq u P.nu P.one))), .bor (.val u) P]) (fun _ => rfl) (fun γ a w v S h1 h2 h3 => by
    obtain ⟨u, S1, S2, e, d, h4, h5⟩ := hp _ _ _ _ h3
    refine ⟨u, fun f hf => ?_⟩
    simp only [List.mem_cons, List.not_mem_nil, or_false] at hf
    rcases hf with rfl | rfl
    · exact ⟨v, S2, h1, fun b hb => h2 b ((e b).2 (.inr hb)), h5⟩
    · exact ⟨u, S1, rfl, fun b hb => h2 b ((e b).2 (.inl hb)), h4⟩) h
theorem b_know {r : Ref} {R : HA} {φ : Prop} (hφ : ∀ Z v w S, R.p Z v w S → φ) (h : φ → Sat F (.bor r R :: rest) K) : Sat F (.bor r R :: rest) K :=
  t_know (fun γ a w ⟨v, _, _, _, h2⟩ => hφ _ v w _ h2) h
end
end O
end Go.Proofs.Ytapmngmpomhjmaa

/- The logic over objects: rows: built, made, appended to, cut, counted, indexed. -/
namespace Go.Proofs.Ytapmngmpomhjmaa
open Go.RowKit
namespace O
def noUb : Value → Bool
  | .int k _ => !(k == .u32)
  | _ => true
theorem noUb_spec {v : Value} (h : noUb v = true) : NoU v := fun n e => by rw [e] at h; simp [noUb] at h
theorem noUs_spec {l : List Value} (h : l.all noUb = true) : ∀ u ∈ l, NoU u := fun u hu => noUb_spec (List.all_eq_true.1 h u hu)
theorem zeroCells_mem {z : Array Value} {n : Nat} (hz : 0 < z.size) : ∀ u ∈ (Builtin.zeroCells z n).toList, u ∈ z.toList := fun u hu => by
  unfold Builtin.zeroCells at hu
  simp only [Array.toList_map, List.mem_map] at hu
  obtain ⟨i, _, rfl⟩ := hu
  rw [getElem!_pos z _ (Nat.mod_lt _ hz)]
  simp
theorem madeCells_mem {z : Array Value} {n : Nat} (hz : 0 < z.size) : ∀ u ∈ (madeCells z n).toList, u ∈ z.toList := fun u hu => by
  unfold madeCells at hu
  simp only [Array.toList_map, List.mem_map] at hu
  obtain ⟨i, _, rfl⟩ := hu
  rw [getElem!_pos z _ (Nat.mod_lt _ hz)]
  simp
/-- a row in a new block -/
theorem row_new {Z : Foot} {w : World} {E : TypeId} {size n cap : Nat} {Rs : List HA} {xs rest : List Value} {S : Foot} (w1 : World) (h1 : w1.heap = w.heap) (hl : Rs.length = n * size) (h : AllS Z Rs xs w S) (hn : ∀ u ∈ xs ++ rest, NoU u) (hc : xs.length + rest.length = cap * size) (hnc : n ≤ cap) (hcm : cap ≤ maxLen) (hZ : ∀ b, Z b → b < w.heap.size) (hS : ∀ b, S b → b < w.heap.size) :
    (HA.row E size n Rs).p Z (.slice (some ⟨w.heap.size, 0, none⟩) n cap) (w1.alloc (.cells (xs ++ rest).toArray E)) (fun b => b = w.heap.size ∨ S b) := by
  have old : ∀ b, b < w.heap.size → (w1.alloc (.cells (xs ++ rest).toArray E)).heap[b]? = w.heap[b]? := fun b hb => by
    rw [(Ext.new w1 _).block b (by rw [h1]; exact hb), h1]
  refine ⟨hl, .inr ⟨_, cap, (xs ++ rest).toArray, S, rfl, by rw [← h1]; exact heap_alloc_new w1 _, hnc, hcm, by simpa using hc, ?_, fun b => Iff.rfl, fun hb => Nat.lt_irrefl _ (hS _ hb), by simpa using hn⟩⟩
  have : ((xs ++ rest).toArray.toList).take (n * size) = xs := by
    have hx := h.len
    show (xs ++ rest).take (n * size) = xs
    rw [← hl, ← hx]; exact List.take_left
  rw [this]
  refine h.st (fun _ h => h) (fun b hb => old b (hZ b hb)) ⟨?_, fun b hb => .inl (old b hb)⟩ fun b hb => old b (hS b hb)
  simp [h1]
theorem turn_alloc {S : Foot} {w w1 : World} (ob : Obj) (e : Ext w w1) : Turn S w (w1.alloc ob) := .of_ext (e.alloc ob)
theorem row_append {P : Program} {T E : TypeId} {z : Value} {size bytes : Nat} (he : Elem P T E z size bytes) (hzn : z.cells.toList.all noUb = true) {Z : Foot} {w : World} {v : Value} {n : Nat} {Ps : List HA} {S : Foot} (hv : (HA.row E size n Ps).p Z v w S)
    (hS : ∀ b, S b → b < w.heap.size ∧ ¬ Z b) (hZ : ∀ b, Z b → b < w.heap.size) {A : Option Addr} {m c : Nat} {cs : List Value} {Qs : List HA} {S2 : Foot} (ha : A = none → m = 0) (hcs : cs = [] ∨ ∃ g off, A = some ⟨g, off, none⟩ ∧ ∀ j u, cs[j]? = some u → w.cell? ⟨g, off + j, none⟩ = some u)
    (hq : AllS Z Qs cs w S2) (hql : Qs.length = m * size) (hone : Qs.all (·.one) = true) (hnu : Qs.all (·.nu) = true) (hd : ∀ b, S b → ¬ S2 b) (hS2 : ∀ b, S2 b → b < w.heap.size) (hb : n + m ≤ maxLen) (hbb : (n + m) * bytes ≤ 140737488355328) (ty : TypeId) :
    ∃ (v' : Value) (w' : World) (S' : Foot), (Builtin.append_ #[T, T] ty #[v, .slice A m c]).run P w = .ok v' w' ∧ (HA.row E size (n + m) (Ps ++ Qs)).p Z v' w' S' ∧ Turn S w w' ∧ ∀ b, S' b → (S b ∨ S2 b ∨ w.heap.size ≤ b) ∧ b < w'.heap.size := by
  obtain ⟨ht, i, hi, hz, hsz, hby, hzs, hpos⟩ := he
  subst hsz hby
  have hzm : 0 < z.cells.size := by omega
  have hcl : cs.length = m * i.size := by rw [hq.len, hql]
  have hlen : (Ps ++ Qs).length = (n + m) * i.size := by rw [List.length_append, hv.1, hql, Nat.add_mul]
  have hzero : ∀ k, ∀ u ∈ (Builtin.zeroCells z.cells k).toList, NoU u := fun k u hu => noUs_spec hzn u (zeroCells_mem hzm u hu)
  have hqn := hq.nus hnu
  have hml : maxLen = 9223372036854775807 ∨ maxLen ≤ 9223372036854775807 := .inr (by simp [maxLen])
  rcases A with _ | ad
  · -- nothing is appended
    obtain rfl := ha rfl
    obtain rfl : cs = [] := List.eq_nil_of_length_eq_zero (by simpa using hcl)
    obtain rfl : Qs = [] := List.eq_nil_of_length_eq_zero (by simpa using hql)
    refine ⟨v, w, S, ?_, by simpa using hv, .refl _ _, fun b hb => ⟨.inl hb, (hS b hb).1⟩⟩
    rcases hv.2 with ⟨rfl, rfl, _⟩ | ⟨g, cap, cur, S', rfl, hg, hnc, _⟩
    · simp [Builtin.append_, run_underlying ht, sizeOf, typeInfo, hi, Builtin.lenOf, Builtin.firstCells]
    · simp [Builtin.append_, run_underlying ht, sizeOf, typeInfo, hi, Builtin.lenOf, Builtin.firstCells, hnc, storeCells]
  have hnews : ∀ j u, cs[j]? = some u → w.cell? (ad.add j) = some u := fun j u hu => by
    rcases hcs with rfl | ⟨g, off, e, h⟩
    · simp at hu
    · injection e with e; subst e; rw [add_plain]; exact h j u hu
  rcases hv.2 with ⟨rfl, rfl, hno⟩ | ⟨g, cap, cur, S', rfl, hg, hnc, hcm, hcs', hall, hSe, hgS, hcn⟩
  · have hP : Ps = [] := List.eq_nil_of_length_eq_zero (by have := hv.1; simpa using this)
    subst hP
    by_cases hm : m = 0
    · subst hm
      obtain rfl : cs = [] := List.eq_nil_of_length_eq_zero (by simpa using hcl)
      obtain rfl : Qs = [] := List.eq_nil_of_length_eq_zero (by simpa using hql)
      refine ⟨.slice none 0 0, w, S, ?_, by simpa using hv, .refl _ _, fun b hb => (hno b hb).elim⟩
      simp [Builtin.append_, run_underlying ht, sizeOf, typeInfo, hi, Builtin.lenOf, Builtin.firstCells, loadCells, loadCellsFrom]
    · have hr := run_append_nil (P := P) w T ty E i z ht hi hz ad m c cs hcl hnews (by omega) (by rcases hml with h | h <;> omega) (by have := hbb; simp only [Nat.zero_add] at this; omega)
      have hge := grownCap_ge w m 0 E
      have hcm := grownCap_le_maxLen w m 0 E (by omega)
      refine ⟨_, _, fun b => b = w.heap.size ∨ S2 b, hr, ?_, turn_alloc _ (Ext.refl w).drew, fun b hb => ?_⟩
      · have := row_new (E := E) (n := m) (cap := grownCap w m 0 E) (w := w) (rest := (Builtin.zeroCells z.cells (grownCap w m 0 E - m)).toList) w.drew rfl (by simpa using hql) hq (fun u hu => (List.mem_append.1 hu).elim (hqn u) (hzero _ u)) (by
          rw [hcl, Array.length_toList, size_zeroCells, hzs, ← Nat.add_mul]; congr 1; omega) hge hcm hZ hS2
        have ea : cs.toArray ++ Builtin.zeroCells z.cells (grownCap w m 0 E - m) = (cs ++ (Builtin.zeroCells z.cells (grownCap w m 0 E - m)).toList).toArray := Array.toList_inj.1 (by simp)
        rw [ea, Nat.zero_add, List.nil_append]; exact this
      · rcases hb with rfl | hb
        · exact ⟨.inr (.inr (Nat.le_refl _)), by simp⟩
        · exact ⟨.inr (.inl hb), Nat.lt_of_lt_of_le (hS2 b hb) (by simp)⟩
  · have hcurl : cur.size = cap * i.size := hcs'
    have hxl : (cur.toList.take (n * i.size)).length = n * i.size := by
      rw [List.length_take, Array.length_toList, hcurl]
      exact Nat.min_eq_left (Nat.mul_le_mul_right _ hnc)
    have hS'S : ∀ b, S' b → S b := fun b hb => (hSe b).2 (.inr hb)
    by_cases hroom : n + m ≤ cap
    · have hfit : n * i.size + cs.length ≤ cur.size := by rw [hcl, hcurl, ← Nat.add_mul]; exact Nat.mul_le_mul_right _ hroom
      have hr := run_append_room (P := P) w T ty E i ht hi g n cap cur hg ad m c cs hcl hnews (hq.ones hone) hroom hfit
      generalize hds : cur.toList.take (n * i.size) ++ cs ++ cur.toList.drop (n * i.size + cs.length) = ds at hr
      have hdl : ds.length = cur.size := by
        rw [← hds]
        simp only [List.length_append, List.length_drop, Array.length_toList, hxl]; omega
      have hrow : Row w g E cur.toList := by unfold Row; simpa using hg
      have t : Turn (fun b => b = g) w (w.setRow g ds.toArray) := setRow_turn hrow hcn ds rfl
      have nog : ∀ b, S' b ∨ S2 b → b ≠ g := fun b hb e => by
        subst e
        rcases hb with hb | hb
        · exact hgS hb
        · exact hd _ ((hSe _).2 (.inl rfl)) hb
      refine ⟨_, _, fun b => b = g ∨ (S' b ∨ S2 b), hr, ⟨hlen, .inr ⟨g, cap, ds.toArray, fun b => S' b ∨ S2 b, rfl, setRow_heap w g cur _ E _ hg, hroom, hcm, by simpa [hcurl] using hdl, ?_, fun b => Iff.rfl, fun hb => nog _ hb rfl, fun u hu => ?_⟩⟩, t.mono fun b _ e => (hSe b).2 (.inl e), fun b hb => ?_⟩
      · have : ds.take ((n + m) * i.size) = cur.toList.take (n * i.size) ++ cs := by
          rw [← hds, show (n + m) * i.size = (cur.toList.take (n * i.size) ++ cs).length by rw [List.length_append, hxl, hcl, Nat.add_mul]]
          exact List.take_left
        show AllS Z (Ps ++ Qs) (ds.take ((n + m) * i.size)) _ _
        rw [this]
        refine (AllS.app hall hq fun b hb => hd b (hS'S b hb)).st (fun _ h => h) (fun b hb => t.block b (hZ b hb) fun e => (hS b ((hSe b).2 (.inl e))).2 hb) t.toCalm fun b hb => t.block b ?_ (nog b hb)
        rcases hb with hb | hb
        · exact (hS b (hS'S b hb)).1
        · exact hS2 b hb
      · have hu : u ∈ ds := by simpa using hu
        rw [← hds, List.mem_append, List.mem_append] at hu
        rcases hu with (hu | hu) | hu
        · exact hcn u (List.mem_of_mem_take hu)
        · exact hqn u hu
        · exact hcn u (List.mem_of_mem_drop hu)
      · rw [setRow_size]
        rcases hb with rfl | hb | hb
        · exact ⟨.inl ((hSe _).2 (.inl rfl)), (hS _ ((hSe _).2 (.inl rfl))).1⟩
        · exact ⟨.inl (hS'S b hb), (hS b (hS'S b hb)).1⟩
        · exact ⟨.inr (.inl hb), hS2 b hb⟩
    · have holds : ∀ j u, (cur.toList.take (n * i.size))[j]? = some u → w.cell? ((⟨g, 0, none⟩ : Addr).add j) = some u := fun j u hu => by
        rw [add_plain, Nat.zero_add, cell_of_row w g j cur E (0, 0) hg]
        rw [List.getElem?_take] at hu
        split at hu
        · simpa using hu
        · cases hu
      have hr := run_append_grow (P := P) w T ty E i z ht hi hz ⟨g, 0, none⟩ n cap _ hxl holds ad m c cs hcl hnews (by omega) (by rcases hml with h | h <;> omega) (growslice_fits (by omega) hbb)
      have hge := grownCap_ge w (n + m) cap E
      have hcm2 := grownCap_le_maxLen w (n + m) cap E hb
      have hall2 := AllS.app hall hq fun b hb => hd b (hS'S b hb)
      refine ⟨_, _, fun b => b = w.heap.size ∨ (S' b ∨ S2 b), hr, ?_, turn_alloc _ (Ext.refl w).drew, fun b hb => ?_⟩
      · have := row_new (E := E) (n := n + m) (cap := grownCap w (n + m) cap E) (w := w) (rest := (Builtin.zeroCells z.cells (grownCap w (n + m) cap E - (n + m))).toList) w.drew rfl hlen hall2 (fun u hu => by
          rcases List.mem_append.1 hu with hu | hu
          · rcases List.mem_append.1 hu with hu | hu
            · exact hcn u (List.mem_of_mem_take hu)
            · exact hqn u hu
          · exact hzero _ u hu) (by
          rw [List.length_append, hxl, hcl, Array.length_toList, size_zeroCells, hzs, ← Nat.add_mul, ← Nat.add_mul]; congr 1; omega) hge hcm2 hZ (fun b hb => by
          rcases hb with hb | hb
          · exact (hS b (hS'S b hb)).1
          · exact hS2 b hb)
        have ea : (cur.toList.take (n * i.size)).toArray ++ cs.toArray ++ Builtin.zeroCells z.cells (grownCap w (n + m) cap E - (n + m)) = (cur.toList.take (n * i.size) ++ cs ++ (Builtin.zeroCells z.cells (grownCap w (n + m) cap E - (n + m))).toList).toArray := Array.toList_inj.1 (by simp)
        rw [ea]; exact this
      · rcases hb with rfl | hb | hb
        · exact ⟨.inr (.inr (Nat.le_refl _)), by simp⟩
        · exact ⟨.inl (hS'S b hb), Nat.lt_of_lt_of_le (hS b (hS'S b hb)).1 (by simp)⟩
        · exact ⟨.inr (.inl hb), Nat.lt_of_lt_of_le (hS2 b hb) (by simp)⟩
section
variable {X : Cx} {i : Nat} {pre suc : List Nat}
/-- what is appended: the elements of this slice -/
def Src (X : Cx) (i : Nat) (pre suc : List Nat) (y : Operand) (m : Nat) (Qs : List HA) (id : Option Nat) : Prop := ∀ c γ a w, Sit X i pre suc c γ a w → ∃ (A : Option Addr) (cp : Nat) (cs : List Value) (S : Foot), a.eval y = .slice A m cp ∧ (A = none → m = 0) ∧ (cs = [] ∨ ∃ g off, A = some ⟨g, off, none⟩ ∧ ∀ j u, cs[j]? = some u → w.cell? ⟨g, off + j, none⟩ = some u) ∧ AllS γ.Z Qs cs w S ∧ ∀ b, S b → ∃ k ∈ id, γ.σ k b ∧ ∃ r R, Has X c (.own k r R)
theorem src_row' {Z : Foot} {w : World} {E : TypeId} {sz m : Nat} {Qs : List HA} {v : Value} {S : Foot} (h : (HA.row E sz m Qs).p Z v w S) : ∃ (A : Option Addr) (cp : Nat) (cs : List Value) (S' : Foot), v = .slice A m cp ∧ (A = none → m = 0) ∧ (cs = [] ∨ ∃ g off, A = some ⟨g, off, none⟩ ∧ ∀ j u, cs[j]? = some u → w.cell? ⟨g, off + j, none⟩ = some u) ∧ AllS Z Qs cs w S' ∧ ∀ b, S' b → S b := by
  obtain ⟨h0, ⟨rfl, rfl, hno⟩ | ⟨g, cap, cur, S', rfl, hg, hnc, hcm, hcs, hall, hSe, _⟩⟩ := h
  · obtain rfl : Qs = [] := List.eq_nil_of_length_eq_zero (by simpa using h0)
    exact ⟨none, 0, [], S, rfl, fun _ => rfl, .inl rfl, hno, fun _ h => h⟩
  · refine ⟨_, cap, _, S', rfl, fun h => (by cases h), .inr ⟨g, 0, rfl, fun j u hu => ?_⟩, hall, fun b hb => (hSe b).2 (.inr hb)⟩
    rw [Nat.zero_add, cell_of_row w g j cur E (0, 0) hg]
    rw [List.getElem?_take] at hu
    split at hu
    · simpa using hu
    · cases hu
/-- a slice built here: what its elements have moves on -/
theorem src_row {k id : Nat} {E : TypeId} {sz m : Nat} {Qs : List HA} (h : Av X i pre suc (.own id (.tmp k) (HA.row E sz m Qs))) : Src X i pre suc (.tmp k) m Qs (some id) := fun c γ a w s => by
  obtain ⟨v, h1, h2⟩ := h.h s
  obtain ⟨A, cp, cs, S', e, h3, h4, h5, h6⟩ := src_row' h2
  exact ⟨A, cp, cs, S', by rw [eval_tmp h1, e], h3, h4, h5, fun b hb => ⟨id, rfl, h6 b hb, _, _, h c γ a w s⟩⟩
theorem sit_own {id : Nat} {v : Value} {R : HA} (h : Av X i pre suc (.own id (.val v) R)) : ∀ c γ a w, Sit X i pre suc c γ a w → ∃ S, R.p γ.Z v w S := fun c γ a w s => by
  obtain ⟨u, h1, h2⟩ := h.h s
  have h1 : u = v := h1
  subst h1; exact ⟨_, h2⟩
theorem sit_bor {v : Value} {R : HA} (h : Av X i pre suc (.bor (.val v) R)) : ∀ c γ a w, Sit X i pre suc c γ a w → ∃ S, R.p γ.Z v w S := fun c γ a w s => by
  obtain ⟨u, S, h1, _, h2⟩ := h.h s
  have h1 : u = v := h1
  subst h1; exact ⟨_, h2⟩
theorem src_ro {y : Operand} {m : Nat} {qs : List VP} (h : Ar X i pre suc y (VP.ro m qs).p) (hm : m = 0 ∨ 0 < qs.length) : Src X i pre suc y m (qs.map HA.of) none := fun c γ a w s => by
  obtain ⟨A, cp, h1, h2, h3, h4⟩ := h c γ a w s
  rcases h4 with rfl | ⟨g, off, rfl, hz, h5⟩
  · exact ⟨A, cp, [], fun _ => False, h1, fun _ => hm.elim id (fun h => by simp at h), .inl rfl, fun _ h => h, fun _ h => h.elim⟩
  · obtain ⟨cs, h6, h7⟩ := cells_all2' h5
    exact ⟨_, cp, cs, fun _ => False, h1, fun h => (by cases h), .inr ⟨g, off, rfl, h7⟩, AllS.of_all2 (fun _ h => h) h6, fun _ h => h.elim⟩
theorem does_append {o : Oper} {d id : Nat} {T E : TypeId} {z : Value} {size bytes n m n' : Nat} {Ps Qs Rs : List HA} {idd ids : Option Nat} (he : Elem X.P T E z size bytes) (hzn : z.cells.toList.all noUb = true) (y u : Operand)
    (hop : o.op = .call { callee := .builtin .append, args := #[y, u], argTypes := #[T, T] }) (hd : o.dst = some d) (hlt : decide (d < X.N) = true) (hc : chkM X i pre suc (some d) (id :: (idd.toList ++ ids.toList)) = true)
    (hr : resOf X i = [.own id (.tmp d) (HA.row E size n' Rs)]) (hnm : n + m = n') (hrs : Ps ++ Qs = Rs) (hne : (ids.isNone || !(idd == ids)) = true) (hb : n + m ≤ 100000000000 ∧ bytes ≤ 1000) (hql : Qs.length = m * size) (hqo : Qs.all (·.one) = true) (hqn : Qs.all (·.nu) = true)
    (h1 : Mv X i pre suc y (HA.row E size n Ps) idd) (h2 : Src X i pre suc u m Qs ids) : Does X i pre suc o := by
  subst hrs hnm
  intro c γ a w s Q K hK
  obtain ⟨S1, e1, e2⟩ := h1 c γ a w s
  obtain ⟨A, cp, cs, S2, k1, k2, k3, k4, k5⟩ := h2 c γ a w s
  have own : ∀ {o : Option Nat} {b : Nat}, (∃ k ∈ o, γ.σ k b ∧ ∃ r R, Has X c (.own k r R)) → b < w.heap.size ∧ ¬ γ.Z b := fun {o b} ⟨k, _, hk, r, R, hh⟩ => ⟨(s.g.bnd k r R hh b hk).1, (s.g.bnd k r R hh b hk).2.2⟩
  have hbig : (n + m) * bytes ≤ 140737488355328 := Nat.le_trans (Nat.mul_le_mul hb.1 hb.2) (by omega)
  obtain ⟨v', w', S', r1, r2, r3, r4⟩ := row_append he hzn e1 (fun b hb => own (e2 b hb)) (fun b hb => (s.g.zof b hb).1) k2 k3 k4 hql hqo hqn (fun b hb hb' => by
    obtain ⟨k, hk, m1, r, R, m2⟩ := e2 b hb
    obtain ⟨k', hk', m3, r', R', m4⟩ := k5 b hb'
    refine s.g.sep k r R k' r' R' m2 m4 (fun e => ?_) b m1 m3
    simp only [Option.mem_def] at hk hk'
    subst hk hk' e
    simp at hne) (fun b hb => (own (k5 b hb)).1) (by unfold maxLen; omega) hbig o.type
  unfold Oper.wp execOp
  simp only [hop, resolve, invoke, builtin, Sem.run_bind, Sem.run_pure, Result.andThen_ok, List.map_toArray, List.map_cons, List.map_nil, k1]
  rw [r1]
  show K (a.put o.dst v') w'
  rw [hd]
  have hE : ∀ b, (S1 b ∨ S2 b) → ∃ k ∈ id :: (idd.toList ++ ids.toList), γ.σ k b ∧ ∃ r R, Has X c (.own k r R) := fun b hb => by
    rcases hb with hb | hb
    · obtain ⟨k, hk, h⟩ := e2 b hb
      exact ⟨k, List.mem_cons_of_mem _ (List.mem_append_left _ (by simpa [Option.mem_toList] using hk)), h⟩
    · obtain ⟨k, hk, h⟩ := k5 b hb
      exact ⟨k, List.mem_cons_of_mem _ (List.mem_append_right _ (by simpa [Option.mem_toList] using hk)), h⟩
  refine hK _ _ _ (step_own s hc hr (fun b => S1 b ∨ S2 b) S' hE (by rw [put_size]; exact s.g.sz) (by rw [put_defers']; exact s.g.df) (r3.mono fun b _ h => .inl h) (ha_put d a v' _ γ) (put_eq v' (by rw [s.g.sz]; exact of_decide_eq_true hlt)) r2 fun b hb => ?_)
  obtain ⟨h, h'⟩ := r4 b hb
  refine ⟨?_, h'⟩
  rcases h with h | h | h
  · exact .inl (.inl h)
  · exact .inl (.inr h)
  · exact .inr h
/-- parts of a struct, or of a slice, that is built -/
inductive Parts (X : Cx) (i : Nat) (pre suc : List Nat) (place : Nat → Option (Nat × Nat)) : List (Nat × Operand) → List HA → List HA → List Nat → Prop where
  | nil (ps : List HA) : Parts X i pre suc place [] ps ps []
  | cons {f : Nat} {x : Operand} {rest : List (Nat × Operand)} {ps ps' : List HA} {ids : List Nat} (off : Nat) (qs : List HA) (id : Option Nat) (hp : place f = some (off, qs.length)) (hl : decide (off + qs.length ≤ ps.length) = true) (hx : Cv X i pre suc x qs id)
      (h : Parts X i pre suc place rest (ps.take off ++ qs ++ ps.drop (off + qs.length)) ps' ids) : Parts X i pre suc place ((f, x) :: rest) ps ps' (id.toList ++ ids)
theorem parts_fill {place : Nat → Option (Nat × Nat)} {c : Nat → Bool} {γ : Gho} {a : Act} {w : World} (s : Sit X i pre suc c γ a w) : ∀ {parts : List (Nat × Operand)} {ps ps' : List HA} {ids : List Nat}, Parts X i pre suc place parts ps ps' ids → ids.Nodup → ∀ (cs : List Value) (S : Foot), AllS γ.Z ps cs w S → (∀ b k, k ∈ ids → γ.σ k b → (∃ r R, Has X c (.own k r R)) → ¬ S b) →
    ∃ (ds : List Value) (S' : Foot), Instr.fill place cs.toArray (parts.map fun x => (x.1, a.eval x.2)) = some ds.toArray ∧ AllS γ.Z ps' ds w S' ∧ ∀ b, S' b → S b ∨ ∃ k ∈ ids, γ.σ k b ∧ ∃ r R, Has X c (.own k r R) := by
  intro parts ps ps' ids h
  induction h with
  | nil ps => intro _ cs S hc _; exact ⟨cs, S, rfl, hc, fun b hb => .inl hb⟩
  | @cons f x rest ps ps' ids off qs id hp hl hx h ih =>
    intro hnd cs S hc hS
    obtain ⟨T, h1, h2⟩ := hx c γ a w s
    have hl := of_decide_eq_true hl
    have hlen := hc.len
    have hdis : ∀ b, S b → ¬ T b := fun b hb hb' => by
      obtain ⟨k, hk, m1, m2⟩ := h2 b hb'
      exact hS b k (List.mem_append_left _ (by simpa [Option.mem_toList] using hk)) m1 m2 hb
    obtain ⟨S1, g1, g2⟩ := hc.splice off qs.length hl h1 hdis
    rw [List.nodup_append] at hnd
    obtain ⟨ds, S', e1, e2, e3⟩ := ih hnd.2.1 _ _ g2 (fun b k hk hb hh hb' => by
      rcases hb' with hb' | hb'
      · exact hS b k (List.mem_append_right _ hk) hb hh (g1 b hb')
      · obtain ⟨k', hk', m1, r', R', m2⟩ := h2 b hb'
        obtain ⟨r, R, hh⟩ := hh
        exact s.g.sep k r R k' r' R' hh m2 (fun e => hnd.2.2 k' (by simpa [Option.mem_toList] using hk') k hk e.symm) b hb m1)
    refine ⟨ds, S', ?_, e2, fun b hb => ?_⟩
    · have h1l : (a.eval x).cells.size = qs.length := by simpa using h1.len
      rw [List.map_cons]
      unfold Instr.fill
      simp only [hp]
      rw [if_neg (by simp; omega)]
      have := fold_set' off (a.eval x).cells cs.toArray (by simp; omega)
      rw [h1l] at this
      rw [← e1]
      congr 1
    · rcases e3 b hb with h | ⟨k, hk, h⟩
      · rcases h with h | h
        · exact .inl (g1 b h)
        · obtain ⟨k, hk, h⟩ := h2 b h
          exact .inr ⟨k, List.mem_append_left _ (by simpa [Option.mem_toList] using hk), h⟩
      · exact .inr ⟨k, List.mem_append_right _ hk, h⟩
/-- an operation that leaves a new value with what others had -/
theorem does_taken {o : Oper} {d id : Nat} {R : HA} {ids : List Nat} (hd : o.dst = some d) (hlt : decide (d < X.N) = true) (hc : chkM X i pre suc (some d) (id :: ids) = true) (hr : resOf X i = [.own id (.tmp d) R])
    (h : ∀ c γ a w, Sit X i pre suc c γ a w → ∃ (v : Value) (w' : World) (S : Foot), (execOp a.eval o).run X.P w = .ok (.value v) w' ∧ Ext w w' ∧ R.p γ.Z v w' S ∧ ∀ b, S b → (w.heap.size ≤ b ∧ b < w'.heap.size) ∨ ∃ k ∈ ids, γ.σ k b ∧ ∃ r R, Has X c (.own k r R)) : Does X i pre suc o := by
  intro c γ a w s Q K hK
  obtain ⟨v, w', S, h1, e, h2, h3⟩ := h c γ a w s
  have hlt' := of_decide_eq_true hlt
  unfold Oper.wp
  rw [h1]
  show K (a.put o.dst v) _
  rw [hd]
  refine hK _ _ _ (step_own s hc hr (fun b => ∃ k ∈ ids, γ.σ k b ∧ ∃ r R, Has X c (.own k r R)) S (fun b ⟨k, hk, h⟩ => ⟨k, List.mem_cons_of_mem _ hk, h⟩) (by rw [put_size]; exact s.g.sz) (by rw [put_defers']; exact s.g.df) (.of_ext e) (ha_put d a v _ γ) (put_eq v (by rw [s.g.sz]; exact hlt')) h2 fun b hb => ?_)
  rcases h3 b hb with ⟨h, h'⟩ | hk
  · exact ⟨.inr h, h'⟩
  · have hk' := hk
    obtain ⟨k, _, m1, r, R', m2⟩ := hk'
    exact ⟨.inl hk, Nat.lt_of_lt_of_le (s.g.bnd k r R' m2 b m1).1 e.size⟩
theorem run_build {T : TypeId} {parts : Array (Nat × Operand)} {zs : List Value} {pl : Array (Nat × Nat)} (hz : zeroOf X.P T zs) (hpl : placesOf X.P T pl) {a : Act} {w : World} {ds : List Value} (e1 : Instr.fill (fun f => pl[f]?) zs.toArray (parts.toList.map fun x => (x.1, a.eval x.2)) = some ds.toArray) :
    (Instr.build T (parts.map fun x => (x.1, a.eval x.2))).run X.P w = .ok (.agg ds.toArray) w := by
  obtain ⟨fs, hu, hm⟩ := hpl
  unfold zeroOf at hz
  obtain ⟨ti, h1, h2⟩ := Option.bind_eq_some_iff.1 hz
  obtain ⟨v, h3, h4⟩ := Option.map_eq_some_iff.1 h2
  have hz' : (zeroValue T).run X.P w = .ok v w := by simp [zeroValue, typeInfo, h1, h3]
  have hcs : v.cells = zs.toArray := by rw [← h4]
  have hpt : (Array.map (fun x => (x.1, a.eval x.2)) parts).toList = parts.toList.map (fun x => (x.1, a.eval x.2)) := by simp
  unfold Instr.build
  simp only [Sem.run_bind, hz', Result.andThen_ok, run_underlying hu, hm w, hpt, hcs, e1, Sem.run_pure]
theorem does_buildO {o : Oper} {d id : Nat} {T : TypeId} {parts : Array (Nat × Operand)} {zs : List Value} {pl : Array (Nat × Nat)} {Rs : List HA} {ids : List Nat} (ps0 : List VP) (hz : zeroOf X.P T zs) (hpl : placesOf X.P T pl) (hop : o.op = .build T parts) (hd : o.dst = some d) (hlt : decide (d < X.N) = true) (hc : chkM X i pre suc (some d) (id :: ids) = true)
    (hr : resOf X i = [.own id (.tmp d) (HA.agg Rs)]) (h0 : ∀ Z w, All2 Z ps0 zs w) (hn : decide ids.Nodup = true) (h : Parts X i pre suc (fun f => pl[f]?) parts.toList (ps0.map HA.of) Rs ids) : Does X i pre suc o :=
  does_taken hd hlt hc hr fun c γ a w s => by
    obtain ⟨ds, S', e1, e2, e3⟩ := parts_fill s h (of_decide_eq_true hn) zs (fun _ => False) (AllS.of_all2 (fun _ h => h) (h0 γ.Z w)) (fun _ _ _ _ _ h => h)
    refine ⟨.agg ds.toArray, w, S', ?_, Ext.refl w, ⟨ds, rfl, e2⟩, fun b hb => .inr ((e3 b hb).elim (fun h => h.elim) fun h => h)⟩
    unfold execOp; rw [hop]
    have hb' : (Instr.build T (parts.map fun (i, x) => (i, a.eval x))).run X.P w = .ok (.agg ds.toArray) w := run_build hz hpl e1
    simp only [Sem.run_bind, hb', Result.andThen_ok, Sem.run_pure]
theorem does_build {o : Oper} {d : Nat} {T : TypeId} {parts : Array (Nat × Operand)} {zs : List Value} {pl : Array (Nat × Nat)} {ps : List VP} (ps0 : List VP) (hz : zeroOf X.P T zs) (hpl : placesOf X.P T pl) (hop : o.op = .build T parts) (hd : o.dst = some d) (hlt : decide (d < X.N) = true) (hc : chk X i pre suc d = true)
    (hr : resOf X i = [.slot d (VP.agg ps)]) (h0 : ∀ Z w, All2 Z ps0 zs w) (h : Parts X i pre suc (fun f => pl[f]?) parts.toList (ps0.map HA.of) (ps.map HA.of) []) : Does X i pre suc o :=
  does_run hd hlt hc hr fun c γ a w s => by
    obtain ⟨ds, S', e1, e2, e3⟩ := parts_fill s h List.nodup_nil zs (fun _ => False) (AllS.of_all2 (fun _ h => h) (h0 γ.Z w)) (fun _ _ _ _ _ h => h)
    refine ⟨.agg ds.toArray, ?_, ds, rfl, e2.all2.1⟩
    unfold execOp; rw [hop]
    have hb' : (Instr.build T (parts.map fun (i, x) => (i, a.eval x))).run X.P w = .ok (.agg ds.toArray) w := run_build hz hpl e1
    simp only [Sem.run_bind, hb', Result.andThen_ok, Sem.run_pure]
/-- the zeros of n elements -/
def zerosOf (z : Value) (k : Nat) : List Value := (madeCells z.cells k).toList
theorem does_sliceLit {o : Oper} {d id n : Nat} {T E : TypeId} {z : Value} {size bytes : Nat} {parts : Array (Nat × Operand)} {Rs : List HA} {ids : List Nat} (he : Elem X.P T E z size bytes) (hzn : z.cells.toList.all noUb = true) (ps0 : List VP) (h0 : ∀ Z w, All2 Z ps0 (zerosOf z (n * size)) w) (hop : o.op = .buildSlice T n parts) (hd : o.dst = some d) (hlt : decide (d < X.N) = true) (hc : chkM X i pre suc (some d) (id :: ids) = true)
    (hr : resOf X i = [.own id (.tmp d) (HA.row E size n Rs)]) (hl : (decide (Rs.length = n * size) && Rs.all (·.nu) && decide (n * size ≤ 1000000) && decide (n ≤ 1000000)) = true) (hn : decide ids.Nodup = true) (h : Parts X i pre suc (fun i => some (i * size, size)) parts.toList (ps0.map HA.of) Rs ids) : Does X i pre suc o := by
  have _ := hzn
  refine does_taken hd hlt hc hr fun c γ a w s => ?_
  simp only [Bool.and_eq_true, decide_eq_true_eq] at hl
  obtain ⟨⟨⟨l1, l2⟩, l3⟩, l4⟩ := hl
  obtain ⟨ht, ti, hi, hz, hsz, hby, hzs, hpos⟩ := he
  obtain ⟨ds, S', e1, e2, e3⟩ := parts_fill s h (of_decide_eq_true hn) (zerosOf z (n * size)) (fun _ => False) (AllS.of_all2 (fun _ h => h) (h0 γ.Z w)) (fun _ _ _ _ _ h => h)
  have hS : ∀ b, S' b → b < w.heap.size := fun b hb => by
    rcases e3 b hb with h | ⟨k, _, m1, r, R, m2⟩
    · exact h.elim
    · exact (s.g.bnd k r R m2 b m1).1
  refine ⟨.slice (some ⟨w.heap.size, 0, none⟩) n n, w.alloc (.cells ds.toArray E), fun b => b = w.heap.size ∨ S' b, ?_, Ext.new w _, ?_, fun b hb => ?_⟩
  · unfold execOp; rw [hop]
    have hpt : (Array.map (fun x => (x.1, a.eval x.2)) parts).toList = parts.toList.map (fun x => (x.1, a.eval x.2)) := by simp
    have hb' : (Instr.buildSlice T n (parts.map fun x => (x.1, a.eval x.2))).run X.P w = .ok (.slice (some ⟨w.heap.size, 0, none⟩) n n) (w.alloc (.cells ds.toArray E)) := by
      have hzr : (do let s ← sizeOf E; pure s : Sem Nat).run X.P w = .ok size w := by simp [sizeOf, typeInfo, hi, hsz]
      have hz' : (zeroValue E).run X.P w = .ok z w := by simp [zeroValue, typeInfo, hi, hz]
      have hs' : (sizeOf E).run X.P w = .ok size w := by simp [sizeOf, typeInfo, hi, hsz]
      unfold zerosOf madeCells at e1
      simp only [Array.toList_map] at e1
      have e1' : Instr.fill (fun i => some (i * size, size)) ((Array.range (n * size)).map (z.cells[· % z.cells.size]!)) ((Array.map (fun x => (x.1, a.eval x.2)) parts).toList) = some ds.toArray := by
        rw [hpt, ← e1]; congr 1; apply Array.toList_inj.1; simp
      unfold Instr.buildSlice
      simp only [Sem.run_bind, run_underlying ht, Result.andThen_ok, hs']
      rw [if_neg (by omega)]
      by_cases h00 : n * size = 0
      · rw [if_pos h00]
        have er : ∀ f : Nat → Value, (Array.range (n * size)).map f = #[] := fun f => by rw [h00]; exact Array.ext (by simp) (by simp)
        rw [er] at e1'
        simp only [Sem.run_bind, Sem.run_pure, Result.andThen_ok, er, e1']
        simp [newRow]
      · rw [if_neg h00]
        simp only [Sem.run_bind, Sem.run_pure, Result.andThen_ok, hz', e1']
        simp [newRow]
    have hb'' : (Instr.buildSlice T n (parts.map fun (i, x) => (i, a.eval x))).run X.P w = .ok (.slice (some ⟨w.heap.size, 0, none⟩) n n) (w.alloc (.cells ds.toArray E)) := hb'
    simp only [Sem.run_bind, hb'', Result.andThen_ok, Sem.run_pure]
  · have := row_new (E := E) (n := n) (cap := n) (size := size) (rest := []) w rfl l1 e2 (fun u hu => e2.nus l2 u (by simpa using hu)) (by rw [e2.len, l1]; simp) (Nat.le_refl _) (by unfold maxLen; omega) (fun b hb => (s.g.zof b hb).1) hS
    simpa using this
  · rcases hb with rfl | hb
    · exact .inl ⟨Nat.le_refl _, by simp⟩
    · exact .inr ((e3 b hb).elim (fun h => h.elim) fun h => h)
/-- make([]T, n) -/
theorem does_make {o : Oper} {d id : Nat} {T E : TypeId} {z : Value} {size bytes n n' : Nat} {kl kc : IntKind} {ps : List VP} (he : Elem X.P T E z size bytes) (hzn : z.cells.toList.all noUb = true) (y u : Operand) (hop : o.op = .makeSlice T y u) (hd : o.dst = some d) (hlt : decide (d < X.N) = true) (hc : chkM X i pre suc (some d) [id] = true)
    (hr : resOf X i = [.own id (.tmp d) (HA.row E size n' (ps.map HA.of))]) (hn : n = n') (hl : ps.length = n * size) (h0 : ∀ Z w, All2 Z ps (zerosOf z (n * size)) w) (hb : n ≤ 100000000000 ∧ bytes ≤ 1000) (h1 : Ar X i pre suc y (VP.int kl (n : Nat)).p) (h2 : Ar X i pre suc u (VP.int kc (n : Nat)).p) : Does X i pre suc o :=
  does_taken (ids := []) hd hlt hc hr fun c γ a w s => by
    subst hn
    obtain ⟨ht, ti, hi, hz, hsz, hby, hzs, hpos⟩ := he
    have e1 : a.eval y = .int kl (n : Nat) := h1 c γ a w s
    have e2 : a.eval u = .int kc (n : Nat) := h2 c γ a w s
    have hbig : ti.bytes * n ≤ 140737488355328 := by rw [hby, Nat.mul_comm]; exact Nat.le_trans (Nat.mul_le_mul hb.1 hb.2) (by omega)
    have hb' : (ti.bytes : Int) * (n : Int) ≤ 281474976710656 := by
      have h : ((ti.bytes * n : Nat) : Int) ≤ 281474976710656 := by omega
      rwa [Int.natCast_mul] at h
    have hrun := run_make (P := X.P) w T E ti z ht hi hz kl kc (n : Nat) (n : Nat) (by omega) (Int.le_refl _) hb' (by omega)
    simp only [Int.toNat_natCast, hsz] at hrun
    refine ⟨.slice (some ⟨w.heap.size, 0, none⟩) n n, w.alloc (.cells (madeCells z.cells (n * size)) E), fun b => b = w.heap.size ∨ False, by unfold execOp; rw [hop]; simp only [e1, e2, Sem.run_bind, hrun, Result.andThen_ok, Sem.run_pure], Ext.new w _, ?_, fun b hb => ?_⟩
    · have := row_new (E := E) (n := n) (cap := n) (size := size) (Z := γ.Z) (xs := zerosOf z (n * size)) (rest := []) w rfl (by simpa using hl) (AllS.of_all2 (S := fun _ => False) (fun _ h => h) (h0 γ.Z w)) (fun u hu => noUs_spec hzn u (madeCells_mem (by omega) u (by simpa [zerosOf] using hu))) (by simp [zerosOf, size_madeCells]) (Nat.le_refl _) (by unfold maxLen; omega) (fun b hb => (s.g.zof b hb).1) (fun _ h => h.elim)
      simpa [zerosOf] using this
    · rcases hb with rfl | hb
      · exact .inl ⟨Nat.le_refl _, by simp⟩
      · exact hb.elim
/-! ### length, index -/
/-- the operand is a slice of n elements, that of r from off on -/
def Sl (X : Cx) (i : Nat) (pre suc : List Nat) (y : Operand) (r : Ref) (off n : Nat) : Prop := ∀ c γ a w, Sit X i pre suc c γ a w → ∃ A cp, a.eval y = .slice A n cp ∧ n ≤ cp ∧ (0 < n → ∃ g b n0 c0, r.den a (.slice (some ⟨g, b, none⟩) n0 c0) ∧ A = some ⟨g, b + off, none⟩)
theorem row_form {Z : Foot} {w : World} {E : TypeId} {sz n : Nat} {Rs : List HA} {v : Value} {S : Foot} (h : (HA.row E sz n Rs).p Z v w S) : ∃ A cp, v = .slice A n cp ∧ n ≤ cp ∧ (0 < n → ∃ g off, A = some ⟨g, off, none⟩) := by
  obtain ⟨_, ⟨rfl, rfl, _⟩ | ⟨g, cap, cur, S', rfl, _, hc, _⟩⟩ := h
  · exact ⟨none, 0, rfl, Nat.le_refl _, fun h => absurd h (Nat.lt_irrefl _)⟩
  · exact ⟨_, cap, rfl, hc, fun _ => ⟨g, 0, rfl⟩⟩
theorem sl_form {y : Operand} {r : Ref} {n : Nat} (h : ∀ c γ a w, Sit X i pre suc c γ a w → ∃ A cp, a.eval y = .slice A n cp ∧ r.den a (.slice A n cp) ∧ n ≤ cp ∧ (0 < n → ∃ g off, A = some ⟨g, off, none⟩)) : Sl X i pre suc y r 0 n := fun c γ a w s => by
  obtain ⟨A, cp, h1, h2, hc, h3⟩ := h c γ a w s
  refine ⟨A, cp, h1, hc, fun hn => ?_⟩
  obtain ⟨g, off, rfl⟩ := h3 hn
  exact ⟨g, off, n, cp, h2, rfl⟩
theorem sl_own {y : Operand} {id : Nat} {v : Value} {nu one : Bool} {E : TypeId} {sz n : Nat} {Rs : List HA} (h : Av X i pre suc (.own id (.val v) (HA.row E sz n Rs))) (hy : Ar X i pre suc y (VP.eq v nu one).p) : Sl X i pre suc y (.val v) 0 n := sl_form fun c γ a w s => by
  obtain ⟨S, h2⟩ := sit_own h c γ a w s
  obtain ⟨A, cp, e, hc, h3⟩ := row_form h2
  exact ⟨A, cp, by rw [(hy c γ a w s).1, e], e.symm, hc, h3⟩
theorem sl_bor {y : Operand} {v : Value} {nu one : Bool} {E : TypeId} {sz n : Nat} {Rs : List HA} (h : Av X i pre suc (.bor (.val v) (HA.row E sz n Rs))) (hy : Ar X i pre suc y (VP.eq v nu one).p) : Sl X i pre suc y (.val v) 0 n := sl_form fun c γ a w s => by
  obtain ⟨S, h2⟩ := sit_bor h c γ a w s
  obtain ⟨A, cp, e, hc, h3⟩ := row_form h2
  exact ⟨A, cp, by rw [(hy c γ a w s).1, e], e.symm, hc, h3⟩
theorem sl_tmp {k id : Nat} {E : TypeId} {sz n : Nat} {Rs : List HA} (h : Av X i pre suc (.own id (.tmp k) (HA.row E sz n Rs))) : Sl X i pre suc (.tmp k) (.tmp k) 0 n := sl_form fun c γ a w s => by
  obtain ⟨v, h1, h2⟩ := h.h s
  obtain ⟨A, cp, e, hc, h3⟩ := row_form h2
  exact ⟨A, cp, by rw [eval_tmp h1, e], by rw [← e]; exact h1, hc, h3⟩
theorem sl_ro {k n : Nat} {qs : List VP} (h : Av X i pre suc (.slot k (VP.ro n qs))) (hm : n = 0 ∨ 0 < qs.length) : Sl X i pre suc (.tmp k) (.tmp k) 0 n := sl_form fun c γ a w s => by
  obtain ⟨v, h1, A, cp, e, hc, _, h4⟩ := h.h s
  refine ⟨A, cp, by rw [eval_tmp h1, e], by rw [← e]; exact h1, hc, fun hn => ?_⟩
  rcases h4 with rfl | ⟨g, off, rfl, _⟩
  · rcases hm with h | h
    · omega
    · simp at h
  · exact ⟨g, off, rfl⟩
theorem sl_nil {y : Operand} {r : Ref} (h : Ar X i pre suc y VP.nilS.p) : Sl X i pre suc y r 0 0 := fun c γ a w s => ⟨none, 0, h c γ a w s, Nat.le_refl _, fun h => absurd h (Nat.lt_irrefl _)⟩
theorem does_len {o : Oper} {d n off : Nat} {r : Ref} (T : TypeId) (y : Operand) (ht : (match X.P.underlying T with | some (.slice _) => true | _ => false) = true) (hop : o.op = .call { callee := .builtin .len, args := #[y], argTypes := #[T] }) (hd : o.dst = some d) (hlt : decide (d < X.N) = true) (hc : chk X i pre suc d = true)
    (hr : resOf X i = [.slot d (VP.int .i64 (n : Nat))]) (h : Sl X i pre suc y r off n) : Does X i pre suc o :=
  does_run hd hlt hc hr fun c γ a w s => by
    obtain ⟨A, cp, h1, _⟩ := h c γ a w s
    split at ht
    · rename_i e hu
      refine ⟨.int .i64 (n : Nat), ?_, rfl⟩
      unfold execOp; rw [hop]
      simp [resolve, invoke, builtin, Builtin.len_, run_underlying hu, h1, goInt]
    · cases ht
theorem does_index {o : Oper} {d n m sz b0 : Nat} {k : IntKind} {r : Ref} {T E : TypeId} (y z : Operand) (hu : X.P.underlying T = some (.slice E)) (hsz : ∀ w, (sizeOf E).run X.P w = .ok sz w) (hop : o.op = .indexAddr T y z) (hd : o.dst = some d) (hlt : decide (d < X.N) = true) (hk : r.uses d = false) (hc : chk X i pre suc d = true)
    (off : Nat) (ho : off = b0 + m * sz) (hr : resOf X i = [.pt d (.row r off)]) (hm : m < n) (h : Sl X i pre suc y r b0 n) (hz : Ar X i pre suc z (VP.int k (m : Nat)).p) : Does X i pre suc o :=
  does_val hd hlt hc hr rfl fun c γ a w s Q K hK => by
    obtain ⟨A, cp, h1, _, h2⟩ := h c γ a w s
    obtain ⟨g, b, n0, c0, h3, rfl⟩ := h2 (by omega)
    have ez : a.eval z = .int k (m : Nat) := hz c γ a w s
    have hrun : (Instr.indexAt T (.slice (some ⟨g, b + b0, none⟩) n cp) (.int k (m : Nat))).run X.P w = .ok (.pointer (some ⟨g, b + off, none⟩)) w := by
      unfold Instr.indexAt
      have hlt' : (0 : Int) ≤ (m : Nat) ∧ ((m : Nat) : Int) < (n : Nat) := by omega
      simp only [asIntOf, Sem.run_bind, Sem.run_pure, Result.andThen_ok, run_underlying hu, if_pos hlt', hsz w, Int.toNat_natCast, add_plain, Nat.add_assoc, ← ho]
    unfold Oper.wp execOp
    rw [hop]
    simp only [h1, ez, Sem.run_bind, hrun, Result.andThen_ok, Sem.run_pure]
    show K (a.put o.dst _) w
    rw [hd]
    refine hK _ w (Ext.refl w) ⟨g, b + off, ⟨b, n0, c0, Ref.den_put h3 hk, rfl⟩, put_eq _ ?_⟩
    simp only [decide_eq_true_eq] at hlt; rw [s.g.sz]; exact hlt
end
end O
end Go.Proofs.Ytapmngmpomhjmaa

/- The logic over objects: parts of slices; maps. -/
namespace Go.Proofs.Ytapmngmpomhjmaa
open Go.RowKit
namespace O
section
variable {X : Cx} {i : Nat} {pre suc : List Nat}
/-- a bound of a slice: a number, or what is usual -/
def Bd (X : Cx) (i : Nat) (pre suc : List Nat) (lo : Option Operand) (l usual : Nat) : Prop := match lo with
  | none => l = usual
  | some y => ∃ k, Ar X i pre suc y (VP.int k (l : Nat)).p
theorem run_bound {P : Program} (v : Value) {k : IntKind} {l y : Nat} (code : BoundsCode) (hv : v = .int k (l : Nat)) (h : l ≤ y) (w : World) : (Instr.sliceBound v y code).run P w = .ok l w := by
  subst hv
  unfold Instr.sliceBound
  have : (0 : Int) ≤ (l : Nat) ∧ ((l : Nat) : Int) ≤ (y : Nat) := by omega
  simp [asIntOf, this]
theorem run_cut {P : Program} {T E : TypeId} {sz n cp l h : Nat} {A : Option Addr} {lo hi : Option Value} (hu : P.underlying T = some (.slice E)) (hsz : ∀ w, (sizeOf E).run P w = .ok sz w) (hlo : match lo with | none => l = 0 | some v => ∃ k, v = .int k (l : Nat)) (hhi : match hi with | none => h = n | some v => ∃ k, v = .int k (h : Nat)) (h1 : l ≤ h) (h2 : h ≤ cp) (w : World) :
    (Instr.sliceAt T (.slice A n cp) lo hi none).run P w = .ok (.slice (if cp = l then A else A.map (·.add (l * sz))) (h - l) (cp - l)) w := by
  unfold Instr.sliceAt
  simp only [Sem.run_bind, run_underlying hu, Result.andThen_ok]
  unfold Instr.slice
  simp only [Sem.run_bind, run_underlying hu, Result.andThen_ok]
  unfold Instr.sliceBounds
  cases lo with
  | none =>
    simp only at hlo
    subst hlo
    cases hi with
    | none => simp only at hhi; subst hhi; simp [hsz w]
    | some v => obtain ⟨k, hv⟩ := hhi; simp [run_bound v _ hv h2, hsz w]
  | some u =>
    obtain ⟨k, hu⟩ := hlo
    cases hi with
    | none => simp only at hhi; subst hhi; simp [run_bound u _ hu h1, hsz w]
    | some v => obtain ⟨k, hv⟩ := hhi; simp [run_bound v _ hv h2, run_bound u _ hu h1, hsz w]
theorem bd_lo {lo : Option Operand} {l u : Nat} (h : Bd X i pre suc lo l u) {c : Nat → Bool} {γ : Gho} {a : Act} {w : World} (s : Sit X i pre suc c γ a w) : match lo.map a.eval with | none => l = u | some v => ∃ k, v = .int k (l : Nat) := by
  cases lo with
  | none => exact h
  | some y => obtain ⟨k, h⟩ := h; exact ⟨k, h c γ a w s⟩
/-- the first h elements of a row: it is that now -/
theorem does_cutOwn {o : Oper} {d id n sz h h' : Nat} {T E : TypeId} {hi : Option Operand} {Rs Rs' : List HA} (y : Operand) (hu : X.P.underlying T = some (.slice E)) (hsz : ∀ w, (sizeOf E).run X.P w = .ok sz w) (hop : o.op = .slice T y none hi none) (hd : o.dst = some d) (hlt : decide (d < X.N) = true) (hc : chkM X i pre suc (some d) [id] = true)
    (hr : resOf X i = [.own id (.tmp d) (HA.row E sz h' Rs')]) (hh : h = h') (h2 : h ≤ n) (hrs : Rs' = Rs.take (h * sz)) (hhi : Bd X i pre suc hi h n) (hs : Mv X i pre suc y (HA.row E sz n Rs) (some id)) : Does X i pre suc o :=
  does_taken (ids := [id]) hd hlt (by
    have : chkM X i pre suc (some d) [id, id] = chkM X i pre suc (some d) [id] := by
      unfold chkM; congr 1; funext f; cases f <;> simp [okM, Fact.off]
    rw [this]; exact hc) hr fun c γ a w s => by
    subst hh
    subst hrs
    obtain ⟨S, ⟨h0, hp⟩, hS⟩ := hs c γ a w s
    have hk : ∀ b, S b → ∃ k ∈ [id], γ.σ k b ∧ ∃ r R, Has X c (.own k r R) := fun b hb => by
      obtain ⟨k, hk, h⟩ := hS b hb
      exact ⟨k, by simp only [Option.mem_def, Option.some.injEq] at hk; simp [hk], h⟩
    rcases hp with ⟨e, rfl, hno⟩ | ⟨g, cap, cur, S', e, hg, hnc, hcm, hcs, hall, hSe, hgS, hcn⟩
    · obtain rfl : h = 0 := by omega
      have hrun := run_cut (P := X.P) (A := none) (n := 0) (cp := 0) (l := 0) (lo := none) hu hsz rfl (bd_lo hhi s) (Nat.le_refl _) (Nat.le_refl _) w
      refine ⟨.slice none 0 0, w, S, by unfold execOp; rw [hop]; simp only [e, Sem.run_bind, Option.map_none, hrun, Result.andThen_ok, Sem.run_pure]; simp, Ext.refl w, ⟨by simp, .inl ⟨rfl, rfl, hno⟩⟩, fun b hb => .inr (hk b hb)⟩
    · have hrun := run_cut (P := X.P) (A := some ⟨g, 0, none⟩) (n := n) (cp := cap) (l := 0) (lo := none) hu hsz rfl (bd_lo hhi s) (Nat.zero_le _) (by omega) w
      have hval : (Value.slice (if cap = 0 then some ⟨g, 0, none⟩ else (some ⟨g, 0, none⟩ : Option Addr).map (·.add (0 * sz))) (h - 0) (cap - 0)) = .slice (some ⟨g, 0, none⟩) h cap := by
        simp [add_plain]
      rw [hval] at hrun
      have e1 : Rs = Rs.take (h * sz) ++ Rs.drop (h * sz) := (List.take_append_drop _ _).symm
      rw [e1] at hall
      obtain ⟨S1, S2, g1, g2, g3, _⟩ := AllS.unapp hall
      have hle : h * sz ≤ n * sz := Nat.mul_le_mul_right _ h2
      rw [show (Rs.take (h * sz)).length = h * sz by rw [List.length_take, h0]; omega, List.take_take, Nat.min_eq_left hle] at g3
      refine ⟨.slice (some ⟨g, 0, none⟩) h cap, w, fun b => b = g ∨ S1 b, by unfold execOp; rw [hop]; simp only [e, Sem.run_bind, Option.map_none, hrun, Result.andThen_ok, Sem.run_pure], Ext.refl w, ⟨by rw [List.length_take, h0]; omega, .inr ⟨g, cap, cur, S1, rfl, hg, by omega, hcm, hcs, g3, fun b => Iff.rfl, fun hb => hgS ((g1 g).2 (.inl hb)), hcn⟩⟩, fun b hb => .inr (hk b ((hSe b).2 ?_))⟩
      rcases hb with hb | hb
      · exact .inl hb
      · exact .inr ((g1 b).2 (.inl hb))
end
/-! ### maps -/
/-- how keys stand in a map -/
structure MKey (κ : Type) where
  enc : κ → Value
  desc : TypeDesc
  eqv : κ → κ → Bool
  eqv_iff : ∀ a b, eqv a b = true ↔ a = b
  same : ∀ a b, Instr.sameNow desc (enc a) (enc b) = some (eqv a b)
  bits : ∀ a, Instr.sameBits 10000 (enc a) (enc a) = true
  chk : ∀ {P : Program} {t : TypeId} (e : Bool) (a : κ) (w : World), P.underlying t = some desc → (Instr.checkKey e 10000 t (enc a)).run P w = .ok () w
def mkInt : MKey Int := ⟨fun n => .int .i64 n, .int .i64, fun a b => a == b, fun a b => by simp, fun a b => by simp [Instr.sameNow], fun a => by simp [Instr.sameBits], fun e a w hu => by
  show (Instr.checkKey e (9999 + 1) _ _).run _ w = _
  unfold Instr.checkKey
  simp [run_underlying hu]⟩
def mfind {κ α : Type} (K : MKey κ) (k : κ) : List (κ × α) → Option α
  | [] => none
  | e :: es => if K.eqv k e.1 then some e.2 else mfind K k es
def mput {κ α : Type} (K : MKey κ) (k : κ) (x : α) : List (κ × α) → List (κ × α)
  | [] => [(k, x)]
  | e :: es => if K.eqv k e.1 then (e.1, x) :: es else e :: mput K k x es
/-- a map: its entries, in their order -/
def HA.map {κ : Type} (K : MKey κ) (es : List (κ × HA)) : HA := ⟨fun Z v w S => ∃ m arr clock S', v = .map (some m) ∧ w.heap[m]? = some (.map arr clock) ∧ arr.toList.map (·.key) = es.map (fun e => K.enc e.1) ∧ AllS Z (es.map (·.2)) (arr.toList.map (·.val)) w S' ∧ (∀ b, S b ↔ b = m ∨ S' b) ∧ ¬ S' m ∧
    (arr.toList.map (·.born)).Pairwise (· < ·) ∧ (∀ e ∈ arr.toList, e.born < clock) ∧ (es.map (·.1)).Nodup, true, fun _ _ v _ _ ⟨m, _, _, _, h, _⟩ n e => (by rw [h] at e; cases e), true, fun _ _ v _ _ ⟨m, _, _, _, h, _⟩ => (by rw [h]; rfl),
  fun Z Z' v w w' S ⟨m, arr, clock, S', h1, h2, h3, h4, h5, h6, h7⟩ hz hs hS hc => ⟨m, arr, clock, S', h1, (hS m ((h5 m).2 (.inl rfl))).trans h2, h3, h4.st hz hs hc (fun b hb => hS b ((h5 b).2 (.inr hb))), h5, h6, h7⟩⟩
theorem findNow_spec {κ : Type} (K : MKey κ) (k : κ) : ∀ (l : List MapEntry) (es : List (κ × HA)) (i : Nat), l.map (·.key) = es.map (fun e => K.enc e.1) →
    Instr.findNow K.desc (K.enc k) l i = some (((es.map (·.1)).findIdx? (fun x => K.eqv k x)).bind fun j => (l[j]?).map fun e => (i + j, e.val))
  | [], [], i, _ => rfl
  | e :: l, x :: es, i, h => by
    simp only [List.map_cons, List.cons.injEq] at h
    unfold Instr.findNow
    rw [h.1, K.same]
    rw [List.map_cons, List.findIdx?_cons]
    cases hk : K.eqv k x.1 with
    | true => simp
    | false =>
      simp only [Bool.false_eq_true, if_false]
      rw [findNow_spec K k l es (i + 1) h.2]
      cases (es.map (·.1)).findIdx? (fun x => K.eqv k x) with
      | none => rfl
      | some j => simp [Nat.add_assoc, Nat.add_comm 1 j]
  | [], _ :: _, _, h => by simp at h
  | _ :: _, [], _, h => by simp at h
theorem mfind_idx {κ α : Type} (K : MKey κ) (k : κ) : ∀ es : List (κ × α), mfind K k es = ((es.map (·.1)).findIdx? (fun x => K.eqv k x)).bind fun j => (es[j]?).map (·.2)
  | [] => rfl
  | e :: es => by
    unfold mfind
    rw [List.map_cons, List.findIdx?_cons]
    cases hk : K.eqv k e.1 with
    | true => simp
    | false =>
      simp only [Bool.false_eq_true, if_false]
      rw [mfind_idx K k es]
      cases (es.map (·.1)).findIdx? (fun x => K.eqv k x) with
      | none => rfl
      | some j => simp
theorem run_findKey {κ : Type} (K : MKey κ) {P : Program} {t : TypeId} (hu : P.underlying t = some K.desc) (k : κ) {l : List MapEntry} {es : List (κ × HA)} (h : l.map (·.key) = es.map (fun e => K.enc e.1)) (w : World) :
    (Instr.findKey t (K.enc k) l).run P w = .ok (((es.map (·.1)).findIdx? (fun x => K.eqv k x)).bind fun j => (l[j]?).map fun e => (j, e.val)) w := by
  unfold Instr.findKey
  simp only [Sem.run_bind, run_underlying hu, Result.andThen_ok]
  rw [findNow_spec K k l es 0 h]
  simp
theorem mput_idx {κ α : Type} (K : MKey κ) (k : κ) (x : α) : ∀ es : List (κ × α), mput K k x es = match (es.map (·.1)).findIdx? (fun y => K.eqv k y) with
    | some j => es.modify j fun e => (e.1, x)
    | none => es ++ [(k, x)]
  | [] => rfl
  | e :: es => by
    unfold mput
    rw [List.map_cons, List.findIdx?_cons]
    cases hk : K.eqv k e.1 with
    | true => simp
    | false =>
      simp only [Bool.false_eq_true, if_false]
      rw [mput_idx K k x es]
      cases (es.map (·.1)).findIdx? (fun x => K.eqv k x) with
      | none => rfl
      | some j => simp
theorem mfind_none {κ α : Type} (K : MKey κ) {k : κ} {es : List (κ × α)} (h : mfind K k es = none) : k ∉ es.map (·.1) := by
  induction es with
  | nil => simp
  | cons e es ih =>
    unfold mfind at h
    cases hk : K.eqv k e.1 with
    | true => rw [hk] at h; simp at h
    | false =>
      rw [hk] at h
      simp only [Bool.false_eq_true, if_false] at h
      rw [List.map_cons, List.mem_cons, not_or]
      refine ⟨fun e' => ?_, ih h⟩
      have := (K.eqv_iff k e.1).2 e'
      rw [hk] at this; cases this
section
variable {X : Cx} {i : Nat} {pre suc : List Nat}
theorem does_makeMap {κ : Type} (K : MKey κ) {o : Oper} {d id : Nat} {T : TypeId} (hop : o.op = .makeMap T none) (hd : o.dst = some d) (hlt : decide (d < X.N) = true) (hc : chkM X i pre suc (some d) [id] = true) (hr : resOf X i = [.own id (.tmp d) (HA.map K [])]) : Does X i pre suc o :=
  does_made (ido := none) hd hlt hc hr fun c γ a w s => ⟨.map (some w.heap.size), .map #[] 0, fun _ => False, by unfold execOp; rw [hop]; rfl, ⟨w.heap.size, #[], 0, fun _ => False, rfl, heap_alloc_new w _, rfl, fun _ h => h, fun b => Iff.rfl, fun h => h, List.Pairwise.nil, fun _ h => (by cases h), List.nodup_nil⟩, fun _ h => h.elim⟩
/-- the operand is this map -/
def Mp {κ : Type} (K : MKey κ) (X : Cx) (i : Nat) (pre suc : List Nat) (y : Operand) (es : List (κ × HA)) : Prop := ∀ c γ a w, Sit X i pre suc c γ a w → ∃ S, (HA.map K es).p γ.Z (a.eval y) w S
theorem mp_own {κ : Type} {K : MKey κ} {y : Operand} {id : Nat} {v : Value} {nu one : Bool} {es : List (κ × HA)} (h : Av X i pre suc (.own id (.val v) (HA.map K es))) (hy : Ar X i pre suc y (VP.eq v nu one).p) : Mp K X i pre suc y es := fun c γ a w s => by
  rw [(hy c γ a w s).1]; exact sit_own h c γ a w s
theorem run_lookup {κ : Type} {K : MKey κ} {P : Program} {T kt E : TypeId} {z : Value} {es : List (κ × HA)} {Z S : Foot} {v : Value} {w : World} (hu : P.underlying T = some (.map kt E)) (hk : P.underlying kt = some K.desc) (hz : (zeroValue E).run P w = .ok z w) (h : (HA.map K es).p Z v w S) (k : κ) (x : VP) (b ok : Bool) (hb : (mfind K k es).isSome = b) (hx : ∀ R, mfind K k es = some R → R = HA.of x) (hx0 : mfind K k es = none → x.p Z z w) :
    ∃ u, (Instr.lookup T v (K.enc k) ok).run P w = .ok (if ok then .tuple #[u, .bool b] else u) w ∧ x.p Z u w := by
  obtain ⟨m, arr, clock, S', rfl, h2, h3, h4, _⟩ := h
  have hg : (getObj m).run P w = .ok (.map arr clock) w := by simp [getObj, Sem.run, h2]
  have hf := run_findKey K hk k (l := arr.toList) h3 w
  unfold Instr.lookup
  have hck := K.chk arr.isEmpty k w hk
  simp only [Sem.run_bind, run_underlying hu, Result.andThen_ok, hg, Sem.run_pure, hck, hf]
  rw [mfind_idx] at hb hx hx0
  cases hj : (es.map (·.1)).findIdx? (fun y => K.eqv k y) with
  | none =>
    rw [hj] at hb hx hx0
    refine ⟨z, ?_, hx0 rfl⟩
    have hb : b = false := by simpa using hb.symm
    subst hb
    cases ok <;> simp [hz]
  | some j =>
    rw [hj] at hb hx hx0
    have hlt : j < es.length := by
      have := (List.findIdx?_eq_some_iff_getElem.1 hj).1
      simpa using this
    have hlen : arr.toList.length = es.length := by have := congrArg List.length h3; simpa using this
    obtain ⟨u, h5, h6⟩ := h4.vp (i := j) (x := x) (by rw [List.getElem?_map, List.getElem?_eq_getElem hlt, Option.map_some, hx es[j].2 (by simp [hlt])])
    rw [List.getElem?_map, List.getElem?_eq_getElem (by omega), Option.map_some] at h5
    injection h5 with h5
    refine ⟨u, ?_, h6⟩
    have hb : b = true := by simpa [hlt] using hb.symm
    subst hb
    have hlt2 : j < arr.size := by have := hlen; simp only [Array.length_toList] at this; omega
    have h5' : arr[j].val = u := by simpa using h5
    cases ok <;> simp [hlt2, h5']
theorem does_lookup2 {κ : Type} {K : MKey κ} {o : Oper} {d : Nat} {T kt E : TypeId} {z : Value} {es : List (κ × HA)} (k : κ) {x : VP} {b : Bool} (y q : Operand) (hu : X.P.underlying T = some (.map kt E)) (hk : X.P.underlying kt = some K.desc) (hz : ∀ w, (zeroValue E).run X.P w = .ok z w) (hop : o.op = .lookup T y q true) (hd : o.dst = some d) (hlt : decide (d < X.N) = true) (hc : chk X i pre suc d = true)
    (hr : resOf X i = [.slot d (VP.tup [x, VP.bool b])]) (hb : (mfind K k es).isSome = b) (hx : ∀ R, mfind K k es = some R → R = HA.of x) (hx0 : mfind K k es = none → ∀ Z w, x.p Z z w) (hm : Mp K X i pre suc y es) (hq : ∀ c γ a w, Sit X i pre suc c γ a w → a.eval q = K.enc k) : Does X i pre suc o :=
  does_run hd hlt hc hr fun c γ a w s => by
    obtain ⟨S, h1⟩ := hm c γ a w s
    obtain ⟨u, h2, h3⟩ := run_lookup hu hk (hz w) h1 k x b true hb hx fun h => hx0 h _ _
    refine ⟨.tuple #[u, .bool b], ?_, [u, .bool b], rfl, h3, rfl, trivial⟩
    unfold execOp; rw [hop]
    simp only [hq c γ a w s, Sem.run_bind, h2, Result.andThen_ok, Sem.run_pure]
    rfl
theorem key_int {q : Operand} {n : Int} (h : Ar X i pre suc q (VP.int .i64 n).p) : ∀ c γ a w, Sit X i pre suc c γ a w → a.eval q = mkInt.enc n := fun c γ a w s => h c γ a w s
theorem turn_setObj {w : World} {m : Nat} {arr : Array MapEntry} {clock : Nat} (hm : w.heap[m]? = some (.map arr clock)) (ob : Obj) {E : Foot} (hE : E m) : Turn E w { w with heap := w.heap.setIfInBounds m ob } :=
  ⟨rfl, rfl, rfl, by simp, fun b _ hb => by
    have : m ≠ b := fun e => hb (e ▸ hE)
    simp [Array.getElem?_setIfInBounds_ne this], fun b _ => by
    by_cases e : m = b
    · subst e
      exact .inr fun cs T fz he => by rw [hm] at he; cases he
    · exact .inl (by simp [Array.getElem?_setIfInBounds_ne e])⟩
theorem setObj_get {w : World} {m : Nat} {ob0 ob : Obj} (hm : w.heap[m]? = some ob0) : ({ w with heap := w.heap.setIfInBounds m ob } : World).heap[m]? = some ob := by
  have := (Array.getElem?_eq_some_iff.1 hm).1
  simp [this]
theorem run_setObj {P : Program} {w : World} {m : Nat} {arr : Array MapEntry} {clock : Nat} (hm : w.heap[m]? = some (.map arr clock)) (ob : Obj) : (setObj m ob).run P w = .ok () { w with heap := w.heap.setIfInBounds m ob } := by
  simp [setObj, Sem.run, hm]
theorem mfind_isSome {κ α : Type} (K : MKey κ) (k : κ) (es : List (κ × α)) {j : Nat} (hj : (es.map (·.1)).findIdx? (fun y => K.eqv k y) = some j) : ∃ hlt : j < es.length, (mfind K k es).isSome = true ∧ k = es[j].1 := by
  have h1 := List.findIdx?_eq_some_iff_getElem.1 hj
  obtain ⟨h2, h3, _⟩ := h1
  have hlt : j < es.length := by simpa using h2
  refine ⟨hlt, ?_, ?_⟩
  · rw [mfind_idx, hj]; simp [hlt]
  · rw [List.getElem_map] at h3
    exact (K.eqv_iff _ _).1 h3
theorem map_put {κ : Type} {K : MKey κ} {P : Program} {T kt E : TypeId} {es : List (κ × HA)} {Z S S2 : Foot} {v u : Value} {w : World} (hu : P.underlying T = some (.map kt E)) (hk : P.underlying kt = some K.desc) (h : (HA.map K es).p Z v w S) (k : κ) (R : HA) (hR : R.p Z u w S2) (hd : ∀ b, S b → ¬ S2 b) (hZ : ∀ b, Z b → b < w.heap.size ∧ ¬ S b) (hSl : ∀ b, S b ∨ S2 b → b < w.heap.size) :
    ∃ (w' : World) (S' : Foot), (Instr.mapUpdate T v (K.enc k) u).run P w = .ok () w' ∧ (HA.map K (mput K k R es)).p Z v w' S' ∧ Turn S w w' ∧ w'.heap.size = w.heap.size ∧ ∀ b, S' b → S b ∨ S2 b := by
  obtain ⟨m, arr, clock, S', rfl, h2, h3, h4, h5, h6, h7, h8, h9⟩ := h
  have hg : (getObj m).run P w = .ok (.map arr clock) w := by simp [getObj, Sem.run, h2]
  have hf := run_findKey K hk k (l := arr.toList) h3 w
  have hlen : arr.toList.length = es.length := by have := congrArg List.length h3; simpa using this
  have hSm : S m := (h5 m).2 (.inl rfl)
  have hS'S : ∀ b, S' b → S b := fun b hb => (h5 b).2 (.inr hb)
  have hrun0 : ∀ (X : Sem Unit) w', ((do
      match ← Instr.findKey kt (K.enc k) arr.toList with
      | some (i, _) => do
        let key ← Instr.keyThatStays (((arr[i]?).map (·.key)).getD (K.enc k)) (K.enc k)
        setObj m (.map (arr.modify i fun e => { e with key, val := u }) clock)
      | none => setObj m (.map (arr.push { key := K.enc k, val := u, born := clock }) (clock + 1)) : Sem Unit)).run P w = .ok () w' → (Instr.mapUpdate T (.map (some m)) (K.enc k) u).run P w = .ok () w' := fun _ w' h => by
    unfold Instr.mapUpdate
    simp only [Sem.run_bind, run_underlying hu, Result.andThen_ok, hg, K.chk _ k w hk]
    rw [Sem.run_bind] at h
    exact h
  cases hj : (es.map (·.1)).findIdx? (fun y => K.eqv k y) with
  | none =>
    have hno : mfind K k es = none := by rw [mfind_idx, hj]; rfl
    have t := turn_setObj h2 (.map (arr.push { key := K.enc k, val := u, born := clock }) (clock + 1)) (E := fun b => b = m) rfl
    refine ⟨_, fun b => b = m ∨ (S' b ∨ S2 b), hrun0 (pure ()) _ ?_, ?_, t.mono fun b _ e => by rw [e]; exact hSm, by simp, fun b hb => ?_⟩
    · rw [hj] at hf
      simp only [Sem.run_bind, hf, Result.andThen_ok]
      exact run_setObj h2 _
    · have hput : mput K k R es = es ++ [(k, R)] := by rw [mput_idx, hj]
      rw [hput]
      refine ⟨m, _, _, fun b => S' b ∨ S2 b, rfl, setObj_get h2, by simp [h3], ?_, fun b => Iff.rfl, ?_, ?_, ?_, ?_⟩
      · have h1 := AllS.app h4 (qs := [R]) (vs := [u]) (T := S2) ⟨S2, fun _ => False, fun b => by simp, fun _ _ h => h, hR, fun _ h => h⟩ fun b hb => hd b (hS'S b hb)
        have h2 := h1.st (fun _ h => h) (fun b hb => t.block b (hZ b hb).1 fun e => (hZ b hb).2 (e ▸ hSm)) t.toCalm (fun b hb => t.block b (hSl b (hb.imp (hS'S b) fun h => h)) fun e => by
          rcases hb with hb | hb
          · exact h6 (e ▸ hb)
          · exact hd m hSm (e ▸ hb))
        simpa using h2
      · rintro (hb | hb)
        · exact h6 hb
        · exact hd m hSm hb
      · simp only [Array.toList_push, List.map_append, List.map_cons, List.map_nil]
        rw [List.pairwise_append]
        refine ⟨h7, List.pairwise_singleton _ _, fun a ha b hb => ?_⟩
        simp only [List.mem_singleton] at hb
        subst hb
        obtain ⟨e, he, rfl⟩ := List.mem_map.1 ha
        exact h8 e he
      · intro e he
        simp only [Array.toList_push, List.mem_append, List.mem_singleton] at he
        rcases he with he | rfl
        · exact Nat.lt_succ_of_lt (h8 e he)
        · exact Nat.lt_succ_self _
      · rw [List.map_append]
        refine List.nodup_append.2 ⟨h9, by simp, fun a ha b hb => ?_⟩
        simp only [List.map_cons, List.map_nil, List.mem_singleton] at hb
        subst hb
        exact fun e => mfind_none K hno (e ▸ ha)
    · rcases hb with rfl | hb | hb
      · exact .inl hSm
      · exact .inl (hS'S b hb)
      · exact .inr hb
  | some j =>
    obtain ⟨hlt, hsome, hkj⟩ := mfind_isSome K k es hj
    have hlt2 : j < arr.size := by have := hlen; simp only [Array.length_toList] at this; omega
    have hkey : arr[j].key = K.enc k := by
      have := congrArg (fun l => l[j]?) h3
      simp only [List.getElem?_map, List.getElem?_eq_getElem (show j < arr.toList.length by simpa using hlt2), List.getElem?_eq_getElem hlt, Option.map_some, Option.some.injEq] at this
      rw [hkj]; simpa using this
    have t := turn_setObj h2 (.map (arr.modify j fun e => { e with key := K.enc k, val := u }) clock) (E := fun b => b = m) rfl
    obtain ⟨v0, S1, S3, g1, g2, g3, _, g5⟩ := h4.pick (i := j) (R := es[j].2) (by simp [hlt])
    refine ⟨_, fun b => b = m ∨ (S2 b ∨ S3 b), hrun0 (pure ()) _ ?_, ?_, t.mono fun b _ e => by rw [e]; exact hSm, by simp, fun b hb => ?_⟩
    · rw [hj] at hf
      simp only [Option.bind_some, List.getElem?_eq_getElem (show j < arr.toList.length by simpa using hlt2), Option.map_some] at hf
      have hst : (Instr.keyThatStays (((arr[j]?).map (·.key)).getD (K.enc k)) (K.enc k)).run P w = .ok (K.enc k) w := by
        simp [hlt2, hkey, Instr.keyThatStays, K.bits k]
      simp only [Sem.run_bind, hf, Result.andThen_ok, hst]
      exact run_setObj h2 _
    · have hput : mput K k R es = es.modify j fun e => (e.1, R) := by rw [mput_idx, hj]
      have hm1 : (es.modify j fun e => (e.1, R)).map (·.1) = es.map (·.1) := by
        apply List.ext_getElem?
        intro q
        simp only [List.getElem?_map, List.getElem?_modify]
        cases es[q]? with
        | none => rfl
        | some x => by_cases hq : j = q <;> simp [hq]
      have hm2 : (es.modify j fun e => (e.1, R)).map (·.2) = (es.map (·.2)).set j R := by
        apply List.ext_getElem?
        intro q
        simp only [List.getElem?_map, List.getElem?_modify, List.getElem?_set, List.length_map]
        by_cases hq : j = q
        · subst hq; simp [hlt]
        · simp [hq]
      have ha1 : ∀ {α : Type} (f : MapEntry → α) (hf : ∀ e : MapEntry, e.key = K.enc k → f { e with key := K.enc k, val := u } = f e), (arr.modify j fun e => { e with key := K.enc k, val := u }).toList.map f = arr.toList.map f := fun f hf => by
        apply List.ext_getElem?
        intro q
        simp only [Array.toList_modify, List.getElem?_map, List.getElem?_modify]
        by_cases hq : j = q
        · subst hq
          simp only [if_true, Array.getElem?_toList, Array.getElem?_eq_getElem hlt2, Option.map_some, Option.map_eq_map]
          rw [hf _ hkey]
        · cases arr.toList[q]? with
          | none => rfl
          | some x => simp [hq]
      have ha2 : (arr.modify j fun e => { e with key := K.enc k, val := u }).toList.map (·.val) = (arr.toList.map (·.val)).set j u := by
        apply List.ext_getElem?
        intro q
        simp only [Array.toList_modify, List.getElem?_map, List.getElem?_modify, List.getElem?_set, List.length_map]
        by_cases hq : j = q
        · subst hq
          simp [hlt2]
        · simp [hq]
      rw [hput]
      refine ⟨m, _, _, fun b => S2 b ∨ S3 b, rfl, setObj_get h2, ?_, ?_, fun b => Iff.rfl, ?_, ?_, ?_, ?_⟩
      · rw [ha1 (·.key) fun e he => he.symm, h3]
        have := congrArg (List.map K.enc) hm1
        simpa [List.map_map, Function.comp_def] using this.symm
      · rw [hm2, ha2]
        have h1 := g5 R S2 u hR fun b hb hb' => hd b (hS'S b ((g2 b).2 (.inr hb'))) hb
        refine h1.st (fun _ h => h) (fun b hb => t.block b (hZ b hb).1 fun e => (hZ b hb).2 (e ▸ hSm)) t.toCalm (fun b hb => t.block b (hSl b ?_) fun e => ?_)
        · rcases hb with hb | hb
          · exact .inr hb
          · exact .inl (hS'S b ((g2 b).2 (.inr hb)))
        · rcases hb with hb | hb
          · exact hd m hSm (e ▸ hb)
          · exact h6 (e ▸ (g2 b).2 (.inr hb))
      · rintro (hb | hb)
        · exact hd m hSm hb
        · exact h6 ((g2 m).2 (.inr hb))
      · rw [ha1 (·.born) fun _ _ => rfl]; exact h7
      · intro e he
        have : e.born ∈ (arr.modify j fun e => { e with key := K.enc k, val := u }).toList.map (·.born) := List.mem_map.2 ⟨e, he, rfl⟩
        rw [ha1 (·.born) fun _ _ => rfl] at this
        obtain ⟨e', he', heq⟩ := List.mem_map.1 this
        rw [← heq]; exact h8 e' he'
      · rw [hm1]; exact h9
    · rcases hb with rfl | hb | hb
      · exact .inl hSm
      · exact .inr hb
      · exact .inl (hS'S b ((g2 b).2 (.inr hb)))
end
end O
end Go.Proofs.Ytapmngmpomhjmaa

/- The logic over objects: maps that turn, copies, closures, tests of which the answer is free. -/
namespace Go.Proofs.Ytapmngmpomhjmaa
open Go.RowKit
namespace O
section
variable {X : Cx} {i : Nat} {pre suc : List Nat}
/-- as step_own, with results that have no blocks -/
theorem step_ownV {c : Nat → Bool} {γ : Gho} {a a' : Act} {w w' : World} (s : Sit X i pre suc c γ a w) {d : Option Nat} {id : Nat} {ids : List Nat} {r : Ref} {R : HA} (hc : chkM X i pre suc d (id :: ids) = true) (E S : Foot)
    (hr : ∀ f ∈ resOf X i, f = .own id r R ∨ (f.isOwn = false ∧ f.holds X.toFr (γ.set id S) a' w')) (hE : ∀ b, E b → ∃ k ∈ id :: ids, γ.σ k b ∧ ∃ r R, Has X c (.own k r R))
    (sz : a'.tmps.size = X.N) (df : a'.defers = []) (t : Turn E w w') (ha : ∀ f : Fact, d.all (fun d => !f.uses d) = true → ∀ w, f.holds X.toFr γ a w → f.holds X.toFr γ a' w)
    {v : Value} (hv : r.den a' v) (hR : R.p γ.Z v w' S) (hS : ∀ b, S b → (E b ∨ w.heap.size ≤ b) ∧ b < w'.heap.size) : Good X.toFr (Has X (upd c i)) (γ.set id S) a' w' := by
  have hEz : ∀ b, E b → ¬ γ.Z b := fun b hb => by
    obtain ⟨k, _, h1, r', R', h2⟩ := hE b hb
    exact (s.g.bnd k r' R' h2 b h1).2.2
  have hone : ∀ {k r' R'}, Fact.own k r' R' ∈ resOf X i → k = id := fun {k r' R'} hf => by
    rcases hr _ hf with e | ⟨e, _⟩
    · injection e
    · cases e
  refine good_step (γ := γ) (γ' := γ.set id S) s hc E hE sz df t ha (fun _ h => h) (fun _ h => .inl h) (fun k hk => Gho.set_ne γ S fun e => hk (by rw [e]; exact List.mem_cons_self ..)) (fun f hf => ?_) (fun k r' R' hf b hb => ?_) (fun k r' R' k' r'' R'' h1 h2 hne => ?_)
  · rcases hr f hf with e | ⟨_, h⟩
    · rw [e]; exact ⟨v, hv, by rw [Gho.set_eq]; exact hR⟩
    · exact h
  · obtain rfl := hone hf
    rw [Gho.set_eq] at hb
    refine ⟨(hS b hb).1, (hS b hb).2, fun hz => ?_⟩
    rcases (hS b hb).1 with h | h
    · exact hEz b h hz
    · have := (s.g.zof b hz).1; omega
  · exact absurd ((hone h1).trans (hone h2).symm) hne
theorem does_mapPut {κ : Type} {K : MKey κ} {o : Oper} {id : Nat} {v : Value} {nu one : Bool} {T kt E : TypeId} {es es' : List (κ × HA)} {ido : Option Nat} (k : κ) {R : HA} (y q z : Operand) (hu : X.P.underlying T = some (.map kt E)) (hk : X.P.underlying kt = some K.desc) (hop : o.op = .mapUpdate T y q z) (hd : o.dst = none) (hc : chkM X i pre suc none (id :: ido.toList) = true)
    (hr : resOf X i = [.own id (.val v) (HA.map K es')]) (hes : es' = mput K k R es) (hne : (!(ido == some id)) = true) (h : Av X i pre suc (.own id (.val v) (HA.map K es))) (hy : Ar X i pre suc y (VP.eq v nu one).p) (hq : ∀ c γ a w, Sit X i pre suc c γ a w → a.eval q = K.enc k) (hz : Mv X i pre suc z R ido) : Does X i pre suc o := by
  subst hes
  intro c γ a w s Q K' hK
  have hHas := h c γ a w s
  obtain ⟨u, h1, h2⟩ := h.h s
  have h1 : u = v := h1
  subst h1
  obtain ⟨S2, k1, k2⟩ := hz c γ a w s
  have hb := s.g.bnd id _ _ hHas
  have own : ∀ b, S2 b → b < w.heap.size ∧ ¬ γ.Z b := fun b hb => by
    obtain ⟨k, _, m1, r, R', m2⟩ := k2 b hb
    have := s.g.bnd k r R' m2 b m1
    exact ⟨this.1, this.2.2⟩
  obtain ⟨w', S', r1, r2, r3, r4, r5⟩ := map_put hu hk h2 k R k1 (fun b hb hb' => by
    obtain ⟨k', hk', m1, r', R', m2⟩ := k2 b hb'
    refine s.g.sep id _ _ k' r' R' hHas m2 (fun e => ?_) b hb m1
    have hk' : ido = some k' := by simpa using hk'
    rw [hk', ← e] at hne; simp at hne) (fun b hz => ⟨(s.g.zof b hz).1, fun h => (hb b h).2.2 hz⟩) (fun b h => by
    rcases h with h | h
    · exact (hb b h).1
    · exact (own b h).1)
  unfold Oper.wp execOp
  rw [hop]
  have ey : a.eval y = u := (hy c γ a w s).1
  simp only [ey, hq c γ a w s, Sem.run_bind, r1, Result.andThen_ok, Sem.run_pure]
  show K' (a.put o.dst undef) _
  rw [hd]
  show K' a _
  have hE : ∀ b, (γ.σ id b ∨ S2 b) → ∃ k ∈ id :: ido.toList, γ.σ k b ∧ ∃ r R, Has X c (.own k r R) := fun b hb => by
    rcases hb with hb | hb
    · exact ⟨id, List.mem_cons_self .., hb, _, _, hHas⟩
    · obtain ⟨k, hk, e⟩ := k2 b hb
      exact ⟨k, List.mem_cons_of_mem _ (by simpa [Option.mem_toList] using hk), e⟩
  refine hK _ _ _ (step_own s hc hr (fun b => γ.σ id b ∨ S2 b) S' hE s.g.sz s.g.df (r3.mono fun b _ h => .inl h) (fun f _ w h => h) rfl r2 fun b hb' => ⟨.inl (r5 b hb'), ?_⟩)
  rw [r4]
  rcases r5 b hb' with h | h
  · exact (hb b h).1
  · exact (own b h).1
theorem does_mapLen {κ : Type} {K : MKey κ} {o : Oper} {d : Nat} {es : List (κ × HA)} {T kt E : TypeId} (y : Operand) (hu : X.P.underlying T = some (.map kt E)) (hop : o.op = .call { callee := .builtin .len, args := #[y], argTypes := #[T] }) (hd : o.dst = some d) (hlt : decide (d < X.N) = true) (hc : chk X i pre suc d = true)
    (hr : resOf X i = [.slot d (VP.int .i64 (es.length : Nat))]) (hm : Mp K X i pre suc y es) : Does X i pre suc o :=
  does_run hd hlt hc hr fun c γ a w s => by
    obtain ⟨S, m, arr, clock, S', e, h2, h3, _⟩ := hm c γ a w s
    have hlen : arr.size = es.length := by have := congrArg List.length h3; simpa using this
    refine ⟨.int .i64 (es.length : Nat), ?_, rfl⟩
    have hg : (getObj m).run X.P w = .ok (.map arr clock) w := by simp [getObj, Sem.run, h2]
    unfold execOp; rw [hop]
    simp [resolve, invoke, builtin, Builtin.len_, run_underlying hu, e, goInt, hg, hlen]
/-- a closure is made -/
def Caps (X : Cx) (i : Nat) (pre suc : List Nat) : List Operand → List Value → Prop
  | [], [] => True
  | y :: ys, v :: vs => (∀ c γ a w, Sit X i pre suc c γ a w → a.eval y = v) ∧ Caps X i pre suc ys vs
  | _, _ => False
theorem Caps.all {c : Nat → Bool} {γ : Gho} {a : Act} {w : World} (s : Sit X i pre suc c γ a w) : ∀ {ys : List Operand} {vs : List Value}, Caps X i pre suc ys vs → ys.map a.eval = vs
  | [], [], _ => rfl
  | _ :: _, _ :: _, h => by rw [List.map_cons, h.1 c γ a w s, Caps.all s h.2]
  | [], _ :: _, h => h.elim
  | _ :: _, [], h => h.elim
theorem cap_ptr {y : Operand} {v : Value} (h : Ar X i pre suc y (VP.ptr v).p) : ∀ c γ a w, Sit X i pre suc c γ a w → a.eval y = v := fun c γ a w s => (h c γ a w s).1
theorem does_makeFunc {o : Oper} {d : Nat} {f : FuncId} {cs : Array Operand} {vs : List Value} (hop : o.op = .makeFunc (.func f) #[] cs) (hd : o.dst = some d) (hlt : decide (d < X.N) = true) (hc : chk X i pre suc d = true) (hr : resOf X i = [.slot d (VP.clo f vs)]) (h : Caps X i pre suc cs.toList vs) : Does X i pre suc o :=
  does_run hd hlt hc hr fun c γ a w s => by
    refine ⟨.func (.func f) #[] vs.toArray, ?_, rfl⟩
    have := h.all s
    unfold execOp; rw [hop]
    have e : cs.map a.eval = vs.toArray := Array.toList_inj.1 (by simp [this])
    simp [Instr.makeFunc, e]
/-- a bool: if it is true, this holds -/
def VP.may (φ : Prop) : VP := .free (fun v => ∃ b, v = .bool b ∧ (b = true → φ)) true (fun _ v h n e => (by obtain ⟨b, h, _⟩ := h; rw [h] at e; cases e)) true (fun _ v h => (by obtain ⟨b, h, _⟩ := h; rw [h]; rfl))
theorem does_isNil {o : Oper} {d n off : Nat} {r : Ref} {T T' E : TypeId} (y z : Operand) (hu : X.P.underlying T = some (.slice E)) (hop : o.op = .binOp .eql T y z T') (hd : o.dst = some d) (hlt : decide (d < X.N) = true) (hc : chk X i pre suc d = true)
    (hr : resOf X i = [.slot d (VP.may (n = 0))]) (h : Sl X i pre suc y r off n) (hz : Ar X i pre suc z VP.nilS.p) : Does X i pre suc o :=
  does_run hd hlt hc hr fun c γ a w s => by
    obtain ⟨A, cp, e1, _, e2⟩ := h c γ a w s
    have e3 : a.eval z = .slice none 0 0 := hz c γ a w s
    refine ⟨.bool A.isNone, ?_, A.isNone, rfl, fun hb => ?_⟩
    · unfold execOp; rw [hop]
      have hq := run_equal_slice_nil (P := X.P) w T E A n cp hu
      have hg : (eqGuard .eql T y z (.slice A n cp) (.slice none 0 0)).run X.P w = .ok () w := by simp [eqGuard]
      simp only [e1, e3, Sem.run_bind, hg, Result.andThen_ok, binOp, hq, Sem.run_pure]
    · rcases Nat.eq_zero_or_pos n with h0 | h0
      · exact h0
      · obtain ⟨g, b, n0, c0, _, rfl⟩ := e2 h0
        simp at hb
end
section
variable {F : Fr} {fs : List Fact} {Q : Exit → Act → World → Prop}
theorem t_condM (n : Nat) {k : Nat} {φ : Prop} {x y : Code} (hs : fs[n]? = some (.slot k (VP.may φ))) (h1 : φ → T F fs x Q) (h2 : T F fs y Q) : T F fs (.cond (.tmp k) x y) Q := fun a w hf => by
  obtain ⟨γ, g⟩ := hf
  obtain ⟨v, e1, b, rfl, hφ⟩ := g.hold _ (List.mem_of_getElem? hs)
  cases b with
  | true => exact wp_cond (eval_tmp e1) (h1 (hφ rfl) a w ⟨γ, g⟩)
  | false => exact wp_cond (eval_tmp e1) (h2 a w ⟨γ, g⟩)
theorem t_split (n : Nat) {k : Nat} {b : Bool} {x y : Code} (hs : fs[n]? = some (.slot k (VP.bool b))) (h1 : b = true → T F fs x Q) (h2 : b = false → T F fs y Q) : T F fs (.cond (.tmp k) x y) Q := by
  cases b with
  | true => exact t_cond_t n hs (h1 rfl)
  | false => exact t_cond_f n hs (h2 rfl)
end
end O
end Go.Proofs.Ytapmngmpomhjmaa

/- The logic over objects: results of several parts, joins of ways, rows of things, copies. -/
namespace Go.Proofs.Ytapmngmpomhjmaa
open Go.RowKit
namespace O
section
variable {X : Cx} {i : Nat} {pre suc : List Nat}
/-- one slot gets what another one has -/
theorem does_eqTmp {o : Oper} {d k : Nat} (y : Operand) (hy : y = .tmp k) (hop : o.op = .move y ∨ o.op = .assign y) (hd : o.dst = some d) (hlt : (decide (d < X.N) && decide (k < X.N)) = true) (hk : (k == d) = false) (hc : chk X i pre suc d = true) (hr : resOf X i = [.eq d (.tmp k)]) : Does X i pre suc o := by
  simp only [Bool.and_eq_true, decide_eq_true_eq] at hlt
  refine does_val hd (decide_eq_true hlt.1) hc hr rfl fun c γ a w s Q K hK => ?_
  have hl : k < a.tmps.size := by rw [s.g.sz]; exact hlt.2
  have hg : a.tmps[k]? = some (a.eval y) := by subst hy; rw [eval_tmp (Array.getElem?_eq_getElem hl)]; exact Array.getElem?_eq_getElem hl
  have hrun : (execOp a.eval o).run X.P w = .ok (.value (a.eval y)) w := by
    unfold execOp
    rcases hop with e | e <;> rw [e] <;> rfl
  unfold Oper.wp
  rw [hrun]
  show K (a.put o.dst _) w
  rw [hd]
  refine hK _ w (Ext.refl w) ⟨a.eval y, ?_, put_eq _ (by rw [s.g.sz]; exact hlt.1)⟩
  show (a.put (some d) _).tmps[k]? = _
  rw [put_ne _ (fun e => by subst e; simp at hk)]; exact hg
/-- a result that has no blocks -/
theorem ar_of {k id : Nat} {x : VP} (h : Av X i pre suc (.own id (.tmp k) (HA.of x))) : Ar X i pre suc (.tmp k) x.p := fun c γ a w s => by
  obtain ⟨v, h1, h2, _⟩ := h.h s
  rw [eval_tmp h1]; exact h2
/-- what is free of the blocks that never turn -/
def ZF (x : VP) : Prop := ∀ (Z Z' : Foot) (v : Value) (w : World), x.p Z v w → x.p Z' v w
def ZFs (ps : List VP) : Prop := ∀ (Z Z' : Foot) (vs : List Value) (w : World), All2 Z ps vs w → All2 Z' ps vs w
theorem zfs_nil : ZFs [] := fun _ _ vs _ h => by cases vs with
  | nil => trivial
  | cons v vs => exact h.elim
theorem zfs_cons {x : VP} {ps : List VP} (h : ZF x) (k : ZFs ps) : ZFs (x :: ps) := fun Z Z' vs w h' => by
  cases vs with
  | nil => exact h'.elim
  | cons v vs => exact ⟨h _ _ _ _ h'.1, k _ _ _ _ h'.2⟩
theorem zf_tup {ps : List VP} (h : ZFs ps) : ZF (VP.tup ps) := fun _ _ _ _ ⟨cs, h1, h2⟩ => ⟨cs, h1, h _ _ _ _ h2⟩
end
section
variable {F : Fr} {fs : List Fact} {Q : Exit → Act → World → Prop}
/-- ways meet again -/
theorem t_cut {τ : Type} (J : τ → List Fact) {x y : Code} (h1 : T F fs x (Exit.then (fun a w => ∃ s, Fs F (J s) a w) Q)) (h2 : ∀ s, T F (J s) y Q) : T F fs (.seq x y) Q := fun a w hf => by
  refine wp_seq (Code.wp_mono (fun e a' w' hq => ?_) (h1 a w hf))
  cases e with
  | normal => obtain ⟨s, hs⟩ := hq; exact h2 s a' w' hs
  | exit id => exact hq
  | goto l => exact hq
  | ret => exact hq
  | panic ch => exact hq
  | outgrown => exact hq
theorem nx_cut {τ : Type} {J : τ → List Fact} (s : τ) (idx : List Nat) (h : idx.map (fun n => fs[n]?) = (J s).map some) : Nx F fs (Exit.then (fun a w => ∃ s, Fs F (J s) a w) Q) := fun _ _ hf => ⟨s, fs_sub idx h hf⟩
end
section
variable {F : Fr} {fs : List Fact}
theorem rv_nil {E : TypeId} {sz : Nat} (n : Nat) {t : Nat} (h : fs[n]? = some (.slot t VP.nilS)) : Rv F fs (.tmp t) (HA.row E sz 0 []) [] := rv_weak (R := HA.of VP.nilS) (fun Z v w S h => ⟨by simp, .inl ⟨h.1, rfl, h.2⟩⟩) (rv_vp n h)
end
section
variable {F : Fr} {rest : List Fact} {K : Act → World → Prop}
end
theorem alls_weak {Z : Foot} {w : World} : ∀ {Rs Rs' : List HA} {vs : List Value} {S : Foot}, (Rs.length = Rs'.length) → (∀ (j : Nat) (R R' : HA), Rs[j]? = some R → Rs'[j]? = some R' → ∀ (v : Value) (S : Foot), R.p Z v w S → R'.p Z v w S) → AllS Z Rs vs w S → AllS Z Rs' vs w S
  | [], [], [], _, _, _, h => h
  | R :: Rs, R' :: Rs', v :: vs, S, hl, hp, ⟨S1, S2, e, d, h1, h2⟩ => ⟨S1, S2, e, d, hp 0 R R' rfl rfl v S1 h1, alls_weak (by simpa using hl) (fun j X X' hX hX' => hp (j + 1) X X' (by simpa using hX) (by simpa using hX')) h2⟩
  | [], [], _ :: _, _, _, _, h => h.elim
  | _ :: _, _, [], _, _, _, h => h.elim
  | [], _ :: _, _, _, hl, _, _ => by simp at hl
  | _ :: _, [], _, _, hl, _, _ => by simp at hl
/-- one cell is told otherwise -/
theorem cells_weak {T : TypeId} {Rs : List HA} (j : Nat) {R' : HA} {R : HA} (hj : Rs[j]? = some R) (hw : ∀ Z v w S, R.p Z v w S → R'.p Z v w S) : ∀ Z v w S, (HA.cells T Rs).p Z v w S → (HA.cells T (Rs.set j R')).p Z v w S := fun Z v w S ⟨g, cs, S', h1, h2, h3, h4⟩ => ⟨g, cs, S', h1, h2, alls_weak (by simp) (fun k X X' hX hX' u S hp => by
  rw [List.getElem?_set] at hX'
  by_cases e : j = k
  · subst e
    rw [hj] at hX
    injection hX with hX
    have hlt := (List.getElem?_eq_some_iff.1 hj).1
    rw [if_pos rfl, if_pos hlt] at hX'
    injection hX' with hX'
    subst hX hX'
    exact hw _ _ _ _ hp
  · rw [if_neg e, hX] at hX'
    injection hX' with hX'
    subst hX'; exact hp) h3, h4⟩
theorem nil_row {E : TypeId} {sz : Nat} : ∀ Z v w S, (HA.of VP.nilS).p Z v w S → (HA.row E sz 0 []).p Z v w S := fun _ _ _ _ h => ⟨by simp, .inl ⟨h.1, rfl, h.2⟩⟩
/-! ### rows of things -/
section
variable {α β : Type}
theorem flat_len {f : α → List β} {sz : Nat} (hl : ∀ a, (f a).length = sz) (l : List α) : (l.flatMap f).length = l.length * sz := by
  induction l with
  | nil => simp
  | cons a l ih => rw [List.flatMap_cons, List.length_append, ih, hl, List.length_cons, Nat.succ_mul, Nat.add_comm]
theorem flat_get {f : α → List β} {sz : Nat} (hl : ∀ a, (f a).length = sz) : ∀ {l : List α} {m : Nat} {a : α}, l[m]? = some a → ∀ (j : Nat) (x : β), (f a)[j]? = some x → (l.flatMap f)[m * sz + j]? = some x
  | b :: l, 0, a, h, j, x, hx => by
    simp at h; subst h
    rw [List.flatMap_cons, Nat.zero_mul, Nat.zero_add, List.getElem?_append_left (List.getElem?_eq_some_iff.1 hx).1]; exact hx
  | b :: l, m + 1, a, h, j, x, hx => by
    rw [List.flatMap_cons, List.getElem?_append_right (by rw [hl, Nat.succ_mul]; omega), hl, show (m + 1) * sz + j - sz = m * sz + j by rw [Nat.succ_mul]; omega]
    exact flat_get hl (by simpa using h) j x hx
  | [], _, _, h, _, _, _ => by simp at h
theorem flat_take {f : α → List β} {sz : Nat} (hl : ∀ a, (f a).length = sz) : ∀ (l : List α) (h : Nat), (l.flatMap f).take (h * sz) = (l.take h).flatMap f
  | [], h => by simp
  | a :: l, 0 => by simp
  | a :: l, h + 1 => by
    rw [List.flatMap_cons, List.take_succ_cons, List.flatMap_cons, List.take_append, hl, List.take_of_length_le (by rw [hl, Nat.succ_mul]; omega), show (h + 1) * sz - sz = h * sz by rw [Nat.succ_mul]; omega, flat_take hl l h]
theorem flat_cat {f : α → List VP} (l l' : List α) : (l.flatMap f).map HA.of ++ (l'.flatMap f).map HA.of = ((l ++ l').flatMap f).map HA.of := by
  rw [List.flatMap_append, List.map_append]
theorem flat_takeH {f : α → List VP} {sz : Nat} (hl : ∀ a, (f a).length = sz) (l : List α) (h : Nat) : ((l.take h).flatMap f).map HA.of = ((l.flatMap f).map HA.of).take (h * sz) := by
  rw [← List.map_take, flat_take hl]
theorem flat_set {f : α → List VP} (hl : ∀ a, (f a).length = 1) : ∀ (l : List α) (m : Nat) (a : α), m < l.length → ((l.set m a).flatMap f).map HA.of = ((l.flatMap f).map HA.of).take m ++ (f a).map HA.of ++ ((l.flatMap f).map HA.of).drop (m + 1) := by
  intro l m a hm
  have h1 := flat_take hl l m
  rw [Nat.mul_one] at h1
  have h2 : (l.flatMap f).drop (m + 1) = (l.drop (m + 1)).flatMap f := by
    have h3 := flat_take hl l (m + 1)
    rw [Nat.mul_one] at h3
    have : l.flatMap f = (l.take (m + 1)).flatMap f ++ (l.drop (m + 1)).flatMap f := by rw [← List.flatMap_append, List.take_append_drop]
    have h4 := List.take_append_drop (m + 1) (l.flatMap f)
    rw [h3] at h4
    rw [← List.append_cancel_left (h4.trans this)]
  rw [List.set_eq_take_append_cons_drop, if_pos hm, List.flatMap_append, List.flatMap_cons, List.map_append, List.map_append, ← List.map_take, ← List.map_drop, h1, h2, List.append_assoc]
theorem hq_flat {f : α → List VP} {sz : Nat} (hl : ∀ a, (f a).length = sz) {l : List α} {m : Nat} {a : α} (h : l[m]? = some a) {off : Nat} (ho : off = m * sz) {ps : List VP} (hp : f a = ps) : ∀ j x, ps[j]? = some x → ((l.flatMap f).map HA.of)[off + j]? = some (HA.of x) := fun j x hx => by
  subst ho hp
  rw [List.getElem?_map, flat_get hl h j x hx]; rfl
theorem hq_flatV {f : α → List VP} {sz : Nat} (hl : ∀ a, (f a).length = sz) {l : List α} {m : Nat} {a : α} (h : l[m]? = some a) {off : Nat} (ho : off = m * sz) {ps : List VP} (hp : f a = ps) : ∀ j x, ps[j]? = some x → (l.flatMap f)[off + j]? = some x := fun j x hx => by
  subst ho hp
  exact flat_get hl h j x hx
/-- one cell of a thing in a row -/
theorem hq_flat1 {f : α → List VP} {sz : Nat} (hl : ∀ a, (f a).length = sz) {l : List α} {m : Nat} {a : α} (h : l[m]? = some a) (c : Nat) {off : Nat} (ho : off = m * sz + c) {x : VP} (hp : (f a)[c]? = some x) : ∀ j y, [x][j]? = some y → ((l.flatMap f).map HA.of)[off + j]? = some (HA.of y) := fun j y hy => by
  subst ho
  cases j with
  | zero => simp at hy; subst hy; rw [Nat.add_zero, List.getElem?_map, flat_get hl h c x hp]; rfl
  | succ j => simp at hy
theorem hq_flatV1 {f : α → List VP} {sz : Nat} (hl : ∀ a, (f a).length = sz) {l : List α} {m : Nat} {a : α} (h : l[m]? = some a) (c : Nat) {off : Nat} (ho : off = m * sz + c) {x : VP} (hp : (f a)[c]? = some x) : ∀ j y, [x][j]? = some y → (l.flatMap f)[off + j]? = some y := fun j y hy => by
  subst ho
  cases j with
  | zero => simp at hy; subst hy; rw [Nat.add_zero]; exact flat_get hl h c x hp
  | succ j => simp at hy
theorem flat_nil_iff {f : α → List β} {sz : Nat} (hl : ∀ a, (f a).length = sz) (hs : 0 < sz) (l : List α) : l.length = 0 ∨ 0 < (l.flatMap f).length := by
  rw [flat_len hl]
  rcases Nat.eq_zero_or_pos l.length with h | h
  · exact .inl h
  · exact .inr (Nat.mul_pos h hs)
theorem flat_all {f : α → List VP} {g : VP → Bool} (h : ∀ a, (f a).all g = true) (l : List α) : (l.flatMap f).all g = true := by
  rw [List.all_flatMap]
  exact List.all_eq_true.2 fun a _ => h a
theorem flat_allH {f : α → List VP} {g : VP → Bool} {g' : HA → Bool} (e : ∀ x, g' (HA.of x) = g x) (h : ∀ a, (f a).all g = true) (l : List α) : ((l.flatMap f).map HA.of).all g' = true := by
  rw [List.all_map]
  refine List.all_eq_true.2 fun x hx => ?_
  show g' (HA.of x) = true
  rw [e]
  exact List.all_eq_true.1 (flat_all h l) x hx
theorem flat_lenH {f : α → List VP} {sz : Nat} (hl : ∀ a, (f a).length = sz) (l : List α) : ((l.flatMap f).map HA.of).length = l.length * sz := by rw [List.length_map, flat_len hl]
end
def cInt (n : Int) : List VP := [VP.int .i64 n]
theorem cInt_len (n : Int) : (cInt n).length = 1 := rfl
theorem cInt_one (n : Int) : (cInt n).all (·.one) = true := rfl
theorem cInt_nu (n : Int) : (cInt n).all (·.nu) = true := rfl
theorem z1_of {x : VP} {z : Value} (h : ∀ Z w, x.p Z z w) (hz : z.cells = #[z]) (n : Nat) : ∀ Z w, All2 Z (List.replicate n x) (zerosOf z (n * 1)) w := fun Z w => by
  unfold zerosOf
  rw [Nat.mul_one, hz, toList_madeCells_one]
  induction n with
  | zero => trivial
  | succ n ih => exact ⟨h Z w, ih⟩
/-- maps of values that have no blocks -/
def mEnt {κ β : Type} (g : β → VP) (l : List (κ × β)) : List (κ × HA) := l.map fun p => (p.1, HA.of (g p.2))
theorem mfind_ent {κ β : Type} (K : MKey κ) (g : β → VP) (k : κ) (l : List (κ × β)) : mfind K k (mEnt g l) = (mfind K k l).map fun b => HA.of (g b) := by
  induction l with
  | nil => rfl
  | cons e l ih =>
    unfold mEnt at ih ⊢
    rw [List.map_cons]
    unfold mfind
    cases K.eqv k e.1 with
    | true => rfl
    | false => simpa using ih
theorem mput_ent {κ β : Type} (K : MKey κ) (g : β → VP) (k : κ) (b : β) (l : List (κ × β)) : mEnt g (mput K k b l) = mput K k (HA.of (g b)) (mEnt g l) := by
  induction l with
  | nil => rfl
  | cons e l ih =>
    unfold mEnt at ih ⊢
    rw [List.map_cons]
    unfold mput
    cases h : K.eqv k e.1 with
    | true => simp
    | false => simpa using ih
theorem mlk_some {κ β : Type} {K : MKey κ} {g : β → VP} {k : κ} {l : List (κ × β)} (z : β) {x : VP} (hx : x = g ((mfind K k l).getD z)) : ∀ R, mfind K k (mEnt g l) = some R → R = HA.of x := fun R h => by
  subst hx
  rw [mfind_ent] at h
  cases hm : mfind K k l with
  | none => rw [hm] at h; cases h
  | some b => rw [hm] at h; injection h with h; exact h.symm
theorem mlk_none {κ β : Type} {K : MKey κ} {g : β → VP} {k : κ} {l : List (κ × β)} (z : β) {x : VP} {zv : Value} (hx : x = g ((mfind K k l).getD z)) (h0 : ∀ Z w, (g z).p Z zv w) : mfind K k (mEnt g l) = none → ∀ Z w, x.p Z zv w := fun h => by
  subst hx
  rw [mfind_ent] at h
  cases hm : mfind K k l with
  | none => exact h0
  | some b => rw [hm] at h; cases h
theorem mlk_is {κ β : Type} {K : MKey κ} {g : β → VP} {k : κ} {l : List (κ × β)} : (mfind K k (mEnt g l)).isSome = (mfind K k l).isSome := by
  rw [mfind_ent]; cases mfind K k l <;> rfl
theorem mEnt_len {κ β : Type} (g : β → VP) (l : List (κ × β)) : (mEnt g l).length = l.length := by simp [mEnt]
theorem zv_of {P : Program} {E : TypeId} {z : Value} (h : (P.info? E).bind (·.zero) = some z) : ∀ w, (zeroValue E).run P w = .ok z w := fun w => by
  obtain ⟨i, h1, h2⟩ := Option.bind_eq_some_iff.1 h
  simp [zeroValue, typeInfo, h1, h2]
section
variable {F : Fr} {rest : List Fact} {K : Act → World → Prop}
theorem b_name {k : Nat} {R : HA} (h : ∀ v, Sat F (.bor (.val v) R :: .slot k (VP.eq v R.nu R.one) :: rest) K) : Sat F (.bor (.tmp k) R :: rest) K :=
  t_bor (α := Value) (fun v => [.bor (.val v) R, .slot k (VP.eq v R.nu R.one)]) (fun _ => rfl) (fun γ a w v S h1 h2 h3 => ⟨v, fun f hf => by
    simp only [List.mem_cons, List.not_mem_nil, or_false] at hf
    rcases hf with rfl | rfl
    · exact ⟨v, S, rfl, h2, h3⟩
    · exact ⟨v, h1, rfl, fun hn => R.hnu hn _ _ _ _ h3, fun hn => R.hone hn _ _ _ _ h3⟩⟩) h
end
end O
end Go.Proofs.Ytapmngmpomhjmaa

/- The logic over objects: what is written into rows. -/
namespace Go.Proofs.Ytapmngmpomhjmaa
open Go.RowKit
namespace O
theorem take_splice {α : Type} (l us : List α) (off m : Nat) (h : off + us.length ≤ m) (hm : m ≤ l.length) : (l.take off ++ us ++ l.drop (off + us.length)).take m = (l.take m).take off ++ us ++ (l.take m).drop (off + us.length) := by
  have h1 : (l.take off).length = off := by rw [List.length_take]; omega
  rw [List.append_assoc, List.take_append, h1, List.take_take, List.take_take, Nat.min_eq_left (by omega : off ≤ m), Nat.min_eq_right (by omega : off ≤ m), List.take_append, List.append_assoc, List.take_of_length_le (by omega : us.length ≤ m - off), List.drop_take]
  congr 3
  omega
theorem row_splice {Z : Foot} {w : World} {E : TypeId} {sz n : Nat} {Rs Qs : List HA} {v : Value} {S T : Foot} (h : (HA.row E sz n Rs).p Z v w S) {g b n' c' : Nat} (hv : v = .slice (some ⟨g, b, none⟩) n' c') (off : Nat) {us : List Value} (hq : AllS Z Qs us w T) (hl : off + Qs.length ≤ Rs.length) (hnu : Qs.all (·.nu) = true) (hd : ∀ b, S b → ¬ T b)
    (hZ : ∀ b, Z b → b < w.heap.size ∧ ¬ S b) (hS : ∀ b, S b ∨ T b → b < w.heap.size) :
    ∃ cur : Array Value, w.heap[g]? = some (.cells cur E (0, 0)) ∧ b = 0 ∧ off + us.length ≤ cur.size ∧ ∃ S' : Foot, (HA.row E sz n (Rs.take off ++ Qs ++ Rs.drop (off + Qs.length))).p Z v (w.setRow g (cur.toList.take off ++ us ++ cur.toList.drop (off + us.length)).toArray) S' ∧
      (∀ b, S' b → S b ∨ T b) ∧ Turn S w (w.setRow g (cur.toList.take off ++ us ++ cur.toList.drop (off + us.length)).toArray) := by
  obtain ⟨h0, ⟨h1, _⟩ | ⟨g', cap, cur, S1, h1, h2, h3, h4, h5, h6, h7, h8, h9⟩⟩ := h
  · rw [h1] at hv; cases hv
  rw [h1] at hv
  injection hv with hv _ _
  injection hv with hv
  injection hv with e1 e2
  subst e1 e2
  have hul := hq.len
  have hle : n * sz ≤ cur.size := by rw [h5]; exact Nat.mul_le_mul_right _ h3
  have hrow : Row w g' E cur.toList := by unfold Row; simpa using h2
  have hSg : S g' := (h7 g').2 (.inl rfl)
  have t := setRow_turn (E := fun b => b = g') hrow h9 (cur.toList.take off ++ us ++ cur.toList.drop (off + us.length)) rfl
  obtain ⟨S2, m1, m2⟩ := h6.splice off Qs.length hl hq fun b hb => hd b ((h7 b).2 (.inr hb))
  have nog : ∀ b, S2 b ∨ T b → b ≠ g' := fun b hb e => by
    subst e
    rcases hb with hb | hb
    · exact h8 (m1 _ hb)
    · exact hd _ hSg hb
  have hdl : (cur.toList.take off ++ us ++ cur.toList.drop (off + us.length)).length = cur.size := by
    simp only [List.length_append, List.length_take, List.length_drop, Array.length_toList]; omega
  refine ⟨cur, h2, rfl, by omega, fun b => b = g' ∨ (S2 b ∨ T b), ⟨?_, .inr ⟨g', cap, _, fun b => S2 b ∨ T b, h1, setRow_heap w g' cur _ E _ h2, h3, h4, by rw [List.size_toArray, hdl, h5], ?_, fun b => Iff.rfl, fun hb => nog _ hb rfl, fun u hu => ?_⟩⟩, fun b hb => ?_, t.mono fun b _ e => by rw [e]; exact hSg⟩
  · simp only [List.length_append, List.length_take, List.length_drop]; omega
  · show AllS Z _ ((cur.toList.take off ++ us ++ cur.toList.drop (off + us.length)).take (n * sz)) _ _
    rw [take_splice _ _ _ _ (by omega) (by simpa using hle)]
    rw [show (cur.toList.take (n * sz)).drop (off + us.length) = (cur.toList.take (n * sz)).drop (off + Qs.length) by rw [hul]]
    refine m2.st (fun _ h => h) (fun b hb => t.block b (hZ b hb).1 fun e => (hZ b hb).2 (e ▸ hSg)) t.toCalm fun b hb => t.block b (hS b ?_) (nog b hb)
    rcases hb with hb | hb
    · exact .inl ((h7 b).2 (.inr (m1 b hb)))
    · exact .inr hb
  · have hu : u ∈ cur.toList.take off ++ us ++ cur.toList.drop (off + us.length) := by simpa using hu
    rw [List.mem_append, List.mem_append] at hu
    rcases hu with (hu | hu) | hu
    · exact h9 u (List.mem_of_mem_take hu)
    · exact hq.nus hnu u hu
    · exact h9 u (List.mem_of_mem_drop hu)
  · rcases hb with rfl | hb | hb
    · exact .inl hSg
    · exact .inl ((h7 b).2 (.inr (m1 b hb)))
    · exact .inr hb
section
variable {X : Cx} {i : Nat} {pre suc : List Nat}
theorem does_storeRow {o : Oper} {id off : Nat} {v : Value} {T E : TypeId} {sz n n' : Nat} {Rs Qs Rs' : List HA} {ido : Option Nat} (y z : Operand) (hsz : ∀ w, (sizeOf T).run X.P w = .ok Qs.length w) (hop : o.op = .store T y z) (hd : o.dst = none) (hc : chkM X i pre suc none (id :: ido.toList) = true)
    (hr : resOf X i = [.own id (.val v) (HA.row E sz n' Rs')]) (hN : n = n') (hrs : Rs' = Rs.take off ++ Qs ++ Rs.drop (off + Qs.length)) (hl : off + Qs.length ≤ Rs.length) (hq : (Qs.all (·.one) && Qs.all (·.nu) && !(ido == some id)) = true) (hp : Pt X i pre suc y (.row (.val v) off))
    (h : Av X i pre suc (.own id (.val v) (HA.row E sz n Rs))) (hz : Cv X i pre suc z Qs ido) : Does X i pre suc o := by
  subst hN
  subst hrs
  intro c γ a w s Q K hK
  obtain ⟨g, o', ⟨b0, n', c', h1, h1'⟩, h2⟩ := hp c γ a w s
  have hHas := h c γ a w s
  obtain ⟨v0, h3, h4⟩ := h.h s
  have h3 : v0 = v := h3
  subst h3
  have h1 : Value.slice (some ⟨g, b0, none⟩) n' c' = v0 := h1
  simp only [Bool.and_eq_true] at hq
  obtain ⟨⟨l2, l3⟩, l4⟩ := hq
  obtain ⟨S, k1, k2⟩ := hz c γ a w s
  have hdis : ∀ b, γ.σ id b → ¬ S b := fun b hb hb' => by
    obtain ⟨k, hk, e1, r', R', e2⟩ := k2 b hb'
    refine s.g.sep id _ _ k r' R' hHas e2 (fun e => ?_) b hb e1
    have hk : ido = some k := by simpa using hk
    rw [hk, ← e] at l4; simp at l4
  have hE : ∀ b, (γ.σ id b ∨ S b) → ∃ k ∈ id :: ido.toList, γ.σ k b ∧ ∃ r R, Has X c (.own k r R) := fun b hb => by
    rcases hb with hb | hb
    · exact ⟨id, List.mem_cons_self .., hb, _, _, hHas⟩
    · obtain ⟨k, hk, e⟩ := k2 b hb
      exact ⟨k, List.mem_cons_of_mem _ (by simpa [Option.mem_toList] using hk), e⟩
  have hEb : ∀ b, (γ.σ id b ∨ S b) → b < w.heap.size ∧ ¬ γ.Z b := fun b hb => by
    obtain ⟨k, _, e1, r', R', e2⟩ := hE b hb
    have := s.g.bnd k r' R' e2 b e1
    exact ⟨this.1, this.2.2⟩
  obtain ⟨cur, g1, g2, g3, S', g4, g5, g6⟩ := row_splice h4 h1.symm off k1 hl l3 hdis (fun b hb => ⟨(s.g.zof b hb).1, fun h => (hEb b (.inl h)).2 hb⟩) (fun b hb => (hEb b hb).1)
  subst g2
  have hvn := k1.len
  have hrow : Row w g E cur.toList := by unfold Row; simpa using g1
  have hrun := run_storeCell (P := X.P) (T := T) (off := off) Qs.length hrow (hsz w) (by simpa using hvn) (by simp only [Array.length_toList]; omega) (k1.ones l2)
  unfold Oper.wp execOp
  rw [hop]
  rw [Nat.zero_add] at h1'
  subst h1'
  rw [hvn] at g4 g6
  simp only [h2, Instr.storeAt, Instr.sureAddr, Sem.run_bind, Sem.run_pure, Result.andThen_ok, hrun]
  show K (a.put o.dst undef) _
  rw [hd]
  show K a _
  refine hK _ _ _ (step_own s hc hr (fun b => γ.σ id b ∨ S b) S' hE s.g.sz s.g.df (g6.mono fun b _ e => .inl e) (fun f _ w h => h) rfl g4 fun b hb => ⟨.inl (g5 b hb), ?_⟩)
  rw [setRow_size]; exact (hEb b (g5 b hb)).1
end
end O
end Go.Proofs.Ytapmngmpomhjmaa

/- The logic over objects: what operations on two integers give. -/
namespace Go.Proofs.Ytapmngmpomhjmaa
open Go.RowKit
namespace O
section
variable {P : Program} {T : TypeId} {k k' : IntKind} {m n r : Int}
theorem br_mul (h : k.wrap (m * n) = r) : ∀ w, (binOp .mul T (.int k m) (.int k n)).run P w = .ok (.int k r) w := fun w => by simp [binOp, Op.intArith, h]
theorem br_rem (hn : n ≠ 0) (h : m.tmod n = r) : ∀ w, (binOp .rem T (.int k m) (.int k n)).run P w = .ok (.int k r) w := fun w => by simp [binOp, Op.intDiv, h, hn]
/-- a mask of j ones -/
theorem br_and {j : Nat} (hj : j ≤ 32) (hk : k = .i64 ∨ k = .u64) (hn : n = 2 ^ j - 1) (h : m % 2 ^ j = r) : ∀ w, (binOp .and T (.int k m) (.int k n)).run P w = .ok (.int k r) w := fun w => by
  subst hn h
  have hp : (2 : Int) ^ j ≤ 2 ^ 32 := by
    have : (2 : Nat) ^ j ≤ 2 ^ 32 := Nat.pow_le_pow_right (by decide) hj
    exact_mod_cast this
  have h1 : (1 : Int) ≤ 2 ^ j := by
    have : 1 ≤ (2 : Nat) ^ j := Nat.one_le_two_pow
    exact_mod_cast this
  have h1n : 1 ≤ (2 : Nat) ^ j := Nat.one_le_two_pow
  have hpn : (2 : Nat) ^ j ≤ 2 ^ 32 := Nat.pow_le_pow_right (by decide) hj
  have e2 : ((2 : Int) ^ j - 1) = (((2 ^ j - 1 : Nat)) : Int) := by
    rw [Int.natCast_sub h1n]; simp
  have hb : ∀ B : Nat, B = 64 → (BitVec.ofInt B m &&& BitVec.ofInt B ((2 : Int) ^ j - 1)).toNat = (m % 2 ^ j).toNat := fun B hB => by
    subst hB
    rw [e2, BitVec.ofInt_natCast, BitVec.toNat_and, BitVec.toNat_ofInt, BitVec.toNat_ofNat, Nat.mod_eq_of_lt (by omega : 2 ^ j - 1 < 2 ^ 64), Nat.and_two_pow_sub_one_eq_mod]
    have hd : ((2 : Int) ^ j) ∣ 2 ^ 64 := by
      refine ⟨2 ^ (64 - j), ?_⟩
      rw [← Int.pow_add]; congr 1; omega
    have hm : ((2 ^ 64 : Nat) : Int) = (2 : Int) ^ 64 := by simp
    rw [hm]
    have : ((((m % 2 ^ 64).toNat % 2 ^ j : Nat)) : Int) = (m % 2 ^ j) := by
      rw [Int.natCast_emod, Int.toNat_of_nonneg (Int.emod_nonneg _ (by decide))]
      have : (((2 ^ j : Nat)) : Int) = (2 : Int) ^ j := by simp
      rw [this, Int.emod_emod_of_dvd _ hd]
    omega
  have hlt := Int.emod_lt_of_pos m (show (0 : Int) < 2 ^ j by omega)
  have hge := Int.emod_nonneg m (show (2 : Int) ^ j ≠ 0 by omega)
  have hc : (((m % 2 ^ j).toNat : Nat) : Int) = m % 2 ^ j := Int.toNat_of_nonneg hge
  rcases hk with rfl | rfl
  · have h3 := hb (IntKind.bits .i64) rfl
    simp only [binOp, Op.intBits, ne_eq, not_true_eq_false, if_false]
    rw [h3, hc, IntKind.wrap_i64]
    have : (m % 2 ^ j + 9223372036854775808) % 18446744073709551616 - 9223372036854775808 = m % 2 ^ j := by omega
    rw [this]; rfl
  · have h3 := hb (IntKind.bits .u64) rfl
    simp only [binOp, Op.intBits, ne_eq, not_true_eq_false, if_false]
    rw [h3, hc, IntKind.wrap_u64]
    have : m % 2 ^ j % 18446744073709551616 = m % 2 ^ j := by omega
    rw [this]; rfl
end
section
variable {α : Type}
theorem mk_zeros {f : α → List VP} {x : VP} {z : Value} {a : α} (h : ∀ Z w, x.p Z z w) (hz : z.cells = #[z]) (hf : f a = [x]) (n : Nat) : ∀ Z w, All2 Z ((List.replicate n a).flatMap f) (zerosOf z (n * 1)) w := fun Z w => by
  have := z1_of h hz n Z w
  have e : (List.replicate n a).flatMap f = List.replicate n x := by
    induction n with
    | zero => rfl
    | succ n ih => rw [List.replicate_succ, List.flatMap_cons, ih (z1_of h hz n Z w), hf, List.replicate_succ]; rfl
  rw [e]; exact this
end
end O
end Go.Proofs.Ytapmngmpomhjmaa

/- The logic over objects, for this program. -/
namespace Go.Proofs.Ytapmngmpomhjmaa
open Go.RowKit
namespace O
theorem follow : Try.prog.follows .mixedOrders = true := by kernel_rfl
theorem spec_res {P : Program} {f : FuncId} {qs : List Par} {B O O' : List (Value × HA)} {R R' : HA} (hw : ∀ (Z : Foot) (v : Value) (w : World) (S : Foot), R.p Z v w S → R'.p Z v w S) (h : SpecO P f qs B O O' R) : SpecO P f qs B O O' R' :=
  fun vs w Z Bf S h1 h2 h3 h4 h5 h6 h7 => (h vs w Z Bf S h1 h2 h3 h4 h5 h6 h7).mono fun _ _ ⟨v, Z', S', T, e, z1, z2, p1, p2, p3⟩ => ⟨v, Z', S', T, e, z1, z2, p1, hw _ _ _ _ p2, p3⟩
theorem spec_tup {P : Program} {f : FuncId} {qs : List Par} {B O O' : List (Value × HA)} {ps : List VP} (h : SpecO P f qs B O O' (HA.tup (ps.map HA.of))) : SpecO P f qs B O O' (HA.of (VP.tup ps)) :=
  spec_res (R := HA.tup (ps.map HA.of)) (R' := HA.of (VP.tup ps)) (fun _ _ _ _ ⟨cs, h1, h2⟩ => ⟨⟨cs, h1, h2.all2.1⟩, h2.all2.2⟩) h
theorem rv_nilE {F : Fr} {fs : List Fact} {α : Type} {E : TypeId} {sz : Nat} {f : α → List VP} {l : List α} (n : Nat) {t : Nat} (h : fs[n]? = some (.slot t VP.nilS)) (hl : l.length = 0) : Rv F fs (.tmp t) (HA.row E sz l.length ((l.flatMap f).map HA.of)) [] := by
  obtain rfl := List.eq_nil_of_length_eq_zero hl
  exact rv_nil n h
end O
end Go.Proofs.Ytapmngmpomhjmaa

/- More ghost steps. -/
namespace Go.Proofs.Ytapmngmpomhjmaa
open Go.RowKit
namespace O
variable {F : Fr} {rest : List Fact} {K : Act → World → Prop}
/-- where a block of cells stands there is a pointer -/
theorem t_knowP {id : Nat} {u : Value} {T' : TypeId} {Rs : List HA} (h : (∃ g o, u = .pointer (some ⟨g, o, none⟩)) → Sat F (.own id (.val u) (HA.cells T' Rs) :: rest) K) : Sat F (.own id (.val u) (HA.cells T' Rs) :: rest) K :=
  t_know (fun γ a w ⟨v, e, g, cs, S', h1, _⟩ => ⟨g, 0, by cases e; exact h1⟩) h
end O
end Go.Proofs.Ytapmngmpomhjmaa

/- A slice that is looked at, wherever it lies: an own row, a piece of one, what came in. -/
namespace Go.Proofs.Ytapmngmpomhjmaa
open Go.RowKit
namespace O
/-- v is a slice of n; its cells stand in a block of S or of Z -/
def HA.slc (n : Nat) (ps : List VP) : HA := ⟨fun Z v w S => ∃ a c, v = .slice a n c ∧ n ≤ c ∧ c ≤ maxLen ∧ (n = 0 ∨ 0 < ps.length) ∧ (ps = [] ∨ ∃ g off, a = some ⟨g, off, none⟩ ∧ (Z g ∨ S g) ∧ Cells Z w g off ps), true,
  fun _ _ v _ _ ⟨a, c, h1, _⟩ m e => (by rw [h1] at e; cases e), true, fun _ _ v _ _ ⟨a, c, h1, _⟩ => (by rw [h1]; rfl),
  fun Z Z' v w w' S ⟨a, c, h1, h2, h3, h4, h5⟩ hz h6 h7 h8 => ⟨a, c, h1, h2, h3, h4, h5.imp id fun ⟨g, off, e, hg, hc⟩ => ⟨g, off, e, hg.imp (hz g) id, fun j x hx => by
    obtain ⟨u, hu, hp⟩ := hc j x hx
    exact ⟨u, by rw [World.cell?_of_block (w := w) (hg.elim (h6 g) (h7 g))]; exact hu, x.hst _ _ _ _ _ hp hz h6 h8⟩⟩⟩⟩
theorem slc_ro {n : Nat} {ps : List VP} {Z : Foot} {v : Value} {w : World} (h : (VP.ro n ps).p Z v w) (hm : n = 0 ∨ 0 < ps.length) : (HA.slc n ps).p Z v w fun _ => False := by
  obtain ⟨a, c, h1, h2, h3, h4⟩ := h
  exact ⟨a, c, h1, h2, h3, hm, h4.imp id fun ⟨g, off, e, hg, hc⟩ => ⟨g, off, e, .inl hg, hc⟩⟩
theorem slc_row {E : TypeId} {sz n : Nat} {ps : List VP} {Z : Foot} {v : Value} {w : World} {S : Foot} (h : (HA.row E sz n (ps.map HA.of)).p Z v w S) (hm : n = 0 ∨ 0 < ps.length) : (HA.slc n ps).p Z v w S := by
  have h' := h
  obtain ⟨h0, ⟨rfl, rfl, _⟩ | ⟨g, cap, cur, S', rfl, _, hc, hm', _, _, hS, _⟩⟩ := h
  · refine ⟨none, 0, rfl, Nat.le_refl _, by simp [maxLen], .inl rfl, .inl ?_⟩
    exact List.eq_nil_of_length_eq_zero (by simpa using h0)
  · exact ⟨_, cap, rfl, hc, hm', hm, .inr ⟨g, 0, rfl, .inr ((hS g).2 (.inl rfl)), row_cells h' rfl fun j x hx => by rw [Nat.zero_add, List.getElem?_map, hx]; rfl⟩⟩
section
variable {X : Cx} {i : Nat} {pre suc : List Nat}
theorem pa_weak {il : List Nat} {y : Operand} {R R' : HA} (h : Pa X i pre suc il y (.bo R) none) (hw : ∀ Z v w S, R.p Z v w S → R'.p Z v w S) : Pa X i pre suc il y (.bo R') none := ⟨fun c γ a w s => by
  obtain ⟨S, h1, h2⟩ := h.1 c γ a w s
  exact ⟨S, hw _ _ _ _ h1, h2⟩, rfl⟩
/-- an own row, or one that is looked at -/
theorem pa_slc {il : List Nat} {y : Operand} {E : TypeId} {sz n : Nat} {ps : List VP} (h : Pa X i pre suc il y (.bo (HA.row E sz n (ps.map HA.of))) none) (hm : n = 0 ∨ 0 < ps.length) : Pa X i pre suc il y (.bo (HA.slc n ps)) none := pa_weak h fun _ _ _ _ h => slc_row h hm
/-- what came in -/
theorem pa_slcRo {il : List Nat} {y : Operand} {n : Nat} {ps : List VP} (h : Ar X i pre suc y (VP.ro n ps).p) (hm : n = 0 ∨ 0 < ps.length) : Pa X i pre suc il y (.bo (HA.slc n ps)) none := pa_look fun c γ a w s => ⟨_, slc_ro (h c γ a w s) hm, fun _ h => h⟩
theorem rds_slc {off n : Nat} {r : Ref} {qs ps : List VP} (h : Av X i pre suc (.bor r (HA.slc n qs))) (hq : ∀ j x, ps[j]? = some x → qs[off + j]? = some x) : Rds X i pre suc (.row r off) ps := fun c γ a w s g o ha => by
  obtain ⟨v, S, h1, _, A, cp, h2, _, _, _, h3⟩ := h.h s
  obtain ⟨b, n', c', h4, rfl⟩ := ha
  have := Ref.den_fun h1 h4
  rw [h2] at this
  injection this with e1 _ _
  subst e1
  intro j x hx
  rcases h3 with h3 | ⟨g', o', h5, _, h6⟩
  · have := hq j x hx
    rw [h3] at this; simp at this
  · injection h5 with h5
    injection h5 with e1 e2
    subst e1 e2
    obtain ⟨u, h7, h8⟩ := h6 _ _ (hq j x hx)
    exact ⟨u, by rw [Nat.add_assoc]; exact h7, h8⟩
theorem sl_slc {y : Operand} {v : Value} {nu one : Bool} {n : Nat} {ps : List VP} (h : Av X i pre suc (.bor (.val v) (HA.slc n ps))) (hy : Ar X i pre suc y (VP.eq v nu one).p) : Sl X i pre suc y (.val v) 0 n := sl_form fun c γ a w s => by
  obtain ⟨S, A, cp, e, hc, _, hm, h3⟩ := sit_bor h c γ a w s
  refine ⟨A, cp, by rw [(hy c γ a w s).1, e], e.symm, hc, fun hn => ?_⟩
  rcases h3 with h3 | ⟨g, off, rfl, _⟩
  · rcases hm with hm | hm
    · omega
    · rw [h3] at hm; simp at hm
  · exact ⟨g, off, rfl⟩
theorem src_slc {y : Operand} {v : Value} {nu one : Bool} {m : Nat} {qs : List VP} (h : Av X i pre suc (.bor (.val v) (HA.slc m qs))) (hy : Ar X i pre suc y (VP.eq v nu one).p) : Src X i pre suc y m (qs.map HA.of) none := fun c γ a w s => by
  obtain ⟨S, A, cp, e, hc, _, hm, h3⟩ := sit_bor h c γ a w s
  have e' : a.eval y = .slice A m cp := by rw [(hy c γ a w s).1, e]
  rcases h3 with rfl | ⟨g, off, rfl, _, h5⟩
  · exact ⟨A, cp, [], fun _ => False, e', fun _ => hm.elim id (fun h => by simp at h), .inl rfl, fun _ h => h, fun _ h => h.elim⟩
  · obtain ⟨cs, h6, h7⟩ := cells_all2' h5
    exact ⟨_, cp, cs, fun _ => False, e', fun h => (by cases h), .inr ⟨g, off, rfl, h7⟩, AllS.of_all2 (fun _ h => h) h6, fun _ h => h.elim⟩
end
end O
end Go.Proofs.Ytapmngmpomhjmaa

/- Functions with what they are bound to (method values), and calls of them that read. -/
namespace Go.Proofs.Ytapmngmpomhjmaa
open Go.RowKit
namespace O
/-- a function, what it is bound to, what it has caught -/
def VP.bnd (f : FuncId) (fs cs : List Value) : VP := .free (fun v => v = .func (.func f) fs.toArray cs.toArray) true (fun _ v h n e => (by rw [h] at e; cases e)) true (fun _ v h => (by rw [h]; rfl))
theorem run_bnd {P : Program} {f : FuncId} {fs cs : List Value} {o : Oper} {y : Operand} {ags : Array Operand} {ts : Array TypeId} {a : Act} {w : World} (hop : o.op = .call { callee := .value y, args := ags, argTypes := ts }) (hb : hasBody P f = true) (ey : a.eval y = .func (.func f) fs.toArray cs.toArray) :
    (execOp a.eval o).run P w = .ok (.enter f (fs.toArray ++ ags.map a.eval ++ cs.toArray)) w := by
  unfold hasBody at hb
  unfold execOp; rw [hop]
  cases hf : P.funcs[f]? with
  | none => rw [hf] at hb; cases hb
  | some fn =>
    rw [hf] at hb
    simp only [Bool.and_eq_true, Bool.not_eq_true', beq_eq_false_iff_ne, ne_eq, Option.isSome_iff_ne_none] at hb
    simp [resolve, ey, Deferred.ofValue, invoke, callFunc, hf, hb.1, hb.2]
section
variable {X : Cx} {i : Nat} {pre suc : List Nat}
/-- what a function is bound to is this -/
def Vrs (X : Cx) (i : Nat) (pre suc : List Nat) : List Value → List VP → Prop
  | [], [] => True
  | v :: vs, x :: xs => Vr X i pre suc v x ∧ Vrs X i pre suc vs xs
  | _, _ => False
theorem Vrs.all2 {c : Nat → Bool} {γ : Gho} {a : Act} {w : World} (s : Sit X i pre suc c γ a w) : ∀ {vs : List Value} {xs : List VP}, Vrs X i pre suc vs xs → All2 γ.Z xs vs w
  | [], [], _ => trivial
  | _ :: _, _ :: _, h => ⟨h.1 c γ a w s, Vrs.all2 s h.2⟩
  | [], _ :: _, h => h.elim
  | _ :: _, [], h => h.elim
theorem does_makeBnd {o : Oper} {d : Nat} {f : FuncId} {fo cs : Array Operand} {fs vs : List Value} (hop : o.op = .makeFunc (.func f) fo cs) (hd : o.dst = some d) (hlt : decide (d < X.N) = true) (hc : chk X i pre suc d = true) (hr : resOf X i = [.slot d (VP.bnd f fs vs)]) (h1 : Caps X i pre suc fo.toList fs) (h2 : Caps X i pre suc cs.toList vs) : Does X i pre suc o :=
  does_run hd hlt hc hr fun c γ a w s => by
    refine ⟨.func (.func f) fs.toArray vs.toArray, ?_, rfl⟩
    have e1 := h1.all s
    have e2 := h2.all s
    unfold execOp; rw [hop]
    have e1 : fo.map a.eval = fs.toArray := Array.toList_inj.1 (by simp [e1])
    have e2 : cs.map a.eval = vs.toArray := Array.toList_inj.1 (by simp [e2])
    simp [Instr.makeFunc, e1, e2]
theorem does_callF {o : Oper} {d : Nat} {f : FuncId} {fs cs : List Value} {y : Operand} {ags : Array Operand} {ts : Array TypeId} {ps : List VP} {qs : List Par} {B : List (Value × HA)} {x : VP} (hs : SpecO X.P f (ps.map Par.vp ++ qs) B [] [] (HA.of x))
    (hz : ∀ (Z Z' : Foot) (v : Value) (w : World), x.p Z v w → x.p Z' v w)
    (hop : o.op = .call { callee := .value y, args := ags, argTypes := ts }) (hbd : hasBody X.P f = true) (hd : o.dst = some d) (hlt : decide (d < X.N) = true) (hc : chk X i pre suc d = true)
    (hr : resOf X i = [.slot d x])
    (hy : Ar X i pre suc y (VP.bnd f fs cs).p) (hf : Vrs X i pre suc fs ps) (h : Ars X i pre suc [] ags.toList cs qs []) (hB : Brws X i pre suc [] B) : Does X i pre suc o :=
  does_val hd hlt hc hr rfl fun c γ a w s Q K hK => by
    have ey : a.eval y = .func (.func f) fs.toArray cs.toArray := hy c γ a w s
    have h2 := hf.all2 s
    have hl2 := h2.len
    unfold Oper.wp
    rw [run_bnd hop hbd ey]
    show Calls X.P f (fs.toArray ++ ags.map a.eval ++ cs.toArray) w _
    have eargs : (fs.toArray ++ ags.map a.eval ++ cs.toArray).toList = fs ++ (ags.toList.map a.eval ++ cs) := by simp
    obtain ⟨SA, a1, a2⟩ := h.mvs s List.nodup_nil
    have hno : ∀ b, ¬ SA b := fun b hb => by obtain ⟨k, hk, _⟩ := a2 b hb; cases hk
    have hany : AllS γ.Z ((ps.map Par.vp).map Par.mvR) fs w fun _ => False := by
      have e : (ps.map Par.vp).map Par.mvR = (ps.map fun _ => VP.any).map HA.of := by simp [Par.mvR]
      rw [e]
      exact AllS.of_all2 (fun _ h => h) (All2.of_get (by simp [hl2]) fun i x v hx _ => by
        rw [List.getElem?_map, Option.map_eq_some_iff] at hx
        obtain ⟨_, _, rfl⟩ := hx; trivial)
    have hall := (AllS.app hany a1 fun b hb => hb.elim).subS (S' := SA) fun b => ⟨fun h => h.elim False.elim id, .inr⟩
    refine (hs _ w γ.Z (fun b => X.Bf b ∨ ∃ k, k ∉ [] ∧ γ.σ k b ∧ ∃ r R, Has X c (.own k r R)) SA ?_ (fun j q hj => ?_) (fun y hy => ?_) (by rw [eargs]; simpa using hall) (fun b hb => (s.g.zof b hb).1) (fun b hb => ?_) (fun b hb => (hno b hb).elim)).mono ?_
    · have := h.len
      simp only [Array.size_append, List.length_append, List.length_map, Array.size_map, List.size_toArray]
      simp at this; omega
    · rw [List.getElem?_append] at hj
      split at hj
      · rename_i hlt
        rw [List.getElem?_map, Option.map_eq_some_iff] at hj
        obtain ⟨x', hx', rfl⟩ := hj
        obtain ⟨v, hv, hp⟩ := h2.get hx'
        refine ⟨v, ?_, hp⟩
        rw [← Array.getElem?_toList, eargs, List.getElem?_append_left (by simp at hlt; omega)]; exact hv
      · rename_i hge
        obtain ⟨v, h3, h4⟩ := h.ok s _ q hj
        refine ⟨v, ?_, h4⟩
        rw [← Array.getElem?_toList, eargs, List.getElem?_append_right (by simp at hge; omega)]
        simpa [hl2] using h3
    · obtain ⟨T, h1, h2⟩ := hB.get y hy c γ a w s
      exact ⟨T, h2, h1⟩
    · rcases hb with hb | ⟨k, _, hb, r, R', h1⟩
      · exact Nat.lt_of_lt_of_le (s.g.ok.b b hb) s.g.turn.size
      · exact (s.g.bnd k r R' h1 b hb).1
    · rintro e w' ⟨v, Z', S', T, rfl, z1, z2, p1, p2, p3, p4, t⟩
      show K (a.put o.dst v) w'
      rw [hd]
      exact hK v w' (t.to_ext hno) (slot_put s.g.sz hlt (hz Z' γ.Z v w' p2.1))
end
/-- what is looked at, in one; the parts may meet -/
def HA.look (L : List (Value × HA)) : HA := ⟨fun Z _ w S => ∀ y ∈ L, ∃ T : Foot, (∀ b, T b → S b) ∧ y.2.p Z y.1 w T, false, fun h => (by cases h), false, fun h => (by cases h),
  fun Z Z' _ w w' S h hz h1 h2 h3 y hy => by
    obtain ⟨T, a, b⟩ := h y hy
    exact ⟨T, a, y.2.hst _ _ _ _ _ _ b hz h1 (fun b hb => h2 b (a b hb)) h3⟩⟩
theorem spec_look {P : Program} {f : FuncId} {qs : List Par} {L O O' : List (Value × HA)} {R : HA} (u : Value) (h : SpecO P f qs L O O' R) : SpecO P f qs [(u, HA.look L)] O O' R :=
  fun vs w Z Bf S h1 h2 hB => h vs w Z Bf S h1 h2 fun y hy => by
    obtain ⟨T, a, b⟩ := hB (u, HA.look L) List.mem_cons_self
    obtain ⟨T', a', b'⟩ := b y hy
    exact ⟨T', fun b hb => a b (a' b hb), b'⟩
theorem spec_unlook {P : Program} {f : FuncId} {qs : List Par} {L O O' : List (Value × HA)} {R : HA} (u : Value) (h : SpecO P f qs [(u, HA.look L)] O O' R) : SpecO P f qs L O O' R :=
  fun vs w Z Bf S h1 h2 hB => h vs w Z Bf S h1 h2 fun y hy => by
    rw [List.mem_singleton] at hy
    subst hy
    exact ⟨Bf, fun _ h => h, hB⟩
section
variable {X : Cx} {i : Nat} {pre suc : List Nat}
theorem vrs_of : ∀ {vs : List Value} {xs : List VP}, vs.length = xs.length → (∀ Z w, All2 Z xs vs w) → Vrs X i pre suc vs xs
  | [], [], _, _ => trivial
  | _ :: _, _ :: _, e, h => ⟨fun c γ a w _ => (h γ.Z w).1, vrs_of (by simpa using e) fun Z w => (h Z w).2⟩
  | [], _ :: _, e, _ => by cases e
  | _ :: _, [], e, _ => by cases e
theorem ars_caps {il : List Nat} : ∀ {cs : List Value} {xs : List VP}, cs.length = xs.length → (∀ Z w, All2 Z xs cs w) → Ars X i pre suc il [] cs (xs.map Par.vp) []
  | [], [], _, _ => ars_nil
  | _ :: _, _ :: _, e, h => ars_cap (fun c γ a w _ => (h γ.Z w).1) (ars_caps (by simpa using e) fun Z w => (h Z w).2)
  | [], _ :: _, e, _ => by cases e
  | _ :: _, [], e, _ => by cases e
end
end O
end Go.Proofs.Ytapmngmpomhjmaa

/- More ghost steps and operations: rows that begin as nil, least and greatest, conversions that wrap. -/
namespace Go.Proofs.Ytapmngmpomhjmaa
open Go.RowKit
namespace O
section
variable {F : Fr} {rest : List Fact} {K : Act → World → Prop}
/-- no slice at all is a row of nothing -/
theorem t_nilRow {id k : Nat} {E : TypeId} {sz : Nat} (ho : rest.all (fun f => f.off [id]) = true) (h : Sat F (.own id (.tmp k) (HA.row E sz 0 []) :: rest) K) : Sat F (.slot k VP.nilS :: rest) K := fun a w ⟨γ, g⟩ => by
  obtain ⟨v, h1, h2⟩ := g.hold _ (List.mem_cons_self ..)
  have g' : Good F (· ∈ [] ++ (Fact.slot k VP.nilS :: rest)) γ a w := g
  have := good_close (id := id) (r := .tmp k) (R' := HA.row E sz 0 []) g' (by rw [List.all_cons, ho]; rfl) (fun _ => False) (fun _ h => h.elim) (fun _ _ _ _ _ _ h => by cases h) h1 ⟨by simp, .inl ⟨h2, rfl, fun _ h => h⟩⟩
  exact h a w ⟨_, this.sub fun f hf => by
    rcases List.mem_cons.1 hf with rfl | hf
    · exact List.mem_cons_self ..
    · exact List.mem_cons_of_mem _ (List.mem_cons_of_mem _ hf)⟩
/-- what is said of a slot's value is said of the slot -/
theorem t_untmp {id k : Nat} {v : Value} {R : HA} {nu one : Bool} (ho : rest.all (fun f => f.off [id]) = true) (h : Sat F (.own id (.tmp k) R :: rest) K) : Sat F (.own id (.val v) R :: .slot k (VP.eq v nu one) :: rest) K := fun a w ⟨γ, g⟩ => by
  obtain ⟨v1, h1, h2⟩ := g.hold _ (List.mem_cons_self ..)
  obtain ⟨u, h3, h4, _⟩ := g.hold _ (List.mem_cons_of_mem _ (List.mem_cons_self ..))
  have h1 : v1 = v := h1
  subst h1 h4
  have g' : Good F (· ∈ [Fact.own id (.val u) R, .slot k (VP.eq u nu one)] ++ rest) γ a w := g
  refine h a w ⟨_, good_close (id := id) (r := .tmp k) (R' := R) g' ho (γ.σ id) (fun b hb => ⟨id, _, _, List.mem_cons_self .., hb⟩) (fun k1 r1 R1 k2 r2 R2 m1 m2 e => ?_) h3 h2⟩
  have := off_ne ho m2
  rcases List.mem_cons.1 m1 with e1 | m1
  · injection e1 with e1
    subst e1 e
    exact this (List.mem_cons_self ..)
  · rw [List.mem_singleton] at m1; cases m1
theorem slc_le {n : Nat} {ps : List VP} : ∀ Z v w S, (HA.slc n ps).p Z v w S → n ≤ 9223372036854775807 := fun Z v w S ⟨a, c, _, h1, h2, _⟩ => by
  have : maxLen = 9223372036854775807 := by decide
  omega
end
section
variable {X : Cx} {i : Nat} {pre suc : List Nat}
theorem does_min {o : Oper} {d : Nat} {m n : Int} {k : IntKind} {ts : Array TypeId} (y z : Operand) (hop : o.op = .call { callee := .builtin .min, args := #[y, z], argTypes := ts }) (hd : o.dst = some d) (hlt : decide (d < X.N) = true) (hc : chk X i pre suc d = true)
    (hr : resOf X i = [.slot d (VP.int k (if n < m then n else m))]) (h1 : Ar X i pre suc y (VP.int k m).p) (h2 : Ar X i pre suc z (VP.int k n).p) : Does X i pre suc o :=
  does_run hd hlt hc hr fun c γ a w s => by
    have e1 : a.eval y = .int k m := h1 c γ a w s
    have e2 : a.eval z = .int k n := h2 c γ a w s
    refine ⟨.int k (if n < m then n else m), ?_, rfl⟩
    unfold execOp; rw [hop]
    simp [resolve, invoke, builtin, Builtin.min_, Builtin.min2, e1, e2]
theorem does_max {o : Oper} {d : Nat} {m n : Int} {k : IntKind} {ts : Array TypeId} (y z : Operand) (hop : o.op = .call { callee := .builtin .max, args := #[y, z], argTypes := ts }) (hd : o.dst = some d) (hlt : decide (d < X.N) = true) (hc : chk X i pre suc d = true)
    (hr : resOf X i = [.slot d (VP.int k (if n > m then n else m))]) (h1 : Ar X i pre suc y (VP.int k m).p) (h2 : Ar X i pre suc z (VP.int k n).p) : Does X i pre suc o :=
  does_run hd hlt hc hr fun c γ a w s => by
    have e1 : a.eval y = .int k m := h1 c γ a w s
    have e2 : a.eval z = .int k n := h2 c γ a w s
    refine ⟨.int k (if n > m then n else m), ?_, rfl⟩
    unfold execOp; rw [hop]
    simp [resolve, invoke, builtin, Builtin.max_, Builtin.max2, e1, e2]
theorem does_conv' {o : Oper} {d : Nat} {n m : Int} {k k' : IntKind} {T T' : TypeId} (y : Operand) (hu : X.P.underlying T = some (.int k)) (hu' : X.P.underlying T' = some (.int k')) (hop : o.op = .convert T T' y) (hd : o.dst = some d) (hlt : decide (d < X.N) = true) (hc : chk X i pre suc d = true)
    (hr : resOf X i = [.slot d (VP.int k' m)]) (hw : k'.wrap n = m) (h1 : Ar X i pre suc y (VP.int k n).p) : Does X i pre suc o :=
  does_run hd hlt hc hr fun c γ a w s => by
    have e1 : a.eval y = .int k n := h1 c γ a w s
    refine ⟨.int k' m, ?_, rfl⟩
    unfold execOp; rw [hop]
    simp [e1, convert, run_underlying hu, run_underlying hu', Conv.intToInt, hw]
end
end O
end Go.Proofs.Ytapmngmpomhjmaa

/- Slices of which only the length is known; rows of rows, of which one element is taken out. -/
namespace Go.Proofs.Ytapmngmpomhjmaa
open Go.RowKit
namespace O
/-- a slice of n -/
def VP.sln (n : Nat) : VP := .free (fun v => ∃ a c, v = .slice a n c ∧ n ≤ c ∧ (0 < n → ∃ g off, a = some ⟨g, off, none⟩)) true (fun _ v ⟨_, _, h, _⟩ m e => (by rw [h] at e; cases e)) true (fun _ v ⟨_, _, h, _⟩ => (by rw [h]; rfl))
section
variable {X : Cx} {i : Nat} {pre suc : List Nat}
theorem ar_sln {y : Operand} {v : Value} {nu one : Bool} {E : TypeId} {sz n : Nat} {Rs : List HA} (hB : ∀ c γ a w, Sit X i pre suc c γ a w → ∃ S, (HA.row E sz n Rs).p γ.Z v w S) (hy : Ar X i pre suc y (VP.eq v nu one).p) : Ar X i pre suc y (VP.sln n).p := fun c γ a w s => by
  obtain ⟨S, h⟩ := hB c γ a w s
  obtain ⟨A, cp, e, hc, h3⟩ := row_form h
  exact ⟨A, cp, by rw [(hy c γ a w s).1, e], hc, h3⟩
theorem sl_sln {k n : Nat} (h : Av X i pre suc (.slot k (VP.sln n))) : Sl X i pre suc (.tmp k) (.tmp k) 0 n := sl_form fun c γ a w s => by
  obtain ⟨v, h1, A, cp, e, hc, h3⟩ := h.h s
  exact ⟨A, cp, by rw [eval_tmp h1, e], by rw [← e]; exact h1, hc, h3⟩
end
section
variable {α : Type} {f : α → HA} {l : List α} {m : Nat} {b : α} {x : HA}
theorem hole_hm (h : l[m]? = some b) : (l.map f)[m]? = some (f b) := by rw [List.getElem?_map, h]; rfl
theorem hole_get (h : m < l.length) : ((l.map f).set m x)[m * 1]? = some x := by rw [Nat.mul_one, List.getElem?_set]; simp [h]
theorem hole_put (h : m < l.length) : (l.set m b).map f = (((l.map f).set m x).take (m * 1)) ++ [f b] ++ (((l.map f).set m x).drop (m * 1 + [f b].length)) := by
  rw [Nat.mul_one, List.map_set, List.take_set_of_le (Nat.le_refl m), List.drop_set_of_lt (by simp), List.set_eq_take_append_cons_drop]
  simp [h]
theorem hole_back (h : l[m]? = some b) : (l.map f).set m (f b) = l.map f := by
  obtain ⟨h1, rfl⟩ := List.getElem?_eq_some_iff.1 h
  rw [← List.map_set, List.set_getElem_self]
theorem row_weak {E : TypeId} {sz n : Nat} {Rs Rs' : List HA} (hl : Rs.length = Rs'.length) (h : ∀ (j : Nat) (R R' : HA), Rs[j]? = some R → Rs'[j]? = some R' → ∀ Z v w S, R.p Z v w S → R'.p Z v w S) : ∀ Z v w S, (HA.row E sz n Rs).p Z v w S → (HA.row E sz n Rs').p Z v w S := fun Z v w S ⟨h0, h1⟩ => ⟨by rw [← hl]; exact h0, h1.imp id fun ⟨g, cap, cur, S', a1, a2, a3, a4, a5, a6, a7⟩ => ⟨g, cap, cur, S', a1, a2, a3, a4, a5, alls_weak hl (fun j R R' e1 e2 v S => h j R R' e1 e2 Z v w S) a6, a7⟩⟩
theorem nil_rows {E E' : TypeId} {sz n : Nat} {g : List Int → HA} (hg : g [] = HA.row E' sz 0 []) : ∀ Z v w S, (HA.row E 1 n ((List.replicate n VP.nilS).map HA.of)).p Z v w S → (HA.row E 1 (List.replicate n ([] : List Int)).length ((List.replicate n ([] : List Int)).map g)).p Z v w S := fun Z v w S h => by
  rw [List.length_replicate]
  refine row_weak (by simp) (fun j R R' h1 h2 Z v w S hp => ?_) Z v w S h
  rw [List.getElem?_map, Option.map_eq_some_iff] at h1 h2
  obtain ⟨y1, e1, rfl⟩ := h1
  obtain ⟨y2, e2, rfl⟩ := h2
  rw [List.getElem?_replicate] at e1 e2
  by_cases hj : j < n
  · rw [if_pos hj] at e1 e2
    injection e1 with e1
    injection e2 with e2
    subst e1 e2
    rw [hg]; exact nil_row Z v w S hp
  · rw [if_neg hj] at e1; cases e1
theorem flat_put {β : Type} {f : β → List VP} (hl : ∀ a, (f a).length = 1) {l : List β} {m : Nat} {a : β} (h : m < l.length) : ((l.set m a).flatMap f).map HA.of = (((l.flatMap f).map HA.of).take (m * 1)) ++ (f a).map HA.of ++ (((l.flatMap f).map HA.of).drop (m * 1 + ((f a).map HA.of).length)) := by
  rw [List.length_map, hl a, Nat.mul_one]; exact flat_set hl l m a h
theorem at_getD {β : Type} {l : List β} {i : Nat} {z : β} (h : i < l.length) : l[i]? = some ((l[i]?).getD z) := by rw [List.getElem?_eq_getElem h]; rfl
theorem zsn_of (n : Nat) : ∀ Z w, All2 Z (List.replicate n VP.nilS) (zerosOf (.slice none 0 0) (n * 1)) w := z1_of (fun _ _ => rfl) rfl n
end
end O
end Go.Proofs.Ytapmngmpomhjmaa

/- Zeros that are appended, capacities, bytes of a text, what wraps. -/
namespace Go.Proofs.Ytapmngmpomhjmaa
open Go.RowKit
namespace O
section
variable {X : Cx} {i : Nat} {pre suc : List Nat}
theorem does_capNil {o : Oper} {d : Nat} {T E : TypeId} (y : Operand) (hu : X.P.underlying T = some (.slice E)) (hop : o.op = .call { callee := .builtin .cap, args := #[y], argTypes := #[T] }) (hd : o.dst = some d) (hlt : decide (d < X.N) = true) (hc : chk X i pre suc d = true)
    (hr : resOf X i = [.slot d (VP.int .i64 ((0 : Nat) : Int))]) (h : Ar X i pre suc y VP.nilS.p) : Does X i pre suc o :=
  does_run hd hlt hc hr fun c γ a w s => by
    have e1 : a.eval y = .slice none 0 0 := h c γ a w s
    refine ⟨.int .i64 ((0 : Nat) : Int), ?_, rfl⟩
    unfold execOp; rw [hop]
    simp [resolve, invoke, builtin, Builtin.cap_, run_underlying hu, e1, goInt]
/-- nil with no element taken is nil -/
theorem does_cutNil {o : Oper} {d : Nat} {T E : TypeId} {hi : Option Operand} {sz : Nat} (y : Operand) (hu : X.P.underlying T = some (.slice E)) (hsz : ∀ w, (sizeOf E).run X.P w = .ok sz w) (hop : o.op = .slice T y none hi none) (hd : o.dst = some d) (hlt : decide (d < X.N) = true) (hc : chk X i pre suc d = true)
    (hr : resOf X i = [.slot d VP.nilS]) (hhi : Bd X i pre suc hi 0 0) (h : Ar X i pre suc y VP.nilS.p) : Does X i pre suc o :=
  does_run hd hlt hc hr fun c γ a w s => by
    have e1 : a.eval y = .slice none 0 0 := h c γ a w s
    have hrun := run_cut (P := X.P) (A := none) (n := 0) (cp := 0) (l := 0) (lo := none) hu hsz rfl (bd_lo hhi s) (Nat.le_refl _) (Nat.le_refl _) w
    refine ⟨.slice none 0 0, ?_, rfl⟩
    unfold execOp; rw [hop]; simp only [e1, Sem.run_bind, Option.map_none, hrun, Result.andThen_ok, Sem.run_pure]; simp
/-- zeros, appended to nil -/
theorem does_appendZeros {o : Oper} {d id : Nat} {T T2 E : TypeId} {z : Value} {size bytes n n' : Nat} {kn k : IntKind} {ps : List VP} (he : Elem X.P T E z size bytes) (hzn : z.cells.toList.all noUb = true) (y u : Operand) (hu2 : X.P.underlying T2 = some (.int kn)) (hop : o.op = .call { callee := .builtin .append, args := #[y, u], argTypes := #[T, T2] }) (hd : o.dst = some d) (hlt : decide (d < X.N) = true) (hc : chkM X i pre suc (some d) [id] = true)
    (hr : resOf X i = [.own id (.tmp d) (HA.row E size n' (ps.map HA.of))]) (hn : n = n') (hl : ps.length = n * size) (h0 : ∀ Z w, All2 Z ps (zerosOf z (n * size)) w) (hpos0 : 0 < n) (hb : n ≤ 100000000000 ∧ bytes ≤ 1000) (h1 : Ar X i pre suc y VP.nilS.p) (h2 : Ar X i pre suc u (VP.int k (n : Nat)).p) : Does X i pre suc o :=
  does_taken (ids := []) hd hlt hc hr fun c γ a w s => by
    subst hn
    obtain ⟨ht, ti, hi, hz, hsz, hby, hzs, hpos⟩ := he
    subst hsz hby
    have e1 : a.eval y = .slice none 0 0 := h1 c γ a w s
    have e2 : a.eval u = .int k (n : Nat) := h2 c γ a w s
    have hbig : n * ti.bytes ≤ 140737488355328 := Nat.le_trans (Nat.mul_le_mul hb.1 hb.2) (by omega)
    have hrun := Go.Lib.run_append_nil_zeros (P := X.P) w T T2 o.type E ti z k kn ht hu2 hi hz n hpos0 hpos (by omega) (by omega)
    have hzm : 0 < z.cells.size := by omega
    have hzc : (Builtin.zeroCells z.cells n).toList = zerosOf z (n * ti.size) := by
      unfold zerosOf Builtin.zeroCells madeCells
      rw [hzs]
    have hge := grownCap_ge w n 0 E
    have hcm := grownCap_le_maxLen w n 0 E (by unfold maxLen; omega)
    have hall : AllS γ.Z (ps.map HA.of) (zerosOf z (n * ti.size)) w (fun _ => False) := AllS.of_all2 (fun _ h => h) (h0 γ.Z w)
    have := row_new (E := E) (n := n) (cap := grownCap w n 0 E) (w := w) (rest := (Builtin.zeroCells z.cells (grownCap w n 0 E - n)).toList) w.drew rfl (by simpa using hl) hall (fun u hu => (List.mem_append.1 hu).elim (fun hu => by rw [← hzc] at hu; exact noUs_spec hzn u (zeroCells_mem hzm u hu)) fun hu => noUs_spec hzn u (zeroCells_mem hzm u hu)) (by
      rw [← hzc, Array.length_toList, Array.length_toList, size_zeroCells, size_zeroCells, hzs, ← Nat.add_mul]; congr 1; omega) hge hcm (fun b hb => (s.g.zof b hb).1) (fun b hb => hb.elim)
    have ea : Builtin.zeroCells z.cells n ++ Builtin.zeroCells z.cells (grownCap w n 0 E - n) = (zerosOf z (n * ti.size) ++ (Builtin.zeroCells z.cells (grownCap w n 0 E - n)).toList).toArray := Array.toList_inj.1 (by rw [← hzc]; simp)
    rw [ea] at hrun
    refine ⟨_, _, _, ?_, (Ext.refl w).drew.alloc _, this, fun b hb => ?_⟩
    · unfold execOp
      rw [hop]
      simp [resolve, invoke, builtin, e1, e2, hrun]
    · rcases hb with rfl | hb
      · exact .inl ⟨Nat.le_refl _, by simp⟩
      · exact hb.elim
/-- the bytes of a text -/
def cByte (n : Nat) : List VP := [VP.int .u8 (n : Nat)]
theorem cByte_len (n : Nat) : (cByte n).length = 1 := rfl
def bytesL (s : ByteArray) : List Nat := s.data.toList.map (·.toNat)
theorem bytesL_len (s : ByteArray) : (bytesL s).length = s.size := by unfold bytesL; simp
theorem does_bytes {o : Oper} {d id : Nat} {T T' E : TypeId} {s : ByteArray} {ut : TypeDesc} (y : Operand) (hs : X.P.underlying T = some ut) (hu : X.P.underlying T' = some (.slice E)) (hE : X.P.underlying E = some (.int .u8)) (hop : o.op = .convert T T' y) (hd : o.dst = some d) (hlt : decide (d < X.N) = true) (hc : chkM X i pre suc (some d) [id] = true)
    (hr : resOf X i = [.own id (.tmp d) (HA.slc (bytesL s).length ((bytesL s).flatMap cByte))]) (hb : s.size ≤ 140737488355328) (h : Ar X i pre suc y (VP.str s).p) : Does X i pre suc o :=
  does_taken (ids := []) hd hlt hc hr fun c γ a w st => by
    have e1 : a.eval y = .string s := h c γ a w st
    have hrun := Go.Lib.run_convert_string_bytes (P := X.P) w T T' E s hs hu hE
    refine ⟨.slice (some ⟨w.heap.size, 0, none⟩) s.size (grownCap w s.size 0 E), Go.Lib.bytesWorld w E s, fun b => b = w.heap.size, ?_, ?_, ⟨some ⟨w.heap.size, 0, none⟩, grownCap w s.size 0 E, ?_, ?_, ?_, ?_, ?_⟩, fun b hb => ?_⟩
    · unfold execOp
      rw [hop]
      simp [e1, hrun]
    · exact ⟨rfl, rfl, rfl, by rw [Go.Lib.bytesWorld_size]; omega, fun b hb => Go.Lib.bytesWorld_at_old w E s b hb⟩
    · rw [bytesL_len]
    · rw [bytesL_len]; exact grownCap_ge w s.size 0 E
    · exact grownCap_le_maxLen w s.size 0 E (by unfold maxLen; omega)
    · exact flat_nil_iff cByte_len (by decide) _
    · right
      refine ⟨w.heap.size, 0, rfl, .inr rfl, fun j x hx => ?_⟩
      have hj : j < s.size := by
        have := (List.getElem?_eq_some_iff.1 hx).1
        rw [flat_len cByte_len, bytesL_len] at this; omega
      refine ⟨_, by rw [Nat.zero_add]; exact Go.Lib.bytesWorld_cell w E s j hj, ?_⟩
      have h2 := flat_get cByte_len (l := bytesL s) (m := j) (a := (s.data.toList.getD j 0).toNat) (by
        unfold bytesL
        rw [List.getElem?_map, List.getD, List.getElem?_eq_getElem (by simpa using hj)]; rfl) 0 _ rfl
      rw [Nat.mul_one, Nat.add_zero] at h2
      rw [h2] at hx
      injection hx with hx
      subst hx
      rfl
    · subst hb
      exact .inl ⟨Nat.le_refl _, by rw [Go.Lib.bytesWorld_size]; omega⟩
theorem ar_w {y : Operand} {x z : VP} (h : Ar X i pre suc y x.p) (hw : ∀ Z v w, x.p Z v w → z.p Z v w) : Ar X i pre suc y z.p := fun c γ a w s => hw _ _ _ (h c γ a w s)
theorem sl_tmpSlc {k id n : Nat} {ps : List VP} (h : Av X i pre suc (.own id (.tmp k) (HA.slc n ps))) : Sl X i pre suc (.tmp k) (.tmp k) 0 n := sl_form fun c γ a w s => by
  obtain ⟨v, h1, A, cp, e, hc, _, hm, h3⟩ := h.h s
  refine ⟨A, cp, by rw [eval_tmp h1, e], by rw [← e]; exact h1, hc, fun hn => ?_⟩
  rcases h3 with h3 | ⟨g, off, rfl, _⟩
  · rcases hm with hm | hm
    · omega
    · rw [h3] at hm; simp at hm
  · exact ⟨g, off, rfl⟩
theorem sl_roOf {k id n : Nat} {qs : List VP} (h : Av X i pre suc (.own id (.tmp k) (HA.of (VP.ro n qs)))) (hm : n = 0 ∨ 0 < qs.length) : Sl X i pre suc (.tmp k) (.tmp k) 0 n := sl_form fun c γ a w s => by
  obtain ⟨v, h1, ⟨A, cp, e, hc, _, h3⟩, _⟩ := h.h s
  refine ⟨A, cp, by rw [eval_tmp h1, e], by rw [← e]; exact h1, hc, fun hn => ?_⟩
  rcases h3 with h3 | ⟨g, off, rfl, _⟩
  · rcases hm with hm | hm
    · omega
    · rw [h3] at hm; simp at hm
  · exact ⟨g, off, rfl⟩
theorem fz_slc (n : Nat) (ps : List VP) : ∀ Z v w S, (HA.slc n ps).p Z v w S → (VP.ro n ps).p (fun b => Z b ∨ S b) v w := fun Z v w S ⟨a, c, h1, h2, h3, _, h4⟩ =>
  ⟨a, c, h1, h2, h3, h4.imp id fun ⟨g, off, e, hg, hc⟩ => ⟨g, off, e, hg, fun j x hx => by
    obtain ⟨u, h5, h6⟩ := hc j x hx
    exact ⟨u, h5, x.hst _ _ _ _ _ h6 (fun _ h => .inl h) (fun _ _ => rfl) (Calm.of_ext (Ext.refl w))⟩⟩⟩
end
/-! facts by their numbers -/
def nthF : List Fact → Nat → Fact
  | f :: _, 0 => f
  | _ :: l, n + 1 => nthF l n
  | [], _ => .eq 0 (.tmp 0)
def pickF (fs : List Fact) : List Nat → List Fact
  | [] => []
  | n :: l => nthF fs n :: pickF fs l
theorem nthF_mem : ∀ {fs : List Fact} {n : Nat}, n < fs.length → nthF fs n ∈ fs
  | _ :: _, 0, _ => List.mem_cons_self ..
  | _ :: l, n + 1, h => List.mem_cons_of_mem _ (nthF_mem (fs := l) (by simpa using h))
theorem pickF_mem {fs : List Fact} : ∀ {idx : List Nat}, idx.all (fun n => n.blt fs.length) = true → ∀ f ∈ pickF fs idx, f ∈ fs
  | [], _, f, hf => by cases hf
  | n :: l, h, f, hf => by
    simp only [List.all_cons, Bool.and_eq_true] at h
    rcases List.mem_cons.1 hf with rfl | hf
    · exact nthF_mem (by have := h.1; rwa [Nat.blt_eq] at this)
    · exact pickF_mem h.2 f hf
theorem t_pick {F : Fr} {fs : List Fact} {K : Act → World → Prop} (idx : List Nat) (h : idx.all (fun n => n.blt fs.length) = true) (k : Sat F (pickF fs idx) K) : Sat F fs K := fun a w ⟨γ, g⟩ => k a w ⟨γ, g.sub fun f hf => pickF_mem h f hf⟩
theorem wp {X : Cx} {ops : List Oper} {tp ts : Tab2} {i : Nat} {o : Oper} (hg : o.guard = none) (h : Does X i (tp.at i) (ts.at i) o) : Rule X ops tp ts i o := .inl ⟨wants_plain hg, h⟩
theorem t_rg {P : Program} {w0 : World} {S0 Z0 Bf : Foot} {N id : Nat} {draw : Bool} {fs : List Fact} {Q : Exit → Act → World → Prop} {ops : List Oper} (fs1 : List Fact) (os rs : List (Nat × Fact)) (ms : List (Nat × Nat × Fact)) (i1 i2 : List Nat) (tp ts : Tab2) (h1 : i1.map (fun n => fs[n]?) = fs1.map some) (h2 : i2.map (fun n => fs[n]?) = os.map (fun x => some x.2))
    (hm : P.follows .mixedOrders = true) (hq : ((seqB ops && tabB ops tp ts) && rs.all (fun x => decide (x.1 < ops.length))) = true)
    (hr : Rules ⟨⟨P, w0, S0, Z0, Bf, N⟩, fs1, os, rs, ms⟩ ops tp ts ops 0) (hn : Nx ⟨P, w0, S0, Z0, Bf, N⟩ (fs1 ++ rs.map (·.2)) Q) : T ⟨P, w0, S0, Z0, Bf, N⟩ fs (.region id ops.toArray draw) Q := t_region fs1 os rs ms i1 i2 tp ts h1 h2 hm hq hr hn
/-- either, not both -/
def xor64 (m n : Int) : Int := IntKind.u64.wrap (((BitVec.ofInt 64 m ^^^ BitVec.ofInt 64 n).toNat : Nat) : Int)
theorem br_xor {P : Program} {T : TypeId} {m n : Int} : ∀ w, (binOp .xor T (.int .u64 m) (.int .u64 n)).run P w = .ok (.int .u64 (xor64 m n)) w := fun w => by
  simp only [binOp, Op.intBits, ne_eq, not_true_eq_false, if_false]
  rfl
end O
end Go.Proofs.Ytapmngmpomhjmaa
