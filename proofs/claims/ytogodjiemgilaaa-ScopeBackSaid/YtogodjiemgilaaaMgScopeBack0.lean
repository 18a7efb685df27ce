/- Part of the proof that a law returns true for all that comes in, and that what came in reads as it did. No condition. -/
import Derived.SizedLaws
import Derived.Test.YtogodjiemgilaaaMgS1
/- What an argument of some type is, with the reach that the form itself gives: each string and each slice that comes in has at most 2^47 - 4096 bytes. No program stands in this text. -/
namespace Go.Proofs.Ytogodjiemgilaaa
open Go.ChangeShapes Go.WideShapes Go.ChangeAt Go.RowKit
namespace O
/-- cs are the cells of a value of type t; what it leads to lies in w; nothing is larger than the reach -/
def TypedB (P : Program) (w : World) : Nat → TypeId → List Value → Prop
  | 0, _, _ => False
  | n + 1, t, cs => match P.underlying t with
    | some .bool => ∃ b, cs = [.bool b]
    | some (.int k) => ∃ x, cs = [.int k x] ∧ (Lit.int k x).wf = true
    | some (.float k) => ∃ x, cs = [.float k x] ∧ (Lit.float k x).wf = true
    | some .string => ∃ s : ByteArray, cs = [.string s] ∧ s.size ≤ reachBytes
    | some (.slice e) => ∃ a cap, ∃ xs : List (List Value), cs = [.slice a xs.length cap] ∧ xs.length ≤ cap ∧ cap ≤ maxLen ∧ xs.length * P.bytesOf e ≤ reachBytes ∧ (∀ x ∈ xs, x.length = P.cellsOf e ∧ TypedB P w n e x) ∧ Rd w a xs.flatten
    | some (.struct fs) => cs.length = P.cellsOf t ∧ ∀ f ∈ fs.toList, TypedB P w n f.type ((cs.drop f.offset).take (P.cellsOf f.type))
    | _ => True
section
variable {H : Type} {enc : TypeId × Value → H} {P : Program} {w : World} {base : Nat} {spare : Nat → Bool} {held : Bool}
theorem weightsAll_mem {e : TypeId} : ∀ {l : List (DataW H)} {d : DataW H}, d ∈ l → ∀ n ∈ d.weights P e, n ∈ DataW.weightsAll P e l
  | x :: l, d, h, n, hn => by
    simp only [DataW.weightsAll, List.mem_append]
    rcases List.mem_cons.1 h with rfl | h
    · exact .inl hn
    · exact .inr (weightsAll_mem h n hn)
theorem typedB_of_trod : ∀ (fuel : Nat) (t : TypeId) (cs : List Value) (x : DataW H × List MemPlace), DataW.trod enc P w base spare held fuel t cs = some x → (∀ n ∈ x.1.weights P t, n ≤ reachBytes) → TypedB P w fuel t cs := by
  intro fuel
  induction fuel with
  | zero => intro t cs x h; simp [DataW.trod] at h
  | succ n ih =>
    intro t cs x h hw
    unfold TypedB
    cases hu : P.underlying t with
    | none => trivial
    | some d =>
      cases d <;> simp only [] <;> try trivial
      case bool => obtain ⟨b, h1, _⟩ := DataW.trod_bool hu h; exact ⟨b, h1⟩
      case int k => obtain ⟨b, h1, _, h2⟩ := DataW.trod_int hu h; exact ⟨b, h1, h2⟩
      case float k =>
        unfold DataW.trod at h
        rw [hu] at h
        split at h <;> simp_all
      case string =>
        obtain ⟨b, h1, rfl, _⟩ := DataW.trod_string hu h
        refine ⟨b, h1, ?_⟩
        have := hw b.data.toList.length (by simp [DataW.weights])
        simpa using this
      case slice e =>
        rcases DataW.trod_slice hu h with ⟨rfl, _⟩ | ⟨a, len, cap, elems, rest, m, hm, rfl, hx, _, hl, hc, hel, he, _⟩
        · exact ⟨none, 0, [], rfl, Nat.le_refl _, by simp [maxLen], by simp, by simp, Rd.nil _ _⟩
        · obtain rfl : n = m := by omega
          subst hx
          have hwl : ∀ q ∈ DataW.weights P t (.slice (elems.map (·.1)) (rest.map (·.1)) : DataW H), q ≤ reachBytes := hw
          have hbulk : len * P.bytesOf e ≤ reachBytes := by
            have := hwl (((elems.map (·.1)).length + (rest.map (·.1)).length) * P.bytesOf e) (by simp only [DataW.weights, hu]; exact List.mem_cons_self)
            refine Nat.le_trans (Nat.mul_le_mul_right _ ?_) this
            simp only [List.length_map]; omega
          have hcs : ∀ i, i < len → ∃ c, w.cells? base (a.add (i * P.cellsOf e)) (P.cellsOf e) = some c ∧ TypedB P w n e c := by
            intro i hi
            have h1 := he i hi
            rw [List.getElem?_eq_getElem (by omega), Option.bind_eq_some_iff] at h1
            obtain ⟨c, h2, h3⟩ := h1
            exact ⟨c, h2, ih e c _ h3 fun q hq => hwl q (by
              simp only [DataW.weights, hu]
              refine List.mem_cons_of_mem _ (List.mem_append.2 (.inl (weightsAll_mem (d := (elems[i]'(by omega)).1) ?_ q hq)))
              exact List.mem_map.2 ⟨_, List.getElem_mem _, rfl⟩)⟩
          let pick : Nat → List Value := fun i => (w.cells? base (a.add (i * P.cellsOf e)) (P.cellsOf e)).getD []
          have hp : ∀ i, i < len → w.cells? base (a.add (i * P.cellsOf e)) (P.cellsOf e) = some (pick i) ∧ TypedB P w n e (pick i) := by
            intro i hi
            obtain ⟨c, h2, h3⟩ := hcs i hi
            have : pick i = c := by show (w.cells? base _ _).getD [] = c; rw [h2]; rfl
            rw [this]; exact ⟨h2, h3⟩
          refine ⟨some a, cap, (List.range len).map pick, by simp, by simpa using hl, hc, by simpa using hbulk, ?_, ?_⟩
          · intro y hy
            simp only [List.mem_map, List.mem_range] at hy
            obtain ⟨i, hi, rfl⟩ := hy
            obtain ⟨h2, h3⟩ := hp i hi
            exact ⟨(World.cells?_some h2).2.1, h3⟩
          · have hlen : ∀ y ∈ (List.range len).map pick, y.length = P.cellsOf e := by
              intro y hy
              simp only [List.mem_map, List.mem_range] at hy
              obtain ⟨i, hi, rfl⟩ := hy
              exact (World.cells?_some (hp i hi).1).2.1
            have hget : ∀ j u, ((List.range len).map pick).flatten[j]? = some u → w.cell? (a.add j) = some u := by
              intro j u hu
              obtain ⟨y, hy, hu⟩ := flatten_get hlen hu
              rw [List.getElem?_map, Option.map_eq_some_iff] at hy
              obtain ⟨i, hi, rfl⟩ := hy
              obtain ⟨hi1, hi2⟩ := List.getElem?_eq_some_iff.1 hi
              simp only [List.length_range] at hi1
              simp only [List.getElem_range] at hi2
              subst hi2
              obtain ⟨_, hsz, hcell⟩ := World.cells?_some (hp _ hi1).1
              have hlt := (List.getElem?_eq_some_iff.1 hu).1
              have h4 := hcell (j % P.cellsOf e) (by omega)
              rw [add_add, hu] at h4
              have hj : j / P.cellsOf e * P.cellsOf e + j % P.cellsOf e = j := by rw [Nat.mul_comm]; exact Nat.div_add_mod j _
              rw [hj] at h4
              exact h4
            rcases hz : ((List.range len).map pick).flatten with _ | ⟨z, zs⟩
            · exact .inl rfl
            · right
              have h0 := hget 0 z (by rw [hz]; rfl)
              have hspot : a.spot = none := by
                cases hs : a.spot with
                | none => rfl
                | some _ =>
                  unfold World.cell? at h0
                  rw [show a.add 0 = a from rfl] at h0
                  rw [hs] at h0
                  split at h0 <;> simp at h0
              obtain ⟨b, off, sp⟩ := a
              simp only at hspot
              subst hspot
              refine ⟨b, off, rfl, fun j u hu => ?_⟩
              rw [← hz] at hu
              rw [← add_plain]
              exact hget j u hu
      case struct fs =>
        obtain ⟨xs, m, hm, hx, hlen, hsz, hf⟩ := DataW.trod_struct hu h
        obtain rfl : n = m := by omega
        subst hx
        refine ⟨hlen, fun f hmem => ?_⟩
        obtain ⟨i, hi, rfl⟩ := List.mem_iff_getElem.1 hmem
        have h1 := hf i fs[i] (Array.getElem?_eq_getElem (by simpa using hi))
        rw [List.getElem?_eq_getElem (by rw [hsz]; simpa using hi)] at h1
        have hwl : ∀ q ∈ DataW.weights P t (.agg (xs.map (·.1)) : DataW H), q ≤ reachBytes := hw
        exact ih _ _ _ h1 fun q hq => hwl q (by
          simp only [DataW.weights, hu]
          refine DataW.weights_mem_each (j := i) (t := fs[i].type) (d := (xs[i]'(by rw [hsz]; simpa using hi)).1) ?_ ?_ q hq
          · rw [List.getElem?_map, List.getElem?_eq_getElem (by simpa using hi)]; simp
          · rw [List.getElem?_map, List.getElem?_eq_getElem (by rw [hsz]; simpa using hi)]; rfl)
/-- v is a value of type t that came in, as w has it -/
def ArgB (P : Program) (w : World) (t : TypeId) (v : Value) : Prop :=
  ∃ n cs, TypedB P w n t cs ∧ v = (match P.underlying t with | some (.struct _) => .agg cs.toArray | _ => cs.headD undef)
theorem argB_of {t : TypeId} {v : Value} {d : DataW H} {ps : List MemPlace} {r : Reach} {b0 : Nat} (hs : Served P t) (hok : Value.okWide P w r b0 t v) (h : DataW.Trod enc P w base spare held t v d ps) (hw : ∀ n ∈ d.weights P t, n ≤ reachBytes) : ArgB P w t v := by
  obtain ⟨n, hn⟩ := h
  refine ⟨n, v.cells.toList, typedB_of_trod n t _ _ hn hw, ?_⟩
  unfold Served at hs
  cases hu : P.underlying t with
  | none => rw [hu] at hs; exact hs.elim
  | some u =>
    rw [hu] at hs
    cases u <;> simp only at hs ⊢
    case bool => obtain ⟨b, rfl⟩ := okWide_bool hu hok; rfl
    case int k => obtain ⟨b, rfl⟩ := okWide_int hu hok; rfl
    case float k => obtain ⟨b, rfl⟩ := okWide_float hu hok; rfl
    case string => obtain ⟨b, rfl⟩ := okWide_string hu hok; rfl
    case slice e => obtain ⟨a, l, c, rfl⟩ := okWide_slice hu hok; rfl
    case struct fs => obtain ⟨cs, rfl, _⟩ := okWide_struct hu hok; simp [Value.cells]
theorem TypedB.int {k : IntKind} {n : Nat} {t : TypeId} {cs : List Value} (ht : P.underlying t = some (.int k)) (h : TypedB P w n t cs) : ∃ x, cs = [.int k x] ∧ (Lit.int k x).wf = true := by
  cases n with
  | zero => exact h.elim
  | succ n => unfold TypedB at h; rw [ht] at h; exact h
theorem TypedB.bool {n : Nat} {t : TypeId} {cs : List Value} (ht : P.underlying t = some .bool) (h : TypedB P w n t cs) : ∃ b, cs = [.bool b] := by
  cases n with
  | zero => exact h.elim
  | succ n => unfold TypedB at h; rw [ht] at h; exact h
theorem TypedB.string {n : Nat} {t : TypeId} {cs : List Value} (ht : P.underlying t = some .string) (h : TypedB P w n t cs) : ∃ s : ByteArray, cs = [.string s] ∧ s.size ≤ reachBytes := by
  cases n with
  | zero => exact h.elim
  | succ n => unfold TypedB at h; rw [ht] at h; exact h
theorem TypedB.slice {e : TypeId} {n : Nat} {t : TypeId} {cs : List Value} (ht : P.underlying t = some (.slice e)) (h : TypedB P w n t cs) :
    ∃ a cap, ∃ xs : List (List Value), ∃ m, cs = [.slice a xs.length cap] ∧ xs.length ≤ cap ∧ cap ≤ maxLen ∧ xs.length * P.bytesOf e ≤ reachBytes ∧ (∀ x ∈ xs, x.length = P.cellsOf e ∧ TypedB P w m e x) ∧ Rd w a xs.flatten := by
  cases n with
  | zero => exact h.elim
  | succ n =>
    unfold TypedB at h; rw [ht] at h
    obtain ⟨a, cap, xs, h1, h2, h3, h4, h5, h6⟩ := h
    exact ⟨a, cap, xs, n, h1, h2, h3, h4, h5, h6⟩
theorem TypedB.struct {fs : Array Field} {n : Nat} {t : TypeId} {cs : List Value} (ht : P.underlying t = some (.struct fs)) (h : TypedB P w n t cs) :
    ∃ m, cs.length = P.cellsOf t ∧ ∀ f ∈ fs.toList, TypedB P w m f.type ((cs.drop f.offset).take (P.cellsOf f.type)) := by
  cases n with
  | zero => exact h.elim
  | succ n => unfold TypedB at h; rw [ht] at h; exact ⟨n, h⟩
theorem ArgB.int {k : IntKind} {t : TypeId} {v : Value} (ht : P.underlying t = some (.int k)) (h : ArgB P w t v) : ∃ x, v = .int k x ∧ (Lit.int k x).wf = true := by
  obtain ⟨n, cs, h1, rfl⟩ := h
  obtain ⟨x, rfl, hx⟩ := h1.int ht
  exact ⟨x, by rw [ht]; rfl, hx⟩
theorem ArgB.bool {t : TypeId} {v : Value} (ht : P.underlying t = some .bool) (h : ArgB P w t v) : ∃ x, v = .bool x := by
  obtain ⟨n, cs, h1, rfl⟩ := h
  obtain ⟨x, rfl⟩ := h1.bool ht
  exact ⟨x, by rw [ht]; rfl⟩
theorem ArgB.string {t : TypeId} {v : Value} (ht : P.underlying t = some .string) (h : ArgB P w t v) : ∃ x : ByteArray, v = .string x ∧ x.size ≤ reachBytes := by
  obtain ⟨n, cs, h1, rfl⟩ := h
  obtain ⟨x, rfl, hx⟩ := h1.string ht
  exact ⟨x, by rw [ht]; rfl, hx⟩
theorem ArgB.slice {e : TypeId} {t : TypeId} {v : Value} (ht : P.underlying t = some (.slice e)) (h : ArgB P w t v) :
    ∃ a cap, ∃ xs : List (List Value), ∃ m, v = .slice a xs.length cap ∧ xs.length ≤ cap ∧ cap ≤ maxLen ∧ xs.length * P.bytesOf e ≤ reachBytes ∧ (∀ x ∈ xs, x.length = P.cellsOf e ∧ TypedB P w m e x) ∧ Rd w a xs.flatten := by
  obtain ⟨n, cs, h1, rfl⟩ := h
  obtain ⟨a, cap, xs, m, rfl, h2⟩ := h1.slice ht
  exact ⟨a, cap, xs, m, by rw [ht]; rfl, h2⟩
theorem ArgB.struct {fs : Array Field} {t : TypeId} {v : Value} (ht : P.underlying t = some (.struct fs)) (h : ArgB P w t v) :
    ∃ (cs : List Value) (m : Nat), v = .agg cs.toArray ∧ cs.length = P.cellsOf t ∧ ∀ f ∈ fs.toList, TypedB P w m f.type ((cs.drop f.offset).take (P.cellsOf f.type)) := by
  obtain ⟨n, cs, h1, rfl⟩ := h
  obtain ⟨m, h2, h3⟩ := h1.struct ht
  exact ⟨cs, m, by rw [ht], h2, h3⟩
theorem trodAll_atB : ∀ {ts us : List TypeId} {vs : List Value} {ds gs : List (DataW H)} {p : List MemPlace}, DataW.TrodAll enc P w base spare held ts vs ds p → (∀ n ∈ DataW.weightsEach P (ts ++ us) (ds ++ gs), n ≤ reachBytes) → ∀ (j : Nat) (t : TypeId) (v : Value), ts[j]? = some t → vs[j]? = some v → ∃ d q, DataW.Trod enc P w base spare held t v d q ∧ ∀ n ∈ d.weights P t, n ≤ reachBytes
  | [], _, _, _, _, _, _, _, j, t, v, ht, _ => by simp at ht
  | t :: ts, us, vs, ds, gs, _, h, hw, j, t', v', ht, hv => by
    obtain ⟨v, vs1, d, ds1, a, b, rfl, rfl, rfl, h1, h2⟩ := trodAll_cons h
    have e : DataW.weightsEach P (t :: ts ++ us) (d :: ds1 ++ gs) = d.weights P t ++ DataW.weightsEach P (ts ++ us) (ds1 ++ gs) := by simp [DataW.weightsEach]
    rw [e] at hw
    cases j with
    | zero => simp at ht hv; subst ht hv; exact ⟨_, _, h1, fun n hn => hw n (List.mem_append.2 (.inl hn))⟩
    | succ j => simp at ht hv; exact trodAll_atB h2 (fun n hn => hw n (List.mem_append.2 (.inr hn))) j t' v' ht hv
/-- THE FRAME OF ALL LAWS: the walk that ends in true and turns nothing that there was. -/
theorem lawB_lifted {C : Checked} {f : FuncId} {fn : Func} {s : ChangeSpec} {os : Os} (T : TypeId)
    (own : ownKnob C.prog.godebug = none) (started : os.Started) (hinit : C.prog.inits.idxOf? f = none) (hfn : C.prog.funcs[f]? = some fn) (hl : laidOutB C.prog = true)
    (hr : ∀ t ∈ fn.params.toList, C.prog.readableRec t = true ∧ t < C.prog.types.size) (hsv : ∀ t ∈ fn.params.toList, Served C.prog t)
    (hres : fn.resultTypes = #[T]) (hT : C.prog.underlying T = some .bool) (hvars : s.vars = [])
    (hs : ∀ ds : List (DataW H), ds.length = fn.params.size → s.fn H ds = { results := [.lit (.bool true)], args := ds })
    (witness : ∃ (w : World) (tape : Tape) (i : Input), w.os = os ∧ (w.forCall tape i).Shaped C.prog ∧ i.vars = [] ∧ Input.okWide C.prog (w.forCall tape i) .any w.heap.size f i ∧
      s.pre6 enc C.prog fn [] false (w.forCall tape i).memory i.args ∧ ({} : Assume).holds C.prog (lone (Frame.enter C.prog f i.args .normal) [] (w.forCall tape i)))
    (walk : ∀ (W : World) (args : Array Value), args.size = fn.params.size → (∀ (j : Nat) (t : TypeId) (v : Value), fn.params[j]? = some t → args[j]? = some v → ArgB C.prog W t v) →
      Calls C.prog f args W fun e W' => e = .returned (.bool true) ∧ Ext W W') :
    ReturnsInHanded {} C os f .any (s.pre6 enc C.prog fn [] false) (s.post enc C.prog fn false true false false) := by
  refine returnsInHanded_of_change_sized (C := C) own started hinit hfn witness ?_
  intro W b0 args ds gs before hval hW _ hsz0 _
  have hW' := hW
  obtain ⟨p, q, hA, hV, rfl, _, _⟩ := hW
  rw [hvars] at hV
  obtain ⟨rfl, rfl⟩ := trodVars_none hV
  obtain ⟨e1, e2⟩ := trodAll_len hA
  have hsz : args.size = fn.params.size := by simpa using e1
  refine (walk W args hsz fun j t v ht hv => ?_).mono fun e W' ⟨he, hb⟩ => ?_
  · obtain ⟨d, q, hd, hn⟩ := trodAll_atB hA (fun n hn => of_decide_eq_true (List.all_eq_true.1 hsz0 n hn)) j t v (by simpa using ht) (by simpa using hv)
    exact argB_of (hsv t (by have := Array.mem_of_getElem? ht; simpa using this)) (hval j t v ht hv) hd hn
  · subst he
    have hfn' : s.fn H (ds ++ []) = { results := [.lit (.bool true)], args := ds } := by rw [List.append_nil]; exact hs ds (by simpa using e2)
    refine ⟨_, rfl, ds, [], _, [], p, [], hW', ?_, ?_, ?_, ?_, fun h => by cases h⟩
    · rw [hfn', hres]
      exact trodAll_mk1 (shut_bool hT true)
    · rw [hfn']
      exact below_trodAll hl hb hr hA
    · rw [hfn', hvars]; rfl
    · exact hb.frame _
end
/-! ### in the logic over objects -/
theorem flat_all2B {α : Type} {P : Program} {W : World} {Z : Foot} {m : Nat} {e : TypeId} (f : α → List VP) (ok : α → Prop) (he : ∀ x : List Value, x.length = P.cellsOf e → TypedB P W m e x → ∃ a, ok a ∧ All2 Z (f a) x W) :
    ∀ (xs : List (List Value)), (∀ x ∈ xs, x.length = P.cellsOf e ∧ TypedB P W m e x) → ∃ l : List α, l.length = xs.length ∧ (∀ a ∈ l, ok a) ∧ All2 Z (l.flatMap f) xs.flatten W
  | [], _ => ⟨[], rfl, fun _ h => (by cases h), trivial⟩
  | x :: xs, h => by
    obtain ⟨l, h1, h0, h2⟩ := flat_all2B f ok he xs fun y hy => h y (List.mem_cons_of_mem _ hy)
    obtain ⟨a, ha0, ha⟩ := he x (h x List.mem_cons_self).1 (h x List.mem_cons_self).2
    exact ⟨a :: l, by simp [h1], fun b hb => (List.mem_cons.1 hb).elim (fun e => e ▸ ha0) (h0 b), by rw [List.flatMap_cons, List.flatten_cons]; exact ha.app h2⟩
/-- a slice that came in -/
theorem roB_of {α : Type} {P : Program} {W : World} {T e : TypeId} {v : Value} (hT : P.underlying T = some (.slice e)) (f : α → List VP) (ok : α → Prop) (he : ∀ (m : Nat) (x : List Value), x.length = P.cellsOf e → TypedB P W m e x → ∃ a, ok a ∧ All2 (was W) (f a) x W) (h : ArgB P W T v) :
    ∃ l : List α, l.length * P.bytesOf e ≤ reachBytes ∧ (∀ a ∈ l, ok a) ∧ (VP.ro l.length (l.flatMap f)).p (was W) v W := by
  obtain ⟨a, cap, xs, m, rfl, h1, h2, hb, h3, h4⟩ := h.slice hT
  obtain ⟨l, e1, e0, e2⟩ := flat_all2B f ok (he m) xs h3
  refine ⟨l, by rw [e1]; exact hb, e0, a, cap, by rw [e1], by omega, h2, ?_⟩
  rcases Nat.eq_zero_or_pos xs.flatten.length with h0 | h0
  · left
    have := e2.len
    exact List.eq_nil_of_length_eq_zero (by omega)
  · right
    obtain ⟨b, off, ea, hb, hc⟩ := h4.all h0
    exact ⟨b, off, ea, hb, fun j x hx => by
      obtain ⟨u, hu, hp⟩ := e2.get hx
      exact ⟨u, hc j u hu, hp⟩⟩
theorem typedB_str {P : Program} {W : World} {Z : Foot} {m : Nat} {t : TypeId} {x : List Value} (ht : P.underlying t = some .string) (h : TypedB P W m t x) : ∃ s : ByteArray, s.size ≤ reachBytes ∧ All2 Z [VP.str s] x W := by
  obtain ⟨s, rfl, hs⟩ := h.string ht
  exact ⟨s, hs, rfl, trivial⟩
theorem typedB_int {P : Program} {W : World} {Z : Foot} {m : Nat} {t : TypeId} {k : IntKind} {x : List Value} (ht : P.underlying t = some (.int k)) (h : TypedB P W m t x) : ∃ n, (Lit.int k n).wf = true ∧ All2 Z [VP.int k n] x W := by
  obtain ⟨s, rfl, hs⟩ := h.int ht
  exact ⟨s, hs, rfl, trivial⟩
theorem wf_i64 {n : Int} (h : (Lit.int .i64 n).wf = true) : -9223372036854775808 ≤ n ∧ n < 9223372036854775808 := by simp [Lit.wf, IntKind.min, IntKind.max, IntKind.signed, IntKind.bits] at h; omega
theorem reach_val : reachBytes = 140737488351232 := by decide
end O
end Go.Proofs.Ytogodjiemgilaaa

/- What an act that comes in is, and how large. -/
namespace Go.Proofs.Ytogodjiemgilaaa
open Go.RowKit
namespace O
theorem typedB_act {W : World} (m : Nat) (x : List Value) (_ : x.length = Try.prog.cellsOf 39) (h : TypedB Try.prog W m 39 x) : ∃ a : ActD, a.name.size ≤ 140737488351232 ∧ All2 (was W) (cAct a) x W := by
  obtain ⟨m, hl, hf⟩ := h.struct Try.underlying39
  rw [cells_act] at hl
  obtain ⟨u0, u1, u2, rfl⟩ := three_of hl
  have f0 := hf _ List.mem_cons_self
  have f1 := hf _ (List.mem_cons_of_mem _ List.mem_cons_self)
  have f2 := hf _ (List.mem_cons_of_mem _ (List.mem_cons_of_mem _ List.mem_cons_self))
  simp only at f0 f1 f2
  rw [cells_int1] at f0 f1
  rw [cells_str1] at f2
  obtain ⟨a, _, h0⟩ := typedB_int (Z := was W) Try.underlying3 f0
  obtain ⟨b, _, h1⟩ := typedB_int (Z := was W) Try.underlying3 f1
  obtain ⟨c, hc, h2⟩ := typedB_str (Z := was W) Try.underlying9 f2
  exact ⟨⟨a, b, c⟩, reach_val ▸ hc, h0.1, h1.1, h2.1, trivial⟩
theorem argB_acts {W : World} {v : Value} (h : ArgB Try.prog W 30 v) : ∃ l : List ActD, (∀ a ∈ l, a.name.size ≤ 140737488351232) ∧ (VP.ro l.length (l.flatMap cAct)).p (was W) v W := by
  obtain ⟨l, _, h1, h2⟩ := roB_of Try.underlying30 cAct (fun a => a.name.size ≤ 140737488351232) typedB_act h
  exact ⟨l, h1, h2⟩
end O
end Go.Proofs.Ytogodjiemgilaaa

/- What was bound behind a push is gone behind its pop, and what was ahead of it is as it was. No program stands in this text. -/
namespace Go.Proofs.Ytogodjiemgilaaa
open Go.RowKit
namespace O
abbrev TabS := TabD ByteArray
def bAct (p : Bool) (d : TabS) (a : ActD) : TabS := if a.what = 0 then d.bind a.name (a.name ++ (ByteArray.mk #[33])) else if a.what = 1 then d.push (a.n % 4) else if p then d.pop (a.n % 4) else d
def bActs (p : Bool) (d : TabS) (l : List ActD) : TabS := l.foldl (bAct p) d
theorem bActs_step {p : Bool} {d : TabS} {l : List ActD} {k : Nat} {a : ActD} (h : l[k]? = some a) : bActs p d (l.take (k + 1)) = bAct p (bActs p d (l.take k)) a := by
  unfold bActs
  rw [List.take_add_one, h, Option.toList_some, List.foldl_append]; rfl
structure GoodT (d : TabS) : Prop where
  told : d.told = d.names.map fun s => (s, s ++ (ByteArray.mk #[33]))
  nd : d.names.Nodup
  le : ∀ x ∈ d.levels, x ≤ d.names.length
  lv : d.levels.length ≤ 1000
  so : d.levels.Pairwise (· ≤ ·)
  sz : ∀ s ∈ d.names, s.size ≤ 140737488351232
theorem good_nil : GoodT ⟨[], [], []⟩ := ⟨rfl, List.nodup_nil, fun _ h => (by cases h), Nat.zero_le _, List.Pairwise.nil, fun _ h => (by cases h)⟩
section
variable {s : ByteArray}
theorem mfind_in : ∀ {l : List ByteArray}, s ∈ l → mfind mkStr s (l.map fun s => (s, s ++ (ByteArray.mk #[33]))) = some (s ++ (ByteArray.mk #[33]))
  | y :: l, h => by
    rw [List.map_cons]
    unfold mfind
    by_cases e : y = s
    · subst e
      rw [(mkStr.eqv_iff y y).2 rfl]; rfl
    · rw [Bool.eq_false_iff.2 fun h => e ((mkStr.eqv_iff s y).1 h).symm]
      simp only [Bool.false_eq_true, if_false]
      exact mfind_in ((List.mem_cons.1 h).resolve_left (Ne.symm e))
theorem mfind_out : ∀ {l : List ByteArray}, s ∉ l → mfind mkStr s (l.map fun s => (s, s ++ (ByteArray.mk #[33]))) = none
  | [], _ => rfl
  | y :: l, h => by
    rw [List.mem_cons, not_or] at h
    rw [List.map_cons]
    unfold mfind
    rw [Bool.eq_false_iff.2 fun e => h.1 ((mkStr.eqv_iff s y).1 e)]
    simp only [Bool.false_eq_true, if_false]
    exact mfind_out h.2
theorem mput_new {β : Type} {x : β} {t : List (ByteArray × β)} (h : s ∉ t.map (·.1)) : mput mkStr s x t = t ++ [(s, x)] := by
  rw [mput_idx]
  have : (t.map (·.1)).findIdx? (fun y => mkStr.eqv s y) = none := by
    rw [List.findIdx?_eq_none_iff]
    exact fun y hy => Bool.eq_false_iff.2 fun e => h ((mkStr.eqv_iff s y).1 e ▸ hy)
  rw [this]
end
section
variable {d d0 : TabS}
theorem good_keys (h : GoodT d) : d.told.map (·.1) = d.names := by rw [h.told, List.map_map]; simp [Function.comp_def]
theorem good_is (h : GoodT d) (s : ByteArray) : (mfind mkStr s d.told).isSome = true ↔ s ∈ d.names := by
  rw [h.told]
  by_cases hs : s ∈ d.names
  · rw [mfind_in hs]; simp [hs]
  · rw [mfind_out hs]; simp [hs]
theorem good_bind (h : GoodT d) (s : ByteArray) (hz : s.size ≤ 140737488351232) : GoodT (d.bind s (s ++ (ByteArray.mk #[33]))) := by
  by_cases hc : (mfind mkStr s d.told).isSome = true
  · rw [TabD.bind_t hc]; exact h
  · rw [TabD.bind_f (Bool.eq_false_iff.2 hc)]
    have hs : s ∉ d.names := fun e => hc ((good_is h s).2 e)
    refine ⟨?_, ?_, fun x hx => ?_, h.lv, h.so, fun x hx => (List.mem_append.1 hx).elim (h.sz x) fun e => by simp only [List.mem_singleton] at e; rw [e]; exact hz⟩
    · show mput mkStr s _ d.told = _
      rw [mput_new (by rw [good_keys h]; exact hs), h.told]; simp
    · exact List.nodup_append.2 ⟨h.nd, by simp, fun a ha b hb e => by simp only [List.mem_singleton] at hb; subst hb e; exact hs ha⟩
    · have := h.le x hx
      show x ≤ (d.names ++ [s]).length
      rw [List.length_append]; omega
theorem good_push (h : GoodT d) (n : Int) : GoodT (d.push n) := by
  unfold TabD.push
  by_cases hc : 0 ≤ n ∧ n ≤ 1000 - (d.levels.length : Int)
  · rw [if_pos hc]
    refine ⟨h.told, h.nd, fun x hx => ?_, ?_, ?_, h.sz⟩
    · rcases List.mem_append.1 hx with hx | hx
      · exact h.le x hx
      · rw [(List.mem_replicate.1 hx).2]; exact Nat.le_refl _
    · show (d.levels ++ List.replicate n.toNat d.names.length).length ≤ 1000
      rw [List.length_append, List.length_replicate]; omega
    · refine List.pairwise_append.2 ⟨h.so, List.pairwise_replicate.2 (.inr (Nat.le_refl _)), fun a ha b hb => ?_⟩
      rw [(List.mem_replicate.1 hb).2]; exact h.le a ha
  · rw [if_neg hc]; exact h
theorem dels_good (h : GoodT d) (k : Nat) : dels (d.names.drop k) d.told = (d.names.take k).map fun s => (s, s ++ (ByteArray.mk #[33])) := by
  have e1 : d.names.drop k = ((d.names.drop k).map fun s => (s, s ++ (ByteArray.mk #[33]))).map (·.1) := by rw [List.map_map]; simp [Function.comp_def]
  have e2 : d.told = ((d.names.take k).map fun s => (s, s ++ (ByteArray.mk #[33]))) ++ ((d.names.drop k).map fun s => (s, s ++ (ByteArray.mk #[33]))) := by rw [← List.map_append, List.take_append_drop, h.told]
  rw [e2]
  refine (congrArg (fun q => dels q (((d.names.take k).map fun s => (s, s ++ (ByteArray.mk #[33]))) ++ ((d.names.drop k).map fun s => (s, s ++ (ByteArray.mk #[33]))))) e1).trans ?_
  refine dels_app fun x hx hx' => ?_
  rw [← e1] at hx
  have e3 : (((d.names.take k).map fun s => (s, s ++ (ByteArray.mk #[33]))).map (·.1)) = d.names.take k := by rw [List.map_map]; simp [Function.comp_def]
  rw [e3] at hx'
  have hnd := h.nd
  rw [← List.take_append_drop k d.names] at hnd
  exact (List.nodup_append.1 hnd).2.2 x hx' x hx rfl
theorem good_pop (h : GoodT d) (n : Int) : GoodT (d.pop n) := by
  unfold TabD.pop
  by_cases hc : 0 < n ∧ n ≤ (d.levels.length : Int)
  · rw [if_pos hc]
    have hl := d.left_get hc.1 hc.2
    obtain ⟨hlt, hge⟩ := List.getElem?_eq_some_iff.1 hl
    have hle := d.left_le h.le hc.1 hc.2
    refine ⟨dels_good h _, h.nd.sublist (List.take_sublist _ _), fun x hx => ?_, ?_, h.so.sublist (List.take_sublist _ _), fun x hx => h.sz x (List.mem_of_mem_take hx)⟩
    · show x ≤ (d.names.take (d.left n)).length
      rw [List.length_take, Nat.min_eq_left hle]
      obtain ⟨j, hj, rfl⟩ := List.mem_iff_getElem.1 hx
      rw [List.length_take] at hj
      rw [List.getElem_take, ← hge]
      exact List.pairwise_iff_getElem.1 h.so j _ (by omega) hlt (by omega)
    · show (d.levels.take _).length ≤ 1000
      exact Nat.le_trans (List.take_sublist _ _).length_le h.lv
  · rw [if_neg hc]; exact h
theorem good_act (h : GoodT d) (p : Bool) (a : ActD) (hz : a.name.size ≤ 140737488351232) : GoodT (bAct p d a) := by
  unfold bAct
  split
  · exact good_bind h _ hz
  · split
    · exact good_push h _
    · split
      · exact good_pop h _
      · exact h
theorem len_act (p : Bool) (a : ActD) : (bAct p d a).names.length ≤ d.names.length + 1 := by
  unfold bAct
  split
  · unfold TabD.bind; split
    · omega
    · simp
  · split
    · unfold TabD.push; split <;> simp
    · split
      · unfold TabD.pop; split
        · exact Nat.le_trans (List.take_sublist _ _).length_le (Nat.le_succ _)
        · omega
      · omega
theorem good_acts (p : Bool) (l : List ActD) (hz : ∀ a ∈ l, a.name.size ≤ 140737488351232) : ∀ {d : TabS}, GoodT d → GoodT (bActs p d l) ∧ (bActs p d l).names.length ≤ d.names.length + l.length := by
  induction l with
  | nil => intro d h; exact ⟨h, Nat.le_refl _⟩
  | cons a l ih =>
    intro d h
    obtain ⟨h1, h2⟩ := ih (fun b hb => hz b (List.mem_cons_of_mem _ hb)) (good_act h p a (hz a List.mem_cons_self))
    have := len_act (d := d) p a
    exact ⟨h1, by show (bActs p (bAct p d a) l).names.length ≤ d.names.length + (l.length + 1); omega⟩
/-- d is d0 with something behind it -/
def Over (d0 d : TabS) : Prop := ∃ (N : List ByteArray) (L : List Nat), d.names = d0.names ++ N ∧ d.levels = d0.levels ++ L ∧ L[0]? = some d0.names.length
theorem over_first {n : Int} (h0 : 0 < n) (h1 : n ≤ 1000 - (d0.levels.length : Int)) : Over d0 (d0.push n) := by
  unfold TabD.push
  rw [if_pos ⟨by omega, h1⟩]
  exact ⟨[], List.replicate n.toNat d0.names.length, by simp, rfl, by rw [List.getElem?_replicate, if_pos (by omega)]⟩
theorem over_act (h : Over d0 d) (a : ActD) : Over d0 (bAct false d a) := by
  obtain ⟨N, L, h1, h2, h3⟩ := h
  have hL := (List.getElem?_eq_some_iff.1 h3).1
  unfold bAct
  split
  · unfold TabD.bind; split
    · exact ⟨N, L, h1, h2, h3⟩
    · exact ⟨N ++ [a.name], L, by show d.names ++ [a.name] = _; rw [h1, List.append_assoc], h2, h3⟩
  · split
    · unfold TabD.push; split
      · exact ⟨N, L ++ List.replicate (a.n % 4).toNat d.names.length, h1, by show d.levels ++ _ = _; rw [h2, List.append_assoc], by rw [List.getElem?_append_left hL]; exact h3⟩
      · exact ⟨N, L, h1, h2, h3⟩
    · exact ⟨N, L, h1, h2, h3⟩
theorem over_acts (l : List ActD) : ∀ {d : TabS}, Over d0 d → Over d0 (bActs false d l) := by
  induction l with
  | nil => exact fun h => h
  | cons a l ih => exact fun h => ih (over_act h a)
theorem over_lt (h : Over d0 d) : d0.levels.length < d.levels.length := by
  obtain ⟨N, L, h1, h2, h3⟩ := h
  have := (List.getElem?_eq_some_iff.1 h3).1
  rw [h2, List.length_append]; omega
theorem over_pop (h0 : GoodT d0) (h : GoodT d) (ho : Over d0 d) : d.pop ((d.levels.length : Int) - d0.levels.length) = d0 := by
  have hlt := over_lt ho
  obtain ⟨N, L, h1, h2, h3⟩ := ho
  have hn : ((d.levels.length : Int) - d0.levels.length).toNat = d.levels.length - d0.levels.length := by omega
  have e : d.levels.length - (d.levels.length - d0.levels.length) = d0.levels.length := by omega
  have hl : d.left ((d.levels.length : Int) - d0.levels.length) = d0.names.length := by
    unfold TabD.left
    rw [hn, e, h2, List.getElem?_append_right (Nat.le_refl _), Nat.sub_self, h3]; rfl
  unfold TabD.pop
  rw [if_pos ⟨by omega, by omega⟩, hl, hn, e, dels_good h, h1, h2, List.take_append_of_le_length (Nat.le_refl _), List.take_append_of_le_length (Nat.le_refl _), List.take_of_length_le (Nat.le_refl _), List.take_of_length_le (Nat.le_refl _), ← h0.told]
theorem over_popE (ho : Over d0 d) : d.popE ((d.levels.length : Int) - d0.levels.length) = 0 := by
  have hlt := over_lt ho
  unfold TabD.popE
  rw [if_neg (by omega), if_neg (by omega)]
theorem push_full {n : Int} (h0 : 0 ≤ n) (h8 : n ≤ 8) (h : d.pushE n ≠ 0) : (d.levels.length : Int) > 900 := by
  unfold TabD.pushE at h
  rw [if_neg (by omega)] at h
  by_cases hc : n > 1000 - (d.levels.length : Int)
  · omega
  · rw [if_neg hc] at h; exact (h rfl).elim
theorem push_ok {n : Int} (h0 : 0 ≤ n) (h : d.pushE n = 0) : n ≤ 1000 - (d.levels.length : Int) := by
  unfold TabD.pushE at h
  rw [if_neg (by omega)] at h
  by_cases hc : n > 1000 - (d.levels.length : Int)
  · rw [if_pos hc] at h; cases h
  · omega
theorem good_val (h : GoodT d) {s : ByteArray} (hs : s ∈ d.names) : ((mfind mkStr s d.told).getD (ByteArray.mk #[])) = s ++ (ByteArray.mk #[33]) := by rw [h.told, mfind_in hs]; rfl
def fnd (s : ByteArray) (l : List ByteArray) : Bool := l.any fun x => x.toList == s.toList
theorem fnd_step {s x : ByteArray} {l : List ByteArray} {i : Nat} (h : l[i]? = some x) : fnd s (l.take (i + 1)) = (fnd s (l.take i) || (x.toList == s.toList)) := by
  unfold fnd
  rw [List.take_add_one, h, Option.toList_some, List.any_append]; simp
theorem fnd_end (h : GoodT d) (s : ByteArray) {i : Nat} (hi : d.names.length ≤ i) : fnd s (d.names.take i) = (mfind mkStr s d.told).isSome := by
  rw [List.take_of_length_le hi]
  unfold fnd
  refine Bool.eq_iff_iff.2 ?_
  rw [good_is h s, List.any_eq_true]
  exact ⟨fun ⟨x, hx, e⟩ => (tl_iff x s).1 e ▸ hx, fun hs => ⟨s, hs, (tl_iff s s).2 rfl⟩⟩
theorem bAct_0 {p : Bool} {a : ActD} (h : a.what = 0) : bAct p d a = d.bind a.name (a.name ++ (ByteArray.mk #[33])) := if_pos h
theorem bAct_1 {p : Bool} {a : ActD} (h0 : a.what ≠ 0) (h : a.what = 1) : bAct p d a = d.push (a.n % 4) := (if_neg h0).trans (if_pos h)
theorem bAct_2 {p : Bool} {a : ActD} (h0 : a.what ≠ 0) (h1 : a.what ≠ 1) (h : p = true) : bAct p d a = d.pop (a.n % 4) := (if_neg h0).trans ((if_neg h1).trans (if_pos h))
theorem bAct_3 {p : Bool} {a : ActD} (h0 : a.what ≠ 0) (h1 : a.what ≠ 1) (h : p = false) : bAct p d a = d := (if_neg h0).trans ((if_neg h1).trans (if_neg (by simp [h])))
end
end O
end Go.Proofs.Ytogodjiemgilaaa

/- The functions of scope, for texts. -/
namespace Go.Proofs.Ytogodjiemgilaaa
open Go.RowKit
namespace O
theorem ScopeS_zero_scope_Table_string_ : zeroOf Try.prog 152 [(.map none), (.slice none 0 0), (.slice none 0 0)] := by unfold zeroOf; kernel_rfl
theorem ScopeS_pl_scope_Table_string_ : placesOf Try.prog 152 #[(0, 1), (1, 1), (2, 1)] := ⟨_, Try.underlying152, fun w => by kernel_rfl⟩
theorem ScopeS_f_scope_Table_string__2 : fieldAt Try.prog 152 2 2 = true := by kernel_rfl
theorem ScopeS_one___int : oneTy Try.prog 35 = true := by kernel_rfl
theorem ScopeS_f_scope_Table_string__1 : fieldAt Try.prog 152 1 1 = true := by kernel_rfl
theorem ScopeS_one___string : oneTy Try.prog 31 = true := by kernel_rfl
theorem ScopeS_hb_slices_Clone___string_string_ : hasBody Try.prog 113 = true := by kernel_rfl
theorem ScopeS_f_scope_Table_string__0 : fieldAt Try.prog 152 0 0 = true := by kernel_rfl
theorem ScopeS_one_map_string_string : oneTy Try.prog 150 = true := by kernel_rfl
theorem ScopeS_zv_string___string__ByteArray_mk______ : ∀ w, (zeroValue 9).run Try.prog w = .ok (.string (ByteArray.mk #[])) w := zv_of (by kernel_rfl)
theorem ScopeS_el_str : Elem Try.prog 31 9 (.string (ByteArray.mk #[])) 1 16 := Elem.mk Try.underlying31 (by kernel_rfl) rfl (by decide)
theorem ScopeS_size___string : ∀ w, (sizeOf 31).run Try.prog w = .ok 1 w := run_sizeOne ScopeS_one___string
theorem ScopeS_hb___collator_scope_Table_string___Levels : hasBody Try.prog 41 = true := by kernel_rfl
theorem ScopeS_el_nat : Elem Try.prog 35 3 (.int .i64 0) 1 8 := Elem.mk Try.underlying35 (by kernel_rfl) rfl (by decide)
theorem ScopeS_hb_slices_Repeat___int_int_ : hasBody Try.prog 112 = true := by kernel_rfl
theorem ScopeS_size___int : ∀ w, (sizeOf 35).run Try.prog w = .ok 1 w := run_sizeOne ScopeS_one___int
theorem ScopeS_one_int : oneTy Try.prog 3 = true := by kernel_rfl
theorem ScopeS_size_int : ∀ w, (sizeOf 3).run Try.prog w = .ok 1 w := run_sizeOne ScopeS_one_int
theorem ScopeS_one_string : oneTy Try.prog 9 = true := by kernel_rfl
theorem ScopeS_size_string : ∀ w, (sizeOf 9).run Try.prog w = .ok 1 w := run_sizeOne ScopeS_one_string
set_option maxRecDepth 100000 in
set_option maxHeartbeats 4000000 in
theorem sc_NewS  : SpecO Try.prog 35 [] [] [] [] (Tab 152 VP.str (⟨[], [], []⟩ : TabD ByteArray)) := by
  refine spec_of 4 Try.func35 rfl Try.ntmps35 rfl fun w0 S0 Z0 Bf => ?_
  refine t_sub (fs' := []) [] rfl ?_
  refine t_seq ?_
  refine t_region (F := ⟨_, _, _, _, _, _⟩) [] [] [(0, .is (.tmp 0) (VP.nilP))] [] [] [] [[]] [[]] rfl rfl follow rfl ⟨
    .inl ⟨wants_plain rfl, does_move _ (.inr rfl) rfl rfl rfl rfl (ar_const (fun _ _ => rfl))⟩,
    trivial⟩ ?_
  refine nx_sub (fs' := [.is (.tmp 0) (VP.nilP)]) [0] rfl ?_
  refine nx_then ?_
  refine t_seq ?_
  refine t_region (F := ⟨_, _, _, _, _, _⟩) [] [(3, .is (.tmp 0) (VP.nilP))] [(2, .own 103 (.tmp 3) (HA.cells 152 [HA.map mkStr (mEnt VP.str ([] : List (ByteArray × ByteArray))), HA.of (VP.nilS), HA.of (VP.nilS)])), (3, .eq 0 (.tmp 3))] [(0, 1, .own 101 (.tmp 1) (HA.map mkStr (mEnt VP.str ([] : List (ByteArray × ByteArray))))), (1, 2, .own 102 (.tmp 2) (HA.agg [HA.map mkStr (mEnt VP.str ([] : List (ByteArray × ByteArray))), HA.of (VP.nilS), HA.of (VP.nilS)]))] [] [0] [[], [0], [0, 1], [0, 1, 2]] [[1, 2, 3], [2, 3], [3], []] rfl rfl follow rfl ⟨
    .inl ⟨wants_plain rfl, does_makeMap mkStr rfl rfl rfl rfl rfl⟩,
    .inl ⟨wants_plain rfl, does_buildO [VP.nilM, VP.nilS, VP.nilS] ScopeS_zero_scope_Table_string_ ScopeS_pl_scope_Table_string_ rfl rfl rfl rfl rfl (fun _ _ => ⟨rfl, rfl, rfl, trivial⟩) rfl (.cons 0 [HA.map mkStr (mEnt VP.str ([] : List (ByteArray × ByteArray)))] (some 101) rfl rfl (cv_one rfl (mv_own (av_ms 0 0 1 rfl rfl rfl))) (.nil _))⟩,
    .inl ⟨wants_plain rfl, does_box (Rs := [HA.map mkStr (mEnt VP.str ([] : List (ByteArray × ByteArray))), HA.of (VP.nilS), HA.of (VP.nilS)]) _ rfl rfl rfl rfl rfl rfl (cv_oagg (mv_own (av_ms 1 1 2 rfl rfl rfl)))⟩,
    .inl ⟨wants_plain rfl, does_eqTmp (k := 3) _ rfl (.inr rfl) rfl rfl rfl rfl rfl⟩,
    trivial⟩ ?_
  refine nx_sub (fs' := [.own 103 (.tmp 3) (HA.cells 152 [HA.map mkStr (mEnt VP.str ([] : List (ByteArray × ByteArray))), HA.of (VP.nilS), HA.of (VP.nilS)]), .eq 0 (.tmp 3)]) [0, 1] rfl ?_
  refine nx_then ?_
  refine t_sub (fs' := [.own 103 (.tmp 3) (HA.cells 152 [HA.map mkStr (mEnt VP.str ([] : List (ByteArray × ByteArray))), HA.of (VP.nilS), HA.of (VP.nilS)]), .eq 0 (.tmp 3)]) [0, 1] rfl ?_
  refine t_nameP rfl fun v1 => ?_
  refine t_sub (fs' := [.own 103 (.val v1) (HA.cells 152 [HA.map mkStr (mEnt VP.str ([] : List (ByteArray × ByteArray))), HA.of (VP.nilS), HA.of (VP.nilS)]), .is (.tmp 3) (VP.ptr v1), .eq 0 (.tmp 3)]) [0, 1, 2] rfl ?_
  refine t_sub (fs' := [.eq 0 (.tmp 3), .is (.tmp 3) (VP.ptr v1), .own 103 (.val v1) (HA.cells 152 [HA.map mkStr (mEnt VP.str ([] : List (ByteArray × ByteArray))), HA.of (VP.nilS), HA.of (VP.nilS)])]) [2, 1, 0] rfl ?_
  refine t_eq ?_
  refine t_sub (fs' := [.is (.tmp 0) (VP.ptr v1), .is (.tmp 3) (VP.ptr v1), .own 103 (.val v1) (HA.cells 152 [HA.map mkStr (mEnt VP.str ([] : List (ByteArray × ByteArray))), HA.of (VP.nilS), HA.of (VP.nilS)])]) [0, 1, 2] rfl ?_
  refine t_sub (fs' := [.is (.tmp 0) (VP.ptr v1), .own 103 (.val v1) (HA.cells 152 [HA.map mkStr (mEnt VP.str ([] : List (ByteArray × ByteArray))), HA.of (VP.nilS), HA.of (VP.nilS)])]) [0, 2] rfl ?_
  refine t_sub (fs' := [.own 103 (.val v1) (HA.cells 152 [HA.map mkStr (mEnt VP.str ([] : List (ByteArray × ByteArray))), HA.of (VP.nilS), HA.of (VP.nilS)]), .is (.tmp 0) (VP.ptr v1)]) [1, 0] rfl ?_
  refine t_weak (cells_weak (T := 152) (Rs := [HA.map mkStr (mEnt VP.str ([] : List (ByteArray × ByteArray))), HA.of (VP.nilS), HA.of (VP.nilS)]) (R' := HA.row 9 1 (([] : List ByteArray).length) ((([] : List ByteArray).flatMap cStr).map HA.of)) 1 rfl nil_row) rfl ?_
  refine t_sub (fs' := [.own 103 (.val v1) (HA.cells 152 [HA.map mkStr (mEnt VP.str ([] : List (ByteArray × ByteArray))), HA.row 9 1 (([] : List ByteArray).length) ((([] : List ByteArray).flatMap cStr).map HA.of), HA.of (VP.nilS)]), .is (.tmp 0) (VP.ptr v1)]) [0, 1] rfl ?_
  refine t_sub (fs' := [.own 103 (.val v1) (HA.cells 152 [HA.map mkStr (mEnt VP.str ([] : List (ByteArray × ByteArray))), HA.row 9 1 (([] : List ByteArray).length) ((([] : List ByteArray).flatMap cStr).map HA.of), HA.of (VP.nilS)]), .is (.tmp 0) (VP.ptr v1)]) [0, 1] rfl ?_
  refine t_weak (cells_weak (T := 152) (Rs := [HA.map mkStr (mEnt VP.str ([] : List (ByteArray × ByteArray))), HA.row 9 1 (([] : List ByteArray).length) ((([] : List ByteArray).flatMap cStr).map HA.of), HA.of (VP.nilS)]) (R' := HA.row 3 1 (([] : List Nat).length) ((([] : List Nat).flatMap cNat).map HA.of)) 2 rfl nil_row) rfl ?_
  refine t_sub (fs' := [.own 103 (.val v1) (HA.cells 152 [HA.map mkStr (mEnt VP.str ([] : List (ByteArray × ByteArray))), HA.row 9 1 (([] : List ByteArray).length) ((([] : List ByteArray).flatMap cStr).map HA.of), HA.row 3 1 (([] : List Nat).length) ((([] : List Nat).flatMap cNat).map HA.of)]), .is (.tmp 0) (VP.ptr v1)]) [0, 1] rfl ?_
  refine t_sub (fs' := [.own 103 (.val v1) (Tab 152 VP.str (⟨[], [], []⟩ : TabD ByteArray)), .is (.tmp 0) (VP.ptr v1)]) [0, 1] rfl ?_
  refine t_ret ?_
  exact rt_post [Tab 152 VP.str (⟨[], [], []⟩ : TabD ByteArray)] [[103]] [] [] rfl ⟨(rv_ptr 0 1 rfl rfl), trivial⟩ (by decide) rfl rfl

set_option maxRecDepth 100000 in
set_option maxHeartbeats 4000000 in
theorem sc_LevelsS {v : Value} {d : TabD ByteArray} : SpecO Try.prog 41 [.vp (VP.ptr v)] [(v, Tab 152 VP.str d)] [] [] (HA.of (VP.int .i64 ((d.levels.length : Nat) : Int))) := by
  refine spec_of 8 Try.func41 rfl Try.ntmps41 rfl fun w0 S0 Z0 Bf => ?_
  refine t_sub (fs' := [.is (.tmp 0) (VP.ptr v), .bor (.val v) (Tab 152 VP.str d)]) [0, 1] rfl ?_
  refine t_sub (fs' := [.bor (.val v) (Tab 152 VP.str d), .is (.tmp 0) (VP.ptr v)]) [1, 0] rfl ?_
  refine b_part (part_cells (T' := 152) (Rs := [HA.map mkStr (mEnt VP.str d.told), HA.row 9 1 d.names.length ((d.names.flatMap cStr).map HA.of), HA.row 3 1 d.levels.length ((d.levels.flatMap cNat).map HA.of)]) 0 rfl) fun u1 => ?_
  refine t_sub (fs' := [.bor (.val v) (HA.cells 152 [HA.of (VP.eq u1 true true), HA.row 9 1 d.names.length ((d.names.flatMap cStr).map HA.of), HA.row 3 1 d.levels.length ((d.levels.flatMap cNat).map HA.of)]), .bor (.val u1) (HA.map mkStr (mEnt VP.str d.told)), .is (.tmp 0) (VP.ptr v)]) [0, 1, 2] rfl ?_
  refine t_sub (fs' := [.bor (.val v) (HA.cells 152 [HA.of (VP.eq u1 true true), HA.row 9 1 d.names.length ((d.names.flatMap cStr).map HA.of), HA.row 3 1 d.levels.length ((d.levels.flatMap cNat).map HA.of)]), .bor (.val u1) (HA.map mkStr (mEnt VP.str d.told)), .is (.tmp 0) (VP.ptr v)]) [0, 1, 2] rfl ?_
  refine b_part (part_cells (T' := 152) (Rs := [HA.of (VP.eq u1 true true), HA.row 9 1 d.names.length ((d.names.flatMap cStr).map HA.of), HA.row 3 1 d.levels.length ((d.levels.flatMap cNat).map HA.of)]) 1 rfl) fun u2 => ?_
  refine t_sub (fs' := [.bor (.val v) (HA.cells 152 [HA.of (VP.eq u1 true true), HA.of (VP.eq u2 true true), HA.row 3 1 d.levels.length ((d.levels.flatMap cNat).map HA.of)]), .bor (.val u2) (HA.row 9 1 d.names.length ((d.names.flatMap cStr).map HA.of)), .bor (.val u1) (HA.map mkStr (mEnt VP.str d.told)), .is (.tmp 0) (VP.ptr v)]) [0, 1, 2, 3] rfl ?_
  refine t_sub (fs' := [.bor (.val v) (HA.cells 152 [HA.of (VP.eq u1 true true), HA.of (VP.eq u2 true true), HA.row 3 1 d.levels.length ((d.levels.flatMap cNat).map HA.of)]), .bor (.val u2) (HA.row 9 1 d.names.length ((d.names.flatMap cStr).map HA.of)), .bor (.val u1) (HA.map mkStr (mEnt VP.str d.told)), .is (.tmp 0) (VP.ptr v)]) [0, 1, 2, 3] rfl ?_
  refine b_part (part_cells (T' := 152) (Rs := [HA.of (VP.eq u1 true true), HA.of (VP.eq u2 true true), HA.row 3 1 d.levels.length ((d.levels.flatMap cNat).map HA.of)]) 2 rfl) fun u3 => ?_
  refine t_sub (fs' := [.bor (.val v) (HA.cells 152 [HA.of (VP.eq u1 true true), HA.of (VP.eq u2 true true), HA.of (VP.eq u3 true true)]), .bor (.val u3) (HA.row 3 1 d.levels.length ((d.levels.flatMap cNat).map HA.of)), .bor (.val u2) (HA.row 9 1 d.names.length ((d.names.flatMap cStr).map HA.of)), .bor (.val u1) (HA.map mkStr (mEnt VP.str d.told)), .is (.tmp 0) (VP.ptr v)]) [0, 1, 2, 3, 4] rfl ?_
  refine t_seq ?_
  refine t_region (F := ⟨_, _, _, _, _, _⟩) [.bor (.val v) (HA.cells 152 [HA.of (VP.eq u1 true true), HA.of (VP.eq u2 true true), HA.of (VP.eq u3 true true)]), .bor (.val u3) (HA.row 3 1 d.levels.length ((d.levels.flatMap cNat).map HA.of)), .bor (.val u2) (HA.row 9 1 d.names.length ((d.names.flatMap cStr).map HA.of)), .bor (.val u1) (HA.map mkStr (mEnt VP.str d.told)), .is (.tmp 0) (VP.ptr v)] [] [(0, .is (.tmp 2) (VP.int .i64 0))] [] [0, 1, 2, 3, 4] [] [[]] [[]] rfl rfl follow rfl ⟨
    .inl ⟨wants_plain rfl, does_move _ (.inr rfl) rfl rfl rfl rfl (ar_const (fun _ _ => rfl))⟩,
    trivial⟩ ?_
  refine nx_sub (fs' := [.bor (.val v) (HA.cells 152 [HA.of (VP.eq u1 true true), HA.of (VP.eq u2 true true), HA.of (VP.eq u3 true true)]), .bor (.val u3) (HA.row 3 1 d.levels.length ((d.levels.flatMap cNat).map HA.of)), .bor (.val u2) (HA.row 9 1 d.names.length ((d.names.flatMap cStr).map HA.of)), .bor (.val u1) (HA.map mkStr (mEnt VP.str d.told)), .is (.tmp 0) (VP.ptr v), .is (.tmp 2) (VP.int .i64 0)]) [0, 1, 2, 3, 4, 5] rfl ?_
  refine nx_then ?_
  refine t_seq ?_
  refine t_region (F := ⟨_, _, _, _, _, _⟩) [.bor (.val v) (HA.cells 152 [HA.of (VP.eq u1 true true), HA.of (VP.eq u2 true true), HA.of (VP.eq u3 true true)]), .bor (.val u3) (HA.row 3 1 d.levels.length ((d.levels.flatMap cNat).map HA.of)), .bor (.val u2) (HA.row 9 1 d.names.length ((d.names.flatMap cStr).map HA.of)), .bor (.val u1) (HA.map mkStr (mEnt VP.str d.told)), .is (.tmp 0) (VP.ptr v)] [(5, .is (.tmp 2) (VP.int .i64 0))] [(0, .is (.tmp 3) (VP.ptr v)), (1, .is (.tmp 4) (VP.ptr v)), (2, .pt 5 (.blk (.val v) 2)), (3, .is (.tmp 6) (VP.eq u3 true true)), (4, .is (.tmp 7) (VP.int .i64 ((d.levels.length : Nat) : Int))), (5, .is (.tmp 2) (VP.int .i64 ((d.levels.length : Nat) : Int)))] [] [0, 1, 2, 3, 4] [5] [[], [0], [0, 1], [0, 1, 2], [0, 1, 2, 3], [0, 1, 2, 3, 4]] [[1, 2, 3, 4, 5], [2, 3, 4, 5], [3, 4, 5], [4, 5], [5], []] rfl rfl follow rfl ⟨
    .inl ⟨wants_plain rfl, does_move _ (.inl rfl) rfl rfl rfl rfl (ar_tmp (av_fs 4 rfl))⟩,
    .inl ⟨wants_plain rfl, does_nil _ rfl rfl rfl rfl rfl (ar_tmp (av_rs 0 0 rfl rfl))⟩,
    .inl ⟨wants_plain rfl, does_field _ _ _ 2 ScopeS_f_scope_Table_string__2 rfl rfl rfl rfl rfl rfl (pt_ptr (ar_tmp (av_rs 1 1 rfl rfl)))⟩,
    .inl ⟨wants_plain rfl, does_loadOne _ ScopeS_one___int rfl rfl rfl rfl rfl (pt_pt (av_rs 2 2 rfl rfl)) (rds_bbox (off := 2) (av_fs 0 rfl) (hq_one rfl))⟩,
    .inl ⟨wants_plain rfl, does_len _ _ (by kernel_rfl) rfl rfl rfl rfl rfl (sl_bor (av_fs 1 rfl) (ar_tmp (av_rs 3 3 rfl rfl)))⟩,
    .inl ⟨wants_plain rfl, does_move _ (.inr rfl) rfl rfl rfl rfl (ar_tmp (av_rs 4 4 rfl rfl))⟩,
    trivial⟩ ?_
  refine nx_sub (fs' := [.bor (.val v) (HA.cells 152 [HA.of (VP.eq u1 true true), HA.of (VP.eq u2 true true), HA.of (VP.eq u3 true true)]), .bor (.val u3) (HA.row 3 1 d.levels.length ((d.levels.flatMap cNat).map HA.of)), .bor (.val u2) (HA.row 9 1 d.names.length ((d.names.flatMap cStr).map HA.of)), .bor (.val u1) (HA.map mkStr (mEnt VP.str d.told)), .is (.tmp 2) (VP.int .i64 ((d.levels.length : Nat) : Int))]) [0, 1, 2, 3, 10] rfl ?_
  refine nx_then ?_
  refine t_ret ?_
  exact rt_post [HA.of (VP.int .i64 ((d.levels.length : Nat) : Int))] [[]] [] [] rfl ⟨(rv_vp 4 rfl), trivial⟩ (by decide) rfl rfl

set_option maxRecDepth 100000 in
set_option maxHeartbeats 4000000 in
theorem sc_LevelsS_o {v l : Value} {ls : List Nat} {A B : HA} : SpecO Try.prog 41 [.vp (VP.ptr v)] [(v, HA.cells 152 [A, B, HA.of (VP.eq l true true)]), (l, HA.row 3 1 ls.length ((ls.flatMap cNat).map HA.of))] [] [] (HA.of (VP.int .i64 ((ls.length : Nat) : Int))) := by
  refine spec_of 8 Try.func41 rfl Try.ntmps41 rfl fun w0 S0 Z0 Bf => ?_
  refine t_sub (fs' := [.is (.tmp 0) (VP.ptr v), .bor (.val v) (HA.cells 152 [A, B, HA.of (VP.eq l true true)]), .bor (.val l) (HA.row 3 1 ls.length ((ls.flatMap cNat).map HA.of))]) [0, 1, 2] rfl ?_
  refine t_seq ?_
  refine t_region (F := ⟨_, _, _, _, _, _⟩) [.is (.tmp 0) (VP.ptr v), .bor (.val v) (HA.cells 152 [A, B, HA.of (VP.eq l true true)]), .bor (.val l) (HA.row 3 1 ls.length ((ls.flatMap cNat).map HA.of))] [] [(0, .is (.tmp 2) (VP.int .i64 0))] [] [0, 1, 2] [] [[]] [[]] rfl rfl follow rfl ⟨
    .inl ⟨wants_plain rfl, does_move _ (.inr rfl) rfl rfl rfl rfl (ar_const (fun _ _ => rfl))⟩,
    trivial⟩ ?_
  refine nx_sub (fs' := [.is (.tmp 0) (VP.ptr v), .bor (.val v) (HA.cells 152 [A, B, HA.of (VP.eq l true true)]), .bor (.val l) (HA.row 3 1 ls.length ((ls.flatMap cNat).map HA.of)), .is (.tmp 2) (VP.int .i64 0)]) [0, 1, 2, 3] rfl ?_
  refine nx_then ?_
  refine t_seq ?_
  refine t_region (F := ⟨_, _, _, _, _, _⟩) [.is (.tmp 0) (VP.ptr v), .bor (.val v) (HA.cells 152 [A, B, HA.of (VP.eq l true true)]), .bor (.val l) (HA.row 3 1 ls.length ((ls.flatMap cNat).map HA.of))] [(5, .is (.tmp 2) (VP.int .i64 0))] [(0, .is (.tmp 3) (VP.ptr v)), (1, .is (.tmp 4) (VP.ptr v)), (2, .pt 5 (.blk (.val v) 2)), (3, .is (.tmp 6) (VP.eq l true true)), (4, .is (.tmp 7) (VP.int .i64 ((ls.length : Nat) : Int))), (5, .is (.tmp 2) (VP.int .i64 ((ls.length : Nat) : Int)))] [] [0, 1, 2] [3] [[], [0], [0, 1], [0, 1, 2], [0, 1, 2, 3], [0, 1, 2, 3, 4]] [[1, 2, 3, 4, 5], [2, 3, 4, 5], [3, 4, 5], [4, 5], [5], []] rfl rfl follow rfl ⟨
    .inl ⟨wants_plain rfl, does_move _ (.inl rfl) rfl rfl rfl rfl (ar_tmp (av_fs 0 rfl))⟩,
    .inl ⟨wants_plain rfl, does_nil _ rfl rfl rfl rfl rfl (ar_tmp (av_rs 0 0 rfl rfl))⟩,
    .inl ⟨wants_plain rfl, does_field _ _ _ 2 ScopeS_f_scope_Table_string__2 rfl rfl rfl rfl rfl rfl (pt_ptr (ar_tmp (av_rs 1 1 rfl rfl)))⟩,
    .inl ⟨wants_plain rfl, does_loadOne _ ScopeS_one___int rfl rfl rfl rfl rfl (pt_pt (av_rs 2 2 rfl rfl)) (rds_bbox (off := 2) (av_fs 1 rfl) (hq_one rfl))⟩,
    .inl ⟨wants_plain rfl, does_len _ _ (by kernel_rfl) rfl rfl rfl rfl rfl (sl_bor (av_fs 2 rfl) (ar_tmp (av_rs 3 3 rfl rfl)))⟩,
    .inl ⟨wants_plain rfl, does_move _ (.inr rfl) rfl rfl rfl rfl (ar_tmp (av_rs 4 4 rfl rfl))⟩,
    trivial⟩ ?_
  refine nx_sub (fs' := [.bor (.val v) (HA.cells 152 [A, B, HA.of (VP.eq l true true)]), .bor (.val l) (HA.row 3 1 ls.length ((ls.flatMap cNat).map HA.of)), .is (.tmp 2) (VP.int .i64 ((ls.length : Nat) : Int))]) [1, 2, 8] rfl ?_
  refine nx_then ?_
  refine t_ret ?_
  exact rt_post [HA.of (VP.int .i64 ((ls.length : Nat) : Int))] [[]] [] [] rfl ⟨(rv_vp 2 rfl), trivial⟩ (by decide) rfl rfl

set_option maxRecDepth 100000 in
set_option maxHeartbeats 4000000 in
theorem sc_NamesS {v : Value} {d : TabD ByteArray} (hn : d.names.length ≤ 1000000) : SpecO Try.prog 40 [.vp (VP.ptr v)] [(v, Tab 152 VP.str d)] [] [] (HA.row 9 1 d.names.length ((d.names.flatMap cStr).map HA.of)) := by
  refine spec_of 8 Try.func40 rfl Try.ntmps40 rfl fun w0 S0 Z0 Bf => ?_
  refine t_sub (fs' := [.is (.tmp 0) (VP.ptr v), .bor (.val v) (Tab 152 VP.str d)]) [0, 1] rfl ?_
  refine t_sub (fs' := [.bor (.val v) (Tab 152 VP.str d), .is (.tmp 0) (VP.ptr v)]) [1, 0] rfl ?_
  refine b_part (part_cells (T' := 152) (Rs := [HA.map mkStr (mEnt VP.str d.told), HA.row 9 1 d.names.length ((d.names.flatMap cStr).map HA.of), HA.row 3 1 d.levels.length ((d.levels.flatMap cNat).map HA.of)]) 0 rfl) fun u1 => ?_
  refine t_sub (fs' := [.bor (.val v) (HA.cells 152 [HA.of (VP.eq u1 true true), HA.row 9 1 d.names.length ((d.names.flatMap cStr).map HA.of), HA.row 3 1 d.levels.length ((d.levels.flatMap cNat).map HA.of)]), .bor (.val u1) (HA.map mkStr (mEnt VP.str d.told)), .is (.tmp 0) (VP.ptr v)]) [0, 1, 2] rfl ?_
  refine t_sub (fs' := [.bor (.val v) (HA.cells 152 [HA.of (VP.eq u1 true true), HA.row 9 1 d.names.length ((d.names.flatMap cStr).map HA.of), HA.row 3 1 d.levels.length ((d.levels.flatMap cNat).map HA.of)]), .bor (.val u1) (HA.map mkStr (mEnt VP.str d.told)), .is (.tmp 0) (VP.ptr v)]) [0, 1, 2] rfl ?_
  refine b_part (part_cells (T' := 152) (Rs := [HA.of (VP.eq u1 true true), HA.row 9 1 d.names.length ((d.names.flatMap cStr).map HA.of), HA.row 3 1 d.levels.length ((d.levels.flatMap cNat).map HA.of)]) 1 rfl) fun u2 => ?_
  refine t_sub (fs' := [.bor (.val v) (HA.cells 152 [HA.of (VP.eq u1 true true), HA.of (VP.eq u2 true true), HA.row 3 1 d.levels.length ((d.levels.flatMap cNat).map HA.of)]), .bor (.val u2) (HA.row 9 1 d.names.length ((d.names.flatMap cStr).map HA.of)), .bor (.val u1) (HA.map mkStr (mEnt VP.str d.told)), .is (.tmp 0) (VP.ptr v)]) [0, 1, 2, 3] rfl ?_
  refine t_sub (fs' := [.bor (.val v) (HA.cells 152 [HA.of (VP.eq u1 true true), HA.of (VP.eq u2 true true), HA.row 3 1 d.levels.length ((d.levels.flatMap cNat).map HA.of)]), .bor (.val u2) (HA.row 9 1 d.names.length ((d.names.flatMap cStr).map HA.of)), .bor (.val u1) (HA.map mkStr (mEnt VP.str d.told)), .is (.tmp 0) (VP.ptr v)]) [0, 1, 2, 3] rfl ?_
  refine b_part (part_cells (T' := 152) (Rs := [HA.of (VP.eq u1 true true), HA.of (VP.eq u2 true true), HA.row 3 1 d.levels.length ((d.levels.flatMap cNat).map HA.of)]) 2 rfl) fun u3 => ?_
  refine t_sub (fs' := [.bor (.val v) (HA.cells 152 [HA.of (VP.eq u1 true true), HA.of (VP.eq u2 true true), HA.of (VP.eq u3 true true)]), .bor (.val u3) (HA.row 3 1 d.levels.length ((d.levels.flatMap cNat).map HA.of)), .bor (.val u2) (HA.row 9 1 d.names.length ((d.names.flatMap cStr).map HA.of)), .bor (.val u1) (HA.map mkStr (mEnt VP.str d.told)), .is (.tmp 0) (VP.ptr v)]) [0, 1, 2, 3, 4] rfl ?_
  refine t_seq ?_
  refine t_region (F := ⟨_, _, _, _, _, _⟩) [.bor (.val v) (HA.cells 152 [HA.of (VP.eq u1 true true), HA.of (VP.eq u2 true true), HA.of (VP.eq u3 true true)]), .bor (.val u3) (HA.row 3 1 d.levels.length ((d.levels.flatMap cNat).map HA.of)), .bor (.val u2) (HA.row 9 1 d.names.length ((d.names.flatMap cStr).map HA.of)), .bor (.val u1) (HA.map mkStr (mEnt VP.str d.told)), .is (.tmp 0) (VP.ptr v)] [] [(0, .is (.tmp 2) (VP.nilS))] [] [0, 1, 2, 3, 4] [] [[]] [[]] rfl rfl follow rfl ⟨
    .inl ⟨wants_plain rfl, does_move _ (.inr rfl) rfl rfl rfl rfl (ar_const (fun _ _ => rfl))⟩,
    trivial⟩ ?_
  refine nx_sub (fs' := [.bor (.val v) (HA.cells 152 [HA.of (VP.eq u1 true true), HA.of (VP.eq u2 true true), HA.of (VP.eq u3 true true)]), .bor (.val u3) (HA.row 3 1 d.levels.length ((d.levels.flatMap cNat).map HA.of)), .bor (.val u2) (HA.row 9 1 d.names.length ((d.names.flatMap cStr).map HA.of)), .bor (.val u1) (HA.map mkStr (mEnt VP.str d.told)), .is (.tmp 0) (VP.ptr v), .is (.tmp 2) (VP.nilS)]) [0, 1, 2, 3, 4, 5] rfl ?_
  refine nx_then ?_
  refine t_seq ?_
  refine t_region (F := ⟨_, _, _, _, _, _⟩) [.bor (.val v) (HA.cells 152 [HA.of (VP.eq u1 true true), HA.of (VP.eq u2 true true), HA.of (VP.eq u3 true true)]), .bor (.val u3) (HA.row 3 1 d.levels.length ((d.levels.flatMap cNat).map HA.of)), .bor (.val u2) (HA.row 9 1 d.names.length ((d.names.flatMap cStr).map HA.of)), .bor (.val u1) (HA.map mkStr (mEnt VP.str d.told)), .is (.tmp 0) (VP.ptr v)] [(5, .is (.tmp 2) (VP.nilS))] [(0, .is (.tmp 3) (VP.ptr v)), (1, .is (.tmp 4) (VP.ptr v)), (2, .pt 5 (.blk (.val v) 1)), (3, .is (.tmp 6) (VP.eq u2 true true)), (4, .own 101 (.tmp 7) (HA.row 9 1 d.names.length ((d.names.flatMap cStr).map HA.of))), (5, .eq 2 (.tmp 7))] [] [0, 1, 2, 3, 4] [5] [[], [0], [0, 1], [0, 1, 2], [0, 1, 2, 3], [0, 1, 2, 3, 4]] [[1, 2, 3, 4, 5], [2, 3, 4, 5], [3, 4, 5], [4, 5], [5], []] rfl rfl follow rfl ⟨
    .inl ⟨wants_plain rfl, does_move _ (.inl rfl) rfl rfl rfl rfl (ar_tmp (av_fs 4 rfl))⟩,
    .inl ⟨wants_plain rfl, does_nil _ rfl rfl rfl rfl rfl (ar_tmp (av_rs 0 0 rfl rfl))⟩,
    .inl ⟨wants_plain rfl, does_field _ _ _ 1 ScopeS_f_scope_Table_string__1 rfl rfl rfl rfl rfl rfl (pt_ptr (ar_tmp (av_rs 1 1 rfl rfl)))⟩,
    .inl ⟨wants_plain rfl, does_loadOne _ ScopeS_one___string rfl rfl rfl rfl rfl (pt_pt (av_rs 2 2 rfl rfl)) (rds_bbox (off := 1) (av_fs 0 rfl) (hq_one rfl))⟩,
    .inl ⟨wants_plain rfl, does_callG [] [] [] 101 [0] (sc_Clone_str d.names (by omega)) rfl ScopeS_hb_slices_Clone___string_string_ rfl rfl rfl rfl rfl ar_clo (ars_cons (pa_bor (av_fs 2 rfl) (ar_tmp (av_rs 3 3 rfl rfl))) ars_nil) trivial trivial⟩,
    .inl ⟨wants_plain rfl, does_eqTmp (k := 7) _ rfl (.inr rfl) rfl rfl rfl rfl rfl⟩,
    trivial⟩ ?_
  refine nx_sub (fs' := [.bor (.val v) (HA.cells 152 [HA.of (VP.eq u1 true true), HA.of (VP.eq u2 true true), HA.of (VP.eq u3 true true)]), .bor (.val u3) (HA.row 3 1 d.levels.length ((d.levels.flatMap cNat).map HA.of)), .bor (.val u2) (HA.row 9 1 d.names.length ((d.names.flatMap cStr).map HA.of)), .bor (.val u1) (HA.map mkStr (mEnt VP.str d.told)), .own 101 (.tmp 7) (HA.row 9 1 d.names.length ((d.names.flatMap cStr).map HA.of)), .eq 2 (.tmp 7)]) [0, 1, 2, 3, 9, 10] rfl ?_
  refine nx_then ?_
  refine t_sub (fs' := [.own 101 (.tmp 7) (HA.row 9 1 d.names.length ((d.names.flatMap cStr).map HA.of)), .bor (.val v) (HA.cells 152 [HA.of (VP.eq u1 true true), HA.of (VP.eq u2 true true), HA.of (VP.eq u3 true true)]), .bor (.val u3) (HA.row 3 1 d.levels.length ((d.levels.flatMap cNat).map HA.of)), .bor (.val u2) (HA.row 9 1 d.names.length ((d.names.flatMap cStr).map HA.of)), .bor (.val u1) (HA.map mkStr (mEnt VP.str d.told)), .eq 2 (.tmp 7)]) [4, 0, 1, 2, 3, 5] rfl ?_
  refine t_name rfl fun v4 => ?_
  refine t_sub (fs' := [.own 101 (.val v4) (HA.row 9 1 d.names.length ((d.names.flatMap cStr).map HA.of)), .is (.tmp 7) (VP.eq v4 true true), .bor (.val v) (HA.cells 152 [HA.of (VP.eq u1 true true), HA.of (VP.eq u2 true true), HA.of (VP.eq u3 true true)]), .bor (.val u3) (HA.row 3 1 d.levels.length ((d.levels.flatMap cNat).map HA.of)), .bor (.val u2) (HA.row 9 1 d.names.length ((d.names.flatMap cStr).map HA.of)), .bor (.val u1) (HA.map mkStr (mEnt VP.str d.told)), .eq 2 (.tmp 7)]) [0, 1, 2, 3, 4, 5, 6] rfl ?_
  refine t_sub (fs' := [.eq 2 (.tmp 7), .is (.tmp 7) (VP.eq v4 true true), .own 101 (.val v4) (HA.row 9 1 d.names.length ((d.names.flatMap cStr).map HA.of)), .bor (.val v) (HA.cells 152 [HA.of (VP.eq u1 true true), HA.of (VP.eq u2 true true), HA.of (VP.eq u3 true true)]), .bor (.val u3) (HA.row 3 1 d.levels.length ((d.levels.flatMap cNat).map HA.of)), .bor (.val u2) (HA.row 9 1 d.names.length ((d.names.flatMap cStr).map HA.of)), .bor (.val u1) (HA.map mkStr (mEnt VP.str d.told))]) [6, 1, 0, 2, 3, 4, 5] rfl ?_
  refine t_eq ?_
  refine t_sub (fs' := [.is (.tmp 2) (VP.eq v4 true true), .is (.tmp 7) (VP.eq v4 true true), .own 101 (.val v4) (HA.row 9 1 d.names.length ((d.names.flatMap cStr).map HA.of)), .bor (.val v) (HA.cells 152 [HA.of (VP.eq u1 true true), HA.of (VP.eq u2 true true), HA.of (VP.eq u3 true true)]), .bor (.val u3) (HA.row 3 1 d.levels.length ((d.levels.flatMap cNat).map HA.of)), .bor (.val u2) (HA.row 9 1 d.names.length ((d.names.flatMap cStr).map HA.of)), .bor (.val u1) (HA.map mkStr (mEnt VP.str d.told))]) [0, 1, 2, 3, 4, 5, 6] rfl ?_
  refine t_sub (fs' := [.is (.tmp 2) (VP.eq v4 true true), .own 101 (.val v4) (HA.row 9 1 d.names.length ((d.names.flatMap cStr).map HA.of)), .bor (.val v) (HA.cells 152 [HA.of (VP.eq u1 true true), HA.of (VP.eq u2 true true), HA.of (VP.eq u3 true true)]), .bor (.val u3) (HA.row 3 1 d.levels.length ((d.levels.flatMap cNat).map HA.of)), .bor (.val u2) (HA.row 9 1 d.names.length ((d.names.flatMap cStr).map HA.of)), .bor (.val u1) (HA.map mkStr (mEnt VP.str d.told))]) [0, 2, 3, 4, 5, 6] rfl ?_
  refine t_ret ?_
  exact rt_post [HA.row 9 1 d.names.length ((d.names.flatMap cStr).map HA.of)] [[101]] [] [] rfl ⟨(rv_ownv 1 0 rfl rfl), trivial⟩ (by decide) rfl rfl

set_option maxRecDepth 100000 in
set_option maxHeartbeats 4000000 in
theorem sc_FindS {v : Value} {d : TabD ByteArray} (s : ByteArray) : SpecO Try.prog 42 [.vp (VP.ptr v), .vp (VP.str s)] [(v, Tab 152 VP.str d)] [] [] (HA.of (VP.tup [VP.str ((mfind mkStr s d.told).getD (ByteArray.mk #[])), VP.bool ((mfind mkStr s d.told).isSome)])) := by
  refine spec_tup (ps := [VP.str ((mfind mkStr s d.told).getD (ByteArray.mk #[])), VP.bool ((mfind mkStr s d.told).isSome)]) ?_
  refine spec_of 17 Try.func42 rfl Try.ntmps42 rfl fun w0 S0 Z0 Bf => ?_
  refine t_sub (fs' := [.is (.tmp 0) (VP.ptr v), .is (.tmp 1) (VP.str s), .bor (.val v) (Tab 152 VP.str d)]) [0, 1, 2] rfl ?_
  refine t_sub (fs' := [.bor (.val v) (Tab 152 VP.str d), .is (.tmp 0) (VP.ptr v), .is (.tmp 1) (VP.str s)]) [2, 0, 1] rfl ?_
  refine b_part (part_cells (T' := 152) (Rs := [HA.map mkStr (mEnt VP.str d.told), HA.row 9 1 d.names.length ((d.names.flatMap cStr).map HA.of), HA.row 3 1 d.levels.length ((d.levels.flatMap cNat).map HA.of)]) 0 rfl) fun u1 => ?_
  refine t_sub (fs' := [.bor (.val v) (HA.cells 152 [HA.of (VP.eq u1 true true), HA.row 9 1 d.names.length ((d.names.flatMap cStr).map HA.of), HA.row 3 1 d.levels.length ((d.levels.flatMap cNat).map HA.of)]), .bor (.val u1) (HA.map mkStr (mEnt VP.str d.told)), .is (.tmp 0) (VP.ptr v), .is (.tmp 1) (VP.str s)]) [0, 1, 2, 3] rfl ?_
  refine t_sub (fs' := [.bor (.val v) (HA.cells 152 [HA.of (VP.eq u1 true true), HA.row 9 1 d.names.length ((d.names.flatMap cStr).map HA.of), HA.row 3 1 d.levels.length ((d.levels.flatMap cNat).map HA.of)]), .bor (.val u1) (HA.map mkStr (mEnt VP.str d.told)), .is (.tmp 0) (VP.ptr v), .is (.tmp 1) (VP.str s)]) [0, 1, 2, 3] rfl ?_
  refine b_part (part_cells (T' := 152) (Rs := [HA.of (VP.eq u1 true true), HA.row 9 1 d.names.length ((d.names.flatMap cStr).map HA.of), HA.row 3 1 d.levels.length ((d.levels.flatMap cNat).map HA.of)]) 1 rfl) fun u2 => ?_
  refine t_sub (fs' := [.bor (.val v) (HA.cells 152 [HA.of (VP.eq u1 true true), HA.of (VP.eq u2 true true), HA.row 3 1 d.levels.length ((d.levels.flatMap cNat).map HA.of)]), .bor (.val u2) (HA.row 9 1 d.names.length ((d.names.flatMap cStr).map HA.of)), .bor (.val u1) (HA.map mkStr (mEnt VP.str d.told)), .is (.tmp 0) (VP.ptr v), .is (.tmp 1) (VP.str s)]) [0, 1, 2, 3, 4] rfl ?_
  refine t_sub (fs' := [.bor (.val v) (HA.cells 152 [HA.of (VP.eq u1 true true), HA.of (VP.eq u2 true true), HA.row 3 1 d.levels.length ((d.levels.flatMap cNat).map HA.of)]), .bor (.val u2) (HA.row 9 1 d.names.length ((d.names.flatMap cStr).map HA.of)), .bor (.val u1) (HA.map mkStr (mEnt VP.str d.told)), .is (.tmp 0) (VP.ptr v), .is (.tmp 1) (VP.str s)]) [0, 1, 2, 3, 4] rfl ?_
  refine b_part (part_cells (T' := 152) (Rs := [HA.of (VP.eq u1 true true), HA.of (VP.eq u2 true true), HA.row 3 1 d.levels.length ((d.levels.flatMap cNat).map HA.of)]) 2 rfl) fun u3 => ?_
  refine t_sub (fs' := [.bor (.val v) (HA.cells 152 [HA.of (VP.eq u1 true true), HA.of (VP.eq u2 true true), HA.of (VP.eq u3 true true)]), .bor (.val u3) (HA.row 3 1 d.levels.length ((d.levels.flatMap cNat).map HA.of)), .bor (.val u2) (HA.row 9 1 d.names.length ((d.names.flatMap cStr).map HA.of)), .bor (.val u1) (HA.map mkStr (mEnt VP.str d.told)), .is (.tmp 0) (VP.ptr v), .is (.tmp 1) (VP.str s)]) [0, 1, 2, 3, 4, 5] rfl ?_
  refine t_seq ?_
  refine t_region (F := ⟨_, _, _, _, _, _⟩) [.bor (.val v) (HA.cells 152 [HA.of (VP.eq u1 true true), HA.of (VP.eq u2 true true), HA.of (VP.eq u3 true true)]), .bor (.val u3) (HA.row 3 1 d.levels.length ((d.levels.flatMap cNat).map HA.of)), .bor (.val u2) (HA.row 9 1 d.names.length ((d.names.flatMap cStr).map HA.of)), .bor (.val u1) (HA.map mkStr (mEnt VP.str d.told)), .is (.tmp 0) (VP.ptr v), .is (.tmp 1) (VP.str s)] [] [(0, .is (.tmp 4) (VP.str (ByteArray.mk #[]))), (1, .is (.tmp 5) (VP.bool false))] [] [0, 1, 2, 3, 4, 5] [] [[], [0]] [[1], []] rfl rfl follow rfl ⟨
    .inl ⟨wants_plain rfl, does_move _ (.inr rfl) rfl rfl rfl rfl (ar_const (fun _ _ => rfl))⟩,
    .inl ⟨wants_plain rfl, does_move _ (.inr rfl) rfl rfl rfl rfl (ar_const (fun _ _ => rfl))⟩,
    trivial⟩ ?_
  refine nx_sub (fs' := [.bor (.val v) (HA.cells 152 [HA.of (VP.eq u1 true true), HA.of (VP.eq u2 true true), HA.of (VP.eq u3 true true)]), .bor (.val u3) (HA.row 3 1 d.levels.length ((d.levels.flatMap cNat).map HA.of)), .bor (.val u2) (HA.row 9 1 d.names.length ((d.names.flatMap cStr).map HA.of)), .bor (.val u1) (HA.map mkStr (mEnt VP.str d.told)), .is (.tmp 0) (VP.ptr v), .is (.tmp 1) (VP.str s), .is (.tmp 4) (VP.str (ByteArray.mk #[])), .is (.tmp 5) (VP.bool false)]) [0, 1, 2, 3, 4, 5, 6, 7] rfl ?_
  refine nx_then ?_
  refine t_seq ?_
  refine t_region (F := ⟨_, _, _, _, _, _⟩) [.bor (.val v) (HA.cells 152 [HA.of (VP.eq u1 true true), HA.of (VP.eq u2 true true), HA.of (VP.eq u3 true true)]), .bor (.val u3) (HA.row 3 1 d.levels.length ((d.levels.flatMap cNat).map HA.of)), .bor (.val u2) (HA.row 9 1 d.names.length ((d.names.flatMap cStr).map HA.of)), .bor (.val u1) (HA.map mkStr (mEnt VP.str d.told)), .is (.tmp 0) (VP.ptr v), .is (.tmp 1) (VP.str s)] [(9, .is (.tmp 4) (VP.str (ByteArray.mk #[]))), (10, .is (.tmp 5) (VP.bool false))] [(0, .is (.tmp 7) (VP.ptr v)), (1, .is (.tmp 8) (VP.ptr v)), (2, .pt 9 (.blk (.val v) 0)), (3, .is (.tmp 10) (VP.eq u1 true true)), (4, .is (.tmp 11) (VP.str s)), (5, .is (.tmp 12) (VP.tup [VP.str ((mfind mkStr s d.told).getD (ByteArray.mk #[])), VP.bool ((mfind mkStr s d.told).isSome)])), (6, .is (.tmp 6) (VP.tup [VP.str ((mfind mkStr s d.told).getD (ByteArray.mk #[])), VP.bool ((mfind mkStr s d.told).isSome)])), (7, .is (.tmp 13) (VP.str ((mfind mkStr s d.told).getD (ByteArray.mk #[])))), (8, .is (.tmp 14) (VP.bool ((mfind mkStr s d.told).isSome))), (9, .is (.tmp 4) (VP.str ((mfind mkStr s d.told).getD (ByteArray.mk #[])))), (10, .is (.tmp 5) (VP.bool ((mfind mkStr s d.told).isSome)))] [] [0, 1, 2, 3, 4, 5] [6, 7] [[], [0], [0, 1], [0, 1, 2], [], [0, 1, 2, 3, 4], [0, 1, 2, 3, 4, 5], [0, 1, 2, 3, 4, 5, 6], [0, 1, 2, 3, 4, 5, 6], [0, 1, 2, 3, 4, 5, 6, 7], [0, 1, 2, 3, 4, 5, 6, 7, 8, 9]] [[1, 2, 3, 5, 6, 7, 8, 9, 10], [2, 3, 5, 6, 7, 8, 9, 10], [3, 5, 6, 7, 8, 9, 10], [5, 6, 7, 8, 9, 10], [5, 6, 7, 8, 9, 10], [6, 7, 8, 9, 10], [7, 8, 9, 10], [9, 10], [10], [10], []] rfl rfl follow rfl ⟨
    .inl ⟨wants_plain rfl, does_move _ (.inl rfl) rfl rfl rfl rfl (ar_tmp (av_fs 4 rfl))⟩,
    .inl ⟨wants_plain rfl, does_nil _ rfl rfl rfl rfl rfl (ar_tmp (av_rs 0 0 rfl rfl))⟩,
    .inl ⟨wants_plain rfl, does_field _ _ _ 0 ScopeS_f_scope_Table_string__0 rfl rfl rfl rfl rfl rfl (pt_ptr (ar_tmp (av_rs 1 1 rfl rfl)))⟩,
    .inl ⟨wants_plain rfl, does_loadOne _ ScopeS_one_map_string_string rfl rfl rfl rfl rfl (pt_pt (av_rs 2 2 rfl rfl)) (rds_bbox (off := 0) (av_fs 0 rfl) (hq_one rfl))⟩,
    .inl ⟨wants_plain rfl, does_move _ (.inl rfl) rfl rfl rfl rfl (ar_tmp (av_fs 5 rfl))⟩,
    .inl ⟨wants_plain rfl, does_lookup2 (K := mkStr) s (x := VP.str ((mfind mkStr s d.told).getD (ByteArray.mk #[]))) _ _ Try.underlying150 Try.underlying9 ScopeS_zv_string___string__ByteArray_mk______ rfl rfl rfl rfl rfl mlk_is (mlk_some (ByteArray.mk #[]) rfl) (mlk_none (ByteArray.mk #[]) rfl (fun _ _ => rfl)) (mp_bor (av_fs 3 rfl) (ar_tmp (av_rs 3 3 rfl rfl))) (key_str (ar_tmp (av_rs 4 4 rfl rfl)))⟩,
    .inl ⟨wants_plain rfl, does_move _ (.inl rfl) rfl rfl rfl rfl (ar_tmp (av_rs 5 5 rfl rfl))⟩,
    .inl ⟨wants_plain rfl, does_extract (ps := [VP.str ((mfind mkStr s d.told).getD (ByteArray.mk #[])), VP.bool ((mfind mkStr s d.told).isSome)]) _ 0 rfl rfl rfl rfl rfl (ar_tmp (av_rs 6 6 rfl rfl)) rfl⟩,
    .inl ⟨wants_plain rfl, does_extract (ps := [VP.str ((mfind mkStr s d.told).getD (ByteArray.mk #[])), VP.bool ((mfind mkStr s d.told).isSome)]) _ 1 rfl rfl rfl rfl rfl (ar_tmp (av_rs 6 6 rfl rfl)) rfl⟩,
    .inl ⟨wants_plain rfl, does_move _ (.inr rfl) rfl rfl rfl rfl (ar_tmp (av_rs 7 7 rfl rfl))⟩,
    .inl ⟨wants_plain rfl, does_move _ (.inr rfl) rfl rfl rfl rfl (ar_tmp (av_rs 8 8 rfl rfl))⟩,
    trivial⟩ ?_
  refine nx_sub (fs' := [.bor (.val v) (HA.cells 152 [HA.of (VP.eq u1 true true), HA.of (VP.eq u2 true true), HA.of (VP.eq u3 true true)]), .bor (.val u3) (HA.row 3 1 d.levels.length ((d.levels.flatMap cNat).map HA.of)), .bor (.val u2) (HA.row 9 1 d.names.length ((d.names.flatMap cStr).map HA.of)), .bor (.val u1) (HA.map mkStr (mEnt VP.str d.told)), .is (.tmp 4) (VP.str ((mfind mkStr s d.told).getD (ByteArray.mk #[]))), .is (.tmp 5) (VP.bool ((mfind mkStr s d.told).isSome))]) [0, 1, 2, 3, 15, 16] rfl ?_
  refine nx_then ?_
  refine t_seq ?_
  refine t_region (F := ⟨_, _, _, _, _, _⟩) [.bor (.val v) (HA.cells 152 [HA.of (VP.eq u1 true true), HA.of (VP.eq u2 true true), HA.of (VP.eq u3 true true)]), .bor (.val u3) (HA.row 3 1 d.levels.length ((d.levels.flatMap cNat).map HA.of)), .bor (.val u2) (HA.row 9 1 d.names.length ((d.names.flatMap cStr).map HA.of)), .bor (.val u1) (HA.map mkStr (mEnt VP.str d.told))] [(2, .is (.tmp 4) (VP.str ((mfind mkStr s d.told).getD (ByteArray.mk #[])))), (3, .is (.tmp 5) (VP.bool ((mfind mkStr s d.told).isSome)))] [(0, .is (.tmp 15) (VP.str ((mfind mkStr s d.told).getD (ByteArray.mk #[])))), (1, .is (.tmp 16) (VP.bool ((mfind mkStr s d.told).isSome))), (2, .is (.tmp 4) (VP.str ((mfind mkStr s d.told).getD (ByteArray.mk #[])))), (3, .is (.tmp 5) (VP.bool ((mfind mkStr s d.told).isSome)))] [] [0, 1, 2, 3] [4, 5] [[], [], [0], [0, 1, 2]] [[2, 3], [3], [3], []] rfl rfl follow rfl ⟨
    .inl ⟨wants_plain rfl, does_move _ (.inl rfl) rfl rfl rfl rfl (ar_tmp (av_os 0 2 rfl rfl))⟩,
    .inl ⟨wants_plain rfl, does_move _ (.inl rfl) rfl rfl rfl rfl (ar_tmp (av_os 1 3 rfl rfl))⟩,
    .inl ⟨wants_plain rfl, does_move _ (.inr rfl) rfl rfl rfl rfl (ar_tmp (av_rs 0 0 rfl rfl))⟩,
    .inl ⟨wants_plain rfl, does_move _ (.inr rfl) rfl rfl rfl rfl (ar_tmp (av_rs 1 1 rfl rfl))⟩,
    trivial⟩ ?_
  refine nx_sub (fs' := [.bor (.val v) (HA.cells 152 [HA.of (VP.eq u1 true true), HA.of (VP.eq u2 true true), HA.of (VP.eq u3 true true)]), .bor (.val u3) (HA.row 3 1 d.levels.length ((d.levels.flatMap cNat).map HA.of)), .bor (.val u2) (HA.row 9 1 d.names.length ((d.names.flatMap cStr).map HA.of)), .bor (.val u1) (HA.map mkStr (mEnt VP.str d.told)), .is (.tmp 4) (VP.str ((mfind mkStr s d.told).getD (ByteArray.mk #[]))), .is (.tmp 5) (VP.bool ((mfind mkStr s d.told).isSome))]) [0, 1, 2, 3, 6, 7] rfl ?_
  refine nx_then ?_
  refine t_ret ?_
  exact rt_post [HA.of (VP.str ((mfind mkStr s d.told).getD (ByteArray.mk #[]))), HA.of (VP.bool ((mfind mkStr s d.told).isSome))] [[], []] [] [] rfl ⟨(rv_vp 4 rfl), (rv_vp 5 rfl), trivial⟩ (by decide) rfl rfl

set_option maxRecDepth 100000 in
set_option maxHeartbeats 4000000 in
theorem sc_BindS {v : Value} {d : TabD ByteArray} (s : ByteArray) (x : ByteArray) (hn : d.names.length ≤ 1000000) : SpecO Try.prog 37 [.vp (VP.ptr v), .vp (VP.str s), .vp (VP.str x)] [] [(v, Tab 152 VP.str d)] [(v, Tab 152 VP.str (d.bind s x))] (HA.of (VP.int .i64 (d.bindE s))) := by
  refine spec_of 35 Try.func37 rfl Try.ntmps37 rfl fun w0 S0 Z0 Bf => ?_
  refine t_sub (fs' := [.is (.tmp 0) (VP.ptr v), .is (.tmp 1) (VP.str s), .is (.tmp 2) (VP.str x), .own 0 (.val v) (Tab 152 VP.str d)]) [0, 1, 2, 3] rfl ?_
  refine t_sub (fs' := [.own 0 (.val v) (Tab 152 VP.str d), .is (.tmp 0) (VP.ptr v), .is (.tmp 1) (VP.str s), .is (.tmp 2) (VP.str x)]) [3, 0, 1, 2] rfl ?_
  refine t_part 101 (part_cells (T' := 152) (Rs := [HA.map mkStr (mEnt VP.str d.told), HA.row 9 1 d.names.length ((d.names.flatMap cStr).map HA.of), HA.row 3 1 d.levels.length ((d.levels.flatMap cNat).map HA.of)]) 0 rfl) rfl rfl fun u1 => ?_
  refine t_sub (fs' := [.own 0 (.val v) (HA.cells 152 [HA.of (VP.eq u1 true true), HA.row 9 1 d.names.length ((d.names.flatMap cStr).map HA.of), HA.row 3 1 d.levels.length ((d.levels.flatMap cNat).map HA.of)]), .own 101 (.val u1) (HA.map mkStr (mEnt VP.str d.told)), .is (.tmp 0) (VP.ptr v), .is (.tmp 1) (VP.str s), .is (.tmp 2) (VP.str x)]) [0, 1, 2, 3, 4] rfl ?_
  refine t_sub (fs' := [.own 0 (.val v) (HA.cells 152 [HA.of (VP.eq u1 true true), HA.row 9 1 d.names.length ((d.names.flatMap cStr).map HA.of), HA.row 3 1 d.levels.length ((d.levels.flatMap cNat).map HA.of)]), .own 101 (.val u1) (HA.map mkStr (mEnt VP.str d.told)), .is (.tmp 0) (VP.ptr v), .is (.tmp 1) (VP.str s), .is (.tmp 2) (VP.str x)]) [0, 1, 2, 3, 4] rfl ?_
  refine t_part 102 (part_cells (T' := 152) (Rs := [HA.of (VP.eq u1 true true), HA.row 9 1 d.names.length ((d.names.flatMap cStr).map HA.of), HA.row 3 1 d.levels.length ((d.levels.flatMap cNat).map HA.of)]) 1 rfl) rfl rfl fun u2 => ?_
  refine t_sub (fs' := [.own 0 (.val v) (HA.cells 152 [HA.of (VP.eq u1 true true), HA.of (VP.eq u2 true true), HA.row 3 1 d.levels.length ((d.levels.flatMap cNat).map HA.of)]), .own 102 (.val u2) (HA.row 9 1 d.names.length ((d.names.flatMap cStr).map HA.of)), .own 101 (.val u1) (HA.map mkStr (mEnt VP.str d.told)), .is (.tmp 0) (VP.ptr v), .is (.tmp 1) (VP.str s), .is (.tmp 2) (VP.str x)]) [0, 1, 2, 3, 4, 5] rfl ?_
  refine t_sub (fs' := [.own 0 (.val v) (HA.cells 152 [HA.of (VP.eq u1 true true), HA.of (VP.eq u2 true true), HA.row 3 1 d.levels.length ((d.levels.flatMap cNat).map HA.of)]), .own 102 (.val u2) (HA.row 9 1 d.names.length ((d.names.flatMap cStr).map HA.of)), .own 101 (.val u1) (HA.map mkStr (mEnt VP.str d.told)), .is (.tmp 0) (VP.ptr v), .is (.tmp 1) (VP.str s), .is (.tmp 2) (VP.str x)]) [0, 1, 2, 3, 4, 5] rfl ?_
  refine t_part 103 (part_cells (T' := 152) (Rs := [HA.of (VP.eq u1 true true), HA.of (VP.eq u2 true true), HA.row 3 1 d.levels.length ((d.levels.flatMap cNat).map HA.of)]) 2 rfl) rfl rfl fun u3 => ?_
  refine t_sub (fs' := [.own 0 (.val v) (HA.cells 152 [HA.of (VP.eq u1 true true), HA.of (VP.eq u2 true true), HA.of (VP.eq u3 true true)]), .own 103 (.val u3) (HA.row 3 1 d.levels.length ((d.levels.flatMap cNat).map HA.of)), .own 102 (.val u2) (HA.row 9 1 d.names.length ((d.names.flatMap cStr).map HA.of)), .own 101 (.val u1) (HA.map mkStr (mEnt VP.str d.told)), .is (.tmp 0) (VP.ptr v), .is (.tmp 1) (VP.str s), .is (.tmp 2) (VP.str x)]) [0, 1, 2, 3, 4, 5, 6] rfl ?_
  refine t_seq ?_
  refine t_region (F := ⟨_, _, _, _, _, _⟩) [.own 0 (.val v) (HA.cells 152 [HA.of (VP.eq u1 true true), HA.of (VP.eq u2 true true), HA.of (VP.eq u3 true true)]), .own 103 (.val u3) (HA.row 3 1 d.levels.length ((d.levels.flatMap cNat).map HA.of)), .own 102 (.val u2) (HA.row 9 1 d.names.length ((d.names.flatMap cStr).map HA.of)), .own 101 (.val u1) (HA.map mkStr (mEnt VP.str d.told)), .is (.tmp 0) (VP.ptr v), .is (.tmp 1) (VP.str s), .is (.tmp 2) (VP.str x)] [] [(0, .is (.tmp 6) (VP.int .i64 0))] [] [0, 1, 2, 3, 4, 5, 6] [] [[]] [[]] rfl rfl follow rfl ⟨
    .inl ⟨wants_plain rfl, does_move _ (.inr rfl) rfl rfl rfl rfl (ar_const (fun _ _ => rfl))⟩,
    trivial⟩ ?_
  refine nx_sub (fs' := [.own 0 (.val v) (HA.cells 152 [HA.of (VP.eq u1 true true), HA.of (VP.eq u2 true true), HA.of (VP.eq u3 true true)]), .own 103 (.val u3) (HA.row 3 1 d.levels.length ((d.levels.flatMap cNat).map HA.of)), .own 102 (.val u2) (HA.row 9 1 d.names.length ((d.names.flatMap cStr).map HA.of)), .own 101 (.val u1) (HA.map mkStr (mEnt VP.str d.told)), .is (.tmp 0) (VP.ptr v), .is (.tmp 1) (VP.str s), .is (.tmp 2) (VP.str x), .is (.tmp 6) (VP.int .i64 0)]) [0, 1, 2, 3, 4, 5, 6, 7] rfl ?_
  refine nx_then ?_
  refine t_seq ?_
  refine t_seq ?_
  refine t_region (F := ⟨_, _, _, _, _, _⟩) [.own 0 (.val v) (HA.cells 152 [HA.of (VP.eq u1 true true), HA.of (VP.eq u2 true true), HA.of (VP.eq u3 true true)]), .own 103 (.val u3) (HA.row 3 1 d.levels.length ((d.levels.flatMap cNat).map HA.of)), .own 102 (.val u2) (HA.row 9 1 d.names.length ((d.names.flatMap cStr).map HA.of)), .own 101 (.val u1) (HA.map mkStr (mEnt VP.str d.told)), .is (.tmp 0) (VP.ptr v), .is (.tmp 1) (VP.str s), .is (.tmp 2) (VP.str x), .is (.tmp 6) (VP.int .i64 0)] [] [(0, .is (.tmp 10) (VP.ptr v)), (1, .is (.tmp 11) (VP.ptr v)), (2, .pt 12 (.blk (.val v) 0)), (3, .is (.tmp 13) (VP.eq u1 true true)), (4, .is (.tmp 14) (VP.str s)), (5, .is (.tmp 15) (VP.tup [VP.str ((mfind mkStr s d.told).getD (ByteArray.mk #[])), VP.bool ((mfind mkStr s d.told).isSome)])), (6, .is (.tmp 9) (VP.tup [VP.str ((mfind mkStr s d.told).getD (ByteArray.mk #[])), VP.bool ((mfind mkStr s d.told).isSome)])), (7, .is (.tmp 16) (VP.str ((mfind mkStr s d.told).getD (ByteArray.mk #[])))), (8, .is (.tmp 17) (VP.bool ((mfind mkStr s d.told).isSome))), (9, .is (.tmp 7) (VP.str ((mfind mkStr s d.told).getD (ByteArray.mk #[])))), (10, .is (.tmp 8) (VP.bool ((mfind mkStr s d.told).isSome)))] [] [0, 1, 2, 3, 4, 5, 6, 7] [] [[], [0], [0, 1], [0, 1, 2], [], [0, 1, 2, 3, 4], [0, 1, 2, 3, 4, 5], [0, 1, 2, 3, 4, 5, 6], [0, 1, 2, 3, 4, 5, 6], [0, 1, 2, 3, 4, 5, 6, 7], [0, 1, 2, 3, 4, 5, 6, 7, 8, 9]] [[1, 2, 3, 5, 6, 7, 8, 9, 10], [2, 3, 5, 6, 7, 8, 9, 10], [3, 5, 6, 7, 8, 9, 10], [5, 6, 7, 8, 9, 10], [5, 6, 7, 8, 9, 10], [6, 7, 8, 9, 10], [7, 8, 9, 10], [9, 10], [10], [10], []] rfl rfl follow rfl ⟨
    .inl ⟨wants_plain rfl, does_move _ (.inl rfl) rfl rfl rfl rfl (ar_tmp (av_fs 4 rfl))⟩,
    .inl ⟨wants_plain rfl, does_nil _ rfl rfl rfl rfl rfl (ar_tmp (av_rs 0 0 rfl rfl))⟩,
    .inl ⟨wants_plain rfl, does_field _ _ _ 0 ScopeS_f_scope_Table_string__0 rfl rfl rfl rfl rfl rfl (pt_ptr (ar_tmp (av_rs 1 1 rfl rfl)))⟩,
    .inl ⟨wants_plain rfl, does_loadOne _ ScopeS_one_map_string_string rfl rfl rfl rfl rfl (pt_pt (av_rs 2 2 rfl rfl)) (rds_box (off := 0) (av_fs 0 rfl) (hq_one rfl))⟩,
    .inl ⟨wants_plain rfl, does_move _ (.inl rfl) rfl rfl rfl rfl (ar_tmp (av_fs 5 rfl))⟩,
    .inl ⟨wants_plain rfl, does_lookup2 (K := mkStr) s (x := VP.str ((mfind mkStr s d.told).getD (ByteArray.mk #[]))) _ _ Try.underlying150 Try.underlying9 ScopeS_zv_string___string__ByteArray_mk______ rfl rfl rfl rfl rfl mlk_is (mlk_some (ByteArray.mk #[]) rfl) (mlk_none (ByteArray.mk #[]) rfl (fun _ _ => rfl)) (mp_own (av_fs 3 rfl) (ar_tmp (av_rs 3 3 rfl rfl))) (key_str (ar_tmp (av_rs 4 4 rfl rfl)))⟩,
    .inl ⟨wants_plain rfl, does_move _ (.inl rfl) rfl rfl rfl rfl (ar_tmp (av_rs 5 5 rfl rfl))⟩,
    .inl ⟨wants_plain rfl, does_extract (ps := [VP.str ((mfind mkStr s d.told).getD (ByteArray.mk #[])), VP.bool ((mfind mkStr s d.told).isSome)]) _ 0 rfl rfl rfl rfl rfl (ar_tmp (av_rs 6 6 rfl rfl)) rfl⟩,
    .inl ⟨wants_plain rfl, does_extract (ps := [VP.str ((mfind mkStr s d.told).getD (ByteArray.mk #[])), VP.bool ((mfind mkStr s d.told).isSome)]) _ 1 rfl rfl rfl rfl rfl (ar_tmp (av_rs 6 6 rfl rfl)) rfl⟩,
    .inl ⟨wants_plain rfl, does_move _ (.inr rfl) rfl rfl rfl rfl (ar_tmp (av_rs 7 7 rfl rfl))⟩,
    .inl ⟨wants_plain rfl, does_move _ (.inr rfl) rfl rfl rfl rfl (ar_tmp (av_rs 8 8 rfl rfl))⟩,
    trivial⟩ ?_
  refine nx_sub (fs' := [.own 0 (.val v) (HA.cells 152 [HA.of (VP.eq u1 true true), HA.of (VP.eq u2 true true), HA.of (VP.eq u3 true true)]), .own 103 (.val u3) (HA.row 3 1 d.levels.length ((d.levels.flatMap cNat).map HA.of)), .own 102 (.val u2) (HA.row 9 1 d.names.length ((d.names.flatMap cStr).map HA.of)), .own 101 (.val u1) (HA.map mkStr (mEnt VP.str d.told)), .is (.tmp 0) (VP.ptr v), .is (.tmp 1) (VP.str s), .is (.tmp 2) (VP.str x), .is (.tmp 6) (VP.int .i64 0), .is (.tmp 8) (VP.bool ((mfind mkStr s d.told).isSome))]) [0, 1, 2, 3, 4, 5, 6, 7, 18] rfl ?_
  refine nx_then ?_
  refine t_seq ?_
  refine t_region (F := ⟨_, _, _, _, _, _⟩) [.own 0 (.val v) (HA.cells 152 [HA.of (VP.eq u1 true true), HA.of (VP.eq u2 true true), HA.of (VP.eq u3 true true)]), .own 103 (.val u3) (HA.row 3 1 d.levels.length ((d.levels.flatMap cNat).map HA.of)), .own 102 (.val u2) (HA.row 9 1 d.names.length ((d.names.flatMap cStr).map HA.of)), .own 101 (.val u1) (HA.map mkStr (mEnt VP.str d.told)), .is (.tmp 0) (VP.ptr v), .is (.tmp 1) (VP.str s), .is (.tmp 2) (VP.str x), .is (.tmp 6) (VP.int .i64 0), .is (.tmp 8) (VP.bool ((mfind mkStr s d.told).isSome))] [] [(0, .is (.tmp 18) (VP.bool ((mfind mkStr s d.told).isSome)))] [] [0, 1, 2, 3, 4, 5, 6, 7, 8] [] [[]] [[]] rfl rfl follow rfl ⟨
    .inl ⟨wants_plain rfl, does_move _ (.inl rfl) rfl rfl rfl rfl (ar_tmp (av_fs 8 rfl))⟩,
    trivial⟩ ?_
  refine nx_sub (fs' := [.own 0 (.val v) (HA.cells 152 [HA.of (VP.eq u1 true true), HA.of (VP.eq u2 true true), HA.of (VP.eq u3 true true)]), .own 103 (.val u3) (HA.row 3 1 d.levels.length ((d.levels.flatMap cNat).map HA.of)), .own 102 (.val u2) (HA.row 9 1 d.names.length ((d.names.flatMap cStr).map HA.of)), .own 101 (.val u1) (HA.map mkStr (mEnt VP.str d.told)), .is (.tmp 0) (VP.ptr v), .is (.tmp 1) (VP.str s), .is (.tmp 2) (VP.str x), .is (.tmp 6) (VP.int .i64 0), .is (.tmp 18) (VP.bool ((mfind mkStr s d.told).isSome))]) [0, 1, 2, 3, 4, 5, 6, 7, 9] rfl ?_
  refine nx_then ?_
  refine t_split 8 rfl (fun hb4 => ?_) (fun hb4 => ?_)
  · refine t_seq ?_
    refine t_region (F := ⟨_, _, _, _, _, _⟩) [.own 0 (.val v) (HA.cells 152 [HA.of (VP.eq u1 true true), HA.of (VP.eq u2 true true), HA.of (VP.eq u3 true true)]), .own 103 (.val u3) (HA.row 3 1 d.levels.length ((d.levels.flatMap cNat).map HA.of)), .own 102 (.val u2) (HA.row 9 1 d.names.length ((d.names.flatMap cStr).map HA.of)), .own 101 (.val u1) (HA.map mkStr (mEnt VP.str d.told)), .is (.tmp 0) (VP.ptr v), .is (.tmp 1) (VP.str s), .is (.tmp 2) (VP.str x), .is (.tmp 18) (VP.bool ((mfind mkStr s d.told).isSome))] [(0, .is (.tmp 6) (VP.int .i64 0))] [(0, .is (.tmp 6) (VP.int .i64 13))] [] [0, 1, 2, 3, 4, 5, 6, 8] [7] [[]] [[]] rfl rfl follow rfl ⟨
      .inl ⟨wants_plain rfl, does_move _ (.inr rfl) rfl rfl rfl rfl (ar_const (fun _ _ => rfl))⟩,
      trivial⟩ ?_
    refine nx_sub (fs' := [.own 0 (.val v) (HA.cells 152 [HA.of (VP.eq u1 true true), HA.of (VP.eq u2 true true), HA.of (VP.eq u3 true true)]), .own 103 (.val u3) (HA.row 3 1 d.levels.length ((d.levels.flatMap cNat).map HA.of)), .own 102 (.val u2) (HA.row 9 1 d.names.length ((d.names.flatMap cStr).map HA.of)), .own 101 (.val u1) (HA.map mkStr (mEnt VP.str d.told)), .is (.tmp 0) (VP.ptr v), .is (.tmp 1) (VP.str s), .is (.tmp 2) (VP.str x), .is (.tmp 6) (VP.int .i64 13)]) [0, 1, 2, 3, 4, 5, 6, 8] rfl ?_
    refine nx_then ?_
    refine t_sub (fs' := [.own 0 (.val v) (HA.cells 152 [HA.of (VP.eq u1 true true), HA.of (VP.eq u2 true true), HA.of (VP.eq u3 true true)]), .own 101 (.val u1) (HA.map mkStr (mEnt VP.str d.told)), .own 103 (.val u3) (HA.row 3 1 d.levels.length ((d.levels.flatMap cNat).map HA.of)), .own 102 (.val u2) (HA.row 9 1 d.names.length ((d.names.flatMap cStr).map HA.of)), .is (.tmp 0) (VP.ptr v), .is (.tmp 1) (VP.str s), .is (.tmp 2) (VP.str x), .is (.tmp 6) (VP.int .i64 13)]) [0, 3, 1, 2, 4, 5, 6, 7] rfl ?_
    refine t_whole (whole_cells (T' := 152) (Rs := [HA.of (VP.eq u1 true true), HA.of (VP.eq u2 true true), HA.of (VP.eq u3 true true)]) (j := 0) (show 0 < 3 by decide)) rfl rfl ?_
    refine t_sub (fs' := [.own 0 (.val v) (HA.cells 152 [HA.map mkStr (mEnt VP.str d.told), HA.of (VP.eq u2 true true), HA.of (VP.eq u3 true true)]), .own 103 (.val u3) (HA.row 3 1 d.levels.length ((d.levels.flatMap cNat).map HA.of)), .own 102 (.val u2) (HA.row 9 1 d.names.length ((d.names.flatMap cStr).map HA.of)), .is (.tmp 0) (VP.ptr v), .is (.tmp 1) (VP.str s), .is (.tmp 2) (VP.str x), .is (.tmp 6) (VP.int .i64 13)]) [0, 1, 2, 3, 4, 5, 6] rfl ?_
    refine t_sub (fs' := [.own 0 (.val v) (HA.cells 152 [HA.map mkStr (mEnt VP.str d.told), HA.of (VP.eq u2 true true), HA.of (VP.eq u3 true true)]), .own 102 (.val u2) (HA.row 9 1 d.names.length ((d.names.flatMap cStr).map HA.of)), .own 103 (.val u3) (HA.row 3 1 d.levels.length ((d.levels.flatMap cNat).map HA.of)), .is (.tmp 0) (VP.ptr v), .is (.tmp 1) (VP.str s), .is (.tmp 2) (VP.str x), .is (.tmp 6) (VP.int .i64 13)]) [0, 2, 1, 3, 4, 5, 6] rfl ?_
    refine t_whole (whole_cells (T' := 152) (Rs := [HA.map mkStr (mEnt VP.str d.told), HA.of (VP.eq u2 true true), HA.of (VP.eq u3 true true)]) (j := 1) (show 1 < 3 by decide)) rfl rfl ?_
    refine t_sub (fs' := [.own 0 (.val v) (HA.cells 152 [HA.map mkStr (mEnt VP.str d.told), HA.row 9 1 d.names.length ((d.names.flatMap cStr).map HA.of), HA.of (VP.eq u3 true true)]), .own 103 (.val u3) (HA.row 3 1 d.levels.length ((d.levels.flatMap cNat).map HA.of)), .is (.tmp 0) (VP.ptr v), .is (.tmp 1) (VP.str s), .is (.tmp 2) (VP.str x), .is (.tmp 6) (VP.int .i64 13)]) [0, 1, 2, 3, 4, 5] rfl ?_
    refine t_sub (fs' := [.own 0 (.val v) (HA.cells 152 [HA.map mkStr (mEnt VP.str d.told), HA.row 9 1 d.names.length ((d.names.flatMap cStr).map HA.of), HA.of (VP.eq u3 true true)]), .own 103 (.val u3) (HA.row 3 1 d.levels.length ((d.levels.flatMap cNat).map HA.of)), .is (.tmp 0) (VP.ptr v), .is (.tmp 1) (VP.str s), .is (.tmp 2) (VP.str x), .is (.tmp 6) (VP.int .i64 13)]) [0, 1, 2, 3, 4, 5] rfl ?_
    refine t_whole (whole_cells (T' := 152) (Rs := [HA.map mkStr (mEnt VP.str d.told), HA.row 9 1 d.names.length ((d.names.flatMap cStr).map HA.of), HA.of (VP.eq u3 true true)]) (j := 2) (show 2 < 3 by decide)) rfl rfl ?_
    refine t_sub (fs' := [.own 0 (.val v) (HA.cells 152 [HA.map mkStr (mEnt VP.str d.told), HA.row 9 1 d.names.length ((d.names.flatMap cStr).map HA.of), HA.row 3 1 d.levels.length ((d.levels.flatMap cNat).map HA.of)]), .is (.tmp 0) (VP.ptr v), .is (.tmp 1) (VP.str s), .is (.tmp 2) (VP.str x), .is (.tmp 6) (VP.int .i64 13)]) [0, 1, 2, 3, 4] rfl ?_
    refine t_sub (fs' := [.own 0 (.val v) (HA.cells 152 [HA.map mkStr (mEnt VP.str d.told), HA.row 9 1 d.names.length ((d.names.flatMap cStr).map HA.of), HA.row 3 1 d.levels.length ((d.levels.flatMap cNat).map HA.of)]), .is (.tmp 0) (VP.ptr v), .is (.tmp 1) (VP.str s), .is (.tmp 2) (VP.str x), .is (.tmp 6) (VP.int .i64 13)]) [0, 1, 2, 3, 4] rfl ?_
    refine t_sub (fs' := [.own 0 (.val v) (HA.cells 152 [HA.map mkStr (mEnt VP.str d.told), HA.row 9 1 d.names.length ((d.names.flatMap cStr).map HA.of), HA.row 3 1 d.levels.length ((d.levels.flatMap cNat).map HA.of)]), .is (.tmp 0) (VP.ptr v), .is (.tmp 1) (VP.str s), .is (.tmp 2) (VP.str x), .is (.tmp 6) (VP.int .i64 13)]) [0, 1, 2, 3, 4] rfl ?_
    refine t_weak (R' := Tab 152 VP.str (d.bind s x)) (fun Z v w S h => by rw [TabD.bind_t hb4]; exact h) rfl ?_
    refine t_sub (fs' := [.own 0 (.val v) (Tab 152 VP.str (d.bind s x)), .is (.tmp 0) (VP.ptr v), .is (.tmp 1) (VP.str s), .is (.tmp 2) (VP.str x), .is (.tmp 6) (VP.int .i64 13)]) [0, 1, 2, 3, 4] rfl ?_
    refine t_ret ?_
    refine rt_then ?_
    exact rt_post [HA.of (VP.int .i64 (d.bindE s))] [[]] [0] [0] rfl ⟨(rv_eq (congrArg HA.of (congrArg (VP.int .i64) (TabD.bindE_t hb4).symm)) (rv_vp 4 rfl)), trivial⟩ (by decide) rfl rfl
  · refine t_skip ?_
    refine nx_then ?_
    refine t_seq ?_
    refine t_region (F := ⟨_, _, _, _, _, _⟩) [.own 0 (.val v) (HA.cells 152 [HA.of (VP.eq u1 true true), HA.of (VP.eq u2 true true), HA.of (VP.eq u3 true true)]), .own 103 (.val u3) (HA.row 3 1 d.levels.length ((d.levels.flatMap cNat).map HA.of)), .own 102 (.val u2) (HA.row 9 1 d.names.length ((d.names.flatMap cStr).map HA.of)), .is (.tmp 0) (VP.ptr v), .is (.tmp 1) (VP.str s), .is (.tmp 2) (VP.str x), .is (.tmp 6) (VP.int .i64 0), .is (.tmp 18) (VP.bool ((mfind mkStr s d.told).isSome))] [(6, .own 101 (.val u1) (HA.map mkStr (mEnt VP.str d.told)))] [(0, .is (.tmp 19) (VP.ptr v)), (1, .is (.tmp 20) (VP.ptr v)), (2, .pt 21 (.blk (.val v) 0)), (3, .is (.tmp 22) (VP.eq u1 true true)), (4, .is (.tmp 23) (VP.str s)), (5, .is (.tmp 24) (VP.str x)), (6, .own 101 (.val u1) (HA.map mkStr (mEnt VP.str (mput mkStr s x d.told))))] [] [0, 1, 2, 4, 5, 6, 7, 8] [3] [[], [0], [0, 1], [0, 1, 2], [], [], [0, 1, 2, 3, 4, 5]] [[1, 2, 3, 6], [2, 3, 6], [3, 6], [6], [6], [6], []] rfl rfl follow rfl ⟨
      .inl ⟨wants_plain rfl, does_move _ (.inl rfl) rfl rfl rfl rfl (ar_tmp (av_fs 3 rfl))⟩,
      .inl ⟨wants_plain rfl, does_nil _ rfl rfl rfl rfl rfl (ar_tmp (av_rs 0 0 rfl rfl))⟩,
      .inl ⟨wants_plain rfl, does_field _ _ _ 0 ScopeS_f_scope_Table_string__0 rfl rfl rfl rfl rfl rfl (pt_ptr (ar_tmp (av_rs 1 1 rfl rfl)))⟩,
      .inl ⟨wants_plain rfl, does_loadOne _ ScopeS_one_map_string_string rfl rfl rfl rfl rfl (pt_pt (av_rs 2 2 rfl rfl)) (rds_box (off := 0) (av_fs 0 rfl) (hq_one rfl))⟩,
      .inl ⟨wants_plain rfl, does_move _ (.inl rfl) rfl rfl rfl rfl (ar_tmp (av_fs 4 rfl))⟩,
      .inl ⟨wants_plain rfl, does_move _ (.inl rfl) rfl rfl rfl rfl (ar_tmp (av_fs 5 rfl))⟩,
      .inl ⟨wants_plain rfl, does_mapPut (K := mkStr) s (R := HA.of (VP.str x)) _ _ _ Try.underlying150 Try.underlying9 rfl rfl rfl rfl (mput_ent _ _ _ _ _) rfl (av_os 0 6 rfl rfl) (ar_tmp (av_rs 3 3 rfl rfl)) (key_str (ar_tmp (av_rs 4 4 rfl rfl))) (mv_vp (ar_tmp (av_rs 5 5 rfl rfl)))⟩,
      trivial⟩ ?_
    refine nx_sub (fs' := [.own 0 (.val v) (HA.cells 152 [HA.of (VP.eq u1 true true), HA.of (VP.eq u2 true true), HA.of (VP.eq u3 true true)]), .own 103 (.val u3) (HA.row 3 1 d.levels.length ((d.levels.flatMap cNat).map HA.of)), .own 102 (.val u2) (HA.row 9 1 d.names.length ((d.names.flatMap cStr).map HA.of)), .is (.tmp 0) (VP.ptr v), .is (.tmp 1) (VP.str s), .is (.tmp 6) (VP.int .i64 0), .own 101 (.val u1) (HA.map mkStr (mEnt VP.str (mput mkStr s x d.told)))]) [0, 1, 2, 3, 4, 6, 14] rfl ?_
    refine nx_then ?_
    refine t_seq ?_
    refine t_region (F := ⟨_, _, _, _, _, _⟩) [.own 103 (.val u3) (HA.row 3 1 d.levels.length ((d.levels.flatMap cNat).map HA.of)), .is (.tmp 0) (VP.ptr v), .is (.tmp 1) (VP.str s), .is (.tmp 6) (VP.int .i64 0), .own 101 (.val u1) (HA.map mkStr (mEnt VP.str (mput mkStr s x d.told)))] [(10, .own 0 (.val v) (HA.cells 152 [HA.of (VP.eq u1 true true), HA.of (VP.eq u2 true true), HA.of (VP.eq u3 true true)])), (7, .own 102 (.val u2) (HA.row 9 1 d.names.length ((d.names.flatMap cStr).map HA.of)))] [(0, .is (.tmp 25) (VP.ptr v)), (1, .is (.tmp 26) (VP.ptr v)), (2, .is (.tmp 27) (VP.ptr v)), (3, .pt 28 (.blk (.val v) 1)), (4, .is (.tmp 29) (VP.eq u2 true true)), (5, .is (.tmp 30) (VP.str s)), (8, .is (.tmp 33) (VP.ptr v)), (9, .pt 34 (.blk (.val v) 1)), (10, .own 0 (.val v) (HA.cells 152 [HA.of (VP.eq u1 true true), HA.row 9 1 ((d.names ++ [s]).length) (((d.names ++ [s]).flatMap cStr).map HA.of), HA.of (VP.eq u3 true true)]))] [(6, 7, .own 104 (.tmp 31) (HA.row 9 1 (([s]).length) ((([s]).flatMap cStr).map HA.of))), (7, 10, .own 102 (.tmp 32) (HA.row 9 1 ((d.names ++ [s]).length) (((d.names ++ [s]).flatMap cStr).map HA.of)))] [1, 3, 4, 5, 6] [0, 2] [[], [], [1], [1, 2], [1, 2, 3], [], [5], [1, 2, 3, 4, 5, 6], [0, 1, 2, 3, 4, 5, 6, 7], [0, 1, 2, 3, 4, 5, 6, 7, 8], [0, 1, 2, 3, 4, 5, 6, 7, 8, 9]] [[8, 9, 10], [2, 3, 4, 7, 8, 9, 10], [3, 4, 7, 8, 9, 10], [4, 7, 8, 9, 10], [7, 8, 9, 10], [6, 7, 8, 9, 10], [7, 8, 9, 10], [8, 9, 10], [9, 10], [10], []] rfl rfl follow rfl ⟨
      .inl ⟨wants_plain rfl, does_move _ (.inl rfl) rfl rfl rfl rfl (ar_tmp (av_fs 1 rfl))⟩,
      .inl ⟨wants_plain rfl, does_move _ (.inl rfl) rfl rfl rfl rfl (ar_tmp (av_fs 1 rfl))⟩,
      .inl ⟨wants_plain rfl, does_nil _ rfl rfl rfl rfl rfl (ar_tmp (av_rs 1 1 rfl rfl))⟩,
      .inl ⟨wants_plain rfl, does_field _ _ _ 1 ScopeS_f_scope_Table_string__1 rfl rfl rfl rfl rfl rfl (pt_ptr (ar_tmp (av_rs 2 2 rfl rfl)))⟩,
      .inl ⟨wants_plain rfl, does_loadOne _ ScopeS_one___string rfl rfl rfl rfl rfl (pt_pt (av_rs 3 3 rfl rfl)) (rds_box (off := 1) (av_os 0 10 rfl rfl) (hq_one rfl))⟩,
      .inl ⟨wants_plain rfl, does_move _ (.inl rfl) rfl rfl rfl rfl (ar_tmp (av_fs 2 rfl))⟩,
      .inl ⟨wants_plain rfl, does_sliceLit (n := 1) ScopeS_el_str rfl (List.replicate 1 (VP.str (ByteArray.mk #[]))) (z1_of (fun _ _ => rfl) rfl 1) rfl rfl rfl rfl rfl rfl rfl (.cons 0 [HA.of (VP.str s)] none rfl rfl (cv_one rfl (mv_vp (ar_tmp (av_rs 5 5 rfl rfl)))) (.nil _))⟩,
      .inl ⟨wants_plain rfl, does_append (n := d.names.length) (m := ([s]).length) ScopeS_el_str rfl _ _ rfl rfl rfl rfl rfl (by simp only [List.length_append, List.length_nil, List.length_cons, Nat.zero_add]) (flat_cat d.names ([s])) rfl (by constructor <;> first | decide | omega | (simp only [List.length_append, List.length_cons, List.length_nil] at *; omega)) (flat_lenH cStr_len _) (flat_allH (fun _ => rfl) cStr_one _) (flat_allH (fun _ => rfl) cStr_nu _) (mv_ownv (av_os 1 7 rfl rfl) (ar_tmp (av_rs 4 4 rfl rfl))) (src_row (av_ms 0 6 7 rfl rfl rfl))⟩,
      .inl ⟨wants_plain rfl, does_nil _ rfl rfl rfl rfl rfl (ar_tmp (av_rs 0 0 rfl rfl))⟩,
      .inl ⟨wants_plain rfl, does_field _ _ _ 1 ScopeS_f_scope_Table_string__1 rfl rfl rfl rfl rfl rfl (pt_ptr (ar_tmp (av_rs 6 8 rfl rfl)))⟩,
      .inl ⟨wants_plain rfl, does_store (off := 1) (Qs := [HA.row 9 1 ((d.names ++ [s]).length) (((d.names ++ [s]).flatMap cStr).map HA.of)]) _ _ ScopeS_size___string rfl rfl rfl rfl rfl rfl (pt_pt (av_rs 7 9 rfl rfl)) (av_os 0 10 rfl rfl) (cv_one rfl (mv_own (av_ms 1 7 10 rfl rfl rfl)))⟩,
      trivial⟩ ?_
    refine nx_sub (fs' := [.own 103 (.val u3) (HA.row 3 1 d.levels.length ((d.levels.flatMap cNat).map HA.of)), .is (.tmp 6) (VP.int .i64 0), .own 101 (.val u1) (HA.map mkStr (mEnt VP.str (mput mkStr s x d.told))), .own 0 (.val v) (HA.cells 152 [HA.of (VP.eq u1 true true), HA.row 9 1 ((d.names ++ [s]).length) (((d.names ++ [s]).flatMap cStr).map HA.of), HA.of (VP.eq u3 true true)])]) [0, 3, 4, 13] rfl ?_
    refine nx_then ?_
    refine t_seq ?_
    refine t_region (F := ⟨_, _, _, _, _, _⟩) [.own 103 (.val u3) (HA.row 3 1 d.levels.length ((d.levels.flatMap cNat).map HA.of)), .own 101 (.val u1) (HA.map mkStr (mEnt VP.str (mput mkStr s x d.told))), .own 0 (.val v) (HA.cells 152 [HA.of (VP.eq u1 true true), HA.row 9 1 ((d.names ++ [s]).length) (((d.names ++ [s]).flatMap cStr).map HA.of), HA.of (VP.eq u3 true true)])] [(0, .is (.tmp 6) (VP.int .i64 0))] [(0, .is (.tmp 6) (VP.int .i64 0))] [] [0, 2, 3] [1] [[]] [[]] rfl rfl follow rfl ⟨
      .inl ⟨wants_plain rfl, does_move _ (.inr rfl) rfl rfl rfl rfl (ar_const (fun _ _ => rfl))⟩,
      trivial⟩ ?_
    refine nx_sub (fs' := [.own 103 (.val u3) (HA.row 3 1 d.levels.length ((d.levels.flatMap cNat).map HA.of)), .own 101 (.val u1) (HA.map mkStr (mEnt VP.str (mput mkStr s x d.told))), .own 0 (.val v) (HA.cells 152 [HA.of (VP.eq u1 true true), HA.row 9 1 ((d.names ++ [s]).length) (((d.names ++ [s]).flatMap cStr).map HA.of), HA.of (VP.eq u3 true true)]), .is (.tmp 6) (VP.int .i64 0)]) [0, 1, 2, 3] rfl ?_
    refine nx_then ?_
    refine t_sub (fs' := [.own 0 (.val v) (HA.cells 152 [HA.of (VP.eq u1 true true), HA.row 9 1 ((d.names ++ [s]).length) (((d.names ++ [s]).flatMap cStr).map HA.of), HA.of (VP.eq u3 true true)]), .own 101 (.val u1) (HA.map mkStr (mEnt VP.str (mput mkStr s x d.told))), .own 103 (.val u3) (HA.row 3 1 d.levels.length ((d.levels.flatMap cNat).map HA.of)), .is (.tmp 6) (VP.int .i64 0)]) [2, 1, 0, 3] rfl ?_
    refine t_whole (whole_cells (T' := 152) (Rs := [HA.of (VP.eq u1 true true), HA.row 9 1 ((d.names ++ [s]).length) (((d.names ++ [s]).flatMap cStr).map HA.of), HA.of (VP.eq u3 true true)]) (j := 0) (show 0 < 3 by decide)) rfl rfl ?_
    refine t_sub (fs' := [.own 0 (.val v) (HA.cells 152 [HA.map mkStr (mEnt VP.str (mput mkStr s x d.told)), HA.row 9 1 ((d.names ++ [s]).length) (((d.names ++ [s]).flatMap cStr).map HA.of), HA.of (VP.eq u3 true true)]), .own 103 (.val u3) (HA.row 3 1 d.levels.length ((d.levels.flatMap cNat).map HA.of)), .is (.tmp 6) (VP.int .i64 0)]) [0, 1, 2] rfl ?_
    refine t_sub (fs' := [.own 0 (.val v) (HA.cells 152 [HA.map mkStr (mEnt VP.str (mput mkStr s x d.told)), HA.row 9 1 ((d.names ++ [s]).length) (((d.names ++ [s]).flatMap cStr).map HA.of), HA.of (VP.eq u3 true true)]), .own 103 (.val u3) (HA.row 3 1 d.levels.length ((d.levels.flatMap cNat).map HA.of)), .is (.tmp 6) (VP.int .i64 0)]) [0, 1, 2] rfl ?_
    refine t_whole (whole_cells (T' := 152) (Rs := [HA.map mkStr (mEnt VP.str (mput mkStr s x d.told)), HA.row 9 1 ((d.names ++ [s]).length) (((d.names ++ [s]).flatMap cStr).map HA.of), HA.of (VP.eq u3 true true)]) (j := 2) (show 2 < 3 by decide)) rfl rfl ?_
    refine t_sub (fs' := [.own 0 (.val v) (HA.cells 152 [HA.map mkStr (mEnt VP.str (mput mkStr s x d.told)), HA.row 9 1 ((d.names ++ [s]).length) (((d.names ++ [s]).flatMap cStr).map HA.of), HA.row 3 1 d.levels.length ((d.levels.flatMap cNat).map HA.of)]), .is (.tmp 6) (VP.int .i64 0)]) [0, 1] rfl ?_
    refine t_sub (fs' := [.own 0 (.val v) (HA.cells 152 [HA.map mkStr (mEnt VP.str (mput mkStr s x d.told)), HA.row 9 1 ((d.names ++ [s]).length) (((d.names ++ [s]).flatMap cStr).map HA.of), HA.row 3 1 d.levels.length ((d.levels.flatMap cNat).map HA.of)]), .is (.tmp 6) (VP.int .i64 0)]) [0, 1] rfl ?_
    refine t_sub (fs' := [.own 0 (.val v) (HA.cells 152 [HA.map mkStr (mEnt VP.str (mput mkStr s x d.told)), HA.row 9 1 ((d.names ++ [s]).length) (((d.names ++ [s]).flatMap cStr).map HA.of), HA.row 3 1 d.levels.length ((d.levels.flatMap cNat).map HA.of)]), .is (.tmp 6) (VP.int .i64 0)]) [0, 1] rfl ?_
    refine t_weak (R' := Tab 152 VP.str (d.bind s x)) (fun Z v w S h => by rw [TabD.bind_f hb4]; exact h) rfl ?_
    refine t_sub (fs' := [.own 0 (.val v) (Tab 152 VP.str (d.bind s x)), .is (.tmp 6) (VP.int .i64 0)]) [0, 1] rfl ?_
    refine t_ret ?_
    exact rt_post [HA.of (VP.int .i64 (d.bindE s))] [[]] [0] [0] rfl ⟨(rv_eq (congrArg HA.of (congrArg (VP.int .i64) (TabD.bindE_f hb4).symm)) (rv_vp 1 rfl)), trivial⟩ (by decide) rfl rfl

set_option maxRecDepth 100000 in
set_option maxHeartbeats 4000000 in
theorem sc_PushS {v : Value} {d : TabD ByteArray} (n : Int) (hn : d.names.length ≤ 1000000) (hl : d.levels.length ≤ 1000000) : SpecO Try.prog 38 [.vp (VP.ptr v), .vp (VP.int .i64 n)] [] [(v, Tab 152 VP.str d)] [(v, Tab 152 VP.str (d.push n))] (HA.of (VP.int .i64 (d.pushE n))) := by
  refine spec_of 30 Try.func38 rfl Try.ntmps38 rfl fun w0 S0 Z0 Bf => ?_
  refine t_sub (fs' := [.is (.tmp 0) (VP.ptr v), .is (.tmp 1) (VP.int .i64 n), .own 0 (.val v) (Tab 152 VP.str d)]) [0, 1, 2] rfl ?_
  refine t_sub (fs' := [.own 0 (.val v) (Tab 152 VP.str d), .is (.tmp 0) (VP.ptr v), .is (.tmp 1) (VP.int .i64 n)]) [2, 0, 1] rfl ?_
  refine t_part 101 (part_cells (T' := 152) (Rs := [HA.map mkStr (mEnt VP.str d.told), HA.row 9 1 d.names.length ((d.names.flatMap cStr).map HA.of), HA.row 3 1 d.levels.length ((d.levels.flatMap cNat).map HA.of)]) 0 rfl) rfl rfl fun u1 => ?_
  refine t_sub (fs' := [.own 0 (.val v) (HA.cells 152 [HA.of (VP.eq u1 true true), HA.row 9 1 d.names.length ((d.names.flatMap cStr).map HA.of), HA.row 3 1 d.levels.length ((d.levels.flatMap cNat).map HA.of)]), .own 101 (.val u1) (HA.map mkStr (mEnt VP.str d.told)), .is (.tmp 0) (VP.ptr v), .is (.tmp 1) (VP.int .i64 n)]) [0, 1, 2, 3] rfl ?_
  refine t_sub (fs' := [.own 0 (.val v) (HA.cells 152 [HA.of (VP.eq u1 true true), HA.row 9 1 d.names.length ((d.names.flatMap cStr).map HA.of), HA.row 3 1 d.levels.length ((d.levels.flatMap cNat).map HA.of)]), .own 101 (.val u1) (HA.map mkStr (mEnt VP.str d.told)), .is (.tmp 0) (VP.ptr v), .is (.tmp 1) (VP.int .i64 n)]) [0, 1, 2, 3] rfl ?_
  refine t_part 102 (part_cells (T' := 152) (Rs := [HA.of (VP.eq u1 true true), HA.row 9 1 d.names.length ((d.names.flatMap cStr).map HA.of), HA.row 3 1 d.levels.length ((d.levels.flatMap cNat).map HA.of)]) 1 rfl) rfl rfl fun u2 => ?_
  refine t_sub (fs' := [.own 0 (.val v) (HA.cells 152 [HA.of (VP.eq u1 true true), HA.of (VP.eq u2 true true), HA.row 3 1 d.levels.length ((d.levels.flatMap cNat).map HA.of)]), .own 102 (.val u2) (HA.row 9 1 d.names.length ((d.names.flatMap cStr).map HA.of)), .own 101 (.val u1) (HA.map mkStr (mEnt VP.str d.told)), .is (.tmp 0) (VP.ptr v), .is (.tmp 1) (VP.int .i64 n)]) [0, 1, 2, 3, 4] rfl ?_
  refine t_sub (fs' := [.own 0 (.val v) (HA.cells 152 [HA.of (VP.eq u1 true true), HA.of (VP.eq u2 true true), HA.row 3 1 d.levels.length ((d.levels.flatMap cNat).map HA.of)]), .own 102 (.val u2) (HA.row 9 1 d.names.length ((d.names.flatMap cStr).map HA.of)), .own 101 (.val u1) (HA.map mkStr (mEnt VP.str d.told)), .is (.tmp 0) (VP.ptr v), .is (.tmp 1) (VP.int .i64 n)]) [0, 1, 2, 3, 4] rfl ?_
  refine t_part 103 (part_cells (T' := 152) (Rs := [HA.of (VP.eq u1 true true), HA.of (VP.eq u2 true true), HA.row 3 1 d.levels.length ((d.levels.flatMap cNat).map HA.of)]) 2 rfl) rfl rfl fun u3 => ?_
  refine t_sub (fs' := [.own 0 (.val v) (HA.cells 152 [HA.of (VP.eq u1 true true), HA.of (VP.eq u2 true true), HA.of (VP.eq u3 true true)]), .own 103 (.val u3) (HA.row 3 1 d.levels.length ((d.levels.flatMap cNat).map HA.of)), .own 102 (.val u2) (HA.row 9 1 d.names.length ((d.names.flatMap cStr).map HA.of)), .own 101 (.val u1) (HA.map mkStr (mEnt VP.str d.told)), .is (.tmp 0) (VP.ptr v), .is (.tmp 1) (VP.int .i64 n)]) [0, 1, 2, 3, 4, 5] rfl ?_
  refine t_seq ?_
  refine t_region (F := ⟨_, _, _, _, _, _⟩) [.own 0 (.val v) (HA.cells 152 [HA.of (VP.eq u1 true true), HA.of (VP.eq u2 true true), HA.of (VP.eq u3 true true)]), .own 103 (.val u3) (HA.row 3 1 d.levels.length ((d.levels.flatMap cNat).map HA.of)), .own 102 (.val u2) (HA.row 9 1 d.names.length ((d.names.flatMap cStr).map HA.of)), .own 101 (.val u1) (HA.map mkStr (mEnt VP.str d.told)), .is (.tmp 0) (VP.ptr v), .is (.tmp 1) (VP.int .i64 n)] [] [(0, .is (.tmp 4) (VP.int .i64 0))] [] [0, 1, 2, 3, 4, 5] [] [[]] [[]] rfl rfl follow rfl ⟨
    .inl ⟨wants_plain rfl, does_move _ (.inr rfl) rfl rfl rfl rfl (ar_const (fun _ _ => rfl))⟩,
    trivial⟩ ?_
  refine nx_sub (fs' := [.own 0 (.val v) (HA.cells 152 [HA.of (VP.eq u1 true true), HA.of (VP.eq u2 true true), HA.of (VP.eq u3 true true)]), .own 103 (.val u3) (HA.row 3 1 d.levels.length ((d.levels.flatMap cNat).map HA.of)), .own 102 (.val u2) (HA.row 9 1 d.names.length ((d.names.flatMap cStr).map HA.of)), .own 101 (.val u1) (HA.map mkStr (mEnt VP.str d.told)), .is (.tmp 0) (VP.ptr v), .is (.tmp 1) (VP.int .i64 n), .is (.tmp 4) (VP.int .i64 0)]) [0, 1, 2, 3, 4, 5, 6] rfl ?_
  refine nx_then ?_
  refine t_seq ?_
  refine t_block ?_
  refine t_seq ?_
  refine t_region (F := ⟨_, _, _, _, _, _⟩) [.own 0 (.val v) (HA.cells 152 [HA.of (VP.eq u1 true true), HA.of (VP.eq u2 true true), HA.of (VP.eq u3 true true)]), .own 103 (.val u3) (HA.row 3 1 d.levels.length ((d.levels.flatMap cNat).map HA.of)), .own 102 (.val u2) (HA.row 9 1 d.names.length ((d.names.flatMap cStr).map HA.of)), .own 101 (.val u1) (HA.map mkStr (mEnt VP.str d.told)), .is (.tmp 0) (VP.ptr v), .is (.tmp 1) (VP.int .i64 n), .is (.tmp 4) (VP.int .i64 0)] [] [(0, .is (.tmp 6) (VP.int .i64 n)), (1, .is (.tmp 7) (VP.bool (decide (n < 0)))), (2, .is (.tmp 5) (VP.bool (decide (n < 0))))] [] [0, 1, 2, 3, 4, 5, 6] [] [[], [0], [0, 1]] [[1, 2], [2], []] rfl rfl follow rfl ⟨
    .inl ⟨wants_plain rfl, does_move _ (.inl rfl) rfl rfl rfl rfl (ar_tmp (av_fs 5 rfl))⟩,
    .inl ⟨wants_plain rfl, does_cmp (m := n) (n := 0) _ _ _ _ _ rfl rfl rfl rfl rfl rfl .i64 (ar_tmp (av_rs 0 0 rfl rfl)) (ar_const (fun _ _ => rfl))⟩,
    .inl ⟨wants_plain rfl, does_move _ (.inr rfl) rfl rfl rfl rfl (ar_tmp (av_rs 1 1 rfl rfl))⟩,
    trivial⟩ ?_
  refine nx_sub (fs' := [.own 0 (.val v) (HA.cells 152 [HA.of (VP.eq u1 true true), HA.of (VP.eq u2 true true), HA.of (VP.eq u3 true true)]), .own 103 (.val u3) (HA.row 3 1 d.levels.length ((d.levels.flatMap cNat).map HA.of)), .own 102 (.val u2) (HA.row 9 1 d.names.length ((d.names.flatMap cStr).map HA.of)), .own 101 (.val u1) (HA.map mkStr (mEnt VP.str d.told)), .is (.tmp 0) (VP.ptr v), .is (.tmp 1) (VP.int .i64 n), .is (.tmp 4) (VP.int .i64 0), .is (.tmp 5) (VP.bool (decide (n < 0)))]) [0, 1, 2, 3, 4, 5, 6, 9] rfl ?_
  refine nx_then ?_
  refine t_split 7 rfl (fun hb4 => ?_) (fun hb4 => ?_)
  · have hc4 := of_decide_eq_true hb4
    refine t_seq ?_
    refine t_region (F := ⟨_, _, _, _, _, _⟩) [.own 0 (.val v) (HA.cells 152 [HA.of (VP.eq u1 true true), HA.of (VP.eq u2 true true), HA.of (VP.eq u3 true true)]), .own 103 (.val u3) (HA.row 3 1 d.levels.length ((d.levels.flatMap cNat).map HA.of)), .own 102 (.val u2) (HA.row 9 1 d.names.length ((d.names.flatMap cStr).map HA.of)), .own 101 (.val u1) (HA.map mkStr (mEnt VP.str d.told)), .is (.tmp 0) (VP.ptr v), .is (.tmp 1) (VP.int .i64 n), .is (.tmp 5) (VP.bool (decide (n < 0)))] [(0, .is (.tmp 4) (VP.int .i64 0))] [(0, .is (.tmp 4) (VP.int .i64 1))] [] [0, 1, 2, 3, 4, 5, 7] [6] [[]] [[]] rfl rfl follow rfl ⟨
      .inl ⟨wants_plain rfl, does_move _ (.inr rfl) rfl rfl rfl rfl (ar_const (fun _ _ => rfl))⟩,
      trivial⟩ ?_
    refine nx_sub (fs' := [.own 0 (.val v) (HA.cells 152 [HA.of (VP.eq u1 true true), HA.of (VP.eq u2 true true), HA.of (VP.eq u3 true true)]), .own 103 (.val u3) (HA.row 3 1 d.levels.length ((d.levels.flatMap cNat).map HA.of)), .own 102 (.val u2) (HA.row 9 1 d.names.length ((d.names.flatMap cStr).map HA.of)), .own 101 (.val u1) (HA.map mkStr (mEnt VP.str d.told)), .is (.tmp 0) (VP.ptr v), .is (.tmp 1) (VP.int .i64 n), .is (.tmp 4) (VP.int .i64 1)]) [0, 1, 2, 3, 4, 5, 7] rfl ?_
    refine nx_then ?_
    refine t_sub (fs' := [.own 0 (.val v) (HA.cells 152 [HA.of (VP.eq u1 true true), HA.of (VP.eq u2 true true), HA.of (VP.eq u3 true true)]), .own 101 (.val u1) (HA.map mkStr (mEnt VP.str d.told)), .own 103 (.val u3) (HA.row 3 1 d.levels.length ((d.levels.flatMap cNat).map HA.of)), .own 102 (.val u2) (HA.row 9 1 d.names.length ((d.names.flatMap cStr).map HA.of)), .is (.tmp 0) (VP.ptr v), .is (.tmp 1) (VP.int .i64 n), .is (.tmp 4) (VP.int .i64 1)]) [0, 3, 1, 2, 4, 5, 6] rfl ?_
    refine t_whole (whole_cells (T' := 152) (Rs := [HA.of (VP.eq u1 true true), HA.of (VP.eq u2 true true), HA.of (VP.eq u3 true true)]) (j := 0) (show 0 < 3 by decide)) rfl rfl ?_
    refine t_sub (fs' := [.own 0 (.val v) (HA.cells 152 [HA.map mkStr (mEnt VP.str d.told), HA.of (VP.eq u2 true true), HA.of (VP.eq u3 true true)]), .own 103 (.val u3) (HA.row 3 1 d.levels.length ((d.levels.flatMap cNat).map HA.of)), .own 102 (.val u2) (HA.row 9 1 d.names.length ((d.names.flatMap cStr).map HA.of)), .is (.tmp 0) (VP.ptr v), .is (.tmp 1) (VP.int .i64 n), .is (.tmp 4) (VP.int .i64 1)]) [0, 1, 2, 3, 4, 5] rfl ?_
    refine t_sub (fs' := [.own 0 (.val v) (HA.cells 152 [HA.map mkStr (mEnt VP.str d.told), HA.of (VP.eq u2 true true), HA.of (VP.eq u3 true true)]), .own 102 (.val u2) (HA.row 9 1 d.names.length ((d.names.flatMap cStr).map HA.of)), .own 103 (.val u3) (HA.row 3 1 d.levels.length ((d.levels.flatMap cNat).map HA.of)), .is (.tmp 0) (VP.ptr v), .is (.tmp 1) (VP.int .i64 n), .is (.tmp 4) (VP.int .i64 1)]) [0, 2, 1, 3, 4, 5] rfl ?_
    refine t_whole (whole_cells (T' := 152) (Rs := [HA.map mkStr (mEnt VP.str d.told), HA.of (VP.eq u2 true true), HA.of (VP.eq u3 true true)]) (j := 1) (show 1 < 3 by decide)) rfl rfl ?_
    refine t_sub (fs' := [.own 0 (.val v) (HA.cells 152 [HA.map mkStr (mEnt VP.str d.told), HA.row 9 1 d.names.length ((d.names.flatMap cStr).map HA.of), HA.of (VP.eq u3 true true)]), .own 103 (.val u3) (HA.row 3 1 d.levels.length ((d.levels.flatMap cNat).map HA.of)), .is (.tmp 0) (VP.ptr v), .is (.tmp 1) (VP.int .i64 n), .is (.tmp 4) (VP.int .i64 1)]) [0, 1, 2, 3, 4] rfl ?_
    refine t_sub (fs' := [.own 0 (.val v) (HA.cells 152 [HA.map mkStr (mEnt VP.str d.told), HA.row 9 1 d.names.length ((d.names.flatMap cStr).map HA.of), HA.of (VP.eq u3 true true)]), .own 103 (.val u3) (HA.row 3 1 d.levels.length ((d.levels.flatMap cNat).map HA.of)), .is (.tmp 0) (VP.ptr v), .is (.tmp 1) (VP.int .i64 n), .is (.tmp 4) (VP.int .i64 1)]) [0, 1, 2, 3, 4] rfl ?_
    refine t_whole (whole_cells (T' := 152) (Rs := [HA.map mkStr (mEnt VP.str d.told), HA.row 9 1 d.names.length ((d.names.flatMap cStr).map HA.of), HA.of (VP.eq u3 true true)]) (j := 2) (show 2 < 3 by decide)) rfl rfl ?_
    refine t_sub (fs' := [.own 0 (.val v) (HA.cells 152 [HA.map mkStr (mEnt VP.str d.told), HA.row 9 1 d.names.length ((d.names.flatMap cStr).map HA.of), HA.row 3 1 d.levels.length ((d.levels.flatMap cNat).map HA.of)]), .is (.tmp 0) (VP.ptr v), .is (.tmp 1) (VP.int .i64 n), .is (.tmp 4) (VP.int .i64 1)]) [0, 1, 2, 3] rfl ?_
    refine t_sub (fs' := [.own 0 (.val v) (HA.cells 152 [HA.map mkStr (mEnt VP.str d.told), HA.row 9 1 d.names.length ((d.names.flatMap cStr).map HA.of), HA.row 3 1 d.levels.length ((d.levels.flatMap cNat).map HA.of)]), .is (.tmp 0) (VP.ptr v), .is (.tmp 1) (VP.int .i64 n), .is (.tmp 4) (VP.int .i64 1)]) [0, 1, 2, 3] rfl ?_
    refine t_sub (fs' := [.own 0 (.val v) (HA.cells 152 [HA.map mkStr (mEnt VP.str d.told), HA.row 9 1 d.names.length ((d.names.flatMap cStr).map HA.of), HA.row 3 1 d.levels.length ((d.levels.flatMap cNat).map HA.of)]), .is (.tmp 0) (VP.ptr v), .is (.tmp 1) (VP.int .i64 n), .is (.tmp 4) (VP.int .i64 1)]) [0, 1, 2, 3] rfl ?_
    refine t_weak (R' := Tab 152 VP.str (d.push n)) (fun Z v w S h => by rw [show d.push n = d from if_neg (by omega)]; exact h) rfl ?_
    refine t_sub (fs' := [.own 0 (.val v) (Tab 152 VP.str (d.push n)), .is (.tmp 0) (VP.ptr v), .is (.tmp 1) (VP.int .i64 n), .is (.tmp 4) (VP.int .i64 1)]) [0, 1, 2, 3] rfl ?_
    refine t_ret ?_
    refine rt_block ?_
    refine rt_then ?_
    exact rt_post [HA.of (VP.int .i64 (d.pushE n))] [[]] [0] [0] rfl ⟨(rv_eq (congrArg HA.of (congrArg (VP.int .i64) (show (1 : Int) = d.pushE n from Eq.symm (if_pos (by omega))))) (rv_vp 3 rfl)), trivial⟩ (by decide) rfl rfl
  · have hc4 := of_decide_eq_false hb4
    refine t_seq ?_
    refine t_region (F := ⟨_, _, _, _, _, _⟩) [.own 0 (.val v) (HA.cells 152 [HA.of (VP.eq u1 true true), HA.of (VP.eq u2 true true), HA.of (VP.eq u3 true true)]), .own 103 (.val u3) (HA.row 3 1 d.levels.length ((d.levels.flatMap cNat).map HA.of)), .own 102 (.val u2) (HA.row 9 1 d.names.length ((d.names.flatMap cStr).map HA.of)), .own 101 (.val u1) (HA.map mkStr (mEnt VP.str d.told)), .is (.tmp 0) (VP.ptr v), .is (.tmp 1) (VP.int .i64 n), .is (.tmp 4) (VP.int .i64 0), .is (.tmp 5) (VP.bool (decide (n < 0)))] [] [(0, .is (.tmp 9) (VP.int .i64 n)), (1, .is (.tmp 10) (VP.ptr v)), (2, .is (.tmp 11) (VP.int .i64 ((d.levels.length : Nat) : Int))), (3, .is (.tmp 12) (VP.int .i64 (1000 - ((d.levels.length : Nat) : Int)))), (4, .is (.tmp 13) (VP.bool (decide (n > (1000 - ((d.levels.length : Nat) : Int)))))), (5, .is (.tmp 8) (VP.bool (decide (n > (1000 - ((d.levels.length : Nat) : Int))))))] [] [0, 1, 2, 3, 4, 5, 6, 7] [] [[], [], [1], [1, 2], [0, 1, 2, 3], [0, 1, 2, 3, 4]] [[4, 5], [2, 3, 4, 5], [3, 4, 5], [4, 5], [5], []] rfl rfl follow rfl ⟨
      .inl ⟨wants_plain rfl, does_move _ (.inl rfl) rfl rfl rfl rfl (ar_tmp (av_fs 5 rfl))⟩,
      .inl ⟨wants_plain rfl, does_move _ (.inl rfl) rfl rfl rfl rfl (ar_tmp (av_fs 4 rfl))⟩,
      .inl ⟨wants_plain rfl, does_call (sc_LevelsS_o (v := v) (l := u3) (ls := d.levels) (A := HA.of (VP.eq u1 true true)) (B := HA.of (VP.eq u2 true true))) (fun _ _ _ _ h => h) rfl ScopeS_hb___collator_scope_Table_string___Levels rfl rfl rfl rfl ar_clo (ars_cons (pa_vp (ar_tmp (av_rs 1 1 rfl rfl))) ars_nil) ⟨(brw_own (av_fs 0 rfl) rfl), (brw_own (av_fs 1 rfl) rfl), trivial⟩⟩,
      .inl ⟨wants_plain rfl, does_subE (m := 1000) (n := ((d.levels.length : Nat) : Int)) (x := (1000 - ((d.levels.length : Nat) : Int))) (by omega) _ _ _ _ rfl rfl rfl rfl rfl (by omega) (ar_const (fun _ _ => rfl)) (ar_tmp (av_rs 2 2 rfl rfl))⟩,
      .inl ⟨wants_plain rfl, does_cmp (m := n) (n := (1000 - ((d.levels.length : Nat) : Int))) _ _ _ _ _ rfl rfl rfl rfl rfl rfl .i64 (ar_tmp (av_rs 0 0 rfl rfl)) (ar_tmp (av_rs 3 3 rfl rfl))⟩,
      .inl ⟨wants_plain rfl, does_move _ (.inr rfl) rfl rfl rfl rfl (ar_tmp (av_rs 4 4 rfl rfl))⟩,
      trivial⟩ ?_
    refine nx_sub (fs' := [.own 0 (.val v) (HA.cells 152 [HA.of (VP.eq u1 true true), HA.of (VP.eq u2 true true), HA.of (VP.eq u3 true true)]), .own 103 (.val u3) (HA.row 3 1 d.levels.length ((d.levels.flatMap cNat).map HA.of)), .own 102 (.val u2) (HA.row 9 1 d.names.length ((d.names.flatMap cStr).map HA.of)), .own 101 (.val u1) (HA.map mkStr (mEnt VP.str d.told)), .is (.tmp 0) (VP.ptr v), .is (.tmp 1) (VP.int .i64 n), .is (.tmp 4) (VP.int .i64 0), .is (.tmp 8) (VP.bool (decide (n > (1000 - ((d.levels.length : Nat) : Int)))))]) [0, 1, 2, 3, 4, 5, 6, 13] rfl ?_
    refine nx_then ?_
    refine t_split 7 rfl (fun hb5 => ?_) (fun hb5 => ?_)
    · have hc5 := of_decide_eq_true hb5
      refine t_seq ?_
      refine t_region (F := ⟨_, _, _, _, _, _⟩) [.own 0 (.val v) (HA.cells 152 [HA.of (VP.eq u1 true true), HA.of (VP.eq u2 true true), HA.of (VP.eq u3 true true)]), .own 103 (.val u3) (HA.row 3 1 d.levels.length ((d.levels.flatMap cNat).map HA.of)), .own 102 (.val u2) (HA.row 9 1 d.names.length ((d.names.flatMap cStr).map HA.of)), .own 101 (.val u1) (HA.map mkStr (mEnt VP.str d.told)), .is (.tmp 0) (VP.ptr v), .is (.tmp 1) (VP.int .i64 n), .is (.tmp 8) (VP.bool (decide (n > (1000 - ((d.levels.length : Nat) : Int)))))] [(0, .is (.tmp 4) (VP.int .i64 0))] [(0, .is (.tmp 4) (VP.int .i64 4))] [] [0, 1, 2, 3, 4, 5, 7] [6] [[]] [[]] rfl rfl follow rfl ⟨
        .inl ⟨wants_plain rfl, does_move _ (.inr rfl) rfl rfl rfl rfl (ar_const (fun _ _ => rfl))⟩,
        trivial⟩ ?_
      refine nx_sub (fs' := [.own 0 (.val v) (HA.cells 152 [HA.of (VP.eq u1 true true), HA.of (VP.eq u2 true true), HA.of (VP.eq u3 true true)]), .own 103 (.val u3) (HA.row 3 1 d.levels.length ((d.levels.flatMap cNat).map HA.of)), .own 102 (.val u2) (HA.row 9 1 d.names.length ((d.names.flatMap cStr).map HA.of)), .own 101 (.val u1) (HA.map mkStr (mEnt VP.str d.told)), .is (.tmp 0) (VP.ptr v), .is (.tmp 1) (VP.int .i64 n), .is (.tmp 4) (VP.int .i64 4)]) [0, 1, 2, 3, 4, 5, 7] rfl ?_
      refine nx_then ?_
      refine t_sub (fs' := [.own 0 (.val v) (HA.cells 152 [HA.of (VP.eq u1 true true), HA.of (VP.eq u2 true true), HA.of (VP.eq u3 true true)]), .own 101 (.val u1) (HA.map mkStr (mEnt VP.str d.told)), .own 103 (.val u3) (HA.row 3 1 d.levels.length ((d.levels.flatMap cNat).map HA.of)), .own 102 (.val u2) (HA.row 9 1 d.names.length ((d.names.flatMap cStr).map HA.of)), .is (.tmp 0) (VP.ptr v), .is (.tmp 1) (VP.int .i64 n), .is (.tmp 4) (VP.int .i64 4)]) [0, 3, 1, 2, 4, 5, 6] rfl ?_
      refine t_whole (whole_cells (T' := 152) (Rs := [HA.of (VP.eq u1 true true), HA.of (VP.eq u2 true true), HA.of (VP.eq u3 true true)]) (j := 0) (show 0 < 3 by decide)) rfl rfl ?_
      refine t_sub (fs' := [.own 0 (.val v) (HA.cells 152 [HA.map mkStr (mEnt VP.str d.told), HA.of (VP.eq u2 true true), HA.of (VP.eq u3 true true)]), .own 103 (.val u3) (HA.row 3 1 d.levels.length ((d.levels.flatMap cNat).map HA.of)), .own 102 (.val u2) (HA.row 9 1 d.names.length ((d.names.flatMap cStr).map HA.of)), .is (.tmp 0) (VP.ptr v), .is (.tmp 1) (VP.int .i64 n), .is (.tmp 4) (VP.int .i64 4)]) [0, 1, 2, 3, 4, 5] rfl ?_
      refine t_sub (fs' := [.own 0 (.val v) (HA.cells 152 [HA.map mkStr (mEnt VP.str d.told), HA.of (VP.eq u2 true true), HA.of (VP.eq u3 true true)]), .own 102 (.val u2) (HA.row 9 1 d.names.length ((d.names.flatMap cStr).map HA.of)), .own 103 (.val u3) (HA.row 3 1 d.levels.length ((d.levels.flatMap cNat).map HA.of)), .is (.tmp 0) (VP.ptr v), .is (.tmp 1) (VP.int .i64 n), .is (.tmp 4) (VP.int .i64 4)]) [0, 2, 1, 3, 4, 5] rfl ?_
      refine t_whole (whole_cells (T' := 152) (Rs := [HA.map mkStr (mEnt VP.str d.told), HA.of (VP.eq u2 true true), HA.of (VP.eq u3 true true)]) (j := 1) (show 1 < 3 by decide)) rfl rfl ?_
      refine t_sub (fs' := [.own 0 (.val v) (HA.cells 152 [HA.map mkStr (mEnt VP.str d.told), HA.row 9 1 d.names.length ((d.names.flatMap cStr).map HA.of), HA.of (VP.eq u3 true true)]), .own 103 (.val u3) (HA.row 3 1 d.levels.length ((d.levels.flatMap cNat).map HA.of)), .is (.tmp 0) (VP.ptr v), .is (.tmp 1) (VP.int .i64 n), .is (.tmp 4) (VP.int .i64 4)]) [0, 1, 2, 3, 4] rfl ?_
      refine t_sub (fs' := [.own 0 (.val v) (HA.cells 152 [HA.map mkStr (mEnt VP.str d.told), HA.row 9 1 d.names.length ((d.names.flatMap cStr).map HA.of), HA.of (VP.eq u3 true true)]), .own 103 (.val u3) (HA.row 3 1 d.levels.length ((d.levels.flatMap cNat).map HA.of)), .is (.tmp 0) (VP.ptr v), .is (.tmp 1) (VP.int .i64 n), .is (.tmp 4) (VP.int .i64 4)]) [0, 1, 2, 3, 4] rfl ?_
      refine t_whole (whole_cells (T' := 152) (Rs := [HA.map mkStr (mEnt VP.str d.told), HA.row 9 1 d.names.length ((d.names.flatMap cStr).map HA.of), HA.of (VP.eq u3 true true)]) (j := 2) (show 2 < 3 by decide)) rfl rfl ?_
      refine t_sub (fs' := [.own 0 (.val v) (HA.cells 152 [HA.map mkStr (mEnt VP.str d.told), HA.row 9 1 d.names.length ((d.names.flatMap cStr).map HA.of), HA.row 3 1 d.levels.length ((d.levels.flatMap cNat).map HA.of)]), .is (.tmp 0) (VP.ptr v), .is (.tmp 1) (VP.int .i64 n), .is (.tmp 4) (VP.int .i64 4)]) [0, 1, 2, 3] rfl ?_
      refine t_sub (fs' := [.own 0 (.val v) (HA.cells 152 [HA.map mkStr (mEnt VP.str d.told), HA.row 9 1 d.names.length ((d.names.flatMap cStr).map HA.of), HA.row 3 1 d.levels.length ((d.levels.flatMap cNat).map HA.of)]), .is (.tmp 0) (VP.ptr v), .is (.tmp 1) (VP.int .i64 n), .is (.tmp 4) (VP.int .i64 4)]) [0, 1, 2, 3] rfl ?_
      refine t_sub (fs' := [.own 0 (.val v) (HA.cells 152 [HA.map mkStr (mEnt VP.str d.told), HA.row 9 1 d.names.length ((d.names.flatMap cStr).map HA.of), HA.row 3 1 d.levels.length ((d.levels.flatMap cNat).map HA.of)]), .is (.tmp 0) (VP.ptr v), .is (.tmp 1) (VP.int .i64 n), .is (.tmp 4) (VP.int .i64 4)]) [0, 1, 2, 3] rfl ?_
      refine t_weak (R' := Tab 152 VP.str (d.push n)) (fun Z v w S h => by rw [show d.push n = d from if_neg (by omega)]; exact h) rfl ?_
      refine t_sub (fs' := [.own 0 (.val v) (Tab 152 VP.str (d.push n)), .is (.tmp 0) (VP.ptr v), .is (.tmp 1) (VP.int .i64 n), .is (.tmp 4) (VP.int .i64 4)]) [0, 1, 2, 3] rfl ?_
      refine t_ret ?_
      refine rt_block ?_
      refine rt_then ?_
      exact rt_post [HA.of (VP.int .i64 (d.pushE n))] [[]] [0] [0] rfl ⟨(rv_eq (congrArg HA.of (congrArg (VP.int .i64) (show (4 : Int) = d.pushE n from Eq.symm ((if_neg (by omega)).trans (if_pos (by omega)))))) (rv_vp 3 rfl)), trivial⟩ (by decide) rfl rfl
    · have hc5 := of_decide_eq_false hb5
      refine t_skip ?_
      refine nx_block ?_
      refine nx_then ?_
      refine t_seq ?_
      refine t_region (F := ⟨_, _, _, _, _, _⟩) [.own 102 (.val u2) (HA.row 9 1 d.names.length ((d.names.flatMap cStr).map HA.of)), .own 101 (.val u1) (HA.map mkStr (mEnt VP.str d.told)), .is (.tmp 0) (VP.ptr v), .is (.tmp 1) (VP.int .i64 n), .is (.tmp 4) (VP.int .i64 0), .is (.tmp 8) (VP.bool (decide (n > (1000 - ((d.levels.length : Nat) : Int)))))] [(16, .own 0 (.val v) (HA.cells 152 [HA.of (VP.eq u1 true true), HA.of (VP.eq u2 true true), HA.of (VP.eq u3 true true)])), (13, .own 103 (.val u3) (HA.row 3 1 d.levels.length ((d.levels.flatMap cNat).map HA.of)))] [(0, .is (.tmp 14) (VP.ptr v)), (1, .is (.tmp 15) (VP.ptr v)), (2, .is (.tmp 16) (VP.ptr v)), (3, .pt 17 (.blk (.val v) 2)), (4, .is (.tmp 18) (VP.eq u3 true true)), (5, .is (.tmp 19) (VP.ptr v)), (6, .is (.tmp 20) (VP.ptr v)), (7, .pt 21 (.blk (.val v) 1)), (8, .is (.tmp 22) (VP.eq u2 true true)), (9, .is (.tmp 23) (VP.int .i64 ((d.names.length : Nat) : Int))), (10, .own 104 (.tmp 24) (HA.row 3 1 (([d.names.length]).length) ((([d.names.length]).flatMap cNat).map HA.of))), (11, .is (.tmp 25) (VP.int .i64 n)), (14, .is (.tmp 28) (VP.ptr v)), (15, .pt 29 (.blk (.val v) 2)), (16, .own 0 (.val v) (HA.cells 152 [HA.of (VP.eq u1 true true), HA.of (VP.eq u2 true true), HA.row 3 1 ((d.levels ++ (List.replicate n.toNat d.names.length)).length) (((d.levels ++ (List.replicate n.toNat d.names.length)).flatMap cNat).map HA.of)]))] [(12, 13, .own 105 (.tmp 26) (HA.row 3 1 ((List.replicate n.toNat d.names.length).length) (((List.replicate n.toNat d.names.length).flatMap cNat).map HA.of))), (13, 16, .own 103 (.tmp 27) (HA.row 3 1 ((d.levels ++ (List.replicate n.toNat d.names.length)).length) (((d.levels ++ (List.replicate n.toNat d.names.length)).flatMap cNat).map HA.of)))] [2, 3, 4, 5, 6, 7] [0, 1] [[], [], [1], [1, 2], [1, 2, 3], [], [5], [5, 6], [5, 6, 7], [5, 6, 7, 8], [5, 6, 7, 8, 9], [], [5, 6, 7, 8, 9, 10, 11], [1, 2, 3, 4, 5, 6, 7, 8, 9, 10, 11, 12], [0, 1, 2, 3, 4, 5, 6, 7, 8, 9, 10, 11, 12, 13], [0, 1, 2, 3, 4, 5, 6, 7, 8, 9, 10, 11, 12, 13, 14], [0, 1, 2, 3, 4, 5, 6, 7, 8, 9, 10, 11, 12, 13, 14, 15]] [[14, 15, 16], [2, 3, 4, 13, 14, 15, 16], [3, 4, 13, 14, 15, 16], [4, 13, 14, 15, 16], [13, 14, 15, 16], [6, 7, 8, 9, 10, 12, 13, 14, 15, 16], [7, 8, 9, 10, 12, 13, 14, 15, 16], [8, 9, 10, 12, 13, 14, 15, 16], [9, 10, 12, 13, 14, 15, 16], [10, 12, 13, 14, 15, 16], [12, 13, 14, 15, 16], [12, 13, 14, 15, 16], [13, 14, 15, 16], [14, 15, 16], [15, 16], [16], []] rfl rfl follow rfl ⟨
        .inl ⟨wants_plain rfl, does_move _ (.inl rfl) rfl rfl rfl rfl (ar_tmp (av_fs 2 rfl))⟩,
        .inl ⟨wants_plain rfl, does_move _ (.inl rfl) rfl rfl rfl rfl (ar_tmp (av_fs 2 rfl))⟩,
        .inl ⟨wants_plain rfl, does_nil _ rfl rfl rfl rfl rfl (ar_tmp (av_rs 1 1 rfl rfl))⟩,
        .inl ⟨wants_plain rfl, does_field _ _ _ 2 ScopeS_f_scope_Table_string__2 rfl rfl rfl rfl rfl rfl (pt_ptr (ar_tmp (av_rs 2 2 rfl rfl)))⟩,
        .inl ⟨wants_plain rfl, does_loadOne _ ScopeS_one___int rfl rfl rfl rfl rfl (pt_pt (av_rs 3 3 rfl rfl)) (rds_box (off := 2) (av_os 0 16 rfl rfl) (hq_one rfl))⟩,
        .inl ⟨wants_plain rfl, does_move _ (.inl rfl) rfl rfl rfl rfl (ar_tmp (av_fs 2 rfl))⟩,
        .inl ⟨wants_plain rfl, does_nil _ rfl rfl rfl rfl rfl (ar_tmp (av_rs 5 5 rfl rfl))⟩,
        .inl ⟨wants_plain rfl, does_field _ _ _ 1 ScopeS_f_scope_Table_string__1 rfl rfl rfl rfl rfl rfl (pt_ptr (ar_tmp (av_rs 6 6 rfl rfl)))⟩,
        .inl ⟨wants_plain rfl, does_loadOne _ ScopeS_one___string rfl rfl rfl rfl rfl (pt_pt (av_rs 7 7 rfl rfl)) (rds_box (off := 1) (av_os 0 16 rfl rfl) (hq_one rfl))⟩,
        .inl ⟨wants_plain rfl, does_len _ _ (by kernel_rfl) rfl rfl rfl rfl rfl (sl_own (av_fs 0 rfl) (ar_tmp (av_rs 8 8 rfl rfl)))⟩,
        .inl ⟨wants_plain rfl, does_sliceLit (n := 1) ScopeS_el_nat rfl (List.replicate 1 (VP.int .i64 0)) (z1_of (fun _ _ => rfl) rfl 1) rfl rfl rfl rfl rfl rfl rfl (.cons 0 [HA.of (VP.int .i64 ((d.names.length : Nat) : Int))] none rfl rfl (cv_one rfl (mv_vp (ar_tmp (av_rs 9 9 rfl rfl)))) (.nil _))⟩,
        .inl ⟨wants_plain rfl, does_move _ (.inl rfl) rfl rfl rfl rfl (ar_tmp (av_fs 3 rfl))⟩,
        .inl ⟨wants_plain rfl, does_callG [] [] [] 105 [0] (sc_Repeat d.names.length n (by omega) (by omega)) rfl ScopeS_hb_slices_Repeat___int_int_ rfl rfl rfl rfl rfl ar_clo (ars_cons (pa_tmp (av_rs 10 10 rfl rfl) rfl) (ars_cons (pa_vp (ar_tmp (av_rs 11 11 rfl rfl))) ars_nil)) trivial trivial⟩,
        .inl ⟨wants_plain rfl, does_append (n := d.levels.length) (m := (List.replicate n.toNat d.names.length).length) ScopeS_el_nat rfl _ _ rfl rfl rfl rfl rfl (by simp only [List.length_append, List.length_nil, List.length_cons, Nat.zero_add]) (flat_cat d.levels (List.replicate n.toNat d.names.length)) rfl (by constructor <;> first | decide | (simp only [List.length_replicate]; omega)) (flat_lenH cNat_len _) (flat_allH (fun _ => rfl) cNat_one _) (flat_allH (fun _ => rfl) cNat_nu _) (mv_ownv (av_os 1 13 rfl rfl) (ar_tmp (av_rs 4 4 rfl rfl))) (src_row (av_ms 0 12 13 rfl rfl rfl))⟩,
        .inl ⟨wants_plain rfl, does_nil _ rfl rfl rfl rfl rfl (ar_tmp (av_rs 0 0 rfl rfl))⟩,
        .inl ⟨wants_plain rfl, does_field _ _ _ 2 ScopeS_f_scope_Table_string__2 rfl rfl rfl rfl rfl rfl (pt_ptr (ar_tmp (av_rs 12 14 rfl rfl)))⟩,
        .inl ⟨wants_plain rfl, does_store (off := 2) (Qs := [HA.row 3 1 ((d.levels ++ (List.replicate n.toNat d.names.length)).length) (((d.levels ++ (List.replicate n.toNat d.names.length)).flatMap cNat).map HA.of)]) _ _ ScopeS_size___int rfl rfl rfl rfl rfl rfl (pt_pt (av_rs 13 15 rfl rfl)) (av_os 0 16 rfl rfl) (cv_one rfl (mv_own (av_ms 1 13 16 rfl rfl rfl)))⟩,
        trivial⟩ ?_
      refine nx_sub (fs' := [.own 102 (.val u2) (HA.row 9 1 d.names.length ((d.names.flatMap cStr).map HA.of)), .own 101 (.val u1) (HA.map mkStr (mEnt VP.str d.told)), .is (.tmp 4) (VP.int .i64 0), .own 104 (.tmp 24) (HA.row 3 1 (([d.names.length]).length) ((([d.names.length]).flatMap cNat).map HA.of)), .own 0 (.val v) (HA.cells 152 [HA.of (VP.eq u1 true true), HA.of (VP.eq u2 true true), HA.row 3 1 ((d.levels ++ (List.replicate n.toNat d.names.length)).length) (((d.levels ++ (List.replicate n.toNat d.names.length)).flatMap cNat).map HA.of)])]) [0, 1, 4, 16, 20] rfl ?_
      refine nx_then ?_
      refine t_sub (fs' := [.own 102 (.val u2) (HA.row 9 1 d.names.length ((d.names.flatMap cStr).map HA.of)), .own 101 (.val u1) (HA.map mkStr (mEnt VP.str d.told)), .is (.tmp 4) (VP.int .i64 0), .own 0 (.val v) (HA.cells 152 [HA.of (VP.eq u1 true true), HA.of (VP.eq u2 true true), HA.row 3 1 ((d.levels ++ (List.replicate n.toNat d.names.length)).length) (((d.levels ++ (List.replicate n.toNat d.names.length)).flatMap cNat).map HA.of)])]) [0, 1, 2, 4] rfl ?_
      refine t_seq ?_
      refine t_region (F := ⟨_, _, _, _, _, _⟩) [.own 102 (.val u2) (HA.row 9 1 d.names.length ((d.names.flatMap cStr).map HA.of)), .own 101 (.val u1) (HA.map mkStr (mEnt VP.str d.told)), .own 0 (.val v) (HA.cells 152 [HA.of (VP.eq u1 true true), HA.of (VP.eq u2 true true), HA.row 3 1 ((d.levels ++ (List.replicate n.toNat d.names.length)).length) (((d.levels ++ (List.replicate n.toNat d.names.length)).flatMap cNat).map HA.of)])] [(0, .is (.tmp 4) (VP.int .i64 0))] [(0, .is (.tmp 4) (VP.int .i64 0))] [] [0, 1, 3] [2] [[]] [[]] rfl rfl follow rfl ⟨
        .inl ⟨wants_plain rfl, does_move _ (.inr rfl) rfl rfl rfl rfl (ar_const (fun _ _ => rfl))⟩,
        trivial⟩ ?_
      refine nx_sub (fs' := [.own 102 (.val u2) (HA.row 9 1 d.names.length ((d.names.flatMap cStr).map HA.of)), .own 101 (.val u1) (HA.map mkStr (mEnt VP.str d.told)), .own 0 (.val v) (HA.cells 152 [HA.of (VP.eq u1 true true), HA.of (VP.eq u2 true true), HA.row 3 1 ((d.levels ++ (List.replicate n.toNat d.names.length)).length) (((d.levels ++ (List.replicate n.toNat d.names.length)).flatMap cNat).map HA.of)]), .is (.tmp 4) (VP.int .i64 0)]) [0, 1, 2, 3] rfl ?_
      refine nx_then ?_
      refine t_sub (fs' := [.own 0 (.val v) (HA.cells 152 [HA.of (VP.eq u1 true true), HA.of (VP.eq u2 true true), HA.row 3 1 ((d.levels ++ (List.replicate n.toNat d.names.length)).length) (((d.levels ++ (List.replicate n.toNat d.names.length)).flatMap cNat).map HA.of)]), .own 101 (.val u1) (HA.map mkStr (mEnt VP.str d.told)), .own 102 (.val u2) (HA.row 9 1 d.names.length ((d.names.flatMap cStr).map HA.of)), .is (.tmp 4) (VP.int .i64 0)]) [2, 1, 0, 3] rfl ?_
      refine t_whole (whole_cells (T' := 152) (Rs := [HA.of (VP.eq u1 true true), HA.of (VP.eq u2 true true), HA.row 3 1 ((d.levels ++ (List.replicate n.toNat d.names.length)).length) (((d.levels ++ (List.replicate n.toNat d.names.length)).flatMap cNat).map HA.of)]) (j := 0) (show 0 < 3 by decide)) rfl rfl ?_
      refine t_sub (fs' := [.own 0 (.val v) (HA.cells 152 [HA.map mkStr (mEnt VP.str d.told), HA.of (VP.eq u2 true true), HA.row 3 1 ((d.levels ++ (List.replicate n.toNat d.names.length)).length) (((d.levels ++ (List.replicate n.toNat d.names.length)).flatMap cNat).map HA.of)]), .own 102 (.val u2) (HA.row 9 1 d.names.length ((d.names.flatMap cStr).map HA.of)), .is (.tmp 4) (VP.int .i64 0)]) [0, 1, 2] rfl ?_
      refine t_sub (fs' := [.own 0 (.val v) (HA.cells 152 [HA.map mkStr (mEnt VP.str d.told), HA.of (VP.eq u2 true true), HA.row 3 1 ((d.levels ++ (List.replicate n.toNat d.names.length)).length) (((d.levels ++ (List.replicate n.toNat d.names.length)).flatMap cNat).map HA.of)]), .own 102 (.val u2) (HA.row 9 1 d.names.length ((d.names.flatMap cStr).map HA.of)), .is (.tmp 4) (VP.int .i64 0)]) [0, 1, 2] rfl ?_
      refine t_whole (whole_cells (T' := 152) (Rs := [HA.map mkStr (mEnt VP.str d.told), HA.of (VP.eq u2 true true), HA.row 3 1 ((d.levels ++ (List.replicate n.toNat d.names.length)).length) (((d.levels ++ (List.replicate n.toNat d.names.length)).flatMap cNat).map HA.of)]) (j := 1) (show 1 < 3 by decide)) rfl rfl ?_
      refine t_sub (fs' := [.own 0 (.val v) (HA.cells 152 [HA.map mkStr (mEnt VP.str d.told), HA.row 9 1 d.names.length ((d.names.flatMap cStr).map HA.of), HA.row 3 1 ((d.levels ++ (List.replicate n.toNat d.names.length)).length) (((d.levels ++ (List.replicate n.toNat d.names.length)).flatMap cNat).map HA.of)]), .is (.tmp 4) (VP.int .i64 0)]) [0, 1] rfl ?_
      refine t_sub (fs' := [.own 0 (.val v) (HA.cells 152 [HA.map mkStr (mEnt VP.str d.told), HA.row 9 1 d.names.length ((d.names.flatMap cStr).map HA.of), HA.row 3 1 ((d.levels ++ (List.replicate n.toNat d.names.length)).length) (((d.levels ++ (List.replicate n.toNat d.names.length)).flatMap cNat).map HA.of)]), .is (.tmp 4) (VP.int .i64 0)]) [0, 1] rfl ?_
      refine t_sub (fs' := [.own 0 (.val v) (HA.cells 152 [HA.map mkStr (mEnt VP.str d.told), HA.row 9 1 d.names.length ((d.names.flatMap cStr).map HA.of), HA.row 3 1 ((d.levels ++ (List.replicate n.toNat d.names.length)).length) (((d.levels ++ (List.replicate n.toNat d.names.length)).flatMap cNat).map HA.of)]), .is (.tmp 4) (VP.int .i64 0)]) [0, 1] rfl ?_
      refine t_weak (R' := Tab 152 VP.str (d.push n)) (fun Z v w S h => by rw [show d.push n = ⟨d.told, d.names, d.levels ++ List.replicate n.toNat d.names.length⟩ from if_pos (by omega)]; exact h) rfl ?_
      refine t_sub (fs' := [.own 0 (.val v) (Tab 152 VP.str (d.push n)), .is (.tmp 4) (VP.int .i64 0)]) [0, 1] rfl ?_
      refine t_ret ?_
      exact rt_post [HA.of (VP.int .i64 (d.pushE n))] [[]] [0] [0] rfl ⟨(rv_eq (congrArg HA.of (congrArg (VP.int .i64) (show (0 : Int) = d.pushE n from Eq.symm ((if_neg (by omega)).trans (if_neg (by omega)))))) (rv_vp 1 rfl)), trivial⟩ (by decide) rfl rfl

set_option maxRecDepth 100000 in
set_option maxHeartbeats 4000000 in
theorem sc_PopS {v : Value} {d : TabD ByteArray} (n : Int) (hn : d.names.length ≤ 1000000) (hl : d.levels.length ≤ 1000000) (hI : ∀ x ∈ d.levels, x ≤ d.names.length) : SpecO Try.prog 39 [.vp (VP.ptr v), .vp (VP.int .i64 n)] [] [(v, Tab 152 VP.str d)] [(v, Tab 152 VP.str (d.pop n))] (HA.of (VP.int .i64 (d.popE n))) := by
  refine spec_of 67 Try.func39 rfl Try.ntmps39 rfl fun w0 S0 Z0 Bf => ?_
  refine t_sub (fs' := [.is (.tmp 0) (VP.ptr v), .is (.tmp 1) (VP.int .i64 n), .own 0 (.val v) (Tab 152 VP.str d)]) [0, 1, 2] rfl ?_
  refine t_sub (fs' := [.own 0 (.val v) (Tab 152 VP.str d), .is (.tmp 0) (VP.ptr v), .is (.tmp 1) (VP.int .i64 n)]) [2, 0, 1] rfl ?_
  refine t_part 101 (part_cells (T' := 152) (Rs := [HA.map mkStr (mEnt VP.str d.told), HA.row 9 1 d.names.length ((d.names.flatMap cStr).map HA.of), HA.row 3 1 d.levels.length ((d.levels.flatMap cNat).map HA.of)]) 0 rfl) rfl rfl fun um => ?_
  refine t_sub (fs' := [.own 0 (.val v) (HA.cells 152 [HA.of (VP.eq um true true), HA.row 9 1 d.names.length ((d.names.flatMap cStr).map HA.of), HA.row 3 1 d.levels.length ((d.levels.flatMap cNat).map HA.of)]), .own 101 (.val um) (HA.map mkStr (mEnt VP.str d.told)), .is (.tmp 0) (VP.ptr v), .is (.tmp 1) (VP.int .i64 n)]) [0, 1, 2, 3] rfl ?_
  refine t_sub (fs' := [.own 0 (.val v) (HA.cells 152 [HA.of (VP.eq um true true), HA.row 9 1 d.names.length ((d.names.flatMap cStr).map HA.of), HA.row 3 1 d.levels.length ((d.levels.flatMap cNat).map HA.of)]), .own 101 (.val um) (HA.map mkStr (mEnt VP.str d.told)), .is (.tmp 0) (VP.ptr v), .is (.tmp 1) (VP.int .i64 n)]) [0, 1, 2, 3] rfl ?_
  refine t_part 102 (part_cells (T' := 152) (Rs := [HA.of (VP.eq um true true), HA.row 9 1 d.names.length ((d.names.flatMap cStr).map HA.of), HA.row 3 1 d.levels.length ((d.levels.flatMap cNat).map HA.of)]) 1 rfl) rfl rfl fun us => ?_
  refine t_sub (fs' := [.own 0 (.val v) (HA.cells 152 [HA.of (VP.eq um true true), HA.of (VP.eq us true true), HA.row 3 1 d.levels.length ((d.levels.flatMap cNat).map HA.of)]), .own 102 (.val us) (HA.row 9 1 d.names.length ((d.names.flatMap cStr).map HA.of)), .own 101 (.val um) (HA.map mkStr (mEnt VP.str d.told)), .is (.tmp 0) (VP.ptr v), .is (.tmp 1) (VP.int .i64 n)]) [0, 1, 2, 3, 4] rfl ?_
  refine t_sub (fs' := [.own 0 (.val v) (HA.cells 152 [HA.of (VP.eq um true true), HA.of (VP.eq us true true), HA.row 3 1 d.levels.length ((d.levels.flatMap cNat).map HA.of)]), .own 102 (.val us) (HA.row 9 1 d.names.length ((d.names.flatMap cStr).map HA.of)), .own 101 (.val um) (HA.map mkStr (mEnt VP.str d.told)), .is (.tmp 0) (VP.ptr v), .is (.tmp 1) (VP.int .i64 n)]) [0, 1, 2, 3, 4] rfl ?_
  refine t_part 103 (part_cells (T' := 152) (Rs := [HA.of (VP.eq um true true), HA.of (VP.eq us true true), HA.row 3 1 d.levels.length ((d.levels.flatMap cNat).map HA.of)]) 2 rfl) rfl rfl fun ul => ?_
  refine t_sub (fs' := [.own 0 (.val v) (HA.cells 152 [HA.of (VP.eq um true true), HA.of (VP.eq us true true), HA.of (VP.eq ul true true)]), .own 103 (.val ul) (HA.row 3 1 d.levels.length ((d.levels.flatMap cNat).map HA.of)), .own 102 (.val us) (HA.row 9 1 d.names.length ((d.names.flatMap cStr).map HA.of)), .own 101 (.val um) (HA.map mkStr (mEnt VP.str d.told)), .is (.tmp 0) (VP.ptr v), .is (.tmp 1) (VP.int .i64 n)]) [0, 1, 2, 3, 4, 5] rfl ?_
  refine t_seq ?_
  refine t_region (F := ⟨_, _, _, _, _, _⟩) [.own 0 (.val v) (HA.cells 152 [HA.of (VP.eq um true true), HA.of (VP.eq us true true), HA.of (VP.eq ul true true)]), .own 103 (.val ul) (HA.row 3 1 d.levels.length ((d.levels.flatMap cNat).map HA.of)), .own 102 (.val us) (HA.row 9 1 d.names.length ((d.names.flatMap cStr).map HA.of)), .own 101 (.val um) (HA.map mkStr (mEnt VP.str d.told)), .is (.tmp 0) (VP.ptr v), .is (.tmp 1) (VP.int .i64 n)] [] [(0, .is (.tmp 4) (VP.int .i64 0))] [] [0, 1, 2, 3, 4, 5] [] [[]] [[]] rfl rfl follow rfl ⟨
    .inl ⟨wants_plain rfl, does_move _ (.inr rfl) rfl rfl rfl rfl (ar_const (fun _ _ => rfl))⟩,
    trivial⟩ ?_
  refine nx_sub (fs' := [.own 0 (.val v) (HA.cells 152 [HA.of (VP.eq um true true), HA.of (VP.eq us true true), HA.of (VP.eq ul true true)]), .own 103 (.val ul) (HA.row 3 1 d.levels.length ((d.levels.flatMap cNat).map HA.of)), .own 102 (.val us) (HA.row 9 1 d.names.length ((d.names.flatMap cStr).map HA.of)), .own 101 (.val um) (HA.map mkStr (mEnt VP.str d.told)), .is (.tmp 0) (VP.ptr v), .is (.tmp 1) (VP.int .i64 n), .is (.tmp 4) (VP.int .i64 0)]) [0, 1, 2, 3, 4, 5, 6] rfl ?_
  refine nx_then ?_
  refine t_seq ?_
  refine t_block ?_
  refine t_seq ?_
  refine t_region (F := ⟨_, _, _, _, _, _⟩) [.own 0 (.val v) (HA.cells 152 [HA.of (VP.eq um true true), HA.of (VP.eq us true true), HA.of (VP.eq ul true true)]), .own 103 (.val ul) (HA.row 3 1 d.levels.length ((d.levels.flatMap cNat).map HA.of)), .own 102 (.val us) (HA.row 9 1 d.names.length ((d.names.flatMap cStr).map HA.of)), .own 101 (.val um) (HA.map mkStr (mEnt VP.str d.told)), .is (.tmp 0) (VP.ptr v), .is (.tmp 1) (VP.int .i64 n), .is (.tmp 4) (VP.int .i64 0)] [] [(0, .is (.tmp 9) (VP.int .i64 n)), (1, .is (.tmp 10) (VP.bool (decide (n < 0)))), (2, .is (.tmp 8) (VP.bool (decide (n < 0))))] [] [0, 1, 2, 3, 4, 5, 6] [] [[], [0], [0, 1]] [[1, 2], [2], []] rfl rfl follow rfl ⟨
    .inl ⟨wants_plain rfl, does_move _ (.inl rfl) rfl rfl rfl rfl (ar_tmp (av_fs 5 rfl))⟩,
    .inl ⟨wants_plain rfl, does_cmp (m := n) (n := 0) _ _ _ _ _ rfl rfl rfl rfl rfl rfl .i64 (ar_tmp (av_rs 0 0 rfl rfl)) (ar_const (fun _ _ => rfl))⟩,
    .inl ⟨wants_plain rfl, does_move _ (.inr rfl) rfl rfl rfl rfl (ar_tmp (av_rs 1 1 rfl rfl))⟩,
    trivial⟩ ?_
  refine nx_sub (fs' := [.own 0 (.val v) (HA.cells 152 [HA.of (VP.eq um true true), HA.of (VP.eq us true true), HA.of (VP.eq ul true true)]), .own 103 (.val ul) (HA.row 3 1 d.levels.length ((d.levels.flatMap cNat).map HA.of)), .own 102 (.val us) (HA.row 9 1 d.names.length ((d.names.flatMap cStr).map HA.of)), .own 101 (.val um) (HA.map mkStr (mEnt VP.str d.told)), .is (.tmp 0) (VP.ptr v), .is (.tmp 1) (VP.int .i64 n), .is (.tmp 4) (VP.int .i64 0), .is (.tmp 8) (VP.bool (decide (n < 0)))]) [0, 1, 2, 3, 4, 5, 6, 9] rfl ?_
  refine nx_then ?_
  refine t_split 7 rfl (fun hb1 => ?_) (fun hb1 => ?_)
  · have hc1 := of_decide_eq_true hb1
    refine t_seq ?_
    refine t_region (F := ⟨_, _, _, _, _, _⟩) [.own 0 (.val v) (HA.cells 152 [HA.of (VP.eq um true true), HA.of (VP.eq us true true), HA.of (VP.eq ul true true)]), .own 103 (.val ul) (HA.row 3 1 d.levels.length ((d.levels.flatMap cNat).map HA.of)), .own 102 (.val us) (HA.row 9 1 d.names.length ((d.names.flatMap cStr).map HA.of)), .own 101 (.val um) (HA.map mkStr (mEnt VP.str d.told)), .is (.tmp 0) (VP.ptr v), .is (.tmp 1) (VP.int .i64 n), .is (.tmp 8) (VP.bool (decide (n < 0)))] [(0, .is (.tmp 4) (VP.int .i64 0))] [(0, .is (.tmp 4) (VP.int .i64 1))] [] [0, 1, 2, 3, 4, 5, 7] [6] [[]] [[]] rfl rfl follow rfl ⟨
      .inl ⟨wants_plain rfl, does_move _ (.inr rfl) rfl rfl rfl rfl (ar_const (fun _ _ => rfl))⟩,
      trivial⟩ ?_
    refine nx_sub (fs' := [.own 0 (.val v) (HA.cells 152 [HA.of (VP.eq um true true), HA.of (VP.eq us true true), HA.of (VP.eq ul true true)]), .own 103 (.val ul) (HA.row 3 1 d.levels.length ((d.levels.flatMap cNat).map HA.of)), .own 102 (.val us) (HA.row 9 1 d.names.length ((d.names.flatMap cStr).map HA.of)), .own 101 (.val um) (HA.map mkStr (mEnt VP.str d.told)), .is (.tmp 0) (VP.ptr v), .is (.tmp 1) (VP.int .i64 n), .is (.tmp 4) (VP.int .i64 1)]) [0, 1, 2, 3, 4, 5, 7] rfl ?_
    refine nx_then ?_
    refine t_sub (fs' := [.own 0 (.val v) (HA.cells 152 [HA.of (VP.eq um true true), HA.of (VP.eq us true true), HA.of (VP.eq ul true true)]), .own 101 (.val um) (HA.map mkStr (mEnt VP.str d.told)), .own 103 (.val ul) (HA.row 3 1 d.levels.length ((d.levels.flatMap cNat).map HA.of)), .own 102 (.val us) (HA.row 9 1 d.names.length ((d.names.flatMap cStr).map HA.of)), .is (.tmp 0) (VP.ptr v), .is (.tmp 1) (VP.int .i64 n), .is (.tmp 4) (VP.int .i64 1)]) [0, 3, 1, 2, 4, 5, 6] rfl ?_
    refine t_whole (whole_cells (T' := 152) (Rs := [HA.of (VP.eq um true true), HA.of (VP.eq us true true), HA.of (VP.eq ul true true)]) (j := 0) (show 0 < 3 by decide)) rfl rfl ?_
    refine t_sub (fs' := [.own 0 (.val v) (HA.cells 152 [HA.map mkStr (mEnt VP.str d.told), HA.of (VP.eq us true true), HA.of (VP.eq ul true true)]), .own 103 (.val ul) (HA.row 3 1 d.levels.length ((d.levels.flatMap cNat).map HA.of)), .own 102 (.val us) (HA.row 9 1 d.names.length ((d.names.flatMap cStr).map HA.of)), .is (.tmp 0) (VP.ptr v), .is (.tmp 1) (VP.int .i64 n), .is (.tmp 4) (VP.int .i64 1)]) [0, 1, 2, 3, 4, 5] rfl ?_
    refine t_sub (fs' := [.own 0 (.val v) (HA.cells 152 [HA.map mkStr (mEnt VP.str d.told), HA.of (VP.eq us true true), HA.of (VP.eq ul true true)]), .own 102 (.val us) (HA.row 9 1 d.names.length ((d.names.flatMap cStr).map HA.of)), .own 103 (.val ul) (HA.row 3 1 d.levels.length ((d.levels.flatMap cNat).map HA.of)), .is (.tmp 0) (VP.ptr v), .is (.tmp 1) (VP.int .i64 n), .is (.tmp 4) (VP.int .i64 1)]) [0, 2, 1, 3, 4, 5] rfl ?_
    refine t_whole (whole_cells (T' := 152) (Rs := [HA.map mkStr (mEnt VP.str d.told), HA.of (VP.eq us true true), HA.of (VP.eq ul true true)]) (j := 1) (show 1 < 3 by decide)) rfl rfl ?_
    refine t_sub (fs' := [.own 0 (.val v) (HA.cells 152 [HA.map mkStr (mEnt VP.str d.told), HA.row 9 1 d.names.length ((d.names.flatMap cStr).map HA.of), HA.of (VP.eq ul true true)]), .own 103 (.val ul) (HA.row 3 1 d.levels.length ((d.levels.flatMap cNat).map HA.of)), .is (.tmp 0) (VP.ptr v), .is (.tmp 1) (VP.int .i64 n), .is (.tmp 4) (VP.int .i64 1)]) [0, 1, 2, 3, 4] rfl ?_
    refine t_sub (fs' := [.own 0 (.val v) (HA.cells 152 [HA.map mkStr (mEnt VP.str d.told), HA.row 9 1 d.names.length ((d.names.flatMap cStr).map HA.of), HA.of (VP.eq ul true true)]), .own 103 (.val ul) (HA.row 3 1 d.levels.length ((d.levels.flatMap cNat).map HA.of)), .is (.tmp 0) (VP.ptr v), .is (.tmp 1) (VP.int .i64 n), .is (.tmp 4) (VP.int .i64 1)]) [0, 1, 2, 3, 4] rfl ?_
    refine t_whole (whole_cells (T' := 152) (Rs := [HA.map mkStr (mEnt VP.str d.told), HA.row 9 1 d.names.length ((d.names.flatMap cStr).map HA.of), HA.of (VP.eq ul true true)]) (j := 2) (show 2 < 3 by decide)) rfl rfl ?_
    refine t_sub (fs' := [.own 0 (.val v) (HA.cells 152 [HA.map mkStr (mEnt VP.str d.told), HA.row 9 1 d.names.length ((d.names.flatMap cStr).map HA.of), HA.row 3 1 d.levels.length ((d.levels.flatMap cNat).map HA.of)]), .is (.tmp 0) (VP.ptr v), .is (.tmp 1) (VP.int .i64 n), .is (.tmp 4) (VP.int .i64 1)]) [0, 1, 2, 3] rfl ?_
    refine t_sub (fs' := [.own 0 (.val v) (HA.cells 152 [HA.map mkStr (mEnt VP.str d.told), HA.row 9 1 d.names.length ((d.names.flatMap cStr).map HA.of), HA.row 3 1 d.levels.length ((d.levels.flatMap cNat).map HA.of)]), .is (.tmp 0) (VP.ptr v), .is (.tmp 1) (VP.int .i64 n), .is (.tmp 4) (VP.int .i64 1)]) [0, 1, 2, 3] rfl ?_
    refine t_sub (fs' := [.own 0 (.val v) (HA.cells 152 [HA.map mkStr (mEnt VP.str d.told), HA.row 9 1 d.names.length ((d.names.flatMap cStr).map HA.of), HA.row 3 1 d.levels.length ((d.levels.flatMap cNat).map HA.of)]), .is (.tmp 0) (VP.ptr v), .is (.tmp 1) (VP.int .i64 n), .is (.tmp 4) (VP.int .i64 1)]) [0, 1, 2, 3] rfl ?_
    refine t_weak (R' := Tab 152 VP.str (d.pop n)) (fun Z v w S h => by rw [show d.pop n = d from if_neg (by omega)]; exact h) rfl ?_
    refine t_sub (fs' := [.own 0 (.val v) (Tab 152 VP.str (d.pop n)), .is (.tmp 0) (VP.ptr v), .is (.tmp 1) (VP.int .i64 n), .is (.tmp 4) (VP.int .i64 1)]) [0, 1, 2, 3] rfl ?_
    refine t_ret ?_
    refine rt_block ?_
    refine rt_then ?_
    exact rt_post [HA.of (VP.int .i64 (d.popE n))] [[]] [0] [0] rfl ⟨(rv_eq (congrArg HA.of (congrArg (VP.int .i64) (show (1 : Int) = d.popE n from Eq.symm (if_pos (by omega))))) (rv_vp 3 rfl)), trivial⟩ (by decide) rfl rfl
  · have hc1 := of_decide_eq_false hb1
    refine t_seq ?_
    refine t_region (F := ⟨_, _, _, _, _, _⟩) [.own 0 (.val v) (HA.cells 152 [HA.of (VP.eq um true true), HA.of (VP.eq us true true), HA.of (VP.eq ul true true)]), .own 103 (.val ul) (HA.row 3 1 d.levels.length ((d.levels.flatMap cNat).map HA.of)), .own 102 (.val us) (HA.row 9 1 d.names.length ((d.names.flatMap cStr).map HA.of)), .own 101 (.val um) (HA.map mkStr (mEnt VP.str d.told)), .is (.tmp 0) (VP.ptr v), .is (.tmp 1) (VP.int .i64 n), .is (.tmp 4) (VP.int .i64 0), .is (.tmp 8) (VP.bool (decide (n < 0)))] [] [(0, .is (.tmp 12) (VP.int .i64 n)), (1, .is (.tmp 13) (VP.ptr v)), (2, .is (.tmp 14) (VP.int .i64 ((d.levels.length : Nat) : Int))), (3, .is (.tmp 15) (VP.bool (decide (n > ((d.levels.length : Nat) : Int))))), (4, .is (.tmp 11) (VP.bool (decide (n > ((d.levels.length : Nat) : Int)))))] [] [0, 1, 2, 3, 4, 5, 6, 7] [] [[], [], [1], [0, 1, 2], [0, 1, 2, 3]] [[3, 4], [2, 3, 4], [3, 4], [4], []] rfl rfl follow rfl ⟨
      .inl ⟨wants_plain rfl, does_move _ (.inl rfl) rfl rfl rfl rfl (ar_tmp (av_fs 5 rfl))⟩,
      .inl ⟨wants_plain rfl, does_move _ (.inl rfl) rfl rfl rfl rfl (ar_tmp (av_fs 4 rfl))⟩,
      .inl ⟨wants_plain rfl, does_call (sc_LevelsS_o (v := v) (l := ul) (ls := d.levels) (A := HA.of (VP.eq um true true)) (B := HA.of (VP.eq us true true))) (fun _ _ _ _ h => h) rfl ScopeS_hb___collator_scope_Table_string___Levels rfl rfl rfl rfl ar_clo (ars_cons (pa_vp (ar_tmp (av_rs 1 1 rfl rfl))) ars_nil) ⟨(brw_own (av_fs 0 rfl) rfl), (brw_own (av_fs 1 rfl) rfl), trivial⟩⟩,
      .inl ⟨wants_plain rfl, does_cmp (m := n) (n := ((d.levels.length : Nat) : Int)) _ _ _ _ _ rfl rfl rfl rfl rfl rfl .i64 (ar_tmp (av_rs 0 0 rfl rfl)) (ar_tmp (av_rs 2 2 rfl rfl))⟩,
      .inl ⟨wants_plain rfl, does_move _ (.inr rfl) rfl rfl rfl rfl (ar_tmp (av_rs 3 3 rfl rfl))⟩,
      trivial⟩ ?_
    refine nx_sub (fs' := [.own 0 (.val v) (HA.cells 152 [HA.of (VP.eq um true true), HA.of (VP.eq us true true), HA.of (VP.eq ul true true)]), .own 103 (.val ul) (HA.row 3 1 d.levels.length ((d.levels.flatMap cNat).map HA.of)), .own 102 (.val us) (HA.row 9 1 d.names.length ((d.names.flatMap cStr).map HA.of)), .own 101 (.val um) (HA.map mkStr (mEnt VP.str d.told)), .is (.tmp 0) (VP.ptr v), .is (.tmp 1) (VP.int .i64 n), .is (.tmp 4) (VP.int .i64 0), .is (.tmp 11) (VP.bool (decide (n > ((d.levels.length : Nat) : Int))))]) [0, 1, 2, 3, 4, 5, 6, 12] rfl ?_
    refine nx_then ?_
    refine t_split 7 rfl (fun hb2 => ?_) (fun hb2 => ?_)
    · have hc2 := of_decide_eq_true hb2
      refine t_seq ?_
      refine t_region (F := ⟨_, _, _, _, _, _⟩) [.own 0 (.val v) (HA.cells 152 [HA.of (VP.eq um true true), HA.of (VP.eq us true true), HA.of (VP.eq ul true true)]), .own 103 (.val ul) (HA.row 3 1 d.levels.length ((d.levels.flatMap cNat).map HA.of)), .own 102 (.val us) (HA.row 9 1 d.names.length ((d.names.flatMap cStr).map HA.of)), .own 101 (.val um) (HA.map mkStr (mEnt VP.str d.told)), .is (.tmp 0) (VP.ptr v), .is (.tmp 1) (VP.int .i64 n), .is (.tmp 11) (VP.bool (decide (n > ((d.levels.length : Nat) : Int))))] [(0, .is (.tmp 4) (VP.int .i64 0))] [(0, .is (.tmp 4) (VP.int .i64 2))] [] [0, 1, 2, 3, 4, 5, 7] [6] [[]] [[]] rfl rfl follow rfl ⟨
        .inl ⟨wants_plain rfl, does_move _ (.inr rfl) rfl rfl rfl rfl (ar_const (fun _ _ => rfl))⟩,
        trivial⟩ ?_
      refine nx_sub (fs' := [.own 0 (.val v) (HA.cells 152 [HA.of (VP.eq um true true), HA.of (VP.eq us true true), HA.of (VP.eq ul true true)]), .own 103 (.val ul) (HA.row 3 1 d.levels.length ((d.levels.flatMap cNat).map HA.of)), .own 102 (.val us) (HA.row 9 1 d.names.length ((d.names.flatMap cStr).map HA.of)), .own 101 (.val um) (HA.map mkStr (mEnt VP.str d.told)), .is (.tmp 0) (VP.ptr v), .is (.tmp 1) (VP.int .i64 n), .is (.tmp 4) (VP.int .i64 2)]) [0, 1, 2, 3, 4, 5, 7] rfl ?_
      refine nx_then ?_
      refine t_sub (fs' := [.own 0 (.val v) (HA.cells 152 [HA.of (VP.eq um true true), HA.of (VP.eq us true true), HA.of (VP.eq ul true true)]), .own 101 (.val um) (HA.map mkStr (mEnt VP.str d.told)), .own 103 (.val ul) (HA.row 3 1 d.levels.length ((d.levels.flatMap cNat).map HA.of)), .own 102 (.val us) (HA.row 9 1 d.names.length ((d.names.flatMap cStr).map HA.of)), .is (.tmp 0) (VP.ptr v), .is (.tmp 1) (VP.int .i64 n), .is (.tmp 4) (VP.int .i64 2)]) [0, 3, 1, 2, 4, 5, 6] rfl ?_
      refine t_whole (whole_cells (T' := 152) (Rs := [HA.of (VP.eq um true true), HA.of (VP.eq us true true), HA.of (VP.eq ul true true)]) (j := 0) (show 0 < 3 by decide)) rfl rfl ?_
      refine t_sub (fs' := [.own 0 (.val v) (HA.cells 152 [HA.map mkStr (mEnt VP.str d.told), HA.of (VP.eq us true true), HA.of (VP.eq ul true true)]), .own 103 (.val ul) (HA.row 3 1 d.levels.length ((d.levels.flatMap cNat).map HA.of)), .own 102 (.val us) (HA.row 9 1 d.names.length ((d.names.flatMap cStr).map HA.of)), .is (.tmp 0) (VP.ptr v), .is (.tmp 1) (VP.int .i64 n), .is (.tmp 4) (VP.int .i64 2)]) [0, 1, 2, 3, 4, 5] rfl ?_
      refine t_sub (fs' := [.own 0 (.val v) (HA.cells 152 [HA.map mkStr (mEnt VP.str d.told), HA.of (VP.eq us true true), HA.of (VP.eq ul true true)]), .own 102 (.val us) (HA.row 9 1 d.names.length ((d.names.flatMap cStr).map HA.of)), .own 103 (.val ul) (HA.row 3 1 d.levels.length ((d.levels.flatMap cNat).map HA.of)), .is (.tmp 0) (VP.ptr v), .is (.tmp 1) (VP.int .i64 n), .is (.tmp 4) (VP.int .i64 2)]) [0, 2, 1, 3, 4, 5] rfl ?_
      refine t_whole (whole_cells (T' := 152) (Rs := [HA.map mkStr (mEnt VP.str d.told), HA.of (VP.eq us true true), HA.of (VP.eq ul true true)]) (j := 1) (show 1 < 3 by decide)) rfl rfl ?_
      refine t_sub (fs' := [.own 0 (.val v) (HA.cells 152 [HA.map mkStr (mEnt VP.str d.told), HA.row 9 1 d.names.length ((d.names.flatMap cStr).map HA.of), HA.of (VP.eq ul true true)]), .own 103 (.val ul) (HA.row 3 1 d.levels.length ((d.levels.flatMap cNat).map HA.of)), .is (.tmp 0) (VP.ptr v), .is (.tmp 1) (VP.int .i64 n), .is (.tmp 4) (VP.int .i64 2)]) [0, 1, 2, 3, 4] rfl ?_
      refine t_sub (fs' := [.own 0 (.val v) (HA.cells 152 [HA.map mkStr (mEnt VP.str d.told), HA.row 9 1 d.names.length ((d.names.flatMap cStr).map HA.of), HA.of (VP.eq ul true true)]), .own 103 (.val ul) (HA.row 3 1 d.levels.length ((d.levels.flatMap cNat).map HA.of)), .is (.tmp 0) (VP.ptr v), .is (.tmp 1) (VP.int .i64 n), .is (.tmp 4) (VP.int .i64 2)]) [0, 1, 2, 3, 4] rfl ?_
      refine t_whole (whole_cells (T' := 152) (Rs := [HA.map mkStr (mEnt VP.str d.told), HA.row 9 1 d.names.length ((d.names.flatMap cStr).map HA.of), HA.of (VP.eq ul true true)]) (j := 2) (show 2 < 3 by decide)) rfl rfl ?_
      refine t_sub (fs' := [.own 0 (.val v) (HA.cells 152 [HA.map mkStr (mEnt VP.str d.told), HA.row 9 1 d.names.length ((d.names.flatMap cStr).map HA.of), HA.row 3 1 d.levels.length ((d.levels.flatMap cNat).map HA.of)]), .is (.tmp 0) (VP.ptr v), .is (.tmp 1) (VP.int .i64 n), .is (.tmp 4) (VP.int .i64 2)]) [0, 1, 2, 3] rfl ?_
      refine t_sub (fs' := [.own 0 (.val v) (HA.cells 152 [HA.map mkStr (mEnt VP.str d.told), HA.row 9 1 d.names.length ((d.names.flatMap cStr).map HA.of), HA.row 3 1 d.levels.length ((d.levels.flatMap cNat).map HA.of)]), .is (.tmp 0) (VP.ptr v), .is (.tmp 1) (VP.int .i64 n), .is (.tmp 4) (VP.int .i64 2)]) [0, 1, 2, 3] rfl ?_
      refine t_sub (fs' := [.own 0 (.val v) (HA.cells 152 [HA.map mkStr (mEnt VP.str d.told), HA.row 9 1 d.names.length ((d.names.flatMap cStr).map HA.of), HA.row 3 1 d.levels.length ((d.levels.flatMap cNat).map HA.of)]), .is (.tmp 0) (VP.ptr v), .is (.tmp 1) (VP.int .i64 n), .is (.tmp 4) (VP.int .i64 2)]) [0, 1, 2, 3] rfl ?_
      refine t_weak (R' := Tab 152 VP.str (d.pop n)) (fun Z v w S h => by rw [show d.pop n = d from if_neg (by omega)]; exact h) rfl ?_
      refine t_sub (fs' := [.own 0 (.val v) (Tab 152 VP.str (d.pop n)), .is (.tmp 0) (VP.ptr v), .is (.tmp 1) (VP.int .i64 n), .is (.tmp 4) (VP.int .i64 2)]) [0, 1, 2, 3] rfl ?_
      refine t_ret ?_
      refine rt_block ?_
      refine rt_then ?_
      exact rt_post [HA.of (VP.int .i64 (d.popE n))] [[]] [0] [0] rfl ⟨(rv_eq (congrArg HA.of (congrArg (VP.int .i64) (show (2 : Int) = d.popE n from Eq.symm ((if_neg (by omega)).trans (if_pos (by omega)))))) (rv_vp 3 rfl)), trivial⟩ (by decide) rfl rfl
    · have hc2 := of_decide_eq_false hb2
      refine t_seq ?_
      refine t_region (F := ⟨_, _, _, _, _, _⟩) [.own 0 (.val v) (HA.cells 152 [HA.of (VP.eq um true true), HA.of (VP.eq us true true), HA.of (VP.eq ul true true)]), .own 103 (.val ul) (HA.row 3 1 d.levels.length ((d.levels.flatMap cNat).map HA.of)), .own 102 (.val us) (HA.row 9 1 d.names.length ((d.names.flatMap cStr).map HA.of)), .own 101 (.val um) (HA.map mkStr (mEnt VP.str d.told)), .is (.tmp 0) (VP.ptr v), .is (.tmp 1) (VP.int .i64 n), .is (.tmp 4) (VP.int .i64 0), .is (.tmp 11) (VP.bool (decide (n > ((d.levels.length : Nat) : Int))))] [] [(0, .is (.tmp 17) (VP.int .i64 n)), (1, .is (.tmp 18) (VP.bool (n == 0))), (2, .is (.tmp 16) (VP.bool (n == 0)))] [] [0, 1, 2, 3, 4, 5, 6, 7] [] [[], [0], [0, 1]] [[1, 2], [2], []] rfl rfl follow rfl ⟨
        .inl ⟨wants_plain rfl, does_move _ (.inl rfl) rfl rfl rfl rfl (ar_tmp (av_fs 5 rfl))⟩,
        .inl ⟨wants_plain rfl, does_cmp (m := n) (n := 0) _ _ _ _ _ rfl rfl rfl rfl rfl rfl .i64 (ar_tmp (av_rs 0 0 rfl rfl)) (ar_const (fun _ _ => rfl))⟩,
        .inl ⟨wants_plain rfl, does_move _ (.inr rfl) rfl rfl rfl rfl (ar_tmp (av_rs 1 1 rfl rfl))⟩,
        trivial⟩ ?_
      refine nx_sub (fs' := [.own 0 (.val v) (HA.cells 152 [HA.of (VP.eq um true true), HA.of (VP.eq us true true), HA.of (VP.eq ul true true)]), .own 103 (.val ul) (HA.row 3 1 d.levels.length ((d.levels.flatMap cNat).map HA.of)), .own 102 (.val us) (HA.row 9 1 d.names.length ((d.names.flatMap cStr).map HA.of)), .own 101 (.val um) (HA.map mkStr (mEnt VP.str d.told)), .is (.tmp 0) (VP.ptr v), .is (.tmp 1) (VP.int .i64 n), .is (.tmp 4) (VP.int .i64 0), .is (.tmp 16) (VP.bool (n == 0))]) [0, 1, 2, 3, 4, 5, 6, 10] rfl ?_
      refine nx_then ?_
      refine t_split 7 rfl (fun hb3 => ?_) (fun hb3 => ?_)
      · have hc3 := eq_of_beq hb3
        refine t_seq ?_
        refine t_region (F := ⟨_, _, _, _, _, _⟩) [.own 0 (.val v) (HA.cells 152 [HA.of (VP.eq um true true), HA.of (VP.eq us true true), HA.of (VP.eq ul true true)]), .own 103 (.val ul) (HA.row 3 1 d.levels.length ((d.levels.flatMap cNat).map HA.of)), .own 102 (.val us) (HA.row 9 1 d.names.length ((d.names.flatMap cStr).map HA.of)), .own 101 (.val um) (HA.map mkStr (mEnt VP.str d.told)), .is (.tmp 0) (VP.ptr v), .is (.tmp 1) (VP.int .i64 n), .is (.tmp 16) (VP.bool (n == 0))] [(0, .is (.tmp 4) (VP.int .i64 0))] [(0, .is (.tmp 4) (VP.int .i64 0))] [] [0, 1, 2, 3, 4, 5, 7] [6] [[]] [[]] rfl rfl follow rfl ⟨
          .inl ⟨wants_plain rfl, does_move _ (.inr rfl) rfl rfl rfl rfl (ar_const (fun _ _ => rfl))⟩,
          trivial⟩ ?_
        refine nx_sub (fs' := [.own 0 (.val v) (HA.cells 152 [HA.of (VP.eq um true true), HA.of (VP.eq us true true), HA.of (VP.eq ul true true)]), .own 103 (.val ul) (HA.row 3 1 d.levels.length ((d.levels.flatMap cNat).map HA.of)), .own 102 (.val us) (HA.row 9 1 d.names.length ((d.names.flatMap cStr).map HA.of)), .own 101 (.val um) (HA.map mkStr (mEnt VP.str d.told)), .is (.tmp 0) (VP.ptr v), .is (.tmp 1) (VP.int .i64 n), .is (.tmp 4) (VP.int .i64 0)]) [0, 1, 2, 3, 4, 5, 7] rfl ?_
        refine nx_then ?_
        refine t_sub (fs' := [.own 0 (.val v) (HA.cells 152 [HA.of (VP.eq um true true), HA.of (VP.eq us true true), HA.of (VP.eq ul true true)]), .own 101 (.val um) (HA.map mkStr (mEnt VP.str d.told)), .own 103 (.val ul) (HA.row 3 1 d.levels.length ((d.levels.flatMap cNat).map HA.of)), .own 102 (.val us) (HA.row 9 1 d.names.length ((d.names.flatMap cStr).map HA.of)), .is (.tmp 0) (VP.ptr v), .is (.tmp 1) (VP.int .i64 n), .is (.tmp 4) (VP.int .i64 0)]) [0, 3, 1, 2, 4, 5, 6] rfl ?_
        refine t_whole (whole_cells (T' := 152) (Rs := [HA.of (VP.eq um true true), HA.of (VP.eq us true true), HA.of (VP.eq ul true true)]) (j := 0) (show 0 < 3 by decide)) rfl rfl ?_
        refine t_sub (fs' := [.own 0 (.val v) (HA.cells 152 [HA.map mkStr (mEnt VP.str d.told), HA.of (VP.eq us true true), HA.of (VP.eq ul true true)]), .own 103 (.val ul) (HA.row 3 1 d.levels.length ((d.levels.flatMap cNat).map HA.of)), .own 102 (.val us) (HA.row 9 1 d.names.length ((d.names.flatMap cStr).map HA.of)), .is (.tmp 0) (VP.ptr v), .is (.tmp 1) (VP.int .i64 n), .is (.tmp 4) (VP.int .i64 0)]) [0, 1, 2, 3, 4, 5] rfl ?_
        refine t_sub (fs' := [.own 0 (.val v) (HA.cells 152 [HA.map mkStr (mEnt VP.str d.told), HA.of (VP.eq us true true), HA.of (VP.eq ul true true)]), .own 102 (.val us) (HA.row 9 1 d.names.length ((d.names.flatMap cStr).map HA.of)), .own 103 (.val ul) (HA.row 3 1 d.levels.length ((d.levels.flatMap cNat).map HA.of)), .is (.tmp 0) (VP.ptr v), .is (.tmp 1) (VP.int .i64 n), .is (.tmp 4) (VP.int .i64 0)]) [0, 2, 1, 3, 4, 5] rfl ?_
        refine t_whole (whole_cells (T' := 152) (Rs := [HA.map mkStr (mEnt VP.str d.told), HA.of (VP.eq us true true), HA.of (VP.eq ul true true)]) (j := 1) (show 1 < 3 by decide)) rfl rfl ?_
        refine t_sub (fs' := [.own 0 (.val v) (HA.cells 152 [HA.map mkStr (mEnt VP.str d.told), HA.row 9 1 d.names.length ((d.names.flatMap cStr).map HA.of), HA.of (VP.eq ul true true)]), .own 103 (.val ul) (HA.row 3 1 d.levels.length ((d.levels.flatMap cNat).map HA.of)), .is (.tmp 0) (VP.ptr v), .is (.tmp 1) (VP.int .i64 n), .is (.tmp 4) (VP.int .i64 0)]) [0, 1, 2, 3, 4] rfl ?_
        refine t_sub (fs' := [.own 0 (.val v) (HA.cells 152 [HA.map mkStr (mEnt VP.str d.told), HA.row 9 1 d.names.length ((d.names.flatMap cStr).map HA.of), HA.of (VP.eq ul true true)]), .own 103 (.val ul) (HA.row 3 1 d.levels.length ((d.levels.flatMap cNat).map HA.of)), .is (.tmp 0) (VP.ptr v), .is (.tmp 1) (VP.int .i64 n), .is (.tmp 4) (VP.int .i64 0)]) [0, 1, 2, 3, 4] rfl ?_
        refine t_whole (whole_cells (T' := 152) (Rs := [HA.map mkStr (mEnt VP.str d.told), HA.row 9 1 d.names.length ((d.names.flatMap cStr).map HA.of), HA.of (VP.eq ul true true)]) (j := 2) (show 2 < 3 by decide)) rfl rfl ?_
        refine t_sub (fs' := [.own 0 (.val v) (HA.cells 152 [HA.map mkStr (mEnt VP.str d.told), HA.row 9 1 d.names.length ((d.names.flatMap cStr).map HA.of), HA.row 3 1 d.levels.length ((d.levels.flatMap cNat).map HA.of)]), .is (.tmp 0) (VP.ptr v), .is (.tmp 1) (VP.int .i64 n), .is (.tmp 4) (VP.int .i64 0)]) [0, 1, 2, 3] rfl ?_
        refine t_sub (fs' := [.own 0 (.val v) (HA.cells 152 [HA.map mkStr (mEnt VP.str d.told), HA.row 9 1 d.names.length ((d.names.flatMap cStr).map HA.of), HA.row 3 1 d.levels.length ((d.levels.flatMap cNat).map HA.of)]), .is (.tmp 0) (VP.ptr v), .is (.tmp 1) (VP.int .i64 n), .is (.tmp 4) (VP.int .i64 0)]) [0, 1, 2, 3] rfl ?_
        refine t_sub (fs' := [.own 0 (.val v) (HA.cells 152 [HA.map mkStr (mEnt VP.str d.told), HA.row 9 1 d.names.length ((d.names.flatMap cStr).map HA.of), HA.row 3 1 d.levels.length ((d.levels.flatMap cNat).map HA.of)]), .is (.tmp 0) (VP.ptr v), .is (.tmp 1) (VP.int .i64 n), .is (.tmp 4) (VP.int .i64 0)]) [0, 1, 2, 3] rfl ?_
        refine t_weak (R' := Tab 152 VP.str (d.pop n)) (fun Z v w S h => by rw [show d.pop n = d from if_neg (by omega)]; exact h) rfl ?_
        refine t_sub (fs' := [.own 0 (.val v) (Tab 152 VP.str (d.pop n)), .is (.tmp 0) (VP.ptr v), .is (.tmp 1) (VP.int .i64 n), .is (.tmp 4) (VP.int .i64 0)]) [0, 1, 2, 3] rfl ?_
        refine t_ret ?_
        refine rt_block ?_
        refine rt_then ?_
        exact rt_post [HA.of (VP.int .i64 (d.popE n))] [[]] [0] [0] rfl ⟨(rv_eq (congrArg HA.of (congrArg (VP.int .i64) (show (0 : Int) = d.popE n from Eq.symm ((if_neg (by omega)).trans (if_neg (by omega)))))) (rv_vp 3 rfl)), trivial⟩ (by decide) rfl rfl
      · have hc3 := ne_of_beq_false hb3
        refine t_skip ?_
        refine nx_block ?_
        refine nx_then ?_
        refine t_seq ?_
        refine t_region (F := ⟨_, _, _, _, _, _⟩) [.own 0 (.val v) (HA.cells 152 [HA.of (VP.eq um true true), HA.of (VP.eq us true true), HA.of (VP.eq ul true true)]), .own 103 (.val ul) (HA.row 3 1 d.levels.length ((d.levels.flatMap cNat).map HA.of)), .own 102 (.val us) (HA.row 9 1 d.names.length ((d.names.flatMap cStr).map HA.of)), .own 101 (.val um) (HA.map mkStr (mEnt VP.str d.told)), .is (.tmp 0) (VP.ptr v), .is (.tmp 1) (VP.int .i64 n), .is (.tmp 4) (VP.int .i64 0), .is (.tmp 16) (VP.bool (n == 0))] [] [(0, .is (.tmp 19) (VP.ptr v)), (1, .is (.tmp 20) (VP.ptr v)), (2, .pt 21 (.blk (.val v) 2)), (3, .is (.tmp 22) (VP.eq ul true true)), (4, .is (.tmp 23) (VP.ptr v)), (5, .is (.tmp 24) (VP.int .i64 ((d.levels.length : Nat) : Int))), (6, .is (.tmp 25) (VP.int .i64 n)), (7, .is (.tmp 26) (VP.int .i64 (((d.levels.length : Nat) : Int) - n))), (8, .pt 27 (.row (.val ul) ((d.levels.length - n.toNat) * 1))), (9, .is (.tmp 28) (VP.int .i64 (((d.left n) : Nat) : Int))), (10, .is (.tmp 5) (VP.int .i64 (((d.left n) : Nat) : Int)))] [] [0, 1, 2, 3, 4, 5, 6, 7] [] [[], [0], [0, 1], [0, 1, 2], [], [4], [], [4, 5, 6], [0, 1, 2, 3, 4, 5, 6, 7], [0, 1, 2, 3, 4, 5, 6, 7, 8], [0, 1, 2, 3, 4, 5, 6, 7, 8, 9]] [[1, 2, 3, 8, 9, 10], [2, 3, 8, 9, 10], [3, 8, 9, 10], [8, 9, 10], [5, 7, 8, 9, 10], [7, 8, 9, 10], [7, 8, 9, 10], [8, 9, 10], [9, 10], [10], []] rfl rfl follow rfl ⟨
          .inl ⟨wants_plain rfl, does_move _ (.inl rfl) rfl rfl rfl rfl (ar_tmp (av_fs 4 rfl))⟩,
          .inl ⟨wants_plain rfl, does_nil _ rfl rfl rfl rfl rfl (ar_tmp (av_rs 0 0 rfl rfl))⟩,
          .inl ⟨wants_plain rfl, does_field _ _ _ 2 ScopeS_f_scope_Table_string__2 rfl rfl rfl rfl rfl rfl (pt_ptr (ar_tmp (av_rs 1 1 rfl rfl)))⟩,
          .inl ⟨wants_plain rfl, does_loadOne _ ScopeS_one___int rfl rfl rfl rfl rfl (pt_pt (av_rs 2 2 rfl rfl)) (rds_box (off := 2) (av_fs 0 rfl) (hq_one rfl))⟩,
          .inl ⟨wants_plain rfl, does_move _ (.inl rfl) rfl rfl rfl rfl (ar_tmp (av_fs 4 rfl))⟩,
          .inl ⟨wants_plain rfl, does_call (sc_LevelsS_o (v := v) (l := ul) (ls := d.levels) (A := HA.of (VP.eq um true true)) (B := HA.of (VP.eq us true true))) (fun _ _ _ _ h => h) rfl ScopeS_hb___collator_scope_Table_string___Levels rfl rfl rfl rfl ar_clo (ars_cons (pa_vp (ar_tmp (av_rs 4 4 rfl rfl))) ars_nil) ⟨(brw_own (av_fs 0 rfl) rfl), (brw_own (av_fs 1 rfl) rfl), trivial⟩⟩,
          .inl ⟨wants_plain rfl, does_move _ (.inl rfl) rfl rfl rfl rfl (ar_tmp (av_fs 5 rfl))⟩,
          .inl ⟨wants_plain rfl, does_subE (m := ((d.levels.length : Nat) : Int)) (n := n) (x := (((d.levels.length : Nat) : Int) - n)) (by omega) _ _ _ _ rfl rfl rfl rfl rfl (by omega) (ar_tmp (av_rs 5 5 rfl rfl)) (ar_tmp (av_rs 6 6 rfl rfl))⟩,
          .inl ⟨wants_plain rfl, does_index (m := (d.levels.length - n.toNat)) _ _ Try.underlying35 ScopeS_size_int rfl rfl rfl rfl rfl _ (by omega) rfl (by omega) (sl_own (av_fs 1 rfl) (ar_tmp (av_rs 3 3 rfl rfl))) (ar_int_eq (by omega) (ar_tmp (av_rs 7 7 rfl rfl)))⟩,
          .inl ⟨wants_plain rfl, does_loadOne _ ScopeS_one_int rfl rfl rfl rfl rfl (pt_pt (av_rs 8 8 rfl rfl)) (rds_row (av_fs 1 rfl) (hq_flat1 cNat_len (d.left_get (by omega) (by omega)) 0 (by omega) rfl))⟩,
          .inl ⟨wants_plain rfl, does_move _ (.inr rfl) rfl rfl rfl rfl (ar_tmp (av_rs 9 9 rfl rfl))⟩,
          trivial⟩ ?_
        refine nx_sub (fs' := [.own 0 (.val v) (HA.cells 152 [HA.of (VP.eq um true true), HA.of (VP.eq us true true), HA.of (VP.eq ul true true)]), .own 103 (.val ul) (HA.row 3 1 d.levels.length ((d.levels.flatMap cNat).map HA.of)), .own 102 (.val us) (HA.row 9 1 d.names.length ((d.names.flatMap cStr).map HA.of)), .own 101 (.val um) (HA.map mkStr (mEnt VP.str d.told)), .is (.tmp 0) (VP.ptr v), .is (.tmp 1) (VP.int .i64 n), .is (.tmp 4) (VP.int .i64 0), .is (.tmp 5) (VP.int .i64 (((d.left n) : Nat) : Int))]) [0, 1, 2, 3, 4, 5, 6, 18] rfl ?_
        refine nx_then ?_
        refine t_seq ?_
        refine t_seq ?_
        have hL := d.left_le hI (n := n) (by omega) (by omega)
        refine t_region (F := ⟨_, _, _, _, _, _⟩) [.own 0 (.val v) (HA.cells 152 [HA.of (VP.eq um true true), HA.of (VP.eq us true true), HA.of (VP.eq ul true true)]), .own 103 (.val ul) (HA.row 3 1 d.levels.length ((d.levels.flatMap cNat).map HA.of)), .own 102 (.val us) (HA.row 9 1 d.names.length ((d.names.flatMap cStr).map HA.of)), .own 101 (.val um) (HA.map mkStr (mEnt VP.str d.told)), .is (.tmp 0) (VP.ptr v), .is (.tmp 1) (VP.int .i64 n), .is (.tmp 4) (VP.int .i64 0), .is (.tmp 5) (VP.int .i64 (((d.left n) : Nat) : Int))] [] [(0, .is (.tmp 29) (VP.ptr v)), (1, .is (.tmp 30) (VP.ptr v)), (2, .pt 31 (.blk (.val v) 1)), (3, .is (.tmp 32) (VP.eq us true true)), (4, .is (.tmp 33) (VP.int .i64 (((d.left n) : Nat) : Int))), (5, .sub 34 (.val us) (d.left n) (d.names.length - (d.left n))), (6, .is (.tmp 35) (VP.int .i64 (((d.names.length - (d.left n)) : Nat) : Int))), (7, .is (.tmp 36) (VP.int .i64 0))] [] [0, 1, 2, 3, 4, 5, 6, 7] [] [[], [0], [0, 1], [0, 1, 2], [], [0, 1, 2, 3, 4], [0, 1, 2, 3, 4, 5], []] [[1, 2, 3, 5, 6], [2, 3, 5, 6], [3, 5, 6], [5, 6], [5, 6], [6], [], []] rfl rfl follow rfl ⟨
          .inl ⟨wants_plain rfl, does_move _ (.inl rfl) rfl rfl rfl rfl (ar_tmp (av_fs 4 rfl))⟩,
          .inl ⟨wants_plain rfl, does_nil _ rfl rfl rfl rfl rfl (ar_tmp (av_rs 0 0 rfl rfl))⟩,
          .inl ⟨wants_plain rfl, does_field _ _ _ 1 ScopeS_f_scope_Table_string__1 rfl rfl rfl rfl rfl rfl (pt_ptr (ar_tmp (av_rs 1 1 rfl rfl)))⟩,
          .inl ⟨wants_plain rfl, does_loadOne _ ScopeS_one___string rfl rfl rfl rfl rfl (pt_pt (av_rs 2 2 rfl rfl)) (rds_box (off := 1) (av_fs 0 rfl) (hq_one rfl))⟩,
          .inl ⟨wants_plain rfl, does_move _ (.inl rfl) rfl rfl rfl rfl (ar_tmp (av_fs 7 rfl))⟩,
          .inl ⟨wants_plain rfl, does_cutSub (l := (d.left n)) (h := d.names.length) _ Try.underlying31 ScopeS_size_string rfl rfl rfl rfl rfl (d.left n) (by omega) rfl (by omega) (by omega) ⟨_, (ar_tmp (av_rs 4 4 rfl rfl))⟩ rfl (sl_own (av_fs 2 rfl) (ar_tmp (av_rs 3 3 rfl rfl)))⟩,
          .inl ⟨wants_plain rfl, does_len _ _ (by kernel_rfl) rfl rfl rfl rfl rfl (sl_sub (av_rs 5 5 rfl rfl))⟩,
          .inl ⟨wants_plain rfl, does_move _ (.inl rfl) rfl rfl rfl rfl (ar_const (fun _ _ => rfl))⟩,
          trivial⟩ ?_
        refine nx_sub (fs' := [.own 0 (.val v) (HA.cells 152 [HA.of (VP.eq um true true), HA.of (VP.eq us true true), HA.of (VP.eq ul true true)]), .own 103 (.val ul) (HA.row 3 1 d.levels.length ((d.levels.flatMap cNat).map HA.of)), .own 102 (.val us) (HA.row 9 1 d.names.length ((d.names.flatMap cStr).map HA.of)), .own 101 (.val um) (HA.map mkStr (mEnt VP.str d.told)), .is (.tmp 0) (VP.ptr v), .is (.tmp 1) (VP.int .i64 n), .is (.tmp 4) (VP.int .i64 0), .is (.tmp 5) (VP.int .i64 (((d.left n) : Nat) : Int)), .sub 34 (.val us) (d.left n) (d.names.length - (d.left n)), .is (.tmp 35) (VP.int .i64 (((d.names.length - (d.left n)) : Nat) : Int)), .is (.tmp 36) (VP.int .i64 0)]) [0, 1, 2, 3, 4, 5, 6, 7, 13, 14, 15] rfl ?_
        refine nx_then ?_
        refine t_block ?_
        refine t_sub (fs' := [.own 101 (.val um) (HA.map mkStr (mEnt VP.str d.told)), .own 0 (.val v) (HA.cells 152 [HA.of (VP.eq um true true), HA.of (VP.eq us true true), HA.of (VP.eq ul true true)]), .own 103 (.val ul) (HA.row 3 1 d.levels.length ((d.levels.flatMap cNat).map HA.of)), .own 102 (.val us) (HA.row 9 1 d.names.length ((d.names.flatMap cStr).map HA.of)), .is (.tmp 0) (VP.ptr v), .is (.tmp 1) (VP.int .i64 n), .is (.tmp 4) (VP.int .i64 0), .is (.tmp 5) (VP.int .i64 (((d.left n) : Nat) : Int)), .sub 34 (.val us) (d.left n) (d.names.length - (d.left n)), .is (.tmp 35) (VP.int .i64 (((d.names.length - (d.left n)) : Nat) : Int)), .is (.tmp 36) (VP.int .i64 0)]) [3, 0, 1, 2, 4, 5, 6, 7, 8, 9, 10] rfl ?_
        refine t_weak (R' := HA.map mkStr (mEnt VP.str (dels ((d.names.drop (d.left n)).take 0) d.told))) (fun _ _ _ _ h => h) rfl ?_
        refine t_sub (fs' := [.own 101 (.val um) (HA.map mkStr (mEnt VP.str (dels ((d.names.drop (d.left n)).take 0) d.told))), .own 0 (.val v) (HA.cells 152 [HA.of (VP.eq um true true), HA.of (VP.eq us true true), HA.of (VP.eq ul true true)]), .own 103 (.val ul) (HA.row 3 1 d.levels.length ((d.levels.flatMap cNat).map HA.of)), .own 102 (.val us) (HA.row 9 1 d.names.length ((d.names.flatMap cStr).map HA.of)), .is (.tmp 0) (VP.ptr v), .is (.tmp 1) (VP.int .i64 n), .is (.tmp 4) (VP.int .i64 0), .is (.tmp 5) (VP.int .i64 (((d.left n) : Nat) : Int)), .sub 34 (.val us) (d.left n) (d.names.length - (d.left n)), .is (.tmp 35) (VP.int .i64 (((d.names.length - (d.left n)) : Nat) : Int)), .is (.tmp 36) (VP.int .i64 0)]) [0, 1, 2, 3, 4, 5, 6, 7, 8, 9, 10] rfl ?_
        refine t_sub (fs' := [.is (.tmp 36) (VP.int .i64 0), .own 101 (.val um) (HA.map mkStr (mEnt VP.str (dels ((d.names.drop (d.left n)).take 0) d.told))), .own 0 (.val v) (HA.cells 152 [HA.of (VP.eq um true true), HA.of (VP.eq us true true), HA.of (VP.eq ul true true)]), .own 103 (.val ul) (HA.row 3 1 d.levels.length ((d.levels.flatMap cNat).map HA.of)), .own 102 (.val us) (HA.row 9 1 d.names.length ((d.names.flatMap cStr).map HA.of)), .is (.tmp 0) (VP.ptr v), .is (.tmp 1) (VP.int .i64 n), .is (.tmp 4) (VP.int .i64 0), .is (.tmp 5) (VP.int .i64 (((d.left n) : Nat) : Int)), .sub 34 (.val us) (d.left n) (d.names.length - (d.left n)), .is (.tmp 35) (VP.int .i64 (((d.names.length - (d.left n)) : Nat) : Int))]) [10, 0, 1, 2, 3, 4, 5, 6, 7, 8, 9] rfl ?_
        refine t_slot (y := VP.int .i64 ((0 : Nat) : Int)) (fun _ _ _ h => h) ?_
        refine t_sub (fs' := [.is (.tmp 36) (VP.int .i64 ((0 : Nat) : Int)), .own 101 (.val um) (HA.map mkStr (mEnt VP.str (dels ((d.names.drop (d.left n)).take 0) d.told))), .own 0 (.val v) (HA.cells 152 [HA.of (VP.eq um true true), HA.of (VP.eq us true true), HA.of (VP.eq ul true true)]), .own 103 (.val ul) (HA.row 3 1 d.levels.length ((d.levels.flatMap cNat).map HA.of)), .own 102 (.val us) (HA.row 9 1 d.names.length ((d.names.flatMap cStr).map HA.of)), .is (.tmp 0) (VP.ptr v), .is (.tmp 1) (VP.int .i64 n), .is (.tmp 4) (VP.int .i64 0), .is (.tmp 5) (VP.int .i64 (((d.left n) : Nat) : Int)), .sub 34 (.val us) (d.left n) (d.names.length - (d.left n)), .is (.tmp 35) (VP.int .i64 (((d.names.length - (d.left n)) : Nat) : Int))]) [0, 1, 2, 3, 4, 5, 6, 7, 8, 9, 10] rfl ?_
        refine t_loop (τ := {k : Nat // k ≤ d.names.length - (d.left n)}) (fun ⟨k, _⟩ => [.is (.tmp 0) (VP.ptr v), .is (.tmp 1) (VP.int .i64 n), .is (.tmp 5) (VP.int .i64 (((d.left n) : Nat) : Int)), .sub 34 (.val us) (d.left n) (d.names.length - (d.left n)), .is (.tmp 35) (VP.int .i64 (((d.names.length - (d.left n)) : Nat) : Int)), .is (.tmp 36) (VP.int .i64 ((k : Nat) : Int)), .own 0 (.val v) (HA.cells 152 [HA.of (VP.eq um true true), HA.of (VP.eq us true true), HA.of (VP.eq ul true true)]), .own 101 (.val um) (HA.map mkStr (mEnt VP.str (dels ((d.names.drop (d.left n)).take k) d.told))), .own 102 (.val us) (HA.row 9 1 d.names.length ((d.names.flatMap cStr).map HA.of)), .own 103 (.val ul) (HA.row 3 1 d.levels.length ((d.levels.flatMap cNat).map HA.of))]) (fun ⟨k, _⟩ => d.names.length - (d.left n) - k) (⟨0, by omega⟩) [5, 6, 8, 9, 10, 0, 2, 1, 4, 3] rfl ?_
        rintro ⟨k, hk⟩
        refine t_sub (fs' := [.is (.tmp 0) (VP.ptr v), .is (.tmp 1) (VP.int .i64 n), .is (.tmp 5) (VP.int .i64 (((d.left n) : Nat) : Int)), .sub 34 (.val us) (d.left n) (d.names.length - (d.left n)), .is (.tmp 35) (VP.int .i64 (((d.names.length - (d.left n)) : Nat) : Int)), .is (.tmp 36) (VP.int .i64 ((k : Nat) : Int)), .own 0 (.val v) (HA.cells 152 [HA.of (VP.eq um true true), HA.of (VP.eq us true true), HA.of (VP.eq ul true true)]), .own 101 (.val um) (HA.map mkStr (mEnt VP.str (dels ((d.names.drop (d.left n)).take k) d.told))), .own 102 (.val us) (HA.row 9 1 d.names.length ((d.names.flatMap cStr).map HA.of)), .own 103 (.val ul) (HA.row 3 1 d.levels.length ((d.levels.flatMap cNat).map HA.of))]) [0, 1, 2, 3, 4, 5, 6, 7, 8, 9] rfl ?_
        refine t_seq ?_
        refine t_region (F := ⟨_, _, _, _, _, _⟩) [.is (.tmp 0) (VP.ptr v), .is (.tmp 1) (VP.int .i64 n), .is (.tmp 5) (VP.int .i64 (((d.left n) : Nat) : Int)), .sub 34 (.val us) (d.left n) (d.names.length - (d.left n)), .is (.tmp 35) (VP.int .i64 (((d.names.length - (d.left n)) : Nat) : Int)), .is (.tmp 36) (VP.int .i64 ((k : Nat) : Int)), .own 0 (.val v) (HA.cells 152 [HA.of (VP.eq um true true), HA.of (VP.eq us true true), HA.of (VP.eq ul true true)]), .own 101 (.val um) (HA.map mkStr (mEnt VP.str (dels ((d.names.drop (d.left n)).take k) d.told))), .own 102 (.val us) (HA.row 9 1 d.names.length ((d.names.flatMap cStr).map HA.of)), .own 103 (.val ul) (HA.row 3 1 d.levels.length ((d.levels.flatMap cNat).map HA.of))] [] [(0, .is (.tmp 37) (VP.bool (decide (((k : Nat) : Int) < (((d.names.length - (d.left n)) : Nat) : Int)))))] [] [0, 1, 2, 3, 4, 5, 6, 7, 8, 9] [] [[]] [[]] rfl rfl follow rfl ⟨
          .inl ⟨wants_plain rfl, does_cmp (m := ((k : Nat) : Int)) (n := (((d.names.length - (d.left n)) : Nat) : Int)) _ _ _ _ _ rfl rfl rfl rfl rfl rfl .i64 (ar_tmp (av_fs 5 rfl)) (ar_tmp (av_fs 4 rfl))⟩,
          trivial⟩ ?_
        refine nx_sub (fs' := [.is (.tmp 0) (VP.ptr v), .is (.tmp 1) (VP.int .i64 n), .is (.tmp 5) (VP.int .i64 (((d.left n) : Nat) : Int)), .sub 34 (.val us) (d.left n) (d.names.length - (d.left n)), .is (.tmp 35) (VP.int .i64 (((d.names.length - (d.left n)) : Nat) : Int)), .is (.tmp 36) (VP.int .i64 ((k : Nat) : Int)), .own 0 (.val v) (HA.cells 152 [HA.of (VP.eq um true true), HA.of (VP.eq us true true), HA.of (VP.eq ul true true)]), .own 101 (.val um) (HA.map mkStr (mEnt VP.str (dels ((d.names.drop (d.left n)).take k) d.told))), .own 102 (.val us) (HA.row 9 1 d.names.length ((d.names.flatMap cStr).map HA.of)), .own 103 (.val ul) (HA.row 3 1 d.levels.length ((d.levels.flatMap cNat).map HA.of)), .is (.tmp 37) (VP.bool (decide (((k : Nat) : Int) < (((d.names.length - (d.left n)) : Nat) : Int))))]) [0, 1, 2, 3, 4, 5, 6, 7, 8, 9, 10] rfl ?_
        refine nx_then ?_
        refine t_seq ?_
        refine t_split 10 rfl (fun hb4 => ?_) (fun hb4 => ?_)
        · have hc4 := of_decide_eq_true hb4
          obtain ⟨s, hs⟩ : ∃ s, d.names[(d.left n) + k]? = some s := ⟨_, List.getElem?_eq_getElem (by omega)⟩
          refine t_skip ?_
          refine nx_then ?_
          refine t_seq ?_
          refine t_block ?_
          refine t_seq ?_
          refine t_region (F := ⟨_, _, _, _, _, _⟩) [.is (.tmp 0) (VP.ptr v), .is (.tmp 1) (VP.int .i64 n), .is (.tmp 5) (VP.int .i64 (((d.left n) : Nat) : Int)), .sub 34 (.val us) (d.left n) (d.names.length - (d.left n)), .is (.tmp 35) (VP.int .i64 (((d.names.length - (d.left n)) : Nat) : Int)), .is (.tmp 36) (VP.int .i64 ((k : Nat) : Int)), .own 0 (.val v) (HA.cells 152 [HA.of (VP.eq um true true), HA.of (VP.eq us true true), HA.of (VP.eq ul true true)]), .own 101 (.val um) (HA.map mkStr (mEnt VP.str (dels ((d.names.drop (d.left n)).take k) d.told))), .own 102 (.val us) (HA.row 9 1 d.names.length ((d.names.flatMap cStr).map HA.of)), .own 103 (.val ul) (HA.row 3 1 d.levels.length ((d.levels.flatMap cNat).map HA.of)), .is (.tmp 37) (VP.bool (decide (((k : Nat) : Int) < (((d.names.length - (d.left n)) : Nat) : Int))))] [] [(0, .pt 38 (.row (.val us) (((d.left n) + k) * 1))), (1, .is (.tmp 39) (VP.str s)), (2, .is (.tmp 7) (VP.str s))] [] [0, 1, 2, 3, 4, 5, 6, 7, 8, 9, 10] [] [[], [0], [0, 1]] [[1, 2], [2], []] rfl rfl follow rfl ⟨
            .inl ⟨wants_plain rfl, does_index (m := k) _ _ Try.underlying31 ScopeS_size_string rfl rfl rfl rfl rfl _ (by omega) rfl (by omega) (sl_sub (av_fs 3 rfl)) (ar_tmp (av_fs 5 rfl))⟩,
            .inl ⟨wants_plain rfl, does_loadOne _ ScopeS_one_string rfl rfl rfl rfl rfl (pt_pt (av_rs 0 0 rfl rfl)) (rds_row (av_fs 8 rfl) (hq_flat1 cStr_len hs 0 (by omega) rfl))⟩,
            .inl ⟨wants_plain rfl, does_move _ (.inr rfl) rfl rfl rfl rfl (ar_tmp (av_rs 1 1 rfl rfl))⟩,
            trivial⟩ ?_
          refine nx_sub (fs' := [.is (.tmp 0) (VP.ptr v), .is (.tmp 1) (VP.int .i64 n), .is (.tmp 5) (VP.int .i64 (((d.left n) : Nat) : Int)), .sub 34 (.val us) (d.left n) (d.names.length - (d.left n)), .is (.tmp 35) (VP.int .i64 (((d.names.length - (d.left n)) : Nat) : Int)), .is (.tmp 36) (VP.int .i64 ((k : Nat) : Int)), .own 0 (.val v) (HA.cells 152 [HA.of (VP.eq um true true), HA.of (VP.eq us true true), HA.of (VP.eq ul true true)]), .own 101 (.val um) (HA.map mkStr (mEnt VP.str (dels ((d.names.drop (d.left n)).take k) d.told))), .own 102 (.val us) (HA.row 9 1 d.names.length ((d.names.flatMap cStr).map HA.of)), .own 103 (.val ul) (HA.row 3 1 d.levels.length ((d.levels.flatMap cNat).map HA.of)), .is (.tmp 37) (VP.bool (decide (((k : Nat) : Int) < (((d.names.length - (d.left n)) : Nat) : Int)))), .pt 38 (.row (.val us) (((d.left n) + k) * 1)), .is (.tmp 39) (VP.str s), .is (.tmp 7) (VP.str s)]) [0, 1, 2, 3, 4, 5, 6, 7, 8, 9, 10, 11, 12, 13] rfl ?_
          refine nx_then ?_
          refine t_region (F := ⟨_, _, _, _, _, _⟩) [.is (.tmp 0) (VP.ptr v), .is (.tmp 1) (VP.int .i64 n), .is (.tmp 5) (VP.int .i64 (((d.left n) : Nat) : Int)), .sub 34 (.val us) (d.left n) (d.names.length - (d.left n)), .is (.tmp 35) (VP.int .i64 (((d.names.length - (d.left n)) : Nat) : Int)), .is (.tmp 36) (VP.int .i64 ((k : Nat) : Int)), .own 0 (.val v) (HA.cells 152 [HA.of (VP.eq um true true), HA.of (VP.eq us true true), HA.of (VP.eq ul true true)]), .own 102 (.val us) (HA.row 9 1 d.names.length ((d.names.flatMap cStr).map HA.of)), .own 103 (.val ul) (HA.row 3 1 d.levels.length ((d.levels.flatMap cNat).map HA.of)), .is (.tmp 37) (VP.bool (decide (((k : Nat) : Int) < (((d.names.length - (d.left n)) : Nat) : Int)))), .pt 38 (.row (.val us) (((d.left n) + k) * 1)), .is (.tmp 39) (VP.str s), .is (.tmp 7) (VP.str s)] [(5, .own 101 (.val um) (HA.map mkStr (mEnt VP.str (dels ((d.names.drop (d.left n)).take k) d.told))))] [(0, .is (.tmp 40) (VP.ptr v)), (1, .is (.tmp 41) (VP.ptr v)), (2, .pt 42 (.blk (.val v) 0)), (3, .is (.tmp 43) (VP.eq um true true)), (4, .is (.tmp 44) (VP.str s)), (5, .own 101 (.val um) (HA.map mkStr (mEnt VP.str (mdel mkStr s (dels ((d.names.drop (d.left n)).take k) d.told)))))] [] [0, 1, 2, 3, 4, 5, 6, 8, 9, 10, 11, 12, 13] [7] [[], [0], [0, 1], [0, 1, 2], [], [0, 1, 2, 3, 4]] [[1, 2, 3, 5], [2, 3, 5], [3, 5], [5], [5], []] rfl rfl follow rfl ⟨
            .inl ⟨wants_plain rfl, does_move _ (.inl rfl) rfl rfl rfl rfl (ar_tmp (av_fs 0 rfl))⟩,
            .inl ⟨wants_plain rfl, does_nil _ rfl rfl rfl rfl rfl (ar_tmp (av_rs 0 0 rfl rfl))⟩,
            .inl ⟨wants_plain rfl, does_field _ _ _ 0 ScopeS_f_scope_Table_string__0 rfl rfl rfl rfl rfl rfl (pt_ptr (ar_tmp (av_rs 1 1 rfl rfl)))⟩,
            .inl ⟨wants_plain rfl, does_loadOne _ ScopeS_one_map_string_string rfl rfl rfl rfl rfl (pt_pt (av_rs 2 2 rfl rfl)) (rds_box (off := 0) (av_fs 6 rfl) (hq_one rfl))⟩,
            .inl ⟨wants_plain rfl, does_move _ (.inl rfl) rfl rfl rfl rfl (ar_tmp (av_fs 12 rfl))⟩,
            .inl ⟨wants_plain rfl, does_mapDel (K := mkStr) s _ _ Try.underlying150 Try.underlying9 rfl rfl rfl rfl (mdel_ent _ _ _ _) (av_os 0 5 rfl rfl) (ar_tmp (av_rs 3 3 rfl rfl)) (key_str (ar_tmp (av_rs 4 4 rfl rfl)))⟩,
            trivial⟩ ?_
          refine nx_sub (fs' := [.is (.tmp 0) (VP.ptr v), .is (.tmp 1) (VP.int .i64 n), .is (.tmp 5) (VP.int .i64 (((d.left n) : Nat) : Int)), .sub 34 (.val us) (d.left n) (d.names.length - (d.left n)), .is (.tmp 35) (VP.int .i64 (((d.names.length - (d.left n)) : Nat) : Int)), .is (.tmp 36) (VP.int .i64 ((k : Nat) : Int)), .own 0 (.val v) (HA.cells 152 [HA.of (VP.eq um true true), HA.of (VP.eq us true true), HA.of (VP.eq ul true true)]), .own 102 (.val us) (HA.row 9 1 d.names.length ((d.names.flatMap cStr).map HA.of)), .own 103 (.val ul) (HA.row 3 1 d.levels.length ((d.levels.flatMap cNat).map HA.of)), .is (.tmp 37) (VP.bool (decide (((k : Nat) : Int) < (((d.names.length - (d.left n)) : Nat) : Int)))), .pt 38 (.row (.val us) (((d.left n) + k) * 1)), .is (.tmp 39) (VP.str s), .is (.tmp 7) (VP.str s), .is (.tmp 40) (VP.ptr v), .is (.tmp 41) (VP.ptr v), .pt 42 (.blk (.val v) 0), .is (.tmp 43) (VP.eq um true true), .is (.tmp 44) (VP.str s), .own 101 (.val um) (HA.map mkStr (mEnt VP.str (mdel mkStr s (dels ((d.names.drop (d.left n)).take k) d.told))))]) [0, 1, 2, 3, 4, 5, 6, 7, 8, 9, 10, 11, 12, 13, 14, 15, 16, 17, 18] rfl ?_
          refine nx_block ?_
          refine nx_then ?_
          refine t_region (F := ⟨_, _, _, _, _, _⟩) [.is (.tmp 0) (VP.ptr v), .is (.tmp 1) (VP.int .i64 n), .is (.tmp 5) (VP.int .i64 (((d.left n) : Nat) : Int)), .sub 34 (.val us) (d.left n) (d.names.length - (d.left n)), .is (.tmp 35) (VP.int .i64 (((d.names.length - (d.left n)) : Nat) : Int)), .own 0 (.val v) (HA.cells 152 [HA.of (VP.eq um true true), HA.of (VP.eq us true true), HA.of (VP.eq ul true true)]), .own 102 (.val us) (HA.row 9 1 d.names.length ((d.names.flatMap cStr).map HA.of)), .own 103 (.val ul) (HA.row 3 1 d.levels.length ((d.levels.flatMap cNat).map HA.of)), .is (.tmp 37) (VP.bool (decide (((k : Nat) : Int) < (((d.names.length - (d.left n)) : Nat) : Int)))), .pt 38 (.row (.val us) (((d.left n) + k) * 1)), .is (.tmp 39) (VP.str s), .is (.tmp 7) (VP.str s), .is (.tmp 40) (VP.ptr v), .is (.tmp 41) (VP.ptr v), .pt 42 (.blk (.val v) 0), .is (.tmp 43) (VP.eq um true true), .is (.tmp 44) (VP.str s), .own 101 (.val um) (HA.map mkStr (mEnt VP.str (mdel mkStr s (dels ((d.names.drop (d.left n)).take k) d.told))))] [(1, .is (.tmp 36) (VP.int .i64 ((k : Nat) : Int)))] [(0, .is (.tmp 45) (VP.int .i64 (((k + 1) : Nat) : Int))), (1, .is (.tmp 36) (VP.int .i64 (((k + 1) : Nat) : Int)))] [] [0, 1, 2, 3, 4, 6, 7, 8, 9, 10, 11, 12, 13, 14, 15, 16, 17, 18] [5] [[], [0]] [[1], []] rfl rfl follow rfl ⟨
            .inl ⟨wants_plain rfl, does_addE (m := ((k : Nat) : Int)) (n := 1) (x := (((k + 1) : Nat) : Int)) (by omega) _ _ _ _ rfl rfl rfl rfl rfl (by omega) (ar_tmp (av_os 0 1 rfl rfl)) (ar_const (fun _ _ => rfl))⟩,
            .inl ⟨wants_plain rfl, does_move _ (.inl rfl) rfl rfl rfl rfl (ar_tmp (av_rs 0 0 rfl rfl))⟩,
            trivial⟩ ?_
          refine nx_sub (fs' := [.is (.tmp 0) (VP.ptr v), .is (.tmp 1) (VP.int .i64 n), .is (.tmp 5) (VP.int .i64 (((d.left n) : Nat) : Int)), .sub 34 (.val us) (d.left n) (d.names.length - (d.left n)), .is (.tmp 35) (VP.int .i64 (((d.names.length - (d.left n)) : Nat) : Int)), .own 0 (.val v) (HA.cells 152 [HA.of (VP.eq um true true), HA.of (VP.eq us true true), HA.of (VP.eq ul true true)]), .own 102 (.val us) (HA.row 9 1 d.names.length ((d.names.flatMap cStr).map HA.of)), .own 103 (.val ul) (HA.row 3 1 d.levels.length ((d.levels.flatMap cNat).map HA.of)), .is (.tmp 37) (VP.bool (decide (((k : Nat) : Int) < (((d.names.length - (d.left n)) : Nat) : Int)))), .pt 38 (.row (.val us) (((d.left n) + k) * 1)), .is (.tmp 39) (VP.str s), .is (.tmp 7) (VP.str s), .is (.tmp 40) (VP.ptr v), .is (.tmp 41) (VP.ptr v), .pt 42 (.blk (.val v) 0), .is (.tmp 43) (VP.eq um true true), .is (.tmp 44) (VP.str s), .own 101 (.val um) (HA.map mkStr (mEnt VP.str (mdel mkStr s (dels ((d.names.drop (d.left n)).take k) d.told)))), .is (.tmp 45) (VP.int .i64 (((k + 1) : Nat) : Int)), .is (.tmp 36) (VP.int .i64 (((k + 1) : Nat) : Int))]) [0, 1, 2, 3, 4, 5, 6, 7, 8, 9, 10, 11, 12, 13, 14, 15, 16, 17, 18, 19] rfl ?_
          refine t_sub (fs' := [.own 101 (.val um) (HA.map mkStr (mEnt VP.str (mdel mkStr s (dels ((d.names.drop (d.left n)).take k) d.told)))), .is (.tmp 0) (VP.ptr v), .is (.tmp 1) (VP.int .i64 n), .is (.tmp 5) (VP.int .i64 (((d.left n) : Nat) : Int)), .sub 34 (.val us) (d.left n) (d.names.length - (d.left n)), .is (.tmp 35) (VP.int .i64 (((d.names.length - (d.left n)) : Nat) : Int)), .own 0 (.val v) (HA.cells 152 [HA.of (VP.eq um true true), HA.of (VP.eq us true true), HA.of (VP.eq ul true true)]), .own 102 (.val us) (HA.row 9 1 d.names.length ((d.names.flatMap cStr).map HA.of)), .own 103 (.val ul) (HA.row 3 1 d.levels.length ((d.levels.flatMap cNat).map HA.of)), .is (.tmp 37) (VP.bool (decide (((k : Nat) : Int) < (((d.names.length - (d.left n)) : Nat) : Int)))), .pt 38 (.row (.val us) (((d.left n) + k) * 1)), .is (.tmp 39) (VP.str s), .is (.tmp 7) (VP.str s), .is (.tmp 40) (VP.ptr v), .is (.tmp 41) (VP.ptr v), .pt 42 (.blk (.val v) 0), .is (.tmp 43) (VP.eq um true true), .is (.tmp 44) (VP.str s), .is (.tmp 45) (VP.int .i64 (((k + 1) : Nat) : Int)), .is (.tmp 36) (VP.int .i64 (((k + 1) : Nat) : Int))]) [17, 0, 1, 2, 3, 4, 5, 6, 7, 8, 9, 10, 11, 12, 13, 14, 15, 16, 18, 19] rfl ?_
          refine t_weak (R' := HA.map mkStr (mEnt VP.str (dels ((d.names.drop (d.left n)).take (k + 1)) d.told))) (fun _ _ _ _ h => by rw [← dels_snoc (s := s) (by rw [List.getElem?_drop]; exact hs)]; exact h) rfl ?_
          refine t_sub (fs' := [.own 101 (.val um) (HA.map mkStr (mEnt VP.str (dels ((d.names.drop (d.left n)).take (k + 1)) d.told))), .is (.tmp 0) (VP.ptr v), .is (.tmp 1) (VP.int .i64 n), .is (.tmp 5) (VP.int .i64 (((d.left n) : Nat) : Int)), .sub 34 (.val us) (d.left n) (d.names.length - (d.left n)), .is (.tmp 35) (VP.int .i64 (((d.names.length - (d.left n)) : Nat) : Int)), .own 0 (.val v) (HA.cells 152 [HA.of (VP.eq um true true), HA.of (VP.eq us true true), HA.of (VP.eq ul true true)]), .own 102 (.val us) (HA.row 9 1 d.names.length ((d.names.flatMap cStr).map HA.of)), .own 103 (.val ul) (HA.row 3 1 d.levels.length ((d.levels.flatMap cNat).map HA.of)), .is (.tmp 37) (VP.bool (decide (((k : Nat) : Int) < (((d.names.length - (d.left n)) : Nat) : Int)))), .pt 38 (.row (.val us) (((d.left n) + k) * 1)), .is (.tmp 39) (VP.str s), .is (.tmp 7) (VP.str s), .is (.tmp 40) (VP.ptr v), .is (.tmp 41) (VP.ptr v), .pt 42 (.blk (.val v) 0), .is (.tmp 43) (VP.eq um true true), .is (.tmp 44) (VP.str s), .is (.tmp 45) (VP.int .i64 (((k + 1) : Nat) : Int)), .is (.tmp 36) (VP.int .i64 (((k + 1) : Nat) : Int))]) [0, 1, 2, 3, 4, 5, 6, 7, 8, 9, 10, 11, 12, 13, 14, 15, 16, 17, 18, 19] rfl ?_
          refine nx_round (τ := {k : Nat // k ≤ d.names.length - (d.left n)}) (I := fun ⟨k, _⟩ => [.is (.tmp 0) (VP.ptr v), .is (.tmp 1) (VP.int .i64 n), .is (.tmp 5) (VP.int .i64 (((d.left n) : Nat) : Int)), .sub 34 (.val us) (d.left n) (d.names.length - (d.left n)), .is (.tmp 35) (VP.int .i64 (((d.names.length - (d.left n)) : Nat) : Int)), .is (.tmp 36) (VP.int .i64 ((k : Nat) : Int)), .own 0 (.val v) (HA.cells 152 [HA.of (VP.eq um true true), HA.of (VP.eq us true true), HA.of (VP.eq ul true true)]), .own 101 (.val um) (HA.map mkStr (mEnt VP.str (dels ((d.names.drop (d.left n)).take k) d.told))), .own 102 (.val us) (HA.row 9 1 d.names.length ((d.names.flatMap cStr).map HA.of)), .own 103 (.val ul) (HA.row 3 1 d.levels.length ((d.levels.flatMap cNat).map HA.of))]) (μ := fun ⟨k, _⟩ => d.names.length - (d.left n) - k) (s := ⟨k, hk⟩) (⟨k + 1, by omega⟩) ?_ [1, 2, 3, 4, 5, 19, 6, 0, 7, 8] ?_
          · exact (show d.names.length - (d.left n) - (k + 1) < d.names.length - (d.left n) - k by omega)
          · exact rfl
        · have hc4 := of_decide_eq_false hb4
          refine t_exit ?_
          refine ex_then ?_
          refine ex_then ?_
          refine ex_block ?_
          refine t_sub (fs' := [.own 101 (.val um) (HA.map mkStr (mEnt VP.str (dels ((d.names.drop (d.left n)).take k) d.told))), .is (.tmp 0) (VP.ptr v), .is (.tmp 1) (VP.int .i64 n), .is (.tmp 5) (VP.int .i64 (((d.left n) : Nat) : Int)), .sub 34 (.val us) (d.left n) (d.names.length - (d.left n)), .is (.tmp 35) (VP.int .i64 (((d.names.length - (d.left n)) : Nat) : Int)), .is (.tmp 36) (VP.int .i64 ((k : Nat) : Int)), .own 0 (.val v) (HA.cells 152 [HA.of (VP.eq um true true), HA.of (VP.eq us true true), HA.of (VP.eq ul true true)]), .own 102 (.val us) (HA.row 9 1 d.names.length ((d.names.flatMap cStr).map HA.of)), .own 103 (.val ul) (HA.row 3 1 d.levels.length ((d.levels.flatMap cNat).map HA.of)), .is (.tmp 37) (VP.bool (decide (((k : Nat) : Int) < (((d.names.length - (d.left n)) : Nat) : Int))))]) [7, 0, 1, 2, 3, 4, 5, 6, 8, 9, 10] rfl ?_
          refine t_weak (R' := HA.map mkStr (mEnt VP.str (dels (d.names.drop (d.left n)) d.told))) (fun _ _ _ _ h => by rw [List.take_of_length_le (by rw [List.length_drop]; omega)] at h; exact h) rfl ?_
          refine t_sub (fs' := [.own 101 (.val um) (HA.map mkStr (mEnt VP.str (dels (d.names.drop (d.left n)) d.told))), .is (.tmp 0) (VP.ptr v), .is (.tmp 1) (VP.int .i64 n), .is (.tmp 5) (VP.int .i64 (((d.left n) : Nat) : Int)), .sub 34 (.val us) (d.left n) (d.names.length - (d.left n)), .is (.tmp 35) (VP.int .i64 (((d.names.length - (d.left n)) : Nat) : Int)), .is (.tmp 36) (VP.int .i64 ((k : Nat) : Int)), .own 0 (.val v) (HA.cells 152 [HA.of (VP.eq um true true), HA.of (VP.eq us true true), HA.of (VP.eq ul true true)]), .own 102 (.val us) (HA.row 9 1 d.names.length ((d.names.flatMap cStr).map HA.of)), .own 103 (.val ul) (HA.row 3 1 d.levels.length ((d.levels.flatMap cNat).map HA.of)), .is (.tmp 37) (VP.bool (decide (((k : Nat) : Int) < (((d.names.length - (d.left n)) : Nat) : Int))))]) [0, 1, 2, 3, 4, 5, 6, 7, 8, 9, 10] rfl ?_
          refine nx_then ?_
          refine t_seq ?_
          refine t_region (F := ⟨_, _, _, _, _, _⟩) [.own 101 (.val um) (HA.map mkStr (mEnt VP.str (dels (d.names.drop (d.left n)) d.told))), .is (.tmp 0) (VP.ptr v), .is (.tmp 1) (VP.int .i64 n), .is (.tmp 5) (VP.int .i64 (((d.left n) : Nat) : Int)), .sub 34 (.val us) (d.left n) (d.names.length - (d.left n)), .is (.tmp 35) (VP.int .i64 (((d.names.length - (d.left n)) : Nat) : Int)), .is (.tmp 36) (VP.int .i64 ((k : Nat) : Int)), .is (.tmp 37) (VP.bool (decide (((k : Nat) : Int) < (((d.names.length - (d.left n)) : Nat) : Int))))] [(19, .own 0 (.val v) (HA.cells 152 [HA.of (VP.eq um true true), HA.of (VP.eq us true true), HA.of (VP.eq ul true true)])), (7, .own 102 (.val us) (HA.row 9 1 d.names.length ((d.names.flatMap cStr).map HA.of))), (16, .own 103 (.val ul) (HA.row 3 1 d.levels.length ((d.levels.flatMap cNat).map HA.of)))] [(0, .is (.tmp 46) (VP.ptr v)), (1, .is (.tmp 47) (VP.ptr v)), (2, .is (.tmp 48) (VP.ptr v)), (3, .is (.tmp 49) (VP.ptr v)), (4, .pt 50 (.blk (.val v) 1)), (5, .is (.tmp 51) (VP.eq us true true)), (6, .is (.tmp 52) (VP.int .i64 (((d.left n) : Nat) : Int))), (8, .is (.tmp 54) (VP.ptr v)), (9, .is (.tmp 55) (VP.ptr v)), (10, .pt 56 (.blk (.val v) 2)), (11, .is (.tmp 57) (VP.eq ul true true)), (12, .is (.tmp 58) (VP.ptr v)), (13, .is (.tmp 59) (VP.int .i64 ((d.levels.length : Nat) : Int))), (14, .is (.tmp 60) (VP.int .i64 n)), (15, .is (.tmp 61) (VP.int .i64 (((d.levels.length : Nat) : Int) - n))), (17, .is (.tmp 63) (VP.ptr v)), (18, .pt 64 (.blk (.val v) 1)), (20, .is (.tmp 65) (VP.ptr v)), (21, .pt 66 (.blk (.val v) 2)), (22, .own 0 (.val v) (HA.cells 152 [HA.of (VP.eq um true true), HA.row 9 1 ((d.names.take (d.left n)).length) (((d.names.take (d.left n)).flatMap cStr).map HA.of), HA.row 3 1 ((d.levels.take (d.levels.length - n.toNat)).length) (((d.levels.take (d.levels.length - n.toNat)).flatMap cNat).map HA.of)]))] [(7, 19, .own 102 (.tmp 53) (HA.row 9 1 ((d.names.take (d.left n)).length) (((d.names.take (d.left n)).flatMap cStr).map HA.of))), (16, 22, .own 103 (.tmp 62) (HA.row 3 1 ((d.levels.take (d.levels.length - n.toNat)).length) (((d.levels.take (d.levels.length - n.toNat)).flatMap cNat).map HA.of))), (19, 22, .own 0 (.val v) (HA.cells 152 [HA.of (VP.eq um true true), HA.row 9 1 ((d.names.take (d.left n)).length) (((d.names.take (d.left n)).flatMap cStr).map HA.of), HA.of (VP.eq ul true true)]))] [0, 1, 2, 3, 4, 5, 6, 10] [7, 8, 9] [[], [], [], [2], [2, 3], [2, 3, 4], [], [2, 3, 4, 5, 6], [], [8], [8, 9], [8, 9, 10], [], [12], [], [12, 13, 14], [8, 9, 10, 11, 12, 13, 14, 15], [0, 2, 3, 4, 5, 6, 7, 8, 9, 10, 11, 12, 13], [0, 2, 3, 4, 5, 6, 7, 8, 9, 10, 11, 12, 13, 17], [0, 2, 3, 4, 5, 6, 7, 8, 9, 10, 11, 12, 13, 17, 18], [0, 1, 2, 3, 4, 5, 6, 7, 8, 9, 10, 11, 12, 13, 14, 15, 16, 17, 18, 19], [0, 1, 2, 3, 4, 5, 6, 7, 8, 9, 10, 11, 12, 13, 14, 15, 16, 17, 18, 19, 20], [0, 1, 2, 3, 4, 5, 6, 7, 8, 9, 10, 11, 12, 13, 14, 15, 16, 17, 18, 19, 20, 21]] [[17, 18, 19, 20, 21, 22], [20, 21, 22], [3, 4, 5, 7, 17, 18, 19, 20, 21, 22], [4, 5, 7, 17, 18, 19, 20, 21, 22], [5, 7, 17, 18, 19, 20, 21, 22], [7, 17, 18, 19, 20, 21, 22], [7, 17, 18, 19, 20, 21, 22], [17, 18, 19, 20, 21, 22], [9, 10, 11, 16, 17, 18, 19, 20, 21, 22], [10, 11, 16, 17, 18, 19, 20, 21, 22], [11, 16, 17, 18, 19, 20, 21, 22], [16, 17, 18, 19, 20, 21, 22], [13, 15, 16, 17, 18, 19, 20, 21, 22], [15, 16, 17, 18, 19, 20, 21, 22], [15, 16, 20, 21, 22], [16, 20, 21, 22], [20, 21, 22], [18, 19, 20, 21, 22], [19, 20, 21, 22], [20, 21, 22], [21, 22], [22], []] rfl rfl follow rfl ⟨
            .inl ⟨wants_plain rfl, does_move _ (.inl rfl) rfl rfl rfl rfl (ar_tmp (av_fs 1 rfl))⟩,
            .inl ⟨wants_plain rfl, does_move _ (.inl rfl) rfl rfl rfl rfl (ar_tmp (av_fs 1 rfl))⟩,
            .inl ⟨wants_plain rfl, does_move _ (.inl rfl) rfl rfl rfl rfl (ar_tmp (av_fs 1 rfl))⟩,
            .inl ⟨wants_plain rfl, does_nil _ rfl rfl rfl rfl rfl (ar_tmp (av_rs 2 2 rfl rfl))⟩,
            .inl ⟨wants_plain rfl, does_field _ _ _ 1 ScopeS_f_scope_Table_string__1 rfl rfl rfl rfl rfl rfl (pt_ptr (ar_tmp (av_rs 3 3 rfl rfl)))⟩,
            .inl ⟨wants_plain rfl, does_loadOne _ ScopeS_one___string rfl rfl rfl rfl rfl (pt_pt (av_rs 4 4 rfl rfl)) (rds_box (off := 1) (av_os 0 19 rfl rfl) (hq_one rfl))⟩,
            .inl ⟨wants_plain rfl, does_move _ (.inl rfl) rfl rfl rfl rfl (ar_tmp (av_fs 3 rfl))⟩,
            .inl ⟨wants_plain rfl, does_cutOwn (h := (d.left n)) _ Try.underlying31 ScopeS_size_string rfl rfl rfl rfl rfl (by simp only [List.length_take]; omega) (by omega) (flat_takeH cStr_len _ _) ⟨_, (ar_tmp (av_rs 6 6 rfl rfl))⟩ (mv_ownv (av_os 1 7 rfl rfl) (ar_tmp (av_rs 5 5 rfl rfl)))⟩,
            .inl ⟨wants_plain rfl, does_move _ (.inl rfl) rfl rfl rfl rfl (ar_tmp (av_fs 1 rfl))⟩,
            .inl ⟨wants_plain rfl, does_nil _ rfl rfl rfl rfl rfl (ar_tmp (av_rs 7 8 rfl rfl))⟩,
            .inl ⟨wants_plain rfl, does_field _ _ _ 2 ScopeS_f_scope_Table_string__2 rfl rfl rfl rfl rfl rfl (pt_ptr (ar_tmp (av_rs 8 9 rfl rfl)))⟩,
            .inl ⟨wants_plain rfl, does_loadOne _ ScopeS_one___int rfl rfl rfl rfl rfl (pt_pt (av_rs 9 10 rfl rfl)) (rds_box (off := 2) (av_os 0 19 rfl rfl) (hq_one rfl))⟩,
            .inl ⟨wants_plain rfl, does_move _ (.inl rfl) rfl rfl rfl rfl (ar_tmp (av_fs 1 rfl))⟩,
            .inl ⟨wants_plain rfl, does_call (sc_LevelsS_o (v := v) (l := ul) (ls := d.levels) (A := HA.of (VP.eq um true true)) (B := HA.of (VP.eq us true true))) (fun _ _ _ _ h => h) rfl ScopeS_hb___collator_scope_Table_string___Levels rfl rfl rfl rfl ar_clo (ars_cons (pa_vp (ar_tmp (av_rs 11 12 rfl rfl))) ars_nil) ⟨(brw_own (av_os 0 19 rfl rfl) rfl), (brw_own (av_os 2 16 rfl rfl) rfl), trivial⟩⟩,
            .inl ⟨wants_plain rfl, does_move _ (.inl rfl) rfl rfl rfl rfl (ar_tmp (av_fs 2 rfl))⟩,
            .inl ⟨wants_plain rfl, does_subE (m := ((d.levels.length : Nat) : Int)) (n := n) (x := (((d.levels.length : Nat) : Int) - n)) (by omega) _ _ _ _ rfl rfl rfl rfl rfl (by omega) (ar_tmp (av_rs 12 13 rfl rfl)) (ar_tmp (av_rs 13 14 rfl rfl))⟩,
            .inl ⟨wants_plain rfl, does_cutOwn (h := (d.levels.length - n.toNat)) _ Try.underlying35 ScopeS_size_int rfl rfl rfl rfl rfl (by simp only [List.length_take]; omega) (by omega) (flat_takeH cNat_len _ _) ⟨_, (ar_int_eq (by omega) (ar_tmp (av_rs 14 15 rfl rfl)))⟩ (mv_ownv (av_os 2 16 rfl rfl) (ar_tmp (av_rs 10 11 rfl rfl)))⟩,
            .inl ⟨wants_plain rfl, does_nil _ rfl rfl rfl rfl rfl (ar_tmp (av_rs 0 0 rfl rfl))⟩,
            .inl ⟨wants_plain rfl, does_field _ _ _ 1 ScopeS_f_scope_Table_string__1 rfl rfl rfl rfl rfl rfl (pt_ptr (ar_tmp (av_rs 15 17 rfl rfl)))⟩,
            .inl ⟨wants_plain rfl, does_store (off := 1) (Qs := [HA.row 9 1 ((d.names.take (d.left n)).length) (((d.names.take (d.left n)).flatMap cStr).map HA.of)]) _ _ ScopeS_size___string rfl rfl rfl rfl rfl rfl (pt_pt (av_rs 16 18 rfl rfl)) (av_os 0 19 rfl rfl) (cv_one rfl (mv_own (av_ms 0 7 19 rfl rfl rfl)))⟩,
            .inl ⟨wants_plain rfl, does_nil _ rfl rfl rfl rfl rfl (ar_tmp (av_rs 1 1 rfl rfl))⟩,
            .inl ⟨wants_plain rfl, does_field _ _ _ 2 ScopeS_f_scope_Table_string__2 rfl rfl rfl rfl rfl rfl (pt_ptr (ar_tmp (av_rs 17 20 rfl rfl)))⟩,
            .inl ⟨wants_plain rfl, does_store (off := 2) (Qs := [HA.row 3 1 ((d.levels.take (d.levels.length - n.toNat)).length) (((d.levels.take (d.levels.length - n.toNat)).flatMap cNat).map HA.of)]) _ _ ScopeS_size___int rfl rfl rfl rfl rfl rfl (pt_pt (av_rs 18 21 rfl rfl)) (av_ms 2 19 22 rfl rfl rfl) (cv_one rfl (mv_own (av_ms 1 16 22 rfl rfl rfl)))⟩,
            trivial⟩ ?_
          refine nx_sub (fs' := [.own 101 (.val um) (HA.map mkStr (mEnt VP.str (dels (d.names.drop (d.left n)) d.told))), .own 0 (.val v) (HA.cells 152 [HA.of (VP.eq um true true), HA.row 9 1 ((d.names.take (d.left n)).length) (((d.names.take (d.left n)).flatMap cStr).map HA.of), HA.row 3 1 ((d.levels.take (d.levels.length - n.toNat)).length) (((d.levels.take (d.levels.length - n.toNat)).flatMap cNat).map HA.of)])]) [0, 27] rfl ?_
          refine nx_then ?_
          refine t_seq ?_
          refine t_region (F := ⟨_, _, _, _, _, _⟩) [.own 101 (.val um) (HA.map mkStr (mEnt VP.str (dels (d.names.drop (d.left n)) d.told))), .own 0 (.val v) (HA.cells 152 [HA.of (VP.eq um true true), HA.row 9 1 ((d.names.take (d.left n)).length) (((d.names.take (d.left n)).flatMap cStr).map HA.of), HA.row 3 1 ((d.levels.take (d.levels.length - n.toNat)).length) (((d.levels.take (d.levels.length - n.toNat)).flatMap cNat).map HA.of)])] [] [(0, .is (.tmp 4) (VP.int .i64 0))] [] [0, 1] [] [[]] [[]] rfl rfl follow rfl ⟨
            .inl ⟨wants_plain rfl, does_move _ (.inr rfl) rfl rfl rfl rfl (ar_const (fun _ _ => rfl))⟩,
            trivial⟩ ?_
          refine nx_sub (fs' := [.own 101 (.val um) (HA.map mkStr (mEnt VP.str (dels (d.names.drop (d.left n)) d.told))), .own 0 (.val v) (HA.cells 152 [HA.of (VP.eq um true true), HA.row 9 1 ((d.names.take (d.left n)).length) (((d.names.take (d.left n)).flatMap cStr).map HA.of), HA.row 3 1 ((d.levels.take (d.levels.length - n.toNat)).length) (((d.levels.take (d.levels.length - n.toNat)).flatMap cNat).map HA.of)]), .is (.tmp 4) (VP.int .i64 0)]) [0, 1, 2] rfl ?_
          refine nx_then ?_
          refine t_sub (fs' := [.own 0 (.val v) (HA.cells 152 [HA.of (VP.eq um true true), HA.row 9 1 ((d.names.take (d.left n)).length) (((d.names.take (d.left n)).flatMap cStr).map HA.of), HA.row 3 1 ((d.levels.take (d.levels.length - n.toNat)).length) (((d.levels.take (d.levels.length - n.toNat)).flatMap cNat).map HA.of)]), .own 101 (.val um) (HA.map mkStr (mEnt VP.str (dels (d.names.drop (d.left n)) d.told))), .is (.tmp 4) (VP.int .i64 0)]) [1, 0, 2] rfl ?_
          refine t_whole (whole_cells (T' := 152) (Rs := [HA.of (VP.eq um true true), HA.row 9 1 ((d.names.take (d.left n)).length) (((d.names.take (d.left n)).flatMap cStr).map HA.of), HA.row 3 1 ((d.levels.take (d.levels.length - n.toNat)).length) (((d.levels.take (d.levels.length - n.toNat)).flatMap cNat).map HA.of)]) (j := 0) (show 0 < 3 by decide)) rfl rfl ?_
          refine t_sub (fs' := [.own 0 (.val v) (HA.cells 152 [HA.map mkStr (mEnt VP.str (dels (d.names.drop (d.left n)) d.told)), HA.row 9 1 ((d.names.take (d.left n)).length) (((d.names.take (d.left n)).flatMap cStr).map HA.of), HA.row 3 1 ((d.levels.take (d.levels.length - n.toNat)).length) (((d.levels.take (d.levels.length - n.toNat)).flatMap cNat).map HA.of)]), .is (.tmp 4) (VP.int .i64 0)]) [0, 1] rfl ?_
          refine t_sub (fs' := [.own 0 (.val v) (HA.cells 152 [HA.map mkStr (mEnt VP.str (dels (d.names.drop (d.left n)) d.told)), HA.row 9 1 ((d.names.take (d.left n)).length) (((d.names.take (d.left n)).flatMap cStr).map HA.of), HA.row 3 1 ((d.levels.take (d.levels.length - n.toNat)).length) (((d.levels.take (d.levels.length - n.toNat)).flatMap cNat).map HA.of)]), .is (.tmp 4) (VP.int .i64 0)]) [0, 1] rfl ?_
          refine t_sub (fs' := [.own 0 (.val v) (HA.cells 152 [HA.map mkStr (mEnt VP.str (dels (d.names.drop (d.left n)) d.told)), HA.row 9 1 ((d.names.take (d.left n)).length) (((d.names.take (d.left n)).flatMap cStr).map HA.of), HA.row 3 1 ((d.levels.take (d.levels.length - n.toNat)).length) (((d.levels.take (d.levels.length - n.toNat)).flatMap cNat).map HA.of)]), .is (.tmp 4) (VP.int .i64 0)]) [0, 1] rfl ?_
          refine t_weak (R' := Tab 152 VP.str (d.pop n)) (fun Z v w S h => by rw [show d.pop n = ⟨(dels (d.names.drop (d.left n)) d.told), d.names.take (d.left n), d.levels.take (d.levels.length - n.toNat)⟩ from if_pos (by omega)]; exact h) rfl ?_
          refine t_sub (fs' := [.own 0 (.val v) (Tab 152 VP.str (d.pop n)), .is (.tmp 4) (VP.int .i64 0)]) [0, 1] rfl ?_
          refine t_ret ?_
          exact rt_post [HA.of (VP.int .i64 (d.popE n))] [[]] [0] [0] rfl ⟨(rv_eq (congrArg HA.of (congrArg (VP.int .i64) (show (0 : Int) = d.popE n from Eq.symm ((if_neg (by omega)).trans (if_neg (by omega)))))) (rv_vp 1 rfl)), trivial⟩ (by decide) rfl rfl

end O
end Go.Proofs.Ytogodjiemgilaaa

/- More ghost steps. -/
namespace Go.Proofs.Ytogodjiemgilaaa
open Go.RowKit
namespace O
variable {F : Fr} {rest : List Fact} {K : Act → World → Prop}
/-- where a block of cells stands there is a pointer -/
theorem t_knowP {id : Nat} {u : Value} {T' : TypeId} {Rs : List HA} (h : (∃ g o, u = .pointer (some ⟨g, o, none⟩)) → Sat F (.own id (.val u) (HA.cells T' Rs) :: rest) K) : Sat F (.own id (.val u) (HA.cells T' Rs) :: rest) K :=
  t_know (fun γ a w ⟨v, e, g, cs, S', h1, _⟩ => ⟨g, 0, by cases e; exact h1⟩) h
theorem ptr_of_eq {u : Value} {nu one : Bool} (hu : ∃ g o, u = .pointer (some ⟨g, o, none⟩)) : ∀ Z v w S, (HA.of (VP.eq u nu one)).p Z v w S → (HA.of (VP.ptr u)).p Z v w S := fun _ _ _ _ ⟨h, hs⟩ => ⟨⟨h.1, hu⟩, hs⟩
end O
end Go.Proofs.Ytogodjiemgilaaa
