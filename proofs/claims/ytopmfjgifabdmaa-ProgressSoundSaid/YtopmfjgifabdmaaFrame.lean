/- What the frame is behind a region whose operations' values are known: each operation's value in its slot. -/
import Derived.Test.YtopmfjgifabdmaaRegion
namespace Go.Proofs.Ytopmfjgifabdmaa
open Go.RowKit

/-- Each operation's value is put into its slot. -/
def putAll : Array Value → List Oper → List Value → Array Value
  | T, o :: os, v :: vs => putAll (match o.dst with | some d => T.setIfInBounds d v | none => T) os vs
  | T, _, _ => T

theorem putAll_other : ∀ (os : List Oper) (vs : List Value) (T : Array Value) (t : Nat), (∀ o ∈ os, o.dst ≠ some t) → (putAll T os vs)[t]? = T[t]? := by
  intro os
  induction os with
  | nil => intro vs T t _; cases vs <;> rfl
  | cons o os ih =>
    intro vs T t h
    cases vs with
    | nil => rfl
    | cons v vs =>
      show (putAll (match o.dst with | some d => T.setIfInBounds d v | none => T) os vs)[t]? = _
      rw [ih vs _ t fun x hx => h x (List.mem_cons_of_mem _ hx)]
      have h0 := h o (List.mem_cons_self ..)
      cases hd : o.dst with
      | none => rfl
      | some d =>
        have hne : d ≠ t := fun e => h0 (by rw [hd, e])
        simp only
        rw [Array.getElem?_setIfInBounds_ne hne]
theorem putAll_at : ∀ (os : List Oper) (vs : List Value) (T : Array Value) (i : Nat) (o : Oper) (d : Nat) (v : Value), os[i]? = some o → o.dst = some d → vs[i]? = some v → d < T.size →
    (∀ (j : Nat) (p : Oper), os[j]? = some p → j ≠ i → p.dst ≠ some d) → (putAll T os vs)[d]? = some v := by
  intro os
  induction os with
  | nil => intro vs T i o d v h; simp at h
  | cons x os ih =>
    intro vs T i o d v ho hd hv hlt hj
    cases vs with
    | nil => simp at hv
    | cons u vs =>
      show (putAll (match x.dst with | some d => T.setIfInBounds d u | none => T) os vs)[d]? = _
      cases i with
      | zero =>
        simp only [List.getElem?_cons_zero, Option.some.injEq] at ho hv
        subst ho hv
        rw [putAll_other os vs _ d fun p hp => by
          obtain ⟨j, hjl, rfl⟩ := List.mem_iff_getElem.1 hp
          exact hj (j + 1) _ (by simp [hjl]) (by omega)]
        rw [hd]
        simp only
        rw [Array.getElem?_setIfInBounds_self_of_lt hlt]
      | succ i =>
        simp only [List.getElem?_cons_succ] at ho hv
        refine ih vs _ i o d v ho hd hv ?_ fun j p hp hne => hj (j + 1) p (by simpa using hp) (by omega)
        cases x.dst <;> simp [hlt]

theorem Facts.eq {ops : Array Oper} {Φ : Nat → Value → World → Prop} {a0 a : Act} {w0 w : World} (h : Facts ops Φ a0 w0 (fun _ => true) a w) (hown : ownB a0.tmps.size ops = true) (vs : List Value) (hvs : vs.length = ops.size)
    (hΦ : ∀ i v w u, Φ i v w → vs[i]? = some u → v = u) : a = ⟨putAll a0.tmps ops.toList vs, a0.defers⟩ := by
  have ht : a.tmps = putAll a0.tmps ops.toList vs := by
    apply Array.ext_getElem?
    intro t
    by_cases hx : ∃ (i : Nat) (o : Oper), ops[i]? = some o ∧ o.dst = some t
    · obtain ⟨i, o, ho, hd⟩ := hx
      obtain ⟨v, hv, hf⟩ := h.val i o t rfl ho hd
      have hi : i < ops.size := (Array.getElem?_eq_some_iff.1 ho).1
      have hu : vs[i]? = some (vs[i]'(by omega)) := List.getElem?_eq_getElem (by omega)
      rw [hv, hΦ i v w _ hf hu]
      refine (putAll_at ops.toList vs a0.tmps i o t _ (by simpa using ho) hd hu (ownB_at hown ho ho hd).1 fun j p hp hne => ?_).symm
      rcases (ownB_at hown ho (by simpa using hp) hd).2 with e | e
      · exact absurd e.symm hne
      · exact e
    · rw [h.old t fun i o ho hd => hx ⟨i, o, ho, hd⟩]
      exact (putAll_other _ _ _ _ fun o ho hd => by
        obtain ⟨i, hi, rfl⟩ := List.mem_iff_getElem.1 ho
        exact hx ⟨i, _, by simp at hi; simp [hi], hd⟩).symm
  have hd := h.defers
  cases a
  simp only at ht hd
  rw [ht, hd]

theorem vals_eq (vs : List Value) (i : Nat) (v : Value) (w : World) (u : Value) (h : ((vs.map fun u => fun (v : Value) (_ : World) => v = u).getD i fun _ _ => False) v w) (hu : vs[i]? = some u) : v = u := by
  rw [List.getD_eq_getElem?_getD, List.getElem?_map, hu] at h
  exact h
theorem wp_region_vals {P : Program} {ops : Array Oper} {Q : Exit → Act → World → Prop} {id : Nat} {a0 : Act} {w0 : World} (hm : P.follows .mixedOrders = true) (hback : backB ops = true) (hown : ownB a0.tmps.size ops = true)
    (vs : List Value) (hlen : vs.length = ops.size)
    (hsteps : StepsFrom P ops Q (fun i => (vs.map fun u => fun (v : Value) (_ : World) => v = u).getD i fun _ _ => False) a0 w0 0 ops.toList)
    (hdone : ∀ w, Below w0.heap.size w0 w → Q .normal ⟨putAll a0.tmps ops.toList vs, a0.defers⟩ w) : (Code.region id ops true).wp P Q a0 w0 := by
  refine wp_region_steps hm hback hown _ (fun p hp v w w' _ h => ?_) hsteps fun a w hF => ?_
  · obtain ⟨u, _, rfl⟩ := List.mem_map.1 hp
    exact h
  · rw [hF.eq hown vs hlen (vals_eq vs)]
    exact hdone w hF.world
end Go.Proofs.Ytopmfjgifabdmaa
