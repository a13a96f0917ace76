/- A law for a region that draws its order, whose last operation (a store) waits for all others: what is known of each value, then the frame, then the last operation alone. -/
import Derived.Test.YtopmfjgifabdmaaFrame
namespace Go.Proofs.Ytopmfjgifabdmaa
open Go.RowKit

section
variable {P : Program} {ops : Array Oper} {Q : Exit → Act → World → Prop}

theorem wp_region_last {id : Nat} {a0 : Act} {w0 : World} (hm : P.follows .mixedOrders = true) (hback : backB ops = true) (hown : ownB a0.tmps.size ops = true) (n : Nat) (o : Oper) (hn : ops[n]? = some o) (hsz : ops.size = n + 1)
    (hwait : ((List.range n).all fun j => o.after.any fun e => Region.binds .any e && e.on == j) = true) (hgd : o.guard = none) (hdst : o.dst = none)
    (L : List (Value → World → Prop)) (hmono : ∀ p ∈ L, ∀ v w w', Below w.heap.size w w' → p v w → p v w')
    (hsteps : StepsFrom P ops Q (fun i => L.getD i fun _ _ => False) a0 w0 0 (ops.toList.take n))
    (hlast : ∀ a w, Facts ops (fun i => L.getD i fun _ _ => False) a0 w0 (fun _ => true) a w → wpList P ops Q [o] a w) : (Code.region id ops true).wp P Q a0 w0 := by
  have hmono' : ∀ i v w w', Below w.heap.size w w' → (L.getD i fun _ _ => False) v w → (L.getD i fun _ _ => False) v w' := fun i v w w' hb h => by
    simp only [List.getD_eq_getElem?_getD] at h ⊢
    cases hi : L[i]? with
    | none => rw [hi] at h; exact h.elim
    | some p => rw [hi] at h; exact hmono p (List.mem_of_getElem? hi) v w w' hb h
  refine wp_region_any hm (wpAny_inv hback (fun listed a w => (listed.getD n false = false ∧ Facts ops (fun i => L.getD i fun _ _ => False) a0 w0 (fun j => listed.getD j false) a w) ∨ (listed.getD n false = true ∧ (∀ j, j < n → listed.getD j false = true) ∧ Q .normal a w)) ?_ ?_ ops.size _ a0 _ (by simp) ?_ ?_)
  · intro listed a w i hs hI hi
    obtain ⟨h0, o', ho, hall⟩ := mem_ready.1 hi
    have hil : i < ops.size := (Array.getElem?_eq_some_iff.1 ho).1
    have hnew : (listed.setIfInBounds i true).getD i false = true := by simp [show i < listed.size by omega]
    rcases hI with ⟨hnl, hF⟩ | ⟨hnl, hnall, hQ⟩
    · by_cases hin : i = n
      · subst hin
        rw [hn] at ho; cases ho
        have hbefore : ∀ j, j < i → listed.getD j false = true := fun j hj => by
          rw [List.all_eq_true] at hwait
          have := hwait j (List.mem_range.2 hj)
          rw [Array.any_eq_true'] at this
          obtain ⟨e, he, hej⟩ := this
          simp only [Bool.and_eq_true, beq_iff_eq] at hej
          rw [← hej.2]
          exact hall e he hej.1
        have hFull : Facts ops (fun i => L.getD i fun _ _ => False) a0 w0 (fun _ => true) a w := ⟨hF.defers, hF.size, hF.world, hF.old, fun j p d _ hp hd => by
          by_cases e : j = i
          · subst e; rw [hn] at hp; cases hp; rw [hdst] at hd; cases hd
          · exact hF.val j p d (hbefore j (by have := (Array.getElem?_eq_some_iff.1 hp).1; omega)) hp hd⟩
        unfold wpOp
        have hw : Region.wanted o (yielded ops a.tmps) = true := by unfold Region.wanted; rw [hgd]
        simp only [hn, hw, if_true]
        have hl := hlast a w hFull
        unfold wpList at hl
        rw [if_pos hw] at hl
        refine hl.imp (Oper.wp_mono (fun a' w' h => .inr ⟨hnew, fun j hj => ?_, h⟩)) (fun h => h)
        rw [getD_set_ne false (by omega)]
        exact hbefore j hj
      · have hlt : i < n := by omega
        have ho' : (ops.toList.take n)[i]? = some o' := by rw [List.getElem?_take_of_lt hlt]; simpa using ho
        have hst := StepsFrom.at_ (ops.toList.take n) 0 hsteps i o' ho' a w ⟨hF.defers, hF.size, hF.world, hF.old, fun j p d hj hp hd => by
          rw [Array.any_eq_true'] at hj
          obtain ⟨e, he, hej⟩ := hj
          simp only [Bool.and_eq_true, beq_iff_eq] at hej
          obtain ⟨hbd, rfl⟩ := hej
          exact hF.val e.on p d (hall e he hbd) hp hd⟩ (by simpa using ho)
        rw [Nat.zero_add] at hst
        refine wpOp_mono (fun a' w' h' => .inl ⟨by rw [getD_set_ne false (by omega)]; exact hnl, ?_⟩) hst
        obtain ⟨v, rfl, hv, hbel⟩ := h'
        have hbel' : Below w0.heap.size w w' := hbel.mono hF.world.size
        cases hd' : o'.dst with
        | none =>
          refine ⟨hF.defers, hF.size, hF.world.trans hbel', hF.old, fun j p d hj hp hd => ?_⟩
          by_cases hji : i = j
          · subst hji; rw [ho] at hp; cases hp; rw [hd'] at hd; cases hd
          · obtain ⟨u, hu, hf⟩ := hF.val j p d (by simpa [getD_set_ne false hji] using hj) hp hd
            exact ⟨u, hu, hmono' _ _ _ _ hbel hf⟩
        | some t =>
          refine ⟨hF.defers, by simpa [Act.put] using hF.size, hF.world.trans hbel', fun s hs' => ?_, fun j p d hj hp hd => ?_⟩
          · have hne : t ≠ s := fun e => hs' i o' ho (by rw [hd', e])
            simp only [Act.put]
            rw [Array.getElem?_setIfInBounds_ne hne]
            exact hF.old s hs'
          · by_cases hji : i = j
            · subst hji
              rw [ho] at hp; cases hp
              rw [hd'] at hd; cases hd
              have hlt := (ownB_at hown ho ho hd').1
              refine ⟨v, ?_, hv⟩
              simp only [Act.put]
              rw [Array.getElem?_setIfInBounds_self_of_lt (by rw [hF.size]; exact hlt)]
            · obtain ⟨u, hu, hf⟩ := hF.val j p d (by simpa [getD_set_ne false hji] using hj) hp hd
              have hne : t ≠ d := by
                rcases (ownB_at hown ho hp hd').2 with h | h
                · exact absurd h hji
                · intro e; exact h (by rw [hd, e])
              refine ⟨u, ?_, hmono' _ _ _ _ hbel hf⟩
              simp only [Act.put]
              rw [Array.getElem?_setIfInBounds_ne hne]
              exact hu
    · exfalso
      have : listed.getD i false = true := by
        by_cases e : i = n
        · rw [e]; exact hnl
        · exact hnall i (by omega)
      have hil' : i < listed.size := by omega
      simp [hil'] at h0 this
      rw [h0] at this
      cases this
  · intro listed a w hI hall
    rcases hI with ⟨hnl, _⟩ | ⟨_, _, hQ⟩
    · have := hall n (by omega)
      rw [hnl] at this
      cases this
    · exact hQ
  · unfold left
    exact Nat.le_trans (List.countP_le_length) (by simp)
  · refine .inl ⟨?_, rfl, rfl, ⟨rfl, rfl, rfl, Nat.le_refl _, fun _ _ => rfl⟩, fun _ _ => rfl, fun i o d hi => ?_⟩
    · rw [Array.getD_eq_getD_getElem?, Array.getElem?_replicate]; split <;> rfl
    · rw [Array.getD_eq_getD_getElem?, Array.getElem?_replicate] at hi
      split at hi <;> simp at hi

/-- Each value stands in its slot. -/
def Stand (a : Act) : List Oper → List Value → Prop
  | o :: os, v :: vs => (∀ d, o.dst = some d → a.tmps[d]? = some v) ∧ Stand a os vs
  | _, _ => True
theorem Stand.at_ {a : Act} : ∀ (os : List Oper) (vs : List Value), Stand a os vs → ∀ (i : Nat) (o : Oper) (d : Nat) (v : Value), os[i]? = some o → o.dst = some d → vs[i]? = some v → a.tmps[d]? = some v := by
  intro os
  induction os with
  | nil => intro vs _ i o d v h; simp at h
  | cons x os ih =>
    intro vs hs i o d v ho hd hv
    cases vs with
    | nil => simp at hv
    | cons u vs =>
      cases i with
      | zero =>
        simp only [List.getElem?_cons_zero, Option.some.injEq] at ho hv
        subst ho hv
        exact hs.1 d hd
      | succ i => exact ih vs hs.2 i o d v (by simpa using ho) hd (by simpa using hv)

theorem Facts.frame {Φ : Nat → Value → World → Prop} {a0 a : Act} {w0 w : World} (h : Facts ops Φ a0 w0 (fun _ => true) a w) (hown : ownB a0.tmps.size ops = true) (vs : List Value) (hvs : vs.length = ops.size) (hst : Stand a ops.toList vs) :
    a = ⟨putAll a0.tmps ops.toList vs, a0.defers⟩ := by
  have ht : a.tmps = putAll a0.tmps ops.toList vs := by
    apply Array.ext_getElem?
    intro t
    by_cases hx : ∃ (i : Nat) (o : Oper), ops[i]? = some o ∧ o.dst = some t
    · obtain ⟨i, o, ho, hd⟩ := hx
      have hi : i < ops.size := (Array.getElem?_eq_some_iff.1 ho).1
      have hu : vs[i]? = some (vs[i]'(by omega)) := List.getElem?_eq_getElem (by omega)
      rw [hst.at_ _ _ i o t _ (by simpa using ho) hd hu]
      refine (putAll_at ops.toList vs a0.tmps i o t _ (by simpa using ho) hd hu (ownB_at hown ho ho hd).1 fun j p hp hne => ?_).symm
      rcases (ownB_at hown ho (by simpa using hp) hd).2 with e | e
      · exact absurd e.symm hne
      · exact e
    · rw [h.old t fun i o ho hd => hx ⟨i, o, ho, hd⟩]
      exact (putAll_other _ _ _ _ fun o ho hd => by
        obtain ⟨i, hi, rfl⟩ := List.mem_iff_getElem.1 ho
        exact hx ⟨i, _, by simp at hi; simp [hi], hd⟩).symm
  have hd := h.defers
  cases a
  simp only at ht hd
  rw [ht, hd]
end
end Go.Proofs.Ytopmfjgifabdmaa
