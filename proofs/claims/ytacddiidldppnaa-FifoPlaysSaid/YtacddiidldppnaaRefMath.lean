/- The document's one list of items, and the queues it stands for: plain Lean. -/
import Derived.Test.YtacddiidldppnaaRef
namespace Go.Proofs.Ytacddiidldppnaa
open Go.RowKit

/-- The queues that a list of items stands for. -/
def qOf (G : List It) : Nat → List Nat := fun q => (G.filter fun x => decide (x.q = q)).map It.id
theorem qOf_nil : qOf [] = fun _ => [] := rfl
theorem qOf_same (x : It) (G : List It) (q : Nat) (h : x.q = q) : qOf (x :: G) q = x.id :: qOf G q := by
  unfold qOf
  rw [List.filter_cons_of_pos (by simpa using h), List.map_cons]
theorem qOf_other (x : It) (G : List It) (q : Nat) (h : x.q ≠ q) : qOf (x :: G) q = qOf G q := by
  unfold qOf
  rw [List.filter_cons_of_neg (by simpa using h)]
theorem qOf_put (G : List It) (q id : Nat) : qOf (G ++ [⟨q, id⟩]) = upd (qOf G) q (qOf G q ++ [id]) := by
  funext j
  unfold upd
  by_cases e : j = q
  · subst e
    rw [if_pos rfl]
    unfold qOf
    simp [List.filter_append]
  · rw [if_neg e]
    unfold qOf
    have : ¬ q = j := fun h => e h.symm
    simp [List.filter_append, this]
theorem many_qOf (G : List It) (q : Nat) : many G (q : Int) = (qOf G q).length := by
  unfold many qOf
  rw [List.length_map, List.countP_eq_length_filter]
  congr 1
  refine List.filter_congr fun x _ => ?_
  simp only [decide_eq_decide]
  omega
theorem many_out (G : List It) (q : Int) (h : ∀ x ∈ G, (x.q : Int) ≠ q) : many G q = 0 := by
  unfold many
  rw [List.countP_eq_zero]
  intro x hx
  simpa using h x hx
theorem qOf_out {G : List It} (h : ∀ x ∈ G, x.q < 5) {q : Nat} (hq : 5 ≤ q) : qOf G q = [] := by
  unfold qOf
  rw [List.map_eq_nil_iff, List.filter_eq_nil_iff]
  intro x hx
  have := h x hx
  simp; omega
theorem gone_qOf {G : List It} (h : ∀ x ∈ G, x.q < 5) : gone (qOf G) 5 = qOf [] := by
  funext q
  unfold gone
  by_cases e : q < 5
  · rw [if_pos e]; rfl
  · rw [if_neg e, qOf_out h (by omega)]; rfl
theorem place_cons_same (x : It) (G : List It) (q : Nat) (h : x.q = q) : place (x :: G) q = some 0 := by
  unfold place; rw [List.findIdx?_cons, if_pos (by simpa using h)]
theorem place_cons_other (x : It) (G : List It) (q : Nat) (h : x.q ≠ q) : place (x :: G) q = (place G q).map (· + 1) := by
  unfold place; rw [List.findIdx?_cons, if_neg (by simpa using h)]
theorem place_nil {G : List It} {q : Nat} (h : place G q = none) : qOf G q = [] := by
  have hp := place_none h
  unfold qOf
  rw [List.map_eq_nil_iff, List.filter_eq_nil_iff]
  intro x hx
  obtain ⟨j, hj, rfl⟩ := List.mem_iff_getElem.1 hx
  simpa using hp j hj
theorem place_take : ∀ {G : List It} {q k : Nat}, place G q = some k → ∃ x r, G[k]? = some x ∧ x.q = q ∧ qOf G q = x.id :: r ∧ qOf (G.eraseIdx k) = upd (qOf G) q r
  | [], q, k, h => by simp [place] at h
  | x :: G, q, k, h => by
    by_cases e : x.q = q
    · rw [place_cons_same x G q e] at h
      cases h
      refine ⟨x, qOf G q, rfl, e, qOf_same x G q e, ?_⟩
      funext j
      by_cases ej : j = q
      · subst ej; rw [upd_same]; rfl
      · rw [upd_other _ _ ej, qOf_other x G j (by omega)]; rfl
    · rw [place_cons_other x G q e] at h
      cases hp : place G q with
      | none => rw [hp] at h; cases h
      | some m =>
        rw [hp] at h
        cases h
        obtain ⟨y, r, h1, h2, h3, h4⟩ := place_take hp
        refine ⟨y, r, by simpa using h1, h2, by rw [qOf_other x G q e]; exact h3, ?_⟩
        rw [List.eraseIdx_cons_succ]
        funext j
        by_cases ex : x.q = j
        · have ejq : j ≠ q := by omega
          rw [qOf_same x _ j ex, h4, upd_other _ _ ejq, upd_other _ _ ejq, qOf_same x G j ex]
        · rw [qOf_other x _ j ex, h4]
          by_cases ejq : j = q
          · subst ejq; rw [upd_same, upd_same]
          · rw [upd_other _ _ ejq, upd_other _ _ ejq, qOf_other x G j ex]
/-- What the document's first tells decides whether the queue is empty. -/
theorem place_some_ne {G : List It} {q k : Nat} (h : place G q = some k) : qOf G q ≠ [] := by
  obtain ⟨x, r, _, _, h3, _⟩ := place_take h
  rw [h3]; simp
/-- One is taken, of the document's list. -/
theorem takeF_place {G : List It} {t q k : Nat} (h : pick (qOf G) t = some q) (hk : place G q = some k) : ∃ x, G[k]? = some x ∧ takeF ⟨qOf G, t⟩ = some (⟨qOf (G.eraseIdx k), (q + 1) % 5⟩, x) := by
  obtain ⟨x, r, h1, h2, h3, h4⟩ := place_take hk
  refine ⟨x, h1, ?_⟩
  unfold takeF
  simp only [h, h3]
  rw [h4, ← h2]
theorem takeF_no {Q : Nat → List Nat} {t : Nat} (h : pick Q t = none) : takeF ⟨Q, t⟩ = none := by
  unfold takeF; simp only [h]
/-- A queue's items, in the order in which they came. -/
theorem qOf_items (G : List It) (q : Nat) : (qOf G q).map (It.mk q) = G.filter fun x => decide (x.q = q) := by
  induction G with
  | nil => rfl
  | cons x G ih =>
    by_cases e : x.q = q
    · rw [qOf_same x G q e, List.map_cons, ih, List.filter_cons_of_pos (by simpa using e)]
      subst e
      rfl
    · rw [qOf_other x G q e, ih, List.filter_cons_of_neg (by simpa using e)]
end Go.Proofs.Ytacddiidldppnaa
