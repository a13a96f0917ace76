/- The plain law of FifoFair: how far an item is from being taken. -/
import Derived.Test.YtacddiidldppnaaGives
namespace Go.Proofs.Ytacddiidldppnaa
open Go.RowKit

/-- How many turns until queue q's. -/
def dist (t q : Nat) : Nat := (q + 5 - t) % 5
/-- Item X stands in queue q behind k others; so many takes at most bring it. -/
def Stands (Q : Nat → List Nat) (q k X : Nat) : Prop := ∃ l, Q q = l ++ [X] ∧ l.length = k
theorem Stands.ne {Q : Nat → List Nat} {q k X : Nat} (h : Stands Q q k X) : Q q ≠ [] := by
  obtain ⟨l, hl, _⟩ := h
  rw [hl]; simp
theorem pickFrom_near {Q : Nat → List Nat} {t q : Nat} (ht : t < 5) (hq : q < 5) (hne : Q q ≠ []) : ∀ n i, i ≤ dist t q → i + n = 5 → ∃ j, i ≤ j ∧ j ≤ dist t q ∧ pickFrom Q t i n = some ((t + j) % 5)
  | 0, i, h1, h2 => by have : dist t q < 5 := Nat.mod_lt _ (by omega); omega
  | n + 1, i, h1, h2 => by
    unfold pickFrom
    by_cases e : Q ((t + i) % 5) = []
    · rw [if_pos e]
      have hi : i ≠ dist t q := fun h => by
        subst h
        have : (t + dist t q) % 5 = q := by unfold dist; omega
        rw [this] at e
        exact hne e
      obtain ⟨j, h3, h4, h5⟩ := pickFrom_near ht hq hne n (i + 1) (by omega) (by omega)
      exact ⟨j, by omega, h4, h5⟩
    · rw [if_neg e]
      exact ⟨i, Nat.le_refl _, h1, rfl⟩
/-- One take while the item stands: it is taken, or it is nearer. -/
theorem take_near {f : Ff} {q k X : Nat} (ht : f.t < 5) (hq : q < 5) (h : Stands f.Q q k X) : ∃ g x, takeF f = some (g, x) ∧ g.t < 5 ∧
    ((x.q = q ∧ k = 0 ∧ x.id = X) ∨ (x.q = q ∧ 0 < k ∧ Stands g.Q q (k - 1) X ∧ dist g.t q = 4) ∨ (x.q ≠ q ∧ Stands g.Q q k X ∧ dist g.t q < dist f.t q)) := by
  obtain ⟨j, _, hj, hp⟩ := pickFrom_near ht hq h.ne 5 0 (Nat.zero_le _) rfl
  have hpick : pick f.Q f.t = some ((f.t + j) % 5) := hp
  obtain ⟨hp5, hpne⟩ := pick_lt hpick
  obtain ⟨p, hpe⟩ : ∃ p, (f.t + j) % 5 = p := ⟨_, rfl⟩
  rw [hpe] at hpick hp5 hpne
  have hd : dist f.t q < 5 := Nat.mod_lt _ (by omega)
  cases hQ : f.Q p with
  | nil => exact absurd hQ hpne
  | cons a r =>
    refine ⟨⟨upd f.Q p r, (p + 1) % 5⟩, ⟨p, a⟩, by unfold takeF; rw [hpick]; simp only [hQ], Nat.mod_lt _ (by omega), ?_⟩
    by_cases hpq : p = q
    · subst hpq
      obtain ⟨l, hl, hk⟩ := h
      rw [hQ] at hl
      cases l with
      | nil =>
        simp at hl
        exact .inl ⟨rfl, by simpa using hk.symm, hl.1⟩
      | cons b l =>
        simp at hl
        refine .inr (.inl ⟨rfl, by simp at hk; omega, ⟨l, ?_, by simp at hk; omega⟩, ?_⟩)
        · show upd f.Q p r p = _
          rw [upd_same]; exact hl.2
        · show dist ((p + 1) % 5) p = 4
          unfold dist; omega
    · refine .inr (.inr ⟨hpq, ?_, ?_⟩)
      · obtain ⟨l, hl, hk⟩ := h
        exact ⟨l, by show upd f.Q p r q = _; rw [upd_other _ _ (Ne.symm hpq)]; exact hl, hk⟩
      · show dist ((p + 1) % 5) q < dist f.t q
        unfold dist at *
        omega
/-- The number of takes that are left at most. -/
def need (t q k : Nat) : Nat := dist t q + 1 + 5 * k
theorem need_pos (t q k : Nat) : 1 ≤ need t q k := by unfold need; omega
theorem need_start (t q k : Nat) : need t q k ≤ 5 * (k + 1) := by
  have : dist t q < 5 := Nat.mod_lt _ (by omega)
  unfold need; omega
theorem take_need {f : Ff} {q k X : Nat} (ht : f.t < 5) (hq : q < 5) (h : Stands f.Q q k X) : ∃ g x, takeF f = some (g, x) ∧ g.t < 5 ∧
    ((x.q = q ∧ k = 0 ∧ x.id = X) ∨ (x.q = q ∧ 0 < k ∧ Stands g.Q q (k - 1) X ∧ need g.t q (k - 1) + 1 ≤ need f.t q k) ∨ (x.q ≠ q ∧ Stands g.Q q k X ∧ need g.t q k + 1 ≤ need f.t q k)) := by
  obtain ⟨g, x, h1, h2, h3⟩ := take_near ht hq h
  refine ⟨g, x, h1, h2, ?_⟩
  rcases h3 with h3 | ⟨e1, e2, e3, e4⟩ | ⟨e1, e2, e3⟩
  · exact .inl h3
  · refine .inr (.inl ⟨e1, e2, e3, ?_⟩)
    unfold need; omega
  · refine .inr (.inr ⟨e1, e2, ?_⟩)
    unfold need; omega
/-- What a drain of two tells, while the item stands with k others ahead. -/
inductive Two (q k X : Nat) (f : Ff) : List It → Ff → Prop
  | hit (x : It) (L : List It) (g : Ff) : x.q = q → k = 0 → x.id = X → L.length ≤ 1 → Two q k X f (x :: L) g
  | hit2 (x y : It) (g : Ff) (k1 : Nat) : ((x.q = q ∧ 0 < k ∧ k1 = k - 1) ∨ (x.q ≠ q ∧ k1 = k)) → 2 ≤ need f.t q k → y.q = q → k1 = 0 → y.id = X → Two q k X f [x, y] g
  | miss (x y : It) (g : Ff) (k1 k2 : Nat) : ((x.q = q ∧ 0 < k ∧ k1 = k - 1) ∨ (x.q ≠ q ∧ k1 = k)) → ((y.q = q ∧ 0 < k1 ∧ k2 = k1 - 1) ∨ (y.q ≠ q ∧ k2 = k1)) → Stands g.Q q k2 X → g.t < 5 → need g.t q k2 + 2 ≤ need f.t q k → Two q k X f [x, y] g
theorem two (f : Ff) {q k X : Nat} (ht : f.t < 5) (hq : q < 5) (h : Stands f.Q q k X) : Two q k X f (drainF 2 f).2 (drainF 2 f).1 := by
  obtain ⟨g, x, h1, h2, h3⟩ := take_need ht hq h
  have e : drainF 2 f = ((drainF 1 g).1, x :: (drainF 1 g).2) := by simp only [drainF, h1]
  have hl : (drainF 1 g).2.length ≤ 1 := by
    cases hg : takeF g with
    | none => simp [drainF, hg]
    | some s => obtain ⟨a, b⟩ := s; simp [drainF, hg]
  rw [e]
  rcases h3 with ⟨e1, e2, e3⟩ | ⟨e1, e2, e3, e4⟩ | ⟨e1, e2, e3⟩
  · exact .hit x _ _ e1 e2 e3 hl
  · obtain ⟨g2, y, k1, k2, k3⟩ := take_need h2 hq e3
    have e5 : drainF 1 g = (g2, [y]) := by simp only [drainF, k1]
    rw [e5]
    have := need_pos g.t q (k - 1)
    rcases k3 with ⟨f1, f2, f3⟩ | ⟨f1, f2, f3, f4⟩ | ⟨f1, f2, f3⟩
    · exact .hit2 x y _ (k - 1) (.inl ⟨e1, e2, rfl⟩) (by omega) f1 f2 f3
    · exact .miss x y g2 (k - 1) (k - 1 - 1) (.inl ⟨e1, e2, rfl⟩) (.inl ⟨f1, f2, rfl⟩) f3 k2 (by omega)
    · exact .miss x y g2 (k - 1) (k - 1) (.inl ⟨e1, e2, rfl⟩) (.inr ⟨f1, rfl⟩) f2 k2 (by omega)
  · obtain ⟨g2, y, k1, k2, k3⟩ := take_need h2 hq e2
    have e5 : drainF 1 g = (g2, [y]) := by simp only [drainF, k1]
    rw [e5]
    have := need_pos g.t q k
    rcases k3 with ⟨f1, f2, f3⟩ | ⟨f1, f2, f3, f4⟩ | ⟨f1, f2, f3⟩
    · exact .hit2 x y _ k (.inr ⟨e1, rfl⟩) (by omega) f1 f2 f3
    · exact .miss x y g2 k (k - 1) (.inr ⟨e1, rfl⟩) (.inl ⟨f1, f2, rfl⟩) f3 k2 (by omega)
    · exact .miss x y g2 k k (.inr ⟨e1, rfl⟩) (.inr ⟨f1, rfl⟩) f2 k2 (by omega)
end Go.Proofs.Ytacddiidldppnaa
