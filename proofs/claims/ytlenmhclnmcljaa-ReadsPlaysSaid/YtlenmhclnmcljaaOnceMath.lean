/- The plain law of ReadsOnce: the numbers that the law keeps beside the list, and how each act moves them. -/
import Derived.Test.YtlenmhclnmcljaaTold
namespace Go.Proofs.Ytlenmhclnmcljaa
open Go.RowKit

/-- asked a, next n, begun b; the reads that are there have the Ids n, n + 1, .., a; those below b are begun, with at least what is noted, and never falling. -/
structure Inv (k a n b : Nat) (L : List Rd) (IX RD : Nat → Nat) : Prop where
  n1 : 1 ≤ n
  nb : n ≤ b
  ba : b ≤ a + 1
  ak : a ≤ k
  len : L.length = a + 1 - n
  ids : ∀ p (h : p < L.length), L[p].id = n + p
  low : ∀ p (h : p < L.length), p < b - n → IX (n + p) ≤ L[p].ix ∧ RD (n + p) ≤ L[p].rd
  rise : ∀ p q (hq : q < L.length), (hpq : p ≤ q) → q < b - n → (L[p]'(by omega)).ix ≤ L[q].ix ∧ (L[p]'(by omega)).rd ≤ L[q].rd

theorem Inv.start (IX RD : Nat → Nat) : Inv 0 0 1 1 [] IX RD :=
  ⟨by omega, by omega, by omega, by omega, rfl, fun p h => absurd h (by simp), fun p h => absurd h (by simp), fun p q h => absurd h (by simp)⟩
theorem Inv.skip {k a n b : Nat} {L : List Rd} {IX RD : Nat → Nat} (h : Inv k a n b L IX RD) : Inv (k + 1) a n b L IX RD :=
  ⟨h.n1, h.nb, h.ba, by have := h.ak; omega, h.len, h.ids, h.low, h.rise⟩
theorem Inv.noAsk {k a n b : Nat} {L : List Rd} {IX RD : Nat → Nat} (h : Inv k a n b L IX RD) : L.any (isId (a + 1)) = false := by
  rw [List.any_eq_false]
  intro r hr
  obtain ⟨p, hp, rfl⟩ := List.mem_iff_getElem.1 hr
  have h1 := h.ids p hp
  have h2 := h.len
  unfold isId
  simp only [decide_eq_true_eq]
  omega
theorem asked_there (L : List Rd) (id : Nat) : (L ++ ([⟨id, 0, 0⟩] : List Rd)).any (isId id) = true := by
  rw [List.any_append]
  simp [isId]
theorem Inv.ask {k a n b : Nat} {L : List Rd} {IX RD : Nat → Nat} (h : Inv k a n b L IX RD) : Inv (k + 1) (a + 1) n b (L ++ [⟨a + 1, 0, 0⟩]) IX RD := by
  have hn1 := h.n1; have hnb := h.nb; have hba := h.ba; have hak := h.ak; have hlen := h.len
  have old : ∀ p (hp : p < L.length), (L ++ [⟨a + 1, 0, 0⟩])[p]'(by simp; omega) = L[p] := fun p hp => List.getElem_append_left hp
  refine ⟨hn1, hnb, by omega, by omega, by simp; omega, fun p hp => ?_, fun p hp hpb => ?_, fun p q hq hpq hqb => ?_⟩
  · rw [List.length_append, List.length_singleton] at hp
    by_cases e : p < L.length
    · rw [old p e]; exact h.ids p e
    · obtain rfl : p = L.length := by omega
      rw [List.getElem_append_right (Nat.le_refl _)]
      simp; omega
  · rw [old p (by omega)]; exact h.low p (by omega) hpb
  · rw [old p (by omega), old q (by omega)]; exact h.rise p q (by omega) hpq hqb

/-- What Begin notes: the index and the round at each place from b to a. -/
def noted (F : Nat → Nat) (b c x : Nat) : Nat → Nat := fun j => if b ≤ j ∧ j < c then x else F j
theorem noted_start (F : Nat → Nat) (b x : Nat) : noted F b b x = F := by
  funext j; unfold noted; rw [if_neg (by omega)]
theorem noted_step (F : Nat → Nat) (b c x : Nat) (h : b ≤ c) : (fun j => if j = c then x else noted F b c x j) = noted F b (c + 1) x := by
  funext j
  unfold noted
  by_cases e : j = c
  · rw [if_pos e, if_pos (by omega)]
  · rw [if_neg e]
    by_cases e2 : b ≤ j ∧ j < c
    · rw [if_pos e2, if_pos (by omega)]
    · rw [if_neg e2, if_neg (by omega)]

theorem Inv.begin_ {k a n b : Nat} {L : List Rd} {IX RD : Nat → Nat} (h : Inv k a n b L IX RD) (A R : Nat) :
    Inv (k + 1) a n (a + 1) (begunL L (b - n) A R) (noted IX b (a + 1) A) (noted RD b (a + 1) R) := by
  have hn1 := h.n1; have hnb := h.nb; have hba := h.ba; have hak := h.ak; have hlen := h.len
  have hl : (begunL L (b - n) A R).length = L.length := by unfold begunL; simp; omega
  have at1 : ∀ p (hp : p < L.length), (begunL L (b - n) A R)[p]'(by omega) = if p < b - n then L[p] else ⟨L[p].id, max A (topIx L (b - n)), max R (topRd L (b - n))⟩ := fun p hp => by
    unfold begunL
    by_cases e : p < b - n
    · rw [if_pos e, List.getElem_append_left (by rw [List.length_take]; omega), List.getElem_take]
    · rw [if_neg e, List.getElem_append_right (by rw [List.length_take]; omega), List.getElem_map, List.getElem_drop]
      have : b - n + (p - (L.take (b - n)).length) = p := by rw [List.length_take]; omega
      simp only [this]
  have top : ∀ p (hp : p < L.length), p < b - n → L[p].ix ≤ topIx L (b - n) ∧ L[p].rd ≤ topRd L (b - n) := fun p hp hpb => by
    unfold topIx topRd
    rw [if_pos (by omega), if_pos (by omega), List.getD_eq_getElem?_getD, List.getElem?_eq_getElem (by omega), Option.getD_some]
    exact h.rise p (b - n - 1) (by omega) (by omega) (by omega)
  refine ⟨hn1, by omega, by omega, by omega, by omega, fun p hp => ?_, fun p hp _ => ?_, fun p q hq hpq _ => ?_⟩
  · rw [at1 p (by omega)]
    have := h.ids p (by omega)
    split
    · exact this
    · exact this
  · rw [at1 p (by omega)]
    by_cases e : p < b - n
    · rw [if_pos e]
      unfold noted
      rw [if_neg (by omega), if_neg (by omega)]
      exact h.low p (by omega) e
    · rw [if_neg e]
      unfold noted
      rw [if_pos (by omega), if_pos (by omega)]
      exact ⟨Nat.le_max_left _ _, Nat.le_max_left _ _⟩
  · rw [at1 p (by omega), at1 q (by omega)]
    by_cases e : q < b - n
    · rw [if_pos e, if_pos (by omega)]
      exact h.rise p q (by omega) hpq e
    · rw [if_neg e]
      by_cases e2 : p < b - n
      · rw [if_pos e2]
        have := top p (by omega) e2
        exact ⟨Nat.le_trans this.1 (Nat.le_max_right _ _), Nat.le_trans this.2 (Nat.le_max_right _ _)⟩
      · rw [if_neg e2]
        exact ⟨Nat.le_refl _, Nat.le_refl _⟩

theorem cnt_le (L : List Rd) (b round : Nat) : cnt L b round ≤ b ∧ cnt L b round ≤ L.length := by
  unfold cnt
  have h1 := (List.takeWhile_sublist (l := L.take b) (fun r => decide (r.rd ≤ round))).length_le
  rw [List.length_take] at h1
  omega
theorem cnt_at (L : List Rd) (b round p : Nat) (h : p < cnt L b round) : (L[p]'(by have := cnt_le L b round; omega)).rd ≤ round := by
  have hc := cnt_le L b round
  have hm : L[p]'(by omega) ∈ (L.take b).takeWhile fun r => decide (r.rd ≤ round) := by
    have e : (L.take b).takeWhile (fun r => decide (r.rd ≤ round)) = (L.take b).take (cnt L b round) := by
      have := (List.takeWhile_prefix (l := L.take b) fun r => decide (r.rd ≤ round))
      rw [List.prefix_iff_eq_take] at this
      exact this
    rw [e, List.mem_iff_getElem]
    refine ⟨p, by rw [List.length_take, List.length_take]; omega, by rw [List.getElem_take, List.getElem_take]⟩
  have hall := List.all_takeWhile (p := fun r : Rd => decide (r.rd ≤ round)) (l := L.take b)
  rw [List.all_eq_true] at hall
  exact of_decide_eq_true (hall _ hm)
theorem Inv.told {k a n b : Nat} {L : List Rd} {IX RD : Nat → Nat} (h : Inv k a n b L IX RD) (c : Nat) (hc : c ≤ b - n) : Inv (k + 1) a (n + c) b (L.drop c) IX RD := by
  have hn1 := h.n1; have hnb := h.nb; have hba := h.ba; have hak := h.ak; have hlen := h.len
  refine ⟨by omega, by omega, by omega, by omega, by rw [List.length_drop]; omega, fun p hp => ?_, fun p hp hpb => ?_, fun p q hq hpq hqb => ?_⟩
  · rw [List.length_drop] at hp
    rw [List.getElem_drop, h.ids (c + p) (by omega)]; omega
  · rw [List.length_drop] at hp
    rw [List.getElem_drop]
    have := h.low (c + p) (by omega) (by omega)
    rw [show n + c + p = n + (c + p) by omega]; exact this
  · rw [List.length_drop] at hq
    rw [List.getElem_drop, List.getElem_drop]
    exact h.rise (c + p) (c + q) (by omega) (by omega) (by omega)
theorem Inv.taken {k a n b : Nat} {L M : List Rd} {IX RD : Nat → Nat} (h : Inv k a n b L IX RD) {x c : Nat} (hc : cnt L (b - n) x = c) (hM : L.take c = M) : M.length = c ∧ ∀ j (hj : j < M.length), M[j].id = n + j ∧ IX (n + j) ≤ M[j].ix ∧ RD (n + j) ≤ M[j].rd ∧ M[j].rd ≤ x ∧ ∀ i (hi : i ≤ j), (M[i]'(by omega)).ix ≤ M[j].ix ∧ (M[i]'(by omega)).rd ≤ M[j].rd := by
  have hle := cnt_le L (b - n) x
  have hlen := h.len
  subst hM
  refine ⟨by rw [List.length_take]; omega, fun j hj => ?_⟩
  rw [List.length_take] at hj
  have h1 := h.ids j (by omega)
  have h2 := h.low j (by omega) (by omega)
  have h3 := cnt_at L (b - n) x j (by omega)
  refine ⟨by rw [List.getElem_take]; exact h1, by rw [List.getElem_take]; exact h2.1, by rw [List.getElem_take]; exact h2.2, by rw [List.getElem_take]; exact h3, fun i hi => ?_⟩
  rw [List.getElem_take, List.getElem_take]
  exact h.rise i j (by omega) hi (by omega)
theorem Inv.drop {k a n b : Nat} {L : List Rd} {IX RD : Nat → Nat} (h : Inv k a n b L IX RD) : Inv (k + 1) a (a + 1) (a + 1) [] IX RD :=
  ⟨by omega, by omega, by omega, by have := h.ak; omega, by simp, fun p h => absurd h (by simp), fun p h => absurd h (by simp), fun p q h => absurd h (by simp)⟩

end Go.Proofs.Ytlenmhclnmcljaa
