/- What is told, item by item: each is its queue's first; the counts of what was put and told. Plain Lean; and an array of five numbers in memory. -/
import Derived.Test.YtacddiidldppnaaTwo
namespace Go.Proofs.Ytacddiidldppnaa
open Go.RowKit

/-- From Q the items L are told, each its queue's first; then it is Q'. -/
def Gives : (Nat → List Nat) → List It → (Nat → List Nat) → Prop
  | Q, [], Q' => Q = Q'
  | Q, x :: L, Q' => x.q < 5 ∧ ∃ r, Q x.q = x.id :: r ∧ Gives (upd Q x.q r) L Q'
theorem Gives.append {Q Q1 Q2 : Nat → List Nat} : ∀ {L M : List It}, Gives Q L Q1 → Gives Q1 M Q2 → Gives Q (L ++ M) Q2
  | [], _, h, k => by cases h; exact k
  | x :: L, M, ⟨h1, r, h2, h3⟩, k => ⟨h1, r, h2, h3.append k⟩
theorem gives_drain : ∀ (n : Nat) (f : Ff), Gives f.Q (drainF n f).2 (drainF n f).1.Q
  | 0, f => rfl
  | n + 1, f => by
    cases h : takeF f with
    | none => rw [drainF_none h]; rfl
    | some s =>
      obtain ⟨g, x⟩ := s
      obtain ⟨hq, r, _, hQ, rfl⟩ := takeF_some h
      simp only [drainF, h]
      exact ⟨hq, r, hQ, gives_drain n ⟨upd f.Q x.q r, (x.q + 1) % 5⟩⟩
theorem upd_upd {α : Type} (f : Nat → α) (q : Nat) (x y : α) : upd (upd f q x) q y = upd f q y := by
  funext j; unfold upd; split <;> rfl
theorem upd_self {α : Type} (f : Nat → α) (q : Nat) : upd f q (f q) = f := by
  funext j; unfold upd; split
  · subst_vars; rfl
  · rfl
theorem gives_queue (q : Nat) (hq : q < 5) : ∀ (l : List Nat) (Q : Nat → List Nat), Q q = l → Gives Q (l.map (It.mk q)) (upd Q q [])
  | [], Q, h => by
    have := upd_self Q q
    rw [h] at this
    exact this.symm
  | x :: l, Q, h => by
    refine ⟨hq, l, h, ?_⟩
    have := gives_queue q hq l (upd Q q l) (upd_same _ _ _)
    rw [upd_upd] at this
    exact this
theorem gives_drop (Q : Nat → List Nat) : ∀ n, n ≤ 5 → Gives Q (dropL Q n) (gone Q n)
  | 0, _ => (gone_zero Q).symm
  | n + 1, h => by
    refine (gives_drop Q n (by omega)).append ?_
    have hg : gone Q n n = Q n := by simp [gone]
    have := gives_queue n (by omega) (gone Q n n) (gone Q n) rfl
    rw [gone_succ, hg] at this
    exact this

/-- A queue holds the numbers behind what was told, up to what was put. -/
def Own (k : Nat) (P T : Nat → Nat) (Q : Nat → List Nat) : Prop := ∀ q, q < 5 → T q ≤ P q ∧ P q ≤ k ∧ Q q = List.range' (T q + 1) (P q - T q)
theorem Own.start : Own 0 (fun _ => 0) (fun _ => 0) (fun _ => []) := fun q _ => ⟨Nat.le_refl _, Nat.le_refl _, rfl⟩
theorem Own.skip {k : Nat} {P T : Nat → Nat} {Q : Nat → List Nat} (h : Own k P T Q) : Own (k + 1) P T Q := fun q hq => ⟨(h q hq).1, Nat.le_succ_of_le (h q hq).2.1, (h q hq).2.2⟩
theorem Own.len {k : Nat} {P T : Nat → Nat} {Q : Nat → List Nat} (h : Own k P T Q) {q : Nat} (hq : q < 5) : (Q q).length = P q - T q := by rw [(h q hq).2.2, List.length_range']
theorem Own.put {k : Nat} {P T : Nat → Nat} {Q : Nat → List Nat} (h : Own k P T Q) {q : Nat} (hq : q < 5) : Own (k + 1) (upd P q (P q + 1)) T (upd Q q (Q q ++ [P q + 1])) := fun p hp => by
  by_cases e : p = q
  · subst e
    obtain ⟨h1, h2, h3⟩ := h p hp
    rw [upd_same, upd_same]
    refine ⟨by omega, by omega, ?_⟩
    rw [h3, show P p + 1 - T p = (P p - T p) + 1 by omega, List.range'_concat]
    rw [Nat.one_mul, show T p + 1 + (P p - T p) = P p + 1 by omega]
  · obtain ⟨h1, h2, h3⟩ := h p hp
    rw [upd_other _ _ e, upd_other _ _ e]
    exact ⟨h1, by omega, h3⟩
theorem Own.tell {k : Nat} {P T : Nat → Nat} {Q : Nat → List Nat} (h : Own k P T Q) {q x : Nat} {r : List Nat} (hq : q < 5) (hx : Q q = x :: r) : x = T q + 1 ∧ T q < P q ∧ Own k P (upd T q (T q + 1)) (upd Q q r) := by
  obtain ⟨h1, h2, h3⟩ := h q hq
  rw [hx] at h3
  cases hn : P q - T q with
  | zero => rw [hn] at h3; simp at h3
  | succ n =>
    rw [hn, List.range'_succ] at h3
    injection h3 with e1 e2
    refine ⟨e1, by omega, fun p hp => ?_⟩
    by_cases e : p = q
    · subst e
      rw [upd_same, upd_same]
      refine ⟨by omega, h2, ?_⟩
      rw [e2, show P p - (T p + 1) = n by omega]
    · rw [upd_other _ _ e, upd_other _ _ e]
      exact h p hp

/-- An array of five numbers. -/
def Arr (w : World) (g : Nat) (f : Nat → Nat) : Prop := w.heap[g]? = some (.cells #[.int .u64 (f 0 : Int), .int .u64 (f 1 : Int), .int .u64 (f 2 : Int), .int .u64 (f 3 : Int), .int .u64 (f 4 : Int)] 56 (0, 0))
theorem Arr.cell {w : World} {g : Nat} {f : Nat → Nat} (h : Arr w g f) (q : Nat) (hq : q < 5) : w.cell? ⟨g, q, none⟩ = some (.int .u64 (f q : Int)) := by
  rw [cell_of_row _ _ _ _ _ _ h]
  match q, hq with
  | 0, _ => rfl
  | 1, _ => rfl
  | 2, _ => rfl
  | 3, _ => rfl
  | 4, _ => rfl
theorem Arr.frozen {w : World} {g : Nat} {f : Nat → Nat} (h : Arr w g f) (q : Nat) : w.frozen? ⟨g, q, none⟩ = false := frozen_of_row _ _ _ _ _ h
theorem Arr.set {w : World} {g : Nat} {f : Nat → Nat} (h : Arr w g f) {q : Nat} (hq : q < 5) (x : Nat) : Arr (w.setCell ⟨g, q, none⟩ (.int .u64 (x : Int))) g (upd f q x) := by
  unfold Arr
  rw [heap_setCell_same _ _ _ _ _ _ h]
  match q, hq with
  | 0, _ => rfl
  | 1, _ => rfl
  | 2, _ => rfl
  | 3, _ => rfl
  | 4, _ => rfl
theorem Arr.other {w : World} {g : Nat} {f : Nat → Nat} (h : Arr w g f) {p : Addr} (hp : p.block ≠ g) (v : Value) : Arr (w.setCell p v) g f := (heap_setCell_other _ _ _ _ (Ne.symm hp)).trans h
theorem Arr.below {w w' : World} {g : Nat} {f : Nat → Nat} (h : Arr w g f) (hb : Below w.heap.size w w') : Arr w' g f := (hb.block g (lt_of_block h)).trans h
theorem Arr.moved {B : Nat} {w w' : World} {g gf : Nat} {f : Nat → Nat} {V V' : Nat → Value} {Q : Nat → List Nat} {t : Nat} (h : Arr w g f) (hf : FifoAt B w gf V Q t) (hm : Moved B gf V V' w w') : Arr w' g f := by
  obtain ⟨n1, n2⟩ := hf.other h (by decide) (by decide)
  exact (hm.rest g (lt_of_block h) n1 n2).trans h
/-- A store into an array leaves a fifo alone, and items. -/
theorem FifoAt.arr {B : Nat} {w : World} {g gf : Nat} {f : Nat → Nat} {V : Nat → Value} {Q : Nat → List Nat} {t : Nat} (h : FifoAt B w gf V Q t) (ha : Arr w g f) (i : Nat) (v : Value) : FifoAt B (w.setCell ⟨g, i, none⟩ v) gf V Q t := by
  obtain ⟨n1, n2⟩ := h.other ha (by decide) (by decide)
  exact h.set (p := ⟨g, i, none⟩) n1 n2 v
theorem Items.arr {w : World} {g : Nat} {f : Nat → Nat} {base : Nat} {v : Value} {L : List It} (h : Items w base v L) (ha : Arr w g f) (i : Nat) (u : Value) : Items (w.setCell ⟨g, i, none⟩ u) base v L :=
  h.keep fun k hk => heap_setCell_other _ _ _ _ fun e => by
    obtain ⟨_, cur, hc⟩ := h.row k hk
    subst e
    rw [ha] at hc
    cases hc
theorem Items.mono {w : World} {base base' : Nat} {v : Value} {L : List It} (h : Items w base v L) (hb : base' ≤ base) : Items w base' v L := ⟨h.1, h.2.imp id fun ⟨a, b, c, e1, e2, e3⟩ => ⟨a, b, c, e1, Nat.le_trans hb e2, e3⟩⟩
end Go.Proofs.Ytacddiidldppnaa
