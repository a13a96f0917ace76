/- What acts make of a peer, in plain Lean: a peer stays sound, what matches never falls; acts that are all ok come to the same in any turn. -/
import Derived.Test.YtopmfjgifabdmaaPeer
namespace Go.Proofs.Ytopmfjgifabdmaa
open Go.RowKit

/-- An act: what it does, ok, two numbers, a section. -/
structure Act5 where
  d : Nat
  ok : Bool
  x : Nat
  y : Nat
  k : Nat

/-- The cells of the acts that a slice holds. -/
def ActsAt (w : World) (A : Option Addr) (l : List Act5) : Prop := ∀ i (h : i < l.length), ∃ b off, A = some ⟨b, off, none⟩ ∧
  w.cell? ⟨b, off + i * 5, none⟩ = some (.int .u8 (l[i].d : Int)) ∧ w.cell? ⟨b, off + i * 5 + 1, none⟩ = some (.bool l[i].ok) ∧ w.cell? ⟨b, off + i * 5 + 2, none⟩ = some (.int .u64 (l[i].x : Int)) ∧
  w.cell? ⟨b, off + i * 5 + 3, none⟩ = some (.int .u64 (l[i].y : Int)) ∧ w.cell? ⟨b, off + i * 5 + 4, none⟩ = some (.int .u8 (l[i].k : Int)) ∧ l[i].k < 256
theorem ActsAt.below {w w' : World} {A : Option Addr} {l : List Act5} (h : ActsAt w A l) {B : Nat} (hb : Below B w w') (hB : w.heap.size ≤ B) : ActsAt w' A l := fun i hi => by
  obtain ⟨b, off, hA, c0, c1, c2, c3, c4, hk⟩ := h i hi
  have f : ∀ {p : Addr} {v : Value}, w.cell? p = some v → w'.cell? p = some v := fun {p v} hc => (hb.cell (Nat.lt_of_lt_of_le (World.block_lt_of_cell? w _ hc) hB)).trans hc
  exact ⟨b, off, hA, f c0, f c1, f c2, f c3, f c4, hk⟩

/-- What an act makes of a peer. -/
def doesP (p : Pr) (a : Act5) : Pr := if a.d = 0 then toldP p a.ok a.x a.y else if a.d = 1 then sendP p a.x else if a.d = 2 then sectP p a.x a.k else p
/-- Is a peer sound? -/
def Pr.sound (p : Pr) : Prop := p.m < p.n ∧ p.c < 5 ∧ (0 < p.s ∨ p.c = 0)

theorem told_sound {p : Pr} (h : p.sound) (ok : Bool) (x r : Nat) : (toldP p ok x r).sound ∧ p.m ≤ (toldP p ok x r).m ∧ p.r ≤ (toldP p ok x r).r ∧ ((toldP p ok x r).n < p.n → ok = false) := by
  obtain ⟨m, n, r0, s, c⟩ := p
  obtain ⟨h1, h2, h3⟩ := h
  simp only at h1 h2 h3
  cases ok
  · simp only [toldP, Bool.false_eq_true, if_false, Pr.sound]
    exact ⟨⟨by omega, h2, h3⟩, Nat.le_refl _, by omega, fun _ => trivial⟩
  · simp only [toldP, if_true, hasP, Pr.sound]
    refine ⟨⟨by omega, by split <;> omega, ?_⟩, by omega, by omega, fun h => by omega⟩
    by_cases hs : s ≤ max m x
    · rw [if_pos hs, if_pos hs]; exact .inr (Eq.refl 0)
    · rw [if_neg hs, if_neg hs]; exact h3
theorem send_sound {p : Pr} (h : p.sound) (x : Nat) : (sendP p x).sound := by
  obtain ⟨m, n, r0, s, c⟩ := p
  obtain ⟨h1, h2, h3⟩ := h
  simp only at h1 h2 h3
  simp only [sendP, Pr.sound]
  by_cases hs : s = x
  · subst hs; simp only [if_true]; exact ⟨h1, h2, h3⟩
  · simp only [if_neg hs]; exact ⟨h1, by omega, .inr trivial⟩
theorem sect_sound {p : Pr} (h : p.sound) (x k : Nat) : (sectP p x k).sound := by
  obtain ⟨m, n, r0, s, c⟩ := p
  obtain ⟨h1, h2, h3⟩ := h
  simp only at h1 h2 h3
  simp only [sectP, Pr.sound]
  by_cases hs : s ≠ 0 ∧ s = x ∧ k < 5
  · rw [if_pos hs]; exact ⟨h1, hs.2.2, .inl (by omega)⟩
  · rw [if_neg hs]; exact ⟨h1, h2, h3⟩
theorem does_sound {p : Pr} (h : p.sound) (a : Act5) : (doesP p a).sound ∧ p.m ≤ (doesP p a).m ∧ p.r ≤ (doesP p a).r ∧ ((doesP p a).n < p.n → a.d = 0 ∧ a.ok = false) := by
  unfold doesP
  by_cases h0 : a.d = 0
  · rw [if_pos h0]
    obtain ⟨g1, g2, g3, g4⟩ := told_sound h a.ok a.x a.y
    exact ⟨g1, g2, g3, fun e => ⟨h0, g4 e⟩⟩
  · rw [if_neg h0]
    by_cases h1 : a.d = 1
    · rw [if_pos h1]; exact ⟨send_sound h _, Nat.le_refl _, Nat.le_refl _, fun e => by simp [sendP] at e⟩
    · rw [if_neg h1]
      by_cases h2 : a.d = 2
      · rw [if_pos h2]; exact ⟨sect_sound h _ _, Nat.le_refl _, Nat.le_refl _, fun e => by simp [sectP] at e⟩
      · rw [if_neg h2]; exact ⟨h, Nat.le_refl _, Nat.le_refl _, fun e => by omega⟩
theorem does_low {p : Pr} {B : Nat} (h : p.m < B) (a : Act5) (hx : a.x < B) : (doesP p a).m < B := by
  unfold doesP
  split
  · cases hok : a.ok <;> simp only [toldP, hasP, Bool.false_eq_true, if_false, if_true] <;> omega
  · split
    · exact h
    · split <;> exact h

/-- The greatest of the first so many numbers. -/
def mx (f : Nat → Nat) : Nat → Nat
  | 0 => 0
  | n + 1 => max (mx f n) (f n)
theorem le_mx (f : Nat → Nat) : ∀ {n i : Nat}, i < n → f i ≤ mx f n
  | n + 1, i, h => by
    unfold mx
    by_cases e : i = n
    · subst e; omega
    · have := le_mx f (n := n) (i := i) (by omega); omega
theorem mx_le {f : Nat → Nat} {B : Nat} : ∀ {n : Nat}, (∀ i, i < n → f i ≤ B) → mx f n ≤ B
  | 0, _ => Nat.zero_le _
  | n + 1, h => by
    unfold mx
    have h1 := mx_le (n := n) fun i hi => h i (by omega)
    have h2 := h n (by omega)
    omega
theorem mx_lt {f : Nat → Nat} {B n : Nat} (hB : 0 < B) (h : ∀ i, i < n → f i < B) : mx f n < B := by
  have := mx_le (f := f) (B := B - 1) (n := n) fun i hi => by have := h i hi; omega
  omega
/-- The greatest does not hang on the turn. -/
theorem mx_turn (f : Nat → Nat) (n t : Nat) : mx (fun i => f ((i + t) % n)) n = mx f n := by
  rcases Nat.eq_zero_or_pos n with rfl | hn
  · rfl
  refine Nat.le_antisymm (mx_le fun i _ => le_mx f (Nat.mod_lt _ hn)) (mx_le fun j hj => ?_)
  have hm := Nat.mod_lt t hn
  have hi : (j + (n - t % n)) % n < n := Nat.mod_lt _ hn
  have := le_mx (fun i => f ((i + t) % n)) hi
  have e : ((j + (n - t % n)) % n + t) % n = j := by
    rw [Nat.mod_add_mod]
    have h1 : j + (n - t % n) + t = j + n * (1 + t / n) := by
      have := Nat.div_add_mod t n
      rw [Nat.mul_add, Nat.mul_one]
      omega
    rw [h1, Nat.add_mul_mod_self_left, Nat.mod_eq_of_lt hj]
  simp only [e] at this
  exact this

/-- A peer that was told so many, all ok. -/
def okP (last : Nat) (f g : Nat → Nat) (n : Nat) : Pr := ⟨mx f n, max (last + 1) (mx f n + 1), mx g n, 0, 0⟩
theorem okP_zero (last : Nat) (f g : Nat → Nat) : okP last f g 0 = ⟨0, last + 1, 0, 0, 0⟩ := by
  simp only [okP, mx]
  rw [show max (last + 1) (0 + 1) = last + 1 by omega]
theorem okP_succ (last : Nat) (f g : Nat → Nat) (n : Nat) : toldP (okP last f g n) true (f n) (g n) = okP last f g (n + 1) := by
  simp only [okP, toldP, hasP, if_true, mx, Nat.zero_le]
  rw [show max (max (last + 1) (mx f n + 1)) (max (mx f n) (f n) + 1) = max (last + 1) (max (mx f n) (f n) + 1) by omega]
theorem okP_turn (last : Nat) (f g : Nat → Nat) (n t : Nat) : okP last (fun i => f ((i + t) % n)) (fun i => g ((i + t) % n)) n = okP last f g n := by
  unfold okP
  rw [mx_turn f n t, mx_turn g n t]
end Go.Proofs.Ytopmfjgifabdmaa
