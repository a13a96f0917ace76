/- What a fifo is in memory: a block of six cells (the slices of its five queues, whose turn it is), each queue a piece of a row of its own; an append onto such a piece. -/
import Derived.Test.YtacddiidldppnaaProg
import Derived.WalkKit
import Derived.WalkSpells
import Derived.WalkLawsBesides
import Derived.Deep.QuietTactic
import Derived.BigQuiet
import Derived.Deep.WholeRow
import Derived.Deep.AppendLies
import Derived.Deep.RegionLaw
import Derived.Lib.Hide
namespace Go.Proofs.Ytacddiidldppnaa
open Go.RowKit

/-- What a function has at one place replaced. -/
def upd {α : Type} (f : Nat → α) (q : Nat) (x : α) : Nat → α := fun j => if j = q then x else f j
theorem upd_same {α : Type} (f : Nat → α) (q : Nat) (x : α) : upd f q x q = x := if_pos rfl
theorem upd_other {α : Type} (f : Nat → α) {q j : Nat} (x : α) (h : j ≠ q) : upd f q x j = f j := if_neg h

theorem lt_of_block {w : World} {k : Nat} {o : Obj} (h : w.heap[k]? = some o) : k < w.heap.size := (Array.getElem?_eq_some_iff.1 h).1
theorem blw_draws {B : Nat} {a w : World} (h : Below B a w) (q : Nat) : Below B a (w.drewN q) := ⟨h.os, h.tape, h.output, h.size, h.block⟩
theorem blw_trans {a b c : World} (h : Below a.heap.size a b) (k : Below b.heap.size b c) : Below a.heap.size a c := h.trans (k.mono h.size)

/-- A queue's slice holds these numbers. -/
def QAt (w : World) (base : Nat) (v : Value) (L : List Nat) : Prop :=
  (v = .slice none 0 0 ∧ L = []) ∨ ∃ h off cap cur, v = .slice (some ⟨h, off, none⟩) L.length cap ∧ base ≤ h ∧ w.heap[h]? = some (.cells cur 27 (0, 0)) ∧ L.length ≤ cap ∧ off + cap ≤ cur.size ∧
    ∀ j (hj : j < L.length), cur[off + j]? = some (.int .u64 (L[j] : Int))
theorem QAt.nil (w : World) (base : Nat) : QAt w base (.slice none 0 0) [] := .inl ⟨rfl, rfl⟩
theorem QAt.keep {w w' : World} {base : Nat} {v : Value} {L : List Nat} (h : QAt w base v L) (hb : ∀ k, v.ownBlock = some k → w'.heap[k]? = w.heap[k]?) : QAt w' base v L := by
  rcases h with h | ⟨g, off, cap, cur, rfl, h1, h2, h3⟩
  · exact .inl h
  · exact .inr ⟨g, off, cap, cur, rfl, h1, (hb g rfl).trans h2, h3⟩
theorem QAt.row {w : World} {base : Nat} {v : Value} {L : List Nat} (h : QAt w base v L) : ∀ k, v.ownBlock = some k → base ≤ k ∧ ∃ cur, w.heap[k]? = some (.cells cur 27 (0, 0)) := by
  intro k hk
  rcases h with ⟨rfl, _⟩ | ⟨g, off, cap, cur, rfl, h1, h2, _⟩
  · simp [Value.ownBlock] at hk
  · have : g = k := by simpa [Value.ownBlock] using hk
    subst this
    exact ⟨h1, cur, h2⟩
theorem QAt.form {w : World} {base : Nat} {v : Value} {L : List Nat} (h : QAt w base v L) : ∃ A cap, v = .slice A L.length cap ∧ L.length ≤ cap ∧
    ∀ j (_ : j < L.length), ∃ b off, A = some ⟨b, off, none⟩ ∧ w.cell? ⟨b, off + j, none⟩ = some (.int .u64 (L[j] : Int)) := by
  rcases h with ⟨rfl, rfl⟩ | ⟨g, off, cap, cur, rfl, h1, h2, h3, h4, h5⟩
  · exact ⟨none, 0, rfl, Nat.le_refl _, fun j hj => absurd hj (by simp)⟩
  · exact ⟨_, cap, rfl, h3, fun j hj => ⟨g, off, rfl, by rw [cell_of_row _ _ _ _ _ _ h2]; exact h5 j hj⟩⟩
/-- The queue's slice without its first. -/
theorem QAt.tail {w : World} {base g off n cap x : Nat} {L : List Nat} (h : QAt w base (.slice (some ⟨g, off, none⟩) n cap) (x :: L)) :
    n = L.length + 1 ∧ L.length + 1 ≤ cap ∧ (cap ≠ 1 → QAt w base (.slice (some ⟨g, off + 1, none⟩) L.length (cap - 1)) L) ∧ (cap = 1 → QAt w base (.slice (some ⟨g, off, none⟩) 0 0) L) := by
  rcases h with ⟨h, _⟩ | ⟨g', off', cap', cur, e, h1, h2, h3, h4, h5⟩
  · cases h
  · cases e
    simp only [List.length_cons] at h3
    refine ⟨rfl, h3, fun _ => .inr ⟨g, off + 1, cap - 1, cur, rfl, h1, h2, by omega, by omega, fun j hj => ?_⟩, fun h => ?_⟩
    · have := h5 (j + 1) (by simpa using hj)
      simpa [Nat.add_assoc, Nat.add_comm 1 j] using this
    · have h0 : L = [] := List.eq_nil_of_length_eq_zero (by omega)
      subst h0
      exact .inr ⟨g, off, 0, cur, rfl, h1, h2, Nat.le_refl _, by omega, fun j hj => absurd hj (by simp)⟩
theorem QAt.of_own {w : World} {base : Nat} {v : Value} {L : List Nat} (h : w.ownsRow base 27 1 v L.length (L.map fun (x : Nat) => Value.int .u64 (x : Int))) : QAt w base v L := by
  rcases h.2 with ⟨rfl, h0⟩ | ⟨g, cap, cur, rfl, h3, h4, h5, _, h7, h8⟩
  · exact .inl ⟨rfl, List.eq_nil_of_length_eq_zero h0⟩
  · refine .inr ⟨g, 0, cap, cur, rfl, h3, h4, h5, by omega, fun j hj => ?_⟩
    have : (cur.toList.take (L.length * 1))[j]? = (L.map fun (x : Nat) => Value.int .u64 (x : Int))[j]? := by rw [h8]
    rw [List.getElem?_take_of_lt (by omega), List.getElem?_map, List.getElem?_eq_getElem hj] at this
    rw [Nat.zero_add]
    simpa using this

theorem info27 : (Try.prog.info? 27).map (fun i => (i.zero, i.size, i.bytes)) = some (some (.int .u64 0), 1, 8) := by kernel_rfl

/-- One number more at a queue's end. -/
theorem run_append_q (w : World) (base ty : Nat) (v : Value) (L : List Nat) (x nb : Nat) (fr : Nat × Nat) (hq : QAt w base v L) (hl : L.length ≤ 1000) (hnb : w.heap[nb]? = some (.cells #[.int .u64 (x : Int)] 27 fr)) (hbase : base ≤ w.heap.size) :
    ∃ v' w', (Builtin.append_ #[35, 35] ty #[v, .slice (some ⟨nb, 0, none⟩) 1 1]).run Try.prog w = .ok v' w' ∧ QAt w' base v' (L ++ [x]) ∧ w.grownBy w' v.ownBlock ∧ (∀ k, v'.ownBlock = some k → v.ownBlock = some k ∨ w.heap.size ≤ k) := by
  obtain ⟨i0, hi, hz0, hz1, hz2⟩ := info_parts info27
  have hnews := World.news_of_block hnb
  rcases hq with ⟨rfl, rfl⟩ | ⟨g, off, cap, cur, rfl, h1, h2, h3, h4, h5⟩
  · obtain ⟨v', w', hr, ho, hg, _⟩ := run_append_own (P := Try.prog) w w.heap.size 35 ty 27 i0 _ 1 8 Try.underlying35 hi hz0 hz1 hz2 rfl (by decide) (.slice none 0 0) 0 [] (World.ownsRow_nil _ _ _ _) ⟨nb, 0, none⟩ 1 1 [.int .u64 (x : Int)] rfl hnews (by simp [Value.oneCell']) (by unfold maxLen; omega) (by omega) (Nat.le_refl _)
    refine ⟨v', w', hr, QAt.of_own (L := [] ++ [x]) ?_, hg, fun k hk => .inr (ho.lt k hk).1⟩
    exact ⟨by simp, ho.2.imp (fun h => by omega) fun ⟨a, b, c, e1, e2, e3⟩ => ⟨a, b, c, e1, Nat.le_trans hbase e2, e3⟩⟩
  · by_cases hroom : L.length + 1 ≤ cap
    · have hcell : w.cell? ⟨g, off + L.length, none⟩ = cur[off + L.length]? := cell_of_row _ _ _ _ _ _ h2
      have hr := run_append_room_cells (P := Try.prog) w 35 ty 27 i0 Try.underlying35 hi g off L.length cap ⟨nb, 0, none⟩ 1 1 [.int .u64 (x : Int)] (by rw [hz1]; rfl) hnews (by simp [Value.oneCell']) hroom
        (fun j hj => by
          have : j = 0 := by simpa using hj
          subst this
          rw [hz1, Nat.mul_one, Nat.add_zero, hcell, Array.getElem?_eq_getElem (by omega)]; rfl)
        (fun j _ => frozen_of_row _ _ _ _ _ h2)
      rw [hz1, Nat.mul_one] at hr
      refine ⟨_, _, hr, .inr ⟨g, off, cap, cur.setIfInBounds (off + L.length) (.int .u64 (x : Int)), by rw [List.length_append, List.length_singleton], h1, heap_setCell_same _ _ _ _ _ _ h2, by simpa using hroom, by simpa using h4, fun j hj => ?_⟩, ⟨rfl, rfl, rfl, Nat.le_of_eq (World.size_setCell _ _ _).symm, fun k _ hne => heap_setCell_other _ _ _ _ (fun e => hne (by rw [e]; rfl))⟩, fun k hk => .inl hk⟩
      by_cases e : j = L.length
      · subst e
        rw [Array.getElem?_setIfInBounds_self_of_lt (by omega)]
        simp
      · have hjl : j < L.length := by simp at hj; omega
        rw [Array.getElem?_setIfInBounds_ne (by omega), h5 j hjl, List.getElem_append_left hjl]
    · have hc : ∀ j u, (L.map fun (x : Nat) => Value.int .u64 (x : Int))[j]? = some u → w.cell? ((⟨g, off, none⟩ : Addr).add j) = some u := fun j u hj => by
        have hjl : j < L.length := by have := (List.getElem?_eq_some_iff.1 hj).1; simpa using this
        have e : (⟨g, off, none⟩ : Addr).add j = ⟨g, off + j, none⟩ := by unfold Addr.add; split <;> simp_all
        rw [e, cell_of_row _ _ _ _ _ _ h2, h5 j hjl]
        rw [List.getElem?_map, List.getElem?_eq_getElem hjl] at hj
        exact hj
      obtain ⟨v', w', hr, ho, hg⟩ := run_append_arg_grows (P := Try.prog) w 35 ty 27 i0 _ 1 8 Try.underlying35 hi hz0 hz1 hz2 rfl (by decide) ⟨g, off, none⟩ L.length cap (L.map fun (x : Nat) => Value.int .u64 (x : Int)) (by simp) hc ⟨nb, 0, none⟩ 1 1 [.int .u64 (x : Int)] rfl hnews (by omega) (by unfold maxLen; omega) (by omega)
      refine ⟨v', w', hr, QAt.of_own (L := L ++ [x]) ?_, ⟨hg.os, hg.tape, hg.output, hg.size, fun k hk _ => hg.block k hk (by simp)⟩, fun k hk => .inr (ho.lt k hk).1⟩
      rw [List.length_append, List.map_append]
      exact ⟨ho.1, ho.2.imp (fun h => h) fun ⟨a, b, c, e1, e2, e3⟩ => ⟨a, b, c, e1, Nat.le_trans hbase e2, e3⟩⟩

/-- At a step of a region that draws its order. -/
theorem step_append_q {ops : Array Oper} {o : Oper} {a : Act} {w : World} {K : Act → World → Prop} {Q : Exit → Act → World → Prop} {E : Prop} (hgd : o.guard = none) (s x : Operand)
    (ho : o.op = .call { callee := .builtin .append, args := #[s, x], argTypes := #[35, 35] })
    (base : Nat) (v : Value) (L : List Nat) (id nb : Nat) (fr : Nat × Nat) (hs : a.eval s = v) (hx : a.eval x = .slice (some ⟨nb, 0, none⟩) 1 1) (hq : QAt w base v L) (hl : L.length ≤ 1000) (hnb : w.heap[nb]? = some (.cells #[.int .u64 (id : Int)] 27 fr)) (hbase : base ≤ w.heap.size)
    (h : ∀ v' w', QAt w' base v' (L ++ [id]) → w.grownBy w' v.ownBlock → (∀ k, v'.ownBlock = some k → v.ownBlock = some k ∨ w.heap.size ≤ k) → K (a.put o.dst v') w') :
    if Region.wanted o (yielded ops a.tmps) = true then Oper.wp Try.prog o a w K Q else E := by
  have hw : Region.wanted o (yielded ops a.tmps) = true := by simp [Region.wanted, hgd]
  rw [if_pos hw]
  obtain ⟨v', w', hr, h2, h3, h4⟩ := run_append_q w base o.type v L id nb fr hq hl hnb hbase
  unfold Oper.wp execOp
  simp only [ho, resolve, invoke, builtin, Sem.run_bind, Sem.run_pure, Result.andThen_ok, List.map_toArray, List.map_cons, List.map_nil, hs, hx, hr]
  exact h v' w' h2 h3 h4

/-- A fifo at block g: its queues, whose turn it is. -/
structure FifoAt (B : Nat) (w : World) (g : Nat) (V : Nat → Value) (Q : Nat → List Nat) (t : Nat) : Prop where
  base : B ≤ g
  head : w.heap[g]? = some (.cells #[V 0, V 1, V 2, V 3, V 4, .int .i64 (t : Int)] 38 (0, 0))
  own : ∀ q, q < 5 → QAt w B (V q) (Q q)
  apart : ∀ p q, p < 5 → q < 5 → p ≠ q → ∀ h, (V p).ownBlock = some h → (V q).ownBlock ≠ some h
  turn : t < 5
  room : ∀ q, q < 5 → (Q q).length ≤ 4

/-- What a call on a fifo leaves of all else: every block that is not the fifo's own; new rows are new blocks. -/
structure Moved (B g : Nat) (V V' : Nat → Value) (w w' : World) : Prop where
  below : Below B w w'
  rest : ∀ i, i < w.heap.size → i ≠ g → (∀ q, q < 5 → (V q).ownBlock ≠ some i) → w'.heap[i]? = w.heap[i]?
  news : ∀ q, q < 5 → ∀ h, (V' q).ownBlock = some h → (∃ p, p < 5 ∧ (V p).ownBlock = some h) ∨ w.heap.size ≤ h
theorem Moved.refl (B g : Nat) (V : Nat → Value) (w : World) : Moved B g V V w w := ⟨Below.refl _ _, fun _ _ _ _ => rfl, fun q hq _ h => .inl ⟨q, hq, h⟩⟩
theorem Moved.trans {B g : Nat} {V V1 V2 : Nat → Value} {w w1 w2 : World} (h : Moved B g V V1 w w1) (k : Moved B g V1 V2 w1 w2) : Moved B g V V2 w w2 := by
  refine ⟨h.below.trans k.below, fun i hi hg hv => ?_, fun q hq b hb => ?_⟩
  · refine (k.rest i (Nat.lt_of_lt_of_le hi h.below.size) hg fun q hq e => ?_).trans (h.rest i hi hg hv)
    rcases h.news q hq i e with ⟨p, hp, e2⟩ | e2
    · exact hv p hp e2
    · omega
  · rcases k.news q hq b hb with ⟨p, hp, e⟩ | e
    · exact h.news p hp b e
    · exact .inr (Nat.le_trans h.below.size e)
theorem Moved.of_below {B g : Nat} {V : Nat → Value} {w w' : World} (h : Below w.heap.size w w') (hB : B ≤ w.heap.size) : Moved B g V V w w' := ⟨h.mono hB, fun i hi _ _ => h.block i hi, fun q hq _ e => .inl ⟨q, hq, e⟩⟩

theorem FifoAt.ltB {B : Nat} {w : World} {g : Nat} {V : Nat → Value} {Q : Nat → List Nat} {t : Nat} (h : FifoAt B w g V Q t) : B ≤ w.heap.size := Nat.le_of_lt (Nat.lt_of_le_of_lt h.base (lt_of_block h.head))
theorem FifoAt.kept {B : Nat} {w w' : World} {g : Nat} {V : Nat → Value} {Q : Nat → List Nat} {t : Nat} (h : FifoAt B w g V Q t) (hg : w'.heap[g]? = w.heap[g]?) (hb : ∀ q, q < 5 → ∀ k, (V q).ownBlock = some k → w'.heap[k]? = w.heap[k]?) : FifoAt B w' g V Q t :=
  ⟨h.base, hg.trans h.head, fun q hq => (h.own q hq).keep (hb q hq), h.apart, h.turn, h.room⟩
theorem FifoAt.below {B : Nat} {w w' : World} {g : Nat} {V : Nat → Value} {Q : Nat → List Nat} {t : Nat} (h : FifoAt B w g V Q t) (hb : Below w.heap.size w w') : FifoAt B w' g V Q t :=
  h.kept (hb.block g (lt_of_block h.head)) fun q hq k hk => by
    obtain ⟨_, cur, hc⟩ := (h.own q hq).row k hk
    exact hb.block k (lt_of_block hc)
theorem FifoAt.cell {B : Nat} {w : World} {g : Nat} {V : Nat → Value} {Q : Nat → List Nat} {t : Nat} (h : FifoAt B w g V Q t) (q : Nat) (hq : q < 5) : w.cell? ⟨g, q, none⟩ = some (V q) := by
  rw [cell_of_row _ _ _ _ _ _ h.head]
  match q, hq with
  | 0, _ => rfl
  | 1, _ => rfl
  | 2, _ => rfl
  | 3, _ => rfl
  | 4, _ => rfl
theorem FifoAt.cell5 {B : Nat} {w : World} {g : Nat} {V : Nat → Value} {Q : Nat → List Nat} {t : Nat} (h : FifoAt B w g V Q t) : w.cell? ⟨g, 5, none⟩ = some (.int .i64 (t : Int)) := by
  rw [cell_of_row _ _ _ _ _ _ h.head]; rfl
theorem FifoAt.frozen {B : Nat} {w : World} {g : Nat} {V : Nat → Value} {Q : Nat → List Nat} {t : Nat} (h : FifoAt B w g V Q t) (i : Nat) : w.frozen? ⟨g, i, none⟩ = false := frozen_of_row _ _ _ _ _ h.head
theorem FifoAt.head_ne {B : Nat} {w : World} {g : Nat} {V : Nat → Value} {Q : Nat → List Nat} {t : Nat} (h : FifoAt B w g V Q t) {q : Nat} (hq : q < 5) : (V q).ownBlock ≠ some g := fun e => by
  obtain ⟨_, cur, hc⟩ := (h.own q hq).row g e
  rw [h.head] at hc
  cases hc
/-- A block of another type is none of the fifo's. -/
theorem FifoAt.other {B : Nat} {w : World} {g : Nat} {V : Nat → Value} {Q : Nat → List Nat} {t : Nat} (h : FifoAt B w g V Q t) {i : Nat} {cs : Array Value} {ty : TypeId} {fr : Nat × Nat} (hi : w.heap[i]? = some (.cells cs ty fr)) (h1 : ty ≠ 27) (h2 : ty ≠ 38) :
    i ≠ g ∧ ∀ q, q < 5 → (V q).ownBlock ≠ some i := by
  refine ⟨fun e => ?_, fun q hq e => ?_⟩
  · subst e; rw [h.head] at hi; cases hi; exact h2 rfl
  · obtain ⟨_, cur, hc⟩ := (h.own q hq).row i e
    rw [hc] at hi; cases hi; exact h1 rfl
theorem set_head (V : Nat → Value) (q : Nat) (hq : q < 5) (v t : Value) : #[V 0, V 1, V 2, V 3, V 4, t].setIfInBounds q v = #[upd V q v 0, upd V q v 1, upd V q v 2, upd V q v 3, upd V q v 4, t] := by
  match q, hq with
  | 0, _ => rfl
  | 1, _ => rfl
  | 2, _ => rfl
  | 3, _ => rfl
  | 4, _ => rfl

set_option maxHeartbeats 400000 in
/-- New: an empty one. -/
theorem new_any (w : World) :
    Calls Try.prog 9 #[] w fun e w' => ∃ g, e = .returned (.pointer (some ⟨g, 0, none⟩)) ∧ FifoAt w.heap.size w' g (fun _ => .slice none 0 0) (fun _ => []) 0 ∧ Below w.heap.size w w' := by
  go_enter Try.func9, Try.ntmps9
  go_wp2
  go_ret
  exact ⟨w.heap.size, rfl, ⟨Nat.le_refl _, heap_alloc_last w _, fun q _ => QAt.nil _ _, fun p q _ _ _ h hh => by simp [Value.ownBlock] at hh, by omega, fun q _ => by simp⟩, (Below.refl _ _).alloc (Nat.le_refl _) _⟩
end Go.Proofs.Ytacddiidldppnaa
