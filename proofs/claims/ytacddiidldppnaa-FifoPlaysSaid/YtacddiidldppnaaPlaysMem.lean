/- The contracts of the fifo and of the document's, in one spelling; what stays behind a call of either. -/
import Derived.Test.YtacddiidldppnaaRefDrain
import Derived.Test.YtacddiidldppnaaRefDrop
import Derived.Test.YtacddiidldppnaaRefSame
namespace Go.Proofs.Ytacddiidldppnaa
open Go.RowKit

/-- Is one put? And the list then. -/
def putB (G : List It) (q : Int) : Bool := decide (0 ≤ q ∧ q < 5 ∧ many G q < 4)
def putG (G : List It) (q : Int) (id : Nat) : List It := if putB G q = true then G ++ [⟨q.toNat, id⟩] else G
theorem putG_len (G : List It) (q : Int) (id : Nat) : (putG G q id).length ≤ G.length + 1 := by
  unfold putG; split
  · simp
  · omega
theorem putG_five {G : List It} (h : ∀ x ∈ G, x.q < 5) (q : Int) (id : Nat) : ∀ x ∈ putG G q id, x.q < 5 := by
  unfold putG; split
  · rename_i hb
    have hb' := of_decide_eq_true hb
    intro x hx
    rw [List.mem_append, List.mem_singleton] at hx
    rcases hx with hx | rfl
    · exact h x hx
    · show q.toNat < 5; omega
  · exact h

section
variable {B : Nat} {w : World} {g : Nat} {V : Nat → Value} {G : List It} {t : Nat}
theorem put_all (h : FifoAt B w g V (qOf G) t) (qi : Int) (id : Nat) : Calls Try.prog 10 #[.pointer (some ⟨g, 0, none⟩), .int .i64 qi, .int .u64 (id : Int)] w
    fun e w' => e = .returned (.bool (putB G qi)) ∧ ∃ V', FifoAt B w' g V' (qOf (putG G qi id)) t ∧ Moved B g V V' w w' := by
  by_cases hq : 0 ≤ qi ∧ qi < 5
  case neg =>
    have hb : putB G qi = false := decide_eq_false (by omega)
    refine (put_none h qi id hq).mono ?_
    rintro e w' ⟨rfl, rfl⟩
    have hg : putG G qi id = G := by unfold putG; rw [hb]; rfl
    rw [hb, hg]
    exact ⟨rfl, V, h, Moved.refl _ _ _ _⟩
  case pos =>
    obtain ⟨q, rfl⟩ : ∃ q : Nat, qi = q := ⟨qi.toNat, by omega⟩
    have hm := many_qOf G q
    by_cases hl : (qOf G q).length < 4
    · have hb : putB G (q : Int) = true := decide_eq_true (by omega)
      refine (put_yes h q id (by omega) hl).mono ?_
      rintro e w' ⟨rfl, V', f, m⟩
      have hg : putG G (q : Int) id = G ++ [⟨q, id⟩] := by unfold putG; rw [hb]; rfl
      rw [hb, hg, qOf_put]
      exact ⟨rfl, V', f, m⟩
    · have hb : putB G (q : Int) = false := decide_eq_false (by omega)
      refine (put_full h q id (by omega) (by omega)).mono ?_
      rintro e w' ⟨rfl, rfl⟩
      have hg : putG G (q : Int) id = G := by unfold putG; rw [hb]; rfl
      rw [hb, hg]
      exact ⟨rfl, V, h, Moved.refl _ _ _ _⟩
theorem refPut_all (v : Value) (ti qi : Int) (id : Nat) (h : GRow w B v G) (hl : G.length ≤ 1000) (hB : B ≤ w.heap.size) : Calls Try.prog 13 #[.agg #[v, .int .i64 ti], .int .i64 qi, .int .u64 (id : Int)] w
    fun e w' => ∃ v', e = .returned (.tuple #[.agg #[v', .int .i64 ti], .bool (putB G qi)]) ∧ GRow w' B v' (putG G qi id) ∧ Below w.heap.size w w' := by
  refine (refPut_any B v G ti qi id w h hl hB).mono ?_
  rintro e w' ⟨b, v', rfl, h0, h1, hb⟩
  cases b with
  | false =>
    obtain ⟨h2, rfl⟩ := h0 rfl
    have hp : putB G qi = false := decide_eq_false (by omega)
    have hg : putG G qi id = G := by unfold putG; rw [hp]; rfl
    rw [hp, hg]
    exact ⟨_, rfl, h.below hb, hb⟩
  | true =>
    obtain ⟨q, rfl, h2, h3, h4⟩ := h1 rfl
    have hp : putB G (q : Int) = true := decide_eq_true (by omega)
    have hg : putG G (q : Int) id = G ++ [⟨q, id⟩] := by unfold putG; rw [hp]; rfl
    rw [hp, hg]
    exact ⟨_, rfl, h4, hb⟩
theorem len_all (h : FifoAt B w g V (qOf G) t) (h5 : ∀ x ∈ G, x.q < 5) (qi : Int) : Calls Try.prog 18 #[.pointer (some ⟨g, 0, none⟩), .int .i64 qi] w fun e w' => e = .returned (.int .i64 (many G qi : Int)) ∧ w' = w := by
  by_cases hq : 0 ≤ qi ∧ qi < 5
  · obtain ⟨q, rfl⟩ : ∃ q : Nat, qi = q := ⟨qi.toNat, by omega⟩
    rw [many_qOf]
    exact len_any h q (by omega)
  · rw [many_out G qi fun x hx => by have := h5 x hx; omega]
    exact len_no h qi hq
theorem refPut_for (v : Value) (ti qi : Int) (id : Nat) (h : GRow w B v G) (hl : G.length ≤ 1000) (hB : B ≤ w.heap.size) (r : Bool) (hr : putB G qi = r) (G2 : List It) (hg : putG G qi id = G2) : Calls Try.prog 13 #[.agg #[v, .int .i64 ti], .int .i64 qi, .int .u64 (id : Int)] w
    fun e w' => ∃ v', e = .returned (.tuple #[.agg #[v', .int .i64 ti], .bool r]) ∧ GRow w' B v' G2 ∧ Below w.heap.size w w' := by
  subst hr hg
  exact refPut_all v ti qi id h hl hB
theorem lens_for (h : FifoAt B w g V (qOf G) t) (h5 : ∀ x ∈ G, x.q < 5) (qi : Int) (m : Nat) (hm : many G qi = m) : Calls Try.prog 18 #[.pointer (some ⟨g, 0, none⟩), .int .i64 qi] w fun e w' => e = .returned (.int .i64 (m : Int)) ∧ w' = w := by
  subst hm
  exact len_all h h5 qi
theorem refLens_for (v : Value) (ti qi : Int) (h : GRow w B v G) (hl : G.length ≤ 1000) (m : Nat) (hm : many G qi = m) : Calls Try.prog 19 #[.agg #[v, .int .i64 ti], .int .i64 qi] w fun e w' => e = .returned (.int .i64 (m : Int)) ∧ Below w.heap.size w w' := by
  subst hm
  exact refLen_any B v G ti qi w h hl
theorem refDrain_for (v : Value) (n : Int) (h : GRow w B v G) (hl : G.length ≤ 1000) (ht : t < 5) (hB : B ≤ w.heap.size) (L : List It) (hL : (drainF n.toNat ⟨qOf G, t⟩).2 = L) : Calls Try.prog 14 #[.agg #[v, .int .i64 (t : Int)], .int .i64 n] w
    fun e w' => ∃ (v' u : Value) (t' : Nat) (G' : List It), e = .returned (.tuple #[.agg #[v', .int .i64 (t' : Int)], u]) ∧ (drainF n.toNat ⟨qOf G, t⟩).1 = ⟨qOf G', t'⟩ ∧ GRow w' B v' G' ∧ G'.Sublist G ∧ GRow w' B u L ∧ L.length ≤ G.length ∧ Below w.heap.size w w' := by
  subst hL
  refine (refDrain_any B v G t n w h hl ht hB).mono ?_
  rintro e w' ⟨v', u, t', G', rfl, h1, h2, h3, h4, h5, h6⟩
  exact ⟨v', u, t', G', rfl, h1, h2, h3, h4.mono hB, h5, h6⟩
theorem GRow.moved {V' : Nat → Value} {w' : World} {Q : Nat → List Nat} {b : Nat} {v : Value} {L : List It} (h : GRow w b v L) (hf : FifoAt B w g V Q t) (hm : Moved B g V V' w w') : GRow w' b v L :=
  h.keep fun k hk => by
    obtain ⟨_, cur, hc⟩ := h.row k hk
    obtain ⟨n1, n2⟩ := hf.other hc (by decide) (by decide)
    exact hm.rest k (lt_of_block hc) n1 n2
theorem moved_box {V' : Nat → Value} {w' : World} {Q : Nat → List Nat} {i : Nat} {cs : Array Value} (h : w.heap[i]? = some (.cells cs 41 (0, 0))) (hf : FifoAt B w g V Q t) (hm : Moved B g V V' w w') : w'.heap[i]? = some (.cells cs 41 (0, 0)) := by
  obtain ⟨n1, n2⟩ := hf.other h (by decide) (by decide)
  exact (hm.rest i (lt_of_block h) n1 n2).trans h
theorem FifoAt.two {Q : Nat → List Nat} {i : Nat} {cs : Array Value} {v0 v1 : Value} (h : FifoAt B w g V Q t) (hi : w.heap[i]? = some (.cells cs 41 (0, 0))) : FifoAt B ((w.setCell ⟨i, 0, none⟩ v0).setCell ⟨i, 1, none⟩ v1) g V Q t := by
  obtain ⟨n1, n2⟩ := h.other hi (by decide) (by decide)
  exact (h.set (p := ⟨i, 0, none⟩) n1 n2 v0).set (p := ⟨i, 1, none⟩) n1 n2 v1
end
theorem GRow.two {w : World} {b i : Nat} {v v0 v1 : Value} {L : List It} {cs : Array Value} (h : GRow w b v L) (hi : w.heap[i]? = some (.cells cs 41 (0, 0))) : GRow ((w.setCell ⟨i, 0, none⟩ v0).setCell ⟨i, 1, none⟩ v1) b v L := by
  have hne : v.ownBlock ≠ some i := fun e => by
    obtain ⟨_, cur, hc⟩ := h.row i e
    rw [hi] at hc; cases hc
  exact (h.set (p := ⟨i, 0, none⟩) hne v0).set (p := ⟨i, 1, none⟩) hne v1
theorem Items.two {w : World} {b i : Nat} {v v0 v1 : Value} {L : List It} {cs : Array Value} (h : Items w b v L) (hi : w.heap[i]? = some (.cells cs 41 (0, 0))) : Items ((w.setCell ⟨i, 0, none⟩ v0).setCell ⟨i, 1, none⟩ v1) b v L :=
  h.keep fun k hk => by
    have hne : k ≠ i := fun e => by
      obtain ⟨_, cur, hc⟩ := h.row k hk
      subst e
      rw [hi] at hc; cases hc
    rw [heap_setCell_other _ _ _ _ hne, heap_setCell_other _ _ _ _ hne]
theorem Items.under {w w' : World} {b : Nat} {v : Value} {L : List It} (h : Items w b v L) (hb : Below w.heap.size w w') : Items w' b v L := h.keep fun k hk => hb.block k (lt_of_block (h.row k hk).2.choose_spec)

/-- The fifo and the document's stand alike. -/
structure PS (B : Nat) (w : World) (g g6 : Nat) (V : Nat → Value) (v : Value) (G : List It) (t : Nat) : Prop where
  fifo : FifoAt B w g V (qOf G) t
  box : w.heap[g6]? = some (.cells #[v, .int .i64 (t : Int)] 41 (0, 0))
  row : GRow w B v G
  five : ∀ x ∈ G, x.q < 5
theorem PS.below {B : Nat} {w w' : World} {g g6 : Nat} {V : Nat → Value} {v : Value} {G : List It} {t : Nat} (h : PS B w g g6 V v G t) (hb : Below w.heap.size w w') : PS B w' g g6 V v G t :=
  ⟨h.fifo.below hb, (hb.block g6 (lt_of_block h.box)).trans h.box, h.row.below hb, h.five⟩
theorem meetA {w2 w3 : World} (b3 : Below w2.drew.heap.size w2.drew w3) : Below w2.heap.size w2 w3 := Below.trans (b := w2.drew) (blw_draws (Below.refl _ _) 1) b3
theorem meetB {w2 w3 : World} {o : Obj} (b3 : Below (w2.alloc o).drew.heap.size (w2.alloc o).drew w3) : Below w2.heap.size w2 w3 := Below.trans (b := (w2.alloc o).drew) (blw_draws (below_box w2 o) 1) (b3.mono (by simp))
end Go.Proofs.Ytacddiidldppnaa
