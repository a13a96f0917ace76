/- What ReadsOnce keeps in memory beside the list: two arrays of 201 numbers and a variable for the read told last. -/
import Derived.Test.YtlenmhclnmcljaaOnceMath
namespace Go.Proofs.Ytlenmhclnmcljaa
open Go.RowKit

/-- An act: what is done, two numbers. -/
structure Act3 where
  d : Nat
  x : Nat
  y : Nat
/-- The acts that a slice of an argument holds. -/
def ActsAt (w : World) (A : Option Addr) (l : List Act3) : Prop := ∀ k (h : k < l.length), ∃ b off, A = some ⟨b, off, none⟩ ∧ w.cell? ⟨b, off + k * 3, none⟩ = some (.int .u8 ((l[k].d : Nat) : Int)) ∧
  w.cell? ⟨b, off + k * 3 + 1, none⟩ = some (.int .u64 ((l[k].x : Nat) : Int)) ∧ w.cell? ⟨b, off + k * 3 + 2, none⟩ = some (.int .u64 ((l[k].y : Nat) : Int)) ∧ l[k].d < 256 ∧ l[k].x ≤ 18446744073709551615 ∧ l[k].y ≤ 18446744073709551615

/-- An array of 201 numbers. -/
def ArrAt (w : World) (g : Nat) (F : Nat → Nat) : Prop := ∃ C, w.heap[g]? = some (.cells C 37 (0, 0)) ∧ C.size = 201 ∧ ∀ j, j < 201 → C[j]? = some (.int .u64 ((F j : Nat) : Int)) ∧ F j ≤ 18446744073709551615
/-- A variable that holds some read. -/
def VarAt (w : World) (g : Nat) : Prop := ∃ C, w.heap[g]? = some (.cells C 32 (0, 0)) ∧ C.size = 3

/-- All that the law keeps in memory. -/
structure Mem (B : Nat) (w : World) (g g7 g8 g9 : Nat) (v : Value) (L : List Rd) (bc : Nat) (IX RD : Nat → Nat) : Prop where
  list : ReadsAt B w g v L bc
  ix : ArrAt w g7 IX
  rd : ArrAt w g8 RD
  last : VarAt w g9
  off : v.ownBlock ≠ some g9
  two : g7 ≠ g8
  b7 : B ≤ g7
  b8 : B ≤ g8
  b9 : B ≤ g9

theorem start_mem {B : Nat} {w1 : World} {g : Nat} {cs cv : Array Value} {F : Nat → Nat} (h : ReadsAt B w1 g (.slice none 0 0) [] 0) (hs : cs.size = 201) (hc : ∀ j, j < 201 → cs[j]? = some (.int .u64 ((F j : Nat) : Int)) ∧ F j ≤ 18446744073709551615) (hv : cv.size = 3) (hB : B ≤ w1.heap.size) :
    Mem B (((w1.alloc (.cells cs 37)).alloc (.cells cs 37)).alloc (.cells cv 32)) g w1.heap.size (w1.heap.size + 1) (w1.heap.size + 1 + 1) (.slice none 0 0) [] 0 F F := by
  have h1 : (((w1.alloc (.cells cs 37)).alloc (.cells cs 37)).alloc (.cells cv 32)).heap[w1.heap.size]? = some (.cells cs 37 (0, 0)) :=
    (Below.heap_alloc _ _ _ (by simp; omega)).trans (heap_alloc2_old w1 _ _)
  have h2 : (((w1.alloc (.cells cs 37)).alloc (.cells cs 37)).alloc (.cells cv 32)).heap[w1.heap.size + 1]? = some (.cells cs 37 (0, 0)) :=
    (Below.heap_alloc _ _ _ (by simp)).trans (heap_alloc2_new w1 _ _)
  have h3 : (((w1.alloc (.cells cs 37)).alloc (.cells cs 37)).alloc (.cells cv 32)).heap[w1.heap.size + 1 + 1]? = some (.cells cv 32 (0, 0)) := by
    have := heap_alloc_last ((w1.alloc (.cells cs 37)).alloc (.cells cs 37)) (.cells cv 32)
    simpa using this
  refine ⟨h.below ((((Below.refl _ _).alloc (Nat.le_refl _) _).alloc (by simp) _).alloc (by simp; omega) _), ⟨cs, h1, hs, hc⟩, ⟨cs, h2, hs, hc⟩, ⟨cv, h3, hv⟩, by simp [Value.ownBlock], by omega, hB, by omega, by omega⟩

theorem ArrAt.aside {w w' : World} {g : Nat} {F : Nat → Nat} (h : ArrAt w g F) (ha : Aside w w') : ArrAt w' g F := by
  obtain ⟨C, h1, h2⟩ := h
  exact ⟨C, ha _ _ _ _ h1 (by decide) (by decide), h2⟩
theorem Mem.step {B : Nat} {w w' : World} {g g7 g8 g9 : Nat} {v v' : Value} {L L' : List Rd} {bc bc' : Nat} {IX RD : Nat → Nat} (h : Mem B w g g7 g8 g9 v L bc IX RD) (r : ReadsAt B w' g v' L' bc') (ha : Aside w w') (hp : Apart g v w w')
    (hf : ∀ i, v'.ownBlock = some i → v.ownBlock = some i ∨ w.heap.size ≤ i) : Mem B w' g g7 g8 g9 v' L' bc' IX RD := by
  obtain ⟨C, h1, h2⟩ := h.last
  have hl := lt_of_block h1
  have hne : g9 ≠ g := fun e => by
    subst e
    have := h.list.head
    rw [h1] at this
    cases this
  refine ⟨r, h.ix.aside ha, h.rd.aside ha, ⟨C, (hp g9 hl hne h.off).trans h1, h2⟩, fun e => ?_, h.two, h.b7, h.b8, h.b9⟩
  rcases hf g9 e with h | h
  · exact Mem.off ‹_› h
  · omega
theorem Mem.below {B : Nat} {w w' : World} {g g7 g8 g9 : Nat} {v : Value} {L : List Rd} {bc : Nat} {IX RD : Nat → Nat} (h : Mem B w g g7 g8 g9 v L bc IX RD) (hb : Below w.heap.size w w') : Mem B w' g g7 g8 g9 v L bc IX RD :=
  h.step (h.list.below hb) (Aside.of_below hb) (fun i hi _ _ => hb.block i hi) (fun _ h => .inl h)


/-- The first count cells of a row of one's own lie in a block of another kind: that block is not it. -/
theorem own_type_ne {w : World} {base : Nat} {size n : Nat} {v : Value} {xs : List Value} {g : Nat} {cs : Array Value} {t : TypeId} (h : w.ownsRow base 32 size v n xs) (hg : w.heap[g]? = some (.cells cs t (0, 0))) (ht : t ≠ 32) : v.ownBlock ≠ some g := by
  rcases h.2 with ⟨rfl, _⟩ | ⟨g', cap, cur, rfl, _, hh, _⟩
  · simp [Value.ownBlock]
  · intro he
    have : g' = g := by simpa [Value.ownBlock] using he
    subst this
    rw [hh] at hg
    cases hg
    exact ht rfl
theorem ReadsAt.setOther {B : Nat} {w : World} {g k i : Nat} {v u : Value} {L : List Rd} {b : Nat} (h : ReadsAt B w g v L b) (hk : k ≠ g) (ho : v.ownBlock ≠ some k) : ReadsAt B (w.setCell ⟨k, i, none⟩ u) g v L b :=
  ⟨h.base, (heap_setCell_other _ _ _ _ (Ne.symm hk)).trans h.head, ownsRow_of_heap h.own fun j hj => heap_setCell_other _ _ _ _ (fun e => ho (by rw [hj]; exact congrArg some e)), h.le, h.fits⟩
theorem ArrAt.ne_head {w : World} {g k : Nat} {F : Nat → Nat} {cs : Array Value} (h : ArrAt w k F) (hg : w.heap[g]? = some (.cells cs 43 (0, 0))) : k ≠ g := fun e => by
  subst e
  obtain ⟨C, h1, _⟩ := h
  rw [h1] at hg
  cases hg
theorem ArrAt.cell {w : World} {g : Nat} {F : Nat → Nat} (h : ArrAt w g F) (c : Nat) (hc : c < 201) : w.cell? ⟨g, c, none⟩ = some (.int .u64 ((F c : Nat) : Int)) ∧ F c ≤ 18446744073709551615 ∧ w.frozen? ⟨g, c, none⟩ = false := by
  obtain ⟨C, h1, h2, h3⟩ := h
  exact ⟨by rw [cell_of_row _ _ _ _ _ _ h1]; exact (h3 c hc).1, (h3 c hc).2, frozen_of_row _ _ _ _ _ h1⟩
theorem ArrAt.set {w : World} {g c x : Nat} {F : Nat → Nat} (h : ArrAt w g F) (hx : x ≤ 18446744073709551615) : ArrAt (w.setCell ⟨g, c, none⟩ (.int .u64 (x : Int))) g (fun j => if j = c then x else F j) := by
  obtain ⟨C, h1, h2, h3⟩ := h
  refine ⟨_, heap_setCell_same _ _ _ _ _ _ h1, by simpa using h2, fun j hj => ?_⟩
  by_cases e : j = c
  · subst e
    simp only [if_true]
    exact ⟨by rw [Array.getElem?_setIfInBounds_self_of_lt (by omega)], hx⟩
  · simp only [if_neg e]
    rw [Array.getElem?_setIfInBounds_ne (Ne.symm e)]
    exact h3 j hj
theorem ArrAt.setOther {w : World} {g k i : Nat} {u : Value} {F : Nat → Nat} (h : ArrAt w g F) (hk : g ≠ k) : ArrAt (w.setCell ⟨k, i, none⟩ u) g F := by
  obtain ⟨C, h1, h2⟩ := h
  exact ⟨C, (heap_setCell_other _ _ _ _ hk).trans h1, h2⟩
theorem VarAt.ne_arr {w : World} {g k : Nat} {F : Nat → Nat} (h : VarAt w g) (h2 : ArrAt w k F) : g ≠ k := fun e => by
  subst e
  obtain ⟨C, h1, _⟩ := h
  obtain ⟨D, h3, _⟩ := h2
  rw [h1] at h3
  cases h3
/-- The Ids' slice, written out. -/
theorem own_ids {w : World} {base : Nat} {v : Value} {L : List Rd} (h : w.ownsRow base 25 1 v L.length (idsOf L)) :
    ∃ A cap, v = .slice A L.length cap ∧ L.length ≤ cap ∧ ∀ k (hk : k < L.length), ∃ hb, A = some ⟨hb, 0, none⟩ ∧ w.cell? ⟨hb, k, none⟩ = some (.int .u64 (L[k].id : Int)) := by
  rcases h.2 with ⟨rfl, h0⟩ | ⟨g, cap, cur, rfl, h3, h4, h5, h6, h7, h8⟩
  · exact ⟨none, 0, by rw [h0], by omega, fun k hk => by omega⟩
  · refine ⟨_, cap, rfl, h5, fun k hk => ⟨g, rfl, ?_⟩⟩
    rw [h.cellAt k (by omega)]
    unfold idsOf
    rw [List.getElem?_map, List.getElem?_eq_getElem hk]
    rfl
theorem VarAt.cells {w : World} {g : Nat} (h : VarAt w g) : ∃ u0 u1 u2, w.cell? ⟨g, 0, none⟩ = some u0 ∧ w.cell? ⟨g, 1, none⟩ = some u1 ∧ w.cell? ⟨g, 2, none⟩ = some u2 ∧ w.frozen? ⟨g, 0, none⟩ = false ∧ w.frozen? ⟨g, 1, none⟩ = false ∧ w.frozen? ⟨g, 2, none⟩ = false := by
  obtain ⟨C, h1, h2⟩ := h
  have f := fun i => frozen_of_row w g i _ _ h1
  have c := fun i => cell_of_row w g i _ _ _ h1
  exact ⟨C[0], C[1], C[2], by rw [c, Array.getElem?_eq_getElem (by omega)], by rw [c, Array.getElem?_eq_getElem (by omega)], by rw [c, Array.getElem?_eq_getElem (by omega)], f 0, f 1, f 2⟩
/-- Begin notes an index and a round. -/
theorem Mem.note {B : Nat} {w : World} {g g7 g8 g9 c x y : Nat} {v : Value} {L : List Rd} {bc : Nat} {IX RD : Nat → Nat} (h : Mem B w g g7 g8 g9 v L bc IX RD) (hx : x ≤ 18446744073709551615) (hy : y ≤ 18446744073709551615) :
    Mem B ((w.setCell ⟨g7, c, none⟩ (.int .u64 (x : Int))).setCell ⟨g8, c, none⟩ (.int .u64 (y : Int))) g g7 g8 g9 v L bc (fun j => if j = c then x else IX j) (fun j => if j = c then y else RD j) := by
  obtain ⟨C7, h7, _⟩ := h.ix
  obtain ⟨C8, h8, _⟩ := h.rd
  obtain ⟨C, h9, hs⟩ := h.last
  have o7 := own_type_ne h.list.own h7 (by decide)
  have o8 := own_type_ne h.list.own h8 (by decide)
  refine ⟨(h.list.setOther (h.ix.ne_head h.list.head) o7).setOther (h.rd.ne_head h.list.head) o8, (h.ix.set hx).setOther h.two, (h.rd.setOther (Ne.symm h.two)).set hy, ⟨C, ?_, hs⟩, h.off, h.two, h.b7, h.b8, h.b9⟩
  rw [heap_setCell_other _ _ _ _ (h.last.ne_arr h.rd), heap_setCell_other _ _ _ _ (h.last.ne_arr h.ix)]
  exact h9
/-- The law keeps the read that it was told last. -/
theorem Mem.keep {B : Nat} {w : World} {g g7 g8 g9 x y z : Nat} {v : Value} {L : List Rd} {bc : Nat} {IX RD : Nat → Nat} (h : Mem B w g g7 g8 g9 v L bc IX RD) :
    Mem B (((w.setCell ⟨g9, 0, none⟩ (.int .u64 (x : Int))).setCell ⟨g9, 1, none⟩ (.int .u64 (y : Int))).setCell ⟨g9, 2, none⟩ (.int .u64 (z : Int))) g g7 g8 g9 v L bc IX RD ∧
    (((w.setCell ⟨g9, 0, none⟩ (.int .u64 (x : Int))).setCell ⟨g9, 1, none⟩ (.int .u64 (y : Int))).setCell ⟨g9, 2, none⟩ (.int .u64 (z : Int))).heap[g9]? = some (.cells #[.int .u64 (x : Int), .int .u64 (y : Int), .int .u64 (z : Int)] 32 (0, 0)) := by
  obtain ⟨C, h9, hs⟩ := h.last
  have e7 := h.last.ne_arr h.ix
  have e8 := h.last.ne_arr h.rd
  have eg : g9 ≠ g := fun e => by
    subst e
    have := h.list.head
    rw [h9] at this
    cases this
  have hC : C = #[C[0]!, C[1]!, C[2]!] := by
    apply Array.ext
    · simpa using hs
    · intro i hi _
      have : i = 0 ∨ i = 1 ∨ i = 2 := by omega
      rcases this with rfl | rfl | rfl <;> simp [getElem!_def, hi]
  have hb := heap_setCell_same _ g9 2 _ 32 (.int .u64 (z : Int)) (heap_setCell_same _ g9 1 _ 32 (.int .u64 (y : Int)) (heap_setCell_same w g9 0 _ 32 (.int .u64 (x : Int)) h9))
  have hb' : (((C.setIfInBounds 0 (.int .u64 (x : Int))).setIfInBounds 1 (.int .u64 (y : Int))).setIfInBounds 2 (.int .u64 (z : Int))) = #[.int .u64 (x : Int), .int .u64 (y : Int), .int .u64 (z : Int)] := by rw [hC]; rfl
  rw [hb'] at hb
  refine ⟨⟨((h.list.setOther eg h.off).setOther eg h.off).setOther eg h.off, ((h.ix.setOther (Ne.symm e7)).setOther (Ne.symm e7)).setOther (Ne.symm e7), ((h.rd.setOther (Ne.symm e8)).setOther (Ne.symm e8)).setOther (Ne.symm e8), ⟨_, hb, rfl⟩, h.off, h.two, h.b7, h.b8, h.b9⟩, hb⟩

end Go.Proofs.Ytlenmhclnmcljaa
