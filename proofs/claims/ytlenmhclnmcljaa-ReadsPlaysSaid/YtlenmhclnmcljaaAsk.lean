/- The walks of Ask and Len. -/
import Derived.Test.YtlenmhclnmcljaaMem
import Derived.Deep.RegionLaw
namespace Go.Proofs.Ytlenmhclnmcljaa
open Go.RowKit

theorem ReadsAt.ltB {B : Nat} {w : World} {g : Nat} {v : Value} {L : List Rd} {b : Nat} (h : ReadsAt B w g v L b) : B ≤ w.heap.size := Nat.le_of_lt (Nat.lt_of_le_of_lt h.base (lt_of_block h.head))

theorem own_head_ne {w : World} {base : Nat} {size n : Nat} {v : Value} {xs : List Value} {g : Nat} {cs : Array Value} (h : w.ownsRow base 32 size v n xs) (hg : w.heap[g]? = some (.cells cs 43 (0, 0))) : v.ownBlock ≠ some g := by
  rcases h.2 with ⟨rfl, _⟩ | ⟨g', cap, cur, rfl, _, hh, _⟩
  · simp [Value.ownBlock]
  · intro he
    have : g' = g := by simpa [Value.ownBlock] using he
    subst this
    rw [hh] at hg
    cases hg

theorem Aside.grown {w w2 : World} {base : Nat} {v : Value} {n : Nat} {xs : List Value} (h : w.ownsRow base 32 3 v n xs) (hg : w.grownBy w2 v.ownBlock) : Aside w w2 := fun k c t fr hk _ h32 => by
  refine (hg.block k (lt_of_block hk) fun e => ?_).trans hk
  rcases h.2 with ⟨rfl, _⟩ | ⟨g', cap, cur, rfl, _, hh, _⟩
  · simp [Value.ownBlock] at e
  · have : k = g' := by simpa [Value.ownBlock] using e
    subst this
    rw [hh] at hk
    cases hk
    exact h32 rfl
theorem Aside.setCell {w : World} {g i : Nat} {cs : Array Value} (h : w.heap[g]? = some (.cells cs 43 (0, 0))) (u : Value) : Aside w (w.setCell ⟨g, i, none⟩ u) := fun k c t fr hk h43 _ => by
  refine (heap_setCell_other _ _ _ _ ?_).trans hk
  rintro rfl
  rw [h] at hk
  cases hk
  exact h43 rfl
/-- Every block but the list's own two is as it was. -/
def Apart (g : Nat) (v : Value) (w w' : World) : Prop := ∀ i, i < w.heap.size → i ≠ g → v.ownBlock ≠ some i → w'.heap[i]? = w.heap[i]?
/-- One more read at the end: what the list is then. -/
theorem appended {B : Nat} {w1 w2 : World} {g : Nat} {v : Value} {L : List Rd} {b : Nat} {o : Obj} {g2 cap : Nat} {xs : List Value} {r : Rd} (h : ReadsAt B w1 g v L b) (hg : (w1.alloc o).drew.grownBy w2 v.ownBlock)
    (ho : w2.ownsRow B 32 3 (.slice (some ⟨g2, 0, none⟩) (L.length + 1) cap) (L.length + 1) (row L ++ xs)) (hd : w2.heap[g]? = some (.cells #[v, .int .i64 (b : Int)] 43 (0, 0))) (hx : xs = row [r]) (hr : r.fits) :
    ReadsAt B (w2.setCell ⟨g, 0, none⟩ (.slice (some ⟨g2, 0, none⟩) (L.length + 1) cap)) g (.slice (some ⟨g2, 0, none⟩) (L.length + 1) cap) (L ++ [r]) b ∧
      Below B w1 (w2.setCell ⟨g, 0, none⟩ (.slice (some ⟨g2, 0, none⟩) (L.length + 1) cap)) ∧ Aside w1 (w2.setCell ⟨g, 0, none⟩ (.slice (some ⟨g2, 0, none⟩) (L.length + 1) cap)) ∧
      Apart g v w1 (w2.setCell ⟨g, 0, none⟩ (.slice (some ⟨g2, 0, none⟩) (L.length + 1) cap)) := by
  subst hx
  have hB := h.ltB
  refine ⟨⟨h.base, heap_setCell_same _ _ _ _ _ _ hd, ?_, by have := h.le; simp; omega, fun x hx => ?_⟩, ?_, ?_, ?_⟩
  · rw [row_append, List.length_append]
    exact ownsRow_of_heap ho fun k hk => heap_setCell_other _ _ _ _ (fun e => own_head_ne ho hd (by rw [hk, e]))
  · rcases List.mem_append.1 hx with hx | hx
    · exact h.fits x hx
    · rw [List.mem_singleton.1 hx]; exact hr
  · exact ((((Below.refl B w1).alloc hB o).drew).grown hg (by simp; omega) (fun k hk => (h.own.lt k hk).1)).setCell h.base _
  · exact (Aside.trans (Aside.trans (Aside.alloc w1 o) (Aside.draws _ 1)) (Aside.grown ((h.own.alloc o).drew) hg)).trans (Aside.setCell hd _)
  · intro i hi hne hv
    rw [heap_setCell_other _ _ _ _ hne, hg.block i (by simp; omega) (Ne.symm hv)]
    exact Below.heap_alloc w1 o i hi

set_option maxHeartbeats 400000 in
/-- Ask where one of that Id is there. -/
theorem ask_no (B g : Nat) (v : Value) (L : List Rd) (b id : Nat) (w : World) (h : ReadsAt B w g v L b) (hn : L.length ≤ 999) (ha : L.any (isId id) = true) :
    Calls Try.prog 8 #[.pointer (some ⟨g, 0, none⟩), .int .u64 (id : Int)] w fun e w' => e = .returned (.bool false) ∧ ReadsAt B w' g v L b ∧ Below w.heap.size w w' := by
  have hc := h.cell0
  have hlt := lt_of_block h.head
  have h' := h.below ((Below.refl _ _).alloc (Nat.le_refl _) (.cells #[.int .u64 (id : Int)] 25))
  have HA := Lib.hid ha
  clear ha
  go_enter Try.func8, Try.ntmps8
  go_wp2_with fail
  refine (contains_any v B L ⟨w.heap.size, 0, none⟩ id _ (by simp [World.cell?_alloc_new]) h'.own (by omega)).mono ?_
  rintro e w1 ⟨rfl, hb1⟩
  rw [HA.out]
  go_wp2_with fail
  go_ret
  exact ⟨rfl, h'.below hb1, (((Below.refl _ _).alloc (Nat.le_refl _) _)).trans (hb1.mono (by simp))⟩

set_option maxHeartbeats 1000000 in
/-- Ask where none is: one more that waits. -/
theorem ask_yes (B g : Nat) (v : Value) (L : List Rd) (b id : Nat) (w : World) (h : ReadsAt B w g v L b) (hn : L.length ≤ 999) (hid : id ≤ 18446744073709551615) (ha : L.any (isId id) = false) :
    Calls Try.prog 8 #[.pointer (some ⟨g, 0, none⟩), .int .u64 (id : Int)] w fun e w' => e = .returned (.bool true) ∧ (∃ v', ReadsAt B w' g v' (L ++ [⟨id, 0, 0⟩]) b ∧ ∀ i, v'.ownBlock = some i → v.ownBlock = some i ∨ w.heap.size ≤ i) ∧ Below B w w' ∧ Aside w w' ∧ Apart g v w w' := by
  have hc := h.cell0
  have hlt := lt_of_block h.head
  have h' := h.below ((Below.refl _ _).alloc (Nat.le_refl _) (.cells #[.int .u64 (id : Int)] 25))
  have HA := Lib.hid ha
  clear ha
  go_enter Try.func8, Try.ntmps8
  go_wp2_with fail
  have hp : (w.alloc (.cells #[.int .u64 (id : Int)] 25)).cell? ⟨w.heap.size, 0, none⟩ = some (.int .u64 (id : Int)) := by simp [World.cell?_alloc_new]
  refine (contains_any v B L ⟨w.heap.size, 0, none⟩ id _ hp h'.own (by omega)).mono ?_
  rintro e w1 ⟨rfl, hb1⟩
  rw [HA.out]
  have h1 := h'.below hb1
  have hp1 := (hb1.cell (p := ⟨w.heap.size, 0, none⟩) (by simp)).trans hp
  have hc1 := h1.cell0
  have hf1 := h1.frozen 0
  have H1 := Lib.hid h1
  clear hp h' h1
  obtain ⟨i0, hi, hz0, hz1, hz2⟩ := info_parts info32
  have hne := own_head_ne H1.out.own H1.out.head
  have HNE := Lib.hid hne
  have hrow : row [⟨id, 0, 0⟩] = [.int .u64 (id : Int), .int .u64 0, .int .u64 0] := rfl
  have HR := Lib.hid hrow
  have hlt1 := lt_of_block H1.out.head
  clear hne hrow
  go_wp2_with fail
  go_region_law ((refine step_append_lies _ (by rfl) _ _ _ (by rfl) B 32 i0 _ 3 24 Try.underlying29 hi hz0 hz1 hz2 rfl (by omega) v L.length (row L) (by rfl) ((H1.out.own.alloc _).drew) ⟨w1.heap.size, 0, none⟩ 1 1 [.int .u64 (id : Int), .int .u64 0, .int .u64 0] (by rfl) (by rfl) (World.news_of_block (cs := #[.int .u64 (id : Int), .int .u64 0, .int .u64 0]) (t := 32) (fr := (0, 0)) (heap_alloc_new w1 _)) (by simp [Value.oneCell']) (by omega) (by unfold maxLen; omega) (by omega) (by have := H1.out.ltB; simp; omega) (w1.heap.size + 1) (by simp) ?_; intro g2 cap w2 hown2 hgrow hat hlt2; have hd2 := (hgrow.block g (by simp; omega) (Ne.symm HNE.out)).trans ((Below.heap_alloc w1 _ g hlt1).trans H1.out.head); have hcg : w2.cell? ⟨g, 0, none⟩ = some v := (cell_of_row _ _ _ _ _ _ hd2).trans rfl; have hfg := frozen_of_row w2 g 0 _ _ hd2; have HD2 := Lib.hid hd2; clear hd2))
  all_goals
    go_wp2_with fail
    go_ret
    obtain ⟨e1, e2, e3, e4⟩ := appended H1.out hgrow hown2 HD2.out (r := ⟨id, 0, 0⟩) rfl ⟨hid, by simp, by simp⟩
    have hw1 := ((Below.refl w.heap.size w).alloc (Nat.le_refl _) (.cells #[.int .u64 (id : Int)] 25)).trans (hb1.mono (by simp))
    refine ⟨rfl, ⟨_, e1, fun i hi => ?_⟩, (hw1.mono h.ltB).trans e2, (Aside.of_below hw1).trans e3, fun i hi hne hv => (e4 i (Nat.lt_of_lt_of_le hi hw1.size) hne hv).trans (hw1.block i hi)⟩
    have hi' : g2 = i := by simpa [Value.ownBlock] using hi
    subst hi'
    have := hw1.size
    rcases hat with h | h
    · exact .inl h
    · exact .inr (by omega)

theorem ret_pair {a b c d : Int} (h : a = b) (k : c = d) : Ending.returned (.tuple #[.int .i64 a, .int .i64 c]) = .returned (.tuple #[.int .i64 b, .int .i64 d]) := by rw [h, k]
set_option maxHeartbeats 400000 in
/-- Len: how many are begun, how many wait. -/
theorem len_any (B g : Nat) (v : Value) (L : List Rd) (b : Nat) (w : World) (h : ReadsAt B w g v L b) (hn : L.length ≤ 1000) :
    Calls Try.prog 9 #[.pointer (some ⟨g, 0, none⟩)] w fun e w' => e = .returned (.tuple #[.int .i64 (b : Int), .int .i64 ((L.length - b : Nat) : Int)]) ∧ ∃ q, w' = w.drewN q := by
  have hc := h.cell0
  have hc1 := h.cell1
  obtain ⟨A, cap, rfl, _, _⟩ := own_form h.own
  have hle := h.le
  go_enter Try.func9, Try.ntmps9
  go_wp2_with fail
  go_quiet (fail)
  go_wp2_with fail
  go_ret2
  exact ⟨ret_pair rfl (by omega), _, rfl⟩
theorem len_nil (w : World) : Calls Try.prog 9 #[.pointer none] w fun e w' => e = .returned (.tuple #[.int .i64 0, .int .i64 0]) ∧ w' = w := by
  go_enter Try.func9, Try.ntmps9
  go_wp2
  go_ret2
  exact ⟨rfl, rfl⟩
theorem ask_nil (n : Int) (w : World) : Calls Try.prog 8 #[.pointer none, .int .u64 n] w fun e w' => e = .returned (.bool false) ∧ Below w.heap.size w w' := by
  go_enter Try.func8, Try.ntmps8
  go_wp2
  go_ret
  exact ⟨rfl, (Below.refl _ _).alloc (Nat.le_refl _) _⟩
end Go.Proofs.Ytlenmhclnmcljaa
