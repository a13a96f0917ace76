/- The document's answers for a fifo: its list in memory; the walks of its Len, first and Put. -/
import Derived.Test.YtacddiidldppnaaTwo
import Derived.Deep.Onto
namespace Go.Proofs.Ytacddiidldppnaa
open Go.RowKit

/-- A slice of the document's items that a call made. -/
def GRow (w : World) (base : Nat) (v : Value) (G : List It) : Prop := w.ownsRow base 61 2 v G.length (irow G)
theorem GRow.nil (w : World) (base : Nat) : GRow w base (.slice none 0 0) [] := World.ownsRow_nil _ _ _ _
theorem own_row {w : World} {base e size n : Nat} {v : Value} {xs : List Value} (h : w.ownsRow base e size v n xs) : ∀ k, v.ownBlock = some k → base ≤ k ∧ ∃ cur, w.heap[k]? = some (.cells cur e (0, 0)) := by
  intro k hk
  rcases h.2 with ⟨rfl, _⟩ | ⟨g, cap, cur, rfl, h1, h2, _⟩
  · simp [Value.ownBlock] at hk
  · have : g = k := by simpa [Value.ownBlock] using hk
    subst this
    exact ⟨h1, cur, h2⟩
theorem own_keep {w w' : World} {base e size n : Nat} {v : Value} {xs : List Value} (h : w.ownsRow base e size v n xs) (hb : ∀ k, v.ownBlock = some k → w'.heap[k]? = w.heap[k]?) : w'.ownsRow base e size v n xs := by
  refine ⟨h.1, ?_⟩
  rcases h.2 with h2 | ⟨g, cap, cur, rfl, h3, h4, h5⟩
  · exact .inl h2
  · exact .inr ⟨g, cap, cur, rfl, h3, (hb g rfl).trans h4, h5⟩
theorem own_below {w w' : World} {base e size n : Nat} {v : Value} {xs : List Value} (h : w.ownsRow base e size v n xs) (hb : Below w.heap.size w w') : w'.ownsRow base e size v n xs :=
  own_keep h fun k hk => hb.block k (lt_of_block (own_row h k hk).2.choose_spec)
theorem GRow.form {w : World} {base : Nat} {v : Value} {L : List It} (h : GRow w base v L) :
    ∃ A cap, v = .slice A L.length cap ∧ L.length ≤ cap ∧ ∀ k (hk : k < L.length), ∃ hb, A = some ⟨hb, 0, none⟩ ∧ base ≤ hb ∧ hb < w.heap.size ∧
      w.cell? ⟨hb, k * 2, none⟩ = some (.int .i64 (L[k].q : Int)) ∧ w.cell? ⟨hb, k * 2 + 1, none⟩ = some (.int .u64 (L[k].id : Int)) := by
  have hL := irow_length L
  rcases h.2 with ⟨rfl, h0⟩ | ⟨g, cap, cur, rfl, h3, h4, h5, h6, h7, h8⟩
  · exact ⟨none, 0, by rw [h0], by omega, fun k hk => by omega⟩
  · refine ⟨_, cap, rfl, h5, fun k hk => ⟨g, rfl, h3, lt_of_block h4, ?_, ?_⟩⟩
    · rw [World.ownsRow.cellAt h (k * 2) (by omega)]; have := irow_at L k 0 hk (by omega); simpa [It.cells] using this
    · rw [World.ownsRow.cellAt h (k * 2 + 1) (by omega)]; have := irow_at L k 1 hk (by omega); simpa [It.cells] using this
theorem info61 : (Try.prog.info? 61).map (fun i => (i.zero, i.size, i.bytes)) = some (some (.agg #[.int .i64 0, .int .u64 0]), 2, 16) := by kernel_rfl
theorem below_box (w : World) (o : Obj) : Below w.heap.size w (w.alloc o) := (Below.refl _ _).alloc (Nat.le_refl _) o
theorem heap2 (w : World) (a b : Obj) : ((w.alloc a).alloc b).heap[w.heap.size]? = some a ∧ ((w.alloc a).alloc b).heap[w.heap.size + 1]? = some b :=
  ⟨(Below.heap_alloc (w.alloc a) b w.heap.size (by simp)).trans (heap_alloc_last w a), heap_alloc2_new w a b⟩

/-- How many of a queue. -/
def many (G : List It) (q : Int) : Nat := G.countP fun x => decide ((x.q : Int) = q)
set_option maxHeartbeats 1000000 in
theorem refLen_any (B : Nat) (v : Value) (G : List It) (t q : Int) (w : World) (h : GRow w B v G) (hl : G.length ≤ 1000) :
    Calls Try.prog 19 #[.agg #[v, .int .i64 t], .int .i64 q] w fun e w' => e = .returned (.int .i64 (many G q : Int)) ∧ Below w.heap.size w w' := by
  obtain ⟨A, cap, rfl, _, hc⟩ := h.form
  clear h
  go_enter Try.func19, Try.ntmps19
  go_wp2_with fail
  have hb0 := below_box w (.cells #[.slice A G.length cap, .int .i64 t] 41)
  have x0 : (w.alloc (.cells #[.slice A G.length cap, .int .i64 t] 41)).cell? ⟨w.heap.size, 0, none⟩ = some (.slice A G.length cap) := by rw [cell_of_row _ _ _ _ _ _ (heap_alloc_last w _)]; rfl
  generalize w.alloc (.cells #[.slice A G.length cap, .int .i64 t] 41) = W at hb0 x0 ⊢
  generalize w.heap.size = g2 at x0 ⊢
  go_loop [5, 6] (fun n i => ∃ k : Nat, k ≤ G.length ∧ i = .int .i64 k ∧ n = .int .i64 ((many (G.take k) q : Nat) : Int)) (fun _ i => G.length - (intOf i).toNat)
  case atStart => exact ⟨0, Nat.zero_le _, rfl, rfl⟩
  case round =>
    obtain ⟨k, hk, rfl, rfl⟩ := hrel
    obtain ⟨m, hm⟩ : ∃ m, many (G.take k) q = m := ⟨_, rfl⟩
    have hmk : many (G.take k) q ≤ k := Nat.le_trans List.countP_le_length (by rw [List.length_take]; omega)
    rw [hm] at hmk ⊢
    have HM := Lib.hid hm
    clear hm
    by_cases hlt : k < G.length
    · obtain ⟨hb, rfl, _, hbl, c0, _⟩ := hc k hlt
      have c0' := (hb0.cell (p := ⟨hb, k * 2, none⟩) hbl).trans c0
      obtain ⟨x, hx⟩ : ∃ x, G[k] = x := ⟨_, rfl⟩
      rw [hx] at c0'
      have HX := Lib.hid hx
      clear c0 hx
      by_cases hq : (x.q : Int) = q
      · have hd : ((x.q : Int) == q) = true := by simpa using hq
        have HQ := Lib.hid hq
        clear hq
        go_wp2_with fail
        go_round
        case rel =>
          refine ⟨k + 1, by omega, by go_num, ?_⟩
          have e : many (G.take (k + 1)) q = m + 1 := by
            rw [List.take_succ_eq_append_getElem hlt]
            unfold many at HM ⊢
            rw [List.countP_append, HM.out, HX.out]
            simp [HQ.out]
          rw [e]; go_num
        case measure => simp [intOf]; omega
      · have hd : ((x.q : Int) == q) = false := by simpa using hq
        have HQ := Lib.hid hq
        clear hq
        go_wp2_with fail
        go_round
        case rel =>
          refine ⟨k + 1, by omega, by go_num, ?_⟩
          have e : many (G.take (k + 1)) q = m := by
            rw [List.take_succ_eq_append_getElem hlt]
            unfold many at HM ⊢
            rw [List.countP_append, HM.out, HX.out]
            simp [HQ.out]
          rw [e]
        case measure => simp [intOf]; omega
    · obtain rfl : k = G.length := by omega
      rw [List.take_length] at HM
      go_wp2_with fail
      go_ret
      exact ⟨by rw [HM.out]; rfl, hb0⟩

/-- The place of a queue's first item, if it has any. -/
def place (G : List It) (q : Nat) : Option Nat := G.findIdx? fun x => decide (x.q = q)
theorem place_some {G : List It} {q k : Nat} (h : place G q = some k) : ∃ hk : k < G.length, G[k].q = q ∧ ∀ j (hj : j < k), (G[j]'(by omega)).q ≠ q := by
  unfold place at h
  rw [List.findIdx?_eq_some_iff_getElem] at h
  obtain ⟨h1, h2, h3⟩ := h
  exact ⟨h1, by simpa using h2, fun j hj => by simpa using h3 j hj⟩
theorem place_none {G : List It} {q : Nat} (h : place G q = none) : ∀ j (hj : j < G.length), (G[j]).q ≠ q := fun j hj => by
  unfold place at h
  rw [List.findIdx?_eq_none_iff] at h
  simpa using h G[j] (List.getElem_mem _)
def placeI : Option Nat → Int
  | none => -1
  | some k => k
set_option maxHeartbeats 1000000 in
theorem refFirst_any (B : Nat) (v : Value) (G : List It) (t : Int) (q : Nat) (w : World) (h : GRow w B v G) (hl : G.length ≤ 1000) :
    Calls Try.prog 23 #[.agg #[v, .int .i64 t], .int .i64 (q : Int)] w fun e w' => e = .returned (.int .i64 (placeI (place G q))) ∧ Below w.heap.size w w' := by
  obtain ⟨A, cap, rfl, _, hc⟩ := h.form
  obtain ⟨P, hP⟩ : ∃ P, place G q = P := ⟨_, rfl⟩
  rw [hP]
  have HPL := Lib.hid hP
  clear h hP
  go_enter Try.func23, Try.ntmps23
  go_wp2_with fail
  have hb0 := below_box w (.cells #[.slice A G.length cap, .int .i64 t] 41)
  have x0 : (w.alloc (.cells #[.slice A G.length cap, .int .i64 t] 41)).cell? ⟨w.heap.size, 0, none⟩ = some (.slice A G.length cap) := by rw [cell_of_row _ _ _ _ _ _ (heap_alloc_last w _)]; rfl
  generalize w.alloc (.cells #[.slice A G.length cap, .int .i64 t] 41) = W at hb0 x0 ⊢
  generalize w.heap.size = g2 at x0 ⊢
  go_loop [5] (fun i => ∃ k : Nat, k ≤ G.length ∧ i = .int .i64 k ∧ Hid (∀ j (hj : j < k) (hg : j < G.length), (G[j]).q ≠ q)) (fun i => G.length - (intOf i).toNat)
  case atStart => exact ⟨0, Nat.zero_le _, rfl, Lib.hid (fun j hj => absurd hj (by omega))⟩
  case round =>
    obtain ⟨k, hk, rfl, HK⟩ := hrel
    by_cases hlt : k < G.length
    · obtain ⟨hb, rfl, _, hbl, c0, _⟩ := hc k hlt
      have c0' := (hb0.cell (p := ⟨hb, k * 2, none⟩) hbl).trans c0
      obtain ⟨x, hx⟩ : ∃ x, G[k] = x := ⟨_, rfl⟩
      rw [hx] at c0'
      have HX := Lib.hid hx
      clear c0 hx
      by_cases hq : x.q = q
      · have hd : ((x.q : Int) == (q : Int)) = true := by simp; omega
        have HQ := Lib.hid hq
        clear hq
        go_wp2_with fail
        go_ret
        refine ⟨?_, hb0⟩
        have : P = some k := by
          rw [← HPL.out]
          unfold place
          rw [List.findIdx?_eq_some_iff_getElem]
          exact ⟨hlt, by simp [HX.out, HQ.out], fun j hj => by simpa using HK.out j hj (by omega)⟩
        rw [this]; rfl
      · have hd : ((x.q : Int) == (q : Int)) = false := by simp; omega
        have HQ := Lib.hid hq
        clear hq
        go_wp2_with fail
        go_round
        case rel =>
          refine ⟨k + 1, by omega, by go_num, Lib.hid fun j hj hg => ?_⟩
          by_cases e : j = k
          · subst e; rw [HX.out]; exact HQ.out
          · exact HK.out j (by omega) hg
        case measure => simp [intOf]; omega
    · obtain rfl : k = G.length := by omega
      go_wp2_with fail
      go_ret
      refine ⟨?_, hb0⟩
      have : P = none := by
        rw [← HPL.out]
        unfold place
        rw [List.findIdx?_eq_none_iff]
        intro x hx
        obtain ⟨j, hj, rfl⟩ := List.mem_iff_getElem.1 hx
        simpa using HK.out j hj hj
      rw [this]; rfl
end Go.Proofs.Ytacddiidldppnaa
