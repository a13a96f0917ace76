/- The walks of is, Put, Len and Turn. -/
import Derived.Test.YtacddiidldppnaaMem
import Derived.BigRegion
import Derived.RegionTactic
namespace Go.Proofs.Ytacddiidldppnaa
open Go.RowKit

theorem int_ret {k : IntKind} {a b : Int} (h : a = b) : Ending.returned (.int k a) = .returned (.int k b) := by rw [h]
theorem bool_ret {a b : Bool} (h : a = b) : Ending.returned (.bool a) = .returned (.bool b) := by rw [h]

/-- Is there such a queue? -/
theorem is_yes (p : Addr) (q : Int) (w : World) (h0 : 0 ≤ q) (h5 : q < 5) : Calls Try.prog 20 #[.pointer (some p), .int .i64 q] w fun e w' => e = .returned (.bool true) ∧ w' = w := by
  go_enter Try.func20, Try.ntmps20
  go_wp2_with fail
  go_ret
  exact ⟨rfl, rfl⟩
theorem is_no (p : Addr) (q : Int) (w : World) (h : ¬ (0 ≤ q ∧ q < 5)) : Calls Try.prog 20 #[.pointer (some p), .int .i64 q] w fun e w' => e = .returned (.bool false) ∧ w' = w := by
  by_cases h0 : 0 ≤ q
  · have h5 : ¬ q < 5 := by omega
    clear h
    go_enter Try.func20, Try.ntmps20
    go_wp2_with fail
    go_ret
    exact ⟨rfl, rfl⟩
  · clear h
    go_enter Try.func20, Try.ntmps20
    go_wp2_with fail
    go_ret
    exact ⟨rfl, rfl⟩
theorem is_nil (q : Int) (w : World) : Calls Try.prog 20 #[.pointer none, .int .i64 q] w fun e w' => e = .returned (.bool false) ∧ w' = w := by
  go_enter Try.func20, Try.ntmps20
  go_wp2_with fail
  go_ret
  exact ⟨rfl, rfl⟩

theorem QAt.more {w : World} {base : Nat} {v : Value} {L : List Nat} {x : Nat} (h : QAt w base v (L ++ [x])) : ∃ b off cap, v = .slice (some ⟨b, off, none⟩) (L.length + 1) cap := by
  rcases h with ⟨_, h⟩ | ⟨g, off, cap, cur, rfl, _⟩
  · simp at h
  · exact ⟨g, off, cap, by rw [List.length_append, List.length_singleton]⟩

section
variable {B : Nat} {w : World} {g : Nat} {V : Nat → Value} {Q : Nat → List Nat} {t : Nat}

theorem len_no (h : FifoAt B w g V Q t) (q : Int) (hq : ¬ (0 ≤ q ∧ q < 5)) : Calls Try.prog 18 #[.pointer (some ⟨g, 0, none⟩), .int .i64 q] w fun e w' => e = .returned (.int .i64 0) ∧ w' = w := by
  clear h
  go_enter Try.func18, Try.ntmps18
  go_wp2_with fail
  refine (is_no _ q _ hq).mono ?_
  rintro e w1 ⟨rfl, rfl⟩
  go_wp2_with fail
  go_ret
  exact ⟨rfl, rfl⟩
theorem len_any (h : FifoAt B w g V Q t) (q : Nat) (hq : q < 5) : Calls Try.prog 18 #[.pointer (some ⟨g, 0, none⟩), .int .i64 (q : Int)] w fun e w' => e = .returned (.int .i64 ((Q q).length : Int)) ∧ w' = w := by
  obtain ⟨A, cap, hv, _, _⟩ := (h.own q hq).form
  have hc := h.cell q hq
  rw [hv] at hc
  have i0 : (0 : Int) ≤ (q : Int) := by omega
  have i5 : (q : Int) < 5 := by omega
  clear hv
  go_enter Try.func18, Try.ntmps18
  go_wp2_with fail
  refine (is_yes _ q _ i0 i5).mono ?_
  rintro e w1 ⟨rfl, rfl⟩
  go_wp2_with fail
  go_ret
  exact ⟨rfl, rfl⟩
theorem turn_any (h : FifoAt B w g V Q t) : Calls Try.prog 12 #[.pointer (some ⟨g, 0, none⟩)] w fun e w' => e = .returned (.int .i64 (t : Int)) ∧ w' = w := by
  have hc := h.cell5
  go_enter Try.func12, Try.ntmps12
  go_wp2_with fail
  go_ret
  exact ⟨rfl, rfl⟩

/-- One more at a queue's end: what the fifo is then. -/
theorem FifoAt.put (h : FifoAt B w g V Q t) {q id : Nat} (hq : q < 5) (hl : (Q q).length < 4) {w2 : World} {v' : Value} {o : Obj} (hv : QAt w2 B v' (Q q ++ [id])) (hg : (w.alloc o).drew.grownBy w2 (V q).ownBlock)
    (hn : ∀ k, v'.ownBlock = some k → (V q).ownBlock = some k ∨ (w.alloc o).drew.heap.size ≤ k) :
    FifoAt B (w2.setCell ⟨g, q, none⟩ v') g (upd V q v') (upd Q q (Q q ++ [id])) t ∧ Moved B g V (upd V q v') w (w2.setCell ⟨g, q, none⟩ v') := by
  have hne := h.head_ne hq
  have hsz : w.heap.size + 1 = (w.alloc o).drew.heap.size := by simp
  have hold : ∀ i, i < w.heap.size → some i ≠ (V q).ownBlock → w2.heap[i]? = w.heap[i]? := fun i hi hne => (hg.block i (by omega) hne).trans (Below.heap_alloc w o i hi)
  have hhead := (hold g (lt_of_block h.head) (Ne.symm hne)).trans h.head
  have hv'g : v'.ownBlock ≠ some g := fun e => by
    rcases hn g e with e | e
    · exact hne e
    · have := lt_of_block h.head; omega
  refine ⟨⟨h.base, ?_, fun p hp => ?_, fun p r hp hr hpr k hk => ?_, h.turn, fun p hp => ?_⟩, ⟨?_, fun i hi hig hv => ?_, fun p hp k hk => ?_⟩⟩
  · rw [heap_setCell_same _ _ _ _ _ _ hhead, set_head V q hq]
  · by_cases e : p = q
    · subst e
      rw [upd_same, upd_same]
      exact hv.keep fun k hk => heap_setCell_other _ _ _ _ (fun e => hv'g (by rw [hk, e]))
    · rw [upd_other _ _ e, upd_other _ _ e]
      refine (h.own p hp).keep fun k hk => ?_
      obtain ⟨_, cur, hc⟩ := (h.own p hp).row k hk
      have hkg : k ≠ g := fun e => h.head_ne hp (by rw [hk, e])
      rw [heap_setCell_other _ _ _ _ hkg]
      exact hold k (lt_of_block hc) fun e2 => h.apart p q hp hq e k hk e2.symm
  · by_cases e : p = q
    · subst e
      rw [upd_same] at hk
      rw [upd_other _ _ (Ne.symm hpr)]
      intro hr2
      rcases hn k hk with e | e
      · exact h.apart p r hp hr hpr k e hr2
      · obtain ⟨_, cur, hc⟩ := (h.own r hr).row k hr2
        have := lt_of_block hc
        omega
    · rw [upd_other _ _ e] at hk
      by_cases e2 : r = q
      · subst e2
        rw [upd_same]
        intro hr2
        rcases hn k hr2 with e3 | e3
        · exact h.apart p r hp hr hpr k hk e3
        · obtain ⟨_, cur, hc⟩ := (h.own p hp).row k hk
          have := lt_of_block hc
          omega
      · rw [upd_other _ _ e2]
        exact h.apart p r hp hr hpr k hk
  · by_cases e : p = q
    · subst e; rw [upd_same, List.length_append, List.length_singleton]; omega
    · rw [upd_other _ _ e]; exact h.room p hp
  · exact ((((Below.refl B w).alloc h.ltB o).drew).grown hg (by rw [← hsz]; have := h.ltB; omega) (fun k hk => ((h.own q hq).row k hk).1)).setCell h.base _
  · rw [heap_setCell_other _ _ _ _ hig]
    exact hold i hi (Ne.symm (hv q hq))
  · by_cases e : p = q
    · subst e
      rw [upd_same] at hk
      rcases hn k hk with e | e
      · exact .inl ⟨p, hp, e⟩
      · exact .inr (by omega)
    · rw [upd_other _ _ e] at hk
      exact .inl ⟨p, hp, hk⟩

theorem put_none (h : FifoAt B w g V Q t) (q id : Int) (hq : ¬ (0 ≤ q ∧ q < 5)) : Calls Try.prog 10 #[.pointer (some ⟨g, 0, none⟩), .int .i64 q, .int .u64 id] w fun e w' => e = .returned (.bool false) ∧ w' = w := by
  clear h
  go_enter Try.func10, Try.ntmps10
  go_wp2_with fail
  refine (is_no _ q _ hq).mono ?_
  rintro e w1 ⟨rfl, rfl⟩
  go_wp2_with fail
  go_ret
  exact ⟨rfl, rfl⟩
theorem put_full (h : FifoAt B w g V Q t) (q : Nat) (id : Int) (hq : q < 5) (hl : 4 ≤ (Q q).length) : Calls Try.prog 10 #[.pointer (some ⟨g, 0, none⟩), .int .i64 (q : Int), .int .u64 id] w fun e w' => e = .returned (.bool false) ∧ w' = w := by
  obtain ⟨A, cap, hv, _, _⟩ := (h.own q hq).form
  have hc := h.cell q hq
  rw [hv] at hc
  have i0 : (0 : Int) ≤ (q : Int) := by omega
  have i5 : (q : Int) < 5 := by omega
  clear hv
  go_enter Try.func10, Try.ntmps10
  go_wp2_with fail
  refine (is_yes _ q _ i0 i5).mono ?_
  rintro e w1 ⟨rfl, rfl⟩
  go_wp2_with fail
  go_ret
  exact ⟨rfl, rfl⟩
set_option maxHeartbeats 1000000 in
theorem put_yes (h : FifoAt B w g V Q t) (q id : Nat) (hq : q < 5) (hl : (Q q).length < 4) : Calls Try.prog 10 #[.pointer (some ⟨g, 0, none⟩), .int .i64 (q : Int), .int .u64 (id : Int)] w
    fun e w' => e = .returned (.bool true) ∧ ∃ V', FifoAt B w' g V' (upd Q q (Q q ++ [id])) t ∧ Moved B g V V' w w' := by
  obtain ⟨A, cap, hv, _, _⟩ := (h.own q hq).form
  have hc := h.cell q hq
  rw [hv] at hc
  have i0 : (0 : Int) ≤ (q : Int) := by omega
  have i5 : (q : Int) < 5 := by omega
  have hlt := lt_of_block h.head
  have hfz := h.frozen q
  have HV := Lib.hid hv
  clear hv
  go_enter Try.func10, Try.ntmps10
  go_wp2_with fail
  refine (is_yes _ q _ i0 i5).mono ?_
  rintro e w1 ⟨rfl, rfl⟩
  go_wp2_with fail
  have hq1 : QAt (w1.alloc (.cells #[.int .u64 (id : Int)] 27)).drew B (.slice A (Q q).length cap) (Q q) := by
    rw [← HV.out]; exact (h.own q hq).keep fun k hk => Below.heap_alloc w1 _ k (lt_of_block ((h.own q hq).row k hk).2.choose_spec)
  have hnb : (w1.alloc (.cells #[.int .u64 (id : Int)] 27)).drew.heap[w1.heap.size]? = some (.cells #[.int .u64 (id : Int)] 27 (0, 0)) := heap_alloc_last w1 _
  have hbs : B ≤ (w1.alloc (.cells #[.int .u64 (id : Int)] 27)).drew.heap.size := by have := h.ltB; simp; omega
  have hstay : ∀ (v' : Value) (w2 : World), (w1.alloc (.cells #[.int .u64 (id : Int)] 27)).drew.grownBy w2 (Value.slice A (Q q).length cap).ownBlock → w2.cell? ⟨g, q, none⟩ = some (.slice A (Q q).length cap) ∧ w2.frozen? ⟨g, q, none⟩ = false := fun v' w2 hgrow => by
    have hd2 := (hgrow.block g (by simp; omega) (by rw [← HV.out]; exact Ne.symm (h.head_ne hq))).trans ((Below.heap_alloc w1 _ g hlt).trans h.head)
    refine ⟨?_, frozen_of_row w2 g q _ _ hd2⟩
    rw [← HV.out, ← h.cell q hq, cell_of_row _ _ _ _ _ _ hd2, cell_of_row _ _ _ _ _ _ h.head]
  have hl' : (Q q).length ≤ 1000 := by omega
  have HS := Lib.hid hstay
  have HQ1 := Lib.hid hq1
  have HNB := Lib.hid hnb
  have HBS := Lib.hid hbs
  clear hstay hq1 hnb hbs
  go_region_law ((refine step_append_q rfl _ _ (by rfl) B (.slice A (Q q).length cap) (Q q) id w1.heap.size (0, 0) (by rfl) (by rfl) HQ1.out hl' HNB.out HBS.out ?_; intro v' w2 hv2 hgrow hnew; obtain ⟨hcg, hfg⟩ := HS.out v' w2 hgrow; obtain ⟨b2, o2, c2, rfl⟩ := hv2.more))
  all_goals
    go_wp2_with fail
    go_ret
    rw [← HV.out] at hgrow hnew
    obtain ⟨e1, e2⟩ := h.put hq hl hv2 hgrow hnew
    exact ⟨rfl, _, e1, e2⟩
end
end Go.Proofs.Ytacddiidldppnaa
