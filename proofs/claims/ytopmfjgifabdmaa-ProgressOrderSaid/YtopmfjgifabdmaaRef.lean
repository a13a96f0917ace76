/- The walks of the document's answers for a peer, and of the law's own small functions. -/
import Derived.Test.YtopmfjgifabdmaaPeer
import Derived.RegionTactic
import Derived.BigRegion
import Derived.Deep.RegionWith
import Derived.StillTailTactics
namespace Go.Proofs.Ytopmfjgifabdmaa
open Go.RowKit

theorem blw_draws {B : Nat} {a w : World} (h : Below B a w) (q : Nat) : Below B a (w.drewN q) := ⟨h.os, h.tape, h.output, h.size, h.block⟩
theorem lt_of_block {w : World} {k : Nat} {o : Obj} (h : w.heap[k]? = some o) : k < w.heap.size := (Array.getElem?_eq_some_iff.1 h).1
theorem blw_trans {a b c : World} (h : Below a.heap.size a b) (k : Below b.heap.size b c) : Below a.heap.size a c := h.trans (k.mono h.size)
set_option maxHeartbeats 400000 in
theorem more_any (a b : Nat) (w : World) : Calls Try.prog 23 #[.int .u64 (a : Int), .int .u64 (b : Int)] w fun e w' => e = .returned (.int .u64 ((max a b : Nat) : Int)) ∧ w' = w := by
  go_enter Try.func23, Try.ntmps23
  go_wp2_with fail
  all_goals go_returns
  all_goals exact ⟨int_ret (by omega), rfl⟩
set_option maxHeartbeats 400000 in
theorem less_any (a b : Nat) (w : World) : Calls Try.prog 24 #[.int .u64 (a : Int), .int .u64 (b : Int)] w fun e w' => e = .returned (.int .u64 ((min a b : Nat) : Int)) ∧ w' = w := by
  go_enter Try.func24, Try.ntmps24
  go_wp2_with fail
  all_goals go_returns
  all_goals exact ⟨int_ret (by omega), rfl⟩
theorem more_for (a b : Nat) (x y : Int) (c : Nat) (hx : x = a) (hy : y = b) (hc : max a b = c) (w : World) : Calls Try.prog 23 #[.int .u64 x, .int .u64 y] w fun e w' => e = .returned (.int .u64 (c : Int)) ∧ w' = w := by
  subst hx hy hc
  exact more_any a b w
theorem less_for (a b : Nat) (x y : Int) (c : Nat) (hx : x = a) (hy : y = b) (hc : min a b = c) (w : World) : Calls Try.prog 24 #[.int .u64 x, .int .u64 y] w fun e w' => e = .returned (.int .u64 (c : Int)) ∧ w' = w := by
  subst hx hy hc
  exact less_any a b w

set_option maxHeartbeats 400000 in
theorem great_any (a : Nat) (w : World) : Calls Try.prog 8 #[.int .u64 (a : Int)] w fun e w' => e = .returned (.bool (decide (4611686018427387904 ≤ a))) ∧ w' = w := by
  go_enter Try.func8, Try.ntmps8
  go_wp2_with fail
  go_returns
  exact ⟨bool_ret (by rw [Bool.eq_iff_iff, decide_eq_true_eq, decide_eq_true_eq]; omega), rfl⟩

set_option maxHeartbeats 1000000 in
theorem given_any (p : Pr) (w : World) : Calls Try.prog 10 #[p.val] w fun e w' => e = .returned p.val ∧ Below w.heap.size w w' := by
  obtain ⟨m, n, r, s, c⟩ := p
  simp only [Pr.val]
  go_enter Try.func10, Try.ntmps10
  go_wp2_with fail
  go_returns
  exact ⟨rfl, ((Below.refl _ _).alloc (Nat.le_refl _) _).alloc (by simp) _⟩

set_option maxHeartbeats 1000000 in
theorem refSend_any (p : Pr) (x : Nat) (w : World) :
    Calls Try.prog 14 #[p.val, .int .u64 (x : Int)] w fun e w' => e = .returned (sendP p x).val ∧ Below w.heap.size w w' := by
  obtain ⟨m, n, r, s, c⟩ := p
  simp only [Pr.val]
  by_cases h : s = x
  · subst h
    go_enter Try.func14, Try.ntmps14
    go_wp2_with fail
    go_returns
    exact ⟨pr_ret rfl rfl rfl rfl (by simp [sendP]), ((Below.refl _ _).alloc (Nat.le_refl _) _).alloc (by simp) _⟩
  · go_enter Try.func14, Try.ntmps14
    go_wp2_with fail
    go_returns
    exact ⟨pr_ret rfl rfl rfl rfl (by simp [sendP, h]), ((Below.refl _ _).alloc (Nat.le_refl _) _).alloc (by simp) _⟩

set_option maxHeartbeats 1000000 in
theorem refSect_any (p : Pr) (x k : Nat) (w : World) (hk : k < 256) :
    Calls Try.prog 17 #[p.val, .int .u64 (x : Int), .int .u8 (k : Int)] w fun e w' => e = .returned (sectP p x k).val ∧ Below w.heap.size w w' := by
  obtain ⟨m, n, r, s, c⟩ := p
  simp only [Pr.val]
  by_cases h0 : x = 0
  · subst h0
    go_enter Try.func17, Try.ntmps17
    go_wp2_with fail
    go_returns
    exact ⟨pr_ret rfl rfl rfl rfl (by simp only [sectP]; rw [if_neg (by omega)]), ((Below.refl _ _).alloc (Nat.le_refl _) _).alloc (by simp) _⟩
  · by_cases h1 : s = x
    · subst h1
      have hne : ((s : Int) == 0) = false := by simp; omega
      by_cases h2 : k < 5
      · go_enter Try.func17, Try.ntmps17
        go_wp2_with fail
        go_returns
        exact ⟨pr_ret rfl rfl rfl rfl (by simp [sectP, h0, h2]), ((Below.refl _ _).alloc (Nat.le_refl _) _).alloc (by simp) _⟩
      · go_enter Try.func17, Try.ntmps17
        go_wp2_with fail
        go_returns
        exact ⟨pr_ret rfl rfl rfl rfl (by simp [sectP, h2]), ((Below.refl _ _).alloc (Nat.le_refl _) _).alloc (by simp) _⟩
    · have hne : ((x : Int) == 0) = false := by simp; omega
      have hne2 : ((s : Int) != (x : Int)) = true := by simp; omega
      go_enter Try.func17, Try.ntmps17
      go_wp2_with fail
      go_returns
      exact ⟨pr_ret rfl rfl rfl rfl (by simp [sectP, h1]), ((Below.refl _ _).alloc (Nat.le_refl _) _).alloc (by simp) _⟩

set_option maxHeartbeats 1000000 in
theorem refTold_any (p : Pr) (ok : Bool) (x r : Nat) (w : World) (hp : p.low) (hx : x < 4611686018427387904) :
    Calls Try.prog 12 #[p.val, .bool ok, .int .u64 (x : Int), .int .u64 (r : Int)] w fun e w' => e = .returned (toldP p ok x r).val ∧ Below w.heap.size w w' := by
  obtain ⟨m, n, r0, s, c⟩ := p
  obtain ⟨hm, hn, hs⟩ := hp
  simp only at hm hn hs
  simp only [Pr.val]
  obtain ⟨r1, hr1⟩ : ∃ r1, max r0 r = r1 := ⟨_, rfl⟩
  cases ok
  · go_enter Try.func12, Try.ntmps12
    go_wp2_with fail
    refine (more_for r0 r _ _ r1 rfl rfl hr1 _).mono ?_
    rintro e w2 ⟨rfl, rfl⟩
    obtain ⟨a1, ha1⟩ : ∃ a1, min n (x + 1) = a1 := ⟨_, rfl⟩
    obtain ⟨n1, hn1⟩ : ∃ n1, max a1 (m + 1) = n1 := ⟨_, rfl⟩
    go_wp2_with fail
    have wx : IntKind.u64.wrap ((x : Int) + 1) = (x : Int) + 1 := by rw [IntKind.wrap_u64]; omega
    have wm : IntKind.u64.wrap ((m : Int) + 1) = (m : Int) + 1 := by rw [IntKind.wrap_u64]; omega
    go_region_with (first
      | (go_at_call 24; refine (less_for n (x + 1) _ _ a1 rfl (by omega) ha1 _).mono ?_; rintro e w2 ⟨rfl, rfl⟩)
      | (go_at_call 23; refine (more_for a1 (m + 1) _ _ n1 rfl (by omega) hn1 _).mono ?_; rintro e w2 ⟨rfl, rfl⟩))
    all_goals go_wp2_with fail
    all_goals go_returns
    all_goals exact ⟨pr_ret (by simp [toldP]) (by simp [toldP, ha1, hn1]) (by simp [toldP, hr1]) (by simp [toldP]) (by simp [toldP]), blw_draws ((((Below.refl _ _).alloc (Nat.le_refl _) _).alloc (by simp) _).alloc (by simp; omega) _) 1⟩
  · obtain ⟨m1, hm1⟩ : ∃ m1, max m x = m1 := ⟨_, rfl⟩
    obtain ⟨n1, hn1⟩ : ∃ n1, max n (m1 + 1) = n1 := ⟨_, rfl⟩
    go_enter Try.func12, Try.ntmps12
    go_wp2_with fail
    refine (more_for r0 r _ _ r1 rfl rfl hr1 _).mono ?_
    rintro e w2 ⟨rfl, rfl⟩
    go_wp2_with fail
    refine (more_for m x _ _ m1 rfl rfl hm1 _).mono ?_
    rintro e w2 ⟨rfl, rfl⟩
    go_wp2_with fail
    refine (more_for n (m1 + 1) _ _ n1 rfl (by omega) hn1 _).mono ?_
    rintro e w2 ⟨rfl, rfl⟩
    by_cases h : s ≤ m1
    · go_wp2_with fail
      go_returns
      exact ⟨pr_ret (by simp [toldP, hasP, hm1]) (by simp [toldP, hasP, hm1, hn1]) (by simp [toldP, hasP, hr1]) (by simp [toldP, hasP, hm1, h]) (by simp [toldP, hasP, hm1, h]), (((Below.refl _ _).alloc (Nat.le_refl _) _).alloc (by simp) _).alloc (by simp; omega) _⟩
    · go_wp2_with fail
      go_returns
      exact ⟨pr_ret (by simp [toldP, hasP, hm1]) (by simp [toldP, hasP, hm1, hn1]) (by simp [toldP, hasP, hr1]) (by simp [toldP, hasP, hm1, h]) (by simp [toldP, hasP, hm1, h]), (((Below.refl _ _).alloc (Nat.le_refl _) _).alloc (by simp) _).alloc (by simp; omega) _⟩

theorem new_for (x : Nat) (q : Pr) (w : World) (hx : x < 4611686018427387904) (h : Pr.mk 0 (x + 1) 0 0 0 = q) : Calls Try.prog 18 #[.int .u64 (x : Int)] w fun e w' => e = .returned q.val ∧ Below w.heap.size w w' := by
  subst h; exact new_any x w hx
theorem told_for (p : Pr) (ok : Bool) (x r : Nat) (q : Pr) (w : World) (hp : p.low) (hx : x < 4611686018427387904) (h : toldP p ok x r = q) : Calls Try.prog 11 #[p.val, .bool ok, .int .u64 (x : Int), .int .u64 (r : Int)] w fun e w' => e = .returned q.val ∧ Below w.heap.size w w' := by
  subst h; exact told_any p ok x r w hp hx
theorem send_for (p : Pr) (x : Nat) (q : Pr) (w : World) (h : sendP p x = q) : Calls Try.prog 13 #[p.val, .int .u64 (x : Int)] w fun e w' => e = .returned q.val ∧ Below w.heap.size w w' := by
  subst h; exact send_any p x w
theorem sect_for (p : Pr) (x k : Nat) (q : Pr) (w : World) (hk : k < 256) (h : sectP p x k = q) : Calls Try.prog 16 #[p.val, .int .u64 (x : Int), .int .u8 (k : Int)] w fun e w' => e = .returned q.val ∧ Below w.heap.size w w' := by
  subst h; exact sect_any p x k w hk
theorem needs_for (p : Pr) (x : Nat) (b : Bool) (w : World) (h : decide (p.n ≤ x) = b) : Calls Try.prog 15 #[p.val, .int .u64 (x : Int)] w fun e w' => e = .returned (.bool b) ∧ Below w.heap.size w w' := by
  subst h; exact needs_any p x w

set_option maxRecDepth 100000 in
set_option maxHeartbeats 1000000 in
theorem awake_any (w : World) : Calls Try.prog 9 #[] w fun e w' => e = .returned (.bool true) ∧ Below w.heap.size w w' := by
  go_enter Try.func9, Try.ntmps9
  go_wp2_with fail
  refine (new_for 7 ⟨0, 8, 0, 0, 0⟩ _ (by omega) rfl).mono ?_
  rintro e w1 ⟨rfl, b1⟩
  go_wp2_with fail
  refine (told_for ⟨0, 8, 0, 0, 0⟩ false 4 1 ⟨0, 5, 1, 0, 0⟩ _ ⟨by show (0 : Nat) < _; omega, by show (8 : Nat) < _; omega, by show (0 : Nat) < _; omega⟩ (by omega) rfl).mono ?_
  rintro e w2 ⟨rfl, b2⟩
  simp only [Pr.val]
  have b02 := blw_trans b1 b2
  clear b1 b2
  go_wp2_with fail
  have hp := heap_alloc_last w2 (.cells #[.int .u64 0, .int .u64 5, .int .u64 1, .int .u64 0, .int .u8 0] 24)
  have b03 := b02.alloc b02.size (.cells #[.int .u64 0, .int .u64 5, .int .u64 1, .int .u64 0, .int .u8 0] 24)
  generalize w2.alloc (.cells #[.int .u64 0, .int .u64 5, .int .u64 1, .int .u64 0, .int .u8 0] 24) = w3 at hp b03 ⊢
  generalize w2.heap.size = gp at hp ⊢
  refine (new_for 0 ⟨0, 1, 0, 0, 0⟩ _ (by omega) rfl).mono ?_
  rintro e w4 ⟨rfl, b4⟩
  have hp4 := (b4.block gp (lt_of_block hp)).trans hp
  have b04 := blw_trans b03 b4
  clear b4 b03 hp b02
  go_wp2_with fail
  refine (send_for ⟨0, 1, 0, 0, 0⟩ 6 ⟨0, 1, 0, 6, 0⟩ _ rfl).mono ?_
  rintro e w5 ⟨rfl, b5⟩
  have hp5 := (b5.block gp (lt_of_block hp4)).trans hp4
  have b05 := blw_trans b04 b5
  clear b5 b04 hp4
  go_wp2_with fail
  refine (sect_for ⟨0, 1, 0, 6, 0⟩ 6 4 ⟨0, 1, 0, 6, 4⟩ _ (by omega) rfl).mono ?_
  rintro e w6 ⟨rfl, b6⟩
  have hp6 := (b6.block gp (lt_of_block hp5)).trans hp5
  have b06 := blw_trans b05 b6
  clear b6 b05 hp5
  go_wp2_with fail
  refine (told_for ⟨0, 1, 0, 6, 4⟩ true 6 0 ⟨6, 7, 0, 0, 0⟩ _ ⟨by show (0 : Nat) < _; omega, by show (1 : Nat) < _; omega, by show (6 : Nat) < _; omega⟩ (by omega) rfl).mono ?_
  rintro e w7 ⟨rfl, b7⟩
  have hp7 := (b7.block gp (lt_of_block hp6)).trans hp6
  have b07 := blw_trans b06 b7
  clear b7 b06 hp6
  simp only [Pr.val]
  obtain ⟨c0, c1, c2, c3, c4, _⟩ := zero_cells hp7
  have hlt := lt_of_block hp7
  go_wp2_with fail
  refine (needs_for ⟨0, 5, 1, 0, 0⟩ 5 true _ rfl).mono ?_
  rintro e w8 ⟨rfl, b8⟩
  have hp8 := (b8.block gp (by simp; omega)).trans ((Below.heap_alloc _ _ _ hlt).trans hp7)
  have hq8 := (b8.block w7.heap.size (by simp)).trans (heap_alloc_last w7 _)
  have b08 := blw_trans (b07.alloc b07.size _) b8
  obtain ⟨c0, c1, c2, c3, c4, _⟩ := zero_cells hp8
  have hlt8 := lt_of_block hq8
  generalize w7.heap.size = gq at hq8 hlt8 ⊢
  clear b8 hp7 hp8 b07
  go_wp2_with fail
  refine (needs_for ⟨0, 5, 1, 0, 0⟩ 4 false _ rfl).mono ?_
  rintro e w9 ⟨rfl, b9⟩
  have hq9 := (b9.block gq hlt8).trans hq8
  have b09 := blw_trans b08 b9
  obtain ⟨c0, c1, c2, c3, c4, _⟩ := zero_cells hq9
  clear b9 hq8 hq9 b08
  go_wp2_with fail
  go_returns
  exact ⟨rfl, b09⟩

/-- A variable that holds a peer. -/
def PrAt (w : World) (g : Nat) (p : Pr) : Prop := w.heap[g]? = some (.cells #[.int .u64 (p.m : Int), .int .u64 (p.n : Int), .int .u64 (p.r : Int), .int .u64 (p.s : Int), .int .u8 (p.c : Int)] 24 (0, 0))
/-- A variable that holds the document's peer. -/
def RfAt (w : World) (g : Nat) (p : Pr) : Prop := w.heap[g]? = some (.cells #[.int .u64 (p.m : Int), .int .u64 (p.n : Int), .int .u64 (p.r : Int), .int .u64 (p.s : Int), .int .u8 (p.c : Int)] 27 (0, 0))
theorem below_alloc (w : World) (o : Obj) : Below w.heap.size w (w.alloc o) := (Below.refl _ _).alloc (Nat.le_refl _) o
theorem PrAt.below {w w' : World} {g : Nat} {p : Pr} (h : PrAt w g p) (hb : Below w.heap.size w w') : PrAt w' g p := (hb.block g (lt_of_block h)).trans h
theorem PrAt.cells {w : World} {g : Nat} {p : Pr} (h : PrAt w g p) : w.cell? ⟨g, 0, none⟩ = some (.int .u64 (p.m : Int)) ∧ w.cell? ⟨g, 1, none⟩ = some (.int .u64 (p.n : Int)) ∧ w.cell? ⟨g, 2, none⟩ = some (.int .u64 (p.r : Int)) ∧
    w.cell? ⟨g, 3, none⟩ = some (.int .u64 (p.s : Int)) ∧ w.cell? ⟨g, 4, none⟩ = some (.int .u8 (p.c : Int)) := by
  obtain ⟨c0, c1, c2, c3, c4, _⟩ := zero_cells h
  exact ⟨c0, c1, c2, c3, c4⟩
theorem RfAt.below {w w' : World} {g : Nat} {p : Pr} (h : RfAt w g p) (hb : Below w.heap.size w w') : RfAt w' g p := (hb.block g (lt_of_block h)).trans h
theorem RfAt.cells {w : World} {g : Nat} {p : Pr} (h : RfAt w g p) : w.cell? ⟨g, 0, none⟩ = some (.int .u64 (p.m : Int)) ∧ w.cell? ⟨g, 1, none⟩ = some (.int .u64 (p.n : Int)) ∧ w.cell? ⟨g, 2, none⟩ = some (.int .u64 (p.r : Int)) ∧
    w.cell? ⟨g, 3, none⟩ = some (.int .u64 (p.s : Int)) ∧ w.cell? ⟨g, 4, none⟩ = some (.int .u8 (p.c : Int)) := by
  obtain ⟨c0, c1, c2, c3, c4, _⟩ := zero_cells h
  exact ⟨c0, c1, c2, c3, c4⟩
theorem refTold_for (p : Pr) (ok : Bool) (x r : Nat) (q : Pr) (w : World) (hp : p.low) (hx : x < 4611686018427387904) (h : toldP p ok x r = q) : Calls Try.prog 12 #[p.val, .bool ok, .int .u64 (x : Int), .int .u64 (r : Int)] w fun e w' => e = .returned q.val ∧ Below w.heap.size w w' := by
  subst h; exact refTold_any p ok x r w hp hx
theorem refSend_for (p : Pr) (x : Nat) (q : Pr) (w : World) (h : sendP p x = q) : Calls Try.prog 14 #[p.val, .int .u64 (x : Int)] w fun e w' => e = .returned q.val ∧ Below w.heap.size w w' := by
  subst h; exact refSend_any p x w
theorem refSect_for (p : Pr) (x k : Nat) (q : Pr) (w : World) (hk : k < 256) (h : sectP p x k = q) : Calls Try.prog 17 #[p.val, .int .u64 (x : Int), .int .u8 (k : Int)] w fun e w' => e = .returned q.val ∧ Below w.heap.size w w' := by
  subst h; exact refSect_any p x k w hk
theorem great_for (a : Nat) (b : Bool) (w : World) (h : decide (4611686018427387904 ≤ a) = b) : Calls Try.prog 8 #[.int .u64 (a : Int)] w fun e w' => e = .returned (.bool b) ∧ w' = w := by
  subst h; exact great_any a w
end Go.Proofs.Ytopmfjgifabdmaa
