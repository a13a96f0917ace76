/- What a peer is: five numbers, and what is made of it; the walks of its functions and of the document's. -/
import Derived.Test.YtopmfjgifabdmaaProg
import Derived.WalkKit
import Derived.Handy
import Derived.WalkSpells
import Derived.WalkLawsBesides
import Derived.Deep.QuietTactic
import Derived.BigQuiet
import Derived.RegionCalls
import Derived.Lib.Hide
import Derived.Deep.WholeRow
import Derived.Deep.DeepCutAuto
import Derived.Deep.CutBlock
namespace Go.Proofs.Ytopmfjgifabdmaa
open Go.RowKit

/-- A peer: match, next, round, snap, section. -/
structure Pr where
  m : Nat
  n : Nat
  r : Nat
  s : Nat
  c : Nat
/-- Its value. -/
def Pr.val (p : Pr) : Value := .agg #[.int .u64 (p.m : Int), .int .u64 (p.n : Int), .int .u64 (p.r : Int), .int .u64 (p.s : Int), .int .u8 (p.c : Int)]
/-- No index of it is great. -/
def Pr.low (p : Pr) : Prop := p.m < 4611686018427387904 ∧ p.n < 4611686018427387904 ∧ p.s < 4611686018427387904

def hasP (p : Pr) (x : Nat) : Pr := ⟨max p.m x, max p.n (max p.m x + 1), p.r, if p.s ≤ max p.m x then 0 else p.s, if p.s ≤ max p.m x then 0 else p.c⟩
def toldP (p : Pr) (ok : Bool) (x r : Nat) : Pr := if ok then hasP ⟨p.m, p.n, max p.r r, p.s, p.c⟩ x else ⟨p.m, max (min p.n (x + 1)) (p.m + 1), max p.r r, p.s, p.c⟩
def sendP (p : Pr) (s : Nat) : Pr := ⟨p.m, p.n, p.r, s, if p.s = s then p.c else 0⟩
def sectP (p : Pr) (s k : Nat) : Pr := ⟨p.m, p.n, p.r, p.s, if p.s ≠ 0 ∧ p.s = s ∧ k < 5 then k else p.c⟩

theorem pr_ret {m n r s c : Int} {p : Pr} (h1 : m = p.m) (h2 : n = p.n) (h3 : r = p.r) (h4 : s = p.s) (h5 : c = p.c) : Ending.returned (.agg #[.int .u64 m, .int .u64 n, .int .u64 r, .int .u64 s, .int .u8 c]) = .returned p.val := by
  subst h1 h2 h3 h4 h5; rfl
theorem int_ret {k : IntKind} {a b : Int} (h : a = b) : Ending.returned (.int k a) = .returned (.int k b) := by rw [h]
theorem bool_ret {a b : Bool} (h : a = b) : Ending.returned (.bool a) = .returned (.bool b) := by rw [h]

set_option maxHeartbeats 1000000 in
theorem has_low (p : Pr) (x : Nat) (w : World) (hm : p.m < 4611686018427387904) (hx : x < 4611686018427387904) :
    Calls Try.prog 22 #[p.val, .int .u64 (x : Int)] w fun e w' => e = .returned (hasP p x).val ∧ Below w.heap.size w w' := by
  obtain ⟨m, n, r, s, c⟩ := p
  simp only at hm
  simp only [Pr.val]
  go_enter Try.func22, Try.ntmps22
  go_wp2_with fail
  all_goals go_returns
  all_goals refine ⟨pr_ret ?_ ?_ ?_ ?_ ?_, ?_⟩
  all_goals first
    | exact ((Below.refl _ _).alloc (Nat.le_refl _) _).alloc (by simp) _
    | (simp only [hasP]; done)
    | (simp only [hasP]; omega)
    | (simp only [hasP]; split <;> omega)

set_option maxHeartbeats 1000000 in
theorem new_any (x : Nat) (w : World) (hx : x < 4611686018427387904) :
    Calls Try.prog 18 #[.int .u64 (x : Int)] w fun e w' => e = .returned (Pr.val ⟨0, x + 1, 0, 0, 0⟩) ∧ Below w.heap.size w w' := by
  go_enter Try.func18, Try.ntmps18
  go_wp2_with fail
  go_returns
  exact ⟨pr_ret rfl (by simp) rfl rfl rfl, (Below.refl _ _).alloc (Nat.le_refl _) _⟩

set_option maxHeartbeats 1000000 in
theorem needs_any (p : Pr) (x : Nat) (w : World) :
    Calls Try.prog 15 #[p.val, .int .u64 (x : Int)] w fun e w' => e = .returned (.bool (decide (p.n ≤ x))) ∧ Below w.heap.size w w' := by
  obtain ⟨m, n, r, s, c⟩ := p
  simp only [Pr.val]
  go_enter Try.func15, Try.ntmps15
  go_wp2_with fail
  go_returns
  exact ⟨bool_ret (by simp), (Below.refl _ _).alloc (Nat.le_refl _) _⟩

set_option maxHeartbeats 1000000 in
theorem send_any (p : Pr) (x : Nat) (w : World) :
    Calls Try.prog 13 #[p.val, .int .u64 (x : Int)] w fun e w' => e = .returned (sendP p x).val ∧ Below w.heap.size w w' := by
  obtain ⟨m, n, r, s, c⟩ := p
  simp only [Pr.val]
  by_cases h : s = x
  · subst h
    go_enter Try.func13, Try.ntmps13
    go_wp2_with fail
    go_returns
    exact ⟨pr_ret rfl rfl rfl rfl (by simp [sendP]), ((Below.refl _ _).alloc (Nat.le_refl _) _).alloc (by simp) _⟩
  · go_enter Try.func13, Try.ntmps13
    go_wp2_with fail
    go_returns
    exact ⟨pr_ret rfl rfl rfl rfl (by simp [sendP, h]), ((Below.refl _ _).alloc (Nat.le_refl _) _).alloc (by simp) _⟩

set_option maxHeartbeats 1000000 in
theorem sect_any (p : Pr) (x k : Nat) (w : World) (hk : k < 256) :
    Calls Try.prog 16 #[p.val, .int .u64 (x : Int), .int .u8 (k : Int)] w fun e w' => e = .returned (sectP p x k).val ∧ Below w.heap.size w w' := by
  obtain ⟨m, n, r, s, c⟩ := p
  simp only [Pr.val]
  by_cases h0 : s = 0
  · subst h0
    go_enter Try.func16, Try.ntmps16
    go_wp2_with fail
    go_returns
    exact ⟨pr_ret rfl rfl rfl rfl (by simp [sectP]), ((Below.refl _ _).alloc (Nat.le_refl _) _).alloc (by simp) _⟩
  · by_cases h1 : s = x
    · subst h1
      have hne : ((s : Int) != 0) = true := by simp; omega
      by_cases h2 : k < 5
      · go_enter Try.func16, Try.ntmps16
        go_wp2_with fail
        go_returns
        exact ⟨pr_ret rfl rfl rfl rfl (by simp [sectP, h0, h2]), ((Below.refl _ _).alloc (Nat.le_refl _) _).alloc (by simp) _⟩
      · go_enter Try.func16, Try.ntmps16
        go_wp2_with fail
        go_returns
        exact ⟨pr_ret rfl rfl rfl rfl (by simp [sectP, h2]), ((Below.refl _ _).alloc (Nat.le_refl _) _).alloc (by simp) _⟩
    · go_enter Try.func16, Try.ntmps16
      go_wp2_with fail
      go_returns
      exact ⟨pr_ret rfl rfl rfl rfl (by simp [sectP, h1]), ((Below.refl _ _).alloc (Nat.le_refl _) _).alloc (by simp) _⟩

theorem zero_cells {w : World} {g : Nat} {u0 u1 u2 u3 u4 : Value} {t : TypeId} (h : w.heap[g]? = some (.cells #[u0, u1, u2, u3, u4] t (0, 0))) :
    w.cell? ⟨g, 0, none⟩ = some u0 ∧ w.cell? ⟨g, 1, none⟩ = some u1 ∧ w.cell? ⟨g, 2, none⟩ = some u2 ∧ w.cell? ⟨g, 3, none⟩ = some u3 ∧ w.cell? ⟨g, 4, none⟩ = some u4 ∧
    w.frozen? ⟨g, 0, none⟩ = false ∧ w.frozen? ⟨g, 1, none⟩ = false ∧ w.frozen? ⟨g, 2, none⟩ = false ∧ w.frozen? ⟨g, 3, none⟩ = false ∧ w.frozen? ⟨g, 4, none⟩ = false := by
  have c := fun i => cell_of_row w g i _ _ _ h
  have f := fun i => frozen_of_row w g i _ _ h
  exact ⟨c 0, c 1, c 2, c 3, c 4, f 0, f 1, f 2, f 3, f 4⟩

theorem five_set {w : World} {g : Nat} {u0 u1 u2 u3 u4 v0 v1 v2 v3 v4 : Value} {t : TypeId} (h : w.heap[g]? = some (.cells #[u0, u1, u2, u3, u4] t (0, 0))) :
    (((((w.setCell ⟨g, 0, none⟩ v0).setCell ⟨g, 1, none⟩ v1).setCell ⟨g, 2, none⟩ v2).setCell ⟨g, 3, none⟩ v3).setCell ⟨g, 4, none⟩ v4).heap[g]? = some (.cells #[v0, v1, v2, v3, v4] t (0, 0)) :=
  heap_setCell_same _ g 4 _ t v4 (heap_setCell_same _ g 3 _ t v3 (heap_setCell_same _ g 2 _ t v2 (heap_setCell_same _ g 1 _ t v1 (heap_setCell_same w g 0 _ t v0 h))))

set_option maxHeartbeats 1000000 in
theorem told_low (p : Pr) (ok : Bool) (x r : Nat) (w : World) (hm : p.m < 4611686018427387904) (hx : x < 4611686018427387904) :
    Calls Try.prog 11 #[p.val, .bool ok, .int .u64 (x : Int), .int .u64 (r : Int)] w fun e w' => e = .returned (toldP p ok x r).val ∧ Below w.heap.size w w' := by
  obtain ⟨m, n, r0, s, c⟩ := p
  simp only at hm
  simp only [Pr.val]
  cases ok
  · go_enter Try.func11, Try.ntmps11
    go_wp2_with fail
    all_goals go_returns
    all_goals refine ⟨pr_ret ?_ ?_ ?_ ?_ ?_, ?_⟩
    all_goals first
      | exact ((Below.refl _ _).alloc (Nat.le_refl _) _).alloc (by simp) _
      | (simp only [toldP, Bool.false_eq_true, if_false]; done)
      | (simp only [toldP, Bool.false_eq_true, if_false]; omega)
  · by_cases hr : r0 < r
    · go_enter Try.func11, Try.ntmps11
      go_wp2_with fail
      refine (has_low ⟨m, n, r, s, c⟩ x _ hm hx).mono ?_
      rintro e w2 ⟨rfl, hb⟩
      have hbw : Below w.heap.size w w2 := (((Below.refl _ _).alloc (Nat.le_refl _) _).alloc (by simp) _).trans (hb.mono (by simp; omega))
      have hcl := hb.block (w.heap.size + 1) (by simp)
      rw [show w.heap.size + 1 = (w.alloc (Obj.cells #[Value.int IntKind.u64 (m : Int), Value.int IntKind.u64 (n : Int), Value.int IntKind.u64 (r : Int), Value.int IntKind.u64 (s : Int), Value.int IntKind.u8 (c : Int)] 24)).heap.size by simp, heap_alloc_last] at hcl
      obtain ⟨c0, c1, c2, c3, c4, z0, z1, z2, z3, z4⟩ := zero_cells hcl
      have hge : w.heap.size ≤ w.heap.size + 1 := by omega
      obtain ⟨q, hq⟩ : ∃ q, hasP ⟨m, n, r, s, c⟩ x = q := ⟨_, rfl⟩
      rw [hq]
      obtain ⟨m1, n1, r1, s1, k1⟩ := q
      simp only [Pr.val]
      clear hb
      simp only [World.size_alloc] at c0 c1 c2 c3 c4 z0 z1 z2 z3 z4 hcl
      have HCL := Lib.hid hcl
      clear hcl
      go_wp2_with fail
      refine bodyPost_ret (results_cell_row (p := 8) (ty := 24) rfl _ _ (w.heap.size + 1) 24 _ (0, 0) _ rfl (five_set HCL.out) Try.underlying24 rfl (by kernel_rfl)) rfl ?_
      refine ⟨?_, ((((hbw.setCell (by exact hge) _).setCell (by exact hge) _).setCell (by exact hge) _).setCell (by exact hge) _).setCell (by exact hge) _⟩
      rw [show toldP ⟨m, n, r0, s, c⟩ true x r = ⟨m1, n1, r1, s1, k1⟩ by rw [← hq]; simp only [toldP, if_true]; rw [show max r0 r = r by omega]]
    · go_enter Try.func11, Try.ntmps11
      go_wp2_with fail
      refine (has_low ⟨m, n, r0, s, c⟩ x _ hm hx).mono ?_
      rintro e w2 ⟨rfl, hb⟩
      have hbw : Below w.heap.size w w2 := (((Below.refl _ _).alloc (Nat.le_refl _) _).alloc (by simp) _).trans (hb.mono (by simp; omega))
      have hcl := hb.block (w.heap.size + 1) (by simp)
      rw [show w.heap.size + 1 = (w.alloc (Obj.cells #[Value.int IntKind.u64 (m : Int), Value.int IntKind.u64 (n : Int), Value.int IntKind.u64 (r0 : Int), Value.int IntKind.u64 (s : Int), Value.int IntKind.u8 (c : Int)] 24)).heap.size by simp, heap_alloc_last] at hcl
      obtain ⟨c0, c1, c2, c3, c4, z0, z1, z2, z3, z4⟩ := zero_cells hcl
      have hge : w.heap.size ≤ w.heap.size + 1 := by omega
      obtain ⟨q, hq⟩ : ∃ q, hasP ⟨m, n, r0, s, c⟩ x = q := ⟨_, rfl⟩
      rw [hq]
      obtain ⟨m1, n1, r1, s1, k1⟩ := q
      simp only [Pr.val]
      clear hb
      simp only [World.size_alloc] at c0 c1 c2 c3 c4 z0 z1 z2 z3 z4 hcl
      have HCL := Lib.hid hcl
      clear hcl
      go_wp2_with fail
      refine bodyPost_ret (results_cell_row (p := 8) (ty := 24) rfl _ _ (w.heap.size + 1) 24 _ (0, 0) _ rfl (five_set HCL.out) Try.underlying24 rfl (by kernel_rfl)) rfl ?_
      refine ⟨?_, ((((hbw.setCell (by exact hge) _).setCell (by exact hge) _).setCell (by exact hge) _).setCell (by exact hge) _).setCell (by exact hge) _⟩
      rw [show toldP ⟨m, n, r0, s, c⟩ true x r = ⟨m1, n1, r1, s1, k1⟩ by rw [← hq]; simp only [toldP, if_true]; rw [show max r0 r = r0 by omega]]

theorem has_any (p : Pr) (x : Nat) (w : World) (hp : p.low) (hx : x < 4611686018427387904) :
    Calls Try.prog 22 #[p.val, .int .u64 (x : Int)] w fun e w' => e = .returned (hasP p x).val ∧ Below w.heap.size w w' := has_low p x w hp.1 hx
theorem told_any (p : Pr) (ok : Bool) (x r : Nat) (w : World) (hp : p.low) (hx : x < 4611686018427387904) :
    Calls Try.prog 11 #[p.val, .bool ok, .int .u64 (x : Int), .int .u64 (r : Int)] w fun e w' => e = .returned (toldP p ok x r).val ∧ Below w.heap.size w w' := told_low p ok x r w hp.1 hx
end Go.Proofs.Ytopmfjgifabdmaa
