/- The walks of the law's own functions: are numbers too great, what an act does, is a peer sound. -/
import Derived.Test.YtopmfjgifabdmaaRef
import Derived.Test.YtopmfjgifabdmaaActs
namespace Go.Proofs.Ytopmfjgifabdmaa
open Go.RowKit

/-- An act's value. -/
def Act5.val (a : Act5) : Value := .agg #[.int .u8 (a.d : Int), .bool a.ok, .int .u64 (a.x : Int), .int .u64 (a.y : Int), .int .u8 (a.k : Int)]
theorem told_lowfor (p : Pr) (ok : Bool) (x r : Nat) (q : Pr) (w : World) (hp : p.m < 4611686018427387904) (hx : x < 4611686018427387904) (h : toldP p ok x r = q) : Calls Try.prog 11 #[p.val, .bool ok, .int .u64 (x : Int), .int .u64 (r : Int)] w fun e w' => e = .returned q.val ∧ Below w.heap.size w w' := by
  subst h; exact told_low p ok x r w hp hx

set_option maxRecDepth 100000 in
set_option maxHeartbeats 2000000 in
theorem does_any (p : Pr) (a : Act5) (q : Pr) (w : World) (hm : p.m < 4611686018427387904) (hx : a.x < 4611686018427387904) (hk : a.k < 256) (hq : doesP p a = q) :
    Calls Try.prog 20 #[p.val, a.val] w fun e w' => e = .returned q.val ∧ Below w.heap.size w w' := by
  obtain ⟨m, n, r, s, c⟩ := p
  obtain ⟨d, ok, x, y, k⟩ := a
  simp only at hm hx hk
  simp only [Pr.val, Act5.val]
  by_cases h0 : d = 0
  · subst h0
    have hq' : toldP ⟨m, n, r, s, c⟩ ok x y = q := by rw [← hq]; simp [doesP]
    have HQ := Lib.hid hq'
    clear hq hq'
    go_enter Try.func20, Try.ntmps20
    go_wp2_with fail
    refine (told_lowfor ⟨m, n, r, s, c⟩ ok x y q _ hm hx HQ.out).mono ?_
    rintro e w2 ⟨rfl, hb⟩
    have hbw : Below w.heap.size w w2 := ((((Below.refl _ _).alloc (Nat.le_refl _) _).alloc (by simp) _).alloc (by simp; omega) _).trans (hb.mono (by simp; omega))
    have hcl := hb.block (w.heap.size + 1 + 1) (by simp)
    rw [show w.heap.size + 1 + 1 = ((w.alloc (Obj.cells #[Value.int IntKind.u64 (m : Int), Value.int IntKind.u64 (n : Int), Value.int IntKind.u64 (r : Int), Value.int IntKind.u64 (s : Int), Value.int IntKind.u8 (c : Int)] 24)).alloc (Obj.cells #[Value.int IntKind.u8 0, Value.bool ok, Value.int IntKind.u64 (x : Int), Value.int IntKind.u64 (y : Int), Value.int IntKind.u8 (k : Int)] 40)).heap.size by simp, heap_alloc_last] at hcl
    obtain ⟨c0, c1, c2, c3, c4, z0, z1, z2, z3, z4⟩ := zero_cells hcl
    have hge : w.heap.size ≤ w.heap.size + 1 + 1 := by omega
    obtain ⟨m1, n1, r1, s1, k1⟩ := q
    simp only [Pr.val]
    clear hb
    simp only [World.size_alloc] at c0 c1 c2 c3 c4 z0 z1 z2 z3 z4 hcl
    have HCL := Lib.hid hcl
    clear hcl
    go_wp2_with fail
    exact bodyPost_ret (results_cell_row (p := 4) (ty := 24) rfl _ _ (w.heap.size + 1 + 1) 24 _ (0, 0) _ rfl (five_set HCL.out) Try.underlying24 rfl (by kernel_rfl)) rfl
      ⟨rfl, ((((hbw.setCell (by exact hge) _).setCell (by exact hge) _).setCell (by exact hge) _).setCell (by exact hge) _).setCell (by exact hge) _⟩

  by_cases h1 : d = 1
  · subst h1
    have hq' : sendP ⟨m, n, r, s, c⟩ x = q := by rw [← hq]; simp [doesP]
    have HQ := Lib.hid hq'
    clear hq hq'
    go_enter Try.func20, Try.ntmps20
    go_wp2_with fail
    refine (send_for ⟨m, n, r, s, c⟩ x q _ HQ.out).mono ?_
    rintro e w2 ⟨rfl, hb⟩
    have hbw : Below w.heap.size w w2 := ((((Below.refl _ _).alloc (Nat.le_refl _) _).alloc (by simp) _).alloc (by simp; omega) _).trans (hb.mono (by simp; omega))
    have hcl := hb.block (w.heap.size + 1 + 1) (by simp)
    rw [show w.heap.size + 1 + 1 = ((w.alloc (Obj.cells #[Value.int IntKind.u64 (m : Int), Value.int IntKind.u64 (n : Int), Value.int IntKind.u64 (r : Int), Value.int IntKind.u64 (s : Int), Value.int IntKind.u8 (c : Int)] 24)).alloc (Obj.cells #[Value.int IntKind.u8 1, Value.bool ok, Value.int IntKind.u64 (x : Int), Value.int IntKind.u64 (y : Int), Value.int IntKind.u8 (k : Int)] 40)).heap.size by simp, heap_alloc_last] at hcl
    obtain ⟨c0, c1, c2, c3, c4, z0, z1, z2, z3, z4⟩ := zero_cells hcl
    have hge : w.heap.size ≤ w.heap.size + 1 + 1 := by omega
    obtain ⟨m1, n1, r1, s1, k1⟩ := q
    simp only [Pr.val]
    clear hb
    simp only [World.size_alloc] at c0 c1 c2 c3 c4 z0 z1 z2 z3 z4 hcl
    have HCL := Lib.hid hcl
    clear hcl
    go_wp2_with fail
    exact bodyPost_ret (results_cell_row (p := 4) (ty := 24) rfl _ _ (w.heap.size + 1 + 1) 24 _ (0, 0) _ rfl (five_set HCL.out) Try.underlying24 rfl (by kernel_rfl)) rfl
      ⟨rfl, ((((hbw.setCell (by exact hge) _).setCell (by exact hge) _).setCell (by exact hge) _).setCell (by exact hge) _).setCell (by exact hge) _⟩

  by_cases h2 : d = 2
  · subst h2
    have hq' : sectP ⟨m, n, r, s, c⟩ x k = q := by rw [← hq]; simp [doesP]
    have HQ := Lib.hid hq'
    clear hq hq'
    go_enter Try.func20, Try.ntmps20
    go_wp2_with fail
    refine (sect_for ⟨m, n, r, s, c⟩ x k q _ hk HQ.out).mono ?_
    rintro e w2 ⟨rfl, hb⟩
    have hbw : Below w.heap.size w w2 := ((((Below.refl _ _).alloc (Nat.le_refl _) _).alloc (by simp) _).alloc (by simp; omega) _).trans (hb.mono (by simp; omega))
    have hcl := hb.block (w.heap.size + 1 + 1) (by simp)
    rw [show w.heap.size + 1 + 1 = ((w.alloc (Obj.cells #[Value.int IntKind.u64 (m : Int), Value.int IntKind.u64 (n : Int), Value.int IntKind.u64 (r : Int), Value.int IntKind.u64 (s : Int), Value.int IntKind.u8 (c : Int)] 24)).alloc (Obj.cells #[Value.int IntKind.u8 2, Value.bool ok, Value.int IntKind.u64 (x : Int), Value.int IntKind.u64 (y : Int), Value.int IntKind.u8 (k : Int)] 40)).heap.size by simp, heap_alloc_last] at hcl
    obtain ⟨c0, c1, c2, c3, c4, z0, z1, z2, z3, z4⟩ := zero_cells hcl
    have hge : w.heap.size ≤ w.heap.size + 1 + 1 := by omega
    obtain ⟨m1, n1, r1, s1, k1⟩ := q
    simp only [Pr.val]
    clear hb
    simp only [World.size_alloc] at c0 c1 c2 c3 c4 z0 z1 z2 z3 z4 hcl
    have HCL := Lib.hid hcl
    clear hcl
    go_wp2_with fail
    exact bodyPost_ret (results_cell_row (p := 4) (ty := 24) rfl _ _ (w.heap.size + 1 + 1) 24 _ (0, 0) _ rfl (five_set HCL.out) Try.underlying24 rfl (by kernel_rfl)) rfl
      ⟨rfl, ((((hbw.setCell (by exact hge) _).setCell (by exact hge) _).setCell (by exact hge) _).setCell (by exact hge) _).setCell (by exact hge) _⟩

  have hq' : (⟨m, n, r, s, c⟩ : Pr) = q := by rw [← hq]; simp [doesP, h0, h1, h2]
  subst hq'
  have e0 : (((d : Nat) : Int) == 0) = false := by simp; omega
  have e1 : (((d : Nat) : Int) == 1) = false := by simp; omega
  have e2 : (((d : Nat) : Int) == 2) = false := by simp; omega
  clear hq
  go_enter Try.func20, Try.ntmps20
  go_wp2_with fail
  go_returns
  exact ⟨rfl, (((Below.refl _ _).alloc (Nat.le_refl _) _).alloc (by simp) _).alloc (by simp; omega) _⟩

set_option maxHeartbeats 1000000 in
theorem sound_any (p : Pr) (w : World) (h : p.sound) : Calls Try.prog 21 #[p.val] w fun e w' => e = .returned (.bool true) ∧ Below w.heap.size w w' := by
  obtain ⟨m, n, r, s, c⟩ := p
  obtain ⟨h1, h2, h3⟩ := h
  simp only at h1 h2 h3
  simp only [Pr.val]
  by_cases hs : 0 < s
  · clear h3
    go_enter Try.func21, Try.ntmps21
    go_wp2_with fail
    go_returns
    exact ⟨rfl, (Below.refl _ _).alloc (Nat.le_refl _) _⟩
  · obtain rfl : c = 0 := by omega
    clear h3
    go_enter Try.func21, Try.ntmps21
    go_wp2_with fail
    go_returns
    exact ⟨rfl, (Below.refl _ _).alloc (Nat.le_refl _) _⟩

/-- What Great tells. -/
def GreatTold (l : List Act5) (w : World) (e : Ending) (w' : World) : Prop := ∃ b, e = .returned (.bool b) ∧ (b = false → l.length ≤ 200 ∧ ∀ i (h : i < l.length), l[i].x < 4611686018427387904) ∧ w' = w
set_option maxHeartbeats 1000000 in
theorem greats_any (A : Option Addr) (cap : Nat) (l : List Act5) (w : World) (ha : ActsAt w A l) : Calls Try.prog 19 #[.slice A l.length cap] w (GreatTold l w) := by
  by_cases h200 : 200 < l.length
  · go_enter Try.func19, Try.ntmps19
    go_wp2_with fail
    go_returns
    exact ⟨true, rfl, (fun h => by cases h), rfl⟩
  · go_enter Try.func19, Try.ntmps19
    go_wp2_with fail
    go_loop [3] (fun v => ∃ k : Nat, k ≤ l.length ∧ v = .int .i64 k ∧ Hid (∀ i (h : i < l.length), i < k → l[i].x < 4611686018427387904)) (fun v => l.length - (intOf v).toNat)
    case atStart => exact ⟨0, Nat.zero_le _, rfl, Lib.hid (fun i h hk => absurd hk (by omega))⟩
    case round =>
      obtain ⟨k, hk, rfl, HK⟩ := hrel
      by_cases hlt : k < l.length
      · obtain ⟨b, off, rfl, _, _, c2, _, _, _⟩ := ha k hlt
        obtain ⟨x, hx⟩ : ∃ x, l[k].x = x := ⟨_, rfl⟩
        rw [hx] at c2
        have HX := Lib.hid hx
        clear hx
        go_wp2_with fail
        by_cases hg : x < 4611686018427387904
        · refine (great_for x false _ (decide_eq_false (by omega))).mono ?_
          rintro e w1 ⟨rfl, rfl⟩
          go_wp2_with fail
          go_round
          case rel =>
            refine ⟨k + 1, by omega, by go_num, Lib.hid fun i h hi => ?_⟩
            by_cases e : i = k
            · subst e; rw [HX.out]; exact hg
            · exact HK.out i h (by omega)
          case measure => simp [intOf]; omega
        · refine (great_for x true _ (decide_eq_true (by omega))).mono ?_
          rintro e w1 ⟨rfl, rfl⟩
          go_wp2_with fail
          go_returns
          exact ⟨true, rfl, (fun h => by cases h), rfl⟩
      · obtain rfl : k = l.length := by omega
        go_wp2_with fail
        go_returns
        exact ⟨false, rfl, fun _ => ⟨by omega, fun i h => HK.out i h h⟩, rfl⟩
end Go.Proofs.Ytopmfjgifabdmaa
