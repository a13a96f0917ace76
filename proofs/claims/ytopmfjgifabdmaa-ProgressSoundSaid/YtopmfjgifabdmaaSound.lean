/- ProgressSound: whatever is told, a peer stays sound; what matches never falls. The walk and the proved row; no condition. -/
import Derived.Test.YtopmfjgifabdmaaRows
import Derived.Test.YtopmfjgifabdmaaDoes
import Derived.Test.YtopmfjgifabdmaaOpenActs
import Derived.Test.YtopmfjgifabdmaaLast
import Derived.ProofKit
import Derived.OpenShut
namespace Go.Proofs.Ytopmfjgifabdmaa
open Go.ChangeShapes Go.WideShapes Go.ChangeAt Go.RowKit

theorem PrAt.set {w : World} {g : Nat} {p : Pr} (h : PrAt w g p) {a : Addr} (ha : a.block ≠ g) (v : Value) : PrAt (w.setCell a v) g p := (heap_setCell_other _ _ _ _ (Ne.symm ha)).trans h

set_option maxRecDepth 100000 in
set_option maxHeartbeats 4000000 in
theorem soundL_any (la : Nat) (A : Option Addr) (cap : Nat) (l : List Act5) (w : World) (ha : ActsAt w A l) :
    Calls Try.prog 5 #[.int .u64 (la : Int), .slice A l.length cap] w fun e w' => e = .returned (.bool true) ∧ Below w.heap.size w w' := by
  go_enter Try.func5, Try.ntmps5
  go_wp2_with fail
  refine (greats_any A cap l _ ha).mono ?_
  rintro e w1 ⟨b, rfl, hb, hw⟩
  rw [hw]
  clear hw w1
  cases b
  case true =>
    go_wp2_with fail
    refine (awake_any _).mono ?_
    rintro e w2 ⟨rfl, hb2⟩
    go_wp2_with fail
    go_returns
    exact ⟨rfl, hb2⟩
  obtain ⟨hl200, hlx⟩ := hb rfl
  have HLX := Lib.hid hlx
  clear hb hlx
  go_wp2_with fail
  by_cases h1 : la < 4611686018427387904
  case neg =>
    refine (great_for la true _ (decide_eq_true (by omega))).mono ?_
    rintro e w1 ⟨rfl, hw⟩
    rw [hw]
    go_wp2_with fail
    refine (awake_any _).mono ?_
    rintro e w2 ⟨rfl, hb2⟩
    go_wp2_with fail
    go_returns
    exact ⟨rfl, hb2⟩
  refine (great_for la false _ (decide_eq_false (by omega))).mono ?_
  rintro e w1 ⟨rfl, hw⟩
  rw [hw]
  clear hw w1
  go_wp2_with fail
  refine (new_for la ⟨0, la + 1, 0, 0, 0⟩ _ h1 rfl).mono ?_
  rintro e w1 ⟨rfl, d1⟩
  simp only [Pr.val]
  go_wp2_with fail
  have hp3 : PrAt (w1.alloc (.cells #[.int .u64 0, .int .u64 ((la : Int) + 1), .int .u64 0, .int .u64 0, .int .u8 0] 24)) w1.heap.size (⟨0, la + 1, 0, 0, 0⟩ : Pr) := heap_alloc_last w1 _
  have hb3 := d1.alloc d1.size (.cells #[.int .u64 0, .int .u64 ((la : Int) + 1), .int .u64 0, .int .u64 0, .int .u8 0] 24)
  have hg9 := d1.size
  generalize w1.alloc (.cells #[.int .u64 0, .int .u64 ((la : Int) + 1), .int .u64 0, .int .u64 0, .int .u8 0] 24) = W at hp3 hb3 ⊢
  generalize w1.heap.size = g5 at hp3 hg9 ⊢
  have HP0 := Lib.hid hp3
  clear hp3 d1
  go_loopw [6] (fun v wr => ∃ (j : Nat) (p : Pr), j ≤ l.length ∧ v = .int .i64 (j : Int) ∧ p.m < 4611686018427387904 ∧ Hid p.sound ∧ Hid (PrAt wr g5 p) ∧ Below w.heap.size w wr) (fun v _ => l.length - (intOf v).toNat)
  case atStart => exact ⟨0, ⟨0, la + 1, 0, 0, 0⟩, Nat.zero_le _, rfl, by simp, Lib.hid ⟨by simp, by simp, .inr rfl⟩, HP0, hb3⟩
  case round =>
    clear HP0 hb3
    obtain ⟨j, p, hj, rfl, hpm, HS, HP, hb⟩ := hrel
    by_cases hlt : j < l.length
    · obtain ⟨ab, off, rfl, a0, a1, a2, a3, a4, hk⟩ := ha j hlt
      have hx := HLX.out j hlt
      obtain ⟨a, hact⟩ : ∃ a, l[j] = a := ⟨_, rfl⟩
      rw [hact] at a0 a1 a2 a3 a4 hk hx
      clear hact
      have k0 := (hb.cell (World.block_lt_of_cell? w _ a0)).trans a0
      have k1 := (hb.cell (World.block_lt_of_cell? w _ a1)).trans a1
      have k2 := (hb.cell (World.block_lt_of_cell? w _ a2)).trans a2
      have k3 := (hb.cell (World.block_lt_of_cell? w _ a3)).trans a3
      have k4 := (hb.cell (World.block_lt_of_cell? w _ a4)).trans a4
      have HA0 := Lib.hid a0
      have HA1 := Lib.hid a1
      clear a0 a1 a2 a3 a4
      obtain ⟨q, hq⟩ : ∃ q, doesP p a = q := ⟨_, rfl⟩
      have hsnd := does_sound HS.out a
      have hql := does_low hpm a hx
      rw [hq] at hsnd hql
      have HQ := Lib.hid hq
      obtain ⟨s1, s2, s3, s4⟩ := hsnd
      have HS1 := Lib.hid s1
      have HS4 := Lib.hid s4
      clear hq s1 s4
      have i1 : (0 : Int) ≤ (j : Int) := by omega
      have i2 : (j : Int) < (l.length : Int) := by omega
      have HK : Hid (wr.cell? ⟨ab, off + j * 5, none⟩ = some (.int .u8 (a.d : Int)) ∧ wr.cell? ⟨ab, off + j * 5 + 1, none⟩ = some (.bool a.ok) ∧ wr.cell? ⟨ab, off + j * 5 + 2, none⟩ = some (.int .u64 (a.x : Int)) ∧ wr.cell? ⟨ab, off + j * 5 + 3, none⟩ = some (.int .u64 (a.y : Int)) ∧ wr.cell? ⟨ab, off + j * 5 + 4, none⟩ = some (.int .u8 (a.k : Int))) := Lib.hid ⟨k0, k1, k2, k3, k4⟩
      clear k0 k1 k2 k3 k4
      go_wp2_with fail
      refine wp_region_last (by kernel_rfl) (by kernel_rfl) (by kernel_rfl) 7 _ rfl rfl (by kernel_rfl) rfl rfl
        [fun v _ => v = Pr.val p, fun v _ => v = .slice (some ⟨ab, off, none⟩) l.length cap, fun v _ => v = .int .i64 (j : Int), fun v _ => v = .pointer (some ⟨ab, off + j * 5, none⟩), fun v _ => v = a.val, fun v _ => v = Pr.val q,
          fun v w => ∃ b, v = .pointer (some ⟨b, 0, none⟩) ∧ PrAt w b (⟨0, 0, 0, 0, 0⟩ : Pr) ∧ wr.heap.size ≤ b] ?_ ?_ ?_
      · intro f hf v w w' hbl h
        simp only [List.mem_cons, List.not_mem_nil, or_false] at hf
        rcases hf with rfl | rfl | rfl | rfl | rfl | rfl | rfl
        · exact h
        · exact h
        · exact h
        · exact h
        · exact h
        · exact h
        · obtain ⟨b, h1, h2, h3⟩ := h
          exact ⟨b, h1, h2.below hbl, h3⟩
      · refine ⟨fun x w1 hF ho => ?_, ?_⟩
        · have f5 : x.tmps[5]? = some (.pointer (some ⟨g5, 0, none⟩)) := (hF.old 5 (no_dst (by kernel_rfl))).trans rfl
          obtain ⟨c0, c1, c2, c3, c4⟩ := (HP.out.below hF.world).cells
          exact step_val ho (wanted_none rfl) (v := Pr.val p) (by simp [execOp, Act.eval, f5, go_sem, c0, c1, c2, c3, c4, Pr.val]) rfl (Below.refl _ _)
        refine ⟨fun x w1 hF ho => ?_, ?_⟩
        · have f1 : x.tmps[1]? = some (.slice (some ⟨ab, off, none⟩) l.length cap) := (hF.old 1 (no_dst (by kernel_rfl))).trans rfl
          exact step_val ho (wanted_none rfl) (v := .slice (some ⟨ab, off, none⟩) l.length cap) (by simp [execOp, Act.eval, f1]) rfl (Below.refl _ _)
        refine ⟨fun x w1 hF ho => ?_, ?_⟩
        · have f6 : x.tmps[6]? = some (.int .i64 (j : Int)) := (hF.old 6 (no_dst (by kernel_rfl))).trans rfl
          exact step_val ho (wanted_none rfl) (v := .int .i64 (j : Int)) (by simp [execOp, Act.eval, f6]) rfl (Below.refl _ _)
        refine ⟨fun x w1 hF ho => ?_, ?_⟩
        · obtain ⟨_, f24, rfl⟩ := hF.val 1 _ 24 (by kernel_rfl) rfl rfl
          obtain ⟨_, f25, rfl⟩ := hF.val 2 _ 25 (by kernel_rfl) rfl rfl
          exact step_val ho (wanted_none rfl) (v := .pointer (some ⟨ab, off + j * 5, none⟩)) (by simp [execOp, Act.eval, f24, f25, go_sem, i1, i2]) rfl (Below.refl _ _)
        refine ⟨fun x w1 hF ho => ?_, ?_⟩
        · obtain ⟨_, f26, rfl⟩ := hF.val 3 _ 26 (by kernel_rfl) rfl rfl
          have hlt := World.block_lt_of_cell? wr _ HK.out.1
          have c0 := (hF.world.cell (p := ⟨ab, off + j * 5, none⟩) hlt).trans HK.out.1
          have c1 := (hF.world.cell (p := ⟨ab, off + j * 5 + 1, none⟩) hlt).trans HK.out.2.1
          have c2 := (hF.world.cell (p := ⟨ab, off + j * 5 + 2, none⟩) hlt).trans HK.out.2.2.1
          have c3 := (hF.world.cell (p := ⟨ab, off + j * 5 + 3, none⟩) hlt).trans HK.out.2.2.2.1
          have c4 := (hF.world.cell (p := ⟨ab, off + j * 5 + 4, none⟩) hlt).trans HK.out.2.2.2.2
          exact step_val ho (wanted_none rfl) (v := a.val) (by simp [execOp, Act.eval, f26, go_sem, c0, c1, c2, c3, c4, Act5.val]) rfl (Below.refl _ _)
        refine ⟨fun x w1 hF ho => ?_, ?_⟩
        · obtain ⟨_, f23, rfl⟩ := hF.val 0 _ 23 (by kernel_rfl) rfl rfl
          obtain ⟨_, f27, rfl⟩ := hF.val 4 _ 27 (by kernel_rfl) rfl rfl
          refine step_call ho (wanted_none rfl) (f := 20) (args := #[Pr.val p, a.val]) (by simp [execOp, Act.eval, f23, f27, go_sem]) ?_
          refine (does_any p a q _ hpm hx hk HQ.out).mono ?_
          rintro e w' ⟨rfl, hb'⟩
          exact ⟨_, rfl, rfl, hb'⟩
        refine ⟨fun x w1 hF ho => ?_, ?_⟩
        · exact step_val ho (wanted_none rfl) (v := .pointer (some ⟨w1.heap.size, 0, none⟩)) (by simp [execOp, go_sem]) ⟨_, rfl, heap_alloc_last w1 _, hF.world.size⟩ (below_alloc w1 _)
        exact trivial
      intro x wX hF
      obtain ⟨_, f23, rfl⟩ := hF.val 0 _ 23 (by kernel_rfl) rfl rfl
      obtain ⟨_, f24, rfl⟩ := hF.val 1 _ 24 (by kernel_rfl) rfl rfl
      obtain ⟨_, f25, rfl⟩ := hF.val 2 _ 25 (by kernel_rfl) rfl rfl
      obtain ⟨_, f26, rfl⟩ := hF.val 3 _ 26 (by kernel_rfl) rfl rfl
      obtain ⟨_, f27, rfl⟩ := hF.val 4 _ 27 (by kernel_rfl) rfl rfl
      obtain ⟨_, f28, rfl⟩ := hF.val 5 _ 28 (by kernel_rfl) rfl rfl
      obtain ⟨_, f7, g7, rfl, hz7, hg7⟩ := hF.val 6 _ 7 (by kernel_rfl) rfl rfl
      have hxf := hF.frame (by kernel_rfl) [Pr.val p, .slice (some ⟨ab, off, none⟩) l.length cap, .int .i64 (j : Int), .pointer (some ⟨ab, off + j * 5, none⟩), a.val, Pr.val q, .pointer (some ⟨g7, 0, none⟩), undef] rfl
        ⟨fun d h => by cases h; exact f23, fun d h => by cases h; exact f24, fun d h => by cases h; exact f25, fun d h => by cases h; exact f26, fun d h => by cases h; exact f27, fun d h => by cases h; exact f28, fun d h => by cases h; exact f7, (fun d h => by cases h), trivial⟩
      have hp5 := HP.out.below hF.world
      have hb4 := hb.trans (hF.world.mono hb.size)
      have hg57 : g7 ≠ g5 := fun e => by have := lt_of_block HP.out; omega
      have hg7w : w.heap.size ≤ g7 := Nat.le_trans hb.size hg7
      clear f23 f24 f25 f26 f27 f28 f7 hF
      subst hxf
      obtain ⟨y0, y1, y2, y3, y4, z0, z1, z2, z3, z4⟩ := zero_cells hz7
      have HZ := Lib.hid hz7
      have HP5 := Lib.hid hp5
      clear hz7 hp5 hg7
      simp only [putAll, List.toList_toArray, List.setIfInBounds_toArray, List.set_cons_succ, List.set_cons_zero, Pr.val]
      go_wp2_with fail
      have hq5 : PrAt (((((wX.setCell ⟨g7, 0, none⟩ (.int .u64 (q.m : Int))).setCell ⟨g7, 1, none⟩ (.int .u64 (q.n : Int))).setCell ⟨g7, 2, none⟩ (.int .u64 (q.r : Int))).setCell ⟨g7, 3, none⟩ (.int .u64 (q.s : Int))).setCell ⟨g7, 4, none⟩ (.int .u8 (q.c : Int))) g7 q := five_set HZ.out
      have hp5 : PrAt (((((wX.setCell ⟨g7, 0, none⟩ (.int .u64 (q.m : Int))).setCell ⟨g7, 1, none⟩ (.int .u64 (q.n : Int))).setCell ⟨g7, 2, none⟩ (.int .u64 (q.r : Int))).setCell ⟨g7, 3, none⟩ (.int .u64 (q.s : Int))).setCell ⟨g7, 4, none⟩ (.int .u8 (q.c : Int))) g5 p := (HP5.out.set (a := ⟨g7, 0, none⟩) hg57 _).set (a := ⟨g7, 1, none⟩) hg57 _ |>.set (a := ⟨g7, 2, none⟩) hg57 _ |>.set (a := ⟨g7, 3, none⟩) hg57 _ |>.set (a := ⟨g7, 4, none⟩) hg57 _
      have hb5 : Below w.heap.size w (((((wX.setCell ⟨g7, 0, none⟩ (.int .u64 (q.m : Int))).setCell ⟨g7, 1, none⟩ (.int .u64 (q.n : Int))).setCell ⟨g7, 2, none⟩ (.int .u64 (q.r : Int))).setCell ⟨g7, 3, none⟩ (.int .u64 (q.s : Int))).setCell ⟨g7, 4, none⟩ (.int .u8 (q.c : Int))) := ((((hb4.setCell (by exact hg7w) _).setCell (by exact hg7w) _).setCell (by exact hg7w) _).setCell (by exact hg7w) _).setCell (by exact hg7w) _
      have hne := hg57
      generalize (((((wX.setCell ⟨g7, 0, none⟩ (.int .u64 (q.m : Int))).setCell ⟨g7, 1, none⟩ (.int .u64 (q.n : Int))).setCell ⟨g7, 2, none⟩ (.int .u64 (q.r : Int))).setCell ⟨g7, 3, none⟩ (.int .u64 (q.s : Int))).setCell ⟨g7, 4, none⟩ (.int .u8 (q.c : Int))) = W3 at hq5 hp5 hb5 ⊢
      clear HP hb HP5 HZ hb4 hg57 y0 y1 y2 y3 y4 z0 z1 z2 z3 z4 HK
      refine (given_any q _).mono ?_
      rintro e w4 ⟨rfl, d4⟩
      have hq6 := hq5.below d4
      have hp6 := hp5.below d4
      have hb6 := hb5.trans (d4.mono hb5.size)
      clear hq5 hp5 hb5 d4
      simp only [Pr.val]
      go_wp2_with fail
      refine (sound_any q _ HS1.out).mono ?_
      rintro e w5 ⟨rfl, d5⟩
      have hq7 := hq6.below d5
      have hp7 := hp6.below d5
      have hb7 := hb6.trans (d5.mono hb6.size)
      clear hq6 hp6 hb6 d5
      obtain ⟨c0, c1, c2, c3, c4, z0, z1, z2, z3, z4⟩ := zero_cells hp7
      obtain ⟨e0, e1, e2, e3, e4⟩ := hq7.cells
      have HPP := Lib.hid hp7
      clear hp7 hq7
      by_cases hn : q.n < p.n
      · obtain ⟨hd0, hok⟩ := HS4.out hn
        have k0 := (hb7.cell (World.block_lt_of_cell? w _ HA0.out)).trans HA0.out
        have k1 := (hb7.cell (World.block_lt_of_cell? w _ HA1.out)).trans HA1.out
        rw [hd0] at k0
        rw [hok] at k1
        clear hd0 hok
        go_wp2_with fail
        go_roundw
        case rel =>
          have hb8 := ((((hb7.setCell (by exact hg9) (p := ⟨g5, 0, none⟩) (.int .u64 (q.m : Int))).setCell (by exact hg9) (p := ⟨g5, 1, none⟩) (.int .u64 (q.n : Int))).setCell (by exact hg9) (p := ⟨g5, 2, none⟩) (.int .u64 (q.r : Int))).setCell (by exact hg9) (p := ⟨g5, 3, none⟩) (.int .u64 (q.s : Int))).setCell (by exact hg9) (p := ⟨g5, 4, none⟩) (.int .u8 (q.c : Int))
          ((repeat apply Exists.intro); exact ⟨⟨j + 1, q, by omega, by go_num, hql, HS1, Lib.hid (five_set HPP.out), hb8⟩, rfl⟩)
        case measure => simp [intOf]; omega
      · go_wp2_with fail
        go_roundw
        case rel =>
          have hb8 := ((((hb7.setCell (by exact hg9) (p := ⟨g5, 0, none⟩) (.int .u64 (q.m : Int))).setCell (by exact hg9) (p := ⟨g5, 1, none⟩) (.int .u64 (q.n : Int))).setCell (by exact hg9) (p := ⟨g5, 2, none⟩) (.int .u64 (q.r : Int))).setCell (by exact hg9) (p := ⟨g5, 3, none⟩) (.int .u64 (q.s : Int))).setCell (by exact hg9) (p := ⟨g5, 4, none⟩) (.int .u8 (q.c : Int))
          ((repeat apply Exists.intro); exact ⟨⟨j + 1, q, by omega, by go_num, hql, HS1, Lib.hid (five_set HPP.out), hb8⟩, rfl⟩)
        case measure => simp [intOf]; omega
    · obtain rfl : j = l.length := by omega
      go_wp2_with fail
      refine (awake_any _).mono ?_
      rintro e w5 ⟨rfl, d5⟩
      have hb5 := hb.trans (d5.mono hb.size)
      go_wp2_with fail
      go_returns
      exact ⟨rfl, hb5⟩

theorem progressSound_own : ownKnob Try.prog.godebug = none := by kernel_rfl
theorem progressSound_laidOut : laidOutB Try.prog = true := by kernel_rfl
set_option maxRecDepth 100000 in
theorem progressSound_lifted (os : Os) (started : os.Started) (H : Type) (enc : TypeId × Value → H) :
    ReturnsInHanded {} Try.checked os 5 .any (Rows.progressSoundSpec.pre6 enc Try.prog Try.f5 Rows.progressSoundRow.domain false) (Rows.progressSoundSpec.post enc Try.prog Try.f5 false true false false) := by
  refine returnsInHanded_of_change (C := Try.checked) progressSound_own started (by kernel_rfl) Try.func5
    (ChangeSpec.witness6 (enc := enc) (C := Try.checked) false ⟨#[], #[.int .u64 0, .slice none 0 0], []⟩ 8 (by kernel_rfl) (by kernel_rfl) (by kernel_rfl) (by kernel_rfl)) ?_
  intro W base args ds gs before hval0 hW hcnd _
  have hval : ∀ (j : Nat) t v, Try.f5.params[j]? = some t → args[j]? = some v → Value.okWide Try.prog W .any base t v := hval0
  have hW' := hW
  obtain ⟨p, q, hA0, hV, rfl, hfz, hnd⟩ := hW
  have hA : DataW.TrodAll enc Try.prog W 0 (fun _ => true) true Try.f5.params.toList args.toList ds p := hA0
  rw [Try.params5] at hA hval
  obtain ⟨v0, vs0, d0, ds0, p0, q0, hargs, rfl, rfl, h0, r0⟩ := trodAll_cons hA
  obtain ⟨v1, vs1, d1, ds1, p1, q1, rfl, rfl, rfl, h1, r1⟩ := trodAll_cons r0
  obtain ⟨rfl, rfl, rfl⟩ := trodAll_nil r1
  obtain rfl : args = #[v0, v1] := by cases args; simp_all
  obtain ⟨rfl, rfl⟩ := trodVars_none hV
  have k0 := h0
  have lt0 : ∀ x ∈ p0, x.block < W.heap.size := by obtain ⟨m, hm⟩ := k0; exact DataW.trod_lt m _ _ _ hm
  have k1 := h1
  have lt1 : ∀ x ∈ p1, x.block < W.heap.size := by obtain ⟨m, hm⟩ := k1; exact DataW.trod_lt m _ _ _ hm
  obtain ⟨a0, rfl, rfl, rfl, w0⟩ := open_int Try.underlying22 (hval 0 22 v0 rfl rfl) h0
  obtain ⟨A, len, cap, rfl⟩ := okWide_slice Try.underlying36 (hval 1 36 v1 rfl rfl)
  obtain ⟨zs, hlen, hz⟩ := open_acts h1
  subst hlen
  have b0 := bounds_u64 w0
  obtain ⟨n0, rfl⟩ : ∃ n : Nat, a0 = (n : Int) := ⟨a0.toNat, by omega⟩
  clear hA0 hval0
  clear hcnd
  refine (soundL_any n0 A cap zs W hz).mono fun e W' ⟨he, bel⟩ => ?_
  subst he
  exact ⟨_, rfl, _, _, _, [], _, [], hW', trodAll_mk1 (shut_bool Try.underlying4 _), (trodAll_cons_mk (Below.trod progressSound_laidOut (by kernel_rfl) (of_decide_eq_true (by kernel_rfl)) k0 bel lt0) (trodAll_cons_mk (Below.trod progressSound_laidOut (by kernel_rfl) (of_decide_eq_true (by kernel_rfl)) k1 bel lt1) trodAll_mk0)), rfl, bel.frame _, fun h => by cases h⟩

theorem progressSound_over : Rows.progressSoundRow.holds Try.pinned (OpenSpec.ofChange Rows.progressSoundSpec) :=
  OpenClaim.holds_of_wide 5 Try.f5 rfl rfl rfl rfl rfl rfl rfl ⟨rfl, rfl, rfl, rfl, rfl⟩ rfl rfl rfl rfl rfl (by kernel_rfl) Try.func5 (by kernel_rfl)
    (of_decide_eq_true (by kernel_rfl)) (by unfold Func.isWrapper; first | (rw [if_pos (by decide +kernel)]; kernel_rfl) | (rw [if_neg (by decide +kernel)]; exact ⟨rfl, rfl⟩))
    (fun os started H enc _ => progressSound_lifted os started H enc)

/-- The given statement. -/
theorem progressSound_proved : Rows.ProgressSoundSaid := progressSound_over
#print axioms progressSound_proved
end Go.Proofs.Ytopmfjgifabdmaa
