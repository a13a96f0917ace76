/- ProgressOrder: what was told in any row comes to the same, as long as all of it was ok. The walk and the proved row; no condition. -/
import Derived.Test.YtopmfjgifabdmaaRows
import Derived.Test.YtopmfjgifabdmaaDoes
import Derived.Test.YtopmfjgifabdmaaOpenActs
import Derived.StillTailTactics
import Derived.Deep.DeepCutAuto
import Derived.ProofKit
import Derived.OpenShut
namespace Go.Proofs.Ytopmfjgifabdmaa
open Go.ChangeShapes Go.WideShapes Go.ChangeAt Go.RowKit

theorem PrAt.set {w : World} {g : Nat} {p : Pr} (h : PrAt w g p) {a : Addr} (ha : a.block ≠ g) (v : Value) : PrAt (w.setCell a v) g p := (heap_setCell_other _ _ _ _ (Ne.symm ha)).trans h

set_option maxRecDepth 100000 in
set_option maxHeartbeats 4000000 in
theorem order_any (la tn : Nat) (A : Option Addr) (cap : Nat) (l : List Act5) (w : World) (ha : ActsAt w A l) (ht : tn < 256) :
    Calls Try.prog 7 #[.int .u64 (la : Int), .slice A l.length cap, .int .u8 (tn : Int)] w fun e w' => e = .returned (.bool true) ∧ Below w.heap.size w w' := by
  go_enter Try.func7, Try.ntmps7
  go_wp2_with fail
  refine (greats_any A cap l _ ha).mono ?_
  rintro e w1 ⟨b, rfl, hb, hw⟩
  rw [hw]
  clear hw w1
  cases b
  case true =>
    go_wp2_with fail
    refine (awake_any _).mono ?_
    rintro e w2 ⟨rfl, hb2⟩
    go_wp2_with fail
    go_returns
    exact ⟨rfl, hb2⟩
  obtain ⟨hl200, hlx⟩ := hb rfl
  have HLX := Lib.hid hlx
  clear hb hlx
  go_wp2_with fail
  by_cases h1 : la < 4611686018427387904
  case neg =>
    refine (great_for la true _ (decide_eq_true (by omega))).mono ?_
    rintro e w1 ⟨rfl, hw⟩
    rw [hw]
    go_wp2_with fail
    refine (awake_any _).mono ?_
    rintro e w2 ⟨rfl, hb2⟩
    go_wp2_with fail
    go_returns
    exact ⟨rfl, hb2⟩
  refine (great_for la false _ (decide_eq_false (by omega))).mono ?_
  rintro e w1 ⟨rfl, hw⟩
  rw [hw]
  clear hw w1
  go_wp2_with fail
  obtain ⟨F, hF⟩ : ∃ F : Nat → Nat, F = fun i => (l.getD i ⟨0, false, 0, 0, 0⟩).x := ⟨_, rfl⟩
  obtain ⟨G, hG⟩ : ∃ G : Nat → Nat, G = fun i => (l.getD i ⟨0, false, 0, 0, 0⟩).y := ⟨_, rfl⟩
  have hFG : ∀ i (h : i < l.length), F i = l[i].x ∧ G i = l[i].y := fun i h => by
    rw [hF, hG]; simp [List.getD_eq_getElem?_getD, List.getElem?_eq_getElem h]
  have HFG := Lib.hid hFG
  clear hF hG hFG
  obtain ⟨p0, hp0⟩ : ∃ p0, okP la F G 0 = p0 := ⟨_, rfl⟩
  refine (new_for la p0 _ h1 (by rw [← hp0, okP_zero])).mono ?_
  rintro e w1 ⟨rfl, d1⟩
  have HP00 := Lib.hid hp0
  clear hp0
  simp only [Pr.val]
  go_wp2_with fail
  have hp3 : PrAt ((w1.alloc (.cells #[.int .u64 (p0.m : Int), .int .u64 (p0.n : Int), .int .u64 (p0.r : Int), .int .u64 (p0.s : Int), .int .u8 (p0.c : Int)] 24)).alloc (.cells #[.int .u64 (p0.m : Int), .int .u64 (p0.n : Int), .int .u64 (p0.r : Int), .int .u64 (p0.s : Int), .int .u8 (p0.c : Int)] 24)) w1.heap.size p0 := PrAt.below (heap_alloc_last w1 _) (below_alloc _ _)
  have hq3 : PrAt ((w1.alloc (.cells #[.int .u64 (p0.m : Int), .int .u64 (p0.n : Int), .int .u64 (p0.r : Int), .int .u64 (p0.s : Int), .int .u8 (p0.c : Int)] 24)).alloc (.cells #[.int .u64 (p0.m : Int), .int .u64 (p0.n : Int), .int .u64 (p0.r : Int), .int .u64 (p0.s : Int), .int .u8 (p0.c : Int)] 24)) (w1.heap.size + 1) p0 := heap_alloc2_new w1 _ _
  have hb3 := (d1.alloc d1.size (.cells #[.int .u64 (p0.m : Int), .int .u64 (p0.n : Int), .int .u64 (p0.r : Int), .int .u64 (p0.s : Int), .int .u8 (p0.c : Int)] 24)).alloc (by have := d1.size; simp; omega) (.cells #[.int .u64 (p0.m : Int), .int .u64 (p0.n : Int), .int .u64 (p0.r : Int), .int .u64 (p0.s : Int), .int .u8 (p0.c : Int)] 24)
  have hg7 := d1.size
  have hg8 : w.heap.size ≤ w1.heap.size + 1 := by omega
  have hne : w1.heap.size ≠ w1.heap.size + 1 := by omega
  generalize (w1.alloc (.cells #[.int .u64 (p0.m : Int), .int .u64 (p0.n : Int), .int .u64 (p0.r : Int), .int .u64 (p0.s : Int), .int .u8 (p0.c : Int)] 24)).alloc (.cells #[.int .u64 (p0.m : Int), .int .u64 (p0.n : Int), .int .u64 (p0.r : Int), .int .u64 (p0.s : Int), .int .u8 (p0.c : Int)] 24) = W at hp3 hq3 hb3 ⊢
  generalize w1.heap.size + 1 = g8 at hq3 hg8 hne ⊢
  generalize w1.heap.size = g7 at hp3 hg7 hne ⊢
  have HP0 := Lib.hid hp3
  have HQ0 := Lib.hid hq3
  clear hp3 hq3 d1
  go_loopw [9] (fun v wr => ∃ (j : Nat) (p q : Pr), j ≤ l.length ∧ v = .int .i64 (j : Int) ∧ Hid (p = okP la F G j) ∧ Hid (q = okP la (fun i => F ((i + tn) % l.length)) (fun i => G ((i + tn) % l.length)) j) ∧ Hid (PrAt wr g7 p) ∧ Hid (PrAt wr g8 q) ∧ Below w.heap.size w wr) (fun v _ => l.length - (intOf v).toNat)
  case atStart => exact ⟨0, p0, p0, Nat.zero_le _, rfl, Lib.hid HP00.out.symm, Lib.hid (by rw [← HP00.out, okP_zero, okP_zero]), HP0, HQ0, hb3⟩
  case round =>
    clear HP0 HQ0 HP00 hb3
    obtain ⟨j, p, q, hj, rfl, HEP, HEQ, HP, HQ, hb⟩ := hrel
    by_cases hlt : j < l.length
    · have hlx := HLX.out
      have hmx : ∀ k, k ≤ l.length → mx F k < 4611686018427387904 := fun k hk => mx_lt (by omega) fun i hi => by rw [(HFG.out i (by omega)).1]; exact hlx i (by omega)
      have hmt : ∀ i, (i + tn) % l.length < l.length := fun i => Nat.mod_lt _ (by omega)
      have hpm : p.m < 4611686018427387904 := by rw [HEP.out]; exact hmx j hj
      have hqm : q.m < 4611686018427387904 := by
        rw [HEQ.out]
        exact mx_lt (by omega) fun i _ => by rw [(HFG.out _ (hmt i)).1]; exact hlx _ (hmt i)
      have HMT := Lib.hid (hmt j)
      have hx1 := hlx j hlt
      have hx2 := hlx _ (hmt j)
      obtain ⟨hf1, hg1⟩ := HFG.out j hlt
      obtain ⟨hf2, hg2⟩ := HFG.out _ (hmt j)
      obtain ⟨ab, off, rfl, _, _, a2, a3, _⟩ := ha j hlt
      obtain ⟨ab', off', he, b0, b1, b2, b3, b4, b5⟩ := ha _ (hmt j)
      clear b5
      cases he
      obtain ⟨x1, hx1'⟩ : ∃ x, l[j].x = x := ⟨_, rfl⟩
      obtain ⟨y1, hy1'⟩ : ∃ x, l[j].y = x := ⟨_, rfl⟩
      obtain ⟨kk, hkk⟩ : ∃ k, (j + tn) % l.length = k := ⟨_, rfl⟩
      have hkl : kk < l.length := by rw [← hkk]; exact hmt j
      have e2 : l[(j + tn) % l.length]'(hmt j) = l[kk] := by simp only [hkk]
      rw [e2] at b0 b1 b2 b3 b4 hx2 hf2 hg2
      rw [hkk] at b0 b1 b2 b3 b4 hf2 hg2
      obtain ⟨act, hact⟩ : ∃ a, l[kk] = a := ⟨_, rfl⟩
      rw [hact] at b0 b1 b2 b3 b4 hx2 hf2 hg2
      rw [hx1'] at a2 hx1 hf1
      rw [hy1'] at a3 hg1
      have HF1 := Lib.hid hf1
      have HG1 := Lib.hid hg1
      have HF2 := Lib.hid hf2
      have HG2 := Lib.hid hg2
      have HKK := Lib.hid hkk
      have hmod : ((j : Int) + (tn : Int)) % (l.length : Int) = (kk : Int) := by rw [← hkk]; simp
      have HA2 := Lib.hid a2
      have HA3 := Lib.hid a3
      have HB0 := Lib.hid b0
      have HB1 := Lib.hid b1
      have HB2 := Lib.hid b2
      have HB3 := Lib.hid b3
      have HB4 := Lib.hid b4
      have k2 := (hb.cell (World.block_lt_of_cell? w _ a2)).trans a2
      have k3 := (hb.cell (World.block_lt_of_cell? w _ a3)).trans a3
      clear hact hx1' hy1' e2 hmt hmx hlx hkk hf1 hg1 hf2 hg2 a2 a3 b0 b1 b2 b3 b4
      obtain ⟨p1, hp1⟩ : ∃ p1, toldP p true x1 y1 = p1 := ⟨_, rfl⟩
      obtain ⟨q1, hq1⟩ : ∃ q1, toldP q true act.x act.y = q1 := ⟨_, rfl⟩
      have HP1 := Lib.hid hp1
      have HQ1 := Lib.hid hq1
      clear hp1 hq1
      have i1 : (0 : Int) ≤ (j : Int) := by omega
      have i2 : (j : Int) < (l.length : Int) := by omega
      obtain ⟨c0, c1, c2, c3, c4⟩ := HP.out.cells
      have HMOD := Lib.hid hmod
      clear hmod
      go_wp2_with fail
      go_still_tail 11, (by kernel_rfl)
      change wpList _ _ _ _ _ wr.drew
      have HPd : Hid (PrAt wr.drew g7 p) := Lib.hid (HP.out.below (blw_draws (Below.refl _ _) 1 : Below wr.heap.size wr wr.drew))
      have HQd : Hid (PrAt wr.drew g8 q) := Lib.hid (HQ.out.below (blw_draws (Below.refl _ _) 1 : Below wr.heap.size wr wr.drew))
      have hb1 : Below w.heap.size w wr.drew := blw_draws hb 1
      clear HP HQ hb c0 c1 c2 c3 c4 k2 k3
      generalize wr.drew = wd at HPd HQd hb1 ⊢
      go_wp2_with fail
      refine (told_lowfor p true x1 y1 p1 _ hpm hx1 HP1.out).mono ?_
      rintro e w3 ⟨rfl, d3⟩
      have hp4 := HPd.out.below d3
      have hq4 := HQd.out.below d3
      have hb4 := hb1.trans (d3.mono hb1.size)
      clear HPd HQd hb1 d3
      obtain ⟨c0, c1, c2, c3, c4, z0, z1, z2, z3, z4⟩ := zero_cells hp4
      have hab : ab < w.heap.size := World.block_lt_of_cell? w _ HB0.out
      have HAB := Lib.hid hab
      have HP4 := Lib.hid hp4
      have HQ4 := Lib.hid hq4
      clear hp4 hq4 hab
      simp only [Pr.val]
      go_upto_region 9 with (fail)
      have hb5 : Below w.heap.size w (((((w3.setCell ⟨g7, 0, none⟩ (.int .u64 (p1.m : Int))).setCell ⟨g7, 1, none⟩ (.int .u64 (p1.n : Int))).setCell ⟨g7, 2, none⟩ (.int .u64 (p1.r : Int))).setCell ⟨g7, 3, none⟩ (.int .u64 (p1.s : Int))).setCell ⟨g7, 4, none⟩ (.int .u8 (p1.c : Int))) := ((((hb4.setCell (by exact hg7) _).setCell (by exact hg7) _).setCell (by exact hg7) _).setCell (by exact hg7) _).setCell (by exact hg7) _
      have hp5 : PrAt (((((w3.setCell ⟨g7, 0, none⟩ (.int .u64 (p1.m : Int))).setCell ⟨g7, 1, none⟩ (.int .u64 (p1.n : Int))).setCell ⟨g7, 2, none⟩ (.int .u64 (p1.r : Int))).setCell ⟨g7, 3, none⟩ (.int .u64 (p1.s : Int))).setCell ⟨g7, 4, none⟩ (.int .u8 (p1.c : Int))) g7 p1 := five_set HP4.out
      have hq5 : PrAt (((((w3.setCell ⟨g7, 0, none⟩ (.int .u64 (p1.m : Int))).setCell ⟨g7, 1, none⟩ (.int .u64 (p1.n : Int))).setCell ⟨g7, 2, none⟩ (.int .u64 (p1.r : Int))).setCell ⟨g7, 3, none⟩ (.int .u64 (p1.s : Int))).setCell ⟨g7, 4, none⟩ (.int .u8 (p1.c : Int))) g8 q := (HQ4.out.set (a := ⟨g7, 0, none⟩) hne _).set (a := ⟨g7, 1, none⟩) hne _ |>.set (a := ⟨g7, 2, none⟩) hne _ |>.set (a := ⟨g7, 3, none⟩) hne _ |>.set (a := ⟨g7, 4, none⟩) hne _
      generalize (((((w3.setCell ⟨g7, 0, none⟩ (.int .u64 (p1.m : Int))).setCell ⟨g7, 1, none⟩ (.int .u64 (p1.n : Int))).setCell ⟨g7, 2, none⟩ (.int .u64 (p1.r : Int))).setCell ⟨g7, 3, none⟩ (.int .u64 (p1.s : Int))).setCell ⟨g7, 4, none⟩ (.int .u8 (p1.c : Int))) = W5 at hb5 hp5 hq5 ⊢
      clear HP4 HQ4 hb4 c0 c1 c2 c3 c4 z0 z1 z2 z3 z4
      have k0 := (hb5.cell (World.block_lt_of_cell? w _ HB0.out)).trans HB0.out
      have k1 := (hb5.cell (World.block_lt_of_cell? w _ HB1.out)).trans HB1.out
      have k2 := (hb5.cell (World.block_lt_of_cell? w _ HB2.out)).trans HB2.out
      have k3 := (hb5.cell (World.block_lt_of_cell? w _ HB3.out)).trans HB3.out
      have k4 := (hb5.cell (World.block_lt_of_cell? w _ HB4.out)).trans HB4.out
      obtain ⟨e0, e1, e2, e3, e4, f0, f1, f2, f3, f4⟩ := zero_cells hq5
      have HP5 := Lib.hid hp5
      have HQ5 := Lib.hid hq5
      clear hp5 hq5
      have hmod := HMOD.out
      go_upto_region 10 with (fail)
      have hp6 := HP5.out.below (below_alloc W5 (.cells #[.int .u8 (act.d : Int), .bool act.ok, .int .u64 (act.x : Int), .int .u64 (act.y : Int), .int .u8 (act.k : Int)] 40))
      have hq6 := HQ5.out.below (below_alloc W5 (.cells #[.int .u8 (act.d : Int), .bool act.ok, .int .u64 (act.x : Int), .int .u64 (act.y : Int), .int .u8 (act.k : Int)] 40))
      have hb6 := hb5.alloc hb5.size (.cells #[.int .u8 (act.d : Int), .bool act.ok, .int .u64 (act.x : Int), .int .u64 (act.y : Int), .int .u8 (act.k : Int)] 40)
      have ha6 : (W5.alloc (.cells #[.int .u8 (act.d : Int), .bool act.ok, .int .u64 (act.x : Int), .int .u64 (act.y : Int), .int .u8 (act.k : Int)] 40)).heap[W5.heap.size]? = some (.cells #[.int .u8 (act.d : Int), .bool act.ok, .int .u64 (act.x : Int), .int .u64 (act.y : Int), .int .u8 (act.k : Int)] 40) := heap_alloc_last W5 _
      clear HP5 HQ5 hb5 k0 k1 k2 k3 k4 e0 e1 e2 e3 e4 f0 f1 f2 f3 f4 hmod
      generalize W5.alloc (.cells #[.int .u8 (act.d : Int), .bool act.ok, .int .u64 (act.x : Int), .int .u64 (act.y : Int), .int .u8 (act.k : Int)] 40) = W6 at hp6 hq6 hb6 ha6 ⊢
      generalize W5.heap.size = g10 at ha6 ⊢
      obtain ⟨e0, e1, e2, e3, e4, f0, f1, f2, f3, f4⟩ := zero_cells hq6
      obtain ⟨x0, x1, x2, x3, x4, _⟩ := zero_cells ha6
      have HP6 := Lib.hid hp6
      have HQ6 := Lib.hid hq6
      clear hp6 hq6 ha6
      go_wp2_with fail
      refine (told_lowfor q true act.x act.y q1 _ hqm hx2 HQ1.out).mono ?_
      rintro e w7 ⟨rfl, d7⟩
      have hp7 := HP6.out.below d7
      have hq7 := HQ6.out.below d7
      have hb7 := hb6.trans (d7.mono hb6.size)
      clear HP6 HQ6 hb6 d7 e0 e1 e2 e3 e4 f0 f1 f2 f3 f4 x0 x1 x2 x3 x4
      obtain ⟨e0, e1, e2, e3, e4, f0, f1, f2, f3, f4⟩ := zero_cells hq7
      have HP7 := Lib.hid hp7
      have HQ7 := Lib.hid hq7
      clear hp7 hq7
      simp only [Pr.val]
      go_wp2_with fail
      go_roundw
      case rel =>
        have hb8 : Below w.heap.size w (((((w7.setCell ⟨g8, 0, none⟩ (.int .u64 (q1.m : Int))).setCell ⟨g8, 1, none⟩ (.int .u64 (q1.n : Int))).setCell ⟨g8, 2, none⟩ (.int .u64 (q1.r : Int))).setCell ⟨g8, 3, none⟩ (.int .u64 (q1.s : Int))).setCell ⟨g8, 4, none⟩ (.int .u8 (q1.c : Int))) := ((((hb7.setCell (by exact hg8) _).setCell (by exact hg8) _).setCell (by exact hg8) _).setCell (by exact hg8) _).setCell (by exact hg8) _
        have hq8 : PrAt (((((w7.setCell ⟨g8, 0, none⟩ (.int .u64 (q1.m : Int))).setCell ⟨g8, 1, none⟩ (.int .u64 (q1.n : Int))).setCell ⟨g8, 2, none⟩ (.int .u64 (q1.r : Int))).setCell ⟨g8, 3, none⟩ (.int .u64 (q1.s : Int))).setCell ⟨g8, 4, none⟩ (.int .u8 (q1.c : Int))) g8 q1 := five_set HQ7.out
        have hp8 : PrAt (((((w7.setCell ⟨g8, 0, none⟩ (.int .u64 (q1.m : Int))).setCell ⟨g8, 1, none⟩ (.int .u64 (q1.n : Int))).setCell ⟨g8, 2, none⟩ (.int .u64 (q1.r : Int))).setCell ⟨g8, 3, none⟩ (.int .u64 (q1.s : Int))).setCell ⟨g8, 4, none⟩ (.int .u8 (q1.c : Int))) g7 p1 := (HP7.out.set (a := ⟨g8, 0, none⟩) (Ne.symm hne) _).set (a := ⟨g8, 1, none⟩) (Ne.symm hne) _ |>.set (a := ⟨g8, 2, none⟩) (Ne.symm hne) _ |>.set (a := ⟨g8, 3, none⟩) (Ne.symm hne) _ |>.set (a := ⟨g8, 4, none⟩) (Ne.symm hne) _
        have hpe : p1 = okP la F G (j + 1) := by
          rw [← HP1.out, HEP.out, ← okP_succ, HF1.out, HG1.out]
        have hqe : q1 = okP la (fun i => F ((i + tn) % l.length)) (fun i => G ((i + tn) % l.length)) (j + 1) := by
          rw [← HQ1.out, HEQ.out, ← okP_succ]
          simp only [HKK.out, HF2.out, HG2.out]
        exact ⟨j + 1, p1, q1, by omega, by go_num, Lib.hid hpe, Lib.hid hqe, Lib.hid hp8, Lib.hid hq8, hb8⟩
      case measure => simp [intOf]; omega
    · obtain rfl : j = l.length := by omega
      have he : q = p := by rw [HEP.out, HEQ.out, okP_turn]
      subst he
      obtain ⟨c0, c1, c2, c3, c4⟩ := HP.out.cells
      obtain ⟨e0, e1, e2, e3, e4⟩ := HQ.out.cells
      clear HEP HEQ
      go_wp2_with fail
      refine (awake_any _).mono ?_
      rintro e w5 ⟨rfl, d5⟩
      have hb5 := hb.trans (d5.mono hb.size)
      go_wp2_with fail
      go_returns
      exact ⟨rfl, hb5⟩

theorem progressOrder_own : ownKnob Try.prog.godebug = none := by kernel_rfl
theorem progressOrder_laidOut : laidOutB Try.prog = true := by kernel_rfl
set_option maxRecDepth 100000 in
theorem progressOrder_lifted (os : Os) (started : os.Started) (H : Type) (enc : TypeId × Value → H) :
    ReturnsInHanded {} Try.checked os 7 .any (Rows.progressOrderSpec.pre6 enc Try.prog Try.f7 Rows.progressOrderRow.domain false) (Rows.progressOrderSpec.post enc Try.prog Try.f7 false true false false) := by
  refine returnsInHanded_of_change (C := Try.checked) progressOrder_own started (by kernel_rfl) Try.func7
    (ChangeSpec.witness6 (enc := enc) (C := Try.checked) false ⟨#[], #[.int .u64 0, .slice none 0 0, .int .u8 0], []⟩ 8 (by kernel_rfl) (by kernel_rfl) (by kernel_rfl) (by kernel_rfl)) ?_
  intro W base args ds gs before hval0 hW hcnd _
  have hval : ∀ (j : Nat) t v, Try.f7.params[j]? = some t → args[j]? = some v → Value.okWide Try.prog W .any base t v := hval0
  have hW' := hW
  obtain ⟨p, q, hA0, hV, rfl, hfz, hnd⟩ := hW
  have hA : DataW.TrodAll enc Try.prog W 0 (fun _ => true) true Try.f7.params.toList args.toList ds p := hA0
  rw [Try.params7] at hA hval
  obtain ⟨v0, vs0, d0, ds0, p0, q0, hargs, rfl, rfl, h0, r0⟩ := trodAll_cons hA
  obtain ⟨v1, vs1, d1, ds1, p1, q1, rfl, rfl, rfl, h1, r1⟩ := trodAll_cons r0
  obtain ⟨v2, vs2, d2, ds2, p2, q2, rfl, rfl, rfl, h2, r2⟩ := trodAll_cons r1
  obtain ⟨rfl, rfl, rfl⟩ := trodAll_nil r2
  obtain rfl : args = #[v0, v1, v2] := by cases args; simp_all
  obtain ⟨rfl, rfl⟩ := trodVars_none hV
  have k0 := h0
  have lt0 : ∀ x ∈ p0, x.block < W.heap.size := by obtain ⟨m, hm⟩ := k0; exact DataW.trod_lt m _ _ _ hm
  have k1 := h1
  have lt1 : ∀ x ∈ p1, x.block < W.heap.size := by obtain ⟨m, hm⟩ := k1; exact DataW.trod_lt m _ _ _ hm
  have k2 := h2
  have lt2 : ∀ x ∈ p2, x.block < W.heap.size := by obtain ⟨m, hm⟩ := k2; exact DataW.trod_lt m _ _ _ hm
  obtain ⟨a0, rfl, rfl, rfl, w0⟩ := open_int Try.underlying22 (hval 0 22 v0 rfl rfl) h0
  obtain ⟨a2, rfl, rfl, rfl, w2⟩ := open_int Try.underlying5 (hval 2 5 v2 rfl rfl) h2
  obtain ⟨A, len, cap, rfl⟩ := okWide_slice Try.underlying36 (hval 1 36 v1 rfl rfl)
  obtain ⟨zs, hlen, hz⟩ := open_acts h1
  subst hlen
  have b0 := bounds_u64 w0
  have b2 := bounds_u8 w2
  obtain ⟨n0, rfl⟩ : ∃ n : Nat, a0 = (n : Int) := ⟨a0.toNat, by omega⟩
  obtain ⟨n2, rfl⟩ : ∃ n : Nat, a2 = (n : Int) := ⟨a2.toNat, by omega⟩
  clear hA0 hval0
  clear hcnd
  refine (order_any n0 n2 A cap zs W hz (by omega)).mono fun e W' ⟨he, bel⟩ => ?_
  subst he
  exact ⟨_, rfl, _, _, _, [], _, [], hW', trodAll_mk1 (shut_bool Try.underlying4 _), (trodAll_cons_mk (Below.trod progressOrder_laidOut (by kernel_rfl) (of_decide_eq_true (by kernel_rfl)) k0 bel lt0) (trodAll_cons_mk (Below.trod progressOrder_laidOut (by kernel_rfl) (of_decide_eq_true (by kernel_rfl)) k1 bel lt1) (trodAll_cons_mk (Below.trod progressOrder_laidOut (by kernel_rfl) (of_decide_eq_true (by kernel_rfl)) k2 bel lt2) trodAll_mk0))), rfl, bel.frame _, fun h => by cases h⟩

theorem progressOrder_over : Rows.progressOrderRow.holds Try.pinned (OpenSpec.ofChange Rows.progressOrderSpec) :=
  OpenClaim.holds_of_wide 7 Try.f7 rfl rfl rfl rfl rfl rfl rfl ⟨rfl, rfl, rfl, rfl, rfl⟩ rfl rfl rfl rfl rfl (by kernel_rfl) Try.func7 (by kernel_rfl)
    (of_decide_eq_true (by kernel_rfl)) (by unfold Func.isWrapper; first | (rw [if_pos (by decide +kernel)]; kernel_rfl) | (rw [if_neg (by decide +kernel)]; exact ⟨rfl, rfl⟩))
    (fun os started H enc _ => progressOrder_lifted os started H enc)

/-- The given statement. -/
theorem progressOrder_proved : Rows.ProgressOrderSaid := progressOrder_over
#print axioms progressOrder_proved
end Go.Proofs.Ytopmfjgifabdmaa
