/- ProgressSections: the section that is due is the one that was told last to be lacking; the snapshot is over just when it was told that the log goes up to it. The walk and the proved row; no condition. -/
import Derived.Test.YtopmfjgifabdmaaRows
import Derived.Test.YtopmfjgifabdmaaRef
import Derived.Test.YtopmfjgifabdmaaFrame
import Derived.Test.YtopmfjgifabdmaaOpen
import Derived.StillTailTactics
import Derived.ProofKit
import Derived.OpenShut
namespace Go.Proofs.Ytopmfjgifabdmaa
open Go.ChangeShapes Go.WideShapes Go.ChangeAt Go.RowKit

/-- The bytes that a slice of an argument holds. -/
def BytesAt (w : World) (A : Option Addr) (bs : List Nat) : Prop := ∀ k (h : k < bs.length), ∃ b off, A = some ⟨b, off, none⟩ ∧ w.cell? ⟨b, off + k, none⟩ = some (.int .u8 ((bs[k] : Nat) : Int)) ∧ bs[k] < 256

theorem told_lowfor (p : Pr) (ok : Bool) (x r : Nat) (q : Pr) (w : World) (hp : p.m < 4611686018427387904) (hx : x < 4611686018427387904) (h : toldP p ok x r = q) : Calls Try.prog 11 #[p.val, .bool ok, .int .u64 (x : Int), .int .u64 (r : Int)] w fun e w' => e = .returned q.val ∧ Below w.heap.size w w' := by
  subst h; exact told_low p ok x r w hp hx
set_option maxRecDepth 100000 in
set_option maxHeartbeats 4000000 in
theorem sections_any (la sn ix : Nat) (A : Option Addr) (cap : Nat) (bs : List Nat) (w : World) (hbs : BytesAt w A bs) :
    Calls Try.prog 6 #[.int .u64 (la : Int), .int .u64 (sn : Int), .slice A bs.length cap, .int .u64 (ix : Int)] w fun e w' => e = .returned (.bool true) ∧ Below w.heap.size w w' := by
  go_enter Try.func6, Try.ntmps6
  by_cases h0 : 300 < bs.length
  case pos =>
    go_wp2_with fail
    refine (awake_any _).mono ?_
    rintro e w2 ⟨rfl, hb2⟩
    go_wp2_with fail
    go_returns
    exact ⟨rfl, hb2⟩
  go_wp2_with fail
  by_cases h1 : la < 4611686018427387904
  case neg =>
    refine (great_for la true _ (decide_eq_true (by omega))).mono ?_
    rintro e w1 ⟨rfl, hw⟩
    rw [hw]
    go_wp2_with fail
    refine (awake_any _).mono ?_
    rintro e w2 ⟨rfl, hb2⟩
    go_wp2_with fail
    go_returns
    exact ⟨rfl, hb2⟩
  refine (great_for la false _ (decide_eq_false (by omega))).mono ?_
  rintro e w1 ⟨rfl, hw⟩
  rw [hw]
  clear hw w1
  go_wp2_with fail
  by_cases h2 : sn < 4611686018427387904
  case neg =>
    refine (great_for sn true _ (decide_eq_true (by omega))).mono ?_
    rintro e w1 ⟨rfl, hw⟩
    rw [hw]
    go_wp2_with fail
    refine (awake_any _).mono ?_
    rintro e w2 ⟨rfl, hb2⟩
    go_wp2_with fail
    go_returns
    exact ⟨rfl, hb2⟩
  refine (great_for sn false _ (decide_eq_false (by omega))).mono ?_
  rintro e w1 ⟨rfl, hw⟩
  rw [hw]
  clear hw w1
  go_wp2_with fail
  by_cases h3 : ix < 4611686018427387904
  case neg =>
    refine (great_for ix true _ (decide_eq_true (by omega))).mono ?_
    rintro e w1 ⟨rfl, hw⟩
    rw [hw]
    go_wp2_with fail
    refine (awake_any _).mono ?_
    rintro e w2 ⟨rfl, hb2⟩
    go_wp2_with fail
    go_returns
    exact ⟨rfl, hb2⟩
  refine (great_for ix false _ (decide_eq_false (by omega))).mono ?_
  rintro e w1 ⟨rfl, hw⟩
  rw [hw]
  clear hw w1

  by_cases hs0 : sn = 0
  case pos =>
    subst hs0
    go_wp2_with fail
    refine (awake_any _).mono ?_
    rintro e w2 ⟨rfl, hb2⟩
    go_wp2_with fail
    go_returns
    exact ⟨rfl, hb2⟩
  have hne : ((sn : Int) == 0) = false := by simp; omega
  go_wp2_with fail
  refine (new_for la ⟨0, la + 1, 0, 0, 0⟩ _ h1 rfl).mono ?_
  rintro e w1 ⟨rfl, d1⟩
  go_wp2_with fail
  refine (send_for ⟨0, la + 1, 0, 0, 0⟩ sn ⟨0, la + 1, 0, sn, 0⟩ _ (by simp [sendP])).mono ?_
  rintro e w2 ⟨rfl, d2⟩
  have hb2 := blw_trans d1 d2
  clear d1 d2
  simp only [Pr.val]
  go_wp2_with fail
  have hp3 : PrAt (w2.alloc (.cells #[.int .u64 0, .int .u64 ((la : Int) + 1), .int .u64 0, .int .u64 (sn : Int), .int .u8 0] 24)) w2.heap.size (⟨0, la + 1, 0, sn, 0⟩ : Pr) := heap_alloc_last w2 _
  have hb3 := hb2.alloc hb2.size (.cells #[.int .u64 0, .int .u64 ((la : Int) + 1), .int .u64 0, .int .u64 (sn : Int), .int .u8 0] 24)
  have hg9 := hb2.size
  generalize w2.alloc (.cells #[.int .u64 0, .int .u64 ((la : Int) + 1), .int .u64 0, .int .u64 (sn : Int), .int .u8 0] 24) = W at hp3 hb3 ⊢
  generalize w2.heap.size = g9 at hp3 hg9 ⊢
  have HP0 := Lib.hid hp3
  clear hp3 hb2
  go_loopw [10, 11] (fun d v wr => ∃ j d2 : Nat, j ≤ bs.length ∧ v = .int .i64 (j : Int) ∧ d = .int .u8 (d2 : Int) ∧ d2 < 5 ∧ Hid (PrAt wr g9 (⟨0, la + 1, 0, sn, d2⟩ : Pr)) ∧ Below w.heap.size w wr) (fun _ v _ => bs.length - (intOf v).toNat)
  case atStart => exact ⟨0, 0, Nat.zero_le _, rfl, rfl, by omega, HP0, hb3⟩
  case round =>
    clear HP0 hb3
    obtain ⟨j, d1, hj, rfl, rfl, hd1, HP, hb⟩ := hrel
    by_cases hlt : j < bs.length
    · obtain ⟨ab, off, rfl, a0, hb256⟩ := hbs j hlt
      obtain ⟨y, hy⟩ : ∃ y, bs[j] = y := ⟨_, rfl⟩
      rw [hy] at a0 hb256
      clear hy
      have HA := Lib.hid a0
      have a1 := (hb.cell (World.block_lt_of_cell? w _ a0)).trans a0
      clear a0
      have i1 : (0 : Int) ≤ (j : Int) := by omega
      have i2 : (j : Int) < (bs.length : Int) := by omega
      obtain ⟨c0, c1, c2, c3, c4⟩ := HP.out.cells
      go_wp2_with fail
      go_still_tail 6, (by kernel_rfl)
      change wpList _ _ _ _ _ wr.drew
      have HP1 : Hid (PrAt wr.drew g9 (⟨0, la + 1, 0, sn, d1⟩ : Pr)) := Lib.hid (HP.out.below (blw_draws (Below.refl _ _) 1 : Below wr.heap.size wr wr.drew))
      have hb1 : Below w.heap.size w wr.drew := blw_draws hb 1
      clear HP hb c0 c1 c2 c3 c4 a1
      generalize wr.drew = wd at HP1 hb1 ⊢
      go_wp2_with fail
      by_cases hy5 : y < 5
      case pos =>
        refine (sect_for ⟨0, la + 1, 0, sn, d1⟩ sn y (⟨0, la + 1, 0, sn, y⟩ : Pr) _ hb256 (by simp [sectP, hy5, hs0])).mono ?_
        rintro e w3 ⟨rfl, d3⟩
        have hp4 := HP1.out.below d3
        have hb4 := hb1.trans (d3.mono hb1.size)
        obtain ⟨c0, c1, c2, c3, c4, z0, z1, z2, z3, z4⟩ := zero_cells hp4
        have a1 := (hb4.cell (World.block_lt_of_cell? w _ HA.out)).trans HA.out
        have hne9 : ab ≠ g9 := fun e => by have := World.block_lt_of_cell? w _ HA.out; simp only at this; omega
        have HP4 := Lib.hid hp4
        clear hp4 HP1 hb1 d3
        simp only [Pr.val]
        go_wp2_with fail
        have hb5 : Below w.heap.size w (((((w3.setCell ⟨g9, 0, none⟩ (.int .u64 0)).setCell ⟨g9, 1, none⟩ (.int .u64 ((la : Int) + 1))).setCell ⟨g9, 2, none⟩ (.int .u64 0)).setCell ⟨g9, 3, none⟩ (.int .u64 (sn : Int))).setCell ⟨g9, 4, none⟩ (.int .u8 (y : Int))) :=
          ((((hb4.setCell (by exact hg9) _).setCell (by exact hg9) _).setCell (by exact hg9) _).setCell (by exact hg9) _).setCell (by exact hg9) _
        have HP : Hid (PrAt (((((w3.setCell ⟨g9, 0, none⟩ (.int .u64 0)).setCell ⟨g9, 1, none⟩ (.int .u64 ((la : Int) + 1))).setCell ⟨g9, 2, none⟩ (.int .u64 0)).setCell ⟨g9, 3, none⟩ (.int .u64 (sn : Int))).setCell ⟨g9, 4, none⟩ (.int .u8 (y : Int))) g9 (⟨0, la + 1, 0, sn, y⟩ : Pr)) := Lib.hid (five_set HP4.out)
        generalize (((((w3.setCell ⟨g9, 0, none⟩ (.int .u64 0)).setCell ⟨g9, 1, none⟩ (.int .u64 ((la : Int) + 1))).setCell ⟨g9, 2, none⟩ (.int .u64 0)).setCell ⟨g9, 3, none⟩ (.int .u64 (sn : Int))).setCell ⟨g9, 4, none⟩ (.int .u8 (y : Int))) = W5 at hb5 HP ⊢
        have wl : IntKind.u64.wrap ((la : Int) + 1) = (la : Int) + 1 := by rw [IntKind.wrap_u64]; omega
        clear HP4 hb4 c0 c1 c2 c3 c4 z0 z1 z2 z3 z4 a1
        refine wp_region_vals (by kernel_rfl) (by kernel_rfl) (by kernel_rfl) [.pointer (some ⟨g9, 4, none⟩), .int .u8 (y : Int), .int .u8 (y : Int), .bool false, .bool false, .pointer (some ⟨g9, 3, none⟩), .int .u64 (sn : Int), .int .u64 (sn : Int), .bool false, .bool false, .bool false, .pointer (some ⟨g9, 0, none⟩), .int .u64 ((0 : Nat) : Int), .bool false, .bool false, .bool false, .pointer (some ⟨g9, 1, none⟩), .int .u64 ((la + 1 : Nat) : Int), .int .u64 (la : Int), .int .u64 ((la + 1 : Nat) : Int), .bool false, .bool false, .bool false, Pr.val (⟨0, la + 1, 0, sn, y⟩ : Pr), .int .u64 (sn : Int), Pr.val (⟨0, la + 1, 0, sn, y⟩ : Pr), Pr.val (⟨0, la + 1, 0, sn, y⟩ : Pr), .bool false, .bool false] rfl ?_ ?_
        · refine ⟨fun x w hF ho => ?_, ?_⟩
          · have f9 : x.tmps[9]? = some (.pointer (some ⟨g9, 0, none⟩)) := (hF.old 9 (no_dst (by kernel_rfl))).trans rfl
            exact step_val ho (wanted_none rfl) (v := .pointer (some ⟨g9, 4, none⟩)) (by simp [execOp, Act.eval, f9, go_sem]) rfl (Below.refl _ _)
          refine ⟨fun x w hF ho => ?_, ?_⟩
          · obtain ⟨_, f59, rfl⟩ := hF.val 0 _ 59 (by kernel_rfl) rfl rfl
            obtain ⟨c0, c1, c2, c3, c4⟩ := (HP.out.below hF.world).cells
            exact step_val ho (wanted_none rfl) (v := .int .u8 (y : Int)) (by simp [execOp, Act.eval, f59, go_sem, c4]) rfl (Below.refl _ _)
          refine ⟨fun x w hF ho => ?_, ?_⟩
          · have f10 : x.tmps[10]? = some (.int .u8 (y : Int)) := (hF.old 10 (no_dst (by kernel_rfl))).trans rfl
            exact step_val ho (wanted_none rfl) (v := .int .u8 (y : Int)) (by simp [execOp, Act.eval, f10]) rfl (Below.refl _ _)
          refine ⟨fun x w hF ho => ?_, ?_⟩
          · obtain ⟨_, f60, rfl⟩ := hF.val 1 _ 60 (by kernel_rfl) rfl rfl
            obtain ⟨_, f61, rfl⟩ := hF.val 2 _ 61 (by kernel_rfl) rfl rfl
            exact step_val ho (wanted_none rfl) (v := .bool false) (by simp [execOp, Act.eval, f60, f61, go_sem]) rfl (Below.refl _ _)
          refine ⟨fun x w hF ho => ?_, ?_⟩
          · obtain ⟨_, f62, rfl⟩ := hF.val 3 _ 62 (by kernel_rfl) rfl rfl
            exact step_val ho (wanted_none rfl) (v := .bool false) (by simp [execOp, Act.eval, f62]) rfl (Below.refl _ _)
          refine ⟨fun x w hF ho => ?_, ?_⟩
          · obtain ⟨_, f63, rfl⟩ := hF.val 4 _ 63 (by kernel_rfl) rfl rfl
            have f9 : x.tmps[9]? = some (.pointer (some ⟨g9, 0, none⟩)) := (hF.old 9 (no_dst (by kernel_rfl))).trans rfl
            exact step_val ho (wanted_some rfl rfl rfl f63) (v := .pointer (some ⟨g9, 3, none⟩)) (by simp [execOp, Act.eval, f9, go_sem]) rfl (Below.refl _ _)
          refine ⟨fun x w hF ho => ?_, ?_⟩
          · obtain ⟨_, f63, rfl⟩ := hF.val 4 _ 63 (by kernel_rfl) rfl rfl
            obtain ⟨_, f64, rfl⟩ := hF.val 5 _ 64 (by kernel_rfl) rfl rfl
            obtain ⟨c0, c1, c2, c3, c4⟩ := (HP.out.below hF.world).cells
            exact step_val ho (wanted_some rfl rfl rfl f63) (v := .int .u64 (sn : Int)) (by simp [execOp, Act.eval, f64, go_sem, c3]) rfl (Below.refl _ _)
          refine ⟨fun x w hF ho => ?_, ?_⟩
          · obtain ⟨_, f63, rfl⟩ := hF.val 4 _ 63 (by kernel_rfl) rfl rfl
            have f1 : x.tmps[1]? = some (.int .u64 (sn : Int)) := (hF.old 1 (no_dst (by kernel_rfl))).trans rfl
            exact step_val ho (wanted_some rfl rfl rfl f63) (v := .int .u64 (sn : Int)) (by simp [execOp, Act.eval, f1]) rfl (Below.refl _ _)
          refine ⟨fun x w hF ho => ?_, ?_⟩
          · obtain ⟨_, f63, rfl⟩ := hF.val 4 _ 63 (by kernel_rfl) rfl rfl
            obtain ⟨_, f65, rfl⟩ := hF.val 6 _ 65 (by kernel_rfl) rfl rfl
            obtain ⟨_, f66, rfl⟩ := hF.val 7 _ 66 (by kernel_rfl) rfl rfl
            exact step_val ho (wanted_some rfl rfl rfl f63) (v := .bool false) (by simp [execOp, Act.eval, f65, f66, go_sem]) rfl (Below.refl _ _)
          refine ⟨fun x w hF ho => ?_, ?_⟩
          · obtain ⟨_, f63, rfl⟩ := hF.val 4 _ 63 (by kernel_rfl) rfl rfl
            obtain ⟨_, f67, rfl⟩ := hF.val 8 _ 67 (by kernel_rfl) rfl rfl
            exact step_val ho (wanted_none rfl) (v := .bool false) (by simp [execOp, Act.eval, f63, f67, go_sem]) rfl (Below.refl _ _)
          refine ⟨fun x w hF ho => ?_, ?_⟩
          · obtain ⟨_, f68, rfl⟩ := hF.val 9 _ 68 (by kernel_rfl) rfl rfl
            exact step_val ho (wanted_none rfl) (v := .bool false) (by simp [execOp, Act.eval, f68]) rfl (Below.refl _ _)
          refine ⟨fun x w hF ho => ?_, ?_⟩
          · obtain ⟨_, f69, rfl⟩ := hF.val 10 _ 69 (by kernel_rfl) rfl rfl
            have f9 : x.tmps[9]? = some (.pointer (some ⟨g9, 0, none⟩)) := (hF.old 9 (no_dst (by kernel_rfl))).trans rfl
            exact step_val ho (wanted_some rfl rfl rfl f69) (v := .pointer (some ⟨g9, 0, none⟩)) (by simp [execOp, Act.eval, f9, go_sem]) rfl (Below.refl _ _)
          refine ⟨fun x w hF ho => ?_, ?_⟩
          · obtain ⟨_, f69, rfl⟩ := hF.val 10 _ 69 (by kernel_rfl) rfl rfl
            obtain ⟨_, f70, rfl⟩ := hF.val 11 _ 70 (by kernel_rfl) rfl rfl
            obtain ⟨c0, c1, c2, c3, c4⟩ := (HP.out.below hF.world).cells
            exact step_val ho (wanted_some rfl rfl rfl f69) (v := .int .u64 ((0 : Nat) : Int)) (by simp [execOp, Act.eval, f70, go_sem, c0]) rfl (Below.refl _ _)
          refine ⟨fun x w hF ho => ?_, ?_⟩
          · obtain ⟨_, f69, rfl⟩ := hF.val 10 _ 69 (by kernel_rfl) rfl rfl
            obtain ⟨_, f71, rfl⟩ := hF.val 12 _ 71 (by kernel_rfl) rfl rfl
            exact step_val ho (wanted_some rfl rfl rfl f69) (v := .bool false) (by simp [execOp, Act.eval, f71, go_sem]) rfl (Below.refl _ _)
          refine ⟨fun x w hF ho => ?_, ?_⟩
          · obtain ⟨_, f69, rfl⟩ := hF.val 10 _ 69 (by kernel_rfl) rfl rfl
            obtain ⟨_, f72, rfl⟩ := hF.val 13 _ 72 (by kernel_rfl) rfl rfl
            exact step_val ho (wanted_none rfl) (v := .bool false) (by simp [execOp, Act.eval, f69, f72, go_sem]) rfl (Below.refl _ _)
          refine ⟨fun x w hF ho => ?_, ?_⟩
          · obtain ⟨_, f73, rfl⟩ := hF.val 14 _ 73 (by kernel_rfl) rfl rfl
            exact step_val ho (wanted_none rfl) (v := .bool false) (by simp [execOp, Act.eval, f73]) rfl (Below.refl _ _)
          refine ⟨fun x w hF ho => ?_, ?_⟩
          · obtain ⟨_, f74, rfl⟩ := hF.val 15 _ 74 (by kernel_rfl) rfl rfl
            have f9 : x.tmps[9]? = some (.pointer (some ⟨g9, 0, none⟩)) := (hF.old 9 (no_dst (by kernel_rfl))).trans rfl
            exact step_val ho (wanted_some rfl rfl rfl f74) (v := .pointer (some ⟨g9, 1, none⟩)) (by simp [execOp, Act.eval, f9, go_sem]) rfl (Below.refl _ _)
          refine ⟨fun x w hF ho => ?_, ?_⟩
          · obtain ⟨_, f74, rfl⟩ := hF.val 15 _ 74 (by kernel_rfl) rfl rfl
            obtain ⟨_, f75, rfl⟩ := hF.val 16 _ 75 (by kernel_rfl) rfl rfl
            obtain ⟨c0, c1, c2, c3, c4⟩ := (HP.out.below hF.world).cells
            exact step_val ho (wanted_some rfl rfl rfl f74) (v := .int .u64 ((la + 1 : Nat) : Int)) (by simp [execOp, Act.eval, f75, go_sem, c1]) rfl (Below.refl _ _)
          refine ⟨fun x w hF ho => ?_, ?_⟩
          · obtain ⟨_, f74, rfl⟩ := hF.val 15 _ 74 (by kernel_rfl) rfl rfl
            have f0 : x.tmps[0]? = some (.int .u64 (la : Int)) := (hF.old 0 (no_dst (by kernel_rfl))).trans rfl
            exact step_val ho (wanted_some rfl rfl rfl f74) (v := .int .u64 (la : Int)) (by simp [execOp, Act.eval, f0]) rfl (Below.refl _ _)
          refine ⟨fun x w hF ho => ?_, ?_⟩
          · obtain ⟨_, f74, rfl⟩ := hF.val 15 _ 74 (by kernel_rfl) rfl rfl
            obtain ⟨_, f77, rfl⟩ := hF.val 18 _ 77 (by kernel_rfl) rfl rfl
            exact step_val ho (wanted_some rfl rfl rfl f74) (v := .int .u64 ((la + 1 : Nat) : Int)) (by simp [execOp, Act.eval, f77, go_sem, wl]) rfl (Below.refl _ _)
          refine ⟨fun x w hF ho => ?_, ?_⟩
          · obtain ⟨_, f74, rfl⟩ := hF.val 15 _ 74 (by kernel_rfl) rfl rfl
            obtain ⟨_, f76, rfl⟩ := hF.val 17 _ 76 (by kernel_rfl) rfl rfl
            obtain ⟨_, f78, rfl⟩ := hF.val 19 _ 78 (by kernel_rfl) rfl rfl
            exact step_val ho (wanted_some rfl rfl rfl f74) (v := .bool false) (by simp [execOp, Act.eval, f76, f78, go_sem]) rfl (Below.refl _ _)
          refine ⟨fun x w hF ho => ?_, ?_⟩
          · obtain ⟨_, f74, rfl⟩ := hF.val 15 _ 74 (by kernel_rfl) rfl rfl
            obtain ⟨_, f79, rfl⟩ := hF.val 20 _ 79 (by kernel_rfl) rfl rfl
            exact step_val ho (wanted_none rfl) (v := .bool false) (by simp [execOp, Act.eval, f74, f79, go_sem]) rfl (Below.refl _ _)
          refine ⟨fun x w hF ho => ?_, ?_⟩
          · obtain ⟨_, f80, rfl⟩ := hF.val 21 _ 80 (by kernel_rfl) rfl rfl
            exact step_val ho (wanted_none rfl) (v := .bool false) (by simp [execOp, Act.eval, f80]) rfl (Below.refl _ _)
          refine ⟨fun x w hF ho => ?_, ?_⟩
          · obtain ⟨_, f81, rfl⟩ := hF.val 22 _ 81 (by kernel_rfl) rfl rfl
            have f9 : x.tmps[9]? = some (.pointer (some ⟨g9, 0, none⟩)) := (hF.old 9 (no_dst (by kernel_rfl))).trans rfl
            obtain ⟨c0, c1, c2, c3, c4⟩ := (HP.out.below hF.world).cells
            exact step_val ho (wanted_some rfl rfl rfl f81) (v := Pr.val (⟨0, la + 1, 0, sn, y⟩ : Pr)) (by simp [execOp, Act.eval, f9, go_sem, c0, c1, c2, c3, c4, Pr.val]) rfl (Below.refl _ _)
          refine ⟨fun x w hF ho => ?_, ?_⟩
          · obtain ⟨_, f81, rfl⟩ := hF.val 22 _ 81 (by kernel_rfl) rfl rfl
            have f1 : x.tmps[1]? = some (.int .u64 (sn : Int)) := (hF.old 1 (no_dst (by kernel_rfl))).trans rfl
            exact step_val ho (wanted_some rfl rfl rfl f81) (v := .int .u64 (sn : Int)) (by simp [execOp, Act.eval, f1]) rfl (Below.refl _ _)
          refine ⟨fun x w hF ho => ?_, ?_⟩
          · obtain ⟨_, f81, rfl⟩ := hF.val 22 _ 81 (by kernel_rfl) rfl rfl
            obtain ⟨_, f82, rfl⟩ := hF.val 23 _ 82 (by kernel_rfl) rfl rfl
            obtain ⟨_, f83, rfl⟩ := hF.val 24 _ 83 (by kernel_rfl) rfl rfl
            refine step_call ho (wanted_some rfl rfl rfl f81) (f := 13) (args := #[Pr.val (⟨0, la + 1, 0, sn, y⟩ : Pr), .int .u64 (sn : Int)]) (by simp [execOp, Act.eval, f82, f83, go_sem]) ?_
            refine (send_for (⟨0, la + 1, 0, sn, y⟩ : Pr) sn (⟨0, la + 1, 0, sn, y⟩ : Pr) _ (by simp [sendP])).mono ?_
            rintro e w' ⟨rfl, hb'⟩
            exact ⟨_, rfl, rfl, hb'⟩
          refine ⟨fun x w hF ho => ?_, ?_⟩
          · obtain ⟨_, f81, rfl⟩ := hF.val 22 _ 81 (by kernel_rfl) rfl rfl
            have f9 : x.tmps[9]? = some (.pointer (some ⟨g9, 0, none⟩)) := (hF.old 9 (no_dst (by kernel_rfl))).trans rfl
            obtain ⟨c0, c1, c2, c3, c4⟩ := (HP.out.below hF.world).cells
            exact step_val ho (wanted_some rfl rfl rfl f81) (v := Pr.val (⟨0, la + 1, 0, sn, y⟩ : Pr)) (by simp [execOp, Act.eval, f9, go_sem, c0, c1, c2, c3, c4, Pr.val]) rfl (Below.refl _ _)
          refine ⟨fun x w hF ho => ?_, ?_⟩
          · obtain ⟨_, f81, rfl⟩ := hF.val 22 _ 81 (by kernel_rfl) rfl rfl
            obtain ⟨_, f84, rfl⟩ := hF.val 25 _ 84 (by kernel_rfl) rfl rfl
            obtain ⟨_, f85, rfl⟩ := hF.val 26 _ 85 (by kernel_rfl) rfl rfl
            exact step_val ho (wanted_some rfl rfl rfl f81) (v := .bool false) (by simp [execOp, Act.eval, f84, f85, go_sem, Pr.val]) rfl (Below.refl _ _)
          refine ⟨fun x w hF ho => ?_, ?_⟩
          · obtain ⟨_, f81, rfl⟩ := hF.val 22 _ 81 (by kernel_rfl) rfl rfl
            obtain ⟨_, f86, rfl⟩ := hF.val 27 _ 86 (by kernel_rfl) rfl rfl
            exact step_val ho (wanted_none rfl) (v := .bool false) (by simp [execOp, Act.eval, f81, f86, go_sem]) rfl (Below.refl _ _)
          exact trivial
        intro W6 hd6
        have HP6 := Lib.hid (HP.out.below hd6)
        have hb6 := hb5.trans (hd6.mono hb5.size)
        clear HP hb5 hd6 wl
        simp only [putAll, List.toList_toArray, List.setIfInBounds_toArray, List.set_cons_succ, List.set_cons_zero]
        go_wp2_with fail
        go_roundw
        case rel => ((repeat apply Exists.intro); exact ⟨⟨j + 1, y, by omega, by go_num, rfl, by omega, HP6, hb6⟩, rfl⟩)
        case measure => simp [intOf]; omega
      case neg =>
        refine (sect_for ⟨0, la + 1, 0, sn, d1⟩ sn y (⟨0, la + 1, 0, sn, d1⟩ : Pr) _ hb256 (by simp [sectP, hy5])).mono ?_
        rintro e w3 ⟨rfl, d3⟩
        have hp4 := HP1.out.below d3
        have hb4 := hb1.trans (d3.mono hb1.size)
        obtain ⟨c0, c1, c2, c3, c4, z0, z1, z2, z3, z4⟩ := zero_cells hp4
        have a1 := (hb4.cell (World.block_lt_of_cell? w _ HA.out)).trans HA.out
        have hne9 : ab ≠ g9 := fun e => by have := World.block_lt_of_cell? w _ HA.out; simp only at this; omega
        have HP4 := Lib.hid hp4
        clear hp4 HP1 hb1 d3
        simp only [Pr.val]
        go_wp2_with fail
        have hb5 : Below w.heap.size w (((((w3.setCell ⟨g9, 0, none⟩ (.int .u64 0)).setCell ⟨g9, 1, none⟩ (.int .u64 ((la : Int) + 1))).setCell ⟨g9, 2, none⟩ (.int .u64 0)).setCell ⟨g9, 3, none⟩ (.int .u64 (sn : Int))).setCell ⟨g9, 4, none⟩ (.int .u8 (d1 : Int))) :=
          ((((hb4.setCell (by exact hg9) _).setCell (by exact hg9) _).setCell (by exact hg9) _).setCell (by exact hg9) _).setCell (by exact hg9) _
        have HP : Hid (PrAt (((((w3.setCell ⟨g9, 0, none⟩ (.int .u64 0)).setCell ⟨g9, 1, none⟩ (.int .u64 ((la : Int) + 1))).setCell ⟨g9, 2, none⟩ (.int .u64 0)).setCell ⟨g9, 3, none⟩ (.int .u64 (sn : Int))).setCell ⟨g9, 4, none⟩ (.int .u8 (d1 : Int))) g9 (⟨0, la + 1, 0, sn, d1⟩ : Pr)) := Lib.hid (five_set HP4.out)
        generalize (((((w3.setCell ⟨g9, 0, none⟩ (.int .u64 0)).setCell ⟨g9, 1, none⟩ (.int .u64 ((la : Int) + 1))).setCell ⟨g9, 2, none⟩ (.int .u64 0)).setCell ⟨g9, 3, none⟩ (.int .u64 (sn : Int))).setCell ⟨g9, 4, none⟩ (.int .u8 (d1 : Int))) = W5 at hb5 HP ⊢
        have wl : IntKind.u64.wrap ((la : Int) + 1) = (la : Int) + 1 := by rw [IntKind.wrap_u64]; omega
        clear HP4 hb4 c0 c1 c2 c3 c4 z0 z1 z2 z3 z4 a1
        refine wp_region_vals (by kernel_rfl) (by kernel_rfl) (by kernel_rfl) [.pointer (some ⟨g9, 4, none⟩), .int .u8 (d1 : Int), .int .u8 (d1 : Int), .bool false, .bool false, .pointer (some ⟨g9, 3, none⟩), .int .u64 (sn : Int), .int .u64 (sn : Int), .bool false, .bool false, .bool false, .pointer (some ⟨g9, 0, none⟩), .int .u64 ((0 : Nat) : Int), .bool false, .bool false, .bool false, .pointer (some ⟨g9, 1, none⟩), .int .u64 ((la + 1 : Nat) : Int), .int .u64 (la : Int), .int .u64 ((la + 1 : Nat) : Int), .bool false, .bool false, .bool false, Pr.val (⟨0, la + 1, 0, sn, d1⟩ : Pr), .int .u64 (sn : Int), Pr.val (⟨0, la + 1, 0, sn, d1⟩ : Pr), Pr.val (⟨0, la + 1, 0, sn, d1⟩ : Pr), .bool false, .bool false] rfl ?_ ?_
        · refine ⟨fun x w hF ho => ?_, ?_⟩
          · have f9 : x.tmps[9]? = some (.pointer (some ⟨g9, 0, none⟩)) := (hF.old 9 (no_dst (by kernel_rfl))).trans rfl
            exact step_val ho (wanted_none rfl) (v := .pointer (some ⟨g9, 4, none⟩)) (by simp [execOp, Act.eval, f9, go_sem]) rfl (Below.refl _ _)
          refine ⟨fun x w hF ho => ?_, ?_⟩
          · obtain ⟨_, f59, rfl⟩ := hF.val 0 _ 59 (by kernel_rfl) rfl rfl
            obtain ⟨c0, c1, c2, c3, c4⟩ := (HP.out.below hF.world).cells
            exact step_val ho (wanted_none rfl) (v := .int .u8 (d1 : Int)) (by simp [execOp, Act.eval, f59, go_sem, c4]) rfl (Below.refl _ _)
          refine ⟨fun x w hF ho => ?_, ?_⟩
          · have f10 : x.tmps[10]? = some (.int .u8 (d1 : Int)) := (hF.old 10 (no_dst (by kernel_rfl))).trans rfl
            exact step_val ho (wanted_none rfl) (v := .int .u8 (d1 : Int)) (by simp [execOp, Act.eval, f10]) rfl (Below.refl _ _)
          refine ⟨fun x w hF ho => ?_, ?_⟩
          · obtain ⟨_, f60, rfl⟩ := hF.val 1 _ 60 (by kernel_rfl) rfl rfl
            obtain ⟨_, f61, rfl⟩ := hF.val 2 _ 61 (by kernel_rfl) rfl rfl
            exact step_val ho (wanted_none rfl) (v := .bool false) (by simp [execOp, Act.eval, f60, f61, go_sem]) rfl (Below.refl _ _)
          refine ⟨fun x w hF ho => ?_, ?_⟩
          · obtain ⟨_, f62, rfl⟩ := hF.val 3 _ 62 (by kernel_rfl) rfl rfl
            exact step_val ho (wanted_none rfl) (v := .bool false) (by simp [execOp, Act.eval, f62]) rfl (Below.refl _ _)
          refine ⟨fun x w hF ho => ?_, ?_⟩
          · obtain ⟨_, f63, rfl⟩ := hF.val 4 _ 63 (by kernel_rfl) rfl rfl
            have f9 : x.tmps[9]? = some (.pointer (some ⟨g9, 0, none⟩)) := (hF.old 9 (no_dst (by kernel_rfl))).trans rfl
            exact step_val ho (wanted_some rfl rfl rfl f63) (v := .pointer (some ⟨g9, 3, none⟩)) (by simp [execOp, Act.eval, f9, go_sem]) rfl (Below.refl _ _)
          refine ⟨fun x w hF ho => ?_, ?_⟩
          · obtain ⟨_, f63, rfl⟩ := hF.val 4 _ 63 (by kernel_rfl) rfl rfl
            obtain ⟨_, f64, rfl⟩ := hF.val 5 _ 64 (by kernel_rfl) rfl rfl
            obtain ⟨c0, c1, c2, c3, c4⟩ := (HP.out.below hF.world).cells
            exact step_val ho (wanted_some rfl rfl rfl f63) (v := .int .u64 (sn : Int)) (by simp [execOp, Act.eval, f64, go_sem, c3]) rfl (Below.refl _ _)
          refine ⟨fun x w hF ho => ?_, ?_⟩
          · obtain ⟨_, f63, rfl⟩ := hF.val 4 _ 63 (by kernel_rfl) rfl rfl
            have f1 : x.tmps[1]? = some (.int .u64 (sn : Int)) := (hF.old 1 (no_dst (by kernel_rfl))).trans rfl
            exact step_val ho (wanted_some rfl rfl rfl f63) (v := .int .u64 (sn : Int)) (by simp [execOp, Act.eval, f1]) rfl (Below.refl _ _)
          refine ⟨fun x w hF ho => ?_, ?_⟩
          · obtain ⟨_, f63, rfl⟩ := hF.val 4 _ 63 (by kernel_rfl) rfl rfl
            obtain ⟨_, f65, rfl⟩ := hF.val 6 _ 65 (by kernel_rfl) rfl rfl
            obtain ⟨_, f66, rfl⟩ := hF.val 7 _ 66 (by kernel_rfl) rfl rfl
            exact step_val ho (wanted_some rfl rfl rfl f63) (v := .bool false) (by simp [execOp, Act.eval, f65, f66, go_sem]) rfl (Below.refl _ _)
          refine ⟨fun x w hF ho => ?_, ?_⟩
          · obtain ⟨_, f63, rfl⟩ := hF.val 4 _ 63 (by kernel_rfl) rfl rfl
            obtain ⟨_, f67, rfl⟩ := hF.val 8 _ 67 (by kernel_rfl) rfl rfl
            exact step_val ho (wanted_none rfl) (v := .bool false) (by simp [execOp, Act.eval, f63, f67, go_sem]) rfl (Below.refl _ _)
          refine ⟨fun x w hF ho => ?_, ?_⟩
          · obtain ⟨_, f68, rfl⟩ := hF.val 9 _ 68 (by kernel_rfl) rfl rfl
            exact step_val ho (wanted_none rfl) (v := .bool false) (by simp [execOp, Act.eval, f68]) rfl (Below.refl _ _)
          refine ⟨fun x w hF ho => ?_, ?_⟩
          · obtain ⟨_, f69, rfl⟩ := hF.val 10 _ 69 (by kernel_rfl) rfl rfl
            have f9 : x.tmps[9]? = some (.pointer (some ⟨g9, 0, none⟩)) := (hF.old 9 (no_dst (by kernel_rfl))).trans rfl
            exact step_val ho (wanted_some rfl rfl rfl f69) (v := .pointer (some ⟨g9, 0, none⟩)) (by simp [execOp, Act.eval, f9, go_sem]) rfl (Below.refl _ _)
          refine ⟨fun x w hF ho => ?_, ?_⟩
          · obtain ⟨_, f69, rfl⟩ := hF.val 10 _ 69 (by kernel_rfl) rfl rfl
            obtain ⟨_, f70, rfl⟩ := hF.val 11 _ 70 (by kernel_rfl) rfl rfl
            obtain ⟨c0, c1, c2, c3, c4⟩ := (HP.out.below hF.world).cells
            exact step_val ho (wanted_some rfl rfl rfl f69) (v := .int .u64 ((0 : Nat) : Int)) (by simp [execOp, Act.eval, f70, go_sem, c0]) rfl (Below.refl _ _)
          refine ⟨fun x w hF ho => ?_, ?_⟩
          · obtain ⟨_, f69, rfl⟩ := hF.val 10 _ 69 (by kernel_rfl) rfl rfl
            obtain ⟨_, f71, rfl⟩ := hF.val 12 _ 71 (by kernel_rfl) rfl rfl
            exact step_val ho (wanted_some rfl rfl rfl f69) (v := .bool false) (by simp [execOp, Act.eval, f71, go_sem]) rfl (Below.refl _ _)
          refine ⟨fun x w hF ho => ?_, ?_⟩
          · obtain ⟨_, f69, rfl⟩ := hF.val 10 _ 69 (by kernel_rfl) rfl rfl
            obtain ⟨_, f72, rfl⟩ := hF.val 13 _ 72 (by kernel_rfl) rfl rfl
            exact step_val ho (wanted_none rfl) (v := .bool false) (by simp [execOp, Act.eval, f69, f72, go_sem]) rfl (Below.refl _ _)
          refine ⟨fun x w hF ho => ?_, ?_⟩
          · obtain ⟨_, f73, rfl⟩ := hF.val 14 _ 73 (by kernel_rfl) rfl rfl
            exact step_val ho (wanted_none rfl) (v := .bool false) (by simp [execOp, Act.eval, f73]) rfl (Below.refl _ _)
          refine ⟨fun x w hF ho => ?_, ?_⟩
          · obtain ⟨_, f74, rfl⟩ := hF.val 15 _ 74 (by kernel_rfl) rfl rfl
            have f9 : x.tmps[9]? = some (.pointer (some ⟨g9, 0, none⟩)) := (hF.old 9 (no_dst (by kernel_rfl))).trans rfl
            exact step_val ho (wanted_some rfl rfl rfl f74) (v := .pointer (some ⟨g9, 1, none⟩)) (by simp [execOp, Act.eval, f9, go_sem]) rfl (Below.refl _ _)
          refine ⟨fun x w hF ho => ?_, ?_⟩
          · obtain ⟨_, f74, rfl⟩ := hF.val 15 _ 74 (by kernel_rfl) rfl rfl
            obtain ⟨_, f75, rfl⟩ := hF.val 16 _ 75 (by kernel_rfl) rfl rfl
            obtain ⟨c0, c1, c2, c3, c4⟩ := (HP.out.below hF.world).cells
            exact step_val ho (wanted_some rfl rfl rfl f74) (v := .int .u64 ((la + 1 : Nat) : Int)) (by simp [execOp, Act.eval, f75, go_sem, c1]) rfl (Below.refl _ _)
          refine ⟨fun x w hF ho => ?_, ?_⟩
          · obtain ⟨_, f74, rfl⟩ := hF.val 15 _ 74 (by kernel_rfl) rfl rfl
            have f0 : x.tmps[0]? = some (.int .u64 (la : Int)) := (hF.old 0 (no_dst (by kernel_rfl))).trans rfl
            exact step_val ho (wanted_some rfl rfl rfl f74) (v := .int .u64 (la : Int)) (by simp [execOp, Act.eval, f0]) rfl (Below.refl _ _)
          refine ⟨fun x w hF ho => ?_, ?_⟩
          · obtain ⟨_, f74, rfl⟩ := hF.val 15 _ 74 (by kernel_rfl) rfl rfl
            obtain ⟨_, f77, rfl⟩ := hF.val 18 _ 77 (by kernel_rfl) rfl rfl
            exact step_val ho (wanted_some rfl rfl rfl f74) (v := .int .u64 ((la + 1 : Nat) : Int)) (by simp [execOp, Act.eval, f77, go_sem, wl]) rfl (Below.refl _ _)
          refine ⟨fun x w hF ho => ?_, ?_⟩
          · obtain ⟨_, f74, rfl⟩ := hF.val 15 _ 74 (by kernel_rfl) rfl rfl
            obtain ⟨_, f76, rfl⟩ := hF.val 17 _ 76 (by kernel_rfl) rfl rfl
            obtain ⟨_, f78, rfl⟩ := hF.val 19 _ 78 (by kernel_rfl) rfl rfl
            exact step_val ho (wanted_some rfl rfl rfl f74) (v := .bool false) (by simp [execOp, Act.eval, f76, f78, go_sem]) rfl (Below.refl _ _)
          refine ⟨fun x w hF ho => ?_, ?_⟩
          · obtain ⟨_, f74, rfl⟩ := hF.val 15 _ 74 (by kernel_rfl) rfl rfl
            obtain ⟨_, f79, rfl⟩ := hF.val 20 _ 79 (by kernel_rfl) rfl rfl
            exact step_val ho (wanted_none rfl) (v := .bool false) (by simp [execOp, Act.eval, f74, f79, go_sem]) rfl (Below.refl _ _)
          refine ⟨fun x w hF ho => ?_, ?_⟩
          · obtain ⟨_, f80, rfl⟩ := hF.val 21 _ 80 (by kernel_rfl) rfl rfl
            exact step_val ho (wanted_none rfl) (v := .bool false) (by simp [execOp, Act.eval, f80]) rfl (Below.refl _ _)
          refine ⟨fun x w hF ho => ?_, ?_⟩
          · obtain ⟨_, f81, rfl⟩ := hF.val 22 _ 81 (by kernel_rfl) rfl rfl
            have f9 : x.tmps[9]? = some (.pointer (some ⟨g9, 0, none⟩)) := (hF.old 9 (no_dst (by kernel_rfl))).trans rfl
            obtain ⟨c0, c1, c2, c3, c4⟩ := (HP.out.below hF.world).cells
            exact step_val ho (wanted_some rfl rfl rfl f81) (v := Pr.val (⟨0, la + 1, 0, sn, d1⟩ : Pr)) (by simp [execOp, Act.eval, f9, go_sem, c0, c1, c2, c3, c4, Pr.val]) rfl (Below.refl _ _)
          refine ⟨fun x w hF ho => ?_, ?_⟩
          · obtain ⟨_, f81, rfl⟩ := hF.val 22 _ 81 (by kernel_rfl) rfl rfl
            have f1 : x.tmps[1]? = some (.int .u64 (sn : Int)) := (hF.old 1 (no_dst (by kernel_rfl))).trans rfl
            exact step_val ho (wanted_some rfl rfl rfl f81) (v := .int .u64 (sn : Int)) (by simp [execOp, Act.eval, f1]) rfl (Below.refl _ _)
          refine ⟨fun x w hF ho => ?_, ?_⟩
          · obtain ⟨_, f81, rfl⟩ := hF.val 22 _ 81 (by kernel_rfl) rfl rfl
            obtain ⟨_, f82, rfl⟩ := hF.val 23 _ 82 (by kernel_rfl) rfl rfl
            obtain ⟨_, f83, rfl⟩ := hF.val 24 _ 83 (by kernel_rfl) rfl rfl
            refine step_call ho (wanted_some rfl rfl rfl f81) (f := 13) (args := #[Pr.val (⟨0, la + 1, 0, sn, d1⟩ : Pr), .int .u64 (sn : Int)]) (by simp [execOp, Act.eval, f82, f83, go_sem]) ?_
            refine (send_for (⟨0, la + 1, 0, sn, d1⟩ : Pr) sn (⟨0, la + 1, 0, sn, d1⟩ : Pr) _ (by simp [sendP])).mono ?_
            rintro e w' ⟨rfl, hb'⟩
            exact ⟨_, rfl, rfl, hb'⟩
          refine ⟨fun x w hF ho => ?_, ?_⟩
          · obtain ⟨_, f81, rfl⟩ := hF.val 22 _ 81 (by kernel_rfl) rfl rfl
            have f9 : x.tmps[9]? = some (.pointer (some ⟨g9, 0, none⟩)) := (hF.old 9 (no_dst (by kernel_rfl))).trans rfl
            obtain ⟨c0, c1, c2, c3, c4⟩ := (HP.out.below hF.world).cells
            exact step_val ho (wanted_some rfl rfl rfl f81) (v := Pr.val (⟨0, la + 1, 0, sn, d1⟩ : Pr)) (by simp [execOp, Act.eval, f9, go_sem, c0, c1, c2, c3, c4, Pr.val]) rfl (Below.refl _ _)
          refine ⟨fun x w hF ho => ?_, ?_⟩
          · obtain ⟨_, f81, rfl⟩ := hF.val 22 _ 81 (by kernel_rfl) rfl rfl
            obtain ⟨_, f84, rfl⟩ := hF.val 25 _ 84 (by kernel_rfl) rfl rfl
            obtain ⟨_, f85, rfl⟩ := hF.val 26 _ 85 (by kernel_rfl) rfl rfl
            exact step_val ho (wanted_some rfl rfl rfl f81) (v := .bool false) (by simp [execOp, Act.eval, f84, f85, go_sem, Pr.val]) rfl (Below.refl _ _)
          refine ⟨fun x w hF ho => ?_, ?_⟩
          · obtain ⟨_, f81, rfl⟩ := hF.val 22 _ 81 (by kernel_rfl) rfl rfl
            obtain ⟨_, f86, rfl⟩ := hF.val 27 _ 86 (by kernel_rfl) rfl rfl
            exact step_val ho (wanted_none rfl) (v := .bool false) (by simp [execOp, Act.eval, f81, f86, go_sem]) rfl (Below.refl _ _)
          exact trivial
        intro W6 hd6
        have HP6 := Lib.hid (HP.out.below hd6)
        have hb6 := hb5.trans (hd6.mono hb5.size)
        clear HP hb5 hd6 wl
        simp only [putAll, List.toList_toArray, List.setIfInBounds_toArray, List.set_cons_succ, List.set_cons_zero]
        go_wp2_with fail
        go_roundw
        case rel => ((repeat apply Exists.intro); exact ⟨⟨j + 1, d1, by omega, by go_num, rfl, by omega, HP6, hb6⟩, rfl⟩)
        case measure => simp [intOf]; omega
    · obtain rfl : j = bs.length := by omega
      obtain ⟨c0, c1, c2, c3, c4⟩ := HP.out.cells
      have HP1 := Lib.hid HP.out
      go_wp2_with fail
      by_cases hix : ix < sn
      case pos =>
        refine (told_lowfor ⟨0, la + 1, 0, sn, d1⟩ true ix 0 (⟨ix, max (la + 1) (ix + 1), 0, sn, d1⟩ : Pr) _ (by simp only; omega) h3 (by have hle : ¬ sn ≤ ix := (by omega); simp [toldP, hasP, hle])).mono ?_
        rintro e w3 ⟨rfl, d3⟩
        have hb4 := hb.trans (d3.mono hb.size)
        simp only [Pr.val]
        go_wp2_with fail
        all_goals
          refine (awake_any _).mono ?_
          rintro e w5 ⟨rfl, d5⟩
          have hb5 := (hb4.alloc hb4.size _).trans (d5.mono (Nat.le_trans hb4.size (by simp)))
          go_wp2_with fail
          go_returns
          exact ⟨rfl, hb5⟩
      case neg =>
        refine (told_lowfor ⟨0, la + 1, 0, sn, d1⟩ true ix 0 (⟨ix, max (la + 1) (ix + 1), 0, 0, 0⟩ : Pr) _ (by simp only; omega) h3 (by have hle : sn ≤ ix := (by omega); simp [toldP, hasP, hle])).mono ?_
        rintro e w3 ⟨rfl, d3⟩
        have hb4 := hb.trans (d3.mono hb.size)
        simp only [Pr.val]
        go_wp2_with fail
        all_goals
          refine (awake_any _).mono ?_
          rintro e w5 ⟨rfl, d5⟩
          have hb5 := (hb4.alloc hb4.size _).trans (d5.mono (Nat.le_trans hb4.size (by simp)))
          go_wp2_with fail
          go_returns
          exact ⟨rfl, hb5⟩

theorem progressSections_own : ownKnob Try.prog.godebug = none := by kernel_rfl
theorem progressSections_laidOut : laidOutB Try.prog = true := by kernel_rfl
set_option maxRecDepth 100000 in
theorem progressSections_lifted (os : Os) (started : os.Started) (H : Type) (enc : TypeId × Value → H) :
    ReturnsInHanded {} Try.checked os 6 .any (Rows.progressSectionsSpec.pre6 enc Try.prog Try.f6 Rows.progressSectionsRow.domain false) (Rows.progressSectionsSpec.post enc Try.prog Try.f6 false true false false) := by
  refine returnsInHanded_of_change (C := Try.checked) progressSections_own started (by kernel_rfl) Try.func6
    (ChangeSpec.witness6 (enc := enc) (C := Try.checked) false ⟨#[], #[.int .u64 0, .int .u64 0, .slice none 0 0, .int .u64 0], []⟩ 8 (by kernel_rfl) (by kernel_rfl) (by kernel_rfl) (by kernel_rfl)) ?_
  intro W base args ds gs before hval0 hW hcnd _
  have hval : ∀ (j : Nat) t v, Try.f6.params[j]? = some t → args[j]? = some v → Value.okWide Try.prog W .any base t v := hval0
  have hW' := hW
  obtain ⟨p, q, hA0, hV, rfl, hfz, hnd⟩ := hW
  have hA : DataW.TrodAll enc Try.prog W 0 (fun _ => true) true Try.f6.params.toList args.toList ds p := hA0
  rw [Try.params6] at hA hval
  obtain ⟨v0, vs0, d0, ds0, p0, q0, hargs, rfl, rfl, h0, r0⟩ := trodAll_cons hA
  obtain ⟨v1, vs1, d1, ds1, p1, q1, rfl, rfl, rfl, h1, r1⟩ := trodAll_cons r0
  obtain ⟨v2, vs2, d2, ds2, p2, q2, rfl, rfl, rfl, h2, r2⟩ := trodAll_cons r1
  obtain ⟨v3, vs3, d3, ds3, p3, q3, rfl, rfl, rfl, h3, r3⟩ := trodAll_cons r2
  obtain ⟨rfl, rfl, rfl⟩ := trodAll_nil r3
  obtain rfl : args = #[v0, v1, v2, v3] := by cases args; simp_all
  obtain ⟨rfl, rfl⟩ := trodVars_none hV
  have k0 := h0
  have lt0 : ∀ x ∈ p0, x.block < W.heap.size := by obtain ⟨m, hm⟩ := k0; exact DataW.trod_lt m _ _ _ hm
  have k1 := h1
  have lt1 : ∀ x ∈ p1, x.block < W.heap.size := by obtain ⟨m, hm⟩ := k1; exact DataW.trod_lt m _ _ _ hm
  have k2 := h2
  have lt2 : ∀ x ∈ p2, x.block < W.heap.size := by obtain ⟨m, hm⟩ := k2; exact DataW.trod_lt m _ _ _ hm
  have k3 := h3
  have lt3 : ∀ x ∈ p3, x.block < W.heap.size := by obtain ⟨m, hm⟩ := k3; exact DataW.trod_lt m _ _ _ hm
  obtain ⟨a0, rfl, rfl, rfl, w0⟩ := open_int Try.underlying22 (hval 0 22 v0 rfl rfl) h0
  obtain ⟨a1, rfl, rfl, rfl, w1⟩ := open_int Try.underlying22 (hval 1 22 v1 rfl rfl) h1
  obtain ⟨a3, rfl, rfl, rfl, w3⟩ := open_int Try.underlying22 (hval 3 22 v3 rfl rfl) h3
  obtain ⟨A, len, cap, rfl⟩ := okWide_slice Try.underlying43 (hval 2 43 v2 rfl rfl)
  obtain ⟨zs, hlen, hz⟩ : ∃ zs : List Nat, len = zs.length ∧ BytesAt W A zs := by
    obtain ⟨fuel, hf⟩ := h2
    rcases open_ints Try.underlying43 Try.underlying5 (by kernel_rfl) hf with ⟨hcs, _⟩ | ⟨a, l, c, zs, hcs, _, hl, hm, hz, _, hcell, hwz⟩
    · simp [Value.cells] at hcs
      obtain ⟨rfl, rfl, rfl⟩ := hcs
      exact ⟨[], rfl, fun k hk => absurd hk (by simp)⟩
    · simp [Value.cells] at hcs
      obtain ⟨rfl, rfl, rfl⟩ := hcs
      refine ⟨(zs.take len).map Int.toNat, by rw [List.length_map, List.length_take, hz]; split <;> omega, fun k hk => ?_⟩
      rw [List.length_map, List.length_take] at hk
      have hc := hcell k (by omega)
      rw [List.getD_eq_getElem?_getD, List.getElem?_eq_getElem (by omega), Option.getD_some] at hc
      rw [List.getElem_map, List.getElem_take]
      have hb := bounds_u8 (hwz _ (List.getElem_mem (l := zs) (n := k) (by omega)))
      obtain ⟨b, off, spot⟩ := a
      have hc0 := hcell 0 (by omega)
      have hsp : spot = none := by simpa [Addr.add] using World.cell?_spot hc0
      subst hsp
      have e : (⟨b, off, none⟩ : Addr).add k = ⟨b, off + k, none⟩ := by unfold Addr.add; split <;> simp_all
      rw [e] at hc
      exact ⟨b, off, rfl, by rw [hc, show ((zs[k].toNat : Nat) : Int) = zs[k] by omega], by omega⟩
  subst hlen
  have b0 := bounds_u64 w0
  have b1 := bounds_u64 w1
  have b3 := bounds_u64 w3
  obtain ⟨n0, rfl⟩ : ∃ n : Nat, a0 = (n : Int) := ⟨a0.toNat, by omega⟩
  obtain ⟨n1, rfl⟩ : ∃ n : Nat, a1 = (n : Int) := ⟨a1.toNat, by omega⟩
  obtain ⟨n3, rfl⟩ : ∃ n : Nat, a3 = (n : Int) := ⟨a3.toNat, by omega⟩
  clear hA0 hval0
  clear hcnd
  refine (sections_any n0 n1 n3 A cap zs W hz).mono fun e W' ⟨he, bel⟩ => ?_
  subst he
  exact ⟨_, rfl, _, _, _, [], _, [], hW', trodAll_mk1 (shut_bool Try.underlying4 _), (trodAll_cons_mk (Below.trod progressSections_laidOut (by kernel_rfl) (of_decide_eq_true (by kernel_rfl)) k0 bel lt0) (trodAll_cons_mk (Below.trod progressSections_laidOut (by kernel_rfl) (of_decide_eq_true (by kernel_rfl)) k1 bel lt1) (trodAll_cons_mk (Below.trod progressSections_laidOut (by kernel_rfl) (of_decide_eq_true (by kernel_rfl)) k2 bel lt2) (trodAll_cons_mk (Below.trod progressSections_laidOut (by kernel_rfl) (of_decide_eq_true (by kernel_rfl)) k3 bel lt3) trodAll_mk0)))), rfl, bel.frame _, fun h => by cases h⟩

theorem progressSections_over : Rows.progressSectionsRow.holds Try.pinned (OpenSpec.ofChange Rows.progressSectionsSpec) :=
  OpenClaim.holds_of_wide 6 Try.f6 rfl rfl rfl rfl rfl rfl rfl ⟨rfl, rfl, rfl, rfl, rfl⟩ rfl rfl rfl rfl rfl (by kernel_rfl) Try.func6 (by kernel_rfl)
    (of_decide_eq_true (by kernel_rfl)) (by unfold Func.isWrapper; first | (rw [if_pos (by decide +kernel)]; kernel_rfl) | (rw [if_neg (by decide +kernel)]; exact ⟨rfl, rfl⟩))
    (fun os started H enc _ => progressSections_lifted os started H enc)

/-- The given statement. -/
theorem progressSections_proved : Rows.ProgressSectionsSaid := progressSections_over
#print axioms progressSections_proved
end Go.Proofs.Ytopmfjgifabdmaa
