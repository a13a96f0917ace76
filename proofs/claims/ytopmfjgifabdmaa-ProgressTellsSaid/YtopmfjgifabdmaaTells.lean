/- ProgressTells: what is made of any peer is the document's. The walk and the proved row; no condition. -/
import Derived.Test.YtopmfjgifabdmaaRows
import Derived.Test.YtopmfjgifabdmaaRef
import Derived.Test.YtopmfjgifabdmaaFrame
import Derived.Test.YtopmfjgifabdmaaOpen
import Derived.ProofKit
import Derived.OpenShut
namespace Go.Proofs.Ytopmfjgifabdmaa
open Go.ChangeShapes Go.WideShapes Go.ChangeAt Go.RowKit

set_option maxRecDepth 100000 in
set_option maxHeartbeats 2000000 in
theorem tells_any (m n pr ps pc : Nat) (ok : Bool) (ix rd s first k : Nat) (w : World) (hk : k < 256) :
    Calls Try.prog 3 #[.agg #[.int .u64 (m : Int), .int .u64 (n : Int), .int .u64 (pr : Int), .int .u64 (ps : Int), .int .u8 (pc : Int)], .bool ok, .int .u64 (ix : Int), .int .u64 (rd : Int), .int .u64 (s : Int), .int .u64 (first : Int), .int .u8 (k : Int)] w
      fun e w' => e = .returned (.bool true) ∧ Below w.heap.size w w' := by
  go_enter Try.func3, Try.ntmps3
  go_wp2_with fail
  by_cases h1 : m < 4611686018427387904
  case neg =>
    refine (great_for m true _ (decide_eq_true (by omega))).mono ?_
    rintro e w1 ⟨rfl, rfl⟩
    go_wp2_with fail
    refine (awake_any _).mono ?_
    rintro e w2 ⟨rfl, hb2⟩
    go_wp2_with fail
    go_returns
    exact ⟨rfl, blw_trans (below_alloc w _) hb2⟩
  refine (great_for m false _ (decide_eq_false (by omega))).mono ?_
  rintro e w1 ⟨rfl, rfl⟩
  go_wp2_with fail
  by_cases h2 : n < 4611686018427387904
  case neg =>
    refine (great_for n true _ (decide_eq_true (by omega))).mono ?_
    rintro e w1 ⟨rfl, rfl⟩
    go_wp2_with fail
    refine (awake_any _).mono ?_
    rintro e w2 ⟨rfl, hb2⟩
    go_wp2_with fail
    go_returns
    exact ⟨rfl, blw_trans (below_alloc w _) hb2⟩
  refine (great_for n false _ (decide_eq_false (by omega))).mono ?_
  rintro e w1 ⟨rfl, rfl⟩
  go_wp2_with fail
  by_cases h3 : ps < 4611686018427387904
  case neg =>
    refine (great_for ps true _ (decide_eq_true (by omega))).mono ?_
    rintro e w1 ⟨rfl, rfl⟩
    go_wp2_with fail
    refine (awake_any _).mono ?_
    rintro e w2 ⟨rfl, hb2⟩
    go_wp2_with fail
    go_returns
    exact ⟨rfl, blw_trans (below_alloc w _) hb2⟩
  refine (great_for ps false _ (decide_eq_false (by omega))).mono ?_
  rintro e w1 ⟨rfl, rfl⟩
  go_wp2_with fail
  by_cases h4 : ix < 4611686018427387904
  case neg =>
    refine (great_for ix true _ (decide_eq_true (by omega))).mono ?_
    rintro e w1 ⟨rfl, rfl⟩
    go_wp2_with fail
    refine (awake_any _).mono ?_
    rintro e w2 ⟨rfl, hb2⟩
    go_wp2_with fail
    go_returns
    exact ⟨rfl, blw_trans (below_alloc w _) hb2⟩
  refine (great_for ix false _ (decide_eq_false (by omega))).mono ?_
  rintro e w1 ⟨rfl, rfl⟩
  go_wp2_with fail
  by_cases h5 : s < 4611686018427387904
  case neg =>
    refine (great_for s true _ (decide_eq_true (by omega))).mono ?_
    rintro e w1 ⟨rfl, rfl⟩
    go_wp2_with fail
    refine (awake_any _).mono ?_
    rintro e w2 ⟨rfl, hb2⟩
    go_wp2_with fail
    go_returns
    exact ⟨rfl, blw_trans (below_alloc w _) hb2⟩
  refine (great_for s false _ (decide_eq_false (by omega))).mono ?_
  rintro e w1 ⟨rfl, rfl⟩
  go_wp2_with fail
  have hp0 : PrAt (w.alloc (.cells #[.int .u64 (m : Int), .int .u64 (n : Int), .int .u64 (pr : Int), .int .u64 (ps : Int), .int .u8 (pc : Int)] 24)) w.heap.size (⟨m, n, pr, ps, pc⟩ : Pr) := heap_alloc_last w _
  have hb0 := below_alloc w (.cells #[.int .u64 (m : Int), .int .u64 (n : Int), .int .u64 (pr : Int), .int .u64 (ps : Int), .int .u8 (pc : Int)] 24)
  generalize w.alloc (.cells #[.int .u64 (m : Int), .int .u64 (n : Int), .int .u64 (pr : Int), .int .u64 (ps : Int), .int .u8 (pc : Int)] 24) = w0 at hp0 hb0 ⊢
  generalize w.heap.size = g7 at hp0 ⊢
  refine (given_any (⟨m, n, pr, ps, pc⟩ : Pr) _).mono ?_
  rintro e w1 ⟨rfl, d1⟩
  have hp1 := hp0.below d1
  have hb1 := hb0.trans (d1.mono hb0.size)
  clear hp0 hb0 d1
  simp only [Pr.val]
  go_wp2_with fail
  have hp2 := hp1.below (below_alloc w1 (.cells #[.int .u64 (m : Int), .int .u64 (n : Int), .int .u64 (pr : Int), .int .u64 (ps : Int), .int .u8 (pc : Int)] 27))
  have hr2 : RfAt (w1.alloc (.cells #[.int .u64 (m : Int), .int .u64 (n : Int), .int .u64 (pr : Int), .int .u64 (ps : Int), .int .u8 (pc : Int)] 27)) w1.heap.size (⟨m, n, pr, ps, pc⟩ : Pr) := heap_alloc_last w1 _
  have hb2 := hb1.alloc hb1.size (.cells #[.int .u64 (m : Int), .int .u64 (n : Int), .int .u64 (pr : Int), .int .u64 (ps : Int), .int .u8 (pc : Int)] 27)
  generalize w1.alloc (.cells #[.int .u64 (m : Int), .int .u64 (n : Int), .int .u64 (pr : Int), .int .u64 (ps : Int), .int .u8 (pc : Int)] 27) = W at hp2 hr2 hb2 ⊢
  generalize w1.heap.size = g15 at hr2 ⊢
  have HP := Lib.hid hp2
  have HR := Lib.hid hr2
  clear hp1 hb1 hp2 hr2
  obtain ⟨q1, hq1⟩ : ∃ q, toldP (⟨m, n, pr, ps, pc⟩ : Pr) ok ix rd = q := ⟨_, rfl⟩
  obtain ⟨q2, hq2⟩ : ∃ q, sendP (⟨m, n, pr, ps, pc⟩ : Pr) s = q := ⟨_, rfl⟩
  obtain ⟨q3, hq3⟩ : ∃ q, sectP (⟨m, n, pr, ps, pc⟩ : Pr) s k = q := ⟨_, rfl⟩
  refine wp_region_vals (by kernel_rfl) (by kernel_rfl) (by kernel_rfl) [Pr.val (⟨m, n, pr, ps, pc⟩ : Pr), .bool ok, .int .u64 (ix : Int), .int .u64 (rd : Int), Pr.val q1, Pr.val q1, Pr.val (⟨m, n, pr, ps, pc⟩ : Pr), .bool ok, .int .u64 (ix : Int), .int .u64 (rd : Int), Pr.val q1, .bool false, .bool false, Pr.val (⟨m, n, pr, ps, pc⟩ : Pr), .int .u64 (s : Int), Pr.val q2, Pr.val q2, Pr.val (⟨m, n, pr, ps, pc⟩ : Pr), .int .u64 (s : Int), Pr.val q2, .bool false, .bool false, .bool false, Pr.val (⟨m, n, pr, ps, pc⟩ : Pr), .int .u64 (first : Int), .bool (decide (n ≤ first)), .int .u64 (first : Int), .pointer (some ⟨g7, 1, none⟩), .int .u64 (n : Int), .bool (decide (n ≤ first)), .bool false, .bool false] rfl ?_ ?_
  · refine ⟨fun x w hF ho => ?_, ?_⟩
    · have f7 : x.tmps[7]? = some (.pointer (some ⟨g7, 0, none⟩)) := (hF.old 7 (no_dst (by kernel_rfl))).trans rfl
      obtain ⟨c0, c1, c2, c3, c4⟩ := (HP.out.below hF.world).cells
      exact step_val ho (wanted_none rfl) (v := Pr.val (⟨m, n, pr, ps, pc⟩ : Pr)) (by simp [execOp, Act.eval, f7, go_sem, c0, c1, c2, c3, c4, Pr.val]) rfl (Below.refl _ _)
    refine ⟨fun x w hF ho => ?_, ?_⟩
    · have f1 : x.tmps[1]? = some (.bool ok) := (hF.old 1 (no_dst (by kernel_rfl))).trans rfl
      exact step_val ho (wanted_none rfl) (v := .bool ok) (by simp [execOp, Act.eval, f1]) rfl (Below.refl _ _)
    refine ⟨fun x w hF ho => ?_, ?_⟩
    · have f2 : x.tmps[2]? = some (.int .u64 (ix : Int)) := (hF.old 2 (no_dst (by kernel_rfl))).trans rfl
      exact step_val ho (wanted_none rfl) (v := .int .u64 (ix : Int)) (by simp [execOp, Act.eval, f2]) rfl (Below.refl _ _)
    refine ⟨fun x w hF ho => ?_, ?_⟩
    · have f3 : x.tmps[3]? = some (.int .u64 (rd : Int)) := (hF.old 3 (no_dst (by kernel_rfl))).trans rfl
      exact step_val ho (wanted_none rfl) (v := .int .u64 (rd : Int)) (by simp [execOp, Act.eval, f3]) rfl (Below.refl _ _)
    refine ⟨fun x w hF ho => ?_, ?_⟩
    · obtain ⟨_, f41, rfl⟩ := hF.val 0 _ 41 (by kernel_rfl) rfl rfl
      obtain ⟨_, f42, rfl⟩ := hF.val 1 _ 42 (by kernel_rfl) rfl rfl
      obtain ⟨_, f43, rfl⟩ := hF.val 2 _ 43 (by kernel_rfl) rfl rfl
      obtain ⟨_, f44, rfl⟩ := hF.val 3 _ 44 (by kernel_rfl) rfl rfl
      refine step_call ho (wanted_none rfl) (f := 11) (args := #[Pr.val (⟨m, n, pr, ps, pc⟩ : Pr), .bool ok, .int .u64 (ix : Int), .int .u64 (rd : Int)]) (by simp [execOp, Act.eval, f41, f42, f43, f44, go_sem]) ?_
      refine (told_for (⟨m, n, pr, ps, pc⟩ : Pr) ok ix rd q1 _ ⟨h1, h2, h3⟩ h4 hq1).mono ?_
      rintro e w' ⟨rfl, hb'⟩
      exact ⟨_, rfl, rfl, hb'⟩
    refine ⟨fun x w hF ho => ?_, ?_⟩
    · obtain ⟨_, f45, rfl⟩ := hF.val 4 _ 45 (by kernel_rfl) rfl rfl
      refine step_call ho (wanted_none rfl) (f := 10) (args := #[Pr.val q1]) (by simp [execOp, Act.eval, f45, go_sem]) ?_
      refine (given_any q1 _).mono ?_
      rintro e w' ⟨rfl, hb'⟩
      exact ⟨_, rfl, rfl, hb'⟩
    refine ⟨fun x w hF ho => ?_, ?_⟩
    · have f15 : x.tmps[15]? = some (.pointer (some ⟨g15, 0, none⟩)) := (hF.old 15 (no_dst (by kernel_rfl))).trans rfl
      obtain ⟨c0, c1, c2, c3, c4⟩ := (HR.out.below hF.world).cells
      exact step_val ho (wanted_none rfl) (v := Pr.val (⟨m, n, pr, ps, pc⟩ : Pr)) (by simp [execOp, Act.eval, f15, go_sem, c0, c1, c2, c3, c4, Pr.val]) rfl (Below.refl _ _)
    refine ⟨fun x w hF ho => ?_, ?_⟩
    · have f1 : x.tmps[1]? = some (.bool ok) := (hF.old 1 (no_dst (by kernel_rfl))).trans rfl
      exact step_val ho (wanted_none rfl) (v := .bool ok) (by simp [execOp, Act.eval, f1]) rfl (Below.refl _ _)
    refine ⟨fun x w hF ho => ?_, ?_⟩
    · have f2 : x.tmps[2]? = some (.int .u64 (ix : Int)) := (hF.old 2 (no_dst (by kernel_rfl))).trans rfl
      exact step_val ho (wanted_none rfl) (v := .int .u64 (ix : Int)) (by simp [execOp, Act.eval, f2]) rfl (Below.refl _ _)
    refine ⟨fun x w hF ho => ?_, ?_⟩
    · have f3 : x.tmps[3]? = some (.int .u64 (rd : Int)) := (hF.old 3 (no_dst (by kernel_rfl))).trans rfl
      exact step_val ho (wanted_none rfl) (v := .int .u64 (rd : Int)) (by simp [execOp, Act.eval, f3]) rfl (Below.refl _ _)
    refine ⟨fun x w hF ho => ?_, ?_⟩
    · obtain ⟨_, f47, rfl⟩ := hF.val 6 _ 47 (by kernel_rfl) rfl rfl
      obtain ⟨_, f48, rfl⟩ := hF.val 7 _ 48 (by kernel_rfl) rfl rfl
      obtain ⟨_, f49, rfl⟩ := hF.val 8 _ 49 (by kernel_rfl) rfl rfl
      obtain ⟨_, f50, rfl⟩ := hF.val 9 _ 50 (by kernel_rfl) rfl rfl
      refine step_call ho (wanted_none rfl) (f := 12) (args := #[Pr.val (⟨m, n, pr, ps, pc⟩ : Pr), .bool ok, .int .u64 (ix : Int), .int .u64 (rd : Int)]) (by simp [execOp, Act.eval, f47, f48, f49, f50, go_sem]) ?_
      refine (refTold_for (⟨m, n, pr, ps, pc⟩ : Pr) ok ix rd q1 _ ⟨h1, h2, h3⟩ h4 hq1).mono ?_
      rintro e w' ⟨rfl, hb'⟩
      exact ⟨_, rfl, rfl, hb'⟩
    refine ⟨fun x w hF ho => ?_, ?_⟩
    · obtain ⟨_, f46, rfl⟩ := hF.val 5 _ 46 (by kernel_rfl) rfl rfl
      obtain ⟨_, f51, rfl⟩ := hF.val 10 _ 51 (by kernel_rfl) rfl rfl
      exact step_val ho (wanted_none rfl) (v := .bool false) (by simp [execOp, Act.eval, f46, f51, go_sem, Pr.val]) rfl (Below.refl _ _)
    refine ⟨fun x w hF ho => ?_, ?_⟩
    · obtain ⟨_, f52, rfl⟩ := hF.val 11 _ 52 (by kernel_rfl) rfl rfl
      exact step_val ho (wanted_none rfl) (v := .bool false) (by simp [execOp, Act.eval, f52]) rfl (Below.refl _ _)
    refine ⟨fun x w hF ho => ?_, ?_⟩
    · obtain ⟨_, f53, rfl⟩ := hF.val 12 _ 53 (by kernel_rfl) rfl rfl
      have f7 : x.tmps[7]? = some (.pointer (some ⟨g7, 0, none⟩)) := (hF.old 7 (no_dst (by kernel_rfl))).trans rfl
      obtain ⟨c0, c1, c2, c3, c4⟩ := (HP.out.below hF.world).cells
      exact step_val ho (wanted_some rfl rfl rfl f53) (v := Pr.val (⟨m, n, pr, ps, pc⟩ : Pr)) (by simp [execOp, Act.eval, f7, go_sem, c0, c1, c2, c3, c4, Pr.val]) rfl (Below.refl _ _)
    refine ⟨fun x w hF ho => ?_, ?_⟩
    · obtain ⟨_, f53, rfl⟩ := hF.val 12 _ 53 (by kernel_rfl) rfl rfl
      have f4 : x.tmps[4]? = some (.int .u64 (s : Int)) := (hF.old 4 (no_dst (by kernel_rfl))).trans rfl
      exact step_val ho (wanted_some rfl rfl rfl f53) (v := .int .u64 (s : Int)) (by simp [execOp, Act.eval, f4]) rfl (Below.refl _ _)
    refine ⟨fun x w hF ho => ?_, ?_⟩
    · obtain ⟨_, f53, rfl⟩ := hF.val 12 _ 53 (by kernel_rfl) rfl rfl
      obtain ⟨_, f54, rfl⟩ := hF.val 13 _ 54 (by kernel_rfl) rfl rfl
      obtain ⟨_, f55, rfl⟩ := hF.val 14 _ 55 (by kernel_rfl) rfl rfl
      refine step_call ho (wanted_some rfl rfl rfl f53) (f := 13) (args := #[Pr.val (⟨m, n, pr, ps, pc⟩ : Pr), .int .u64 (s : Int)]) (by simp [execOp, Act.eval, f54, f55, go_sem]) ?_
      refine (send_for (⟨m, n, pr, ps, pc⟩ : Pr) s q2 _ hq2).mono ?_
      rintro e w' ⟨rfl, hb'⟩
      exact ⟨_, rfl, rfl, hb'⟩
    refine ⟨fun x w hF ho => ?_, ?_⟩
    · obtain ⟨_, f53, rfl⟩ := hF.val 12 _ 53 (by kernel_rfl) rfl rfl
      obtain ⟨_, f56, rfl⟩ := hF.val 15 _ 56 (by kernel_rfl) rfl rfl
      refine step_call ho (wanted_some rfl rfl rfl f53) (f := 10) (args := #[Pr.val q2]) (by simp [execOp, Act.eval, f56, go_sem]) ?_
      refine (given_any q2 _).mono ?_
      rintro e w' ⟨rfl, hb'⟩
      exact ⟨_, rfl, rfl, hb'⟩
    refine ⟨fun x w hF ho => ?_, ?_⟩
    · obtain ⟨_, f53, rfl⟩ := hF.val 12 _ 53 (by kernel_rfl) rfl rfl
      have f15 : x.tmps[15]? = some (.pointer (some ⟨g15, 0, none⟩)) := (hF.old 15 (no_dst (by kernel_rfl))).trans rfl
      obtain ⟨c0, c1, c2, c3, c4⟩ := (HR.out.below hF.world).cells
      exact step_val ho (wanted_some rfl rfl rfl f53) (v := Pr.val (⟨m, n, pr, ps, pc⟩ : Pr)) (by simp [execOp, Act.eval, f15, go_sem, c0, c1, c2, c3, c4, Pr.val]) rfl (Below.refl _ _)
    refine ⟨fun x w hF ho => ?_, ?_⟩
    · obtain ⟨_, f53, rfl⟩ := hF.val 12 _ 53 (by kernel_rfl) rfl rfl
      have f4 : x.tmps[4]? = some (.int .u64 (s : Int)) := (hF.old 4 (no_dst (by kernel_rfl))).trans rfl
      exact step_val ho (wanted_some rfl rfl rfl f53) (v := .int .u64 (s : Int)) (by simp [execOp, Act.eval, f4]) rfl (Below.refl _ _)
    refine ⟨fun x w hF ho => ?_, ?_⟩
    · obtain ⟨_, f53, rfl⟩ := hF.val 12 _ 53 (by kernel_rfl) rfl rfl
      obtain ⟨_, f58, rfl⟩ := hF.val 17 _ 58 (by kernel_rfl) rfl rfl
      obtain ⟨_, f59, rfl⟩ := hF.val 18 _ 59 (by kernel_rfl) rfl rfl
      refine step_call ho (wanted_some rfl rfl rfl f53) (f := 14) (args := #[Pr.val (⟨m, n, pr, ps, pc⟩ : Pr), .int .u64 (s : Int)]) (by simp [execOp, Act.eval, f58, f59, go_sem]) ?_
      refine (refSend_for (⟨m, n, pr, ps, pc⟩ : Pr) s q2 _ hq2).mono ?_
      rintro e w' ⟨rfl, hb'⟩
      exact ⟨_, rfl, rfl, hb'⟩
    refine ⟨fun x w hF ho => ?_, ?_⟩
    · obtain ⟨_, f53, rfl⟩ := hF.val 12 _ 53 (by kernel_rfl) rfl rfl
      obtain ⟨_, f57, rfl⟩ := hF.val 16 _ 57 (by kernel_rfl) rfl rfl
      obtain ⟨_, f60, rfl⟩ := hF.val 19 _ 60 (by kernel_rfl) rfl rfl
      exact step_val ho (wanted_some rfl rfl rfl f53) (v := .bool false) (by simp [execOp, Act.eval, f57, f60, go_sem, Pr.val]) rfl (Below.refl _ _)
    refine ⟨fun x w hF ho => ?_, ?_⟩
    · obtain ⟨_, f53, rfl⟩ := hF.val 12 _ 53 (by kernel_rfl) rfl rfl
      obtain ⟨_, f61, rfl⟩ := hF.val 20 _ 61 (by kernel_rfl) rfl rfl
      exact step_val ho (wanted_none rfl) (v := .bool false) (by simp [execOp, Act.eval, f53, f61, go_sem]) rfl (Below.refl _ _)
    refine ⟨fun x w hF ho => ?_, ?_⟩
    · obtain ⟨_, f62, rfl⟩ := hF.val 21 _ 62 (by kernel_rfl) rfl rfl
      exact step_val ho (wanted_none rfl) (v := .bool false) (by simp [execOp, Act.eval, f62]) rfl (Below.refl _ _)
    refine ⟨fun x w hF ho => ?_, ?_⟩
    · obtain ⟨_, f63, rfl⟩ := hF.val 22 _ 63 (by kernel_rfl) rfl rfl
      have f7 : x.tmps[7]? = some (.pointer (some ⟨g7, 0, none⟩)) := (hF.old 7 (no_dst (by kernel_rfl))).trans rfl
      obtain ⟨c0, c1, c2, c3, c4⟩ := (HP.out.below hF.world).cells
      exact step_val ho (wanted_some rfl rfl rfl f63) (v := Pr.val (⟨m, n, pr, ps, pc⟩ : Pr)) (by simp [execOp, Act.eval, f7, go_sem, c0, c1, c2, c3, c4, Pr.val]) rfl (Below.refl _ _)
    refine ⟨fun x w hF ho => ?_, ?_⟩
    · obtain ⟨_, f63, rfl⟩ := hF.val 22 _ 63 (by kernel_rfl) rfl rfl
      have f5 : x.tmps[5]? = some (.int .u64 (first : Int)) := (hF.old 5 (no_dst (by kernel_rfl))).trans rfl
      exact step_val ho (wanted_some rfl rfl rfl f63) (v := .int .u64 (first : Int)) (by simp [execOp, Act.eval, f5]) rfl (Below.refl _ _)
    refine ⟨fun x w hF ho => ?_, ?_⟩
    · obtain ⟨_, f63, rfl⟩ := hF.val 22 _ 63 (by kernel_rfl) rfl rfl
      obtain ⟨_, f64, rfl⟩ := hF.val 23 _ 64 (by kernel_rfl) rfl rfl
      obtain ⟨_, f65, rfl⟩ := hF.val 24 _ 65 (by kernel_rfl) rfl rfl
      refine step_call ho (wanted_some rfl rfl rfl f63) (f := 15) (args := #[Pr.val (⟨m, n, pr, ps, pc⟩ : Pr), .int .u64 (first : Int)]) (by simp [execOp, Act.eval, f64, f65, go_sem]) ?_
      refine (needs_for (⟨m, n, pr, ps, pc⟩ : Pr) first (decide (n ≤ first)) _ rfl).mono ?_
      rintro e w' ⟨rfl, hb'⟩
      exact ⟨_, rfl, rfl, hb'⟩
    refine ⟨fun x w hF ho => ?_, ?_⟩
    · obtain ⟨_, f63, rfl⟩ := hF.val 22 _ 63 (by kernel_rfl) rfl rfl
      have f5 : x.tmps[5]? = some (.int .u64 (first : Int)) := (hF.old 5 (no_dst (by kernel_rfl))).trans rfl
      exact step_val ho (wanted_some rfl rfl rfl f63) (v := .int .u64 (first : Int)) (by simp [execOp, Act.eval, f5]) rfl (Below.refl _ _)
    refine ⟨fun x w hF ho => ?_, ?_⟩
    · obtain ⟨_, f63, rfl⟩ := hF.val 22 _ 63 (by kernel_rfl) rfl rfl
      have f7 : x.tmps[7]? = some (.pointer (some ⟨g7, 0, none⟩)) := (hF.old 7 (no_dst (by kernel_rfl))).trans rfl
      exact step_val ho (wanted_some rfl rfl rfl f63) (v := .pointer (some ⟨g7, 1, none⟩)) (by simp [execOp, Act.eval, f7, go_sem]) rfl (Below.refl _ _)
    refine ⟨fun x w hF ho => ?_, ?_⟩
    · obtain ⟨_, f63, rfl⟩ := hF.val 22 _ 63 (by kernel_rfl) rfl rfl
      obtain ⟨_, f68, rfl⟩ := hF.val 27 _ 68 (by kernel_rfl) rfl rfl
      obtain ⟨c0, c1, c2, c3, c4⟩ := (HP.out.below hF.world).cells
      exact step_val ho (wanted_some rfl rfl rfl f63) (v := .int .u64 (n : Int)) (by simp [execOp, Act.eval, f68, go_sem, c1]) rfl (Below.refl _ _)
    refine ⟨fun x w hF ho => ?_, ?_⟩
    · obtain ⟨_, f63, rfl⟩ := hF.val 22 _ 63 (by kernel_rfl) rfl rfl
      obtain ⟨_, f67, rfl⟩ := hF.val 26 _ 67 (by kernel_rfl) rfl rfl
      obtain ⟨_, f69, rfl⟩ := hF.val 28 _ 69 (by kernel_rfl) rfl rfl
      exact step_val ho (wanted_some rfl rfl rfl f63) (v := .bool (decide (n ≤ first))) (by simp [execOp, Act.eval, f67, f69, go_sem]) rfl (Below.refl _ _)
    refine ⟨fun x w hF ho => ?_, ?_⟩
    · obtain ⟨_, f63, rfl⟩ := hF.val 22 _ 63 (by kernel_rfl) rfl rfl
      obtain ⟨_, f66, rfl⟩ := hF.val 25 _ 66 (by kernel_rfl) rfl rfl
      obtain ⟨_, f70, rfl⟩ := hF.val 29 _ 70 (by kernel_rfl) rfl rfl
      exact step_val ho (wanted_some rfl rfl rfl f63) (v := .bool false) (by simp [execOp, Act.eval, f66, f70, go_sem]) rfl (Below.refl _ _)
    refine ⟨fun x w hF ho => ?_, ?_⟩
    · obtain ⟨_, f63, rfl⟩ := hF.val 22 _ 63 (by kernel_rfl) rfl rfl
      obtain ⟨_, f71, rfl⟩ := hF.val 30 _ 71 (by kernel_rfl) rfl rfl
      exact step_val ho (wanted_none rfl) (v := .bool false) (by simp [execOp, Act.eval, f63, f71, go_sem]) rfl (Below.refl _ _)
    exact trivial
  intro W2 hd2
  have HP2 := Lib.hid (HP.out.below hd2)
  have HR2 := Lib.hid (HR.out.below hd2)
  have hb3 := hb2.trans (hd2.mono hb2.size)
  clear HP HR hb2 hd2
  simp only [putAll, List.toList_toArray, List.setIfInBounds_toArray, List.set_cons_succ, List.set_cons_zero]
  go_wp2_with fail
  clear hq1 hq2
  go_loopw [16] (fun v wr => ∃ j : Nat, j ≤ 5 ∧ v = .int .u8 (j : Int) ∧ Hid (PrAt wr g7 (⟨m, n, pr, ps, pc⟩ : Pr)) ∧ Hid (RfAt wr g15 (⟨m, n, pr, ps, pc⟩ : Pr)) ∧ Below w.heap.size w wr) (fun v _ => 5 - (intOf v).toNat)
  case atStart => exact ⟨0, by omega, rfl, HP2, HR2, hb3⟩
  case round =>
    clear HP2 HR2 hb3
    obtain ⟨j, hj, rfl, HP, HR, hb⟩ := hrel
    by_cases hlt : j < 5
    · obtain ⟨q4, hq4⟩ : ∃ q, sectP (⟨m, n, pr, ps, pc⟩ : Pr) ps j = q := ⟨_, rfl⟩
      go_wp2_with fail
      refine wp_region_vals (by kernel_rfl) (by kernel_rfl) (by kernel_rfl) [Pr.val (⟨m, n, pr, ps, pc⟩ : Pr), .pointer (some ⟨g7, 3, none⟩), .int .u64 (ps : Int), .int .u8 (j : Int), Pr.val q4, Pr.val q4, Pr.val (⟨m, n, pr, ps, pc⟩ : Pr), .pointer (some ⟨g7, 3, none⟩), .int .u64 (ps : Int), .int .u8 (j : Int), Pr.val q4, .bool false] rfl ?_ ?_
      · refine ⟨fun x w hF ho => ?_, ?_⟩
        · have f7 : x.tmps[7]? = some (.pointer (some ⟨g7, 0, none⟩)) := (hF.old 7 (no_dst (by kernel_rfl))).trans rfl
          obtain ⟨c0, c1, c2, c3, c4⟩ := (HP.out.below hF.world).cells
          exact step_val ho (wanted_none rfl) (v := Pr.val (⟨m, n, pr, ps, pc⟩ : Pr)) (by simp [execOp, Act.eval, f7, go_sem, c0, c1, c2, c3, c4, Pr.val]) rfl (Below.refl _ _)
        refine ⟨fun x w hF ho => ?_, ?_⟩
        · have f7 : x.tmps[7]? = some (.pointer (some ⟨g7, 0, none⟩)) := (hF.old 7 (no_dst (by kernel_rfl))).trans rfl
          exact step_val ho (wanted_none rfl) (v := .pointer (some ⟨g7, 3, none⟩)) (by simp [execOp, Act.eval, f7, go_sem]) rfl (Below.refl _ _)
        refine ⟨fun x w hF ho => ?_, ?_⟩
        · obtain ⟨_, f78, rfl⟩ := hF.val 1 _ 78 (by kernel_rfl) rfl rfl
          obtain ⟨c0, c1, c2, c3, c4⟩ := (HP.out.below hF.world).cells
          exact step_val ho (wanted_none rfl) (v := .int .u64 (ps : Int)) (by simp [execOp, Act.eval, f78, go_sem, c3]) rfl (Below.refl _ _)
        refine ⟨fun x w hF ho => ?_, ?_⟩
        · have f16 : x.tmps[16]? = some (.int .u8 (j : Int)) := (hF.old 16 (no_dst (by kernel_rfl))).trans rfl
          exact step_val ho (wanted_none rfl) (v := .int .u8 (j : Int)) (by simp [execOp, Act.eval, f16]) rfl (Below.refl _ _)
        refine ⟨fun x w hF ho => ?_, ?_⟩
        · obtain ⟨_, f77, rfl⟩ := hF.val 0 _ 77 (by kernel_rfl) rfl rfl
          obtain ⟨_, f79, rfl⟩ := hF.val 2 _ 79 (by kernel_rfl) rfl rfl
          obtain ⟨_, f80, rfl⟩ := hF.val 3 _ 80 (by kernel_rfl) rfl rfl
          refine step_call ho (wanted_none rfl) (f := 16) (args := #[Pr.val (⟨m, n, pr, ps, pc⟩ : Pr), .int .u64 (ps : Int), .int .u8 (j : Int)]) (by simp [execOp, Act.eval, f77, f79, f80, go_sem]) ?_
          refine (sect_for (⟨m, n, pr, ps, pc⟩ : Pr) ps j q4 _ (by omega) hq4).mono ?_
          rintro e w' ⟨rfl, hb'⟩
          exact ⟨_, rfl, rfl, hb'⟩
        refine ⟨fun x w hF ho => ?_, ?_⟩
        · obtain ⟨_, f81, rfl⟩ := hF.val 4 _ 81 (by kernel_rfl) rfl rfl
          refine step_call ho (wanted_none rfl) (f := 10) (args := #[Pr.val q4]) (by simp [execOp, Act.eval, f81, go_sem]) ?_
          refine (given_any q4 _).mono ?_
          rintro e w' ⟨rfl, hb'⟩
          exact ⟨_, rfl, rfl, hb'⟩
        refine ⟨fun x w hF ho => ?_, ?_⟩
        · have f15 : x.tmps[15]? = some (.pointer (some ⟨g15, 0, none⟩)) := (hF.old 15 (no_dst (by kernel_rfl))).trans rfl
          obtain ⟨c0, c1, c2, c3, c4⟩ := (HR.out.below hF.world).cells
          exact step_val ho (wanted_none rfl) (v := Pr.val (⟨m, n, pr, ps, pc⟩ : Pr)) (by simp [execOp, Act.eval, f15, go_sem, c0, c1, c2, c3, c4, Pr.val]) rfl (Below.refl _ _)
        refine ⟨fun x w hF ho => ?_, ?_⟩
        · have f7 : x.tmps[7]? = some (.pointer (some ⟨g7, 0, none⟩)) := (hF.old 7 (no_dst (by kernel_rfl))).trans rfl
          exact step_val ho (wanted_none rfl) (v := .pointer (some ⟨g7, 3, none⟩)) (by simp [execOp, Act.eval, f7, go_sem]) rfl (Below.refl _ _)
        refine ⟨fun x w hF ho => ?_, ?_⟩
        · obtain ⟨_, f84, rfl⟩ := hF.val 7 _ 84 (by kernel_rfl) rfl rfl
          obtain ⟨c0, c1, c2, c3, c4⟩ := (HP.out.below hF.world).cells
          exact step_val ho (wanted_none rfl) (v := .int .u64 (ps : Int)) (by simp [execOp, Act.eval, f84, go_sem, c3]) rfl (Below.refl _ _)
        refine ⟨fun x w hF ho => ?_, ?_⟩
        · have f16 : x.tmps[16]? = some (.int .u8 (j : Int)) := (hF.old 16 (no_dst (by kernel_rfl))).trans rfl
          exact step_val ho (wanted_none rfl) (v := .int .u8 (j : Int)) (by simp [execOp, Act.eval, f16]) rfl (Below.refl _ _)
        refine ⟨fun x w hF ho => ?_, ?_⟩
        · obtain ⟨_, f83, rfl⟩ := hF.val 6 _ 83 (by kernel_rfl) rfl rfl
          obtain ⟨_, f85, rfl⟩ := hF.val 8 _ 85 (by kernel_rfl) rfl rfl
          obtain ⟨_, f86, rfl⟩ := hF.val 9 _ 86 (by kernel_rfl) rfl rfl
          refine step_call ho (wanted_none rfl) (f := 17) (args := #[Pr.val (⟨m, n, pr, ps, pc⟩ : Pr), .int .u64 (ps : Int), .int .u8 (j : Int)]) (by simp [execOp, Act.eval, f83, f85, f86, go_sem]) ?_
          refine (refSect_for (⟨m, n, pr, ps, pc⟩ : Pr) ps j q4 _ (by omega) hq4).mono ?_
          rintro e w' ⟨rfl, hb'⟩
          exact ⟨_, rfl, rfl, hb'⟩
        refine ⟨fun x w hF ho => ?_, ?_⟩
        · obtain ⟨_, f82, rfl⟩ := hF.val 5 _ 82 (by kernel_rfl) rfl rfl
          obtain ⟨_, f87, rfl⟩ := hF.val 10 _ 87 (by kernel_rfl) rfl rfl
          exact step_val ho (wanted_none rfl) (v := .bool false) (by simp [execOp, Act.eval, f82, f87, go_sem, Pr.val]) rfl (Below.refl _ _)
        exact trivial
      intro W3 hd3
      have HP3 := Lib.hid (HP.out.below hd3)
      have HR3 := Lib.hid (HR.out.below hd3)
      have hb3 := hb.trans (hd3.mono hb.size)
      clear HP HR hb hd3 hq4
      simp only [putAll, List.toList_toArray, List.setIfInBounds_toArray, List.set_cons_succ, List.set_cons_zero]
      go_wp2_with fail
      go_roundw
      case rel => exact ⟨j + 1, by omega, by go_num, HP3, HR3, hb3⟩
      case measure => simp [intOf]; omega
    · obtain rfl : j = 5 := by omega
      have wx : IntKind.u64.wrap ((ix : Int) + 1) = (ix : Int) + 1 := by rw [IntKind.wrap_u64]; omega
      go_wp2_with fail
      refine wp_region_vals (by kernel_rfl) (by kernel_rfl) (by kernel_rfl) [Pr.val (⟨m, n, pr, ps, pc⟩ : Pr), .int .u64 (s : Int), .int .u8 (k : Int), Pr.val q3, Pr.val q3, Pr.val (⟨m, n, pr, ps, pc⟩ : Pr), .int .u64 (s : Int), .int .u8 (k : Int), Pr.val q3, .bool true, .bool true, .int .u64 (ix : Int), Pr.val (⟨0, ix + 1, 0, 0, 0⟩ : Pr), .int .u64 (ix : Int), .int .u64 ((ix + 1 : Nat) : Int), Pr.val (⟨0, ix + 1, 0, 0, 0⟩ : Pr), .bool true, .bool true, .bool true, .bool true, .bool true, .bool true] rfl ?_ ?_
      · refine ⟨fun x w hF ho => ?_, ?_⟩
        · have f7 : x.tmps[7]? = some (.pointer (some ⟨g7, 0, none⟩)) := (hF.old 7 (no_dst (by kernel_rfl))).trans rfl
          obtain ⟨c0, c1, c2, c3, c4⟩ := (HP.out.below hF.world).cells
          exact step_val ho (wanted_none rfl) (v := Pr.val (⟨m, n, pr, ps, pc⟩ : Pr)) (by simp [execOp, Act.eval, f7, go_sem, c0, c1, c2, c3, c4, Pr.val]) rfl (Below.refl _ _)
        refine ⟨fun x w hF ho => ?_, ?_⟩
        · have f4 : x.tmps[4]? = some (.int .u64 (s : Int)) := (hF.old 4 (no_dst (by kernel_rfl))).trans rfl
          exact step_val ho (wanted_none rfl) (v := .int .u64 (s : Int)) (by simp [execOp, Act.eval, f4]) rfl (Below.refl _ _)
        refine ⟨fun x w hF ho => ?_, ?_⟩
        · have f6 : x.tmps[6]? = some (.int .u8 (k : Int)) := (hF.old 6 (no_dst (by kernel_rfl))).trans rfl
          exact step_val ho (wanted_none rfl) (v := .int .u8 (k : Int)) (by simp [execOp, Act.eval, f6]) rfl (Below.refl _ _)
        refine ⟨fun x w hF ho => ?_, ?_⟩
        · obtain ⟨_, f89, rfl⟩ := hF.val 0 _ 89 (by kernel_rfl) rfl rfl
          obtain ⟨_, f90, rfl⟩ := hF.val 1 _ 90 (by kernel_rfl) rfl rfl
          obtain ⟨_, f91, rfl⟩ := hF.val 2 _ 91 (by kernel_rfl) rfl rfl
          refine step_call ho (wanted_none rfl) (f := 16) (args := #[Pr.val (⟨m, n, pr, ps, pc⟩ : Pr), .int .u64 (s : Int), .int .u8 (k : Int)]) (by simp [execOp, Act.eval, f89, f90, f91, go_sem]) ?_
          refine (sect_for (⟨m, n, pr, ps, pc⟩ : Pr) s k q3 _ hk hq3).mono ?_
          rintro e w' ⟨rfl, hb'⟩
          exact ⟨_, rfl, rfl, hb'⟩
        refine ⟨fun x w hF ho => ?_, ?_⟩
        · obtain ⟨_, f92, rfl⟩ := hF.val 3 _ 92 (by kernel_rfl) rfl rfl
          refine step_call ho (wanted_none rfl) (f := 10) (args := #[Pr.val q3]) (by simp [execOp, Act.eval, f92, go_sem]) ?_
          refine (given_any q3 _).mono ?_
          rintro e w' ⟨rfl, hb'⟩
          exact ⟨_, rfl, rfl, hb'⟩
        refine ⟨fun x w hF ho => ?_, ?_⟩
        · have f15 : x.tmps[15]? = some (.pointer (some ⟨g15, 0, none⟩)) := (hF.old 15 (no_dst (by kernel_rfl))).trans rfl
          obtain ⟨c0, c1, c2, c3, c4⟩ := (HR.out.below hF.world).cells
          exact step_val ho (wanted_none rfl) (v := Pr.val (⟨m, n, pr, ps, pc⟩ : Pr)) (by simp [execOp, Act.eval, f15, go_sem, c0, c1, c2, c3, c4, Pr.val]) rfl (Below.refl _ _)
        refine ⟨fun x w hF ho => ?_, ?_⟩
        · have f4 : x.tmps[4]? = some (.int .u64 (s : Int)) := (hF.old 4 (no_dst (by kernel_rfl))).trans rfl
          exact step_val ho (wanted_none rfl) (v := .int .u64 (s : Int)) (by simp [execOp, Act.eval, f4]) rfl (Below.refl _ _)
        refine ⟨fun x w hF ho => ?_, ?_⟩
        · have f6 : x.tmps[6]? = some (.int .u8 (k : Int)) := (hF.old 6 (no_dst (by kernel_rfl))).trans rfl
          exact step_val ho (wanted_none rfl) (v := .int .u8 (k : Int)) (by simp [execOp, Act.eval, f6]) rfl (Below.refl _ _)
        refine ⟨fun x w hF ho => ?_, ?_⟩
        · obtain ⟨_, f94, rfl⟩ := hF.val 5 _ 94 (by kernel_rfl) rfl rfl
          obtain ⟨_, f95, rfl⟩ := hF.val 6 _ 95 (by kernel_rfl) rfl rfl
          obtain ⟨_, f96, rfl⟩ := hF.val 7 _ 96 (by kernel_rfl) rfl rfl
          refine step_call ho (wanted_none rfl) (f := 17) (args := #[Pr.val (⟨m, n, pr, ps, pc⟩ : Pr), .int .u64 (s : Int), .int .u8 (k : Int)]) (by simp [execOp, Act.eval, f94, f95, f96, go_sem]) ?_
          refine (refSect_for (⟨m, n, pr, ps, pc⟩ : Pr) s k q3 _ hk hq3).mono ?_
          rintro e w' ⟨rfl, hb'⟩
          exact ⟨_, rfl, rfl, hb'⟩
        refine ⟨fun x w hF ho => ?_, ?_⟩
        · obtain ⟨_, f93, rfl⟩ := hF.val 4 _ 93 (by kernel_rfl) rfl rfl
          obtain ⟨_, f97, rfl⟩ := hF.val 8 _ 97 (by kernel_rfl) rfl rfl
          exact step_val ho (wanted_none rfl) (v := .bool true) (by simp [execOp, Act.eval, f93, f97, go_sem, Pr.val]) rfl (Below.refl _ _)
        refine ⟨fun x w hF ho => ?_, ?_⟩
        · obtain ⟨_, f98, rfl⟩ := hF.val 9 _ 98 (by kernel_rfl) rfl rfl
          exact step_val ho (wanted_none rfl) (v := .bool true) (by simp [execOp, Act.eval, f98]) rfl (Below.refl _ _)
        refine ⟨fun x w hF ho => ?_, ?_⟩
        · obtain ⟨_, f99, rfl⟩ := hF.val 10 _ 99 (by kernel_rfl) rfl rfl
          have f2 : x.tmps[2]? = some (.int .u64 (ix : Int)) := (hF.old 2 (no_dst (by kernel_rfl))).trans rfl
          exact step_val ho (wanted_some rfl rfl rfl f99) (v := .int .u64 (ix : Int)) (by simp [execOp, Act.eval, f2]) rfl (Below.refl _ _)
        refine ⟨fun x w hF ho => ?_, ?_⟩
        · obtain ⟨_, f99, rfl⟩ := hF.val 10 _ 99 (by kernel_rfl) rfl rfl
          obtain ⟨_, f100, rfl⟩ := hF.val 11 _ 100 (by kernel_rfl) rfl rfl
          refine step_call ho (wanted_some rfl rfl rfl f99) (f := 18) (args := #[.int .u64 (ix : Int)]) (by simp [execOp, Act.eval, f100, go_sem]) ?_
          refine (new_for ix (⟨0, ix + 1, 0, 0, 0⟩ : Pr) _ h4 rfl).mono ?_
          rintro e w' ⟨rfl, hb'⟩
          exact ⟨_, rfl, rfl, hb'⟩
        refine ⟨fun x w hF ho => ?_, ?_⟩
        · obtain ⟨_, f99, rfl⟩ := hF.val 10 _ 99 (by kernel_rfl) rfl rfl
          have f2 : x.tmps[2]? = some (.int .u64 (ix : Int)) := (hF.old 2 (no_dst (by kernel_rfl))).trans rfl
          exact step_val ho (wanted_some rfl rfl rfl f99) (v := .int .u64 (ix : Int)) (by simp [execOp, Act.eval, f2]) rfl (Below.refl _ _)
        refine ⟨fun x w hF ho => ?_, ?_⟩
        · obtain ⟨_, f99, rfl⟩ := hF.val 10 _ 99 (by kernel_rfl) rfl rfl
          obtain ⟨_, f102, rfl⟩ := hF.val 13 _ 102 (by kernel_rfl) rfl rfl
          exact step_val ho (wanted_some rfl rfl rfl f99) (v := .int .u64 ((ix + 1 : Nat) : Int)) (by simp [execOp, Act.eval, f102, go_sem, wx]) rfl (Below.refl _ _)
        refine ⟨fun x w hF ho => ?_, ?_⟩
        · obtain ⟨_, f99, rfl⟩ := hF.val 10 _ 99 (by kernel_rfl) rfl rfl
          obtain ⟨_, f103, rfl⟩ := hF.val 14 _ 103 (by kernel_rfl) rfl rfl
          exact step_val ho (wanted_some rfl rfl rfl f99) (v := Pr.val (⟨0, ix + 1, 0, 0, 0⟩ : Pr)) (by simp [execOp, Act.eval, f103, go_sem, Pr.val]) rfl (Below.refl _ _)
        refine ⟨fun x w hF ho => ?_, ?_⟩
        · obtain ⟨_, f99, rfl⟩ := hF.val 10 _ 99 (by kernel_rfl) rfl rfl
          obtain ⟨_, f101, rfl⟩ := hF.val 12 _ 101 (by kernel_rfl) rfl rfl
          obtain ⟨_, f104, rfl⟩ := hF.val 15 _ 104 (by kernel_rfl) rfl rfl
          exact step_val ho (wanted_some rfl rfl rfl f99) (v := .bool true) (by simp [execOp, Act.eval, f101, f104, go_sem, Pr.val]) rfl (Below.refl _ _)
        refine ⟨fun x w hF ho => ?_, ?_⟩
        · obtain ⟨_, f99, rfl⟩ := hF.val 10 _ 99 (by kernel_rfl) rfl rfl
          obtain ⟨_, f105, rfl⟩ := hF.val 16 _ 105 (by kernel_rfl) rfl rfl
          exact step_val ho (wanted_none rfl) (v := .bool true) (by simp [execOp, Act.eval, f99, f105, go_sem]) rfl (Below.refl _ _)
        refine ⟨fun x w hF ho => ?_, ?_⟩
        · obtain ⟨_, f106, rfl⟩ := hF.val 17 _ 106 (by kernel_rfl) rfl rfl
          exact step_val ho (wanted_none rfl) (v := .bool true) (by simp [execOp, Act.eval, f106]) rfl (Below.refl _ _)
        refine ⟨fun x w hF ho => ?_, ?_⟩
        · obtain ⟨_, f107, rfl⟩ := hF.val 18 _ 107 (by kernel_rfl) rfl rfl
          refine step_call ho (wanted_some rfl rfl rfl f107) (f := 9) (args := #[]) (by simp [execOp, Act.eval, go_sem]) ?_
          refine (awake_any w).mono ?_
          rintro e w' ⟨rfl, hb'⟩
          exact ⟨_, rfl, rfl, hb'⟩
        refine ⟨fun x w hF ho => ?_, ?_⟩
        · obtain ⟨_, f107, rfl⟩ := hF.val 18 _ 107 (by kernel_rfl) rfl rfl
          obtain ⟨_, f108, rfl⟩ := hF.val 19 _ 108 (by kernel_rfl) rfl rfl
          exact step_val ho (wanted_none rfl) (v := .bool true) (by simp [execOp, Act.eval, f107, f108, go_sem]) rfl (Below.refl _ _)
        refine ⟨fun x w hF ho => ?_, ?_⟩
        · obtain ⟨_, f109, rfl⟩ := hF.val 20 _ 109 (by kernel_rfl) rfl rfl
          exact step_val ho (wanted_none rfl) (v := .bool true) (by simp [execOp, Act.eval, f109]) rfl (Below.refl _ _)
        exact trivial
      intro W3 hd3
      have hb3 := hb.trans (hd3.mono hb.size)
      clear HP HR hb hd3
      simp only [putAll, List.toList_toArray, List.setIfInBounds_toArray, List.set_cons_succ, List.set_cons_zero]
      go_wp2_with fail
      go_returns
      exact ⟨rfl, hb3⟩

theorem progressTells_own : ownKnob Try.prog.godebug = none := by kernel_rfl
theorem progressTells_laidOut : laidOutB Try.prog = true := by kernel_rfl
set_option maxRecDepth 100000 in
theorem progressTells_lifted (os : Os) (started : os.Started) (H : Type) (enc : TypeId × Value → H) :
    ReturnsInHanded {} Try.checked os 3 .any (Rows.progressTellsSpec.pre6 enc Try.prog Try.f3 Rows.progressTellsRow.domain false) (Rows.progressTellsSpec.post enc Try.prog Try.f3 false true false false) := by
  refine returnsInHanded_of_change (C := Try.checked) progressTells_own started (by kernel_rfl) Try.func3
    (ChangeSpec.witness6 (enc := enc) (C := Try.checked) false ⟨#[], #[.agg #[.int .u64 0, .int .u64 0, .int .u64 0, .int .u64 0, .int .u8 0], .bool false, .int .u64 0, .int .u64 0, .int .u64 0, .int .u64 0, .int .u8 0], []⟩ 8 (by kernel_rfl) (by kernel_rfl) (by kernel_rfl) (by kernel_rfl)) ?_
  intro W base args ds gs before hval0 hW hcnd _
  have hval : ∀ (j : Nat) t v, Try.f3.params[j]? = some t → args[j]? = some v → Value.okWide Try.prog W .any base t v := hval0
  have hW' := hW
  obtain ⟨p, q, hA0, hV, rfl, hfz, hnd⟩ := hW
  have hA : DataW.TrodAll enc Try.prog W 0 (fun _ => true) true Try.f3.params.toList args.toList ds p := hA0
  rw [Try.params3] at hA hval
  obtain ⟨v0, vs0, d0, ds0, p0, q0, hargs, rfl, rfl, h0, r0⟩ := trodAll_cons hA
  obtain ⟨v1, vs1, d1, ds1, p1, q1, rfl, rfl, rfl, h1, r1⟩ := trodAll_cons r0
  obtain ⟨v2, vs2, d2, ds2, p2, q2, rfl, rfl, rfl, h2, r2⟩ := trodAll_cons r1
  obtain ⟨v3, vs3, d3, ds3, p3, q3, rfl, rfl, rfl, h3, r3⟩ := trodAll_cons r2
  obtain ⟨v4, vs4, d4, ds4, p4, q4, rfl, rfl, rfl, h4, r4⟩ := trodAll_cons r3
  obtain ⟨v5, vs5, d5, ds5, p5, q5, rfl, rfl, rfl, h5, r5⟩ := trodAll_cons r4
  obtain ⟨v6, vs6, d6, ds6, p6, q6, rfl, rfl, rfl, h6, r6⟩ := trodAll_cons r5
  obtain ⟨rfl, rfl, rfl⟩ := trodAll_nil r6
  obtain rfl : args = #[v0, v1, v2, v3, v4, v5, v6] := by cases args; simp_all
  obtain ⟨rfl, rfl⟩ := trodVars_none hV
  have k0 := h0
  have lt0 : ∀ x ∈ p0, x.block < W.heap.size := by obtain ⟨m, hm⟩ := k0; exact DataW.trod_lt m _ _ _ hm
  have k1 := h1
  have lt1 : ∀ x ∈ p1, x.block < W.heap.size := by obtain ⟨m, hm⟩ := k1; exact DataW.trod_lt m _ _ _ hm
  have k2 := h2
  have lt2 : ∀ x ∈ p2, x.block < W.heap.size := by obtain ⟨m, hm⟩ := k2; exact DataW.trod_lt m _ _ _ hm
  have k3 := h3
  have lt3 : ∀ x ∈ p3, x.block < W.heap.size := by obtain ⟨m, hm⟩ := k3; exact DataW.trod_lt m _ _ _ hm
  have k4 := h4
  have lt4 : ∀ x ∈ p4, x.block < W.heap.size := by obtain ⟨m, hm⟩ := k4; exact DataW.trod_lt m _ _ _ hm
  have k5 := h5
  have lt5 : ∀ x ∈ p5, x.block < W.heap.size := by obtain ⟨m, hm⟩ := k5; exact DataW.trod_lt m _ _ _ hm
  have k6 := h6
  have lt6 : ∀ x ∈ p6, x.block < W.heap.size := by obtain ⟨m, hm⟩ := k6; exact DataW.trod_lt m _ _ _ hm
  obtain ⟨P0, rfl, _⟩ := open_peer (hval 0 24 v0 rfl rfl) h0
  obtain ⟨m, n, pr, ps, pc⟩ := P0
  obtain ⟨ok, rfl, rfl, rfl⟩ := open_bool Try.underlying4 (hval 1 4 v1 rfl rfl) h1
  obtain ⟨a2, rfl, rfl, rfl, w2⟩ := open_int Try.underlying22 (hval 2 22 v2 rfl rfl) h2
  obtain ⟨a3, rfl, rfl, rfl, w3⟩ := open_int Try.underlying22 (hval 3 22 v3 rfl rfl) h3
  obtain ⟨a4, rfl, rfl, rfl, w4⟩ := open_int Try.underlying22 (hval 4 22 v4 rfl rfl) h4
  obtain ⟨a5, rfl, rfl, rfl, w5⟩ := open_int Try.underlying22 (hval 5 22 v5 rfl rfl) h5
  obtain ⟨a6, rfl, rfl, rfl, w6⟩ := open_int Try.underlying5 (hval 6 5 v6 rfl rfl) h6
  have b2 := bounds_u64 w2
  have b3 := bounds_u64 w3
  have b4 := bounds_u64 w4
  have b5 := bounds_u64 w5
  have b6 := bounds_u8 w6
  obtain ⟨n2, rfl⟩ : ∃ n : Nat, a2 = (n : Int) := ⟨a2.toNat, by omega⟩
  obtain ⟨n3, rfl⟩ : ∃ n : Nat, a3 = (n : Int) := ⟨a3.toNat, by omega⟩
  obtain ⟨n4, rfl⟩ : ∃ n : Nat, a4 = (n : Int) := ⟨a4.toNat, by omega⟩
  obtain ⟨n5, rfl⟩ : ∃ n : Nat, a5 = (n : Int) := ⟨a5.toNat, by omega⟩
  obtain ⟨n6, rfl⟩ : ∃ n : Nat, a6 = (n : Int) := ⟨a6.toNat, by omega⟩
  clear hA0 hval0
  clear hcnd
  refine (tells_any m n pr ps pc ok n2 n3 n4 n5 n6 W (by omega)).mono fun e W' ⟨he, bel⟩ => ?_
  subst he
  exact ⟨_, rfl, _, _, _, [], _, [], hW', trodAll_mk1 (shut_bool Try.underlying4 _), (trodAll_cons_mk (Below.trod progressTells_laidOut (by kernel_rfl) (of_decide_eq_true (by kernel_rfl)) k0 bel lt0) (trodAll_cons_mk (Below.trod progressTells_laidOut (by kernel_rfl) (of_decide_eq_true (by kernel_rfl)) k1 bel lt1) (trodAll_cons_mk (Below.trod progressTells_laidOut (by kernel_rfl) (of_decide_eq_true (by kernel_rfl)) k2 bel lt2) (trodAll_cons_mk (Below.trod progressTells_laidOut (by kernel_rfl) (of_decide_eq_true (by kernel_rfl)) k3 bel lt3) (trodAll_cons_mk (Below.trod progressTells_laidOut (by kernel_rfl) (of_decide_eq_true (by kernel_rfl)) k4 bel lt4) (trodAll_cons_mk (Below.trod progressTells_laidOut (by kernel_rfl) (of_decide_eq_true (by kernel_rfl)) k5 bel lt5) (trodAll_cons_mk (Below.trod progressTells_laidOut (by kernel_rfl) (of_decide_eq_true (by kernel_rfl)) k6 bel lt6) trodAll_mk0))))))), rfl, bel.frame _, fun h => by cases h⟩

theorem progressTells_over : Rows.progressTellsRow.holds Try.pinned (OpenSpec.ofChange Rows.progressTellsSpec) :=
  OpenClaim.holds_of_wide 3 Try.f3 rfl rfl rfl rfl rfl rfl rfl ⟨rfl, rfl, rfl, rfl, rfl⟩ rfl rfl rfl rfl rfl (by kernel_rfl) Try.func3 (by kernel_rfl)
    (of_decide_eq_true (by kernel_rfl)) (by unfold Func.isWrapper; first | (rw [if_pos (by decide +kernel)]; kernel_rfl) | (rw [if_neg (by decide +kernel)]; exact ⟨rfl, rfl⟩))
    (fun os started H enc _ => progressTells_lifted os started H enc)

/-- The given statement. -/
theorem progressTells_proved : Rows.ProgressTellsSaid := progressTells_over
#print axioms progressTells_proved
end Go.Proofs.Ytopmfjgifabdmaa
