/- ProgressKnown: the chapter's examples. The walk and the proved row; no condition. -/
import Derived.Test.YtopmfjgifabdmaaRows
import Derived.Test.YtopmfjgifabdmaaRef
import Derived.Test.YtopmfjgifabdmaaRegion
import Derived.ProofKit
import Derived.OpenShut
namespace Go.Proofs.Ytopmfjgifabdmaa
open Go.ChangeShapes Go.WideShapes Go.ChangeAt Go.RowKit

set_option maxRecDepth 100000 in
set_option maxHeartbeats 2000000 in
theorem known_any (w : World) : Calls Try.prog 4 #[] w fun e w' => e = .returned (.bool true) ∧ Below w.heap.size w w' := by
  have hb_0 := Below.refl w.heap.size w
  go_enter Try.func4, Try.ntmps4
  go_wp2_with fail
  refine (new_for 7 (⟨0, 8, 0, 0, 0⟩ : Pr) _ (by omega) rfl).mono ?_
  rintro e w1 ⟨rfl, d1⟩
  have hb_1 := blw_trans hb_0 d1
  clear d1 hb_0 
  simp only [Pr.val]
  go_wp2_with fail
  have hb_2 := hb_1.alloc hb_1.size (.cells #[.int .u64 0, .int .u64 8, .int .u64 0, .int .u64 0, .int .u8 0] 24)
  have hp_2 : PrAt (w1.alloc (.cells #[.int .u64 0, .int .u64 8, .int .u64 0, .int .u64 0, .int .u8 0] 24)) w1.heap.size (⟨0, 8, 0, 0, 0⟩ : Pr) := heap_alloc_last w1 _
  clear hb_1 
  generalize w1.alloc (.cells #[.int .u64 0, .int .u64 8, .int .u64 0, .int .u64 0, .int .u8 0] 24) = w2 at hb_2 hp_2 ⊢
  generalize w1.heap.size = gp at hp_2 ⊢
  refine (told_for (⟨0, 8, 0, 0, 0⟩ : Pr) true 9 3 (⟨9, 10, 3, 0, 0⟩ : Pr) _ ⟨by show (0 : Nat) < _; omega, by show (8 : Nat) < _; omega, by show (0 : Nat) < _; omega⟩ (by omega) rfl).mono ?_
  rintro e w3 ⟨rfl, d3⟩
  have hp_3 := hp_2.below d3
  have hb_3 := blw_trans hb_2 d3
  clear d3 hb_2 hp_2
  simp only [Pr.val]
  go_wp2_with fail
  have hb_4 := hb_3.alloc hb_3.size (.cells #[.int .u64 9, .int .u64 10, .int .u64 3, .int .u64 0, .int .u8 0] 24)
  have ha_4 : PrAt (w3.alloc (.cells #[.int .u64 9, .int .u64 10, .int .u64 3, .int .u64 0, .int .u8 0] 24)) w3.heap.size (⟨9, 10, 3, 0, 0⟩ : Pr) := heap_alloc_last w3 _
  have hp_4 := hp_3.below (below_alloc w3 (.cells #[.int .u64 9, .int .u64 10, .int .u64 3, .int .u64 0, .int .u8 0] 24))
  clear hb_3 hp_3
  generalize w3.alloc (.cells #[.int .u64 9, .int .u64 10, .int .u64 3, .int .u64 0, .int .u8 0] 24) = w4 at hb_4 hp_4 ha_4 ⊢
  generalize w3.heap.size = ga at ha_4 ⊢
  refine (new_for 0 (⟨0, 1, 0, 0, 0⟩ : Pr) _ (by omega) rfl).mono ?_
  rintro e w5 ⟨rfl, d5⟩
  have hp_5 := hp_4.below d5
  have ha_5 := ha_4.below d5
  have hb_5 := blw_trans hb_4 d5
  clear d5 hb_4 hp_4 ha_4
  go_wp2_with fail
  refine (send_for (⟨0, 1, 0, 0, 0⟩ : Pr) 6 (⟨0, 1, 0, 6, 0⟩ : Pr) _ rfl).mono ?_
  rintro e w6 ⟨rfl, d6⟩
  have hp_6 := hp_5.below d6
  have ha_6 := ha_5.below d6
  have hb_6 := blw_trans hb_5 d6
  clear d6 hb_5 hp_5 ha_5
  simp only [Pr.val]
  go_wp2_with fail
  have hb_7 := hb_6.alloc hb_6.size (.cells #[.int .u64 0, .int .u64 1, .int .u64 0, .int .u64 6, .int .u8 0] 24)
  have hs_7 : PrAt (w6.alloc (.cells #[.int .u64 0, .int .u64 1, .int .u64 0, .int .u64 6, .int .u8 0] 24)) w6.heap.size (⟨0, 1, 0, 6, 0⟩ : Pr) := heap_alloc_last w6 _
  have hp_7 := hp_6.below (below_alloc w6 (.cells #[.int .u64 0, .int .u64 1, .int .u64 0, .int .u64 6, .int .u8 0] 24))
  have ha_7 := ha_6.below (below_alloc w6 (.cells #[.int .u64 0, .int .u64 1, .int .u64 0, .int .u64 6, .int .u8 0] 24))
  clear hb_6 hp_6 ha_6
  generalize w6.alloc (.cells #[.int .u64 0, .int .u64 1, .int .u64 0, .int .u64 6, .int .u8 0] 24) = w7 at hb_7 hp_7 ha_7 hs_7 ⊢
  generalize w6.heap.size = gs at hs_7 ⊢
  refine (sect_for (⟨0, 1, 0, 6, 0⟩ : Pr) 6 5 (⟨0, 1, 0, 6, 0⟩ : Pr) _ (by omega) rfl).mono ?_
  rintro e w8 ⟨rfl, d8⟩
  have hp_8 := hp_7.below d8
  have ha_8 := ha_7.below d8
  have hs_8 := hs_7.below d8
  have hb_8 := blw_trans hb_7 d8
  clear d8 hb_7 hp_7 ha_7 hs_7
  simp only [Pr.val]
  have lt_s := lt_of_block hs_8
  obtain ⟨c0_s, c1_s, c2_s, c3_s, c4_s⟩ := hs_8.cells
  go_wp2_with fail
  have hb_9 := hb_8.alloc hb_8.size (.cells #[.int .u64 0, .int .u64 1, .int .u64 0, .int .u64 6, .int .u8 0] 24)
  have ht_9 : PrAt (w8.alloc (.cells #[.int .u64 0, .int .u64 1, .int .u64 0, .int .u64 6, .int .u8 0] 24)) w8.heap.size (⟨0, 1, 0, 6, 0⟩ : Pr) := heap_alloc_last w8 _
  have hp_9 := hp_8.below (below_alloc w8 (.cells #[.int .u64 0, .int .u64 1, .int .u64 0, .int .u64 6, .int .u8 0] 24))
  have ha_9 := ha_8.below (below_alloc w8 (.cells #[.int .u64 0, .int .u64 1, .int .u64 0, .int .u64 6, .int .u8 0] 24))
  have hs_9 := hs_8.below (below_alloc w8 (.cells #[.int .u64 0, .int .u64 1, .int .u64 0, .int .u64 6, .int .u8 0] 24))
  clear hb_8 hp_8 ha_8 hs_8
  generalize w8.alloc (.cells #[.int .u64 0, .int .u64 1, .int .u64 0, .int .u64 6, .int .u8 0] 24) = w9 at hb_9 hp_9 ha_9 hs_9 ht_9 ⊢
  generalize w8.heap.size = gt at ht_9 ⊢
  clear c0_s c1_s c2_s c3_s c4_s lt_s
  refine (sect_for (⟨0, 1, 0, 6, 0⟩ : Pr) 5 3 (⟨0, 1, 0, 6, 0⟩ : Pr) _ (by omega) rfl).mono ?_
  rintro e w10 ⟨rfl, d10⟩
  have hp_10 := hp_9.below d10
  have ha_10 := ha_9.below d10
  have hs_10 := hs_9.below d10
  have ht_10 := ht_9.below d10
  have hb_10 := blw_trans hb_9 d10
  clear d10 hb_9 hp_9 ha_9 hs_9 ht_9
  simp only [Pr.val]
  have lt_s := lt_of_block hs_10
  obtain ⟨c0_s, c1_s, c2_s, c3_s, c4_s⟩ := hs_10.cells
  go_wp2_with fail
  have hb_11 := hb_10.alloc hb_10.size (.cells #[.int .u64 0, .int .u64 1, .int .u64 0, .int .u64 6, .int .u8 0] 24)
  have hu_11 : PrAt (w10.alloc (.cells #[.int .u64 0, .int .u64 1, .int .u64 0, .int .u64 6, .int .u8 0] 24)) w10.heap.size (⟨0, 1, 0, 6, 0⟩ : Pr) := heap_alloc_last w10 _
  have hp_11 := hp_10.below (below_alloc w10 (.cells #[.int .u64 0, .int .u64 1, .int .u64 0, .int .u64 6, .int .u8 0] 24))
  have ha_11 := ha_10.below (below_alloc w10 (.cells #[.int .u64 0, .int .u64 1, .int .u64 0, .int .u64 6, .int .u8 0] 24))
  have hs_11 := hs_10.below (below_alloc w10 (.cells #[.int .u64 0, .int .u64 1, .int .u64 0, .int .u64 6, .int .u8 0] 24))
  have ht_11 := ht_10.below (below_alloc w10 (.cells #[.int .u64 0, .int .u64 1, .int .u64 0, .int .u64 6, .int .u8 0] 24))
  clear hb_10 hp_10 ha_10 hs_10 ht_10
  generalize w10.alloc (.cells #[.int .u64 0, .int .u64 1, .int .u64 0, .int .u64 6, .int .u8 0] 24) = w11 at hb_11 hp_11 ha_11 hs_11 ht_11 hu_11 ⊢
  generalize w10.heap.size = gu at hu_11 ⊢
  clear c0_s c1_s c2_s c3_s c4_s lt_s
  refine (sect_for (⟨0, 1, 0, 6, 0⟩ : Pr) 6 1 (⟨0, 1, 0, 6, 1⟩ : Pr) _ (by omega) rfl).mono ?_
  rintro e w12 ⟨rfl, d12⟩
  have hp_12 := hp_11.below d12
  have ha_12 := ha_11.below d12
  have hs_12 := hs_11.below d12
  have ht_12 := ht_11.below d12
  have hu_12 := hu_11.below d12
  have hb_12 := blw_trans hb_11 d12
  clear d12 hb_11 hp_11 ha_11 hs_11 ht_11 hu_11
  simp only [Pr.val]
  go_wp2_with fail
  have hb_13 := hb_12.alloc hb_12.size (.cells #[.int .u64 0, .int .u64 1, .int .u64 0, .int .u64 6, .int .u8 1] 24)
  have hv_13 : PrAt (w12.alloc (.cells #[.int .u64 0, .int .u64 1, .int .u64 0, .int .u64 6, .int .u8 1] 24)) w12.heap.size (⟨0, 1, 0, 6, 1⟩ : Pr) := heap_alloc_last w12 _
  have hp_13 := hp_12.below (below_alloc w12 (.cells #[.int .u64 0, .int .u64 1, .int .u64 0, .int .u64 6, .int .u8 1] 24))
  have ha_13 := ha_12.below (below_alloc w12 (.cells #[.int .u64 0, .int .u64 1, .int .u64 0, .int .u64 6, .int .u8 1] 24))
  have hs_13 := hs_12.below (below_alloc w12 (.cells #[.int .u64 0, .int .u64 1, .int .u64 0, .int .u64 6, .int .u8 1] 24))
  have ht_13 := ht_12.below (below_alloc w12 (.cells #[.int .u64 0, .int .u64 1, .int .u64 0, .int .u64 6, .int .u8 1] 24))
  have hu_13 := hu_12.below (below_alloc w12 (.cells #[.int .u64 0, .int .u64 1, .int .u64 0, .int .u64 6, .int .u8 1] 24))
  clear hb_12 hp_12 ha_12 hs_12 ht_12 hu_12
  generalize w12.alloc (.cells #[.int .u64 0, .int .u64 1, .int .u64 0, .int .u64 6, .int .u8 1] 24) = w13 at hb_13 hp_13 ha_13 hs_13 ht_13 hu_13 hv_13 ⊢
  generalize w12.heap.size = gv at hv_13 ⊢
  refine wp_region_steps (by kernel_rfl) (by kernel_rfl) (by kernel_rfl) [fun v _ => v = Pr.val (⟨0, 8, 0, 0, 0⟩ : Pr), fun v _ => v = Pr.val (⟨0, 8, 0, 0, 0⟩ : Pr), fun v _ => v = .bool true, fun v _ => v = .bool true, fun v _ => v = Pr.val (⟨9, 10, 3, 0, 0⟩ : Pr), fun v _ => v = Pr.val (⟨9, 10, 3, 0, 0⟩ : Pr), fun v _ => v = .bool true, fun v _ => v = .bool true, fun v _ => v = .bool true, fun v _ => v = Pr.val (⟨9, 10, 3, 0, 0⟩ : Pr), fun v _ => v = Pr.val (⟨9, 10, 3, 0, 0⟩ : Pr), fun v _ => v = Pr.val (⟨9, 10, 3, 0, 0⟩ : Pr), fun v _ => v = .bool true, fun v _ => v = .bool true, fun v _ => v = .bool true, fun v _ => v = Pr.val (⟨0, 1, 0, 6, 0⟩ : Pr), fun v _ => v = Pr.val (⟨0, 1, 0, 6, 0⟩ : Pr), fun v _ => v = Pr.val (⟨0, 1, 0, 6, 0⟩ : Pr), fun v _ => v = .bool true, fun v _ => v = .bool true, fun v _ => v = .bool true, fun v _ => v = Pr.val (⟨0, 1, 0, 6, 1⟩ : Pr), fun v _ => v = Pr.val (⟨0, 1, 0, 7, 0⟩ : Pr), fun v _ => v = Pr.val (⟨0, 1, 0, 7, 0⟩ : Pr), fun v _ => v = .bool true, fun v _ => v = .bool true, fun v _ => v = .bool true, fun v _ => v = Pr.val (⟨0, 1, 0, 6, 0⟩ : Pr), fun v _ => v = Pr.val (⟨0, 1, 0, 6, 0⟩ : Pr), fun v _ => v = .bool true, fun v _ => v = .bool true, fun v _ => v = .bool true, fun v _ => v = Pr.val (⟨0, 1, 0, 6, 0⟩ : Pr), fun v _ => v = Pr.val (⟨0, 1, 0, 6, 0⟩ : Pr), fun v _ => v = .bool true, fun v _ => v = .bool true, fun v _ => v = .bool true, fun v _ => v = .pointer (some ⟨gv, 4, none⟩), fun v _ => v = .int .u8 ((1 : Nat) : Int), fun v _ => v = .bool true, fun v _ => v = .bool true, fun v _ => v = .bool true, fun v _ => v = Pr.val (⟨0, 1, 0, 6, 1⟩ : Pr), fun v _ => v = Pr.val (⟨6, 7, 0, 0, 0⟩ : Pr), fun v _ => v = Pr.val (⟨6, 7, 0, 0, 0⟩ : Pr), fun v _ => v = .bool true, fun v _ => v = .bool true, fun v _ => v = .bool true, fun v _ => v = Pr.val (⟨0, 1, 0, 6, 1⟩ : Pr), fun v _ => v = Pr.val (⟨5, 6, 0, 6, 1⟩ : Pr), fun v _ => v = .int .u8 ((1 : Nat) : Int), fun v _ => v = .bool true, fun v _ => v = .bool true, fun v _ => v = .bool true, fun v _ => v = Pr.val (⟨0, 8, 0, 0, 0⟩ : Pr), fun v _ => v = Pr.val (⟨0, 8, 0, 0, 0⟩ : Pr), fun v _ => v = Pr.val (⟨0, 8, 0, 0, 0⟩ : Pr), fun v _ => v = .bool true, fun v _ => v = .bool true, fun v _ => v = .bool true, fun v _ => v = .bool true, fun v _ => v = .bool true, fun v _ => v = .bool true] ?_ ?_ ?_
  · intro p hp v w w' _ h
    simp only [List.mem_cons, List.not_mem_nil, or_false] at hp
    rcases hp with rfl | rfl | rfl | rfl | rfl | rfl | rfl | rfl | rfl | rfl | rfl | rfl | rfl | rfl | rfl | rfl | rfl | rfl | rfl | rfl | rfl | rfl | rfl | rfl | rfl | rfl | rfl | rfl | rfl | rfl | rfl | rfl | rfl | rfl | rfl | rfl | rfl | rfl | rfl | rfl | rfl | rfl | rfl | rfl | rfl | rfl | rfl | rfl | rfl | rfl | rfl | rfl | rfl | rfl | rfl | rfl | rfl | rfl | rfl | rfl | rfl | rfl | rfl <;> exact h
  · refine ⟨fun x w hF ho => ?_, ?_⟩
    · have f1 : x.tmps[1]? = some (.pointer (some ⟨gp, 0, none⟩)) := (hF.old 1 (no_dst (by kernel_rfl))).trans rfl
      obtain ⟨c0, c1, c2, c3, c4⟩ := (hp_13.below hF.world).cells
      exact step_val ho (wanted_none rfl) (v := Pr.val (⟨0, 8, 0, 0, 0⟩ : Pr)) (by simp [execOp, Act.eval, f1, go_sem, c0, c1, c2, c3, c4, Pr.val]) rfl (Below.refl _ _)
    refine ⟨fun x w hF ho => ?_, ?_⟩
    · exact step_val ho (wanted_none rfl) (v := Pr.val (⟨0, 8, 0, 0, 0⟩ : Pr)) (by simp [execOp, Act.eval, go_sem, Pr.val]) rfl (Below.refl _ _)
    refine ⟨fun x w hF ho => ?_, ?_⟩
    · obtain ⟨_, f18, rfl⟩ := hF.val 0 _ 18 (by kernel_rfl) rfl rfl
      obtain ⟨_, f19, rfl⟩ := hF.val 1 _ 19 (by kernel_rfl) rfl rfl
      exact step_val ho (wanted_none rfl) (v := .bool true) (by simp [execOp, Act.eval, f18, f19, go_sem, Pr.val]) rfl (Below.refl _ _)
    refine ⟨fun x w hF ho => ?_, ?_⟩
    · obtain ⟨_, f20, rfl⟩ := hF.val 2 _ 20 (by kernel_rfl) rfl rfl
      exact step_val ho (wanted_none rfl) (v := .bool true) (by simp [execOp, Act.eval, f20]) rfl (Below.refl _ _)
    refine ⟨fun x w hF ho => ?_, ?_⟩
    · obtain ⟨_, f21, rfl⟩ := hF.val 3 _ 21 (by kernel_rfl) rfl rfl
      have f2 : x.tmps[2]? = some (.pointer (some ⟨ga, 0, none⟩)) := (hF.old 2 (no_dst (by kernel_rfl))).trans rfl
      obtain ⟨c0, c1, c2, c3, c4⟩ := (ha_13.below hF.world).cells
      exact step_val ho (wanted_some rfl rfl rfl f21) (v := Pr.val (⟨9, 10, 3, 0, 0⟩ : Pr)) (by simp [execOp, Act.eval, f2, go_sem, c0, c1, c2, c3, c4, Pr.val]) rfl (Below.refl _ _)
    refine ⟨fun x w hF ho => ?_, ?_⟩
    · obtain ⟨_, f21, rfl⟩ := hF.val 3 _ 21 (by kernel_rfl) rfl rfl
      exact step_val ho (wanted_some rfl rfl rfl f21) (v := Pr.val (⟨9, 10, 3, 0, 0⟩ : Pr)) (by simp [execOp, Act.eval, go_sem, Pr.val]) rfl (Below.refl _ _)
    refine ⟨fun x w hF ho => ?_, ?_⟩
    · obtain ⟨_, f21, rfl⟩ := hF.val 3 _ 21 (by kernel_rfl) rfl rfl
      obtain ⟨_, f22, rfl⟩ := hF.val 4 _ 22 (by kernel_rfl) rfl rfl
      obtain ⟨_, f23, rfl⟩ := hF.val 5 _ 23 (by kernel_rfl) rfl rfl
      exact step_val ho (wanted_some rfl rfl rfl f21) (v := .bool true) (by simp [execOp, Act.eval, f22, f23, go_sem, Pr.val]) rfl (Below.refl _ _)
    refine ⟨fun x w hF ho => ?_, ?_⟩
    · obtain ⟨_, f21, rfl⟩ := hF.val 3 _ 21 (by kernel_rfl) rfl rfl
      obtain ⟨_, f24, rfl⟩ := hF.val 6 _ 24 (by kernel_rfl) rfl rfl
      exact step_val ho (wanted_none rfl) (v := .bool true) (by simp [execOp, Act.eval, f21, f24, go_sem]) rfl (Below.refl _ _)
    refine ⟨fun x w hF ho => ?_, ?_⟩
    · obtain ⟨_, f25, rfl⟩ := hF.val 7 _ 25 (by kernel_rfl) rfl rfl
      exact step_val ho (wanted_none rfl) (v := .bool true) (by simp [execOp, Act.eval, f25]) rfl (Below.refl _ _)
    refine ⟨fun x w hF ho => ?_, ?_⟩
    · obtain ⟨_, f26, rfl⟩ := hF.val 8 _ 26 (by kernel_rfl) rfl rfl
      have f2 : x.tmps[2]? = some (.pointer (some ⟨ga, 0, none⟩)) := (hF.old 2 (no_dst (by kernel_rfl))).trans rfl
      obtain ⟨c0, c1, c2, c3, c4⟩ := (ha_13.below hF.world).cells
      exact step_val ho (wanted_some rfl rfl rfl f26) (v := Pr.val (⟨9, 10, 3, 0, 0⟩ : Pr)) (by simp [execOp, Act.eval, f2, go_sem, c0, c1, c2, c3, c4, Pr.val]) rfl (Below.refl _ _)
    refine ⟨fun x w hF ho => ?_, ?_⟩
    · obtain ⟨_, f26, rfl⟩ := hF.val 8 _ 26 (by kernel_rfl) rfl rfl
      obtain ⟨_, f27, rfl⟩ := hF.val 9 _ 27 (by kernel_rfl) rfl rfl
      refine step_call ho (wanted_some rfl rfl rfl f26) (f := 11) (args := #[Pr.val (⟨9, 10, 3, 0, 0⟩ : Pr), .bool false, .int .u64 ((4 : Nat) : Int), .int .u64 ((2 : Nat) : Int)]) (by simp [execOp, Act.eval, f27, go_sem]) ?_
      refine (told_for (⟨9, 10, 3, 0, 0⟩ : Pr) false 4 2 (⟨9, 10, 3, 0, 0⟩ : Pr) _ ⟨by show (9 : Nat) < _; omega, by show (10 : Nat) < _; omega, by show (0 : Nat) < _; omega⟩ (by omega) rfl).mono ?_
      rintro e w' ⟨rfl, hb'⟩
      exact ⟨_, rfl, rfl, hb'⟩
    refine ⟨fun x w hF ho => ?_, ?_⟩
    · obtain ⟨_, f26, rfl⟩ := hF.val 8 _ 26 (by kernel_rfl) rfl rfl
      have f2 : x.tmps[2]? = some (.pointer (some ⟨ga, 0, none⟩)) := (hF.old 2 (no_dst (by kernel_rfl))).trans rfl
      obtain ⟨c0, c1, c2, c3, c4⟩ := (ha_13.below hF.world).cells
      exact step_val ho (wanted_some rfl rfl rfl f26) (v := Pr.val (⟨9, 10, 3, 0, 0⟩ : Pr)) (by simp [execOp, Act.eval, f2, go_sem, c0, c1, c2, c3, c4, Pr.val]) rfl (Below.refl _ _)
    refine ⟨fun x w hF ho => ?_, ?_⟩
    · obtain ⟨_, f26, rfl⟩ := hF.val 8 _ 26 (by kernel_rfl) rfl rfl
      obtain ⟨_, f28, rfl⟩ := hF.val 10 _ 28 (by kernel_rfl) rfl rfl
      obtain ⟨_, f29, rfl⟩ := hF.val 11 _ 29 (by kernel_rfl) rfl rfl
      exact step_val ho (wanted_some rfl rfl rfl f26) (v := .bool true) (by simp [execOp, Act.eval, f28, f29, go_sem, Pr.val]) rfl (Below.refl _ _)
    refine ⟨fun x w hF ho => ?_, ?_⟩
    · obtain ⟨_, f26, rfl⟩ := hF.val 8 _ 26 (by kernel_rfl) rfl rfl
      obtain ⟨_, f30, rfl⟩ := hF.val 12 _ 30 (by kernel_rfl) rfl rfl
      exact step_val ho (wanted_none rfl) (v := .bool true) (by simp [execOp, Act.eval, f26, f30, go_sem]) rfl (Below.refl _ _)
    refine ⟨fun x w hF ho => ?_, ?_⟩
    · obtain ⟨_, f31, rfl⟩ := hF.val 13 _ 31 (by kernel_rfl) rfl rfl
      exact step_val ho (wanted_none rfl) (v := .bool true) (by simp [execOp, Act.eval, f31]) rfl (Below.refl _ _)
    refine ⟨fun x w hF ho => ?_, ?_⟩
    · obtain ⟨_, f32, rfl⟩ := hF.val 14 _ 32 (by kernel_rfl) rfl rfl
      have f3 : x.tmps[3]? = some (.pointer (some ⟨gs, 0, none⟩)) := (hF.old 3 (no_dst (by kernel_rfl))).trans rfl
      obtain ⟨c0, c1, c2, c3, c4⟩ := (hs_13.below hF.world).cells
      exact step_val ho (wanted_some rfl rfl rfl f32) (v := Pr.val (⟨0, 1, 0, 6, 0⟩ : Pr)) (by simp [execOp, Act.eval, f3, go_sem, c0, c1, c2, c3, c4, Pr.val]) rfl (Below.refl _ _)
    refine ⟨fun x w hF ho => ?_, ?_⟩
    · obtain ⟨_, f32, rfl⟩ := hF.val 14 _ 32 (by kernel_rfl) rfl rfl
      obtain ⟨_, f33, rfl⟩ := hF.val 15 _ 33 (by kernel_rfl) rfl rfl
      refine step_call ho (wanted_some rfl rfl rfl f32) (f := 13) (args := #[Pr.val (⟨0, 1, 0, 6, 0⟩ : Pr), .int .u64 ((6 : Nat) : Int)]) (by simp [execOp, Act.eval, f33, go_sem]) ?_
      refine (send_for (⟨0, 1, 0, 6, 0⟩ : Pr) 6 (⟨0, 1, 0, 6, 0⟩ : Pr) _ rfl).mono ?_
      rintro e w' ⟨rfl, hb'⟩
      exact ⟨_, rfl, rfl, hb'⟩
    refine ⟨fun x w hF ho => ?_, ?_⟩
    · obtain ⟨_, f32, rfl⟩ := hF.val 14 _ 32 (by kernel_rfl) rfl rfl
      have f3 : x.tmps[3]? = some (.pointer (some ⟨gs, 0, none⟩)) := (hF.old 3 (no_dst (by kernel_rfl))).trans rfl
      obtain ⟨c0, c1, c2, c3, c4⟩ := (hs_13.below hF.world).cells
      exact step_val ho (wanted_some rfl rfl rfl f32) (v := Pr.val (⟨0, 1, 0, 6, 0⟩ : Pr)) (by simp [execOp, Act.eval, f3, go_sem, c0, c1, c2, c3, c4, Pr.val]) rfl (Below.refl _ _)
    refine ⟨fun x w hF ho => ?_, ?_⟩
    · obtain ⟨_, f32, rfl⟩ := hF.val 14 _ 32 (by kernel_rfl) rfl rfl
      obtain ⟨_, f34, rfl⟩ := hF.val 16 _ 34 (by kernel_rfl) rfl rfl
      obtain ⟨_, f35, rfl⟩ := hF.val 17 _ 35 (by kernel_rfl) rfl rfl
      exact step_val ho (wanted_some rfl rfl rfl f32) (v := .bool true) (by simp [execOp, Act.eval, f34, f35, go_sem, Pr.val]) rfl (Below.refl _ _)
    refine ⟨fun x w hF ho => ?_, ?_⟩
    · obtain ⟨_, f32, rfl⟩ := hF.val 14 _ 32 (by kernel_rfl) rfl rfl
      obtain ⟨_, f36, rfl⟩ := hF.val 18 _ 36 (by kernel_rfl) rfl rfl
      exact step_val ho (wanted_none rfl) (v := .bool true) (by simp [execOp, Act.eval, f32, f36, go_sem]) rfl (Below.refl _ _)
    refine ⟨fun x w hF ho => ?_, ?_⟩
    · obtain ⟨_, f37, rfl⟩ := hF.val 19 _ 37 (by kernel_rfl) rfl rfl
      exact step_val ho (wanted_none rfl) (v := .bool true) (by simp [execOp, Act.eval, f37]) rfl (Below.refl _ _)
    refine ⟨fun x w hF ho => ?_, ?_⟩
    · obtain ⟨_, f38, rfl⟩ := hF.val 20 _ 38 (by kernel_rfl) rfl rfl
      have f6 : x.tmps[6]? = some (.pointer (some ⟨gv, 0, none⟩)) := (hF.old 6 (no_dst (by kernel_rfl))).trans rfl
      obtain ⟨c0, c1, c2, c3, c4⟩ := (hv_13.below hF.world).cells
      exact step_val ho (wanted_some rfl rfl rfl f38) (v := Pr.val (⟨0, 1, 0, 6, 1⟩ : Pr)) (by simp [execOp, Act.eval, f6, go_sem, c0, c1, c2, c3, c4, Pr.val]) rfl (Below.refl _ _)
    refine ⟨fun x w hF ho => ?_, ?_⟩
    · obtain ⟨_, f38, rfl⟩ := hF.val 20 _ 38 (by kernel_rfl) rfl rfl
      obtain ⟨_, f39, rfl⟩ := hF.val 21 _ 39 (by kernel_rfl) rfl rfl
      refine step_call ho (wanted_some rfl rfl rfl f38) (f := 13) (args := #[Pr.val (⟨0, 1, 0, 6, 1⟩ : Pr), .int .u64 ((7 : Nat) : Int)]) (by simp [execOp, Act.eval, f39, go_sem]) ?_
      refine (send_for (⟨0, 1, 0, 6, 1⟩ : Pr) 7 (⟨0, 1, 0, 7, 0⟩ : Pr) _ rfl).mono ?_
      rintro e w' ⟨rfl, hb'⟩
      exact ⟨_, rfl, rfl, hb'⟩
    refine ⟨fun x w hF ho => ?_, ?_⟩
    · obtain ⟨_, f38, rfl⟩ := hF.val 20 _ 38 (by kernel_rfl) rfl rfl
      exact step_val ho (wanted_some rfl rfl rfl f38) (v := Pr.val (⟨0, 1, 0, 7, 0⟩ : Pr)) (by simp [execOp, Act.eval, go_sem, Pr.val]) rfl (Below.refl _ _)
    refine ⟨fun x w hF ho => ?_, ?_⟩
    · obtain ⟨_, f38, rfl⟩ := hF.val 20 _ 38 (by kernel_rfl) rfl rfl
      obtain ⟨_, f40, rfl⟩ := hF.val 22 _ 40 (by kernel_rfl) rfl rfl
      obtain ⟨_, f41, rfl⟩ := hF.val 23 _ 41 (by kernel_rfl) rfl rfl
      exact step_val ho (wanted_some rfl rfl rfl f38) (v := .bool true) (by simp [execOp, Act.eval, f40, f41, go_sem, Pr.val]) rfl (Below.refl _ _)
    refine ⟨fun x w hF ho => ?_, ?_⟩
    · obtain ⟨_, f38, rfl⟩ := hF.val 20 _ 38 (by kernel_rfl) rfl rfl
      obtain ⟨_, f42, rfl⟩ := hF.val 24 _ 42 (by kernel_rfl) rfl rfl
      exact step_val ho (wanted_none rfl) (v := .bool true) (by simp [execOp, Act.eval, f38, f42, go_sem]) rfl (Below.refl _ _)
    refine ⟨fun x w hF ho => ?_, ?_⟩
    · obtain ⟨_, f43, rfl⟩ := hF.val 25 _ 43 (by kernel_rfl) rfl rfl
      exact step_val ho (wanted_none rfl) (v := .bool true) (by simp [execOp, Act.eval, f43]) rfl (Below.refl _ _)
    refine ⟨fun x w hF ho => ?_, ?_⟩
    · obtain ⟨_, f44, rfl⟩ := hF.val 26 _ 44 (by kernel_rfl) rfl rfl
      have f4 : x.tmps[4]? = some (.pointer (some ⟨gt, 0, none⟩)) := (hF.old 4 (no_dst (by kernel_rfl))).trans rfl
      obtain ⟨c0, c1, c2, c3, c4⟩ := (ht_13.below hF.world).cells
      exact step_val ho (wanted_some rfl rfl rfl f44) (v := Pr.val (⟨0, 1, 0, 6, 0⟩ : Pr)) (by simp [execOp, Act.eval, f4, go_sem, c0, c1, c2, c3, c4, Pr.val]) rfl (Below.refl _ _)
    refine ⟨fun x w hF ho => ?_, ?_⟩
    · obtain ⟨_, f44, rfl⟩ := hF.val 26 _ 44 (by kernel_rfl) rfl rfl
      have f3 : x.tmps[3]? = some (.pointer (some ⟨gs, 0, none⟩)) := (hF.old 3 (no_dst (by kernel_rfl))).trans rfl
      obtain ⟨c0, c1, c2, c3, c4⟩ := (hs_13.below hF.world).cells
      exact step_val ho (wanted_some rfl rfl rfl f44) (v := Pr.val (⟨0, 1, 0, 6, 0⟩ : Pr)) (by simp [execOp, Act.eval, f3, go_sem, c0, c1, c2, c3, c4, Pr.val]) rfl (Below.refl _ _)
    refine ⟨fun x w hF ho => ?_, ?_⟩
    · obtain ⟨_, f44, rfl⟩ := hF.val 26 _ 44 (by kernel_rfl) rfl rfl
      obtain ⟨_, f45, rfl⟩ := hF.val 27 _ 45 (by kernel_rfl) rfl rfl
      obtain ⟨_, f46, rfl⟩ := hF.val 28 _ 46 (by kernel_rfl) rfl rfl
      exact step_val ho (wanted_some rfl rfl rfl f44) (v := .bool true) (by simp [execOp, Act.eval, f45, f46, go_sem, Pr.val]) rfl (Below.refl _ _)
    refine ⟨fun x w hF ho => ?_, ?_⟩
    · obtain ⟨_, f44, rfl⟩ := hF.val 26 _ 44 (by kernel_rfl) rfl rfl
      obtain ⟨_, f47, rfl⟩ := hF.val 29 _ 47 (by kernel_rfl) rfl rfl
      exact step_val ho (wanted_none rfl) (v := .bool true) (by simp [execOp, Act.eval, f44, f47, go_sem]) rfl (Below.refl _ _)
    refine ⟨fun x w hF ho => ?_, ?_⟩
    · obtain ⟨_, f48, rfl⟩ := hF.val 30 _ 48 (by kernel_rfl) rfl rfl
      exact step_val ho (wanted_none rfl) (v := .bool true) (by simp [execOp, Act.eval, f48]) rfl (Below.refl _ _)
    refine ⟨fun x w hF ho => ?_, ?_⟩
    · obtain ⟨_, f49, rfl⟩ := hF.val 31 _ 49 (by kernel_rfl) rfl rfl
      have f5 : x.tmps[5]? = some (.pointer (some ⟨gu, 0, none⟩)) := (hF.old 5 (no_dst (by kernel_rfl))).trans rfl
      obtain ⟨c0, c1, c2, c3, c4⟩ := (hu_13.below hF.world).cells
      exact step_val ho (wanted_some rfl rfl rfl f49) (v := Pr.val (⟨0, 1, 0, 6, 0⟩ : Pr)) (by simp [execOp, Act.eval, f5, go_sem, c0, c1, c2, c3, c4, Pr.val]) rfl (Below.refl _ _)
    refine ⟨fun x w hF ho => ?_, ?_⟩
    · obtain ⟨_, f49, rfl⟩ := hF.val 31 _ 49 (by kernel_rfl) rfl rfl
      have f3 : x.tmps[3]? = some (.pointer (some ⟨gs, 0, none⟩)) := (hF.old 3 (no_dst (by kernel_rfl))).trans rfl
      obtain ⟨c0, c1, c2, c3, c4⟩ := (hs_13.below hF.world).cells
      exact step_val ho (wanted_some rfl rfl rfl f49) (v := Pr.val (⟨0, 1, 0, 6, 0⟩ : Pr)) (by simp [execOp, Act.eval, f3, go_sem, c0, c1, c2, c3, c4, Pr.val]) rfl (Below.refl _ _)
    refine ⟨fun x w hF ho => ?_, ?_⟩
    · obtain ⟨_, f49, rfl⟩ := hF.val 31 _ 49 (by kernel_rfl) rfl rfl
      obtain ⟨_, f50, rfl⟩ := hF.val 32 _ 50 (by kernel_rfl) rfl rfl
      obtain ⟨_, f51, rfl⟩ := hF.val 33 _ 51 (by kernel_rfl) rfl rfl
      exact step_val ho (wanted_some rfl rfl rfl f49) (v := .bool true) (by simp [execOp, Act.eval, f50, f51, go_sem, Pr.val]) rfl (Below.refl _ _)
    refine ⟨fun x w hF ho => ?_, ?_⟩
    · obtain ⟨_, f49, rfl⟩ := hF.val 31 _ 49 (by kernel_rfl) rfl rfl
      obtain ⟨_, f52, rfl⟩ := hF.val 34 _ 52 (by kernel_rfl) rfl rfl
      exact step_val ho (wanted_none rfl) (v := .bool true) (by simp [execOp, Act.eval, f49, f52, go_sem]) rfl (Below.refl _ _)
    refine ⟨fun x w hF ho => ?_, ?_⟩
    · obtain ⟨_, f53, rfl⟩ := hF.val 35 _ 53 (by kernel_rfl) rfl rfl
      exact step_val ho (wanted_none rfl) (v := .bool true) (by simp [execOp, Act.eval, f53]) rfl (Below.refl _ _)
    refine ⟨fun x w hF ho => ?_, ?_⟩
    · obtain ⟨_, f54, rfl⟩ := hF.val 36 _ 54 (by kernel_rfl) rfl rfl
      have f6 : x.tmps[6]? = some (.pointer (some ⟨gv, 0, none⟩)) := (hF.old 6 (no_dst (by kernel_rfl))).trans rfl
      exact step_val ho (wanted_some rfl rfl rfl f54) (v := .pointer (some ⟨gv, 4, none⟩)) (by simp [execOp, Act.eval, f6, go_sem]) rfl (Below.refl _ _)
    refine ⟨fun x w hF ho => ?_, ?_⟩
    · obtain ⟨_, f54, rfl⟩ := hF.val 36 _ 54 (by kernel_rfl) rfl rfl
      obtain ⟨_, f55, rfl⟩ := hF.val 37 _ 55 (by kernel_rfl) rfl rfl
      obtain ⟨c0, c1, c2, c3, c4⟩ := (hv_13.below hF.world).cells
      exact step_val ho (wanted_some rfl rfl rfl f54) (v := .int .u8 ((1 : Nat) : Int)) (by simp [execOp, Act.eval, f55, go_sem, c4]) rfl (Below.refl _ _)
    refine ⟨fun x w hF ho => ?_, ?_⟩
    · obtain ⟨_, f54, rfl⟩ := hF.val 36 _ 54 (by kernel_rfl) rfl rfl
      obtain ⟨_, f56, rfl⟩ := hF.val 38 _ 56 (by kernel_rfl) rfl rfl
      exact step_val ho (wanted_some rfl rfl rfl f54) (v := .bool true) (by simp [execOp, Act.eval, f56, go_sem]) rfl (Below.refl _ _)
    refine ⟨fun x w hF ho => ?_, ?_⟩
    · obtain ⟨_, f54, rfl⟩ := hF.val 36 _ 54 (by kernel_rfl) rfl rfl
      obtain ⟨_, f57, rfl⟩ := hF.val 39 _ 57 (by kernel_rfl) rfl rfl
      exact step_val ho (wanted_none rfl) (v := .bool true) (by simp [execOp, Act.eval, f54, f57, go_sem]) rfl (Below.refl _ _)
    refine ⟨fun x w hF ho => ?_, ?_⟩
    · obtain ⟨_, f58, rfl⟩ := hF.val 40 _ 58 (by kernel_rfl) rfl rfl
      exact step_val ho (wanted_none rfl) (v := .bool true) (by simp [execOp, Act.eval, f58]) rfl (Below.refl _ _)
    refine ⟨fun x w hF ho => ?_, ?_⟩
    · obtain ⟨_, f59, rfl⟩ := hF.val 41 _ 59 (by kernel_rfl) rfl rfl
      have f6 : x.tmps[6]? = some (.pointer (some ⟨gv, 0, none⟩)) := (hF.old 6 (no_dst (by kernel_rfl))).trans rfl
      obtain ⟨c0, c1, c2, c3, c4⟩ := (hv_13.below hF.world).cells
      exact step_val ho (wanted_some rfl rfl rfl f59) (v := Pr.val (⟨0, 1, 0, 6, 1⟩ : Pr)) (by simp [execOp, Act.eval, f6, go_sem, c0, c1, c2, c3, c4, Pr.val]) rfl (Below.refl _ _)
    refine ⟨fun x w hF ho => ?_, ?_⟩
    · obtain ⟨_, f59, rfl⟩ := hF.val 41 _ 59 (by kernel_rfl) rfl rfl
      obtain ⟨_, f60, rfl⟩ := hF.val 42 _ 60 (by kernel_rfl) rfl rfl
      refine step_call ho (wanted_some rfl rfl rfl f59) (f := 11) (args := #[Pr.val (⟨0, 1, 0, 6, 1⟩ : Pr), .bool true, .int .u64 ((6 : Nat) : Int), .int .u64 ((0 : Nat) : Int)]) (by simp [execOp, Act.eval, f60, go_sem]) ?_
      refine (told_for (⟨0, 1, 0, 6, 1⟩ : Pr) true 6 0 (⟨6, 7, 0, 0, 0⟩ : Pr) _ ⟨by show (0 : Nat) < _; omega, by show (1 : Nat) < _; omega, by show (6 : Nat) < _; omega⟩ (by omega) rfl).mono ?_
      rintro e w' ⟨rfl, hb'⟩
      exact ⟨_, rfl, rfl, hb'⟩
    refine ⟨fun x w hF ho => ?_, ?_⟩
    · obtain ⟨_, f59, rfl⟩ := hF.val 41 _ 59 (by kernel_rfl) rfl rfl
      exact step_val ho (wanted_some rfl rfl rfl f59) (v := Pr.val (⟨6, 7, 0, 0, 0⟩ : Pr)) (by simp [execOp, Act.eval, go_sem, Pr.val]) rfl (Below.refl _ _)
    refine ⟨fun x w hF ho => ?_, ?_⟩
    · obtain ⟨_, f59, rfl⟩ := hF.val 41 _ 59 (by kernel_rfl) rfl rfl
      obtain ⟨_, f61, rfl⟩ := hF.val 43 _ 61 (by kernel_rfl) rfl rfl
      obtain ⟨_, f62, rfl⟩ := hF.val 44 _ 62 (by kernel_rfl) rfl rfl
      exact step_val ho (wanted_some rfl rfl rfl f59) (v := .bool true) (by simp [execOp, Act.eval, f61, f62, go_sem, Pr.val]) rfl (Below.refl _ _)
    refine ⟨fun x w hF ho => ?_, ?_⟩
    · obtain ⟨_, f59, rfl⟩ := hF.val 41 _ 59 (by kernel_rfl) rfl rfl
      obtain ⟨_, f63, rfl⟩ := hF.val 45 _ 63 (by kernel_rfl) rfl rfl
      exact step_val ho (wanted_none rfl) (v := .bool true) (by simp [execOp, Act.eval, f59, f63, go_sem]) rfl (Below.refl _ _)
    refine ⟨fun x w hF ho => ?_, ?_⟩
    · obtain ⟨_, f64, rfl⟩ := hF.val 46 _ 64 (by kernel_rfl) rfl rfl
      exact step_val ho (wanted_none rfl) (v := .bool true) (by simp [execOp, Act.eval, f64]) rfl (Below.refl _ _)
    refine ⟨fun x w hF ho => ?_, ?_⟩
    · obtain ⟨_, f65, rfl⟩ := hF.val 47 _ 65 (by kernel_rfl) rfl rfl
      have f6 : x.tmps[6]? = some (.pointer (some ⟨gv, 0, none⟩)) := (hF.old 6 (no_dst (by kernel_rfl))).trans rfl
      obtain ⟨c0, c1, c2, c3, c4⟩ := (hv_13.below hF.world).cells
      exact step_val ho (wanted_some rfl rfl rfl f65) (v := Pr.val (⟨0, 1, 0, 6, 1⟩ : Pr)) (by simp [execOp, Act.eval, f6, go_sem, c0, c1, c2, c3, c4, Pr.val]) rfl (Below.refl _ _)
    refine ⟨fun x w hF ho => ?_, ?_⟩
    · obtain ⟨_, f65, rfl⟩ := hF.val 47 _ 65 (by kernel_rfl) rfl rfl
      obtain ⟨_, f66, rfl⟩ := hF.val 48 _ 66 (by kernel_rfl) rfl rfl
      refine step_call ho (wanted_some rfl rfl rfl f65) (f := 11) (args := #[Pr.val (⟨0, 1, 0, 6, 1⟩ : Pr), .bool true, .int .u64 ((5 : Nat) : Int), .int .u64 ((0 : Nat) : Int)]) (by simp [execOp, Act.eval, f66, go_sem]) ?_
      refine (told_for (⟨0, 1, 0, 6, 1⟩ : Pr) true 5 0 (⟨5, 6, 0, 6, 1⟩ : Pr) _ ⟨by show (0 : Nat) < _; omega, by show (1 : Nat) < _; omega, by show (6 : Nat) < _; omega⟩ (by omega) rfl).mono ?_
      rintro e w' ⟨rfl, hb'⟩
      exact ⟨_, rfl, rfl, hb'⟩
    refine ⟨fun x w hF ho => ?_, ?_⟩
    · obtain ⟨_, f65, rfl⟩ := hF.val 47 _ 65 (by kernel_rfl) rfl rfl
      obtain ⟨_, f67, rfl⟩ := hF.val 49 _ 67 (by kernel_rfl) rfl rfl
      exact step_val ho (wanted_some rfl rfl rfl f65) (v := .int .u8 ((1 : Nat) : Int)) (by simp [execOp, Act.eval, f67, go_sem, Pr.val]; rfl) rfl (Below.refl _ _)
    refine ⟨fun x w hF ho => ?_, ?_⟩
    · obtain ⟨_, f65, rfl⟩ := hF.val 47 _ 65 (by kernel_rfl) rfl rfl
      obtain ⟨_, f68, rfl⟩ := hF.val 50 _ 68 (by kernel_rfl) rfl rfl
      exact step_val ho (wanted_some rfl rfl rfl f65) (v := .bool true) (by simp [execOp, Act.eval, f68, go_sem]) rfl (Below.refl _ _)
    refine ⟨fun x w hF ho => ?_, ?_⟩
    · obtain ⟨_, f65, rfl⟩ := hF.val 47 _ 65 (by kernel_rfl) rfl rfl
      obtain ⟨_, f69, rfl⟩ := hF.val 51 _ 69 (by kernel_rfl) rfl rfl
      exact step_val ho (wanted_none rfl) (v := .bool true) (by simp [execOp, Act.eval, f65, f69, go_sem]) rfl (Below.refl _ _)
    refine ⟨fun x w hF ho => ?_, ?_⟩
    · obtain ⟨_, f70, rfl⟩ := hF.val 52 _ 70 (by kernel_rfl) rfl rfl
      exact step_val ho (wanted_none rfl) (v := .bool true) (by simp [execOp, Act.eval, f70]) rfl (Below.refl _ _)
    refine ⟨fun x w hF ho => ?_, ?_⟩
    · obtain ⟨_, f71, rfl⟩ := hF.val 53 _ 71 (by kernel_rfl) rfl rfl
      have f1 : x.tmps[1]? = some (.pointer (some ⟨gp, 0, none⟩)) := (hF.old 1 (no_dst (by kernel_rfl))).trans rfl
      obtain ⟨c0, c1, c2, c3, c4⟩ := (hp_13.below hF.world).cells
      exact step_val ho (wanted_some rfl rfl rfl f71) (v := Pr.val (⟨0, 8, 0, 0, 0⟩ : Pr)) (by simp [execOp, Act.eval, f1, go_sem, c0, c1, c2, c3, c4, Pr.val]) rfl (Below.refl _ _)
    refine ⟨fun x w hF ho => ?_, ?_⟩
    · obtain ⟨_, f71, rfl⟩ := hF.val 53 _ 71 (by kernel_rfl) rfl rfl
      obtain ⟨_, f72, rfl⟩ := hF.val 54 _ 72 (by kernel_rfl) rfl rfl
      refine step_call ho (wanted_some rfl rfl rfl f71) (f := 16) (args := #[Pr.val (⟨0, 8, 0, 0, 0⟩ : Pr), .int .u64 ((0 : Nat) : Int), .int .u8 ((0 : Nat) : Int)]) (by simp [execOp, Act.eval, f72, go_sem]) ?_
      refine (sect_for (⟨0, 8, 0, 0, 0⟩ : Pr) 0 0 (⟨0, 8, 0, 0, 0⟩ : Pr) _ (by omega) rfl).mono ?_
      rintro e w' ⟨rfl, hb'⟩
      exact ⟨_, rfl, rfl, hb'⟩
    refine ⟨fun x w hF ho => ?_, ?_⟩
    · obtain ⟨_, f71, rfl⟩ := hF.val 53 _ 71 (by kernel_rfl) rfl rfl
      have f1 : x.tmps[1]? = some (.pointer (some ⟨gp, 0, none⟩)) := (hF.old 1 (no_dst (by kernel_rfl))).trans rfl
      obtain ⟨c0, c1, c2, c3, c4⟩ := (hp_13.below hF.world).cells
      exact step_val ho (wanted_some rfl rfl rfl f71) (v := Pr.val (⟨0, 8, 0, 0, 0⟩ : Pr)) (by simp [execOp, Act.eval, f1, go_sem, c0, c1, c2, c3, c4, Pr.val]) rfl (Below.refl _ _)
    refine ⟨fun x w hF ho => ?_, ?_⟩
    · obtain ⟨_, f71, rfl⟩ := hF.val 53 _ 71 (by kernel_rfl) rfl rfl
      obtain ⟨_, f73, rfl⟩ := hF.val 55 _ 73 (by kernel_rfl) rfl rfl
      obtain ⟨_, f74, rfl⟩ := hF.val 56 _ 74 (by kernel_rfl) rfl rfl
      exact step_val ho (wanted_some rfl rfl rfl f71) (v := .bool true) (by simp [execOp, Act.eval, f73, f74, go_sem, Pr.val]) rfl (Below.refl _ _)
    refine ⟨fun x w hF ho => ?_, ?_⟩
    · obtain ⟨_, f71, rfl⟩ := hF.val 53 _ 71 (by kernel_rfl) rfl rfl
      obtain ⟨_, f75, rfl⟩ := hF.val 57 _ 75 (by kernel_rfl) rfl rfl
      exact step_val ho (wanted_none rfl) (v := .bool true) (by simp [execOp, Act.eval, f71, f75, go_sem]) rfl (Below.refl _ _)
    refine ⟨fun x w hF ho => ?_, ?_⟩
    · obtain ⟨_, f76, rfl⟩ := hF.val 58 _ 76 (by kernel_rfl) rfl rfl
      exact step_val ho (wanted_none rfl) (v := .bool true) (by simp [execOp, Act.eval, f76]) rfl (Below.refl _ _)
    refine ⟨fun x w hF ho => ?_, ?_⟩
    · obtain ⟨_, f77, rfl⟩ := hF.val 59 _ 77 (by kernel_rfl) rfl rfl
      refine step_call ho (wanted_some rfl rfl rfl f77) (f := 9) (args := #[]) (by simp [execOp, Act.eval, go_sem]) ?_
      refine (awake_any w).mono ?_
      rintro e w' ⟨rfl, hb'⟩
      exact ⟨_, rfl, rfl, hb'⟩
    refine ⟨fun x w hF ho => ?_, ?_⟩
    · obtain ⟨_, f77, rfl⟩ := hF.val 59 _ 77 (by kernel_rfl) rfl rfl
      obtain ⟨_, f78, rfl⟩ := hF.val 60 _ 78 (by kernel_rfl) rfl rfl
      exact step_val ho (wanted_none rfl) (v := .bool true) (by simp [execOp, Act.eval, f77, f78, go_sem]) rfl (Below.refl _ _)
    refine ⟨fun x w hF ho => ?_, ?_⟩
    · obtain ⟨_, f79, rfl⟩ := hF.val 61 _ 79 (by kernel_rfl) rfl rfl
      exact step_val ho (wanted_none rfl) (v := .bool true) (by simp [execOp, Act.eval, f79]) rfl (Below.refl _ _)
    exact trivial
  · intro x w' hF
    obtain ⟨_, f0, rfl⟩ := hF.val 62 _ 0 (by kernel_rfl) rfl rfl
    go_wp2_with fail
    refine bodyPost_ret (v := .bool true) (by simp [results, Try.results4, f0, go_sem]) (hF.defers.trans rfl) ⟨rfl, hb_13.trans (hF.world.mono hb_13.size)⟩

theorem progressKnown_own : ownKnob Try.prog.godebug = none := by kernel_rfl
theorem progressKnown_laidOut : laidOutB Try.prog = true := by kernel_rfl
set_option maxRecDepth 100000 in
theorem progressKnown_lifted (os : Os) (started : os.Started) (H : Type) (enc : TypeId × Value → H) :
    ReturnsInHanded {} Try.checked os 4 .any (Rows.progressKnownSpec.pre6 enc Try.prog Try.f4 Rows.progressKnownRow.domain false) (Rows.progressKnownSpec.post enc Try.prog Try.f4 false true false false) := by
  refine returnsInHanded_of_change (C := Try.checked) progressKnown_own started (by kernel_rfl) Try.func4
    (ChangeSpec.witness6 (enc := enc) (C := Try.checked) false ⟨#[], #[], []⟩ 8 (by kernel_rfl) (by kernel_rfl) (by kernel_rfl) (by kernel_rfl)) ?_
  intro W base args ds gs before hval0 hW hcnd _
  have hW' := hW
  obtain ⟨p, q, hA0, hV, rfl, hfz, hnd⟩ := hW
  have hA : DataW.TrodAll enc Try.prog W 0 (fun _ => true) true Try.f4.params.toList args.toList ds p := hA0
  rw [Try.params4] at hA
  obtain ⟨rfl, rfl, rfl⟩ := trodAll_none hA
  obtain ⟨rfl, rfl⟩ := trodVars_none hV
  clear hA0 hval0
  simp only [List.append_nil] at hW'
  refine (known_any W).mono fun e W' ⟨he, bel⟩ => ?_
  subst he
  exact ⟨_, rfl, _, _, _, [], _, [], hW', trodAll_mk1 (shut_bool Try.underlying4 _), trodAll_mk0, rfl, bel.frame _, fun h => by cases h⟩

theorem progressKnown_over : Rows.progressKnownRow.holds Try.pinned (OpenSpec.ofChange Rows.progressKnownSpec) :=
  OpenClaim.holds_of_wide 4 Try.f4 rfl rfl rfl rfl rfl rfl rfl ⟨rfl, rfl, rfl, rfl, rfl⟩ rfl rfl rfl rfl rfl (by kernel_rfl) Try.func4 (by kernel_rfl)
    (of_decide_eq_true (by kernel_rfl)) (by unfold Func.isWrapper; first | (rw [if_pos (by decide +kernel)]; kernel_rfl) | (rw [if_neg (by decide +kernel)]; exact ⟨rfl, rfl⟩))
    (fun os started H enc _ => progressKnown_lifted os started H enc)

/-- The given statement. -/
theorem progressKnown_proved : Rows.ProgressKnownSaid := progressKnown_over
#print axioms progressKnown_proved
end Go.Proofs.Ytopmfjgifabdmaa
