/- SumLinear: the table's number of two bytes xored is that of the one xored with that of the other; each byte has a number of its own; Of ends at whatever table. The walk and the proved row; no condition. -/
import Derived.Test.YtbkbnjagdeomjaaRows
import Derived.Test.YtbkbnjagdeomjaaOf
import Derived.Test.YtbkbnjagdeomjaaRegion
import Derived.ProofKit
import Derived.OpenShut
import Derived.Deep.DeepCutAuto
namespace Go.Proofs.Ytbkbnjagdeomjaa
open Go.ChangeShapes Go.WideShapes Go.ChangeAt Go.RowKit
open Go.ChangeMaps (open_string shut_string)

theorem TabAt.below {w w' : World} {g : Nat} {T : Nat → Nat} (h : TabAt w g T) (hb : Below w.heap.size w w') : TabAt w' g T := fun j hj =>
  ⟨(h j hj).1, (hb.cell (World.block_lt_of_cell? w _ (h j hj).2)).trans (h j hj).2⟩
theorem below_alloc (w : World) (o : Obj) : Below w.heap.size w (w.alloc o) := (Below.refl _ _).alloc (Nat.le_refl _) o
theorem strs_one {w : World} {g : Nat} {ss : List ByteArray} {cs : Array Value} (hg : g = w.heap.size) (hc : cs.toList = ss.map Value.string) (hl : ∀ s ∈ ss, s.size ≤ maxLen) : StrsAt (w.alloc (.cells cs 9)) (some ⟨g, 0, none⟩) ss := by
  subst hg
  exact strs_block (heap_alloc_last w _) hc hl

/-- Cells that are numbers of 32 bits. -/
def Words (M : Array Value) : Prop := M.size = 256 ∧ ∀ j, j < 256 → ∃ n : Nat, n < 4294967296 ∧ M[j]? = some (.int .u32 (n : Int))
/-- The number at a place. -/
noncomputable def wordAt (M : Array Value) (j : Nat) : Nat := match M[j]? with | some (.int _ n) => n.toNat | _ => 0
theorem tab_words {w : World} {g : Nat} {M : Array Value} {t : TypeId} (h : Words M) (hg : w.heap[g]? = some (.cells M t (0, 0))) : TabAt w g (wordAt M) := fun j hj => by
  obtain ⟨n, hn, hm⟩ := h.2 j hj
  have e : wordAt M j = n := by unfold wordAt; rw [hm]; simp
  rw [e]
  exact ⟨hn, (cell_of_row _ _ _ _ _ _ hg).trans hm⟩
theorem words_all {M : Array Value} (h : Words M) : M.all (·.oneCell') = true := Array.all_eq_true_iff_forall_mem.2 fun v hv => by
  obtain ⟨j, hj, rfl⟩ := Array.mem_iff_getElem.1 hv
  obtain ⟨n, _, hm⟩ := h.2 j (by have := h.1; omega)
  rw [Array.getElem?_eq_getElem hj] at hm
  rw [Option.some.inj hm]
  rfl

theorem heap_at (w : World) (o : Obj) (n : Nat) (h : n = w.heap.size) : (w.alloc o).heap[n]? = some o := by subst h; exact heap_alloc_last w o
theorem heap_old (w : World) (o : Obj) (n : Nat) (h : n < w.heap.size) : (w.alloc o).heap[n]? = w.heap[n]? := Below.heap_alloc w o n h
theorem setRow_last (w : World) (c c' : Array Value) (t : TypeId) (n : Nat) (h : n = w.heap.size) : (w.alloc (.cells c t)).setRow n c' = w.alloc (.cells c' t) := by subst h; exact World.setRow_alloc_new w c c' t
theorem marks_kept {w w1 : World} (M C : Array Value) (hb : Below (w.alloc (.cells M 23)).heap.size (w.alloc (.cells M 23)) w1) : (w1.alloc (.cells C 24)).heap[w.heap.size]? = some (.cells M 23 (0, 0)) := by
  have h1 := hb.block w.heap.size (by simp)
  have hs := hb.size
  simp only [World.size_alloc] at hs
  rw [heap_old _ _ _ (by omega), h1]
  exact heap_alloc_last w _
theorem eq_nums {a b : Nat} (ha : a < 256) (hb : b < 256) : (((ent a : Nat) : Int) == ((ent b : Nat) : Int)) = ((a : Int) == (b : Int)) := by
  rw [Bool.eq_iff_iff, beq_iff_eq, beq_iff_eq]
  constructor
  · intro h
    have := ent_inj (a := a) (b := b) (by omega) (by omega) (by omega)
    omega
  · intro h
    have : a = b := by omega
    rw [this]

set_option maxRecDepth 100000 in
set_option maxHeartbeats 400000 in
theorem linear_any (a b : Nat) (M : Array Value) (s0 : ByteArray) (w : World) (ha : a < 256) (hb : b < 256) (hM : Words M) (hs : s0.size ≤ maxLen) :
    Calls Try.prog 7 #[.int .u8 (a : Int), .int .u8 (b : Int), .agg M, .string s0] w fun e w' => e = .returned (.bool true) ∧ Below w.heap.size w w' := by
  unfold maxLen at hs
  have hz := zero24.1
  obtain ⟨cs, hcs⟩ : ∃ cs : Array Value, Array.replicate 256 (Value.int .u32 0) = cs := ⟨_, rfl⟩
  rw [hcs] at hz
  have hcs0 : cs.size = 256 := by rw [← hcs]; simp
  have HI := Lib.hid zero24.2
  have HJ : Hid ((Try.prog.info? 23).map (·.size) = some 256) := (show (Try.prog.info? 23).map (·.size) = some 256 by kernel_rfl)
  have HC0 := Lib.hid hcs0
  clear hcs hcs0
  go_enter Try.func7, Try.ntmps7
  go_upto_if 13 with (fail)
  go_cut [3] (fun v wx => ∃ s : ByteArray, v = .string s ∧ s.size ≤ 3000 ∧ wx = w.alloc (.cells M 23))
  case first =>
    go_wp2_with fail
    all_goals go_meet
    · exact ⟨_, rfl, by simp; omega, rfl⟩
    · exact ⟨_, rfl, by omega, rfl⟩
  case rest =>
    obtain ⟨s, rfl, hs3, rfl⟩ := hcut
    go_wp2_with (first
      | (go_at_call 8; refine (make_any _).mono ?_; rintro e w1 ⟨⟨C, hC, rfl⟩, hbl⟩; have HM := Lib.hid (marks_kept M C hbl))
      | (refine wpList_store_row rfl 24 (.tmp 9) (.tmp 16) rfl w1.heap.size C rfl rfl 24 cs (heap_alloc_last w1 _) (by rw [hC.1]; exact HI.out) (by rw [hC.1, HC0.out]) (upTo_all hC) ?_; rw [World.setRow_alloc_new])
      | (refine wpList_load_row rfl 23 (.tmp 6) rfl w.heap.size rfl 23 M (0, 0) _ HM.out Try.underlying23 rfl (by rw [hM.1]; exact HJ.out) ?_)
      | (refine wpList_store_row rfl 24 (.tmp 10) (.tmp 17) rfl (w1.heap.size + 1) M rfl rfl 24 cs (heap_at (w1.alloc (.cells C 24)) _ _ (by simp)) (by rw [hM.1]; exact HI.out) (by rw [hM.1, HC0.out]) (words_all hM) ?_; rw [setRow_last (w1.alloc (.cells C 24)) _ _ _ _ (by simp)]))
    have hsz := hbl.size
    simp only [World.size_alloc] at hsz
    refine (of_at (w1.heap.size + 1) (wordAt M) _ 2 2 [s, s] _ (tab_words hM ((heap_old _ _ _ (by simp)).trans (heap_at (w1.alloc (.cells C 24)) _ _ (by simp)))) (strs_one (by simp) rfl (by simp only [List.mem_cons, List.not_mem_nil, or_false]; unfold maxLen; rintro x (rfl | rfl) <;> omega)) rfl (by omega)).mono ?_
    rintro e w2 ⟨rfl, q, rfl⟩
    go_wp2_with fail
    have hbw : Below w.heap.size w (w1.alloc (.cells C 24)) := ((below_alloc w _).trans (hbl.mono (by simp))).alloc (by omega) _
    have hTC : TabAt (w1.alloc (.cells C 24)) w1.heap.size ent := tabAt_block hC (heap_alloc_last w1 _)
    have hgl : w1.heap.size + 1 = (w1.alloc (.cells C 24)).heap.size := by simp
    generalize w1.alloc (.cells C 24) = W0 at hbw hTC hgl
    have hb2 : Below W0.heap.size W0 (((W0.alloc (.cells M 24)).alloc (.cells #[.string s, .string s] 9)).drewN q) := blw_draws ((below_alloc W0 _).alloc (by simp) _) q
    generalize ((W0.alloc (.cells M 24)).alloc (.cells #[.string s, .string s] 9)).drewN q = W at hb2
    have hT := hTC.below hb2
    have hbW := hbw.trans (hb2.mono hbw.size)
    clear hTC hb2 hbw HM
    obtain ⟨g, hg⟩ : ∃ g, w1.heap.size = g := ⟨_, rfl⟩
    rw [hg] at hT ⊢
    obtain ⟨c, hcc⟩ : ∃ c : Nat, a ^^^ b = c := ⟨_, rfl⟩
    have hc : c < 256 := hcc ▸ xor_lt8 ha hb
    have hxc := u8_xor_nat a b ha hb
    have hxx := u32_xor_nat (ent a) (ent b) (ent_tab a ha) (ent_tab b hb)
    rw [← ent_xor, hcc] at hxx
    rw [hcc] at hxc
    have heq := eq_nums ha hb
    have ha0 : (0 : Int) ≤ (a : Int) := by omega
    have ha1 : (a : Int) < 256 := by omega
    have hb0 : (0 : Int) ≤ (b : Int) := by omega
    have hb1 : (b : Int) < 256 := by omega
    have hc0 : (0 : Int) ≤ (c : Int) := by omega
    have hc1 : (c : Int) < 256 := by omega
    refine wp_region_steps (by kernel_rfl) (by kernel_rfl) (by kernel_rfl) [fun v _ => v = .int .u8 (a : Int), fun v _ => v = .int .u8 (b : Int), fun v _ => v = .int .u8 (c : Int), fun v _ => v = .pointer (some ⟨g, c, none⟩), fun v _ => v = .int .u32 ((ent c : Nat) : Int), fun v _ => v = .int .u8 (a : Int), fun v _ => v = .pointer (some ⟨g, a, none⟩), fun v _ => v = .int .u32 ((ent a : Nat) : Int), fun v _ => v = .int .u8 (b : Int), fun v _ => v = .pointer (some ⟨g, b, none⟩), fun v _ => v = .int .u32 ((ent b : Nat) : Int), fun v _ => v = .int .u32 ((ent c : Nat) : Int), fun v _ => v = .bool true, fun v _ => v = .bool true, fun v _ => v = .int .u8 (a : Int), fun v _ => v = .pointer (some ⟨g, a, none⟩), fun v _ => v = .int .u32 ((ent a : Nat) : Int), fun v _ => v = .int .u8 (b : Int), fun v _ => v = .pointer (some ⟨g, b, none⟩), fun v _ => v = .int .u32 ((ent b : Nat) : Int), fun v _ => v = .bool (((ent a : Nat) : Int) == ((ent b : Nat) : Int)), fun v _ => v = .int .u8 (a : Int), fun v _ => v = .int .u8 (b : Int), fun v _ => v = .bool ((a : Int) == (b : Int)), fun v _ => v = .bool true, fun v _ => v = .bool true, fun v _ => v = .bool true, fun v _ => v = .bool true, fun v _ => v = .bool true, fun v _ => v = .bool true] ?_ ?_ ?_
    · intro p hp v w w' _ h
      simp only [List.mem_cons, List.not_mem_nil, or_false] at hp
      rcases hp with rfl | rfl | rfl | rfl | rfl | rfl | rfl | rfl | rfl | rfl | rfl | rfl | rfl | rfl | rfl | rfl | rfl | rfl | rfl | rfl | rfl | rfl | rfl | rfl | rfl | rfl | rfl | rfl | rfl | rfl <;> exact h
    · refine ⟨fun x w hF ho => ?_, ?_⟩
      · have f0 : x.tmps[0]? = some (.int .u8 (a : Int)) := (hF.old 0 (no_dst (by kernel_rfl))).trans rfl
        exact step_val ho (wanted_none rfl) (by simp [execOp, Act.eval, f0]) rfl (Below.refl _ _)
      refine ⟨fun x w hF ho => ?_, ?_⟩
      · have f1 : x.tmps[1]? = some (.int .u8 (b : Int)) := (hF.old 1 (no_dst (by kernel_rfl))).trans rfl
        exact step_val ho (wanted_none rfl) (by simp [execOp, Act.eval, f1]) rfl (Below.refl _ _)
      refine ⟨fun x w hF ho => ?_, ?_⟩
      · obtain ⟨_, f22, rfl⟩ := hF.val 0 _ 22 (by kernel_rfl) rfl rfl
        obtain ⟨_, f23, rfl⟩ := hF.val 1 _ 23 (by kernel_rfl) rfl rfl
        exact step_val ho (wanted_none rfl) (by simp [execOp, Act.eval, f22, f23, go_sem, hxc]) rfl (Below.refl _ _)
      refine ⟨fun x w hF ho => ?_, ?_⟩
      · have f9 : x.tmps[9]? = some (.pointer (some ⟨g, 0, none⟩)) := (hF.old 9 (no_dst (by kernel_rfl))).trans rfl
        obtain ⟨_, f24, rfl⟩ := hF.val 2 _ 24 (by kernel_rfl) rfl rfl
        exact step_val ho (wanted_none rfl) (v := .pointer (some ⟨g, c, none⟩)) (by simp [execOp, Act.eval, f9, f24, go_sem, hc0, hc1]) rfl (Below.refl _ _)
      refine ⟨fun x w hF ho => ?_, ?_⟩
      · obtain ⟨_, f25, rfl⟩ := hF.val 3 _ 25 (by kernel_rfl) rfl rfl
        have hc := (hT.below hF.world c (by omega)).2
        exact step_val ho (wanted_none rfl) (v := .int .u32 ((ent c : Nat) : Int)) (by simp [execOp, Act.eval, f25, go_sem, hc]) rfl (Below.refl _ _)
      refine ⟨fun x w hF ho => ?_, ?_⟩
      · have f0 : x.tmps[0]? = some (.int .u8 (a : Int)) := (hF.old 0 (no_dst (by kernel_rfl))).trans rfl
        exact step_val ho (wanted_none rfl) (by simp [execOp, Act.eval, f0]) rfl (Below.refl _ _)
      refine ⟨fun x w hF ho => ?_, ?_⟩
      · have f9 : x.tmps[9]? = some (.pointer (some ⟨g, 0, none⟩)) := (hF.old 9 (no_dst (by kernel_rfl))).trans rfl
        obtain ⟨_, f27, rfl⟩ := hF.val 5 _ 27 (by kernel_rfl) rfl rfl
        exact step_val ho (wanted_none rfl) (v := .pointer (some ⟨g, a, none⟩)) (by simp [execOp, Act.eval, f9, f27, go_sem, ha0, ha1]) rfl (Below.refl _ _)
      refine ⟨fun x w hF ho => ?_, ?_⟩
      · obtain ⟨_, f28, rfl⟩ := hF.val 6 _ 28 (by kernel_rfl) rfl rfl
        have hc := (hT.below hF.world a (by omega)).2
        exact step_val ho (wanted_none rfl) (v := .int .u32 ((ent a : Nat) : Int)) (by simp [execOp, Act.eval, f28, go_sem, hc]) rfl (Below.refl _ _)
      refine ⟨fun x w hF ho => ?_, ?_⟩
      · have f1 : x.tmps[1]? = some (.int .u8 (b : Int)) := (hF.old 1 (no_dst (by kernel_rfl))).trans rfl
        exact step_val ho (wanted_none rfl) (by simp [execOp, Act.eval, f1]) rfl (Below.refl _ _)
      refine ⟨fun x w hF ho => ?_, ?_⟩
      · have f9 : x.tmps[9]? = some (.pointer (some ⟨g, 0, none⟩)) := (hF.old 9 (no_dst (by kernel_rfl))).trans rfl
        obtain ⟨_, f30, rfl⟩ := hF.val 8 _ 30 (by kernel_rfl) rfl rfl
        exact step_val ho (wanted_none rfl) (v := .pointer (some ⟨g, b, none⟩)) (by simp [execOp, Act.eval, f9, f30, go_sem, hb0, hb1]) rfl (Below.refl _ _)
      refine ⟨fun x w hF ho => ?_, ?_⟩
      · obtain ⟨_, f31, rfl⟩ := hF.val 9 _ 31 (by kernel_rfl) rfl rfl
        have hc := (hT.below hF.world b (by omega)).2
        exact step_val ho (wanted_none rfl) (v := .int .u32 ((ent b : Nat) : Int)) (by simp [execOp, Act.eval, f31, go_sem, hc]) rfl (Below.refl _ _)
      refine ⟨fun x w hF ho => ?_, ?_⟩
      · obtain ⟨_, f29, rfl⟩ := hF.val 7 _ 29 (by kernel_rfl) rfl rfl
        obtain ⟨_, f32, rfl⟩ := hF.val 10 _ 32 (by kernel_rfl) rfl rfl
        exact step_val ho (wanted_none rfl) (v := .int .u32 ((ent c : Nat) : Int)) (by simp [execOp, Act.eval, f29, f32, go_sem, hxx]) rfl (Below.refl _ _)
      refine ⟨fun x w hF ho => ?_, ?_⟩
      · obtain ⟨_, f26, rfl⟩ := hF.val 4 _ 26 (by kernel_rfl) rfl rfl
        obtain ⟨_, f33, rfl⟩ := hF.val 11 _ 33 (by kernel_rfl) rfl rfl
        exact step_val ho (wanted_none rfl) (v := .bool true) (by simp [execOp, Act.eval, f26, f33, go_sem]) rfl (Below.refl _ _)
      refine ⟨fun x w hF ho => ?_, ?_⟩
      · obtain ⟨_, f34, rfl⟩ := hF.val 12 _ 34 (by kernel_rfl) rfl rfl
        exact step_val ho (wanted_none rfl) (by simp [execOp, Act.eval, f34]) rfl (Below.refl _ _)
      refine ⟨fun x w hF ho => ?_, ?_⟩
      · obtain ⟨_, f35, rfl⟩ := hF.val 13 _ 35 (by kernel_rfl) rfl rfl
        have f0 : x.tmps[0]? = some (.int .u8 (a : Int)) := (hF.old 0 (no_dst (by kernel_rfl))).trans rfl
        exact step_val ho (wanted_some rfl rfl rfl f35) (by simp [execOp, Act.eval, f0]) rfl (Below.refl _ _)
      refine ⟨fun x w hF ho => ?_, ?_⟩
      · obtain ⟨_, f35, rfl⟩ := hF.val 13 _ 35 (by kernel_rfl) rfl rfl
        have f9 : x.tmps[9]? = some (.pointer (some ⟨g, 0, none⟩)) := (hF.old 9 (no_dst (by kernel_rfl))).trans rfl
        obtain ⟨_, f36, rfl⟩ := hF.val 14 _ 36 (by kernel_rfl) rfl rfl
        exact step_val ho (wanted_some rfl rfl rfl f35) (v := .pointer (some ⟨g, a, none⟩)) (by simp [execOp, Act.eval, f9, f36, go_sem, ha0, ha1]) rfl (Below.refl _ _)
      refine ⟨fun x w hF ho => ?_, ?_⟩
      · obtain ⟨_, f35, rfl⟩ := hF.val 13 _ 35 (by kernel_rfl) rfl rfl
        obtain ⟨_, f37, rfl⟩ := hF.val 15 _ 37 (by kernel_rfl) rfl rfl
        have hc := (hT.below hF.world a (by omega)).2
        exact step_val ho (wanted_some rfl rfl rfl f35) (v := .int .u32 ((ent a : Nat) : Int)) (by simp [execOp, Act.eval, f37, go_sem, hc]) rfl (Below.refl _ _)
      refine ⟨fun x w hF ho => ?_, ?_⟩
      · obtain ⟨_, f35, rfl⟩ := hF.val 13 _ 35 (by kernel_rfl) rfl rfl
        have f1 : x.tmps[1]? = some (.int .u8 (b : Int)) := (hF.old 1 (no_dst (by kernel_rfl))).trans rfl
        exact step_val ho (wanted_some rfl rfl rfl f35) (by simp [execOp, Act.eval, f1]) rfl (Below.refl _ _)
      refine ⟨fun x w hF ho => ?_, ?_⟩
      · obtain ⟨_, f35, rfl⟩ := hF.val 13 _ 35 (by kernel_rfl) rfl rfl
        have f9 : x.tmps[9]? = some (.pointer (some ⟨g, 0, none⟩)) := (hF.old 9 (no_dst (by kernel_rfl))).trans rfl
        obtain ⟨_, f39, rfl⟩ := hF.val 17 _ 39 (by kernel_rfl) rfl rfl
        exact step_val ho (wanted_some rfl rfl rfl f35) (v := .pointer (some ⟨g, b, none⟩)) (by simp [execOp, Act.eval, f9, f39, go_sem, hb0, hb1]) rfl (Below.refl _ _)
      refine ⟨fun x w hF ho => ?_, ?_⟩
      · obtain ⟨_, f35, rfl⟩ := hF.val 13 _ 35 (by kernel_rfl) rfl rfl
        obtain ⟨_, f40, rfl⟩ := hF.val 18 _ 40 (by kernel_rfl) rfl rfl
        have hc := (hT.below hF.world b (by omega)).2
        exact step_val ho (wanted_some rfl rfl rfl f35) (v := .int .u32 ((ent b : Nat) : Int)) (by simp [execOp, Act.eval, f40, go_sem, hc]) rfl (Below.refl _ _)
      refine ⟨fun x w hF ho => ?_, ?_⟩
      · obtain ⟨_, f35, rfl⟩ := hF.val 13 _ 35 (by kernel_rfl) rfl rfl
        obtain ⟨_, f38, rfl⟩ := hF.val 16 _ 38 (by kernel_rfl) rfl rfl
        obtain ⟨_, f41, rfl⟩ := hF.val 19 _ 41 (by kernel_rfl) rfl rfl
        exact step_val ho (wanted_some rfl rfl rfl f35) (v := .bool (((ent a : Nat) : Int) == ((ent b : Nat) : Int))) (by simp [execOp, Act.eval, f38, f41, go_sem]) rfl (Below.refl _ _)
      refine ⟨fun x w hF ho => ?_, ?_⟩
      · obtain ⟨_, f35, rfl⟩ := hF.val 13 _ 35 (by kernel_rfl) rfl rfl
        have f0 : x.tmps[0]? = some (.int .u8 (a : Int)) := (hF.old 0 (no_dst (by kernel_rfl))).trans rfl
        exact step_val ho (wanted_some rfl rfl rfl f35) (by simp [execOp, Act.eval, f0]) rfl (Below.refl _ _)
      refine ⟨fun x w hF ho => ?_, ?_⟩
      · obtain ⟨_, f35, rfl⟩ := hF.val 13 _ 35 (by kernel_rfl) rfl rfl
        have f1 : x.tmps[1]? = some (.int .u8 (b : Int)) := (hF.old 1 (no_dst (by kernel_rfl))).trans rfl
        exact step_val ho (wanted_some rfl rfl rfl f35) (by simp [execOp, Act.eval, f1]) rfl (Below.refl _ _)
      refine ⟨fun x w hF ho => ?_, ?_⟩
      · obtain ⟨_, f35, rfl⟩ := hF.val 13 _ 35 (by kernel_rfl) rfl rfl
        obtain ⟨_, f43, rfl⟩ := hF.val 21 _ 43 (by kernel_rfl) rfl rfl
        obtain ⟨_, f44, rfl⟩ := hF.val 22 _ 44 (by kernel_rfl) rfl rfl
        exact step_val ho (wanted_some rfl rfl rfl f35) (v := .bool ((a : Int) == (b : Int))) (by simp [execOp, Act.eval, f43, f44, go_sem]) rfl (Below.refl _ _)
      refine ⟨fun x w hF ho => ?_, ?_⟩
      · obtain ⟨_, f35, rfl⟩ := hF.val 13 _ 35 (by kernel_rfl) rfl rfl
        obtain ⟨_, f42, rfl⟩ := hF.val 20 _ 42 (by kernel_rfl) rfl rfl
        obtain ⟨_, f45, rfl⟩ := hF.val 23 _ 45 (by kernel_rfl) rfl rfl
        exact step_val ho (wanted_some rfl rfl rfl f35) (v := .bool true) (by simp [execOp, Act.eval, f42, f45, go_sem]; exact heq) rfl (Below.refl _ _)
      refine ⟨fun x w hF ho => ?_, ?_⟩
      · obtain ⟨_, f35, rfl⟩ := hF.val 13 _ 35 (by kernel_rfl) rfl rfl
        obtain ⟨_, f46, rfl⟩ := hF.val 24 _ 46 (by kernel_rfl) rfl rfl
        exact step_val ho (wanted_none rfl) (v := .bool true) (by simp [execOp, Act.eval, f35, f46, go_sem]) rfl (Below.refl _ _)
      refine ⟨fun x w hF ho => ?_, ?_⟩
      · obtain ⟨_, f47, rfl⟩ := hF.val 25 _ 47 (by kernel_rfl) rfl rfl
        exact step_val ho (wanted_none rfl) (by simp [execOp, Act.eval, f47]) rfl (Below.refl _ _)
      refine ⟨fun x w hF ho => ?_, ?_⟩
      · obtain ⟨_, f48, rfl⟩ := hF.val 26 _ 48 (by kernel_rfl) rfl rfl
        refine step_call ho (wanted_some rfl rfl rfl f48) (f := 10) (args := #[]) (by simp [go_sem]) ?_
        refine (awake_any w).mono ?_
        rintro e w' ⟨rfl, hb'⟩
        exact ⟨_, rfl, rfl, hb'⟩
      refine ⟨fun x w hF ho => ?_, ?_⟩
      · obtain ⟨_, f48, rfl⟩ := hF.val 26 _ 48 (by kernel_rfl) rfl rfl
        obtain ⟨_, f49, rfl⟩ := hF.val 27 _ 49 (by kernel_rfl) rfl rfl
        exact step_val ho (wanted_none rfl) (v := .bool true) (by simp [execOp, Act.eval, f48, f49, go_sem]) rfl (Below.refl _ _)
      refine ⟨fun x w hF ho => ?_, ?_⟩
      · obtain ⟨_, f50, rfl⟩ := hF.val 28 _ 50 (by kernel_rfl) rfl rfl
        exact step_val ho (wanted_none rfl) (by simp [execOp, Act.eval, f50]) rfl (Below.refl _ _)
      trivial
    · intro x w' hF
      obtain ⟨_, f8, rfl⟩ := hF.val 29 _ 8 rfl rfl rfl
      go_wp2_with fail
      refine bodyPost_ret (v := .bool true) (by simp [results, Try.results7, f8, go_sem]) (hF.defers.trans rfl) ⟨rfl, hbW.trans (hF.world.mono hbW.size)⟩

theorem sumLinear_own : ownKnob Try.prog.godebug = none := by kernel_rfl
theorem sumLinear_laidOut : laidOutB Try.prog = true := by kernel_rfl
set_option maxRecDepth 100000 in
theorem sumLinear_lifted (os : Os) (started : os.Started) (H : Type) (enc : TypeId × Value → H) :
    ReturnsInHanded {} Try.checked os 7 .any (Rows.sumLinearSpec.pre6 enc Try.prog Try.f7 Rows.sumLinearRow.domain false) (Rows.sumLinearSpec.post enc Try.prog Try.f7 false true false false) := by
  refine returnsInHanded_of_change (C := Try.checked) sumLinear_own started (by kernel_rfl) Try.func7
    (ChangeSpec.witness6 (enc := enc) (C := Try.checked) false ⟨#[], #[.int .u8 0, .int .u8 0, .agg (Array.replicate 256 (.int .u32 0)), .string ByteArray.empty], []⟩ 8 (by kernel_rfl) (by kernel_rfl) (by kernel_rfl) (by kernel_rfl)) ?_
  intro W base args ds gs before hval0 hW hcnd _
  have hval : ∀ (j : Nat) t v, Try.f7.params[j]? = some t → args[j]? = some v → Value.okWide Try.prog W .any base t v := hval0
  have hW' := hW
  obtain ⟨p, q, hA0, hV, rfl, hfz, hnd⟩ := hW
  have hA : DataW.TrodAll enc Try.prog W 0 (fun _ => true) true Try.f7.params.toList args.toList ds p := hA0
  rw [Try.params7] at hA hval
  obtain ⟨v0, vs0, d0, ds0, p0, q0, hargs, rfl, rfl, h0, r0⟩ := trodAll_cons hA
  obtain ⟨v1, vs1, d1, ds1, p1, q1, rfl, rfl, rfl, h1, r1⟩ := trodAll_cons r0
  obtain ⟨v2, vs2, d2, ds2, p2, q2, rfl, rfl, rfl, h2, r2⟩ := trodAll_cons r1
  obtain ⟨v3, vs3, d3, ds3, p3, q3, rfl, rfl, rfl, h3, r3⟩ := trodAll_cons r2
  obtain ⟨rfl, rfl, rfl⟩ := trodAll_nil r3
  obtain rfl : args = #[v0, v1, v2, v3] := by cases args; simp_all
  obtain ⟨rfl, rfl⟩ := trodVars_none hV
  have k0 := h0
  have lt0 : ∀ x ∈ p0, x.block < W.heap.size := by obtain ⟨m, hm⟩ := k0; exact DataW.trod_lt m _ _ _ hm
  have k1 := h1
  have lt1 : ∀ x ∈ p1, x.block < W.heap.size := by obtain ⟨m, hm⟩ := k1; exact DataW.trod_lt m _ _ _ hm
  have k2 := h2
  have lt2 : ∀ x ∈ p2, x.block < W.heap.size := by obtain ⟨m, hm⟩ := k2; exact DataW.trod_lt m _ _ _ hm
  have k3 := h3
  have lt3 : ∀ x ∈ p3, x.block < W.heap.size := by obtain ⟨m, hm⟩ := k3; exact DataW.trod_lt m _ _ _ hm
  obtain ⟨a0, rfl, rfl, rfl, w0⟩ := open_int Try.underlying5 (hval 0 5 v0 rfl rfl) h0
  obtain ⟨a1, rfl, rfl, rfl, w1⟩ := open_int Try.underlying5 (hval 1 5 v1 rfl rfl) h1
  obtain ⟨M, rfl, hM⟩ : ∃ M, v2 = .agg M ∧ Words M := by
    have hv := hval 2 23 v2 rfl rfl
    simp only [Value.okWide, Try.underlying23] at hv
    obtain ⟨M, rfl, hsz, _⟩ := hv
    have h256 : Try.prog.cellsOf 23 = 256 := by kernel_rfl
    have h1c : Try.prog.cellsOf 22 = 1 := by kernel_rfl
    rw [h256] at hsz
    refine ⟨M, rfl, hsz, fun j hj => ?_⟩
    obtain ⟨fuel, hf⟩ := h2
    obtain ⟨xs, m, _, _, _, hlen, hat⟩ := DataW.trod_array Try.underlying23 hf
    have h1' := hat j hj
    rw [h1c, Nat.mul_one, List.getElem?_eq_getElem (by omega)] at h1'
    obtain ⟨n, hn, _, hwf⟩ := DataW.trod_int Try.underlying22 h1'
    have hb := bounds_u32 hwf
    simp only [Value.cells] at hn
    have hjl : j < M.toList.length := by simp; omega
    rw [List.drop_eq_getElem_cons hjl, List.take_succ_cons, List.take_zero] at hn
    refine ⟨n.toNat, by omega, ?_⟩
    rw [Array.getElem?_eq_getElem (by omega), show ((n.toNat : Nat) : Int) = n by omega]
    simpa using hn
  obtain ⟨s0, rfl, rfl, rfl, ws⟩ := open_string Try.underlying9 (hval 3 9 v3 rfl rfl) h3
  have b0 := bounds_u8 w0
  have b1 := bounds_u8 w1
  obtain ⟨n0, rfl⟩ : ∃ n : Nat, a0 = (n : Int) := ⟨a0.toNat, by omega⟩
  obtain ⟨n1, rfl⟩ : ∃ n : Nat, a1 = (n : Int) := ⟨a1.toNat, by omega⟩
  clear hA0 hval0
  clear hcnd
  refine (linear_any n0 n1 M s0 W (by omega) (by omega) hM ws).mono fun e W' ⟨he, bel⟩ => ?_
  subst he
  exact ⟨_, rfl, _, _, _, [], _, [], hW', trodAll_mk1 (shut_bool Try.underlying4 _), (trodAll_cons_mk (Below.trod sumLinear_laidOut (by kernel_rfl) (of_decide_eq_true (by kernel_rfl)) k0 bel lt0) (trodAll_cons_mk (Below.trod sumLinear_laidOut (by kernel_rfl) (of_decide_eq_true (by kernel_rfl)) k1 bel lt1) (trodAll_cons_mk (Below.trod sumLinear_laidOut (by kernel_rfl) (of_decide_eq_true (by kernel_rfl)) k2 bel lt2) (trodAll_cons_mk (Below.trod sumLinear_laidOut (by kernel_rfl) (of_decide_eq_true (by kernel_rfl)) k3 bel lt3) trodAll_mk0)))), rfl, bel.frame _, fun h => by cases h⟩

theorem sumLinear_over : Rows.sumLinearRow.holds Try.pinned (OpenSpec.ofChange Rows.sumLinearSpec) :=
  OpenClaim.holds_of_wide 7 Try.f7 rfl rfl rfl rfl rfl rfl rfl ⟨rfl, rfl, rfl, rfl, rfl⟩ rfl rfl rfl rfl rfl (by kernel_rfl) Try.func7 (by kernel_rfl)
    (of_decide_eq_true (by kernel_rfl)) (by unfold Func.isWrapper; first | (rw [if_pos (by decide +kernel)]; kernel_rfl) | (rw [if_neg (by decide +kernel)]; exact ⟨rfl, rfl⟩))
    (fun os started H enc _ => sumLinear_lifted os started H enc)

/-- The given statement. -/
theorem sumLinear_proved : Rows.SumLinearSaid := sumLinear_over
#print axioms sumLinear_proved
end Go.Proofs.Ytbkbnjagdeomjaa
