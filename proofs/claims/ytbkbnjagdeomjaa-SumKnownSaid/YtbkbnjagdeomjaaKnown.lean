/- SumKnown: the chapter's examples. The walk and the proved row; no condition. -/
import Derived.Test.YtbkbnjagdeomjaaRows
import Derived.Test.YtbkbnjagdeomjaaOf
import Derived.ProofKit
namespace Go.Proofs.Ytbkbnjagdeomjaa
open Go.ChangeShapes Go.WideShapes Go.ChangeAt Go.RowKit

theorem TabAt.alloc {w : World} {g : Nat} {T : Nat → Nat} (h : TabAt w g T) (o : Obj) : TabAt (w.alloc o) g T := fun j hj =>
  ⟨(h j hj).1, (World.cell?_alloc_lt w o _ (World.block_lt_of_cell? w _ (h j hj).2)).trans (h j hj).2⟩
theorem TabAt.drewN {w : World} {g : Nat} {T : Nat → Nat} (h : TabAt w g T) (q : Nat) : TabAt (w.drewN q) g T := h
theorem TabAt.below {w w' : World} {g : Nat} {T : Nat → Nat} (h : TabAt w g T) (hb : Below w.heap.size w w') : TabAt w' g T := fun j hj =>
  ⟨(h j hj).1, (hb.cell (World.block_lt_of_cell? w _ (h j hj).2)).trans (h j hj).2⟩
theorem tab_new {w : World} {C : Array Value} (hC : upTo 256 C) : TabAt (w.alloc (.cells C 24)) w.heap.size ent := tabAt_block hC (heap_alloc_last w _)
theorem heap_at (w : World) (o : Obj) (n : Nat) (h : n = w.heap.size) : (w.alloc o).heap[n]? = some o := by subst h; exact heap_alloc_last w o

theorem of_known (g : Nat) (A : Option Addr) (n cap : Nat) (m : Int) (ss : List ByteArray) (w : World) (hT : TabAt w g ent) (hS : StrsAt w A ss) (hn : n = ss.length) (hn63 : n ≤ 9223372036854775807) (hm : ((sumT ent (joined ss) : Nat) : Int) = m) :
    Calls Try.prog 9 #[.pointer (some ⟨g, 0, none⟩), .slice A n cap] w fun e w' => e = .returned (.int .u32 m) ∧ ∃ q, w' = w.drewN q := hm ▸ of_at g ent A n cap ss w hT hS hn hn63

theorem cell_kept {w w' : World} {a : Addr} {v : Value} (hb : Below w.heap.size w w') (h : w.cell? a = some v) : w'.cell? a = some v := (hb.cell (World.block_lt_of_cell? w _ h)).trans h

theorem ent_0 : ent 0 = 0 := by kernel_rfl
theorem ent_128 : ent 128 = 2197175160 := by kernel_rfl
theorem ent_255 : ent 255 = 2910671697 := by kernel_rfl
theorem sum_nine : ((sumT ent (joined [{ data := #[49, 50, 51, 52, 53, 54, 55, 56, 57] }]) : Nat) : Int) = 3808858755 := congrArg Nat.cast (show sumT ent (joined [{ data := #[49, 50, 51, 52, 53, 54, 55, 56, 57] }]) = 3808858755 by kernel_rfl)
theorem sum_none : ((sumT ent (joined []) : Nat) : Int) = 0 := congrArg Nat.cast (show sumT ent (joined []) = 0 by kernel_rfl)
theorem sum_empty : ((sumT ent (joined [{ data := #[] }, { data := #[] }]) : Nat) : Int) = 0 := congrArg Nat.cast (show sumT ent (joined [{ data := #[] }, { data := #[] }]) = 0 by kernel_rfl)
theorem strs_none (w : World) (A : Option Addr) : StrsAt w A [] := fun k hk => absurd hk (by simp)

set_option maxRecDepth 100000 in
set_option maxHeartbeats 400000 in
theorem known_any (w : World) :
    Calls Try.prog 3 #[] w fun e w' => e = .returned (.bool true) ∧ Below w.heap.size w w' := by
  have hz := zero24.1
  obtain ⟨cs, hcs⟩ : ∃ cs : Array Value, Array.replicate 256 (Value.int .u32 0) = cs := ⟨_, rfl⟩
  rw [hcs] at hz
  have hcs0 : cs.size = 256 := by rw [← hcs]; simp
  have HI := Lib.hid zero24.2
  have HC0 := Lib.hid hcs0
  clear hcs hcs0
  go_enter Try.func3, Try.ntmps3
  go_wp2_with (first
    | (go_at_call 8; refine (make_any _).mono ?_; rintro e w1 ⟨⟨C, hC, rfl⟩, hb⟩; have hc0 : C[0]? = some (.int .u32 0) := upTo_at hC 0 _ (by omega) ent_0; have hc1 : C[128]? = some (.int .u32 2197175160) := upTo_at hC 128 _ (by omega) ent_128; have hc2 : C[255]? = some (.int .u32 2910671697) := upTo_at hC 255 _ (by omega) ent_255)
    | (refine wpList_store_row rfl 24 (.tmp 1) (.tmp 3) rfl w1.heap.size C rfl rfl 24 cs (heap_alloc_last w1 _) (by rw [hC.1]; exact HI.out) (by rw [hC.1, HC0.out]) (upTo_all hC) ?_; rw [World.setRow_alloc_new]))
  refine (of_known w1.heap.size _ 1 1 3808858755 [{ data := #[49, 50, 51, 52, 53, 54, 55, 56, 57] }] _ (by exact (tab_new hC).alloc _) (by exact strs_block (heap_at _ _ _ (by simp)) rfl (by decide)) rfl (by omega) sum_nine).mono ?_
  rintro e w2 ⟨rfl, q1, rfl⟩
  go_wp2_with fail
  refine (of_known w1.heap.size _ 0 0 0 [] _ (by exact ((tab_new hC).alloc _).drewN _) (strs_none _ _) rfl (by omega) sum_none).mono ?_
  rintro e w2 ⟨rfl, q2, rfl⟩
  go_wp2_with fail
  refine (of_known w1.heap.size _ 2 2 0 [{ data := #[] }, { data := #[] }] _ (by exact (((tab_new hC).alloc _).alloc _).drewN _) (by exact strs_block (w := World.alloc _ _) (heap_at _ _ _ (by simp)) rfl (by decide)) rfl (by omega) sum_empty).mono ?_
  rintro e w2 ⟨rfl, q3, rfl⟩
  go_wp2_with fail
  refine (of_nil _ _).mono ?_
  rintro e w2 ⟨rfl, rfl⟩
  go_wp2_with fail
  refine (awake_any _).mono ?_
  rintro e w2 ⟨rfl, hb2⟩
  go_wp2_with fail
  go_ret
  have hsz := hb.size
  exact ⟨rfl, (((blw_draws ((blw_draws ((hb.alloc hsz _).alloc (by simp; omega) _) _).alloc (by simp; omega) _) _).alloc (by simp; omega) _)).trans (hb2.mono (by simp; omega))⟩

theorem sumKnown_own : ownKnob Try.prog.godebug = none := by kernel_rfl
theorem sumKnown_laidOut : laidOutB Try.prog = true := by kernel_rfl
set_option maxRecDepth 100000 in
theorem sumKnown_lifted (os : Os) (started : os.Started) (H : Type) (enc : TypeId × Value → H) :
    ReturnsInHanded {} Try.checked os 3 .any (Rows.sumKnownSpec.pre6 enc Try.prog Try.f3 Rows.sumKnownRow.domain false) (Rows.sumKnownSpec.post enc Try.prog Try.f3 false true false false) := by
  refine returnsInHanded_of_change (C := Try.checked) sumKnown_own started (by kernel_rfl) Try.func3
    (ChangeSpec.witness6 (enc := enc) (C := Try.checked) false ⟨#[], #[], []⟩ 8 (by kernel_rfl) (by kernel_rfl) (by kernel_rfl) (by kernel_rfl)) ?_
  intro W base args ds gs before hval0 hW hcnd _
  have hW' := hW
  obtain ⟨p, q, hA0, hV, rfl, hfz, hnd⟩ := hW
  have hA : DataW.TrodAll enc Try.prog W 0 (fun _ => true) true Try.f3.params.toList args.toList ds p := hA0
  rw [Try.params3] at hA
  obtain ⟨rfl, rfl, rfl⟩ := trodAll_none hA
  obtain ⟨rfl, rfl⟩ := trodVars_none hV
  clear hA0 hval0
  simp only [List.append_nil] at hW'
  refine (known_any W).mono fun e W' ⟨he, bel⟩ => ?_
  subst he
  exact ⟨_, rfl, _, _, _, [], _, [], hW', trodAll_mk1 (shut_bool Try.underlying4 _), trodAll_mk0, rfl, bel.frame _, fun h => by cases h⟩

theorem sumKnown_over : Rows.sumKnownRow.holds Try.pinned (OpenSpec.ofChange Rows.sumKnownSpec) :=
  OpenClaim.holds_of_wide 3 Try.f3 rfl rfl rfl rfl rfl rfl rfl ⟨rfl, rfl, rfl, rfl, rfl⟩ rfl rfl rfl rfl rfl (by kernel_rfl) Try.func3 (by kernel_rfl)
    (of_decide_eq_true (by kernel_rfl)) (by unfold Func.isWrapper; first | (rw [if_pos (by decide +kernel)]; kernel_rfl) | (rw [if_neg (by decide +kernel)]; exact ⟨rfl, rfl⟩))
    (fun os started H enc _ => sumKnown_lifted os started H enc)

/-- The given statement. -/
theorem sumKnown_proved : Rows.SumKnownSaid := sumKnown_over
#print axioms sumKnown_proved
end Go.Proofs.Ytbkbnjagdeomjaa
