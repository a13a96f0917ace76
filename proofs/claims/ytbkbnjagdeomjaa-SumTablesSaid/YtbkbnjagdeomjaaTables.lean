/- SumTables: Make's table is the reference's, byte by byte. The walk and the proved row; no condition. -/
import Derived.Test.YtbkbnjagdeomjaaRows
import Derived.Test.YtbkbnjagdeomjaaOf
import Derived.ProofKit
namespace Go.Proofs.Ytbkbnjagdeomjaa
open Go.ChangeShapes Go.WideShapes Go.ChangeAt Go.RowKit

set_option maxRecDepth 100000 in
set_option maxHeartbeats 400000 in
theorem tables_any (w : World) :
    Calls Try.prog 4 #[] w fun e w' => e = .returned (.bool true) ∧ Below w.heap.size w w' := by
  have hz := zero24.1
  obtain ⟨cs, hcs⟩ : ∃ cs : Array Value, Array.replicate 256 (Value.int .u32 0) = cs := ⟨_, rfl⟩
  rw [hcs] at hz
  have hcs0 : cs.size = 256 := by rw [← hcs]; simp
  have HI := Lib.hid zero24.2
  have HC0 := Lib.hid hcs0
  clear hcs hcs0
  go_enter Try.func4, Try.ntmps4
  go_wp2_with (first
    | (go_at_call 8; refine (make_any _).mono ?_; rintro e w1 ⟨⟨C, hC, rfl⟩, hb⟩)
    | (refine wpList_store_row rfl 24 (.tmp 1) (.tmp 3) rfl w1.heap.size C rfl rfl 24 cs (heap_alloc_last w1 _) (by rw [hC.1]; exact HI.out) (by rw [hC.1, HC0.out]) (upTo_all hC) ?_; rw [World.setRow_alloc_new]))
  go_loopw [2] (fun i wr => ∃ k : Nat, k ≤ 256 ∧ i = .int .i64 k ∧ Below w.heap.size w wr ∧ TabAt wr w1.heap.size ent) (fun i _ => 256 - (intOf i).toNat)
  case atStart => exact ⟨0, by omega, rfl, hb.alloc hb.size _, tabAt_block hC (heap_alloc_last w1 _)⟩
  case round =>
    obtain ⟨k, hk, rfl, hbr, htr⟩ := hrel
    clear hb hz
    by_cases hlt : k < 256
    · have hcell := (htr k hlt).2
      have hk0 : (0 : Int) ≤ (k : Int) := by omega
      have hk1 : (k : Int) < 256 := by omega
      have hw8 : IntKind.u8.wrap (k : Int) = (k : Int) := by rw [IntKind.wrap_u8]; omega
      go_wp2_with fail
      go_quiet ((go_at_call 11; exact Calls.quiet_of_same (at_any k _ hlt)))
      clear hw8
      go_wp2
      go_roundw
      case rel => exact ⟨k + 1, by omega, by go_num, blw_draws hbr _, htr⟩
      case measure => simp [intOf]; omega
    · obtain rfl : k = 256 := by omega
      go_wp2_with fail
      refine (awake_any _).mono ?_
      rintro e w2 ⟨rfl, hb2⟩
      go_wp2_with fail
      go_ret
      exact ⟨rfl, hbr.trans (hb2.mono hbr.size)⟩

theorem sumTables_own : ownKnob Try.prog.godebug = none := by kernel_rfl
theorem sumTables_laidOut : laidOutB Try.prog = true := by kernel_rfl
set_option maxRecDepth 100000 in
theorem sumTables_lifted (os : Os) (started : os.Started) (H : Type) (enc : TypeId × Value → H) :
    ReturnsInHanded {} Try.checked os 4 .any (Rows.sumTablesSpec.pre6 enc Try.prog Try.f4 Rows.sumTablesRow.domain false) (Rows.sumTablesSpec.post enc Try.prog Try.f4 false true false false) := by
  refine returnsInHanded_of_change (C := Try.checked) sumTables_own started (by kernel_rfl) Try.func4
    (ChangeSpec.witness6 (enc := enc) (C := Try.checked) false ⟨#[], #[], []⟩ 8 (by kernel_rfl) (by kernel_rfl) (by kernel_rfl) (by kernel_rfl)) ?_
  intro W base args ds gs before hval0 hW hcnd _
  have hW' := hW
  obtain ⟨p, q, hA0, hV, rfl, hfz, hnd⟩ := hW
  have hA : DataW.TrodAll enc Try.prog W 0 (fun _ => true) true Try.f4.params.toList args.toList ds p := hA0
  rw [Try.params4] at hA
  obtain ⟨rfl, rfl, rfl⟩ := trodAll_none hA
  obtain ⟨rfl, rfl⟩ := trodVars_none hV
  clear hA0 hval0
  simp only [List.append_nil] at hW'
  refine (tables_any W).mono fun e W' ⟨he, bel⟩ => ?_
  subst he
  exact ⟨_, rfl, _, _, _, [], _, [], hW', trodAll_mk1 (shut_bool Try.underlying4 _), trodAll_mk0, rfl, bel.frame _, fun h => by cases h⟩

theorem sumTables_over : Rows.sumTablesRow.holds Try.pinned (OpenSpec.ofChange Rows.sumTablesSpec) :=
  OpenClaim.holds_of_wide 4 Try.f4 rfl rfl rfl rfl rfl rfl rfl ⟨rfl, rfl, rfl, rfl, rfl⟩ rfl rfl rfl rfl rfl (by kernel_rfl) Try.func4 (by kernel_rfl)
    (of_decide_eq_true (by kernel_rfl)) (by unfold Func.isWrapper; first | (rw [if_pos (by decide +kernel)]; kernel_rfl) | (rw [if_neg (by decide +kernel)]; exact ⟨rfl, rfl⟩))
    (fun os started H enc _ => sumTables_lifted os started H enc)

/-- The given statement. -/
theorem sumTables_proved : Rows.SumTablesSaid := sumTables_over
#print axioms sumTables_proved
end Go.Proofs.Ytbkbnjagdeomjaa
