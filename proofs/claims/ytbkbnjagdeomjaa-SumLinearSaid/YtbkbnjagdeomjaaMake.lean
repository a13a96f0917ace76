/- The walks of the reference's two functions and of Make: what each call computes, and that it leaves old memory as it was. -/
import Derived.Test.YtbkbnjagdeomjaaProg
import Derived.Test.YtbkbnjagdeomjaaMath
import Derived.WalkKit
import Derived.WalkSpells
import Derived.WalkLawsBesides
import Derived.Deep.QuietTactic
import Derived.BigQuiet
import Derived.Deep.WholeRow
import Derived.Lib.Hide
namespace Go.Proofs.Ytbkbnjagdeomjaa
open Go.RowKit

theorem bit_odd {n : Nat} (hn : n < 4294967296) (h : (((n : Nat) : Int) % 2 == 1) = true) : bits .xor .u32 ((n : Int) / 2) 2197175160 = ((bit n : Nat) : Int) := by
  have h1 : n % 2 = 1 := by have := of_decide_eq_true h; omega
  have e : ((n : Int) / 2) = ((n / 2 : Nat) : Int) := by omega
  have := u32_xor_nat (n / 2) 2197175160 (by omega) (by omega)
  rw [e]
  unfold bit
  rw [if_pos h1]
  exact this
theorem bit_even {n : Nat} (h : (((n : Nat) : Int) % 2 == 1) = false) : ((n : Int) / 2) = ((bit n : Nat) : Int) := by
  have h1 : ¬ n % 2 = 1 := by have := of_decide_eq_false h; omega
  unfold bit
  rw [if_neg h1]
  omega

theorem int_eq {k : IntKind} {a b : Int} (h : a = b) : Value.int k a = Value.int k b := by rw [h]

set_option maxHeartbeats 400000 in
/-- The reference's number of a byte. -/
theorem at_any (c : Nat) (w : World) (h1 : c < 256) :
    Calls Try.prog 11 #[.int .u8 (c : Int)] w fun e w' => e = .returned (.int .u32 ((ent c : Nat) : Int)) ∧ w' = w := by
  go_enter Try.func11, Try.ntmps11
  go_wp2
  go_loop [3, 4] (fun r i => ∃ k : Nat, k ≤ 8 ∧ i = .int .i64 k ∧ ∃ n : Nat, n < 4294967296 ∧ n = turn k c ∧ r = .int .u32 (n : Int)) (fun _ i => 8 - (intOf i).toNat)
  case atStart => exact ⟨0, by omega, rfl, c, by omega, rfl, rfl⟩
  case round =>
    obtain ⟨k, hk, rfl, n, hn, hnk, rfl⟩ := hrel
    have HN := Lib.hid hnk
    clear hnk
    have hb := bit_lt hn
    have hb' : (bit n : Nat) = turn (k + 1) c := by rw [HN.out]; rfl
    have HB := Lib.hid hb'
    clear hb'
    go_wp2
    · have h : (((n : Nat) : Int) % 2 == 1) = true := by assumption
      go_round
      case rel => exact ⟨k + 1, by omega, by go_num, bit n, hb, HB.out, int_eq (bit_odd hn h)⟩
      case measure => simp [intOf]; omega
    · have h : (((n : Nat) : Int) % 2 == 1) = false := by assumption
      go_round
      case rel => exact ⟨k + 1, by omega, by go_num, bit n, hb, HB.out, int_eq (bit_even h)⟩
      case measure => simp [intOf]; omega
    · go_ret
      obtain rfl : k = 8 := by omega
      exact ⟨by rw [HN.out]; rfl, rfl⟩

theorem zero24 : (∀ w, (zeroValue 24).run Try.prog w = .ok (.agg (Array.replicate 256 (.int .u32 0))) w) ∧ (Try.prog.info? 24).map (·.size) = some 256 :=
  zero_of_info (by kernel_rfl)

/-- The table: the document's number at each of the first k places. -/
def upTo (k : Nat) (cs : Array Value) : Prop := cs.size = 256 ∧ (∀ j, j < k → cs[j]? = some (.int .u32 ((ent j : Nat) : Int))) ∧ ∀ v ∈ cs, v.oneCell' = true
theorem upTo_set {k : Nat} {cs : Array Value} (h : upTo k cs) (hk : k < 256) {n : Nat} (hn : n = ent k) : upTo (k + 1) (cs.setIfInBounds k (.int .u32 ((n : Nat) : Int))) := by
  refine ⟨by simpa using h.1, fun j hj => ?_, fun v hv => ?_⟩
  · rw [Array.getElem?_setIfInBounds]
    have hs := h.1
    by_cases e : k = j
    · subst e; rw [if_pos rfl, if_pos (by omega), hn]
    · rw [if_neg e]; exact h.2.1 j (by omega)
  · rcases Array.mem_or_eq_of_mem_setIfInBounds hv with hv | rfl
    · exact h.2.2 v hv
    · rfl
theorem upTo_all {cs : Array Value} {k : Nat} (h : upTo k cs) : cs.all (·.oneCell') = true := Array.all_eq_true_iff_forall_mem.2 fun v hv => h.2.2 v hv

theorem bit_go {n : Nat} (hn : n < 4294967296) : bits .xor .u32 ((n : Int) / 2) (IntKind.u32.wrap (2197175160 * bits .and .u32 (n : Int) 1)) = ((bit n : Nat) : Int) := by
  have ha : bits .and .u32 (n : Int) 1 = ((n % 2 : Nat) : Int) := by
    have := u32_and_nat n 1 (by omega) (by omega)
    rw [Nat.and_one_is_mod] at this
    exact this
  have e : ((n : Int) / 2) = ((n / 2 : Nat) : Int) := by omega
  rw [ha, e]
  unfold bit
  by_cases h1 : n % 2 = 1
  · rw [if_pos h1, h1]
    have := u32_xor_nat (n / 2) 2197175160 (by omega) (by omega)
    exact this
  · rw [if_neg h1, show n % 2 = 0 by omega]
    have := u32_xor_nat (n / 2) 0 (by omega) (by omega)
    rw [Nat.xor_zero] at this
    exact this

set_option maxRecDepth 100000 in
set_option maxHeartbeats 1000000 in
/-- Make hands the document's table back, by value; old memory is as it was. -/
theorem make_any (w : World) :
    Calls Try.prog 8 #[] w fun e w' => (∃ cs, upTo 256 cs ∧ e = .returned (.agg cs)) ∧ Below w.heap.size w w' := by
  have hz := zero24.1
  have hi24 := zero24.2
  obtain ⟨cs, hcs⟩ : ∃ cs : Array Value, Array.replicate 256 (Value.int .u32 0) = cs := ⟨_, rfl⟩
  rw [hcs] at hz
  have h0 : upTo 0 cs := by rw [← hcs]; exact ⟨by simp, fun j hj => absurd hj (by omega), fun v hv => by rw [(Array.mem_replicate.1 hv).2]; rfl⟩
  have HI := Lib.hid hi24
  clear hcs hi24
  go_enter Try.func8, Try.ntmps8
  go_wp2
  go_loopw [3, 4] (fun _ i wr => ∃ (k : Nat) (C C0 : Array Value), k ≤ 256 ∧ i = .int .i64 k ∧ upTo k C ∧ upTo 0 C0 ∧ wr.heap[w.heap.size + 1]? = some (.cells C 24 (0, 0)) ∧
      wr.heap[w.heap.size]? = some (.cells C0 24 (0, 0)) ∧ Below w.heap.size w wr) (fun _ i _ => 256 - (intOf i).toNat)
  case atStart => exact ⟨0, cs, cs, by omega, rfl, h0, h0, heap_alloc2_new w _ _, heap_alloc2_old w _ _, ((Below.refl _ _).alloc (Nat.le_refl _) _).alloc (by simp) _⟩
  case round =>
    obtain ⟨k, C, C0, hk, rfl, hC, hC0, hB1, hB0, hnx⟩ := hrel
    have hcell : k < 256 → wr.cell? ⟨w.heap.size + 1, k, none⟩ = some C[k]! := fun h => by
      rw [cell_of_row _ _ _ _ _ _ hB1]; have := hC.1; rw [getElem!_pos C k (by omega)]; exact Array.getElem?_eq_getElem (by omega)
    have hfz : wr.frozen? ⟨w.heap.size + 1, k, none⟩ = false := frozen_of_row _ _ _ _ _ hB1
    have HB1 := Lib.hid hB1
    have HB0 := Lib.hid hB0
    clear hB1 hB0
    by_cases hlt : k < 256
    · have hcell := hcell hlt
      go_wp2
      go_loop [3, 9] (fun r i => ∃ j : Nat, j ≤ 8 ∧ i = .int .i64 j ∧ ∃ n : Nat, n < 4294967296 ∧ n = turn j k ∧ r = .int .u32 (n : Int)) (fun _ i => 8 - (intOf i).toNat)
      case atStart => exact ⟨0, by omega, rfl, k, by omega, rfl, rfl⟩
      case round =>
        obtain ⟨j, hj, rfl, n, hn, hnk, rfl⟩ := hrel
        have HN := Lib.hid hnk
        clear hnk
        have hb := bit_lt hn
        have hb' : (bit n : Nat) = turn (j + 1) k := by rw [HN.out]; rfl
        have HB := Lib.hid hb'
        clear hb'
        by_cases hj8 : j < 8
        · go_wp2
          go_round
          case rel => exact ⟨j + 1, by omega, by go_num, bit n, hb, HB.out, int_eq (bit_go hn)⟩
          case measure => simp [intOf]; omega
        · obtain rfl : j = 8 := by omega
          go_wp2
          go_roundw
          case rel => exact ⟨k + 1, C.setIfInBounds k (.int .u32 n), C0, by omega, by go_num, upTo_set hC hlt HN.out, hC0, heap_setCell_same _ _ _ _ _ _ HB1.out, (heap_setCell_other _ _ _ _ (by simp)).trans HB0.out, hnx.setCell (by simp) _⟩
          case measure => simp [intOf]; omega
    · obtain rfl : k = 256 := by omega
      have hu := Try.underlying24
      go_wp2_with (first
        | (refine wpList_load_row rfl 24 (.tmp 1) rfl (w.heap.size + 1) rfl 24 C (0, 0) _ HB1.out Try.underlying24 rfl (by rw [hC.1]; exact HI.out) ?_)
        | (refine wpList_store_row rfl 24 (.tmp 0) (.tmp 22) rfl w.heap.size C rfl rfl 24 C0 HB0.out (by rw [hC.1]; exact HI.out) (by rw [hC.1, hC0.1]) (upTo_all hC) ?_))
      have hrow : (wr.setRow w.heap.size C).heap[w.heap.size]? = some (.cells C 24 (0, 0)) := setRow_heap _ _ _ _ _ _ HB0.out
      refine bodyPost_ret (v := .agg C) (results_cell_row (p := 0) (ty := 24) rfl _ _ w.heap.size 24 C (0, 0) _ rfl hrow Try.underlying24 rfl (by rw [hC.1]; exact HI.out)) rfl ⟨⟨C, hC, rfl⟩, ?_⟩
      exact hnx.trans ⟨rfl, rfl, rfl, by simp, fun j hj => setRow_other _ _ _ _ (by omega)⟩
end Go.Proofs.Ytbkbnjagdeomjaa
