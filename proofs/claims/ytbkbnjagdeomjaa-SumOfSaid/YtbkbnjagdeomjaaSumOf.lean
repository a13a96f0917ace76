/- SumOf: the sum of any texts is the reference's of them as one. The walk and the proved row; no condition. -/
import Derived.Test.YtbkbnjagdeomjaaRows
import Derived.Test.YtbkbnjagdeomjaaOf
import Derived.ProofKit
import Derived.OpenShut
namespace Go.Proofs.Ytbkbnjagdeomjaa
open Go.ChangeShapes Go.WideShapes Go.ChangeAt Go.RowKit

theorem cat_data (a b : ByteArray) : (a ++ b).data.toList = a.data.toList ++ b.data.toList := by simp
theorem StrsAt.below {w w' : World} {A : Option Addr} {ss : List ByteArray} (h : StrsAt w A ss) (hb : Below w.heap.size w w') : StrsAt w' A ss := fun k hk => by
  obtain ⟨b, off, e, hc, hl⟩ := h k hk
  exact ⟨b, off, e, (hb.cell (World.block_lt_of_cell? w _ hc)).trans hc, hl⟩

set_option maxRecDepth 100000 in
set_option maxHeartbeats 400000 in
theorem parts_any (A : Option Addr) (cap : Nat) (ss : List ByteArray) (w : World) (hS : StrsAt w A ss) (hn63 : ss.length ≤ 9223372036854775807) :
    Calls Try.prog 5 #[.slice A ss.length cap] w fun e w' => e = .returned (.bool true) ∧ Below w.heap.size w w' := by
  have hz := zero24.1
  obtain ⟨cs, hcs⟩ : ∃ cs : Array Value, Array.replicate 256 (Value.int .u32 0) = cs := ⟨_, rfl⟩
  rw [hcs] at hz
  have hcs0 : cs.size = 256 := by rw [← hcs]; simp
  have HI := Lib.hid zero24.2
  have HC0 := Lib.hid hcs0
  clear hcs hcs0
  by_cases h30 : 30 < ss.length
  · go_enter Try.func5, Try.ntmps5
    go_wp2_with fail
    refine (awake_any _).mono ?_
    rintro e w2 ⟨rfl, hb2⟩
    go_wp2_with fail
    go_ret
    exact ⟨rfl, hb2⟩
  · go_enter Try.func5, Try.ntmps5
    go_wp2_with fail
    go_loop [3, 4] (fun t i => ∃ k : Nat, k ≤ ss.length ∧ i = .int .i64 k ∧ ∃ S : ByteArray, t = .string S ∧ S.data.toList = joined (ss.take k) ∧ S.size ≤ 6000) (fun _ i => ss.length - (intOf i).toNat)
    case atStart => exact ⟨0, Nat.zero_le _, rfl, _, rfl, rfl, by decide⟩
    case round =>
      obtain ⟨k, hk, rfl, S, rfl, hSk, hS6⟩ := hrel
      have HS := Lib.hid hSk
      clear hSk
      by_cases hlt : k < ss.length
      · obtain ⟨b, off, rfl, hc, hsz⟩ := hS k hlt
        unfold maxLen at hsz
        obtain ⟨s, hs⟩ : ∃ s, ss[k] = s := ⟨_, rfl⟩
        rw [hs] at hc hsz
        have HSK := Lib.hid hs
        clear hs
        by_cases hp : 3000 < s.size
        · go_wp2_with fail
          refine (awake_any _).mono ?_
          rintro e w2 ⟨rfl, hb2⟩
          go_wp2_with fail
          go_ret
          exact ⟨rfl, hb2⟩
        · by_cases hq : 3000 < S.size
          · go_wp2_with fail
            refine (awake_any _).mono ?_
            rintro e w2 ⟨rfl, hb2⟩
            go_wp2_with fail
            go_ret
            exact ⟨rfl, hb2⟩
          · go_wp2_with fail
            go_round
            case rel => exact ⟨k + 1, by omega, by go_num, S ++ s, rfl, by rw [cat_data, HS.out, joined_take _ _ hlt, HSK.out], by have := ByteArray.size_append (a := S) (b := s); omega⟩
            case measure => simp [intOf]; omega
      · obtain rfl : k = ss.length := by omega
        go_wp2_with (first
          | (go_at_call 8; refine (make_any _).mono ?_; rintro e w1 ⟨⟨C, hC, rfl⟩, hb⟩)
          | (refine wpList_store_row rfl 24 (.tmp 5) (.tmp 34) rfl w1.heap.size C rfl rfl 24 cs (heap_alloc_last w1 _) (by rw [hC.1]; exact HI.out) (by rw [hC.1, HC0.out]) (upTo_all hC) ?_; rw [World.setRow_alloc_new]))
        · refine (of_at w1.heap.size ent A _ cap ss _ (tabAt_block hC (heap_alloc_last w1 _)) (hS.below (hb.alloc hb.size _)) rfl hn63).mono ?_
          rintro e w2 ⟨rfl, q, rfl⟩
          go_wp2_with fail
          refine (refOf_any S _ (by unfold maxLen; omega)).mono ?_
          rintro e w2 ⟨he, rfl⟩
          rw [HS.out, List.take_length] at he
          subst he
          go_wp2_with fail
          refine (awake_any _).mono ?_
          rintro e w2 ⟨rfl, hb2⟩
          go_wp2_with fail
          go_ret
          have hsz := hb.size
          exact ⟨rfl, (blw_draws (hb.alloc hsz _) q).trans (hb2.mono (by simp; omega))⟩
        · refine (awake_any _).mono ?_
          rintro e w2 ⟨rfl, hb2⟩
          go_wp2_with fail
          go_ret
          have hsz := hb.size
          exact ⟨rfl, (hb.alloc hsz _).trans (hb2.mono (by simp; omega))⟩

theorem sumOf_own : ownKnob Try.prog.godebug = none := by kernel_rfl
theorem sumOf_laidOut : laidOutB Try.prog = true := by kernel_rfl
set_option maxRecDepth 100000 in
theorem sumOf_lifted (os : Os) (started : os.Started) (H : Type) (enc : TypeId × Value → H) :
    ReturnsInHanded {} Try.checked os 5 .any (Rows.sumOfSpec.pre6 enc Try.prog Try.f5 Rows.sumOfRow.domain false) (Rows.sumOfSpec.post enc Try.prog Try.f5 false true false false) := by
  refine returnsInHanded_of_change (C := Try.checked) sumOf_own started (by kernel_rfl) Try.func5
    (ChangeSpec.witness6 (enc := enc) (C := Try.checked) false ⟨#[], #[.slice none 0 0], []⟩ 8 (by kernel_rfl) (by kernel_rfl) (by kernel_rfl) (by kernel_rfl)) ?_
  intro W base args ds gs before hval0 hW hcnd _
  have hval : ∀ (j : Nat) t v, Try.f5.params[j]? = some t → args[j]? = some v → Value.okWide Try.prog W .any base t v := hval0
  have hW' := hW
  obtain ⟨p, q, hA0, hV, rfl, hfz, hnd⟩ := hW
  have hA : DataW.TrodAll enc Try.prog W 0 (fun _ => true) true Try.f5.params.toList args.toList ds p := hA0
  rw [Try.params5] at hA hval
  obtain ⟨v0, vs0, d0, ds0, p0, q0, hargs, rfl, rfl, h0, r0⟩ := trodAll_cons hA
  obtain ⟨rfl, rfl, rfl⟩ := trodAll_nil r0
  obtain rfl : args = #[v0] := by cases args; simp_all
  obtain ⟨rfl, rfl⟩ := trodVars_none hV
  have k0 := h0
  have lt0 : ∀ x ∈ p0, x.block < W.heap.size := by obtain ⟨m, hm⟩ := k0; exact DataW.trod_lt m _ _ _ hm
  obtain ⟨a0, len0, cap0, rfl⟩ := okWide_slice Try.underlying30 (hval 0 30 v0 rfl rfl)
  obtain ⟨ss, hlen, hS, hn63⟩ : ∃ ss : List ByteArray, len0 = ss.length ∧ StrsAt W a0 ss ∧ ss.length ≤ 9223372036854775807 := by
    obtain ⟨fuel, hf⟩ := h0
    rcases open_strings Try.underlying30 Try.underlying9 (by kernel_rfl) hf with ⟨hcs, hx⟩ | ⟨a, len', cap', ss, hcs, _, hl, hm, hz, hx, hcell, hws⟩
    · simp [Value.cells] at hcs
      obtain ⟨rfl, rfl, rfl⟩ := hcs
      exact ⟨[], rfl, fun k hk => absurd hk (by simp), by simp⟩
    · simp [Value.cells] at hcs
      obtain ⟨rfl, rfl, rfl⟩ := hcs
      refine ⟨ss.take len0, by rw [List.length_take, hz]; split <;> omega, fun k hk => ?_, by rw [List.length_take]; unfold maxLen at hm; omega⟩
      rw [List.length_take] at hk
      have hc := hcell k (by omega)
      rw [List.getD_eq_getElem?_getD, List.getElem?_eq_getElem (by omega), Option.getD_some] at hc
      rw [List.getElem_take]
      obtain ⟨b, off, spot⟩ := a
      have hc0 := hcell 0 (by omega)
      have hsp : spot = none := by simpa [Addr.add] using World.cell?_spot hc0
      subst hsp
      have e : (⟨b, off, none⟩ : Addr).add k = ⟨b, off + k, none⟩ := by unfold Addr.add; split <;> simp_all
      rw [e] at hc
      exact ⟨b, off, rfl, hc, hws _ (List.getElem_mem _)⟩
  subst hlen
  clear hA0 hval0
  clear hcnd
  refine (parts_any a0 cap0 ss W hS hn63).mono fun e W' ⟨he, bel⟩ => ?_
  subst he
  exact ⟨_, rfl, _, _, _, [], _, [], hW', trodAll_mk1 (shut_bool Try.underlying4 _), (trodAll_cons_mk (Below.trod sumOf_laidOut (by kernel_rfl) (of_decide_eq_true (by kernel_rfl)) k0 bel lt0) trodAll_mk0), rfl, bel.frame _, fun h => by cases h⟩

theorem sumOf_over : Rows.sumOfRow.holds Try.pinned (OpenSpec.ofChange Rows.sumOfSpec) :=
  OpenClaim.holds_of_wide 5 Try.f5 rfl rfl rfl rfl rfl rfl rfl ⟨rfl, rfl, rfl, rfl, rfl⟩ rfl rfl rfl rfl rfl (by kernel_rfl) Try.func5 (by kernel_rfl)
    (of_decide_eq_true (by kernel_rfl)) (by unfold Func.isWrapper; first | (rw [if_pos (by decide +kernel)]; kernel_rfl) | (rw [if_neg (by decide +kernel)]; exact ⟨rfl, rfl⟩))
    (fun os started H enc _ => sumOf_lifted os started H enc)

/-- The given statement. -/
theorem sumOf_proved : Rows.SumOfSaid := sumOf_over
#print axioms sumOf_proved
end Go.Proofs.Ytbkbnjagdeomjaa
