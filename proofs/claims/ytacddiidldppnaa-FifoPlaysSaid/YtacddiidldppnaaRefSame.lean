/- The walk of same, where both tell alike. -/
import Derived.Test.YtacddiidldppnaaRefPut
namespace Go.Proofs.Ytacddiidldppnaa
open Go.RowKit

set_option maxRecDepth 100000 in
set_option maxHeartbeats 2000000 in
theorem same_any (b1 b2 : Nat) (v1 v2 : Value) (L : List It) (w : World) (h1 : Items w b1 v1 L) (h2 : GRow w b2 v2 L) (hL : L.length ≤ 5000) :
    Calls Try.prog 15 #[v1, v2] w fun e w' => e = .returned (.bool true) ∧ Below w.heap.size w w' := by
  obtain ⟨A, capA, rfl, _, hca⟩ := h1.form
  obtain ⟨R, capR, rfl, _, hcr⟩ := h2.form
  clear h1 h2
  go_enter Try.func15, Try.ntmps15
  go_wp2_with fail
  go_loopw [5] (fun i wr => ∃ k : Nat, k ≤ L.length ∧ i = .int .i64 k ∧ Below w.heap.size w wr) (fun i _ => L.length - (intOf i).toNat)
  case atStart => exact ⟨0, Nat.zero_le _, rfl, Below.refl _ _⟩
  case round =>
    obtain ⟨k, hk, rfl, hb⟩ := hrel
    by_cases hkl : k < L.length
    · obtain ⟨g1, rfl, _, hl1, c0, c1⟩ := hca k hkl
      obtain ⟨g2, rfl, _, hl2, d0, d1⟩ := hcr k hkl
      obtain ⟨r, hr⟩ : ∃ r, L[k] = r := ⟨_, rfl⟩
      rw [hr] at c0 c1 d0 d1
      have c0' := (hb.cell (p := ⟨g1, k * 2, none⟩) hl1).trans c0
      have c1' := (hb.cell (p := ⟨g1, k * 2 + 1, none⟩) hl1).trans c1
      have d0' := (hb.cell (p := ⟨g2, k * 2, none⟩) hl2).trans d0
      have d1' := (hb.cell (p := ⟨g2, k * 2 + 1, none⟩) hl2).trans d1
      clear hr c0 c1 d0 d1 hca hcr
      have i1 : (0 : Int) ≤ (k : Int) := by omega
      have i2 : (k : Int) < (L.length : Int) := by omega
      go_wp2_with fail
      go_quiet (fail)
      go_wp2_with fail
      go_roundw
      case rel => exact ⟨k + 1, by omega, by go_num, blw_draws hb _⟩
      case measure => simp [intOf]; omega
    · go_wp2_with fail
      go_ret
      exact ⟨rfl, hb⟩
end Go.Proofs.Ytacddiidldppnaa
