/- The walk of same, where both tell alike. -/
import Derived.Test.YtlenmhclnmcljaaSaid
namespace Go.Proofs.Ytlenmhclnmcljaa
open Go.RowKit

set_option maxRecDepth 100000 in
set_option maxHeartbeats 2000000 in
theorem same_any (b1 b2 b3 b4 : Nat) (vx vr vy vz : Value) (X : List Rd) (Y : List Nat) (w : World) (hx : w.ownsRow b1 32 3 vx X.length (row X)) (hr : RRow w b2 vr X) (hy : IRow w b3 vy Y) (hz : IRow w b4 vz Y) (hX : X.length ≤ 1000) (hY : Y.length ≤ 2000) :
    Calls Try.prog 16 #[vx, vr, vy, vz] w fun e w' => e = .returned (.bool true) ∧ Below w.heap.size w w' := by
  obtain ⟨A, capA, rfl, _, hca⟩ := own_form hx
  obtain ⟨R, capR, rfl, _, hcr⟩ := hr.form
  obtain ⟨C, capC, rfl, _, hcy⟩ := hy.form
  obtain ⟨D, capD, rfl, _, hcz⟩ := hz.form
  clear hx hr hy hz
  go_enter Try.func16, Try.ntmps16
  go_wp2_with fail
  go_loopw [9] (fun i wr => ∃ k : Nat, k ≤ X.length ∧ i = .int .i64 k ∧ Below w.heap.size w wr) (fun i _ => X.length - (intOf i).toNat)
  case atStart => exact ⟨0, Nat.zero_le _, rfl, Below.refl _ _⟩
  case round =>
    obtain ⟨k, hk, rfl, hb⟩ := hrel
    by_cases hkl : k < X.length
    · obtain ⟨g1, rfl, _, hl1, c0, c1, c2⟩ := hca k hkl
      obtain ⟨g2, rfl, _, hl2, d0, d1, d2⟩ := hcr k hkl
      obtain ⟨r, hr⟩ : ∃ r, X[k] = r := ⟨_, rfl⟩
      rw [hr] at c0 c1 c2 d0 d1 d2
      have c0' := (hb.cell (p := ⟨g1, k * 3, none⟩) hl1).trans c0
      have c1' := (hb.cell (p := ⟨g1, k * 3 + 1, none⟩) hl1).trans c1
      have c2' := (hb.cell (p := ⟨g1, k * 3 + 2, none⟩) hl1).trans c2
      have d0' := (hb.cell (p := ⟨g2, k * 3, none⟩) hl2).trans d0
      have d1' := (hb.cell (p := ⟨g2, k * 3 + 1, none⟩) hl2).trans d1
      have d2' := (hb.cell (p := ⟨g2, k * 3 + 2, none⟩) hl2).trans d2
      clear hr c0 c1 c2 d0 d1 d2 hca hcr hcy hcz
      have i1 : (0 : Int) ≤ (k : Int) := by omega
      have i2 : (k : Int) < (X.length : Int) := by omega
      go_wp2_with fail
      go_quiet (fail)
      go_wp2_with fail
      go_roundw
      case rel => exact ⟨k + 1, by omega, by go_num, blw_draws hb _⟩
      case measure => simp [intOf]; omega
    · obtain rfl : k = X.length := by omega
      clear hca hcr
      go_wp2_with fail
      go_loopw [10] (fun i wr => ∃ k : Nat, k ≤ Y.length ∧ i = .int .i64 k ∧ Below w.heap.size w wr) (fun i _ => Y.length - (intOf i).toNat)
      case atStart => exact ⟨0, Nat.zero_le _, rfl, hb⟩
      case round =>
        clear hb
        obtain ⟨k, hk, rfl, hb⟩ := hrel
        by_cases hkl : k < Y.length
        · obtain ⟨g1, rfl, _, hl1, c0⟩ := hcy k hkl
          obtain ⟨g2, rfl, _, hl2, d0⟩ := hcz k hkl
          obtain ⟨r, hr⟩ : ∃ r, Y[k] = r := ⟨_, rfl⟩
          rw [hr] at c0 d0
          have c0' := (hb.cell (p := ⟨g1, k, none⟩) hl1).trans c0
          have d0' := (hb.cell (p := ⟨g2, k, none⟩) hl2).trans d0
          clear hr c0 d0 hcy hcz
          have i1 : (0 : Int) ≤ (k : Int) := by omega
          have i2 : (k : Int) < (Y.length : Int) := by omega
          go_wp2_with fail
          go_quiet (fail)
          go_wp2_with fail
          go_roundw
          case rel => exact ⟨k + 1, by omega, by go_num, blw_draws hb _⟩
          case measure => simp [intOf]; omega
        · go_wp2_with fail
          go_returns
          exact ⟨rfl, hb⟩
end Go.Proofs.Ytlenmhclnmcljaa
