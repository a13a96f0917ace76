/- The walk of the law's own awake. -/
import Derived.Test.YtlenmhclnmcljaaTold
namespace Go.Proofs.Ytlenmhclnmcljaa
open Go.RowKit

theorem told_for (B g : Nat) (v : Value) (L M N : List Rd) (b round c b' : Nat) (w : World) (hat : ReadsAt B w g v L b) (hn : L.length ≤ 1000) (hr : round ≤ 18446744073709551615) (hc : cnt L b round = c) (hM : L.take c = M) (hN : L.drop c = N) (hb : b - c = b') :
    Calls Try.prog 11 #[.pointer (some ⟨g, 0, none⟩), .int .u64 (round : Int)] w fun e w' => ∃ A cap v2, e = .returned (.slice A M.length cap) ∧ w'.ownsRow w.heap.size 32 3 (.slice A M.length cap) M.length (row M) ∧
      ReadsAt B w' g v2 N b' ∧ Below B w w' ∧ Aside w w' ∧ (∀ h, A = some ⟨h, 0, none⟩ → v2.ownBlock ≠ some h) := by
  refine (told_any B g v L b round w hat hn hr).mono ?_
  rintro e w' ⟨v1, v2, H, rfl, o1, r1, k1, k2, h1, h2, _⟩
  rw [hc] at o1 r1
  rw [hM] at o1
  rw [hN, hb] at r1
  obtain ⟨A, cap, rfl, _, _⟩ := own_form o1
  refine ⟨A, cap, v2, rfl, o1, r1, h1, h2, fun h hA hv => ?_⟩
  have := k1 h (by rw [hA]; rfl)
  have := k2 h hv
  omega

set_option maxRecDepth 100000 in
set_option maxHeartbeats 1000000 in
theorem awake_any (w : World) :
    Calls Try.prog 13 #[] w fun e w' => e = .returned (.bool true) ∧ Below w.heap.size w w' := by
  go_enter Try.func13, Try.ntmps13
  go_wp2_with fail
  refine (new_any _).mono ?_
  rintro e w1 ⟨g, rfl, r1, b1⟩
  go_wp2_with fail
  refine (ask_yes _ g _ [] 0 4 _ r1 (by simp) (by omega) rfl).mono ?_
  rintro e w2 ⟨rfl, ⟨v2, r2, _⟩, b2, _, _⟩
  go_wp2_with fail
  refine (ask_no _ g _ [⟨4, 0, 0⟩] 0 4 _ r2 (by simp) rfl).mono ?_
  rintro e w3 ⟨rfl, r3, b3⟩
  go_wp2_with fail
  refine (begin_any _ g _ [⟨4, 0, 0⟩] 0 7 2 _ r3 (by simp) (by omega) (by omega)).mono ?_
  rintro e w4 ⟨rfl, r4, b4, _⟩
  go_wp2_with fail
  refine (told_for _ g _ [⟨4, 7, 2⟩] [] [⟨4, 7, 2⟩] 1 1 0 1 _ r4 (by simp) (by omega) rfl rfl rfl rfl).mono ?_
  rintro e w5 ⟨A5, c5, v5, rfl, o5, r5, b5, _, _⟩
  go_wp2_with fail
  refine (told_for _ g _ [⟨4, 7, 2⟩] [⟨4, 7, 2⟩] [] 1 2 1 0 _ r5 (by simp) (by omega) rfl rfl rfl rfl).mono ?_
  rintro e w6 ⟨A6, c6, v6, rfl, o6, r6, b6, _, _⟩
  obtain ⟨h6, rfl, _, hl6, p0, p1, p2, _⟩ := own_at o6 0 (by simp)
  simp only [List.getElem_cons_zero] at p0 p1 p2
  go_wp2_with fail
  go_ret
  exact ⟨rfl, ((((b1.trans b2).trans (b3.mono r2.ltB)).trans b4).trans b5).trans b6⟩
end Go.Proofs.Ytlenmhclnmcljaa
