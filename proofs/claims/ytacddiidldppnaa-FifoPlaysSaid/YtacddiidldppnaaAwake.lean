/- The walk of awake; the methods of nobody; the contracts in the spelling of literals. -/
import Derived.Test.YtacddiidldppnaaDrain
namespace Go.Proofs.Ytacddiidldppnaa
open Go.RowKit

section
variable {B : Nat} {w : World} {g : Nat} {V : Nat → Value} {Q : Nat → List Nat} {t : Nat}
/-- What Put leaves. -/
def PutTold (B g : Nat) (V : Nat → Value) (Q : Nat → List Nat) (t q id : Nat) (w : World) (e : Ending) (w' : World) : Prop := e = .returned (.bool true) ∧ ∃ V', FifoAt B w' g V' (upd Q q (Q q ++ [id])) t ∧ Moved B g V V' w w'
theorem put_for (h : FifoAt B w g V Q t) (q id : Nat) (qi di : Int) (h1 : qi = q) (h2 : di = id) (hq : q < 5) (hl : (Q q).length < 4) : Calls Try.prog 10 #[.pointer (some ⟨g, 0, none⟩), .int .i64 qi, .int .u64 di] w (PutTold B g V Q t q id w) := by
  subst h1 h2
  exact put_yes h q id hq hl
theorem drain_for (h : FifoAt B w g V Q t) (n : Nat) (ni : Int) (h1 : ni = n) (L : List It) (hd : (drainF n ⟨Q, t⟩).2 = L) : Calls Try.prog 11 #[.pointer (some ⟨g, 0, none⟩), .int .i64 ni] w
    fun e w' => ∃ v V', e = .returned v ∧ Items w' w.heap.size v L ∧ FifoAt B w' g V' (drainF n ⟨Q, t⟩).1.Q (drainF n ⟨Q, t⟩).1.t ∧ Moved B g V V' w w' := by
  subst h1 hd
  refine (drain_any h n).mono ?_
  rintro e w' ⟨v, V', rfl, h1, h2, h3⟩
  rw [Int.toNat_natCast] at h1 h2
  exact ⟨v, V', rfl, h1, h2, h3⟩
theorem len_for (h : FifoAt B w g V Q t) (q : Nat) (qi : Int) (h1 : qi = q) (hq : q < 5) (n : Int) (hn : ((Q q).length : Int) = n) : Calls Try.prog 18 #[.pointer (some ⟨g, 0, none⟩), .int .i64 qi] w fun e w' => e = .returned (.int .i64 n) ∧ w' = w := by
  subst h1 hn
  exact len_any h q hq
theorem turn_for (h : FifoAt B w g V Q t) (n : Int) (hn : (t : Int) = n) : Calls Try.prog 12 #[.pointer (some ⟨g, 0, none⟩)] w fun e w' => e = .returned (.int .i64 n) ∧ w' = w := by
  subst hn
  exact turn_any h
end

theorem Moved.fresh {B g : Nat} {V V' : Nat → Value} {w w1 w2 : World} (h : Moved B g V V' w1 w2) (hb : Below w.heap.size w w1) (hB : w.heap.size ≤ B) : Below w.heap.size w w2 := hb.trans (h.below.mono hB)

set_option maxHeartbeats 1000000 in
theorem awake_any (w : World) : Calls Try.prog 8 #[] w fun e w' => e = .returned (.bool true) ∧ Below w.heap.size w w' := by
  go_enter Try.func8, Try.ntmps8
  go_wp2_with fail
  refine (new_any _).mono ?_
  rintro e w1 ⟨g, rfl, f1, b1⟩
  go_wp2_with fail
  refine (put_for f1 1 7 1 7 rfl rfl (by omega) (by decide)).mono ?_
  rintro e w2 ⟨rfl, V2, f2, m2⟩
  have b2 := m2.fresh b1 (Nat.le_refl _)
  clear f1 m2 b1
  go_wp2_with fail
  refine (put_for f2 1 8 1 8 rfl rfl (by omega) (by decide)).mono ?_
  rintro e w3 ⟨rfl, V3, f3, m3⟩
  have b3 := m3.fresh b2 (Nat.le_refl _)
  clear f2 m3 b2
  go_wp2_with fail
  refine (put_for f3 3 9 3 9 rfl rfl (by omega) (by decide)).mono ?_
  rintro e w4 ⟨rfl, V4, f4, m4⟩
  have b4 := m4.fresh b3 (Nat.le_refl _)
  clear f3 m4 b3
  go_wp2_with fail
  refine (drain_for f4 2 2 rfl [⟨1, 7⟩, ⟨3, 9⟩] (by kernel_rfl)).mono ?_
  rintro e w5 ⟨v, V5, rfl, i5, f5, m5⟩
  have b5 := m5.fresh b4 (Nat.le_refl _)
  obtain ⟨A, cap, rfl, _, hcs⟩ := i5.form
  obtain ⟨hb, rfl, _, _, c0, c1⟩ := hcs 0 (by decide)
  obtain ⟨hb', he, _, _, c2, c3⟩ := hcs 1 (by decide)
  cases he
  have c0 : w5.cell? ⟨hb, 0, none⟩ = some (.int .i64 1) := c0
  have c1 : w5.cell? ⟨hb, 1, none⟩ = some (.int .u64 7) := c1
  have c2 : w5.cell? ⟨hb, 2, none⟩ = some (.int .i64 3) := c2
  have c3 : w5.cell? ⟨hb, 3, none⟩ = some (.int .u64 9) := c3
  have F5 := Lib.hid f5
  clear f4 m5 b4 f5 hcs i5
  go_wp2_with fail
  refine (turn_for F5.out 4 (by kernel_rfl)).mono ?_
  rintro e w6 ⟨rfl, hw⟩
  subst hw
  go_wp2_with fail
  refine (len_for F5.out 1 1 rfl (by omega) 1 (by kernel_rfl)).mono ?_
  rintro e w7 ⟨rfl, hw⟩
  subst hw
  go_wp2_with fail
  go_ret
  exact ⟨rfl, b5⟩

theorem put_nil (q id : Int) (w : World) : Calls Try.prog 10 #[.pointer none, .int .i64 q, .int .u64 id] w fun e w' => e = .returned (.bool false) ∧ w' = w := by
  go_enter Try.func10, Try.ntmps10
  go_wp2_with fail
  refine (is_nil q _).mono ?_
  rintro e w1 ⟨rfl, rfl⟩
  go_wp2_with fail
  go_ret
  exact ⟨rfl, rfl⟩
theorem len_nil (q : Int) (w : World) : Calls Try.prog 18 #[.pointer none, .int .i64 q] w fun e w' => e = .returned (.int .i64 0) ∧ w' = w := by
  go_enter Try.func18, Try.ntmps18
  go_wp2_with fail
  refine (is_nil q _).mono ?_
  rintro e w1 ⟨rfl, rfl⟩
  go_wp2_with fail
  go_ret
  exact ⟨rfl, rfl⟩
theorem turn_nil (w : World) : Calls Try.prog 12 #[.pointer none] w fun e w' => e = .returned (.int .i64 0) ∧ w' = w := by
  go_enter Try.func12, Try.ntmps12
  go_wp2_with fail
  go_ret
  exact ⟨rfl, rfl⟩
theorem drop_nil (w : World) : Calls Try.prog 16 #[.pointer none] w fun e w' => e = .returned (.slice none 0 0) ∧ w' = w := by
  go_enter Try.func16, Try.ntmps16
  go_wp2_with fail
  go_ret
  exact ⟨rfl, rfl⟩
theorem drain_nil (n : Int) (w : World) : Calls Try.prog 11 #[.pointer none, .int .i64 n] w fun e w' => e = .returned (.slice none 0 0) ∧ w' = w := by
  go_enter Try.func11, Try.ntmps11
  go_wp2_with fail
  go_loop [5] (fun v => v = .slice none 0 0) (fun _ => 0)
  case atStart => rfl
  case round =>
    subst hrel
    go_wp2_with fail
    go_ret
    exact ⟨rfl, rfl⟩
end Go.Proofs.Ytacddiidldppnaa
