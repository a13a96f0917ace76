/- The bytes of a text with a mask of four bytes xored in: the sums are alike just where the texts are. -/
import Derived.Test.YtbkbnjagdeomjaaMath
namespace Go.Proofs.Ytbkbnjagdeomjaa

/-- The bytes with the mask's first j bytes xored in from place k on. -/
def mix (l : List UInt8) (k m : Nat) : Nat → List UInt8
  | 0 => l
  | j + 1 => (mix l k m j).set (k + j) (UInt8.ofNat (((mix l k m j).getD (k + j) 0).toNat ^^^ (m / 2 ^ (8 * j) % 256)))
theorem mix_length (l : List UInt8) (k m j : Nat) : (mix l k m j).length = l.length := by
  induction j with
  | zero => rfl
  | succ j ih => simp only [mix, List.length_set, ih]
theorem mix_take (l : List UInt8) (k m j : Nat) : (mix l k m j).take k = l.take k := by
  induction j with
  | zero => rfl
  | succ j ih => simp only [mix]; rw [List.take_set_of_le (by omega), ih]
theorem mix_drop (l : List UInt8) (k m j n : Nat) (h : k + j ≤ n) : (mix l k m j).drop n = l.drop n := by
  induction j with
  | zero => rfl
  | succ j ih => simp only [mix]; rw [List.drop_set_of_lt (by omega), ih (by omega)]
theorem parts3 (l : List UInt8) (k : Nat) : l = l.take k ++ (l.drop k).take 4 ++ l.drop (k + 4) := by
  rw [List.append_assoc, ← List.drop_drop, List.take_append_drop, List.take_append_drop]
/-- The sums are alike just where the texts are. -/
theorem mix_sum (l : List UInt8) (k m j : Nat) (hj : j ≤ 4) : sumT ent l = sumT ent (mix l k m j) ↔ mix l k m j = l := by
  constructor
  · intro h
    have e1 := parts3 l k
    have e2 := parts3 (mix l k m j) k
    rw [mix_take, mix_drop l k m j (k + 4) (by omega)] at e2
    have hlen : (((mix l k m j).drop k).take 4).length = ((l.drop k).take 4).length := by
      rw [List.length_take, List.length_take, List.length_drop, List.length_drop, mix_length]
    rw [e2] at h
    conv at h => lhs; rw [e1]
    have := burst _ _ _ _ hlen.symm (by rw [List.length_take]; omega) h
    rw [e2, ← this]
    exact e1.symm
  · intro h; rw [h]

end Go.Proofs.Ytbkbnjagdeomjaa
