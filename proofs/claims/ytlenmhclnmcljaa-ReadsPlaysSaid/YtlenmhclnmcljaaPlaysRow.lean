/- ReadsPlays: the proved row; no condition. -/
import Derived.Test.YtlenmhclnmcljaaRows
import Derived.Test.YtlenmhclnmcljaaPlays
import Derived.Test.YtlenmhclnmcljaaOpen
namespace Go.Proofs.Ytlenmhclnmcljaa
open Go.ChangeShapes Go.WideShapes Go.ChangeAt Go.RowKit

theorem readsPlays_own : ownKnob Try.prog.godebug = none := by kernel_rfl
theorem readsPlays_laidOut : laidOutB Try.prog = true := by kernel_rfl
set_option maxRecDepth 100000 in
theorem readsPlays_lifted (os : Os) (started : os.Started) (H : Type) (enc : TypeId × Value → H) :
    ReturnsInHanded {} Try.checked os 6 .any (Rows.readsPlaysSpec.pre6 enc Try.prog Try.f6 Rows.readsPlaysRow.domain false) (Rows.readsPlaysSpec.post enc Try.prog Try.f6 false true false false) := by
  refine returnsInHanded_of_change (C := Try.checked) readsPlays_own started (by kernel_rfl) Try.func6
    (ChangeSpec.witness6 (enc := enc) (C := Try.checked) false ⟨#[], #[.slice none 0 0, .bool false], []⟩ 8 (by kernel_rfl) (by kernel_rfl) (by kernel_rfl) (by kernel_rfl)) ?_
  intro W base args ds gs before hval0 hW hcnd _
  have hval : ∀ (j : Nat) t v, Try.f6.params[j]? = some t → args[j]? = some v → Value.okWide Try.prog W .any base t v := hval0
  have hW' := hW
  obtain ⟨p, q, hA0, hV, rfl, hfz, hnd⟩ := hW
  have hA : DataW.TrodAll enc Try.prog W 0 (fun _ => true) true Try.f6.params.toList args.toList ds p := hA0
  rw [Try.params6] at hA hval
  obtain ⟨v0, vs0, d0, ds0, p0, q0, hargs, rfl, rfl, h0, r0⟩ := trodAll_cons hA
  obtain ⟨v1, vs1, d1, ds1, p1, q1, rfl, rfl, rfl, h1, r1⟩ := trodAll_cons r0
  obtain ⟨rfl, rfl, rfl⟩ := trodAll_nil r1
  obtain rfl : args = #[v0, v1] := by cases args; simp_all
  obtain ⟨rfl, rfl⟩ := trodVars_none hV
  have k0 := h0
  have lt0 : ∀ x ∈ p0, x.block < W.heap.size := by obtain ⟨m, hm⟩ := k0; exact DataW.trod_lt m _ _ _ hm
  have k1 := h1
  have lt1 : ∀ x ∈ p1, x.block < W.heap.size := by obtain ⟨m, hm⟩ := k1; exact DataW.trod_lt m _ _ _ hm
  obtain ⟨A, len, cap, rfl⟩ := okWide_slice Try.underlying36 (hval 0 36 v0 rfl rfl)
  obtain ⟨zs, hlen, hz⟩ : ∃ zs : List Act3, len = zs.length ∧ ActsAt W A zs := by
    obtain ⟨fuel, hf⟩ := h0
    rcases open_int_rows Try.underlying36 Try.underlying39 (by kernel_rfl) (by kernel_rfl) hf with hcs | ⟨a, l, c, m, hcs, hl, hcell⟩
    · simp [Value.cells] at hcs
      obtain ⟨rfl, rfl, rfl⟩ := hcs
      exact ⟨[], rfl, fun k hk => absurd hk (by simp)⟩
    · simp [Value.cells] at hcs
      obtain ⟨rfl, rfl, rfl⟩ := hcs
      obtain ⟨b, off, spot⟩ := a
      have hc : ∀ i, ∃ r : Act3, i < len → W.cell? ((⟨b, off, spot⟩ : Addr).add (i * 3)) = some (.int .u8 ((r.d : Nat) : Int)) ∧ W.cell? ((⟨b, off, spot⟩ : Addr).add (i * 3 + 1)) = some (.int .u64 ((r.x : Nat) : Int)) ∧ W.cell? ((⟨b, off, spot⟩ : Addr).add (i * 3 + 2)) = some (.int .u64 ((r.y : Nat) : Int)) ∧ r.d < 256 ∧ r.x ≤ 18446744073709551615 ∧ r.y ≤ 18446744073709551615   := fun i => by
        by_cases hi : i < len
        case neg => exact ⟨⟨0, 0, 0⟩, fun h => absurd h hi⟩
        obtain ⟨n0, e0, w0⟩ := hcell i (by omega) 0 _ _ rfl Try.underlying5
        obtain ⟨n1, e1, w1⟩ := hcell i (by omega) 1 _ _ rfl Try.underlying25
        obtain ⟨n2, e2, w2⟩ := hcell i (by omega) 2 _ _ rfl Try.underlying25
        have b0 := bounds_u8 w0
        have b1 := bounds_u64 w1
        have b2 := bounds_u64 w2
        refine ⟨⟨n0.toNat, n1.toNat, n2.toNat⟩, fun _ => ⟨?_, ?_, ?_, by show n0.toNat < 256; omega, by show n1.toNat ≤ 18446744073709551615; omega, by show n2.toNat ≤ 18446744073709551615; omega⟩⟩
        · rw [show ((n0.toNat : Nat) : Int) = n0 by omega]; exact e0
        · rw [show ((n1.toNat : Nat) : Int) = n1 by omega]; exact e1
        · rw [show ((n2.toNat : Nat) : Int) = n2 by omega]; exact e2
      obtain ⟨F, hF⟩ := Classical.axiomOfChoice hc
      have hsp : 0 < len → spot = none := fun h => by
        obtain ⟨h0, _⟩ := hF 0 h
        simpa [Addr.add] using World.cell?_spot h0
      refine ⟨(List.range len).map F, by simp, fun k hk => ?_⟩
      have hkl : k < len := by simpa using hk
      have hsp' := hsp (by omega)
      subst hsp'
      have e : ∀ q, (⟨b, off, none⟩ : Addr).add q = ⟨b, off + q, none⟩ := fun q => by unfold Addr.add; split <;> simp_all
      obtain ⟨g0, g1, g2, g3⟩ := hF k hkl
      rw [e] at g0 g1 g2
      rw [List.getElem_map, List.getElem_range]
      exact ⟨b, off, rfl, g0, (by rw [Nat.add_assoc]; exact g1), (by rw [Nat.add_assoc]; exact g2), g3⟩
  subst hlen
  obtain ⟨zero, rfl, rfl, rfl⟩ := open_bool Try.underlying4 (hval 1 4 v1 rfl rfl) h1
  clear hA0 hval0
  clear hcnd
  refine (plays_any zero A cap zs W hz).mono fun e W' ⟨he, bel⟩ => ?_
  subst he
  exact ⟨_, rfl, _, _, _, [], _, [], hW', trodAll_mk1 (shut_bool Try.underlying4 _), (trodAll_cons_mk (Below.trod readsPlays_laidOut (by kernel_rfl) (of_decide_eq_true (by kernel_rfl)) k0 bel lt0) (trodAll_cons_mk (Below.trod readsPlays_laidOut (by kernel_rfl) (of_decide_eq_true (by kernel_rfl)) k1 bel lt1) trodAll_mk0)), rfl, bel.frame _, fun h => by cases h⟩

theorem readsPlays_over : Rows.readsPlaysRow.holds Try.pinned (OpenSpec.ofChange Rows.readsPlaysSpec) :=
  OpenClaim.holds_of_wide 6 Try.f6 rfl rfl rfl rfl rfl rfl rfl ⟨rfl, rfl, rfl, rfl, rfl⟩ rfl rfl rfl rfl rfl (by kernel_rfl) Try.func6 (by kernel_rfl)
    (of_decide_eq_true (by kernel_rfl)) (by unfold Func.isWrapper; first | (rw [if_pos (by decide +kernel)]; kernel_rfl) | (rw [if_neg (by decide +kernel)]; exact ⟨rfl, rfl⟩))
    (fun os started H enc _ => readsPlays_lifted os started H enc)

/-- The given statement. -/
theorem readsPlays_proved : Rows.ReadsPlaysSaid := readsPlays_over
#print axioms readsPlays_proved
end Go.Proofs.Ytlenmhclnmcljaa
