/- An argument that is a slice of acts: each field's cell. -/
import Derived.Test.YtopmfjgifabdmaaActs
import Derived.Test.YtopmfjgifabdmaaOpen
namespace Go.Proofs.Ytopmfjgifabdmaa
open Go.ChangeShapes Go.WideShapes Go.ChangeAt Go.RowKit Go.Deep

theorem open_acts {H : Type} {enc : TypeId × Value → H} {w : World} {base : Nat} {spare : Nat → Bool} {held : Bool} {A : Option Addr} {len cap : Nat} {d : DataW H} {ps : List MemPlace}
    (h : DataW.Trod enc Try.prog w base spare held 36 (.slice A len cap) d ps) : ∃ l : List Act5, len = l.length ∧ ActsAt w A l := by
  obtain ⟨fuel, hf⟩ := h
  rcases open_slice Try.underlying36 hf with h0 | ⟨a, len', cap', m, n, D, Pl, hcs, hb, hl, hm, hmm, hx, hi⟩
  · have := h0.1
    simp [Value.cells] at this
    obtain ⟨rfl, rfl, rfl⟩ := this
    exact ⟨[], rfl, fun k hk => absurd hk (by simp)⟩
  · simp [Value.cells] at hcs
    obtain ⟨rfl, rfl, rfl⟩ := hcs
    have hlm : len ≤ m := by rw [hmm]; split <;> omega
    have hC : Try.prog.cellsOf 40 = 5 := by kernel_rfl
    have c5 : Try.prog.cellsOf 5 = 1 := by kernel_rfl
    have c4 : Try.prog.cellsOf 4 = 1 := by kernel_rfl
    have c22 : Try.prog.cellsOf 22 = 1 := by kernel_rfl
    obtain ⟨b, off, spot⟩ := a
    have hc : ∀ i, ∃ r : Act5, i < len → w.cell? ((⟨b, off, spot⟩ : Addr).add (i * 5)) = some (.int .u8 ((r.d : Nat) : Int)) ∧ w.cell? ((⟨b, off, spot⟩ : Addr).add (i * 5 + 1)) = some (.bool r.ok) ∧ w.cell? ((⟨b, off, spot⟩ : Addr).add (i * 5 + 2)) = some (.int .u64 ((r.x : Nat) : Int)) ∧
        w.cell? ((⟨b, off, spot⟩ : Addr).add (i * 5 + 3)) = some (.int .u64 ((r.y : Nat) : Int)) ∧ w.cell? ((⟨b, off, spot⟩ : Addr).add (i * 5 + 4)) = some (.int .u8 ((r.k : Nat) : Int)) ∧ r.k < 256 := fun i => by
      by_cases hil : i < len
      case neg => exact ⟨⟨0, false, 0, 0, 0⟩, fun h => absurd h hil⟩
      obtain ⟨row, hrow, hdat⟩ := hi i (by omega)
      rw [hC] at hrow
      obtain ⟨ys, n', _, _, hlen, hyl, hg⟩ := DataW.trod_struct Try.underlying40 hdat
      obtain ⟨_, hcl, hat⟩ := World.cells?_some hrow
      match row, hcl with
      | [x0, x1, x2, x3, x4], _ =>
        match ys, hyl with
        | [y0, y1, y2, y3, y4], _ =>
          have e0 : DataW.trod enc Try.prog w base spare held n' 5 [x0] = some y0 := by simpa [c5, c4, c22] using hg 0 _ rfl
          have e1 : DataW.trod enc Try.prog w base spare held n' 4 [x1] = some y1 := by simpa [c5, c4, c22] using hg 1 _ rfl
          have e2 : DataW.trod enc Try.prog w base spare held n' 22 [x2] = some y2 := by simpa [c5, c4, c22] using hg 2 _ rfl
          have e3 : DataW.trod enc Try.prog w base spare held n' 22 [x3] = some y3 := by simpa [c5, c4, c22] using hg 3 _ rfl
          have e4 : DataW.trod enc Try.prog w base spare held n' 5 [x4] = some y4 := by simpa [c5, c4, c22] using hg 4 _ rfl
          obtain ⟨n0, v0, _, w0⟩ := DataW.trod_int Try.underlying5 e0
          obtain ⟨ok, v1, _⟩ := DataW.trod_bool Try.underlying4 e1
          obtain ⟨n2, v2, _, w2⟩ := DataW.trod_int Try.underlying22 e2
          obtain ⟨n3, v3, _, w3⟩ := DataW.trod_int Try.underlying22 e3
          obtain ⟨n4, v4, _, w4⟩ := DataW.trod_int Try.underlying5 e4
          cases v0
          cases v1
          cases v2
          cases v3
          cases v4
          have b0 := bounds_u8 w0
          have b2 := bounds_u64 w2
          have b3 := bounds_u64 w3
          have b4 := bounds_u8 w4
          have t0 := hat 0 (by omega)
          have t1 := hat 1 (by omega)
          have t2 := hat 2 (by omega)
          have t3 := hat 3 (by omega)
          have t4 := hat 4 (by omega)
          rw [Go.Deep.add_add] at t0 t1 t2 t3 t4
          refine ⟨⟨n0.toNat, ok, n2.toNat, n3.toNat, n4.toNat⟩, fun _ => ⟨?_, ?_, ?_, ?_, ?_, by show n4.toNat < 256; omega⟩⟩
          · rw [show ((n0.toNat : Nat) : Int) = n0 by omega]; exact t0
          · exact t1
          · rw [show ((n2.toNat : Nat) : Int) = n2 by omega]; exact t2
          · rw [show ((n3.toNat : Nat) : Int) = n3 by omega]; exact t3
          · rw [show ((n4.toNat : Nat) : Int) = n4 by omega]; exact t4
    obtain ⟨F, hF⟩ := Classical.axiomOfChoice hc
    have hsp : 0 < len → spot = none := fun h => by
      obtain ⟨h0, _⟩ := hF 0 h
      simpa [Addr.add] using World.cell?_spot h0
    refine ⟨(List.range len).map F, by simp, fun k hk => ?_⟩
    have hkl : k < len := by simpa using hk
    have hsp' := hsp (by omega)
    subst hsp'
    have e : ∀ q, (⟨b, off, none⟩ : Addr).add q = ⟨b, off + q, none⟩ := fun q => by unfold Addr.add; split <;> simp_all
    obtain ⟨g0, g1, g2, g3, g4, g5⟩ := hF k hkl
    rw [e] at g0 g1 g2 g3 g4
    rw [List.getElem_map, List.getElem_range]
    exact ⟨b, off, rfl, g0, (by rw [Nat.add_assoc]; exact g1), (by rw [Nat.add_assoc]; exact g2), (by rw [Nat.add_assoc]; exact g3), (by rw [Nat.add_assoc]; exact g4), g5⟩
end Go.Proofs.Ytopmfjgifabdmaa
