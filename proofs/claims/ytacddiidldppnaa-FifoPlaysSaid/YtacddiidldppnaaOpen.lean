/- Arguments that are slices of bytes, slices of acts, slices of slices of bytes: each cell. -/
import Derived.Test.YtacddiidldppnaaProg
import Derived.ProofKit
import Derived.OpenShut
import Derived.Deep.Slices
import Derived.Deep.Fields
import Derived.ChangeSame
namespace Go.Proofs.Ytacddiidldppnaa
open Go.ChangeShapes Go.WideShapes Go.ChangeAt Go.RowKit Go.Deep

/-- The bytes that a slice of an argument holds. -/
def BytesAt (w : World) (A : Option Addr) (bs : List Nat) : Prop := ∀ k (h : k < bs.length), ∃ b off, A = some ⟨b, off, none⟩ ∧ w.cell? ⟨b, off + k, none⟩ = some (.int .u8 ((bs[k] : Nat) : Int)) ∧ bs[k] < 256

theorem open_bytes' {H : Type} {enc : TypeId × Value → H} {w : World} {base : Nat} {spare : Nat → Bool} {held : Bool} {A : Option Addr} {len cap fuel : Nat} {x : DataW H × List MemPlace}
    (hf : DataW.trod enc Try.prog w base spare held fuel 22 [.slice A len cap] = some x) : ∃ l : List Nat, len = l.length ∧ BytesAt w A l := by
  rcases open_ints Try.underlying22 Try.underlying5 (by kernel_rfl) hf with ⟨hcs, _⟩ | ⟨a, l, c, zs, hcs, _, hl, hm, hz, _, hcell, hwz⟩
  · simp at hcs
    obtain ⟨rfl, rfl, rfl⟩ := hcs
    exact ⟨[], rfl, fun k hk => absurd hk (by simp)⟩
  · simp at hcs
    obtain ⟨rfl, rfl, rfl⟩ := hcs
    refine ⟨(zs.take len).map Int.toNat, by rw [List.length_map, List.length_take, hz]; split <;> omega, fun k hk => ?_⟩
    rw [List.length_map, List.length_take] at hk
    have hc := hcell k (by omega)
    rw [List.getD_eq_getElem?_getD, List.getElem?_eq_getElem (by omega), Option.getD_some] at hc
    rw [List.getElem_map, List.getElem_take]
    have hb := bounds_u8 (hwz _ (List.getElem_mem (l := zs) (n := k) (by omega)))
    obtain ⟨b, off, spot⟩ := a
    have hc0 := hcell 0 (by omega)
    have hsp : spot = none := by simpa [Addr.add] using World.cell?_spot hc0
    subst hsp
    have e : (⟨b, off, none⟩ : Addr).add k = ⟨b, off + k, none⟩ := by unfold Addr.add; split <;> simp_all
    rw [e] at hc
    exact ⟨b, off, rfl, by rw [hc, show ((zs[k].toNat : Nat) : Int) = zs[k] by omega], by omega⟩
theorem open_bytes {H : Type} {enc : TypeId × Value → H} {w : World} {base : Nat} {spare : Nat → Bool} {held : Bool} {A : Option Addr} {len cap : Nat} {d : DataW H} {ps : List MemPlace}
    (h : DataW.Trod enc Try.prog w base spare held 22 (.slice A len cap) d ps) : ∃ l : List Nat, len = l.length ∧ BytesAt w A l := by
  obtain ⟨fuel, hf⟩ := h
  exact open_bytes' (by simpa [Value.cells] using hf)

/-- An act: what it does, a queue, how many, an Id. -/
structure Act4 where
  d : Nat
  q : Int
  n : Int
  id : Nat
/-- The cells of the acts that a slice holds. -/
def ActsAt (w : World) (A : Option Addr) (l : List Act4) : Prop := ∀ i (h : i < l.length), ∃ b off, A = some ⟨b, off, none⟩ ∧
  w.cell? ⟨b, off + i * 4, none⟩ = some (.int .u8 (l[i].d : Int)) ∧ w.cell? ⟨b, off + i * 4 + 1, none⟩ = some (.int .i64 l[i].q) ∧ w.cell? ⟨b, off + i * 4 + 2, none⟩ = some (.int .i64 l[i].n) ∧
  w.cell? ⟨b, off + i * 4 + 3, none⟩ = some (.int .u64 (l[i].id : Int)) ∧ l[i].d < 256

theorem open_acts {H : Type} {enc : TypeId × Value → H} {w : World} {base : Nat} {spare : Nat → Bool} {held : Bool} {A : Option Addr} {len cap : Nat} {d : DataW H} {ps : List MemPlace}
    (h : DataW.Trod enc Try.prog w base spare held 34 (.slice A len cap) d ps) : ∃ l : List Act4, len = l.length ∧ ActsAt w A l := by
  obtain ⟨fuel, hf⟩ := h
  rcases open_slice Try.underlying34 hf with h0 | ⟨a, len', cap', m, n, D, Pl, hcs, hb, hl, hm, hmm, hx, hi⟩
  · have := h0.1
    simp [Value.cells] at this
    obtain ⟨rfl, rfl, rfl⟩ := this
    exact ⟨[], rfl, fun k hk => absurd hk (by simp)⟩
  · simp [Value.cells] at hcs
    obtain ⟨rfl, rfl, rfl⟩ := hcs
    have hlm : len ≤ m := by rw [hmm]; split <;> omega
    have hC : Try.prog.cellsOf 43 = 4 := by kernel_rfl
    have c5 : Try.prog.cellsOf 5 = 1 := by kernel_rfl
    have c3 : Try.prog.cellsOf 3 = 1 := by kernel_rfl
    have c27 : Try.prog.cellsOf 27 = 1 := by kernel_rfl
    obtain ⟨b, off, spot⟩ := a
    have hc : ∀ i, ∃ r : Act4, i < len → w.cell? ((⟨b, off, spot⟩ : Addr).add (i * 4)) = some (.int .u8 ((r.d : Nat) : Int)) ∧ w.cell? ((⟨b, off, spot⟩ : Addr).add (i * 4 + 1)) = some (.int .i64 r.q) ∧ w.cell? ((⟨b, off, spot⟩ : Addr).add (i * 4 + 2)) = some (.int .i64 r.n) ∧
        w.cell? ((⟨b, off, spot⟩ : Addr).add (i * 4 + 3)) = some (.int .u64 ((r.id : Nat) : Int)) ∧ r.d < 256 := fun i => by
      by_cases hil : i < len
      case neg => exact ⟨⟨0, 0, 0, 0⟩, fun h => absurd h hil⟩
      obtain ⟨row, hrow, hdat⟩ := hi i (by omega)
      rw [hC] at hrow
      obtain ⟨ys, n', _, _, hlen, hyl, hg⟩ := DataW.trod_struct Try.underlying43 hdat
      obtain ⟨_, hcl, hat⟩ := World.cells?_some hrow
      match row, hcl with
      | [x0, x1, x2, x3], _ =>
        match ys, hyl with
        | [y0, y1, y2, y3], _ =>
          have e0 : DataW.trod enc Try.prog w base spare held n' 5 [x0] = some y0 := by simpa [c5, c3, c27] using hg 0 _ rfl
          have e1 : DataW.trod enc Try.prog w base spare held n' 3 [x1] = some y1 := by simpa [c5, c3, c27] using hg 1 _ rfl
          have e2 : DataW.trod enc Try.prog w base spare held n' 3 [x2] = some y2 := by simpa [c5, c3, c27] using hg 2 _ rfl
          have e3 : DataW.trod enc Try.prog w base spare held n' 27 [x3] = some y3 := by simpa [c5, c3, c27] using hg 3 _ rfl
          obtain ⟨n0, v0, _, w0⟩ := DataW.trod_int Try.underlying5 e0
          obtain ⟨n1, v1, _, w1⟩ := DataW.trod_int Try.underlying3 e1
          obtain ⟨n2, v2, _, w2⟩ := DataW.trod_int Try.underlying3 e2
          obtain ⟨n3, v3, _, w3⟩ := DataW.trod_int Try.underlying27 e3
          cases v0
          cases v1
          cases v2
          cases v3
          have b0 := bounds_u8 w0
          have b3 := bounds_u64 w3
          have t0 := hat 0 (by omega)
          have t1 := hat 1 (by omega)
          have t2 := hat 2 (by omega)
          have t3 := hat 3 (by omega)
          rw [Go.Deep.add_add] at t0 t1 t2 t3
          refine ⟨⟨n0.toNat, n1, n2, n3.toNat⟩, fun _ => ⟨?_, ?_, ?_, ?_, by show n0.toNat < 256; omega⟩⟩
          · rw [show ((n0.toNat : Nat) : Int) = n0 by omega]; exact t0
          · exact t1
          · exact t2
          · rw [show ((n3.toNat : Nat) : Int) = n3 by omega]; exact t3
    obtain ⟨F, hF⟩ := Classical.axiomOfChoice hc
    have hsp : 0 < len → spot = none := fun h => by
      obtain ⟨h0, _⟩ := hF 0 h
      simpa [Addr.add] using World.cell?_spot h0
    refine ⟨(List.range len).map F, by simp, fun k hk => ?_⟩
    have hkl : k < len := by simpa using hk
    have hsp' := hsp (by omega)
    subst hsp'
    have e : ∀ q, (⟨b, off, none⟩ : Addr).add q = ⟨b, off + q, none⟩ := fun q => by unfold Addr.add; split <;> simp_all
    obtain ⟨g0, g1, g2, g3, g4⟩ := hF k hkl
    rw [e] at g0 g1 g2 g3
    rw [List.getElem_map, List.getElem_range]
    exact ⟨b, off, rfl, g0, (by rw [Nat.add_assoc]; exact g1), (by rw [Nat.add_assoc]; exact g2), (by rw [Nat.add_assoc]; exact g3), g4⟩
end Go.Proofs.Ytacddiidldppnaa
