/- An argument that is a peer, and one that is a slice of structs of numbers: each field's value. -/
import Derived.Test.YtopmfjgifabdmaaRef
import Derived.ProofKit
import Derived.OpenShut
import Derived.Deep.Slices
import Derived.Deep.Fields
import Derived.ChangeSame
namespace Go.Proofs.Ytopmfjgifabdmaa
open Go.ChangeShapes Go.WideShapes Go.ChangeAt Go.RowKit Go.Deep

theorem open_peer {H : Type} {enc : TypeId × Value → H} {w : World} {base : Nat} {spare : Nat → Bool} {held : Bool} {r : Reach} {b0 : Nat} {v : Value} {d : DataW H} {ps : List MemPlace}
    (hv : Value.okWide Try.prog w r b0 24 v) (h : DataW.Trod enc Try.prog w base spare held 24 v d ps) : ∃ p : Pr, v = p.val ∧ p.c < 256 := by
  obtain ⟨cs, rfl, hsz⟩ := okWide_struct Try.underlying24 hv
  have hsz5 : cs.size = 5 := hsz.trans (by kernel_rfl)
  obtain ⟨l⟩ := cs
  have hl : l.length = 5 := by simpa using hsz5
  match l, hl with
  | [a, b, c, e, f], _ =>
    obtain ⟨fuel, hf⟩ := h
    obtain ⟨ys, n', _, _, _, hyl, hg⟩ := DataW.trod_struct Try.underlying24 hf
    have c22 : Try.prog.cellsOf 22 = 1 := by kernel_rfl
    have c5 : Try.prog.cellsOf 5 = 1 := by kernel_rfl
    match ys, hyl with
    | [y0, y1, y2, y3, y4], _ =>
      have e0 : DataW.trod enc Try.prog w base spare held n' 22 [a] = some y0 := by simpa [Value.cells, c22] using hg 0 _ rfl
      have e1 : DataW.trod enc Try.prog w base spare held n' 22 [b] = some y1 := by simpa [Value.cells, c22] using hg 1 _ rfl
      have e2 : DataW.trod enc Try.prog w base spare held n' 22 [c] = some y2 := by simpa [Value.cells, c22] using hg 2 _ rfl
      have e3 : DataW.trod enc Try.prog w base spare held n' 22 [e] = some y3 := by simpa [Value.cells, c22] using hg 3 _ rfl
      have e4 : DataW.trod enc Try.prog w base spare held n' 5 [f] = some y4 := by simpa [Value.cells, c5] using hg 4 _ rfl
      obtain ⟨n0, v0, _, w0⟩ := DataW.trod_int Try.underlying22 e0
      obtain ⟨n1, v1, _, w1⟩ := DataW.trod_int Try.underlying22 e1
      obtain ⟨n2, v2, _, w2⟩ := DataW.trod_int Try.underlying22 e2
      obtain ⟨n3, v3, _, w3⟩ := DataW.trod_int Try.underlying22 e3
      obtain ⟨n4, v4, _, w4⟩ := DataW.trod_int Try.underlying5 e4
      cases v0
      cases v1
      cases v2
      cases v3
      cases v4
      have b0 := bounds_u64 w0
      have b1 := bounds_u64 w1
      have b2 := bounds_u64 w2
      have b3 := bounds_u64 w3
      have b4 := bounds_u8 w4
      refine ⟨⟨n0.toNat, n1.toNat, n2.toNat, n3.toNat, n4.toNat⟩, ?_, by show n4.toNat < 256; omega⟩
      simp only [Pr.val]
      rw [show ((n0.toNat : Nat) : Int) = n0 by omega, show ((n1.toNat : Nat) : Int) = n1 by omega, show ((n2.toNat : Nat) : Int) = n2 by omega, show ((n3.toNat : Nat) : Int) = n3 by omega, show ((n4.toNat : Nat) : Int) = n4 by omega]
end Go.Proofs.Ytopmfjgifabdmaa
