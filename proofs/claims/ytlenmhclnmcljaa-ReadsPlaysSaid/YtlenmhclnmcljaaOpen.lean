/- An argument that is a slice of structs whose fields are whole numbers: each field's cell. -/
import Derived.Test.YtlenmhclnmcljaaProg
import Derived.ProofKit
import Derived.OpenShut
import Derived.Deep.Slices
import Derived.Deep.Fields
import Derived.ChangeSame
namespace Go.Proofs.Ytlenmhclnmcljaa
open Go.ChangeShapes Go.WideShapes Go.ChangeAt Go.RowKit Go.Deep

theorem open_int_rows {H : Type} {enc : TypeId × Value → H} {P : Program} {w : World} {base : Nat} {spare : Nat → Bool} {held : Bool} {t e : TypeId} {fs : Array Field} {fuel : Nat} {cs : List Value} {x : DataW H × List MemPlace}
    (ht : P.underlying t = some (.slice e)) (he : P.underlying e = some (.struct fs)) (hone : oneCellFields P fs = true) (hC : P.cellsOf e = fs.size) (h : DataW.trod enc P w base spare held fuel t cs = some x) :
    cs = [.slice none 0 0] ∨ ∃ (a : Addr) (len cap m : Nat), cs = [.slice (some a) len cap] ∧ len ≤ m ∧
      ∀ i, i < m → ∀ (j : Nat) (f : Field) (k : IntKind), fs[j]? = some f → P.underlying f.type = some (.int k) → ∃ n : Int, w.cell? (a.add (i * fs.size + j)) = some (.int k n) ∧ (Lit.int k n).wf = true := by
  rcases open_slice ht h with h0 | ⟨a, len, cap, m, n, D, Pl, hcs, hb, hl, hm, hmm, hx, hi⟩
  · exact .inl h0.1
  · refine .inr ⟨a, len, cap, m, hcs, by rw [hmm]; split <;> omega, fun i him j f k hj hk => ?_⟩
    obtain ⟨row, hrow, hdat⟩ := hi i him
    rw [hC] at hrow
    obtain ⟨ys, n', _, _, hlen, hyl, hf⟩ := DataW.trod_struct he hdat
    obtain ⟨_, hcl, hat⟩ := World.cells?_some hrow
    obtain ⟨ho, h1⟩ := hone_of hone j f hj
    have hjl : j < fs.size := (Array.getElem?_eq_some_iff.1 hj).1
    have hcell := hat j hjl
    have hfld := hf j f hj
    rw [ho, h1] at hfld
    have hcut : (row.drop j).take 1 = [row[j]'(by omega)] := by
      rw [List.drop_eq_getElem_cons (by omega)]
      rfl
    rw [hcut] at hfld
    have hys : ys[j]? = some (ys[j]'(by omega)) := List.getElem?_eq_getElem (by omega)
    rw [hys] at hfld
    obtain ⟨v, hv, _, hw⟩ := DataW.trod_int hk hfld
    refine ⟨v, ?_, hw⟩
    rw [← Go.Deep.add_add, hcell, List.getElem?_eq_getElem (by omega)]
    exact congrArg some (List.cons.inj hv).1
end Go.Proofs.Ytlenmhclnmcljaa
