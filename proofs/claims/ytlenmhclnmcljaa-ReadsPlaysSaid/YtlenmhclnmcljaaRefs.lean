/- The document's answers for reads: what its lists are in memory; the walks of its Ask and Drop. -/
import Derived.Test.YtlenmhclnmcljaaTold
import Derived.Deep.RegionLaw
import Derived.Deep.AppendLies
namespace Go.Proofs.Ytlenmhclnmcljaa
open Go.RowKit

/-- A slice of the document's reads that a call made. -/
def RRow (w : World) (base : Nat) (v : Value) (M : List Rd) : Prop := w.ownsRow base 63 3 v M.length (row M)
/-- A slice of Ids that a call made. -/
def IRow (w : World) (base : Nat) (v : Value) (I : List Nat) : Prop := w.ownsRow base 25 1 v I.length (I.map fun (x : Nat) => Value.int .u64 (x : Int))
theorem RRow.nil (w : World) (base : Nat) : RRow w base (.slice none 0 0) [] := World.ownsRow_nil _ _ _ _
theorem IRow.nil (w : World) (base : Nat) : IRow w base (.slice none 0 0) [] := World.ownsRow_nil _ _ _ _
theorem own_row {w : World} {base e size n : Nat} {v : Value} {xs : List Value} (h : w.ownsRow base e size v n xs) : ∀ k, v.ownBlock = some k → base ≤ k ∧ ∃ cur, w.heap[k]? = some (.cells cur e (0, 0)) := by
  intro k hk
  rcases h.2 with ⟨rfl, _⟩ | ⟨g, cap, cur, rfl, h1, h2, _⟩
  · simp [Value.ownBlock] at hk
  · have : g = k := by simpa [Value.ownBlock] using hk
    subst this
    exact ⟨h1, cur, h2⟩
theorem own_below {w w' : World} {base e size n : Nat} {v : Value} {xs : List Value} (h : w.ownsRow base e size v n xs) (hb : Below w.heap.size w w') : w'.ownsRow base e size v n xs :=
  ownsRow_of_heap h fun k hk => hb.block k (lt_of_block (own_row h k hk).2.choose_spec)
theorem RRow.below {w w' : World} {base : Nat} {v : Value} {M : List Rd} (h : RRow w base v M) (hb : Below w.heap.size w w') : RRow w' base v M := own_below h hb
theorem IRow.below {w w' : World} {base : Nat} {v : Value} {I : List Nat} (h : IRow w base v I) (hb : Below w.heap.size w w') : IRow w' base v I := own_below h hb
theorem RRow.form {w : World} {base : Nat} {v : Value} {L : List Rd} (h : RRow w base v L) :
    ∃ A cap, v = .slice A L.length cap ∧ L.length ≤ cap ∧ ∀ k (hk : k < L.length), ∃ hb, A = some ⟨hb, 0, none⟩ ∧ base ≤ hb ∧ hb < w.heap.size ∧
      w.cell? ⟨hb, k * 3, none⟩ = some (.int .u64 (L[k].id : Int)) ∧ w.cell? ⟨hb, k * 3 + 1, none⟩ = some (.int .u64 (L[k].ix : Int)) ∧ w.cell? ⟨hb, k * 3 + 2, none⟩ = some (.int .u64 (L[k].rd : Int)) := by
  rcases h.2 with ⟨rfl, h0⟩ | ⟨g, cap, cur, rfl, h3, h4, h5, h6, h7, h8⟩
  · refine ⟨none, 0, by rw [h0], by omega, fun k hk => by omega⟩
  · refine ⟨_, cap, rfl, h5, fun k hk => ⟨g, rfl, h3, lt_of_block h4, ?_, ?_, ?_⟩⟩
    · rw [World.ownsRow.cellAt h (k * 3) (by omega)]; have := row_at L k 0 hk (by omega); simpa [Rd.cells] using this
    · rw [World.ownsRow.cellAt h (k * 3 + 1) (by omega)]; have := row_at L k 1 hk (by omega); simpa [Rd.cells] using this
    · rw [World.ownsRow.cellAt h (k * 3 + 2) (by omega)]; have := row_at L k 2 hk (by omega); simpa [Rd.cells] using this
theorem IRow.form {w : World} {base : Nat} {v : Value} {I : List Nat} (h : IRow w base v I) :
    ∃ A cap, v = .slice A I.length cap ∧ I.length ≤ cap ∧ ∀ k (hk : k < I.length), ∃ hb, A = some ⟨hb, 0, none⟩ ∧ base ≤ hb ∧ hb < w.heap.size ∧ w.cell? ⟨hb, k, none⟩ = some (.int .u64 (I[k] : Int)) := by
  rcases h.2 with ⟨rfl, h0⟩ | ⟨g, cap, cur, rfl, h3, h4, h5, h6, h7, h8⟩
  · refine ⟨none, 0, by rw [h0], by omega, fun k hk => by omega⟩
  · refine ⟨_, cap, rfl, h5, fun k hk => ⟨g, rfl, h3, lt_of_block h4, ?_⟩⟩
    rw [World.ownsRow.cellAt h k (by omega), List.getElem?_map, List.getElem?_eq_getElem hk]; rfl

theorem info63 : (Try.prog.info? 63).map (fun i => (i.zero, i.size, i.bytes)) = some (some (.agg #[.int .u64 0, .int .u64 0, .int .u64 0]), 3, 24) := by kernel_rfl

/-- One row appended onto another, of whatever type: at the list of a plain region's operations. -/
theorem append_rows {ops : Array Oper} {rest : List Oper} {o : Oper} {a : Act} {Q : Exit → Act → World → Prop} (hgd : o.guard = none) (s x : Operand) (t e size bytes : Nat) (i : TypeInfo) (z : Value)
    (ho : o.op = .call { callee := .builtin .append, args := #[s, x], argTypes := #[t, t] }) (ht : Try.prog.underlying t = some (.slice e)) (hi : Try.prog.info? e = some i) (hz : i.zero = some z) (hs1 : i.size = size) (hb1 : i.bytes = bytes) (hzs : z.cells.size = size) (hsz : 0 < size)
    (w : World) (base base' : Nat) (v u : Value) (n m : Nat) (xs ys : List Value) (hs : a.eval s = v) (hx : a.eval x = u)
    (hv : w.ownsRow base e size v n xs) (hu : w.ownsRow base' e size u m ys) (hone : ∀ y ∈ ys, y.oneCell' = true) (hl : n + m ≤ 10000) (hby : bytes ≤ 1000) (hb : base ≤ w.heap.size)
    (h : ∀ v' w', w'.ownsRow base e size v' (n + m) (xs ++ ys) → w.grownBy w' v.ownBlock → (∀ k, v'.ownBlock = some k → v.ownBlock = some k ∨ w.heap.size ≤ k) → wpList Try.prog ops Q rest (a.put o.dst v') w') : wpList Try.prog ops Q (o :: rest) a w := by
  have key : ∃ v' w', (Builtin.append_ #[t, t] o.type #[v, u]).run Try.prog w = .ok v' w' ∧ w'.ownsRow base e size v' (n + m) (xs ++ ys) ∧ w.grownBy w' v.ownBlock ∧ (∀ k, v'.ownBlock = some k → v.ownBlock = some k ∨ w.heap.size ≤ k) := by
    rcases hu.2 with ⟨rfl, h0⟩ | ⟨g, cap, cur, rfl, h3, h4, h5, h6, h7, h8⟩
    · subst h0
      have : ys = [] := List.eq_nil_of_length_eq_zero (by rw [hu.1]; simp)
      subst this
      rw [List.append_nil]
      exact ⟨v, w, run_append_owned_none (P := Try.prog) (w := w) base t o.type e i size ht hi v n xs hv, hv, ⟨rfl, rfl, rfl, Nat.le_refl _, fun _ _ _ => rfl⟩, fun _ hk => .inl hk⟩
    · have hnews : ∀ j y, ys[j]? = some y → w.cell? ((⟨g, 0, none⟩ : Addr).add j) = some y := fun j y hj => by
        have hjl : j < ys.length := (List.getElem?_eq_some_iff.1 hj).1
        have e : (⟨g, 0, none⟩ : Addr).add j = ⟨g, j, none⟩ := by unfold Addr.add; split <;> simp_all
        have := hu.1
        rw [e, World.ownsRow.cellAt hu j (by omega)]
        exact hj
      have h4k : (n + m) * bytes ≤ 10000 * 1000 := Nat.mul_le_mul hl hby
      obtain ⟨v', w', hr, h1, h2, _, h5⟩ := run_append_own_at (P := Try.prog) w base t o.type e i z size bytes ht hi hz hs1 hb1 hzs hsz v n xs hv ⟨g, 0, none⟩ m cap ys hu.1 hnews hone (by unfold maxLen; omega) (by omega) hb
      refine ⟨v', w', hr, h1, h2, fun k hk => ?_⟩
      rcases h5 with h5 | h5
      · exact .inl (by rw [← h5]; exact hk)
      · rw [h5] at hk; exact .inr (by have := Option.some.inj hk; omega)
  obtain ⟨v', w', hr, h1, h2, h3⟩ := key
  refine wpList_plain hgd fun K hK => ?_
  unfold Oper.wp execOp
  simp only [ho, resolve, invoke, builtin, Sem.run_bind, Sem.run_pure, Result.andThen_ok, List.map_toArray, List.map_cons, List.map_nil, hs, hx, hr]
  exact hK _ _ (h v' w' h1 h2 h3)
theorem ids_one (I : List Nat) : ∀ u ∈ I.map (fun (x : Nat) => Value.int .u64 (x : Int)), u.oneCell' = true := by
  intro u hu
  rw [List.mem_map] at hu
  obtain ⟨x, _, rfl⟩ := hu
  rfl

/-- What the document's Ask tells. -/
def refAskL (M : List Rd) (I : List Nat) (id : Nat) : Bool := !(M.any (isId id)) && !(I.any fun x => decide (x = id))
end Go.Proofs.Ytlenmhclnmcljaa
