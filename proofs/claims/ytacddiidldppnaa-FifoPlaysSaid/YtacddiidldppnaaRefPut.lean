/- The document's Put: one row appended onto another; the walk. -/
import Derived.Test.YtacddiidldppnaaRef
namespace Go.Proofs.Ytacddiidldppnaa
open Go.RowKit

/-- One row of the document's items appended onto another: at the list of a plain region's operations. -/
theorem append_rows {ops : Array Oper} {rest : List Oper} {o : Oper} {a : Act} {Q : Exit → Act → World → Prop} (hgd : o.guard = none) (s x : Operand)
    (ho : o.op = .call { callee := .builtin .append, args := #[s, x], argTypes := #[39, 39] }) (w : World) (base base' : Nat) (v u : Value) (L M : List It) (hs : a.eval s = v) (hx : a.eval x = u)
    (hv : GRow w base v L) (hu : GRow w base' u M) (hl : L.length + M.length ≤ 10000) (hb : base ≤ w.heap.size)
    (h : ∀ v' w', GRow w' base v' (L ++ M) → w.grownBy w' v.ownBlock → (∀ k, v'.ownBlock = some k → v.ownBlock = some k ∨ w.heap.size ≤ k) → wpList Try.prog ops Q rest (a.put o.dst v') w') : wpList Try.prog ops Q (o :: rest) a w := by
  obtain ⟨i0, hi, hz0, hz1, hz2⟩ := info_parts info61
  have key : ∃ v' w', (Builtin.append_ #[39, 39] o.type #[v, u]).run Try.prog w = .ok v' w' ∧ GRow w' base v' (L ++ M) ∧ w.grownBy w' v.ownBlock ∧ (∀ k, v'.ownBlock = some k → v.ownBlock = some k ∨ w.heap.size ≤ k) := by
    have hM := irow_length M
    rcases hu.2 with ⟨rfl, h0⟩ | ⟨g, cap, cur, rfl, h3, h4, h5, h6, h7, h8⟩
    · have hM0 : M = [] := List.eq_nil_of_length_eq_zero h0
      subst hM0
      rw [List.append_nil]
      exact ⟨v, w, run_append_owned_none (P := Try.prog) (w := w) base 39 o.type 61 i0 2 Try.underlying39 hi v L.length (irow L) hv, hv, ⟨rfl, rfl, rfl, Nat.le_refl _, fun _ _ _ => rfl⟩, fun _ hk => .inl hk⟩
    · have hnews : ∀ j y, (irow M)[j]? = some y → w.cell? ((⟨g, 0, none⟩ : Addr).add j) = some y := fun j y hj => by
        have hjl : j < (irow M).length := (List.getElem?_eq_some_iff.1 hj).1
        have e : (⟨g, 0, none⟩ : Addr).add j = ⟨g, j, none⟩ := by unfold Addr.add; split <;> simp_all
        rw [e, World.ownsRow.cellAt hu j (by omega)]
        exact hj
      obtain ⟨v', w', hr, h1, h2, _, h5⟩ := run_append_own_at (P := Try.prog) w base 39 o.type 61 i0 _ 2 16 Try.underlying39 hi hz0 hz1 hz2 rfl (by decide) v L.length (irow L) hv ⟨g, 0, none⟩ M.length cap (irow M) hM hnews (irow_one M) (by unfold maxLen; omega) (by omega) hb
      refine ⟨v', w', hr, ?_, h2, fun k hk => ?_⟩
      · unfold GRow
        rw [irow_append, List.length_append]
        exact h1
      · rcases h5 with h5 | h5
        · exact .inl (by rw [← h5]; exact hk)
        · rw [h5] at hk; exact .inr (by have := Option.some.inj hk; omega)
  obtain ⟨v', w', hr, h1, h2, h3⟩ := key
  refine wpList_plain hgd fun K hK => ?_
  unfold Oper.wp execOp
  simp only [ho, resolve, invoke, builtin, Sem.run_bind, Sem.run_pure, Result.andThen_ok, List.map_toArray, List.map_cons, List.map_nil, hs, hx, hr]
  exact hK _ _ (h v' w' h1 h2 h3)
theorem GRow.mono {w : World} {base base' : Nat} {v : Value} {L : List It} (h : GRow w base v L) (hb : base' ≤ base) : GRow w base' v L := ⟨h.1, h.2.imp id fun ⟨a, b, c, e1, e2, e3⟩ => ⟨a, b, c, e1, Nat.le_trans hb e2, e3⟩⟩
theorem GRow.below {w w' : World} {base : Nat} {v : Value} {L : List It} (h : GRow w base v L) (hb : Below w.heap.size w w') : GRow w' base v L := own_below h hb
theorem GRow.keep {w w' : World} {base : Nat} {v : Value} {L : List It} (h : GRow w base v L) (hb : ∀ k, v.ownBlock = some k → w'.heap[k]? = w.heap[k]?) : GRow w' base v L := own_keep h hb
theorem GRow.row {w : World} {base : Nat} {v : Value} {L : List It} (h : GRow w base v L) : ∀ k, v.ownBlock = some k → base ≤ k ∧ ∃ cur, w.heap[k]? = some (.cells cur 61 (0, 0)) := own_row h
theorem GRow.more {w : World} {base : Nat} {v : Value} {L : List It} {x : It} (h : GRow w base v (L ++ [x])) : ∃ g cap, v = .slice (some ⟨g, 0, none⟩) (L.length + 1) cap ∧ base ≤ g := by
  rcases h.2 with ⟨_, h0⟩ | ⟨g, cap, cur, rfl, h3, _⟩
  · simp at h0
  · exact ⟨g, cap, by rw [List.length_append, List.length_singleton], h3⟩
/-- A literal of no item, and of one. -/
theorem grow_lit0 (w : World) : GRow (w.alloc (.cells #[] 61)) w.heap.size (.slice (some ⟨w.heap.size, 0, none⟩) 0 0) [] := World.ownsRow_lit (e := 61) (size := 2) w #[] 0 (Nat.le_refl _) (by unfold maxLen; omega) rfl
theorem grow_lit1 (w : World) (x : It) (q : Int) (hq : q = x.q) : GRow (w.alloc (.cells #[.int .i64 q, .int .u64 (x.id : Int)] 61)) w.heap.size (.slice (some ⟨w.heap.size, 0, none⟩) 1 1) [x] := by
  subst hq
  exact World.ownsRow_lit (e := 61) (size := 2) w #[.int .i64 (x.q : Int), .int .u64 (x.id : Int)] 1 (Nat.le_refl _) (by unfold maxLen; omega) rfl

/-- What the document's Put leaves. -/
def RefPut (B : Nat) (v : Value) (G : List It) (t qi : Int) (id : Nat) (w : World) (e : Ending) (w' : World) : Prop :=
  ∃ b v', e = .returned (.tuple #[.agg #[v', .int .i64 t], .bool b]) ∧ (b = false → (qi < 0 ∨ 4 < qi ∨ 4 ≤ many G qi) ∧ v' = v) ∧ (b = true → ∃ q : Nat, qi = q ∧ q < 5 ∧ many G qi < 4 ∧ GRow w' B v' (G ++ [⟨q, id⟩])) ∧ Below w.heap.size w w'

set_option maxHeartbeats 1000000 in
theorem refPut_any (B : Nat) (v : Value) (G : List It) (t qi : Int) (id : Nat) (w : World) (h : GRow w B v G) (hl : G.length ≤ 1000) (hB : B ≤ w.heap.size) :
    Calls Try.prog 13 #[.agg #[v, .int .i64 t], .int .i64 qi, .int .u64 (id : Int)] w (RefPut B v G t qi id w) := by
  obtain ⟨A, cap, rfl, _, _⟩ := h.form
  have HI := Lib.hid h
  clear h
  by_cases h0 : qi < 0
  · go_enter Try.func13, Try.ntmps13
    go_wp2_with fail
    refine bodyPost_ret (v := .tuple #[.agg #[.slice A G.length cap, .int .i64 t], .bool false]) (by simp [results, Try.results13, go_sem]) rfl
      ⟨false, _, rfl, fun _ => ⟨.inl h0, rfl⟩, (fun h => by cases h), ((Below.refl _ _).alloc (Nat.le_refl _) _).alloc (by simp) _⟩
  · by_cases h4 : 4 < qi
    · go_enter Try.func13, Try.ntmps13
      go_wp2_with fail
      refine bodyPost_ret (v := .tuple #[.agg #[.slice A G.length cap, .int .i64 t], .bool false]) (by simp [results, Try.results13, go_sem]) rfl
        ⟨false, _, rfl, fun _ => ⟨.inr (.inl h4), rfl⟩, (fun h => by cases h), ((Below.refl _ _).alloc (Nat.le_refl _) _).alloc (by simp) _⟩
    · obtain ⟨q, rfl⟩ : ∃ q : Nat, qi = q := ⟨qi.toNat, by omega⟩
      obtain ⟨i0, hi, hz0, hz1, hz2⟩ := info_parts info61
      have h5 : q < 5 := by omega
      have H5 := Lib.hid h5
      clear h5
      go_enter Try.func13, Try.ntmps13
      go_wp2_with fail
      obtain ⟨hx, hz⟩ := heap2 w (.cells #[.slice A G.length cap, .int .i64 t] 41) (.cells #[.slice none 0 0, .int .i64 0] 41)
      have hb0 : Below w.heap.size w ((w.alloc (.cells #[.slice A G.length cap, .int .i64 t] 41)).alloc (.cells #[.slice none 0 0, .int .i64 0] 41)) := ((Below.refl _ _).alloc (Nat.le_refl _) _).alloc (by simp) _
      generalize (w.alloc (.cells #[.slice A G.length cap, .int .i64 t] 41)).alloc (.cells #[.slice none 0 0, .int .i64 0] 41) = W0 at hx hz hb0 ⊢
      with_reducible refine (refLen_any B (.slice A G.length cap) G t (q : Int) W0 (HI.out.below hb0) hl).mono ?_
      rintro e W ⟨rfl, hbW⟩
      replace hx := (hbW.block _ (lt_of_block hx)).trans hx
      replace hz := (hbW.block _ (lt_of_block hz)).trans hz
      have hb1 : Below w.heap.size w W := hb0.trans (hbW.mono hb0.size)
      clear hbW hb0 W0
      obtain ⟨g2, hg2⟩ : ∃ g, w.heap.size = g := ⟨_, rfl⟩
      rw [hg2] at hx hz ⊢
      have x0 : W.cell? ⟨g2, 0, none⟩ = some (.slice A G.length cap) := by rw [cell_of_row _ _ _ _ _ _ hx]; rfl
      have x1 : W.cell? ⟨g2, 1, none⟩ = some (.int .i64 t) := by rw [cell_of_row _ _ _ _ _ _ hx]; rfl
      have z0 : W.cell? ⟨g2 + 1, 0, none⟩ = some (.slice none 0 0) := by rw [cell_of_row _ _ _ _ _ _ hz]; rfl
      have z1 : W.cell? ⟨g2 + 1, 1, none⟩ = some (.int .i64 0) := by rw [cell_of_row _ _ _ _ _ _ hz]; rfl
      have f0 := frozen_of_row W (g2 + 1) 0 _ _ hz
      have f1 := frozen_of_row W (g2 + 1) 1 _ _ hz
      have hg2W : g2 < W.heap.size := lt_of_block hx
      have hg3W : g2 + 1 < W.heap.size := lt_of_block hz
      have HX := Lib.hid hx
      have HZ := Lib.hid hz
      have HG := Lib.hid hg2
      have HB1 := Lib.hid hb1
      have HR := Lib.hid (HI.out.below hb1)
      clear hx hz hg2 hb1
      obtain ⟨m, hm⟩ : ∃ m, many G (q : Int) = m := ⟨_, rfl⟩
      rw [hm]
      have HM := Lib.hid hm
      clear hm
      by_cases hf : 4 ≤ m
      · go_wp2_with fail
        refine bodyPost_ret (v := .tuple #[.agg #[.slice A G.length cap, .int .i64 t], .bool false]) (by simp [results, Try.results13, go_sem, z0, z1]) rfl
          ⟨false, _, rfl, fun _ => ⟨.inr (.inr (by rw [HM.out]; exact hf)), rfl⟩, (fun h => by cases h), ?_⟩
        have := HG.out
        exact (HB1.out.setCell (by show w.heap.size ≤ g2 + 1; omega) _).setCell (by show w.heap.size ≤ g2 + 1; omega) _
      · have x0' := (World.cell?_alloc_lt W (.cells #[] 61) ⟨g2, 0, none⟩ hg2W).trans x0
        have HE := Lib.hid (grow_lit0 W)
        have HI1 := Lib.hid (HR.out.below ((Below.refl _ _).alloc (Nat.le_refl _) (.cells #[] 61)))
        go_wp2_with (first
          | (at_builtin; refine append_rows rfl (.tmp 21) (.tmp 23) (by rfl) _ W.heap.size B (.slice (some ⟨W.heap.size, 0, none⟩) 0 0) (.slice A G.length cap) [] G rfl rfl HE.out HI1.out (by simp; omega) (by simp) ?_; intro v1 w2 ho1 hg1 _; rw [List.nil_append] at ho1; have HO1 := Lib.hid ho1; have HB2 := Lib.hid (((Below.refl W.heap.size W).alloc (Nat.le_refl _) (.cells #[] 61)).grown hg1 (by simp) (fun k hk => by simp [Value.ownBlock] at hk; omega)); have hs2 := HB2.out.size; clear ho1 hg1)
          | (at_builtin; refine append_rows rfl (.tmp 24) (.tmp 28) (by rfl) _ W.heap.size w2.heap.size v1 (.slice (some ⟨w2.heap.size, 0, none⟩) 1 1) G [⟨q, id⟩] rfl rfl (HO1.out.below (below_box _ _)) (grow_lit1 w2 ⟨q, id⟩ (q : Int) rfl) (by simp; omega) (by simp; omega) ?_; intro v3 w3 ho3 hg3 _; obtain ⟨gg, cc, rfl, hgg⟩ := ho3.more; have hb3 := ((HB2.out.alloc hs2 (.cells #[.int .i64 (q : Int), .int .u64 (id : Int)] 61)).grown hg3 (by simp; omega) (fun k hk => (HO1.out.row k hk).1)); have hx3 := (hb3.block g2 hg2W).trans HX.out; have hz3 := (hb3.block (g2 + 1) hg3W).trans HZ.out; have y0 : w3.cell? ⟨g2, 0, none⟩ = some (.slice A G.length cap) := (by rw [cell_of_row _ _ _ _ _ _ hx3]; rfl); have y1 : w3.cell? ⟨g2, 1, none⟩ = some (.int .i64 t) := (by rw [cell_of_row _ _ _ _ _ _ hx3]; rfl); have u0 : w3.cell? ⟨g2 + 1, 0, none⟩ = some (.slice none 0 0) := (by rw [cell_of_row _ _ _ _ _ _ hz3]; rfl); have u1 : w3.cell? ⟨g2 + 1, 1, none⟩ = some (.int .i64 0) := (by rw [cell_of_row _ _ _ _ _ _ hz3]; rfl); have j0 := frozen_of_row w3 g2 0 _ _ hx3; have l0 := frozen_of_row w3 (g2 + 1) 0 _ _ hz3; have l1 := frozen_of_row w3 (g2 + 1) 1 _ _ hz3; have HO3 := Lib.hid ho3; have HB3 := Lib.hid hb3; have hgne : gg ≠ g2 := (by omega); clear ho3 hg3 hx3 hz3 hb3))
        have hw3 : w.heap.size = g2 := HG.out
        refine bodyPost_ret (v := .tuple #[.agg #[.slice (some ⟨gg, 0, none⟩) (G.length + 1) cc, .int .i64 t], .bool true]) (by simp [results, Try.results13, go_sem, u0, u1]) rfl
          ⟨true, _, rfl, (fun h => by cases h), fun _ => ⟨q, rfl, H5.out, by rw [HM.out]; omega, ?_⟩, ?_⟩
        · refine (HO3.out.mono (base' := B) (Nat.le_trans hB HB1.out.size)).keep fun k hk => ?_
          have hkg : gg = k := by simpa [Value.ownBlock] using hk
          subst hkg
          rw [heap_setCell_other _ _ _ _ (show gg ≠ g2 + 1 by omega), heap_setCell_other _ _ _ _ (show gg ≠ g2 + 1 by omega), heap_setCell_other _ _ _ _ hgne]
        · exact (((HB1.out.trans (HB3.out.mono HB1.out.size)).setCell (by show w.heap.size ≤ g2; omega) _).setCell (by show w.heap.size ≤ g2 + 1; omega) _).setCell (by show w.heap.size ≤ g2 + 1; omega) _
end Go.Proofs.Ytacddiidldppnaa
