/- Two fifos beside each other; drains, one behind the other; an append of items onto items. -/
import Derived.Test.YtacddiidldppnaaAwake
namespace Go.Proofs.Ytacddiidldppnaa
open Go.RowKit

/-- Two fifos share nothing. -/
structure Dis (ga : Nat) (Va : Nat → Value) (gb : Nat) (Vb : Nat → Value) : Prop where
  heads : ga ≠ gb
  rows : ∀ p q, p < 5 → q < 5 → ∀ h, (Va p).ownBlock = some h → (Vb q).ownBlock ≠ some h
theorem Dis.symm {ga : Nat} {Va : Nat → Value} {gb : Nat} {Vb : Nat → Value} (h : Dis ga Va gb Vb) : Dis gb Vb ga Va := ⟨h.heads.symm, fun p q hp hq k h1 h2 => h.rows q p hq hp k h2 h1⟩
theorem FifoAt.mono {B B' : Nat} {w : World} {g : Nat} {V : Nat → Value} {Q : Nat → List Nat} {t : Nat} (h : FifoAt B w g V Q t) (hb : B' ≤ B) : FifoAt B' w g V Q t :=
  ⟨Nat.le_trans hb h.base, h.head, fun q hq => (h.own q hq).imp (fun h => h) fun ⟨a, b, c, d, e1, e2, e3⟩ => ⟨a, b, c, d, e1, Nat.le_trans hb e2, e3⟩, h.apart, h.turn, h.room⟩
theorem Dis.move {B ga : Nat} {Va Va' : Nat → Value} {gb : Nat} {Vb : Nat → Value} {w w' : World} {Qa Qb : Nat → List Nat} {ta tb : Nat} (hd : Dis ga Va gb Vb) (ha : FifoAt B w ga Va Qa ta) (hb : FifoAt B w gb Vb Qb tb) (hm : Moved B ga Va Va' w w') :
    FifoAt B w' gb Vb Qb tb ∧ Dis ga Va' gb Vb := by
  refine ⟨hb.kept (hm.rest gb (lt_of_block hb.head) hd.heads.symm fun q hq e => ?_) fun q hq k hk => hm.rest k (lt_of_block ((hb.own q hq).row k hk).2.choose_spec) (fun e => ?_) fun p hp e => hd.rows p q hp hq k e hk, ⟨hd.heads, fun p q hp hq k h1 h2 => ?_⟩⟩
  · obtain ⟨_, cur, hc⟩ := (ha.own q hq).row gb e
    rw [hb.head] at hc
    cases hc
  · obtain ⟨_, cur, hc⟩ := (hb.own q hq).row k hk
    subst e
    rw [ha.head] at hc
    cases hc
  · rcases hm.news p hp k h1 with ⟨r, hr, e⟩ | e
    · exact hd.rows r q hr hq k e h2
    · obtain ⟨_, cur, hc⟩ := (hb.own q hq).row k h2
      have := lt_of_block hc
      omega

theorem drainF_none {f : Ff} (h : takeF f = none) : ∀ n, drainF n f = (f, [])
  | 0 => rfl
  | n + 1 => by simp only [drainF, h]
theorem drainF_add : ∀ (n m : Nat) (f : Ff), drainF (n + m) f = ((drainF m (drainF n f).1).1, (drainF n f).2 ++ (drainF m (drainF n f).1).2)
  | 0, m, f => by simp [drainF]
  | n + 1, m, f => by
    rw [show n + 1 + m = (n + m) + 1 by omega]
    cases h : takeF f with
    | none => simp only [drainF, h]; rw [drainF_none h]; rfl
    | some r =>
      obtain ⟨g, x⟩ := r
      simp only [drainF, h]
      rw [drainF_add n m g]
      rfl
theorem drainF_total : ∀ (n : Nat) (f : Ff), total (drainF n f).1.Q + (drainF n f).2.length = total f.Q
  | 0, f => by simp [drainF]
  | n + 1, f => by
    cases h : takeF f with
    | none => rw [drainF_none h]; rfl
    | some r =>
      obtain ⟨g, x⟩ := r
      simp only [drainF, h]
      have h1 := drainF_total n g
      have h2 := takeF_total h
      simp only [List.length_cons]
      omega

theorem irow_one (L : List It) : ∀ u ∈ irow L, u.oneCell' = true := by
  intro u hu
  unfold irow at hu
  rw [List.mem_flatMap] at hu
  obtain ⟨r, _, hr⟩ := hu
  unfold It.cells at hr
  simp at hr
  rcases hr with rfl | rfl <;> rfl
/-- Items appended onto items. -/
theorem append_items {ops : Array Oper} {rest : List Oper} {o : Oper} {a : Act} {Q : Exit → Act → World → Prop} (hgd : o.guard = none) (s x : Operand)
    (ho : o.op = .call { callee := .builtin .append, args := #[s, x], argTypes := #[28, 28] }) (w : World) (base base' : Nat) (v u : Value) (L M : List It) (hs : a.eval s = v) (hx : a.eval x = u)
    (hv : Items w base v L) (hu : Items w base' u M) (hl : L.length + M.length ≤ 1000) (hb : base ≤ w.heap.size)
    (h : ∀ v' w', Items w' base v' (L ++ M) → w.grownBy w' v.ownBlock → wpList Try.prog ops Q rest (a.put o.dst v') w') : wpList Try.prog ops Q (o :: rest) a w := by
  obtain ⟨i0, hi, hz0, hz1, hz2⟩ := info_parts info32
  have key : ∃ v' w', (Builtin.append_ #[28, 28] o.type #[v, u]).run Try.prog w = .ok v' w' ∧ Items w' base v' (L ++ M) ∧ w.grownBy w' v.ownBlock := by
    have hM := irow_length M
    rcases hu.2 with ⟨rfl, h0⟩ | ⟨g, cap, cur, rfl, h3, h4, h5, h6, h7, h8⟩
    · have hM0 : M = [] := List.eq_nil_of_length_eq_zero h0
      subst hM0
      rw [List.append_nil]
      exact ⟨v, w, run_append_owned_none (P := Try.prog) (w := w) base 28 o.type 32 i0 2 Try.underlying28 hi v L.length (irow L) hv, hv, ⟨rfl, rfl, rfl, Nat.le_refl _, fun _ _ _ => rfl⟩⟩
    · have hnews : ∀ j y, (irow M)[j]? = some y → w.cell? ((⟨g, 0, none⟩ : Addr).add j) = some y := fun j y hj => by
        have hjl : j < (irow M).length := (List.getElem?_eq_some_iff.1 hj).1
        have e : (⟨g, 0, none⟩ : Addr).add j = ⟨g, j, none⟩ := by unfold Addr.add; split <;> simp_all
        rw [e, World.ownsRow.cellAt hu j (by omega)]
        exact hj
      obtain ⟨v', w', hr, h1, h2, _⟩ := run_append_own (P := Try.prog) w base 28 o.type 32 i0 _ 2 16 Try.underlying28 hi hz0 hz1 hz2 rfl (by decide) v L.length (irow L) hv ⟨g, 0, none⟩ M.length cap (irow M) hM hnews (irow_one M) (by unfold maxLen; omega) (by omega) hb
      refine ⟨v', w', hr, ?_, h2⟩
      unfold Items
      rw [irow_append, List.length_append]
      exact h1
  obtain ⟨v', w', hr, h1, h2⟩ := key
  refine wpList_plain hgd fun K hK => ?_
  unfold Oper.wp execOp
  simp only [ho, resolve, invoke, builtin, Sem.run_bind, Sem.run_pure, Result.andThen_ok, List.map_toArray, List.map_cons, List.map_nil, hs, hx, hr]
  exact hK _ _ (h v' w' h1 h2)
end Go.Proofs.Ytacddiidldppnaa
