/- What an act does to a list of reads is what the document's makes of its two lists: plain Lean. -/
import Derived.Test.YtlenmhclnmcljaaDoes
import Derived.Test.YtlenmhclnmcljaaOnceMath
namespace Go.Proofs.Ytlenmhclnmcljaa
open Go.RowKit

/-- Indexes and rounds never fall along a list. -/
def Srt (M : List Rd) : Prop := M.Pairwise fun r s => r.ix ≤ s.ix ∧ r.rd ≤ s.rd
theorem Srt.last {L : List Rd} {b : Nat} (h : Srt (L.take b)) (hb : b ≤ L.length) (h0 : 0 < b) : ∀ r ∈ L.take b, r.ix ≤ topIx L b ∧ r.rd ≤ topRd L b := fun r hr => by
  have ht : topIx L b = L[b - 1].ix ∧ topRd L b = L[b - 1].rd := by
    unfold topIx topRd
    rw [if_pos h0, if_pos h0, List.getD_eq_getElem?_getD, List.getElem?_eq_getElem (by omega), Option.getD_some]
    exact ⟨rfl, rfl⟩
  rw [ht.1, ht.2]
  obtain ⟨i, hi, rfl⟩ := List.mem_iff_getElem.1 hr
  have hil : i < b := by rw [List.length_take] at hi; omega
  rw [List.getElem_take]
  by_cases e : i = b - 1
  · subst e; exact ⟨Nat.le_refl _, Nat.le_refl _⟩
  · have := List.pairwise_iff_getElem.1 h i (b - 1) hi (by rw [List.length_take]; omega) (by omega)
    rw [List.getElem_take, List.getElem_take] at this
    exact this
theorem mxIx_ge : ∀ (M : List Rd) (a : Nat), a ≤ mxIx M a ∧ ∀ r ∈ M, r.ix ≤ mxIx M a
  | [], a => ⟨Nat.le_refl _, fun r h => by cases h⟩
  | s :: M, a => by
    obtain ⟨h1, h2⟩ := mxIx_ge M (max a s.ix)
    have e : mxIx (s :: M) a = mxIx M (max a s.ix) := rfl
    rw [e]
    refine ⟨by omega, fun r hr => ?_⟩
    rcases List.mem_cons.1 hr with rfl | hr
    · omega
    · exact h2 r hr
theorem mxIx_le : ∀ (M : List Rd) (a t : Nat), a ≤ t → (∀ r ∈ M, r.ix ≤ t) → mxIx M a ≤ t
  | [], _, _, h, _ => h
  | s :: M, a, t, h, hr => mxIx_le M (max a s.ix) t (by have := hr s (List.mem_cons_self ..); omega) fun r h => hr r (List.mem_cons_of_mem _ h)
theorem mxRd_ge : ∀ (M : List Rd) (a : Nat), a ≤ mxRd M a ∧ ∀ r ∈ M, r.rd ≤ mxRd M a
  | [], a => ⟨Nat.le_refl _, fun r h => by cases h⟩
  | s :: M, a => by
    obtain ⟨h1, h2⟩ := mxRd_ge M (max a s.rd)
    have e : mxRd (s :: M) a = mxRd M (max a s.rd) := rfl
    rw [e]
    refine ⟨by omega, fun r hr => ?_⟩
    rcases List.mem_cons.1 hr with rfl | hr
    · omega
    · exact h2 r hr
theorem mxRd_le : ∀ (M : List Rd) (a t : Nat), a ≤ t → (∀ r ∈ M, r.rd ≤ t) → mxRd M a ≤ t
  | [], _, _, h, _ => h
  | s :: M, a, t, h, hr => mxRd_le M (max a s.rd) t (by have := hr s (List.mem_cons_self ..); omega) fun r h => hr r (List.mem_cons_of_mem _ h)
theorem top_mem {L : List Rd} {b : Nat} (hb : b ≤ L.length) (h0 : 0 < b) : ∃ r ∈ L.take b, r.ix = topIx L b ∧ r.rd = topRd L b := by
  refine ⟨L[b - 1], ?_, ?_⟩
  · exact List.mem_iff_getElem.2 ⟨b - 1, by rw [List.length_take]; omega, by rw [List.getElem_take]⟩
  · unfold topIx topRd
    rw [if_pos h0, if_pos h0, List.getD_eq_getElem?_getD, List.getElem?_eq_getElem (by omega), Option.getD_some]
    exact ⟨rfl, rfl⟩
theorem mx_top {L : List Rd} {b : Nat} (h : Srt (L.take b)) (hb : b ≤ L.length) (x y : Nat) : mxIx (L.take b) x = max x (topIx L b) ∧ mxRd (L.take b) y = max y (topRd L b) := by
  rcases Nat.eq_zero_or_pos b with rfl | h0
  · simp [mxIx, mxRd, topIx, topRd]
  · have hl := h.last hb h0
    obtain ⟨r, hr, e1, e2⟩ := top_mem hb h0
    obtain ⟨g1, g2⟩ := mxIx_ge (L.take b) x
    obtain ⟨g3, g4⟩ := mxRd_ge (L.take b) y
    have := g2 r hr
    have := g4 r hr
    have := mxIx_le (L.take b) x (max x (topIx L b)) (by omega) fun r hr => by have := (hl r hr).1; omega
    have := mxRd_le (L.take b) y (max y (topRd L b)) (by omega) fun r hr => by have := (hl r hr).2; omega
    omega

theorem while_filter (x : Nat) : ∀ (M : List Rd), Srt M → M.takeWhile (fun r => decide (r.rd ≤ x)) = M.filter (fun r => decide (r.rd ≤ x)) ∧ M.drop (M.takeWhile (fun r => decide (r.rd ≤ x))).length = M.filter (fun r => decide (x < r.rd))
  | [], _ => ⟨rfl, rfl⟩
  | s :: M, h => by
    obtain ⟨h1, h2⟩ := List.pairwise_cons.1 h
    obtain ⟨i1, i2⟩ := while_filter x M h2
    by_cases hs : s.rd ≤ x
    · have hd : decide (s.rd ≤ x) = true := decide_eq_true hs
      have hd2 : decide (x < s.rd) = false := decide_eq_false (by omega)
      simp only [List.takeWhile_cons, List.filter_cons, hd, hd2, if_true, List.length_cons, List.drop_succ_cons]
      exact ⟨by rw [i1], i2⟩
    · have hd : decide (s.rd ≤ x) = false := decide_eq_false hs
      have hd2 : decide (x < s.rd) = true := decide_eq_true (by omega)
      have hall : ∀ r ∈ M, x < r.rd := fun r hr => by have := (h1 r hr).2; omega
      simp only [List.takeWhile_cons, List.filter_cons, hd, hd2, if_true, List.length_nil, List.drop_zero]
      refine ⟨?_, ?_⟩
      · symm
        rw [if_neg (by simp), if_neg (by simp)]
        exact List.filter_eq_nil_iff.2 fun r hr => by have := hall r hr; simp; omega
      · rw [if_neg (by simp), List.length_nil, List.drop_zero]
        congr 1
        exact (List.filter_eq_self.2 fun r hr => by have := hall r hr; simpa using this).symm

theorem any_split (L : List Rd) (b x : Nat) : L.any (isId x) = ((L.take b).any (isId x) || ((L.drop b).map Rd.id).any fun i => decide (i = x)) := by
  conv => lhs; rw [← List.take_append_drop b L, List.any_append]
  rw [List.any_map]
  rfl

/-- The list and the document's two lists answer alike. -/
structure Agree (o : Out) (r : ROut) : Prop where
  a : r.a = o.a
  n : r.n = o.n
  X : r.X = o.X
  Y : r.Y = o.Y
  M : r.M = o.L.take o.b
  I : r.I = (o.L.drop o.b).map Rd.id
  le : o.b ≤ o.L.length
  srt : Srt (o.L.take o.b)
theorem act_agree (L : List Rd) (b d x y : Nat) (hb : b ≤ L.length) (hs : Srt (L.take b)) : Agree (actL L b d x y) (refAct (L.take b) ((L.drop b).map Rd.id) d x y) := by
  unfold actL refAct
  by_cases h0 : d = 0
  · rw [if_pos h0, if_pos h0]
    have ha := any_split L b x
    unfold refAskL
    cases hm : (L.take b).any (isId x) with
    | true =>
      rw [hm, Bool.true_or] at ha
      rw [ha]
      exact ⟨rfl, rfl, rfl, rfl, rfl, rfl, hb, hs⟩
    | false =>
      rw [hm, Bool.false_or] at ha
      cases hi : ((L.drop b).map Rd.id).any fun i => decide (i = x) with
      | true =>
        rw [hi] at ha
        rw [ha]
        exact ⟨rfl, rfl, rfl, rfl, rfl, rfl, hb, hs⟩
      | false =>
        rw [hi] at ha
        rw [ha]
        refine ⟨rfl, rfl, rfl, rfl, ?_, ?_, by simp; omega, ?_⟩
        · show L.take b = (L ++ [_]).take b
          rw [List.take_append_of_le_length hb]
        · show (L.drop b).map Rd.id ++ [x] = ((L ++ [_]).drop b).map Rd.id
          rw [List.drop_append_of_le_length hb, List.map_append]; rfl
        · show Srt ((L ++ [_]).take b)
          rw [List.take_append_of_le_length hb]; exact hs
  · rw [if_neg h0, if_neg h0]
    by_cases h1 : d = 1
    · rw [if_pos h1, if_pos h1]
      obtain ⟨e1, e2⟩ := mx_top hs hb x y
      have hlen : (begunL L b x y).length = L.length := by unfold begunL; simp; omega
      have ht : (begunL L b x y).take L.length = begunL L b x y := List.take_of_length_le (by omega)
      refine ⟨rfl, by simp, rfl, rfl, ?_, ?_, by show L.length ≤ (begunL L b x y).length; omega, ?_⟩
      · show L.take b ++ _ = (begunL L b x y).take L.length
        rw [ht, e1, e2]
        unfold begunL
        rw [List.map_map]; rfl
      · show ([] : List Nat) = ((begunL L b x y).drop L.length).map Rd.id
        rw [List.drop_of_length_le (by omega)]; rfl
      · show Srt ((begunL L b x y).take L.length)
        rw [ht]
        unfold begunL Srt
        rw [List.pairwise_append]
        refine ⟨hs, ?_, fun r hr s hs' => ?_⟩
        · rw [List.pairwise_map]
          exact List.pairwise_of_forall fun _ _ => ⟨Nat.le_refl _, Nat.le_refl _⟩
        · obtain ⟨t, _, rfl⟩ := List.mem_map.1 hs'
          have h0b : 0 < b := by
            rcases Nat.eq_zero_or_pos b with rfl | h
            · simp at hr
            · exact h
          obtain ⟨l1, l2⟩ := Srt.last hs hb h0b r hr
          exact ⟨by show r.ix ≤ max x (topIx L b); omega, by show r.rd ≤ max y (topRd L b); omega⟩
    · rw [if_neg h1, if_neg h1]
      by_cases h2 : d = 2
      · rw [if_pos h2, if_pos h2]
        obtain ⟨f1, f2⟩ := while_filter x (L.take b) hs
        have hc : cnt L b x ≤ b := cnt_le L b x |>.1
        have hcl : cnt L b x = ((L.take b).takeWhile fun r => decide (r.rd ≤ x)).length := rfl
        rw [← hcl] at f2
        have hd : (L.drop (cnt L b x)).take (b - cnt L b x) = (L.take b).drop (cnt L b x) := by rw [List.drop_take]
        refine ⟨rfl, rfl, ?_, rfl, ?_, ?_, by simp; omega, ?_⟩
        · show (L.take b).filter _ = L.take (cnt L b x)
          rw [← f1]
          have hp := List.takeWhile_prefix (l := L.take b) (fun r : Rd => decide (r.rd ≤ x))
          rw [List.prefix_iff_eq_take] at hp
          rw [hp, ← hcl, List.take_take, Nat.min_eq_left hc]
        · show (L.take b).filter _ = (L.drop (cnt L b x)).take (b - cnt L b x)
          rw [hd, f2]
        · show (L.drop b).map Rd.id = ((L.drop (cnt L b x)).drop (b - cnt L b x)).map Rd.id
          rw [List.drop_drop, show cnt L b x + (b - cnt L b x) = b by omega]
        · show Srt ((L.drop (cnt L b x)).take (b - cnt L b x))
          rw [hd]
          exact List.Pairwise.sublist (List.drop_sublist _ _) hs
      · rw [if_neg h2, if_neg h2]
        by_cases h3 : d = 3
        · rw [if_pos h3, if_pos h3]
          refine ⟨rfl, rfl, rfl, ?_, rfl, rfl, Nat.le_refl _, List.Pairwise.nil⟩
          show (L.take b).map Rd.id ++ (L.drop b).map Rd.id = L.map Rd.id
          rw [← List.map_append, List.take_append_drop]
        · rw [if_neg h3, if_neg h3]
          exact ⟨rfl, rfl, rfl, rfl, rfl, rfl, hb, hs⟩
theorem act_length (L : List Rd) (b d x y : Nat) : (actL L b d x y).L.length ≤ L.length + 1 := by
  unfold actL
  split
  · split <;> simp
  · split
    · simp [begunL]; omega
    · split
      · simp; omega
      · split <;> simp
end Go.Proofs.Ytlenmhclnmcljaa
