/- The walks of the document's Drop and Begin. -/
import Derived.Test.YtlenmhclnmcljaaRefTold
import Derived.BigRegion
import Derived.RegionTactic
namespace Go.Proofs.Ytlenmhclnmcljaa
open Go.RowKit

/-- What the document's Drop leaves. -/
def RefDropped (M : List Rd) (I : List Nat) (w : World) (e : Ending) (w' : World) : Prop := ∃ v, e = .returned v ∧ IRow w' w.heap.size v (M.map Rd.id ++ I) ∧ Below w.heap.size w w'

set_option maxHeartbeats 1000000 in
theorem refDrop_any (B : Nat) (vB vW : Value) (M : List Rd) (I : List Nat) (w : World) (hB : RRow w B vB M) (hI : IRow w B vW I) (hM : M.length ≤ 1000) (hIl : I.length ≤ 1000) :
    Calls Try.prog 23 #[.agg #[vB, vW]] w (RefDropped M I w) := by
  obtain ⟨A, capA, rfl, _, hca⟩ := hB.form
  obtain ⟨C, capC, rfl, _, _⟩ := hI.form
  obtain ⟨i0, hi, hz0, hz1, hz2⟩ := info_parts info25
  have HI := Lib.hid hI
  clear hB hI
  go_enter Try.func23, Try.ntmps23
  go_wp2_with fail
  have hx : (w.alloc (.cells #[.slice A M.length capA, .slice C I.length capC] 46)).heap[w.heap.size]? = some (.cells #[.slice A M.length capA, .slice C I.length capC] 46) := heap_alloc_last w _
  have hb0 : Below w.heap.size w (w.alloc (.cells #[.slice A M.length capA, .slice C I.length capC] 46)) := (Below.refl _ _).alloc (Nat.le_refl _) _
  have hsz : w.heap.size + 1 ≤ (w.alloc (.cells #[.slice A M.length capA, .slice C I.length capC] 46)).heap.size := by simp
  generalize w.alloc (.cells #[.slice A M.length capA, .slice C I.length capC] 46) = W at hx hb0 hsz ⊢
  obtain ⟨g2, hg2⟩ : ∃ g, w.heap.size = g := ⟨_, rfl⟩
  rw [hg2] at hx hsz ⊢
  have HX := Lib.hid hx
  have HG := Lib.hid hg2
  clear hx hg2
  go_loopw [3, 4] (fun out i wr => ∃ k : Nat, k ≤ M.length ∧ i = .int .i64 k ∧ Hid (IRow wr W.heap.size out ((M.take k).map Rd.id)) ∧ Below W.heap.size W wr) (fun _ i _ => M.length - (intOf i).toNat)
  case atStart => exact ⟨0, Nat.zero_le _, rfl, Lib.hid (IRow.nil _ _), Below.refl _ _⟩
  case round =>
    obtain ⟨k, hk, rfl, HO, hb⟩ := hrel
    have hx := (hb.block g2 (by omega)).trans HX.out
    have x0 : wr.cell? ⟨g2, 0, none⟩ = some (.slice A M.length capA) := by rw [cell_of_row _ _ _ _ _ _ hx]; rfl
    have hszr := hb.size
    obtain ⟨P1, hP1⟩ : ∃ P, (M.take k).map Rd.id = P := ⟨_, rfl⟩
    have hl1 : ((M.take k).map Rd.id).length ≤ M.length := by rw [List.length_map, List.length_take]; omega
    rw [hP1] at HO hl1
    have HP1 := Lib.hid hP1
    clear hP1
    obtain ⟨A1, cap1, hv1, _, _⟩ := HO.out.form
    subst hv1
    by_cases hkl : k < M.length
    · obtain ⟨hb', rfl, _, hbl, c0, _, _⟩ := hca k hkl
      obtain ⟨r, hr⟩ : ∃ r, M[k] = r := ⟨_, rfl⟩
      rw [hr] at c0
      have c0' := (hb.cell (p := ⟨hb', k * 3, none⟩) (Nat.lt_of_lt_of_le hbl hb0.size)).trans ((hb0.cell (p := ⟨hb', k * 3, none⟩) hbl).trans c0)
      have HR := Lib.hid hr
      clear c0 hr hx
      have HLIT := Lib.hid (World.ownsRow_lit (e := 25) (size := 1) wr #[.int .u64 (r.id : Int)] 1 (Nat.zero_le _) (by unfold maxLen; omega) rfl)
      go_wp2_with (at_builtin; refine append_rows rfl (.tmp 12) (.tmp 19) 33 25 1 8 i0 _ (by rfl) Try.underlying33 hi hz0 hz1 hz2 rfl (by omega) _ W.heap.size 0 (.slice A1 P1.length cap1) (.slice (some ⟨wr.heap.size, 0, none⟩) 1 1) P1.length 1 (P1.map fun (x : Nat) => Value.int .u64 (x : Int)) [.int .u64 (r.id : Int)] rfl rfl (HO.out.alloc _) HLIT.out (by simp [Value.oneCell']) (by omega) (by omega) (by simp; omega) ?_; intro v3 w3 ho3 hg3 _)
      go_roundw
      case rel =>
        have hal : (wr.alloc (.cells #[.int .u64 (r.id : Int)] 25)).heap.size = wr.heap.size + 1 := by simp
        refine ⟨k + 1, by omega, by go_num, Lib.hid ?_, (hb.alloc hszr _).grown hg3 (by omega) (fun k hk => (own_row HO.out k hk).1)⟩
        rw [List.take_succ_eq_append_getElem hkl, List.map_append, HP1.out, HR.out]
        unfold IRow
        rw [List.map_append, List.length_append]
        exact ho3
      case measure => simp [intOf]; omega
    · obtain rfl : k = M.length := by omega
      have x1 : wr.cell? ⟨g2, 1, none⟩ = some (.slice C I.length capC) := by rw [cell_of_row _ _ _ _ _ _ hx]; rfl
      have HI1 : Hid (IRow wr B (.slice C I.length capC) I) := Lib.hid ((HI.out.below hb0).below hb)
      clear hx
      go_wp2_with (at_builtin; refine append_rows rfl (.tmp 21) (.tmp 23) 33 25 1 8 i0 _ (by rfl) Try.underlying33 hi hz0 hz1 hz2 rfl (by omega) _ W.heap.size B (.slice A1 P1.length cap1) (.slice C I.length capC) P1.length I.length (P1.map fun (x : Nat) => Value.int .u64 (x : Int)) (I.map fun (x : Nat) => Value.int .u64 (x : Int)) rfl rfl HO.out HI1.out (ids_one I) (by omega) (by omega) hszr ?_; intro v3 w3 ho3 hg3 _)
      go_ret
      rw [List.take_length] at HP1
      have hwg := HG.out
      refine ⟨_, rfl, ?_, hb0.trans ((hb.mono (by omega)).grown hg3 (by omega) (fun k hk => by have := (own_row HO.out k hk).1; omega))⟩
      rw [HP1.out]
      unfold IRow
      rw [List.map_append, List.length_append]
      exact ho3.mono (by omega)

/-- The greatest index and round among some, and one more. -/
def mxIx (M : List Rd) (a : Nat) : Nat := M.foldl (fun a r => max a r.ix) a
def mxRd (M : List Rd) (a : Nat) : Nat := M.foldl (fun a r => max a r.rd) a
/-- What the document's Begin leaves. -/
def RefBegun (M : List Rd) (I : List Nat) (ix rd : Nat) (w : World) (e : Ending) (w' : World) : Prop :=
  ∃ v, e = .returned (.tuple #[.agg #[v, .slice none 0 0], .int .i64 (I.length : Int)]) ∧ RRow w' w.heap.size v (M ++ I.map fun i => ⟨i, mxIx M ix, mxRd M rd⟩) ∧ Below w.heap.size w w'

set_option maxHeartbeats 2000000 in
theorem refBegin_any (B : Nat) (vB vW : Value) (M : List Rd) (I : List Nat) (ix rd : Nat) (w : World) (hB : RRow w B vB M) (hI : IRow w B vW I) (hM : M.length ≤ 1000) (hIl : I.length ≤ 1000) :
    Calls Try.prog 21 #[.agg #[vB, vW], .int .u64 (ix : Int), .int .u64 (rd : Int)] w (RefBegun M I ix rd w) := by
  obtain ⟨A, capA, rfl, _, hca⟩ := hB.form
  obtain ⟨C, capC, rfl, _, hcc⟩ := hI.form
  obtain ⟨i0, hi, hz0, hz1, hz2⟩ := info_parts info63
  have HB := Lib.hid hB
  clear hB hI
  go_enter Try.func21, Try.ntmps21
  go_wp2_with fail
  obtain ⟨hx, hz⟩ := heap2 w (.cells #[.slice A M.length capA, .slice C I.length capC] 46) (.cells #[.slice none 0 0, .slice none 0 0] 46)
  have hb0 : Below w.heap.size w ((w.alloc (.cells #[.slice A M.length capA, .slice C I.length capC] 46)).alloc (.cells #[.slice none 0 0, .slice none 0 0] 46)) := ((Below.refl _ _).alloc (Nat.le_refl _) _).alloc (by simp) _
  have hsz : w.heap.size + 2 ≤ ((w.alloc (.cells #[.slice A M.length capA, .slice C I.length capC] 46)).alloc (.cells #[.slice none 0 0, .slice none 0 0] 46)).heap.size := by simp
  generalize (w.alloc (.cells #[.slice A M.length capA, .slice C I.length capC] 46)).alloc (.cells #[.slice none 0 0, .slice none 0 0] 46) = W at hx hz hb0 hsz ⊢
  obtain ⟨g2, hg2⟩ : ∃ g, w.heap.size = g := ⟨_, rfl⟩
  rw [hg2] at hx hz hsz ⊢
  have x0 : W.cell? ⟨g2, 0, none⟩ = some (.slice A M.length capA) := by rw [cell_of_row _ _ _ _ _ _ hx]; rfl
  have x1 : W.cell? ⟨g2, 1, none⟩ = some (.slice C I.length capC) := by rw [cell_of_row _ _ _ _ _ _ hx]; rfl
  have HX := Lib.hid hx
  have HZ := Lib.hid hz
  have HG := Lib.hid hg2
  clear hx hz hg2
  go_loop [1, 2, 8] (fun a b i => ∃ k : Nat, k ≤ M.length ∧ i = .int .i64 k ∧ a = .int .u64 ((mxIx (M.take k) ix : Nat) : Int) ∧ b = .int .u64 ((mxRd (M.take k) rd : Nat) : Int)) (fun _ _ i => M.length - (intOf i).toNat)
  case atStart => exact ⟨0, Nat.zero_le _, rfl, rfl, rfl⟩
  case round =>
    obtain ⟨k, hk, rfl, rfl, rfl⟩ := hrel
    obtain ⟨a, ha⟩ : ∃ a, mxIx (M.take k) ix = a := ⟨_, rfl⟩
    obtain ⟨b, hb⟩ : ∃ b, mxRd (M.take k) rd = b := ⟨_, rfl⟩
    rw [ha, hb]
    have HA := Lib.hid ha
    have HBB := Lib.hid hb
    clear ha hb
    by_cases hkl : k < M.length
    · obtain ⟨hb', rfl, _, hbl, _, c1, c2⟩ := hca k hkl
      obtain ⟨r, hr⟩ : ∃ r, M[k] = r := ⟨_, rfl⟩
      rw [hr] at c1 c2
      have c1' := (hb0.cell (p := ⟨hb', k * 3 + 1, none⟩) hbl).trans c1
      have c2' := (hb0.cell (p := ⟨hb', k * 3 + 2, none⟩) hbl).trans c2
      have HR := Lib.hid hr
      clear c1 c2 hr
      by_cases h1 : a < r.ix
      all_goals by_cases h2 : b < r.rd
      all_goals
        go_wp2_with fail
        go_round
        case rel =>
          have e1 : mxIx (M.take (k + 1)) ix = max a r.ix := by rw [List.take_succ_eq_append_getElem hkl]; unfold mxIx at HA ⊢; rw [List.foldl_append, HA.out, HR.out]; rfl
          have e2 : mxRd (M.take (k + 1)) rd = max b r.rd := by rw [List.take_succ_eq_append_getElem hkl]; unfold mxRd at HBB ⊢; rw [List.foldl_append, HBB.out, HR.out]; rfl
          exact ⟨k + 1, by omega, by go_num, int_eq (by rw [e1]; omega), int_eq (by rw [e2]; omega)⟩
        case measure => simp [intOf]; omega
    · obtain rfl : k = M.length := by omega
      rw [List.take_length] at HA HBB
      have HE : Hid ((W.alloc (.cells #[] 63)).ownsRow W.heap.size 63 3 (.slice (some ⟨W.heap.size, 0, none⟩) 0 0) 0 []) := Lib.hid (World.ownsRow_lit (e := 63) (size := 3) W #[] 0 (Nat.le_refl _) (by unfold maxLen; omega) rfl)
      have HB1 : Hid ((W.alloc (.cells #[] 63)).ownsRow B 63 3 (.slice A M.length capA) M.length (row M)) := Lib.hid ((HB.out.below hb0).below ((Below.refl _ _).alloc (Nat.le_refl _) _))
      have x0' := (World.cell?_alloc_lt W (.cells #[] 63) ⟨g2, 0, none⟩ (by show g2 < _; omega)).trans x0
      clear hca
      go_wp2_with (at_builtin; refine append_rows rfl (.tmp 46) (.tmp 48) 44 63 3 24 i0 _ (by rfl) Try.underlying44 hi hz0 hz1 hz2 rfl (by omega) _ W.heap.size B (.slice (some ⟨W.heap.size, 0, none⟩) 0 0) (.slice A M.length capA) 0 M.length [] (row M) rfl rfl HE.out HB1.out (row_one M) (by omega) (by omega) (by simp) ?_; intro v1 w2 ho1 hg1 _; simp only [Nat.zero_add, List.nil_append] at ho1; have HO1 := Lib.hid ho1; have HB2 := Lib.hid (((Below.refl W.heap.size W).alloc (Nat.le_refl _) (.cells #[] 63)).grown hg1 (by simp) (fun k hk => by simp [Value.ownBlock] at hk; omega)); clear ho1 hg1)
      clear x0 x1 x0'
      go_loopw [9, 10] (fun l i wr => ∃ k : Nat, k ≤ I.length ∧ i = .int .i64 k ∧ Hid (RRow wr W.heap.size l (M ++ (I.take k).map fun i => ⟨i, a, b⟩)) ∧ Below W.heap.size W wr) (fun _ i _ => I.length - (intOf i).toNat)
      case atStart => exact ⟨0, Nat.zero_le _, rfl, Lib.hid (by simpa [RRow] using HO1.out), HB2.out⟩
      case round =>
        clear HO1 HB2 HE HB1
        obtain ⟨k, hk, rfl, HO, hb⟩ := hrel
        have hx := (hb.block g2 (by omega)).trans HX.out
        have x1 : wr.cell? ⟨g2, 1, none⟩ = some (.slice C I.length capC) := by rw [cell_of_row _ _ _ _ _ _ hx]; rfl
        have hszr := hb.size
        obtain ⟨P1, hP1⟩ : ∃ P, M ++ (I.take k).map (fun i => (⟨i, a, b⟩ : Rd)) = P := ⟨_, rfl⟩
        have hl1 : (M ++ (I.take k).map (fun i => (⟨i, a, b⟩ : Rd))).length ≤ 2000 := by rw [List.length_append, List.length_map, List.length_take]; omega
        rw [hP1] at HO hl1
        have HP1 := Lib.hid hP1
        clear hP1 hx
        obtain ⟨A1, cap1, hv1, _, _⟩ := HO.out.form
        subst hv1
        by_cases hkl : k < I.length
        · obtain ⟨hb', rfl, _, hbl, c0⟩ := hcc k hkl
          obtain ⟨r, hr⟩ : ∃ r, I[k] = r := ⟨_, rfl⟩
          rw [hr] at c0
          have c0' := (hb.cell (p := ⟨hb', k, none⟩) (Nat.lt_of_lt_of_le hbl hb0.size)).trans ((hb0.cell (p := ⟨hb', k, none⟩) hbl).trans c0)
          have HR := Lib.hid hr
          clear c0 hr
          have HLIT := Lib.hid (World.ownsRow_lit (e := 63) (size := 3) wr #[.int .u64 (r : Int), .int .u64 (a : Int), .int .u64 (b : Int)] 1 (Nat.zero_le _) (by unfold maxLen; omega) rfl)
          go_wp2_with (at_builtin; refine append_rows rfl (.tmp 57) (.tmp 66) 44 63 3 24 i0 _ (by rfl) Try.underlying44 hi hz0 hz1 hz2 rfl (by omega) _ W.heap.size 0 (.slice A1 P1.length cap1) (.slice (some ⟨wr.heap.size, 0, none⟩) 1 1) P1.length 1 (row P1) [.int .u64 (r : Int), .int .u64 (a : Int), .int .u64 (b : Int)] rfl rfl (HO.out.alloc _) HLIT.out (by simp [Value.oneCell']) (by omega) (by omega) (by simp; omega) ?_; intro v3 w3 ho3 hg3 _)
          go_roundw
          case rel =>
            have hal : (wr.alloc (.cells #[.int .u64 (r : Int), .int .u64 (a : Int), .int .u64 (b : Int)] 63)).heap.size = wr.heap.size + 1 := by simp
            refine ⟨k + 1, by omega, by go_num, Lib.hid ?_, (hb.alloc hszr _).grown hg3 (by omega) (fun k hk => (own_row HO.out k hk).1)⟩
            rw [List.take_succ_eq_append_getElem hkl, List.map_append, ← List.append_assoc, HP1.out, HR.out]
            unfold RRow
            rw [List.map_singleton, row_append, List.length_append]
            exact ho3
          case measure => simp [intOf]; omega
        · obtain rfl : k = I.length := by omega
          have hz := (hb.block (g2 + 1) (by omega)).trans HZ.out
          have z0 : wr.cell? ⟨g2 + 1, 0, none⟩ = some (.slice none 0 0) := by rw [cell_of_row _ _ _ _ _ _ hz]; rfl
          have z1 : wr.cell? ⟨g2 + 1, 1, none⟩ = some (.slice none 0 0) := by rw [cell_of_row _ _ _ _ _ _ hz]; rfl
          have f0 := frozen_of_row wr (g2 + 1) 0 _ _ hz
          have f1 := frozen_of_row wr (g2 + 1) 1 _ _ hz
          clear hz
          rw [List.take_length] at HP1
          go_wp2_with fail
          go_region
          all_goals
            go_wp2_with fail
            have hwg := HG.out
            refine bodyPost_ret (v := .tuple #[.agg #[.slice A1 P1.length cap1, .slice none 0 0], .int .i64 (I.length : Int)]) (by simp [results, Try.results21, go_sem, z0, z1]) rfl
              ⟨_, rfl, ?_, blw_draws (((hb0.trans (hb.mono (by omega))).setCell (by show w.heap.size ≤ g2 + 1; omega) _).setCell (by show w.heap.size ≤ g2 + 1; omega) _) 1⟩
            rw [HA.out, HBB.out, HP1.out]
            refine ownsRow_of_heap (HO.out.mono (by omega)) fun i hi => ?_
            have := (own_row HO.out i hi).1
            exact (heap_setCell_other _ _ _ _ (show i ≠ g2 + 1 by omega)).trans (heap_setCell_other _ _ _ _ (show i ≠ g2 + 1 by omega))
end Go.Proofs.Ytlenmhclnmcljaa
