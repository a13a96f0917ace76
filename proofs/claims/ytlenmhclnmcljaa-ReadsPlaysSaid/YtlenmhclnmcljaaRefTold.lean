/- The walks of the document's Told and Drop. -/
import Derived.Test.YtlenmhclnmcljaaRefAsk
namespace Go.Proofs.Ytlenmhclnmcljaa
open Go.RowKit

/-- What the document's Told leaves. -/
def RefTold (B : Nat) (vW : Value) (M : List Rd) (rd : Nat) (w : World) (e : Ending) (w' : World) : Prop :=
  ∃ v1 v2, e = .returned (.tuple #[.agg #[v1, vW], v2]) ∧ RRow w' w.heap.size v1 (M.filter fun r => decide (rd < r.rd)) ∧ RRow w' w.heap.size v2 (M.filter fun r => decide (r.rd ≤ rd)) ∧ Below w.heap.size w w'
theorem filt_snoc (p : Rd → Bool) (M : List Rd) (k : Nat) (h : k < M.length) : (M.take (k + 1)).filter p = (M.take k).filter p ++ if p M[k] then [M[k]] else [] := by
  rw [List.take_succ_eq_append_getElem h, List.filter_append]
  by_cases e : p M[k] = true
  · rw [if_pos e]; simp [e]
  · rw [if_neg e]; simp [e]
theorem filt_len (p : Rd → Bool) (M : List Rd) (k : Nat) : ((M.take k).filter p).length ≤ M.length :=
  Nat.le_trans (List.length_filter_le _ _) (by rw [List.length_take]; omega)

set_option maxHeartbeats 1000000 in
theorem refTold_any (B : Nat) (vB vW : Value) (M : List Rd) (I : List Nat) (rd : Nat) (w : World) (hB : RRow w B vB M) (hI : IRow w B vW I) (hM : M.length ≤ 1000) :
    Calls Try.prog 22 #[.agg #[vB, vW], .int .u64 (rd : Int)] w (RefTold B vW M rd w) := by
  obtain ⟨A, capA, rfl, _, hca⟩ := hB.form
  obtain ⟨C, capC, rfl, _, _⟩ := hI.form
  obtain ⟨i0, hi, hz0, hz1, hz2⟩ := info_parts info63
  clear hB hI
  go_enter Try.func22, Try.ntmps22
  go_wp2_with fail
  obtain ⟨hx, hz⟩ := heap2 w (.cells #[.slice A M.length capA, .slice C I.length capC] 46) (.cells #[.slice none 0 0, .slice none 0 0] 46)
  have hb0 : Below w.heap.size w ((w.alloc (.cells #[.slice A M.length capA, .slice C I.length capC] 46)).alloc (.cells #[.slice none 0 0, .slice none 0 0] 46)) := ((Below.refl _ _).alloc (Nat.le_refl _) _).alloc (by simp) _
  have hsz : w.heap.size + 2 ≤ ((w.alloc (.cells #[.slice A M.length capA, .slice C I.length capC] 46)).alloc (.cells #[.slice none 0 0, .slice none 0 0] 46)).heap.size := by simp
  generalize (w.alloc (.cells #[.slice A M.length capA, .slice C I.length capC] 46)).alloc (.cells #[.slice none 0 0, .slice none 0 0] 46) = W at hx hz hb0 hsz ⊢
  obtain ⟨g2, hg2⟩ : ∃ g, w.heap.size = g := ⟨_, rfl⟩
  rw [hg2] at hx hz hsz ⊢
  have HX := Lib.hid hx
  have HZ := Lib.hid hz
  have HG := Lib.hid hg2
  clear hx hz hg2
  go_loopw [6, 7, 8] (fun out left i wr => ∃ k : Nat, k ≤ M.length ∧ i = .int .i64 k ∧ Hid (RRow wr W.heap.size out ((M.take k).filter fun r => decide (r.rd ≤ rd))) ∧ Hid (RRow wr W.heap.size left ((M.take k).filter fun r => decide (rd < r.rd))) ∧ Hid (∀ i, out.ownBlock = some i → left.ownBlock ≠ some i) ∧ Below W.heap.size W wr) (fun _ _ i _ => M.length - (intOf i).toNat)
  case atStart => exact ⟨0, Nat.zero_le _, rfl, Lib.hid (RRow.nil _ _), Lib.hid (RRow.nil _ _), Lib.hid (fun i h => by simp [Value.ownBlock] at h), Below.refl _ _⟩
  case round =>
    obtain ⟨k, hk, rfl, HO, HL, HD, hb⟩ := hrel
    have hx := (hb.block g2 (by omega)).trans HX.out
    have x0 : wr.cell? ⟨g2, 0, none⟩ = some (.slice A M.length capA) := by rw [cell_of_row _ _ _ _ _ _ hx]; rfl
    have hszr := hb.size
    obtain ⟨P1, hP1⟩ : ∃ P, (M.take k).filter (fun r => decide (r.rd ≤ rd)) = P := ⟨_, rfl⟩
    obtain ⟨P2, hP2⟩ : ∃ P, (M.take k).filter (fun r => decide (rd < r.rd)) = P := ⟨_, rfl⟩
    have hl1 := filt_len (fun r => decide (r.rd ≤ rd)) M k
    have hl2 := filt_len (fun r => decide (rd < r.rd)) M k
    rw [hP1] at HO hl1
    rw [hP2] at HL hl2
    have HP1 := Lib.hid hP1
    have HP2 := Lib.hid hP2
    clear hP1 hP2
    obtain ⟨A1, cap1, hv1, _, _⟩ := HO.out.form
    subst hv1
    obtain ⟨A2, cap2, hv2, _, _⟩ := HL.out.form
    subst hv2
    by_cases hkl : k < M.length
    · obtain ⟨hb', rfl, _, hbl, c0, c1, c2⟩ := hca k hkl
      obtain ⟨r, hr⟩ : ∃ r, M[k] = r := ⟨_, rfl⟩
      rw [hr] at c0 c1 c2
      have c0' := (hb.cell (p := ⟨hb', k * 3, none⟩) (Nat.lt_of_lt_of_le hbl hb0.size)).trans ((hb0.cell (p := ⟨hb', k * 3, none⟩) hbl).trans c0)
      have c1' := (hb.cell (p := ⟨hb', k * 3 + 1, none⟩) (Nat.lt_of_lt_of_le hbl hb0.size)).trans ((hb0.cell (p := ⟨hb', k * 3 + 1, none⟩) hbl).trans c1)
      have c2' := (hb.cell (p := ⟨hb', k * 3 + 2, none⟩) (Nat.lt_of_lt_of_le hbl hb0.size)).trans ((hb0.cell (p := ⟨hb', k * 3 + 2, none⟩) hbl).trans c2)
      have HR := Lib.hid hr
      clear c0 c1 c2 hr hx
      have HLIT := Lib.hid (World.ownsRow_lit (e := 63) (size := 3) wr #[.int .u64 (r.id : Int), .int .u64 (r.ix : Int), .int .u64 (r.rd : Int)] 1 (Nat.zero_le _) (by unfold maxLen; omega) rfl)
      by_cases hle : r.rd ≤ rd
      · have hnl : ¬ rd < r.rd := by omega
        go_wp2_with (at_builtin; refine append_rows rfl (.tmp 24) (.tmp 30) 44 63 3 24 i0 _ (by rfl) Try.underlying44 hi hz0 hz1 hz2 rfl (by omega) _ W.heap.size 0 (.slice A1 P1.length cap1) (.slice (some ⟨wr.heap.size, 0, none⟩) 1 1) P1.length 1 (row P1) [.int .u64 (r.id : Int), .int .u64 (r.ix : Int), .int .u64 (r.rd : Int)] rfl rfl (HO.out.alloc _) HLIT.out (by simp [Value.oneCell']) (by omega) (by omega) (by simp; omega) ?_; intro v3 w3 ho3 hg3 hn3)
        go_roundw
        case rel =>
          have hal : (wr.alloc (.cells #[.int .u64 (r.id : Int), .int .u64 (r.ix : Int), .int .u64 (r.rd : Int)] 63)).heap.size = wr.heap.size + 1 := by simp
          refine ⟨k + 1, by omega, by go_num, Lib.hid ?_, Lib.hid ?_, Lib.hid fun i h1 h2 => ?_, (hb.alloc hszr _).grown hg3 (by omega) (fun k hk => (own_row HO.out k hk).1)⟩
          · rw [filt_snoc _ M k hkl, HP1.out, HR.out, if_pos (decide_eq_true hle)]
            unfold RRow
            rw [row_append, List.length_append]
            exact ho3
          · rw [filt_snoc _ M k hkl, HP2.out, HR.out, if_neg (by simpa using hle), List.append_nil]
            exact World.ownsRow.kept (HL.out.alloc _) hg3 (by
              by_cases e : (Value.slice A2 P2.length cap2).ownBlock = none
              · exact .inl e
              · right
                intro e2
                cases h : (Value.slice A2 P2.length cap2).ownBlock with
                | none => exact e h
                | some i => exact HD.out i (by rw [← e2]; exact h) h)
          · rcases hn3 i h1 with e | e
            · exact HD.out i e h2
            · have := lt_of_block (own_row HL.out i h2).2.choose_spec
              omega
        case measure => simp [intOf]; omega
      · have hnl : rd < r.rd := by omega
        go_wp2_with (at_builtin; refine append_rows rfl (.tmp 32) (.tmp 38) 44 63 3 24 i0 _ (by rfl) Try.underlying44 hi hz0 hz1 hz2 rfl (by omega) _ W.heap.size 0 (.slice A2 P2.length cap2) (.slice (some ⟨wr.heap.size, 0, none⟩) 1 1) P2.length 1 (row P2) [.int .u64 (r.id : Int), .int .u64 (r.ix : Int), .int .u64 (r.rd : Int)] rfl rfl (HL.out.alloc _) HLIT.out (by simp [Value.oneCell']) (by omega) (by omega) (by simp; omega) ?_; intro v3 w3 ho3 hg3 hn3)
        go_roundw
        case rel =>
          have hal : (wr.alloc (.cells #[.int .u64 (r.id : Int), .int .u64 (r.ix : Int), .int .u64 (r.rd : Int)] 63)).heap.size = wr.heap.size + 1 := by simp
          refine ⟨k + 1, by omega, by go_num, Lib.hid ?_, Lib.hid ?_, Lib.hid fun i h1 h2 => ?_, (hb.alloc hszr _).grown hg3 (by omega) (fun k hk => (own_row HL.out k hk).1)⟩
          · rw [filt_snoc _ M k hkl, HP1.out, HR.out, if_neg (by simpa using hnl), List.append_nil]
            exact World.ownsRow.kept (HO.out.alloc _) hg3 (by
              by_cases e : (Value.slice A1 P1.length cap1).ownBlock = none
              · exact .inl e
              · right
                intro e2
                cases h : (Value.slice A1 P1.length cap1).ownBlock with
                | none => exact e h
                | some i => exact HD.out i h (by rw [← e2]; exact h))
          · rw [filt_snoc _ M k hkl, HP2.out, HR.out, if_pos (decide_eq_true hnl)]
            unfold RRow
            rw [row_append, List.length_append]
            exact ho3
          · rcases hn3 i h2 with e | e
            · exact HD.out i h1 e
            · have := lt_of_block (own_row HO.out i h1).2.choose_spec
              omega
        case measure => simp [intOf]; omega
    · obtain rfl : k = M.length := by omega
      have hz := (hb.block (g2 + 1) (by omega)).trans HZ.out
      have x1 : wr.cell? ⟨g2, 1, none⟩ = some (.slice C I.length capC) := by rw [cell_of_row _ _ _ _ _ _ hx]; rfl
      have z0 : wr.cell? ⟨g2 + 1, 0, none⟩ = some (.slice none 0 0) := by rw [cell_of_row _ _ _ _ _ _ hz]; rfl
      have z1 : wr.cell? ⟨g2 + 1, 1, none⟩ = some (.slice none 0 0) := by rw [cell_of_row _ _ _ _ _ _ hz]; rfl
      have f0 := frozen_of_row wr (g2 + 1) 0 _ _ hz
      have f1 := frozen_of_row wr (g2 + 1) 1 _ _ hz
      have j0 := frozen_of_row wr g2 0 _ _ hx
      clear hx hz
      go_wp2_with fail
      rw [List.take_length] at HP1 HP2
      have hwg := HG.out
      have hold : ∀ i, W.heap.size ≤ i → (((wr.setCell ⟨g2, 0, none⟩ (.slice A2 P2.length cap2)).setCell ⟨g2 + 1, 0, none⟩ (.slice A2 P2.length cap2)).setCell ⟨g2 + 1, 1, none⟩ (.slice C I.length capC)).heap[i]? = wr.heap[i]? := fun i hi => by
        rw [heap_setCell_other _ _ _ _ (show i ≠ g2 + 1 by omega), heap_setCell_other _ _ _ _ (show i ≠ g2 + 1 by omega), heap_setCell_other _ _ _ _ (show i ≠ g2 by omega)]
      refine bodyPost_ret (v := .tuple #[.agg #[.slice A2 P2.length cap2, .slice C I.length capC], .slice A1 P1.length cap1]) (by simp [results, Try.results22, go_sem, z0, z1, x0]) rfl
        ⟨_, _, rfl, ?_, ?_, (((hb0.trans (hb.mono (by omega))).setCell (by show w.heap.size ≤ g2; omega) _).setCell (by show w.heap.size ≤ g2 + 1; omega) _).setCell (by show w.heap.size ≤ g2 + 1; omega) _⟩
      · rw [HP2.out]
        exact ownsRow_of_heap (HL.out.mono (by omega)) fun i hi => hold i (own_row HL.out i hi).1
      · rw [HP1.out]
        exact ownsRow_of_heap (HO.out.mono (by omega)) fun i hi => hold i (own_row HO.out i hi).1
end Go.Proofs.Ytlenmhclnmcljaa
