/- The walk of the document's Ask. -/
import Derived.Test.YtlenmhclnmcljaaRefs
import Derived.Deep.Onto
namespace Go.Proofs.Ytlenmhclnmcljaa
open Go.RowKit

/-- What the document's Ask leaves. -/
def RefAsked (B : Nat) (vB vW : Value) (M : List Rd) (I : List Nat) (id : Nat) (w : World) (e : Ending) (w' : World) : Prop :=
  ∃ b v', e = .returned (.tuple #[.agg #[vB, v'], .bool b]) ∧ b = refAskL M I id ∧ (b = false → v' = vW) ∧ (b = true → IRow w' B v' (I ++ [id])) ∧ Below w.heap.size w w'

theorem heap2 (w : World) (a b : Obj) : ((w.alloc a).alloc b).heap[w.heap.size]? = some a ∧ ((w.alloc a).alloc b).heap[w.heap.size + 1]? = some b :=
  ⟨(Below.heap_alloc (w.alloc a) b w.heap.size (by simp)).trans (heap_alloc_last w a), heap_alloc2_new w a b⟩

set_option maxHeartbeats 1000000 in
theorem refAsk_any (B : Nat) (vB vW : Value) (M : List Rd) (I : List Nat) (id : Nat) (w : World) (hB : RRow w B vB M) (hI : IRow w B vW I) (hM : M.length ≤ 1000) (hIl : I.length ≤ 1000) (hBw : B ≤ w.heap.size) :
    Calls Try.prog 20 #[.agg #[vB, vW], .int .u64 (id : Int)] w (RefAsked B vB vW M I id w) := by
  obtain ⟨A, capA, rfl, _, hca⟩ := hB.form
  obtain ⟨C, capC, rfl, _, hcc⟩ := hI.form
  obtain ⟨i0, hi, hz0, hz1, hz2⟩ := info_parts info25
  have HI := Lib.hid hI
  clear hB hI
  go_enter Try.func20, Try.ntmps20
  go_wp2_with fail
  obtain ⟨hx, hz⟩ := heap2 w (.cells #[.slice A M.length capA, .slice C I.length capC] 46) (.cells #[.slice none 0 0, .slice none 0 0] 46)
  have hb0 : Below w.heap.size w ((w.alloc (.cells #[.slice A M.length capA, .slice C I.length capC] 46)).alloc (.cells #[.slice none 0 0, .slice none 0 0] 46)) := ((Below.refl _ _).alloc (Nat.le_refl _) _).alloc (by simp) _
  generalize (w.alloc (.cells #[.slice A M.length capA, .slice C I.length capC] 46)).alloc (.cells #[.slice none 0 0, .slice none 0 0] 46) = W at hx hz hb0 ⊢
  obtain ⟨g2, hg2⟩ : ∃ g, w.heap.size = g := ⟨_, rfl⟩
  rw [hg2] at hx hz ⊢
  have x0 : W.cell? ⟨g2, 0, none⟩ = some (.slice A M.length capA) := by rw [cell_of_row _ _ _ _ _ _ hx]; rfl
  have x1 : W.cell? ⟨g2, 1, none⟩ = some (.slice C I.length capC) := by rw [cell_of_row _ _ _ _ _ _ hx]; rfl
  have z0 : W.cell? ⟨g2 + 1, 0, none⟩ = some (.slice none 0 0) := by rw [cell_of_row _ _ _ _ _ _ hz]; rfl
  have z1 : W.cell? ⟨g2 + 1, 1, none⟩ = some (.slice none 0 0) := by rw [cell_of_row _ _ _ _ _ _ hz]; rfl
  have f0 := frozen_of_row W (g2 + 1) 0 _ _ hz
  have f1 := frozen_of_row W (g2 + 1) 1 _ _ hz
  have HX := Lib.hid hx
  have HZ := Lib.hid hz
  have HG := Lib.hid hg2
  clear hx hz hg2
  go_loop [6] (fun i => ∃ k : Nat, k ≤ M.length ∧ i = .int .i64 k ∧ Hid ((M.take k).any (isId id) = false)) (fun i => M.length - (intOf i).toNat)
  case atStart => exact ⟨0, Nat.zero_le _, rfl, Lib.hid rfl⟩
  case round =>
    obtain ⟨k, hk, rfl, HA⟩ := hrel
    by_cases hkl : k < M.length
    · obtain ⟨hb, rfl, _, hbl, c0, _, _⟩ := hca k hkl
      have c0' := (hb0.cell (p := ⟨hb, k * 3, none⟩) hbl).trans c0
      obtain ⟨r, hr⟩ : ∃ r, M[k] = r := ⟨_, rfl⟩
      rw [hr] at c0'
      have HR := Lib.hid hr
      clear c0 hr
      by_cases hid : r.id = id
      · have hd : (((r.id : Nat) : Int) == ((id : Nat) : Int)) = true := by simp; omega
        have HD := Lib.hid hid
        clear hid
        go_wp2_with fail
        have hany : M.any (isId id) = true := by rw [List.any_eq_true]; exact ⟨M[k], List.getElem_mem _, by rw [HR.out]; exact decide_eq_true HD.out⟩
        refine bodyPost_ret (v := .tuple #[.agg #[.slice (some ⟨hb, 0, none⟩) M.length capA, .slice C I.length capC], .bool false]) (by simp [results, Try.results20, go_sem, z0, z1]) rfl
          ⟨false, _, rfl, by simp [refAskL, hany], fun _ => rfl, (fun h => by cases h), ?_⟩
        have := HG.out
        exact (hb0.setCell (by show w.heap.size ≤ g2 + 1; omega) _).setCell (by show w.heap.size ≤ g2 + 1; omega) _
      · have hd : (((r.id : Nat) : Int) == ((id : Nat) : Int)) = false := by simp; omega
        have HD := Lib.hid (decide_eq_false hid)
        clear hid
        go_wp2_with fail
        go_round
        case rel =>
          refine ⟨k + 1, by omega, by go_num, Lib.hid ?_⟩
          rw [List.take_succ_eq_append_getElem hkl, List.any_append, HA.out, HR.out]
          simp [isId, HD.out]
        case measure => simp [intOf]; omega
    · obtain rfl : k = M.length := by omega
      have hMn := HA.out
      rw [List.take_length] at hMn
      have HMN := Lib.hid hMn
      clear hMn HA hca
      go_wp2_with fail
      go_loop [7] (fun i => ∃ k : Nat, k ≤ I.length ∧ i = .int .i64 k ∧ Hid ((I.take k).any (fun x => decide (x = id)) = false)) (fun i => I.length - (intOf i).toNat)
      case atStart => exact ⟨0, Nat.zero_le _, rfl, Lib.hid rfl⟩
      case round =>
        obtain ⟨k, hk, rfl, HA⟩ := hrel
        by_cases hkl : k < I.length
        · obtain ⟨hb, rfl, _, hbl, c0⟩ := hcc k hkl
          have c0' := (hb0.cell (p := ⟨hb, k, none⟩) hbl).trans c0
          obtain ⟨r, hr⟩ : ∃ r, I[k] = r := ⟨_, rfl⟩
          rw [hr] at c0'
          have HR := Lib.hid hr
          clear c0 hr
          by_cases hid : r = id
          · have hd : (((r : Nat) : Int) == ((id : Nat) : Int)) = true := by simp; omega
            have HD := Lib.hid hid
            clear hid
            go_wp2_with fail
            have hany : I.any (fun x => decide (x = id)) = true := by rw [List.any_eq_true]; exact ⟨I[k], List.getElem_mem _, by rw [HR.out]; exact decide_eq_true HD.out⟩
            refine bodyPost_ret (v := .tuple #[.agg #[.slice A M.length capA, .slice (some ⟨hb, 0, none⟩) I.length capC], .bool false]) (by simp [results, Try.results20, go_sem, z0, z1]) rfl
              ⟨false, _, rfl, by simp [refAskL, hany], fun _ => rfl, (fun h => by cases h), ?_⟩
            have := HG.out
            exact (hb0.setCell (by show w.heap.size ≤ g2 + 1; omega) _).setCell (by show w.heap.size ≤ g2 + 1; omega) _
          · have hd : (((r : Nat) : Int) == ((id : Nat) : Int)) = false := by simp; omega
            have HD := Lib.hid (decide_eq_false hid)
            clear hid
            go_wp2_with fail
            go_round
            case rel =>
              refine ⟨k + 1, by omega, by go_num, Lib.hid ?_⟩
              rw [List.take_succ_eq_append_getElem hkl, List.any_append, HA.out, HR.out]
              simp [HD.out]
            case measure => simp [intOf]; omega
        · obtain rfl : k = I.length := by omega
          have hIn := HA.out
          rw [List.take_length] at hIn
          have HIN := Lib.hid hIn
          clear hIn HA hcc
          have hg2W : g2 < W.heap.size := lt_of_block HX.out
          have hg3W : g2 + 1 < W.heap.size := lt_of_block HZ.out
          have x1' := (World.cell?_alloc_lt W (.cells #[] 25) ⟨g2, 1, none⟩ hg2W).trans x1
          have HE : Hid ((W.alloc (.cells #[] 25)).ownsRow W.heap.size 25 1 (.slice (some ⟨W.heap.size, 0, none⟩) 0 0) 0 []) := Lib.hid (World.ownsRow_lit (e := 25) (size := 1) W #[] 0 (Nat.le_refl _) (by unfold maxLen; omega) rfl)
          have HI1 : Hid ((W.alloc (.cells #[] 25)).ownsRow B 25 1 (.slice C I.length capC) I.length (I.map fun (x : Nat) => Value.int .u64 (x : Int))) := Lib.hid ((HI.out.below hb0).below ((Below.refl _ _).alloc (Nat.le_refl _) _))
          go_wp2_with (first
            | (at_builtin; refine append_rows rfl (.tmp 39) (.tmp 41) 33 25 1 8 i0 _ (by rfl) Try.underlying33 hi hz0 hz1 hz2 rfl (by omega) _ W.heap.size B (.slice (some ⟨W.heap.size, 0, none⟩) 0 0) (.slice C I.length capC) 0 I.length [] (I.map fun (x : Nat) => Value.int .u64 (x : Int)) rfl rfl HE.out HI1.out (ids_one I) (by omega) (by omega) (by simp) ?_; intro v1 w2 ho1 hg1 _; simp only [Nat.zero_add, List.nil_append] at ho1; have HO1 := Lib.hid ho1; have HB2 := Lib.hid (((Below.refl W.heap.size W).alloc (Nat.le_refl _) (.cells #[] 25)).grown hg1 (by simp) (fun k hk => by simp [Value.ownBlock] at hk; omega)); have hs2 := HB2.out.size; clear ho1 hg1)
            | (at_builtin; refine append_rows rfl (.tmp 42) (.tmp 44) 33 25 1 8 i0 _ (by rfl) Try.underlying33 hi hz0 hz1 hz2 rfl (by omega) _ W.heap.size 0 v1 (.slice (some ⟨w2.heap.size, 0, none⟩) 1 1) I.length 1 (I.map fun (x : Nat) => Value.int .u64 (x : Int)) [.int .u64 (id : Int)] rfl rfl (HO1.out.alloc _) (World.ownsRow_lit (e := 25) (size := 1) w2 #[.int .u64 (id : Int)] 1 (Nat.zero_le _) (by unfold maxLen; omega) rfl) (by simp [Value.oneCell']) (by omega) (by omega) (by simp; omega) ?_; intro v3 w3 ho3 hg3 _; obtain ⟨gg, cc, rfl, hgg, _⟩ := ho3.form (by omega); have hb3 := ((HB2.out.alloc hs2 (.cells #[.int .u64 (id : Int)] 25)).grown hg3 (by simp; omega) (fun k hk => (own_row HO1.out k hk).1)); have hx3 := (hb3.block g2 hg2W).trans HX.out; have hz3 := (hb3.block (g2 + 1) hg3W).trans HZ.out; have y0 : w3.cell? ⟨g2, 0, none⟩ = some (.slice A M.length capA) := (by rw [cell_of_row _ _ _ _ _ _ hx3]; rfl); have y1 : w3.cell? ⟨g2, 1, none⟩ = some (.slice C I.length capC) := (by rw [cell_of_row _ _ _ _ _ _ hx3]; rfl); have u0 : w3.cell? ⟨g2 + 1, 0, none⟩ = some (.slice none 0 0) := (by rw [cell_of_row _ _ _ _ _ _ hz3]; rfl); have u1 : w3.cell? ⟨g2 + 1, 1, none⟩ = some (.slice none 0 0) := (by rw [cell_of_row _ _ _ _ _ _ hz3]; rfl); have j1 := frozen_of_row w3 g2 1 _ _ hx3; have l0 := frozen_of_row w3 (g2 + 1) 0 _ _ hz3; have l1 := frozen_of_row w3 (g2 + 1) 1 _ _ hz3; have HO3 := Lib.hid ho3; have HB3 := Lib.hid hb3; have hgne : gg ≠ g2 := (by omega); clear ho3 hg3 hx3 hz3 hb3))
          have hw3 : w.heap.size = g2 := HG.out
          refine bodyPost_ret (v := .tuple #[.agg #[.slice A M.length capA, .slice (some ⟨gg, 0, none⟩) (I.length + 1) cc], .bool true]) (by simp [results, Try.results20, go_sem, u0, u1]) rfl
            ⟨true, _, rfl, by simp only [refAskL, HMN.out, HIN.out]; rfl, (fun h => by cases h), fun _ => ?_, ?_⟩
          · unfold IRow
            rw [List.length_append, List.map_append]
            have ho := HO3.out.mono (base' := B) (Nat.le_trans hBw hb0.size)
            refine ownsRow_of_heap ho fun k hk => ?_
            have hkg : gg = k := by simpa [Value.ownBlock] using hk
            subst hkg
            rw [heap_setCell_other _ _ _ _ (show gg ≠ g2 + 1 by omega), heap_setCell_other _ _ _ _ (show gg ≠ g2 + 1 by omega), heap_setCell_other _ _ _ _ hgne]
          · exact (((hb0.trans (HB3.out.mono hb0.size)).setCell (by show w.heap.size ≤ g2; omega) _).setCell (by show w.heap.size ≤ g2 + 1; omega) _).setCell (by show w.heap.size ≤ g2 + 1; omega) _
end Go.Proofs.Ytlenmhclnmcljaa
