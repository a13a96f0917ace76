/- The walk of the document's Drop. -/
import Derived.Test.YtacddiidldppnaaRefPut
import Derived.Test.YtacddiidldppnaaRefMath
namespace Go.Proofs.Ytacddiidldppnaa
open Go.RowKit

/-- The items of the first so many queues, from the document's list. -/
theorem dropL_qOf (G : List It) (q : Nat) : dropL (qOf G) (q + 1) = dropL (qOf G) q ++ G.filter fun x => decide (x.q = q) := by
  show dropL (qOf G) q ++ (qOf G q).map (It.mk q) = _
  rw [qOf_items]
theorem dropL_le (G : List It) : ∀ q, (dropL (qOf G) q).length ≤ q * G.length
  | 0 => by simp [dropL]
  | q + 1 => by
    have := dropL_le G q
    have h2 : (G.filter fun x => decide (x.q = q)).length ≤ G.length := List.length_filter_le _ _
    rw [dropL_qOf, List.length_append, Nat.succ_mul]
    omega
theorem GRow.store {w : World} {base : Nat} {v : Value} {L : List It} (h : GRow w base v L) {p : Addr} (hp : v.ownBlock ≠ some p.block) (u : Value) : GRow (w.setCell p u) base v L :=
  h.keep fun k hk => heap_setCell_other _ _ _ _ fun e => hp (by rw [hk, e])
/-- What the document's Drop leaves. -/
def RefDrop (G : List It) (t : Int) (w : World) (e : Ending) (w' : World) : Prop :=
  ∃ (u : Value), e = .returned (.tuple #[.agg #[.slice none 0 0, .int .i64 t], u]) ∧ GRow w' w.heap.size u (dropL (qOf G) 5) ∧ Below w.heap.size w w'

set_option maxHeartbeats 2000000 in
theorem refDrop_any (B : Nat) (v : Value) (G : List It) (t : Int) (w : World) (h : GRow w B v G) (hl : G.length ≤ 1000) :
    Calls Try.prog 17 #[.agg #[v, .int .i64 t]] w (RefDrop G t w) := by
  obtain ⟨A, cap, rfl, _, hc⟩ := h.form
  have HC : Hid (∀ k (hk : k < G.length), ∃ hb, A = some ⟨hb, 0, none⟩ ∧ B ≤ hb ∧ hb < w.heap.size ∧ w.cell? ⟨hb, k * 2, none⟩ = some (.int .i64 (G[k].q : Int)) ∧ w.cell? ⟨hb, k * 2 + 1, none⟩ = some (.int .u64 (G[k].id : Int))) := Lib.hid hc
  clear h hc
  go_enter Try.func17, Try.ntmps17
  go_wp2_with fail
  have hb0 : Below w.heap.size w ((w.alloc (.cells #[.slice A G.length cap, .int .i64 t] 41)).alloc (.cells #[.slice none 0 0, .int .i64 0] 41)) := ((Below.refl _ _).alloc (Nat.le_refl _) _).alloc (by simp) _
  obtain ⟨hx, hz⟩ := heap2 w (.cells #[.slice A G.length cap, .int .i64 t] 41) (.cells #[.slice none 0 0, .int .i64 0] 41)
  generalize (w.alloc (.cells #[.slice A G.length cap, .int .i64 t] 41)).alloc (.cells #[.slice none 0 0, .int .i64 0] 41) = W0 at hb0 hx hz ⊢
  obtain ⟨g2, hg2⟩ : ∃ g, w.heap.size = g := ⟨_, rfl⟩
  rw [hg2] at hx hz ⊢
  have HB0 := Lib.hid hb0
  have HX := Lib.hid hx
  have HZ := Lib.hid hz
  have HG := Lib.hid hg2
  clear hb0 hx hz hg2
  go_loopw [4, 5] (fun u i wr => ∃ (q : Nat), q ≤ 5 ∧ i = .int .i64 (q : Int) ∧ Hid (GRow wr w.heap.size u (dropL (qOf G) q)) ∧ Hid (wr.heap[g2]? = some (.cells #[.slice A G.length cap, .int .i64 t] 41 (0, 0))) ∧ Hid (wr.heap[g2 + 1]? = some (.cells #[.slice none 0 0, .int .i64 0] 41 (0, 0))) ∧ Hid (Below w.heap.size w wr)) (fun _ i _ => 5 - (intOf i).toNat)
  case atStart => exact ⟨0, by omega, rfl, Lib.hid (GRow.nil _ _), HX, HZ, HB0⟩
  case round =>
    clear HX HZ HB0
    obtain ⟨q, hq, rfl, HO, HX, HZ, HB⟩ := hrel
    by_cases hq5 : q < 5
    · have hd5 := dropL_le G q
      have hd5' : q * G.length ≤ 4 * G.length := Nat.mul_le_mul_right _ (by omega)
      have hdl : (dropL (qOf G) q).length ≤ 4000 := by omega
      clear hd5 hd5'
      go_wp2_with fail
      have hqd : decide ((q : Int) < 5) = true := by simp; omega
      rw [hqd]
      clear hqd
      go_loopw [4, 6] (fun u i wr => ∃ (k : Nat), k ≤ G.length ∧ i = .int .i64 (k : Int) ∧ Hid (GRow wr w.heap.size u (dropL (qOf G) q ++ (G.take k).filter fun x => decide (x.q = q))) ∧ Hid (wr.heap[g2]? = some (.cells #[.slice A G.length cap, .int .i64 t] 41 (0, 0))) ∧ Hid (wr.heap[g2 + 1]? = some (.cells #[.slice none 0 0, .int .i64 0] 41 (0, 0))) ∧ Hid (Below w.heap.size w wr)) (fun _ i _ => G.length - (intOf i).toNat)
      case atStart => exact ⟨0, by omega, rfl, Lib.hid (by rw [List.take_zero, List.filter_nil, List.append_nil]; exact HO.out), HX, HZ, HB⟩
      case round =>
        clear HO HX HZ HB
        obtain ⟨k, hk, rfl, HO, HX, HZ, HB⟩ := hrel
        have x0 : wr.cell? ⟨g2, 0, none⟩ = some (.slice A G.length cap) := by rw [cell_of_row _ _ _ _ _ _ HX.out]; rfl
        by_cases hkl : k < G.length
        · obtain ⟨hb, rfl, _, hbl, c0, c1⟩ := HC.out k hkl
          have c0' := (HB.out.cell (p := ⟨hb, k * 2, none⟩) hbl).trans c0
          have c1' := (HB.out.cell (p := ⟨hb, k * 2 + 1, none⟩) hbl).trans c1
          obtain ⟨x, hx⟩ : ∃ x, G[k] = x := ⟨_, rfl⟩
          rw [hx] at c0' c1'
          have hfl : (dropL (qOf G) q ++ (G.take k).filter fun x => decide (x.q = q)).length ≤ 5000 := by
            have h2 : ((G.take k).filter fun x => decide (x.q = q)).length ≤ (G.take k).length := List.length_filter_le _ _
            rw [List.length_take] at h2
            rw [List.length_append]; omega
          have htk : (G.take (k + 1)).filter (fun x => decide (x.q = q)) = (G.take k).filter (fun x => decide (x.q = q)) ++ [x].filter (fun x => decide (x.q = q)) := by
            rw [List.take_succ_eq_append_getElem hkl, hx, List.filter_append]
          obtain ⟨M, hM⟩ : ∃ M, dropL (qOf G) q ++ (G.take k).filter (fun x => decide (x.q = q)) = M := ⟨_, rfl⟩
          rw [hM] at HO hfl
          obtain ⟨A3, cap3, hv, _, _⟩ := HO.out.form
          subst hv
          have HTK := Lib.hid htk
          have HM := Lib.hid hM
          clear c0 c1 hx htk hM
          by_cases hqx : x.q = q
          · have hd : ((x.q : Int) == (q : Int)) = true := by simp; omega
            have HQ := Lib.hid hqx
            clear hqx
            go_wp2_with (at_builtin; refine append_rows rfl (.tmp 26) (.tmp 32) (by rfl) _ w.heap.size wr.heap.size (.slice A3 M.length cap3) (.slice (some ⟨wr.heap.size, 0, none⟩) 1 1) M [x] rfl rfl (HO.out.below (below_box _ _)) (grow_lit1 wr x (x.q : Int) rfl) (by simp; omega) (by have := HB.out.size; simp; omega) ?_; intro v3 w3 ho3 hg3 _; obtain ⟨gg, cc, rfl, _⟩ := ho3.more)
            have hst : ∀ (i : Nat) (cs : Array Value), wr.heap[i]? = some (.cells cs 41 (0, 0)) → w3.heap[i]? = some (.cells cs 41 (0, 0)) := fun i cs hi => by
              have hlt := lt_of_block hi
              refine (hg3.block i (by simp; omega) fun e => ?_).trans ((Below.heap_alloc _ _ i hlt).trans hi)
              obtain ⟨_, cur, hc⟩ := HO.out.row i e.symm
              rw [hi] at hc; cases hc
            have hsz := HB.out.size
            have HO3 : Hid (GRow w3 w.heap.size (.slice (some ⟨gg, 0, none⟩) (M.length + 1) cc) (dropL (qOf G) q ++ (G.take (k + 1)).filter fun x => decide (x.q = q))) := Lib.hid (by
              rw [HTK.out, List.filter_cons_of_pos (by simpa using HQ.out), List.filter_nil, ← List.append_assoc, HM.out]; exact ho3)
            have HX3 := Lib.hid (hst g2 _ HX.out)
            have HZ3 := Lib.hid (hst (g2 + 1) _ HZ.out)
            have HB3 := Lib.hid ((HB.out.alloc hsz (.cells #[.int .i64 (x.q : Int), .int .u64 (x.id : Int)] 61)).grown hg3 (by simp; omega) (fun k hk => (HO.out.row k hk).1))
            go_roundw
            case rel => exact ⟨k + 1, by omega, by go_num, HO3, HX3, HZ3, HB3⟩
            case measure => simp [intOf]; omega
          · have hd : ((x.q : Int) == (q : Int)) = false := by simp; omega
            have HQ := Lib.hid hqx
            clear hqx
            go_wp2_with fail
            go_roundw
            case rel => exact ⟨k + 1, by omega, by go_num, Lib.hid (by rw [HTK.out, List.filter_cons_of_neg (by simpa using HQ.out), List.filter_nil, List.append_nil, HM.out]; exact HO.out), HX, HZ, HB⟩
            case measure => simp [intOf]; omega
        · obtain rfl : k = G.length := by omega
          have HO2 : Hid (GRow wr w.heap.size u4 (dropL (qOf G) (q + 1))) := Lib.hid (by rw [dropL_qOf]; have := HO.out; rwa [List.take_length] at this)
          clear HO
          go_wp2_with fail
          go_roundw
          case rel => exact ⟨q + 1, by omega, by go_num, HO2, HX, HZ, HB⟩
          case measure => simp [intOf]; omega
    · obtain rfl : q = 5 := by omega
      have x1 : wr.cell? ⟨g2, 1, none⟩ = some (.int .i64 t) := by rw [cell_of_row _ _ _ _ _ _ HX.out]; rfl
      have z0 : wr.cell? ⟨g2 + 1, 0, none⟩ = some (.slice none 0 0) := by rw [cell_of_row _ _ _ _ _ _ HZ.out]; rfl
      have z1 : wr.cell? ⟨g2 + 1, 1, none⟩ = some (.int .i64 0) := by rw [cell_of_row _ _ _ _ _ _ HZ.out]; rfl
      have f0 := frozen_of_row wr (g2 + 1) 0 _ _ HZ.out
      have f1 := frozen_of_row wr (g2 + 1) 1 _ _ HZ.out
      go_wp2_with fail
      have := HG.out
      exact bodyPost_ret (v := .tuple #[.agg #[.slice none 0 0, .int .i64 t], u4]) (by simp [results, Try.results17, go_sem, z0, z1]) rfl
        ⟨u4, rfl, (HO.out.store (fun e => by obtain ⟨_, cur, hc⟩ := HO.out.row _ e; rw [HZ.out] at hc; cases hc) _).store (fun e => by obtain ⟨_, cur, hc⟩ := HO.out.row _ e; rw [HZ.out] at hc; cases hc) _, (HB.out.setCell (by show w.heap.size ≤ g2 + 1; omega) _).setCell (by show w.heap.size ≤ g2 + 1; omega) _⟩
end Go.Proofs.Ytacddiidldppnaa
