/- The walk of the document's Drain. -/
import Derived.Test.YtacddiidldppnaaRefTake
import Derived.Deep.DeepCutAuto
import Derived.Deep.CutBlock
namespace Go.Proofs.Ytacddiidldppnaa
open Go.RowKit

theorem two_set {w : World} {g : Nat} {u0 u1 v0 v1 : Value} (h : w.heap[g]? = some (.cells #[u0, u1] 41 (0, 0))) : ((w.setCell ⟨g, 0, none⟩ v0).setCell ⟨g, 1, none⟩ v1).heap[g]? = some (.cells #[v0, v1] 41 (0, 0)) :=
  heap_setCell_same _ _ _ _ _ _ (heap_setCell_same _ _ _ _ _ _ h)
/-- What the document's Drain leaves. -/
def RefDrain (B : Nat) (G : List It) (t : Nat) (n : Nat) (w : World) (e : Ending) (w' : World) : Prop :=
  ∃ (v' u : Value) (t' : Nat) (G' : List It), e = .returned (.tuple #[.agg #[v', .int .i64 (t' : Int)], u]) ∧ (drainF n ⟨qOf G, t⟩).1 = ⟨qOf G', t'⟩ ∧ GRow w' B v' G' ∧ G'.Sublist G ∧ GRow w' w.heap.size u (drainF n ⟨qOf G, t⟩).2 ∧ (drainF n ⟨qOf G, t⟩).2.length ≤ G.length ∧ Below w.heap.size w w'

set_option maxHeartbeats 2000000 in
theorem refDrain_any (B : Nat) (v : Value) (G : List It) (t : Nat) (n : Int) (w : World) (h : GRow w B v G) (hl : G.length ≤ 1000) (ht : t < 5) (hB : B ≤ w.heap.size) :
    Calls Try.prog 14 #[.agg #[v, .int .i64 (t : Int)], .int .i64 n] w (RefDrain B G t n.toNat w) := by
  obtain ⟨A, cap, rfl, _, _⟩ := h.form
  have HI := Lib.hid h
  have HT := Lib.hid ht
  clear h ht
  go_enter Try.func14, Try.ntmps14
  go_wp2_with fail
  have hb0 : Below w.heap.size w ((w.alloc (.cells #[.slice A G.length cap, .int .i64 (t : Int)] 41)).alloc (.cells #[.slice none 0 0, .int .i64 0] 41)) := ((Below.refl _ _).alloc (Nat.le_refl _) _).alloc (by simp) _
  obtain ⟨hx, hz⟩ := heap2 w (.cells #[.slice A G.length cap, .int .i64 (t : Int)] 41) (.cells #[.slice none 0 0, .int .i64 0] 41)
  generalize (w.alloc (.cells #[.slice A G.length cap, .int .i64 (t : Int)] 41)).alloc (.cells #[.slice none 0 0, .int .i64 0] 41) = W0 at hb0 hx hz ⊢
  obtain ⟨g2, hg2⟩ : ∃ g, w.heap.size = g := ⟨_, rfl⟩
  rw [hg2] at hx hz ⊢
  have HB0 := Lib.hid hb0
  have HX := Lib.hid hx
  have HZ := Lib.hid hz
  have HG := Lib.hid hg2
  clear hb0 hx hz hg2
  go_loopw [6] (fun u wr => ∃ (L G' : List It) (t' : Nat) (v' : Value), Hid (drainF n.toNat ⟨qOf G, t⟩ = ((drainF (n.toNat - L.length) ⟨qOf G', t'⟩).1, L ++ (drainF (n.toNat - L.length) ⟨qOf G', t'⟩).2)) ∧ L.length + G'.length ≤ G.length ∧ t' < 5 ∧ Hid (G'.Sublist G) ∧ Hid (GRow wr B v' G') ∧ Hid (GRow wr w.heap.size u L) ∧ Hid (∀ k, u.ownBlock = some k → v'.ownBlock ≠ some k) ∧ Hid (wr.heap[g2]? = some (.cells #[v', .int .i64 (t' : Int)] 41 (0, 0))) ∧ Hid (wr.heap[g2 + 1]? = some (.cells #[.slice none 0 0, .int .i64 0] 41 (0, 0))) ∧ Hid (Below w.heap.size w wr)) (fun u _ => 1000 - sliceLen u)
  case atStart => exact ⟨[], G, t, .slice A G.length cap, Lib.hid (by simp), by simp, HT.out, Lib.hid (List.Sublist.refl _), Lib.hid (HI.out.below HB0.out), Lib.hid (GRow.nil _ _), Lib.hid (fun k hk => by simp [Value.ownBlock] at hk), HX, HZ, HB0⟩
  case round =>
    clear HX HZ HI HT HB0
    obtain ⟨L, G1, t1, v1, HD, hlen, ht1, HS, HR, HO, HN, HX, HZ, HB⟩ := hrel
    obtain ⟨A2, cap2, hv, _, _⟩ := HO.out.form
    subst hv
    obtain ⟨A1, cap1, hv, _, _⟩ := HR.out.form
    subst hv
    have x0 : wr.cell? ⟨g2, 0, none⟩ = some (.slice A1 G1.length cap1) := by rw [cell_of_row _ _ _ _ _ _ HX.out]; rfl
    have x1 : wr.cell? ⟨g2, 1, none⟩ = some (.int .i64 (t1 : Int)) := by rw [cell_of_row _ _ _ _ _ _ HX.out]; rfl
    have z0 : wr.cell? ⟨g2 + 1, 0, none⟩ = some (.slice none 0 0) := by rw [cell_of_row _ _ _ _ _ _ HZ.out]; rfl
    have z1 : wr.cell? ⟨g2 + 1, 1, none⟩ = some (.int .i64 0) := by rw [cell_of_row _ _ _ _ _ _ HZ.out]; rfl
    have f0 := frozen_of_row wr (g2 + 1) 0 _ _ HZ.out
    have f1 := frozen_of_row wr (g2 + 1) 1 _ _ HZ.out
    have hg2r : g2 + 1 < wr.heap.size := lt_of_block HZ.out
    by_cases hlt : (L.length : Int) < n
    · go_wp2_with fail
      with_reducible refine (refTake_any B (.slice A1 G1.length cap1) G1 t1 wr HR.out (by omega) ht1).mono ?_
      rintro e w2 ⟨b, v2, t2, x, rfl, ⟨A3, m3, cap3, rfl⟩, hf, ht, hb2⟩
      replace HX := Lib.hid ((hb2.block _ (lt_of_block HX.out)).trans HX.out)
      replace HZ := Lib.hid ((hb2.block _ (lt_of_block HZ.out)).trans HZ.out)
      have HO2 := Lib.hid (HO.out.below hb2)
      have HRA := Lib.hid (HR.out.below hb2)
      have HL := Lib.hid (fun k (hk : (Value.slice A2 L.length cap2).ownBlock = some k) => lt_of_block (HO.out.row k hk).2.choose_spec)
      have HB2 := Lib.hid (HB.out.trans (hb2.mono HB.out.size))
      have hsz2 := hb2.size
      clear x0 x1 z0 z1 f0 f1 hb2
      go_upto_region 4 with (fail)
      obtain ⟨h7, h8⟩ := heap2 w2 (.cells #[.slice A3 m3 cap3, .int .i64 (t2 : Int)] 41) (.cells #[.int .i64 (x.q : Int), .int .u64 (x.id : Int)] 61)
      have hbx : Below w2.heap.size w2 ((w2.alloc (.cells #[.slice A3 m3 cap3, .int .i64 (t2 : Int)] 41)).alloc (.cells #[.int .i64 (x.q : Int), .int .u64 (x.id : Int)] 61)) := ((Below.refl _ _).alloc (Nat.le_refl _) _).alloc (by simp) _
      generalize (w2.alloc (.cells #[.slice A3 m3 cap3, .int .i64 (t2 : Int)] 41)).alloc (.cells #[.int .i64 (x.q : Int), .int .u64 (x.id : Int)] 61) = W at h7 h8 hbx ⊢
      have hx := (hbx.block _ (lt_of_block HX.out)).trans HX.out
      have hz := (hbx.block _ (lt_of_block HZ.out)).trans HZ.out
      have hg7 : g2 + 1 < w2.heap.size := Nat.lt_of_lt_of_le hg2r hsz2
      obtain ⟨g7, hg7e⟩ : ∃ g7, w2.heap.size = g7 := ⟨_, rfl⟩
      have HBX := Lib.hid hbx
      have HO3 := Lib.hid (HO2.out.below hbx)
      have HRW := Lib.hid (HRA.out.below hbx)
      have HBW := Lib.hid (HB2.out.trans (hbx.mono HB2.out.size))
      rw [hg7e] at h7 h8 hg7 ⊢
      have HG7 := Lib.hid hg7e
      clear HO2 hbx hg7e hg2r hsz2 HX HZ
      have n7 : g7 ≠ g2 := by omega
      have n8 : g7 + 1 ≠ g2 := by omega
      have n9 : g7 ≠ g2 + 1 := by omega
      have n10 : g7 + 1 ≠ g2 + 1 := by omega
      have x0 : W.cell? ⟨g2, 0, none⟩ = some (.slice A1 G1.length cap1) := by rw [cell_of_row _ _ _ _ _ _ hx]; rfl
      have x1 : W.cell? ⟨g2, 1, none⟩ = some (.int .i64 (t1 : Int)) := by rw [cell_of_row _ _ _ _ _ _ hx]; rfl
      have z0 : W.cell? ⟨g2 + 1, 0, none⟩ = some (.slice none 0 0) := by rw [cell_of_row _ _ _ _ _ _ hz]; rfl
      have z1 : W.cell? ⟨g2 + 1, 1, none⟩ = some (.int .i64 0) := by rw [cell_of_row _ _ _ _ _ _ hz]; rfl
      have y0 : W.cell? ⟨g7, 0, none⟩ = some (.slice A3 m3 cap3) := by rw [cell_of_row _ _ _ _ _ _ h7]; rfl
      have y1 : W.cell? ⟨g7, 1, none⟩ = some (.int .i64 (t2 : Int)) := by rw [cell_of_row _ _ _ _ _ _ h7]; rfl
      have y2 : W.cell? ⟨g7 + 1, 0, none⟩ = some (.int .i64 (x.q : Int)) := by rw [cell_of_row _ _ _ _ _ _ h8]; rfl
      have y3 : W.cell? ⟨g7 + 1, 1, none⟩ = some (.int .u64 (x.id : Int)) := by rw [cell_of_row _ _ _ _ _ _ h8]; rfl
      have e0 := frozen_of_row W g2 0 _ _ hx
      have e1 := frozen_of_row W g2 1 _ _ hx
      have f0 := frozen_of_row W (g2 + 1) 0 _ _ hz
      have f1 := frozen_of_row W (g2 + 1) 1 _ _ hz
      have HX := Lib.hid hx
      have HZ := Lib.hid hz
      clear hx hz h7 h8
      have hgw : w.heap.size = g2 := HG.out
      have hgW : w.heap.size ≤ g2 + 1 := by omega
      have HGW := Lib.hid hgW
      clear hgw hgW
      have HOX : Hid (∀ j cs, W.heap[j]? = some (.cells cs 41 (0, 0)) → (Value.slice A2 L.length cap2).ownBlock ≠ some j) := Lib.hid fun j cs hj e => by
        obtain ⟨_, cur, hc⟩ := HO3.out.row j e
        rw [hj] at hc; cases hc
      cases b with
      | false =>
        have HF := Lib.hid (hf rfl)
        clear hf ht
        go_wp2_with fail
        have hN : n.toNat - L.length = (n.toNat - L.length - 1) + 1 := by omega
        have hd := HD.out
        rw [hN] at hd
        simp only [drainF, HF.out, List.append_nil] at hd
        refine bodyPost_ret (v := .tuple #[.agg #[.slice A1 G1.length cap1, .int .i64 (t1 : Int)], .slice A2 L.length cap2]) (by simp [results, Try.results14, go_sem, z0, z1]) rfl
          ⟨_, _, t1, G1, rfl, by rw [hd], ?_, HS.out, ?_, by rw [hd]; show L.length ≤ _; omega, ?_⟩
        · have hrw : ∀ j cs, W.heap[j]? = some (.cells cs 41 (0, 0)) → (Value.slice A1 G1.length cap1).ownBlock ≠ some j := fun j cs hj e => by
            obtain ⟨_, cur, hc⟩ := HRW.out.row j e
            rw [hj] at hc; cases hc
          exact (HRW.out.set (hrw _ _ HZ.out) _).set (hrw _ _ HZ.out) _
        · rw [hd]; exact (HO3.out.set (HOX.out _ _ HZ.out) _).set (HOX.out _ _ HZ.out) _
        · exact (HBW.out.setCell HGW.out _).setCell HGW.out _
      | true =>
        obtain ⟨G2, htk, hr2, hs2, hl2⟩ := ht rfl
        have HTK := Lib.hid htk
        have HR2 := Lib.hid hr2
        have HS2 := Lib.hid hs2
        have ht2 : t2 < 5 := by
          obtain ⟨_, r, _, _, e⟩ := takeF_some htk
          injection e with _ e2
          rw [e2]; exact Nat.mod_lt _ (by omega)
        have HT2 := Lib.hid ht2
        have HL2 := Lib.hid hl2
        clear hf ht htk hr2 hs2 ht2 hl2
        go_upto_region 7 with (fail)
        have hx5 := two_set (v0 := .slice A3 m3 cap3) (v1 := .int .i64 (t2 : Int)) HX.out
        have hz5 : ((W.setCell ⟨g2, 0, none⟩ (.slice A3 m3 cap3)).setCell ⟨g2, 1, none⟩ (.int .i64 (t2 : Int))).heap[g2 + 1]? = some (.cells #[.slice none 0 0, .int .i64 0] 41 (0, 0)) := by
          rw [heap_setCell_other _ _ _ _ (show g2 + 1 ≠ g2 by omega), heap_setCell_other _ _ _ _ (show g2 + 1 ≠ g2 by omega)]; exact HZ.out
        have ho5 := (HO3.out.set (p := ⟨g2, 0, none⟩) (HOX.out _ _ HX.out) (.slice A3 m3 cap3)).set (p := ⟨g2, 1, none⟩) (HOX.out _ _ HX.out) (.int .i64 (t2 : Int))
        have hrw := HR2.out.below HBX.out
        have hrx : (Value.slice A3 m3 cap3).ownBlock ≠ some g2 := fun e => by
          obtain ⟨_, cur, hc⟩ := hrw.row _ e
          rw [HX.out] at hc; cases hc
        have hr5 := (hrw.set (p := ⟨g2, 0, none⟩) hrx (.slice A3 m3 cap3)).set (p := ⟨g2, 1, none⟩) hrx (.int .i64 (t2 : Int))
        have hb5 := (HBW.out.setCell (p := ⟨g2, 0, none⟩) (Nat.le_of_eq HG.out) (.slice A3 m3 cap3)).setCell (p := ⟨g2, 1, none⟩) (Nat.le_of_eq HG.out) (.int .i64 (t2 : Int))
        have y2' : ((W.setCell ⟨g2, 0, none⟩ (.slice A3 m3 cap3)).setCell ⟨g2, 1, none⟩ (.int .i64 (t2 : Int))).cell? ⟨g7 + 1, 0, none⟩ = some (.int .i64 (x.q : Int)) := by
          rw [World.cell?_of_block (heap_setCell_other _ _ _ _ n8), World.cell?_of_block (heap_setCell_other _ _ _ _ n8)]; exact y2
        have y3' : ((W.setCell ⟨g2, 0, none⟩ (.slice A3 m3 cap3)).setCell ⟨g2, 1, none⟩ (.int .i64 (t2 : Int))).cell? ⟨g7 + 1, 1, none⟩ = some (.int .u64 (x.id : Int)) := by
          rw [World.cell?_of_block (heap_setCell_other _ _ _ _ n8), World.cell?_of_block (heap_setCell_other _ _ _ _ n8)]; exact y3
        clear hrw hrx y0 y1 y2 y3 x0 x1 z0 z1 e0 e1 f0 f1 n7 n9 n10
        generalize (W.setCell ⟨g2, 0, none⟩ (.slice A3 m3 cap3)).setCell ⟨g2, 1, none⟩ (.int .i64 (t2 : Int)) = W5 at hx5 hz5 ho5 hr5 hb5 y2' y3' ⊢
        have HX5 := Lib.hid hx5
        have HZ5 := Lib.hid hz5
        have HO5 := Lib.hid ho5
        have HR5 := Lib.hid hr5
        have HB5 := Lib.hid hb5
        have hsz5 := hb5.size
        clear hx5 hz5 ho5 hr5 hb5
        go_wp2_with (at_builtin; refine append_rows rfl (.tmp 25) (.tmp 27) (by rfl) _ w.heap.size W5.heap.size (.slice A2 L.length cap2) (.slice (some ⟨W5.heap.size, 0, none⟩) 1 1) L [x] rfl rfl (HO5.out.below (below_box _ _)) (grow_lit1 W5 x (x.q : Int) rfl) (by simp; omega) (by simp; omega) ?_; intro v3 w3 ho3 hg3 hn3; obtain ⟨gg, cc, rfl, _⟩ := ho3.more)
        have hwr : B ≤ wr.heap.size := Nat.le_trans hB HB.out.size
        have hst : ∀ (i : Nat) (cs : Array Value), W5.heap[i]? = some (.cells cs 41 (0, 0)) → w3.heap[i]? = some (.cells cs 41 (0, 0)) := fun i cs hi => by
          have hlt := lt_of_block hi
          refine (hg3.block i (by simp; omega) fun e => ?_).trans ((Below.heap_alloc _ _ i hlt).trans hi)
          obtain ⟨_, cur, hc⟩ := HO5.out.row i e.symm
          rw [hi] at hc; cases hc
        have HX3 := Lib.hid (hst g2 _ HX5.out)
        have HZ3 := Lib.hid (hst (g2 + 1) _ HZ5.out)
        have HR3 : Hid (GRow w3 B (.slice A3 m3 cap3) G2) := Lib.hid ((HR5.out.mono hwr).keep fun j hj => by
          have hj5 := lt_of_block (HR5.out.row j hj).2.choose_spec
          refine (hg3.block j (by simp; omega) fun e => ?_).trans (Below.heap_alloc _ _ j hj5)
          have h1 := HL.out j e.symm
          have h2 := (HR5.out.row j hj).1
          omega)
        have HN3 : Hid (∀ j, (Value.slice (some ⟨gg, 0, none⟩) (L.length + 1) cc).ownBlock = some j → (Value.slice A3 m3 cap3).ownBlock ≠ some j) := Lib.hid fun j hj hj2 => by
          have h2 := (HR5.out.row j hj2)
          have h3 := lt_of_block h2.2.choose_spec
          rcases hn3 j hj with h1 | h1
          · have := HL.out j h1; have := h2.1; omega
          · simp at h1; omega
        have HB3 := Lib.hid ((HB5.out.alloc hsz5 (.cells #[.int .i64 (x.q : Int), .int .u64 (x.id : Int)] 61)).grown hg3 (by simp; omega) (fun j hj => (HO5.out.row j hj).1))
        have HO6 : Hid (GRow w3 w.heap.size (.slice (some ⟨gg, 0, none⟩) (L.length + 1) cc) (L ++ [x])) := Lib.hid ho3
        clear hst ho3 hg3 hn3
        go_roundw
        case rel =>
          refine ⟨L ++ [x], G2, t2, .slice A3 m3 cap3, Lib.hid ?_, ?_, HT2.out, Lib.hid (HS2.out.trans HS.out), HR3, HO6, HN3, HX3, HZ3, HB3⟩
          · have hd := HD.out
            rw [show n.toNat - L.length = (n.toNat - (L ++ [x]).length) + 1 by rw [List.length_append, List.length_singleton]; omega] at hd
            simp only [drainF, HTK.out] at hd
            rw [hd, List.append_assoc]; rfl
          · have := HL2.out
            rw [List.length_append, List.length_singleton]; omega
        case measure =>
          have := HL2.out
          simp only [sliceLen]; omega
    · go_wp2_with fail
      have hd := HD.out
      rw [show n.toNat - L.length = 0 by omega] at hd
      simp only [drainF, List.append_nil] at hd
      have hgw : w.heap.size = g2 := HG.out
      have hox : ∀ (u : Value) (M : List It) b, GRow wr b u M → u.ownBlock ≠ some (g2 + 1) := fun u M b hu e => by
        obtain ⟨_, cur, hc⟩ := hu.row _ e
        rw [HZ.out] at hc; cases hc
      refine bodyPost_ret (v := .tuple #[.agg #[.slice A1 G1.length cap1, .int .i64 (t1 : Int)], .slice A2 L.length cap2]) (by simp [results, Try.results14, go_sem, z0, z1]) rfl
        ⟨_, _, t1, G1, rfl, by rw [hd], (HR.out.set (hox _ _ _ HR.out) _).set (hox _ _ _ HR.out) _, HS.out, by rw [hd]; exact (HO.out.set (hox _ _ _ HO.out) _).set (hox _ _ _ HO.out) _, by rw [hd]; show L.length ≤ _; omega, (HB.out.setCell (by show w.heap.size ≤ g2 + 1; omega) _).setCell (by show w.heap.size ≤ g2 + 1; omega) _⟩
end Go.Proofs.Ytacddiidldppnaa
