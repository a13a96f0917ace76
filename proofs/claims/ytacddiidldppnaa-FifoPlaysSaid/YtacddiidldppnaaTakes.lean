/- The walk of takes where there is one. -/
import Derived.Test.YtacddiidldppnaaTake
namespace Go.Proofs.Ytacddiidldppnaa
open Go.RowKit

section
variable {B : Nat} {w : World} {g : Nat} {V : Nat → Value} {Q : Nat → List Nat} {t : Nat}
set_option maxHeartbeats 1000000 in
theorem takes_some (h : FifoAt B w g V Q t) {q x : Nat} {r : List Nat} (hp : pick Q t = some q) (hQ : Q q = x :: r) : Calls Try.prog 21 #[.pointer (some ⟨g, 0, none⟩)] w
    fun e w' => e = .returned (.tuple #[.agg #[.int .i64 (q : Int), .int .u64 (x : Int)], .bool true]) ∧ ∃ V', FifoAt B w' g V' (upd Q q r) ((q + 1) % 5) ∧ Moved B g V V' w w' := by
  have hlt := lt_of_block h.head
  have HP := Lib.hid hp
  have ht5 := h.turn
  have hz := h.below ((Below.refl _ _).alloc (Nat.le_refl _) (.cells #[.int .i64 0, .int .u64 0] 32))
  have HQ := Lib.hid hQ
  clear hp hQ
  go_enter Try.func21, Try.ntmps21
  go_wp2_with fail
  go_loop [7] (fun v => ∃ i : Nat, i ≤ 5 ∧ v = .int .i64 i ∧ Hid (pickFrom Q t i (5 - i) = some q)) (fun v => 5 - (intOf v).toNat)
  case atStart => exact ⟨0, by omega, rfl, HP⟩
  case round =>
    clear HP
    obtain ⟨i, hi, rfl, HP⟩ := hrel
    by_cases hlt5 : i < 5
    · have hpi := HP.out
      rw [show 5 - i = (5 - (i + 1)) + 1 by omega] at hpi
      unfold pickFrom at hpi
      have hq5 : (t + i) % 5 < 5 := Nat.mod_lt _ (by omega)
      have c5 := hz.cell5
      have cq := hz.cell _ hq5
      by_cases he : Q ((t + i) % 5) = []
      case pos =>
        rw [if_pos he] at hpi
        have HI := Lib.hid hpi
        clear hpi
        obtain ⟨A, cap, hv, _, _⟩ := (h.own _ hq5).form
        rw [he, List.length_nil] at hv
        rw [hv] at cq
        clear hv he
        go_wp2_with fail
        go_round
        case rel => exact ⟨i + 1, by omega, by go_num, HI⟩
        case measure => simp [intOf]; omega
      rw [if_neg he] at hpi
      have hqi : (t + i) % 5 = q := by simpa using hpi
      have hiq : (((t : Int) + (i : Int)) % 5) = (q : Int) := by omega
      rw [hqi] at cq hq5
      clear he hpi
      have hown := hz.own q hq5
      rw [HQ.out] at hown
      obtain ⟨gh, off, cap, cur, hv, hB, hcur, hcap, hoff, hat⟩ : ∃ gh off cap cur, V q = .slice (some ⟨gh, off, none⟩) (r.length + 1) cap ∧ B ≤ gh ∧ (w.alloc (.cells #[.int .i64 0, .int .u64 0] 32)).heap[gh]? = some (.cells cur 27 (0, 0)) ∧ r.length + 1 ≤ cap ∧ off + cap ≤ cur.size ∧ cur[off]? = some (.int .u64 (x : Int)) := by
        rcases hown with ⟨_, h0⟩ | ⟨gh, off, cap, cur, h1, h2, h3, h4, h5, h6⟩
        · cases h0
        · exact ⟨gh, off, cap, cur, by simpa using h1, h2, h3, by simpa using h4, h5, h6 0 (by simp)⟩
      rw [hv] at cq
      have cx : (w.alloc (.cells #[.int .i64 0, .int .u64 0] 32)).cell? ⟨gh, off, none⟩ = some (.int .u64 (x : Int)) := by rw [cell_of_row _ _ _ _ _ _ hcur]; exact hat
      have hgg : gh ≠ g := fun e => hz.head_ne hq5 (by rw [hv, e]; rfl)
      have fq := hz.frozen q
      have f5 := hz.frozen 5
      have hr4 : r.length ≤ 4 := by have := h.room q hq5; rw [HQ.out, List.length_cons] at this; omega
      have hq5' : (q + 1) % 5 < 5 := Nat.mod_lt _ (by omega)
      have hghw : gh ≠ w.heap.size := fun e => by
        subst e
        rw [heap_alloc_last] at hcur
        cases hcur
      have hgw : g ≠ w.heap.size := by omega
      have hfive : q ≠ 5 := by omega
      have hres : (w.alloc (.cells #[.int .i64 0, .int .u64 0] 32)).heap[w.heap.size]? = some (.cells #[.int .i64 0, .int .u64 0] 32 (0, 0)) := heap_alloc_last w _
      have hm0 : Moved B g V V w (w.alloc (.cells #[.int .i64 0, .int .u64 0] 32)) := Moved.of_below ((Below.refl _ _).alloc (Nat.le_refl _) _) h.ltB
      generalize w.alloc (.cells #[.int .i64 0, .int .u64 0] 32) = W0 at hz c5 cq hown hcur cx fq f5 hres hm0 ⊢
      obtain ⟨gr, hgr⟩ : ∃ gr, w.heap.size = gr := ⟨_, rfl⟩
      rw [hgr] at hghw hgw hres hlt ⊢
      have HGR := Lib.hid hgr
      have r0 : W0.cell? ⟨gr, 0, none⟩ = some (.int .i64 0) := by rw [cell_of_row _ _ _ _ _ _ hres]; rfl
      have r1 : W0.cell? ⟨gr, 1, none⟩ = some (.int .u64 0) := by rw [cell_of_row _ _ _ _ _ _ hres]; rfl
      have z0 := frozen_of_row W0 gr 0 _ _ hres
      have z1 := frozen_of_row W0 gr 1 _ _ hres
      have HRES := Lib.hid hres
      have HM0 := Lib.hid hm0
      clear hres hgr hm0
      rw [hv] at hown
      have htail := hown.tail
      by_cases hc1 : cap = 1
      case pos =>
        have ht1 := htail.2.2.2 hc1
        have hr0 : r.length = 0 := by omega
        have HR0 := Lib.hid hr0
        have HT := Lib.hid (hz.take hq5 hr4 hq5' ht1 (fun k hk => by rw [hv]; exact hk))
        have HQI := Lib.hid hqi
        have HV := Lib.hid hv
        clear hqi hv hown ht1 htail hcur hat hr0
        subst hc1
        go_wp2_with fail
        go_region
        rw [show ((q : Int) + 1) % 5 = (((q + 1) % 5 : Nat) : Int) by omega]
        go_wp2_with fail
        obtain ⟨e1, e2⟩ := HT.out
        obtain ⟨n1, n2⟩ := e1.other (i := gr) (by rw [heap_setCell_other _ _ _ _ (Ne.symm hgw), heap_setCell_other _ _ _ _ (Ne.symm hgw)]; exact HRES.out) (by decide) (by decide)
        have e3 := (HM0.out.trans e2).trans (Moved.of_below (blw_draws (Below.refl _ _) 1) e1.ltB)
        refine bodyPost_ret (v := .tuple #[.agg #[.int .i64 (q : Int), .int .u64 (x : Int)], .bool true]) (by simp [results, Try.results21, go_sem, r0, r1, hgw, Ne.symm hgw]) rfl
          ⟨rfl, _, ((e1.draws 1).set (p := ⟨gr, 0, none⟩) n1 n2 _).set (p := ⟨gr, 1, none⟩) n1 n2 _, (e3.set h.ltB (p := ⟨gr, 0, none⟩) (Nat.le_of_eq HGR.out) _).set h.ltB (p := ⟨gr, 1, none⟩) (Nat.le_of_eq HGR.out) _⟩
      case neg =>
        have ht1 := htail.2.2.1 hc1
        have HT := Lib.hid (hz.take hq5 hr4 hq5' ht1 (fun k hk => by rw [hv]; exact hk))
        have HQI := Lib.hid hqi
        have HV := Lib.hid hv
        clear hqi hv hown ht1 htail hcur hat
        go_wp2_with fail
        go_region
        rw [show ((q : Int) + 1) % 5 = (((q + 1) % 5 : Nat) : Int) by omega]
        go_wp2_with fail
        obtain ⟨e1, e2⟩ := HT.out
        obtain ⟨n1, n2⟩ := e1.other (i := gr) (by rw [heap_setCell_other _ _ _ _ (Ne.symm hgw), heap_setCell_other _ _ _ _ (Ne.symm hgw)]; exact HRES.out) (by decide) (by decide)
        have e3 := (HM0.out.trans e2).trans (Moved.of_below (blw_draws (Below.refl _ _) 1) e1.ltB)
        refine bodyPost_ret (v := .tuple #[.agg #[.int .i64 (q : Int), .int .u64 (x : Int)], .bool true]) (by simp [results, Try.results21, go_sem, r0, r1, hgw, Ne.symm hgw]) rfl
          ⟨rfl, _, ((e1.draws 1).set (p := ⟨gr, 0, none⟩) n1 n2 _).set (p := ⟨gr, 1, none⟩) n1 n2 _, (e3.set h.ltB (p := ⟨gr, 0, none⟩) (Nat.le_of_eq HGR.out) _).set h.ltB (p := ⟨gr, 1, none⟩) (Nat.le_of_eq HGR.out) _⟩
    · have hpi := HP.out
      obtain rfl : i = 5 := by omega
      exact absurd hpi (by simp [pickFrom])
end
end Go.Proofs.Ytacddiidldppnaa
