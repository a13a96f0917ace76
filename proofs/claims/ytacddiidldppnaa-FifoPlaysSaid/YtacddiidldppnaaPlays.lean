/- FifoPlays: whatever is put, drained and dropped, each answer, each queue's length and whose turn it is are the document's. The walk. -/
import Derived.Test.YtacddiidldppnaaPlaysMem
import Derived.Test.YtacddiidldppnaaOpen
import Derived.Deep.DeepCutAuto
import Derived.Deep.CutBlock
import Derived.Deep.RegionWith
import Derived.BigRegion
import Derived.RegionTactic
import Derived.StillTailTactics
namespace Go.Proofs.Ytacddiidldppnaa
open Go.RowKit

set_option maxRecDepth 100000 in
set_option maxHeartbeats 4000000 in
theorem plays_any (zero : Bool) (A : Option Addr) (cap : Nat) (l : List Act4) (w : World) (ha : ActsAt w A l) :
    Calls Try.prog 4 #[.slice A l.length cap, .bool zero] w fun e w' => e = .returned (.bool true) ∧ Below w.heap.size w w' := by
  by_cases h200 : 200 < l.length
  · go_enter Try.func4, Try.ntmps4
    go_wp2_with fail
    refine (awake_any _).mono ?_
    rintro e w2 ⟨rfl, hb2⟩
    go_wp2_with fail
    go_ret
    exact ⟨rfl, hb2⟩
  go_enter Try.func4, Try.ntmps4
  go_wp2_with fail
  refine (new_any _).mono ?_
  rintro e w1 ⟨g0, rfl, f1, b1⟩
  go_upto_if 23 with (fail)
  go_cut [5] (fun p wx => ∃ g V, p = .pointer (some ⟨g, 0, none⟩) ∧ Hid (FifoAt w.heap.size wx g V (qOf []) 0) ∧ Below w.heap.size w wx)
  case first =>
    cases zero
    · go_wp2_with fail
      go_meet
      exact ⟨g0, _, rfl, Lib.hid f1, b1⟩
    · go_wp2_with fail
      go_meet
      exact ⟨w1.heap.size, fun _ => .slice none 0 0, rfl, Lib.hid ⟨b1.size, heap_alloc_last w1 _, fun q _ => QAt.nil _ _, fun p q _ _ _ h hh => by simp [Value.ownBlock] at hh, by omega, fun q _ => by simp [qOf]⟩, b1.alloc b1.size _⟩
  case rest =>
    clear f1 b1
    obtain ⟨g, V0, rfl, HF, hb⟩ := hcut
    rename_i wc
    go_wp2_with fail
    have hps : PS w.heap.size (wc.alloc (.cells #[.slice none 0 0, .int .i64 0] 41)) g wc.heap.size V0 (.slice none 0 0) [] 0 := ⟨HF.out.below (below_box _ _), heap_alloc_last wc _, GRow.nil _ _, fun x hx => by cases hx⟩
    have hb1 := hb.alloc hb.size (.cells #[.slice none 0 0, .int .i64 0] 41)
    have hg6 := hb.size
    have HPS := Lib.hid hps
    clear HF hb hps
    generalize wc.alloc (.cells #[.slice none 0 0, .int .i64 0] 41) = W at HPS hb1 ⊢
    generalize wc.heap.size = g6 at HPS hg6 ⊢
    go_loopw [7] (fun i wr => ∃ (k t : Nat) (G : List It) (V : Nat → Value) (v : Value), k ≤ l.length ∧ i = .int .i64 k ∧ G.length ≤ k ∧ Hid (PS w.heap.size wr g g6 V v G t) ∧ Below w.heap.size w wr) (fun i _ => l.length - (intOf i).toNat)
    case atStart => exact ⟨0, 0, [], V0, _, Nat.zero_le _, rfl, Nat.le_refl _, HPS, hb1⟩
    case round =>
      clear HPS hb1
      obtain ⟨k, t, G, V, v, hk, rfl, hGk, HPS, hb⟩ := hrel
      by_cases hlt : k < l.length
      · obtain ⟨ab, off, rfl, c0, c1, c2, c3, hd⟩ := ha k hlt
        obtain ⟨act, hact⟩ : ∃ act, l[k] = act := ⟨_, rfl⟩
        rw [hact] at c0 c1 c2 c3 hd
        clear hact
        obtain ⟨d, q, n, id⟩ := act
        simp only at c0 c1 c2 c3 hd
        have c0' := (hb.cell (World.block_lt_of_cell? w _ c0)).trans c0
        have HC1 := Lib.hid c1
        have HC2 := Lib.hid c2
        have HC3 := Lib.hid c3
        have i1 : (0 : Int) ≤ (k : Int) := by omega
        have i2 : (k : Int) < (l.length : Int) := by omega
        clear c0 c1 c2 c3
        go_upto_block 2 with (fail)
        clear c0'
        go_cut [8] (fun _ wx => ∃ (t : Nat) (G : List It) (V : Nat → Value) (v : Value), G.length ≤ k + 1 ∧ Hid (PS w.heap.size wx g g6 V v G t) ∧ Below w.heap.size w wx)
        case first =>
          have ht5 := HPS.out.fifo.turn
          have HT5 := Lib.hid ht5
          have hG1000 : G.length ≤ 1000 := by omega
          have HG1 := Lib.hid hG1000
          clear ht5 hG1000
          by_cases h0 : d = 0
          · subst h0
            have c1' := (hb.cell (World.block_lt_of_cell? w _ HC1.out)).trans HC1.out
            have c3' := (hb.cell (World.block_lt_of_cell? w _ HC3.out)).trans HC3.out
            go_wp2_with fail
            go_still_tail 11, (by kernel_rfl)
            change wpList _ _ _ _ _ wr.drew
            have HPd : Hid (PS w.heap.size wr.drew g g6 V v G t) := Lib.hid (HPS.out.below (blw_draws (Below.refl _ _) 1))
            have hbd : Below w.heap.size w wr.drew := blw_draws hb 1
            clear HPS hb c1' c3'
            generalize wr.drew = wd at HPd hbd ⊢
            go_wp2_with fail
            refine (put_all HPd.out.fifo q id).mono ?_
            rintro e w2 ⟨rfl, V2, f2, m2⟩
            have HF2 := Lib.hid f2
            have HR2 := Lib.hid (HPd.out.row.moved HPd.out.fifo m2)
            have H62 := Lib.hid (moved_box HPd.out.box HPd.out.fifo m2)
            have hb2 := hbd.trans m2.below
            have H5 := Lib.hid HPd.out.five
            clear f2 m2 HPd hbd
            obtain ⟨r, hr⟩ : ∃ r, putB G q = r := ⟨_, rfl⟩
            obtain ⟨G2, hG2⟩ : ∃ G2, putG G q id = G2 := ⟨_, rfl⟩
            have hG2l := putG_len G q id
            have hG25 := putG_five H5.out q id
            rw [hr]
            rw [hG2] at HF2 hG2l hG25
            have HRB := Lib.hid hr
            have HGP := Lib.hid hG2
            have H52 := Lib.hid hG25
            clear hr hG2 hG25
            go_upto_region 13 with (fail)
            go_cut [9, 10] (fun p9 p10 wx => ∃ g9 v2 w5, w5 = wx ∧ p9 = .pointer (some ⟨g9, 0, none⟩) ∧ p10 = .bool r ∧ Hid (w5.heap[g9]? = some (.cells #[v2, .int .i64 (t : Int)] 41 (0, 0))) ∧ Hid (GRow w5 w.heap.size v2 G2) ∧ w2.heap.size ≤ g9 ∧ Below w2.heap.size w2 w5)
            case first =>
              have k1 := (hb2.cell (World.block_lt_of_cell? w _ HC1.out)).trans HC1.out
              have k3 := (hb2.cell (World.block_lt_of_cell? w _ HC3.out)).trans HC3.out
              have hab : ab < w2.heap.size := Nat.lt_of_lt_of_le (World.block_lt_of_cell? w _ HC1.out) hb2.size
              have x0 : w2.cell? ⟨g6, 0, none⟩ = some v := by rw [cell_of_row _ _ _ _ _ _ H62.out]; rfl
              have x1 : w2.cell? ⟨g6, 1, none⟩ = some (.int .i64 (t : Int)) := by rw [cell_of_row _ _ _ _ _ _ H62.out]; rfl
              have h6lt := lt_of_block H62.out
              have HMd : Hid (GRow w2.drew w.heap.size v G) := Lib.hid HR2.out.draws
              have HMa : Hid (GRow ((w2.alloc (.cells #[.slice none 0 0, .int .i64 0] 41)).drew) w.heap.size v G) := Lib.hid (HR2.out.below (below_box _ _)).draws
              have hB1 : w.heap.size ≤ w2.drew.heap.size := hb2.size
              have hB2 : w.heap.size ≤ ((w2.alloc (.cells #[.slice none 0 0, .int .i64 0] 41)).drew).heap.size := by simp; exact Nat.le_succ_of_le hb2.size
              have HB1 := Lib.hid hB1
              have HB2 := Lib.hid hB2
              clear hB1 hB2 hG2l
              go_region_with (first
                | (go_at_call 13; (with_reducible refine (refPut_for v (t : Int) q id HMd.out HG1.out HB1.out r HRB.out G2 HGP.out).mono ?_); rintro e w3 ⟨v2, rfl, q1, b3⟩; obtain ⟨a1, cc1, hv1, _, _⟩ := q1.form; subst hv1; have Q1 := Lib.hid q1; have B3 := Lib.hid b3; clear q1 b3)
                | (go_at_call 13; (with_reducible refine (refPut_for v (t : Int) q id HMa.out HG1.out HB2.out r HRB.out G2 HGP.out).mono ?_); rintro e w3 ⟨v2, rfl, q1, b3⟩; obtain ⟨a1, cc1, hv1, _, _⟩ := q1.form; subst hv1; have Q1 := Lib.hid q1; have B3 := Lib.hid b3; have zz := (b3.block w2.heap.size (by simp)).trans (heap_alloc_last w2 _); have z0 : w3.cell? ⟨w2.heap.size, 0, none⟩ = some (.slice none 0 0) := (by rw [cell_of_row _ _ _ _ _ _ zz]; rfl); have z1 : w3.cell? ⟨w2.heap.size, 1, none⟩ = some (.int .i64 0) := (by rw [cell_of_row _ _ _ _ _ _ zz]; rfl); have zf0 := frozen_of_row w3 w2.heap.size 0 _ _ zz; have zf1 := frozen_of_row w3 w2.heap.size 1 _ _ zz; have ZZ := Lib.hid zz; clear q1 b3 zz))
              all_goals
                go_wp2_with fail
                go_meet
                first
                  | exact ⟨_, _, _, rfl, rfl, rfl, Lib.hid (heap_alloc_last w3 _), Lib.hid (Q1.out.below (below_box w3 _)), (meetA B3.out).size, (meetA B3.out).alloc (meetA B3.out).size _⟩
                  | exact ⟨w2.heap.size, _, _, rfl, rfl, rfl, Lib.hid (two_set ZZ.out), Lib.hid (Q1.out.two ZZ.out), Nat.le_refl _, ((meetB B3.out).setCell (by exact Nat.le_refl _) _).setCell (by exact Nat.le_refl _) _⟩
            case rest =>
              obtain ⟨g9, v2, w5, rfl, rfl, rfl, H9, HR5, hg9, hb3⟩ := hcut
              have hb5 := hb2.trans (hb3.mono hb2.size)
              have h65 := (hb3.block g6 (lt_of_block H62.out)).trans H62.out
              have HF5 := Lib.hid (HF2.out.below hb3)
              obtain ⟨a1, cc1, hv1, _, _⟩ := HR5.out.form
              subst hv1
              have x0 : w5.cell? ⟨g9, 0, none⟩ = some (.slice a1 G2.length cc1) := by rw [cell_of_row _ _ _ _ _ _ H9.out]; rfl
              have x1 : w5.cell? ⟨g9, 1, none⟩ = some (.int .i64 (t : Int)) := by rw [cell_of_row _ _ _ _ _ _ H9.out]; rfl
              have y0 : w5.cell? ⟨g6, 0, none⟩ = some v := by rw [cell_of_row _ _ _ _ _ _ h65]; rfl
              have y1 : w5.cell? ⟨g6, 1, none⟩ = some (.int .i64 (t : Int)) := by rw [cell_of_row _ _ _ _ _ _ h65]; rfl
              have z0 := frozen_of_row w5 g6 0 _ _ h65
              have z1 := frozen_of_row w5 g6 1 _ _ h65
              have H65 := Lib.hid h65
              clear h65 HF2 HR2 H62 hb2 hb3 hg9
              go_wp2_with fail
              go_meet
              exact ⟨t, G2, V2, _, by omega, Lib.hid ⟨HF5.out.two H65.out, two_set H65.out, HR5.out.two H65.out, H52.out⟩, (hb5.setCell (p := ⟨g6, 0, none⟩) (by exact hg6) _).setCell (p := ⟨g6, 1, none⟩) (by exact hg6) _⟩
          · by_cases h1 : d = 1
            · subst h1
              have c2' := (hb.cell (World.block_lt_of_cell? w _ HC2.out)).trans HC2.out
              go_wp2_with fail
              refine (drain_any HPS.out.fifo n).mono ?_
              rintro e w2 ⟨va, V2, rfl, ia, f2, m2⟩
              have hf := HPS.out.fifo
              have HR2 := Lib.hid (HPS.out.row.moved hf m2)
              have H62 := Lib.hid (moved_box HPS.out.box hf m2)
              have hb2 := hb.trans m2.below
              have H5 := Lib.hid HPS.out.five
              have HF2 := Lib.hid f2
              have HIA := Lib.hid ia
              obtain ⟨L, hL⟩ : ∃ L, (drainF n.toNat ⟨qOf G, t⟩).2 = L := ⟨_, rfl⟩
              rw [hL] at HIA
              have HL := Lib.hid hL
              obtain ⟨aA, caA, hva, _, _⟩ := HIA.out.form
              subst hva
              clear f2 m2 hf ia hL HPS hb c2'
              go_upto_region 19 with (fail)
              go_cut [12, 13] (fun p12 p13 wx => ∃ g12 v2 u t2 G2 w5, u = p13 ∧ w5 = wx ∧ p12 = .pointer (some ⟨g12, 0, none⟩) ∧ Hid (w5.heap[g12]? = some (.cells #[v2, .int .i64 ((t2 : Nat) : Int)] 41 (0, 0))) ∧ Hid ((drainF n.toNat ⟨qOf G, t⟩).1 = ⟨qOf G2, t2⟩) ∧ Hid (GRow w5 w.heap.size v2 G2) ∧ Hid (G2.Sublist G) ∧ Hid (GRow w5 w.heap.size u L) ∧ L.length ≤ 1000 ∧ w2.heap.size ≤ g12 ∧ Below w2.heap.size w2 w5)
              case first =>
                have k2 := (hb2.cell (World.block_lt_of_cell? w _ HC2.out)).trans HC2.out
                have hab : ab < w2.heap.size := Nat.lt_of_lt_of_le (World.block_lt_of_cell? w _ HC2.out) hb2.size
                have x0 : w2.cell? ⟨g6, 0, none⟩ = some v := by rw [cell_of_row _ _ _ _ _ _ H62.out]; rfl
                have x1 : w2.cell? ⟨g6, 1, none⟩ = some (.int .i64 (t : Int)) := by rw [cell_of_row _ _ _ _ _ _ H62.out]; rfl
                have h6lt := lt_of_block H62.out
                have HMd : Hid (GRow w2.drew w.heap.size v G) := Lib.hid HR2.out.draws
                have HMa : Hid (GRow ((w2.alloc (.cells #[.slice none 0 0, .int .i64 0] 41)).drew) w.heap.size v G) := Lib.hid (HR2.out.below (below_box _ _)).draws
                have hB1 : w.heap.size ≤ w2.drew.heap.size := hb2.size
                have hB2 : w.heap.size ≤ ((w2.alloc (.cells #[.slice none 0 0, .int .i64 0] 41)).drew).heap.size := by simp; exact Nat.le_succ_of_le hb2.size
                have HB1 := Lib.hid hB1
                have HB2 := Lib.hid hB2
                clear hB1 hB2
                go_region_with (first
                  | (go_at_call 14; (with_reducible refine (refDrain_for v n HMd.out HG1.out HT5.out HB1.out L HL.out).mono ?_); rintro e w3 ⟨v2, u, t2, G2, rfl, q0, q1, q2, q3, q4, b3⟩; obtain ⟨a1, cc1, hv1, _, _⟩ := q1.form; subst hv1; have Q0 := Lib.hid q0; have Q1 := Lib.hid q1; have Q2 := Lib.hid q2; have Q3 := Lib.hid q3; have Q4 := Lib.hid q4; have B3 := Lib.hid b3; clear q0 q1 q2 q3 q4 b3)
                  | (go_at_call 14; (with_reducible refine (refDrain_for v n HMa.out HG1.out HT5.out HB2.out L HL.out).mono ?_); rintro e w3 ⟨v2, u, t2, G2, rfl, q0, q1, q2, q3, q4, b3⟩; obtain ⟨a1, cc1, hv1, _, _⟩ := q1.form; subst hv1; have Q0 := Lib.hid q0; have Q1 := Lib.hid q1; have Q2 := Lib.hid q2; have Q3 := Lib.hid q3; have Q4 := Lib.hid q4; have B3 := Lib.hid b3; have zz := (b3.block w2.heap.size (by simp)).trans (heap_alloc_last w2 _); have z0 : w3.cell? ⟨w2.heap.size, 0, none⟩ = some (.slice none 0 0) := (by rw [cell_of_row _ _ _ _ _ _ zz]; rfl); have z1 : w3.cell? ⟨w2.heap.size, 1, none⟩ = some (.int .i64 0) := (by rw [cell_of_row _ _ _ _ _ _ zz]; rfl); have zf0 := frozen_of_row w3 w2.heap.size 0 _ _ zz; have zf1 := frozen_of_row w3 w2.heap.size 1 _ _ zz; have ZZ := Lib.hid zz; clear q0 q1 q2 q3 q4 b3 zz))
                all_goals
                  go_wp2_with fail
                  go_meet
                  first
                    | exact ⟨_, _, _, _, G2, _, rfl, rfl, rfl, Lib.hid (heap_alloc_last w3 _), Q0, Lib.hid (Q1.out.below (below_box w3 _)), Q2, Lib.hid (Q3.out.below (below_box w3 _)), Nat.le_trans Q4.out HG1.out, (meetA B3.out).size, (meetA B3.out).alloc (meetA B3.out).size _⟩
                    | exact ⟨w2.heap.size, _, _, _, G2, _, rfl, rfl, rfl, Lib.hid (two_set ZZ.out), Q0, Lib.hid (Q1.out.two ZZ.out), Q2, Lib.hid (Q3.out.two ZZ.out), Nat.le_trans Q4.out HG1.out, Nat.le_refl _, ((meetB B3.out).setCell (by exact Nat.le_refl _) _).setCell (by exact Nat.le_refl _) _⟩
              case rest =>
                obtain ⟨g12, v2, u, t2, G2, w5, rfl, rfl, rfl, H12, HD, HR5, HS, HU, hLl, hg12, hb3⟩ := hcut
                have hb5 := hb2.trans (hb3.mono hb2.size)
                have h65 := (hb3.block g6 (lt_of_block H62.out)).trans H62.out
                have hf5 := HF2.out.below hb3
                rw [HD.out] at hf5
                have HF5 := Lib.hid hf5
                have HIA5 := Lib.hid (HIA.out.under hb3)
                obtain ⟨a1, cc1, hv1, _, _⟩ := HR5.out.form
                subst hv1
                have x0 : w5.cell? ⟨g12, 0, none⟩ = some (.slice a1 G2.length cc1) := by rw [cell_of_row _ _ _ _ _ _ H12.out]; rfl
                have x1 : w5.cell? ⟨g12, 1, none⟩ = some (.int .i64 (t2 : Int)) := by rw [cell_of_row _ _ _ _ _ _ H12.out]; rfl
                have y0 : w5.cell? ⟨g6, 0, none⟩ = some v := by rw [cell_of_row _ _ _ _ _ _ h65]; rfl
                have y1 : w5.cell? ⟨g6, 1, none⟩ = some (.int .i64 (t : Int)) := by rw [cell_of_row _ _ _ _ _ _ h65]; rfl
                have z0 := frozen_of_row w5 g6 0 _ _ h65
                have z1 := frozen_of_row w5 g6 1 _ _ h65
                have H65 := Lib.hid h65
                have H52 : Hid (∀ x ∈ G2, x.q < 5) := Lib.hid fun x hx => H5.out x (HS.out.subset hx)
                have hG2l := HS.out.length_le
                clear h65 HF2 HR2 H62 hb2 hb3 hg12 hf5 HIA
                go_upto_region 21 with (fail)
                have hps : PS w.heap.size ((w5.setCell ⟨g6, 0, none⟩ (.slice a1 G2.length cc1)).setCell ⟨g6, 1, none⟩ (.int .i64 (t2 : Int))) g g6 V2 (.slice a1 G2.length cc1) G2 t2 := ⟨HF5.out.two H65.out, two_set H65.out, HR5.out.two H65.out, H52.out⟩
                have hu6 := HU.out.two (v0 := .slice a1 G2.length cc1) (v1 := .int .i64 (t2 : Int)) H65.out
                have hi6 := HIA5.out.two (v0 := .slice a1 G2.length cc1) (v1 := .int .i64 (t2 : Int)) H65.out
                have hb6 := (hb5.setCell (p := ⟨g6, 0, none⟩) (by exact hg6) (.slice a1 G2.length cc1)).setCell (p := ⟨g6, 1, none⟩) (by exact hg6) (.int .i64 (t2 : Int))
                clear x0 x1 y0 y1 z0 z1 H65 HF5 HR5 HU HIA5 hb5 H12
                generalize (w5.setCell ⟨g6, 0, none⟩ (.slice a1 G2.length cc1)).setCell ⟨g6, 1, none⟩ (.int .i64 (t2 : Int)) = W6 at hps hu6 hi6 hb6 ⊢
                have HPS6 := Lib.hid hps
                have HU6 := Lib.hid hu6
                have HI6 := Lib.hid hi6
                clear hps hu6 hi6
                go_wp2_with fail
                with_reducible refine (same_any _ _ _ _ L _ HI6.out HU6.out (by omega)).mono ?_
                rintro e w7 ⟨rfl, b7⟩
                have HP7 := Lib.hid (HPS6.out.below b7)
                have hb7 := hb6.trans (b7.mono hb6.size)
                clear HPS6 HU6 HI6 b7 hb6
                go_wp2_with fail
                go_meet
                exact ⟨t2, G2, V2, _, by omega, HP7, hb7⟩
            · by_cases h2 : d = 2
              · subst h2
                go_wp2_with fail
                refine (drop_any HPS.out.fifo).mono ?_
                rintro e w2 ⟨va, V2, rfl, ia, f2, m2⟩
                have hf := HPS.out.fifo
                have HR2 := Lib.hid (HPS.out.row.moved hf m2)
                have h62 := moved_box HPS.out.box hf m2
                have hb2 := hb.trans m2.below
                rw [gone_qOf HPS.out.five] at f2
                have HF2 := Lib.hid f2
                have HIA := Lib.hid ia
                obtain ⟨aA, caA, hva, _, _⟩ := HIA.out.form
                subst hva
                have x0 : w2.cell? ⟨g6, 0, none⟩ = some v := by rw [cell_of_row _ _ _ _ _ _ h62]; rfl
                have x1 : w2.cell? ⟨g6, 1, none⟩ = some (.int .i64 (t : Int)) := by rw [cell_of_row _ _ _ _ _ _ h62]; rfl
                have H62 := Lib.hid h62
                clear f2 m2 hf ia HPS hb h62
                go_wp2_with fail
                with_reducible refine (refDrop_any w.heap.size v G (t : Int) w2 HR2.out HG1.out).mono ?_
                rintro e w3 ⟨u, rfl, hu, b3⟩
                have hb3 := hb2.trans (b3.mono hb2.size)
                have HU := Lib.hid (hu.mono hb2.size)
                have h63 := (b3.block g6 (lt_of_block H62.out)).trans H62.out
                have HF3 := Lib.hid (HF2.out.below b3)
                have HI3 := Lib.hid (HIA.out.under b3)
                have h6lt := lt_of_block h63
                have H63 := Lib.hid h63
                clear hu b3 HF2 HIA H62 HR2 hb2 x0 x1 h63
                go_upto_region 26 with (fail)
                have h15 := heap_alloc_last w3 (.cells #[.slice none 0 0, .int .i64 (t : Int)] 41)
                have hbx := below_box w3 (.cells #[.slice none 0 0, .int .i64 (t : Int)] 41)
                have HF4 := Lib.hid (HF3.out.below hbx)
                have HI4 := Lib.hid (HI3.out.under hbx)
                have HU4 := Lib.hid (HU.out.below hbx)
                have h64 := (hbx.block g6 h6lt).trans H63.out
                have hb4 := hb3.trans (hbx.mono hb3.size)
                clear hbx HF3 HI3 HU H63 hb3 h6lt
                generalize w3.alloc (.cells #[.slice none 0 0, .int .i64 (t : Int)] 41) = W4 at h15 HF4 HI4 HU4 h64 hb4 ⊢
                generalize w3.heap.size = g15 at h15 ⊢
                have x0 : W4.cell? ⟨g15, 0, none⟩ = some (.slice none 0 0) := by rw [cell_of_row _ _ _ _ _ _ h15]; rfl
                have x1 : W4.cell? ⟨g15, 1, none⟩ = some (.int .i64 (t : Int)) := by rw [cell_of_row _ _ _ _ _ _ h15]; rfl
                have y0 : W4.cell? ⟨g6, 0, none⟩ = some v := by rw [cell_of_row _ _ _ _ _ _ h64]; rfl
                have y1 : W4.cell? ⟨g6, 1, none⟩ = some (.int .i64 (t : Int)) := by rw [cell_of_row _ _ _ _ _ _ h64]; rfl
                have z0 := frozen_of_row W4 g6 0 _ _ h64
                have z1 := frozen_of_row W4 g6 1 _ _ h64
                have H64 := Lib.hid h64
                clear h64 h15
                go_upto_region 27 with (fail)
                have hps : PS w.heap.size ((W4.setCell ⟨g6, 0, none⟩ (.slice none 0 0)).setCell ⟨g6, 1, none⟩ (.int .i64 (t : Int))) g g6 V2 (.slice none 0 0) [] t := ⟨HF4.out.two H64.out, two_set H64.out, GRow.nil _ _, fun x hx => by cases hx⟩
                have hu6 := HU4.out.two (v0 := .slice none 0 0) (v1 := .int .i64 (t : Int)) H64.out
                have hi6 := HI4.out.two (v0 := .slice none 0 0) (v1 := .int .i64 (t : Int)) H64.out
                have hb6 := (hb4.setCell (p := ⟨g6, 0, none⟩) (by exact hg6) (.slice none 0 0)).setCell (p := ⟨g6, 1, none⟩) (by exact hg6) (.int .i64 (t : Int))
                clear x0 x1 y0 y1 z0 z1 H64 HF4 HU4 HI4 hb4
                generalize (W4.setCell ⟨g6, 0, none⟩ (.slice none 0 0)).setCell ⟨g6, 1, none⟩ (.int .i64 (t : Int)) = W6 at hps hu6 hi6 hb6 ⊢
                have HPS6 := Lib.hid hps
                have HU6 := Lib.hid hu6
                have HI6 := Lib.hid hi6
                have hdl := dropL_le G 5
                have hdl2 : (dropL (qOf G) 5).length ≤ 5000 := by have := HG1.out; omega
                obtain ⟨L, hL⟩ : ∃ L, dropL (qOf G) 5 = L := ⟨_, rfl⟩
                rw [hL] at HU6 HI6 hdl2 ⊢
                have HDL := Lib.hid hdl2
                clear hps hu6 hi6 hdl hdl2 hL
                go_wp2_with fail
                with_reducible refine (same_any _ _ _ _ L _ HI6.out HU6.out HDL.out).mono ?_
                rintro e w7 ⟨rfl, b7⟩
                have HP7 := Lib.hid (HPS6.out.below b7)
                have hb7 := hb6.trans (b7.mono hb6.size)
                clear HPS6 HU6 HI6 b7 hb6
                go_wp2_with fail
                go_meet
                exact ⟨t, [], V2, _, by simp, HP7, hb7⟩
              · have e0 : (((d : Nat) : Int) == 0) = false := by simp; omega
                have e1 : (((d : Nat) : Int) == 1) = false := by simp; omega
                have e2 : (((d : Nat) : Int) == 2) = false := by simp; omega
                go_wp2_with fail
                go_meet
                exact ⟨t, G, V, v, by omega, HPS, hb⟩
        case rest =>
          clear HPS hb hGk HC1 HC2 HC3 G V v t
          obtain ⟨t, G, V, v, hGk, HPS, hb⟩ := hcut
          go_wp2_with fail
          go_loopw [17] (fun i wr => ∃ j : Int, -1 ≤ j ∧ j ≤ 6 ∧ i = .int .i64 j ∧ Hid (PS w.heap.size wr g g6 V v G t) ∧ Below w.heap.size w wr) (fun i _ => (6 - intOf i).toNat)
          case atStart => exact ⟨-1, by omega, by omega, rfl, HPS, hb⟩
          case round =>
            clear HPS hb
            obtain ⟨j, hj0, hj6, rfl, HPS, hb⟩ := hrel
            have HG1 : Hid (G.length ≤ 1000) := Lib.hid (by omega)
            by_cases hj5 : j ≤ 5
            · obtain ⟨m, hm⟩ : ∃ m, many G j = m := ⟨_, rfl⟩
              have HM := Lib.hid hm
              have x0 : wr.cell? ⟨g6, 0, none⟩ = some v := by rw [cell_of_row _ _ _ _ _ _ HPS.out.box]; rfl
              have x1 : wr.cell? ⟨g6, 1, none⟩ = some (.int .i64 (t : Int)) := by rw [cell_of_row _ _ _ _ _ _ HPS.out.box]; rfl
              have HPd : Hid (PS w.heap.size wr.drew g g6 V v G t) := Lib.hid (HPS.out.below (blw_draws (Below.refl _ _) 1))
              have hbd : Below w.heap.size w wr.drew := blw_draws hb 1
              clear hm HPS hb
              go_wp2_with fail
              go_region_with (first
                | (go_at_call 18; (with_reducible refine (lens_for HPd.out.fifo HPd.out.five j m HM.out).mono ?_); rintro e wl ⟨rfl, hw⟩; rw [hw]; clear hw wl)
                | (go_at_call 19; (with_reducible refine (refLens_for v (t : Int) j HPd.out.row HG1.out m HM.out).mono ?_); rintro e w3 ⟨rfl, b3⟩; have HP3 := Lib.hid (HPd.out.below b3); have B3 := Lib.hid (hbd.trans (b3.mono hbd.size)); clear b3)
                | (go_at_call 18; (with_reducible refine (lens_for HP3.out.fifo HP3.out.five j m HM.out).mono ?_); rintro e wl ⟨rfl, hw⟩; rw [hw]; clear hw wl))
              all_goals
                go_wp2_with fail
                go_roundw
                case rel => exact ⟨j + 1, by omega, by omega, by go_num, HP3, B3.out⟩
                case measure => simp [intOf]; omega
            · obtain rfl : j = 6 := by omega
              have x1 : wr.cell? ⟨g6, 1, none⟩ = some (.int .i64 (t : Int)) := by rw [cell_of_row _ _ _ _ _ _ HPS.out.box]; rfl
              go_wp2_with fail
              go_quiet ((go_at_call 12; exact Calls.quiet_of_same (turn_for (HPS.out.fifo.draws _) (t : Int) rfl)))
              go_wp2_with fail
              go_roundw
              case rel => exact ⟨k + 1, t, G, V, v, by omega, by go_num, by omega, Lib.hid (HPS.out.below (blw_draws (Below.refl _ _) _)), blw_draws hb _⟩
              case measure => simp [intOf]; omega
      · go_wp2_with fail
        refine (awake_any _).mono ?_
        rintro e w5 ⟨rfl, hb5⟩
        go_wp2_with fail
        go_ret
        exact ⟨rfl, hb.trans (hb5.mono hb.size)⟩
end Go.Proofs.Ytacddiidldppnaa
