/- ReadsPlays: whatever is asked, begun, told and dropped, each answer, and how many there are then, are the document's. The walk. -/
import Derived.Test.YtlenmhclnmcljaaSame
import Derived.Test.YtlenmhclnmcljaaPlaysMath
import Derived.Test.YtlenmhclnmcljaaAwake
import Derived.Test.YtlenmhclnmcljaaOnceMem
import Derived.Deep.DeepCutAuto
import Derived.Deep.CutBlock
import Derived.Deep.RegionWith
import Derived.BigRegion
import Derived.RegionTactic
namespace Go.Proofs.Ytlenmhclnmcljaa
open Go.RowKit

/-- A row of another type stays behind work on a list of reads. -/
theorem own_aside {w w' : World} {base e size n : Nat} {v : Value} {xs : List Value} (h : w.ownsRow base e size v n xs) (s : Aside w w') (h1 : e ≠ 43) (h2 : e ≠ 32) : w'.ownsRow base e size v n xs :=
  ownsRow_of_heap h fun k hk => by
    obtain ⟨_, cur, hc⟩ := own_row h k hk
    rw [s k _ _ _ hc h1 h2, hc]
/-- A row stays behind a store into a block of another type. -/
theorem own_set {w : World} {base e size n : Nat} {v u : Value} {xs : List Value} {p : Addr} {C : Array Value} {t : TypeId} (h : w.ownsRow base e size v n xs) (hp : w.heap[p.block]? = some (.cells C t (0, 0))) (ht : e ≠ t) : (w.setCell p u).ownsRow base e size v n xs :=
  ownsRow_of_heap h fun k hk => by
    obtain ⟨_, cur, hc⟩ := own_row h k hk
    exact heap_setCell_other _ _ _ _ fun e2 => by subst e2; rw [hp] at hc; cases hc; exact ht rfl
theorem ReadsAt.set {B : Nat} {w : World} {g : Nat} {v u : Value} {L : List Rd} {b : Nat} (h : ReadsAt B w g v L b) {p : Addr} (h1 : p.block ≠ g) (h2 : v.ownBlock ≠ some p.block) : ReadsAt B (w.setCell p u) g v L b :=
  ⟨h.base, (heap_setCell_other _ _ _ _ (Ne.symm h1)).trans h.head, ownsRow_of_heap h.own fun k hk => heap_setCell_other _ _ _ _ fun e => h2 (by rw [hk, e]), h.le, h.fits⟩

theorem N6 {B : Nat} {w : World} {g g6 : Nat} {v : Value} {L : List Rd} {b : Nat} {C : Array Value} (h : ReadsAt B w g v L b) (h6 : w.heap[g6]? = some (.cells C 46 (0, 0))) : v.ownBlock ≠ some g6 := fun e => by
  obtain ⟨_, cur, hc⟩ := own_row h.own g6 e
  rw [h6] at hc
  cases hc
theorem meetA {w2 w3 : World} (b3 : Below w2.drew.heap.size w2.drew w3) : Below w2.heap.size w2 w3 := Below.trans (b := w2.drew) (blw_draws (Below.refl _ _) 1) b3
theorem meetB {w2 w3 : World} {o : Obj} (b3 : Below (w2.alloc o).drew.heap.size (w2.alloc o).drew w3) : Below w2.heap.size w2 w3 := Below.trans (b := (w2.alloc o).drew) (blw_draws (aside_box w2 o) 1) (b3.mono (by simp))
theorem two_set {w : World} {g : Nat} {u0 u1 v0 v1 : Value} (h : w.heap[g]? = some (.cells #[u0, u1] 46 (0, 0))) : ((w.setCell ⟨g, 0, none⟩ v0).setCell ⟨g, 1, none⟩ v1).heap[g]? = some (.cells #[v0, v1] 46 (0, 0)) :=
  heap_setCell_same _ _ _ _ _ _ (heap_setCell_same _ _ _ _ _ _ h)
theorem own_two {w : World} {g base e size n : Nat} {v v0 v1 : Value} {xs : List Value} {C : Array Value} (h : w.ownsRow base e size v n xs) (hg : w.heap[g]? = some (.cells C 46 (0, 0))) (he : e ≠ 46) : ((w.setCell ⟨g, 0, none⟩ v0).setCell ⟨g, 1, none⟩ v1).ownsRow base e size v n xs :=
  own_set (p := ⟨g, 1, none⟩) (own_set (p := ⟨g, 0, none⟩) h hg he) (heap_setCell_same _ _ _ _ _ _ hg) he
theorem said_for (B : Nat) (vB vW : Value) (M : List Rd) (I : List Nat) (d x y : Nat) (r : ROut) (w : World) (hB : RRow w B vB M) (hI : IRow w B vW I) (hM : M.length ≤ 1000) (hIl : I.length ≤ 1000) (hBw : B ≤ w.heap.size) (hr : refAct M I d x y = r) :
    Calls Try.prog 15 #[.agg #[vB, vW], .agg #[.int .u8 (d : Int), .int .u64 (x : Int), .int .u64 (y : Int)]] w (SaidTold B r w) := by
  subst hr
  exact said_any B vB vW M I d x y w hB hI hM hIl hBw

set_option maxRecDepth 100000 in
set_option maxHeartbeats 4000000 in
theorem plays_any (zero : Bool) (A : Option Addr) (cap : Nat) (l : List Act3) (w : World) (ha : ActsAt w A l) :
    Calls Try.prog 6 #[.slice A l.length cap, .bool zero] w fun e w' => e = .returned (.bool true) ∧ Below w.heap.size w w' := by
  by_cases h200 : 200 < l.length
  · go_enter Try.func6, Try.ntmps6
    go_wp2_with fail
    refine (awake_any _).mono ?_
    rintro e w2 ⟨rfl, hb2⟩
    go_wp2_with fail
    go_returns
    exact ⟨rfl, hb2⟩
  go_enter Try.func6, Try.ntmps6
  go_wp2_with fail
  refine (new_any _).mono ?_
  rintro e w1 ⟨g0, rfl, r1, b1⟩
  go_upto_if 25 with (fail)
  go_cut [5] (fun p wx => ∃ g, p = .pointer (some ⟨g, 0, none⟩) ∧ Hid (ReadsAt w.heap.size wx g (.slice none 0 0) [] 0) ∧ Below w.heap.size w wx)
  case first =>
    cases zero
    · go_wp2_with fail
      go_meet
      exact ⟨g0, rfl, Lib.hid r1, b1⟩
    · go_wp2_with fail
      go_meet
      exact ⟨w1.heap.size, rfl, Lib.hid ⟨b1.size, heap_alloc_last w1 _, World.ownsRow_nil _ _ _ _, Nat.le_refl _, fun r hr => by cases hr⟩, b1.alloc b1.size _⟩
  case rest =>
    clear r1 b1
    obtain ⟨g, rfl, HR, hb⟩ := hcut
    rename_i wc
    go_wp2_with fail
    have HR1 := Lib.hid (HR.out.below ((Below.refl _ _).alloc (Nat.le_refl _) (.cells #[.slice none 0 0, .slice none 0 0] 46)))
    have h6 : (wc.alloc (.cells #[.slice none 0 0, .slice none 0 0] 46)).heap[wc.heap.size]? = some (.cells #[.slice none 0 0, .slice none 0 0] 46) := heap_alloc_last wc _
    have hb1 := hb.alloc hb.size (.cells #[.slice none 0 0, .slice none 0 0] 46)
    have hg6 := hb.size
    have hg6g : wc.heap.size ≠ g := fun e => by have := lt_of_block HR.out.head; omega
    clear HR hb
    generalize wc.alloc (.cells #[.slice none 0 0, .slice none 0 0] 46) = W at HR1 h6 hb1 ⊢
    generalize wc.heap.size = g6 at h6 hg6 hg6g ⊢
    have H6 := Lib.hid h6
    clear h6
    go_loopw [7] (fun i wr => ∃ (k b : Nat) (L : List Rd) (v vB vW : Value), k ≤ l.length ∧ i = .int .i64 k ∧ L.length ≤ k ∧ Hid (ReadsAt w.heap.size wr g v L b) ∧ Hid (wr.heap[g6]? = some (.cells #[vB, vW] 46 (0, 0))) ∧ Hid (RRow wr w.heap.size vB (L.take b)) ∧ Hid (IRow wr w.heap.size vW ((L.drop b).map Rd.id)) ∧ Hid (Srt (L.take b)) ∧ Below w.heap.size w wr) (fun i _ => l.length - (intOf i).toNat)
    case atStart => exact ⟨0, 0, [], _, _, _, Nat.zero_le _, rfl, Nat.le_refl _, HR1, H6, Lib.hid (RRow.nil _ _), Lib.hid (IRow.nil _ _), Lib.hid List.Pairwise.nil, hb1⟩
    case round =>
      clear HR1 H6 hb1
      obtain ⟨k, b, L, v, vB, vW, hk, rfl, hLk, HR, H6, HM, HI, HS, hb⟩ := hrel
      by_cases hlt : k < l.length
      · obtain ⟨ab, off, rfl, c0, c1, c2, hd, hx, hy⟩ := ha k hlt
        obtain ⟨act, hact⟩ : ∃ act, l[k] = act := ⟨_, rfl⟩
        rw [hact] at c0 c1 c2 hd hx hy
        clear hact
        obtain ⟨d, x, y⟩ := act
        simp only at c0 c1 c2 hd hx hy
        have HC := Lib.hid (And.intro c0 (And.intro c1 c2))
        have c0' := (hb.cell (World.block_lt_of_cell? w _ c0)).trans c0
        have c1' := (hb.cell (World.block_lt_of_cell? w _ c1)).trans c1
        have c2' := (hb.cell (World.block_lt_of_cell? w _ c2)).trans c2
        clear c0 c1 c2
        have hlen := act_length L b d x y
        have hag := act_agree L b d x y HR.out.le HS.out
        obtain ⟨o, ho⟩ : ∃ o, actL L b d x y = o := ⟨_, rfl⟩
        obtain ⟨r, hr⟩ : ∃ r, refAct (L.take b) ((L.drop b).map Rd.id) d x y = r := ⟨_, rfl⟩
        rw [ho] at hlen hag
        rw [hr] at hag
        have HO := Lib.hid ho
        have HRR := Lib.hid hr
        have HAG := Lib.hid hag
        have hXl : o.X.length ≤ 1000 := by
          rw [← ho]; unfold actL; split
          · split <;> simp
          · split
            · simp
            · split
              · simp; omega
              · split <;> simp
        have hYl : o.Y.length ≤ 1000 := by
          rw [← ho]; unfold actL; split
          · split <;> simp
          · split
            · simp
            · split
              · simp
              · split <;> simp; omega
        clear ho hr hag
        go_wp2_with fail
        refine (does_any _ g v L b d x y _ HR.out (by omega) hx hy).mono ?_
        rintro e w2 ⟨v', vx, vy, rfl, r2, ox, iy, hdis, b2, s2⟩
        rw [HO.out] at r2 ox iy ⊢
        have hb2 := hb.trans b2
        have hsz2 := b2.size
        have HR2 := Lib.hid r2
        have HX := Lib.hid (World.ownsRow.mono ox hb.size)
        have HY := Lib.hid (World.ownsRow.mono iy hb.size)
        have HDIS := Lib.hid hdis
        have h62 := (s2 g6 _ _ _ H6.out (by decide) (by decide))
        have HM2 : Hid (RRow w2 w.heap.size vB (L.take b)) := Lib.hid (own_aside HM.out s2 (by decide) (by decide))
        have HI2 : Hid (IRow w2 w.heap.size vW ((L.drop b).map Rd.id)) := Lib.hid (own_aside HI.out s2 (by decide) (by decide))
        clear HR H6 HM HI hb r2 ox iy hdis b2 s2 c0' c1' c2' HO
        go_upto_region 11 with (fail)
        go_cut [12, 13, 14, 15, 16] (fun p12 p13 p14 p15 p16 wx => ∃ g12 v1 v2 vx2 vy2 w5, vx2 = p15 ∧ vy2 = p16 ∧ w5 = wx ∧ p12 = .pointer (some ⟨g12, 0, none⟩) ∧ Hid (w5.heap[g12]? = some (.cells #[v1, v2] 46 (0, 0))) ∧ p13 = .bool r.a ∧ p14 = .int .i64 (r.n : Int) ∧ Hid (RRow w5 w.heap.size v1 r.M) ∧ Hid (IRow w5 w.heap.size v2 r.I) ∧ Hid (RRow w5 w.heap.size vx2 r.X) ∧ Hid (IRow w5 w.heap.size vy2 r.Y) ∧ w2.heap.size ≤ g12 ∧ Below w2.heap.size w2 w5)
        case first =>
          have k0 := (hb2.cell (World.block_lt_of_cell? w _ HC.out.1)).trans HC.out.1
          have k1 := (hb2.cell (World.block_lt_of_cell? w _ HC.out.2.1)).trans HC.out.2.1
          have k2 := (hb2.cell (World.block_lt_of_cell? w _ HC.out.2.2)).trans HC.out.2.2
          have hab : ab < w2.heap.size := Nat.lt_of_lt_of_le (World.block_lt_of_cell? w _ HC.out.1) hb2.size
          have x0 : w2.cell? ⟨g6, 0, none⟩ = some vB := by rw [cell_of_row _ _ _ _ _ _ h62]; rfl
          have x1 : w2.cell? ⟨g6, 1, none⟩ = some vW := by rw [cell_of_row _ _ _ _ _ _ h62]; rfl
          have h6lt := lt_of_block h62
          have i1 : (0 : Int) ≤ (k : Int) := by omega
          have i2 : (k : Int) < (l.length : Int) := by omega
          have HMd : Hid (RRow w2.drew w.heap.size vB (L.take b)) := HM2
          have HId : Hid (IRow w2.drew w.heap.size vW ((L.drop b).map Rd.id)) := HI2
          have HMa : Hid (RRow ((w2.alloc (.cells #[.slice none 0 0, .slice none 0 0] 46)).drew) w.heap.size vB (L.take b)) := Lib.hid (HM2.out.below (blw_draws ((Below.refl _ _).alloc (Nat.le_refl _) _) 1))
          have HIa : Hid (IRow ((w2.alloc (.cells #[.slice none 0 0, .slice none 0 0] 46)).drew) w.heap.size vW ((L.drop b).map Rd.id)) := Lib.hid (HI2.out.below (blw_draws ((Below.refl _ _).alloc (Nat.le_refl _) _) 1))
          have hl1 : (L.take b).length ≤ 1000 := by rw [List.length_take]; omega
          have hl2 : ((L.drop b).map Rd.id).length ≤ 1000 := by rw [List.length_map, List.length_drop]; omega
          have hB1 : w.heap.size ≤ w2.drew.heap.size := hb2.size
          have hB2 : w.heap.size ≤ ((w2.alloc (.cells #[.slice none 0 0, .slice none 0 0] 46)).drew).heap.size := by simp; exact Nat.le_succ_of_le hb2.size
          have HL1 := Lib.hid hl1
          have HL2 := Lib.hid hl2
          have HB1 := Lib.hid hB1
          have HB2 := Lib.hid hB2
          have H62 := Lib.hid h62
          clear hl1 hl2 hB1 hB2 h62
          go_region_with (first
            | (go_at_call 15; (with_reducible refine (said_for w.heap.size vB vW (L.take b) ((L.drop b).map Rd.id) d x y r _ HMd.out HId.out HL1.out HL2.out HB1.out HRR.out).mono ?_); rintro e w3 ⟨v1, v2, vx2, vy2, rfl, q1, q2, q3, q4, b3⟩; obtain ⟨a1, cc1, hv1, _, _⟩ := q1.form; subst hv1; obtain ⟨a2, cc2, hv2, _, _⟩ := q2.form; subst hv2; have Q1 := Lib.hid q1; have Q2 := Lib.hid q2; have Q3 := Lib.hid q3; have Q4 := Lib.hid q4; have B3 := Lib.hid b3; clear q1 q2 q3 q4 b3)
            | (go_at_call 15; (with_reducible refine (said_for w.heap.size vB vW (L.take b) ((L.drop b).map Rd.id) d x y r _ HMa.out HIa.out HL1.out HL2.out HB2.out HRR.out).mono ?_); rintro e w3 ⟨v1, v2, vx2, vy2, rfl, q1, q2, q3, q4, b3⟩; obtain ⟨a1, cc1, hv1, _, _⟩ := q1.form; subst hv1; obtain ⟨a2, cc2, hv2, _, _⟩ := q2.form; subst hv2; have Q1 := Lib.hid q1; have Q2 := Lib.hid q2; have Q3 := Lib.hid q3; have Q4 := Lib.hid q4; have B3 := Lib.hid b3; have zz := (b3.block w2.heap.size (by simp)).trans (heap_alloc_last w2 _); have z0 : w3.cell? ⟨w2.heap.size, 0, none⟩ = some (.slice none 0 0) := (by rw [cell_of_row _ _ _ _ _ _ zz]; rfl); have z1 : w3.cell? ⟨w2.heap.size, 1, none⟩ = some (.slice none 0 0) := (by rw [cell_of_row _ _ _ _ _ _ zz]; rfl); have zf0 := frozen_of_row w3 w2.heap.size 0 _ _ zz; have zf1 := frozen_of_row w3 w2.heap.size 1 _ _ zz; have ZZ := Lib.hid zz; clear q1 q2 q3 q4 b3 zz))
          all_goals
            go_wp2_with fail
            go_meet
            first
              | exact ⟨_, _, _, _, _, _, rfl, rfl, rfl, rfl, Lib.hid (heap_alloc_last w3 _), rfl, rfl, Lib.hid (Q1.out.below (aside_box w3 _)), Lib.hid (Q2.out.below (aside_box w3 _)), Lib.hid (Q3.out.below (aside_box w3 _)), Lib.hid (Q4.out.below (aside_box w3 _)), (meetA B3.out).size, (meetA B3.out).alloc (meetA B3.out).size _⟩
              | exact ⟨w2.heap.size, _, _, _, _, _, rfl, rfl, rfl, rfl, Lib.hid (two_set ZZ.out), rfl, rfl, Lib.hid (own_two Q1.out ZZ.out (by decide)), Lib.hid (own_two Q2.out ZZ.out (by decide)), Lib.hid (own_two Q3.out ZZ.out (by decide)), Lib.hid (own_two Q4.out ZZ.out (by decide)), Nat.le_refl _, ((meetB B3.out).setCell (by exact Nat.le_refl _) _).setCell (by exact Nat.le_refl _) _⟩
        case rest =>
          obtain ⟨g12, v1, v2, vx2, vy2, w5, rfl, rfl, rfl, rfl, H12, rfl, rfl, Q1, Q2, Q3, Q4, hg12, hb3⟩ := hcut
          have hb5 := hb2.trans (hb3.mono hb2.size)
          have h65 := (hb3.block g6 (lt_of_block h62)).trans h62
          have HR5 := Lib.hid (HR2.out.below hb3)
          have HX5 := Lib.hid (own_below HX.out hb3)
          have HY5 := Lib.hid (IRow.below HY.out hb3)
          have hne : g12 ≠ g6 := fun e => by have := lt_of_block h62; omega
          clear HR2 HX HY HM2 HI2 hb2 hb3 h62 hg12
          rw [HAG.out.a, HAG.out.n]
          rw [HAG.out.M] at Q1
          rw [HAG.out.I] at Q2
          rw [HAG.out.X] at Q3
          rw [HAG.out.Y] at Q4
          have hole := HAG.out.le
          obtain ⟨a1, cc1, hv1, _, _⟩ := Q1.out.form
          obtain ⟨a2, cc2, hv2, _, _⟩ := Q2.out.form
          have hlen1 : (o.L.take o.b).length = o.b := by rw [List.length_take]; omega
          have hlen2 : ((o.L.drop o.b).map Rd.id).length = o.L.length - o.b := by rw [List.length_map, List.length_drop]
          rw [hlen1] at hv1
          rw [hlen2] at hv2
          subst hv1 hv2
          have x0 : w5.cell? ⟨g12, 0, none⟩ = some (.slice a1 o.b cc1) := by rw [cell_of_row _ _ _ _ _ _ H12.out]; rfl
          have x1 : w5.cell? ⟨g12, 1, none⟩ = some (.slice a2 (o.L.length - o.b) cc2) := by rw [cell_of_row _ _ _ _ _ _ H12.out]; rfl
          have y0 : w5.cell? ⟨g6, 0, none⟩ = some vB := by rw [cell_of_row _ _ _ _ _ _ h65]; rfl
          have y1 : w5.cell? ⟨g6, 1, none⟩ = some vW := by rw [cell_of_row _ _ _ _ _ _ h65]; rfl
          have z0 := frozen_of_row w5 g6 0 _ _ h65
          have z1 := frozen_of_row w5 g6 1 _ _ h65
          have H65 := Lib.hid h65
          clear h65 hlen1 hlen2
          go_upto_region 13 with (fail)
          have h66 := two_set (v0 := .slice a1 o.b cc1) (v1 := .slice a2 (o.L.length - o.b) cc2) H65.out
          have r6 := (HR5.out.set (p := ⟨g6, 0, none⟩) (u := .slice a1 o.b cc1) hg6g (N6 HR5.out H65.out)).set (p := ⟨g6, 1, none⟩) (u := .slice a2 (o.L.length - o.b) cc2) hg6g (N6 HR5.out H65.out)
          have q1 := own_two (v0 := .slice a1 o.b cc1) (v1 := .slice a2 (o.L.length - o.b) cc2) Q1.out H65.out (by decide)
          have q2 := own_two (v0 := .slice a1 o.b cc1) (v1 := .slice a2 (o.L.length - o.b) cc2) Q2.out H65.out (by decide)
          have q3 := own_two (v0 := .slice a1 o.b cc1) (v1 := .slice a2 (o.L.length - o.b) cc2) Q3.out H65.out (by decide)
          have q4 := own_two (v0 := .slice a1 o.b cc1) (v1 := .slice a2 (o.L.length - o.b) cc2) Q4.out H65.out (by decide)
          have q5 := own_two (v0 := .slice a1 o.b cc1) (v1 := .slice a2 (o.L.length - o.b) cc2) HX5.out H65.out (by decide)
          have q6 := own_two (v0 := .slice a1 o.b cc1) (v1 := .slice a2 (o.L.length - o.b) cc2) HY5.out H65.out (by decide)
          have hb6 := (hb5.setCell (p := ⟨g6, 0, none⟩) (by exact hg6) (.slice a1 o.b cc1)).setCell (p := ⟨g6, 1, none⟩) (by exact hg6) (.slice a2 (o.L.length - o.b) cc2)
          generalize (w5.setCell ⟨g6, 0, none⟩ (.slice a1 o.b cc1)).setCell ⟨g6, 1, none⟩ (.slice a2 (o.L.length - o.b) cc2) = W6 at h66 r6 q1 q2 q3 q4 q5 q6 hb6 ⊢
          have HR6 := Lib.hid r6
          have R1 := Lib.hid q1
          have R2 := Lib.hid q2
          have R3 := Lib.hid q3
          have R4 := Lib.hid q4
          have R5 := Lib.hid q5
          have R6 := Lib.hid q6
          have H66 := Lib.hid h66
          clear r6 q1 q2 q3 q4 q5 q6 h66 Q1 Q2 Q3 Q4 HX5 HY5 HR5 H65 H12 hb5 x0 x1 y0 y1 z0 z1
          go_wp2_with fail
          refine (len_any _ g v' o.L o.b _ HR6.out (by omega)).mono ?_
          rintro e w7 ⟨rfl, nq, hw7⟩
          have hbq : Below W6.heap.size W6 w7 := by rw [hw7]; exact blw_draws (Below.refl _ _) nq
          have HR7 := Lib.hid (HR6.out.below hbq)
          have S1 := Lib.hid (own_below R1.out hbq)
          have S2 := Lib.hid (own_below R2.out hbq)
          have S3 := Lib.hid (own_below R3.out hbq)
          have S4 := Lib.hid (own_below R4.out hbq)
          have S5 := Lib.hid (own_below R5.out hbq)
          have S6 := Lib.hid (own_below R6.out hbq)
          have h67 := (hbq.block g6 (lt_of_block H66.out)).trans H66.out
          have hb7 := hb6.trans (hbq.mono hb6.size)
          have H67 := Lib.hid h67
          clear HR6 R1 R2 R3 R4 R5 R6 H66 hb6 hbq hw7 h67
          obtain ⟨c, hc⟩ : ∃ c, o.L.length - o.b = c := ⟨_, rfl⟩
          rw [hc] at H67 ⊢
          have HC2 := Lib.hid hc
          clear hc
          go_wp2_with fail
          refine (same_any _ _ _ _ vx vx2 vy vy2 o.X o.Y _ S5.out S3.out S6.out S4.out hXl (by omega)).mono ?_
          rintro e w8 ⟨rfl, b8⟩
          have HR8 := Lib.hid (HR7.out.below b8)
          have T1 := Lib.hid (own_below S1.out b8)
          have T2 := Lib.hid (own_below S2.out b8)
          have T5 := Lib.hid (own_below S5.out b8)
          have h68 := (b8.block g6 (lt_of_block H67.out)).trans H67.out
          have hb8 := hb7.trans (b8.mono hb7.size)
          have x0 : w8.cell? ⟨g6, 0, none⟩ = some (.slice a1 o.b cc1) := by rw [cell_of_row _ _ _ _ _ _ h68]; rfl
          have x1 : w8.cell? ⟨g6, 1, none⟩ = some (.slice a2 c cc2) := by rw [cell_of_row _ _ _ _ _ _ h68]; rfl
          have H68 := Lib.hid h68
          clear HR7 S1 S2 S3 S4 S5 S6 H67 hb7 b8 h68
          go_wp2_with fail
          obtain ⟨ax, ccx, hvx, _, _⟩ := own_form T5.out
          subst hvx
          go_loopw [19] (fun i wq => ∃ (j : Nat) (xs : List Value), j ≤ o.X.length ∧ i = .int .i64 j ∧ Hid (wq.ownsRow w.heap.size 32 3 (.slice ax o.X.length ccx) o.X.length xs) ∧ Hid (ReadsAt w.heap.size wq g v' o.L o.b) ∧ Hid (wq.heap[g6]? = some (.cells #[.slice a1 o.b cc1, .slice a2 c cc2] 46 (0, 0))) ∧ Hid (RRow wq w.heap.size (.slice a1 o.b cc1) (o.L.take o.b)) ∧ Hid (IRow wq w.heap.size (.slice a2 c cc2) ((o.L.drop o.b).map Rd.id)) ∧ Below w.heap.size w wq) (fun i _ => o.X.length - (intOf i).toNat)
          case atStart => exact ⟨0, _, Nat.zero_le _, rfl, T5, HR8, H68, T1, (by rw [← HC2.out]; exact T2), hb8⟩
          case round =>
            clear T5 HR8 H68 T1 T2 hb8 x0 x1
            obtain ⟨j, xs, hj, rfl, U1, U2, U3, U4, U5, hb9⟩ := hrel
            by_cases hjl : j < o.X.length
            · obtain ⟨gx, ccx2, hvx, hgx, hgx2⟩ := U1.out.form (by omega)
              cases hvx
              have hdx := HDIS.out gx rfl
              obtain ⟨cur, hcur⟩ := (own_row U1.out gx rfl).2
              have hxl : xs.length = o.X.length * 3 := U1.out.1
              have hcx := U1.out.cellAt (j * 3) (by omega)
              rw [List.getElem?_eq_getElem (by omega)] at hcx
              obtain ⟨uu, huu⟩ : ∃ u, xs[j * 3]'(by omega) = u := ⟨_, rfl⟩
              rw [huu] at hcx
              have hfx := U1.out.frozenAt (j * 3)
              have hgxg : gx ≠ g := fun e => by subst e; rw [U2.out.head] at hcur; cases hcur
              have hgx6 : gx ≠ g6 := fun e => by subst e; rw [U3.out] at hcur; cases hcur
              have HCUR := Lib.hid hcur
              have j1 : (0 : Int) ≤ (j : Int) := by omega
              have j2 : (j : Int) < (o.X.length : Int) := by omega
              clear huu hcur hxl
              go_wp2_with fail
              go_roundw
              case rel =>
                exact ⟨j + 1, _, by omega, by go_num, Lib.hid (U1.out.stored (j * 3) (.int .u64 99)).1, Lib.hid (U2.out.set (p := ⟨gx, j * 3, none⟩) hgxg hdx), Lib.hid ((heap_setCell_other _ _ _ _ (Ne.symm hgx6)).trans U3.out), Lib.hid (own_set (p := ⟨gx, j * 3, none⟩) U4.out HCUR.out (by decide)), Lib.hid (own_set (p := ⟨gx, j * 3, none⟩) U5.out HCUR.out (by decide)), hb9.setCell (by exact hgx) _⟩
              case measure => simp [intOf]; omega
            · go_wp2_with fail
              go_roundw
              case rel => exact ⟨k + 1, o.b, o.L, v', _, _, by omega, by go_num, by omega, U2, U3, U4, U5, Lib.hid HAG.out.srt, hb9⟩
              case measure => simp [intOf]; omega
      · go_wp2_with fail
        refine (awake_any _).mono ?_
        rintro e w5 ⟨rfl, hb5⟩
        go_wp2_with fail
        go_returns
        exact ⟨rfl, hb.trans (hb5.mono hb.size)⟩
end Go.Proofs.Ytlenmhclnmcljaa
