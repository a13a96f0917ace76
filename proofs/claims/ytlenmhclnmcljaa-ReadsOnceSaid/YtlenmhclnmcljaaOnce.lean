/- ReadsOnce: each read that was asked is told once, or dropped once, or there still, in its order, with at least the index and the round of its Begin. The walk and the proved row; no condition. -/
import Derived.Test.YtlenmhclnmcljaaRows
import Derived.Test.YtlenmhclnmcljaaAwake
import Derived.Test.YtlenmhclnmcljaaOnceMem
import Derived.ProofKit
import Derived.OpenShut
import Derived.Deep.DeepCutAuto
import Derived.Deep.CutBlock
import Derived.StillTailTactics
namespace Go.Proofs.Ytlenmhclnmcljaa
open Go.ChangeShapes Go.WideShapes Go.ChangeAt Go.RowKit

set_option maxRecDepth 100000 in
set_option maxHeartbeats 2000000 in
theorem once_any (A : Option Addr) (cap : Nat) (l : List Act3) (w : World) (ha : ActsAt w A l) :
    Calls Try.prog 4 #[.slice A l.length cap] w fun e w' => e = .returned (.bool true) ∧ Below w.heap.size w w' := by
  by_cases h200 : 200 < l.length
  · go_enter Try.func4, Try.ntmps4
    go_wp2_with fail
    refine (awake_any _).mono ?_
    rintro e w2 ⟨rfl, hb2⟩
    go_wp2_with fail
    go_ret
    exact ⟨rfl, hb2⟩
  · have hz : ∀ w, (zeroValue 37).run Try.prog w = .ok (.agg (Array.replicate 201 (.int .u64 0))) w := fun _ => by kernel_rfl
    obtain ⟨cs, hcs⟩ : ∃ cs : Array Value, Array.replicate 201 (Value.int .u64 0) = cs := ⟨_, rfl⟩
    rw [hcs] at hz
    have HCS := Lib.hid hcs
    clear hcs
    go_enter Try.func4, Try.ntmps4
    go_wp2_with fail
    refine (new_any _).mono ?_
    rintro e w1 ⟨g, rfl, r1, b1⟩
    go_wp2_with fail
    have hcs0 : cs.size = 201 := by rw [← HCS.out]; simp
    have hcj : ∀ j, j < 201 → cs[j]? = some (.int .u64 (((fun _ => 0 : Nat → Nat) j : Nat) : Int)) ∧ (fun _ => 0 : Nat → Nat) j ≤ 18446744073709551615 := fun j hj => ⟨by rw [← HCS.out, Array.getElem?_replicate, if_pos hj]; rfl, by simp⟩
    have hm := start_mem (cv := #[.int .u64 0, .int .u64 0, .int .u64 0]) r1 hcs0 hcj rfl b1.size
    have hb := (((b1.alloc b1.size (.cells cs 37)).alloc (by have := b1.size; simp; omega) (.cells cs 37)).alloc (by have := b1.size; simp; omega) (.cells #[.int .u64 0, .int .u64 0, .int .u64 0] 32))
    clear hcs0 hcj r1 b1 hz HCS
    generalize ((w1.alloc (.cells cs 37)).alloc (.cells cs 37)).alloc (.cells #[.int .u64 0, .int .u64 0, .int .u64 0] 32) = W2 at hm hb ⊢
    generalize w1.heap.size + 1 + 1 = g9 at hm ⊢
    generalize w1.heap.size + 1 = g8 at hm ⊢
    generalize w1.heap.size = g7 at hm ⊢
    go_loopw [4, 5, 6, 10] (fun x y z i wr => ∃ (k a n b : Nat) (L : List Rd) (v : Value) (IX RD : Nat → Nat), k ≤ l.length ∧ i = .int .i64 k ∧ x = .int .u64 (a : Int) ∧ y = .int .u64 (n : Int) ∧ z = .int .u64 (b : Int) ∧ Hid (Inv k a n b L IX RD) ∧ Hid (Mem w.heap.size wr g g7 g8 g9 v L (b - n) IX RD) ∧ Below w.heap.size w wr) (fun _ _ _ i _ => l.length - (intOf i).toNat)
    case atStart => exact ⟨0, 0, 1, 1, [], _, _, _, Nat.zero_le _, rfl, rfl, rfl, rfl, Inv.start _ _, hm, hb⟩
    case round =>
      clear hm hb
      obtain ⟨k, a, n, b, L, v, IX, RD, hk, rfl, rfl, rfl, rfl, HI, HM, hb⟩ := hrel
      have hn1 := HI.out.n1
      have hnb := HI.out.nb
      have hba := HI.out.ba
      have hak := HI.out.ak
      have hlen := HI.out.len
      by_cases hlt : k < l.length
      · obtain ⟨ab, off, rfl, c0, c1, c2, hd, hx, hy⟩ := ha k hlt
        obtain ⟨act, hact⟩ : ∃ act, l[k] = act := ⟨_, rfl⟩
        rw [hact] at c0 c1 c2 hd hx hy
        clear hact
        obtain ⟨d, x, y⟩ := act
        simp only at c0 c1 c2 hd hx hy
        have c0' := (hb.cell (World.block_lt_of_cell? w _ c0)).trans c0
        have c1' := (hb.cell (World.block_lt_of_cell? w _ c1)).trans c1
        have c2' := (hb.cell (World.block_lt_of_cell? w _ c2)).trans c2
        have hlc := World.block_lt_of_cell? w _ c0
        have HC1 := Lib.hid c1
        have HC2 := Lib.hid c2
        clear c0 c1 c2
        go_upto_block 2 with (fail)
        go_cut [4, 5, 6] (fun x y z wx => ∃ (a n b : Nat) (L : List Rd) (v : Value) (IX RD : Nat → Nat), x = .int .u64 (a : Int) ∧ y = .int .u64 (n : Int) ∧ z = .int .u64 (b : Int) ∧ Hid (Inv (k + 1) a n b L IX RD) ∧ Hid (Mem w.heap.size wx g g7 g8 g9 v L (b - n) IX RD) ∧ Below w.heap.size w wx)
        case first =>
          by_cases h0 : d = 0
          · subst h0
            go_wp2_with fail
            refine (ask_yes _ g _ L (b - n) (a + 1) _ HM.out.list (by omega) (by omega) HI.out.noAsk).mono ?_
            rintro e w2 ⟨rfl, ⟨v2, r2, f2⟩, b2, s2, p2⟩
            have HM2 := Lib.hid (HM.out.step r2 s2 p2 f2)
            have hb2 := hb.trans b2
            clear r2 f2 b2 s2 p2 HM hb c0' c1' c2'
            go_wp2_with fail
            refine (ask_no _ g _ _ (b - n) (a + 1) _ HM2.out.list (by simp; omega) (asked_there L (a + 1))).mono ?_
            rintro e w3 ⟨rfl, r3, b3⟩
            have HM3 := Lib.hid (HM2.out.below b3)
            have hb3 := hb2.trans (b3.mono hb2.size)
            clear r3 b3 HM2 hb2
            go_wp2_with fail
            go_meet
            exact ⟨a + 1, n, b, _, _, IX, RD, by go_num, rfl, rfl, Lib.hid HI.out.ask, HM3, hb3⟩
          · by_cases h1 : d = 1
            · subst h1
              go_wp2_with fail
              go_still_tail 11, (by kernel_rfl)
              change wpList _ _ _ _ _ wr.drew
              have hmd := HM.out.below (w' := wr.drew) (blw_draws (Below.refl _ _) 1)
              have hbd : Below w.heap.size w wr.drew := blw_draws hb 1
              clear HM hb
              generalize wr.drew = wd at hmd hbd ⊢
              have HM := Lib.hid hmd
              clear hmd
              go_wp2_with fail
              refine (begin_any _ g _ L (b - n) x y _ HM.out.list (by omega) hx hy).mono ?_
              rintro e w2 ⟨rfl, r2, b2, s2, p2⟩
              obtain ⟨c, hc⟩ : ∃ c, L.length - (b - n) = c := ⟨_, rfl⟩
              rw [hc]
              have hcb : c + b = a + 1 := by omega
              have hMb := HM.out.step r2 s2 p2 (fun _ h => .inl h)
              rw [hlen] at hMb
              have HMb := Lib.hid hMb
              have hb2 := hbd.trans b2
              clear r2 b2 s2 p2 HM hbd c0' c1' c2' hc hMb
              go_wp2_with fail
              go_loopw [6] (fun z wr => ∃ e : Nat, b ≤ e ∧ e ≤ a + 1 ∧ z = .int .u64 (e : Int) ∧ Hid (Mem w.heap.size wr g g7 g8 g9 v (begunL L (b - n) x y) (a + 1 - n) (noted IX b e x) (noted RD b e y)) ∧ Below w.heap.size w wr) (fun z _ => a + 1 - (intOf z).toNat)
              case atStart => exact ⟨b, Nat.le_refl _, hba, rfl, Lib.hid (by rw [noted_start, noted_start]; exact HMb.out), hb2⟩
              case round =>
                clear HMb hb2
                obtain ⟨e, hbe, hea, rfl, HM, hb⟩ := hrel
                by_cases hlt2 : e ≤ a
                · have c1' := (hb.cell (World.block_lt_of_cell? w _ HC1.out)).trans HC1.out
                  have c2' := (hb.cell (World.block_lt_of_cell? w _ HC2.out)).trans HC2.out
                  obtain ⟨k7, _, f7⟩ := HM.out.ix.cell e (by omega)
                  obtain ⟨k8, _, f8⟩ := HM.out.rd.cell e (by omega)
                  have hne7 := HM.out.two
                  have hB7 := HM.out.b7
                  have hB8 := HM.out.b8
                  go_wp2_with fail
                  go_roundw
                  case rel =>
                    refine ⟨e + 1, by omega, by omega, by go_num, Lib.hid ?_, ((hb.setCell (by exact hB7) _).setCell (by exact hB8) _)⟩
                    have := HM.out.note (c := e) hx hy
                    rw [noted_step _ _ _ _ hbe, noted_step _ _ _ _ hbe] at this
                    exact this
                  case measure => simp [intOf]; omega
                · obtain rfl : e = a + 1 := by omega
                  go_wp2_with fail
                  go_meet
                  exact ⟨a, n, a + 1, _, _, _, _, rfl, rfl, rfl, Lib.hid (HI.out.begin_ x y), HM, hb⟩
            · by_cases h2 : d = 2
              · subst h2
                go_wp2_with fail
                refine (told_any _ g _ L (b - n) x _ HM.out.list (by omega) hx).mono ?_
                rintro e w2 ⟨v1, v2, H, rfl, o1, r2, k1, k2, b2, s2, hH, f2⟩
                obtain ⟨c, hc⟩ : ∃ c, cnt L (b - n) x = c := ⟨_, rfl⟩
                have hcle := cnt_le L (b - n) x
                obtain ⟨M, hM⟩ : ∃ M, L.take c = M := ⟨_, rfl⟩
                obtain ⟨hMl, hMat⟩ := HI.out.taken hc hM
                rw [hc] at o1 r2 hcle
                rw [hM] at o1
                obtain ⟨A, cap, rfl, _, _⟩ := own_form o1
                have HM2 := Lib.hid (HM.out.step r2 s2 (fun i hi hne _ => f2 i hi hne) (fun i hi => .inr (by have := k2 i hi; omega)))
                have HMAT := Lib.hid hMat
                have HO1 := Lib.hid o1
                have hb2 := hb.trans b2
                have h9 := lt_of_block HM.out.last.choose_spec.1
                clear hMat o1 r2 k1 k2 b2 s2 f2 HM hb c0' c1' c2' hc hM
                go_wp2_with fail
                go_loopw [5, 13] (fun z i wq => ∃ j : Nat, j ≤ M.length ∧ i = .int .i64 j ∧ z = .int .u64 ((n + j : Nat) : Int) ∧ Hid (wq.ownsRow wr.heap.size 32 3 (.slice A M.length cap) M.length (row M)) ∧
                    Hid (Mem w.heap.size wq g g7 g8 g9 v2 (L.drop c) (b - n - c) IX RD) ∧ Hid (0 < j → ∃ r : Rd, M[j - 1]? = some r ∧ wq.heap[g9]? = some (.cells #[.int .u64 (r.id : Int), .int .u64 (r.ix : Int), .int .u64 (r.rd : Int)] 32 (0, 0))) ∧ Below w.heap.size w wq) (fun _ i _ => M.length - (intOf i).toNat)
                case atStart => exact ⟨0, Nat.zero_le _, rfl, rfl, HO1, HM2, Lib.hid (fun h => absurd h (by omega)), hb2⟩
                case round =>
                  clear HM2 HO1 hb2
                  obtain ⟨j, hj, rfl, rfl, HO, HM, HJ, hb⟩ := hrel
                  by_cases hjl : j < M.length
                  · have c1' := (hb.cell (World.block_lt_of_cell? w _ HC1.out)).trans HC1.out
                    obtain ⟨ho, rfl, hbo, hlo, d0, d1, d2, _⟩ := own_at HO.out j hjl
                    obtain ⟨m1, m2, m3, m4, m5⟩ := HMAT.out j hjl
                    have HM5 := Lib.hid m5
                    clear m5
                    obtain ⟨r, hr⟩ : ∃ r, M[j] = r := ⟨_, rfl⟩
                    rw [hr] at d0 d1 d2 m1 m2 m3 m4
                    have HR := Lib.hid hr
                    clear hr
                    obtain ⟨q1, q2, q3⟩ := r
                    simp only at d0 d1 d2 m1 m2 m3 m4
                    subst m1
                    obtain ⟨nj, hnj⟩ : ∃ nj, n + j = nj := ⟨_, rfl⟩
                    rw [hnj] at d0 m2 m3 ⊢
                    obtain ⟨k7, l7, _⟩ := HM.out.ix.cell nj (by omega)
                    obtain ⟨k8, l8, _⟩ := HM.out.rd.cell nj (by omega)
                    obtain ⟨ixv, hixv⟩ : ∃ ixv, IX nj = ixv := ⟨_, rfl⟩
                    obtain ⟨rdv, hrdv⟩ : ∃ rdv, RD nj = rdv := ⟨_, rfl⟩
                    rw [hixv] at m2 k7 l7
                    rw [hrdv] at m3 k8 l8
                    clear hixv hrdv
                    go_wp2_with fail
                    have e0 : (wr.alloc (Obj.cells #[Value.int IntKind.u64 (nj : Int), Value.int IntKind.u64 (q2 : Int), Value.int IntKind.u64 (q3 : Int)] 32)).cell? ⟨wr.heap.size, 0, none⟩ = some (.int .u64 (nj : Int)) := by rw [cell_of_row _ _ _ _ _ _ (heap_alloc_last _ _)]; rfl
                    have e1 : (wr.alloc (Obj.cells #[Value.int IntKind.u64 (nj : Int), Value.int IntKind.u64 (q2 : Int), Value.int IntKind.u64 (q3 : Int)] 32)).cell? ⟨wr.heap.size, 1, none⟩ = some (.int .u64 (q2 : Int)) := by rw [cell_of_row _ _ _ _ _ _ (heap_alloc_last _ _)]; rfl
                    have e2 : (wr.alloc (Obj.cells #[Value.int IntKind.u64 (nj : Int), Value.int IntKind.u64 (q2 : Int), Value.int IntKind.u64 (q3 : Int)] 32)).cell? ⟨wr.heap.size, 2, none⟩ = some (.int .u64 (q3 : Int)) := by rw [cell_of_row _ _ _ _ _ _ (heap_alloc_last _ _)]; rfl
                    have hbx : Below wr.heap.size wr (wr.alloc (Obj.cells #[Value.int IntKind.u64 (nj : Int), Value.int IntKind.u64 (q2 : Int), Value.int IntKind.u64 (q3 : Int)] 32)) := (Below.refl _ _).alloc (Nat.le_refl _) _
                    generalize wr.alloc (Obj.cells #[Value.int IntKind.u64 (nj : Int), Value.int IntKind.u64 (q2 : Int), Value.int IntKind.u64 (q3 : Int)] 32) = W3 at e0 e1 e2 hbx ⊢
                    have c1'' := (hbx.cell (World.block_lt_of_cell? wr _ c1')).trans c1'
                    have k7' := (hbx.cell (World.block_lt_of_cell? wr _ k7)).trans k7
                    have k8' := (hbx.cell (World.block_lt_of_cell? wr _ k8)).trans k8
                    have HM3 := Lib.hid (HM.out.below hbx)
                    have HO3 := Lib.hid (ownsRow_of_heap HO.out fun i hi => hbx.block i (HO.out.lt i hi).2)
                    have hb3 := hb.trans (hbx.mono hb.size)
                    have HJ3 : Hid (0 < j → ∃ r : Rd, M[j - 1]? = some r ∧ W3.heap[g9]? = some (.cells #[.int .u64 (r.id : Int), .int .u64 (r.ix : Int), .int .u64 (r.rd : Int)] 32 (0, 0))) := Lib.hid fun h => by
                      obtain ⟨r, h1, h2⟩ := HJ.out h
                      exact ⟨r, h1, (hbx.block g9 (lt_of_block h2)).trans h2⟩
                    clear hbx c1' k7 k8 HM HO HJ hb d0 d1 d2
                    have i1 : (0 : Int) ≤ (nj : Int) := by omega
                    have i2 : (nj : Int) < 201 := by omega
                    have i3 : (0 : Int) ≤ (k : Int) := by omega
                    have i4 : (k : Int) < (l.length : Int) := by omega
                    have t1 : (decide (b ≤ nj)) = false := decide_eq_false (by omega)
                    have t2 : (decide (q2 < ixv)) = false := decide_eq_false (by omega)
                    have t3 : (decide (q3 < rdv)) = false := decide_eq_false (by omega)
                    have t4 : (decide (x < q3)) = false := decide_eq_false (by omega)
                    go_quiet (fail)
                    by_cases hj0 : 0 < j
                    · obtain ⟨r, hr, h9r⟩ := HJ3.out hj0
                      obtain ⟨r1, r2, r3⟩ := r
                      have o0 : W3.cell? ⟨g9, 0, none⟩ = some (.int .u64 (r1 : Int)) := by rw [cell_of_row _ _ _ _ _ _ h9r]; rfl
                      have p0 := frozen_of_row W3 g9 0 _ _ h9r
                      have p1 := frozen_of_row W3 g9 1 _ _ h9r
                      have p2 := frozen_of_row W3 g9 2 _ _ h9r
                      have o1 : W3.cell? ⟨g9, 1, none⟩ = some (.int .u64 (r2 : Int)) := by rw [cell_of_row _ _ _ _ _ _ h9r]; rfl
                      have o2 : W3.cell? ⟨g9, 2, none⟩ = some (.int .u64 (r3 : Int)) := by rw [cell_of_row _ _ _ _ _ _ h9r]; rfl
                      have hle := HM5.out (j - 1) (by omega)
                      rw [HR.out] at hle
                      have hrr : M[j - 1]'(by omega) = ⟨r1, r2, r3⟩ := by rw [List.getElem?_eq_getElem (by omega)] at hr; exact Option.some.inj hr
                      rw [hrr] at hle
                      simp only at hle
                      have t5 : r2 ≤ q2 := by omega
                      have t6 : r3 ≤ q3 := by omega
                      clear hr hrr h9r hle
                      go_wp2_with fail
                      go_roundw
                      case rel =>
                        obtain ⟨m1, m2⟩ := (HM3.out.below (blw_draws (Below.refl _ _) nq)).keep (x := nj) (y := q2) (z := q3)
                        refine ⟨j + 1, by omega, by go_num, ?_, Lib.hid (ownsRow_of_heap HO3.out fun i hi => ?_), Lib.hid m1, Lib.hid fun _ => ⟨⟨nj, q2, q3⟩, ?_, m2⟩, (((blw_draws hb3 nq).setCell (by exact HM3.out.b9) _).setCell (by exact HM3.out.b9) _).setCell (by exact HM3.out.b9) _⟩
                        · exact int_eq (by omega)
                        · have hne : i ≠ g9 := fun e => by have := (HO3.out.lt i hi).1; omega
                          rw [heap_setCell_other _ _ _ _ hne, heap_setCell_other _ _ _ _ hne, heap_setCell_other _ _ _ _ hne]
                          rfl
                        · rw [Nat.add_sub_cancel, List.getElem?_eq_getElem (by omega)]
                          exact congrArg some (by rw [← hnj]; exact HR.out)
                      case measure => simp [intOf]; omega
                    · obtain ⟨u0, u1, u2', o0, o1, o2, p0, p1, p2⟩ := HM3.out.last.cells
                      go_wp2_with fail
                      go_roundw
                      case rel =>
                        obtain ⟨m1, m2⟩ := (HM3.out.below (blw_draws (Below.refl _ _) nq)).keep (x := nj) (y := q2) (z := q3)
                        refine ⟨j + 1, by omega, by go_num, ?_, Lib.hid (ownsRow_of_heap HO3.out fun i hi => ?_), Lib.hid m1, Lib.hid fun _ => ⟨⟨nj, q2, q3⟩, ?_, m2⟩, (((blw_draws hb3 nq).setCell (by exact HM3.out.b9) _).setCell (by exact HM3.out.b9) _).setCell (by exact HM3.out.b9) _⟩
                        · exact int_eq (by omega)
                        · have hne : i ≠ g9 := fun e => by have := (HO3.out.lt i hi).1; omega
                          rw [heap_setCell_other _ _ _ _ hne, heap_setCell_other _ _ _ _ hne, heap_setCell_other _ _ _ _ hne]
                          rfl
                        · rw [Nat.add_sub_cancel, List.getElem?_eq_getElem (by omega)]
                          exact congrArg some (by rw [← hnj]; exact HR.out)
                      case measure => simp [intOf]; omega
                  · obtain rfl : j = M.length := by omega
                    go_wp2_with fail
                    go_meet
                    exact ⟨a, n + M.length, b, L.drop c, v2, IX, RD, rfl, rfl, rfl, Lib.hid (by rw [hMl]; exact HI.out.told c hcle.1), Lib.hid (by rw [show b - (n + M.length) = b - n - c by omega]; exact HM.out), hb⟩
              · by_cases h3 : d = 3
                · subst h3
                  go_wp2_with fail
                  refine (drop_any _ g _ L (b - n) _ HM.out.list (by omega)).mono ?_
                  rintro e w2 ⟨v1, rfl, o1, r2, b2, s2, f2⟩
                  obtain ⟨A, cap, rfl, _, hcs⟩ := own_ids o1
                  have HM2 := Lib.hid (HM.out.step r2 s2 (fun i hi hne _ => f2 i hi hne) (fun i hi => by simp [Value.ownBlock] at hi))
                  have hb2 := hb.trans b2
                  clear o1 r2 b2 s2 f2 HM hb c0' c1' c2'
                  go_wp2_with fail
                  go_loop [5, 16] (fun z i => ∃ j : Nat, j ≤ L.length ∧ i = .int .i64 j ∧ z = .int .u64 ((n + j : Nat) : Int)) (fun _ i => L.length - (intOf i).toNat)
                  case atStart => exact ⟨0, Nat.zero_le _, rfl, rfl⟩
                  case round =>
                    obtain ⟨j, hj, rfl, rfl⟩ := hrel
                    by_cases hjl : j < L.length
                    · obtain ⟨ho, rfl, d0⟩ := hcs j hjl
                      have m1 := HI.out.ids j hjl
                      rw [m1] at d0
                      clear m1
                      go_wp2_with fail
                      go_round
                      case rel => exact ⟨j + 1, by omega, by go_num, int_eq (by omega)⟩
                      case measure => simp [intOf]; omega
                    · obtain rfl : j = L.length := by omega
                      go_wp2_with fail
                      go_meet
                      exact ⟨a, a + 1, a + 1, [], _, IX, RD, rfl, int_eq (by omega), int_eq (by omega), Lib.hid HI.out.drop, Lib.hid (by rw [Nat.sub_self]; exact HM2.out), hb2⟩
                · go_wp2_with fail
                  go_meet
                  exact ⟨a, n, b, L, v, IX, RD, rfl, rfl, rfl, Lib.hid HI.out.skip, HM, hb⟩
        case rest =>
          obtain ⟨a, n, b, L, v, IX, RD, rfl, rfl, rfl, HI, HM, hb⟩ := hcut
          have hn1 := HI.out.n1
          have hnb := HI.out.nb
          have hba := HI.out.ba
          have hak := HI.out.ak
          have hlen := HI.out.len
          go_wp2_with fail
          refine (len_any _ g _ L (b - n) _ HM.out.list (by omega)).mono ?_
          rintro e w2 ⟨rfl, nq, rfl⟩
          obtain ⟨p, hp⟩ : ∃ p, L.length - (b - n) = p := ⟨_, rfl⟩
          obtain ⟨q, hq⟩ : ∃ q, b - n = q := ⟨_, rfl⟩
          rw [hp, hq]
          have hp' : p + b = a + 1 := by omega
          have hq' : q + n = b := by omega
          have HM2 := Lib.hid (HM.out.below (blw_draws (Below.refl _ _) nq))
          have hb2 := blw_draws hb nq
          clear hp hq HM hb
          generalize World.drewN _ nq = W4 at HM2 hb2 ⊢
          clear hlen
          go_wp2_with fail
          go_roundw
          case rel => exact ⟨k + 1, a, n, b, L, v, IX, RD, by omega, by go_num, rfl, rfl, rfl, HI, HM2, hb2⟩
          case measure => simp [intOf]; omega
      · go_wp2_with fail
        refine (awake_any _).mono ?_
        rintro e w2 ⟨rfl, hb2⟩
        go_wp2_with fail
        go_ret
        exact ⟨rfl, hb.trans (hb2.mono hb.size)⟩
end Go.Proofs.Ytlenmhclnmcljaa
