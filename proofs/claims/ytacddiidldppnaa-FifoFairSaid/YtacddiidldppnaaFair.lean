/- FifoFair: an item that has k others ahead of it is taken at latest as the (k + 1) * 5-th from then on, within (k + 1) * 3 drains of two. The walk. -/
import Derived.Test.YtacddiidldppnaaRows
import Derived.Test.YtacddiidldppnaaFairMath
import Derived.Test.YtacddiidldppnaaOpen
import Derived.Test.YtacddiidldppnaaTurns
import Derived.Deep.Matrix
import Derived.Deep.DeepCutAuto
import Derived.Deep.CutBlock
import Derived.StillTailTactics
namespace Go.Proofs.Ytacddiidldppnaa
open Go.ChangeShapes Go.WideShapes Go.ChangeAt Go.RowKit

/-- The rows of bytes that an argument holds. -/
def RowsAt (w : World) (C : Option Addr) (bss : List (List Nat)) : Prop := ∀ i (h : i < bss.length), ∃ b off A cap, C = some ⟨b, off, none⟩ ∧ w.cell? ⟨b, off + i, none⟩ = some (.slice A bss[i].length cap) ∧ BytesAt w A bss[i] ∧ bss[i].length ≤ 9223372036854775807
theorem open_rows {H : Type} {enc : TypeId × Value → H} {w : World} {base : Nat} {held : Bool} {A : Option Addr} {len cap : Nat} {d : DataW H} {ps : List MemPlace}
    (h : DataW.Trod enc Try.prog w base (fun _ => true) held 54 (.slice A len cap) d ps) : ∃ bss : List (List Nat), len = bss.length ∧ RowsAt w A bss := by
  obtain ⟨fuel, hf⟩ := h
  rcases Go.Deep.open_int_rows Try.underlying54 Try.underlying22 Try.underlying5 (by kernel_rfl) (by kernel_rfl) hf with ⟨hcs, _⟩ | ⟨a, l, c, AR, LR, CR, Z, hcs, _, hl, hc, _, hrow⟩
  · simp [Value.cells] at hcs
    obtain ⟨rfl, rfl, rfl⟩ := hcs
    exact ⟨[], rfl, fun k hk => absurd hk (by simp)⟩
  · simp [Value.cells] at hcs
    obtain ⟨rfl, rfl, rfl⟩ := hcs
    refine ⟨(List.range len).map fun r => ((Z r).take (LR r)).map Int.toNat, by simp, fun i hi => ?_⟩
    have hil : i < len := by simpa using hi
    obtain ⟨h1, h2, h3, h4, h5, h6, h7⟩ := hrow i (by omega)
    have hlen : (((Z i).take (LR i)).map Int.toNat).length = LR i := by rw [List.length_map, List.length_take]; omega
    obtain ⟨b, off, spot⟩ := a
    obtain ⟨h10, _⟩ := hrow 0 (by omega)
    have hsp : spot = none := by simpa [Addr.add] using World.cell?_spot h10
    subst hsp
    have e : ∀ q, (⟨b, off, none⟩ : Addr).add q = ⟨b, off + q, none⟩ := fun q => by unfold Addr.add; split <;> simp_all
    rw [e] at h1
    rw [List.getElem_map, List.getElem_range]
    refine ⟨b, off, AR i, CR i, rfl, by rw [hlen]; exact h1, fun k hk => ?_, by rw [hlen]; unfold maxLen at h3; omega⟩
    rw [hlen] at hk
    cases ha : AR i with
    | none => have := h6 ha; omega
    | some ad =>
      obtain ⟨_, hcell⟩ := h7 ad ha
      obtain ⟨b2, off2, spot2⟩ := ad
      have hc0 := hcell 0 (by omega)
      have hsp2 : spot2 = none := by simpa [Addr.add] using World.cell?_spot hc0
      subst hsp2
      have e2 : (⟨b2, off2, none⟩ : Addr).add k = ⟨b2, off2 + k, none⟩ := by unfold Addr.add; split <;> simp_all
      have hck := hcell k (by omega)
      rw [e2, List.getD_eq_getElem?_getD, List.getElem?_eq_getElem (by omega), Option.getD_some] at hck
      have hbd := bounds_u8 (h5 _ (List.getElem_mem (l := Z i) (n := k) (by omega)))
      rw [List.getElem_map, List.getElem_take]
      exact ⟨b2, off2, rfl, by rw [hck, show ((((Z i)[k]'(by omega)).toNat : Nat) : Int) = (Z i)[k]'(by omega) by omega], by omega⟩
theorem int_eq {k : IntKind} {a b : Int} (h : a = b) : Value.int k a = Value.int k b := by rw [h]
/-- Put, of any queue: some fifo. -/
def PutSome (B g : Nat) (V : Nat → Value) (t : Nat) (w : World) (e : Ending) (w' : World) : Prop := ∃ b V' Q', e = .returned (.bool b) ∧ FifoAt B w' g V' Q' t ∧ Moved B g V V' w w'
theorem put_some {B : Nat} {w : World} {g : Nat} {V : Nat → Value} {Q : Nat → List Nat} {t : Nat} (h : FifoAt B w g V Q t) (q : Int) (id : Nat) : Calls Try.prog 10 #[.pointer (some ⟨g, 0, none⟩), .int .i64 q, .int .u64 (id : Int)] w (PutSome B g V t w) := by
  by_cases hq : 0 ≤ q ∧ q < 5
  · obtain ⟨p, rfl⟩ : ∃ p : Nat, q = (p : Int) := ⟨q.toNat, by omega⟩
    refine (put_any h p id (p : Int) (id : Int) _ rfl rfl (by omega) rfl).mono ?_
    rintro e w' ⟨rfl, V', h1, h2⟩
    exact ⟨_, V', _, rfl, h1, h2⟩
  · refine (put_none h q (id : Int) hq).mono ?_
    rintro e w' ⟨rfl, rfl⟩
    exact ⟨_, V, Q, rfl, h, Moved.refl _ _ _ _⟩
theorem Stands.put {Q : Nat → List Nat} {q k X p id : Nat} (h : Stands Q q k X) (hne : p ≠ q) : Stands (putQ Q p id) q k X := by
  unfold putQ
  split
  · obtain ⟨l, hl, hk⟩ := h
    exact ⟨l, by rw [upd_other _ _ (Ne.symm hne)]; exact hl, hk⟩
  · exact h

set_option maxRecDepth 100000 in
set_option maxHeartbeats 4000000 in
theorem fair_any (A C : Option Addr) (cap capC : Nat) (l : List Act4) (qq : Nat) (bss : List (List Nat)) (w : World) (ha : ActsAt w A l) (hqq : qq < 256) (hbss : RowsAt w C bss) :
    Calls Try.prog 6 #[.slice A l.length cap, .int .u8 (qq : Int), .slice C bss.length capC] w fun e w' => e = .returned (.bool true) ∧ Below w.heap.size w w' := by
  by_cases h100 : 100 < l.length
  · go_enter Try.func6, Try.ntmps6
    go_wp2_with fail
    refine (awake_any _).mono ?_
    rintro e w2 ⟨rfl, hb2⟩
    go_wp2_with fail
    go_ret
    exact ⟨rfl, hb2⟩
  by_cases h101 : 100 < bss.length
  · go_enter Try.func6, Try.ntmps6
    go_wp2_with fail
    refine (awake_any _).mono ?_
    rintro e w2 ⟨rfl, hb2⟩
    go_wp2_with fail
    go_ret
    exact ⟨rfl, hb2⟩
  obtain ⟨q, hq⟩ : ∃ q, qq % 5 = q := ⟨_, rfl⟩
  have hq5 : q < 5 := by omega
  have HQ := Lib.hid hq
  clear hq
  go_enter Try.func6, Try.ntmps6
  go_wp2_with fail
  refine (new_any _).mono ?_
  rintro e w1 ⟨g, rfl, f1, b1⟩
  have HF := Lib.hid f1
  clear f1
  go_wp2_with fail
  go_loopw [8] (fun i wr => ∃ (k : Nat) (V : Nat → Value) (Q : Nat → List Nat) (t : Nat), k ≤ l.length ∧ i = .int .i64 k ∧ Hid (FifoAt w.heap.size wr g V Q t) ∧ Below w.heap.size w wr) (fun i _ => l.length - (intOf i).toNat)
  case atStart => exact ⟨0, _, _, 0, Nat.zero_le _, rfl, HF, b1⟩
  case round =>
    clear HF b1
    obtain ⟨k, V, Q, t, hk, rfl, HF, hb⟩ := hrel
    by_cases hlt : k < l.length
    · obtain ⟨ab, off, rfl, c0, c1, c2, c3, hd⟩ := ha k hlt
      obtain ⟨act, hact⟩ : ∃ act, l[k] = act := ⟨_, rfl⟩
      rw [hact] at c0 c1 c2 c3 hd
      clear hact
      obtain ⟨d, p, n, id⟩ := act
      simp only at c0 c1 c2 c3 hd
      have c0' := (hb.cell (World.block_lt_of_cell? w _ c0)).trans c0
      have c1' := (hb.cell (World.block_lt_of_cell? w _ c1)).trans c1
      have c2' := (hb.cell (World.block_lt_of_cell? w _ c2)).trans c2
      have c3' := (hb.cell (World.block_lt_of_cell? w _ c3)).trans c3
      clear c0 c1 c2 c3
      have i1 : (0 : Int) ≤ (k : Int) := by omega
      have i2 : (k : Int) < (l.length : Int) := by omega
      by_cases h0 : d = 0
      · subst h0
        go_wp2_with fail
        go_still_tail 11, (by kernel_rfl)
        change wpList _ _ _ _ _ wr.drew
        have HFd : Hid (FifoAt w.heap.size wr.drew g V Q t) := Lib.hid (HF.out.draws 1)
        have hbd : Below w.heap.size w wr.drew := blw_draws hb 1
        clear HF hb c0' c1' c2' c3'
        generalize wr.drew = wd at HFd hbd ⊢
        go_wp2_with fail
        refine (put_some HFd.out p id).mono ?_
        rintro e w2 ⟨bb, V2, Q2, rfl, f2, m2⟩
        have HF2 := Lib.hid f2
        have hb2 := hbd.trans m2.below
        clear f2 m2 HFd hbd
        go_wp2_with fail
        go_roundw
        case rel => exact ⟨k + 1, _, _, _, by omega, by go_num, HF2, hb2⟩
        case measure => simp [intOf]; omega
      · by_cases h1 : d = 1
        · subst h1
          go_wp2_with fail
          refine (drain_any HF.out n).mono ?_
          rintro e w2 ⟨v, V2, rfl, _, f2, m2⟩
          have HF2 := Lib.hid f2
          have hb2 := hb.trans m2.below
          clear f2 m2 HF hb
          go_wp2_with fail
          go_roundw
          case rel => exact ⟨k + 1, _, _, _, by omega, by go_num, HF2, hb2⟩
          case measure => simp [intOf]; omega
        · by_cases h2 : d = 2
          · subst h2
            go_wp2_with fail
            refine (drop_any HF.out).mono ?_
            rintro e w2 ⟨v, V2, rfl, _, f2, m2⟩
            have HF2 := Lib.hid f2
            have hb2 := hb.trans m2.below
            clear f2 m2 HF hb
            go_wp2_with fail
            go_roundw
            case rel => exact ⟨k + 1, _, _, _, by omega, by go_num, HF2, hb2⟩
            case measure => simp [intOf]; omega
          · have e0 : (((d : Nat) : Int) == 0) = false := by simp; omega
            have e1 : (((d : Nat) : Int) == 1) = false := by simp; omega
            have e2 : (((d : Nat) : Int) == 2) = false := by simp; omega
            go_wp2_with fail
            go_roundw
            case rel => exact ⟨k + 1, _, _, _, by omega, by go_num, HF, hb⟩
            case measure => simp [intOf]; omega
    · have hqi : ((qq : Int) % 5) = (q : Int) := by have := HQ.out; omega
      obtain rfl : k = l.length := by omega
      clear ha
      go_wp2_with fail
      refine (len_for HF.out q (q : Int) rfl hq5 ((Q q).length : Int) rfl).mono ?_
      rintro e w2 ⟨rfl, hw⟩
      rw [hw]
      clear hw w2
      obtain ⟨k0, hk0⟩ : ∃ k0, (Q q).length = k0 := ⟨_, rfl⟩
      rw [hk0]
      have hroom := HF.out.room q hq5
      rw [hk0] at hroom
      have HK0 := Lib.hid hk0
      clear hk0
      by_cases hfull : k0 = 4
      case pos =>
        subst hfull
        go_wp2_with fail
        refine (put_full HF.out q 9223372036854775808 hq5 (by rw [HK0.out]; exact Nat.le_refl _)).mono ?_
        rintro e w2 ⟨rfl, hw⟩
        rw [hw]
        clear hw w2
        go_wp2_with fail
        refine (awake_any _).mono ?_
        rintro e w2 ⟨rfl, hb2⟩
        go_wp2_with fail
        go_ret
        exact ⟨rfl, hb.trans (hb2.mono hb.size)⟩
      go_wp2_with fail
      refine (put_for HF.out q 9223372036854775808 (q : Int) 9223372036854775808 rfl (by rfl) hq5 (by rw [HK0.out]; omega)).mono ?_
      rintro e w2 ⟨rfl, V2, f2, m2⟩
      have hst : Stands (upd Q q (Q q ++ [9223372036854775808])) q k0 9223372036854775808 := ⟨Q q, upd_same _ _ _, HK0.out⟩
      have hns := need_start t q k0
      have HF2 := Lib.hid f2
      have HS2 := Lib.hid hst
      have hb2 := hb.trans m2.below
      clear f2 m2 HF hb hst HK0
      go_wp2_with fail
      go_loopw [10, 11, 14] (fun vk vt vn wr => ∃ (m k t : Nat) (V : Nat → Value) (Q : Nat → List Nat), vk = .int .i64 (k : Int) ∧ vt = .int .i64 (2 * (m : Int)) ∧ vn = .int .i64 ((m : Int) + 1) ∧ k ≤ 4 ∧ 2 * m + need t q k ≤ 5 * (k0 + 1) ∧ Hid (Stands Q q k 9223372036854775808) ∧ Hid (FifoAt w.heap.size wr g V Q t) ∧ Below w.heap.size w wr) (fun _ _ vn _ => 40 - (intOf vn).toNat)
      case atStart => exact ⟨0, k0, t, V2, _, rfl, rfl, rfl, by omega, by omega, HS2, HF2, hb2⟩
      case round =>
        clear HF2 HS2 hb2 hns V2
        obtain ⟨m, k, t2, V, Q2, rfl, rfl, rfl, hk4, hneed, HS, HF, hb⟩ := hrel
        have hpos := need_pos t2 q k
        have hm : m + 1 ≤ 3 * (k0 + 1) := by omega
        have hmi : (m : Int) + 1 ≤ 3 * ((k0 : Int) + 1) := by omega
        go_upto_if 96 with (fail)
        go_cut [15] (fun _ wx => ∃ V Q, Hid (Stands Q q k 9223372036854775808) ∧ Hid (FifoAt w.heap.size wx g V Q t2) ∧ Below w.heap.size w wx)
        case first =>
          by_cases hin : m + 1 ≤ bss.length
          case neg =>
            go_wp2_with fail
            go_meet
            exact ⟨V, Q2, HS, HF, hb⟩
          case pos =>
            obtain ⟨rb, roff, R, capR, rfl, c0, hrow, hrl⟩ := hbss m (by omega)
            obtain ⟨bs, hbs⟩ : ∃ bs, bss[m] = bs := ⟨_, rfl⟩
            rw [hbs] at c0 hrow hrl
            clear hbs
            have HC0 := Lib.hid c0
            clear c0
            have n1 : ((m : Int) + 1) - 1 = (m : Int) := by omega
            have hdec : decide ((m : Int) + 1 ≤ (bss.length : Int)) = true := decide_eq_true (by omega)
            rw [hdec]
            go_wp2_with fail
            go_loopw [15] (fun vi wr => ∃ (i : Nat) (V : Nat → Value) (Q : Nat → List Nat), i ≤ 30 ∧ vi = .int .i64 (i : Int) ∧ Hid (Stands Q q k 9223372036854775808) ∧ Hid (FifoAt w.heap.size wr g V Q t2) ∧ Below w.heap.size w wr) (fun vi _ => 30 - (intOf vi).toNat)
            case atStart => exact ⟨0, V, Q2, by omega, rfl, HS, HF, hb⟩
            case round =>
              clear HS HF hb
              obtain ⟨i, V, Q, hi30, rfl, HS, HF, hb⟩ := hrel
              have c0 := (hb.cell (World.block_lt_of_cell? w _ HC0.out)).trans HC0.out
              have m1 : (0 : Int) ≤ (m : Int) := by omega
              have m2 : (m : Int) < (bss.length : Int) := by omega
              by_cases hi1 : i < bs.length
              case neg =>
                go_wp2_with fail
                go_meet
                exact ⟨V, Q, HS, HF, hb⟩
              by_cases hi2 : i < 30
              case neg =>
                go_wp2_with fail
                go_meet
                exact ⟨V, Q, HS, HF, hb⟩
              obtain ⟨ab, off, rfl, a0, hy⟩ := hrow i hi1
              obtain ⟨y, hy'⟩ : ∃ y, bs[i] = y := ⟨_, rfl⟩
              rw [hy'] at a0 hy
              have a1 := (hb.cell (World.block_lt_of_cell? w _ a0)).trans a0
              obtain ⟨p, hp⟩ : ∃ p, y % 5 = p := ⟨_, rfl⟩
              have hp5 : p < 5 := by omega
              have hyp : ((y : Int) % 5) = (p : Int) := by omega
              clear hy' hp a0
              by_cases hpq : p = q
              · subst hpq
                go_wp2_with fail
                go_roundw
                case rel => exact ⟨i + 1, V, Q, by omega, by go_num, HS, HF, hb⟩
                case measure => simp [intOf]; omega
              · have hne : ((p : Int) != (q : Int)) = true := by simp; omega
                obtain ⟨bb, hbb⟩ : ∃ bb, decide ((Q p).length < 4) = bb := ⟨_, rfl⟩
                have HBB := Lib.hid hbb
                clear hbb
                go_wp2_with fail
                refine (put_any HF.out p 5 (p : Int) 5 bb rfl rfl hp5 HBB.out).mono ?_
                rintro e w3 ⟨rfl, V3, f3, m3⟩
                have HF3 := Lib.hid f3
                have HS3 := Lib.hid (HS.out.put (id := 5) hpq)
                have hb3 := hb.trans m3.below
                clear f3 m3 HF HS hb a1 c0
                go_wp2_with fail
                go_roundw
                case rel => exact ⟨i + 1, V3, _, by omega, by go_num, HS3, HF3, hb3⟩
                case measure => simp [intOf]; omega
        case rest =>
          clear HS HF hb V Q2
          obtain ⟨V, Q3, HS, HF, hb⟩ := hcut
          have htwo := two ⟨Q3, t2⟩ (q := q) (k := k) (X := 9223372036854775808) HF.out.turn hq5 HS.out
          go_wp2_with fail
          obtain ⟨L, hL⟩ : ∃ L, (drainF 2 ⟨Q3, t2⟩).2 = L := ⟨_, rfl⟩
          obtain ⟨fe, hfe⟩ : ∃ f, (drainF 2 ⟨Q3, t2⟩).1 = f := ⟨_, rfl⟩
          rw [hL, hfe] at htwo
          refine (drain_for HF.out 2 2 rfl L hL).mono ?_
          rintro e w3 ⟨v3, V3, rfl, i3, f3, m3⟩
          rw [hfe] at f3
          have HF3 := Lib.hid f3
          have HI := Lib.hid i3
          have hb3 := hb.trans m3.below
          clear f3 i3 m3 HF HS hb hL hfe
          obtain ⟨AX, capX, hvx, _, hcx⟩ := HI.out.form
          subst hvx
          have HCX := Lib.hid hcx
          clear hcx
          cases htwo with
          | hit x L' _ e1 e2 e3 e4 =>
            obtain ⟨gx, rfl, _, _, dd0, dd1⟩ := HCX.out 0 (by simp)
            have d0 : w3.cell? ⟨gx, 0, none⟩ = some (.int .i64 (x.q : Int)) := dd0
            have d1 : w3.cell? ⟨gx, 1, none⟩ = some (.int .u64 (x.id : Int)) := dd1
            rw [e1] at d0
            rw [e3] at d1
            have d1 : w3.cell? ⟨gx, 1, none⟩ = some (.int .u64 9223372036854775808) := d1
            clear dd0 dd1
            subst e2
            obtain ⟨n, hn⟩ : ∃ n, (x :: L').length = n := ⟨_, rfl⟩
            have hnp : 1 ≤ n := by rw [← hn]; simp
            have hn2 : n ≤ 2 := by rw [← hn]; simp; omega
            rw [hn]
            clear hn HCX HI HF3 e1 e3 e4
            go_wp2_with fail
            go_loopw [10, 11, 18] (fun vk vt vi wr => vk = .int .i64 0 ∧ vt = .int .i64 (2 * (m : Int)) ∧ vi = .int .i64 0 ∧ w3 = wr) (fun _ _ _ _ => 0)
            case atStart => exact ⟨rfl, rfl, rfl, rfl⟩
            case round =>
              obtain ⟨rfl, rfl, rfl, rfl⟩ := hrel
              have n0 : (0 : Int) < (n : Int) := by omega
              have hle : 2 * (m : Int) + 1 ≤ 5 * ((k0 : Int) + 1) := by omega
              go_wp2_with fail
              refine (awake_any _).mono ?_
              rintro e w5 ⟨rfl, b5⟩
              go_wp2_with fail
              go_ret
              exact ⟨rfl, hb3.trans (b5.mono hb3.size)⟩
          | hit2 x y _ k1 e1 e2 e3 e4 e5 =>
            obtain ⟨gx, rfl, _, _, dd0, dd1⟩ := HCX.out 0 (by simp)
            have d0 : w3.cell? ⟨gx, 0, none⟩ = some (.int .i64 (x.q : Int)) := dd0
            obtain ⟨gy, hgy, _, _, dd2, dd3⟩ := HCX.out 1 (by simp)
            cases hgy
            have d2 : w3.cell? ⟨gx, 2, none⟩ = some (.int .i64 (y.q : Int)) := dd2
            have d3 : w3.cell? ⟨gx, 3, none⟩ = some (.int .u64 (y.id : Int)) := dd3
            rw [e3] at d2
            rw [e5] at d3
            have d3' : w3.cell? ⟨gx, 3, none⟩ = some (.int .u64 9223372036854775808) := d3
            have e2 : 2 ≤ need t2 q k := e2
            subst e4
            clear HCX HI HF3 e3 e5 dd0 dd1 dd2 dd3 d3
            have hle : 2 * (m : Int) + 1 + 1 ≤ 5 * ((k0 : Int) + 1) := by omega
            rw [show [x, y].length = 2 from rfl]
            go_wp2_with fail
            go_loopw [10, 11, 18] (fun vk vt vi wr => ((vk = .int .i64 (k : Int) ∧ vt = .int .i64 (2 * (m : Int)) ∧ vi = .int .i64 0) ∨ (vk = .int .i64 0 ∧ vt = .int .i64 (2 * (m : Int) + 1) ∧ vi = .int .i64 1)) ∧ w3 = wr) (fun _ _ vi _ => 5 - (intOf vi).toNat)
            case atStart => exact ⟨.inl ⟨rfl, rfl, rfl⟩, rfl⟩
            case round =>
              obtain ⟨hs, rfl⟩ := hrel
              rcases hs with ⟨rfl, rfl, rfl⟩ | ⟨rfl, rfl, rfl⟩
              · rcases e1 with ⟨a1, a2, a3⟩ | ⟨a1, a2⟩
                · rw [a1] at d0
                  have k1 : k = 1 := by omega
                  subst k1
                  clear a1 a2 a3
                  go_wp2_with fail
                  go_roundw
                  case rel => exact ⟨.inr ⟨rfl, rfl, rfl⟩, trivial⟩
                  case measure => simp [intOf]
                · have k1 : k = 0 := by omega
                  subst k1
                  have hne : ((x.q : Int) == (q : Int)) = false := by simp; omega
                  go_wp2_with fail
                  go_roundw
                  case rel => exact ⟨.inr ⟨rfl, rfl, rfl⟩, trivial⟩
                  case measure => simp [intOf]
              · clear e1
                go_wp2_with fail
                refine (awake_any _).mono ?_
                rintro e w5 ⟨rfl, b5⟩
                go_wp2_with fail
                go_ret
                exact ⟨rfl, hb3.trans (b5.mono hb3.size)⟩
          | miss x y _ k1 k2 e1 e2 e3 e4 e5 =>
            obtain ⟨gx, rfl, _, _, dd0, dd1⟩ := HCX.out 0 (by simp)
            have d0 : w3.cell? ⟨gx, 0, none⟩ = some (.int .i64 (x.q : Int)) := dd0
            obtain ⟨gy, hgy, _, _, dd2, dd3⟩ := HCX.out 1 (by simp)
            cases hgy
            have d2 : w3.cell? ⟨gx, 2, none⟩ = some (.int .i64 (y.q : Int)) := dd2
            have HS3 := Lib.hid e3
            have hk1 : k1 ≤ 4 := by rcases e1 with ⟨_, _, h⟩ | ⟨_, h⟩ <;> omega
            have e5 : need fe.t q k2 + 2 ≤ need t2 q k := e5
            clear HCX HI dd0 dd1 dd2 dd3 e3
            rw [show [x, y].length = 2 from rfl]
            go_wp2_with fail
            go_loopw [10, 11, 18] (fun vk vt vi wr => ((vk = .int .i64 (k : Int) ∧ vt = .int .i64 (2 * (m : Int)) ∧ vi = .int .i64 0) ∨ (vk = .int .i64 (k1 : Int) ∧ vt = .int .i64 (2 * (m : Int) + 1) ∧ vi = .int .i64 1) ∨ (vk = .int .i64 (k2 : Int) ∧ vt = .int .i64 (2 * (m : Int) + 1 + 1) ∧ vi = .int .i64 2)) ∧ w3 = wr) (fun _ _ vi _ => 5 - (intOf vi).toNat)
            case atStart => exact ⟨.inl ⟨rfl, rfl, rfl⟩, rfl⟩
            case round =>
              obtain ⟨hs, rfl⟩ := hrel
              rcases hs with ⟨rfl, rfl, rfl⟩ | ⟨rfl, rfl, rfl⟩ | ⟨rfl, rfl, rfl⟩
              · rcases e1 with ⟨a1, a2, a3⟩ | ⟨a1, a2⟩
                · rw [a1] at d0
                  have hkk : ((k : Int) == 0) = false := by simp; omega
                  clear a1
                  go_wp2_with fail
                  go_roundw
                  case rel => exact ⟨.inr (.inl ⟨int_eq (by omega), rfl, rfl⟩), trivial⟩
                  case measure => simp [intOf]
                · have hne : ((x.q : Int) == (q : Int)) = false := by simp; omega
                  subst a2
                  go_wp2_with fail
                  go_roundw
                  case rel => exact ⟨.inr (.inl ⟨rfl, rfl, rfl⟩), trivial⟩
                  case measure => simp [intOf]
              · rcases e2 with ⟨a1, a2, a3⟩ | ⟨a1, a2⟩
                · rw [a1] at d2
                  have hkk : ((k1 : Int) == 0) = false := by simp; omega
                  clear a1 e1
                  go_wp2_with fail
                  go_roundw
                  case rel => exact ⟨.inr (.inr ⟨int_eq (by omega), rfl, rfl⟩), trivial⟩
                  case measure => simp [intOf]
                · have hne : ((y.q : Int) == (q : Int)) = false := by simp; omega
                  subst a2
                  clear e1
                  go_wp2_with fail
                  go_roundw
                  case rel => exact ⟨.inr (.inr ⟨rfl, rfl, rfl⟩), trivial⟩
                  case measure => simp [intOf]
              · clear d0 d2
                go_wp2_with fail
                go_roundw
                case rel => exact ⟨m + 1, k2, fe.t, V3, fe.Q, rfl, int_eq (by omega), int_eq (by omega), by omega, by omega, HS3, HF3, hb3⟩
                case measure => simp [intOf]; omega

theorem fifoFair_own : ownKnob Try.prog.godebug = none := by kernel_rfl
theorem fifoFair_laidOut : laidOutB Try.prog = true := by kernel_rfl
set_option maxRecDepth 100000 in
theorem fifoFair_lifted (os : Os) (started : os.Started) (H : Type) (enc : TypeId × Value → H) :
    ReturnsInHanded {} Try.checked os 6 .any (Rows.fifoFairSpec.pre6 enc Try.prog Try.f6 Rows.fifoFairRow.domain false) (Rows.fifoFairSpec.post enc Try.prog Try.f6 false true false false) := by
  refine returnsInHanded_of_change (C := Try.checked) fifoFair_own started (by kernel_rfl) Try.func6
    (ChangeSpec.witness6 (enc := enc) (C := Try.checked) false ⟨#[], #[.slice none 0 0, .int .u8 0, .slice none 0 0], []⟩ 8 (by kernel_rfl) (by kernel_rfl) (by kernel_rfl) (by kernel_rfl)) ?_
  intro W base args ds gs before hval0 hW hcnd _
  have hval : ∀ (j : Nat) t v, Try.f6.params[j]? = some t → args[j]? = some v → Value.okWide Try.prog W .any base t v := hval0
  have hW' := hW
  obtain ⟨p, q, hA0, hV, rfl, hfz, hnd⟩ := hW
  have hA : DataW.TrodAll enc Try.prog W 0 (fun _ => true) true Try.f6.params.toList args.toList ds p := hA0
  rw [Try.params6] at hA hval
  obtain ⟨v0, vs0, d0, ds0, p0, q0, hargs, rfl, rfl, h0, r0⟩ := trodAll_cons hA
  obtain ⟨v1, vs1, d1, ds1, p1, q1, rfl, rfl, rfl, h1, r1⟩ := trodAll_cons r0
  obtain ⟨v2, vs2, d2, ds2, p2, q2, rfl, rfl, rfl, h2, r2⟩ := trodAll_cons r1
  obtain ⟨rfl, rfl, rfl⟩ := trodAll_nil r2
  obtain rfl : args = #[v0, v1, v2] := by cases args; simp_all
  obtain ⟨rfl, rfl⟩ := trodVars_none hV
  have k0 := h0
  have lt0 : ∀ x ∈ p0, x.block < W.heap.size := by obtain ⟨m, hm⟩ := k0; exact DataW.trod_lt m _ _ _ hm
  have k1 := h1
  have lt1 : ∀ x ∈ p1, x.block < W.heap.size := by obtain ⟨m, hm⟩ := k1; exact DataW.trod_lt m _ _ _ hm
  have k2 := h2
  have lt2 : ∀ x ∈ p2, x.block < W.heap.size := by obtain ⟨m, hm⟩ := k2; exact DataW.trod_lt m _ _ _ hm
  obtain ⟨A, len, cap, rfl⟩ := okWide_slice Try.underlying34 (hval 0 34 v0 rfl rfl)
  obtain ⟨zs, hlen, hz⟩ := open_acts h0
  subst hlen
  obtain ⟨a1, rfl, rfl, rfl, w1⟩ := open_int Try.underlying5 (hval 1 5 v1 rfl rfl) h1
  have b1 := bounds_u8 w1
  obtain ⟨n1, rfl⟩ : ∃ n : Nat, a1 = (n : Int) := ⟨a1.toNat, by omega⟩
  obtain ⟨A2, len2, cap2, rfl⟩ := okWide_slice Try.underlying54 (hval 2 54 v2 rfl rfl)
  obtain ⟨bss, hlen2, hz2⟩ := open_rows h2
  subst hlen2
  clear hA0 hval0
  clear hcnd
  refine (fair_any A A2 cap cap2 zs n1 bss W hz (by omega) hz2).mono fun e W' ⟨he, bel⟩ => ?_
  subst he
  exact ⟨_, rfl, _, _, _, [], _, [], hW', trodAll_mk1 (shut_bool Try.underlying4 _), (trodAll_cons_mk (Below.trod fifoFair_laidOut (by kernel_rfl) (of_decide_eq_true (by kernel_rfl)) k0 bel lt0) (trodAll_cons_mk (Below.trod fifoFair_laidOut (by kernel_rfl) (of_decide_eq_true (by kernel_rfl)) k1 bel lt1) (trodAll_cons_mk (Below.trod fifoFair_laidOut (by kernel_rfl) (of_decide_eq_true (by kernel_rfl)) k2 bel lt2) trodAll_mk0))), rfl, bel.frame _, fun h => by cases h⟩

theorem fifoFair_over : Rows.fifoFairRow.holds Try.pinned (OpenSpec.ofChange Rows.fifoFairSpec) :=
  OpenClaim.holds_of_wide 6 Try.f6 rfl rfl rfl rfl rfl rfl rfl ⟨rfl, rfl, rfl, rfl, rfl⟩ rfl rfl rfl rfl rfl (by kernel_rfl) Try.func6 (by kernel_rfl)
    (of_decide_eq_true (by kernel_rfl)) (by unfold Func.isWrapper; first | (rw [if_pos (by decide +kernel)]; kernel_rfl) | (rw [if_neg (by decide +kernel)]; exact ⟨rfl, rfl⟩))
    (fun os started H enc _ => fifoFair_lifted os started H enc)

/-- The given statement. -/
theorem fifoFair_proved : Rows.FifoFairSaid := fifoFair_over
#print axioms fifoFair_proved
end Go.Proofs.Ytacddiidldppnaa
