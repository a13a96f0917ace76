/- FifoTurns: drains, one behind the other, tell what one drain of as many does. The walk. -/
import Derived.Test.YtacddiidldppnaaRows
import Derived.Test.YtacddiidldppnaaTwo
import Derived.Test.YtacddiidldppnaaOpen
import Derived.BigRegion
import Derived.RegionTactic
import Derived.Deep.RegionWith
namespace Go.Proofs.Ytacddiidldppnaa
open Go.ChangeShapes Go.WideShapes Go.ChangeAt Go.RowKit

/-- Put, whether there is room or not. -/
def putQ (Q : Nat → List Nat) (q id : Nat) : Nat → List Nat := if (Q q).length < 4 then upd Q q (Q q ++ [id]) else Q
def PutAny (B g : Nat) (V : Nat → Value) (Q : Nat → List Nat) (t q id : Nat) (b : Bool) (w : World) (e : Ending) (w' : World) : Prop := e = .returned (.bool b) ∧ ∃ V', FifoAt B w' g V' (putQ Q q id) t ∧ Moved B g V V' w w'
theorem put_any {B : Nat} {w : World} {g : Nat} {V : Nat → Value} {Q : Nat → List Nat} {t : Nat} (h : FifoAt B w g V Q t) (q id : Nat) (qi di : Int) (b : Bool) (h1 : qi = q) (h2 : di = id) (hq : q < 5) (hb : decide ((Q q).length < 4) = b) :
    Calls Try.prog 10 #[.pointer (some ⟨g, 0, none⟩), .int .i64 qi, .int .u64 di] w (PutAny B g V Q t q id b w) := by
  subst h1 h2 hb
  by_cases hl : (Q q).length < 4
  · refine (put_yes h q id hq hl).mono ?_
    rintro e w' ⟨rfl, V', h1, h2⟩
    refine ⟨by rw [decide_eq_true hl], V', ?_, h2⟩
    unfold putQ
    rw [if_pos hl]
    exact h1
  · refine (put_full h q id hq (by omega)).mono ?_
    rintro e w' ⟨rfl, rfl⟩
    refine ⟨by rw [decide_eq_false hl], V, ?_, Moved.refl _ _ _ _⟩
    unfold putQ
    rw [if_neg hl]
    exact h

set_option maxRecDepth 100000 in
set_option maxHeartbeats 2000000 in
theorem turns_any (A C : Option Addr) (capA capC : Nat) (qs ns : List Nat) (w : World) (ha : BytesAt w A qs) (hc : BytesAt w C ns) :
    Calls Try.prog 3 #[.slice A qs.length capA, .slice C ns.length capC] w fun e w' => e = .returned (.bool true) ∧ Below w.heap.size w w' := by
  by_cases h60 : 60 < qs.length
  · go_enter Try.func3, Try.ntmps3
    go_wp2_with fail
    refine (awake_any _).mono ?_
    rintro e w2 ⟨rfl, hb2⟩
    go_wp2_with fail
    go_ret
    exact ⟨rfl, hb2⟩
  by_cases h20 : 20 < ns.length
  · go_enter Try.func3, Try.ntmps3
    go_wp2_with fail
    refine (awake_any _).mono ?_
    rintro e w2 ⟨rfl, hb2⟩
    go_wp2_with fail
    go_ret
    exact ⟨rfl, hb2⟩
  go_enter Try.func3, Try.ntmps3
  go_wp2_with fail
  refine (new_any _).mono ?_
  rintro e w1 ⟨ga, rfl, fa, b1⟩
  go_wp2_with fail
  refine (new_any _).mono ?_
  rintro e w2 ⟨gb, rfl, fb, b2⟩
  have hd : Dis ga (fun _ => .slice none 0 0) gb (fun _ => .slice none 0 0) := ⟨fun e => by have := lt_of_block fa.head; have := fb.base; omega, fun p q _ _ h e => by simp [Value.ownBlock] at e⟩
  have fa2 := fa.below b2
  have fb2 := fb.mono b1.size
  have hb2 := b1.trans (b2.mono b1.size)
  have HA := Lib.hid fa2
  have HB := Lib.hid fb2
  have HD := Lib.hid hd
  clear fa fb fa2 fb2 hd b1 b2
  go_wp2_with fail
  go_loopw [7] (fun i wr => ∃ (k : Nat) (Q : Nat → List Nat) (Va Vb : Nat → Value), k ≤ qs.length ∧ i = .int .i64 k ∧ Hid (FifoAt w.heap.size wr ga Va Q 0) ∧ Hid (FifoAt w.heap.size wr gb Vb Q 0) ∧ Hid (Dis ga Va gb Vb) ∧ Below w.heap.size w wr) (fun i _ => qs.length - (intOf i).toNat)
  case atStart => exact ⟨0, _, _, _, Nat.zero_le _, rfl, HA, HB, HD, hb2⟩
  case round =>
    clear HA HB HD hb2
    obtain ⟨k, Q, Va, Vb, hk, rfl, HA, HB, HD, hb⟩ := hrel
    by_cases hlt : k < qs.length
    · obtain ⟨ab, off, rfl, a0, hy⟩ := ha k hlt
      obtain ⟨y, hy'⟩ : ∃ y, qs[k] = y := ⟨_, rfl⟩
      rw [hy'] at a0 hy
      obtain ⟨q, hq⟩ : ∃ q, y % 5 = q := ⟨_, rfl⟩
      have hq5 : q < 5 := by omega
      have hyq : ((y : Int) % 5) = (q : Int) := by omega
      obtain ⟨bb, hbb⟩ : ∃ bb, decide ((Q q).length < 4) = bb := ⟨_, rfl⟩
      have HBB := Lib.hid hbb
      have a1 := (hb.cell (World.block_lt_of_cell? w _ a0)).trans a0
      have H0 := Lib.hid a0
      clear hy' hq hbb a0
      have i1 : (0 : Int) ≤ (k : Int) := by omega
      have i2 : (k : Int) < (qs.length : Int) := by omega
      go_wp2_with fail
      have HAd : Hid (FifoAt w.heap.size wr.drew ga Va Q 0) := Lib.hid (HA.out.draws 1)
      have HBd : Hid (FifoAt w.heap.size wr.drew gb Vb Q 0) := Lib.hid (HB.out.draws 1)
      have hbd : Below w.heap.size w wr.drew := blw_draws hb 1
      have hDM := fun (w' : World) (Va' : Nat → Value) (m : Moved w.heap.size ga Va Va' wr.drew w') => HD.out.move HAd.out HBd.out m
      have HDM := Lib.hid hDM
      clear hDM HA HB hb
      have w1 : IntKind.i64.wrap (q : Int) = (q : Int) := by rw [IntKind.wrap_i64]; omega
      have w2 : IntKind.u64.wrap (k : Int) = (k : Int) := by rw [IntKind.wrap_u64]; omega
      have w3 : (y : Int).tmod 5 = (q : Int) := by rw [Int.tmod_eq_emod_of_nonneg (by omega)]; exact hyq
      go_region_with (first
        | (go_at_call 10; (with_reducible refine (put_any HAd.out q k (q : Int) (k : Int) bb rfl rfl hq5 HBB.out).mono ?_); rintro e w3 ⟨rfl, Va', fa3, m3⟩; have MM := Lib.hid m3; have FA3 := Lib.hid fa3; have a3 := (((hbd.trans m3.below).cell (World.block_lt_of_cell? w _ H0.out)).trans H0.out); clear m3 fa3)
        | (go_at_call 10; (with_reducible refine (put_any (HDM.out _ _ MM.out).1 q k (q : Int) (k : Int) bb rfl rfl hq5 HBB.out).mono ?_); rintro e w4 ⟨rfl, Vb', fb4, m4⟩; have MM4 := Lib.hid m4; have FB4 := Lib.hid fb4; clear m4 fb4))
      all_goals
        go_wp2_with fail
        go_roundw
        case rel =>
          obtain ⟨fb3, d3⟩ := HDM.out _ _ MM.out
          obtain ⟨fa4, d4⟩ := d3.symm.move fb3 FA3.out MM4.out
          exact ⟨k + 1, putQ Q q k, _, _, by omega, by go_num, Lib.hid fa4, FB4, Lib.hid d4.symm, (hbd.trans MM.out.below).trans MM4.out.below⟩
        case measure => simp [intOf]; omega
    · obtain rfl : k = qs.length := by omega
      clear ha hlt hk
      go_wp2_with fail
      go_loopw [8, 9, 10] (fun v n i wr => ∃ (k N : Nat) (L : List It) (Va' : Nat → Value), k ≤ ns.length ∧ i = .int .i64 k ∧ n = .int .i64 (N : Int) ∧ N ≤ k * 6 ∧ Hid ((drainF N ⟨Q, 0⟩).2 = L) ∧ Hid (Items wr w.heap.size v L) ∧ Hid (FifoAt w.heap.size wr ga Va' (drainF N ⟨Q, 0⟩).1.Q (drainF N ⟨Q, 0⟩).1.t) ∧ Hid (FifoAt w.heap.size wr gb Vb Q 0) ∧ Hid (Dis ga Va' gb Vb) ∧ Below w.heap.size w wr) (fun _ _ i _ => ns.length - (intOf i).toNat)
      case atStart => exact ⟨0, 0, [], Va, Nat.zero_le _, rfl, rfl, Nat.zero_le _, Lib.hid rfl, Lib.hid (Items.nil _ _), HA, HB, HD, hb⟩
      case round =>
        clear HA HD hb
        obtain ⟨k, N, L, Va', hk, rfl, rfl, hN, HL, HI, HA, HB2, HD, hb⟩ := hrel
        obtain ⟨A1, cap1, hv1, _, _⟩ := HI.out.form
        subst hv1
        by_cases hlt : k < ns.length
        · obtain ⟨ab, off, rfl, a0, hy⟩ := hc k hlt
          obtain ⟨y, hy'⟩ : ∃ y, ns[k] = y := ⟨_, rfl⟩
          rw [hy'] at a0 hy
          obtain ⟨m, hm⟩ : ∃ m, y % 7 = m := ⟨_, rfl⟩
          have hm7 : m < 7 := by omega
          have hym : ((y : Int) % 7) = (m : Int) := by omega
          have a1 := (hb.cell (World.block_lt_of_cell? w _ a0)).trans a0
          have H0 := Lib.hid a0
          clear hy' hm a0
          obtain ⟨L', hL'⟩ : ∃ L', (drainF m ⟨(drainF N ⟨Q, 0⟩).1.Q, (drainF N ⟨Q, 0⟩).1.t⟩).2 = L' := ⟨_, rfl⟩
          have hlen := drainF_total N ⟨Q, 0⟩
          have hlen2 := drainF_total m ⟨(drainF N ⟨Q, 0⟩).1.Q, (drainF N ⟨Q, 0⟩).1.t⟩
          have hl20 : L.length + L'.length ≤ 20 := by
            have := HB2.out.total_le
            rw [HL.out] at hlen
            rw [hL'] at hlen2
            simp only at hlen hlen2
            omega
          have HL' := Lib.hid hL'
          clear hlen hlen2 hL'
          go_wp2_with fail
          refine (drain_for HA.out m (m : Int) rfl L' HL'.out).mono ?_
          rintro e w3 ⟨v3, Va3, rfl, i3, f3, m3⟩
          obtain ⟨fb3, d3⟩ := HD.out.move HA.out HB2.out m3
          have hi3 := HI.out.moved HA.out m3
          have hb3 := hb.trans m3.below
          have a3 := (hb3.cell (World.block_lt_of_cell? w _ H0.out)).trans H0.out
          have hsz3 := hb3.size
          have FA3 := Lib.hid f3
          have FB3 := Lib.hid fb3
          have D3 := Lib.hid d3
          have HI3 := Lib.hid hi3
          have HU3 := Lib.hid i3
          clear f3 fb3 d3 hi3 i3 m3 HA HB2 HD HI a1
          go_wp2_with (at_builtin; refine append_items rfl (.tmp 57) (.tmp 65) (by rfl) _ w.heap.size _ (.slice A1 L.length cap1) v3 L L' rfl rfl HI3.out HU3.out (by omega) hsz3 ?_; intro v4 w4 hi4 hg4; have hb4 := hb3.grown hg4 hsz3 (fun k hk => (HI3.out.row k hk).1); have a4 := (hb4.cell (World.block_lt_of_cell? w _ H0.out)).trans H0.out)
          go_roundw
          case rel =>
            have hf := drainF_add N m ⟨Q, 0⟩
            have e2 : (drainF (N + m) ⟨Q, 0⟩).2 = L ++ L' := by rw [hf, ← HL.out, ← HL'.out]
            have e1 : (drainF (N + m) ⟨Q, 0⟩).1 = (drainF m ⟨(drainF N ⟨Q, 0⟩).1.Q, (drainF N ⟨Q, 0⟩).1.t⟩).1 := by rw [hf]
            refine ⟨k + 1, N + m, L ++ L', Va3, by omega, by go_num, by go_num, by omega, Lib.hid e2, Lib.hid hi4, Lib.hid ?_, Lib.hid (FB3.out.grown HI3.out hg4), D3, hb4⟩
            rw [e1]
            exact FA3.out.grown HI3.out hg4
          case measure => simp [intOf]; omega
        · obtain rfl : k = ns.length := by omega
          clear hc hlt hk
          go_wp2_with fail
          refine (drain_for HB2.out N (N : Int) rfl L HL.out).mono ?_
          rintro e w3 ⟨v3, Vb3, rfl, i3, f3, m3⟩
          obtain ⟨fa3, d3⟩ := HD.out.symm.move HB2.out HA.out m3
          have hi3 := HI.out.moved HB2.out m3
          have hb3 := hb.trans m3.below
          obtain ⟨A3, cap3, rfl, _, hc3⟩ := i3.form
          obtain ⟨_, _, he, _, hc1⟩ := hi3.form
          cases he
          have hl20 : L.length ≤ 20 := by
            have hlen := drainF_total N ⟨Q, 0⟩
            have := HB2.out.total_le
            rw [HL.out] at hlen
            simp only at hlen
            omega
          obtain ⟨T, hT⟩ : ∃ T, (drainF N ⟨Q, 0⟩).1.t = T := ⟨_, rfl⟩
          rw [hT] at f3 fa3
          have FA3 := Lib.hid fa3
          have FB3 := Lib.hid f3
          have HC3 := Lib.hid hc3
          have HC1 := Lib.hid hc1
          clear f3 fa3 d3 hi3 i3 m3 HA HB2 HD HI HL hT hc1 hc3 hb
          go_wp2_with fail
          refine (turn_for FA3.out T rfl).mono ?_
          rintro e w4 ⟨rfl, hw⟩
          rw [hw]
          clear hw w4
          go_wp2_with fail
          refine (turn_for FB3.out T rfl).mono ?_
          rintro e w4 ⟨rfl, hw⟩
          rw [hw]
          clear hw w4 FA3 FB3
          go_wp2_with fail
          go_loopw [12] (fun i wr => ∃ (k : Nat), k ≤ L.length ∧ i = .int .i64 k ∧ Below w3.heap.size w3 wr) (fun i _ => L.length - (intOf i).toNat)
          case atStart => exact ⟨0, Nat.zero_le _, rfl, Below.refl _ _⟩
          case round =>
            obtain ⟨k, hk, rfl, hbr⟩ := hrel
            by_cases hlt : k < L.length
            · obtain ⟨g1, rfl, _, hl1, c0, c1⟩ := HC1.out k hlt
              obtain ⟨g3, rfl, _, hl3, d0, d1⟩ := HC3.out k hlt
              have c0' := (hbr.cell (p := ⟨g1, k * 2, none⟩) hl1).trans c0
              have c1' := (hbr.cell (p := ⟨g1, k * 2 + 1, none⟩) hl1).trans c1
              have d0' := (hbr.cell (p := ⟨g3, k * 2, none⟩) hl3).trans d0
              have d1' := (hbr.cell (p := ⟨g3, k * 2 + 1, none⟩) hl3).trans d1
              obtain ⟨x, hx⟩ : ∃ x, L[k] = x := ⟨_, rfl⟩
              rw [hx] at c0' c1' d0' d1'
              clear hx c0 c1 d0 d1
              have i1 : (0 : Int) ≤ (k : Int) := by omega
              have i2 : (k : Int) < (L.length : Int) := by omega
              go_wp2_with fail
              go_quiet (fail)
              go_wp2_with fail
              go_roundw
              case rel => exact ⟨k + 1, by omega, by go_num, blw_draws hbr _⟩
              case measure => simp [intOf]; omega
            · go_wp2_with fail
              refine (awake_any _).mono ?_
              rintro e w5 ⟨rfl, d5⟩
              go_wp2_with fail
              go_ret
              exact ⟨rfl, (hb3.trans (hbr.mono hb3.size)).trans (d5.mono (Nat.le_trans hb3.size hbr.size))⟩

theorem fifoTurns_own : ownKnob Try.prog.godebug = none := by kernel_rfl
theorem fifoTurns_laidOut : laidOutB Try.prog = true := by kernel_rfl
set_option maxRecDepth 100000 in
theorem fifoTurns_lifted (os : Os) (started : os.Started) (H : Type) (enc : TypeId × Value → H) :
    ReturnsInHanded {} Try.checked os 3 .any (Rows.fifoTurnsSpec.pre6 enc Try.prog Try.f3 Rows.fifoTurnsRow.domain false) (Rows.fifoTurnsSpec.post enc Try.prog Try.f3 false true false false) := by
  refine returnsInHanded_of_change (C := Try.checked) fifoTurns_own started (by kernel_rfl) Try.func3
    (ChangeSpec.witness6 (enc := enc) (C := Try.checked) false ⟨#[], #[.slice none 0 0, .slice none 0 0], []⟩ 8 (by kernel_rfl) (by kernel_rfl) (by kernel_rfl) (by kernel_rfl)) ?_
  intro W base args ds gs before hval0 hW hcnd _
  have hval : ∀ (j : Nat) t v, Try.f3.params[j]? = some t → args[j]? = some v → Value.okWide Try.prog W .any base t v := hval0
  have hW' := hW
  obtain ⟨p, q, hA0, hV, rfl, hfz, hnd⟩ := hW
  have hA : DataW.TrodAll enc Try.prog W 0 (fun _ => true) true Try.f3.params.toList args.toList ds p := hA0
  rw [Try.params3] at hA hval
  obtain ⟨v0, vs0, d0, ds0, p0, q0, hargs, rfl, rfl, h0, r0⟩ := trodAll_cons hA
  obtain ⟨v1, vs1, d1, ds1, p1, q1, rfl, rfl, rfl, h1, r1⟩ := trodAll_cons r0
  obtain ⟨rfl, rfl, rfl⟩ := trodAll_nil r1
  obtain rfl : args = #[v0, v1] := by cases args; simp_all
  obtain ⟨rfl, rfl⟩ := trodVars_none hV
  have k0 := h0
  have lt0 : ∀ x ∈ p0, x.block < W.heap.size := by obtain ⟨m, hm⟩ := k0; exact DataW.trod_lt m _ _ _ hm
  have k1 := h1
  have lt1 : ∀ x ∈ p1, x.block < W.heap.size := by obtain ⟨m, hm⟩ := k1; exact DataW.trod_lt m _ _ _ hm
  obtain ⟨A, len, cap, rfl⟩ := okWide_slice Try.underlying22 (hval 0 22 v0 rfl rfl)
  obtain ⟨zs, hlen, hz⟩ := open_bytes h0
  subst hlen
  obtain ⟨A1, len1, cap1, rfl⟩ := okWide_slice Try.underlying22 (hval 1 22 v1 rfl rfl)
  obtain ⟨zs1, hlen1, hz1⟩ := open_bytes h1
  subst hlen1
  clear hA0 hval0
  clear hcnd
  refine (turns_any A A1 cap cap1 zs zs1 W hz hz1).mono fun e W' ⟨he, bel⟩ => ?_
  subst he
  exact ⟨_, rfl, _, _, _, [], _, [], hW', trodAll_mk1 (shut_bool Try.underlying4 _), (trodAll_cons_mk (Below.trod fifoTurns_laidOut (by kernel_rfl) (of_decide_eq_true (by kernel_rfl)) k0 bel lt0) (trodAll_cons_mk (Below.trod fifoTurns_laidOut (by kernel_rfl) (of_decide_eq_true (by kernel_rfl)) k1 bel lt1) trodAll_mk0)), rfl, bel.frame _, fun h => by cases h⟩

theorem fifoTurns_over : Rows.fifoTurnsRow.holds Try.pinned (OpenSpec.ofChange Rows.fifoTurnsSpec) :=
  OpenClaim.holds_of_wide 3 Try.f3 rfl rfl rfl rfl rfl rfl rfl ⟨rfl, rfl, rfl, rfl, rfl⟩ rfl rfl rfl rfl rfl (by kernel_rfl) Try.func3 (by kernel_rfl)
    (of_decide_eq_true (by kernel_rfl)) (by unfold Func.isWrapper; first | (rw [if_pos (by decide +kernel)]; kernel_rfl) | (rw [if_neg (by decide +kernel)]; exact ⟨rfl, rfl⟩))
    (fun os started H enc _ => fifoTurns_lifted os started H enc)

/-- The given statement. -/
theorem fifoTurns_proved : Rows.FifoTurnsSaid := fifoTurns_over
#print axioms fifoTurns_proved
end Go.Proofs.Ytacddiidldppnaa
