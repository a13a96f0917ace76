/- FifoOwn: whether a queue takes an item, how many it has, and in which order its own are told, hangs on its own items alone. The walk and the proved row; no condition. -/
import Derived.Test.YtacddiidldppnaaRows
import Derived.Test.YtacddiidldppnaaGives
import Derived.Test.YtacddiidldppnaaOpen
import Derived.ProofKit
import Derived.OpenShut
import Derived.Deep.DeepCutAuto
import Derived.Deep.CutBlock
namespace Go.Proofs.Ytacddiidldppnaa
open Go.ChangeShapes Go.WideShapes Go.ChangeAt Go.RowKit

set_option maxRecDepth 100000 in
set_option maxHeartbeats 4000000 in
theorem own_any (A : Option Addr) (cap : Nat) (l : List Act4) (w : World) (ha : ActsAt w A l) :
    Calls Try.prog 7 #[.slice A l.length cap] w fun e w' => e = .returned (.bool true) ∧ Below w.heap.size w w' := by
  by_cases h200 : 200 < l.length
  · go_enter Try.func7, Try.ntmps7
    go_wp2_with fail
    refine (awake_any _).mono ?_
    rintro e w2 ⟨rfl, hb2⟩
    go_wp2_with fail
    go_ret
    exact ⟨rfl, hb2⟩
  go_enter Try.func7, Try.ntmps7
  go_wp2_with fail
  refine (new_any _).mono ?_
  rintro e w1 ⟨g, rfl, f1, b1⟩
  go_wp2_with fail
  have hf := (f1.below ((Below.refl _ _).alloc (Nat.le_refl _) (.cells #[.int .u64 0, .int .u64 0, .int .u64 0, .int .u64 0, .int .u64 0] 56))).below ((Below.refl _ _).alloc (Nat.le_refl _) (.cells #[.int .u64 0, .int .u64 0, .int .u64 0, .int .u64 0, .int .u64 0] 56))
  have hP : Arr ((w1.alloc (.cells #[.int .u64 0, .int .u64 0, .int .u64 0, .int .u64 0, .int .u64 0] 56)).alloc (.cells #[.int .u64 0, .int .u64 0, .int .u64 0, .int .u64 0, .int .u64 0] 56)) w1.heap.size (fun _ => 0) := Arr.below (f := fun _ => 0) (heap_alloc_last w1 _) ((Below.refl _ _).alloc (Nat.le_refl _) _)
  have hT : Arr ((w1.alloc (.cells #[.int .u64 0, .int .u64 0, .int .u64 0, .int .u64 0, .int .u64 0] 56)).alloc (.cells #[.int .u64 0, .int .u64 0, .int .u64 0, .int .u64 0, .int .u64 0] 56)) (w1.heap.size + 1) (fun _ => 0) := heap_alloc2_new w1 _ _
  have hb := (b1.alloc b1.size (.cells #[.int .u64 0, .int .u64 0, .int .u64 0, .int .u64 0, .int .u64 0] 56)).alloc (by have := b1.size; simp; omega) (.cells #[.int .u64 0, .int .u64 0, .int .u64 0, .int .u64 0, .int .u64 0] 56)
  have hg4 := b1.size
  have hg5 : w.heap.size ≤ w1.heap.size + 1 := by omega
  have hne : w1.heap.size ≠ w1.heap.size + 1 := by omega
  clear f1 b1
  generalize (w1.alloc (.cells #[.int .u64 0, .int .u64 0, .int .u64 0, .int .u64 0, .int .u64 0] 56)).alloc (.cells #[.int .u64 0, .int .u64 0, .int .u64 0, .int .u64 0, .int .u64 0] 56) = W at hf hP hT hb ⊢
  generalize w1.heap.size + 1 = g5 at hT hg5 hne ⊢
  generalize w1.heap.size = g4 at hP hg4 hne ⊢
  go_loopw [6] (fun i wr => ∃ (k : Nat) (P T : Nat → Nat) (V : Nat → Value) (Q : Nat → List Nat) (t : Nat), k ≤ l.length ∧ i = .int .i64 k ∧ Hid (Own k P T Q) ∧ Hid (FifoAt w.heap.size wr g V Q t) ∧ Hid (Arr wr g4 P) ∧ Hid (Arr wr g5 T) ∧ Below w.heap.size w wr) (fun i _ => l.length - (intOf i).toNat)
  case atStart => exact ⟨0, _, _, _, _, 0, Nat.zero_le _, rfl, Lib.hid Own.start, Lib.hid hf, Lib.hid hP, Lib.hid hT, hb⟩
  case round =>
    clear hf hP hT hb
    obtain ⟨k, P, T, V, Q, t, hk, rfl, HO, HF, HP, HT, hb⟩ := hrel
    by_cases hlt : k < l.length
    · obtain ⟨ab, off, rfl, c0, c1, c2, c3, hd⟩ := ha k hlt
      obtain ⟨act, hact⟩ : ∃ act, l[k] = act := ⟨_, rfl⟩
      rw [hact] at c0 c1 c2 c3 hd
      clear hact c3
      obtain ⟨d, q, n, id⟩ := act
      simp only at c0 c1 c2 hd
      have c0' := (hb.cell (World.block_lt_of_cell? w _ c0)).trans c0
      have c1' := (hb.cell (World.block_lt_of_cell? w _ c1)).trans c1
      have c2' := (hb.cell (World.block_lt_of_cell? w _ c2)).trans c2
      clear c0 c1 c2
      go_upto_block 2 with (fail)
      go_cut [7] (fun v wx => ∃ (P T : Nat → Nat) (V : Nat → Value) (Q Q' : Nat → List Nat) (t : Nat) (L : List It), Hid (Own (k + 1) P T Q) ∧ Hid (Gives Q L Q') ∧ L.length ≤ 20 ∧ Hid (Items wx w.heap.size v L) ∧ Hid (FifoAt w.heap.size wx g V Q' t) ∧ Hid (Arr wx g4 P) ∧ Hid (Arr wx g5 T) ∧ Below w.heap.size w wx)
      case first =>
        by_cases h0 : d = 0
        · subst h0
          by_cases hq : 0 ≤ q ∧ q < 5
          case neg =>
            by_cases hq0 : q < 0
            case pos =>
              go_wp2_with fail
              refine (put_none HF.out q 1 hq).mono ?_
              rintro e w2 ⟨rfl, hw⟩
              rw [hw]
              clear hw w2
              go_wp2_with fail
              go_roundw
              case rel => exact ⟨k + 1, P, T, V, Q, t, by omega, by go_num, Lib.hid HO.out.skip, HF, HP, HT, hb⟩
              case measure => simp [intOf]; omega
            case neg =>
              have hq4 : 4 < q := by omega
              go_wp2_with fail
              refine (put_none HF.out q 1 hq).mono ?_
              rintro e w2 ⟨rfl, hw⟩
              rw [hw]
              clear hw w2
              go_wp2_with fail
              go_roundw
              case rel => exact ⟨k + 1, P, T, V, Q, t, by omega, by go_num, Lib.hid HO.out.skip, HF, HP, HT, hb⟩
              case measure => simp [intOf]; omega
          case pos =>
            obtain ⟨p, rfl⟩ : ∃ p : Nat, q = (p : Int) := ⟨q.toNat, by omega⟩
            have hp5 : p < 5 := by omega
            obtain ⟨o1, o2, o3⟩ := HO.out p hp5
            have hln := HO.out.len hp5
            have r4 := HP.out.cell p hp5
            have r5 := HT.out.cell p hp5
            have f4 := HP.out.frozen p
            have f5 := HT.out.frozen p
            have i1 : (0 : Int) ≤ (p : Int) := by omega
            have i2 : (p : Int) < 5 := by omega
            obtain ⟨a, ha'⟩ : ∃ a, P p = a := ⟨_, rfl⟩
            obtain ⟨b, hb'⟩ : ∃ b, T p = b := ⟨_, rfl⟩
            rw [ha', hb'] at o1 hln
            rw [ha'] at r4 o2
            rw [hb'] at r5
            have HPA := Lib.hid ha'
            have HLN := Lib.hid hln
            clear ha' hb' o3 hln
            have wsub : IntKind.u64.wrap ((a : Int) - (b : Int)) = (a : Int) - (b : Int) := by rw [IntKind.wrap_u64]; omega
            by_cases hroom : a - b < 4
            case pos =>
              have hr : decide ((a : Int) - (b : Int) < 4) = true := decide_eq_true (by omega)
              go_wp2_with fail
              go_quiet (fail)
              clear wsub
              go_wp2_with fail
              refine (put_for (HF.out.draws nq) p (a + 1) (p : Int) ((a : Int) + 1) rfl (by omega) hp5 (by rw [HLN.out]; exact hroom)).mono ?_
              rintro e w3 ⟨rfl, V2, f2, m2⟩
              have HFd := Lib.hid (HF.out.draws nq)
              have hp3 : Arr w3 g4 P := Arr.moved (w := wr.drewN nq) HP.out HFd.out m2
              have ht3 : Arr w3 g5 T := Arr.moved (w := wr.drewN nq) HT.out HFd.out m2
              have hb3 := (blw_draws hb nq).trans m2.below
              have s4 := hp3.cell p hp5
              rw [HPA.out] at s4
              have t4 := hp3.frozen p
              have HP3 := Lib.hid hp3
              have HT3 := Lib.hid ht3
              have HF3 := Lib.hid f2
              clear hp3 ht3 f2 m2 r4 r5 f4 f5
              go_wp2_with fail
              go_meet
              refine ⟨upd P p (a + 1), T, V2, upd Q p (Q p ++ [a + 1]), _, t, [], Lib.hid ?_, Lib.hid rfl, by simp, Lib.hid (Items.nil _ _), Lib.hid (HF3.out.arr HP3.out p _), Lib.hid (HP3.out.set hp5 (a + 1)), Lib.hid (HT3.out.other (p := ⟨g4, p, none⟩) hne _), hb3.setCell (by exact hg4) _⟩
              have := HO.out.put hp5
              rw [HPA.out] at this
              exact this
            case neg =>
              have hr : decide ((a : Int) - (b : Int) < 4) = false := decide_eq_false (by omega)
              go_wp2_with fail
              go_quiet (fail)
              clear wsub
              go_wp2_with fail
              refine (put_full (HF.out.draws nq) p ((a : Int) + 1) hp5 (by rw [HLN.out]; omega)).mono ?_
              rintro e w3 ⟨rfl, hw⟩
              rw [hw]
              clear hw w3
              go_wp2_with fail
              go_meet
              exact ⟨P, T, V, Q, _, t, [], Lib.hid HO.out.skip, Lib.hid rfl, by simp, Lib.hid (Items.nil _ _), Lib.hid (HF.out.draws nq), HP, HT, blw_draws hb nq⟩
        · by_cases h1 : d = 1
          · subst h1
            go_wp2_with fail
            refine (drain_any HF.out n).mono ?_
            rintro e w2 ⟨v, V2, rfl, i2, f2, m2⟩
            have hlen := drainF_total n.toNat ⟨Q, t⟩
            have hg := gives_drain n.toNat ⟨Q, t⟩
            go_wp2_with fail
            go_meet
            exact ⟨P, T, V2, Q, _, _, _, Lib.hid HO.out.skip, Lib.hid hg, by have := HF.out.total_le; (try simp only at hlen); omega, Lib.hid (i2.mono hb.size), Lib.hid f2, Lib.hid (HP.out.moved HF.out m2), Lib.hid (HT.out.moved HF.out m2), hb.trans m2.below⟩
          · by_cases h2 : d = 2
            · subst h2
              go_wp2_with fail
              refine (drop_any HF.out).mono ?_
              rintro e w2 ⟨v, V2, rfl, i2, f2, m2⟩
              have hg := gives_drop Q 5 (Nat.le_refl _)
              have hl := dropL_length Q 5 (Nat.le_refl _) HF.out.room
              go_wp2_with fail
              go_meet
              exact ⟨P, T, V2, Q, _, _, _, Lib.hid HO.out.skip, Lib.hid hg, by omega, Lib.hid (i2.mono hb.size), Lib.hid f2, Lib.hid (HP.out.moved HF.out m2), Lib.hid (HT.out.moved HF.out m2), hb.trans m2.below⟩
            · have e0 : (((d : Nat) : Int) == 0) = false := by simp; omega
              have e1 : (((d : Nat) : Int) == 1) = false := by simp; omega
              have e2 : (((d : Nat) : Int) == 2) = false := by simp; omega
              go_wp2_with fail
              go_meet
              exact ⟨P, T, V, Q, Q, t, [], Lib.hid HO.out.skip, Lib.hid rfl, by simp, Lib.hid (Items.nil _ _), HF, HP, HT, hb⟩
      case rest =>
        obtain ⟨P, T, V, Q, Q', t, L, HO, HG, hL20, HI, HF, HP, HT, hb⟩ := hcut
        rename_i v
        obtain ⟨AI, capI, hv, _, _⟩ := HI.out.form
        subst hv
        go_wp2_with fail
        go_loopw [10] (fun i wr => ∃ (j : Nat) (T : Nat → Nat) (Qj : Nat → List Nat), j ≤ L.length ∧ i = .int .i64 j ∧ Hid (Own (k + 1) P T Qj) ∧ Hid (Gives Qj (L.drop j) Q') ∧ Hid (Items wr w.heap.size (.slice AI L.length capI) L) ∧ Hid (FifoAt w.heap.size wr g V Q' t) ∧ Hid (Arr wr g4 P) ∧ Hid (Arr wr g5 T) ∧ Below w.heap.size w wr) (fun i _ => L.length - (intOf i).toNat)
        case atStart => exact ⟨0, T, Q, Nat.zero_le _, rfl, HO, HG, HI, HF, HP, HT, hb⟩
        case round =>
          clear HO HG HI HF HP HT hb
          obtain ⟨j, T, Qj, hj, rfl, HO, HG, HI, HF, HP, HT, hb⟩ := hrel
          by_cases hjl : j < L.length
          · have hgv := HG.out
            rw [List.drop_eq_getElem_cons hjl] at hgv
            obtain ⟨hxq, r, hxr, hgr⟩ := hgv
            obtain ⟨x, hx⟩ : ∃ x, L[j] = x := ⟨_, rfl⟩
            rw [hx] at hxq hxr hgr
            obtain ⟨t1, t2, hO2⟩ := HO.out.tell hxq hxr
            obtain ⟨_, o2, _⟩ := HO.out x.q hxq
            have HG2 := Lib.hid hgr
            have HO2 := Lib.hid hO2
            obtain ⟨_, _, he, _, hci⟩ := HI.out.form
            cases he
            obtain ⟨gi, hgi, _, _, d0, d1⟩ := hci j hjl
            subst hgi
            rw [hx] at d0 d1
            obtain ⟨xq, xid⟩ := x
            simp only at hxq d0 d1 t1 t2 o2 HG2 HO2
            clear hx hxr hgr hO2 hci
            have r4 := HP.out.cell xq hxq
            have r5 := HT.out.cell xq hxq
            have f5 := HT.out.frozen xq
            obtain ⟨a, ha'⟩ : ∃ a, P xq = a := ⟨_, rfl⟩
            obtain ⟨b, hb'⟩ : ∃ b, T xq = b := ⟨_, rfl⟩
            rw [ha', hb'] at t2
            rw [ha'] at r4 o2
            rw [hb'] at r5 t1 HO2
            subst t1
            clear ha' hb'
            have i1 : (0 : Int) ≤ (xq : Int) := by omega
            have i2 : (xq : Int) < 5 := by omega
            have i3 : ¬ ((xq : Int) < 0) := by omega
            have i4 : ¬ (4 < (xq : Int)) := by omega
            have j1 : (0 : Int) ≤ (j : Int) := by omega
            have j2 : (j : Int) < (L.length : Int) := by omega
            have e1 : IntKind.u64.wrap ((b : Int) + 1) = (b : Int) + 1 := by rw [IntKind.wrap_u64]; omega
            have e3 : decide ((xq : Int) < 0) = false := decide_eq_false i3
            have e4 : decide (4 < (xq : Int)) = false := decide_eq_false i4
            have e5 : decide ((a : Int) < (b : Int) + 1) = false := decide_eq_false (by omega)
            have e6 : decide (a < b + 1) = false := decide_eq_false (by omega)
            have HE := Lib.hid e1
            go_wp2_with fail
            go_quiet (fail)
            clear e1 e3 e4 e5 e6
            go_wp2_with fail
            go_roundw
            case rel =>
              refine ⟨j + 1, _, _, by omega, by go_num, HO2, HG2, Lib.hid ((HI.out.below (blw_draws (Below.refl _ _) nq)).arr (w := wr.drewN nq) HT.out xq _), Lib.hid ((HF.out.draws nq).arr (w := wr.drewN nq) HT.out xq _), Lib.hid (Arr.other (w := wr.drewN nq) HP.out (p := ⟨g5, xq, none⟩) (Ne.symm hne) _), Lib.hid (Arr.set (w := wr.drewN nq) HT.out hxq (b + 1)), (blw_draws hb nq).setCell (by exact hg5) _⟩
            case measure => simp [intOf]; omega
          · obtain rfl : j = L.length := by omega
            have hgv := HG.out
            rw [List.drop_length] at hgv
            have hgv' : Qj = Q' := hgv
            subst hgv'
            clear HG HI hgv
            go_wp2_with fail
            go_loopw [12] (fun i wr => ∃ (q : Nat), q ≤ 5 ∧ i = .int .i64 q ∧ Hid (FifoAt w.heap.size wr g V Qj t) ∧ Hid (Arr wr g4 P) ∧ Hid (Arr wr g5 T) ∧ Below w.heap.size w wr) (fun i _ => 5 - (intOf i).toNat)
            case atStart => exact ⟨0, by omega, rfl, HF, HP, HT, hb⟩
            case round =>
              clear HF HP HT hb
              obtain ⟨p, hp, rfl, HF, HP, HT, hb⟩ := hrel
              by_cases hp5 : p < 5
              · obtain ⟨o1, o2, _⟩ := HO.out p hp5
                have hln := HO.out.len hp5
                have r4 := HP.out.cell p hp5
                have r5 := HT.out.cell p hp5
                obtain ⟨a, ha'⟩ : ∃ a, P p = a := ⟨_, rfl⟩
                obtain ⟨b, hb'⟩ : ∃ b, T p = b := ⟨_, rfl⟩
                rw [ha', hb'] at o1 hln
                rw [ha'] at r4 o2
                rw [hb'] at r5
                have HLN := Lib.hid hln
                clear ha' hb' hln
                have i1 : (0 : Int) ≤ (p : Int) := by omega
                have i2 : (p : Int) < 5 := by omega
                have wsub : IntKind.u64.wrap ((a : Int) - (b : Int)) = (a : Int) - (b : Int) := by rw [IntKind.wrap_u64]; omega
                obtain ⟨c, hc⟩ : ∃ c : Nat, a - b = c := ⟨_, rfl⟩
                have wc : IntKind.u64.wrap (c : Int) = (c : Int) := by rw [IntKind.wrap_u64]; omega
                have hcc : (a : Int) - (b : Int) = (c : Int) := by omega
                rw [hcc] at wsub
                have HC := Lib.hid hc
                clear hc o1
                go_wp2_with fail
                go_quiet ((go_at_call 18; exact Calls.quiet_of_same (len_for (HF.out.draws _) p (p : Int) rfl hp5 (c : Int) (by rw [HLN.out, HC.out]))))
                clear wsub wc hcc
                go_wp2_with fail
                go_roundw
                case rel => exact ⟨p + 1, by omega, by go_num, Lib.hid (HF.out.draws nq), HP, HT, blw_draws hb nq⟩
                case measure => simp [intOf]; omega
              · go_wp2_with fail
                go_roundw
                case rel => exact ⟨k + 1, P, T, V, Qj, t, by omega, by go_num, HO, HF, HP, HT, hb⟩
                case measure => simp [intOf]; omega
    · go_wp2_with fail
      refine (awake_any _).mono ?_
      rintro e w2 ⟨rfl, hb2⟩
      go_wp2_with fail
      go_ret
      exact ⟨rfl, hb.trans (hb2.mono hb.size)⟩

theorem fifoOwn_own : ownKnob Try.prog.godebug = none := by kernel_rfl
theorem fifoOwn_laidOut : laidOutB Try.prog = true := by kernel_rfl
set_option maxRecDepth 100000 in
theorem fifoOwn_lifted (os : Os) (started : os.Started) (H : Type) (enc : TypeId × Value → H) :
    ReturnsInHanded {} Try.checked os 7 .any (Rows.fifoOwnSpec.pre6 enc Try.prog Try.f7 Rows.fifoOwnRow.domain false) (Rows.fifoOwnSpec.post enc Try.prog Try.f7 false true false false) := by
  refine returnsInHanded_of_change (C := Try.checked) fifoOwn_own started (by kernel_rfl) Try.func7
    (ChangeSpec.witness6 (enc := enc) (C := Try.checked) false ⟨#[], #[.slice none 0 0], []⟩ 8 (by kernel_rfl) (by kernel_rfl) (by kernel_rfl) (by kernel_rfl)) ?_
  intro W base args ds gs before hval0 hW hcnd _
  have hval : ∀ (j : Nat) t v, Try.f7.params[j]? = some t → args[j]? = some v → Value.okWide Try.prog W .any base t v := hval0
  have hW' := hW
  obtain ⟨p, q, hA0, hV, rfl, hfz, hnd⟩ := hW
  have hA : DataW.TrodAll enc Try.prog W 0 (fun _ => true) true Try.f7.params.toList args.toList ds p := hA0
  rw [Try.params7] at hA hval
  obtain ⟨v0, vs0, d0, ds0, p0, q0, hargs, rfl, rfl, h0, r0⟩ := trodAll_cons hA
  obtain ⟨rfl, rfl, rfl⟩ := trodAll_nil r0
  obtain rfl : args = #[v0] := by cases args; simp_all
  obtain ⟨rfl, rfl⟩ := trodVars_none hV
  have k0 := h0
  have lt0 : ∀ x ∈ p0, x.block < W.heap.size := by obtain ⟨m, hm⟩ := k0; exact DataW.trod_lt m _ _ _ hm
  obtain ⟨A, len, cap, rfl⟩ := okWide_slice Try.underlying34 (hval 0 34 v0 rfl rfl)
  obtain ⟨zs, hlen, hz⟩ := open_acts h0
  subst hlen
  clear hA0 hval0
  clear hcnd
  refine (own_any A cap zs W hz).mono fun e W' ⟨he, bel⟩ => ?_
  subst he
  exact ⟨_, rfl, _, _, _, [], _, [], hW', trodAll_mk1 (shut_bool Try.underlying4 _), (trodAll_cons_mk (Below.trod fifoOwn_laidOut (by kernel_rfl) (of_decide_eq_true (by kernel_rfl)) k0 bel lt0) trodAll_mk0), rfl, bel.frame _, fun h => by cases h⟩

theorem fifoOwn_over : Rows.fifoOwnRow.holds Try.pinned (OpenSpec.ofChange Rows.fifoOwnSpec) :=
  OpenClaim.holds_of_wide 7 Try.f7 rfl rfl rfl rfl rfl rfl rfl ⟨rfl, rfl, rfl, rfl, rfl⟩ rfl rfl rfl rfl rfl (by kernel_rfl) Try.func7 (by kernel_rfl)
    (of_decide_eq_true (by kernel_rfl)) (by unfold Func.isWrapper; first | (rw [if_pos (by decide +kernel)]; kernel_rfl) | (rw [if_neg (by decide +kernel)]; exact ⟨rfl, rfl⟩))
    (fun os started H enc _ => fifoOwn_lifted os started H enc)

/-- The given statement. -/
theorem fifoOwn_proved : Rows.FifoOwnSaid := fifoOwn_over
#print axioms fifoOwn_proved
end Go.Proofs.Ytacddiidldppnaa
