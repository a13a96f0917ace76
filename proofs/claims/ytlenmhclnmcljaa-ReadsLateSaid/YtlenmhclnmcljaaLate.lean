/- ReadsLate: what is begun is told by its round and by each greater one, and by no lesser one. The walk and the proved row; no condition. -/
import Derived.Test.YtlenmhclnmcljaaRows
import Derived.Test.YtlenmhclnmcljaaAwake
import Derived.ProofKit
import Derived.OpenShut
namespace Go.Proofs.Ytlenmhclnmcljaa
open Go.ChangeShapes Go.WideShapes Go.ChangeAt Go.RowKit

/-- The numbers that a slice of an argument holds. -/
def NumsAt (w : World) (A : Option Addr) (zs : List Nat) : Prop := ∀ k (h : k < zs.length), ∃ b off, A = some ⟨b, off, none⟩ ∧ w.cell? ⟨b, off + k, none⟩ = some (.int .u64 ((zs[k] : Nat) : Int)) ∧ zs[k] ≤ 18446744073709551615

theorem begun_all (L : List Rd) (ix rd : Nat) : ∀ r ∈ begunL L 0 ix rd, r.rd = rd := by
  intro r hr
  unfold begunL at hr
  simp only [List.take_zero, List.nil_append, List.drop_zero, List.mem_map] at hr
  obtain ⟨x, _, rfl⟩ := hr
  simp [topRd]
theorem begun_length (L : List Rd) (b ix rd : Nat) (h : b ≤ L.length) : (begunL L b ix rd).length = L.length := by
  unfold begunL; simp; omega
theorem cnt_zero (L : List Rd) (round : Nat) : cnt L 0 round = 0 := by simp [cnt]
theorem cnt_all {L : List Rd} {round : Nat} (h : ∀ r ∈ L, r.rd ≤ round) : cnt L L.length round = L.length := by
  unfold cnt
  rw [List.take_length]
  have : L.takeWhile (fun r => decide (r.rd ≤ round)) = L := by
    have := List.takeWhile_append_of_pos (l₁ := L) (l₂ := []) (p := fun r => decide (r.rd ≤ round)) (fun r hr => decide_eq_true (h r hr))
    simpa using this
  rw [this]
theorem cnt_none {L : List Rd} {round : Nat} (h : ∀ r ∈ L, round < r.rd) : cnt L L.length round = 0 := by
  unfold cnt
  rw [List.take_length]
  cases L with
  | nil => rfl
  | cons r L =>
    rw [List.takeWhile_cons_of_neg]
    · rfl
    · have := h r (List.mem_cons_self); simp; omega

set_option maxRecDepth 100000 in
set_option maxHeartbeats 1000000 in
theorem late_any (ix rd told : Nat) (A : Option Addr) (cap : Nat) (zs : List Nat) (w : World) (hix : ix ≤ 18446744073709551615) (hrd : rd ≤ 18446744073709551615) (htold : told ≤ 18446744073709551615) (hz : NumsAt w A zs) :
    Calls Try.prog 5 #[.int .u64 (ix : Int), .int .u64 (rd : Int), .int .u64 (told : Int), .slice A zs.length cap] w fun e w' => e = .returned (.bool true) ∧ Below w.heap.size w w' := by
  by_cases h60 : 60 < zs.length
  · go_enter Try.func5, Try.ntmps5
    go_wp2_with fail
    refine (awake_any _).mono ?_
    rintro e w2 ⟨rfl, hb2⟩
    go_wp2_with fail
    go_ret
    exact ⟨rfl, hb2⟩
  · go_enter Try.func5, Try.ntmps5
    go_wp2_with fail
    refine (new_any _).mono ?_
    rintro e w1 ⟨g, rfl, r1, b1⟩
    go_wp2_with fail
    go_loopw [10, 11] (fun n i wr => ∃ (k : Nat) (L : List Rd) (v : Value), k ≤ zs.length ∧ i = .int .i64 k ∧ n = .int .i64 (L.length : Nat) ∧ L.length ≤ k ∧ Hid (ReadsAt w.heap.size wr g v L 0) ∧ Below w.heap.size w wr) (fun _ i _ => zs.length - (intOf i).toNat)
    case atStart => exact ⟨0, [], _, Nat.zero_le _, rfl, rfl, Nat.le_refl _, r1, b1⟩
    case round =>
      clear r1 b1
      obtain ⟨k, L, v, hk, rfl, rfl, hLk, HR, hb⟩ := hrel
      by_cases hlt : k < zs.length
      · obtain ⟨b, off, rfl, hc, hzk⟩ := hz k hlt
        obtain ⟨z, hzz⟩ : ∃ z, zs[k] = z := ⟨_, rfl⟩
        rw [hzz] at hc hzk
        have hc' := (hb.cell (World.block_lt_of_cell? w _ hc)).trans hc
        clear hc hzz
        go_wp2_with fail
        by_cases ha : L.any (isId z) = true
        · refine (ask_no _ g _ L 0 z _ HR.out (by omega) ha).mono ?_
          rintro e w2 ⟨rfl, r2, b2⟩
          have HR2 := Lib.hid r2
          have hb2 := hb.trans (b2.mono hb.size)
          clear r2 b2 HR hc' ha
          go_wp2_with fail
          go_roundw
          case rel => exact ⟨k + 1, L, v, by omega, by go_num, rfl, by omega, HR2, hb2⟩
          case measure => simp [intOf]; omega
        · refine (ask_yes _ g _ L 0 z _ HR.out (by omega) hzk (by simpa using ha)).mono ?_
          rintro e w2 ⟨rfl, ⟨v2, r2⟩, b2, _, _⟩
          have HR2 := Lib.hid r2
          have hb2 := hb.trans b2
          clear r2 b2 HR hc' ha
          go_wp2_with fail
          go_roundw
          case rel => exact ⟨k + 1, L ++ [⟨z, 0, 0⟩], v2, by omega, by go_num, by simp, by simp; omega, HR2, hb2⟩
          case measure => simp [intOf]; omega
      · obtain rfl : k = zs.length := by omega
        go_wp2_with fail
        refine (told_for _ g _ L [] L 0 18446744073709551615 0 0 _ HR.out (by omega) (by omega) (cnt_zero L _) rfl rfl rfl).mono ?_
        rintro e w2 ⟨A2, c2, v2, rfl, _, r2, b2, _, _⟩
        have hb2 := hb.trans b2
        clear HR b2
        go_wp2_with fail
        refine (begin_any _ g _ L 0 ix rd _ r2 (by omega) hix hrd).mono ?_
        rintro e w3 ⟨rfl, r3, b3, _⟩
        have hb3 := hb2.trans b3
        rw [Nat.sub_zero]
        have hM1 := begun_all L ix rd
        have hM2 := begun_length L 0 ix rd (by omega)
        obtain ⟨M, hM⟩ : ∃ M, begunL L 0 ix rd = M := ⟨_, rfl⟩
        rw [hM] at hM1 hM2 r3
        rw [← hM2] at r3
        have HM1 := Lib.hid hM1
        have HM2 := Lib.hid hM2
        clear hM1 hM2 hM r2 hb2 b3
        by_cases ht : rd ≤ told
        · go_wp2_with fail
          refine (told_for _ g _ M M [] M.length told M.length 0 _ r3 (by rw [HM2.out]; omega) htold (cnt_all fun r hr => by rw [HM1.out r hr]; exact ht) (List.take_length) (List.drop_length) (Nat.sub_self _)).mono ?_
          rintro e w4 ⟨A4, c4, v4, rfl, _, _, b4, _, _⟩
          rw [HM2.out]
          have hb4 := hb3.trans b4
          clear b4 r3 hb3
          go_wp2_with fail
          refine (awake_any _).mono ?_
          rintro e w5 ⟨rfl, hb5⟩
          go_wp2_with fail
          go_ret
          exact ⟨rfl, hb4.trans (hb5.mono hb4.size)⟩
        · go_wp2_with fail
          refine (told_for _ g _ M [] M M.length told 0 M.length _ r3 (by rw [HM2.out]; omega) htold (cnt_none fun r hr => by rw [HM1.out r hr]; omega) rfl rfl (Nat.sub_zero _)).mono ?_
          rintro e w4 ⟨A4, c4, v4, rfl, _, r4, b4, _, _⟩
          have hb4 := hb3.trans b4
          clear b4 r3 hb3
          go_wp2_with fail
          refine (told_for _ g _ M M [] M.length rd M.length 0 _ r4 (by rw [HM2.out]; omega) hrd (cnt_all fun r hr => by rw [HM1.out r hr]; exact Nat.le_refl _) (List.take_length) (List.drop_length) (Nat.sub_self _)).mono ?_
          rintro e w5 ⟨A5, c5, v5, rfl, _, _, b5, _, _⟩
          rw [HM2.out]
          have hb5 := hb4.trans b5
          clear b5 r4 hb4
          go_wp2_with fail
          refine (awake_any _).mono ?_
          rintro e w6 ⟨rfl, hb6⟩
          go_wp2_with fail
          go_ret
          exact ⟨rfl, hb5.trans (hb6.mono hb5.size)⟩

theorem readsLate_own : ownKnob Try.prog.godebug = none := by kernel_rfl
theorem readsLate_laidOut : laidOutB Try.prog = true := by kernel_rfl
set_option maxRecDepth 100000 in
theorem readsLate_lifted (os : Os) (started : os.Started) (H : Type) (enc : TypeId × Value → H) :
    ReturnsInHanded {} Try.checked os 5 .any (Rows.readsLateSpec.pre6 enc Try.prog Try.f5 Rows.readsLateRow.domain false) (Rows.readsLateSpec.post enc Try.prog Try.f5 false true false false) := by
  refine returnsInHanded_of_change (C := Try.checked) readsLate_own started (by kernel_rfl) Try.func5
    (ChangeSpec.witness6 (enc := enc) (C := Try.checked) false ⟨#[], #[.int .u64 0, .int .u64 0, .int .u64 0, .slice none 0 0], []⟩ 8 (by kernel_rfl) (by kernel_rfl) (by kernel_rfl) (by kernel_rfl)) ?_
  intro W base args ds gs before hval0 hW hcnd _
  have hval : ∀ (j : Nat) t v, Try.f5.params[j]? = some t → args[j]? = some v → Value.okWide Try.prog W .any base t v := hval0
  have hW' := hW
  obtain ⟨p, q, hA0, hV, rfl, hfz, hnd⟩ := hW
  have hA : DataW.TrodAll enc Try.prog W 0 (fun _ => true) true Try.f5.params.toList args.toList ds p := hA0
  rw [Try.params5] at hA hval
  obtain ⟨v0, vs0, d0, ds0, p0, q0, hargs, rfl, rfl, h0, r0⟩ := trodAll_cons hA
  obtain ⟨v1, vs1, d1, ds1, p1, q1, rfl, rfl, rfl, h1, r1⟩ := trodAll_cons r0
  obtain ⟨v2, vs2, d2, ds2, p2, q2, rfl, rfl, rfl, h2, r2⟩ := trodAll_cons r1
  obtain ⟨v3, vs3, d3, ds3, p3, q3, rfl, rfl, rfl, h3, r3⟩ := trodAll_cons r2
  obtain ⟨rfl, rfl, rfl⟩ := trodAll_nil r3
  obtain rfl : args = #[v0, v1, v2, v3] := by cases args; simp_all
  obtain ⟨rfl, rfl⟩ := trodVars_none hV
  have k0 := h0
  have lt0 : ∀ x ∈ p0, x.block < W.heap.size := by obtain ⟨m, hm⟩ := k0; exact DataW.trod_lt m _ _ _ hm
  have k1 := h1
  have lt1 : ∀ x ∈ p1, x.block < W.heap.size := by obtain ⟨m, hm⟩ := k1; exact DataW.trod_lt m _ _ _ hm
  have k2 := h2
  have lt2 : ∀ x ∈ p2, x.block < W.heap.size := by obtain ⟨m, hm⟩ := k2; exact DataW.trod_lt m _ _ _ hm
  have k3 := h3
  have lt3 : ∀ x ∈ p3, x.block < W.heap.size := by obtain ⟨m, hm⟩ := k3; exact DataW.trod_lt m _ _ _ hm
  obtain ⟨a0, rfl, rfl, rfl, w0⟩ := open_int Try.underlying25 (hval 0 25 v0 rfl rfl) h0
  obtain ⟨a1, rfl, rfl, rfl, w1⟩ := open_int Try.underlying25 (hval 1 25 v1 rfl rfl) h1
  obtain ⟨a2, rfl, rfl, rfl, w2⟩ := open_int Try.underlying25 (hval 2 25 v2 rfl rfl) h2
  obtain ⟨A, len, cap, rfl⟩ := okWide_slice Try.underlying33 (hval 3 33 v3 rfl rfl)
  obtain ⟨zs, hlen, hz⟩ : ∃ zs : List Nat, len = zs.length ∧ NumsAt W A zs := by
    obtain ⟨fuel, hf⟩ := h3
    rcases open_ints Try.underlying33 Try.underlying25 (by kernel_rfl) hf with ⟨hcs, _⟩ | ⟨a, l, c, zs, hcs, _, hl, hm, hz, _, hcell, hwz⟩
    · simp [Value.cells] at hcs
      obtain ⟨rfl, rfl, rfl⟩ := hcs
      exact ⟨[], rfl, fun k hk => absurd hk (by simp)⟩
    · simp [Value.cells] at hcs
      obtain ⟨rfl, rfl, rfl⟩ := hcs
      refine ⟨(zs.take len).map Int.toNat, by rw [List.length_map, List.length_take, hz]; split <;> omega, fun k hk => ?_⟩
      rw [List.length_map, List.length_take] at hk
      have hc := hcell k (by omega)
      rw [List.getD_eq_getElem?_getD, List.getElem?_eq_getElem (by omega), Option.getD_some] at hc
      rw [List.getElem_map, List.getElem_take]
      have hb := bounds_u64 (hwz _ (List.getElem_mem (l := zs) (n := k) (by omega)))
      obtain ⟨b, off, spot⟩ := a
      have hc0 := hcell 0 (by omega)
      have hsp : spot = none := by simpa [Addr.add] using World.cell?_spot hc0
      subst hsp
      have e : (⟨b, off, none⟩ : Addr).add k = ⟨b, off + k, none⟩ := by unfold Addr.add; split <;> simp_all
      rw [e] at hc
      exact ⟨b, off, rfl, by rw [hc, show ((zs[k].toNat : Nat) : Int) = zs[k] by omega], by omega⟩
  subst hlen
  have b0 := bounds_u64 w0
  have b1 := bounds_u64 w1
  have b2 := bounds_u64 w2
  obtain ⟨n0, rfl⟩ : ∃ n : Nat, a0 = (n : Int) := ⟨a0.toNat, by omega⟩
  obtain ⟨n1, rfl⟩ : ∃ n : Nat, a1 = (n : Int) := ⟨a1.toNat, by omega⟩
  obtain ⟨n2, rfl⟩ : ∃ n : Nat, a2 = (n : Int) := ⟨a2.toNat, by omega⟩
  clear hA0 hval0
  clear hcnd
  refine (late_any n0 n1 n2 A cap zs W (by omega) (by omega) (by omega) hz).mono fun e W' ⟨he, bel⟩ => ?_
  subst he
  exact ⟨_, rfl, _, _, _, [], _, [], hW', trodAll_mk1 (shut_bool Try.underlying4 _), (trodAll_cons_mk (Below.trod readsLate_laidOut (by kernel_rfl) (of_decide_eq_true (by kernel_rfl)) k0 bel lt0) (trodAll_cons_mk (Below.trod readsLate_laidOut (by kernel_rfl) (of_decide_eq_true (by kernel_rfl)) k1 bel lt1) (trodAll_cons_mk (Below.trod readsLate_laidOut (by kernel_rfl) (of_decide_eq_true (by kernel_rfl)) k2 bel lt2) (trodAll_cons_mk (Below.trod readsLate_laidOut (by kernel_rfl) (of_decide_eq_true (by kernel_rfl)) k3 bel lt3) trodAll_mk0)))), rfl, bel.frame _, fun h => by cases h⟩

theorem readsLate_over : Rows.readsLateRow.holds Try.pinned (OpenSpec.ofChange Rows.readsLateSpec) :=
  OpenClaim.holds_of_wide 5 Try.f5 rfl rfl rfl rfl rfl rfl rfl ⟨rfl, rfl, rfl, rfl, rfl⟩ rfl rfl rfl rfl rfl (by kernel_rfl) Try.func5 (by kernel_rfl)
    (of_decide_eq_true (by kernel_rfl)) (by unfold Func.isWrapper; first | (rw [if_pos (by decide +kernel)]; kernel_rfl) | (rw [if_neg (by decide +kernel)]; exact ⟨rfl, rfl⟩))
    (fun os started H enc _ => readsLate_lifted os started H enc)

/-- The given statement. -/
theorem readsLate_proved : Rows.ReadsLateSaid := readsLate_over
#print axioms readsLate_proved
end Go.Proofs.Ytlenmhclnmcljaa
