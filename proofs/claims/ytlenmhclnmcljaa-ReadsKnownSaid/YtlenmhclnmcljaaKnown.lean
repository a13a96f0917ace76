/- ReadsKnown: the chapter's examples, and what a nil list answers. The walk and the proved row; no condition. -/
import Derived.Test.YtlenmhclnmcljaaRows
import Derived.Test.YtlenmhclnmcljaaAwake
import Derived.ProofKit
namespace Go.Proofs.Ytlenmhclnmcljaa
open Go.ChangeShapes Go.WideShapes Go.ChangeAt Go.RowKit

theorem len_for (B g : Nat) (v : Value) (L : List Rd) (b n m : Nat) (w : World) (h : ReadsAt B w g v L b) (hn : L.length ≤ 1000) (hb : b = n) (hm : L.length - b = m) :
    Calls Try.prog 9 #[.pointer (some ⟨g, 0, none⟩)] w fun e w' => e = .returned (.tuple #[.int .i64 (n : Int), .int .i64 (m : Int)]) ∧ ∃ q, w' = w.drewN q := by
  refine (len_any B g v L b w h hn).mono ?_
  rintro e w' ⟨rfl, h⟩
  exact ⟨by rw [hm, hb], h⟩
theorem begin_for (B g : Nat) (v : Value) (L M : List Rd) (b ix rd n : Nat) (w : World) (h : ReadsAt B w g v L b) (hn : L.length ≤ 1000) (hix : ix ≤ 18446744073709551615) (hrd : rd ≤ 18446744073709551615) (hM : begunL L b ix rd = M) (hm : L.length - b = n) :
    Calls Try.prog 10 #[.pointer (some ⟨g, 0, none⟩), .int .u64 (ix : Int), .int .u64 (rd : Int)] w fun e w' => e = .returned (.int .i64 (n : Int)) ∧ ReadsAt B w' g v M L.length ∧ Below B w w' ∧ Aside w w' := by
  refine (begin_any B g v L b ix rd w h hn hix hrd).mono ?_
  rintro e w' ⟨rfl, h1, h2⟩
  rw [hM] at h1
  exact ⟨by rw [hm], h1, h2⟩
theorem ReadsAt.draws {B : Nat} {w : World} {g : Nat} {v : Value} {L : List Rd} {b : Nat} (h : ReadsAt B w g v L b) (q : Nat) : ReadsAt B (w.drewN q) g v L b := h.kept fun _ _ => rfl

set_option maxRecDepth 100000 in
set_option maxHeartbeats 2000000 in
theorem known_any (w : World) :
    Calls Try.prog 3 #[] w fun e w' => e = .returned (.bool true) ∧ Below w.heap.size w w' := by
  go_enter Try.func3, Try.ntmps3
  go_wp2_with fail
  refine (new_any _).mono ?_
  rintro e w1 ⟨g, rfl, r1, b1⟩
  go_wp2_with fail
  refine (ask_yes _ g _ [] 0 4 _ r1 (by simp) (by omega) rfl).mono ?_
  rintro e w2 ⟨rfl, ⟨v2, r2⟩, b2, _, _⟩
  have b2' := b1.trans b2
  clear b1 b2 r1
  go_wp2_with fail
  refine (ask_yes _ g _ [⟨4, 0, 0⟩] 0 9 _ r2 (by simp) (by omega) rfl).mono ?_
  rintro e w3 ⟨rfl, ⟨v3, r3⟩, b3, _, _⟩
  have b3' := b2'.trans b3
  clear b2' b3 r2
  go_wp2_with fail
  refine (ask_no _ g _ [⟨4, 0, 0⟩, ⟨9, 0, 0⟩] 0 4 _ r3 (by simp) rfl).mono ?_
  rintro e w4 ⟨rfl, r4, b4⟩
  have b4' := b3'.trans (b4.mono r3.ltB)
  clear b3' b4 r3
  go_wp2_with fail
  refine (len_for _ g _ [⟨4, 0, 0⟩, ⟨9, 0, 0⟩] 0 0 2 _ r4 (by simp) rfl rfl).mono ?_
  rintro e w5 ⟨rfl, q5, rfl⟩
  have r5 := r4.draws q5
  have b5' := blw_draws b4' q5
  clear b4' r4
  go_wp2_with fail
  refine (begin_for _ g _ [⟨4, 0, 0⟩, ⟨9, 0, 0⟩] [⟨4, 7, 2⟩, ⟨9, 7, 2⟩] 0 7 2 2 _ r5 (by simp) (by omega) (by omega) rfl rfl).mono ?_
  rintro e w6 ⟨rfl, r6, b6, _⟩
  have b6' := b5'.trans b6
  clear b5' b6 r5
  go_wp2_with fail
  refine (ask_yes _ g _ [⟨4, 7, 2⟩, ⟨9, 7, 2⟩] 2 5 _ r6 (by simp) (by omega) rfl).mono ?_
  rintro e w7 ⟨rfl, ⟨v7, r7⟩, b7, _, _⟩
  have b7' := b6'.trans b7
  clear b6' b7 r6
  go_wp2_with fail
  refine (told_for _ g _ [⟨4, 7, 2⟩, ⟨9, 7, 2⟩, ⟨5, 0, 0⟩] [] [⟨4, 7, 2⟩, ⟨9, 7, 2⟩, ⟨5, 0, 0⟩] 2 1 0 2 _ r7 (by simp) (by omega) rfl rfl rfl rfl).mono ?_
  rintro e w8 ⟨A8, c8, v8, rfl, o8, r8, b8, _, _⟩
  have b8' := b7'.trans b8
  clear b7' b8 r7 o8
  go_wp2_with fail
  refine (told_for _ g _ [⟨4, 7, 2⟩, ⟨9, 7, 2⟩, ⟨5, 0, 0⟩] [⟨4, 7, 2⟩, ⟨9, 7, 2⟩] [⟨5, 0, 0⟩] 2 2 2 0 _ r8 (by simp) (by omega) rfl rfl rfl rfl).mono ?_
  rintro e w9 ⟨A9, c9, v9, rfl, o9, r9, b9, _, _⟩
  have b9' := b8'.trans b9
  clear b8' b9 r8
  obtain ⟨h9, rfl, _, _, p0, p1, p2, _⟩ := own_at o9 1 (by simp)
  simp only [List.getElem_cons_succ, List.getElem_cons_zero] at p0 p1 p2
  clear o9
  go_wp2_with fail
  refine (len_for _ g _ [⟨5, 0, 0⟩] 0 0 1 _ r9 (by simp) rfl rfl).mono ?_
  rintro e w10 ⟨rfl, q10, rfl⟩
  have r10 := r9.draws q10
  have b10' := blw_draws b9' q10
  clear b9' r9
  go_wp2_with fail
  refine (begin_for _ g _ [⟨5, 0, 0⟩] [⟨5, 3, 1⟩] 0 3 1 1 _ r10 (by simp) (by omega) (by omega) rfl rfl).mono ?_
  rintro e w11 ⟨rfl, r11, b11, _⟩
  have b11' := b10'.trans b11
  clear b10' b11 r10 p0 p1 p2
  go_wp2_with fail
  refine (told_for _ g _ [⟨5, 3, 1⟩] [⟨5, 3, 1⟩] [] 1 1 1 0 _ r11 (by simp) (by omega) rfl rfl rfl rfl).mono ?_
  rintro e w12 ⟨A12, c12, v12, rfl, o12, r12, b12, _, d12⟩
  have b12' := b11'.trans b12
  clear b11' b12 r11
  obtain ⟨h12, rfl, _, hl12, p0, p1, p2, _⟩ := own_at o12 0 (by simp)
  simp only [List.getElem_cons_zero] at p0 p1 p2
  have hg12 : h12 ≠ g := fun e => own_head_ne o12 r12.head (by simp [Value.ownBlock, e])
  have hv12 := d12 h12 rfl
  clear o12 d12
  go_wp2_with fail
  refine (ask_yes _ g _ [] 0 6 _ r12 (by simp) (by omega) rfl).mono ?_
  rintro e w13 ⟨rfl, ⟨v13, r13⟩, b13, _, a13⟩
  have b13' := b12'.trans b13
  have k13 := a13 h12 hl12 hg12 hv12
  have hl13 : h12 < w13.heap.size := by
    have := b13'
    rcases Nat.lt_or_ge h12 w13.heap.size with h | h
    · exact h
    · rw [Array.getElem?_eq_none h] at k13
      rw [Array.getElem?_eq_getElem hl12] at k13
      cases k13
  clear b12' b13 r12 a13 hv12
  go_wp2_with fail
  refine (drop_any _ g _ [⟨6, 0, 0⟩] 0 _ r13 (by simp)).mono ?_
  rintro e w14 ⟨v14, rfl, o14, r14, b14, _, a14⟩
  have b14' := b13'.trans b14
  have k14 := (a14 h12 hl13 hg12).trans k13
  obtain ⟨h14, c14, rfl, _, _⟩ := o14.form (by simp)
  have p14 := o14.cellAt 0 (by simp)
  have q0 := (World.cell?_of_block (a := ⟨h12, 0 * 3, none⟩) k14).trans p0
  have q1 := (World.cell?_of_block (a := ⟨h12, 0 * 3 + 1, none⟩) k14).trans p1
  have q2 := (World.cell?_of_block (a := ⟨h12, 0 * 3 + 2, none⟩) k14).trans p2
  simp only [idsOf, List.map_cons, List.map_nil, List.getElem?_cons_zero] at p14
  clear b13' b14 r13 a14 p0 p1 p2 o14 k13 k14
  go_wp2_with fail
  refine (len_for _ g _ [] 0 0 0 _ r14 (by simp) rfl rfl).mono ?_
  rintro e w15 ⟨rfl, q15, rfl⟩
  have b15' := blw_draws b14' q15
  clear b14' r14
  go_wp2_with fail
  refine (len_nil _).mono ?_
  rintro e w16 ⟨rfl, rfl⟩
  go_wp2_with fail
  refine (ask_nil _ _).mono ?_
  rintro e w17 ⟨rfl, b17⟩
  have b17' := b15'.trans (b17.mono b15'.size)
  clear b15' b17
  go_wp2_with fail
  refine (begin_nil _ _ _).mono ?_
  rintro e w18 ⟨rfl, rfl⟩
  go_wp2_with fail
  refine (told_nil _ _).mono ?_
  rintro e w19 ⟨rfl, rfl⟩
  go_wp2_with fail
  refine (drop_nil _).mono ?_
  rintro e w20 ⟨rfl, rfl⟩
  go_wp2_with fail
  refine (awake_any _).mono ?_
  rintro e w21 ⟨rfl, b21⟩
  go_wp2_with fail
  go_ret
  exact ⟨rfl, b17'.trans (b21.mono b17'.size)⟩

theorem readsKnown_own : ownKnob Try.prog.godebug = none := by kernel_rfl
theorem readsKnown_laidOut : laidOutB Try.prog = true := by kernel_rfl
set_option maxRecDepth 100000 in
theorem readsKnown_lifted (os : Os) (started : os.Started) (H : Type) (enc : TypeId × Value → H) :
    ReturnsInHanded {} Try.checked os 3 .any (Rows.readsKnownSpec.pre6 enc Try.prog Try.f3 Rows.readsKnownRow.domain false) (Rows.readsKnownSpec.post enc Try.prog Try.f3 false true false false) := by
  refine returnsInHanded_of_change (C := Try.checked) readsKnown_own started (by kernel_rfl) Try.func3
    (ChangeSpec.witness6 (enc := enc) (C := Try.checked) false ⟨#[], #[], []⟩ 8 (by kernel_rfl) (by kernel_rfl) (by kernel_rfl) (by kernel_rfl)) ?_
  intro W base args ds gs before hval0 hW hcnd _
  have hW' := hW
  obtain ⟨p, q, hA0, hV, rfl, hfz, hnd⟩ := hW
  have hA : DataW.TrodAll enc Try.prog W 0 (fun _ => true) true Try.f3.params.toList args.toList ds p := hA0
  rw [Try.params3] at hA
  obtain ⟨rfl, rfl, rfl⟩ := trodAll_none hA
  obtain ⟨rfl, rfl⟩ := trodVars_none hV
  clear hA0 hval0
  simp only [List.append_nil] at hW'
  refine (known_any W).mono fun e W' ⟨he, bel⟩ => ?_
  subst he
  exact ⟨_, rfl, _, _, _, [], _, [], hW', trodAll_mk1 (shut_bool Try.underlying4 _), trodAll_mk0, rfl, bel.frame _, fun h => by cases h⟩

theorem readsKnown_over : Rows.readsKnownRow.holds Try.pinned (OpenSpec.ofChange Rows.readsKnownSpec) :=
  OpenClaim.holds_of_wide 3 Try.f3 rfl rfl rfl rfl rfl rfl rfl ⟨rfl, rfl, rfl, rfl, rfl⟩ rfl rfl rfl rfl rfl (by kernel_rfl) Try.func3 (by kernel_rfl)
    (of_decide_eq_true (by kernel_rfl)) (by unfold Func.isWrapper; first | (rw [if_pos (by decide +kernel)]; kernel_rfl) | (rw [if_neg (by decide +kernel)]; exact ⟨rfl, rfl⟩))
    (fun os started H enc _ => readsKnown_lifted os started H enc)

/-- The given statement. -/
theorem readsKnown_proved : Rows.ReadsKnownSaid := readsKnown_over
#print axioms readsKnown_proved
end Go.Proofs.Ytlenmhclnmcljaa
