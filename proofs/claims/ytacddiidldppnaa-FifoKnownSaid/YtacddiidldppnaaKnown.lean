/- FifoKnown: the chapter's examples; what is none. The walk and the proved row; no condition. -/
import Derived.Test.YtacddiidldppnaaRows
import Derived.Test.YtacddiidldppnaaTurns
namespace Go.Proofs.Ytacddiidldppnaa
open Go.ChangeShapes Go.WideShapes Go.ChangeAt Go.RowKit

/-- Queues, written as a list of lists. -/
def qs (l : List (List Nat)) : Nat → List Nat := fun q => l.getD q []
theorem upd_qs (l : List (List Nat)) (q : Nat) (h : q < l.length) (x : List Nat) : upd (qs l) q x = qs (l.set q x) := by
  funext j
  unfold upd qs
  rw [List.getD_eq_getElem?_getD, List.getD_eq_getElem?_getD, List.getElem?_set]
  by_cases e : q = j
  · subst e; simp [h]
  · rw [if_neg e, if_neg (Ne.symm e)]
def drainL : Nat → List (List Nat) → Nat → (List (List Nat) × Nat) × List It
  | 0, l, t => ((l, t), [])
  | n + 1, l, t => match pick (qs l) t with
    | none => ((l, t), [])
    | some q => match l.getD q [] with
      | [] => ((l, t), [])
      | x :: r => ((drainL n (l.set q r) ((q + 1) % 5)).1, ⟨q, x⟩ :: (drainL n (l.set q r) ((q + 1) % 5)).2)
theorem drain_lists : ∀ (n : Nat) (l : List (List Nat)) (t : Nat), l.length = 5 → drainF n ⟨qs l, t⟩ = (⟨qs (drainL n l t).1.1, (drainL n l t).1.2⟩, (drainL n l t).2)
  | 0, l, t, _ => rfl
  | n + 1, l, t, hl => by
    unfold drainL
    cases hp : pick (qs l) t with
    | none => simp only [drainF, takeF, hp]
    | some q =>
      obtain ⟨hq5, hne⟩ := pick_lt hp
      have hq : qs l q = l.getD q [] := rfl
      cases hx : l.getD q [] with
      | nil => rw [hq] at hne; exact absurd hx hne
      | cons x r =>
        have h2 : takeF ⟨qs l, t⟩ = some (⟨upd (qs l) q r, (q + 1) % 5⟩, ⟨q, x⟩) := by unfold takeF; simp only [hp, hq, hx]
        simp only [drainF, h2]
        rw [upd_qs l q (by omega) r, drain_lists n (l.set q r) ((q + 1) % 5) (by simpa using hl), hx]
theorem gone_qs (l : List (List Nat)) (hl : l.length = 5) : gone (qs l) 5 = qs [[], [], [], [], []] := by
  funext q
  unfold gone qs
  by_cases h : q < 5
  · rw [if_pos h]
    match q, h with
    | 0, _ => rfl
    | 1, _ => rfl
    | 2, _ => rfl
    | 3, _ => rfl
    | 4, _ => rfl
  · rw [if_neg h, List.getD_eq_getElem?_getD, List.getD_eq_getElem?_getD, List.getElem?_eq_none (by omega), List.getElem?_eq_none (by simp; omega)]
theorem none_qs : (fun _ => []) = qs [[], [], [], [], []] := (gone_qs [[], [], [], [], []] rfl ▸ by
  funext q
  unfold gone qs
  split
  · rfl
  · rename_i h; rw [List.getD_eq_getElem?_getD, List.getElem?_eq_none (by simp; omega)]; rfl)

section
variable {B : Nat} {w : World} {g : Nat} {V : Nat → Value} {l : List (List Nat)} {t : Nat}
theorem put_lit (h : FifoAt B w g V (qs l) t) (q id : Nat) (qi di : Int) (l2 : List (List Nat)) (h1 : qi = q) (h2 : di = id) (hq : q < 5) (hl : (l.getD q []).length < 4) (h5 : l.length = 5) (h6 : l.set q (l.getD q [] ++ [id]) = l2) :
    Calls Try.prog 10 #[.pointer (some ⟨g, 0, none⟩), .int .i64 qi, .int .u64 di] w fun e w' => e = .returned (.bool true) ∧ ∃ V', FifoAt B w' g V' (qs l2) t ∧ Moved B g V V' w w' := by
  refine (put_for h q id qi di h1 h2 hq hl).mono ?_
  rintro e w' ⟨rfl, V', f, m⟩
  rw [upd_qs l q (by omega)] at f
  subst h6
  exact ⟨rfl, V', f, m⟩
theorem drain_lit (h : FifoAt B w g V (qs l) t) (n : Nat) (ni : Int) (l2 : List (List Nat)) (t2 : Nat) (L : List It) (h1 : ni = n) (h5 : l.length = 5) (h6 : drainL n l t = ((l2, t2), L)) :
    Calls Try.prog 11 #[.pointer (some ⟨g, 0, none⟩), .int .i64 ni] w fun e w' => ∃ v V', e = .returned v ∧ Items w' w.heap.size v L ∧ FifoAt B w' g V' (qs l2) t2 ∧ Moved B g V V' w w' := by
  have e := drain_lists n l t h5
  rw [h6] at e
  refine (drain_for h n ni h1 L (by rw [e])).mono ?_
  rintro _ w' ⟨v, V', rfl, i, f, m⟩
  rw [e] at f
  exact ⟨v, V', rfl, i, f, m⟩
end

set_option maxRecDepth 100000 in
set_option maxHeartbeats 4000000 in
theorem known_any (w : World) : Calls Try.prog 5 #[] w fun e w' => e = .returned (.bool true) ∧ Below w.heap.size w w' := by
  go_enter Try.func5, Try.ntmps5
  go_wp2_with fail
  refine (new_any _).mono ?_
  rintro e w1 ⟨g, rfl, f1, b1⟩
  rw [none_qs] at f1
  go_wp2_with fail
  refine (put_lit f1 1 7 1 7 [[], [7], [], [], []] rfl rfl (by omega) (by decide) rfl rfl).mono ?_
  rintro e w2 ⟨rfl, V2, f2, m2⟩
  have b2 := m2.fresh b1 (Nat.le_refl _)
  clear f1 m2 b1
  go_wp2_with fail
  refine (put_lit f2 1 8 1 8 [[], [7, 8], [], [], []] rfl rfl (by omega) (by decide) rfl rfl).mono ?_
  rintro e w3 ⟨rfl, V3, f3, m3⟩
  have b3 := m3.fresh b2 (Nat.le_refl _)
  clear f2 m3 b2
  go_wp2_with fail
  refine (put_lit f3 3 9 3 9 [[], [7, 8], [], [9], []] rfl rfl (by omega) (by decide) rfl rfl).mono ?_
  rintro e w4 ⟨rfl, V4, f4, m4⟩
  have b4 := m4.fresh b3 (Nat.le_refl _)
  clear f3 m4 b3
  go_wp2_with fail
  refine (drain_lit f4 2 2 [[], [8], [], [], []] 4 [⟨1, 7⟩, ⟨3, 9⟩] rfl rfl rfl).mono ?_
  rintro e w5 ⟨v5, V5, rfl, i5, f5, m5⟩
  have b5 := m5.fresh b4 (Nat.le_refl _)
  clear f4 m5 b4 i5
  go_wp2_with fail
  refine (put_lit f5 0 5 0 5 [[5], [8], [], [], []] rfl rfl (by omega) (by decide) rfl rfl).mono ?_
  rintro e w6 ⟨rfl, V6, f6, m6⟩
  have b6 := m6.fresh b5 (Nat.le_refl _)
  clear f5 m6 b5
  go_wp2_with fail
  refine (drain_lit f6 3 3 [[], [], [], [], []] 2 [⟨0, 5⟩, ⟨1, 8⟩] rfl rfl rfl).mono ?_
  rintro e w7 ⟨v7, V7, rfl, i7, f7, m7⟩
  have b7 := m7.fresh b6 (Nat.le_refl _)
  have I7 := Lib.hid i7
  clear f6 m7 b6 i7
  go_wp2_with fail
  refine (drain_lit f7 1 1 [[], [], [], [], []] 2 [] rfl rfl rfl).mono ?_
  rintro e w8 ⟨v8, V8, rfl, i8, f8, m8⟩
  have b8 := m8.fresh b7 (Nat.le_refl _)
  have I78 := Lib.hid (I7.out.moved f7 m8)
  have I8 := Lib.hid i8
  clear f7 m8 b7 i8 I7
  go_wp2_with fail
  refine (turn_for f8 2 rfl).mono ?_
  rintro e w9 ⟨rfl, hw⟩
  rw [hw]
  clear hw w9
  have F8 := Lib.hid f8
  clear f8
  go_wp2_with fail
  go_loopw [6] (fun i wr => ∃ (n : Nat) (V : Nat → Value), n ≤ 4 ∧ i = .int .u64 ((n : Int) + 1) ∧ Hid (FifoAt w.heap.size wr g V (qs [[], [], List.range' 1 n, [], []]) 2) ∧ Hid (Items wr w6.heap.size v7 [⟨0, 5⟩, ⟨1, 8⟩]) ∧ Hid (Items wr w7.heap.size v8 []) ∧ Below w.heap.size w wr) (fun i _ => 6 - (intOf i).toNat)
  case atStart => exact ⟨0, V8, by omega, rfl, F8, I78, I8, b8⟩
  case round =>
    clear F8 I78 I8 b8 V8
    obtain ⟨n, V, hn, rfl, F, I7, I8, b⟩ := hrel
    by_cases hn4 : n < 4
    · go_wp2_with fail
      refine (put_lit F.out 2 (n + 1) 2 ((n : Int) + 1) [[], [], List.range' 1 (n + 1), [], []] rfl (by omega) (by omega) (by show (List.range' 1 n).length < 4; simpa using hn4) rfl (by
        show [[], [], List.range' 1 n ++ [n + 1], [], []] = _
        rw [List.range'_concat, Nat.one_mul, Nat.add_comm 1 n])).mono ?_
      rintro e w10 ⟨rfl, V2, f2, m2⟩
      have b2 := m2.fresh b (Nat.le_refl _)
      have I72 := Lib.hid (I7.out.moved F.out m2)
      have I82 := Lib.hid (I8.out.moved F.out m2)
      have F2 := Lib.hid f2
      clear f2 m2 F I7 I8 b
      go_wp2_with fail
      go_roundw
      case rel => exact ⟨n + 1, V2, by omega, by go_num, F2, I72, I82, b2⟩
      case measure => simp [intOf]; omega
    · obtain rfl : n = 4 := by omega
      have F4 : Hid (FifoAt w.heap.size wr g V (qs [[], [], [1, 2, 3, 4], [], []]) 2) := F
      clear F
      go_wp2_with fail
      refine (put_full F4.out 2 5 (by omega) (by decide)).mono ?_
      rintro e w10 ⟨rfl, hw⟩
      rw [hw]
      clear hw w10
      go_wp2_with fail
      refine (len_for F4.out 2 2 rfl (by omega) 4 rfl).mono ?_
      rintro e w10 ⟨rfl, hw⟩
      rw [hw]
      clear hw w10
      go_wp2_with fail
      refine (put_none F4.out 5 1 (by omega)).mono ?_
      rintro e w10 ⟨rfl, hw⟩
      rw [hw]
      clear hw w10
      go_wp2_with fail
      refine (drop_any F4.out).mono ?_
      rintro e w10 ⟨v10, V10, rfl, i10, f10, m10⟩
      rw [gone_qs _ rfl] at f10
      have hdl : dropL (qs [[], [], [1, 2, 3, 4], [], []]) 5 = [⟨2, 1⟩, ⟨2, 2⟩, ⟨2, 3⟩, ⟨2, 4⟩] := rfl
      rw [hdl] at i10
      have b10 := m10.fresh b (Nat.le_refl _)
      have J7 := I7.out.moved F4.out m10
      have J8 := I8.out.moved F4.out m10
      obtain ⟨A7, cap7, rfl, _, h7⟩ := J7.form
      obtain ⟨A8, cap8, rfl, _, _⟩ := J8.form
      obtain ⟨AD, capD, rfl, _, h10⟩ := i10.form
      obtain ⟨g7, rfl, _, _, p0, p1⟩ := h7 0 (by decide)
      obtain ⟨_, he7, _, _, p2, p3⟩ := h7 1 (by decide)
      cases he7
      obtain ⟨gd, rfl, _, _, p4, p5⟩ := h10 3 (by decide)
      have q0 : w10.cell? ⟨g7, 0, none⟩ = some (.int .i64 0) := p0
      have q1 : w10.cell? ⟨g7, 1, none⟩ = some (.int .u64 5) := p1
      have q2 : w10.cell? ⟨g7, 2, none⟩ = some (.int .i64 1) := p2
      have q3 : w10.cell? ⟨g7, 3, none⟩ = some (.int .u64 8) := p3
      have q4 : w10.cell? ⟨gd, 6, none⟩ = some (.int .i64 2) := p4
      have q5 : w10.cell? ⟨gd, 7, none⟩ = some (.int .u64 4) := p5
      rw [show ([⟨0, 5⟩, ⟨1, 8⟩] : List It).length = 2 from rfl, show ([] : List It).length = 0 from rfl, show ([⟨2, 1⟩, ⟨2, 2⟩, ⟨2, 3⟩, ⟨2, 4⟩] : List It).length = 4 from rfl]
      have F10 := Lib.hid f10
      clear p0 p1 p2 p3 p4 p5 h7 h10 J7 J8 i10 f10 m10 F4 I7 I8 b hdl
      go_wp2_with fail
      refine (len_for F10.out 2 2 rfl (by omega) 0 rfl).mono ?_
      rintro e w11 ⟨rfl, hw⟩
      rw [hw]
      clear hw w11
      go_wp2_with fail
      refine (turn_for F10.out 2 rfl).mono ?_
      rintro e w11 ⟨rfl, hw⟩
      rw [hw]
      clear hw w11
      go_wp2_with fail
      refine (put_nil 0 1 _).mono ?_
      rintro e w11 ⟨rfl, hw⟩
      rw [hw]
      clear hw w11
      go_wp2_with fail
      refine (len_nil 0 _).mono ?_
      rintro e w11 ⟨rfl, hw⟩
      rw [hw]
      clear hw w11
      go_wp2_with fail
      refine (turn_nil _).mono ?_
      rintro e w11 ⟨rfl, hw⟩
      rw [hw]
      clear hw w11
      go_wp2_with fail
      refine (drain_nil 3 _).mono ?_
      rintro e w11 ⟨rfl, hw⟩
      rw [hw]
      clear hw w11
      go_wp2_with fail
      refine (drop_nil _).mono ?_
      rintro e w11 ⟨rfl, hw⟩
      rw [hw]
      clear hw w11
      go_wp2_with fail
      refine (put_none F10.out (-1) 1 (by omega)).mono ?_
      rintro e w11 ⟨rfl, hw⟩
      rw [hw]
      clear hw w11
      go_wp2_with fail
      refine (drain_any F10.out (-1)).mono ?_
      rintro e w11 ⟨v11, V11, rfl, i11, f11, m11⟩
      have hi11 : Items w11 w10.heap.size v11 [] := i11
      obtain ⟨A11, cap11, rfl, _, _⟩ := hi11.form
      rw [show ([] : List It).length = 0 from rfl]
      have b11 := m11.fresh b10 (Nat.le_refl _)
      clear i11 hi11 f11 m11 F10 q0 q1 q2 q3 q4 q5 b10
      go_wp2_with fail
      refine (awake_any _).mono ?_
      rintro e w12 ⟨rfl, b12⟩
      go_wp2_with fail
      go_ret
      exact ⟨rfl, b11.trans (b12.mono b11.size)⟩

theorem fifoKnown_own : ownKnob Try.prog.godebug = none := by kernel_rfl
theorem fifoKnown_laidOut : laidOutB Try.prog = true := by kernel_rfl
set_option maxRecDepth 100000 in
theorem fifoKnown_lifted (os : Os) (started : os.Started) (H : Type) (enc : TypeId × Value → H) :
    ReturnsInHanded {} Try.checked os 5 .any (Rows.fifoKnownSpec.pre6 enc Try.prog Try.f5 Rows.fifoKnownRow.domain false) (Rows.fifoKnownSpec.post enc Try.prog Try.f5 false true false false) := by
  refine returnsInHanded_of_change (C := Try.checked) fifoKnown_own started (by kernel_rfl) Try.func5
    (ChangeSpec.witness6 (enc := enc) (C := Try.checked) false ⟨#[], #[], []⟩ 8 (by kernel_rfl) (by kernel_rfl) (by kernel_rfl) (by kernel_rfl)) ?_
  intro W base args ds gs before hval0 hW hcnd _
  have hW' := hW
  obtain ⟨p, q, hA0, hV, rfl, hfz, hnd⟩ := hW
  have hA : DataW.TrodAll enc Try.prog W 0 (fun _ => true) true Try.f5.params.toList args.toList ds p := hA0
  rw [Try.params5] at hA
  obtain ⟨rfl, rfl, rfl⟩ := trodAll_none hA
  obtain ⟨rfl, rfl⟩ := trodVars_none hV
  clear hA0 hval0
  simp only [List.append_nil] at hW'
  refine (known_any W).mono fun e W' ⟨he, bel⟩ => ?_
  subst he
  exact ⟨_, rfl, _, _, _, [], _, [], hW', trodAll_mk1 (shut_bool Try.underlying4 _), trodAll_mk0, rfl, bel.frame _, fun h => by cases h⟩

theorem fifoKnown_over : Rows.fifoKnownRow.holds Try.pinned (OpenSpec.ofChange Rows.fifoKnownSpec) :=
  OpenClaim.holds_of_wide 5 Try.f5 rfl rfl rfl rfl rfl rfl rfl ⟨rfl, rfl, rfl, rfl, rfl⟩ rfl rfl rfl rfl rfl (by kernel_rfl) Try.func5 (by kernel_rfl)
    (of_decide_eq_true (by kernel_rfl)) (by unfold Func.isWrapper; first | (rw [if_pos (by decide +kernel)]; kernel_rfl) | (rw [if_neg (by decide +kernel)]; exact ⟨rfl, rfl⟩))
    (fun os started H enc _ => fifoKnown_lifted os started H enc)

/-- The given statement. -/
theorem fifoKnown_proved : Rows.FifoKnownSaid := fifoKnown_over
#print axioms fifoKnown_proved
end Go.Proofs.Ytacddiidldppnaa
