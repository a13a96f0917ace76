/- The walk of Begin. -/
import Derived.Test.YtlenmhclnmcljaaAsk
import Derived.Deep.DeepCutAuto
import Derived.BigRegion
import Derived.RegionTactic
namespace Go.Proofs.Ytlenmhclnmcljaa
open Go.RowKit

/-- The greatest index and round among those that are begun: the last one's. -/
def topIx (L : List Rd) (b : Nat) : Nat := if 0 < b then (L.getD (b - 1) ⟨0, 0, 0⟩).ix else 0
def topRd (L : List Rd) (b : Nat) : Nat := if 0 < b then (L.getD (b - 1) ⟨0, 0, 0⟩).rd else 0
/-- Those that wait, begun. -/
def begunL (L : List Rd) (b ix rd : Nat) : List Rd := L.take b ++ (L.drop b).map fun r => ⟨r.id, max ix (topIx L b), max rd (topRd L b)⟩

/-- Those from b to k are begun. -/
def Part (L : List Rd) (b IX RD k : Nat) (M : List Rd) : Prop := ∀ p (h : p < L.length), M[p]? = some (if b ≤ p ∧ p < k then ⟨L[p].id, IX, RD⟩ else L[p])
theorem Part.start (L : List Rd) (b IX RD : Nat) : Part L b IX RD b L := fun p h => by
  rw [if_neg (by omega)]; exact List.getElem?_eq_getElem h
theorem Part.step {L M : List Rd} {b IX RD k : Nat} (h : Part L b IX RD k M) (hl : M.length = L.length) (hb : b ≤ k) (hk : k < L.length) : Part L b IX RD (k + 1) (M.set k ⟨(M[k]'(by omega)).id, IX, RD⟩) := fun p hp => by
  rw [List.getElem?_set]
  by_cases e : k = p
  · subst e
    have h1 := h k hp
    rw [if_neg (by omega), List.getElem?_eq_getElem (by omega)] at h1
    rw [if_pos rfl, if_pos (by omega), if_pos (by omega), Option.some.inj h1]
  · rw [if_neg e, h p hp]
    congr 1
    by_cases e2 : b ≤ p ∧ p < k
    · rw [if_pos e2, if_pos (by omega)]
    · rw [if_neg e2, if_neg (by omega)]
theorem Part.done {L M : List Rd} {b ix rd IX RD : Nat} (h : Part L b IX RD L.length M) (hl : M.length = L.length) (hle : b ≤ L.length) (hIX : max ix (topIx L b) = IX) (hRD : max rd (topRd L b) = RD) : M = begunL L b ix rd := by
  unfold begunL
  rw [hIX, hRD]
  apply List.ext_getElem?
  intro p
  by_cases hp : p < L.length
  · rw [h p hp]
    by_cases hb : b ≤ p
    · rw [if_pos ⟨hb, hp⟩, List.getElem?_append_right (by rw [List.length_take]; omega), List.length_take, Nat.min_eq_left hle, List.getElem?_map, List.getElem?_drop, show b + (p - b) = p by omega, List.getElem?_eq_getElem hp]
      rfl
    · rw [if_neg (by omega), List.getElem?_append_left (by rw [List.length_take]; omega), List.getElem?_take_of_lt (by omega), List.getElem?_eq_getElem hp]
  · rw [List.getElem?_eq_none (by omega), List.getElem?_eq_none (by simp; omega)]

theorem row_set (M : List Rd) : ∀ (k : Nat) (h : k < M.length) (IX RD : Nat), ((row M).set (k * 3 + 1) (.int .u64 (IX : Int))).set (k * 3 + 2) (.int .u64 (RD : Int)) = row (M.set k ⟨M[k].id, IX, RD⟩) := by
  induction M with
  | nil => intro k h; simp at h
  | cons r M ih =>
    intro k h IX RD
    have e : ∀ (x : Rd) (l : List Rd), row (x :: l) = [.int .u64 (x.id : Int), .int .u64 (x.ix : Int), .int .u64 (x.rd : Int)] ++ row l := fun _ _ => rfl
    cases k with
    | zero => rw [e, List.set_cons_zero, e]; simp
    | succ k =>
      rw [e, List.set_cons_succ, e, List.getElem_cons_succ, ← ih k (by simpa using h) IX RD]
      rw [show (k + 1) * 3 + 1 = k * 3 + 1 + 3 by omega, show (k + 1) * 3 + 2 = k * 3 + 2 + 3 by omega]
      rfl

theorem own_at {w : World} {base : Nat} {A : Option Addr} {n cap : Nat} {L : List Rd} (h : w.ownsRow base 32 3 (.slice A n cap) L.length (row L)) (k : Nat) (hk : k < L.length) :
    ∃ hb, A = some ⟨hb, 0, none⟩ ∧ base ≤ hb ∧ hb < w.heap.size ∧ w.cell? ⟨hb, k * 3, none⟩ = some (.int .u64 (L[k].id : Int)) ∧ w.cell? ⟨hb, k * 3 + 1, none⟩ = some (.int .u64 (L[k].ix : Int)) ∧
      w.cell? ⟨hb, k * 3 + 2, none⟩ = some (.int .u64 (L[k].rd : Int)) ∧ ∀ j, w.frozen? ⟨hb, j, none⟩ = false := by
  obtain ⟨A', cap', e, _, hc⟩ := own_form h
  obtain ⟨hb, hA, h1, h2, h3, h4, h5⟩ := hc k hk
  cases e
  subst hA
  exact ⟨hb, rfl, h1, h2, h3, h4, h5, fun j => h.frozenAt j⟩
theorem topIx_le {B : Nat} {w : World} {g : Nat} {v : Value} {L : List Rd} {b : Nat} (h : ReadsAt B w g v L b) : topIx L b ≤ 18446744073709551615 := by
  unfold topIx
  have hle := h.le
  split
  · rw [List.getD_eq_getElem?_getD, List.getElem?_eq_getElem (by omega), Option.getD_some]
    exact (h.fits _ (List.getElem_mem _)).2.1
  · omega
theorem topRd_le {B : Nat} {w : World} {g : Nat} {v : Value} {L : List Rd} {b : Nat} (h : ReadsAt B w g v L b) : topRd L b ≤ 18446744073709551615 := by
  unfold topRd
  have hle := h.le
  split
  · rw [List.getD_eq_getElem?_getD, List.getElem?_eq_getElem (by omega), Option.getD_some]
    exact (h.fits _ (List.getElem_mem _)).2.2
  · omega
theorem Aside.setRowCell {w : World} {g i : Nat} {cs : Array Value} (h : w.heap[g]? = some (.cells cs 32 (0, 0))) (u : Value) : Aside w (w.setCell ⟨g, i, none⟩ u) := fun k c t fr hk _ h32 => by
  refine (heap_setCell_other _ _ _ _ ?_).trans hk
  rintro rfl
  rw [h] at hk
  cases hk
  exact h32 rfl
/-- An index and a round stored into a read of the list. -/
theorem ReadsAt.stored {B : Nat} {w : World} {g hb n cap : Nat} {M : List Rd} {b : Nat} (h : ReadsAt B w g (.slice (some ⟨hb, 0, none⟩) n cap) M b) (k : Nat) (hk : k < M.length) (IX RD : Nat) (hI : IX ≤ 18446744073709551615) (hR : RD ≤ 18446744073709551615) :
    ReadsAt B ((w.setCell ⟨hb, k * 3 + 1, none⟩ (.int .u64 (IX : Int))).setCell ⟨hb, k * 3 + 2, none⟩ (.int .u64 (RD : Int))) g (.slice (some ⟨hb, 0, none⟩) n cap) (M.set k ⟨M[k].id, IX, RD⟩) b ∧
      Below B w ((w.setCell ⟨hb, k * 3 + 1, none⟩ (.int .u64 (IX : Int))).setCell ⟨hb, k * 3 + 2, none⟩ (.int .u64 (RD : Int))) ∧
      Aside w ((w.setCell ⟨hb, k * 3 + 1, none⟩ (.int .u64 (IX : Int))).setCell ⟨hb, k * 3 + 2, none⟩ (.int .u64 (RD : Int))) ∧
      Apart g (.slice (some ⟨hb, 0, none⟩) n cap) w ((w.setCell ⟨hb, k * 3 + 1, none⟩ (.int .u64 (IX : Int))).setCell ⟨hb, k * 3 + 2, none⟩ (.int .u64 (RD : Int))) := by
  have hne : g ≠ hb := fun e => own_head_ne h.own h.head (by simp [Value.ownBlock, e])
  have hn : n = M.length := by
    obtain ⟨A', cap', e, _, _⟩ := own_form h.own
    cases e; rfl
  subst hn
  have o1 := (h.own.stored (k * 3 + 1) (.int .u64 (IX : Int))).1
  have o2 := (o1.stored (k * 3 + 2) (.int .u64 (RD : Int))).1
  rw [row_set M k hk IX RD] at o2
  have hBb : B ≤ hb := (h.own.lt hb rfl).1
  obtain ⟨cur, hcur⟩ : ∃ cur, w.heap[hb]? = some (.cells cur 32 (0, 0)) := by
    rcases h.own.2 with ⟨e, _⟩ | ⟨g', cap', cur, e, _, hh, _⟩
    · cases e
    · cases e; exact ⟨cur, hh⟩
  refine ⟨⟨h.base, ?_, by rw [List.length_set]; exact o2, by rw [List.length_set]; exact h.le, fun r hr => ?_⟩, (Below.setCell (Below.setCell (Below.refl B w) (by exact hBb) _) (by exact hBb) _), ?_, fun i _ _ hv => ?_⟩
  · rw [heap_setCell_other _ _ _ _ hne, heap_setCell_other _ _ _ _ hne]; exact h.head
  · rcases List.mem_or_eq_of_mem_set hr with hr | rfl
    · exact h.fits r hr
    · exact ⟨(h.fits _ (List.getElem_mem hk)).1, hI, hR⟩
  · exact (Aside.setRowCell hcur _).trans (Aside.setRowCell (heap_setCell_same _ _ _ _ _ _ hcur) _)
  · have hi : i ≠ hb := fun e => hv (by simp [Value.ownBlock, e])
    rw [heap_setCell_other _ _ _ _ hi, heap_setCell_other _ _ _ _ hi]
theorem int_eq {k : IntKind} {a b : Int} (h : a = b) : Value.int k a = Value.int k b := by rw [h]
set_option maxRecDepth 100000 in
set_option maxHeartbeats 1000000 in
theorem begin_any (B g : Nat) (v : Value) (L : List Rd) (b ix rd : Nat) (w : World) (hat : ReadsAt B w g v L b) (hn : L.length ≤ 1000) (hix : ix ≤ 18446744073709551615) (hrd : rd ≤ 18446744073709551615) :
    Calls Try.prog 10 #[.pointer (some ⟨g, 0, none⟩), .int .u64 (ix : Int), .int .u64 (rd : Int)] w fun e w' => e = .returned (.int .i64 ((L.length - b : Nat) : Int)) ∧ ReadsAt B w' g v (begunL L b ix rd) L.length ∧ Below B w w' ∧ Aside w w' ∧ Apart g v w w' := by
  obtain ⟨A, cap, rfl, _, hcs⟩ := own_form hat.own
  have hc := hat.cell0
  have hc1 := hat.cell1
  have hle := hat.le
  have hlt := lt_of_block hat.head
  go_enter Try.func10, Try.ntmps10
  go_upto_if 16 with (fail)
  go_cut [1, 2] (fun x y wx => x = .int .u64 ((max ix (topIx L b) : Nat) : Int) ∧ y = .int .u64 ((max rd (topRd L b) : Nat) : Int) ∧ ReadsAt B wx g (.slice A L.length cap) L b ∧ Below w.heap.size w wx)
  case first =>
    by_cases h0 : 0 < b
    · obtain ⟨hb, rfl, _, hbl, c0, c1, c2⟩ := hcs (b - 1) (by omega)
      obtain ⟨r, hr⟩ : ∃ r, L[b - 1] = r := ⟨_, rfl⟩
      rw [hr] at c0 c1 c2
      have HR := Lib.hid hr
      clear hr
      have HTI : Hid (topIx L b = r.ix) := Lib.hid (by unfold topIx; rw [if_pos h0, List.getD_eq_getElem?_getD, List.getElem?_eq_getElem (by omega), Option.getD_some, HR.out])
      have HTR : Hid (topRd L b = r.rd) := Lib.hid (by unfold topRd; rw [if_pos h0, List.getD_eq_getElem?_getD, List.getElem?_eq_getElem (by omega), Option.getD_some, HR.out])
      have hi0 : (0 : Int) ≤ (b : Int) - 1 := by omega
      have hi1 : (b : Int) - 1 < (L.length : Int) := by omega
      have hi2 : ((b : Int) - 1).toNat = b - 1 := by omega
      go_wp2_with fail
      go_region
      clear hi0 hi1 hi2
      go_wp2_with fail
      go_quiet (fail)
      go_wp2_with fail
      all_goals
        go_meet
        exact ⟨int_eq (by rw [HTI.out, Nat.max_def]; split <;> omega), int_eq (by rw [HTR.out, Nat.max_def]; split <;> omega), hat.below (blw_draws ((Below.refl _ _).alloc (Nat.le_refl _) _) _), blw_draws ((Below.refl _ _).alloc (Nat.le_refl _) _) _⟩
    · obtain rfl : b = 0 := by omega
      go_wp2_with fail
      go_meet
      exact ⟨by simp [topIx], by simp [topRd], hat, Below.refl _ _⟩
  case rest =>
    obtain ⟨rfl, rfl, h1, hb1⟩ := hcut
    obtain ⟨IX, hIX⟩ : ∃ IX, max ix (topIx L b) = IX := ⟨_, rfl⟩
    obtain ⟨RD, hRD⟩ : ∃ RD, max rd (topRd L b) = RD := ⟨_, rfl⟩
    rw [hIX, hRD]
    have HIX := Lib.hid hIX
    have HRD := Lib.hid hRD
    clear hIX hRD hc hc1 hcs
    have hc := h1.cell0
    have hc1 := h1.cell1
    have H1 := Lib.hid h1
    clear h1
    go_wp2_with fail
    go_quiet (fail)
    go_wp2_with fail
    go_loopw [9] (fun i wr => ∃ (k : Nat) (M : List Rd), b ≤ k ∧ k ≤ L.length ∧ i = .int .i64 k ∧ Hid (M.length = L.length) ∧ Hid (Part L b IX RD k M) ∧ Hid (ReadsAt B wr g (.slice A L.length cap) M b) ∧ Below B w wr ∧ Hid (Aside w wr ∧ Apart g (.slice A L.length cap) w wr)) (fun i _ => L.length - (intOf i).toNat)
    case atStart => exact ⟨b, L, Nat.le_refl _, hle, rfl, rfl, Part.start L b IX RD, (H1.out.kept fun _ _ => rfl), blw_draws (hb1.mono hat.ltB) _, ⟨(Aside.of_below hb1).trans (Aside.draws _ _), fun i hi _ _ => hb1.block i hi⟩⟩
    case round =>
      clear hc hc1 H1 hb1
      obtain ⟨k, M, hbk, hk, rfl, HML, HP, HR, hbw, HAs⟩ := hrel
      have hc := HR.out.cell0
      have hc1 := HR.out.cell1
      by_cases hkl : k < L.length
      · obtain ⟨hb, rfl, hBb, hbl, c0, c1, c2, hfz⟩ := own_at HR.out.own k (by rw [HML.out]; exact hkl)
        have hf1 := hfz (k * 3 + 1)
        have hf2 := hfz (k * 3 + 2)
        have hki : (k : Int) < (L.length : Int) := by omega
        have hki0 : (0 : Int) ≤ (k : Int) := by omega
        have hgb : ¬ hb = g := fun e => own_head_ne HR.out.own HR.out.head (by simp [Value.ownBlock, e])
        clear hfz c0
        go_wp2_with fail
        go_region
        clear hki hki0
        go_wp2_with fail
        go_roundw
        case rel =>
          obtain ⟨e1, e2, e3, e4⟩ := HR.out.stored k (by rw [HML.out]; exact hkl) IX RD (by rw [← HIX.out]; have := topIx_le hat; omega) (by rw [← HRD.out]; have := topRd_le hat; omega)
          exact ⟨k + 1, _, by omega, by omega, by go_num, Lib.hid (by rw [List.length_set]; exact HML.out), Lib.hid (HP.out.step HML.out hbk hkl), e1.kept fun _ _ => rfl, (hbw.trans e2).drew, ⟨HAs.out.1.trans (e3.trans (Aside.draws _ 1)), fun i hi hne hv => (e4 i (Nat.lt_of_lt_of_le hi hbw.size) hne hv).trans (HAs.out.2 i hi hne hv)⟩⟩
        case measure => simp [intOf]; omega
      · obtain rfl : k = L.length := by omega
        have hf1 := HR.out.frozen 1
        go_wp2_with fail
        go_ret
        have hM := HP.out.done HML.out hle HIX.out HRD.out
        have hX := HR.out
        have hl := HML.out
        subst hM
        refine ⟨ret_int (by omega), ⟨hX.base, ?_, ?_, by omega, hX.fits⟩, hbw.setCell hX.base _, HAs.out.1.trans (Aside.setCell hX.head _), fun i hi hne hv => (heap_setCell_other _ _ _ _ hne).trans (HAs.out.2 i hi hne hv)⟩
        · rw [heap_setCell_same _ _ _ _ _ _ hX.head]; rfl
        · exact ownsRow_of_heap hX.own fun k hk => heap_setCell_other _ _ _ _ (fun e => own_head_ne hX.own hX.head (by rw [hk, e]))
end Go.Proofs.Ytlenmhclnmcljaa
