/- The walks of Drain and Drop. -/
import Derived.Test.YtacddiidldppnaaTakes
import Derived.Deep.DeepCutAuto
namespace Go.Proofs.Ytacddiidldppnaa
open Go.RowKit

/-- Its cells. -/
def It.cells (x : It) : List Value := [.int .i64 (x.q : Int), .int .u64 (x.id : Int)]
/-- The cells of a row of items. -/
def irow (L : List It) : List Value := L.flatMap It.cells
theorem irow_length (L : List It) : (irow L).length = L.length * 2 := by
  induction L with
  | nil => rfl
  | cons r L ih => unfold irow at *; rw [List.flatMap_cons, List.length_append, ih, List.length_cons]; simp [It.cells]; omega
theorem irow_append (L M : List It) : irow (L ++ M) = irow L ++ irow M := List.flatMap_append
theorem irow_at (L : List It) : ∀ (k j : Nat) (h : k < L.length), j < 2 → (irow L)[k * 2 + j]? = (L[k].cells)[j]? := by
  induction L with
  | nil => intro k j h; simp at h
  | cons r L ih =>
    intro k j h hj
    have e : irow (r :: L) = r.cells ++ irow L := List.flatMap_cons
    rw [e]
    cases k with
    | zero => rw [List.getElem?_append_left (by simp [It.cells]; omega)]; simp
    | succ k =>
      rw [List.getElem?_append_right (by simp [It.cells]; omega)]
      have := ih k j (by simpa using h) hj
      rw [show (k + 1) * 2 + j - r.cells.length = k * 2 + j by simp [It.cells]; omega, this]
      simp
/-- A slice of items that a call made. -/
def Items (w : World) (base : Nat) (v : Value) (L : List It) : Prop := w.ownsRow base 32 2 v L.length (irow L)
theorem Items.nil (w : World) (base : Nat) : Items w base (.slice none 0 0) [] := World.ownsRow_nil _ _ _ _
theorem Items.form {w : World} {base : Nat} {v : Value} {L : List It} (h : Items w base v L) :
    ∃ A cap, v = .slice A L.length cap ∧ L.length ≤ cap ∧ ∀ k (hk : k < L.length), ∃ hb, A = some ⟨hb, 0, none⟩ ∧ base ≤ hb ∧ hb < w.heap.size ∧
      w.cell? ⟨hb, k * 2, none⟩ = some (.int .i64 (L[k].q : Int)) ∧ w.cell? ⟨hb, k * 2 + 1, none⟩ = some (.int .u64 (L[k].id : Int)) := by
  have hL := irow_length L
  rcases h.2 with ⟨rfl, h0⟩ | ⟨g, cap, cur, rfl, h3, h4, h5, h6, h7, h8⟩
  · exact ⟨none, 0, by rw [h0], by omega, fun k hk => by omega⟩
  · refine ⟨_, cap, rfl, h5, fun k hk => ⟨g, rfl, h3, lt_of_block h4, ?_, ?_⟩⟩
    · rw [World.ownsRow.cellAt h (k * 2) (by omega)]; have := irow_at L k 0 hk (by omega); simpa [It.cells] using this
    · rw [World.ownsRow.cellAt h (k * 2 + 1) (by omega)]; have := irow_at L k 1 hk (by omega); simpa [It.cells] using this
theorem Items.row {w : World} {base : Nat} {v : Value} {L : List It} (h : Items w base v L) : ∀ k, v.ownBlock = some k → base ≤ k ∧ ∃ cur, w.heap[k]? = some (.cells cur 32 (0, 0)) := by
  intro k hk
  rcases h.2 with ⟨rfl, _⟩ | ⟨g, cap, cur, rfl, h1, h2, _⟩
  · simp [Value.ownBlock] at hk
  · have : g = k := by simpa [Value.ownBlock] using hk
    subst this
    exact ⟨h1, cur, h2⟩
theorem Items.keep {w w' : World} {base : Nat} {v : Value} {L : List It} (h : Items w base v L) (hb : ∀ k, v.ownBlock = some k → w'.heap[k]? = w.heap[k]?) : Items w' base v L := by
  refine ⟨h.1, ?_⟩
  rcases h.2 with h2 | ⟨g, cap, cur, rfl, h3, h4, h5⟩
  · exact .inl h2
  · exact .inr ⟨g, cap, cur, rfl, h3, (hb g rfl).trans h4, h5⟩
theorem Items.below {w w' : World} {base : Nat} {v : Value} {L : List It} (h : Items w base v L) (hb : Below w.heap.size w w') : Items w' base v L :=
  h.keep fun k hk => hb.block k (lt_of_block (h.row k hk).2.choose_spec)
def sliceLen : Value → Nat
  | .slice _ n _ => n
  | _ => 0
theorem info32 : (Try.prog.info? 32).map (fun i => (i.zero, i.size, i.bytes)) = some (some (.agg #[.int .i64 0, .int .u64 0]), 2, 16) := by kernel_rfl

theorem Moved.after {B g : Nat} {V V' : Nat → Value} {w w1 w2 : World} (h : Moved B g V V' w w1) (hB : B ≤ w.heap.size) (k : Below w.heap.size w1 w2) : Moved B g V V' w w2 :=
  ⟨h.below.trans (k.mono hB), fun i hi hg hv => (k.block i hi).trans (h.rest i hi hg hv), h.news⟩
section
variable {B : Nat} {w : World} {g : Nat} {V : Nat → Value} {Q : Nat → List Nat} {t : Nat}
/-- A fifo stays behind a call on another memory: items of type 32. -/
theorem FifoAt.grown (h : FifoAt B w g V Q t) {w' : World} {base : Nat} {v : Value} {L : List It} (ho : Items w base v L) (hg : w.grownBy w' v.ownBlock) : FifoAt B w' g V Q t := by
  refine h.kept (hg.block g (lt_of_block h.head) fun e => ?_) fun q hq k hk => hg.block k (lt_of_block ((h.own q hq).row k hk).2.choose_spec) fun e => ?_
  · obtain ⟨_, cur, hc⟩ := ho.row g e.symm
    exact (h.other hc (by decide) (by decide)).1 rfl
  · obtain ⟨_, cur, hc⟩ := ho.row k e.symm
    exact (h.other hc (by decide) (by decide)).2 q hq hk
/-- A fifo's work leaves items alone. -/
theorem Items.moved {w' : World} {base : Nat} {v : Value} {L : List It} {V' : Nat → Value} (h : Items w base v L) (hf : FifoAt B w g V Q t) (hm : Moved B g V V' w w') : Items w' base v L :=
  h.keep fun k hk => by
    obtain ⟨_, cur, hc⟩ := h.row k hk
    obtain ⟨n1, n2⟩ := hf.other hc (by decide) (by decide)
    exact hm.rest k (lt_of_block hc) n1 n2

/-- What Drain leaves. -/
def Drained (B g : Nat) (V : Nat → Value) (f : Ff) (n : Nat) (w : World) (e : Ending) (w' : World) : Prop := ∃ v V', e = .returned v ∧ Items w' w.heap.size v (drainF n f).2 ∧ FifoAt B w' g V' (drainF n f).1.Q (drainF n f).1.t ∧ Moved B g V V' w w'

set_option maxHeartbeats 1000000 in
theorem drain_any (h : FifoAt B w g V Q t) (n : Int) : Calls Try.prog 11 #[.pointer (some ⟨g, 0, none⟩), .int .i64 n] w (Drained B g V ⟨Q, t⟩ n.toNat w) := by
  obtain ⟨i0, hi, hz0, hz1, hz2⟩ := info_parts info32
  have hB := h.ltB
  go_enter Try.func11, Try.ntmps11
  go_wp2_with fail
  go_loopw [5] (fun v wr => ∃ (L : List It) (V' : Nat → Value) (f : Ff), Hid (drainF n.toNat ⟨Q, t⟩ = ((drainF (n.toNat - L.length) f).1, L ++ (drainF (n.toNat - L.length) f).2)) ∧ L.length + total f.Q ≤ 20 ∧ Hid (Items wr w.heap.size v L) ∧ Hid (FifoAt B wr g V' f.Q f.t) ∧ Hid (Moved B g V V' w wr)) (fun v _ => 20 - sliceLen v)
  case atStart => exact ⟨[], V, ⟨Q, t⟩, Lib.hid (by simp), by have := h.total_le; simpa using this, Lib.hid (Items.nil _ _), Lib.hid h, Lib.hid (Moved.refl _ _ _ _)⟩
  case round =>
    obtain ⟨L, V1, f, HD, hlen, HI, HF, HM⟩ := hrel
    obtain ⟨A, cap, hv, _, _⟩ := HI.out.form
    subst hv
    by_cases hlt : (L.length : Int) < n
    · cases htk : takeF f with
      | none =>
        have HP := Lib.hid (takeF_none htk)
        have HT := Lib.hid htk
        clear htk
        go_wp2_with fail
        refine (takes_none HF.out HP.out).mono ?_
        rintro e w2 ⟨rfl, hb2⟩
        go_wp2_with fail
        go_ret
        have hN : n.toNat - L.length = (n.toNat - L.length - 1) + 1 := by omega
        have hd := HD.out
        rw [hN] at hd
        simp only [drainF, HT.out, List.append_nil] at hd
        have hsz := HM.out.below.size
        refine ⟨_, V1, rfl, ?_, ?_, ?_⟩
        · rw [hd]; exact HI.out.below (hb2.alloc hb2.size _)
        · rw [hd]; exact (HF.out.below hb2).below ((Below.refl _ _).alloc (Nat.le_refl _) _)
        · exact HM.out.after hB ((hb2.mono hsz).alloc (by have := hb2.size; omega) _)
      | some r =>
        obtain ⟨f2, x⟩ := r
        obtain ⟨hxq, r, hp, hQ, rfl⟩ := takeF_some htk
        have HT := Lib.hid htk
        have htot := takeF_total htk
        simp only at htot
        have HP := Lib.hid hp
        have HQ := Lib.hid hQ
        clear htk hp hQ
        go_wp2_with fail
        refine (takes_some HF.out HP.out HQ.out).mono ?_
        rintro e w2 ⟨rfl, V2, f2, m2⟩
        have HI2 := Lib.hid (HI.out.moved HF.out m2)
        have hsz := HM.out.below.size
        have hsz2 := m2.below.size
        have HM2 := Lib.hid (HM.out.trans m2)
        have HF2 := Lib.hid f2
        have HN := Lib.hid (World.news_of_block (cs := #[.int .i64 (x.q : Int), .int .u64 (x.id : Int)]) (heap_alloc2_new w2 (.cells #[.int .i64 (x.q : Int), .int .u64 (x.id : Int)] 32) (.cells #[.int .i64 (x.q : Int), .int .u64 (x.id : Int)] 32)))
        clear f2 m2
        go_wp2_with (at_builtin; refine wpList_append_own _ rfl (.tmp 23) (.tmp 25) 28 rfl w.heap.size 32 i0 (.agg #[.int .i64 0, .int .u64 0]) 2 16 Try.underlying28 hi hz0 hz1 hz2 rfl (by decide) _ L.length (irow L) rfl ((HI2.out.alloc _).alloc _) ⟨w2.heap.size + 1, 0, none⟩ 1 1 [.int .i64 (x.q : Int), .int .u64 (x.id : Int)] rfl rfl HN.out (by simp [Value.oneCell']) (by unfold maxLen; omega) (by omega) (by simp; omega) ?_; intro v' w3 hown hgrow _; obtain ⟨gg, cc, rfl, _, _⟩ := hown.form (by omega))
        go_roundw
        case rel =>
          have hI : Items ((w2.alloc (.cells #[.int .i64 (x.q : Int), .int .u64 (x.id : Int)] 32)).alloc (.cells #[.int .i64 (x.q : Int), .int .u64 (x.id : Int)] 32)) w.heap.size (.slice A L.length cap) L := (HI2.out.alloc _).alloc _
          have hF := (HF2.out.below ((Below.refl _ _).alloc (Nat.le_refl _) (.cells #[.int .i64 (x.q : Int), .int .u64 (x.id : Int)] 32))).below ((Below.refl _ _).alloc (Nat.le_refl _) (.cells #[.int .i64 (x.q : Int), .int .u64 (x.id : Int)] 32))
          refine ⟨L ++ [x], V2, ⟨upd f.Q x.q r, (x.q + 1) % 5⟩, Lib.hid ?_, ?_, Lib.hid ?_, Lib.hid (hF.grown hI hgrow), Lib.hid (HM2.out.after hB ?_)⟩
          · have hd := HD.out
            rw [show n.toNat - L.length = (n.toNat - (L ++ [x]).length) + 1 by rw [List.length_append, List.length_singleton]; omega] at hd
            simp only [drainF, HT.out] at hd
            rw [hd, List.append_assoc]; rfl
          · show (L ++ [x]).length + total (upd f.Q x.q r) ≤ 20
            rw [List.length_append, List.length_singleton]; omega
          · unfold Items
            rw [irow_append, List.length_append]
            exact hown
          · exact ((((Below.refl w.heap.size w2).alloc (by omega) _).alloc (by simp; omega) _).grown hgrow (by simp; omega) (fun j hj => (hI.row j hj).1))
        case measure => simp only [sliceLen]; omega
    · go_wp2_with fail
      go_ret
      have hd := HD.out
      rw [show n.toNat - L.length = 0 by omega] at hd
      simp only [drainF, List.append_nil] at hd
      exact ⟨_, V1, rfl, by rw [hd]; exact HI.out, by rw [hd]; exact HF.out, HM.out⟩

/-- The items of the first so many queues, in order. -/
def dropL (Q : Nat → List Nat) : Nat → List It
  | 0 => []
  | n + 1 => dropL Q n ++ (Q n).map (It.mk n)
/-- Queues below q are brought to none. -/
def gone (Q : Nat → List Nat) (q : Nat) : Nat → List Nat := fun j => if j < q then [] else Q j
theorem gone_zero (Q : Nat → List Nat) : gone Q 0 = Q := by funext j; simp [gone]
theorem gone_succ (Q : Nat → List Nat) (q : Nat) : upd (gone Q q) q [] = gone Q (q + 1) := by
  funext j
  unfold upd gone
  by_cases e : j = q
  · subst e; simp
  · by_cases h : j < q
    · rw [if_neg e, if_pos h, if_pos (by omega)]
    · rw [if_neg e, if_neg h, if_neg (by omega)]
theorem dropL_length (Q : Nat → List Nat) : ∀ n, n ≤ 5 → (∀ q, q < 5 → (Q q).length ≤ 4) → (dropL Q n).length ≤ n * 4
  | 0, _, _ => by simp [dropL]
  | n + 1, h, hr => by
    have := dropL_length Q n (by omega) hr
    have := hr n (by omega)
    simp only [dropL, List.length_append, List.length_map]
    omega
/-- A queue's slice stored. -/
theorem FifoAt.put1 (h : FifoAt B w g V Q t) {q : Nat} {v' : Value} {r : List Nat} (hq : q < 5) (hr : r.length ≤ 4) (hv : QAt w B v' r) (hown : ∀ k, v'.ownBlock = some k → (V q).ownBlock = some k) :
    FifoAt B (w.setCell ⟨g, q, none⟩ v') g (upd V q v') (upd Q q r) t ∧ Moved B g V (upd V q v') w (w.setCell ⟨g, q, none⟩ v') := by
  have hold : ∀ i, i ≠ g → (w.setCell ⟨g, q, none⟩ v').heap[i]? = w.heap[i]? := fun i hi => by rw [heap_setCell_other _ _ _ _ hi]
  refine ⟨⟨h.base, ?_, fun p hp => ?_, fun p s hp hs hps k hk => ?_, h.turn, fun p hp => ?_⟩, ⟨(Below.refl B w).setCell h.base _, fun i _ hig _ => hold i hig, fun p hp k hk => ?_⟩⟩
  · rw [heap_setCell_same _ _ _ _ _ _ h.head, set_head V q hq]
  · by_cases e : p = q
    · subst e
      rw [upd_same, upd_same]
      exact hv.keep fun k hk => hold k fun e => h.head_ne hp (by rw [hown k hk, e])
    · rw [upd_other _ _ e, upd_other _ _ e]
      exact (h.own p hp).keep fun k hk => hold k fun e => h.head_ne hp (by rw [hk, e])
  · have f : ∀ {p k}, (upd V q v' p).ownBlock = some k → (V p).ownBlock = some k := fun {p k} hk => by
      by_cases e : p = q
      · subst e; rw [upd_same] at hk; exact hown k hk
      · rwa [upd_other _ _ e] at hk
    exact fun hk2 => h.apart p s hp hs hps k (f hk) (f hk2)
  · by_cases e : p = q
    · subst e; rw [upd_same]; exact hr
    · rw [upd_other _ _ e]; exact h.room p hp
  · by_cases e : p = q
    · subst e; rw [upd_same] at hk; exact .inl ⟨p, hp, hown k hk⟩
    · rw [upd_other _ _ e] at hk; exact .inl ⟨p, hp, hk⟩

/-- What Drop leaves. -/
def Dropped (B g : Nat) (V : Nat → Value) (Q : Nat → List Nat) (t : Nat) (w : World) (e : Ending) (w' : World) : Prop := ∃ v V', e = .returned v ∧ Items w' w.heap.size v (dropL Q 5) ∧ FifoAt B w' g V' (gone Q 5) t ∧ Moved B g V V' w w'

set_option maxHeartbeats 1000000 in
theorem drop_any (h : FifoAt B w g V Q t) : Calls Try.prog 16 #[.pointer (some ⟨g, 0, none⟩)] w (Dropped B g V Q t w) := by
  obtain ⟨i0, hi, hz0, hz1, hz2⟩ := info_parts info32
  have hB := h.ltB
  have hroom := h.room
  have HR := Lib.hid hroom
  clear hroom
  go_enter Try.func16, Try.ntmps16
  go_wp2_with fail
  go_loopw [3, 9] (fun v i wr => ∃ (q : Nat) (V' : Nat → Value), q ≤ 5 ∧ i = .int .i64 q ∧ Hid (Items wr w.heap.size v (dropL Q q)) ∧ Hid (FifoAt B wr g V' (gone Q q) t) ∧ Hid (Moved B g V V' w wr)) (fun _ i _ => 5 - (intOf i).toNat)
  case atStart => exact ⟨0, V, by omega, rfl, Lib.hid (Items.nil _ _), Lib.hid (by rw [gone_zero]; exact h), Lib.hid (Moved.refl _ _ _ _)⟩
  case round =>
    obtain ⟨q, V1, hq, rfl, HI, HF, HM⟩ := hrel
    obtain ⟨wo, rfl⟩ : ∃ wo : World, wo = wr := ⟨_, rfl⟩
    by_cases hq5 : q < 5
    · have hg : gone Q q q = Q q := by simp [gone]
      obtain ⟨A, cap, hv, _, hcs⟩ := (HF.out.own q hq5).form
      rw [hg] at hv hcs
      have hc := HF.out.cell q hq5
      rw [hv] at hc
      have i0' : (0 : Int) ≤ (q : Int) := by omega
      have i5 : (q : Int) < 5 := by omega
      have hr4 := HR.out q hq5
      have hd4 := dropL_length Q q hq HR.out
      have HV := Lib.hid hv
      clear hg hv
      go_wp2_with fail
      clear hcs
      go_loopw [3, 19] (fun v i wr => ∃ k : Nat, k ≤ (Q q).length ∧ i = .int .i64 k ∧ Hid (Items wr w.heap.size v (dropL Q q ++ ((Q q).take k).map (It.mk q))) ∧ Hid (FifoAt B wr g V1 (gone Q q) t) ∧ Hid (Moved B g V V1 w wr)) (fun _ i _ => (Q q).length - (intOf i).toNat)
      case atStart => exact ⟨0, Nat.zero_le _, rfl, Lib.hid (by simpa using HI.out), HF, HM⟩
      case round =>
        clear HI hc HF HM
        obtain ⟨k, hk, rfl, HI, HF2, HM2⟩ := hrel
        by_cases hkl : k < (Q q).length
        · obtain ⟨A2, cap2, hv2, _, hcs⟩ := (HF2.out.own q hq5).form
          have hg : gone Q q q = Q q := by simp [gone]
          rw [hg] at hcs
          rw [HV.out, hg] at hv2
          cases hv2
          obtain ⟨hb, off, rfl, c0⟩ := hcs k hkl
          obtain ⟨x, hx⟩ : ∃ x, (Q q)[k] = x := ⟨_, rfl⟩
          rw [hx] at c0
          have HX := Lib.hid hx
          clear hx hcs hg
          have hsz := HM2.out.below.size
          have hlen : (dropL Q q ++ ((Q q).take k).map (It.mk q)).length ≤ 40 := by rw [List.length_append, List.length_map, List.length_take]; omega
          obtain ⟨M, hM⟩ : ∃ M, dropL Q q ++ ((Q q).take k).map (It.mk q) = M := ⟨_, rfl⟩
          rw [hM] at hlen HI
          have HMM := Lib.hid hM
          clear hM
          obtain ⟨A3, cap3, hv3, _, _⟩ := HI.out.form
          subst hv3
          have HN := Lib.hid (World.news_of_block (cs := #[.int .i64 (q : Int), .int .u64 (x : Int)]) (heap_alloc_new wr (.cells #[.int .i64 (q : Int), .int .u64 (x : Int)] 32)))
          go_wp2_with (at_builtin; refine wpList_append_own _ rfl (.tmp 23) (.tmp 27) 28 rfl w.heap.size 32 i0 (.agg #[.int .i64 0, .int .u64 0]) 2 16 Try.underlying28 hi hz0 hz1 hz2 rfl (by decide) (.slice A3 M.length cap3) M.length (irow M) rfl (HI.out.alloc _) ⟨wr.heap.size, 0, none⟩ 1 1 [.int .i64 (q : Int), .int .u64 (x : Int)] rfl rfl HN.out (by simp [Value.oneCell']) (by unfold maxLen; omega) (by omega) (by simp; omega) ?_; intro v' w3 hown hgrow _)
          go_roundw
          case rel =>
            have hI : Items (wr.alloc (.cells #[.int .i64 (q : Int), .int .u64 (x : Int)] 32)) w.heap.size (.slice A3 M.length cap3) M := HI.out.alloc _
            have hF := HF2.out.below ((Below.refl _ _).alloc (Nat.le_refl _) (.cells #[.int .i64 (q : Int), .int .u64 (x : Int)] 32))
            refine ⟨k + 1, by omega, by go_num, Lib.hid ?_, Lib.hid (hF.grown hI hgrow), Lib.hid (HM2.out.after hB ?_)⟩
            · rw [List.take_succ_eq_append_getElem hkl, List.map_append, ← List.append_assoc, HMM.out, HX.out]
              unfold Items
              rw [irow_append, List.length_append]
              exact hown
            · exact (((Below.refl w.heap.size wr).alloc hsz _).grown hgrow (by simp; omega) (fun j hj => (hI.row j hj).1))
          case measure => simp [intOf]; omega
        · obtain rfl : k = (Q q).length := by omega
          have hf := HF2.out.frozen q
          have hc := HF2.out.cell q hq5
          rw [HV.out] at hc
          go_wp2_with fail
          go_roundw
          case rel =>
            obtain ⟨e1, e2⟩ := HF2.out.put1 hq5 (v' := .slice none 0 0) (r := []) (by simp) (QAt.nil _ _) (fun k hk => by simp [Value.ownBlock] at hk)
            rw [gone_succ] at e1
            refine ⟨q + 1, _, by omega, by go_num, Lib.hid ?_, Lib.hid e1, Lib.hid (HM2.out.trans e2)⟩
            have := HI.out.moved HF2.out e2
            rw [List.take_length] at this
            exact this
          case measure => simp [intOf]; omega
    · obtain rfl : q = 5 := by omega
      go_wp2_with fail
      go_ret
      exact ⟨_, V1, rfl, HI.out, HF.out, HM.out⟩
end
end Go.Proofs.Ytacddiidldppnaa
