/- The walks of Told and Drop; the methods at nil. -/
import Derived.Test.YtlenmhclnmcljaaBegin
namespace Go.Proofs.Ytlenmhclnmcljaa
open Go.RowKit

/-- How many reads are told by a round. -/
def cnt (L : List Rd) (b round : Nat) : Nat := ((L.take b).takeWhile fun r => decide (r.rd ≤ round)).length

theorem clone_at (A : Option Addr) (n cap : Nat) (L : List Rd) (w : World) (hs : Src w A L) (hn : n = L.length) (h : n ≤ 1000) :
    Calls Try.prog 19 #[.slice A n cap] w fun e w' => ∃ v, e = .returned v ∧ w'.ownsRow w.heap.size 32 3 v L.length (row L) ∧ Below w.heap.size w w' := by
  subst hn
  exact clone_any A cap L w hs h

theorem slice_from (A : Option Addr) (n cap k : Nat) (X : Option Addr) (hk : k ≤ n) (hX : (if cap = k then A else A.map (·.add (k * 3))) = X) (w : World) :
    (Instr.sliceAt 29 (.slice A n cap) (some (.int .i64 (k : Int))) none none).run Try.prog w = .ok (.slice X (n - k) (cap - k)) w := by
  have hu := Try.underlying29
  have hz : (sizeOf 32).run Try.prog w = .ok 3 w := by kernel_rfl
  have he : Try.prog.elem 29 = 32 := by kernel_rfl
  rw [run_sliceAt_slice w 29 _ _ _ _ (by rw [he]; exact hu), run_slice_l w 29 A n cap (by rw [he]; exact hu) .i64 (k : Int) (by omega) (by omega), he, hz, Result.andThen_ok]
  simp only [sliced, Int.toNat_natCast]
  rw [← hX]

theorem src_take {w : World} {base : Nat} {A : Option Addr} {n cap : Nat} {L : List Rd} (h : w.ownsRow base 32 3 (.slice A n cap) L.length (row L)) (k : Nat) : Src w A (L.take k) := fun hp => by
  rw [List.length_take] at hp
  obtain ⟨hb, rfl, _⟩ := own_at h 0 (by omega)
  refine ⟨_, rfl, fun j u hj => ?_⟩
  have := h.cells (g := hb) rfl j u
  refine this ?_
  have hsplit : row L = row (L.take k) ++ row (L.drop k) := by rw [← row_append, List.take_append_drop]
  rw [hsplit, List.getElem?_append_left (List.getElem?_eq_some_iff.1 hj).1]
  exact hj

theorem add_add (a : Addr) (i j : Nat) : (a.add i).add j = a.add (i + j) := by
  unfold Addr.add
  by_cases hi : i = 0 <;> by_cases hj : j = 0 <;> simp [hi, hj, Nat.add_assoc]
theorem src_drop {w : World} {base : Nat} {A : Option Addr} {n cap : Nat} {L : List Rd} (h : w.ownsRow base 32 3 (.slice A n cap) L.length (row L)) (k : Nat) (hk : k ≤ L.length) (hcap : L.length ≤ cap) :
    Src w (if cap = k then A else A.map (·.add (k * 3))) (L.drop k) := fun hp => by
  rw [List.length_drop] at hp
  obtain ⟨hb, rfl, _⟩ := own_at h 0 (by omega)
  rw [if_neg (by omega)]
  refine ⟨_, rfl, fun j u hj => ?_⟩
  rw [add_add]
  have := h.cells (g := hb) rfl (k * 3 + j) u
  refine this ?_
  have hsplit : row L = row (L.take k) ++ row (L.drop k) := by rw [← row_append, List.take_append_drop]
  have hl : (row (L.take k)).length = k * 3 := by rw [row_length, List.length_take]; rw [Nat.min_eq_left hk]
  rw [hsplit, List.getElem?_append_right (by omega), hl, show k * 3 + j - k * 3 = j by omega]
  exact hj
theorem Src.below {w w' : World} {A : Option Addr} {L : List Rd} (h : Src w A L) (hb : Below w.heap.size w w') : Src w' A L := fun hp => by
  obtain ⟨ad, e, hc⟩ := h hp
  exact ⟨ad, e, fun j u hj => (hb.cell (World.block_lt_of_cell? w _ (hc j u hj))).trans (hc j u hj)⟩

theorem cnt_eq {L : List Rd} {b round k : Nat} (hk : k ≤ b) (hle : b ≤ L.length) (h : ∀ r ∈ L.take k, r.rd ≤ round) (hgo : ¬ ∃ h : k < b, (L[k]'(by omega)).rd ≤ round) : cnt L b round = k := by
  unfold cnt
  have e : L.take b = L.take k ++ (L.drop k).take (b - k) := by
    conv => lhs; rw [show b = k + (b - k) by omega, List.take_add]
  rw [e, List.takeWhile_append_of_pos (fun r hr => decide_eq_true (h r hr)), List.length_append, List.length_take]
  have : ((L.drop k).take (b - k)).takeWhile (fun r => decide (r.rd ≤ round)) = [] := by
    by_cases hkb : k < b
    · rw [List.drop_eq_getElem_cons (by omega), show b - k = (b - k - 1) + 1 by omega, List.take_succ_cons, List.takeWhile_cons_of_neg]
      simp only [decide_eq_true_eq]
      exact fun hr => hgo ⟨hkb, hr⟩
    · rw [show b - k = 0 by omega, List.take_zero]; rfl
  rw [this]
  simp
  omega

theorem told_end {B : Nat} {w w1 w2 : World} {g : Nat} {v v1 v2 : Value} {L : List Rd} {b k : Nat} (h : ReadsAt B w g v L b) (h1 : ReadsAt B w1 g v L b) (h2 : ReadsAt B w2 g v L b) (b1 : Below w.heap.size w w1) (b2 : Below w1.heap.size w1 w2)
    (o1 : w1.ownsRow w.heap.size 32 3 v1 (L.take k).length (row (L.take k))) (o2 : w2.ownsRow w1.heap.size 32 3 v2 (L.drop k).length (row (L.drop k))) (hk : k ≤ b) :
    ((w2.setCell ⟨g, 0, none⟩ v2).setCell ⟨g, 1, none⟩ (.int .i64 ((b : Int) - (k : Int)))).ownsRow w.heap.size 32 3 v1 (L.take k).length (row (L.take k)) ∧
    ReadsAt B ((w2.setCell ⟨g, 0, none⟩ v2).setCell ⟨g, 1, none⟩ (.int .i64 ((b : Int) - (k : Int)))) g v2 (L.drop k) (b - k) ∧ True ∧
    Below B w ((w2.setCell ⟨g, 0, none⟩ v2).setCell ⟨g, 1, none⟩ (.int .i64 ((b : Int) - (k : Int)))) ∧
    Aside w ((w2.setCell ⟨g, 0, none⟩ v2).setCell ⟨g, 1, none⟩ (.int .i64 ((b : Int) - (k : Int)))) := by
  have hd := heap_setCell_same w2 g 0 _ 43 v2 h2.head
  have o1' : w2.ownsRow w.heap.size 32 3 v1 (L.take k).length (row (L.take k)) := ownsRow_of_heap o1 fun j hj => b2.block j (o1.lt j hj).2
  have hle := h.le
  refine ⟨ownsRow_of_heap o1' fun j hj => ?_, ⟨h.base, ?_, ?_, by rw [List.length_drop]; omega, fun r hr => h.fits r (List.mem_of_mem_drop hr)⟩, trivial, ?_, ?_⟩
  · have hne : j ≠ g := fun e => own_head_ne o1' h2.head (by rw [hj, e])
    rw [heap_setCell_other _ _ _ _ hne, heap_setCell_other _ _ _ _ hne]
  · rw [heap_setCell_same _ _ _ _ _ _ hd, show ((b - k : Nat) : Int) = (b : Int) - (k : Int) by omega]; rfl
  · refine ownsRow_of_heap (w := w2) ?_ fun j hj => ?_
    · refine ⟨o2.1, ?_⟩
      rcases o2.2 with x | ⟨g', cap, cur, e, h3, h4, h5⟩
      · exact .inl x
      · exact .inr ⟨g', cap, cur, e, Nat.le_trans (Nat.le_trans h.ltB b1.size) h3, h4, h5⟩
    · have hne : j ≠ g := fun e => own_head_ne o2 h2.head (by rw [hj, e])
      rw [heap_setCell_other _ _ _ _ hne, heap_setCell_other _ _ _ _ hne]
  · exact (((b1.mono h.ltB).trans (b2.mono h1.ltB)).setCell (by exact h.base) _).setCell (by exact h.base) _
  · exact (((Aside.of_below b1).trans (Aside.of_below b2)).trans (Aside.setCell h2.head _)).trans (Aside.setCell hd _)

set_option maxRecDepth 100000 in
set_option maxHeartbeats 1000000 in
theorem told_any (B g : Nat) (v : Value) (L : List Rd) (b round : Nat) (w : World) (hat : ReadsAt B w g v L b) (hn : L.length ≤ 1000) (_hr : round ≤ 18446744073709551615) :
    Calls Try.prog 11 #[.pointer (some ⟨g, 0, none⟩), .int .u64 (round : Int)] w fun e w' => ∃ v1 v2 H, e = .returned v1 ∧ w'.ownsRow w.heap.size 32 3 v1 (L.take (cnt L b round)).length (row (L.take (cnt L b round))) ∧
      ReadsAt B w' g v2 (L.drop (cnt L b round)) (b - cnt L b round) ∧ (∀ h, v1.ownBlock = some h → h < H) ∧ (∀ h, v2.ownBlock = some h → H ≤ h) ∧ Below B w w' ∧ Aside w w' ∧ w.heap.size ≤ H ∧ ∀ i, i < w.heap.size → i ≠ g → w'.heap[i]? = w.heap[i]? := by
  obtain ⟨A, cap, rfl, hcap, hcs⟩ := own_form hat.own
  have hc := hat.cell0
  have hc1 := hat.cell1
  have hle := hat.le
  have hlt := lt_of_block hat.head
  go_enter Try.func11, Try.ntmps11
  go_wp2_with fail
  go_loop [5] (fun i => ∃ k : Nat, k ≤ b ∧ i = .int .i64 k ∧ Hid (∀ r ∈ L.take k, r.rd ≤ round)) (fun i => b - (intOf i).toNat)
  case atStart => exact ⟨0, Nat.zero_le _, rfl, Lib.hid (fun r hr => by simp at hr)⟩
  case round =>
    obtain ⟨k, hk, rfl, HK⟩ := hrel
    by_cases hgo : ∃ h : k < b, (L[k]'(by omega)).rd ≤ round
    · obtain ⟨hkb, hrd⟩ := hgo
      obtain ⟨hb, rfl, _, _, c0, c1, c2⟩ := hcs k (by omega)
      obtain ⟨r, hr⟩ : ∃ r, L[k] = r := ⟨_, rfl⟩
      rw [hr] at c2 hrd
      have HR := Lib.hid hr
      clear hr c0 c1
      go_wp2_with fail
      go_round
      case rel => exact ⟨k + 1, by omega, by go_num, Lib.hid (fun x hx => by
        rw [List.take_succ_eq_append_getElem (by omega)] at hx
        rcases List.mem_append.1 hx with hx | hx
        · exact HK.out x hx
        · rw [List.mem_singleton.1 hx, HR.out]; exact hrd)⟩
      case measure => simp [intOf]; omega
    · have HC : Hid (cnt L b round = k) := Lib.hid (cnt_eq hk hle HK.out hgo)
      have hs1 := src_take hat.own k
      have hs2 := src_drop hat.own k (by omega) hcap
      have hkl : ((L.take k).length : Nat) = k := by rw [List.length_take]; omega
      obtain ⟨X, hX⟩ : ∃ X, (if cap = k then A else A.map (·.add (k * 3))) = X := ⟨_, rfl⟩
      rw [hX] at hs2
      have hsl := slice_from A L.length cap k X (by omega) hX
      have HS2 := Lib.hid hs2
      have HKL := Lib.hid hkl
      clear hX hs2 hkl
      by_cases hkb : k < b
      · obtain ⟨hb, rfl, _, _, c0, c1, c2⟩ := hcs k (by omega)
        have hrd : ¬ (L[k]'(by omega)).rd ≤ round := fun h => hgo ⟨hkb, h⟩
        obtain ⟨r, hr⟩ : ∃ r, (L[k]'(by omega)) = r := ⟨_, rfl⟩
        rw [hr] at c2 hrd
        clear hr c0 c1 hgo
        go_wp2_with fail
        refine (clone_at _ k cap (L.take k) _ hs1 HKL.out.symm (by omega)).mono ?_
        rintro e w1 ⟨v1, rfl, own1, hb1⟩
        have R1 := hat.below hb1
        have hc' := R1.cell0
        have hc1' := R1.cell1
        have HS3 := Lib.hid (HS2.out.below hb1)
        have HO1 := Lib.hid own1
        have HR1 := Lib.hid R1
        clear own1 R1 hs1
        go_wp2_with fail
        refine (clone_at _ (L.length - k) _ (L.drop k) _ HS3.out (by rw [List.length_drop]) (by omega)).mono ?_
        rintro e w2 ⟨v2, rfl, own2, hb2⟩
        obtain ⟨A2, cap2, rfl, _, _⟩ := own_form own2
        have R2 := HR1.out.below hb2
        have hc2' := R2.cell0
        have hc2'' := R2.cell1
        have hf2 := R2.frozen 0
        have hf2' := R2.frozen 1
        have HO2 := Lib.hid own2
        have HR2 := Lib.hid R2
        clear own2 R2
        go_wp2_with fail
        go_ret
        obtain ⟨e1, e2, e3, e4, e5⟩ := told_end hat HR1.out HR2.out hb1 hb2 HO1.out HO2.out hk
        rw [HC.out]
        have o2 := HO2.out
        simp only [List.length_drop] at e1 e2 e4 e5 o2
        exact ⟨v1, _, w1.heap.size, rfl, e1, e2, fun h hh => (HO1.out.lt h hh).2, fun h hh => (o2.lt h hh).1, e4, e5, hb1.size, fun i hi hne => by rw [heap_setCell_other _ _ _ _ hne, heap_setCell_other _ _ _ _ hne, hb2.block i (Nat.lt_of_lt_of_le hi hb1.size)]; exact hb1.block i hi⟩

      · clear hgo
        go_wp2_with fail
        refine (clone_at _ k cap (L.take k) _ hs1 HKL.out.symm (by omega)).mono ?_
        rintro e w1 ⟨v1, rfl, own1, hb1⟩
        have R1 := hat.below hb1
        have hc' := R1.cell0
        have hc1' := R1.cell1
        have HS3 := Lib.hid (HS2.out.below hb1)
        have HO1 := Lib.hid own1
        have HR1 := Lib.hid R1
        clear own1 R1 hs1
        go_wp2_with fail
        refine (clone_at _ (L.length - k) _ (L.drop k) _ HS3.out (by rw [List.length_drop]) (by omega)).mono ?_
        rintro e w2 ⟨v2, rfl, own2, hb2⟩
        obtain ⟨A2, cap2, rfl, _, _⟩ := own_form own2
        have R2 := HR1.out.below hb2
        have hc2' := R2.cell0
        have hc2'' := R2.cell1
        have hf2 := R2.frozen 0
        have hf2' := R2.frozen 1
        have HO2 := Lib.hid own2
        have HR2 := Lib.hid R2
        clear own2 R2
        go_wp2_with fail
        go_ret
        obtain ⟨e1, e2, e3, e4, e5⟩ := told_end hat HR1.out HR2.out hb1 hb2 HO1.out HO2.out hk
        rw [HC.out]
        have o2 := HO2.out
        simp only [List.length_drop] at e1 e2 e4 e5 o2
        exact ⟨v1, _, w1.heap.size, rfl, e1, e2, fun h hh => (HO1.out.lt h hh).2, fun h hh => (o2.lt h hh).1, e4, e5, hb1.size, fun i hi hne => by rw [heap_setCell_other _ _ _ _ hne, heap_setCell_other _ _ _ _ hne, hb2.block i (Nat.lt_of_lt_of_le hi hb1.size)]; exact hb1.block i hi⟩


theorem told_nil (u : Int) (w : World) : Calls Try.prog 11 #[.pointer none, .int .u64 u] w fun e w' => e = .returned (.slice none 0 0) ∧ w' = w := by
  go_enter Try.func11, Try.ntmps11
  go_wp2
  go_ret
  exact ⟨rfl, rfl⟩
theorem begin_nil (x y : Int) (w : World) : Calls Try.prog 10 #[.pointer none, .int .u64 x, .int .u64 y] w fun e w' => e = .returned (.int .i64 0) ∧ w' = w := by
  go_enter Try.func10, Try.ntmps10
  go_wp2
  go_ret
  exact ⟨rfl, rfl⟩
theorem drop_nil (w : World) : Calls Try.prog 12 #[.pointer none] w fun e w' => e = .returned (.slice none 0 0) ∧ w' = w := by
  go_enter Try.func12, Try.ntmps12
  go_wp2
  go_ret
  exact ⟨rfl, rfl⟩

theorem info25 : (Try.prog.info? 25).map (fun i => (i.zero, i.size, i.bytes)) = some (some (.int .u64 0), 1, 8) := by kernel_rfl
/-- The Ids' cells. -/
def idsOf (L : List Rd) : List Value := L.map fun r => .int .u64 (r.id : Int)

set_option maxRecDepth 100000 in
set_option maxHeartbeats 1000000 in
/-- Drop: all go, their Ids are told. -/
theorem drop_any (B g : Nat) (v : Value) (L : List Rd) (b : Nat) (w : World) (hat : ReadsAt B w g v L b) (hn : L.length ≤ 1000) :
    Calls Try.prog 12 #[.pointer (some ⟨g, 0, none⟩)] w fun e w' => ∃ v1, e = .returned v1 ∧ w'.ownsRow w.heap.size 25 1 v1 L.length (idsOf L) ∧ ReadsAt B w' g (.slice none 0 0) [] 0 ∧ Below B w w' ∧ Aside w w' ∧ (∀ i, i < w.heap.size → i ≠ g → w'.heap[i]? = w.heap[i]?) := by
  obtain ⟨A, cap, rfl, hcap, hcs⟩ := own_form hat.own
  obtain ⟨i0, hi, hz0, hz1, hz2⟩ := info_parts info25
  have hc := hat.cell0
  have hlt := lt_of_block hat.head
  go_enter Try.func12, Try.ntmps12
  go_wp2_with fail
  go_loopw [3, 13] (fun x i wr => ∃ k : Nat, k ≤ L.length ∧ i = .int .i64 k ∧ Hid (wr.ownsRow w.heap.size 25 1 x k (idsOf (L.take k))) ∧ Below w.heap.size w wr) (fun _ i _ => L.length - (intOf i).toNat)
  case atStart => exact ⟨0, Nat.zero_le _, rfl, Lib.hid (World.ownsRow_nil _ _ _ _), Below.refl _ _⟩
  case round =>
    obtain ⟨k, hk, rfl, HO, hbw⟩ := hrel
    by_cases hkl : k < L.length
    · obtain ⟨hb, rfl, _, hbl, c0, c1, c2⟩ := hcs k hkl
      obtain ⟨r, hr⟩ : ∃ r, L[k] = r := ⟨_, rfl⟩
      rw [hr] at c0 c1 c2
      have HR := Lib.hid hr
      have c0' := (hbw.cell (p := ⟨hb, k * 3, none⟩) hbl).trans c0
      have c1' := (hbw.cell (p := ⟨hb, k * 3 + 1, none⟩) hbl).trans c1
      have c2' := (hbw.cell (p := ⟨hb, k * 3 + 2, none⟩) hbl).trans c2
      clear hr c0 c1 c2 hc
      have hsz := hbw.size
      have hnw := World.news_of_block (cs := #[.int .u64 (r.id : Int)]) (heap_alloc2_new wr (.cells #[.int .u64 (r.id : Int), .int .u64 (r.ix : Int), .int .u64 (r.rd : Int)] 32) (.cells #[.int .u64 (r.id : Int)] 25))
      have HN := Lib.hid hnw
      clear hnw
      go_wp2_with (at_builtin; refine wpList_append_own _ rfl (.tmp 17) (.tmp 20) 33 rfl w.heap.size 25 i0 (.int .u64 0) 1 8 Try.underlying33 hi hz0 hz1 hz2 rfl (by decide) _ k (idsOf (L.take k)) rfl ((HO.out.alloc _).alloc _) ⟨wr.heap.size + 1, 0, none⟩ 1 1 [.int .u64 (r.id : Int)] rfl rfl HN.out (by simp [Value.oneCell']) (by unfold maxLen; omega) (by omega) (by simp; omega) ?_; intro v' w2 hown2 hgrow _)
      go_roundw
      case rel =>
        refine ⟨k + 1, by omega, by go_num, Lib.hid ?_, (((Below.refl w.heap.size wr).alloc hsz _).alloc (by simp; omega) _ |> fun x => hbw.trans x).grown hgrow (by simp; omega) (fun j hj => (HO.out.lt j hj).1)⟩
        have e : idsOf (L.take (k + 1)) = idsOf (L.take k) ++ [.int .u64 (r.id : Int)] := by
          unfold idsOf
          rw [List.take_succ_eq_append_getElem hkl, List.map_append, HR.out]; rfl
        rw [e]; exact hown2
      case measure => simp [intOf]; omega
    · obtain rfl : k = L.length := by omega
      have hw1 := hat.below hbw
      have hc' := hw1.cell0
      have hc1' := hw1.cell1
      have hf0 := hw1.frozen 0
      have hf1 := hw1.frozen 1
      have HW := Lib.hid hw1
      clear hc hw1
      go_wp2_with fail
      go_ret
      have hd := heap_setCell_same wr g 0 _ 43 (.slice none 0 0) HW.out.head
      have hO := HO.out
      rw [List.take_length] at hO
      refine ⟨_, rfl, ownsRow_of_heap hO fun j hj => ?_, ⟨hat.base, by rw [heap_setCell_same _ _ _ _ _ _ hd]; rfl, World.ownsRow_nil _ _ _ _, Nat.le_refl _, fun r hr => by cases hr⟩, (((hbw.mono hat.ltB)).setCell (by exact hat.base) _).setCell (by exact hat.base) _, ((Aside.of_below hbw).trans (Aside.setCell HW.out.head _)).trans (Aside.setCell hd _), fun i hi hne => by rw [heap_setCell_other _ _ _ _ hne, heap_setCell_other _ _ _ _ hne]; exact hbw.block i hi⟩
      have hne : j ≠ g := fun e => by have := (hO.lt j hj).1; omega
      rw [heap_setCell_other _ _ _ _ hne, heap_setCell_other _ _ _ _ hne]
end Go.Proofs.Ytlenmhclnmcljaa
